/- Ranges over a map; the three kinds of keys. -/
import Derived.Test.YtceljebpcfojeaaMap
namespace Go.Proofs.Ytceljebpcfojeaa
open Go.RowKit Go.Maps
open Go.WideMaps (KeyLaw)
set_option linter.unusedVariables false

theorem Try.klaw63 : KeyLaw Try.prog 63 := deep_law_laid laidOut (m := 2) (by omega) (of_decide_eq_true (by kernel_rfl)) (by kernel_rfl) (by kernel_rfl)
theorem Try.klaw40 : KeyLaw Try.prog 40 := deep_law_laid laidOut (m := 2) (by omega) (of_decide_eq_true (by kernel_rfl)) (by kernel_rfl) (by kernel_rfl)
theorem Try.size_types : Try.prog.types.size + 1 = 82 := by kernel_rfl
theorem Try.key63 : Try.prog.keyType 63 = true := by kernel_rfl
theorem Try.key40 : Try.prog.keyType 40 = true := by kernel_rfl
theorem Try.cells63 : Try.prog.cellsOf 63 = 1 := by kernel_rfl
theorem Try.cells40 : Try.prog.cellsOf 40 = 2 := by kernel_rfl
theorem Try.cells3 : Try.prog.cellsOf 3 = 1 := by kernel_rfl
theorem keyLits3 (d : Nat) (n : Int) (h : (Lit.int .i64 n).wf = true) : Try.prog.keyLits (d + 1) 3 [.int .i64 n] = some [.int .i64 n] := by
  unfold Program.keyLits
  rw [Try.underlying3]
  simp [h]
theorem key_okU (n : Int) (h : okI n) : keyOf Try.prog 63 (.agg #[.int .i64 n]) = some (.string (keyBytes [.int .i64 n])) := by
  unfold keyOf
  rw [Try.underlying63, Try.size_types]
  simp only [Try.key63, Bool.true_and]
  have hf : (Value.agg #[.int .i64 n]).formed Try.prog 63 = true := by
    unfold Value.formed
    rw [Try.underlying63, Try.cells63]
    rfl
  rw [hf, if_pos rfl]
  unfold Program.keyLits
  rw [Try.underlying63]
  simp only [Value.cells]
  rw [Try.cells63]
  simp [keyLits3, show (Lit.int .i64 n).wf = true from h, Try.cells3]
theorem key_okP (n m : Int) (h : okI n) (k : okI m) : keyOf Try.prog 40 (.agg #[.int .i64 n, .int .i64 m]) = some (.string (keyBytes [.int .i64 n, .int .i64 m])) := by
  unfold keyOf
  rw [Try.underlying40, Try.size_types]
  simp only [Try.key40, Bool.true_and]
  have hf : (Value.agg #[.int .i64 n, .int .i64 m]).formed Try.prog 40 = true := by
    unfold Value.formed
    rw [Try.underlying40, Try.cells40]
    rfl
  rw [hf, if_pos rfl]
  unfold Program.keyLits
  rw [Try.underlying40]
  simp only [Value.cells]
  rw [Try.cells40]
  simp [keyLits3, show (Lit.int .i64 n).wf = true from h, show (Lit.int .i64 m).wf = true from k, Try.cells3]

def kU : KK Int where
  T := 60
  K := 63
  law := Keyed.of_law Try.klaw63
  und := Try.underlying60
  kv n := .agg #[.int .i64 n]
  kl n := .string (keyBytes [.int .i64 n])
  ok := okI
  kv_inj a b h := by simpa using h
  key_ok := key_okU
  kl_key a := trivial
def kP : KK (Int × Int) where
  T := 56
  K := 40
  law := Keyed.of_law Try.klaw40
  und := Try.underlying56
  kv a := .agg #[.int .i64 a.1, .int .i64 a.2]
  kl a := .string (keyBytes [.int .i64 a.1, .int .i64 a.2])
  ok a := okI a.1 ∧ okI a.2
  kv_inj a b h := by
    have : a.1 = b.1 ∧ a.2 = b.2 := by simpa using h
    exact Prod.ext this.1 this.2
  key_ok a h := key_okP a.1 a.2 h.1 h.2
  kl_key a := trivial
def kI : KK Int where
  T := 29
  K := 3
  law := int_keyed Try.underlying3
  und := Try.underlying29
  kv n := .int .i64 n
  kl n := .int .i64 n
  ok := okI
  kv_inj a b h := by simpa using h
  key_ok a h := keyOf_int_mk Try.underlying3 h
  kl_key a := trivial

section
variable {κ : Type}
/-- a range over a map under way: 'left' says of which keys the turn is still to come -/
def RangeAt (kk : KK κ) (w : World) (b r : Nat) (l : List (κ × Int)) (left : κ → Bool) (cnt : Nat) : Prop :=
  ∃ (D : DataW Unit) (lf : Lit → Bool), w.ranges Try.prog kk.K Ri b r l.length D lf cnt ∧ MRel kk D l ∧ (∀ z, lf z = true → Maps.has D z = true) ∧ ∀ x ∈ l, lf (kk.kl x.1) = left x.1
variable {kk : KK κ} {w : World} {b r : Nat} {l : List (κ × Int)} {left : κ → Bool} {cnt : Nat}

theorem RangeAt.alloc (h : RangeAt kk w b r l left cnt) (o : Obj) : RangeAt kk (w.alloc o) b r l left cnt := by
  obtain ⟨D, lf, h1, h2⟩ := h
  exact ⟨D, lf, h1.alloc o, h2⟩
theorem range_start (h : MapAt kk w b l) : ∃ w', (Instr.range kk.T (.map (some b))).run Try.prog w = .ok (.pointer (some ⟨w.heap.size, 0, none⟩)) w' ∧ RangeAt kk w' b w.heap.size l (fun _ => true) l.length ∧ Below w.heap.size w w' ∧ w'.heap.size = w.heap.size + 1 := by
  obtain ⟨D, ho, hr⟩ := h
  obtain ⟨w', hrun, h1, h2, h3⟩ := ho.range kk.law kk.und
  rw [hr.size] at h1
  exact ⟨w', hrun, ⟨D, _, h1, hr, fun z h => h, fun x hx => (hr.has _).2 ⟨x, hx, rfl⟩⟩, ⟨h2.os, h2.tape, h2.output, h2.size, fun k hk => h2.block k hk (by simp)⟩, h3⟩
end
section
variable {κ : Type} [DecidableEq κ] {kk : KK κ} {w : World} {b r : Nat} {l : List (κ × Int)} {left : κ → Bool} {cnt : Nat}
variable {ops : Array Oper} {rest : List Oper} {o : Oper} {a : Act} {Q : Exit → Act → World → Prop}
theorem wpList_next_map (hg : o.guard = none) (it : Operand) (hop : o.op = Op.next it false) (hit : a.eval it = .pointer (some ⟨r, 0, none⟩)) (h : RangeAt kk w b r l left cnt)
    (hDone : (∀ x ∈ l, left x.1 = false) → wpList Try.prog ops Q rest (a.put o.dst (.tuple #[.bool false])) w)
    (hMore : ∀ (x : κ × Int) (w' : World) (cnt' : Nat), x ∈ l → left x.1 = true → RangeAt kk w' b r l (fun n => left n && !decide (n = x.1)) cnt' → cnt' < cnt → w.grownBy w' (some r) → w'.heap.size = w.heap.size →
      (Instr.entry (.pointer (some ⟨r, 0, none⟩))).run Try.prog w' = .ok (.tuple #[kk.kv x.1, .int .i64 x.2]) w' → wpList Try.prog ops Q rest (a.put o.dst (.tuple #[.bool true, kk.kv x.1, .int .i64 x.2])) w') :
    wpList Try.prog ops Q (o :: rest) a w := by
  refine wpList_plain hg fun K' hK' => ?_
  obtain ⟨D, lf, h1, hr, h2, h3⟩ := h
  unfold Oper.wp
  rcases h1.next kk.law o.type with ⟨h0, hl, hrun⟩ | ⟨key, v, kz, y, w', cnt', hkey, hlk, hv, hat, hrun, hrg, hlt, hgr, hsz, hen⟩
  · simp [execOp, hop, hit, hrun, Result.andThen]
    exact hK' _ _ (hDone fun x hx => by rw [← h3 x hx]; exact hl _)
  · obtain ⟨x, hx, rfl⟩ := (hr.has kz).1 (h2 _ hlk)
    have ek : key = kk.kv x.1 := kk.law.inj hkey (kk.key_ok x.1 (hr.low x hx))
    subst ek
    have hy := hat (datI 0)
    rw [hr.val x hx] at hy
    have ev : v = .int .i64 x.2 := Ri_inv (ps := y.2) (by rw [hv, hy])
    subst ev
    simp [execOp, hop, hit, hrun, Result.andThen]
    refine hK' _ _ (hMore x w' cnt' hx (by rw [← h3 x hx]; exact hlk) ⟨D, _, hrg, hr, fun z hz => h2 z (by simp at hz; exact hz.1), fun z hz => ?_⟩ hlt hgr hsz hen)
    rw [h3 z hz]
    congr 1
    by_cases e : z.1 = x.1
    · rw [e, WideAt.sameKey_self (kk.kl_key _)]
      simp
    · rw [Maps.sameKey_ne (fun e' => e (kk.inj (hr.low z hz) (hr.low x hx) e'))]
      simp [e]
end
section
variable {κ : Type} {kk : KK κ} {w : World} {b : Nat} {l : List (κ × Int)}
variable {ops : Array Oper} {rest : List Oper} {o : Oper} {a : Act} {Q : Exit → Act → World → Prop}
theorem wpList_range_map (hg : o.guard = none) (m : Operand) (hop : o.op = Op.range kk.T m) (hm : a.eval m = .map (some b)) (h : MapAt kk w b l)
    (hK : ∀ w', RangeAt kk w' b w.heap.size l (fun _ => true) l.length → Below w.heap.size w w' → w'.heap.size = w.heap.size + 1 → wpList Try.prog ops Q rest (a.put o.dst (.pointer (some ⟨w.heap.size, 0, none⟩))) w') :
    wpList Try.prog ops Q (o :: rest) a w := by
  refine wpList_plain hg fun K' hK' => ?_
  obtain ⟨w', hrun, r1, r2, r3⟩ := range_start h
  unfold Oper.wp
  simp [execOp, hop, hm, hrun, Result.andThen]
  exact hK' _ _ (hK w' r1 r2 r3)
theorem wpList_lookup_eq {P : Program} (hg : o.guard = none) (m x : Operand) (t : TypeId) (c : Bool) (hop : o.op = Op.lookup t m x c)
    (b : Nat) (key v : Value) (hm : a.eval m = .map (some b)) (hx : a.eval x = key) (hrun : (Instr.lookup t (.map (some b)) key c).run P w = .ok v w) (hK : wpList P ops Q rest (a.put o.dst v) w) : wpList P ops Q (o :: rest) a w := by
  refine wpList_plain hg fun K' hK' => ?_
  unfold Oper.wp
  simp [execOp, hop, hm, hx, hrun, Result.andThen]
  exact hK' _ _ hK
end
end Go.Proofs.Ytceljebpcfojeaa

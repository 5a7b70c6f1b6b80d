/- The pages' map: keys that are structs of one int; what is known of it in plain words. -/
import Derived.Test.YtjpegkginmoekaaMem
import Derived.Test.YtjpegkginmoekaaRows
import Derived.DeepKeys4
import Derived.Maps.Own
import Derived.Maps.OwnOps
import Derived.Maps.OwnSet
import Derived.Maps.Views
import Derived.Maps.RangeWalk
import Derived.RegionTactic
import Derived.OwnWalk
namespace Go.Proofs.Ytjpegkginmoekaa
open Go.RowKit Go.Maps
set_option linter.unusedVariables false

theorem laidOut : laidOutB Try.prog = true := by kernel_rfl
theorem Try.law87 : Keyed Try.prog 87 := Keyed.of_law (deep_law_laid laidOut (m := 2) (by omega) (of_decide_eq_true (by kernel_rfl)) (by kernel_rfl) (by kernel_rfl))
theorem Try.size_types : Try.prog.types.size + 1 = 115 := by kernel_rfl
theorem Try.key87 : Try.prog.keyType 87 = true := by kernel_rfl
theorem Try.cells87 : Try.prog.cellsOf 87 = 1 := by kernel_rfl
theorem Try.cells3 : Try.prog.cellsOf 3 = 1 := by kernel_rfl

def keyV (n : Int) : Value := .agg #[.int .i64 n]
def kl (n : Int) : Lit := .string (keyBytes [.int .i64 n])
theorem keyLits3 (d : Nat) (n : Int) (h : (Lit.int .i64 n).wf = true) : Try.prog.keyLits (d + 1) 3 [.int .i64 n] = some [.int .i64 n] := by
  unfold Program.keyLits
  rw [Try.underlying3]
  simp [h]
theorem key_ok (n : Int) (h : (Lit.int .i64 n).wf = true) : keyOf Try.prog 87 (keyV n) = some (kl n) := by
  unfold keyOf keyV kl
  rw [Try.underlying87, Try.size_types]
  simp only [Try.key87, Bool.true_and]
  have hf : (Value.agg #[.int .i64 n]).formed Try.prog 87 = true := by
    unfold Value.formed
    rw [Try.underlying87, Try.cells87]
    rfl
  rw [hf, if_pos rfl]
  unfold Program.keyLits
  rw [Try.underlying87]
  simp only [Value.cells]
  rw [Try.cells87]
  simp [keyLits3, h, Try.cells3]

/-- a page that is not empty -/
structure Pg where
  n : Int
  k : Int
  s : ByteArray

def conV (k : Int) (s : ByteArray) : Value := .agg #[.int .i64 k, .string s]
def dat (k : Int) (s : ByteArray) : DataW Unit := .agg [.lit (.int .i64 k), .lit (.string s.data.toList)]
def Rl (l : List Value) : Option (DataW Unit × List MemPlace) := match l with
  | [.int .i64 k, .string s] => some (dat k s, [])
  | _ => none
def R (v : Value) : Option (DataW Unit × List MemPlace) := match v with
  | .agg cs => Rl cs.toList
  | _ => none
theorem R_mk (k : Int) (s : ByteArray) : R (conV k s) = some (dat k s, []) := rfl
theorem Rl_inv {l : List Value} {k : Int} {s : ByteArray} {ps : List MemPlace} (h : Rl l = some (dat k s, ps)) : l = [.int .i64 k, .string s] := by
  unfold Rl at h
  split at h
  · rename_i k' s'
    simp only [dat, Option.some.injEq, Prod.mk.injEq, DataW.agg.injEq, List.cons.injEq, DataW.lit.injEq, Lit.int.injEq, Lit.string.injEq, true_and, and_true] at h
    obtain ⟨⟨rfl, h2⟩, _⟩ := h
    have : s' = s := by
      cases s' with | mk a => cases s with | mk b => simp only [ByteArray.mk.injEq]; exact Array.toList_inj.1 h2
    rw [this]
  · cases h
theorem R_inv {v : Value} {k : Int} {s : ByteArray} {ps : List MemPlace} (h : R v = some (dat k s, ps)) : v = conV k s := by
  unfold R at h
  split at h
  · rename_i cs
    have := Rl_inv h
    obtain ⟨l⟩ := cs
    rw [show l = _ from this]
    rfl
  · cases h
theorem zero93 (w : World) : (zeroValue 93).run Try.prog w = .ok (conV 0 ⟨#[]⟩) w := by kernel_rfl

def inR (n : Int) : Prop := 0 ≤ n ∧ n ≤ 4096
theorem inR.wf {n : Int} (h : inR n) : (Lit.int .i64 n).wf = true := by
  obtain ⟨h1, h2⟩ := h
  exact WalkArith.wf_i64 (by omega)
theorem kl_inj {a b : Int} (ha : inR a) (hb : inR b) (h : kl a = kl b) : a = b := by
  have h1 := key_ok a ha.wf
  have h2 := key_ok b hb.wf
  rw [h] at h1
  have := Try.law87.inj h1 h2
  simpa [keyV] using this
theorem kl_key (n : Int) : WideAt.IsKeyLit (kl n) := trivial

/-- the map's datum reads as the list l -/
structure MRel (D : DataW Unit) (l : List Pg) : Prop where
  tidy : Tidy D
  has : ∀ z, Maps.has D z = true ↔ ∃ x ∈ l, kl x.n = z
  val : ∀ x ∈ l, ∀ z, D.atKey (kl x.n) z = dat x.k x.s
  size : Maps.size D = l.length
  apart : l.Pairwise (fun x y => x.n ≠ y.n)
  low : ∀ x ∈ l, inR x.n

def MapAt (w : World) (b : Nat) (l : List Pg) : Prop := ∃ D : DataW Unit, w.ownsMap Try.prog 87 R b l.length D ∧ MRel D l

theorem owns_size {w : World} {b n : Nat} {D : DataW Unit} (h : w.ownsMap Try.prog 87 R b n D) : w.ownsMap Try.prog 87 R b (Maps.size D) D := by
  obtain ⟨es, clock, hb, F, hs, hD⟩ := h
  refine ⟨es, clock, hb, F, ?_, hD⟩
  rw [hD]
  simp [Maps.size, length_sorted]

theorem map_new (w : World) : MapAt (w.alloc (.map #[] 0)) w.heap.size [] :=
  ⟨.map [], World.ownsMap_made w _ _ _, ⟨tidy_empty, fun z => ⟨fun h => (by cases h), fun ⟨x, hx, _⟩ => (by cases hx)⟩, fun x hx => (by cases hx), rfl, List.Pairwise.nil, fun x hx => (by cases hx)⟩⟩

theorem MRel.no {D : DataW Unit} {l : List Pg} (h : MRel D l) {n : Int} (hn : inR n) (hm : ∀ x ∈ l, x.n ≠ n) : Maps.has D (kl n) = false := by
  rw [← Bool.not_eq_true, h.has]
  rintro ⟨x, hx, e⟩
  exact hm x hx (kl_inj (h.low x hx) hn e)

section
variable {w : World} {b : Nat} {l : List Pg}
theorem MapAt.hit (h : MapAt w b l) {x : Pg} (hx : x ∈ l) : (Instr.lookup 80 (.map (some b)) (keyV x.n) false).run Try.prog w = .ok (conV x.k x.s) w := by
  obtain ⟨D, ho, hr⟩ := h
  obtain ⟨v, ps, hrun, hv⟩ := ho.lookup (zd := dat 0 ⟨#[]⟩) Try.law87 Try.underlying80 (zero93 w) (R_mk 0 ⟨#[]⟩) (key_ok x.n (hr.low x hx).wf)
  rw [hr.val x hx] at hv
  rw [hrun, R_inv hv]
theorem MapAt.miss (h : MapAt w b l) {n : Int} (hn : inR n) (hm : ∀ x ∈ l, x.n ≠ n) : (Instr.lookup 80 (.map (some b)) (keyV n) false).run Try.prog w = .ok (conV 0 ⟨#[]⟩) w := by
  obtain ⟨D, ho, hr⟩ := h
  obtain ⟨v, ps, hrun, hv⟩ := ho.lookup (zd := dat 0 ⟨#[]⟩) Try.law87 Try.underlying80 (zero93 w) (R_mk 0 ⟨#[]⟩) (key_ok n hn.wf)
  rw [atKey_of_not_has (hr.no hn hm)] at hv
  rw [hrun, R_inv hv]
theorem MapAt.len (h : MapAt w b l) (ty : TypeId) : (Builtin.len_ #[80] ty #[.map (some b)]).run Try.prog w = .ok (.int .i64 l.length) w := by
  obtain ⟨D, ho, hr⟩ := h
  rw [ho.len Try.underlying80, hr.size]
theorem MapAt.put (h : MapAt w b l) {n : Int} (hn : inR n) (hm : ∀ x ∈ l, x.n ≠ n) (hl : l.length < maxLen) (k : Int) (s : ByteArray) :
    ∃ w', (Instr.mapUpdate 80 (.map (some b)) (keyV n) (conV k s)).run Try.prog w = .ok () w' ∧ MapAt w' b (l ++ [⟨n, k, s⟩]) ∧ w.grownBy w' (some b) := by
  obtain ⟨D, ho, hr⟩ := h
  obtain ⟨w', hrun, ho', hg⟩ := ho.update Try.law87 Try.underlying80 hl (key_ok n hn.wf) (R_mk k s)
  have hno := hr.no hn hm
  refine ⟨w', hrun, ⟨D.put (kl n) (dat k s), by simpa using ho', ?_⟩, hg⟩
  refine ⟨hr.tidy.put (kl_key n) _, fun z => ?_, fun x hx z => ?_, ?_, ?_, ?_⟩
  · by_cases hz : z = kl n
    · subst hz
      rw [has_put_same hr.tidy.isMap (kl_key n)]
      exact ⟨fun _ => ⟨⟨n, k, s⟩, by simp, rfl⟩, fun _ => rfl⟩
    · rw [has_put_other hz, hr.has z]
      constructor
      · rintro ⟨x, hx, e⟩
        exact ⟨x, by simp [hx], e⟩
      · rintro ⟨x, hx, e⟩
        rcases List.mem_append.1 hx with hx | hx
        · exact ⟨x, hx, e⟩
        · rw [List.mem_singleton.1 hx] at e
          exact absurd e.symm hz
  · rcases List.mem_append.1 hx with hx | hx
    · rw [atKey_put_other (fun e => hm x hx (kl_inj (hr.low x hx) hn e)), hr.val x hx]
    · rw [List.mem_singleton.1 hx]
      exact atKey_put_same hr.tidy.isMap (kl_key n) _ _
  · rw [size_put hr.tidy, hno, hr.size]
    simp
  · rw [List.pairwise_append]
    exact ⟨hr.apart, List.pairwise_singleton _ _, fun x hx y hy => by rw [List.mem_singleton.1 hy]; exact hm x hx⟩
  · intro x hx
    rcases List.mem_append.1 hx with hx | hx
    · exact hr.low x hx
    · rw [List.mem_singleton.1 hx]
      exact hn
theorem del_length (h : l.Pairwise (fun x y => x.n ≠ y.n)) (n : Int) : (l.filter fun x => x.n != n).length + (if ∃ x ∈ l, x.n = n then 1 else 0) = l.length := by
  induction l with
  | nil => simp
  | cons x l ih =>
    obtain ⟨h1, h2⟩ := List.pairwise_cons.1 h
    have := ih h2
    by_cases hx : x.n = n
    · have hno : ¬ ∃ y ∈ l, y.n = n := fun ⟨y, hy, e⟩ => h1 y hy (by rw [hx, e])
      rw [if_neg hno] at this
      rw [if_pos ⟨x, by simp, hx⟩, List.filter_cons_of_neg (by simpa using hx)]
      simp only [List.length_cons]
      omega
    · rw [List.filter_cons_of_pos (by simpa using hx)]
      have e : (∃ y ∈ x :: l, y.n = n) ↔ ∃ y ∈ l, y.n = n := by simp [hx]
      simp only [e, List.length_cons]
      omega
theorem MapAt.del (h : MapAt w b l) {n : Int} (hn : inR n) (ty : TypeId) :
    ∃ w', (Builtin.delete_ #[80, 87] ty #[.map (some b), keyV n]).run Try.prog w = .ok (.tuple #[]) w' ∧ MapAt w' b (l.filter fun x => x.n != n) ∧ w.grownBy w' (some b) := by
  obtain ⟨D, ho, hr⟩ := h
  obtain ⟨w', hrun, ho', hg⟩ := ho.drop Try.law87 Try.underlying80 (key_ok n hn.wf) ty
  have hs : Maps.size (D.del (kl n)) = (l.filter fun x => x.n != n).length := by
    have h1 := size_del (k := kl n) hr.tidy
    have h2 := del_length hr.apart n
    rw [hr.size] at h1
    have e : (Maps.has D (kl n) = true) ↔ ∃ x ∈ l, x.n = n := by
      rw [hr.has]
      constructor
      · rintro ⟨x, hx, e⟩
        exact ⟨x, hx, kl_inj (hr.low x hx) hn e⟩
      · rintro ⟨x, hx, e⟩
        exact ⟨x, hx, by rw [e]⟩
    simp only [e] at h1
    omega
  refine ⟨w', hrun, ⟨D.del (kl n), by rw [← hs]; exact owns_size ho', ?_⟩, hg.grown⟩
  refine ⟨hr.tidy.del _, fun z => ?_, fun x hx z => ?_, hs, hr.apart.filter _, fun x hx => hr.low x (List.mem_filter.1 hx).1⟩
  · by_cases hz : z = kl n
    · subst hz
      rw [has_del_same]
      constructor
      · intro h
        cases h
      · rintro ⟨x, hx, e⟩
        obtain ⟨h1, h2⟩ := List.mem_filter.1 hx
        exact absurd (kl_inj (hr.low x h1) hn e) (by simpa using h2)
    · rw [has_del_other hz, hr.has z]
      constructor
      · rintro ⟨x, hx, e⟩
        exact ⟨x, List.mem_filter.2 ⟨hx, by simp; rintro rfl; exact hz e.symm⟩, e⟩
      · rintro ⟨x, hx, e⟩
        exact ⟨x, (List.mem_filter.1 hx).1, e⟩
  · obtain ⟨h1, h2⟩ := List.mem_filter.1 hx
    rw [atKey_del_other (fun e => by have := kl_inj (hr.low x h1) hn e; simp [this] at h2), hr.val x h1]
theorem wpList_lookup_eq {P : Program} {w : World} {ops : Array Oper} {rest : List Oper} {o : Oper} {a : Act} {Q : Exit → Act → World → Prop} (hg : o.guard = none) (m x : Operand) (t : TypeId) (hop : o.op = Op.lookup t m x false)
    (b : Nat) (key v : Value) (hm : a.eval m = .map (some b)) (hx : a.eval x = key) (hrun : (Instr.lookup t (.map (some b)) key false).run P w = .ok v w) (hK : wpList P ops Q rest (a.put o.dst v) w) : wpList P ops Q (o :: rest) a w := by
  refine wpList_plain hg fun K' hK' => ?_
  unfold Oper.wp
  simp [execOp, hop, hm, hx, hrun, Result.andThen]
  exact hK' _ _ hK
theorem wpList_len_eq {P : Program} {w : World} {ops : Array Oper} {rest : List Oper} {o : Oper} {a : Act} {Q : Exit → Act → World → Prop} (hg : o.guard = none) (m : Operand) (t : TypeId) (hop : o.op = Op.call { callee := Callee.builtin Builtin.len, args := #[m], argTypes := #[t] })
    (b : Nat) (n : Nat) (hm : a.eval m = .map (some b)) (hrun : ∀ ty, (Builtin.len_ #[t] ty #[.map (some b)]).run P w = .ok (.int .i64 n) w) (hK : wpList P ops Q rest (a.put o.dst (.int .i64 n)) w) : wpList P ops Q (o :: rest) a w := by
  refine wpList_plain hg fun K' hK' => ?_
  unfold Oper.wp
  simp [execOp, hop, resolve, invoke, builtin, hm, hrun, Result.andThen]
  exact hK' _ _ hK
theorem step_len_eq {P : Program} {w : World} {ops : Array Oper} {o : Oper} {a : Act} {K : Act → World → Prop} {Q : Exit → Act → World → Prop} {E : Prop} (hg : o.guard = none) (m : Operand) (t : TypeId) (hop : o.op = Op.call { callee := Callee.builtin Builtin.len, args := #[m], argTypes := #[t] })
    (b : Nat) (n : Nat) (hm : a.eval m = .map (some b)) (hrun : ∀ ty, (Builtin.len_ #[t] ty #[.map (some b)]).run P w = .ok (.int .i64 n) w) (hK : K (a.put o.dst (.int .i64 n)) w) :
    if Region.wanted o (yielded ops a.tmps) = true then Oper.wp P o a w K Q else E := by
  have hw : Region.wanted o (yielded ops a.tmps) = true := by simp [Region.wanted, hg]
  rw [if_pos hw]
  unfold Oper.wp
  simp [execOp, hop, resolve, invoke, builtin, hm, hrun, Result.andThen]
  exact hK
theorem step_delete_eq {P : Program} {w w' : World} {ops : Array Oper} {o : Oper} {a : Act} {K : Act → World → Prop} {Q : Exit → Act → World → Prop} {E : Prop} (hg : o.guard = none) (m x : Operand) (t k : TypeId) (hop : o.op = Op.call { callee := Callee.builtin Builtin.delete, args := #[m, x], argTypes := #[t, k] })
    (b : Nat) (key : Value) (hm : a.eval m = .map (some b)) (hx : a.eval x = key) (hrun : (Builtin.delete_ #[t, k] o.type #[.map (some b), key]).run P w = .ok (.tuple #[]) w') (hK : K (a.put o.dst (.tuple #[])) w') :
    if Region.wanted o (yielded ops a.tmps) = true then Oper.wp P o a w K Q else E := by
  have hw : Region.wanted o (yielded ops a.tmps) = true := by simp [Region.wanted, hg]
  rw [if_pos hw]
  unfold Oper.wp
  simp [execOp, hop, resolve, invoke, builtin, hm, hx, hrun, Result.andThen]
  exact hK
theorem MapAt.kept {w' : World} {row : Option Nat} (h : MapAt w b l) (hg : w.grownBy w' row) (hne : some b ≠ row) : MapAt w' b l := by
  obtain ⟨D, ho, hr⟩ := h
  exact ⟨D, ho.kept hg hne, hr⟩
theorem MapAt.obj (h : MapAt w b l) : ∃ es c, w.heap[b]? = some (.map es c) := by
  obtain ⟨D, ⟨es, c, hb, _⟩, hr⟩ := h
  exact ⟨es, c, hb⟩
theorem MapAt.lt (h : MapAt w b l) : b < w.heap.size := by
  obtain ⟨es, c, hb⟩ := h.obj
  exact (Array.getElem?_eq_some_iff.1 hb).1
theorem MapAt.below {w' : World} (h : MapAt w b l) (hb : Below w.heap.size w w') : MapAt w' b l := by
  have hlt := h.lt
  obtain ⟨D, ⟨es, c, hbb, rest⟩, hr⟩ := h
  exact ⟨D, ⟨es, c, (hb.block b hlt).trans hbb, rest⟩, hr⟩
theorem MapAt.same {w' : World} (h : MapAt w b l) (hb : w'.heap[b]? = w.heap[b]?) : MapAt w' b l := by
  obtain ⟨D, ⟨es, c, hbb, rest⟩, hr⟩ := h
  exact ⟨D, ⟨es, c, hb.trans hbb, rest⟩, hr⟩
theorem MapAt.drew (h : MapAt w b l) : MapAt w.drew b l := h.same rfl
theorem MapAt.ne_blk {g : Nat} {t : TypeId} {cs : Array Value} (h : MapAt w b l) (hb : Blk w g t cs) : b ≠ g := by
  rintro rfl
  obtain ⟨es, c, h2⟩ := h.obj
  unfold Blk at hb
  rw [hb] at h2
  cases h2
theorem MapAt.setCell (h : MapAt w b l) {p : Addr} (hp : b ≠ p.block) (u : Value) : MapAt (w.setCell p u) b l := h.same (Below.heap_setCell _ _ _ _ hp)
end
end Go.Proofs.Ytjpegkginmoekaa

/- Pages: Trim, Tail. -/
import Derived.Test.YtjpegkginmoekaaPgB
import Derived.Deep.LoopGhost
namespace Go.Proofs.Ytjpegkginmoekaa
open Go.RowKit
set_option linter.unusedVariables false

def trimErr (b : Int) : Int := if b < 0 ∨ 4096 < b then 1 else 0
def trimP (p : PS) (b : Int) : PS := if b < 0 ∨ 4096 < b then p else if b ≤ p.edge then p else ⟨p.room, b, p.l.filter fun x => decide (b ≤ x.n)⟩

theorem trim_no (g : Nat) (b : Int) (w : World) (h : b < 0 ∨ 4096 < b) : Calls Try.prog 34 #[.pointer (some ⟨g, 0, none⟩), .int .i64 b] w fun e w' => e = .returned (.int .i64 1) ∧ w = w' := by
  rcases h with h | h
  · go_enter Try.func34, Try.ntmps34
    go_wp2
    go_ret
    exact ⟨rfl, rfl⟩
  · have h0 : 0 ≤ b := by omega
    go_enter Try.func34, Try.ntmps34
    go_wp2
    go_ret
    exact ⟨rfl, rfl⟩
theorem trim_nil (b : Int) (w : World) : Calls Try.prog 34 #[.pointer none, .int .i64 b] w fun e w' => e = .returned (.int .i64 1) ∧ w = w' := by
  go_enter Try.func34, Try.ntmps34
  go_wp2
  go_ret
  exact ⟨rfl, rfl⟩

/-- what holds at the head of a round: the edge is e, what is below it has gone -/
def TrimRel (w : World) (B g b : Nat) (p : PS) (e : Int) (wr : World) : Prop :=
  Blk wr g 82 #[.int .i64 p.room, .map (some b), .int .i64 e] ∧ MapAt wr b (p.l.filter fun x => decide (e ≤ x.n)) ∧ Fr [82] B w wr

theorem filter_next (l : List Pg) (e : Int) : ((l.filter fun x => decide (e ≤ x.n)).filter fun x => x.n != e) = l.filter fun x => decide (e + 1 ≤ x.n) := by
  rw [List.filter_filter]
  apply List.filter_congr
  intro x _
  rw [Bool.eq_iff_iff]
  simp
  omega

set_option maxRecDepth 100000 in
set_option maxHeartbeats 800000 in
theorem trim_go (B g : Nat) (p : PS) (hp : p.Ok) (bl : Int) (w : World) (hb : PgAt w B g p) (h0 : p.edge ≤ bl) (h1 : bl ≤ 4096) :
    Calls Try.prog 34 #[.pointer (some ⟨g, 0, none⟩), .int .i64 bl] w fun e w' => e = .returned (.int .i64 0) ∧ PgAt w' B g ⟨p.room, bl, p.l.filter fun x => decide (bl ≤ x.n)⟩ ∧ Fr [82] B w w' := by
  obtain ⟨b, hg, hBg, hBb, hm⟩ := hb
  have e0 := hp.e0
  have hbl : 0 ≤ bl := by omega
  have hself : (p.l.filter fun x => decide (p.edge ≤ x.n)) = p.l := by
    rw [List.filter_eq_self]
    intro x hx
    simpa using (hp.at0 x hx).1
  have HS := hide (show TrimRel w B g b p p.edge w from ⟨hg, by rw [hself]; exact hm, Fr.refl _ _ _⟩)
  have hbg : b ≠ g := hm.ne_blk hg
  clear hg hm hself
  go_enter Try.func34, Try.ntmps34
  go_wp2
  go_loopg [15] (bl - p.edge).toNat (fun k _ wr => ∃ e : Int, p.edge ≤ e ∧ e ≤ bl ∧ k = (bl - e).toNat ∧ TrimRel w B g b p e wr)
  case atStart => exact ⟨p.edge, Int.le_refl _, h0, rfl, HS.out⟩
  case round =>
    obtain ⟨e, he0, he1, hk, hg, hm, hf⟩ := hrel
    obtain ⟨c0, c1, c2, z0, z1, z2⟩ := blk3 hg
    have HK := hide hk
    have HG := hide hg
    have HM := hide hm
    have HF := hide hf
    clear hk hg hm hf
    by_cases hlt : e < bl
    · obtain ⟨w', hrun, hm', hgr⟩ := (show MapAt wr.drew b _ from HM.out).del (n := e) ⟨by omega, by omega⟩ 0
      have hrn := hide hrun
      have hg2 := (show Blk wr.drew g 82 _ from HG.out).grown hgr (fun e => hbg (by injection e with e; exact e.symm))
      obtain ⟨d0, d1, d2, y0, y1, y2⟩ := blk3 hg2
      have HG2 := hide hg2
      have HM2 := hide hm'
      have HGR := hide hgr
      clear hrun hg2 hm' hgr
      go_wp2_with fail
      go_region_law (refine step_delete_eq rfl (.tmp 31) (.tmp 36) 80 87 rfl b (keyV e) rfl rfl hrn.out ?_)
      all_goals go_wp2
      all_goals go_roundg (bl - (e + 1)).toNat
      all_goals try case measure => have := HK.out; omega
      all_goals try case rel =>
        refine ⟨e + 1, by omega, by omega, rfl, ?_, ?_, ?_⟩
        · simpa using HG2.out.set_ 2 (.int .i64 (e + 1))
        · rw [← filter_next]
          exact HM2.out.setCell hbg _
        · obtain ⟨es, c, ho⟩ := HM.out.obj
          exact (HF.out.drew.turned hBb ho HGR.out).setCell (p := ⟨g, 2, none⟩) hBg HG2.out (by decide) _
    · have hee : e = bl := by omega
      subst hee
      go_wp2
      go_ret
      exact ⟨rfl, ⟨b, HG.out, hBg, hBb, HM.out⟩, HF.out⟩

theorem trim_any (B g : Nat) (p : PS) (hp : p.Ok) (b : Int) (w : World) (hb : PgAt w B g p) :
    Calls Try.prog 34 #[.pointer (some ⟨g, 0, none⟩), .int .i64 b] w fun e w' => e = .returned (.int .i64 (trimErr b)) ∧ PgAt w' B g (trimP p b) ∧ Fr [82] B w w' := by
  unfold trimErr trimP
  by_cases h0 : b < 0 ∨ 4096 < b
  · simp only [if_pos h0]
    exact (trim_no g b w h0).mono fun e w' ⟨he, hw⟩ => ⟨he, hw ▸ hb, hw ▸ Fr.refl _ _ _⟩
  · simp only [if_neg h0]
    by_cases h1 : b ≤ p.edge
    · simp only [if_pos h1]
      obtain ⟨m, hg, hBg, hBb, hm⟩ := hb
      obtain ⟨c0, c1, c2, z0, z1, z2⟩ := blk3 hg
      have i0 : 0 ≤ b := by omega
      have i1 : b ≤ 4096 := by omega
      have HB := hide (show PgAt w B g p from ⟨m, hg, hBg, hBb, hm⟩)
      clear hg hm
      go_enter Try.func34, Try.ntmps34
      go_wp2
      go_loopw [15] (fun _ wr => wr = w) (fun _ _ => 0)
      case atStart => rfl
      case round =>
        subst hrel
        go_wp2
        go_ret
        exact ⟨rfl, HB.out, Fr.refl _ _ _⟩
    · simp only [if_neg h1]
      exact trim_go B g p hp b w hb (by omega) (by omega)

/-- the page behind all that are there -/
def tailP (p : PS) : Int := p.l.foldl (fun t x => max t (x.n + 1)) p.edge
theorem fold_ge (l : List Pg) : ∀ e : Int, e ≤ l.foldl (fun t x => max t (x.n + 1)) e ∧ (∀ x ∈ l, x.n + 1 ≤ l.foldl (fun t x => max t (x.n + 1)) e) ∧ (l.foldl (fun t x => max t (x.n + 1)) e = e ∨ ∃ x ∈ l, l.foldl (fun t x => max t (x.n + 1)) e = x.n + 1) := by
  induction l with
  | nil => intro e; simp
  | cons y l ih =>
    intro e
    obtain ⟨h1, h2, h3⟩ := ih (max e (y.n + 1))
    refine ⟨?_, fun x hx => ?_, ?_⟩
    · simp only [List.foldl_cons]; omega
    · simp only [List.foldl_cons]
      rcases List.mem_cons.1 hx with rfl | hx
      · omega
      · exact h2 x hx
    · simp only [List.foldl_cons]
      rcases h3 with h3 | ⟨x, hx, h3⟩
      · by_cases hm : y.n + 1 ≤ e
        · left; omega
        · right; exact ⟨y, by simp, by omega⟩
      · right; exact ⟨x, by simp [hx], h3⟩
theorem tail_eq {p : PS} {t : Int} (h1 : p.edge ≤ t) (h2 : ∀ x ∈ p.l, x.n + 1 ≤ t) (h3 : t = p.edge ∨ ∃ x ∈ p.l, t = x.n + 1) : t = tailP p := by
  obtain ⟨g1, g2, g3⟩ := fold_ge p.l p.edge
  unfold tailP
  have a : t ≤ p.l.foldl (fun t x => max t (x.n + 1)) p.edge := by
    rcases h3 with rfl | ⟨x, hx, rfl⟩
    · exact g1
    · exact g2 x hx
  have b : p.l.foldl (fun t x => max t (x.n + 1)) p.edge ≤ t := by
    rcases g3 with e | ⟨x, hx, e⟩
    · omega
    · have := h2 x hx
      omega
  omega

/-- a range over the pages' map under way: 'left' says of which keys the turn is still to come -/
def RangeAt (w : World) (b r : Nat) (l : List Pg) (left : Int → Bool) (cnt : Nat) : Prop :=
  ∃ (D : DataW Unit) (lf : Lit → Bool), w.ranges Try.prog 87 R b r l.length D lf cnt ∧ MRel D l ∧ (∀ z, lf z = true → Maps.has D z = true) ∧ ∀ x ∈ l, lf (kl x.n) = left x.n
theorem RangeAt.alloc {w : World} {b r : Nat} {l : List Pg} {left : Int → Bool} {cnt : Nat} (h : RangeAt w b r l left cnt) (o : Obj) : RangeAt (w.alloc o) b r l left cnt := by
  obtain ⟨D, lf, h1, h2⟩ := h
  exact ⟨D, lf, h1.alloc o, h2⟩
theorem RangeAt.map {w : World} {b r : Nat} {l : List Pg} {left : Int → Bool} {cnt : Nat} (h : RangeAt w b r l left cnt) : MapAt w b l := by
  obtain ⟨D, lf, h1, h2, _⟩ := h
  exact ⟨D, h1.owns, h2⟩
theorem range_start {w : World} {b : Nat} {l : List Pg} (h : MapAt w b l) : ∃ w', (Instr.range 80 (.map (some b))).run Try.prog w = .ok (.pointer (some ⟨w.heap.size, 0, none⟩)) w' ∧ RangeAt w' b w.heap.size l (fun _ => true) l.length ∧ Below w.heap.size w w' ∧ w'.heap.size = w.heap.size + 1 := by
  obtain ⟨D, ho, hr⟩ := h
  obtain ⟨w', hrun, h1, h2, h3⟩ := ho.range Try.law87 Try.underlying80
  rw [hr.size] at h1
  exact ⟨w', hrun, ⟨D, _, h1, hr, fun z h => h, fun x hx => (hr.has _).2 ⟨x, hx, rfl⟩⟩, ⟨h2.os, h2.tape, h2.output, h2.size, fun k hk => h2.block k hk (by simp)⟩, h3⟩
section
variable {w : World} {ops : Array Oper} {rest : List Oper} {o : Oper} {a : Act} {Q : Exit → Act → World → Prop}
theorem wpList_range_map (hg : o.guard = none) (m : Operand) (hop : o.op = Op.range 80 m) (b : Nat) (l : List Pg) (hm : a.eval m = .map (some b)) (h : MapAt w b l)
    (hK : ∀ w', RangeAt w' b w.heap.size l (fun _ => true) l.length → Below w.heap.size w w' → w'.heap.size = w.heap.size + 1 → wpList Try.prog ops Q rest (a.put o.dst (.pointer (some ⟨w.heap.size, 0, none⟩))) w') :
    wpList Try.prog ops Q (o :: rest) a w := by
  refine wpList_plain hg fun K' hK' => ?_
  obtain ⟨w', hrun, r1, r2, r3⟩ := range_start h
  unfold Oper.wp
  simp [execOp, hop, hm, hrun, Result.andThen]
  exact hK' _ _ (hK w' r1 r2 r3)
theorem wpList_next_map (hg : o.guard = none) (it : Operand) (hop : o.op = Op.next it false) (b r : Nat) (l : List Pg) (left : Int → Bool) (cnt : Nat) (hit : a.eval it = .pointer (some ⟨r, 0, none⟩)) (h : RangeAt w b r l left cnt)
    (hDone : (∀ x ∈ l, left x.n = false) → wpList Try.prog ops Q rest (a.put o.dst (.tuple #[.bool false])) w)
    (hMore : ∀ (x : Pg) (w' : World) (cnt' : Nat), x ∈ l → left x.n = true → RangeAt w' b r l (fun n => left n && n != x.n) cnt' → cnt' < cnt → w.grownBy w' (some r) → w'.heap.size = w.heap.size →
      (Instr.entry (.pointer (some ⟨r, 0, none⟩))).run Try.prog w' = .ok (.tuple #[.agg #[.int .i64 x.n], conV x.k x.s]) w' → wpList Try.prog ops Q rest (a.put o.dst (.tuple #[.bool true, .agg #[.int .i64 x.n], conV x.k x.s])) w') :
    wpList Try.prog ops Q (o :: rest) a w := by
  refine wpList_plain hg fun K' hK' => ?_
  obtain ⟨D, lf, h1, hr, h2, h3⟩ := h
  unfold Oper.wp
  rcases h1.next Try.law87 o.type with ⟨h0, hl, hrun⟩ | ⟨key, v, kz, y, w', cnt', hkey, hlk, hv, hat, hrun, hrg, hlt, hgr, hsz, hen⟩
  · simp [execOp, hop, hit, hrun, Result.andThen]
    exact hK' _ _ (hDone fun x hx => by rw [← h3 x hx]; exact hl _)
  · obtain ⟨x, hx, rfl⟩ := (hr.has kz).1 (h2 _ hlk)
    have ek : key = keyV x.n := Try.law87.inj hkey (key_ok x.n (hr.low x hx).wf)
    subst ek
    have hy := hat (dat 0 ⟨#[]⟩)
    rw [hr.val x hx] at hy
    have ev : v = conV x.k x.s := R_inv (ps := y.2) (by rw [hv, hy])
    subst ev
    simp [execOp, hop, hit, hrun, Result.andThen]
    refine hK' _ _ (hMore x w' cnt' hx (by rw [← h3 x hx]; exact hlk) ⟨D, _, hrg, hr, fun z hz => h2 z (by simp at hz; exact hz.1), fun z hz => ?_⟩ hlt hgr hsz hen)
    rw [h3 z hz]
    congr 1
    by_cases e : z.n = x.n
    · rw [e, WideAt.sameKey_self (kl_key _)]
      simp
    · rw [Maps.sameKey_ne (fun e' => e (kl_inj (hr.low z hz) (hr.low x hx) e'))]
      simp [e]
end

theorem tail_step {p : PS} {left : Int → Bool} {t t' : Int} {x : Pg} (h : (∀ x ∈ p.l, left x.n = false → x.n + 1 ≤ t) ∧ (t = p.edge ∨ ∃ x ∈ p.l, t = x.n + 1)) (hx : x ∈ p.l) (h1 : t ≤ t') (h2 : x.n + 1 ≤ t') (h3 : t' = t ∨ t' = x.n + 1) :
    (∀ y ∈ p.l, (left y.n && y.n != x.n) = false → y.n + 1 ≤ t') ∧ (t' = p.edge ∨ ∃ x ∈ p.l, t' = x.n + 1) := by
  refine ⟨fun y hy hl => ?_, ?_⟩
  · simp only [Bool.and_eq_false_iff] at hl
    rcases hl with hl | hl
    · have := h.1 y hy hl
      omega
    · have : y.n = x.n := by simpa using hl
      omega
  · rcases h3 with rfl | rfl
    · exact h.2
    · exact .inr ⟨x, hx, rfl⟩

set_option maxRecDepth 100000 in
set_option maxHeartbeats 800000 in
theorem tail_any (B g : Nat) (p : PS) (hp : p.Ok) (w : World) (hb : PgAt w B g p) :
    Calls Try.prog 25 #[.pointer (some ⟨g, 0, none⟩)] w fun e w' => e = .returned (.int .i64 (tailP p)) ∧ Below w.heap.size w w' := by
  obtain ⟨b, hg, hBg, hBb, hm⟩ := hb
  obtain ⟨c0, c1, c2, z0, z1, z2⟩ := blk3 hg
  have e0 := hp.e0
  have e1 := hp.e1
  have hlow : Hid (∀ x ∈ p.l, 0 ≤ x.n ∧ x.n < 4096) := hide fun x hx => by have := hp.at0 x hx; omega
  have HM := hide hm
  clear hg hm
  go_enter Try.func25, Try.ntmps25
  go_wp2_with (at_range; refine wpList_range_map rfl (.tmp 14) rfl b p.l rfl HM.out ?_; intro w0 hr0 hb0 hs0; have HR0 := hide hr0; have HB0 := hide hb0; have HS0 := hide hs0; clear hr0 hb0 hs0)
  go_frame
  go_loopg [3] p.l.length (fun k v wr => ∃ (t : Int) (left : Int → Bool), v = .int .i64 t ∧ p.edge ≤ t ∧ t ≤ 4096 ∧ RangeAt wr b w.heap.size p.l left k ∧ Below w.heap.size w wr ∧ Hid ((∀ x ∈ p.l, left x.n = false → x.n + 1 ≤ t) ∧ (t = p.edge ∨ ∃ x ∈ p.l, t = x.n + 1)))
  case atStart => exact ⟨p.edge, _, rfl, Int.le_refl _, e1, HR0.out, HB0.out, hide ⟨fun x _ h => (by cases h), .inl rfl⟩⟩
  case round =>
    obtain ⟨t, left, rfl, ht0, ht1, hrg, hbel, HI⟩ := hrel
    have HRG := hide hrg
    have HBL := hide hbel
    have hws := hbel.size
    clear hrg hbel
    go_wp2_with (at_next; refine wpList_next_map rfl (.tmp 15) rfl b w.heap.size p.l left gk rfl HRG.out ?_ ?_)
    · intro hdone
      have HT : Hid (t = tailP p) := hide (tail_eq ht0 (fun x hx => HI.out.1 x hx (hdone x hx)) HI.out.2)
      clear hdone
      go_wp2
      go_ret
      exact ⟨ret_int HT.out, HBL.out⟩
    · intro x w1 cnt1 hx hlx hrg1 hlt hg1 hs1 hen
      obtain ⟨l0, l1⟩ := hlow.out x hx
      have HRG1 := hide hrg1
      have HG1 := hide hg1
      have HX := hide hx
      have HLX := hide hlx
      clear hrg1 hg1 hx hlx
      go_wp2
      all_goals go_roundg cnt1
      all_goals try case measure => exact hlt
      all_goals try case rel =>
        have HB1 := ((HBL.out.grown HG1.out hws (fun k hk => by injection hk with hk; omega)).alloc (by omega) (.cells #[.int .i64 x.n] 87))
        first
          | exact ⟨t, _, rfl, by omega, by omega, HRG1.out.alloc _, HB1, hide (tail_step HI.out HX.out (by omega) (by omega) (.inl rfl))⟩
          | exact ⟨x.n + 1, _, rfl, by omega, by omega, HRG1.out.alloc _, HB1, hide (tail_step HI.out HX.out (by omega) (by omega) (.inr rfl))⟩
end Go.Proofs.Ytjpegkginmoekaa

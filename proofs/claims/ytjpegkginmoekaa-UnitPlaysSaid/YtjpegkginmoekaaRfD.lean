/- The reference's pages: Trim. -/
import Derived.Test.YtjpegkginmoekaaRfC
namespace Go.Proofs.Ytjpegkginmoekaa
open Go.RowKit
set_option linter.unusedVariables false

theorem size_alloc_ (w : World) (o : Obj) : (w.alloc o).heap.size = w.heap.size + 1 := by simp
def keepP (e : Int) (l : List Pg) : List Pg := l.filter fun x => decide (e ≤ x.n)
theorem trimP_max {p : PS} (hp : p.Ok) {b : Int} (hb : ¬ (b < 0 ∨ 4096 < b)) : trimP p b = ⟨p.room, max p.edge b, keepP (max p.edge b) p.l⟩ := by
  unfold trimP
  rw [if_neg hb]
  by_cases h : b ≤ p.edge
  · rw [if_pos h, Int.max_eq_left h]
    have : keepP p.edge p.l = p.l := List.filter_eq_self.2 (fun x hx => by simpa using (hp.at0 x hx).1)
    rw [this]
  · rw [if_neg h, Int.max_eq_right (by omega)]
    rfl
theorem keepP_step (e : Int) (l : List Pg) (k : Nat) (x : Pg) (h : l[k]? = some x) : keepP e (l.take (k + 1)) = keepP e (l.take k) ++ if e ≤ x.n then [x] else [] := by
  unfold keepP
  rw [List.take_add_one, h, List.filter_append]
  by_cases hx : e ≤ x.n <;> simp [hx]
theorem Own.grown {w w' : World} {base : Nat} {e : TypeId} {size n : Nat} {v : Value} {xs : List Value} {row : Option Nat} (h : Own w base e size v n xs) (hg : w.grownBy w' row) (hne : ∀ k, v.ownBlock = some k → some k ≠ row) : Own w' base e size v n xs := by
  refine ⟨h.1, ?_⟩
  rcases h.2 with h1 | ⟨g, cap, cur, rfl, k1, k2, rest⟩
  · exact .inl h1
  · exact .inr ⟨g, cap, cur, rfl, k1, (hg.block g (Array.getElem?_eq_some_iff.1 k2).1 (hne g rfl)).trans k2, rest⟩
theorem grown_trans {a b c : World} {g : Nat} (h : a.grownBy b (some g)) (k : b.grownBy c (some g)) : a.grownBy c (some g) :=
  ⟨k.os.trans h.os, k.tape.trans h.tape, k.output.trans h.output, Nat.le_trans h.size k.size, fun i hi hne => (k.block i (by have := h.size; omega) hne).trans (h.block i hi hne)⟩
theorem grown_own {a b c : World} {g : Nat} {v : Value} (h : a.grownBy b (some g)) (k : b.grownBy c v.ownBlock) (hv : ∀ i, v.ownBlock = some i → a.heap.size ≤ i) : a.grownBy c (some g) :=
  ⟨k.os.trans h.os, k.tape.trans h.tape, k.output.trans h.output, Nat.le_trans h.size k.size, fun i hi hne => (k.block i (by have := h.size; omega) (fun e => by have := hv i e.symm; omega)).trans (h.block i hi hne)⟩
theorem grown_alloc {a b : World} {row : Option Nat} (h : a.grownBy b row) (o : Obj) : a.grownBy (b.alloc o) row :=
  ⟨h.os, h.tape, h.output, by have := h.size; simp; omega, fun i hi hne => (Below.heap_alloc b o i (by have := h.size; omega)).trans (h.block i hi hne)⟩
theorem grown_set {a b : World} {g : Nat} (h : a.grownBy b (some g)) (o : Nat) (v : Value) : a.grownBy (b.setCell ⟨g, o, none⟩ v) (some g) :=
  ⟨h.os, h.tape, h.output, by have := h.size; simpa [World.setCell] using this, fun i hi hne => (Below.heap_setCell _ _ _ _ (fun e => hne (by rw [e]))).trans (h.block i hi hne)⟩
theorem grown_drewN_ {a b : World} {row : Option Nat} (h : a.grownBy b row) (n : Nat) : a.grownBy (b.drewN n) row := ⟨h.os, h.tape, h.output, h.size, h.block⟩
theorem grown_refl (w : World) (row : Option Nat) : w.grownBy w row := ⟨rfl, rfl, rfl, Nat.le_refl _, fun _ _ _ => rfl⟩

def TrRel (w : World) (g : Nat) (vp : Value) (room e : Int) (l : List Pg) (v i : Value) (wr : World) : Prop :=
  ∃ k : Nat, k ≤ l.length ∧ i = .int .i64 k ∧ Blk wr g 85 #[vp, .int .i64 room, .int .i64 e] ∧ Own wr w.heap.size 89 3 v (keepP e (l.take k)).length (pgs (keepP e (l.take k))) ∧ w.grownBy wr (some g)

theorem rtrim_1 (B g : Nat) (p : PS) (b : Int) (w : World) (hb : b < 0 ∨ 4096 < b) :
    Calls Try.prog 39 #[.pointer (some ⟨g, 0, none⟩), .int .i64 b] w fun e w' => e = .returned (.int .i64 1) ∧ w = w' := by
  rcases hb with hb | hb
  · go_enter Try.func39, Try.ntmps39
    go_wp2
    go_ret
    exact ⟨rfl, rfl⟩
  · have h0 : 0 ≤ b := by omega
    go_enter Try.func39, Try.ntmps39
    go_wp2
    go_ret
    exact ⟨rfl, rfl⟩

set_option maxRecDepth 10000 in
set_option maxHeartbeats 800000 in
theorem rtrim_ok (B g : Nat) (p : PS) (b : Int) (w : World) (hp : p.Ok) (hr : RfAt w B g p) (hb0 : 0 ≤ b) (hb1 : b ≤ 4096) :
    Calls Try.prog 39 #[.pointer (some ⟨g, 0, none⟩), .int .i64 b] w fun e w' => e = .returned (.int .i64 0) ∧ RfAt w' B g ⟨p.room, max p.edge b, keepP (max p.edge b) p.l⟩ ∧ w.grownBy w' (some g) := by
  obtain ⟨i0, hi0, hz0, hz1, hz2⟩ := info_parts Try.info89
  obtain ⟨vp, hg, hBg, hown⟩ := hr
  have hlen : p.l.length ≤ 4096 := by have := hp.len; have := hp.r1; omega
  have hsz := hg.lt
  obtain ⟨room, edge, l⟩ := p
  simp only at hg hown hlen ⊢
  obtain ⟨c0, c1, c2, z0, z1, z2⟩ := blk3 hg
  have HG := hide hg
  have HO := hide hown
  clear hg hown hp
  go_enter Try.func39, Try.ntmps39
  go_wp2_with fail
  have HG1 : Hid (Blk (w.setCell ⟨g, 2, none⟩ (.int .i64 (max edge b))) g 85 #[vp, .int .i64 room, .int .i64 (max edge b)]) := hide (by simpa using HG.out.set_ 2 (.int .i64 (max edge b)))
  generalize hE : max edge b = e at *
  obtain ⟨A, cap, hv, _, _⟩ := HO.out.shape
  subst hv
  go_loopw [5, 6] (fun v i wr => TrRel w g (.slice A l.length cap) room e l v i wr) (fun _ i _ => l.length - (intOf i).toNat)
  case atStart => exact ⟨0, Nat.zero_le _, rfl, HG1.out, Own.nil _ _ _ _, grown_set (grown_refl w _) 2 _⟩
  case round =>
    obtain ⟨k, hk, rfl, hgr, hor, hwr⟩ := hrel
    have HW := hide hwr
    have HGR := hide hgr
    have HOR := hide hor
    obtain ⟨d0, d1, d2, y0, y1, y2⟩ := blk3 hgr
    clear hwr hgr hor
    by_cases hlt : k < l.length
    · obtain ⟨g', cap', hv', _, hgs, _, _⟩ := HO.out.form (by omega)
      simp only [Value.slice.injEq, true_and] at hv'
      obtain ⟨rfl, rfl⟩ := hv'
      have hx : l[k]? = some l[k] := List.getElem?_eq_getElem hlt
      generalize l[k] = x at hx
      obtain ⟨q0, q1, q2⟩ := pgs_get l k x hx
      have HS := hide (keepP_step e l k x hx)
      have hOr := HO.out.grown HW.out (fun i hi => (HO.out.ne_blk HG.out (by decide) |> fun h => by intro e; exact h (hi.trans e)))
      have r0 : wr.cell? ⟨g', k * 3, none⟩ = some (.int .i64 x.n) := by simpa [Addr.add_lit] using hOr.cells (g := g') rfl _ _ q0
      have r1 : wr.cell? ⟨g', k * 3 + 1, none⟩ = some (.int .i64 x.k) := by simpa [Addr.add_lit] using hOr.cells (g := g') rfl _ _ q1
      have r2 : wr.cell? ⟨g', k * 3 + 2, none⟩ = some (.string x.s) := by simpa [Addr.add_lit] using hOr.cells (g := g') rfl _ _ q2
      clear q0 q1 q2 hx hOr
      obtain ⟨xn, xk, xs⟩ := x
      simp only at r0 r1 r2
      by_cases hc : e ≤ xn
      · have HC := hide hc
        have n0 : (keepP e (l.take k)).length ≤ 4096 := Nat.le_trans (List.length_filter_le _ _) (by rw [List.length_take]; omega)
        have m1 : Hid (∀ w1 : World, 0 < 1 → ∃ a, some (⟨w1.heap.size, 0, none⟩ : Addr) = some a ∧ ∀ j u, [Value.int .i64 xn, .int .i64 xk, .string xs][j]? = some u → (w1.alloc (.cells #[.int .i64 xn, .int .i64 xk, .string xs] 89)).cell? (a.add j) = some u) :=
          hide fun w1 _ => ⟨_, rfl, news_at w1 #[.int .i64 xn, .int .i64 xk, .string xs] 89 _ (by simp)⟩
        have m2 : Hid (∀ u ∈ [Value.int .i64 xn, .int .i64 xk, .string xs], u.oneCell' = true) := hide (by simp [Value.oneCell'])
        have m3 : (keepP e (l.take k)).length + 1 ≤ maxLen := by unfold maxLen; omega
        have m4 : ((keepP e (l.take k)).length + 1) * 32 ≤ 140737488355328 := by omega
        have m5 : ∀ nq o, w.heap.size ≤ ((wr.drewN nq).alloc o).heap.size := fun nq o => Nat.le_trans HW.out.size (by rw [size_alloc_]; exact Nat.le_succ _)
        go_wp2_with fail
        go_quiet (fail)
        go_wp2_with (at_builtin; go_loud (refine wpList_append_Own _ rfl (.tmp 44) (.tmp 52) 83 rfl w.heap.size 89 i0 _ 3 32 Try.underlying83 hi0 hz0 hz1 hz2 rfl (by decide) u5 (keepP e (l.take k)).length (pgs (keepP e (l.take k))) rfl ((HOR.out.drewN nq).alloc _) (some ⟨wr.heap.size, 0, none⟩) 1 1 [.int .i64 xn, .int .i64 xk, .string xs] rfl rfl (m1.out (wr.drewN nq)) m2.out m3 m4 (m5 _ _) ?_; intro v1 w1 hown1 hg1 _; have HO1 := hide hown1; have HW1 := hide (grown_own (grown_alloc (grown_drewN_ HW.out nq) _) hg1 (fun i hi => (HOR.out.lt i hi).1)); have HGR1 := hide (((HGR.out.drewN nq).alloc _).grown hg1 (fun h => by have := (HOR.out.lt g h.symm).1; omega)); clear hown1 hg1))
        go_roundw
        case rel =>
          refine ⟨k + 1, by omega, by go_num, HGR1.out, ?_, HW1.out⟩
          rw [HS.out, if_pos HC.out, pgs_append, List.length_append, show pgs ([⟨xn, xk, xs⟩] : List Pg) = [.int .i64 xn, .int .i64 xk, .string xs] from rfl]
          exact HO1.out
        case measure => simp [intOf]; omega
      · have HC := hide hc
        go_wp2_with fail
        go_quiet (fail)
        go_wp2
        go_roundw
        case rel => exact ⟨k + 1, by omega, by go_num, HGR.out, by rw [HS.out, if_neg (by have := HC.out; omega), List.append_nil]; exact HOR.out.drewN _, grown_drewN_ HW.out _⟩
        case measure => simp [intOf]; omega
    · obtain ⟨A2, cap2, hv2, _, _⟩ := HOR.out.shape
      have HK : Hid (k = l.length) := hide (by omega)
      subst hv2
      go_wp2
      go_ret
      subst hE
      refine ⟨rfl, ⟨_, HGR.out.set_ 0 _, hBg, ?_⟩, grown_set HW.out 0 _⟩
      have := (HOR.out.lower (show B ≤ w.heap.size by omega)).setCell (p := ⟨g, 0, none⟩) (t := 85) HGR.out (by decide) (.slice A2 (keepP (max edge b) (l.take k)).length cap2)
      rw [HK.out, List.take_length] at this ⊢
      exact this

theorem rtrim_any (B g : Nat) (p : PS) (b : Int) (w : World) (hp : p.Ok) (hr : RfAt w B g p) :
    Calls Try.prog 39 #[.pointer (some ⟨g, 0, none⟩), .int .i64 b] w fun e w' => e = .returned (.int .i64 (trimErr b)) ∧ RfAt w' B g (trimP p b) ∧ w.grownBy w' (some g) := by
  by_cases hb : b < 0 ∨ 4096 < b
  · refine (rtrim_1 B g p b w hb).mono ?_
    rintro e w' ⟨rfl, rfl⟩
    refine ⟨by unfold trimErr; rw [if_pos hb], ?_, grown_refl _ _⟩
    unfold trimP
    rw [if_pos hb]
    exact hr
  · rw [trimP_max hp hb]
    refine (rtrim_ok B g p b w hp hr (by omega) (by omega)).mono ?_
    rintro e w' ⟨rfl, h1, h2⟩
    exact ⟨by unfold trimErr; rw [if_neg hb], h1, h2⟩
end Go.Proofs.Ytjpegkginmoekaa

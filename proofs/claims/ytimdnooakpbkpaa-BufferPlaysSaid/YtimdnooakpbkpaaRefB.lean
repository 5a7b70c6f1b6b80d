/- The reference's buffer: Add. -/
import Derived.Test.YtimdnooakpbkpaaRefA
namespace Go.Proofs.Ytimdnooakpbkpaa
open Go.RowKit
set_option linter.unusedVariables false

theorem radd_arg (g : Nat) (h o : Int) (s : ByteArray) (w : World) (hh : h < 0 ∨ 16384 ≤ h) :
    Calls Try.prog 15 #[.pointer (some ⟨g, 0, none⟩), .agg #[.int .i64 h, .int .i64 o, .string s]] w fun e w' => e = .returned (.int .i64 1) ∧ Below w.heap.size w w' := by
  rcases hh with hh | hh
  · go_enter Try.func15, Try.ntmps15
    go_wp2
    go_ret
    exact ⟨rfl, (Below.refl _ _).alloc (Nat.le_refl _) _⟩
  · have h0 : 0 ≤ h := by omega
    go_enter Try.func15, Try.ntmps15
    go_wp2
    go_ret
    exact ⟨rfl, (Below.refl _ _).alloc (Nat.le_refl _) _⟩

theorem radd_space (g : Nat) (h o : Int) (s : ByteArray) (w : World) (h0 : 0 ≤ h) (h1 : h < 16384) (hs : o < 0 ∨ s.size < 1 ∨ 1024 < s.size ∨ 8192 - (s.size : Int) < o) :
    Calls Try.prog 15 #[.pointer (some ⟨g, 0, none⟩), .agg #[.int .i64 h, .int .i64 o, .string s]] w fun e w' => e = .returned (.int .i64 67) ∧ Below w.heap.size w w' := by
  by_cases o0 : o < 0
  · go_enter Try.func15, Try.ntmps15
    go_wp2
    go_ret
    exact ⟨rfl, (Below.refl _ _).alloc (Nat.le_refl _) _⟩
  by_cases o1 : 8192 < o
  · go_enter Try.func15, Try.ntmps15
    go_wp2
    go_ret
    exact ⟨rfl, (Below.refl _ _).alloc (Nat.le_refl _) _⟩
  by_cases s0 : s.size < 1
  · go_enter Try.func15, Try.ntmps15
    go_wp2
    go_ret
    exact ⟨rfl, (Below.refl _ _).alloc (Nat.le_refl _) _⟩
  by_cases s1 : 1024 < s.size
  · go_enter Try.func15, Try.ntmps15
    go_wp2
    go_ret
    exact ⟨rfl, (Below.refl _ _).alloc (Nat.le_refl _) _⟩
  have s2 : 8192 < o + (s.size : Int) := by omega
  go_enter Try.func15, Try.ntmps15
  go_wp2
  go_ret
  exact ⟨rfl, (Below.refl _ _).alloc (Nat.le_refl _) _⟩

theorem radd_many (g n : Nat) (hn : n = 16) (A : Option Addr) (cap : Nat) (h o : Int) (s : ByteArray) (w : World) (hg : Blk w g 43 #[.slice A n cap]) (h0 : 0 ≤ h) (h1 : h < 16384) (o0 : 0 ≤ o) (s0 : 1 ≤ s.size) (s1 : s.size ≤ 1024) (s2 : o ≤ 8192 - (s.size : Int)) :
    Calls Try.prog 15 #[.pointer (some ⟨g, 0, none⟩), .agg #[.int .i64 h, .int .i64 o, .string s]] w fun e w' => e = .returned (.int .i64 3) ∧ Below w.heap.size w w' := by
  subst hn
  have hc : ∀ o, (w.alloc o).cell? ⟨g, 0, none⟩ = some (.slice A 16 cap) := fun o => (hg.alloc o).cell 0
  have s3 : o + (s.size : Int) ≤ 8192 := by omega
  go_enter Try.func15, Try.ntmps15
  go_wp2
  go_ret
  exact ⟨rfl, (Below.refl _ _).alloc (Nat.le_refl _) _⟩

theorem Own.lower {w : World} {base base' : Nat} {e : TypeId} {size n : Nat} {v : Value} {xs : List Value} (h : Own w base e size v n xs) (hb : base' ≤ base) : Own w base' e size v n xs := by
  refine ⟨h.1, ?_⟩
  rcases h.2 with h1 | ⟨g, cap, cur, rfl, k1, rest⟩
  · exact .inl h1
  · exact .inr ⟨g, cap, cur, rfl, Nat.le_trans hb k1, rest⟩
theorem grown_of_below {w w' : World} {g : Nat} (h : Below w.heap.size w w') (v : Value) (o : Nat) : w.grownBy (w'.setCell ⟨g, o, none⟩ v) (some g) :=
  ⟨h.os, h.tape, h.output, by have := h.size; simpa [World.setCell] using this, fun k hk hne => by
    rw [Below.heap_setCell _ _ _ _ (fun e => hne (by rw [e]))]
    exact h.block k hk⟩
theorem grown_below {w w' : World} {row : Option Nat} (h : Below w.heap.size w w') : w.grownBy w' row :=
  ⟨h.os, h.tape, h.output, h.size, fun k hk _ => h.block k hk⟩
theorem own_empty {w : World} {B g : Nat} {t : TypeId} {size : Nat} (h : Blk w g t #[]) (hB : B ≤ g) : Own w B t size (.slice (some ⟨g, 0, none⟩) 0 0) 0 [] :=
  ⟨by simp, .inr ⟨g, 0, #[], rfl, hB, h, Nat.le_refl _, by simp [maxLen], by simp, by simp⟩⟩
theorem Blk.new' (w : World) (t : TypeId) (cs : Array Value) (g : Nat) (hg : g = w.heap.size) : Blk (w.alloc (.cells cs t)) g t cs := by
  subst hg
  exact Blk.new w t cs
theorem own_src {w : World} {B : Nat} {A : Option Addr} {e : TypeId} {size n cap : Nat} {xs : List Value} (h : Own w B e size (.slice A n cap) n xs) : 0 < n → ∃ a, A = some a ∧ ∀ j u, xs[j]? = some u → w.cell? (a.add j) = some u := by
  intro h0
  obtain ⟨g', cap', hv', _, _, _, _⟩ := h.form h0
  simp only [Value.slice.injEq, true_and] at hv'
  obtain ⟨rfl, rfl⟩ := hv'
  exact ⟨_, rfl, h.cells (g := g') rfl⟩
theorem blk_src {w : World} {g : Nat} {t : TypeId} {cs : Array Value} (h : Blk w g t cs) : 0 < 1 → ∃ a, some (⟨g, 0, none⟩ : Addr) = some a ∧ ∀ j u, cs.toList[j]? = some u → w.cell? (a.add j) = some u := fun _ =>
  ⟨_, rfl, fun j u hu => by
    rw [Addr.add_lit, h.cell]
    simpa using hu⟩
/-- behind the last append: what is told of the reference's block -/
theorem rb_end {w W2 w2 : World} {B g : Nat} {v v1 v2 : Value} {xs ys : List Value} {n m : Nat} (hg : Blk w g 43 #[v]) (hB : B ≤ w.heap.size) (h1 : Below w.heap.size w W2) (hown1 : Own W2 w.heap.size 45 3 v1 m ys) (hg2 : W2.grownBy w2 v1.ownBlock) (hown : Own w2 w.heap.size 45 3 v2 n xs) :
    Blk w2 g 43 #[v] ∧ (∀ u, Blk (w2.setCell ⟨g, 0, none⟩ u) g 43 #[u]) ∧ (∀ u, Own (w2.setCell ⟨g, 0, none⟩ u) B 45 3 v2 n xs) ∧ ∀ u, w.grownBy (w2.setCell ⟨g, 0, none⟩ u) (some g) := by
  have h2 : Below w.heap.size w w2 := h1.grown hg2 h1.size (fun k hk => (hown1.lt k hk).1)
  have hb := hg.below h2 hg.lt
  exact ⟨hb, fun u => by simpa using hb.set_ 0 u, fun u => (hown.lower hB).setCell (p := ⟨g, 0, none⟩) (t := 43) hb (by decide) u, fun u => grown_of_below h2 u 0⟩

theorem rb_mid {w W w1 : World} {v0 : Value} {cs : Array Value} {e : Nat} (hb : Below w.heap.size w W) (hbx : Blk W w.heap.size 45 cs) (he : v0 = .slice (some ⟨e, 0, none⟩) 0 0) (hlt : w.heap.size < e) (hg1 : W.grownBy w1 v0.ownBlock) :
    Below w.heap.size w w1 ∧ Blk w1 w.heap.size 45 cs := by
  subst he
  exact ⟨hb.grown hg1 hb.size (fun k hk => by simp [Value.ownBlock] at hk; omega), hbx.grown hg1 (fun h => by simp [Value.ownBlock] at h; omega)⟩
theorem rb_src {W w1 : World} {v0 : Value} {cs : Array Value} {e g : Nat} (hbx : Blk W g 45 cs) (he : v0 = .slice (some ⟨e, 0, none⟩) 0 0) (hne : g ≠ e) (hg1 : W.grownBy w1 v0.ownBlock) : Blk w1 g 45 cs := by
  subst he
  exact hbx.grown hg1 (fun h => by simp [Value.ownBlock] at h; omega)
set_option maxHeartbeats 4000000 in
theorem radd_ok (B g : Nat) (l : List Wr) (v : Value) (h o : Int) (s : ByteArray) (w : World) (hg : Blk w g 43 #[v]) (hBg : B ≤ g) (hown : Own w B 45 3 v l.length (cellsOf l)) (hl : l.length < 16) (h0 : 0 ≤ h) (h1 : h < 16384) (o0 : 0 ≤ o) (s0 : 1 ≤ s.size) (s1 : s.size ≤ 1024) (s2 : o ≤ 8192 - (s.size : Int)) :
    Calls Try.prog 15 #[.pointer (some ⟨g, 0, none⟩), .agg #[.int .i64 h, .int .i64 o, .string s]] w fun e w' => e = .returned (.int .i64 0) ∧ RbAt w' B g (l ++ [⟨h, o, s⟩]) ∧ w.grownBy w' (some g) := by
  obtain ⟨i0, hi, hz0, hz1, hz2⟩ := info_parts Try.info45
  obtain ⟨A, cap, rfl, _, _⟩ := hown.shape
  have hc : ∀ o, (w.alloc o).cell? ⟨g, 0, none⟩ = some (.slice A l.length cap) := fun o => (hg.alloc o).cell 0
  have hc2 : ∀ o o', ((w.alloc o).alloc o').cell? ⟨g, 0, none⟩ = some (.slice A l.length cap) := fun o o' => ((hg.alloc o).alloc o').cell 0
  have hc3 : ∀ o o' o'', (((w.alloc o).alloc o').alloc o'').cell? ⟨g, 0, none⟩ = some (.slice A l.length cap) := fun o o' o'' => (((hg.alloc o).alloc o').alloc o'').cell 0
  have hgs := hg.lt
  have hBs : B ≤ w.heap.size := by omega
  have s3 : o + (s.size : Int) ≤ 8192 := by omega
  have HG := hide hg
  -- the three orders of the two new arrays
  have ea : Hid (∀ o1, Own ((w.alloc o1).alloc (.cells #[] 45)).drew w.heap.size 45 3 (.slice (some ⟨w.heap.size + 1, 0, none⟩) 0 0) 0 []) := hide fun o1 => own_empty (Blk.new' (w.alloc o1) 45 #[] _ (by simp)) (by omega)
  have eb : Hid (∀ o1 o2, Own (((w.alloc o1).alloc (.cells #[] 45)).alloc o2).drew w.heap.size 45 3 (.slice (some ⟨w.heap.size + 1, 0, none⟩) 0 0) 0 []) := hide fun o1 o2 => own_empty ((Blk.new' (w.alloc o1) 45 #[] _ (by simp)).alloc o2) (by omega)
  have ec : Hid (∀ o1 o2, Own (((w.alloc o1).alloc o2).alloc (.cells #[] 45)).drew w.heap.size 45 3 (.slice (some ⟨w.heap.size + 1 + 1, 0, none⟩) 0 0) 0 []) := hide fun o1 o2 => own_empty (Blk.new' ((w.alloc o1).alloc o2) 45 #[] _ (by simp)) (by omega)
  have sa : Hid (∀ o1 o2, 0 < l.length → ∃ a, A = some a ∧ ∀ j u, (cellsOf l)[j]? = some u → ((w.alloc o1).alloc o2).drew.cell? (a.add j) = some u) := hide fun o1 o2 => own_src ((hown.alloc o1).alloc o2)
  have sb : Hid (∀ o1 o2 o3, 0 < l.length → ∃ a, A = some a ∧ ∀ j u, (cellsOf l)[j]? = some u → (((w.alloc o1).alloc o2).alloc o3).drew.cell? (a.add j) = some u) := hide fun o1 o2 o3 => own_src (((hown.alloc o1).alloc o2).alloc o3)
  have fa : Hid (∀ o1 o2, Below w.heap.size w ((w.alloc o1).alloc o2).drew) := hide fun o1 o2 => (((Below.refl _ _).alloc (Nat.le_refl _) _).alloc (by simp) _).drew
  have fb : Hid (∀ o1 o2 o3, Below w.heap.size w (((w.alloc o1).alloc o2).alloc o3).drew) := hide fun o1 o2 o3 => ((((Below.refl _ _).alloc (Nat.le_refl _) _).alloc (by simp) _).alloc (by simp; omega) _).drew
  have ba : Hid (∀ o2, Blk ((w.alloc (.cells #[.int .i64 h, .int .i64 o, .string s] 45)).alloc o2).drew w.heap.size 45 #[.int .i64 h, .int .i64 o, .string s]) := hide fun o2 => (Blk.new w 45 _).alloc o2
  have bb : Hid (∀ o2 o3, Blk (((w.alloc (.cells #[.int .i64 h, .int .i64 o, .string s] 45)).alloc o2).alloc o3).drew w.heap.size 45 #[.int .i64 h, .int .i64 o, .string s]) := hide fun o2 o3 => ((Blk.new w 45 _).alloc o2).alloc o3
  have db : Hid (∀ o1 o2, Blk (((w.alloc o1).alloc o2).alloc (.cells #[.int .i64 h, .int .i64 o, .string s] 45)).drew (w.heap.size + 1 + 1) 45 #[.int .i64 h, .int .i64 o, .string s]) := hide fun o1 o2 => Blk.new' _ _ _ _ (by simp)
  have dc : Hid (∀ o1 o3, Blk (((w.alloc o1).alloc (.cells #[.int .i64 h, .int .i64 o, .string s] 45)).alloc o3).drew (w.heap.size + 1) 45 #[.int .i64 h, .int .i64 o, .string s]) := hide fun o1 o3 => (Blk.new' (w.alloc o1) 45 _ _ (by simp)).alloc o3
  have m1 : Hid (∀ w1 : World, 0 < 1 → ∃ a, some (⟨w1.heap.size, 0, none⟩ : Addr) = some a ∧ ∀ j u, [Value.int .i64 h, .int .i64 o, .string s][j]? = some u → (w1.alloc (.cells #[.int .i64 h, .int .i64 o, .string s] 45)).cell? (a.add j) = some u) := hide fun w1 => blk_src (Blk.new w1 45 #[.int .i64 h, .int .i64 o, .string s])
  have m2 : Hid (∀ u ∈ [Value.int .i64 h, .int .i64 o, .string s], u.oneCell' = true) := hide (by simp [Value.oneCell'])
  have m3 : 0 + l.length + 1 ≤ maxLen := by unfold maxLen; omega
  have m4 : (0 + l.length + 1) * 32 ≤ 140737488355328 := by omega
  have n1 : Hid ((cellsOf l).length = l.length * 3) := hide (cellsOf_length l)
  have n2 : Hid (∀ u ∈ cellsOf l, u.oneCell' = true) := hide (cellsOf_one _)
  have n3 : 0 + l.length ≤ maxLen := by unfold maxLen; omega
  have n4 : (0 + l.length) * 32 ≤ 140737488355328 := by omega
  clear hg hown
  go_enter Try.func15, Try.ntmps15
  go_wp2_with fail
  go_region_law (first
    | (refine step_append_Own _ rfl (.tmp 49) (.tmp 53) 41 rfl w.heap.size 45 i0 _ 3 32 Try.underlying41 hi hz0 hz1 hz2 rfl (by decide) (.slice (some ⟨w.heap.size + 1, 0, none⟩) 0 0) 0 [] rfl (ea.out _) A l.length cap (cellsOf l) rfl n1.out (sa.out _ _) n2.out n3 n4 (by simp; omega) ?_; intro v1 w1 hown1 hg1 _; have HM := hide (rb_mid (fa.out _ _) (ba.out _) rfl (by omega) hg1); obtain ⟨x0, x1, x2, _, _, _⟩ := blk3 HM.out.2; have HO1 := hide hown1; have hz5 : w.heap.size ≤ w1.heap.size := HM.out.1.size; clear hown1 hg1)
    | (refine step_append_Own _ rfl (.tmp 49) (.tmp 53) 41 rfl w.heap.size 45 i0 _ 3 32 Try.underlying41 hi hz0 hz1 hz2 rfl (by decide) (.slice (some ⟨w.heap.size + 1, 0, none⟩) 0 0) 0 [] rfl (eb.out _ _) A l.length cap (cellsOf l) rfl n1.out (sb.out _ _ _) n2.out n3 n4 (by simp; omega) ?_; intro v1 w1 hown1 hg1 _; have HM := hide (rb_mid (fb.out _ _ _) (bb.out _ _) rfl (by omega) hg1); obtain ⟨x0, x1, x2, _, _, _⟩ := blk3 HM.out.2; have HO1 := hide hown1; have hz5 : w.heap.size ≤ w1.heap.size := HM.out.1.size; have HS := hide (rb_src (db.out _ _) rfl (by omega) hg1); clear hown1 hg1)
    | (refine step_append_Own _ rfl (.tmp 49) (.tmp 53) 41 rfl w.heap.size 45 i0 _ 3 32 Try.underlying41 hi hz0 hz1 hz2 rfl (by decide) (.slice (some ⟨w.heap.size + 1 + 1, 0, none⟩) 0 0) 0 [] rfl (ec.out _ _) A l.length cap (cellsOf l) rfl n1.out (sb.out _ _ _) n2.out n3 n4 (by simp; omega) ?_; intro v1 w1 hown1 hg1 _; have HM := hide (rb_mid (fb.out _ _ _) (bb.out _ _) rfl (by omega) hg1); obtain ⟨x0, x1, x2, _, _, _⟩ := blk3 HM.out.2; have HO1 := hide hown1; have hz5 : w.heap.size ≤ w1.heap.size := HM.out.1.size; have HS := hide (rb_src (dc.out _ _) rfl (by omega) hg1); clear hown1 hg1)
    | (refine step_append_Own _ rfl (.tmp 54) (.tmp 56) 41 rfl w.heap.size 45 i0 _ 3 32 Try.underlying41 hi hz0 hz1 hz2 rfl (by decide) v1 (0 + l.length) ([] ++ cellsOf l) rfl (HO1.out.alloc _) (some ⟨w1.heap.size, 0, none⟩) 1 1 [.int .i64 h, .int .i64 o, .string s] rfl rfl (m1.out w1) m2.out m3 m4 (by first | exact hz5 | (simp; omega)) ?_; intro v2 w2 hown2 hg2 _; have HE := hide (rb_end HG.out hBs (HM.out.1.alloc hz5 _) (HO1.out.alloc _) hg2 hown2); obtain ⟨g2, cap2, hv2, _, _, _, _⟩ := hown2.form (by omega); subst hv2; have d0 := HE.out.1.cell 0; have e0 := HE.out.1.frozen 0; clear hown2 hg2)
    | (refine step_append_Own _ rfl (.tmp 54) (.tmp 56) 41 rfl w.heap.size 45 i0 _ 3 32 Try.underlying41 hi hz0 hz1 hz2 rfl (by decide) v1 (0 + l.length) ([] ++ cellsOf l) rfl HO1.out (some ⟨w.heap.size + 1 + 1, 0, none⟩) 1 1 [.int .i64 h, .int .i64 o, .string s] rfl rfl (blk_src HS.out) m2.out m3 m4 (by first | exact hz5 | (simp; omega)) ?_; intro v2 w2 hown2 hg2 _; have HE := hide (rb_end HG.out hBs HM.out.1 HO1.out hg2 hown2); obtain ⟨g2, cap2, hv2, _, _, _, _⟩ := hown2.form (by omega); subst hv2; have d0 := HE.out.1.cell 0; have e0 := HE.out.1.frozen 0; clear hown2 hg2)
    | (refine step_append_Own _ rfl (.tmp 54) (.tmp 56) 41 rfl w.heap.size 45 i0 _ 3 32 Try.underlying41 hi hz0 hz1 hz2 rfl (by decide) v1 (0 + l.length) ([] ++ cellsOf l) rfl HO1.out (some ⟨w.heap.size + 1, 0, none⟩) 1 1 [.int .i64 h, .int .i64 o, .string s] rfl rfl (blk_src HS.out) m2.out m3 m4 (by first | exact hz5 | (simp; omega)) ?_; intro v2 w2 hown2 hg2 _; have HE := hide (rb_end HG.out hBs HM.out.1 HO1.out hg2 hown2); obtain ⟨g2, cap2, hv2, _, _, _, _⟩ := hown2.form (by omega); subst hv2; have d0 := HE.out.1.cell 0; have e0 := HE.out.1.frozen 0; clear hown2 hg2))
  all_goals go_wp2
  all_goals go_ret
  all_goals
    obtain ⟨k1, k2, k3, k4⟩ := HE.out
    refine ⟨rfl, ⟨_, k2 _, hBg, ?_⟩, k4 _⟩
    have := k3 (.slice (some ⟨g2, 0, none⟩) (0 + l.length + 1) cap2)
    show Own _ B 45 3 _ (l ++ ([⟨h, o, s⟩] : List Wr)).length (cellsOf (l ++ ([⟨h, o, s⟩] : List Wr)))
    rw [List.length_append, cellsOf_append, show cellsOf ([⟨h, o, s⟩] : List Wr) = [.int .i64 h, .int .i64 o, .string s] from rfl]
    simpa using this
end Go.Proofs.Ytimdnooakpbkpaa

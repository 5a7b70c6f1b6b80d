/- The reference's pages: Write, Fill. -/
import Derived.Test.YtjpegkginmoekaaRfB
import Derived.OwnWalk
namespace Go.Proofs.Ytjpegkginmoekaa
open Go.RowKit
set_option linter.unusedVariables false

theorem Try.info89 : (Try.prog.info? 89).map (fun i => (i.zero, i.size, i.bytes)) = some (some (.agg #[.int .i64 0, .int .i64 0, .string ⟨#[]⟩]), 3, 32) := by kernel_rfl
theorem Own.lower {w : World} {base base' : Nat} {e : TypeId} {size n : Nat} {v : Value} {xs : List Value} (h : Own w base e size v n xs) (hb : base' ≤ base) : Own w base' e size v n xs := by
  refine ⟨h.1, ?_⟩
  rcases h.2 with h1 | ⟨g, cap, cur, rfl, k1, rest⟩
  · exact .inl h1
  · exact .inr ⟨g, cap, cur, rfl, Nat.le_trans hb k1, rest⟩
theorem grown_of_below {w w' : World} {g : Nat} (h : Below w.heap.size w w') (v : Value) (o : Nat) : w.grownBy (w'.setCell ⟨g, o, none⟩ v) (some g) :=
  ⟨h.os, h.tape, h.output, by have := h.size; simpa [World.setCell] using this, fun k hk hne => by
    rw [Below.heap_setCell _ _ _ _ (fun e => hne (by rw [e]))]
    exact h.block k hk⟩
theorem news_at (w : World) (cs : Array Value) (t : TypeId) (g : Nat) (hg : g = w.heap.size) : ∀ j u, cs.toList[j]? = some u → (w.alloc (.cells cs t)).cell? ((⟨g, 0, none⟩ : Addr).add j) = some u := by
  subst hg
  intro j u hu
  rw [Addr.add_lit, (Blk.new w t cs).cell]
  simpa using hu
/-- the two appends: what is told behind them -/
theorem rf_end {w w1 w2 : World} {nq : Nat} {B g : Nat} {v v1 v2 : Value} {room edge : Int} {xs : List Value} {n : Nat} {o1 o2 : Obj} (hg : Blk w g 85 #[v, .int .i64 room, .int .i64 edge]) (hB : B ≤ w.heap.size)
    (hg1 : ((w.drewN nq).alloc o1).grownBy w1 (some w.heap.size)) (hv1 : v1.ownBlock = some w.heap.size ∨ v1.ownBlock = some ((w.drewN nq).alloc o1).heap.size) (hg2 : (w1.alloc o2).grownBy w2 v1.ownBlock)
    (hown : Own w2 w.heap.size 89 3 v2 n xs) :
    Below w.heap.size w w2 ∧ Blk w2 g 85 #[v, .int .i64 room, .int .i64 edge] ∧ (∀ u, Blk (w2.setCell ⟨g, 0, none⟩ u) g 85 #[u, .int .i64 room, .int .i64 edge]) ∧ (∀ u, Own (w2.setCell ⟨g, 0, none⟩ u) B 89 3 v2 n xs) ∧ ∀ u, w.grownBy (w2.setCell ⟨g, 0, none⟩ u) (some g) := by
  have h1 : Below w.heap.size w w1 := ((below_drewN (Below.refl w.heap.size w) nq).alloc (show w.heap.size ≤ (w.drewN nq).heap.size from Nat.le_refl _) o1).grown hg1 (show w.heap.size ≤ ((w.drewN nq).alloc o1).heap.size from by simp [World.drewN]) (fun k hk => by injection hk with hk; omega)
  have h2 : Below w.heap.size w w2 := (h1.alloc h1.size o2).grown hg2 (by have := h1.size; simp; omega) (fun k hk => by
    rcases hv1 with e | e
    · rw [e] at hk; injection hk with hk; omega
    · rw [e] at hk; injection hk with hk; simp at hk; omega)
  have hb := hg.below h2 hg.lt
  refine ⟨h2, hb, fun u => ?_, fun u => (hown.lower hB).setCell (p := ⟨g, 0, none⟩) (t := 85) hb (by decide) u, fun u => grown_of_below h2 u 0⟩
  have := hb.set_ 0 u
  simpa using this

set_option maxRecDepth 10000 in
set_option maxHeartbeats 800000 in
theorem rwrite_ok (B g : Nat) (p : PS) (n : Int) (s : ByteArray) (w : World) (hp : p.Ok) (hb : RfAt w B g p) (h0 : ¬ (n < 0 ∨ 4096 ≤ n)) (hs : s.size ≤ 4096) (hk : kindP p n = 0) (hl : (p.l.length : Int) < p.room) :
    Calls Try.prog 37 #[.pointer (some ⟨g, 0, none⟩), .int .i64 n, .string s] w fun e w' => e = .returned (.int .i64 0) ∧ RfAt w' B g ⟨p.room, p.edge, p.l ++ [⟨n, 1, s⟩]⟩ ∧ w.grownBy w' (some g) := by
  obtain ⟨i0, hi0, hz0, hz1, hz2⟩ := info_parts Try.info89
  have hd : decide (0 ≤ n ∧ n < 4096) = true := by simp; omega
  have HB := hide hb
  have HP := hide hp
  have HK := hide hk
  obtain ⟨v, hg, hBg, hown⟩ := hb
  have hlen : p.l.length ≤ 4096 := by have := hp.len; have := hp.r1; omega
  have hsz := hg.lt
  obtain ⟨c0, c1, c2, z0, z1, z2⟩ := blk3 hg
  obtain ⟨A, cap, hv, hnc, hcm⟩ := hown.shape
  subst hv
  have hN : Hid (∀ nq, 0 < p.l.length → ∃ a, A = some a ∧ ∀ j u, (pgs p.l)[j]? = some u → ((w.drewN nq).alloc (.cells #[] 89)).cell? (a.add j) = some u) := hide fun nq h => by
    obtain ⟨g', cap', hv', _, _, _, _⟩ := hown.form h
    simp only [Value.slice.injEq, true_and] at hv'
    obtain ⟨rfl, rfl⟩ := hv'
    exact ⟨_, rfl, ((hown.drewN nq).alloc (.cells #[] 89)).cells (g := g') rfl⟩
  have hE : Hid (∀ nq, Own ((w.drewN nq).alloc (.cells #[] 89)) w.heap.size 89 3 (.slice (some ⟨w.heap.size, 0, none⟩) 0 0) 0 []) :=
    hide fun nq => ⟨by simp, .inr ⟨w.heap.size, 0, #[], rfl, Nat.le_refl _, heap_alloc_new (w.drewN nq) _, Nat.le_refl _, by simp [maxLen], by simp, by simp⟩⟩
  have n1 : Hid ((pgs p.l).length = p.l.length * 3) := hide (pgs_length p.l)
  have n2 : Hid (∀ u ∈ pgs p.l, u.oneCell' = true) := hide (pgs_one _)
  have n3 : 0 + p.l.length ≤ maxLen := by unfold maxLen; omega
  have n4 : (0 + p.l.length) * 32 ≤ 140737488355328 := by omega
  have n5 : ∀ nq, w.heap.size ≤ ((w.drewN nq).alloc (.cells #[] 89)).heap.size := fun nq => by show w.heap.size ≤ ((w.drewN nq).alloc (.cells #[] 89)).heap.size; simp [World.drewN]
  have m1 : Hid (∀ w1 : World, 0 < 1 → ∃ a, some (⟨w1.heap.size, 0, none⟩ : Addr) = some a ∧ ∀ j u, [Value.int .i64 n, .int .i64 1, .string s][j]? = some u → (w1.alloc (.cells #[.int .i64 n, .int .i64 1, .string s] 89)).cell? (a.add j) = some u) :=
    hide fun w1 _ => ⟨_, rfl, news_at w1 #[.int .i64 n, .int .i64 1, .string s] 89 _ (by simp)⟩
  have m2 : Hid (∀ u ∈ [Value.int .i64 n, .int .i64 1, .string s], u.oneCell' = true) := hide (by simp [Value.oneCell'])
  have m3 : 0 + p.l.length + 1 ≤ maxLen := by unfold maxLen; omega
  have m4 : (0 + p.l.length + 1) * 32 ≤ 140737488355328 := by omega
  have HG := hide hg
  have ca : ∀ nq o, ((w.drewN nq).alloc o).cell? ⟨g, 0, none⟩ = some (.slice A p.l.length cap) := fun nq o => ((hg.drewN nq).alloc o).cell 0
  clear hown hg hk hp
  go_enter Try.func37, Try.ntmps37
  go_wp2_with fail
  refine (rthere_any n _).mono ?_
  rintro e w1 ⟨rfl, rfl⟩
  rw [hd]
  go_wp2_with fail
  refine (rkind_to B g p n 0 _ HP.out HB.out HK.out).mono ?_
  rintro e w1 ⟨rfl, rfl⟩
  go_wp2_with fail
  refine (rkind_to B g p n 0 _ HP.out HB.out HK.out).mono ?_
  rintro e w1 ⟨rfl, rfl⟩
  go_wp2_with fail
  go_quiet (fail)
  go_wp2_with (first
    | (at_builtin; refine wpList_append_Own _ rfl (.tmp 37) (.tmp 41) 83 rfl w.heap.size 89 i0 _ 3 32 Try.underlying83 hi0 hz0 hz1 hz2 rfl (by decide) (.slice (some ⟨w.heap.size, 0, none⟩) 0 0) 0 [] rfl (hE.out nq) A p.l.length cap (pgs p.l) rfl n1.out (hN.out nq) n2.out n3 n4 (n5 nq) ?_; intro v1 w1 hown1 hg1 hv1; have HO1 := hide hown1; have HG1 := hide hg1; have HV1 := hide hv1; have hw1 : w.heap.size ≤ w1.heap.size := Nat.le_trans (n5 nq) hg1.size; clear hown1 hg1 hv1)
    | (at_builtin; refine wpList_append_Own _ rfl (.tmp 42) (.tmp 46) 83 rfl w.heap.size 89 i0 _ 3 32 Try.underlying83 hi0 hz0 hz1 hz2 rfl (by decide) v1 (0 + p.l.length) ([] ++ pgs p.l) rfl (HO1.out.alloc _) (some ⟨w1.heap.size, 0, none⟩) 1 1 [.int .i64 n, .int .i64 1, .string s] rfl rfl (m1.out w1) m2.out m3 m4 (by simp; omega) ?_; intro v2 w2 hown2 hg2 _; have HE := hide (rf_end HG.out (Nat.le_trans hBg (Nat.le_of_lt hsz)) HG1.out HV1.out hg2 hown2); obtain ⟨g2, cap2, hv2, _, _, _, _⟩ := hown2.form (by omega); subst hv2; have d0 := HE.out.2.1.cell 0; have e0 := HE.out.2.1.frozen 0; clear hown2 hg2 c0 c1 c2 z0 z1 z2))
  go_ret
  obtain ⟨k1, k2, k3, k4, k5⟩ := HE.out
  refine ⟨rfl, ⟨_, k3 _, hBg, ?_⟩, k5 _⟩
  have := k4 (.slice (some ⟨g2, 0, none⟩) (0 + p.l.length + 1) cap2)
  show Own _ B 89 3 _ (p.l ++ ([⟨n, 1, s⟩] : List Pg)).length (pgs (p.l ++ ([⟨n, 1, s⟩] : List Pg)))
  rw [List.length_append, pgs_append, show pgs ([⟨n, 1, s⟩] : List Pg) = [.int .i64 n, .int .i64 1, .string s] from rfl]
  simpa using this

set_option maxRecDepth 10000 in
set_option maxHeartbeats 800000 in
theorem rfill_ok (B g : Nat) (p : PS) (n : Int) (w : World) (hp : p.Ok) (hb : RfAt w B g p) (h0 : ¬ (n < 0 ∨ 4096 ≤ n)) (hk : kindP p n = 0) (hl : (p.l.length : Int) < p.room) :
    Calls Try.prog 38 #[.pointer (some ⟨g, 0, none⟩), .int .i64 n] w fun e w' => e = .returned (.int .i64 0) ∧ RfAt w' B g ⟨p.room, p.edge, p.l ++ [⟨n, 2, ⟨#[]⟩⟩]⟩ ∧ w.grownBy w' (some g) := by
  obtain ⟨i0, hi0, hz0, hz1, hz2⟩ := info_parts Try.info89
  have hd : decide (0 ≤ n ∧ n < 4096) = true := by simp; omega
  have HB := hide hb
  have HP := hide hp
  have HK := hide hk
  obtain ⟨v, hg, hBg, hown⟩ := hb
  have hlen : p.l.length ≤ 4096 := by have := hp.len; have := hp.r1; omega
  have hsz := hg.lt
  obtain ⟨c0, c1, c2, z0, z1, z2⟩ := blk3 hg
  obtain ⟨A, cap, hv, hnc, hcm⟩ := hown.shape
  subst hv
  have hN : Hid (∀ nq, 0 < p.l.length → ∃ a, A = some a ∧ ∀ j u, (pgs p.l)[j]? = some u → ((w.drewN nq).alloc (.cells #[] 89)).cell? (a.add j) = some u) := hide fun nq h => by
    obtain ⟨g', cap', hv', _, _, _, _⟩ := hown.form h
    simp only [Value.slice.injEq, true_and] at hv'
    obtain ⟨rfl, rfl⟩ := hv'
    exact ⟨_, rfl, ((hown.drewN nq).alloc (.cells #[] 89)).cells (g := g') rfl⟩
  have hE : Hid (∀ nq, Own ((w.drewN nq).alloc (.cells #[] 89)) w.heap.size 89 3 (.slice (some ⟨w.heap.size, 0, none⟩) 0 0) 0 []) :=
    hide fun nq => ⟨by simp, .inr ⟨w.heap.size, 0, #[], rfl, Nat.le_refl _, heap_alloc_new (w.drewN nq) _, Nat.le_refl _, by simp [maxLen], by simp, by simp⟩⟩
  have n1 : Hid ((pgs p.l).length = p.l.length * 3) := hide (pgs_length p.l)
  have n2 : Hid (∀ u ∈ pgs p.l, u.oneCell' = true) := hide (pgs_one _)
  have n3 : 0 + p.l.length ≤ maxLen := by unfold maxLen; omega
  have n4 : (0 + p.l.length) * 32 ≤ 140737488355328 := by omega
  have n5 : ∀ nq, w.heap.size ≤ ((w.drewN nq).alloc (.cells #[] 89)).heap.size := fun nq => by show w.heap.size ≤ ((w.drewN nq).alloc (.cells #[] 89)).heap.size; simp [World.drewN]
  have m1 : Hid (∀ w1 : World, 0 < 1 → ∃ a, some (⟨w1.heap.size, 0, none⟩ : Addr) = some a ∧ ∀ j u, [Value.int .i64 n, .int .i64 2, .string ⟨#[]⟩][j]? = some u → (w1.alloc (.cells #[.int .i64 n, .int .i64 2, .string ⟨#[]⟩] 89)).cell? (a.add j) = some u) :=
    hide fun w1 _ => ⟨_, rfl, news_at w1 #[.int .i64 n, .int .i64 2, .string ⟨#[]⟩] 89 _ (by simp)⟩
  have m2 : Hid (∀ u ∈ [Value.int .i64 n, .int .i64 2, .string ⟨#[]⟩], u.oneCell' = true) := hide (by simp [Value.oneCell'])
  have m3 : 0 + p.l.length + 1 ≤ maxLen := by unfold maxLen; omega
  have m4 : (0 + p.l.length + 1) * 32 ≤ 140737488355328 := by omega
  have HG := hide hg
  have ca : ∀ nq o, ((w.drewN nq).alloc o).cell? ⟨g, 0, none⟩ = some (.slice A p.l.length cap) := fun nq o => ((hg.drewN nq).alloc o).cell 0
  clear hown hg hk hp
  go_enter Try.func38, Try.ntmps38
  go_wp2_with fail
  refine (rthere_any n _).mono ?_
  rintro e w1 ⟨rfl, rfl⟩
  rw [hd]
  go_wp2_with fail
  refine (rkind_to B g p n 0 _ HP.out HB.out HK.out).mono ?_
  rintro e w1 ⟨rfl, rfl⟩
  go_wp2_with fail
  refine (rkind_to B g p n 0 _ HP.out HB.out HK.out).mono ?_
  rintro e w1 ⟨rfl, rfl⟩
  go_wp2_with fail
  refine (rkind_to B g p n 0 _ HP.out HB.out HK.out).mono ?_
  rintro e w1 ⟨rfl, rfl⟩
  go_wp2_with fail
  go_quiet (fail)
  go_wp2_with (first
    | (at_builtin; refine wpList_append_Own _ rfl (.tmp 36) (.tmp 40) 83 rfl w.heap.size 89 i0 _ 3 32 Try.underlying83 hi0 hz0 hz1 hz2 rfl (by decide) (.slice (some ⟨w.heap.size, 0, none⟩) 0 0) 0 [] rfl (hE.out nq) A p.l.length cap (pgs p.l) rfl n1.out (hN.out nq) n2.out n3 n4 (n5 nq) ?_; intro v1 w1 hown1 hg1 hv1; have HO1 := hide hown1; have HG1 := hide hg1; have HV1 := hide hv1; have hw1 : w.heap.size ≤ w1.heap.size := Nat.le_trans (n5 nq) hg1.size; clear hown1 hg1 hv1)
    | (at_builtin; refine wpList_append_Own _ rfl (.tmp 41) (.tmp 44) 83 rfl w.heap.size 89 i0 _ 3 32 Try.underlying83 hi0 hz0 hz1 hz2 rfl (by decide) v1 (0 + p.l.length) ([] ++ pgs p.l) rfl (HO1.out.alloc _) (some ⟨w1.heap.size, 0, none⟩) 1 1 [.int .i64 n, .int .i64 2, .string ⟨#[]⟩] rfl rfl (m1.out w1) m2.out m3 m4 (by simp; omega) ?_; intro v2 w2 hown2 hg2 _; have HE := hide (rf_end HG.out (Nat.le_trans hBg (Nat.le_of_lt hsz)) HG1.out HV1.out hg2 hown2); obtain ⟨g2, cap2, hv2, _, _, _, _⟩ := hown2.form (by omega); subst hv2; have d0 := HE.out.2.1.cell 0; have e0 := HE.out.2.1.frozen 0; clear hown2 hg2 c0 c1 c2 z0 z1 z2))
  go_ret
  obtain ⟨k1, k2, k3, k4, k5⟩ := HE.out
  refine ⟨rfl, ⟨_, k3 _, hBg, ?_⟩, k5 _⟩
  have := k4 (.slice (some ⟨g2, 0, none⟩) (0 + p.l.length + 1) cap2)
  show Own _ B 89 3 _ (p.l ++ ([⟨n, 2, ⟨#[]⟩⟩] : List Pg)).length (pgs (p.l ++ ([⟨n, 2, ⟨#[]⟩⟩] : List Pg)))
  rw [List.length_append, pgs_append, show pgs ([⟨n, 2, ⟨#[]⟩⟩] : List Pg) = [.int .i64 n, .int .i64 2, .string ⟨#[]⟩] from rfl]
  simpa using this

theorem rwrite_1 (B g : Nat) (p : PS) (n : Int) (s : ByteArray) (w : World) (hp : p.Ok) (hb : RfAt w B g p) (h0 : n < 0 ∨ 4096 ≤ n) :
    Calls Try.prog 37 #[.pointer (some ⟨g, 0, none⟩), .int .i64 n, .string s] w fun e w' => e = .returned (.int .i64 1) ∧ ∃ m, w' = w.drewN m := by
  have hd : decide (0 ≤ n ∧ n < 4096) = false := by simp; omega
  have HB := hide hb
  have HP := hide hp
  obtain ⟨v, hg, hBg, hown⟩ := hb
  obtain ⟨c0, c1, c2, z0, z1, z2⟩ := blk3 hg
  obtain ⟨A, cap, hv, hnc, hcm⟩ := hown.shape
  subst hv
  clear hown hg hp
  go_enter Try.func37, Try.ntmps37
  go_wp2_with fail
  refine (rthere_any n _).mono ?_
  rintro e w1 ⟨rfl, rfl⟩
  rw [hd]
  go_wp2
  go_ret
  exact ⟨rfl, 0, rfl⟩

theorem rwrite_2 (B g : Nat) (p : PS) (n : Int) (s : ByteArray) (w : World) (hp : p.Ok) (hb : RfAt w B g p) (h0 : ¬ (n < 0 ∨ 4096 ≤ n)) (hs : 4096 < s.size) :
    Calls Try.prog 37 #[.pointer (some ⟨g, 0, none⟩), .int .i64 n, .string s] w fun e w' => e = .returned (.int .i64 2) ∧ ∃ m, w' = w.drewN m := by
  have hd : decide (0 ≤ n ∧ n < 4096) = true := by simp; omega
  have HB := hide hb
  have HP := hide hp
  obtain ⟨v, hg, hBg, hown⟩ := hb
  obtain ⟨c0, c1, c2, z0, z1, z2⟩ := blk3 hg
  obtain ⟨A, cap, hv, hnc, hcm⟩ := hown.shape
  subst hv
  clear hown hg hp
  go_enter Try.func37, Try.ntmps37
  go_wp2_with fail
  refine (rthere_any n _).mono ?_
  rintro e w1 ⟨rfl, rfl⟩
  rw [hd]
  go_wp2
  go_ret
  exact ⟨rfl, 0, rfl⟩

theorem rwrite_43 (B g : Nat) (p : PS) (n : Int) (s : ByteArray) (w : World) (hp : p.Ok) (hb : RfAt w B g p) (h0 : ¬ (n < 0 ∨ 4096 ≤ n)) (hs : s.size ≤ 4096) (hk : kindP p n = 3) :
    Calls Try.prog 37 #[.pointer (some ⟨g, 0, none⟩), .int .i64 n, .string s] w fun e w' => e = .returned (.int .i64 43) ∧ ∃ m, w' = w.drewN m := by
  have hd : decide (0 ≤ n ∧ n < 4096) = true := by simp; omega
  have HB := hide hb
  have HP := hide hp
  obtain ⟨v, hg, hBg, hown⟩ := hb
  obtain ⟨c0, c1, c2, z0, z1, z2⟩ := blk3 hg
  obtain ⟨A, cap, hv, hnc, hcm⟩ := hown.shape
  subst hv
  have HK := hide hk
  clear hk
  clear hown hg hp
  go_enter Try.func37, Try.ntmps37
  go_wp2_with fail
  refine (rthere_any n _).mono ?_
  rintro e w1 ⟨rfl, rfl⟩
  rw [hd]
  go_wp2_with fail
  refine (rkind_to B g p n 3 _ HP.out HB.out HK.out).mono ?_
  rintro e w1 ⟨rfl, rfl⟩
  go_wp2
  go_ret
  exact ⟨rfl, 0, rfl⟩

theorem rwrite_41 (B g : Nat) (p : PS) (n : Int) (s : ByteArray) (w : World) (hp : p.Ok) (hb : RfAt w B g p) (h0 : ¬ (n < 0 ∨ 4096 ≤ n)) (hs : s.size ≤ 4096) (c : Int) (h3 : c ≠ 3) (hc0 : c ≠ 0) (hk : kindP p n = c) :
    Calls Try.prog 37 #[.pointer (some ⟨g, 0, none⟩), .int .i64 n, .string s] w fun e w' => e = .returned (.int .i64 41) ∧ ∃ m, w' = w.drewN m := by
  have hd : decide (0 ≤ n ∧ n < 4096) = true := by simp; omega
  have HB := hide hb
  have HP := hide hp
  obtain ⟨v, hg, hBg, hown⟩ := hb
  obtain ⟨c0, c1, c2, z0, z1, z2⟩ := blk3 hg
  obtain ⟨A, cap, hv, hnc, hcm⟩ := hown.shape
  subst hv
  have HK := hide hk
  clear hk
  clear hown hg hp
  go_enter Try.func37, Try.ntmps37
  go_wp2_with fail
  refine (rthere_any n _).mono ?_
  rintro e w1 ⟨rfl, rfl⟩
  rw [hd]
  go_wp2_with fail
  refine (rkind_to B g p n c _ HP.out HB.out HK.out).mono ?_
  rintro e w1 ⟨rfl, rfl⟩
  go_wp2_with fail
  refine (rkind_to B g p n c _ HP.out HB.out HK.out).mono ?_
  rintro e w1 ⟨rfl, rfl⟩
  go_wp2
  go_ret
  exact ⟨rfl, 0, rfl⟩

theorem rwrite_44 (B g : Nat) (p : PS) (n : Int) (s : ByteArray) (w : World) (hp : p.Ok) (hb : RfAt w B g p) (h0 : ¬ (n < 0 ∨ 4096 ≤ n)) (hs : s.size ≤ 4096) (hk : kindP p n = 0) (hl : p.room ≤ (p.l.length : Int)) :
    Calls Try.prog 37 #[.pointer (some ⟨g, 0, none⟩), .int .i64 n, .string s] w fun e w' => e = .returned (.int .i64 44) ∧ ∃ m, w' = w.drewN m := by
  have hd : decide (0 ≤ n ∧ n < 4096) = true := by simp; omega
  have HB := hide hb
  have HP := hide hp
  obtain ⟨v, hg, hBg, hown⟩ := hb
  obtain ⟨c0, c1, c2, z0, z1, z2⟩ := blk3 hg
  obtain ⟨A, cap, hv, hnc, hcm⟩ := hown.shape
  subst hv
  have HK := hide hk
  clear hk
  clear hown hg hp
  go_enter Try.func37, Try.ntmps37
  go_wp2_with fail
  refine (rthere_any n _).mono ?_
  rintro e w1 ⟨rfl, rfl⟩
  rw [hd]
  go_wp2_with fail
  refine (rkind_to B g p n 0 _ HP.out HB.out HK.out).mono ?_
  rintro e w1 ⟨rfl, rfl⟩
  go_wp2_with fail
  refine (rkind_to B g p n 0 _ HP.out HB.out HK.out).mono ?_
  rintro e w1 ⟨rfl, rfl⟩
  go_wp2_with fail
  go_quiet (fail)
  go_wp2
  go_ret
  exact ⟨rfl, _, rfl⟩

theorem rfill_1 (B g : Nat) (p : PS) (n : Int) (w : World) (hp : p.Ok) (hb : RfAt w B g p) (h0 : n < 0 ∨ 4096 ≤ n) :
    Calls Try.prog 38 #[.pointer (some ⟨g, 0, none⟩), .int .i64 n] w fun e w' => e = .returned (.int .i64 1) ∧ ∃ m, w' = w.drewN m := by
  have hd : decide (0 ≤ n ∧ n < 4096) = false := by simp; omega
  have HB := hide hb
  have HP := hide hp
  obtain ⟨v, hg, hBg, hown⟩ := hb
  obtain ⟨c0, c1, c2, z0, z1, z2⟩ := blk3 hg
  obtain ⟨A, cap, hv, hnc, hcm⟩ := hown.shape
  subst hv
  clear hown hg hp
  go_enter Try.func38, Try.ntmps38
  go_wp2_with fail
  refine (rthere_any n _).mono ?_
  rintro e w1 ⟨rfl, rfl⟩
  rw [hd]
  go_wp2
  go_ret
  exact ⟨rfl, 0, rfl⟩

theorem rfill_43 (B g : Nat) (p : PS) (n : Int) (w : World) (hp : p.Ok) (hb : RfAt w B g p) (h0 : ¬ (n < 0 ∨ 4096 ≤ n)) (hk : kindP p n = 3) :
    Calls Try.prog 38 #[.pointer (some ⟨g, 0, none⟩), .int .i64 n] w fun e w' => e = .returned (.int .i64 43) ∧ ∃ m, w' = w.drewN m := by
  have hd : decide (0 ≤ n ∧ n < 4096) = true := by simp; omega
  have HB := hide hb
  have HP := hide hp
  obtain ⟨v, hg, hBg, hown⟩ := hb
  obtain ⟨c0, c1, c2, z0, z1, z2⟩ := blk3 hg
  obtain ⟨A, cap, hv, hnc, hcm⟩ := hown.shape
  subst hv
  have HK := hide hk
  clear hk
  clear hown hg hp
  go_enter Try.func38, Try.ntmps38
  go_wp2_with fail
  refine (rthere_any n _).mono ?_
  rintro e w1 ⟨rfl, rfl⟩
  rw [hd]
  go_wp2_with fail
  refine (rkind_to B g p n 3 _ HP.out HB.out HK.out).mono ?_
  rintro e w1 ⟨rfl, rfl⟩
  go_wp2
  go_ret
  exact ⟨rfl, 0, rfl⟩

theorem rfill_had (B g : Nat) (p : PS) (n : Int) (w : World) (hp : p.Ok) (hb : RfAt w B g p) (h0 : ¬ (n < 0 ∨ 4096 ≤ n)) (hk : kindP p n = 2) :
    Calls Try.prog 38 #[.pointer (some ⟨g, 0, none⟩), .int .i64 n] w fun e w' => e = .returned (.int .i64 0) ∧ ∃ m, w' = w.drewN m := by
  have hd : decide (0 ≤ n ∧ n < 4096) = true := by simp; omega
  have HB := hide hb
  have HP := hide hp
  obtain ⟨v, hg, hBg, hown⟩ := hb
  obtain ⟨c0, c1, c2, z0, z1, z2⟩ := blk3 hg
  obtain ⟨A, cap, hv, hnc, hcm⟩ := hown.shape
  subst hv
  have HK := hide hk
  clear hk
  clear hown hg hp
  go_enter Try.func38, Try.ntmps38
  go_wp2_with fail
  refine (rthere_any n _).mono ?_
  rintro e w1 ⟨rfl, rfl⟩
  rw [hd]
  go_wp2_with fail
  refine (rkind_to B g p n 2 _ HP.out HB.out HK.out).mono ?_
  rintro e w1 ⟨rfl, rfl⟩
  go_wp2_with fail
  refine (rkind_to B g p n 2 _ HP.out HB.out HK.out).mono ?_
  rintro e w1 ⟨rfl, rfl⟩
  go_wp2
  go_ret
  exact ⟨rfl, 0, rfl⟩

theorem rfill_41 (B g : Nat) (p : PS) (n : Int) (w : World) (hp : p.Ok) (hb : RfAt w B g p) (h0 : ¬ (n < 0 ∨ 4096 ≤ n)) (hk : kindP p n = 1) :
    Calls Try.prog 38 #[.pointer (some ⟨g, 0, none⟩), .int .i64 n] w fun e w' => e = .returned (.int .i64 41) ∧ ∃ m, w' = w.drewN m := by
  have hd : decide (0 ≤ n ∧ n < 4096) = true := by simp; omega
  have HB := hide hb
  have HP := hide hp
  obtain ⟨v, hg, hBg, hown⟩ := hb
  obtain ⟨c0, c1, c2, z0, z1, z2⟩ := blk3 hg
  obtain ⟨A, cap, hv, hnc, hcm⟩ := hown.shape
  subst hv
  have HK := hide hk
  clear hk
  clear hown hg hp
  go_enter Try.func38, Try.ntmps38
  go_wp2_with fail
  refine (rthere_any n _).mono ?_
  rintro e w1 ⟨rfl, rfl⟩
  rw [hd]
  go_wp2_with fail
  refine (rkind_to B g p n 1 _ HP.out HB.out HK.out).mono ?_
  rintro e w1 ⟨rfl, rfl⟩
  go_wp2_with fail
  refine (rkind_to B g p n 1 _ HP.out HB.out HK.out).mono ?_
  rintro e w1 ⟨rfl, rfl⟩
  go_wp2_with fail
  refine (rkind_to B g p n 1 _ HP.out HB.out HK.out).mono ?_
  rintro e w1 ⟨rfl, rfl⟩
  go_wp2
  go_ret
  exact ⟨rfl, 0, rfl⟩

theorem rfill_44 (B g : Nat) (p : PS) (n : Int) (w : World) (hp : p.Ok) (hb : RfAt w B g p) (h0 : ¬ (n < 0 ∨ 4096 ≤ n)) (hk : kindP p n = 0) (hl : p.room ≤ (p.l.length : Int)) :
    Calls Try.prog 38 #[.pointer (some ⟨g, 0, none⟩), .int .i64 n] w fun e w' => e = .returned (.int .i64 44) ∧ ∃ m, w' = w.drewN m := by
  have hd : decide (0 ≤ n ∧ n < 4096) = true := by simp; omega
  have HB := hide hb
  have HP := hide hp
  obtain ⟨v, hg, hBg, hown⟩ := hb
  obtain ⟨c0, c1, c2, z0, z1, z2⟩ := blk3 hg
  obtain ⟨A, cap, hv, hnc, hcm⟩ := hown.shape
  subst hv
  have HK := hide hk
  clear hk
  clear hown hg hp
  go_enter Try.func38, Try.ntmps38
  go_wp2_with fail
  refine (rthere_any n _).mono ?_
  rintro e w1 ⟨rfl, rfl⟩
  rw [hd]
  go_wp2_with fail
  refine (rkind_to B g p n 0 _ HP.out HB.out HK.out).mono ?_
  rintro e w1 ⟨rfl, rfl⟩
  go_wp2_with fail
  refine (rkind_to B g p n 0 _ HP.out HB.out HK.out).mono ?_
  rintro e w1 ⟨rfl, rfl⟩
  go_wp2_with fail
  refine (rkind_to B g p n 0 _ HP.out HB.out HK.out).mono ?_
  rintro e w1 ⟨rfl, rfl⟩
  go_wp2_with fail
  go_quiet (fail)
  go_wp2
  go_ret
  exact ⟨rfl, _, rfl⟩

theorem kinds {p : PS} (hp : p.Ok) {n : Int} (h0 : ¬ (n < 0 ∨ 4096 ≤ n)) : (n < p.edge ∧ kindP p n = 3) ∨ (¬ n < p.edge ∧ (kindP p n = 0 ∨ kindP p n = 1 ∨ kindP p n = 2)) := by
  unfold kindP
  rw [if_neg h0]
  by_cases he : n < p.edge
  · rw [if_pos he]; exact .inl ⟨he, rfl⟩
  · rw [if_neg he]
    cases hf : findP n p.l with
    | none => exact .inr ⟨he, .inl rfl⟩
    | some x => exact .inr ⟨he, (hp.kd x (findP_some hf).1).elim (fun h => .inr (.inl h)) (fun h => .inr (.inr h))⟩
theorem grown_drewN (w : World) (m : Nat) (row : Option Nat) : w.grownBy (w.drewN m) row := ⟨rfl, rfl, rfl, Nat.le_refl _, fun _ _ _ => rfl⟩
theorem rwrite_any (B g : Nat) (p : PS) (n : Int) (s : ByteArray) (w : World) (hp : p.Ok) (hb : RfAt w B g p) :
    Calls Try.prog 37 #[.pointer (some ⟨g, 0, none⟩), .int .i64 n, .string s] w fun e w' => e = .returned (.int .i64 (writeErr p n s)) ∧ RfAt w' B g (writeP p n s) ∧ w.grownBy w' (some g) := by
  have fin : ∀ (c : Int), writeErr p n s = c → c ≠ 0 → Calls Try.prog 37 #[.pointer (some ⟨g, 0, none⟩), .int .i64 n, .string s] w (fun e w' => e = .returned (.int .i64 c) ∧ ∃ m, w' = w.drewN m) → Calls Try.prog 37 #[.pointer (some ⟨g, 0, none⟩), .int .i64 n, .string s] w fun e w' => e = .returned (.int .i64 (writeErr p n s)) ∧ RfAt w' B g (writeP p n s) ∧ w.grownBy w' (some g) := fun c hc h0 h => h.mono (by
    rintro e w' ⟨rfl, m, rfl⟩
    refine ⟨by rw [hc], ?_, grown_drewN w m _⟩
    unfold writeP
    rw [if_neg (by rw [hc]; exact h0)]
    exact hb.drewN m)
  by_cases h0 : n < 0 ∨ 4096 ≤ n
  · exact fin 1 (by unfold writeErr; rw [if_pos h0]) (by decide) (rwrite_1 B g p n s w hp hb h0)
  by_cases hs : 4096 < s.size
  · exact fin 2 (by unfold writeErr; rw [if_neg h0, if_pos hs]) (by decide) (rwrite_2 B g p n s w hp hb h0 hs)
  rcases kinds hp h0 with ⟨he, hk⟩ | ⟨he, hk⟩
  · exact fin 43 (by unfold writeErr; rw [if_neg h0, if_neg hs, if_pos he]) (by decide) (rwrite_43 B g p n s w hp hb h0 (by omega) hk)
  · by_cases hk0 : kindP p n = 0
    · by_cases hl : p.room ≤ (p.l.length : Int)
      · exact fin 44 (by unfold writeErr; rw [if_neg h0, if_neg hs, if_neg he, if_neg (by simpa using hk0), if_pos hl]) (by decide) (rwrite_44 B g p n s w hp hb h0 (by omega) hk0 hl)
      · have e0 : writeErr p n s = 0 := by unfold writeErr; rw [if_neg h0, if_neg hs, if_neg he, if_neg (by simpa using hk0), if_neg hl]
        refine (rwrite_ok B g p n s w hp hb h0 (by omega) hk0 (by omega)).mono ?_
        rintro e w' ⟨rfl, h1, h2⟩
        refine ⟨by rw [e0], ?_, h2⟩
        unfold writeP
        rw [if_pos e0]
        exact h1
    · exact fin 41 (by unfold writeErr; rw [if_neg h0, if_neg hs, if_neg he, if_pos hk0]) (by decide) (rwrite_41 B g p n s w hp hb h0 (by omega) _ (by rcases hk with h | h | h <;> rw [h] <;> decide) hk0 rfl)
theorem rfill_any (B g : Nat) (p : PS) (n : Int) (w : World) (hp : p.Ok) (hb : RfAt w B g p) :
    Calls Try.prog 38 #[.pointer (some ⟨g, 0, none⟩), .int .i64 n] w fun e w' => e = .returned (.int .i64 (fillErr p n)) ∧ RfAt w' B g (fillP p n) ∧ w.grownBy w' (some g) := by
  have fin : ∀ (c : Int), fillErr p n = c → ¬ (fillErr p n = 0 ∧ kindP p n = 0) → Calls Try.prog 38 #[.pointer (some ⟨g, 0, none⟩), .int .i64 n] w (fun e w' => e = .returned (.int .i64 c) ∧ ∃ m, w' = w.drewN m) → Calls Try.prog 38 #[.pointer (some ⟨g, 0, none⟩), .int .i64 n] w fun e w' => e = .returned (.int .i64 (fillErr p n)) ∧ RfAt w' B g (fillP p n) ∧ w.grownBy w' (some g) := fun c hc h0 h => h.mono (by
    rintro e w' ⟨rfl, m, rfl⟩
    refine ⟨by rw [hc], ?_, grown_drewN w m _⟩
    unfold fillP
    rw [if_neg h0]
    exact hb.drewN m)
  by_cases h0 : n < 0 ∨ 4096 ≤ n
  · have e : fillErr p n = 1 := by unfold fillErr; rw [if_pos h0]
    exact fin 1 e (by rw [e]; simp) (rfill_1 B g p n w hp hb h0)
  rcases kinds hp h0 with ⟨he, hk⟩ | ⟨he, hk | hk | hk⟩
  · have e : fillErr p n = 43 := by unfold fillErr; rw [if_neg h0, if_pos hk]
    exact fin 43 e (by rw [e]; simp) (rfill_43 B g p n w hp hb h0 hk)
  · by_cases hl : p.room ≤ (p.l.length : Int)
    · have e : fillErr p n = 44 := by unfold fillErr; rw [if_neg h0, if_neg (by rw [hk]; decide), if_neg (by rw [hk]; decide), if_neg (by rw [hk]; decide), if_pos hl]
      exact fin 44 e (by rw [e]; simp) (rfill_44 B g p n w hp hb h0 hk hl)
    · have e0 : fillErr p n = 0 := by unfold fillErr; rw [if_neg h0, if_neg (by rw [hk]; decide), if_neg (by rw [hk]; decide), if_neg (by rw [hk]; decide), if_neg hl]
      refine (rfill_ok B g p n w hp hb h0 hk (by omega)).mono ?_
      rintro e w' ⟨rfl, h1, h2⟩
      refine ⟨by rw [e0], ?_, h2⟩
      unfold fillP
      rw [if_pos ⟨e0, hk⟩]
      exact h1
  · have e : fillErr p n = 41 := by unfold fillErr; rw [if_neg h0, if_neg (by rw [hk]; decide), if_neg (by rw [hk]; decide), if_pos hk]
    exact fin 41 e (by rw [e]; simp) (rfill_41 B g p n w hp hb h0 hk)
  · have e : fillErr p n = 0 := by unfold fillErr; rw [if_neg h0, if_neg (by rw [hk]; decide), if_pos hk]
    exact fin 0 e (by rw [hk]; simp) (rfill_had B g p n w hp hb h0 hk)
end Go.Proofs.Ytjpegkginmoekaa

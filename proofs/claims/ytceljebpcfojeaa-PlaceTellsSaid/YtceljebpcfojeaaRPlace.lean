/- The reference's Of, Addr, Chain; Projection at equal projections. -/
import Derived.Test.YtceljebpcfojeaaChain
namespace Go.Proofs.Ytceljebpcfojeaa
open Go.RowKit
set_option linter.unusedVariables false

def rofVal (ep : Int) (cs : List (List Int)) (addr : Int) : Value := if ofB ep cs addr = true then .agg #[.int .i64 (addr % cs.length), .int .i64 (addr / cs.length), .bool true] else .agg #[.int .i64 0, .int .i64 0, .bool false]
theorem three_below {w w1 : World} {a b c d f : Value} {t u : TypeId} (hb : Below ((w.alloc (.cells #[a, b] t)).alloc (.cells #[c, d, f] u)).heap.size ((w.alloc (.cells #[a, b] t)).alloc (.cells #[c, d, f] u)) w1) :
    Blk w1 w.heap.size t #[a, b] ∧ Blk w1 (w.heap.size + 1) u #[c, d, f] ∧ Below w.heap.size w w1 :=
  ⟨((Blk.new w t _).alloc _).below hb (by simp; omega), (Blk.new' (w.alloc (.cells #[a, b] t)) u #[c, d, f] (w.heap.size + 1) (by simp)).below hb (by simp), (((Below.refl _ _).alloc (Nat.le_refl _) _).alloc (by simp) _).trans (hb.mono (by simp; omega))⟩
theorem Blk.thr {w : World} {g : Nat} {a b c : Value} {t : TypeId} (h : Blk w g t #[a, b, c]) : w.cell? ⟨g, 0, none⟩ = some a ∧ w.cell? ⟨g, 1, none⟩ = some b ∧ w.cell? ⟨g, 2, none⟩ = some c ∧ w.frozen? ⟨g, 0, none⟩ = false ∧ w.frozen? ⟨g, 1, none⟩ = false ∧ w.frozen? ⟨g, 2, none⟩ = false := ⟨h.cell 0, h.cell 1, h.cell 2, h.frozen 0, h.frozen 1, h.frozen 2⟩

set_option maxHeartbeats 800000 in
theorem rof_no (B : Nat) (ep addr : Int) (v : Value) (cs : List (List Int)) (w : World) (h : PrAt w B v cs) (hB : B ≤ w.heap.size) (hno : ofB ep cs addr = false) :
    Calls Try.prog 19 #[.agg #[.int .i64 ep, v], .int .i64 addr] w fun e w' => e = .returned (.agg #[.int .i64 0, .int .i64 0, .bool false]) ∧ Below w.heap.size w w' := by
  have HPA : Hid (∀ o o', PrAt ((w.alloc o).alloc o') w.heap.size v cs) := hide fun o o' => h.below (((Below.refl _ _).alloc (Nat.le_refl _) _).alloc (by simp) _) hB
  unfold ofB at hno
  by_cases hg : goodP ep cs = true
  · have HG := hide hg
    rw [hg, Bool.true_and, decide_eq_false_iff_not] at hno
    clear hg
    by_cases h0 : 0 ≤ addr
    · have h1 : 16384 ≤ addr := by omega
      go_enter Try.func19, Try.ntmps19
      go_wp2_with fail
      refine (rgood_to w.heap.size ep v cs true _ (HPA.out _ _) (by simp; omega) HG.out).mono ?_
      rintro e w1 ⟨rfl, hb1⟩
      obtain ⟨k1, k2, k3⟩ := three_below hb1
      have HB3 := hide k3
      obtain ⟨c0, c1, c2, z0, z1, z2⟩ := k2.thr
      clear k1 k2 k3 hb1
      go_wp2
      refine bodyPost_ret (v := .agg #[.int .i64 0, .int .i64 0, .bool false]) (by simp [results, Try.results19, go_sem, c0, c1, c2]) rfl ⟨rfl, ?_⟩
      exact ((HB3.out.setCell (by simp) _).setCell (by simp) _).setCell (by simp) _
    · go_enter Try.func19, Try.ntmps19
      go_wp2_with fail
      refine (rgood_to w.heap.size ep v cs true _ (HPA.out _ _) (by simp; omega) HG.out).mono ?_
      rintro e w1 ⟨rfl, hb1⟩
      obtain ⟨k1, k2, k3⟩ := three_below hb1
      have HB3 := hide k3
      obtain ⟨c0, c1, c2, z0, z1, z2⟩ := k2.thr
      clear k1 k2 k3 hb1
      go_wp2
      refine bodyPost_ret (v := .agg #[.int .i64 0, .int .i64 0, .bool false]) (by simp [results, Try.results19, go_sem, c0, c1, c2]) rfl ⟨rfl, ?_⟩
      exact ((HB3.out.setCell (by simp) _).setCell (by simp) _).setCell (by simp) _
  · have HG := hide (eq_false_of_ne_true hg)
    clear hg hno
    go_enter Try.func19, Try.ntmps19
    go_wp2_with fail
    refine (rgood_to w.heap.size ep v cs false _ (HPA.out _ _) (by simp; omega) HG.out).mono ?_
    rintro e w1 ⟨rfl, hb1⟩
    obtain ⟨k1, k2, k3⟩ := three_below hb1
    have HB3 := hide k3
    obtain ⟨c0, c1, c2, z0, z1, z2⟩ := k2.thr
    clear k1 k2 k3 hb1
    go_wp2
    refine bodyPost_ret (v := .agg #[.int .i64 0, .int .i64 0, .bool false]) (by simp [results, Try.results19, go_sem, c0, c1, c2]) rfl ⟨rfl, ?_⟩
    exact ((HB3.out.setCell (by simp) _).setCell (by simp) _).setCell (by simp) _

set_option maxHeartbeats 800000 in
theorem rof_yes (B : Nat) (ep addr : Int) (v : Value) (cs : List (List Int)) (w : World) (h : PrAt w B v cs) (hB : B ≤ w.heap.size) (hyes : ofB ep cs addr = true) :
    Calls Try.prog 19 #[.agg #[.int .i64 ep, v], .int .i64 addr] w fun e w' => e = .returned (.agg #[.int .i64 (addr % cs.length), .int .i64 (addr / cs.length), .bool true]) ∧ Below w.heap.size w w' := by
  obtain ⟨hg, h0, h1⟩ := ofB_yes hyes
  obtain ⟨n0, n1⟩ := goodP_len hg
  have HG := hide hg
  have HPA : Hid (∀ o o', PrAt ((w.alloc o).alloc o') w.heap.size v cs) := hide fun o o' => h.below (((Below.refl _ _).alloc (Nat.le_refl _) _).alloc (by simp) _) hB
  obtain ⟨A, cap, rfl, hcap, hcap2⟩ := h.shape
  clear hg h hyes
  generalize hn : cs.length = n at *
  clear hn
  have i0 : (0 : Int) < (n : Int) := by omega
  have i1 : ¬ (n = 0) := by omega
  have d0 : 0 ≤ addr / n := Int.ediv_nonneg h0 (by omega)
  have d1 : addr / n ≤ addr := Int.ediv_le_self _ h0
  have m0 : 0 ≤ addr % n := Int.emod_nonneg _ (by omega)
  have m1 : addr % n < n := Int.emod_lt_of_pos _ i0
  go_enter Try.func19, Try.ntmps19
  go_wp2_with fail
  refine (rgood_to w.heap.size ep _ cs true _ (HPA.out _ _) (by simp; omega) HG.out).mono ?_
  rintro e w1 ⟨rfl, hb1⟩
  obtain ⟨k1, k2, k3⟩ := three_below hb1
  have HB3 := hide k3
  obtain ⟨a0, a1, _, _⟩ := k1.two
  obtain ⟨c0, c1, c2, z0, z1, z2⟩ := k2.thr
  clear k1 k2 k3 hb1
  go_wp2_with fail
  go_region
  all_goals go_wp2
  all_goals refine bodyPost_ret (v := .agg #[.int .i64 (addr % n), .int .i64 (addr / n), .bool true]) (by simp [results, Try.results19, go_sem, c0, c1, c2]) rfl ⟨rfl, ?_⟩
  all_goals exact (((HB3.out.setCell (by simp) _).setCell (by simp) _).setCell (by simp) _).drew
theorem rof_any (B : Nat) (ep addr : Int) (v : Value) (cs : List (List Int)) (w : World) (h : PrAt w B v cs) (hB : B ≤ w.heap.size) :
    Calls Try.prog 19 #[.agg #[.int .i64 ep, v], .int .i64 addr] w fun e w' => e = .returned (rofVal ep cs addr) ∧ Below w.heap.size w w' := by
  unfold rofVal
  by_cases hb : ofB ep cs addr = true
  · rw [if_pos hb]
    exact rof_yes B ep addr v cs w h hB hb
  · rw [if_neg hb]
    exact rof_no B ep addr v cs w h hB (eq_false_of_ne_true hb)
theorem rof_to (B : Nat) (ep addr : Int) (v : Value) (cs : List (List Int)) (r : Value) (w : World) (h : PrAt w B v cs) (hB : B ≤ w.heap.size) (hr : rofVal ep cs addr = r) :
    Calls Try.prog 19 #[.agg #[.int .i64 ep, v], .int .i64 addr] w fun e w' => e = .returned r ∧ Below w.heap.size w w' := by
  subst hr
  exact rof_any B ep addr v cs w h hB

/-- what the reference's Addr answers -/
def radVal (ep : Int) (cs : List (List Int)) (c p : Int) : Int := if adB ep cs c p = true then p * cs.length + c else -1
theorem adB_iff {ep c p : Int} {cs : List (List Int)} (hg : goodP ep cs = true) (n0 : 1 ≤ cs.length) : adB ep cs c p = true ↔ (0 ≤ c ∧ c < cs.length ∧ 0 ≤ p ∧ p * cs.length + c < 16384) := by
  unfold adB
  rw [hg, Bool.true_and, decide_eq_true_iff]
  constructor
  · rintro ⟨h0, h1, h2, h3⟩
    have := (Int.le_ediv_iff_mul_le (show (0 : Int) < cs.length by omega)).1 h3
    exact ⟨h0, h1, h2, by omega⟩
  · rintro ⟨h0, h1, h2, h3⟩
    exact ⟨h0, h1, h2, (Int.le_ediv_iff_mul_le (show (0 : Int) < cs.length by omega)).2 (by omega)⟩

set_option maxRecDepth 10000 in
set_option maxHeartbeats 1600000 in
theorem radd_any (B : Nat) (ep c p : Int) (v : Value) (cs : List (List Int)) (w : World) (h : PrAt w B v cs) (hB : B ≤ w.heap.size) :
    Calls Try.prog 20 #[.agg #[.int .i64 ep, v], .agg #[.int .i64 c, .int .i64 p]] w fun e w' => e = .returned (.int .i64 (radVal ep cs c p)) ∧ Below w.heap.size w w' := by
  have HPA : Hid (∀ o o', PrAt ((w.alloc o).alloc o') w.heap.size v cs) := hide fun o o' => h.below (((Below.refl _ _).alloc (Nat.le_refl _) _).alloc (by simp) _) hB
  obtain ⟨A, cap, rfl, hcap, hcap2⟩ := h.shape
  clear h
  have hR : Hid (radVal ep cs c p = if adB ep cs c p = true then p * cs.length + c else -1) := hide rfl
  generalize radVal ep cs c p = r at *
  by_cases hg : goodP ep cs = true
  · obtain ⟨n0, n1⟩ := goodP_len hg
    have HG := hide hg
    have HI := hide (adB_iff (c := c) (p := p) hg n0)
    clear hg
    generalize adB ep cs c p = ab at *
    generalize cs.length = n at *
    by_cases h0 : 0 ≤ c
    · by_cases h1 : c < (n : Int)
      · by_cases h2 : 0 ≤ p
        · by_cases h3 : p < 16384
          · have m0 : 0 ≤ p * (n : Int) := Int.mul_nonneg h2 (by omega)
            have m1 : p * (n : Int) ≤ 16383 * 4 := Int.mul_le_mul (by omega) (by omega) (by omega) (by omega)
            have m2 : p * (n : Int) ≤ 65532 := m1
            clear m1
            by_cases h4 : p * (n : Int) + c < 16384
            · have HR : Hid (r = p * n + c) := hide (by rw [hR.out, if_pos (HI.out.2 ⟨h0, h1, h2, h4⟩)])
              go_enter Try.func20, Try.ntmps20
              go_wp2_with fail
              refine (rgood_to w.heap.size ep _ cs true _ (HPA.out _ _) (by simp; omega) HG.out).mono ?_
              rintro e w1 ⟨rfl, hb1⟩
              have HB3 := hide (two_below hb1).2.2
              obtain ⟨⟨x0, x1⟩, x2, x3⟩ := two_cells (two_below hb1).1 (two_below hb1).2.1
              clear hb1
              go_wp2
              go_ret
              exact ⟨by rw [HR.out]; rfl, HB3.out⟩
            · have HR : Hid (r = -1) := hide (by rw [hR.out, if_neg (fun h => h4 (HI.out.1 h).2.2.2)])
              go_enter Try.func20, Try.ntmps20
              go_wp2_with fail
              refine (rgood_to w.heap.size ep _ cs true _ (HPA.out _ _) (by simp; omega) HG.out).mono ?_
              rintro e w1 ⟨rfl, hb1⟩
              have HB3 := hide (two_below hb1).2.2
              obtain ⟨⟨x0, x1⟩, x2, x3⟩ := two_cells (two_below hb1).1 (two_below hb1).2.1
              clear hb1
              go_wp2
              go_ret
              exact ⟨by rw [HR.out]; rfl, HB3.out⟩
          · have HR : Hid (r = -1) := hide (by
              rw [hR.out, if_neg (fun h => ?_)]
              have h5 := (HI.out.1 h).2.2.2
              have h6 : p * 1 ≤ p * (n : Int) := Int.mul_le_mul_of_nonneg_left (by omega) h2
              omega)
            go_enter Try.func20, Try.ntmps20
            go_wp2_with fail
            refine (rgood_to w.heap.size ep _ cs true _ (HPA.out _ _) (by simp; omega) HG.out).mono ?_
            rintro e w1 ⟨rfl, hb1⟩
            have HB3 := hide (two_below hb1).2.2
            obtain ⟨⟨x0, x1⟩, x2, x3⟩ := two_cells (two_below hb1).1 (two_below hb1).2.1
            clear hb1
            go_wp2
            go_ret
            exact ⟨by rw [HR.out]; rfl, HB3.out⟩
        · have HR : Hid (r = -1) := hide (by rw [hR.out, if_neg (fun h => h2 (HI.out.1 h).2.2.1)])
          go_enter Try.func20, Try.ntmps20
          go_wp2_with fail
          refine (rgood_to w.heap.size ep _ cs true _ (HPA.out _ _) (by simp; omega) HG.out).mono ?_
          rintro e w1 ⟨rfl, hb1⟩
          have HB3 := hide (two_below hb1).2.2
          obtain ⟨⟨x0, x1⟩, x2, x3⟩ := two_cells (two_below hb1).1 (two_below hb1).2.1
          clear hb1
          go_wp2
          go_ret
          exact ⟨by rw [HR.out]; rfl, HB3.out⟩
      · have HR : Hid (r = -1) := hide (by rw [hR.out, if_neg (fun h => h1 (HI.out.1 h).2.1)])
        go_enter Try.func20, Try.ntmps20
        go_wp2_with fail
        refine (rgood_to w.heap.size ep _ cs true _ (HPA.out _ _) (by simp; omega) HG.out).mono ?_
        rintro e w1 ⟨rfl, hb1⟩
        have HB3 := hide (two_below hb1).2.2
        obtain ⟨⟨x0, x1⟩, x2, x3⟩ := two_cells (two_below hb1).1 (two_below hb1).2.1
        clear hb1
        go_wp2
        go_ret
        exact ⟨by rw [HR.out]; rfl, HB3.out⟩
    · have HR : Hid (r = -1) := hide (by rw [hR.out, if_neg (fun h => h0 (HI.out.1 h).1)])
      go_enter Try.func20, Try.ntmps20
      go_wp2_with fail
      refine (rgood_to w.heap.size ep _ cs true _ (HPA.out _ _) (by simp; omega) HG.out).mono ?_
      rintro e w1 ⟨rfl, hb1⟩
      have HB3 := hide (two_below hb1).2.2
      obtain ⟨⟨x0, x1⟩, x2, x3⟩ := two_cells (two_below hb1).1 (two_below hb1).2.1
      clear hb1
      go_wp2
      go_ret
      exact ⟨by rw [HR.out]; rfl, HB3.out⟩
  · have hgf := eq_false_of_ne_true hg
    have HG := hide hgf
    have HR : Hid (r = -1) := hide (by
      have : adB ep cs c p = false := by unfold adB; rw [hgf, Bool.false_and]
      rw [hR.out, this, if_neg (by decide)])
    clear hg hgf hR
    generalize cs.length = n at *
    go_enter Try.func20, Try.ntmps20
    go_wp2_with fail
    refine (rgood_to w.heap.size ep _ cs false _ (HPA.out _ _) (by simp; omega) HG.out).mono ?_
    rintro e w1 ⟨rfl, hb1⟩
    have HB3 := hide (two_below hb1).2.2
    obtain ⟨⟨x0, x1⟩, x2, x3⟩ := two_cells (two_below hb1).1 (two_below hb1).2.1
    clear hb1
    go_wp2
    go_ret
    exact ⟨by rw [HR.out]; rfl, HB3.out⟩

set_option maxHeartbeats 1600000 in
theorem rchain_any (B : Nat) (ep addr : Int) (v : Value) (cs : List (List Int)) (w : World) (h : PrAt w B v cs) (hB : B ≤ w.heap.size) :
    Calls Try.prog 23 #[.agg #[.int .i64 ep, v], .int .i64 addr] w (SlPost (chainOf ep cs addr) w) := by
  obtain ⟨i0, hi0, hz0, hz1, hz2⟩ := info_parts Try.info3
  have HI0 : Hid (In w ep v cs (w.alloc (.cells #[.int .i64 ep, v] 24))) := hide (In.start (h.below (Below.refl _ _) hB))
  obtain ⟨A, cap, rfl, hcap, hcap2⟩ := h.shape
  by_cases hb : ofB ep cs addr = true
  · obtain ⟨hg, h0, h1⟩ := ofB_yes hb
    obtain ⟨n0, n1⟩ := goodP_len hg
    have hn : (1 : Int) ≤ (cs.length : Int) := by omega
    have hp := (place_ok hn h0 h1).1
    obtain ⟨j, hj⟩ := Int.eq_ofNat_of_zero_le hp.1
    have hjl : j < cs.length := by omega
    have hc := chain_at hj hjl hb
    have hle : (chainOf ep cs addr).length ≤ 4 := by
      have := (goodP_parts hg).1
      unfold goodC at this
      rw [List.all_eq_true] at this
      have := this _ (List.mem_of_getElem? hc)
      simp only [decide_eq_true_iff] at this
      exact this.2
    have HO : Hid (rofVal ep cs addr = .agg #[.int .i64 j, .int .i64 (addr / cs.length), .bool true]) := hide (by unfold rofVal; rw [if_pos hb, hj])
    generalize chainOf ep cs addr = c at *
    obtain ⟨b, off, Aj, capj, rfl, hb', hcell0, hcj, hcj2, hrd, hok⟩ := h.chain hc
    have HC0 := hide hcell0
    have HRD := hide hrd
    clear h hrd hok hcell0 hc hj hp hb hg hn
    generalize hxp : addr / (cs.length : Int) = xp at *
    clear hxp
    go_enter Try.func23, Try.ntmps23
    go_wp2_with fail
    refine (rof_to w.heap.size ep addr _ cs _ _ HI0.out.pr HI0.out.bel.size HO.out).mono ?_
    rintro e w1 ⟨rfl, hb1⟩
    have HI1 := hide (HI0.out.below hb1)
    have hws := HI1.out.bel.size
    have z0 : ∀ o o', ((w1.alloc o).alloc o').cell? ⟨w.heap.size, 0, none⟩ = some (.int .i64 ep) := fun o o' => (((HI0.out.below hb1).alloc o).alloc o').box.cell 0
    have z1 : ∀ o o', ((w1.alloc o).alloc o').cell? ⟨w.heap.size, 1, none⟩ = some (.slice (some ⟨b, off, none⟩) cs.length cap) := fun o o' => (((HI0.out.below hb1).alloc o).alloc o').box.cell 1
    have hcell : ∀ o o', ((w1.alloc o).alloc o').cell? ⟨b, off + j, none⟩ = some (.slice Aj c.length capj) := fun o o' => ((((HI0.out.below hb1).alloc o).alloc o').bel.cell (p := ⟨b, off + j, none⟩) (show b < w.heap.size by omega)).trans HC0.out
    have hN : Hid (∀ o o', 0 < c.length → ∃ a', Aj = some a' ∧ ∀ k u, (ints c)[k]? = some u → ((w1.alloc o).alloc o').cell? (a'.add k) = some u) := hide fun o o' h0 => by
      obtain ⟨b1, o1, rfl, h2, h3⟩ := HRD.out (by rw [ints_length]; exact h0)
      refine ⟨_, rfl, fun k u hu => ?_⟩
      rw [Addr.add_lit]
      exact ((((HI1.out.alloc o).alloc o').bel.cell (p := ⟨b1, o1 + k, none⟩) (show b1 < w.heap.size by omega))).trans (h3 k u hu)
    have hE : Hid (∀ o, Own ((w1.alloc o).alloc (.cells #[] 3)) w1.heap.size 3 1 (.slice (some ⟨w1.heap.size + 1, 0, none⟩) 0 0) 0 []) := hide fun o => own_empty (Blk.new' (w1.alloc o) 3 #[] _ (by simp)) (by omega)
    have n1' : Hid ((ints c).length = c.length * 1) := hide (by rw [ints_length, Nat.mul_one])
    have n2 : Hid (∀ u ∈ ints c, u.oneCell' = true) := hide (ints_one _)
    have n3 : 0 + c.length ≤ maxLen := by unfold maxLen; omega
    have n4 : (0 + c.length) * 8 ≤ 140737488355328 := by omega
    clear hb1
    go_wp2_with (at_builtin; refine wpList_append_Own _ rfl (.tmp 12) (.tmp 19) 52 rfl w1.heap.size 3 i0 _ 1 8 Try.underlying52 hi0 hz0 hz1 hz2 rfl (by decide) (.slice (some ⟨w1.heap.size + 1, 0, none⟩) 0 0) 0 [] rfl (hE.out _) Aj c.length capj (ints c) rfl n1'.out (hN.out _ _) n2.out n3 n4 (by simp; omega) ?_; intro v' w2 hown2 hg2 _; have HE := hide hown2; have HG2 := hide hg2; clear hown2 hg2)
    go_ret
    obtain ⟨A', cap', rfl, k1, k2, k3⟩ := rd_own (by simpa using HE.out)
    exact ⟨A', cap', rfl, k1, k2, k3, ((HI1.out.alloc _).alloc _).bel.grown HG2.out (by simp; omega) (fun k hk => by simp [Value.ownBlock] at hk; omega)⟩
  · have HO : Hid (rofVal ep cs addr = .agg #[.int .i64 0, .int .i64 0, .bool false]) := hide (by unfold rofVal; rw [if_neg hb])
    have hc : chainOf ep cs addr = [] := by unfold chainOf; rw [if_neg hb]
    rw [hc]
    clear h hb hc
    go_enter Try.func23, Try.ntmps23
    go_wp2_with fail
    refine (rof_to w.heap.size ep addr _ cs _ _ HI0.out.pr HI0.out.bel.size HO.out).mono ?_
    rintro e w1 ⟨rfl, hb1⟩
    have HI1 := hide ((HI0.out.below hb1).alloc (.cells #[.int .i64 0, .int .i64 0, .bool false] 48))
    clear hb1
    go_wp2
    go_ret
    exact ⟨none, 0, rfl, Nat.le_refl _, by omega, fun h => by simp [ints] at h, HI1.out.bel⟩
end Go.Proofs.Ytceljebpcfojeaa

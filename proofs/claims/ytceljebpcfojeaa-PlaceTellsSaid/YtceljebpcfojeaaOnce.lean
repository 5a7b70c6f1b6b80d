/- The law PlaceOnce. -/
import Derived.Test.YtceljebpcfojeaaRGood
namespace Go.Proofs.Ytceljebpcfojeaa
open Go.RowKit
set_option linter.unusedVariables false

theorem large_to (B : Nat) (ep : Int) (v : Value) (cs : List (List Int)) (g : Bool) (w : World) (h : PrAt w B v cs) (hB : B ≤ w.heap.size) (hg : largeP cs = g) :
    Calls Try.prog 8 #[.agg #[.int .i64 ep, v]] w fun e w' => e = .returned (.bool g) ∧ Below w.heap.size w w' := by
  subst hg
  exact large_any B ep v cs w h hB
/-- the argument's own new block, and all that was there before, behind calls -/
structure In (w : World) (ep : Int) (v : Value) (cs : List (List Int)) (wr : World) : Prop where
  box : Blk wr w.heap.size 24 #[.int .i64 ep, v]
  pr : PrAt wr w.heap.size v cs
  bel : Below w.heap.size w wr
section
variable {w wr w' : World} {ep : Int} {v : Value} {cs : List (List Int)}
theorem In.start (h : PrAt w w.heap.size v cs) : In w ep v cs (w.alloc (.cells #[.int .i64 ep, v] 24)) :=
  ⟨Blk.new w 24 _, h.below ((Below.refl _ _).alloc (Nat.le_refl _) _) (Nat.le_refl _), (Below.refl _ _).alloc (Nat.le_refl _) _⟩
theorem In.below (h : In w ep v cs wr) (hb : Below wr.heap.size wr w') : In w ep v cs w' :=
  ⟨h.box.below hb h.box.lt, h.pr.below (hb.mono h.bel.size) (Nat.le_refl _), h.bel.trans (hb.mono h.bel.size)⟩
theorem In.alloc (h : In w ep v cs wr) (o : Obj) : In w ep v cs (wr.alloc o) := h.below ((Below.refl _ _).alloc (Nat.le_refl _) _)
theorem In.drew (h : In w ep v cs wr) : In w ep v cs wr.drew := h.below (Below.refl _ _).drew
end

theorem of_to (B : Nat) (ep addr : Int) (v : Value) (cs : List (List Int)) (r : Value) (w : World) (h : PrAt w B v cs) (hB : B ≤ w.heap.size) (hr : ofVal ep cs addr = r) :
    Calls Try.prog 17 #[.agg #[.int .i64 ep, v], .int .i64 addr] w fun e w' => e = .returned r ∧ Below w.heap.size w w' := by
  subst hr
  exact of_any B ep addr v cs w h hB
theorem ofVal_good {ep addr : Int} {cs : List (List Int)} (hg : goodP ep cs = true) (h : 0 ≤ addr ∧ addr < 16384) : ofVal ep cs addr = .tuple #[.agg #[.int .i64 (addr % cs.length), .int .i64 (addr / cs.length)], .bool true] := by
  have : ofB ep cs addr = true := by
    unfold ofB
    rw [hg, decide_eq_true h]
    rfl
  unfold ofVal
  rw [if_pos this]
  rfl
/-- where an address lies -/
theorem place_ok {n i : Int} (hn : 1 ≤ n) (h0 : 0 ≤ i) (h1 : i < 16384) : (0 ≤ i % n ∧ i % n < n ∧ 0 ≤ i / n ∧ i / n ≤ (16383 - i % n) / n) ∧ i / n * n + i % n = i ∧ i / n ≤ 16383 := by
  have e : i / n * n + i % n = i := by rw [Int.mul_comm]; exact Int.mul_ediv_add_emod i n
  refine ⟨⟨Int.emod_nonneg _ (by omega), Int.emod_lt_of_pos _ (by omega), Int.ediv_nonneg h0 (by omega), ?_⟩, e, ?_⟩
  · rw [Int.le_ediv_iff_mul_le (by omega)]
    omega
  · have := Int.ediv_le_self n h0
    omega
theorem place_eq {n i k : Int} (hn : 1 ≤ n) (h0 : 0 ≤ i) (h1 : i < 16384) (k0 : 0 ≤ k) (k1 : k < 16384) : (i % n = k % n ∧ i / n = k / n) ↔ i = k := by
  constructor
  · rintro ⟨e1, e2⟩
    have a := (place_ok hn h0 h1).2.1
    have b := (place_ok hn k0 k1).2.1
    rw [← a, ← b, e1, e2]
  · rintro rfl
    exact ⟨rfl, rfl⟩

set_option maxRecDepth 100000 in
set_option maxHeartbeats 1600000 in
theorem once_any (ep a b : Int) (v : Value) (cs : List (List Int)) (w : World) (h : PrAt w w.heap.size v cs) :
    Calls Try.prog 4 #[.agg #[.int .i64 ep, v], .int .i64 a, .int .i64 b] w fun e w' => e = .returned (.bool true) ∧ Below w.heap.size w w' := by
  have HI0 : Hid (In w ep v cs (w.alloc (.cells #[.int .i64 ep, v] 24))) := hide (In.start h)
  clear h
  by_cases hL : largeP cs = true
  · have HL := hide hL
    clear hL
    go_enter Try.func4, Try.ntmps4
    go_wp2_with fail
    refine (large_to w.heap.size ep v cs true _ HI0.out.pr (by simp) HL.out).mono ?_
    rintro e w1 ⟨rfl, hb1⟩
    have HI1 := hide (HI0.out.below hb1)
    clear hb1
    go_wp2_with fail
    refine (wakes_any _).mono ?_
    rintro e w2 ⟨rfl, hb2⟩
    have HI2 := hide (HI1.out.below hb2)
    clear hb2
    go_wp2
    go_ret
    exact ⟨rfl, HI2.out.bel⟩
  have HL := hide (eq_false_of_ne_true hL)
  clear hL
  by_cases hG : goodP ep cs = true
  · obtain ⟨n0, n1⟩ := goodP_len hG
    have HG := hide hG
    clear hG
    have i0 : 0 ≤ a % 16384 := by omega
    have i1 : a % 16384 < 16384 := by omega
    have k0 : 0 ≤ b % 16384 := by omega
    have k1 : b % 16384 < 16384 := by omega
    have HA := hide (rfl : a % 16384 = a % 16384)
    have HB := hide (rfl : b % 16384 = b % 16384)
    generalize hi : a % 16384 = i at i0 i1 HA
    generalize hk : b % 16384 = k at k0 k1 HB
    have HI := hide hi.symm
    have HK := hide hk.symm
    clear hi hk HA HB
    have hn : (1 : Int) ≤ (cs.length : Int) := by omega
    have HOi := hide (ofVal_good HG.out ⟨i0, i1⟩)
    have HOk := hide (ofVal_good HG.out ⟨k0, k1⟩)
    obtain ⟨p1, p2, p3⟩ := place_ok hn i0 i1
    have HP1 := hide p1
    have HP2 := hide p2
    have HE := hide (place_eq hn i0 i1 k0 k1)
    clear p1 p2 p3
    generalize hxc : i % (cs.length : Int) = xc at *
    generalize hxp : i / (cs.length : Int) = xp at *
    generalize hyc : k % (cs.length : Int) = yc at *
    generalize hyp : k / (cs.length : Int) = yp at *
    clear hxc hxp hyc hyp
    go_enter Try.func4, Try.ntmps4
    go_wp2_with fail
    refine (large_to w.heap.size ep v cs false _ HI0.out.pr (by simp) HL.out).mono ?_
    rintro e w1 ⟨rfl, hb1⟩
    have HI1 := hide (HI0.out.below hb1)
    clear hb1
    obtain ⟨x0, x1, _, _⟩ := HI1.out.box.two
    go_wp2_with fail
    refine (rgood_to w.heap.size ep v cs true _ HI1.out.pr HI1.out.bel.size HG.out).mono ?_
    rintro e w2 ⟨rfl, hb2⟩
    have HI2 := hide (HI1.out.below hb2)
    clear hb2 x0 x1
    go_wp2_with fail
    refine (mod_any a 16384 i (by decide) (by decide) HI.out _).mono ?_
    rintro e w3 ⟨rfl, rfl⟩
    go_wp2_with fail
    refine (mod_any b 16384 k (by decide) (by decide) HK.out _).mono ?_
    rintro e w3 ⟨rfl, rfl⟩
    obtain ⟨x0, x1, _, _⟩ := HI2.out.box.two
    go_wp2_with fail
    refine (of_to w.heap.size ep i v cs _ _ HI2.out.pr HI2.out.bel.size HOi.out).mono ?_
    rintro e w4 ⟨rfl, hb4⟩
    have HI4 := hide ((HI2.out.below hb4).alloc (.cells #[.int .i64 xc, .int .i64 xp] 40))
    have HX4 := hide (Blk.new w4 40 #[.int .i64 xc, .int .i64 xp])
    clear hb4 x0 x1
    obtain ⟨x0, x1, _, _⟩ := HI4.out.box.two
    go_wp2_with fail
    refine (of_to w.heap.size ep k v cs _ _ HI4.out.pr HI4.out.bel.size HOk.out).mono ?_
    rintro e w5 ⟨rfl, hb5⟩
    have HI5 := hide ((HI4.out.below hb5).alloc (.cells #[.int .i64 yc, .int .i64 yp] 40))
    have HX5 := hide ((HX4.out.below hb5 HX4.out.lt).alloc (.cells #[.int .i64 yc, .int .i64 yp] 40))
    have HY5 := hide (Blk.new w5 40 #[.int .i64 yc, .int .i64 yp])
    clear hb5 x0 x1
    obtain ⟨x0, x1, _, _⟩ := HI5.out.box.two
    obtain ⟨y0, y1, _, _⟩ := HX5.out.two
    go_wp2_with fail
    refine (addr_yes w.heap.size ep xc xp v cs _ HI5.out.pr HI5.out.bel.size HG.out HP1.out).mono ?_
    rintro e w6 ⟨rfl, hb6⟩
    rw [HP2.out, show AdVal i true = .tuple #[.int .i64 i, .bool true] from rfl]
    have HI6 := hide (HI5.out.below hb6)
    have HX6 := hide (HX5.out.below hb6 HX5.out.lt)
    have HY6 := hide (HY5.out.below hb6 HY5.out.lt)
    clear hb6 x0 x1 y0 y1
    obtain ⟨y0, y1, _, _⟩ := HX6.out.two
    obtain ⟨z0, z1, _, _⟩ := HY6.out.two
    by_cases e1 : xc = yc
    · by_cases e2 : xp = yp
      · have e3 := HE.out.1 ⟨e1, e2⟩
        subst e1
        subst e2
        subst e3
        go_wp2_with fail
        refine (wakes_any _).mono ?_
        rintro e w7 ⟨rfl, hb7⟩
        have HI7 := hide (HI6.out.below hb7)
        clear hb7
        go_wp2
        go_ret
        exact ⟨rfl, HI7.out.bel⟩
      · have e3 : ¬ i = k := fun h => e2 (HE.out.2 h).2
        have f2 : (xp == yp) = false := by simpa using e2
        have f3 : (i == k) = false := by simpa using e3
        subst e1
        clear e2 e3
        go_wp2_with fail
        refine (wakes_any _).mono ?_
        rintro e w7 ⟨rfl, hb7⟩
        have HI7 := hide (HI6.out.below hb7)
        clear hb7
        go_wp2
        go_ret
        exact ⟨rfl, HI7.out.bel⟩
    · have e3 : ¬ i = k := fun h => e1 (HE.out.2 h).1
      have f1 : (xc == yc) = false := by simpa using e1
      have f3 : (i == k) = false := by simpa using e3
      clear e1 e3
      go_wp2_with fail
      refine (wakes_any _).mono ?_
      rintro e w7 ⟨rfl, hb7⟩
      have HI7 := hide (HI6.out.below hb7)
      clear hb7
      go_wp2
      go_ret
      exact ⟨rfl, HI7.out.bel⟩
  · have HG := hide (eq_false_of_ne_true hG)
    clear hG
    go_enter Try.func4, Try.ntmps4
    go_wp2_with fail
    refine (large_to w.heap.size ep v cs false _ HI0.out.pr (by simp) HL.out).mono ?_
    rintro e w1 ⟨rfl, hb1⟩
    have HI1 := hide (HI0.out.below hb1)
    clear hb1
    obtain ⟨x0, x1, _, _⟩ := HI1.out.box.two
    go_wp2_with fail
    refine (rgood_to w.heap.size ep v cs false _ HI1.out.pr HI1.out.bel.size HG.out).mono ?_
    rintro e w2 ⟨rfl, hb2⟩
    have HI2 := hide (HI1.out.below hb2)
    clear hb2 x0 x1
    go_wp2_with fail
    refine (wakes_any _).mono ?_
    rintro e w3 ⟨rfl, hb3⟩
    have HI3 := hide (HI2.out.below hb3)
    clear hb3
    go_wp2
    go_ret
    exact ⟨rfl, HI3.out.bel⟩
end Go.Proofs.Ytceljebpcfojeaa

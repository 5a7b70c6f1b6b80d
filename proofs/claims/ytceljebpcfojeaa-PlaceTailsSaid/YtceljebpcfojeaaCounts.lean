/- The law PlaceCounts. -/
import Derived.Test.YtceljebpcfojeaaOnce
namespace Go.Proofs.Ytceljebpcfojeaa
open Go.RowKit
set_option linter.unusedVariables false

theorem below_to (B : Nat) (ep addr ch r : Int) (v : Value) (cs : List (List Int)) (w : World) (h : PrAt w B v cs) (hB : B ≤ w.heap.size) (hr : beVal ep cs addr ch = r) :
    Calls Try.prog 13 #[.agg #[.int .i64 ep, v], .int .i64 addr, .int .i64 ch] w fun e w' => e = .returned (.int .i64 r) ∧ Below w.heap.size w w' := by
  subst hr
  exact below_any B ep addr ch v cs w h hB
/-- how many of the first j chains' pages lie below a -/
def sumB (n a : Int) : Nat → Int
  | 0 => 0
  | j + 1 => sumB n a j + beV n a j
theorem beV_eq {n a ch : Int} (hn : 1 ≤ n) (a0 : 0 ≤ a) (a1 : a < 16384) (c0 : 0 ≤ ch) (c1 : ch < n) : beV n a ch = if ch < a % n then a / n + 1 else a / n := by
  unfold beV
  have e : a / n * n + a % n = a := by rw [Int.mul_comm]; exact Int.mul_ediv_add_emod a n
  have m0 := Int.emod_nonneg a (show n ≠ 0 by omega)
  have m1 := Int.emod_lt_of_pos a (show 0 < n by omega)
  have d0 : 0 ≤ a / n := Int.ediv_nonneg a0 (by omega)
  have hp : 0 ≤ a / n * n := Int.mul_nonneg d0 (by omega)
  rw [show max (min (max a 0) 16384 - ch + n - 1) 0 = a / n * n + (a % n - ch + n - 1) by omega]
  rw [Int.add_comm, Int.add_mul_ediv_right _ _ (by omega)]
  split
  · rw [show (a % n - ch + n - 1) / n = 1 by
      rw [Int.ediv_eq_iff_of_pos (by omega)]
      omega]
    omega
  · rw [Int.ediv_eq_zero_of_lt (by omega) (by omega)]
    omega
theorem sumB_eq {n a : Int} (hn : 1 ≤ n) (a0 : 0 ≤ a) (a1 : a < 16384) : ∀ j : Nat, (j : Int) ≤ n → sumB n a j = a / n * j + min (j : Int) (a % n) := by
  have m0 := Int.emod_nonneg a (show n ≠ 0 by omega)
  intro j
  induction j with
  | zero => intro _; simp [sumB]; omega
  | succ j ih =>
    intro hj
    rw [sumB, ih (by omega), beV_eq hn a0 a1 (by omega) (by omega)]
    rw [show ((j + 1 : Nat) : Int) = (j : Int) + 1 by omega, Int.mul_add, Int.mul_one]
    split <;> omega
theorem sumB_all {n a : Int} {k : Nat} (hk : (k : Int) = n) (hn : 1 ≤ n) (a0 : 0 ≤ a) (a1 : a < 16384) : sumB n a k = a := by
  rw [sumB_eq hn a0 a1 k (by omega), hk]
  have e : a / n * n + a % n = a := by rw [Int.mul_comm]; exact Int.mul_ediv_add_emod a n
  have m1 := Int.emod_lt_of_pos a (show 0 < n by omega)
  omega
theorem beVal_good {ep addr ch : Int} {cs : List (List Int)} (hg : goodP ep cs = true) (h : 0 ≤ ch ∧ ch < cs.length) : beVal ep cs addr ch = beV cs.length addr ch := by
  have : beB ep cs ch = true := by
    unfold beB
    rw [hg, decide_eq_true h]
    rfl
  unfold beVal
  rw [if_pos this]
theorem beV_range {n a ch : Int} (hn : 1 ≤ n) (a0 : 0 ≤ a) (a1 : a < 16384) (c0 : 0 ≤ ch) (c1 : ch < n) : 0 ≤ beV n a ch ∧ beV n a ch ≤ 16384 := by
  rw [beV_eq hn a0 a1 c0 c1]
  have d0 : 0 ≤ a / n := Int.ediv_nonneg a0 (by omega)
  have d1 := Int.ediv_le_self n a0
  split <;> omega
theorem sumB_range {n a : Int} (hn : 1 ≤ n) (a0 : 0 ≤ a) (a1 : a < 16384) : ∀ j : Nat, (j : Int) ≤ n → 0 ≤ sumB n a j ∧ sumB n a j ≤ 16384 * j := by
  intro j
  induction j with
  | zero => intro _; simp [sumB]
  | succ j ih =>
    intro hj
    have h1 := ih (by omega)
    have h2 := beV_range (a := a) hn a0 a1 (show 0 ≤ (j : Int) by omega) (by omega)
    rw [sumB]
    omega

set_option maxRecDepth 100000 in
set_option maxHeartbeats 1600000 in
theorem counts_any (ep a : Int) (v : Value) (cs : List (List Int)) (w : World) (h : PrAt w w.heap.size v cs) :
    Calls Try.prog 5 #[.agg #[.int .i64 ep, v], .int .i64 a] w fun e w' => e = .returned (.bool true) ∧ Below w.heap.size w w' := by
  have HI0 : Hid (In w ep v cs (w.alloc (.cells #[.int .i64 ep, v] 24))) := hide (In.start h)
  by_cases hL : largeP cs = true
  · have HL := hide hL
    clear hL h
    go_enter Try.func5, Try.ntmps5
    go_wp2_with fail
    refine (large_to w.heap.size ep v cs true _ HI0.out.pr (by simp) HL.out).mono ?_
    rintro e w1 ⟨rfl, hb1⟩
    have HI1 := hide (HI0.out.below hb1)
    clear hb1
    go_wp2_with fail
    refine (wakes_any _).mono ?_
    rintro e w2 ⟨rfl, hb2⟩
    have HI2 := hide (HI1.out.below hb2)
    clear hb2
    go_wp2
    go_ret
    exact ⟨rfl, HI2.out.bel⟩
  have HL := hide (eq_false_of_ne_true hL)
  clear hL
  by_cases hG : goodP ep cs = true
  · obtain ⟨n0, n1⟩ := goodP_len hG
    have HG := hide hG
    clear hG
    have i0 : 0 ≤ a % 16384 := by omega
    have i1 : a % 16384 < 16384 := by omega
    generalize hi : a % 16384 = i at i0 i1
    have HI := hide hi.symm
    clear hi
    have hn : (1 : Int) ≤ (cs.length : Int) := by omega
    have HOi := hide (ofVal_good HG.out ⟨i0, i1⟩)
    have HPl := hide (place_ok hn i0 i1)
    have HBX : Hid (beVal ep cs i (i % cs.length) = i / cs.length) := hide (by
      have hp := HPl.out.1
      rw [beVal_good HG.out ⟨hp.1, hp.2.1⟩, beV_eq hn i0 i1 hp.1 hp.2.1, if_neg (by omega)])
    have HSum := hide (sumB_all (a := i) (k := cs.length) rfl hn i0 i1)
    have HSR := hide (sumB_range (n := cs.length) (a := i) hn i0 i1)
    have HBR := hide (fun (j : Nat) (hj : j < cs.length) => beV_range (n := cs.length) (a := i) hn i0 i1 (show 0 ≤ (j : Int) by omega) (by omega))
    have HBV := hide (fun (j : Nat) (hj : j < cs.length) => beVal_good (addr := i) (ch := (j : Int)) HG.out ⟨by omega, by omega⟩)
    generalize hxc : i % (cs.length : Int) = xc at *
    generalize hxp : i / (cs.length : Int) = xp at *
    clear hxc hxp
    obtain ⟨A, cap, rfl, hcap, hcap2⟩ := h.shape
    clear h
    go_enter Try.func5, Try.ntmps5
    go_wp2_with fail
    refine (large_to w.heap.size ep _ cs false _ HI0.out.pr (by simp) HL.out).mono ?_
    rintro e w1 ⟨rfl, hb1⟩
    have HI1 := hide (HI0.out.below hb1)
    clear hb1
    obtain ⟨x0, x1, _, _⟩ := HI1.out.box.two
    go_wp2_with fail
    refine (rgood_to w.heap.size ep _ cs true _ HI1.out.pr HI1.out.bel.size HG.out).mono ?_
    rintro e w2 ⟨rfl, hb2⟩
    have HI2 := hide (HI1.out.below hb2)
    clear hb2 x0 x1
    go_wp2_with fail
    refine (mod_any a 16384 i (by decide) (by decide) HI.out _).mono ?_
    rintro e w3 ⟨rfl, rfl⟩
    go_wp2_with fail
    go_loopw [6, 7] (fun nv iv wr => ∃ j : Nat, j ≤ cs.length ∧ iv = .int .i64 j ∧ nv = .int .i64 (sumB cs.length i j) ∧ In w ep (.slice A cs.length cap) cs wr) (fun _ iv _ => cs.length - (intOf iv).toNat)
    case atStart => exact ⟨0, Nat.zero_le _, rfl, rfl, HI2.out⟩
    case round =>
      obtain ⟨j, hj, rfl, rfl, hin⟩ := hrel
      have HIN := hide hin
      obtain ⟨x0, x1, _, _⟩ := hin.box.two
      clear hin
      have hsr := HSR.out j (by omega)
      obtain ⟨s0, s1⟩ := hsr
      have HSS : Hid (sumB cs.length i (j + 1) = sumB cs.length i j + beV cs.length i j) := hide rfl
      by_cases hlt : j < cs.length
      · obtain ⟨b0, b1⟩ := HBR.out j hlt
        have hj3 : (16384 : Int) * j ≤ 65536 := by omega
        generalize sumB cs.length i j = sj at *
        have HBVj := hide (HBV.out j hlt)
        generalize beV cs.length i j = bj at *
        go_wp2_with fail
        refine (below_to w.heap.size ep i j bj _ cs _ HIN.out.pr HIN.out.bel.size HBVj.out).mono ?_
        rintro e w4 ⟨rfl, hb4⟩
        have HI4 := hide (HIN.out.below hb4)
        clear hb4
        go_wp2
        go_roundw
        case rel => exact ⟨j + 1, by omega, by go_num, by rw [HSS.out], HI4.out⟩
        case measure => simp [intOf]; omega
      · have HS : Hid (sumB cs.length i j = i) := hide (by
          have : j = cs.length := by omega
          rw [this, HSum.out])
        generalize sumB cs.length i j = sj at *
        obtain rfl := HS.out
        clear HSS
        go_wp2_with fail
        refine (of_to w.heap.size ep sj _ cs _ _ HIN.out.pr HIN.out.bel.size HOi.out).mono ?_
        rintro e w5 ⟨rfl, hb5⟩
        have HI5 := hide ((HIN.out.below hb5).alloc (.cells #[.int .i64 xc, .int .i64 xp] 40)).drew
        have HX5 : Hid (Blk (w5.alloc (.cells #[.int .i64 xc, .int .i64 xp] 40)).drew w5.heap.size 40 #[.int .i64 xc, .int .i64 xp]) := hide (Blk.new w5 40 #[.int .i64 xc, .int .i64 xp])
        clear hb5 x0 x1
        have K5 : Hid (((w5.alloc (.cells #[.int .i64 xc, .int .i64 xp] 40)).drew.cell? ⟨w.heap.size, 0, none⟩ = some (.int .i64 ep) ∧ (w5.alloc (.cells #[.int .i64 xc, .int .i64 xp] 40)).drew.cell? ⟨w.heap.size, 1, none⟩ = some (.slice A cs.length cap)) ∧ (w5.alloc (.cells #[.int .i64 xc, .int .i64 xp] 40)).drew.cell? ⟨w5.heap.size, 0, none⟩ = some (.int .i64 xc) ∧ (w5.alloc (.cells #[.int .i64 xc, .int .i64 xp] 40)).drew.cell? ⟨w5.heap.size, 1, none⟩ = some (.int .i64 xp)) := hide (two_cells HI5.out.box HX5.out)
        go_wp2_with fail
        go_region_held3 (fun w' => (w'.cell? ⟨w.heap.size, 0, none⟩ = some (.int .i64 ep) ∧ w'.cell? ⟨w.heap.size, 1, none⟩ = some (.slice A cs.length cap)) ∧ w'.cell? ⟨w5.heap.size, 0, none⟩ = some (.int .i64 xc) ∧ w'.cell? ⟨w5.heap.size, 1, none⟩ = some (.int .i64 xp)) (first | (with_reducible exact K7.out) | (with_reducible exact K6.out) | (with_reducible exact K5.out)) ((first | (go_at_call 13; refine (below_to w.heap.size ep sj xc xp _ cs _ HI5.out.pr HI5.out.bel.size HBX.out).mono ?_; rintro e w6 ⟨rfl, hb6⟩; have HI6 := hide (HI5.out.below hb6); have K6 := hide (two_cells (HI5.out.below hb6).box (HX5.out.below hb6 HX5.out.lt)); have HX6 := hide (HX5.out.below hb6 HX5.out.lt); clear hb6) | (go_at_call 9; refine (wakes_any _).mono ?_; rintro e w7 ⟨rfl, hb7⟩; have HI7 := hide (HI6.out.below hb7); have K7 := hide (two_cells (HI6.out.below hb7).box (HX6.out.below hb7 HX6.out.lt)); clear hb7)))
        go_wp2
        go_ret
        exact ⟨rfl, HI7.out.bel⟩
  · have HG := hide (eq_false_of_ne_true hG)
    clear hG h
    go_enter Try.func5, Try.ntmps5
    go_wp2_with fail
    refine (large_to w.heap.size ep v cs false _ HI0.out.pr (by simp) HL.out).mono ?_
    rintro e w1 ⟨rfl, hb1⟩
    have HI1 := hide (HI0.out.below hb1)
    clear hb1
    obtain ⟨x0, x1, _, _⟩ := HI1.out.box.two
    go_wp2_with fail
    refine (rgood_to w.heap.size ep v cs false _ HI1.out.pr HI1.out.bel.size HG.out).mono ?_
    rintro e w2 ⟨rfl, hb2⟩
    have HI2 := hide (HI1.out.below hb2)
    clear hb2 x0 x1
    go_wp2_with fail
    refine (wakes_any _).mono ?_
    rintro e w3 ⟨rfl, hb3⟩
    have HI3 := hide (HI2.out.below hb3)
    clear hb3
    go_wp2
    go_ret
    exact ⟨rfl, HI3.out.bel⟩
end Go.Proofs.Ytceljebpcfojeaa

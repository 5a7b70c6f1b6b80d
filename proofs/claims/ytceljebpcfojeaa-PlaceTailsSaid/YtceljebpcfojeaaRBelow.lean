/- The reference's Below. -/
import Derived.Test.YtceljebpcfojeaaCounts
namespace Go.Proofs.Ytceljebpcfojeaa
open Go.RowKit
set_option linter.unusedVariables false

theorem beV_count {n addr ch x : Int} {m : Nat} (hn : 1 ≤ n) (c0 : 0 ≤ ch) (c1 : ch < n) (hx : x = ch + m * n) (hge : max 0 (min addr 16384) ≤ x) (hlt : m = 0 ∨ x - n < max 0 (min addr 16384)) : beV n addr ch = m := by
  unfold beV
  rw [show min (max addr 0) 16384 = max 0 (min addr 16384) by omega]
  generalize max 0 (min addr 16384) = A at *
  have hp : 0 ≤ (m : Int) * n := Int.mul_nonneg (by omega) (by omega)
  rcases hlt with rfl | hlt
  · simp only [Int.natCast_zero, Int.zero_mul, Int.add_zero] at hx
    rw [Int.ediv_eq_zero_of_lt (by omega) (by omega)]
    rfl
  · rw [Int.ediv_eq_iff_of_pos (by omega)]
    omega

theorem rbelow_no (B : Nat) (ep addr ch : Int) (v : Value) (cs : List (List Int)) (w : World) (h : PrAt w B v cs) (hB : B ≤ w.heap.size) (hno : beB ep cs ch = false) :
    Calls Try.prog 14 #[.agg #[.int .i64 ep, v], .int .i64 addr, .int .i64 ch] w fun e w' => e = .returned (.int .i64 0) ∧ Below w.heap.size w w' := by
  have HPA : Hid (∀ o, PrAt (w.alloc o) w.heap.size v cs) := hide fun o => h.below ((Below.refl _ _).alloc (Nat.le_refl _) _) hB
  obtain ⟨A, cap, rfl, hcap, hcap2⟩ := h.shape
  clear h
  unfold beB at hno
  by_cases hg : goodP ep cs = true
  · have HG := hide hg
    rw [hg, Bool.true_and, decide_eq_false_iff_not] at hno
    clear hg
    generalize cs.length = n at *
    by_cases h0 : 0 ≤ ch
    · have h1 : (n : Int) ≤ ch := by omega
      clear hno
      go_enter Try.func14, Try.ntmps14
      go_wp2_with fail
      refine (rgood_to w.heap.size ep _ cs true _ (HPA.out _) (by simp) HG.out).mono ?_
      rintro e w1 ⟨rfl, hb1⟩
      obtain ⟨c0, c1, k3⟩ := Blk.new2 hb1
      have HB3 := hide k3
      clear k3 hb1
      go_wp2
      go_ret
      exact ⟨rfl, HB3.out⟩
    · clear hno
      go_enter Try.func14, Try.ntmps14
      go_wp2_with fail
      refine (rgood_to w.heap.size ep _ cs true _ (HPA.out _) (by simp) HG.out).mono ?_
      rintro e w1 ⟨rfl, hb1⟩
      obtain ⟨c0, c1, k3⟩ := Blk.new2 hb1
      have HB3 := hide k3
      clear k3 hb1
      go_wp2
      go_ret
      exact ⟨rfl, HB3.out⟩
  · have HG := hide (eq_false_of_ne_true hg)
    clear hg hno
    generalize cs.length = n at *
    go_enter Try.func14, Try.ntmps14
    go_wp2_with fail
    refine (rgood_to w.heap.size ep _ cs false _ (HPA.out _) (by simp) HG.out).mono ?_
    rintro e w1 ⟨rfl, hb1⟩
    obtain ⟨c0, c1, k3⟩ := Blk.new2 hb1
    have HB3 := hide k3
    clear k3 hb1
    go_wp2
    go_ret
    exact ⟨rfl, HB3.out⟩

set_option maxHeartbeats 800000 in
theorem rbelow_yes (B : Nat) (ep addr ch : Int) (v : Value) (cs : List (List Int)) (w : World) (h : PrAt w B v cs) (hB : B ≤ w.heap.size) (hyes : beB ep cs ch = true) :
    Calls Try.prog 14 #[.agg #[.int .i64 ep, v], .int .i64 addr, .int .i64 ch] w fun e w' => e = .returned (.int .i64 (beV cs.length addr ch)) ∧ Below w.heap.size w w' := by
  have HPA : Hid (∀ o, PrAt (w.alloc o) w.heap.size v cs) := hide fun o => h.below ((Below.refl _ _).alloc (Nat.le_refl _) _) hB
  obtain ⟨A, cap, rfl, hcap, hcap2⟩ := h.shape
  clear h
  unfold beB at hyes
  rw [Bool.and_eq_true, decide_eq_true_iff] at hyes
  obtain ⟨hg, h0, h1⟩ := hyes
  obtain ⟨n0, n1⟩ := goodP_len hg
  have HG := hide hg
  clear hg
  generalize cs.length = n at *
  have hbe := hide (fun (x : Int) (m : Nat) => beV_count (n := n) (addr := addr) (x := x) (m := m) (by omega) h0 h1)
  generalize beV n addr ch = bv at *
  go_enter Try.func14, Try.ntmps14
  go_wp2_with fail
  refine (rgood_to w.heap.size ep _ cs true _ (HPA.out _) (by simp) HG.out).mono ?_
  rintro e w1 ⟨rfl, hb1⟩
  obtain ⟨c0, c1, k3⟩ := Blk.new2 hb1
  have HB3 := hide k3
  clear k3 hb1
  go_wp2_with fail
  go_loop [7, 8] (fun nv av => ∃ (m : Nat) (x : Int), nv = .int .i64 m ∧ av = .int .i64 x ∧ 0 ≤ x ∧ x ≤ 20000 ∧ (m : Int) ≤ x ∧ Hid (x = ch + m * n ∧ (m = 0 ∨ x - n < max 0 (min addr 16384)))) (fun _ av => (20001 - intOf av).toNat)
  case atStart => exact ⟨0, ch, rfl, rfl, h0, by omega, by omega, hide ⟨by simp, .inl rfl⟩⟩
  case round =>
    obtain ⟨m, x, rfl, rfl, hx0, hx1, hmx, HX⟩ := hrel
    by_cases hlt : x < max 0 (min addr 16384)
    · have hx2 : x + n ≤ 20000 := by omega
      have HLT := hide hlt
      go_wp2
      go_round
      case rel => exact ⟨m + 1, x + n, by go_num, rfl, by omega, by omega, by omega, hide ⟨by have := HX.out.1; rw [show ((m + 1 : Nat) : Int) = (m : Int) + 1 by omega, Int.add_mul, Int.one_mul]; omega, .inr (by have := HLT.out; omega)⟩⟩
      case measure => simp [intOf]; omega
    · have HV : Hid (bv = m) := hide (hbe.out x m HX.out.1 (by omega) HX.out.2)
      go_wp2
      go_ret
      exact ⟨by rw [HV.out]; rfl, HB3.out⟩
theorem rbelow_to (B : Nat) (ep addr ch r : Int) (v : Value) (cs : List (List Int)) (w : World) (h : PrAt w B v cs) (hB : B ≤ w.heap.size) (hr : beVal ep cs addr ch = r) :
    Calls Try.prog 14 #[.agg #[.int .i64 ep, v], .int .i64 addr, .int .i64 ch] w fun e w' => e = .returned (.int .i64 r) ∧ Below w.heap.size w w' := by
  subst hr
  unfold beVal
  by_cases hb : beB ep cs ch = true
  · rw [if_pos hb]
    exact rbelow_yes B ep addr ch v cs w h hB hb
  · rw [if_neg hb]
    exact rbelow_no B ep addr ch v cs w h hB (eq_false_of_ne_true hb)
end Go.Proofs.Ytceljebpcfojeaa

/- place.Addr, whole; Projection at equal projections. -/
import Derived.Test.YtceljebpcfojeaaAddr
namespace Go.Proofs.Ytceljebpcfojeaa
open Go.RowKit
set_option linter.unusedVariables false

theorem below_drewN_ {B : Nat} {w w' : World} (h : Below B w w') (n : Nat) : Below B w (w'.drewN n) := ⟨h.os, h.tape, h.output, h.size, h.block⟩
set_option maxRecDepth 10000 in
set_option maxHeartbeats 1600000 in
theorem addr_p1 (B n cap : Nat) (A : Option Addr) (ep c p : Int) (cs : List (List Int)) (w : World) (h : PrAt w B (.slice A n cap) cs) (hB : B ≤ w.heap.size) (n0 : 1 ≤ n) (n1 : n ≤ 4) (hg : goodP ep cs = true) (h0 : 0 ≤ c) (h1 : c < (n : Int)) (h2 : 0 ≤ p) (h3 : (16383 - c) / (n : Int) < p) :
    Calls Try.prog 18 #[.agg #[.int .i64 ep, .slice A n cap], .agg #[.int .i64 c, .int .i64 p]] w fun e w' => e = .returned (AdVal 0 false) ∧ Below w.heap.size w w' := by
  have HPA : Hid (∀ o o', PrAt ((w.alloc o).alloc o').drew w.heap.size (.slice A n cap) cs) := hide fun o o' => h.below (((Below.refl _ _).alloc (Nat.le_refl _) _).alloc (by simp) _).drew hB
  have HG := hide hg
  have K0 : Hid ((((w.alloc (.cells #[.int .i64 ep, .slice A n cap] 24)).alloc (.cells #[.int .i64 c, .int .i64 p] 40)).drew.cell? ⟨w.heap.size, 0, none⟩ = some (.int .i64 ep) ∧ ((w.alloc (.cells #[.int .i64 ep, .slice A n cap] 24)).alloc (.cells #[.int .i64 c, .int .i64 p] 40)).drew.cell? ⟨w.heap.size, 1, none⟩ = some (.slice A n cap)) ∧ ((w.alloc (.cells #[.int .i64 ep, .slice A n cap] 24)).alloc (.cells #[.int .i64 c, .int .i64 p] 40)).drew.cell? ⟨w.heap.size + 1, 0, none⟩ = some (.int .i64 c) ∧ ((w.alloc (.cells #[.int .i64 ep, .slice A n cap] 24)).alloc (.cells #[.int .i64 c, .int .i64 p] 40)).drew.cell? ⟨w.heap.size + 1, 1, none⟩ = some (.int .i64 p)) :=
    hide (two_cells (w := ((w.alloc (.cells #[.int .i64 ep, .slice A n cap] 24)).alloc (.cells #[.int .i64 c, .int .i64 p] 40)).drew) ((Blk.new w 24 _).alloc _) (Blk.new' (w.alloc (.cells #[.int .i64 ep, .slice A n cap] 24)) 40 _ _ (by simp)))
  clear hg h
  have i0 : (0 : Int) < (n : Int) := by omega
  have i1 : ¬ (n = 0) := by omega
  have q0 : 0 ≤ (16383 - c) / (n : Int) := Int.ediv_nonneg (by omega) (by omega)
  have q1 : (16383 - c) / (n : Int) ≤ 16383 - c := Int.ediv_le_self _ (by omega)
  have b0 : decide (c < 0) = false := by simp; omega
  have b1 : decide ((n : Int) ≤ c) = false := by simp; omega
  have b2 : decide (p < 0) = false := by simp; omega
  have b3 : decide ((16383 - c) / (n : Int) < p) = true := decide_eq_true h3
  have w1 : IntKind.i64.wrap (16383 - c) = 16383 - c := by rw [IntKind.wrap_i64]; omega
  have w2 : (16383 - c).tdiv (n : Int) = (16383 - c) / (n : Int) := Int.tdiv_eq_ediv_of_nonneg (by omega)
  have w3 : IntKind.i64.wrap ((16383 - c) / (n : Int)) = (16383 - c) / (n : Int) := by rw [IntKind.wrap_i64]; omega
  go_enter Try.func18, Try.ntmps18
  go_wp2_with fail
  go_region_held3 (fun w' => (w'.cell? ⟨w.heap.size, 0, none⟩ = some (.int .i64 ep) ∧ w'.cell? ⟨w.heap.size, 1, none⟩ = some (.slice A n cap)) ∧ w'.cell? ⟨w.heap.size + 1, 0, none⟩ = some (.int .i64 c) ∧ w'.cell? ⟨w.heap.size + 1, 1, none⟩ = some (.int .i64 p)) (first | (with_reducible exact K1.out) | (with_reducible exact K0.out)) ((go_at_call 25; refine (good_to w.heap.size ep _ cs true _ (HPA.out _ _) (by simp; omega) HG.out).mono ?_; rintro e w1 ⟨rfl, hb1⟩; have HB3 := hide (two_below_d hb1).2.2; have K1 := hide (two_cells (two_below_d hb1).1 (two_below_d hb1).2.1); clear hb1))
  go_wp2
  go_ret2
  exact ⟨rfl, HB3.out⟩

theorem addr_any (B : Nat) (ep c p : Int) (v : Value) (cs : List (List Int)) (w : World) (h : PrAt w B v cs) (hB : B ≤ w.heap.size) :
    Calls Try.prog 18 #[.agg #[.int .i64 ep, v], .agg #[.int .i64 c, .int .i64 p]] w fun e w' => e = .returned (adVal ep cs c p) ∧ Below w.heap.size w w' := by
  by_cases hg : goodP ep cs = true
  · obtain ⟨n0, n1⟩ := goodP_len hg
    by_cases hc : 0 ≤ c ∧ c < cs.length ∧ 0 ≤ p ∧ p ≤ (16383 - c) / cs.length
    · rw [adVal_yes hg hc]
      exact addr_yes B ep c p v cs w h hB hg hc
    · rw [adVal_no hc]
      obtain ⟨A, cap, rfl, _, _⟩ := h.shape
      by_cases h0 : 0 ≤ c
      · by_cases h1 : c < (cs.length : Int)
        · by_cases h2 : 0 ≤ p
          · exact addr_p1 B cs.length cap A ep c p cs w h hB n0 n1 hg h0 h1 h2 (by
              rcases Int.lt_or_le ((16383 - c) / (cs.length : Int)) p with h | h
              · exact h
              · exact absurd ⟨h0, h1, h2, h⟩ hc)
          · exact addr_p0 B cs.length cap A ep c p cs w h hB n1 hg h0 h1 (by omega)
        · exact addr_c1 B cs.length cap A ep c p cs w h hB n1 hg h0 (by omega)
      · exact addr_c0 B cs.length cap A ep c p cs w h hB n1 hg (by omega)
  · have hgf := eq_false_of_ne_true hg
    rw [adVal_bad hgf]
    obtain ⟨A, cap, rfl, _, _⟩ := h.shape
    exact addr_bad B cs.length cap A ep c p cs w h hB hgf
theorem addr_to (B : Nat) (ep c p : Int) (v : Value) (cs : List (List Int)) (r : Value) (w : World) (h : PrAt w B v cs) (hB : B ≤ w.heap.size) (hr : adVal ep cs c p = r) :
    Calls Try.prog 18 #[.agg #[.int .i64 ep, v], .agg #[.int .i64 c, .int .i64 p]] w fun e w' => e = .returned r ∧ Below w.heap.size w w' := by
  subst hr
  exact addr_any B ep c p v cs w h hB

set_option maxHeartbeats 1600000 in
theorem proj_same (B1 B2 : Nat) (ep : Int) (v1 v2 : Value) (cs : List (List Int)) (w : World) (h1 : PrAt w B1 v1 cs) (hB1 : B1 ≤ w.heap.size) (h2 : PrAt w B2 v2 cs) (hB2 : B2 ≤ w.heap.size) (hc50 : ∀ c ∈ cs, c.length ≤ 50) :
    Calls Try.prog 24 #[.agg #[.int .i64 ep, v1], .agg #[.int .i64 ep, v2]] w fun e w' => e = .returned (.bool true) ∧ Below w.heap.size w w' := by
  have HA1 := hide h1
  have HA2 := hide h2
  obtain ⟨A1, cap1, rfl, hcap1, hcapb1⟩ := h1.shape
  obtain ⟨A2, cap2, rfl, hcap2, hcapb2⟩ := h2.shape
  clear h1 h2
  have HW : Hid (Blk ((w.alloc (.cells #[.int .i64 ep, .slice A1 cs.length cap1] 24)).alloc (.cells #[.int .i64 ep, .slice A2 cs.length cap2] 24)) w.heap.size 24 #[.int .i64 ep, .slice A1 cs.length cap1] ∧ Blk ((w.alloc (.cells #[.int .i64 ep, .slice A1 cs.length cap1] 24)).alloc (.cells #[.int .i64 ep, .slice A2 cs.length cap2] 24)) (w.heap.size + 1) 24 #[.int .i64 ep, .slice A2 cs.length cap2] ∧ Below w.heap.size w ((w.alloc (.cells #[.int .i64 ep, .slice A1 cs.length cap1] 24)).alloc (.cells #[.int .i64 ep, .slice A2 cs.length cap2] 24))) := hide
    ⟨(Blk.new w 24 _).alloc _, Blk.new' (w.alloc (.cells #[.int .i64 ep, .slice A1 cs.length cap1] 24)) 24 _ _ (by simp), ((Below.refl _ _).alloc (Nat.le_refl _) _).alloc (by simp) _⟩
  go_enter Try.func24, Try.ntmps24
  go_wp2
  generalize hW : (w.alloc (.cells #[.int .i64 ep, .slice A1 cs.length cap1] 24)).alloc (.cells #[.int .i64 ep, .slice A2 cs.length cap2] 24) = W at *
  clear hW
  go_loopw [5] (fun i wr => ∃ j m : Nat, j ≤ cs.length ∧ i = .int .i64 j ∧ wr = W.drewN m) (fun i _ => cs.length - (intOf i).toNat)
  case atStart => exact ⟨0, 0, Nat.zero_le _, rfl, rfl⟩
  case round =>
    obtain ⟨j, m, hj, rfl, rfl⟩ := hrel
    have HXB : Hid (Blk (W.drewN m) w.heap.size 24 #[.int .i64 ep, .slice A1 cs.length cap1] ∧ Blk (W.drewN m) (w.heap.size + 1) 24 #[.int .i64 ep, .slice A2 cs.length cap2] ∧ Below w.heap.size w (W.drewN m)) := hide ⟨HW.out.1, HW.out.2.1, below_drewN_ HW.out.2.2 m⟩
    have HXE : Hid (∃ m', W.drewN m = W.drewN m') := hide ⟨m, rfl⟩
    generalize W.drewN m = X at *
    have hws := HXB.out.2.2.size
    have x0 : X.cell? ⟨w.heap.size, 1, none⟩ = some (.slice A1 cs.length cap1) := HXB.out.1.cell 1
    have x0' : X.cell? ⟨w.heap.size + 1, 1, none⟩ = some (.slice A2 cs.length cap2) := HXB.out.2.1.cell 1
    have x1 : ∀ q, (X.drewN q).cell? ⟨w.heap.size, 1, none⟩ = some (.slice A1 cs.length cap1) := fun q => x0
    have x2 : ∀ q, (X.drewN q).cell? ⟨w.heap.size + 1, 1, none⟩ = some (.slice A2 cs.length cap2) := fun q => x0'
    by_cases hlt : j < cs.length
    · have hc : cs[j]? = some cs[j] := List.getElem?_eq_getElem hlt
      have hcl := hc50 _ (List.getElem_mem hlt)
      generalize cs[j] = c at hc hcl
      obtain ⟨b1, o1, Aj1, cj1, rfl, hb1, hk1, _, _, hr1, _⟩ := HA1.out.chain hc
      obtain ⟨b2, o2, Aj2, cj2, rfl, hb2, hk2, _, _, hr2, _⟩ := HA2.out.chain hc
      have y1 : ∀ q, (X.drewN q).cell? ⟨b1, o1 + j, none⟩ = some (.slice Aj1 c.length cj1) := fun q => (HXB.out.2.2.cell (p := ⟨b1, o1 + j, none⟩) (show b1 < w.heap.size by omega)).trans hk1
      have y2 : ∀ q, (X.drewN q).cell? ⟨b2, o2 + j, none⟩ = some (.slice Aj2 c.length cj2) := fun q => (HXB.out.2.2.cell (p := ⟨b2, o2 + j, none⟩) (show b2 < w.heap.size by omega)).trans hk2
      have HR1 : Hid (∀ q, Rd (X.drewN q) w.heap.size Aj1 (ints c)) := hide fun q => hr1.below (below_drewN_ HXB.out.2.2 q) hB1
      have HR2 : Hid (∀ q, Rd (X.drewN q) w.heap.size Aj2 (ints c)) := hide fun q => hr2.below (below_drewN_ HXB.out.2.2 q) hB2
      clear hk1 hk2 hr1 hr2 hc
      go_wp2_with fail
      go_quiet ((go_at_call 21; exact Calls.quiet_of (ints_same w.heap.size w.heap.size cj1 cj2 Aj1 Aj2 c _ (HR1.out _) (HR2.out _) (by omega))))
      go_wp2
      go_roundw
      case rel =>
        obtain ⟨m', hm'⟩ := HXE.out
        exact ⟨j + 1, m' + nq, by omega, by go_num, by rw [hm']; exact World.drewN_drewN _ _ _⟩
      case measure => simp [intOf]; omega
    · go_wp2
      go_ret
      exact ⟨rfl, HXB.out.2.2⟩
end Go.Proofs.Ytceljebpcfojeaa

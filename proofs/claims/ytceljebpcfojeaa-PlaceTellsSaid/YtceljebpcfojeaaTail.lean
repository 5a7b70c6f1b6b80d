/- place.Tail. -/
import Derived.Test.YtceljebpcfojeaaSpots
namespace Go.Proofs.Ytceljebpcfojeaa
open Go.RowKit
set_option linter.unusedVariables false

/-- what Tail answers -/
def IsT (ep : Int) (cs : List (List Int)) (m : List (Int × Int)) (t : Int) : Prop := (goodP ep cs = true → IsTail cs.length (spots m cs) t) ∧ (goodP ep cs = false → t = 0)
def TailPost (ep : Int) (cs : List (List Int)) (m : List (Int × Int)) (w : World) (e : Ending) (w' : World) : Prop := ∃ t : Int, e = .returned (.int .i64 t) ∧ IsT ep cs m t ∧ Below w.heap.size w w'
theorem goodP_parts {ep : Int} {cs : List (List Int)} (h : goodP ep cs = true) : goodC cs = true ∧ cs.length ≤ 4 ∧ 1 ≤ cs.length ∧ cs.flatten.length ≤ 16 ∧ cs.flatten.Nodup := by
  have hl := goodP_len h
  unfold goodP at h
  rw [Bool.and_eq_true, Bool.and_eq_true] at h
  refine ⟨h.2.1, hl.2, hl.1, goodC_flat h.2.1 hl.2, ?_⟩
  have := h.2.2
  unfold goodU at this
  rw [Bool.and_eq_true, decide_eq_true_iff] at this
  exact this.2

/-- under way: of the places that have been seen -/
structure TW (n : Int) (ss : List (Int × Int)) (left : Int × Int → Bool) (t : Int) : Prop where
  up : ∀ s ∈ ss, left s = false → 0 < s.2 → (s.2 - 1) * n + s.1 + 1 ≤ t
  at_ : t = 0 ∨ ∃ s ∈ ss, 0 < s.2 ∧ t = (s.2 - 1) * n + s.1 + 1
  pos : 0 ≤ t
theorem TW.yes {n t : Int} {ss : List (Int × Int)} {left : Int × Int → Bool} (h : TW n ss left t) {x : Int × Int} (hx : x ∈ ss) (h0 : 0 < x.2) : TW n ss (fun s => left s && !decide (s = x)) (max t ((x.2 - 1) * n + x.1 + 1)) := by
  refine ⟨fun s hs hl hp => ?_, ?_, ?_⟩
  · simp only [Bool.and_eq_false_iff, Bool.not_eq_false', decide_eq_true_iff] at hl
    rcases hl with hl | rfl
    · have := h.up s hs hl hp
      omega
    · omega
  · rcases Int.le_total t ((x.2 - 1) * n + x.1 + 1) with hle | hle
    · exact .inr ⟨x, hx, h0, by omega⟩
    · rw [Int.max_eq_left hle]
      exact h.at_
  · have := h.pos
    omega
theorem TW.no {n t : Int} {ss : List (Int × Int)} {left : Int × Int → Bool} (h : TW n ss left t) {x : Int × Int} (h0 : ¬ 0 < x.2) : TW n ss (fun s => left s && !decide (s = x)) t := by
  refine ⟨fun s hs hl hp => ?_, h.at_, h.pos⟩
  simp only [Bool.and_eq_false_iff, Bool.not_eq_false', decide_eq_true_iff] at hl
  rcases hl with hl | rfl
  · exact h.up s hs hl hp
  · exact absurd hp h0

theorem tail_no (B tm : Nat) (m : List (Int × Int)) (ep : Int) (v : Value) (cs : List (List Int)) (w : World) (h : PrAt w B v cs) (hB : B ≤ w.heap.size) (hg : goodP ep cs = false) :
    Calls Try.prog 10 #[.agg #[.int .i64 ep, v], .map (some tm)] w fun e w' => e = .returned (.int .i64 0) ∧ Below w.heap.size w w' := by
  have HPA : Hid (∀ o, PrAt (w.alloc o) w.heap.size v cs) := hide fun o => h.below ((Below.refl _ _).alloc (Nat.le_refl _) _) hB
  have HG := hide hg
  clear hg h
  go_enter Try.func10, Try.ntmps10
  go_wp2_with fail
  refine (good_to w.heap.size ep _ cs false _ (HPA.out _) (by simp) HG.out).mono ?_
  rintro e w1 ⟨rfl, hb1⟩
  obtain ⟨c0, c1, k3⟩ := Blk.new2 hb1
  have HB3 := hide k3
  clear k3 hb1
  go_wp2
  go_ret
  exact ⟨rfl, HB3.out⟩

set_option maxRecDepth 100000 in
set_option maxHeartbeats 1600000 in
theorem tail_yes (B tm : Nat) (m : List (Int × Int)) (ep : Int) (v : Value) (cs : List (List Int)) (w : World) (h : PrAt w B v cs) (hB : B ≤ w.heap.size) (hM : MapAt kI w tm m) (hg : goodP ep cs = true) :
    Calls Try.prog 10 #[.agg #[.int .i64 ep, v], .map (some tm)] w (TailPost ep cs m w) := by
  obtain ⟨hgc, n1, n0, hfl, hnd⟩ := goodP_parts hg
  have HPA : Hid (∀ o, PrAt (w.alloc o) w.heap.size v cs) := hide fun o => h.below ((Below.refl _ _).alloc (Nat.le_refl _) _) hB
  have htm := hM.lt
  have HMI := hide hM
  have HG := hide hg
  obtain ⟨A, cap, rfl, hcap, hcap2⟩ := h.shape
  have HP := hide h
  clear hg h hM hgc hnd
  go_enter Try.func10, Try.ntmps10
  go_wp2_with fail
  refine (good_to w.heap.size ep _ cs true _ (HPA.out _) (by simp) HG.out).mono ?_
  rintro e w1 ⟨rfl, hb1⟩
  have HBX := hide ((Blk.new w 24 #[.int .i64 ep, .slice A cs.length cap]).below hb1 (by simp))
  obtain ⟨c0, c1, k3⟩ := Blk.new2 hb1
  have HB1 := hide k3
  have hbx := HBX.out.lt
  clear k3 hb1
  have hw1 := HB1.out.size
  go_wp2_with fail
  refine (spots_any w.heap.size tm m ep _ cs _ (HP.out.below HB1.out hB) hw1 (HMI.out.below HB1.out htm) n1 hfl).mono ?_
  rintro e w2 ⟨rfl, hm2, hb2⟩
  clear c0 c1
  have HM2 := hide hm2
  have HB2 := hide hb2
  have hw2 := hb2.size
  clear hm2 hb2
  generalize w1.heap.size + 1 = mb at *
  have hcl := cntL_ok (spots m cs)
  have HK : Hid (∀ x ∈ cntL (spots m cs), x.1 ∈ spots m cs) := hide hcl.2.2.1
  have HK2 : Hid (∀ k ∈ spots m cs, hasL (cntL (spots m cs)) k = true) := hide hcl.2.2.2.1
  clear hcl
  generalize cntL (spots m cs) = L at *
  go_wp2_with (at_range; refine wpList_range_map rfl (.tmp 12) rfl rfl HM2.out ?_; intro w3 hr3 hb3 hs3; have HR3 := hide hr3; have HB3 := hide (HB2.out.trans (hb3.mono hw2)); clear hr3 hb3 hs3)
  go_frame
  go_loopg [5] L.length (fun k v wr => ∃ (t : Int) (left : Int × Int → Bool), v = .int .i64 t ∧ 0 ≤ t ∧ t ≤ 20000 ∧ RangeAt kP wr mb w2.heap.size L left k ∧ Below w1.heap.size w1 wr ∧ Hid (TW cs.length (spots m cs) left t))
  case atStart =>
    refine ⟨0, fun _ => true, rfl, by omega, by omega, HR3.out, HB3.out, hide ⟨fun s _ h => (by cases h), .inl rfl, by omega⟩⟩
  case round =>
    obtain ⟨t, left, rfl, ht0, ht1, hrg, hbel, HI⟩ := hrel
    have HRG := hide hrg
    have HBL := hide hbel
    have hws := hbel.size
    clear hrg hbel
    go_wp2_with (at_next; refine wpList_next_map rfl (.tmp 13) rfl rfl HRG.out ?_ ?_)
    · intro hdone
      have HT : Hid (IsTail cs.length (spots m cs) t) := hide ⟨fun s hs hp => HI.out.up s hs (by
        obtain ⟨x, hx, rfl⟩ := hasL_iff.1 (HK2.out s hs)
        exact hdone x.1.1 x.1.2 x.2 hx) hp, HI.out.at_, HI.out.pos⟩
      clear hdone
      go_wp2
      go_ret
      exact ⟨t, rfl, ⟨fun _ => HT.out, fun h => by rw [HG.out] at h; cases h⟩, HB1.out.trans (HBL.out.mono hw1)⟩
    · intro xc xp xn w4 cnt4 hx hlx hrg4 hlt4 hg4 hs4 hen
      rw [show kP.kv (xc, xp) = .agg #[.int .i64 xc, .int .i64 xp] from rfl] at hen ⊢
      have HX := hide (HK.out _ hx)
      obtain ⟨b0, b1, b2, b3⟩ := spots_mem HX.out
      simp only at b0 b1 b2 b3
      have HRG4 := hide hrg4
      have HB4 : Hid (Below w1.heap.size w1 w4) := hide (HBL.out.grown hg4 hws (fun k hk => by injection hk with hk; omega))
      have hw4 := HB4.out.size
      have cbx : ∀ o, (w4.alloc o).cell? ⟨w.heap.size, 1, none⟩ = some (.slice A cs.length cap) := fun o => ((HBX.out.below HB4.out hbx).alloc o).cell 1
      clear hrg4 hg4 hx hlx
      by_cases hp : 0 < xp
      · have m0 : 0 ≤ (xp - 1) * (cs.length : Int) := Int.mul_nonneg (by omega) (by omega)
        have m1 : (xp - 1) * (cs.length : Int) ≤ 4095 * 4 := Int.mul_le_mul (by omega) (by omega) (by omega) (by omega)
        have m2 : (xp - 1) * (cs.length : Int) ≤ 16380 := m1
        have HTW := hide (HI.out.yes HX.out hp)
        clear m1
        go_wp2
        all_goals go_roundg cnt4
        all_goals try case measure => exact hlt4
        all_goals try case rel => exact ⟨_, _, rfl, by omega, by omega, HRG4.out.alloc _, HB4.out.alloc hw4 _, hide HTW.out⟩
      · have HTW := hide (HI.out.no (x := (xc, xp)) hp)
        go_wp2
        go_roundg cnt4
        case measure => exact hlt4
        case rel => exact ⟨t, _, rfl, by omega, by omega, HRG4.out.alloc _, HB4.out.alloc hw4 _, hide HTW.out⟩
theorem tail_any (B tm : Nat) (m : List (Int × Int)) (ep : Int) (v : Value) (cs : List (List Int)) (w : World) (h : PrAt w B v cs) (hB : B ≤ w.heap.size) (hM : MapAt kI w tm m) :
    Calls Try.prog 10 #[.agg #[.int .i64 ep, v], .map (some tm)] w (TailPost ep cs m w) := by
  by_cases hg : goodP ep cs = true
  · exact tail_yes B tm m ep v cs w h hB hM hg
  · have hf := eq_false_of_ne_true hg
    exact (tail_no B tm m ep v cs w h hB hf).mono fun e w' ⟨he, hb⟩ => ⟨0, he, ⟨fun h => absurd h hg, fun _ => rfl⟩, hb⟩
end Go.Proofs.Ytceljebpcfojeaa

/- proj.Good. -/
import Derived.Test.YtceljebpcfojeaaPr
namespace Go.Proofs.Ytceljebpcfojeaa
open Go.RowKit
set_option linter.unusedVariables false

theorem goodP_no {ep : Int} {cs : List (List Int)} (h : ¬ (0 ≤ ep ∧ ep ≤ 2147483647 ∧ 1 ≤ cs.length ∧ cs.length ≤ 4)) : goodP ep cs = false := by
  unfold goodP
  rw [decide_eq_false h, Bool.false_and]
theorem goodP_yes {ep : Int} {cs : List (List Int)} (h : 0 ≤ ep ∧ ep ≤ 2147483647 ∧ 1 ≤ cs.length ∧ cs.length ≤ 4) : goodP ep cs = (goodC cs && goodU cs.flatten) := by
  unfold goodP
  rw [decide_eq_true h, Bool.true_and]
theorem goodC_no {cs : List (List Int)} {j : Nat} {c : List Int} (hj : cs[j]? = some c) (h : ¬ (1 ≤ c.length ∧ c.length ≤ 4)) : goodC cs = false := by
  rw [← Bool.not_eq_true]
  unfold goodC
  rw [List.all_eq_true]
  intro hh
  have := hh c (List.mem_of_getElem? hj)
  simp only [decide_eq_true_iff] at this
  exact h this
theorem goodC_take {cs : List (List Int)} {j : Nat} {c : List Int} (hj : cs[j]? = some c) (h : 1 ≤ c.length ∧ c.length ≤ 4) (hg : goodC (cs.take j) = true) : goodC (cs.take (j + 1)) = true := by
  unfold goodC at hg ⊢
  rw [List.take_add_one, hj, List.all_append, hg]
  simp [h]
theorem goodC_flat {cs : List (List Int)} (h : goodC cs = true) (hn : cs.length ≤ 4) : cs.flatten.length ≤ 16 := by
  have : ∀ cs : List (List Int), goodC cs = true → cs.flatten.length ≤ 4 * cs.length := by
    intro cs
    induction cs with
    | nil => simp
    | cons c cs ih =>
      intro h
      unfold goodC at h
      rw [List.all_cons, Bool.and_eq_true, decide_eq_true_iff] at h
      have := ih h.2
      rw [List.flatten_cons, List.length_append, List.length_cons]
      omega
  have := this cs h
  omega

theorem good_0 (ep : Int) (A : Option Addr) (cap n : Nat) (w : World) (hn : n ≤ 9223372036854775807) (h : ¬ (0 ≤ ep ∧ ep ≤ 2147483647 ∧ 1 ≤ n ∧ n ≤ 4)) :
    Calls Try.prog 25 #[.agg #[.int .i64 ep, .slice A n cap]] w fun e w' => e = .returned (.bool false) ∧ Below w.heap.size w w' := by
  by_cases h0 : 0 ≤ ep
  · by_cases h1 : ep ≤ 2147483647
    · by_cases h2 : 1 ≤ n
      · have h3 : 4 < n := by omega
        go_enter Try.func25, Try.ntmps25
        go_wp2
        go_ret
        exact ⟨rfl, (Below.refl _ _).alloc (Nat.le_refl _) _⟩
      · go_enter Try.func25, Try.ntmps25
        go_wp2
        go_ret
        exact ⟨rfl, (Below.refl _ _).alloc (Nat.le_refl _) _⟩
    · go_enter Try.func25, Try.ntmps25
      go_wp2
      go_ret
      exact ⟨rfl, (Below.refl _ _).alloc (Nat.le_refl _) _⟩
  · go_enter Try.func25, Try.ntmps25
    go_wp2
    go_ret
    exact ⟨rfl, (Below.refl _ _).alloc (Nat.le_refl _) _⟩

set_option maxRecDepth 100000 in
set_option maxHeartbeats 1600000 in
theorem good_any (B : Nat) (ep : Int) (v : Value) (cs : List (List Int)) (w : World) (h : PrAt w B v cs) (hB : B ≤ w.heap.size) :
    Calls Try.prog 25 #[.agg #[.int .i64 ep, v]] w fun e w' => e = .returned (.bool (goodP ep cs)) ∧ Below w.heap.size w w' := by
  obtain ⟨A, cap, rfl, hcap, hcap2⟩ := h.shape
  by_cases h0 : 0 ≤ ep ∧ ep ≤ 2147483647 ∧ 1 ≤ cs.length ∧ cs.length ≤ 4
  · rw [goodP_yes h0]
    obtain ⟨e0, e1, n0, n1⟩ := h0
    have HP := hide h
    have HPA : Hid (∀ o, PrAt (w.alloc o) w.heap.size (.slice A cs.length cap) cs) := hide fun o => h.below ((Below.refl _ _).alloc (Nat.le_refl _) _) hB
    clear h
    go_enter Try.func25, Try.ntmps25
    go_wp2
    go_loop [30] (fun i => ∃ j : Nat, j ≤ cs.length ∧ i = .int .i64 j ∧ Hid (goodC (cs.take j) = true)) (fun i => cs.length - (intOf i).toNat)
    case atStart => exact ⟨0, Nat.zero_le _, rfl, hide rfl⟩
    case round =>
      obtain ⟨j, hj, rfl, HG⟩ := hrel
      by_cases hlt : j < cs.length
      · have hc : cs[j]? = some cs[j] := List.getElem?_eq_getElem hlt
        generalize cs[j] = c at hc
        have HC := hide hc
        clear hc
        obtain ⟨b, off, Aj, capj, rfl, hb, hcell0, hcj, hcj2, hrd, hok⟩ := HP.out.chain HC.out
        have hcell : ∀ o, (w.alloc o).cell? ⟨b, off + j, none⟩ = some (.slice Aj c.length capj) := fun o => (((Below.refl w.heap.size w).alloc (Nat.le_refl _) o).cell (p := ⟨b, off + j, none⟩) (show b < w.heap.size by omega)).trans hcell0
        clear hcell0 hrd hok
        by_cases hc0 : 1 ≤ c.length
        · by_cases hc1 : c.length ≤ 4
          · go_wp2
            go_round
            case rel => exact ⟨j + 1, by omega, by go_num, hide (goodC_take HC.out ⟨hc0, hc1⟩ HG.out)⟩
            case measure => simp [intOf]; omega
          · have HN := hide (goodC_no HC.out (fun h => hc1 h.2))
            go_wp2
            go_ret
            exact ⟨by rw [HN.out]; rfl, (Below.refl _ _).alloc (Nat.le_refl _) _⟩
        · have HN := hide (goodC_no HC.out (fun h => hc0 h.1))
          go_wp2
          go_ret
          exact ⟨by rw [HN.out]; rfl, (Below.refl _ _).alloc (Nat.le_refl _) _⟩
      · have HGC : Hid (goodC cs = true) := hide (by
          have : j = cs.length := by omega
          subst this
          have := HG.out
          rwa [List.take_length] at this)
        have hfl := goodC_flat HGC.out n1
        clear HG
        go_wp2_with fail
        refine (met_any w.heap.size ep _ cs _ (HPA.out _) (by simp) (by omega)).mono ?_
        rintro e w1 ⟨rfl, hm1, hb1⟩
        have HM1 := hide hm1
        have HB1 : Hid (Below w.heap.size w w1) := hide (((Below.refl _ _).alloc (Nat.le_refl _) _).trans (hb1.mono (by simp)))
        have hw1 := HB1.out.size
        clear hm1 hb1
        simp only [World.size_alloc] at HM1 ⊢
        generalize w.heap.size + 1 + 1 = mb at *
        generalize hL : cntL cs.flatten = L at *
        have HL := hide hL
        clear hL
        go_wp2_with (at_range; refine wpList_range_map rfl (.tmp 44) rfl rfl HM1.out ?_; intro w2 hr2 hb2 hs2; have HR2 := hide hr2; have HB2 := hide (HB1.out.trans (hb2.mono hw1)); clear hr2 hb2 hs2)
        go_frame
        go_loopg [46] L.length (fun k _ wr => ∃ left : Int → Bool, RangeAt kU wr mb w1.heap.size L left k ∧ Below w.heap.size w wr ∧ Hid (∀ x ∈ L, left x.1 = false → okE x))
        case atStart => exact ⟨_, HR2.out, HB2.out, hide (fun x _ h => by cases h)⟩
        case round =>
          obtain ⟨left, hrg, hbel, HI⟩ := hrel
          have HRG := hide hrg
          have HBL := hide hbel
          have hws := hbel.size
          clear hrg hbel
          go_wp2_with (at_next; refine wpList_next_map rfl (.tmp 45) rfl rfl HRG.out ?_ ?_)
          · intro hdone
            have HT : Hid (goodU cs.flatten = true) := hide (goodU_yes (by rw [HL.out]; exact fun x hx => HI.out x hx (hdone x.1 x.2 hx)))
            clear hdone
            go_wp2
            go_ret
            exact ⟨by rw [HGC.out, HT.out]; rfl, HBL.out⟩
          · intro xu xn w3 cnt3 hx hlx hrg3 hlt3 hg3 hs3 hen
            rw [show kU.kv xu = .agg #[.int .i64 xu] from rfl] at hen ⊢
            have HRG3 := hide hrg3
            have HX := hide hx
            have HB3 : Hid (Below w.heap.size w w3) := hide (HBL.out.grown hg3 hws (fun k hk => by injection hk with hk; omega))
            have hw3 := HB3.out.size
            clear hrg3 hg3 hx hlx
            by_cases hx0 : 0 ≤ xu
            · by_cases hx1 : xu < 16
              · by_cases hx2 : xn ≤ 1
                · go_wp2
                  go_roundg cnt3
                  case measure => exact hlt3
                  case rel =>
                    refine ⟨_, HRG3.out.alloc _, HB3.out.alloc hw3 _, hide (fun y hy hl => ?_)⟩
                    simp only [Bool.and_eq_false_iff, Bool.not_eq_false', decide_eq_true_iff] at hl
                    rcases hl with hl | hl
                    · exact HI.out y hy hl
                    · have e1 := getL_mem (by rw [← HL.out]; exact (cntL_ok _).1) hy
                      have e2 := getL_mem (by rw [← HL.out]; exact (cntL_ok _).1) HX.out
                      simp only at e2
                      rw [hl] at e1
                      exact ⟨by omega, by omega, by omega⟩
                · have HN : Hid (goodU cs.flatten = false) := hide (goodU_no (x := (xu, xn)) (by rw [HL.out]; exact HX.out) (fun h => hx2 h.2.2))
                  go_wp2
                  go_ret
                  exact ⟨by rw [HGC.out, HN.out]; rfl, HB3.out.alloc hw3 _⟩
              · have HN : Hid (goodU cs.flatten = false) := hide (goodU_no (x := (xu, xn)) (by rw [HL.out]; exact HX.out) (fun h => hx1 h.2.1))
                go_wp2
                go_ret
                exact ⟨by rw [HGC.out, HN.out]; rfl, HB3.out.alloc hw3 _⟩
            · have HN : Hid (goodU cs.flatten = false) := hide (goodU_no (x := (xu, xn)) (by rw [HL.out]; exact HX.out) (fun h => hx0 h.1))
              go_wp2
              go_ret
              exact ⟨by rw [HGC.out, HN.out]; rfl, HB3.out.alloc hw3 _⟩
  · rw [goodP_no h0]
    exact good_0 ep A cap cs.length w (by omega) h0
end Go.Proofs.Ytceljebpcfojeaa

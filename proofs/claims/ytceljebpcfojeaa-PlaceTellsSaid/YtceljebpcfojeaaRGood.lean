/- The reference's Good. -/
import Derived.Test.YtceljebpcfojeaaUnits
namespace Go.Proofs.Ytceljebpcfojeaa
open Go.RowKit
set_option linter.unusedVariables false

theorem rgood_0 (ep : Int) (A : Option Addr) (cap n : Nat) (w : World) (hn : n ≤ 9223372036854775807) (h : ¬ (0 ≤ ep ∧ ep ≤ 2147483647 ∧ 1 ≤ n ∧ n ≤ 4)) :
    Calls Try.prog 15 #[.agg #[.int .i64 ep, .slice A n cap]] w fun e w' => e = .returned (.bool false) ∧ Below w.heap.size w w' := by
  by_cases h0 : 0 ≤ ep
  · by_cases h1 : ep ≤ 2147483647
    · by_cases h2 : 1 ≤ n
      · have h3 : 4 < n := by omega
        go_enter Try.func15, Try.ntmps15
        go_wp2
        go_ret
        exact ⟨rfl, (Below.refl _ _).alloc (Nat.le_refl _) _⟩
      · go_enter Try.func15, Try.ntmps15
        go_wp2
        go_ret
        exact ⟨rfl, (Below.refl _ _).alloc (Nat.le_refl _) _⟩
    · go_enter Try.func15, Try.ntmps15
      go_wp2
      go_ret
      exact ⟨rfl, (Below.refl _ _).alloc (Nat.le_refl _) _⟩
  · go_enter Try.func15, Try.ntmps15
    go_wp2
    go_ret
    exact ⟨rfl, (Below.refl _ _).alloc (Nat.le_refl _) _⟩
def inU (l : List Int) : Prop := ∀ u ∈ l, 0 ≤ u ∧ u < 16
theorem goodU_in {l : List Int} (h : inU l) : goodU l = decide l.Nodup := by
  unfold goodU
  have : l.all (fun u => decide (0 ≤ u ∧ u < 16)) = true := by
    rw [List.all_eq_true]
    intro u hu
    simpa using h u hu
  rw [this, Bool.true_and]
theorem goodU_out {l : List Int} {u : Int} (hu : u ∈ l) (h : ¬ (0 ≤ u ∧ u < 16)) : goodU l = false := by
  unfold goodU
  have : l.all (fun u => decide (0 ≤ u ∧ u < 16)) = false := by
    rw [List.all_eq_false]
    exact ⟨u, hu, by simpa using h⟩
  rw [this, Bool.false_and]
theorem flat_mem {cs : List (List Int)} {j k : Nat} {c : List Int} {u : Int} (hj : cs[j]? = some c) (hk : c[k]? = some u) : u ∈ cs.flatten := List.mem_flatten.2 ⟨c, List.mem_of_getElem? hj, List.mem_of_getElem? hk⟩
theorem inU_take {c : List Int} {k : Nat} {u : Int} (hk : c[k]? = some u) (h : inU (c.take k)) (hu : 0 ≤ u ∧ u < 16) : inU (c.take (k + 1)) := by
  rw [List.take_add_one, hk]
  intro v hv
  rcases List.mem_append.1 hv with hv | hv
  · exact h v hv
  · have : v = u := by simpa using hv
    rw [this]; exact hu
theorem inU_app {a b : List Int} (h : inU a) (k : inU b) : inU (a ++ b) := fun u hu => (List.mem_append.1 hu).elim (h u) (k u)

set_option maxRecDepth 100000 in
set_option maxHeartbeats 1600000 in
theorem rgood_any (B : Nat) (ep : Int) (v : Value) (cs : List (List Int)) (w : World) (h : PrAt w B v cs) (hB : B ≤ w.heap.size) :
    Calls Try.prog 15 #[.agg #[.int .i64 ep, v]] w fun e w' => e = .returned (.bool (goodP ep cs)) ∧ Below w.heap.size w w' := by
  obtain ⟨A, cap, rfl, hcap, hcap2⟩ := h.shape
  by_cases h0 : 0 ≤ ep ∧ ep ≤ 2147483647 ∧ 1 ≤ cs.length ∧ cs.length ≤ 4
  · rw [goodP_yes h0]
    obtain ⟨e0, e1, n0, n1⟩ := h0
    have HP := hide h
    have HPA : Hid (∀ o, PrAt (w.alloc o) w.heap.size (.slice A cs.length cap) cs) := hide fun o => h.below ((Below.refl _ _).alloc (Nat.le_refl _) _) hB
    clear h
    go_enter Try.func15, Try.ntmps15
    go_wp2
    go_loop [3, 4] (fun nv i => ∃ j m : Nat, j ≤ cs.length ∧ i = .int .i64 j ∧ nv = .int .i64 m ∧ m ≤ 4 * j ∧ Hid (goodC (cs.take j) = true ∧ inU (cs.take j).flatten ∧ m = (cs.take j).flatten.length)) (fun _ i => cs.length - (intOf i).toNat)
    case atStart => exact ⟨0, 0, Nat.zero_le _, rfl, rfl, by omega, hide ⟨rfl, fun u hu => by simp at hu, rfl⟩⟩
    case round =>
      obtain ⟨j, m, hj, rfl, rfl, hm4, HG⟩ := hrel
      by_cases hlt : j < cs.length
      · have hc : cs[j]? = some cs[j] := List.getElem?_eq_getElem hlt
        generalize cs[j] = c at hc
        have HC := hide hc
        clear hc
        obtain ⟨b, off, Aj, capj, rfl, hb, hcell0, hcj, hcj2, hrd, hok⟩ := HP.out.chain HC.out
        have hcell : ∀ o, (w.alloc o).cell? ⟨b, off + j, none⟩ = some (.slice Aj c.length capj) := fun o => (((Below.refl w.heap.size w).alloc (Nat.le_refl _) o).cell (p := ⟨b, off + j, none⟩) (show b < w.heap.size by omega)).trans hcell0
        have HRD := hide hrd
        clear hcell0 hrd hok
        by_cases hc0 : 1 ≤ c.length
        · by_cases hc1 : c.length ≤ 4
          · go_wp2_with fail
            go_loop [5] (fun i => ∃ k : Nat, k ≤ c.length ∧ i = .int .i64 k ∧ Hid (inU (c.take k))) (fun i => c.length - (intOf i).toNat)
            case atStart => exact ⟨0, Nat.zero_le _, rfl, hide (fun u hu => by simp at hu)⟩
            case round =>
              obtain ⟨k, hk, rfl, HK⟩ := hrel
              by_cases hlt2 : k < c.length
              · have hu : c[k]? = some c[k] := List.getElem?_eq_getElem hlt2
                generalize c[k] = u at hu
                obtain ⟨bk, offk, rfl, hbk, hcu0⟩ := HRD.out.unit hu
                have hcu : ∀ o, (w.alloc o).cell? ⟨bk, offk + k, none⟩ = some (.int .i64 u) := fun o => (((Below.refl w.heap.size w).alloc (Nat.le_refl _) o).cell (p := ⟨bk, offk + k, none⟩) (show bk < w.heap.size by omega)).trans hcu0
                have HU := hide hu
                clear hu hcu0
                by_cases hu0 : 0 ≤ u
                · by_cases hu1 : u < 16
                  · have hu2 : u ≤ 15 := by omega
                    go_wp2
                    go_round
                    case rel => exact ⟨k + 1, by omega, by go_num, hide (inU_take HU.out HK.out ⟨hu0, hu1⟩)⟩
                    case measure => simp [intOf]; omega
                  · have hu2 : 15 < u := by omega
                    have HN := hide (goodU_out (flat_mem HC.out HU.out) (fun h => hu1 h.2))
                    clear hu1
                    go_wp2
                    go_ret
                    exact ⟨by rw [HN.out, Bool.and_false]; rfl, (Below.refl _ _).alloc (Nat.le_refl _) _⟩
                · have HN := hide (goodU_out (flat_mem HC.out HU.out) (fun h => hu0 h.1))
                  go_wp2
                  go_ret
                  exact ⟨by rw [HN.out, Bool.and_false]; rfl, (Below.refl _ _).alloc (Nat.le_refl _) _⟩
              · have HT : Hid (inU c) := hide (by
                  have hkl : k = c.length := by omega
                  have := HK.out
                  rwa [hkl, List.take_length] at this)
                go_wp2
                go_round
                case rel => exact ⟨j + 1, m + c.length, by omega, by go_num, by go_num, by omega, hide ⟨goodC_take HC.out ⟨hc0, hc1⟩ HG.out.1, by rw [take_flat HC.out]; exact inU_app HG.out.2.1 HT.out, by rw [take_flat HC.out, List.length_append, HG.out.2.2]⟩⟩
                case measure => simp [intOf]; omega
          · have HN := hide (goodC_no HC.out (fun h => hc1 h.2))
            go_wp2
            go_ret
            exact ⟨by rw [HN.out]; rfl, (Below.refl _ _).alloc (Nat.le_refl _) _⟩
        · have HN := hide (goodC_no HC.out (fun h => hc0 h.1))
          go_wp2
          go_ret
          exact ⟨by rw [HN.out]; rfl, (Below.refl _ _).alloc (Nat.le_refl _) _⟩
      · have HGC : Hid (goodC cs = true ∧ inU cs.flatten ∧ m = cs.flatten.length) := hide (by
          have : j = cs.length := by omega
          subst this
          have := HG.out
          rwa [List.take_length] at this)
        have hfl := goodC_flat HGC.out.1 n1
        clear HG
        go_wp2_with fail
        refine (units_any w.heap.size ep _ cs _ (HPA.out _) (by simp) (by omega)).mono ?_
        rintro e w1 ⟨Au, capu, rfl, hlu, hb1⟩
        have HB1 : Hid (Below w.heap.size w w1) := hide (((Below.refl _ _).alloc (Nat.le_refl _) _).trans (hb1.mono (by simp)))
        have HU := hide (unitsL_ok cs.flatten).2.2.2
        have HV : Hid (((((unitsL cs.flatten).length : Int) == (m : Int)) : Bool) = (goodC cs && goodU cs.flatten)) := hide (by
          rw [HGC.out.1, Bool.true_and, goodU_in HGC.out.2.1, Bool.eq_iff_iff, decide_eq_true_iff, ← HU.out, HGC.out.2.2, beq_iff_eq]
          omega)
        clear hb1
        generalize (unitsL cs.flatten).length = ul at *
        go_wp2
        go_ret
        exact ⟨ret_bool HV.out, HB1.out⟩
  · rw [goodP_no h0]
    exact rgood_0 ep A cap cs.length w (by omega) h0
theorem rgood_to (B : Nat) (ep : Int) (v : Value) (cs : List (List Int)) (g : Bool) (w : World) (h : PrAt w B v cs) (hB : B ≤ w.heap.size) (hg : goodP ep cs = g) :
    Calls Try.prog 15 #[.agg #[.int .i64 ep, v]] w fun e w' => e = .returned (.bool g) ∧ Below w.heap.size w w' := by
  subst hg
  exact rgood_any B ep v cs w h hB
end Go.Proofs.Ytceljebpcfojeaa

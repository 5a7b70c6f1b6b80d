/- place.Chain, slices.Clone, the law's Ints at equal lists. -/
import Derived.Test.YtceljebpcfojeaaOnce
namespace Go.Proofs.Ytceljebpcfojeaa
open Go.RowKit
set_option linter.unusedVariables false

/-- a slice that was made, and reads as the ints c -/
def SlPost (c : List Int) (w : World) (e : Ending) (w' : World) : Prop := ∃ (A : Option Addr) (cap : Nat), e = .returned (.slice A c.length cap) ∧ c.length ≤ cap ∧ cap ≤ 9223372036854775807 ∧ Rd w' w'.heap.size A (ints c) ∧ Below w.heap.size w w'
theorem rd_own {w : World} {B : Nat} {v : Value} {c : List Int} (h : Own w B 3 1 v c.length (ints c)) : ∃ (A : Option Addr) (cap : Nat), v = .slice A c.length cap ∧ c.length ≤ cap ∧ cap ≤ 9223372036854775807 ∧ Rd w w.heap.size A (ints c) := by
  obtain ⟨A, cap, hv, h1, h2⟩ := h.shape
  refine ⟨A, cap, hv, h1, by unfold maxLen at h2; omega, fun h0 => ?_⟩
  rw [ints_length] at h0
  subst hv
  obtain ⟨g, cap', hv', _, hg, _, _⟩ := h.form h0
  simp only [Value.slice.injEq, true_and] at hv'
  obtain ⟨rfl, rfl⟩ := hv'
  exact ⟨g, 0, rfl, hg, fun j u hu => by simpa [Addr.add_lit] using h.cells (g := g) rfl j u hu⟩

set_option maxHeartbeats 400000 in
theorem clone_any (B cap : Nat) (A : Option Addr) (c : List Int) (w : World) (hr : Rd w B A (ints c)) (hB : B ≤ w.heap.size) (hl : c.length ≤ 1000) :
    Calls Try.prog 28 #[.slice A c.length cap] w (SlPost c w) := by
  obtain ⟨i0, hi0, hz0, hz1, hz2⟩ := info_parts Try.info3
  have hnil := fun (W : World) (a : Option Addr) (n c : Nat) => Lib.run_eql_slice_nil (P := Try.prog) W 52 3 a n c 0 0 Try.underlying52
  rcases A with _ | a
  · have hl0 : c = [] := by
      apply List.eq_nil_of_length_eq_zero
      apply Nat.eq_zero_of_not_pos
      intro h0
      obtain ⟨b, off, h1, _⟩ := hr (by rw [ints_length]; exact h0)
      cases h1
    subst hl0
    go_enter Try.func28, Try.ntmps28
    go_wp2
    go_ret
    exact ⟨none, 0, rfl, Nat.le_refl _, by omega, fun h => by simp [ints] at h, Below.refl _ _⟩
  · have hN : Hid (∀ o, 0 < c.length → ∃ a', some a = some a' ∧ ∀ j u, (ints c)[j]? = some u → (w.alloc o).cell? (a'.add j) = some u) := hide fun o h0 => by
      obtain ⟨b, off, h1, h2, h3⟩ := hr (by rw [ints_length]; exact h0)
      injection h1 with h1
      subst h1
      refine ⟨_, rfl, fun j u hu => ?_⟩
      rw [Addr.add_lit]
      exact (((Below.refl w.heap.size w).alloc (Nat.le_refl _) o).cell (p := ⟨b, off + j, none⟩) (show b < w.heap.size by omega)).trans (h3 j u hu)
    have hE : Hid (Own (w.alloc (.cells #[] 3)) w.heap.size 3 1 (.slice (some ⟨w.heap.size, 0, none⟩) 0 0) 0 []) := hide (own_empty (Blk.new w 3 #[]) (Nat.le_refl _))
    have n1 : Hid ((ints c).length = c.length * 1) := hide (by rw [ints_length, Nat.mul_one])
    have n2 : Hid (∀ u ∈ ints c, u.oneCell' = true) := hide (ints_one _)
    have n3 : 0 + c.length ≤ maxLen := by unfold maxLen; omega
    have n4 : (0 + c.length) * 8 ≤ 140737488355328 := by omega
    have n5 : w.heap.size ≤ (w.alloc (.cells #[] 3)).heap.size := by simp
    clear hr
    go_enter Try.func28, Try.ntmps28
    go_wp2_with (at_builtin; refine wpList_append_Own _ rfl (.tmp 5) (.tmp 6) 52 rfl w.heap.size 3 i0 _ 1 8 Try.underlying52 hi0 hz0 hz1 hz2 rfl (by decide) (.slice (some ⟨w.heap.size, 0, none⟩) 0 0) 0 [] rfl hE.out (some a) c.length cap (ints c) rfl n1.out (hN.out _) n2.out n3 n4 n5 ?_; intro v' w1 hown1 hg1 _; have HE := hide (And.intro hown1 hg1); clear hown1 hg1)
    go_ret
    obtain ⟨A', cap', rfl, k1, k2, k3⟩ := rd_own (by simpa using HE.out.1)
    exact ⟨A', cap', rfl, k1, k2, k3, ((Below.refl _ _).alloc (Nat.le_refl _) _).grown HE.out.2 (by simp) (fun k hk => by simp [Value.ownBlock] at hk; omega)⟩

/-- the chain of an address -/
def chainOf (ep : Int) (cs : List (List Int)) (addr : Int) : List Int := if ofB ep cs addr = true then cs.getD (addr % cs.length).toNat [] else []
theorem chain_at {cs : List (List Int)} {addr : Int} {j : Nat} (hj : addr % cs.length = j) (hl : j < cs.length) {ep : Int} (hb : ofB ep cs addr = true) : cs[j]? = some (chainOf ep cs addr) := by
  unfold chainOf
  rw [if_pos hb, hj, Int.toNat_natCast, List.getD_eq_getElem?_getD, List.getElem?_eq_getElem hl]
  rfl

set_option maxHeartbeats 800000 in
theorem chain_any (B : Nat) (ep addr : Int) (v : Value) (cs : List (List Int)) (w : World) (h : PrAt w B v cs) (hB : B ≤ w.heap.size) :
    Calls Try.prog 22 #[.agg #[.int .i64 ep, v], .int .i64 addr] w (SlPost (chainOf ep cs addr) w) := by
  have HI0 : Hid (In w ep v cs (w.alloc (.cells #[.int .i64 ep, v] 24))) := hide (In.start (h.below (Below.refl _ _) hB))
  obtain ⟨A, cap, rfl, hcap, hcap2⟩ := h.shape
  by_cases hb : ofB ep cs addr = true
  · obtain ⟨hg, h0, h1⟩ := ofB_yes hb
    obtain ⟨n0, n1⟩ := goodP_len hg
    have hn : (1 : Int) ≤ (cs.length : Int) := by omega
    have hp := (place_ok hn h0 h1).1
    obtain ⟨j, hj⟩ := Int.eq_ofNat_of_zero_le hp.1
    have hjl : j < cs.length := by omega
    have hc := chain_at hj hjl hb
    have hle : (chainOf ep cs addr).length ≤ 4 := by
      have := (goodP_parts hg).1
      unfold goodC at this
      rw [List.all_eq_true] at this
      have := this _ (List.mem_of_getElem? hc)
      simp only [decide_eq_true_iff] at this
      exact this.2
    have HO := hide (ofVal_good hg ⟨h0, h1⟩)
    rw [hj] at HO
    generalize chainOf ep cs addr = c at *
    obtain ⟨b, off, Aj, capj, rfl, hb', hcell0, hcj, hcj2, hrd, hok⟩ := h.chain hc
    have HC0 := hide hcell0
    have HRD := hide hrd
    clear h hrd hok hcell0 hc hj hp hb hg hn
    generalize hxp : addr / (cs.length : Int) = xp at *
    clear hxp
    go_enter Try.func22, Try.ntmps22
    go_wp2_with fail
    refine (of_to w.heap.size ep addr _ cs _ _ HI0.out.pr HI0.out.bel.size HO.out).mono ?_
    rintro e w1 ⟨rfl, hb1⟩
    have HI1 := hide ((HI0.out.below hb1).alloc (.cells #[.int .i64 j, .int .i64 xp] 40))
    have hws := HI1.out.bel.size
    clear hb1
    obtain ⟨x0, x1, _, _⟩ := HI1.out.box.two
    have hcell := (HI1.out.bel.cell (p := ⟨b, off + j, none⟩) (show b < w.heap.size by omega)).trans HC0.out
    go_wp2_with fail
    refine (clone_any B capj Aj c _ (HRD.out.below (HI1.out.bel.mono (show B ≤ w.heap.size by omega)) (Nat.le_refl _)) (by omega) (by omega)).mono ?_
    rintro e w2 ⟨A', cap', rfl, k1, k2, k3, hb2⟩
    have K3 := hide k3
    have HI2 := hide (HI1.out.below hb2)
    clear k3 hb2
    go_wp2
    go_ret
    exact ⟨A', cap', rfl, k1, k2, K3.out, HI2.out.bel⟩
  · have HO : Hid (ofVal ep cs addr = .tuple #[.agg #[.int .i64 0, .int .i64 0], .bool false]) := hide (by unfold ofVal; rw [if_neg hb]; rfl)
    have hc : chainOf ep cs addr = [] := by unfold chainOf; rw [if_neg hb]
    rw [hc]
    clear h hb hc
    go_enter Try.func22, Try.ntmps22
    go_wp2_with fail
    refine (of_to w.heap.size ep addr _ cs _ _ HI0.out.pr HI0.out.bel.size HO.out).mono ?_
    rintro e w1 ⟨rfl, hb1⟩
    have HI1 := hide ((HI0.out.below hb1).alloc (.cells #[.int .i64 0, .int .i64 0] 40))
    clear hb1
    go_wp2
    go_ret
    exact ⟨none, 0, rfl, Nat.le_refl _, by omega, fun h => by simp [ints] at h, HI1.out.bel⟩

set_option maxHeartbeats 800000 in
theorem ints_same (B1 B2 cap1 cap2 : Nat) (A1 A2 : Option Addr) (c : List Int) (w : World) (h1 : Rd w B1 A1 (ints c)) (h2 : Rd w B2 A2 (ints c)) (hl : c.length ≤ 1000) :
    Calls Try.prog 21 #[.slice A1 c.length cap1, .slice A2 c.length cap2] w fun e w' => e = .returned (.bool true) ∧ ∃ m, w' = w.drewN m := by
  have H1 := hide h1
  have H2 := hide h2
  clear h1 h2
  go_enter Try.func21, Try.ntmps21
  go_wp2
  go_loopw [5] (fun i wr => ∃ k m : Nat, k ≤ c.length ∧ i = .int .i64 k ∧ wr = w.drewN m) (fun i _ => c.length - (intOf i).toNat)
  case atStart => exact ⟨0, 0, Nat.zero_le _, rfl, rfl⟩
  case round =>
    obtain ⟨k, m, hk, rfl, rfl⟩ := hrel
    by_cases hlt : k < c.length
    · have hu : c[k]? = some c[k] := List.getElem?_eq_getElem hlt
      generalize c[k] = u at hu
      obtain ⟨b1, o1, rfl, _, hc1⟩ := H1.out.unit hu
      obtain ⟨b2, o2, rfl, _, hc2⟩ := H2.out.unit hu
      have a1 : ∀ n, (w.drewN n).cell? ⟨b1, o1 + k, none⟩ = some (.int .i64 u) := fun n => hc1
      have a2 : ∀ n, (w.drewN n).cell? ⟨b2, o2 + k, none⟩ = some (.int .i64 u) := fun n => hc2
      clear hu hc1 hc2
      go_wp2_with fail
      go_quiet (fail)
      go_wp2
      go_roundw
      case rel => exact ⟨k + 1, _, by omega, by go_num, rfl⟩
      case measure => simp [intOf]; omega
    · go_wp2
      go_ret
      exact ⟨rfl, m, rfl⟩
end Go.Proofs.Ytceljebpcfojeaa

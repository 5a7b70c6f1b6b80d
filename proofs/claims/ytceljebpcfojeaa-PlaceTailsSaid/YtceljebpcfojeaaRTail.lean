/- The reference's Tail. -/
import Derived.Test.YtceljebpcfojeaaRBelow
namespace Go.Proofs.Ytceljebpcfojeaa
open Go.RowKit
set_option linter.unusedVariables false

/-- units and how many pages each has, as cells -/
def kcells (l : List (Int × Int)) : List Value := l.flatMap fun x => [.int .i64 x.1, .int .i64 x.2]
theorem kcells_length (l : List (Int × Int)) : (kcells l).length = l.length * 2 := by
  induction l with
  | nil => rfl
  | cons x l ih =>
    show ([Value.int .i64 x.1, .int .i64 x.2] ++ kcells l).length = _
    rw [List.length_append, ih, List.length_cons]
    simp
    omega
theorem kcells_drop (l : List (Int × Int)) (k : Nat) : (kcells l).drop (k * 2) = kcells (l.drop k) := by
  induction l generalizing k with
  | nil => simp [kcells]
  | cons x l ih =>
    cases k with
    | zero => simp
    | succ k =>
      rw [List.drop_succ_cons, ← ih k, show (k + 1) * 2 = k * 2 + 2 from by omega]
      rfl
theorem kcells_get (l : List (Int × Int)) (k : Nat) (x : Int × Int) (h : l[k]? = some x) : (kcells l)[k * 2]? = some (.int .i64 x.1) ∧ (kcells l)[k * 2 + 1]? = some (.int .i64 x.2) := by
  have hd : (kcells l).drop (k * 2) = [.int .i64 x.1, .int .i64 x.2] ++ kcells (l.drop (k + 1)) := by
    rw [kcells_drop]
    have hk : k < l.length := (List.getElem?_eq_some_iff.1 h).1
    have hx : l[k] = x := (List.getElem?_eq_some_iff.1 h).2
    rw [List.drop_eq_getElem_cons hk, hx]
    rfl
  have g : ∀ j, (kcells l)[k * 2 + j]? = ([Value.int .i64 x.1, .int .i64 x.2] ++ kcells (l.drop (k + 1)))[j]? := fun j => by rw [← hd, List.getElem?_drop]
  exact ⟨(g 0).trans rfl, (g 1).trans rfl⟩

theorem IsTail.congr {n : Int} {a b : List (Int × Int)} {t : Int} (h : IsTail n a t) (he : ∀ s, s ∈ a ↔ s ∈ b) : IsTail n b t :=
  ⟨fun s hs => h.up s ((he s).2 hs), h.at_.imp id fun ⟨s, hs, k⟩ => ⟨s, (he s).1 hs, k⟩, h.pos⟩
theorem IsTail.zero {n : Int} {S : List (Int × Int)} {t i : Int} (h : IsTail n S t) : IsTail n (S ++ [(i, 0)]) t := by
  refine ⟨fun s hs hp => ?_, h.at_.imp id fun ⟨s, hs, k⟩ => ⟨s, List.mem_append_left _ hs, k⟩, h.pos⟩
  rcases List.mem_append.1 hs with hs | hs
  · exact h.up s hs hp
  · rw [List.mem_singleton.1 hs] at hp
    exact absurd hp (by simp)
theorem IsTail.step {n : Int} {S : List (Int × Int)} {t i : Int} {p : Nat} (hn : 1 ≤ n) (h : IsTail n (S ++ [(i, (p : Int))]) t) : IsTail n (S ++ [(i, ((p + 1 : Nat) : Int))]) (max t (p * n + i + 1)) := by
  have e : (((p + 1 : Nat) : Int) - 1) * n = p * n := by rw [show ((p + 1 : Nat) : Int) - 1 = (p : Int) by omega]
  refine ⟨fun s hs hp => ?_, ?_, ?_⟩
  · rcases List.mem_append.1 hs with hs | hs
    · have := h.up s (List.mem_append_left _ hs) hp
      omega
    · rw [List.mem_singleton.1 hs]
      show (((p + 1 : Nat) : Int) - 1) * n + i + 1 ≤ _
      rw [e]
      omega
  · rcases Int.le_total t (p * n + i + 1) with hle | hle
    · rw [Int.max_eq_right hle]
      refine .inr ⟨(i, ((p + 1 : Nat) : Int)), List.mem_append_right _ (List.mem_singleton.2 rfl), ?_, ?_⟩
      · show (0 : Int) < ((p + 1 : Nat) : Int)
        omega
      · show _ = (((p + 1 : Nat) : Int) - 1) * n + i + 1
        rw [e]
    · rw [Int.max_eq_left hle]
      rcases h.at_ with h0 | ⟨s, hs, hp, ht⟩
      · exact .inl h0
      · rcases List.mem_append.1 hs with hs | hs
        · exact .inr ⟨s, List.mem_append_left _ hs, hp, ht⟩
        · rw [List.mem_singleton.1 hs] at ht
          have e2 : ((p : Int) - 1) * n = p * n - n := by rw [Int.sub_mul, Int.one_mul]
          simp only [e2] at ht
          omega
  · have := h.pos
    omega
/-- what the first j of the counts say of a unit -/
def seenC (i : Int) (u : Int) (l : List (Int × Int)) : List (Int × Int) := (l.filter fun x => decide (x.1 = u)).map fun x => (i, cut x.2)
theorem seenC_take (i u : Int) (l : List (Int × Int)) (j : Nat) (x : Int × Int) (h : l[j]? = some x) : seenC i u (l.take (j + 1)) = seenC i u (l.take j) ++ if x.1 = u then [(i, cut x.2)] else [] := by
  unfold seenC
  rw [List.take_add_one, h, List.filter_append, List.map_append]
  by_cases hx : x.1 = u <;> simp [hx]
theorem seenC_all {l : List (Int × Int)} (hl : l.Pairwise fun x y => x.1 ≠ y.1) (i u : Int) : ∀ s, s ∈ seenC i u l ↔ s ∈ (if hasL l u = true then [(i, cut (getL l u))] else []) := by
  intro s
  unfold seenC
  simp only [List.mem_map, List.mem_filter, decide_eq_true_iff]
  by_cases hh : hasL l u = true
  · rw [if_pos hh, List.mem_singleton]
    constructor
    · rintro ⟨x, ⟨hx, rfl⟩, rfl⟩
      rw [getL_mem hl hx]
    · rintro rfl
      obtain ⟨x, hx, rfl⟩ := hasL_iff.1 hh
      exact ⟨x, ⟨hx, rfl⟩, by rw [getL_mem hl hx]⟩
  · rw [if_neg hh]
    constructor
    · rintro ⟨x, ⟨hx, hx1⟩, _⟩
      exact absurd (hasL_iff.2 ⟨x, hx, hx1⟩) hh
    · intro h
      cases h

def RtRel (n : Int) (ss : List (Int × Int)) (w1 : World) (tv : Value) (wr : World) : Prop := ∃ (t : Int) (q : Nat), tv = .int .i64 t ∧ 0 ≤ t ∧ t ≤ 20000 ∧ wr = w1.drewN q ∧ IsTail n ss t

set_option maxRecDepth 100000 in
set_option maxHeartbeats 3200000 in
theorem rtail_yes (B Bk : Nat) (m : List (Int × Int)) (Ak : Option Addr) (capk : Nat) (ep : Int) (v : Value) (cs : List (List Int)) (w : World) (h : PrAt w B v cs) (hB : B ≤ w.heap.size) (hm : m.Pairwise fun x y => x.1 ≠ y.1) (hk : Rd w Bk Ak (kcells m)) (hBk : Bk ≤ w.heap.size) (hml : m.length ≤ 1000) (hg : goodP ep cs = true) :
    Calls Try.prog 12 #[.agg #[.int .i64 ep, v], .slice Ak m.length capk] w (TailPost ep cs m w) := by
  obtain ⟨hgc, n1, n0, hfl, hnd⟩ := goodP_parts hg
  have HPA : Hid (∀ o, PrAt (w.alloc o) w.heap.size v cs) := hide fun o => h.below ((Below.refl _ _).alloc (Nat.le_refl _) _) hB
  have HG := hide hg
  obtain ⟨A, cap, rfl, hcap, hcap2⟩ := h.shape
  have HP := hide h
  have HM := hide hm
  have HKK := hide hk
  clear hg h hgc hnd hm hk
  have hn : (1 : Int) ≤ (cs.length : Int) := by omega
  go_enter Try.func12, Try.ntmps12
  go_wp2_with fail
  refine (rgood_to w.heap.size ep _ cs true _ (HPA.out _) (by simp) HG.out).mono ?_
  rintro e w1 ⟨rfl, hb1⟩
  obtain ⟨c0, c1, k3⟩ := Blk.new2 hb1
  have HB1 := hide k3
  have HPW : Hid (PrAt w1 w.heap.size (.slice A cs.length cap) cs) := hide (HP.out.below k3 hB)
  have HKW : Hid (Rd w1 w.heap.size Ak (kcells m)) := hide (HKK.out.below k3 hBk)
  have d1 : ∀ q, (w1.drewN q).cell? ⟨w.heap.size, 1, none⟩ = some (.slice A cs.length cap) := fun q => c1
  clear k3 hb1
  go_wp2_with fail
  clear c0 c1
  go_loopw [6, 7] (fun tv iv wr => ∃ i : Nat, i ≤ cs.length ∧ iv = .int .i64 i ∧ RtRel cs.length (spots m (cs.take i)) w1 tv wr) (fun _ iv _ => cs.length - (intOf iv).toNat)
  case atStart => exact ⟨0, Nat.zero_le _, rfl, 0, 0, rfl, by omega, by omega, rfl, ⟨fun s hs => by simp [spots, spotsF] at hs, .inl rfl, by omega⟩⟩
  case round =>
    obtain ⟨i, hi, rfl, t, q, rfl, ht0, ht1, rfl, hT⟩ := hrel
    have HT := hide hT
    clear hT
    by_cases hlt : i < cs.length
    · have hc : cs[i]? = some cs[i] := List.getElem?_eq_getElem hlt
      generalize cs[i] = c at hc
      have HC := hide hc
      clear hc
      obtain ⟨b, off, Aj, capj, rfl, hb, hcell0, hcj, hcj2, hrd, hok⟩ := HPW.out.chain HC.out
      have hcell : ∀ q, (w1.drewN q).cell? ⟨b, off + i, none⟩ = some (.slice Aj c.length capj) := fun q => hcell0
      have HRD := hide hrd
      clear hcell0 hrd hok
      go_wp2_with fail
      go_loopw [6, 8] (fun tv kv wr => ∃ k : Nat, k ≤ c.length ∧ kv = .int .i64 k ∧ RtRel cs.length (spots m (cs.take i) ++ spotsC i m (c.take k)) w1 tv wr) (fun _ kv _ => c.length - (intOf kv).toNat)
      case atStart => exact ⟨0, Nat.zero_le _, rfl, t, q, rfl, ht0, ht1, rfl, by simpa [spotsC] using HT.out⟩
      case round =>
        clear HT
        obtain ⟨k, hkk, rfl, t, q, rfl, ht0, ht1, rfl, hT⟩ := hrel
        have HT := hide hT
        clear hT
        by_cases hlt2 : k < c.length
        · have hu : c[k]? = some c[k] := List.getElem?_eq_getElem hlt2
          generalize c[k] = u at hu
          obtain ⟨bu, offu, rfl, hbu, hcu0⟩ := HRD.out.unit hu
          have hcu : ∀ q, (w1.drewN q).cell? ⟨bu, offu + k, none⟩ = some (.int .i64 u) := fun q => hcu0
          have HSC := hide (spotsC_take i m c k u hu)
          clear hu hcu0
          go_wp2_with fail
          go_loopw [6, 9] (fun tv jv wr => ∃ j : Nat, j ≤ m.length ∧ jv = .int .i64 j ∧ RtRel cs.length ((spots m (cs.take i) ++ spotsC i m (c.take k)) ++ seenC i u (m.take j)) w1 tv wr) (fun _ jv _ => m.length - (intOf jv).toNat)
          case atStart => exact ⟨0, Nat.zero_le _, rfl, t, q, rfl, ht0, ht1, rfl, by simpa [seenC] using HT.out⟩
          case round =>
            clear HT
            obtain ⟨j, hj, rfl, t, q, rfl, ht0, ht1, rfl, hT⟩ := hrel
            have HT := hide hT
            clear hT
            by_cases hlt3 : j < m.length
            · have hx : m[j]? = some m[j] := List.getElem?_eq_getElem hlt3
              generalize m[j] = x at hx
              obtain ⟨y0, y1⟩ := kcells_get m j x hx
              have HSN := hide (seenC_take i u m j x hx)
              obtain ⟨bx, offx, rfl, hbx, hxc⟩ := HKW.out (by rw [kcells_length]; omega)
              have hx0 : ∀ q, (w1.drewN q).cell? ⟨bx, offx + j * 2, none⟩ = some (.int .i64 x.1) := fun q => hxc _ _ y0
              have hx1 : ∀ q, (w1.drewN q).cell? ⟨bx, offx + j * 2 + 1, none⟩ = some (.int .i64 x.2) := fun q => hxc _ _ y1
              clear hx y0 y1 hxc
              obtain ⟨xu, xn⟩ := x
              simp only at hx0 hx1
              by_cases hxu : xu = u
              · have hbb : (xu != u) = false := by simp [hxu]
                have HSN2 : Hid (seenC i u (m.take (j + 1)) = seenC i u (m.take j) ++ [((i : Int), cut xn)]) := hide (by rw [HSN.out, if_pos hxu])
                clear hxu HSN
                go_wp2_with fail
                go_quiet (fail)
                go_wp2_with fail
                generalize hS : (spots m (cs.take i) ++ spotsC i m (c.take k)) ++ seenC i u (m.take j) = S at HT
                have HSS := hide hS
                clear hS
                go_loop [6, 11] (fun tv pv => ∃ (t : Int) (p : Nat), tv = .int .i64 t ∧ pv = .int .i64 p ∧ 0 ≤ t ∧ t ≤ 20000 ∧ (p : Int) ≤ max 0 (min xn 4096) ∧ Hid (IsTail cs.length (S ++ [((i : Int), (p : Int))]) t)) (fun _ pv => (max 0 (min xn 4096) - intOf pv).toNat)
                case atStart => exact ⟨t, 0, rfl, rfl, ht0, ht1, by omega, hide HT.out.zero⟩
                case round =>
                  clear HT
                  obtain ⟨t, p, rfl, rfl, ht0, ht1, hp, HT⟩ := hrel
                  by_cases h4 : (p : Int) < max 0 (min xn 4096)
                  · have m0 : 0 ≤ (p : Int) * (cs.length : Int) := Int.mul_nonneg (by omega) (by omega)
                    have m1 : (p : Int) * (cs.length : Int) ≤ 4095 * 4 := Int.mul_le_mul (by omega) (by omega) (by omega) (by omega)
                    have m2 : (p : Int) * (cs.length : Int) ≤ 16380 := m1
                    have HS := hide (HT.out.step hn)
                    clear m1
                    go_wp2
                    go_round
                    case rel => exact ⟨_, p + 1, rfl, by go_num, by omega, by omega, by omega, hide HS.out⟩
                    case measure => simp [intOf]; omega
                  · have HE : Hid (IsTail cs.length ((spots m (cs.take i) ++ spotsC i m (c.take k)) ++ seenC i u (m.take (j + 1))) t) := hide (by
                      have hpc : (p : Int) = cut xn := by unfold cut; omega
                      rw [HSN2.out, ← List.append_assoc, HSS.out, ← hpc]
                      exact HT.out)
                    go_wp2
                    go_roundw
                    case rel => exact ⟨j + 1, by omega, by go_num, t, _, rfl, ht0, ht1, rfl, HE.out⟩
                    case measure => simp [intOf]; omega
              · have hbb : (xu != u) = true := by simp [hxu]
                have HSN2 : Hid (seenC i u (m.take (j + 1)) = seenC i u (m.take j)) := hide (by rw [HSN.out, if_neg hxu, List.append_nil])
                clear hxu HSN
                go_wp2_with fail
                go_quiet (fail)
                go_wp2
                go_roundw
                case rel => exact ⟨j + 1, by omega, by go_num, t, _, rfl, ht0, ht1, rfl, by rw [HSN2.out]; exact HT.out⟩
                case measure => simp [intOf]; omega
            · have HJ : Hid (IsTail cs.length (spots m (cs.take i) ++ spotsC i m (c.take (k + 1))) t) := hide (by
                have hjm : j = m.length := by omega
                have h1 := HT.out
                rw [hjm, List.take_length] at h1
                refine h1.congr fun s => ?_
                rw [HSC.out, ← List.append_assoc]
                exact (List.mem_append.trans (or_congr Iff.rfl (seenC_all HM.out _ _ s))).trans List.mem_append.symm)
              go_wp2
              go_roundw
              case rel => exact ⟨k + 1, by omega, by go_num, t, q, rfl, ht0, ht1, rfl, HJ.out⟩
              case measure => simp [intOf]; omega
        · have HK : Hid (IsTail cs.length (spots m (cs.take (i + 1))) t) := hide (by
            have hkc : k = c.length := by omega
            have h1 := HT.out
            rw [hkc, List.take_length] at h1
            rw [spots_take m cs i c HC.out]
            exact h1)
          go_wp2
          go_roundw
          case rel => exact ⟨i + 1, by omega, by go_num, t, q, rfl, ht0, ht1, rfl, HK.out⟩
          case measure => simp [intOf]; omega
    · have HE : Hid (IsTail cs.length (spots m cs) t) := hide (by
        have hic : i = cs.length := by omega
        have h1 := HT.out
        rwa [hic, List.take_length] at h1)
      go_wp2
      go_ret
      exact ⟨t, rfl, ⟨fun _ => HE.out, fun h => by rw [HG.out] at h; cases h⟩, ⟨HB1.out.os, HB1.out.tape, HB1.out.output, HB1.out.size, HB1.out.block⟩⟩
theorem rtail_any (B Bk : Nat) (m : List (Int × Int)) (Ak : Option Addr) (capk : Nat) (ep : Int) (v : Value) (cs : List (List Int)) (w : World) (h : PrAt w B v cs) (hB : B ≤ w.heap.size) (hm : m.Pairwise fun x y => x.1 ≠ y.1) (hk : Rd w Bk Ak (kcells m)) (hBk : Bk ≤ w.heap.size) (hml : m.length ≤ 1000) :
    Calls Try.prog 12 #[.agg #[.int .i64 ep, v], .slice Ak m.length capk] w (TailPost ep cs m w) := by
  by_cases hg : goodP ep cs = true
  · exact rtail_yes B Bk m Ak capk ep v cs w h hB hm hk hBk hml hg
  · have hf := eq_false_of_ne_true hg
    have HPA : Hid (∀ o, PrAt (w.alloc o) w.heap.size v cs) := hide fun o => h.below ((Below.refl _ _).alloc (Nat.le_refl _) _) hB
    have HG := hide hf
    have HX : Hid (IsT ep cs m 0) := hide ⟨fun h => absurd h hg, fun _ => rfl⟩
    clear hg hf h hk hm
    go_enter Try.func12, Try.ntmps12
    go_wp2_with fail
    refine (rgood_to w.heap.size ep _ cs false _ (HPA.out _) (by simp) HG.out).mono ?_
    rintro e w1 ⟨rfl, hb1⟩
    obtain ⟨c0, c1, k3⟩ := Blk.new2 hb1
    have HB3 := hide k3
    clear k3 hb1
    go_wp2
    go_ret
    exact ⟨0, rfl, HX.out, HB3.out⟩
end Go.Proofs.Ytceljebpcfojeaa

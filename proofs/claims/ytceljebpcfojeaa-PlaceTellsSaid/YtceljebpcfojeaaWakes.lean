/- The law's wakes; LargeProjection. -/
import Derived.Test.YtceljebpcfojeaaTail
namespace Go.Proofs.Ytceljebpcfojeaa
open Go.RowKit
set_option linter.unusedVariables false

def wkC : List (List Int) := [[0, 1], [2]]
theorem wk_pr {W : World} {s : Nat} (h1 : Blk W s 3 #[.int .i64 0, .int .i64 1]) (h2 : Blk W (s + 1) 3 #[.int .i64 2]) (h3 : Blk W (s + 2) 52 #[.slice (some ⟨s, 0, none⟩) 2 2, .slice (some ⟨s + 1, 0, none⟩) 1 1]) :
    PrAt W (s + 3) (.slice (some ⟨s + 2, 0, none⟩) 2 2) wkC := by
  refine ⟨some ⟨s + 2, 0, none⟩, 2, [.slice (some ⟨s, 0, none⟩) 2 2, .slice (some ⟨s + 1, 0, none⟩) 1 1], rfl, by decide, by decide, rfl, fun _ => ⟨s + 2, 0, rfl, by omega, fun j u hu => ?_⟩, fun j c hj => ?_⟩
  · rw [h3.cell]
    simpa using hu
  · match j, hj with
    | 0, hj =>
      obtain rfl : [0, 1] = c := by simpa [wkC] using hj
      refine ⟨some ⟨s, 0, none⟩, 2, rfl, by decide, by decide, fun _ => ⟨s, 0, rfl, by omega, fun k u hu => ?_⟩, fun u hu => okI_of ?_⟩
      · rw [h1.cell]
        simpa [ints] using hu
      · simp at hu
        omega
    | 1, hj =>
      obtain rfl : [2] = c := by simpa [wkC] using hj
      refine ⟨some ⟨s + 1, 0, none⟩, 1, rfl, by decide, by decide, fun _ => ⟨s + 1, 0, rfl, by omega, fun k u hu => ?_⟩, fun u hu => okI_of ?_⟩
      · rw [h2.cell]
        simpa [ints] using hu
      · simp at hu
        omega
    | j + 2, hj => simp [wkC] at hj
theorem wk_good : goodP 0 wkC = true := by decide
theorem wk_of : ofVal 0 wkC 5 = .tuple #[.agg #[.int .i64 1, .int .i64 2], .bool true] := by
  have : ofB 0 wkC 5 = true := by decide
  unfold ofVal
  rw [if_pos this]
  rfl
theorem wk_tail {t : Int} (h : IsT 0 wkC [(2, 3)] t) : t = 6 := by
  have h1 := h.1 wk_good
  have h2 : IsTail (wkC.length : Int) (spots [(2, 3)] wkC) 6 := ⟨by decide, .inr ⟨(1, 3), by decide, by decide, by decide⟩, by decide⟩
  exact h1.eq h2 (fun s => Iff.rfl)

set_option maxRecDepth 100000 in
set_option maxHeartbeats 1600000 in
theorem wakes_any (w : World) : Calls Try.prog 9 #[] w fun e w' => e = .returned (.bool true) ∧ Below w.heap.size w w' := by
  have hmm := @run_makeMap Try.prog
  have hgk := hide wk_good
  have H0 : Hid (∀ o : Obj, PrAt ((((w.alloc (.cells #[.int .i64 0, .int .i64 1] 3)).alloc (.cells #[.int .i64 2] 3)).alloc (.cells #[.slice (some ⟨w.heap.size, 0, none⟩) 2 2, .slice (some ⟨w.heap.size + 1, 0, none⟩) 1 1] 52)).alloc o) (w.heap.size + 3) (.slice (some ⟨w.heap.size + 1 + 1, 0, none⟩) 2 2) wkC) := hide fun o =>
    wk_pr (s := w.heap.size) ((((Blk.new w 3 _).alloc _).alloc _).alloc _) (((Blk.new' (w.alloc (.cells #[.int .i64 0, .int .i64 1] 3)) 3 #[.int .i64 2] _ (by simp)).alloc _).alloc _) ((Blk.new' ((w.alloc (.cells #[.int .i64 0, .int .i64 1] 3)).alloc (.cells #[.int .i64 2] 3)) 52 _ _ (by simp)).alloc _)
  have B0 : Hid (∀ o1 o2 o3 o4 : Obj, Below w.heap.size w ((((w.alloc o1).alloc o2).alloc o3).alloc o4)) := hide fun o1 o2 o3 o4 => ((((Below.refl _ _).alloc (Nat.le_refl _) _).alloc (by simp) _).alloc (by simp; omega) _).alloc (by simp; omega) _
  have X0 : Hid (∀ o1 o2 o3 : Obj, Blk ((((w.alloc o1).alloc o2).alloc o3).alloc (.cells #[.int .i64 0, .slice (some ⟨w.heap.size + 1 + 1, 0, none⟩) 2 2] 24)) (w.heap.size + 1 + 1 + 1) 24 #[.int .i64 0, .slice (some ⟨w.heap.size + 1 + 1, 0, none⟩) 2 2]) := hide fun o1 o2 o3 => Blk.new' (((w.alloc o1).alloc o2).alloc o3) 24 _ _ (by simp)
  go_enter Try.func9, Try.ntmps9
  go_wp2_with fail
  refine (of_any (w.heap.size + 3) 0 5 _ wkC _ (H0.out _) (by simp)).mono ?_
  rintro e w1 ⟨rfl, hb1⟩
  rw [wk_of]
  have HP1 := hide ((H0.out (.cells #[.int .i64 0, .slice (some ⟨w.heap.size + 1 + 1, 0, none⟩) 2 2] 24)).below hb1 (by simp))
  have HX1 := hide ((X0.out (.cells #[.int .i64 0, .int .i64 1] 3) (.cells #[.int .i64 2] 3) (.cells #[.slice (some ⟨w.heap.size, 0, none⟩) 2 2, .slice (some ⟨w.heap.size + 1, 0, none⟩) 1 1] 52)).below hb1 (by simp))
  have HB1 : Hid (Below w.heap.size w w1) := hide ((B0.out _ _ _ _).trans (hb1.mono (by simp; omega)))
  have hw1' := hb1.size
  clear hb1
  simp only [World.size_alloc] at HP1 hw1'
  have hw1 : w.heap.size + 1 + 1 + 1 + 1 ≤ w1.heap.size := hw1'
  have hwB : w.heap.size ≤ w1.heap.size := by omega
  generalize w.heap.size + 1 + 1 + 1 + 1 = B1 at *
  have hxl := HX1.out.lt
  generalize w.heap.size + 1 + 1 + 1 = sp at *
  have HP2 : Hid (∀ o, PrAt (w1.alloc o) B1 (.slice (some ⟨w.heap.size + 1 + 1, 0, none⟩) 2 2) wkC) := hide fun o => HP1.out.below ((Below.refl B1 w1).alloc hw1 _) (Nat.le_refl _)
  have HX2 : Hid (∀ o, Blk (w1.alloc o) sp 24 #[.int .i64 0, .slice (some ⟨w.heap.size + 1 + 1, 0, none⟩) 2 2]) := hide fun o => HX1.out.alloc o
  have cx0 : ∀ o, (w1.alloc o).cell? ⟨sp, 0, none⟩ = some (.int .i64 0) := fun o => (HX2.out o).cell 0
  have cx1 : ∀ o, (w1.alloc o).cell? ⟨sp, 1, none⟩ = some (.slice (some ⟨w.heap.size + 1 + 1, 0, none⟩) 2 2) := fun o => (HX2.out o).cell 1
  go_wp2_with fail
  refine (addr_yes B1 0 1 2 _ wkC _ (HP2.out _) (by simp; omega) hgk.out (by decide)).mono ?_
  rintro e w2 ⟨rfl, hb2⟩
  rw [show AdVal (2 * (wkC.length : Int) + 1) true = .tuple #[.int .i64 5, .bool true] from rfl]
  have HP3 := hide ((HP2.out (.cells #[.int .i64 1, .int .i64 2] 40)).below (hb2.mono (by simp; omega)) (Nat.le_refl B1))
  have HX3 := hide ((HX2.out (.cells #[.int .i64 1, .int .i64 2] 40)).below hb2 (by simp; omega))
  have HY3 := hide ((Blk.new w1 40 #[.int .i64 1, .int .i64 2]).below hb2 (by simp))
  have HB2 : Hid (Below w.heap.size w w2) := hide ((HB1.out.alloc (by omega) _).trans (hb2.mono (by simp; omega)))
  have hw2 := hb2.size
  simp only [World.size_alloc] at hw2
  clear hb2 cx0 cx1
  obtain ⟨x0, x1, _, _⟩ := HX3.out.two
  obtain ⟨y0, y1, _, _⟩ := HY3.out.two
  have hxl3 := HX3.out.lt
  obtain ⟨w3, hins, hm3, hg3⟩ := (map_new kI w2).put (k := 2) (okI_of (by decide)) (by simp [maxLen]) 3
  replace hins : (Instr.mapUpdate 29 (.map (some w2.heap.size)) (.int .i64 2) (.int .i64 3)).run Try.prog (w2.alloc (.map #[] 0)) = .ok () w3 := hins
  have HM3 : Hid (MapAt kI w3 w2.heap.size [(2, 3)]) := hide hm3
  have HBL3 : Hid (Below w2.heap.size w2 w3) := hide (((Below.refl _ _).alloc (Nat.le_refl _) _).grown hg3 (by simp) (fun k hk => by injection hk with hk; omega))
  have hw3 := HBL3.out.size
  have HP4 := hide (HP3.out.below (HBL3.out.mono (show B1 ≤ w2.heap.size by omega)) (Nat.le_refl B1))
  have HX4 := hide (HX3.out.below HBL3.out hxl3)
  clear hm3 hg3
  go_wp2_with fail
  refine (tail_any B1 w2.heap.size [(2, 3)] 0 _ wkC _ HP4.out (by omega) HM3.out).mono ?_
  rintro e w4 ⟨t, rfl, ht, hb4⟩
  have e6 := wk_tail ht
  subst e6
  have HP5 := hide (HP4.out.below (hb4.mono (show B1 ≤ w3.heap.size by omega)) (Nat.le_refl B1))
  have HX5 := hide (HX4.out.below hb4 HX4.out.lt)
  have HB4 : Hid (Below w.heap.size w w4) := hide ((HB2.out.trans (HBL3.out.mono (by omega))).trans (hb4.mono (by omega)))
  have hw4 := hb4.size
  clear ht hb4 x0 x1 y0 y1 hins
  obtain ⟨x0, x1, _, _⟩ := HX5.out.two
  go_wp2_with fail
  refine (below_any B1 0 5 0 _ wkC _ HP5.out (by omega)).mono ?_
  rintro e w5 ⟨rfl, hb5⟩
  rw [show beVal 0 wkC 5 0 = 3 from by decide]
  go_wp2
  go_ret
  exact ⟨rfl, HB4.out.trans (hb5.mono (by have := HB4.out.size; omega))⟩

def largeP (cs : List (List Int)) : Bool := decide (50 < cs.length) || cs.any fun c => decide (50 < c.length)
theorem large_no {cs : List (List Int)} (h : largeP cs = false) : cs.length ≤ 50 ∧ ∀ c ∈ cs, c.length ≤ 50 := by
  unfold largeP at h
  rw [Bool.or_eq_false_iff, decide_eq_false_iff_not, List.any_eq_false] at h
  refine ⟨by omega, fun c hc => ?_⟩
  have := h.2 c hc
  simp only [decide_eq_true_iff] at this
  omega
theorem largeP_part {cs : List (List Int)} (h : cs.length ≤ 50) {j : Nat} {c : List Int} (hj : cs[j]? = some c) (hc : 50 < c.length) : largeP cs = true := by
  unfold largeP
  rw [Bool.or_eq_true, List.any_eq_true]
  exact .inr ⟨c, List.mem_of_getElem? hj, by simpa using hc⟩

set_option maxHeartbeats 800000 in
theorem large_any (B : Nat) (ep : Int) (v : Value) (cs : List (List Int)) (w : World) (h : PrAt w B v cs) (hB : B ≤ w.heap.size) :
    Calls Try.prog 8 #[.agg #[.int .i64 ep, v]] w fun e w' => e = .returned (.bool (largeP cs)) ∧ Below w.heap.size w w' := by
  obtain ⟨A, cap, rfl, hcap, hcap2⟩ := h.shape
  have HP := hide h
  clear h
  by_cases hn : cs.length ≤ 50
  · go_enter Try.func8, Try.ntmps8
    go_wp2
    go_loop [3] (fun i => ∃ j : Nat, j ≤ cs.length ∧ i = .int .i64 j ∧ Hid (∀ c ∈ cs.take j, c.length ≤ 50)) (fun i => cs.length - (intOf i).toNat)
    case atStart => exact ⟨0, Nat.zero_le _, rfl, hide (by simp)⟩
    case round =>
      obtain ⟨j, hj, rfl, HG⟩ := hrel
      by_cases hlt : j < cs.length
      · have hc : cs[j]? = some cs[j] := List.getElem?_eq_getElem hlt
        generalize cs[j] = c at hc
        have HC := hide hc
        clear hc
        obtain ⟨b, off, Aj, capj, rfl, hb, hcell0, hcj, hcj2, hrd, hok⟩ := HP.out.chain HC.out
        have hcell : ∀ o, (w.alloc o).cell? ⟨b, off + j, none⟩ = some (.slice Aj c.length capj) := fun o => (((Below.refl w.heap.size w).alloc (Nat.le_refl _) o).cell (p := ⟨b, off + j, none⟩) (show b < w.heap.size by omega)).trans hcell0
        clear hcell0 hrd hok
        by_cases hc0 : c.length ≤ 50
        · go_wp2
          go_round
          case rel =>
            refine ⟨j + 1, by omega, by go_num, hide fun d hd => ?_⟩
            rw [List.take_add_one, HC.out, List.mem_append] at hd
            rcases hd with hd | hd
            · exact HG.out d hd
            · have : d = c := by simpa using hd
              rw [this]; exact hc0
          case measure => simp [intOf]; omega
        · have HL := hide (largeP_part hn HC.out (by omega))
          go_wp2
          go_ret
          exact ⟨by rw [HL.out]; rfl, (Below.refl _ _).alloc (Nat.le_refl _) _⟩
      · have HL : Hid (largeP cs = false) := hide (by
          have hjl : j = cs.length := by omega
          have hh := HG.out
          rw [hjl, List.take_length] at hh
          unfold largeP
          rw [Bool.or_eq_false_iff, decide_eq_false_iff_not, List.any_eq_false]
          exact ⟨by omega, fun c hc => by have := hh c hc; simp only [decide_eq_true_iff]; omega⟩)
        go_wp2
        go_ret
        exact ⟨by rw [HL.out]; rfl, (Below.refl _ _).alloc (Nat.le_refl _) _⟩
  · have HL : Hid (largeP cs = true) := hide (by unfold largeP; rw [decide_eq_true (by omega), Bool.true_or])
    go_enter Try.func8, Try.ntmps8
    go_wp2
    go_ret
    exact ⟨by rw [HL.out]; rfl, (Below.refl _ _).alloc (Nat.le_refl _) _⟩
end Go.Proofs.Ytceljebpcfojeaa

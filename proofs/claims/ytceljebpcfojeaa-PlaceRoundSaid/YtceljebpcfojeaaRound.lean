/- The law PlaceRound. -/
import Derived.Test.YtceljebpcfojeaaChain
namespace Go.Proofs.Ytceljebpcfojeaa
open Go.RowKit
set_option linter.unusedVariables false

/-- the next address's place, and the place one round on -/
theorem next_place {n i j : Int} (hn : 1 ≤ n) (h0 : 0 ≤ i) (hj : i % n = j) : (j + 1 < n → (i + 1) % n = j + 1 ∧ (i + 1) / n = i / n) ∧ (j + 1 = n → (i + 1) % n = 0 ∧ (i + 1) / n = i / n + 1) ∧ (i + n) % n = j ∧ (i + n) / n = i / n + 1 := by
  have e : i / n * n + i % n = i := by rw [Int.mul_comm]; exact Int.mul_ediv_add_emod i n
  have m0 := Int.emod_nonneg i (show n ≠ 0 by omega)
  have m1 := Int.emod_lt_of_pos i (show 0 < n by omega)
  refine ⟨fun hl => ?_, fun hl => ?_, ?_, ?_⟩
  · rw [show i + 1 = (j + 1) + i / n * n by omega]
    rw [Int.add_mul_emod_self_right, Int.add_mul_ediv_right _ _ (by omega), Int.emod_eq_of_lt (by omega) hl, Int.ediv_eq_zero_of_lt (by omega) hl]
    omega
  · have e2 : i + 1 = 0 + (i / n + 1) * n := by rw [Int.add_mul]; omega
    rw [e2, Int.add_mul_emod_self_right, Int.add_mul_ediv_right _ _ (by omega)]
    simp
  · rw [Int.add_emod_right, hj]
  · rw [Int.add_ediv_of_dvd_right (Int.dvd_refl n), Int.ediv_self (by omega)]
theorem eight_cells {w : World} {bp bx bY bz : Nat} {ep v j xp yc yp zp : Value} (h : Blk w bp 24 #[ep, v]) (hx : Blk w bx 40 #[j, xp]) (hy : Blk w bY 40 #[yc, yp]) (hz : Blk w bz 40 #[j, zp]) :
    (w.cell? ⟨bp, 0, none⟩ = some ep ∧ w.cell? ⟨bp, 1, none⟩ = some v) ∧ (w.cell? ⟨bx, 0, none⟩ = some j ∧ w.cell? ⟨bx, 1, none⟩ = some xp) ∧ (w.cell? ⟨bY, 0, none⟩ = some yc ∧ w.cell? ⟨bY, 1, none⟩ = some yp) ∧ (w.cell? ⟨bz, 0, none⟩ = some j ∧ w.cell? ⟨bz, 1, none⟩ = some zp) :=
  ⟨⟨h.cell 0, h.cell 1⟩, ⟨hx.cell 0, hx.cell 1⟩, ⟨hy.cell 0, hy.cell 1⟩, hz.cell 0, hz.cell 1⟩
/-- the blocks that the law's last line reads -/
structure RdAll (w : World) (ep : Int) (v : Value) (cs : List (List Int)) (bx bY bz : Nat) (j xp yc yp zp : Int) (wr : World) : Prop where
  inn : In w ep v cs wr
  x : Blk wr bx 40 #[.int .i64 j, .int .i64 xp]
  y : Blk wr bY 40 #[.int .i64 yc, .int .i64 yp]
  z : Blk wr bz 40 #[.int .i64 j, .int .i64 zp]
theorem RdAll.below {w wr w' : World} {ep : Int} {v : Value} {cs : List (List Int)} {bx bY bz : Nat} {j xp yc yp zp : Int} (h : RdAll w ep v cs bx bY bz j xp yc yp zp wr) (hb : Below wr.heap.size wr w') : RdAll w ep v cs bx bY bz j xp yc yp zp w' :=
  ⟨h.inn.below hb, h.x.below hb h.x.lt, h.y.below hb h.y.lt, h.z.below hb h.z.lt⟩
theorem below_drewN {B : Nat} {w w' : World} (h : Below B w w') (n : Nat) : Below B w (w'.drewN n) := ⟨h.os, h.tape, h.output, h.size, h.block⟩
theorem RdAll.cells {w wr : World} {ep : Int} {v : Value} {cs : List (List Int)} {bx bY bz b o : Nat} {j xp yc yp zp : Int} {u : Value} (h : RdAll w ep v cs bx bY bz j xp yc yp zp wr) (hc : w.cell? ⟨b, o, none⟩ = some u) (hb : b < w.heap.size) :
    ((wr.cell? ⟨w.heap.size, 0, none⟩ = some (.int .i64 ep) ∧ wr.cell? ⟨w.heap.size, 1, none⟩ = some v) ∧ (wr.cell? ⟨bx, 0, none⟩ = some (.int .i64 j) ∧ wr.cell? ⟨bx, 1, none⟩ = some (.int .i64 xp)) ∧ (wr.cell? ⟨bY, 0, none⟩ = some (.int .i64 yc) ∧ wr.cell? ⟨bY, 1, none⟩ = some (.int .i64 yp)) ∧ (wr.cell? ⟨bz, 0, none⟩ = some (.int .i64 j) ∧ wr.cell? ⟨bz, 1, none⟩ = some (.int .i64 zp))) ∧ wr.cell? ⟨b, o, none⟩ = some u :=
  ⟨eight_cells h.inn.box h.x h.y h.z, (h.inn.bel.cell (p := ⟨b, o, none⟩) hb).trans hc⟩

set_option maxRecDepth 100000 in
set_option maxHeartbeats 3200000 in
theorem round_any (ep a : Int) (v : Value) (cs : List (List Int)) (w : World) (h : PrAt w w.heap.size v cs) :
    Calls Try.prog 7 #[.agg #[.int .i64 ep, v], .int .i64 a] w fun e w' => e = .returned (.bool true) ∧ Below w.heap.size w w' := by
  have HI0 : Hid (In w ep v cs (w.alloc (.cells #[.int .i64 ep, v] 24))) := hide (In.start h)
  by_cases hL : largeP cs = true
  · have HL := hide hL
    clear hL h
    go_enter Try.func7, Try.ntmps7
    go_wp2_with fail
    refine (large_to w.heap.size ep v cs true _ HI0.out.pr (by simp) HL.out).mono ?_
    rintro e w1 ⟨rfl, hb1⟩
    have HI1 := hide (HI0.out.below hb1)
    clear hb1
    go_wp2_with fail
    refine (wakes_any _).mono ?_
    rintro e w2 ⟨rfl, hb2⟩
    have HI2 := hide (HI1.out.below hb2)
    clear hb2
    go_wp2
    go_ret
    exact ⟨rfl, HI2.out.bel⟩
  have HL := hide (eq_false_of_ne_true hL)
  clear hL
  by_cases hG : goodP ep cs = true
  · obtain ⟨n0, n1⟩ := goodP_len hG
    have HG := hide hG
    have HGP := hide (goodP_parts hG)
    clear hG
    have i0 : 0 ≤ a % 16374 := by omega
    have i1 : a % 16374 < 16374 := by omega
    generalize hi : a % 16374 = i at i0 i1
    have HI := hide hi.symm
    clear hi
    have hn : (1 : Int) ≤ (cs.length : Int) := by omega
    have HOi := hide (ofVal_good HG.out ⟨i0, show i < 16384 by omega⟩)
    have HOk := hide (ofVal_good HG.out (show 0 ≤ i + 1 ∧ i + 1 < 16384 by omega))
    have HOz := hide (ofVal_good HG.out (show 0 ≤ i + cs.length ∧ i + cs.length < 16384 by omega))
    have hp := (place_ok hn i0 (show i < 16384 by omega))
    obtain ⟨j, hj⟩ := Int.eq_ofNat_of_zero_le hp.1.1
    have hjl : j < cs.length := by omega
    have hofb : ofB ep cs i = true := by
      unfold ofB
      rw [HG.out, decide_eq_true ⟨i0, by omega⟩]
      rfl
    have hc := chain_at hj hjl hofb
    have hle : (chainOf ep cs i).length ≤ 4 := by
      have := HGP.out.1
      unfold goodC at this
      rw [List.all_eq_true] at this
      have := this _ (List.mem_of_getElem? hc)
      simp only [decide_eq_true_iff] at this
      exact this.2
    obtain ⟨q1, q2, q3, q4⟩ := next_place hn i0 hj
    have HQ1 := hide q1
    have HQ2 := hide q2
    have x0 : 0 ≤ i / (cs.length : Int) := hp.1.2.2.1
    have x1 : i / (cs.length : Int) ≤ 16383 := hp.2.2
    rw [hj] at HOi
    rw [q3, q4] at HOz
    clear q1 q2 q3 q4 hj hp hofb
    have HCO := hide (rfl : chainOf ep cs i = chainOf ep cs i)
    obtain ⟨A, cap, rfl, hcap, hcap2⟩ := h.shape
    obtain ⟨b, off, Aj, capj, rfl, hb', hcell0, hcj, hcj2, hrd, hok⟩ := h.chain hc
    have HC0 := hide hcell0
    have HRD := hide hrd
    clear h hrd hok hcell0 hc HCO
    have HCH := hide (fun (W : World) (hP : PrAt W w.heap.size (.slice (some ⟨b, off, none⟩) cs.length cap) cs) (hW : w.heap.size ≤ W.heap.size) => chain_any w.heap.size ep i (.slice (some ⟨b, off, none⟩) cs.length cap) cs W hP hW)
    generalize chainOf ep cs i = c at *
    generalize i / (cs.length : Int) = xp at *
    have hall : ∃ yc yp : Int, (i + 1) % cs.length = yc ∧ (i + 1) / cs.length = yp ∧ ((yc = (j : Int) + 1 ∧ yp = xp ∧ (j : Int) + 1 < cs.length) ∨ (yc = 0 ∧ yp = xp + 1 ∧ (j : Int) + 1 = cs.length)) := by
      refine ⟨_, _, rfl, rfl, ?_⟩
      by_cases hl : (j : Int) + 1 < cs.length
      · exact .inl ⟨(HQ1.out hl).1, (HQ1.out hl).2, hl⟩
      · exact .inr ⟨(HQ2.out (by omega)).1, (HQ2.out (by omega)).2, by omega⟩
    obtain ⟨yc, yp, hyc, hyp, hcase⟩ := hall
    rw [hyc, hyp] at HOk
    clear hyc hyp HQ1 HQ2
    have HCASE := hide hcase
    clear hcase
    go_enter Try.func7, Try.ntmps7
    go_wp2_with fail
    refine (large_to w.heap.size ep _ cs false _ HI0.out.pr (by simp) HL.out).mono ?_
    rintro e w1 ⟨rfl, hb1⟩
    have HI1 := hide (HI0.out.below hb1)
    clear hb1
    obtain ⟨y0, y1, _, _⟩ := HI1.out.box.two
    go_wp2_with fail
    refine (rgood_to w.heap.size ep _ cs true _ HI1.out.pr HI1.out.bel.size HG.out).mono ?_
    rintro e w2 ⟨rfl, hb2⟩
    have HI2 := hide (HI1.out.below hb2)
    clear hb2 y0 y1
    obtain ⟨y0, y1, _, _⟩ := HI2.out.box.two
    go_wp2_with fail
    go_quiet ((go_at_call 16; exact Calls.quiet_of_same ((mod_any a 16374 i (by decide) (by decide) HI.out _).mono fun _ _ h => ⟨h.1, h.2.symm⟩)))
    have HI3 : Hid (In w ep (.slice (some ⟨b, off, none⟩) cs.length cap) cs (w2.drewN nq)) := hide (HI2.out.below (below_drewN (Below.refl _ _) nq))
    clear y0 y1
    generalize w2.drewN nq = w3 at *
    obtain ⟨y0, y1, _, _⟩ := HI3.out.box.two
    go_wp2_with fail
    refine (of_to w.heap.size ep i _ cs _ _ HI3.out.pr HI3.out.bel.size HOi.out).mono ?_
    rintro e w4 ⟨rfl, hb4⟩
    have HI4 := hide ((HI3.out.below hb4).alloc (.cells #[.int .i64 j, .int .i64 xp] 40))
    have HX4 := hide (Blk.new w4 40 #[.int .i64 j, .int .i64 xp])
    clear hb4 y0 y1
    obtain ⟨y0, y1, _, _⟩ := HI4.out.box.two
    go_wp2_with fail
    refine (of_to w.heap.size ep (i + 1) _ cs _ _ HI4.out.pr HI4.out.bel.size HOk.out).mono ?_
    rintro e w5 ⟨rfl, hb5⟩
    have HI5 := hide ((HI4.out.below hb5).alloc (.cells #[.int .i64 yc, .int .i64 yp] 40))
    have HX5 := hide ((HX4.out.below hb5 HX4.out.lt).alloc (.cells #[.int .i64 yc, .int .i64 yp] 40))
    have HY5 := hide (Blk.new w5 40 #[.int .i64 yc, .int .i64 yp])
    clear hb5 y0 y1
    obtain ⟨y0, y1, _, _⟩ := HI5.out.box.two
    go_wp2_with fail
    refine (of_to w.heap.size ep (i + cs.length) _ cs _ _ HI5.out.pr HI5.out.bel.size HOz.out).mono ?_
    rintro e w6 ⟨rfl, hb6⟩
    have HA6 : Hid (RdAll w ep (.slice (some ⟨b, off, none⟩) cs.length cap) cs w4.heap.size w5.heap.size w6.heap.size j xp yc yp (xp + 1) (w6.alloc (.cells #[.int .i64 j, .int .i64 (xp + 1)] 40)).drew) := hide
      ⟨((HI5.out.below hb6).alloc _).drew, (HX5.out.below hb6 HX5.out.lt).alloc _, (HY5.out.below hb6 HY5.out.lt).alloc _, Blk.new w6 40 _⟩
    clear hb6 y0 y1
    have hbw : b < w.heap.size := by omega
    have K6 := hide (HA6.out.cells HC0.out hbw)
    have hw6 := HA6.out.inn.bel.size
    have j1 : IntKind.i64.wrap ((j : Int) + 1) = (j : Int) + 1 := by rw [IntKind.wrap_i64]; omega
    have j2 : IntKind.i64.wrap (xp + 1) = xp + 1 := by rw [IntKind.wrap_i64]; omega
    have hnz : ¬ ((cs.length : Int) = 0) := by omega
    have hjlt : (j : Int) < (cs.length : Int) := by omega
    have hj0 : (0 : Int) ≤ (j : Int) := by omega
    have hcs : ¬ (cs = []) := by intro h; rw [h] at hjl; simp at hjl
    rcases HCASE.out with ⟨rfl, h2, hlt⟩ | ⟨rfl, rfl, heq⟩
    · obtain rfl : xp = yp := h2.symm
      have t1 : ((j : Int) + 1).tmod (cs.length : Int) = (j : Int) + 1 := by rw [Int.tmod_eq_emod_of_nonneg (by omega)]; exact Int.emod_eq_of_lt (by omega) hlt
      have t2 : decide ((j : Int) < (j : Int) + 1) = true := by simp; omega
      go_wp2_with fail
      go_region_held3 (fun w' => ((w'.cell? ⟨w.heap.size, 0, none⟩ = some (.int .i64 ep) ∧ w'.cell? ⟨w.heap.size, 1, none⟩ = some (.slice (some ⟨b, off, none⟩) cs.length cap)) ∧ (w'.cell? ⟨w4.heap.size, 0, none⟩ = some (.int .i64 j) ∧ w'.cell? ⟨w4.heap.size, 1, none⟩ = some (.int .i64 xp)) ∧ (w'.cell? ⟨w5.heap.size, 0, none⟩ = some (.int .i64 ((j : Int) + 1)) ∧ w'.cell? ⟨w5.heap.size, 1, none⟩ = some (.int .i64 (xp))) ∧ (w'.cell? ⟨w6.heap.size, 0, none⟩ = some (.int .i64 j) ∧ w'.cell? ⟨w6.heap.size, 1, none⟩ = some (.int .i64 (xp + 1)))) ∧ w'.cell? ⟨b, off + j, none⟩ = some (.slice Aj c.length capj)) (first | (with_reducible exact K9.out) | (with_reducible exact K8.out) | (with_reducible exact K7.out) | (with_reducible exact K6.out)) ((first | (go_at_call 22; refine (HCH.out _ HA6.out.inn.pr HA6.out.inn.bel.size).mono ?_; rintro e w7 ⟨A7, cap7, rfl, _, _, hr7, hb7⟩; have HA7 := hide (HA6.out.below hb7); have K7 := hide ((HA6.out.below hb7).cells HC0.out hbw); have HR7 := hide hr7; clear hr7 hb7) | (go_at_call 21; refine (ints_same _ w.heap.size cap7 capj A7 Aj c _ HR7.out (HRD.out.below HA7.out.inn.bel (Nat.le_refl _)) (by omega)).mono ?_; rintro e w8 ⟨rfl, m8, rfl⟩; have HA8 := hide (HA7.out.below (below_drewN (Below.refl _ _) m8)); have K8 := hide ((HA7.out.below (below_drewN (Below.refl _ _) m8)).cells HC0.out hbw)) | (go_at_call 9; refine (wakes_any _).mono ?_; rintro e w9 ⟨rfl, hb9⟩; have HA9 := hide (HA8.out.below hb9); have K9 := hide ((HA8.out.below hb9).cells HC0.out hbw); clear hb9)))
      go_wp2
      go_ret
      exact ⟨rfl, HA9.out.inn.bel⟩
    · have t1 : ((j : Int) + 1).tmod (cs.length : Int) = 0 := by rw [heq, Int.tmod_self]
      have t2 : decide ((j : Int) < 0) = false := by simp
      have t3 : (xp + 1 == xp) = false := by simp; omega
      clear heq
      go_wp2_with fail
      go_region_held3 (fun w' => ((w'.cell? ⟨w.heap.size, 0, none⟩ = some (.int .i64 ep) ∧ w'.cell? ⟨w.heap.size, 1, none⟩ = some (.slice (some ⟨b, off, none⟩) cs.length cap)) ∧ (w'.cell? ⟨w4.heap.size, 0, none⟩ = some (.int .i64 j) ∧ w'.cell? ⟨w4.heap.size, 1, none⟩ = some (.int .i64 xp)) ∧ (w'.cell? ⟨w5.heap.size, 0, none⟩ = some (.int .i64 (0)) ∧ w'.cell? ⟨w5.heap.size, 1, none⟩ = some (.int .i64 (xp + 1))) ∧ (w'.cell? ⟨w6.heap.size, 0, none⟩ = some (.int .i64 j) ∧ w'.cell? ⟨w6.heap.size, 1, none⟩ = some (.int .i64 (xp + 1)))) ∧ w'.cell? ⟨b, off + j, none⟩ = some (.slice Aj c.length capj)) (first | (with_reducible exact K9.out) | (with_reducible exact K8.out) | (with_reducible exact K7.out) | (with_reducible exact K6.out)) ((first | (go_at_call 22; refine (HCH.out _ HA6.out.inn.pr HA6.out.inn.bel.size).mono ?_; rintro e w7 ⟨A7, cap7, rfl, _, _, hr7, hb7⟩; have HA7 := hide (HA6.out.below hb7); have K7 := hide ((HA6.out.below hb7).cells HC0.out hbw); have HR7 := hide hr7; clear hr7 hb7) | (go_at_call 21; refine (ints_same _ w.heap.size cap7 capj A7 Aj c _ HR7.out (HRD.out.below HA7.out.inn.bel (Nat.le_refl _)) (by omega)).mono ?_; rintro e w8 ⟨rfl, m8, rfl⟩; have HA8 := hide (HA7.out.below (below_drewN (Below.refl _ _) m8)); have K8 := hide ((HA7.out.below (below_drewN (Below.refl _ _) m8)).cells HC0.out hbw)) | (go_at_call 9; refine (wakes_any _).mono ?_; rintro e w9 ⟨rfl, hb9⟩; have HA9 := hide (HA8.out.below hb9); have K9 := hide ((HA8.out.below hb9).cells HC0.out hbw); clear hb9)))
      go_wp2
      go_ret
      exact ⟨rfl, HA9.out.inn.bel⟩
  · have HG := hide (eq_false_of_ne_true hG)
    clear hG h
    go_enter Try.func7, Try.ntmps7
    go_wp2_with fail
    refine (large_to w.heap.size ep v cs false _ HI0.out.pr (by simp) HL.out).mono ?_
    rintro e w1 ⟨rfl, hb1⟩
    have HI1 := hide (HI0.out.below hb1)
    clear hb1
    obtain ⟨x0, x1, _, _⟩ := HI1.out.box.two
    go_wp2_with fail
    refine (rgood_to w.heap.size ep v cs false _ HI1.out.pr HI1.out.bel.size HG.out).mono ?_
    rintro e w2 ⟨rfl, hb2⟩
    have HI2 := hide (HI1.out.below hb2)
    clear hb2 x0 x1
    go_wp2_with fail
    refine (wakes_any _).mono ?_
    rintro e w3 ⟨rfl, hb3⟩
    have HI3 := hide (HI2.out.below hb3)
    clear hb3
    go_wp2
    go_ret
    exact ⟨rfl, HI3.out.bel⟩
end Go.Proofs.Ytceljebpcfojeaa

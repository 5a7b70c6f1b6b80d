/- The law PlaceTails. -/
import Derived.Test.YtceljebpcfojeaaCopy
import Derived.Test.YtceljebpcfojeaaRTail
namespace Go.Proofs.Ytceljebpcfojeaa
open Go.RowKit
set_option linter.unusedVariables false

theorem Try.info32 : (Try.prog.info? 32).map (fun i => (i.zero, i.size, i.bytes)) = some (some (.agg #[.int .i64 0, .int .i64 0]), 2, 16) := by kernel_rfl
theorem kcells_append (a b : List (Int × Int)) : kcells (a ++ b) = kcells a ++ kcells b := by simp [kcells]
/-- each unit's first count -/
def dedL (l : List (Int × Int)) : List (Int × Int) := l.foldl (fun m x => if hasL m x.1 = true then m else m ++ [x]) []
theorem dedL_take (l : List (Int × Int)) (i : Nat) (x : Int × Int) (h : l[i]? = some x) : dedL (l.take (i + 1)) = if hasL (dedL (l.take i)) x.1 = true then dedL (l.take i) else dedL (l.take i) ++ [x] := by
  have e : l.take (i + 1) = l.take i ++ [x] := by rw [List.take_add_one, h]; rfl
  unfold dedL
  rw [e, List.foldl_append]
  rfl
theorem dedL_len (l : List (Int × Int)) : ∀ i, i ≤ l.length → (dedL (l.take i)).length ≤ i := by
  intro i
  induction i with
  | zero => intro _; simp [dedL]
  | succ i ih =>
    intro h
    have hx : l[i]? = some l[i] := List.getElem?_eq_getElem (by omega)
    have := ih (by omega)
    rw [dedL_take l i _ hx]
    split
    · omega
    · rw [List.length_append, List.length_singleton]; omega
theorem hasL_take (m : List (Int × Int)) (j : Nat) (y : Int × Int) (u : Int) (h : m[j]? = some y) : hasL (m.take (j + 1)) u = (hasL (m.take j) u || (y.1 == u)) := by
  unfold hasL
  rw [List.take_add_one, h, List.any_append]
  simp [Bool.beq_eq_decide_eq]
theorem IsT.eq {ep : Int} {cs : List (List Int)} {m : List (Int × Int)} {t t' : Int} (h : IsT ep cs m t) (h' : IsT ep cs m t') : t = t' := by
  by_cases hg : goodP ep cs = true
  · exact (h.1 hg).eq (h'.1 hg) (fun s => Iff.rfl)
  · have hf := eq_false_of_ne_true hg
    rw [h.2 hf, h'.2 hf]

/-- all that the law's last line reads -/
structure TA (w : World) (ep n0 n1 : Int) (v kv : Value) (cs : List (List Int)) (m : List (Int × Int)) (mb : Nat) (wr : World) : Prop where
  box : Blk wr w.heap.size 24 #[.int .i64 ep, v]
  nbox : Blk wr (w.heap.size + 1) 26 #[.int .i64 n0, .int .i64 n1]
  bel : Below w.heap.size w wr
  map : MapAt kI wr mb m
  own : Own wr mb 32 2 kv m.length (kcells m)
theorem TA.below {w wr w' : World} {ep n0 n1 : Int} {v kv : Value} {cs : List (List Int)} {m : List (Int × Int)} {mb : Nat} (h : TA w ep n0 n1 v kv cs m mb wr) (hb : Below wr.heap.size wr w') : TA w ep n0 n1 v kv cs m mb w' :=
  ⟨h.box.below hb h.box.lt, h.nbox.below hb h.nbox.lt, h.bel.trans (hb.mono h.bel.size), h.map.below hb h.map.lt, h.own.below hb⟩
theorem TA.cells {w wr : World} {ep n0 n1 : Int} {v kv : Value} {cs : List (List Int)} {m : List (Int × Int)} {mb : Nat} (h : TA w ep n0 n1 v kv cs m mb wr) :
    (wr.cell? ⟨w.heap.size, 0, none⟩ = some (.int .i64 ep) ∧ wr.cell? ⟨w.heap.size, 1, none⟩ = some v) ∧ (wr.cell? ⟨w.heap.size + 1, 0, none⟩ = some (.int .i64 n0) ∧ wr.cell? ⟨w.heap.size + 1, 1, none⟩ = some (.int .i64 n1)) ∧ (Builtin.len_ #[29] 3 #[.map (some mb)]).run Try.prog wr = .ok (.int .i64 m.length) wr :=
  ⟨⟨h.box.cell 0, h.box.cell 1⟩, ⟨h.nbox.cell 0, h.nbox.cell 1⟩, h.map.len 3⟩
theorem rd_k {w : World} {B cap : Nat} {A : Option Addr} {m : List (Int × Int)} (h : Own w B 32 2 (.slice A m.length cap) m.length (kcells m)) : Rd w w.heap.size A (kcells m) := fun h0 => by
  rw [kcells_length] at h0
  obtain ⟨g, cap', hv', _, hg, _, _⟩ := h.form (by omega)
  simp only [Value.slice.injEq, true_and] at hv'
  obtain ⟨rfl, rfl⟩ := hv'
  exact ⟨g, 0, rfl, hg, fun j u hu => by simpa [Addr.add_lit] using h.cells (g := g) rfl j u hu⟩
theorem k_unit {w : World} {B cap : Nat} {A : Option Addr} {m : List (Int × Int)} {j : Nat} {y : Int × Int} (h : Own w B 32 2 (.slice A m.length cap) m.length (kcells m)) (hj : m[j]? = some y) : ∃ g, A = some ⟨g, 0, none⟩ ∧ w.cell? ⟨g, j * 2, none⟩ = some (.int .i64 y.1) := by
  have hl := (List.getElem?_eq_some_iff.1 hj).1
  obtain ⟨g, cap', hv', _, hg, _, _⟩ := h.form (by omega)
  simp only [Value.slice.injEq, true_and] at hv'
  obtain ⟨rfl, rfl⟩ := hv'
  exact ⟨g, rfl, by simpa [Addr.add_lit] using h.cells (g := g) rfl _ _ (kcells_get m j y hj).1⟩
theorem Own.keptM {κ : Type} {kk : KK κ} {w w' : World} {base : Nat} {e : TypeId} {size n b : Nat} {v : Value} {xs : List Value} {l : List (κ × Int)} (h : Own w base e size v n xs) (hm : MapAt kk w b l) (hg : w.grownBy w' (some b)) : Own w' base e size v n xs := by
  refine ⟨h.1, ?_⟩
  rcases h.2 with h1 | ⟨g, cap, cur, rfl, k1, k2, rest⟩
  · exact .inl h1
  · refine .inr ⟨g, cap, cur, rfl, k1, (hg.block g (Array.getElem?_eq_some_iff.1 k2).1 (fun e' => ?_)).trans k2, rest⟩
    injection e' with e'
    subst e'
    obtain ⟨es, c, hb⟩ := hm.obj
    rw [k2] at hb
    cases hb
theorem MapAt.keptO {κ : Type} {kk : KK κ} {w w' : World} {base : Nat} {e : TypeId} {size n b : Nat} {v : Value} {xs : List Value} {l : List (κ × Int)} (hm : MapAt kk w b l) (h : Own w base e size v n xs) (hg : w.grownBy w' v.ownBlock) : MapAt kk w' b l :=
  hm.kept hg (fun e' => by
    obtain ⟨_, cs, hk⟩ := h.kind b e'.symm
    obtain ⟨es, c, hb⟩ := hm.obj
    rw [hb] at hk
    cases hk)

/-- at the head of the law's loop -/
def TsRel (w1 : World) (ll : List (Int × Int)) (kv iv : Value) (wr : World) : Prop :=
  ∃ i : Nat, i ≤ ll.length ∧ iv = .int .i64 i ∧ Below w1.heap.size w1 wr ∧ MapAt kI wr w1.heap.size (dedL (ll.take i)) ∧ Own wr w1.heap.size 32 2 kv (dedL (ll.take i)).length (kcells (dedL (ll.take i)))

set_option maxRecDepth 100000 in
set_option maxHeartbeats 4000000 in
theorem tails_any (Bl : Nat) (Al : Option Addr) (capl : Nat) (ll : List (Int × Int)) (ep n0 n1 : Int) (v : Value) (cs : List (List Int)) (w : World) (h : PrAt w w.heap.size v cs) (hl : Rd w Bl Al (kcells ll)) (hBl : Bl ≤ w.heap.size) (hok : ∀ x ∈ ll, okI x.1 ∧ okI x.2) (hll : ll.length ≤ 9223372036854775807) :
    Calls Try.prog 3 #[.agg #[.int .i64 ep, v], .slice Al ll.length capl, .agg #[.int .i64 n0, .int .i64 n1]] w fun e w' => e = .returned (.bool true) ∧ Below w.heap.size w w' := by
  obtain ⟨i32, hi32, hz0, hz1, hz2⟩ := info_parts Try.info32
  have hmm := @run_makeMap Try.prog
  have HPA : Hid (PrAt ((w.alloc (.cells #[.int .i64 ep, v] 24)).alloc (.cells #[.int .i64 n0, .int .i64 n1] 26)) w.heap.size v cs) := hide (h.below (((Below.refl _ _).alloc (Nat.le_refl _) _).alloc (by simp) _) (Nat.le_refl _))
  by_cases hL : largeP cs = true
  · have HL := hide hL
    clear hL h hl
    go_enter Try.func3, Try.ntmps3
    go_wp2_with fail
    refine (large_to w.heap.size ep v cs true _ HPA.out (by simp; omega) HL.out).mono ?_
    rintro e w1 ⟨rfl, hb1⟩
    have HB1 := hide (two_below hb1).2.2
    clear hb1
    go_wp2_with fail
    refine (wakes_any _).mono ?_
    rintro e w2 ⟨rfl, hb2⟩
    have HB2 := hide (HB1.out.trans (hb2.mono HB1.out.size))
    clear hb2
    go_wp2
    go_ret
    exact ⟨rfl, HB2.out⟩
  have hLf := eq_false_of_ne_true hL
  have HL := hide hLf
  have HSm := hide (large_no hLf)
  clear hL hLf
  by_cases h30 : 30 < ll.length
  · clear h hl
    go_enter Try.func3, Try.ntmps3
    go_wp2_with fail
    refine (large_to w.heap.size ep v cs false _ HPA.out (by simp; omega) HL.out).mono ?_
    rintro e w1 ⟨rfl, hb1⟩
    have HB1 := hide (two_below hb1).2.2
    clear hb1
    go_wp2_with fail
    refine (wakes_any _).mono ?_
    rintro e w2 ⟨rfl, hb2⟩
    have HB2 := hide (HB1.out.trans (hb2.mono HB1.out.size))
    clear hb2
    go_wp2
    go_ret
    exact ⟨rfl, HB2.out⟩
  have hl30 : ll.length ≤ 30 := by omega
  have HP := hide h
  have HLL := hide hl
  have HOK := hide hok
  clear h hl hok h30
  go_enter Try.func3, Try.ntmps3
  go_wp2_with fail
  refine (large_to w.heap.size ep v cs false _ HPA.out (by simp; omega) HL.out).mono ?_
  rintro e w1 ⟨rfl, hb1⟩
  have HX1 := hide (two_below hb1)
  have hw1 := HX1.out.2.2.size
  have hwx : w.heap.size + 1 < w1.heap.size := HX1.out.2.1.lt
  clear hb1
  go_wp2_with fail
  go_loopw [8, 9] (fun kv iv wr => TsRel w1 ll kv iv wr) (fun _ iv _ => ll.length - (intOf iv).toNat)
  case atStart => exact ⟨0, Nat.zero_le _, rfl, (Below.refl _ _).alloc (Nat.le_refl _) _, map_new kI w1, Own.nil _ _ _ _⟩
  case round =>
    obtain ⟨i, hi, rfl, hbel, hmap, hown⟩ := hrel
    have HB := hide hbel
    have HM := hide hmap
    have hml := dedL_len ll i hi
    have hws := hbel.size
    clear hbel hmap
    by_cases hlt : i < ll.length
    · have hx : ll[i]? = some ll[i] := List.getElem?_eq_getElem hlt
      have HO1 := hide (HOK.out _ (List.getElem_mem hlt))
      generalize ll[i] = x at hx HO1
      have HDT := hide (dedL_take ll i x hx)
      obtain ⟨y0, y1⟩ := kcells_get ll i x hx
      obtain ⟨bl, offl, rfl, hbl, hlc⟩ := HLL.out (by rw [kcells_length]; omega)
      have HBw : Hid (Below w.heap.size w wr) := hide (HX1.out.2.2.trans (HB.out.mono hw1))
      have hl0 : ∀ q, (wr.drewN q).cell? ⟨bl, offl + i * 2, none⟩ = some (.int .i64 x.1) := fun q => (HBw.out.cell (p := ⟨bl, offl + i * 2, none⟩) (show bl < w.heap.size by omega)).trans (hlc _ _ y0)
      have hl1 : ∀ q, (wr.drewN q).cell? ⟨bl, offl + i * 2 + 1, none⟩ = some (.int .i64 x.2) := fun q => (HBw.out.cell (p := ⟨bl, offl + i * 2 + 1, none⟩) (show bl < w.heap.size by omega)).trans (hlc _ _ y1)
      clear hx y0 y1 hlc
      obtain ⟨u, un⟩ := x
      simp only at hl0 hl1
      generalize hm : dedL (ll.take i) = m at *
      have HMD := hide hm
      clear hm
      obtain ⟨Ak, capk, rfl, hkc, hkm⟩ := hown.shape
      have HOW := hide hown
      clear hown
      go_wp2_with fail
      go_loopw [10, 11] (fun av jv wr' => ∃ j q : Nat, j ≤ m.length ∧ jv = .int .i64 j ∧ av = .bool (hasL (m.take j) u) ∧ wr' = wr.drewN q) (fun _ jv _ => m.length - (intOf jv).toNat)
      case atStart => exact ⟨0, 0, Nat.zero_le _, rfl, rfl, rfl⟩
      case round =>
        obtain ⟨j, q, hj, rfl, rfl, rfl⟩ := hrel
        by_cases hlt2 : j < m.length
        · have hy : m[j]? = some m[j] := List.getElem?_eq_getElem hlt2
          generalize m[j] = y at hy
          obtain ⟨g, rfl, hkc0⟩ := k_unit HOW.out hy
          have hk0 : ∀ q, (wr.drewN q).cell? ⟨g, j * 2, none⟩ = some (.int .i64 y.1) := fun q => hkc0
          have HT := hide (hasL_take m j y u hy)
          clear hy hkc0
          generalize hasL (m.take j) u = ag at *
          cases ag
          · go_wp2_with fail
            go_quiet (fail)
            go_wp2
            go_roundw
            case rel => exact ⟨j + 1, _, by omega, by go_num, by rw [HT.out]; rfl, rfl⟩
            case measure => simp [intOf]; omega
          · go_wp2_with fail
            go_quiet (fail)
            go_wp2
            go_roundw
            case rel => exact ⟨j + 1, _, by omega, by go_num, by rw [HT.out]; rfl, rfl⟩
            case measure => simp [intOf]; omega
        · have HJ : Hid (hasL (m.take j) u = hasL m u) := hide (by rw [show j = m.length by omega, List.take_length])
          rw [HJ.out]
          have HBW : Hid (Below w1.heap.size w1 (wr.drewN q)) := hide ⟨HB.out.os, HB.out.tape, HB.out.output, HB.out.size, HB.out.block⟩
          have HMW : Hid (MapAt kI (wr.drewN q) w1.heap.size m) := hide (HM.out.same rfl)
          have HOWW : Hid (Own (wr.drewN q) w1.heap.size 32 2 (.slice Ak m.length capk) m.length (kcells m)) := hide (HOW.out.drewN q)
          have g0 := hl0 q
          have g1 := hl1 q
          have hwW : w1.heap.size ≤ (wr.drewN q).heap.size := hws
          clear hl0 hl1
          generalize wr.drewN q = W at *
          by_cases hh : hasL m u = true
          · have HD : Hid (dedL (ll.take (i + 1)) = m) := hide (by rw [HDT.out, if_pos hh])
            rw [hh]
            clear hh
            go_wp2
            go_roundw
            case rel => exact ⟨i + 1, by omega, by go_num, HBW.out, by rw [HD.out]; exact HMW.out, by rw [HD.out]; exact HOWW.out⟩
            case measure => simp [intOf]; omega
          · have hhf := eq_false_of_ne_true hh
            have HD : Hid (dedL (ll.take (i + 1)) = m ++ [(u, un)]) := hide (by rw [HDT.out, if_neg hh])
            rw [hhf]
            obtain ⟨W3, hrun, hm3, hg3⟩ := (show MapAt kI W.drew w1.heap.size m from HMW.out.same rfl).put (k := u) HO1.out.1 (by unfold maxLen; omega) un
            replace hrun : (Instr.mapUpdate 29 (.map (some w1.heap.size)) (.int .i64 u) (.int .i64 un)).run Try.prog W.drew = .ok () W3 := hrun
            rw [putL_new hhf] at hm3
            have HM3 := hide hm3
            have HO3 : Hid (Own W3 w1.heap.size 32 2 (.slice Ak m.length capk) m.length (kcells m)) := hide (Own.keptM (show Own W.drew w1.heap.size 32 2 _ _ _ from HOWW.out) (show MapAt kI W.drew w1.heap.size m from HMW.out.same rfl) hg3)
            have HB3 : Hid (Below w1.heap.size w1 W3) := hide (HBW.out.drew.grown hg3 hwW (fun k hk => by injection hk with hk; omega))
            have hw3 := HB3.out.size
            have HBw3 : Hid (Below w.heap.size w W3) := hide (HX1.out.2.2.trans (HB3.out.mono hw1))
            have HBwW : Hid (Below w.heap.size w W) := hide (HX1.out.2.2.trans (HBW.out.mono hw1))
            have p0 : W3.cell? ⟨bl, offl + i * 2, none⟩ = some (.int .i64 u) := (HBw3.out.cell (p := ⟨bl, offl + i * 2, none⟩) (show bl < w.heap.size by omega)).trans ((HBwW.out.cell (p := ⟨bl, offl + i * 2, none⟩) (show bl < w.heap.size by omega)).symm.trans g0)
            have p1 : W3.cell? ⟨bl, offl + i * 2 + 1, none⟩ = some (.int .i64 un) := (HBw3.out.cell (p := ⟨bl, offl + i * 2 + 1, none⟩) (show bl < w.heap.size by omega)).trans ((HBwW.out.cell (p := ⟨bl, offl + i * 2 + 1, none⟩) (show bl < w.heap.size by omega)).symm.trans g1)
            have HOA : Hid (∀ o, Own (W3.alloc o).drew w1.heap.size 32 2 (.slice Ak m.length capk) m.length (kcells m)) := hide fun o => HO3.out.alloc o
            have m1 : Hid (0 < 1 → ∃ a, some (⟨W3.heap.size, 0, none⟩ : Addr) = some a ∧ ∀ j x, [Value.int .i64 u, .int .i64 un][j]? = some x → (W3.alloc (.cells #[.int .i64 u, .int .i64 un] 32)).drew.cell? (a.add j) = some x) := hide (blk_src (w := (W3.alloc (.cells #[.int .i64 u, .int .i64 un] 32)).drew) (Blk.new W3 32 #[.int .i64 u, .int .i64 un]))
            have m2 : Hid (∀ x ∈ [Value.int .i64 u, .int .i64 un], x.oneCell' = true) := hide (by simp [Value.oneCell'])
            have m3 : m.length + 1 ≤ maxLen := by unfold maxLen; omega
            have m4 : (m.length + 1) * 16 ≤ 140737488355328 := by omega
            have m5 : w1.heap.size ≤ (W3.alloc (.cells #[.int .i64 u, .int .i64 un] 32)).drew.heap.size := by simp; omega
            clear hh hhf hm3 hg3
            go_wp2_with fail
            go_region
            all_goals clear hrun
            all_goals go_wp2_with fail
            all_goals go_region_law ((refine step_append_Own _ rfl (.tmp 60) (.tmp 72) 30 rfl w1.heap.size 32 i32 _ 2 16 Try.underlying30 hi32 hz0 hz1 hz2 rfl (by decide) (.slice Ak m.length capk) m.length (kcells m) rfl (HOA.out _) (some ⟨W3.heap.size, 0, none⟩) 1 1 [.int .i64 u, .int .i64 un] rfl rfl m1.out m2.out m3 m4 m5 ?_; intro v4 w4 hown4 hg4 _; have HO4 := hide hown4; have HG4 := hide hg4; clear hown4 hg4))
            all_goals go_wp2
            all_goals go_roundw
            all_goals try case rel =>
              refine ⟨i + 1, by omega, by go_num, ?_, ?_, ?_⟩
              · exact (HB3.out.alloc hw3 _).drew.grown HG4.out m5 (fun k hk => ((HOA.out (.cells #[.int .i64 u, .int .i64 un] 32)).lt k hk).1)
              · rw [HD.out]
                exact MapAt.keptO (w := (W3.alloc (.cells #[.int .i64 u, .int .i64 un] 32)).drew) ((HM3.out.alloc _).same rfl) (HOA.out _) HG4.out
              · rw [HD.out, kcells_append, List.length_append]
                exact HO4.out
            all_goals try case measure => simp [intOf]; omega
    · have hie : ll.take i = ll := by rw [show i = ll.length by omega, List.take_length]
      rw [hie] at HM hown hml
      generalize dedL ll = m at *
      obtain ⟨Ak, capk, rfl, hkc, hkm⟩ := hown.shape
      have HT0 : Hid (TA w ep n0 n1 v (.slice Ak m.length capk) cs m w1.heap.size wr.drew) := hide
        ⟨HX1.out.1.below HB.out.drew (show w.heap.size < w1.heap.size by omega), HX1.out.2.1.below HB.out.drew hwx, (HX1.out.2.2.trans (HB.out.mono hw1)).drew, HM.out.same rfl, hown⟩
      have K0 := hide HT0.out.cells
      clear hown hie hkm
      go_wp2_with fail
      go_region_held3 (fun w' => (w'.cell? ⟨w.heap.size, 0, none⟩ = some (.int .i64 ep) ∧ w'.cell? ⟨w.heap.size, 1, none⟩ = some v) ∧ (w'.cell? ⟨w.heap.size + 1, 0, none⟩ = some (.int .i64 n0) ∧ w'.cell? ⟨w.heap.size + 1, 1, none⟩ = some (.int .i64 n1)) ∧ (Builtin.len_ #[29] 3 #[.map (some w1.heap.size)]).run Try.prog w' = .ok (.int .i64 m.length) w') (first | (with_reducible exact K9.out) | (with_reducible exact K8.out) | (with_reducible exact K7.out) | (with_reducible exact K6.out) | (with_reducible exact K5.out) | (with_reducible exact K4.out) | (with_reducible exact K0.out)) ((first | (go_at_call 11; refine (copy_any w.heap.size ep v cs _ (HP.out.below HT0.out.bel (Nat.le_refl _)) HT0.out.bel.size HSm.out.1 HSm.out.2).mono ?_; rintro e w4 ⟨v4, rfl, hp4, hb4⟩; have HT4 := hide (HT0.out.below hb4); have K4 := hide (HT0.out.below hb4).cells; have HP4 := hide hp4; clear hp4 hb4) | (go_at_call 10; refine (tail_any _ w1.heap.size m ep v4 cs _ HP4.out (Nat.le_refl _) HT4.out.map).mono ?_; rintro e w5 ⟨t5, rfl, ht5, hb5⟩; have HT5 := hide (HT4.out.below hb5); have K5 := hide (HT4.out.below hb5).cells; have HI5 := hide ht5; clear ht5 hb5) | (go_at_call 12; refine (rtail_any w.heap.size w5.heap.size m Ak capk ep v cs _ (HP.out.below HT5.out.bel (Nat.le_refl _)) HT5.out.bel.size HT5.out.map.apart (rd_k HT5.out.own) (Nat.le_refl _) (by omega)).mono ?_; rintro e w6 ⟨t6, rfl, ht6, hb6⟩; have HT6 := hide (HT5.out.below hb6); have K6 := hide (HT5.out.below hb6).cells; have e56 := HI5.out.eq ht6; subst e56; clear ht6 hb6) | (go_at_call 13; refine (below_to w.heap.size ep n0 n1 _ v cs _ (HP.out.below HT6.out.bel (Nat.le_refl _)) HT6.out.bel.size rfl).mono ?_; rintro e w7 ⟨rfl, hb7⟩; have HT7 := hide (HT6.out.below hb7); have K7 := hide (HT6.out.below hb7).cells; clear hb7) | (go_at_call 14; refine (rbelow_to w.heap.size ep n0 n1 _ v cs _ (HP.out.below HT7.out.bel (Nat.le_refl _)) HT7.out.bel.size rfl).mono ?_; rintro e w8 ⟨rfl, hb8⟩; have HT8 := hide (HT7.out.below hb8); have K8 := hide (HT7.out.below hb8).cells; clear hb8) | (go_at_call 9; refine (wakes_any _).mono ?_; rintro e w9 ⟨rfl, hb9⟩; have HT9 := hide (HT8.out.below hb9); have K9 := hide (HT8.out.below hb9).cells; clear hb9)))
      go_wp2
      go_ret
      exact ⟨rfl, HT9.out.bel⟩
end Go.Proofs.Ytceljebpcfojeaa

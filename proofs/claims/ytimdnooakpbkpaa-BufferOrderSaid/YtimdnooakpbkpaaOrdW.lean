/- The walk of BufferOrder. -/
import Derived.Test.YtimdnooakpbkpaaOrdL
import Derived.Deep.RegionHeld3
namespace Go.Proofs.Ytimdnooakpbkpaa
open Go.RowKit
set_option linter.unusedVariables false

theorem Try.info9 : (Try.prog.info? 9).map (fun i => (i.zero, i.size, i.bytes)) = some (some (.string ⟨#[]⟩), 1, 16) := by kernel_rfl

/-- what holds at the head of each round of the first loop -/
def OrdRel (w : World) (m : Int) (i mv : Value) (n : Nat) (wr : World) : Prop :=
  ∃ (k : Nat) (l : List Wr), k ≤ n ∧ i = .int .i64 k ∧ BufAt wr w.heap.size w.heap.size l ∧ l.length ≤ 16 ∧ Own wr w.heap.size 9 1 mv (mineL m l).length ((mineL m l).map Value.string) ∧ Below w.heap.size w wr

def OrdRel2 (w : World) (m : Int) (mv : Value) (ms : List ByteArray) (i : Value) (wr : World) : Prop :=
  ∃ (k : Nat) (l : List Wr), k ≤ ms.length ∧ i = .int .i64 k ∧ BufAt wr w.heap.size w.heap.size l ∧ l.length ≤ 1000 ∧ mineL m l = ms.drop k ∧ Own wr w.heap.size 9 1 mv ms.length (ms.map Value.string) ∧ Below w.heap.size w wr
theorem pop_yes (w0 : World) (B g : Nat) (l : List Wr) (h : Int) (w : World) (hb0 : BufAt w0 B g l) (hbel : Below w0.heap.size w0 w) (hl : l.length ≤ 1000) (hi : decide (0 ≤ idx h l) = true) :
    Calls Try.prog 13 #[.pointer (some ⟨g, 0, none⟩), .int .i64 h] w fun e w' => e = .returned (.bool true) ∧ BufAt w' B g (popOf h l) ∧ Fr [55, 30] B w w' ∧ ∀ p : Addr, w0.heap.size ≤ p.block → p.block < w.heap.size → w'.cell? p = w.cell? p := by
  have := pop_aside B g l h w (hb0.below hbel) hl
  rw [hi] at this
  exact this.mono fun e w' ⟨h1, h2, h3, h4⟩ => ⟨h1, h2, h3, fun p hp hq => h4.cell hb0 hbel hp hq⟩

set_option maxRecDepth 100000 in
set_option maxHeartbeats 1600000 in
theorem order_any (A : Option Addr) (cap : Nat) (ss : List St) (m0 : Int) (w : World) (ha : Arg w w.heap.size A ss.length (stCells ss)) (hl : ss.length ≤ 9223372036854775807) :
    Calls Try.prog 3 #[.slice A ss.length cap, .int .i64 m0] w fun e w' => e = .returned (.bool true) ∧ Below w.heap.size w w' := by
  go_enter Try.func3, Try.ntmps3
  go_wp2_with fail
  refine (new_any _).mono ?_
  rintro e w1 ⟨rfl, rfl⟩
  go_wp2_with fail
  refine (mod_any m0 _).mono ?_
  rintro e w1 ⟨m, hm0, hm1, rfl, rfl⟩
  go_wp2_with fail
  refine (fair_any w.heap.size A cap ss _ (ha.below ((Below.refl _ _).alloc (Nat.le_refl _) _)) hl).mono ?_
  rintro e w1 ⟨rfl, rfl⟩
  by_cases hf : fairB ss = true
  · rw [hf]
    go_wp2_with fail
    go_loopw [7, 8] (fun mv i wr => OrdRel w m i mv ss.length wr) (fun _ i _ => ss.length - (intOf i).toNat)
    case atStart => exact ⟨0, [], Nat.zero_le _, rfl, buf_new w, by simp, Own.nil _ _ _ _, (Below.refl _ _).alloc (Nat.le_refl _) _⟩
    case round =>
      obtain ⟨k, l, hk, rfl, hb, hl16, hmine, hbel⟩ := hrel
      have hws := hbel.size
      by_cases hlt : k < ss.length
      · obtain ⟨b, off, rfl, hbb, hcs⟩ := ha.below hbel (by omega)
        have hx : ss[k]? = some ss[k] := List.getElem?_eq_getElem hlt
        generalize ss[k] = s at hx
        obtain ⟨q0, q1, q2, q3⟩ := stCells_get ss k s hx
        have c0 := hcs _ _ q0
        have c1 := hcs _ _ q1
        have c2 := hcs _ _ q2
        have c3 := hcs _ _ q3
        simp only [← Nat.add_assoc] at c1 c2 c3
        have HM := hide hmine
        clear q0 q1 q2 q3 hcs hx ha hmine
        obtain ⟨sk, sx⟩ := s
        have hB : Blk (wr.alloc (.cells #[.int .i64 sk, .int .i64 sx.h, .int .i64 sx.o, .string sx.s] 32)) wr.heap.size 32 #[.int .i64 sk, .int .i64 sx.h, .int .i64 sx.o, .string sx.s] := Blk.new wr _ _
        have HB := hide hB
        clear hB
        by_cases hk0 : sk = 0
        · subst hk0
          by_cases he : addErr l sx = 0
          · have HE := hide he
            clear he
            go_wp2_with fail
            refine (add_yes w.heap.size w.heap.size l sx _ (hb.alloc _) hl16 HE.out).mono ?_
            rintro e w1 ⟨rfl, hb1, hf1⟩
            obtain ⟨d0, d1, d2, d3⟩ := (HB.out.fr hf1 (by decide)).four
            have HM1 := hide ((HM.out.alloc (.cells #[.int .i64 0, .int .i64 sx.h, .int .i64 sx.o, .string sx.s] 32)).fr hf1 (by decide))
            have HL : (l ++ [sx]).length ≤ 16 := by have := addTo_length l sx hl16; unfold addTo at this; rwa [if_pos HE.out] at this
            have HF := hide ((hbel.alloc hws _).trans (hf1.below (by simp; omega)))
            have hw1 := HF.out.size
            clear hf1
            by_cases hxm : sx.h = m
            · have n1 : (sx.h == m) = true := by simp [hxm]
              have HX := hide hxm
              clear hxm
              obtain ⟨i0, hi0, hz0, hz1, hz2⟩ := info_parts Try.info9
              have hle := mineL_le m l
              have n3 : (mineL m l).length + 1 ≤ maxLen := by unfold maxLen; omega
              have n4 : ((mineL m l).length + 1) * 16 ≤ 140737488355328 := by omega
              have hN : Hid (0 < 1 → ∃ a, some (⟨w1.heap.size, 0, none⟩ : Addr) = some a ∧ ∀ j u, [Value.string sx.s][j]? = some u → (w1.alloc (.cells #[.string sx.s] 9)).cell? (a.add j) = some u) := hide fun _ => ⟨_, rfl, news_at w1 #[.string sx.s] 9 _ rfl⟩
              have n5 : w.heap.size ≤ (w1.alloc (.cells #[.string sx.s] 9)).heap.size := by simp; omega
              have hone := hide (str_one sx.s)
              have hA := hide ((HM1.out.alloc (.cells #[.string sx.s] 9)))
              go_wp2_with (at_builtin; refine wpList_append_Own _ rfl (.tmp 56) (.tmp 60) 28 rfl w.heap.size 9 i0 (.string ⟨#[]⟩) 1 16 Try.underlying28 hi0 hz0 hz1 hz2 rfl (by decide) _ (mineL m l).length ((mineL m l).map Value.string) rfl hA.out (some ⟨w1.heap.size, 0, none⟩) 1 1 [.string sx.s] rfl rfl hN.out hone.out n3 n4 n5 ?_; intro v' w2 hown2 hg2 _; have HO := hide (And.intro hown2 hg2); clear hown2 hg2)
              have hb2 : BufAt w2 w.heap.size w.heap.size (l ++ [sx]) := by
                obtain ⟨v, hg, hBg, hown⟩ := hb1
                have hg' := hg.alloc (.cells #[.string sx.s] 9)
                have hne := hA.out.ne_blk hg' (by decide)
                refine ⟨v, hg'.grown HO.out.2 (fun e => hne e.symm), hBg, (hown.alloc (.cells #[.string sx.s] 9)).keep fun g' cur _ hgg => ?_⟩
                have hk := hA.out.kind
                rw [HO.out.2.block g' (Array.getElem?_eq_some_iff.1 hgg).1 (fun e => by
                  obtain ⟨_, cs, h2⟩ := hk g' e.symm
                  rw [hgg] at h2
                  injection h2 with h2
                  injection h2 with _ h3
                  exact absurd h3 (by decide))]
                exact hgg
              have HF2 := hide ((HF.out.alloc hw1 (.cells #[.string sx.s] 9)).grown HO.out.2 n5 (fun k hk => (hA.out.lt k hk).1))
              clear hb1
              go_roundw
              case rel => exact ⟨k + 1, l ++ [sx], by omega, by go_num, hb2, HL, by rw [mineL_snoc _ _ _ HX.out]; simpa using HO.out.1, HF2.out⟩
              case measure => simp [intOf]; omega
            · have n1 : (sx.h == m) = false := by simp [hxm]
              have HX := hide hxm
              clear hxm
              go_wp2_with fail
              go_roundw
              case rel => exact ⟨k + 1, l ++ [sx], by omega, by go_num, hb1, HL, by rw [mineL_other _ _ _ HX.out]; exact HM1.out, HF.out⟩
              case measure => simp [intOf]; omega
          · have HT := hide (show addTo l sx = l from by unfold addTo; rw [if_neg he])
            have n1 : (addErr l sx == 0) = false := by simp [he]
            generalize hq : addErr l sx = q at n1
            have HQ := hide hq
            clear hq he
            go_wp2_with fail
            refine (add_any w.heap.size w.heap.size l sx _ (hb.alloc _) hl16).mono ?_
            rw [HQ.out, HT.out]
            rintro e w1 ⟨rfl, hb1, hf1⟩
            have HM1 := hide ((HM.out.alloc (.cells #[.int .i64 0, .int .i64 sx.h, .int .i64 sx.o, .string sx.s] 32)).fr hf1 (by decide))
            have HF := hide ((hbel.alloc hws _).trans (hf1.below (by simp; omega)))
            clear hf1
            go_wp2_with fail
            go_roundw
            case rel => exact ⟨k + 1, l, by omega, by go_num, hb1, hl16, HM1.out, HF.out⟩
            case measure => simp [intOf]; omega
        · by_cases hxm : sx.h = m
          · have n0 : (sk == 0) = false := by simp [hk0]
            have n1 : (sx.h != m) = false := by simp [hxm]
            have HX := hide hxm
            have HK := hide hk0
            clear hxm hk0
            go_wp2_with fail
            go_roundw
            case rel => exact ⟨k + 1, l, by omega, by go_num, hb.alloc _, hl16, HM.out.alloc _, hbel.alloc hws _⟩
            case measure => simp [intOf]; omega
          · have n0 : (sk == 0) = false := by simp [hk0]
            have n1 : (sx.h != m) = true := by simp [hxm]
            have HX := hide hxm
            have HK := hide hk0
            clear hxm hk0
            by_cases hk2 : sk = 2
            · subst hk2
              go_wp2_with fail
              refine (drop_any w.heap.size w.heap.size l sx.h _ (hb.alloc _) (by omega)).mono ?_
              rintro e w1 ⟨rfl, hb1, hf1⟩
              have HM1 := hide ((HM.out.alloc (.cells #[.int .i64 2, .int .i64 sx.h, .int .i64 sx.o, .string sx.s] 32)).fr hf1 (by decide))
              have HF := hide ((hbel.alloc hws _).trans (hf1.below (by simp; omega)))
              have hdl := dropOf_length sx.h l
              clear hf1
              go_wp2_with fail
              go_roundw
              case rel => exact ⟨k + 1, dropOf sx.h l, by omega, by go_num, hb1, by omega, by rw [mineL_drop _ _ _ HX.out]; exact HM1.out, HF.out⟩
              case measure => simp [intOf]; omega
            · have n2 : (sk == 2) = false := by simp [hk2]
              clear hk2
              go_wp2_with fail
              refine (pop_any w.heap.size w.heap.size l sx.h _ (hb.alloc _) (by omega)).mono ?_
              rintro e w1 ⟨rfl, hb1, hf1⟩
              have HM1 := hide ((HM.out.alloc (.cells #[.int .i64 sk, .int .i64 sx.h, .int .i64 sx.o, .string sx.s] 32)).fr hf1 (by decide))
              have HF := hide ((hbel.alloc hws _).trans (hf1.below (by simp; omega)))
              have hdl := popOf_length sx.h l
              clear hf1
              go_wp2_with fail
              go_roundw
              case rel => exact ⟨k + 1, popOf sx.h l, by omega, by go_num, hb1, by omega, by rw [mineL_pop _ _ _ HX.out]; exact HM1.out, HF.out⟩
              case measure => simp [intOf]; omega
      · obtain ⟨A1, cap1, rfl, hlc, hcm⟩ := hmine.shape
        have hle := mineL_le m l
        have hms := hide (rfl : mineL m l = mineL m l)
        generalize hmsd : mineL m l = ms at hmine hlc hle
        have HD := hide hmsd
        have HMI := hide hmine
        clear hmsd hms hmine
        obtain ⟨wo, rfl⟩ : ∃ wo : World, wo = wr := ⟨_, rfl⟩
        go_wp2_with fail
        clear hlt hk
        go_loopw [10] (fun i wr => OrdRel2 w m (.slice A1 ms.length cap1) ms i wr) (fun i _ => ms.length - (intOf i).toNat)
        case atStart => exact ⟨0, l, Nat.zero_le _, rfl, hb, by omega, HD.out, HMI.out, hbel⟩
        case round =>
          obtain ⟨k, l1, hk, rfl, hb1, hl1, hml, hown1, hbel1⟩ := hrel
          have hws1 := hbel1.size
          have HO1 := hide hown1
          by_cases hlt : k < ms.length
          · have hd := List.drop_eq_getElem_cons hlt
            have hx : ms[k]? = some ms[k] := List.getElem?_eq_getElem hlt
            generalize ms[k] = s at hx hd
            rw [hd] at hml
            obtain ⟨x, rfl, p1, p2, p3⟩ := mineL_head m l1 _ _ hml
            have H1 := hide p1
            have H2 := hide p2
            have H3 := hide p3
            have HX := hide hx
            clear hml hd hx p1 p2 p3 hown1
            go_wp2_with fail
            refine (fst_any w.heap.size w.heap.size l1 m _ hb1 hl1).mono ?_
            rintro e w2 ⟨rfl, hb2⟩
            rw [H1.out]
            obtain ⟨ga, capa, hva, _, hga, _, _⟩ := (HO1.out.below hb2).form (by omega)
            have hcell := ((HO1.out.below hb2).alloc (.cells #[.int .i64 x.h, .int .i64 x.o, .string x.s] 30)).cells (g := ga) (by rw [hva]; rfl) k (.string x.s) (by rw [List.getElem?_map, HX.out]; rfl)
            simp only [Value.slice.injEq, true_and] at hva
            obtain ⟨rfl, rfl⟩ := hva
            simp only [Addr.add_lit, Nat.zero_add] at hcell
            have i0 : (0 : Int) ≤ (k : Int) := by omega
            have i1 : (k : Int) < (ms.length : Int) := by omega
            have hbw := hide (hb1.below hb2)
            have hbd : Hid (Below w2.heap.size w2 (w2.alloc (.cells #[.int .i64 x.h, .int .i64 x.o, .string x.s] 30)).drew) := hide (((Below.refl _ _).alloc (Nat.le_refl _) _).drew)
            have cx : Hid ((w2.alloc (.cells #[.int .i64 x.h, .int .i64 x.o, .string x.s] 30)).drew.cell? ⟨w2.heap.size, 2, none⟩ = some (.string x.s)) := hide ((Blk.new w2 30 #[.int .i64 x.h, .int .i64 x.o, .string x.s]).cell 2)
            have HXs : Hid ((ms.map Value.string)[k]? = some (.string x.s)) := hide (by rw [List.getElem?_map, HX.out]; rfl)
            have HOb : Hid (Own (w2.alloc (.cells #[.int .i64 x.h, .int .i64 x.o, .string x.s] 30)).drew w.heap.size 9 1 (.slice (some ⟨ga, 0, none⟩) ms.length cap1) ms.length (ms.map Value.string)) := hide ((HO1.out.below hb2).alloc (.cells #[.int .i64 x.h, .int .i64 x.o, .string x.s] 30))
            have HK0 : Hid ((w2.alloc (.cells #[.int .i64 x.h, .int .i64 x.o, .string x.s] 30)).drew.cell? ⟨w2.heap.size, 2, none⟩ = some (.string x.s) ∧ (w2.alloc (.cells #[.int .i64 x.h, .int .i64 x.o, .string x.s] 30)).drew.cell? ⟨ga, k, none⟩ = some (.string x.s)) := hide ⟨cx.out, hcell⟩
            have HF := hide ((hbel1.trans (hb2.mono hws1)).alloc (Nat.le_trans hws1 hb2.size) (.cells #[.int .i64 x.h, .int .i64 x.o, .string x.s] 30))
            have hwl := HF.out.size
            have hpl := popOf_length m l1
            clear hb2 hb hb1 hbel hbel1
            go_wp2_with fail
            go_region_held3 (fun w' => w'.cell? ⟨w2.heap.size, 2, none⟩ = some (.string x.s) ∧ w'.cell? ⟨ga, k, none⟩ = some (.string x.s)) (first | exact HK0.out | exact HK.out) ((go_at_call 13; refine (pop_yes w2 w.heap.size w.heap.size l1 m _ hbw.out hbd.out hl1 H2.out).mono ?_; rintro e w3 ⟨rfl, hb3, hf3, hk3⟩; have HO3 := hide (HOb.out.fr hf3 (by decide)); have HK : Hid (w3.cell? ⟨w2.heap.size, 2, none⟩ = some (.string x.s) ∧ w3.cell? ⟨ga, k, none⟩ = some (.string x.s)) := hide ⟨(hk3 ⟨w2.heap.size, 2, none⟩ (Nat.le_refl _) (by simp)).trans cx.out, (by simpa [Addr.add_lit] using HO3.out.cells (g := ga) rfl k _ HXs.out)⟩))
            all_goals have HB3 := hide hb3
            all_goals have HF3 := hide (HF.out.drew.trans (hf3.below (by simp; omega)))
            all_goals clear hb3 hf3 hk3
            all_goals go_wp2
            all_goals go_roundw
            all_goals try case rel => exact ⟨k + 1, popOf m l1, by omega, by go_num, HB3.out, by omega, H3.out, HO3.out, HF3.out⟩
            all_goals try case measure => simp [intOf]; omega
          · obtain rfl : k = ms.length := by omega
            rw [List.drop_length] at hml
            obtain ⟨p1, p2, p3, p4⟩ := mineL_none m l1 hml
            have H1 := hide p1
            have H2 := hide p2
            have H3 := hide p3
            have H4 := hide p4
            clear hml p1 p2 p3 p4 hown1
            go_wp2_with fail
            refine (fst_any w.heap.size w.heap.size l1 m _ hb1 hl1).mono ?_
            rintro e w2 ⟨rfl, hb2⟩
            rw [H1.out]
            have hbb := (hb1.below hb2).alloc (.cells #[.int .i64 0, .int .i64 0, .string ⟨#[]⟩] 30)
            have HF := hide ((hbel1.trans (hb2.mono hws1)).alloc (Nat.le_trans hws1 hb2.size) (.cells #[.int .i64 0, .int .i64 0, .string ⟨#[]⟩] 30))
            have hwl := HF.out.size
            clear hb2 hb hb1 hbel hbel1
            go_wp2_with fail
            refine (pop_any w.heap.size w.heap.size l1 m _ hbb hl1).mono ?_
            rintro e w3 ⟨rfl, hb3, hf3⟩
            rw [H2.out]
            rw [H3.out] at hb3
            have HF3 := hide (HF.out.trans (hf3.below hwl))
            have hwl3 := HF3.out.size
            clear hf3
            go_wp2_with fail
            refine (drop_any w.heap.size w.heap.size l1 m _ hb3 hl1).mono ?_
            rintro e w4 ⟨rfl, hb4, hf4⟩
            rw [H4.out]
            have HF4 := hide (HF3.out.trans (hf4.below hwl3))
            have hwl4 := HF4.out.size
            clear hf4 hb4 hb3
            go_wp2_with fail
            refine (wakes_any _).mono ?_
            rintro e w5 ⟨rfl, hb5⟩
            go_wp2
            go_ret
            exact ⟨rfl, HF4.out.trans (hb5.mono hwl4)⟩
  · rw [eq_false_of_ne_true hf]
    go_wp2_with fail
    refine (wakes_any _).mono ?_
    rintro e w1 ⟨rfl, hb1⟩
    go_wp2
    go_ret
    exact ⟨rfl, ((Below.refl _ _).alloc (Nat.le_refl _) _).trans (hb1.mono (by simp))⟩
end Go.Proofs.Ytimdnooakpbkpaa

/- All (slices.Clone); the law BufferMost. -/
import Derived.Test.YtimdnooakpbkpaaBufE
namespace Go.Proofs.Ytimdnooakpbkpaa
open Go.RowKit
set_option linter.unusedVariables false

set_option maxHeartbeats 400000 in
theorem clone_any (B : Nat) (v : Value) (l : List Wr) (w : World) (hown : Own w B 30 3 v l.length (cellsOf l)) (hl : l.length ≤ 1000) :
    Calls Try.prog 23 #[v] w fun e w' => ∃ v', e = .returned v' ∧ Own w' w.heap.size 30 3 v' l.length (cellsOf l) ∧ Below w.heap.size w w' := by
  obtain ⟨i0, hi0, hz0, hz1, hz2⟩ := info_parts Try.info30
  have hnil := fun (W : World) (a : Option Addr) (n c : Nat) => Lib.run_eql_slice_nil (P := Try.prog) W 50 30 a n c 0 0 Try.underlying50
  rcases hown.2 with ⟨rfl, h0⟩ | ⟨g, cap, cur, rfl, hb, hg, hnc, hm, hcs, ht⟩
  · have hl0 : l = [] := List.eq_nil_of_length_eq_zero h0
    subst hl0
    go_enter Try.func23, Try.ntmps23
    go_wp2
    go_ret
    exact ⟨.slice none 0 0, rfl, Own.nil _ _ _ _, Below.refl _ _⟩
  · have hN : Hid (∀ o, 0 < l.length → ∃ a, some (⟨g, 0, none⟩ : Addr) = some a ∧ ∀ j u, (cellsOf l)[j]? = some u → (w.alloc o).cell? (a.add j) = some u) :=
      hide fun o _ => ⟨_, rfl, (hown.alloc o).cells (g := g) rfl⟩
    have hE : Hid (Own (w.alloc (.cells #[] 30)) w.heap.size 30 3 (.slice (some ⟨w.heap.size, 0, none⟩) 0 0) 0 []) :=
      hide ⟨by simp, .inr ⟨w.heap.size, 0, #[], rfl, Nat.le_refl _, heap_alloc_new w _, Nat.le_refl _, by simp [maxLen], by simp, by simp⟩⟩
    have n1 : Hid ((cellsOf l).length = l.length * 3) := hide (cellsOf_length l)
    have n2 : Hid (∀ u ∈ cellsOf l, u.oneCell' = true) := hide (cellsOf_one _)
    have n3 : 0 + l.length ≤ maxLen := by unfold maxLen; omega
    have n4 : (0 + l.length) * 32 ≤ 140737488355328 := by omega
    have n5 : w.heap.size ≤ (w.alloc (.cells #[] 30)).heap.size := by simp
    clear hcs ht hg
    go_enter Try.func23, Try.ntmps23
    go_wp2_with (at_builtin; refine wpList_append_Own _ rfl (.tmp 5) (.tmp 6) 50 rfl w.heap.size 30 i0 _ 3 32 Try.underlying50 hi0 hz0 hz1 hz2 rfl (by decide) (.slice (some ⟨w.heap.size, 0, none⟩) 0 0) 0 [] rfl hE.out (some ⟨g, 0, none⟩) l.length cap (cellsOf l) rfl n1.out (hN.out _) n2.out n3 n4 n5 ?_; intro v' w1 hown1 hg1 _; have HE := hide (And.intro hown1 hg1); clear hown1 hg1)
    go_ret
    refine ⟨_, rfl, by simpa using HE.out.1, ?_⟩
    exact ((Below.refl _ _).alloc (Nat.le_refl _) _).grown HE.out.2 (by simp) (fun k hk => by simp [Value.ownBlock] at hk; omega)

theorem all_any (B g : Nat) (l : List Wr) (w : World) (hb : BufAt w B g l) (hl : l.length ≤ 1000) :
    Calls Try.prog 21 #[.pointer (some ⟨g, 0, none⟩)] w fun e w' => ∃ v', e = .returned v' ∧ Own w' w.heap.size 30 3 v' l.length (cellsOf l) ∧ Below w.heap.size w w' := by
  obtain ⟨v, hg, hBg, hown⟩ := hb
  obtain ⟨A, cap, rfl, _, _⟩ := hown.shape
  have cg := hg.one
  go_enter Try.func21, Try.ntmps21
  go_wp2_with fail
  refine (clone_any B _ l w hown hl).mono ?_
  rintro e w1 ⟨v', rfl, ho, hb1⟩
  have HO := hide ho
  clear ho
  go_wp2
  go_ret
  exact ⟨v', rfl, HO.out, hb1⟩

/-- k writes of handles 0, 1, 2, 0, .. -/
def ml (k : Nat) : List Wr := (List.range k).map fun i => ⟨((i % 3 : Nat) : Int), 0, ⟨#[97]⟩⟩
theorem ml_length (k : Nat) : (ml k).length = k := by simp [ml]
theorem ml_succ (k : Nat) : ml (k + 1) = ml k ++ [⟨((k % 3 : Nat) : Int), 0, ⟨#[97]⟩⟩] := by simp [ml, List.range_succ]
theorem addErr_ok (l : List Wr) (h : Int) (h0 : 0 ≤ h) (h1 : h < 3) (hl : l.length < 16) : addErr l ⟨h, 0, ⟨#[97]⟩⟩ = 0 := by
  unfold addErr
  have e : (⟨#[97]⟩ : ByteArray).size = 1 := rfl
  simp only [e]
  rw [if_neg (by omega), if_neg (by omega), if_neg (by omega)]
theorem addErr_many (l : List Wr) (h : Int) (h0 : 0 ≤ h) (h1 : h < 3) (hl : l.length = 16) : addErr l ⟨h, 0, ⟨#[97]⟩⟩ = 3 := by
  unfold addErr
  have e : (⟨#[97]⟩ : ByteArray).size = 1 := rfl
  simp only [e]
  rw [if_neg (by omega), if_neg (by omega), if_pos hl]
theorem add_no (B g : Nat) (l : List Wr) (x : Wr) (w : World) (hb : BufAt w B g l) (hl : l.length ≤ 16) (he : addErr l x = 3) :
    Calls Try.prog 11 #[.pointer (some ⟨g, 0, none⟩), .agg #[.int .i64 x.h, .int .i64 x.o, .string x.s]] w fun e w' => e = .returned (.int .i64 3) ∧ BufAt w' B g l ∧ Fr [55, 30] B w w' := by
  have := add_any B g l x w hb hl
  unfold addTo at this
  rw [he, if_neg (by decide)] at this
  exact this
theorem ml_idx (h : Int) (h0 : 0 ≤ h) (h1 : h < 3) : decide (0 ≤ idx h (ml 16)) = true ∧ (popOf h (ml 16)).length = 15 := by
  have : h = 0 ∨ h = 1 ∨ h = 2 := by omega
  rcases this with rfl | rfl | rfl <;> decide

set_option maxHeartbeats 800000 in
theorem most_any (n : Int) (h0 : 0 ≤ n) (h1 : n ≤ 255) (w : World) : Calls Try.prog 5 #[.int .u8 n] w fun e w' => e = .returned (.bool true) ∧ Below w.heap.size w w' := by
  go_enter Try.func5, Try.ntmps5
  go_wp2_with fail
  refine (new_any _).mono ?_
  rintro e w1 ⟨rfl, rfl⟩
  go_wp2_with fail
  go_loopw [4] (fun i wr => ∃ k : Nat, k ≤ 16 ∧ i = .int .i64 k ∧ BufAt wr w.heap.size w.heap.size (ml k) ∧ Hid (Fr [55, 30] w.heap.size w wr)) (fun i _ => 16 - (intOf i).toNat)
  case atStart => exact ⟨0, by omega, rfl, buf_new w, hide ((Fr.refl _ _ _).alloc _)⟩
  case round =>
    obtain ⟨k, hk, rfl, hb, hf⟩ := hrel
    by_cases hlt : k < 16
    · have hm0 : (0 : Int) ≤ (k : Int) % 3 := by omega
      have hm1 : (k : Int) % 3 < 3 := by omega
      have HA := hide (addErr_ok (ml k) ((k : Int) % 3) hm0 hm1 (by rw [ml_length]; omega))
      go_wp2_with fail
      refine (add_yes w.heap.size w.heap.size (ml k) ⟨(k : Int) % 3, 0, ⟨#[97]⟩⟩ _ hb (by rw [ml_length]; omega) HA.out).mono ?_
      rintro e w1 ⟨rfl, hb1, hf1⟩
      have HB := hide hb1
      clear hb1
      go_wp2
      go_roundw
      case rel => exact ⟨k + 1, by omega, by go_num, by rw [ml_succ]; exact HB.out, hide (hf.out.trans hf1)⟩
      case measure => simp [intOf]; omega
    · obtain rfl : k = 16 := by omega
      clear hk hlt
      go_wp2_with fail
      refine (all_any w.heap.size w.heap.size (ml 16) _ hb (by rw [ml_length]; omega)).mono ?_
      rintro e w2 ⟨v', rfl, ho, hb2⟩
      rw [ml_length] at ho
      obtain ⟨gc, cap, rfl, hgl, hgc, hcl, _⟩ := ho.form (by omega)
      obtain ⟨cur0, hc0, hs0⟩ : ∃ cur, Blk w2 gc 30 cur ∧ 48 ≤ cur.size := by
        rcases ho.2 with ⟨_, h⟩ | ⟨g', cap', cur, hv, _, hg', _, _, hcs, _⟩
        · omega
        · simp only [Value.slice.injEq, Option.some.injEq, Addr.mk.injEq, and_true, true_and] at hv
          obtain ⟨rfl, rfl⟩ := hv
          exact ⟨cur, hg', by omega⟩
      have HW := hide (And.intro hb (And.intro hb2 hf.out))
      clear hb hb2 hf ho
      go_wp2
      obtain ⟨wo, rfl⟩ : ∃ wo : World, wo = wr := ⟨_, rfl⟩
      go_loopw [6] (fun i wx => ∃ (k : Nat) (cur : Array Value), k ≤ 16 ∧ i = .int .i64 k ∧ Blk wx gc 30 cur ∧ 48 ≤ cur.size ∧ Below wo.heap.size wo wx) (fun i _ => 16 - (intOf i).toNat)
      case atStart => exact ⟨0, cur0, by omega, rfl, hc0, hs0, HW.out.2.1⟩
      case round =>
        obtain ⟨k, cur, hk, rfl, hc, hs, hbx⟩ := hrel
        by_cases hlt : k < 16
        · obtain ⟨u0, e0⟩ : ∃ u, wr.cell? ⟨gc, k * 3, none⟩ = some u := ⟨_, (hc.cell _).trans (Array.getElem?_eq_getElem (by omega))⟩
          obtain ⟨u1, e1⟩ : ∃ u, wr.cell? ⟨gc, k * 3 + 1, none⟩ = some u := ⟨_, (hc.cell _).trans (Array.getElem?_eq_getElem (by omega))⟩
          obtain ⟨u2, e2⟩ : ∃ u, wr.cell? ⟨gc, k * 3 + 2, none⟩ = some u := ⟨_, (hc.cell _).trans (Array.getElem?_eq_getElem (by omega))⟩
          have z0 := hc.frozen (k * 3)
          have z1 := hc.frozen (k * 3 + 1)
          have z2 := hc.frozen (k * 3 + 2)
          have HC := hide hc
          have HX := hide hbx
          clear hc hbx
          go_wp2
          go_roundw
          case rel => exact ⟨k + 1, _, by omega, by go_num, ((HC.out.set_ _ _).set_ _ _).set_ _ _, by simpa using hs, ((HX.out.setCell (by simpa using hgl) _).setCell (by simpa using hgl) _).setCell (by simpa using hgl) _⟩
          case measure => simp [intOf]; omega
        · have HC := hide hc
          have HX := hide hbx
          clear hc hbx
          have hb2 := HW.out.1.below HX.out
          have hm0 : (0 : Int) ≤ n % 3 := by omega
          have hm1 : n % 3 < 3 := by omega
          have HM := hide (addErr_many (ml 16) (n % 3) hm0 hm1 (ml_length 16))
          have HI := hide (ml_idx (n % 3) hm0 hm1)
          go_wp2_with fail
          refine (add_no w.heap.size w.heap.size (ml 16) ⟨n % 3, 0, ⟨#[97]⟩⟩ _ hb2 (by rw [ml_length]; omega) HM.out).mono ?_
          rintro e w3 ⟨rfl, hb3, hf3⟩
          go_wp2_with fail
          refine (pop_any w.heap.size w.heap.size (ml 16) (n % 3) _ hb3 (by rw [ml_length]; omega)).mono ?_
          rintro e w4 ⟨rfl, hb4, hf4⟩
          rw [HI.out.1]
          have HO := hide (addErr_ok (popOf (n % 3) (ml 16)) (n % 3) hm0 hm1 (by rw [HI.out.2]; omega))
          go_wp2_with fail
          refine (add_yes w.heap.size w.heap.size (popOf (n % 3) (ml 16)) ⟨n % 3, 0, ⟨#[97]⟩⟩ _ hb4 (by rw [HI.out.2]; omega) HO.out).mono ?_
          rintro e w5 ⟨rfl, hb5, hf5⟩
          go_wp2_with fail
          refine (count_any w.heap.size w.heap.size _ _ hb5).mono ?_
          rintro e w6 ⟨rfl, rfl⟩
          rw [show ((popOf (n % 3) (ml 16) ++ [(⟨n % 3, 0, ⟨#[97]⟩⟩ : Wr)]).length : Int) = 16 from by rw [List.length_append, HI.out.2]; rfl]
          have HF := hide ((((HW.out.2.2.trans (Fr.of_below HX.out)).trans hf3).trans hf4).trans hf5)
          clear hf3 hf4 hf5 hb2 hb3 hb4 hb5
          go_wp2_with fail
          refine (wakes_any _).mono ?_
          rintro e w6 ⟨rfl, hb6⟩
          go_wp2
          go_ret
          exact ⟨rfl, (HF.out.trans (Fr.of_below hb6)).below (Nat.le_refl _)⟩
end Go.Proofs.Ytimdnooakpbkpaa

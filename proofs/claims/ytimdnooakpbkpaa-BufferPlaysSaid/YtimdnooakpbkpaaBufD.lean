/- The buffer's functions: Drop, Count, All; fair; what they come to as lists. -/
import Derived.Test.YtimdnooakpbkpaaBufC
namespace Go.Proofs.Ytimdnooakpbkpaa
open Go.RowKit
set_option linter.unusedVariables false

theorem idxFrom_split (h : Int) (l : List Wr) : ∀ k, (idxFrom h k l = -1 ∧ ∀ x ∈ l, x.h ≠ h) ∨ ∃ a x b, l = a ++ x :: b ∧ x.h = h ∧ (∀ y ∈ a, y.h ≠ h) ∧ idxFrom h k l = k + a.length := by
  induction l with
  | nil => intro k; exact .inl ⟨rfl, by simp⟩
  | cons x l ih =>
    intro k
    unfold idxFrom
    by_cases hx : x.h = h
    · rw [if_pos hx]
      exact .inr ⟨[], x, l, rfl, hx, by simp, by simp⟩
    · rw [if_neg hx]
      rcases ih (k + 1) with ⟨h1, h2⟩ | ⟨a, y, b, rfl, hy, ha, h2⟩
      · exact .inl ⟨h1, by intro z hz; rcases List.mem_cons.1 hz with rfl | hz <;> first | exact hx | exact h2 z hz⟩
      · exact .inr ⟨x :: a, y, b, rfl, hy, by intro z hz; rcases List.mem_cons.1 hz with rfl | hz <;> first | exact hx | exact ha z hz, by rw [h2, List.length_cons]; omega⟩
theorem idx_split (h : Int) (l : List Wr) : (idx h l = -1 ∧ ∀ x ∈ l, x.h ≠ h) ∨ ∃ a x b, l = a ++ x :: b ∧ x.h = h ∧ (∀ y ∈ a, y.h ≠ h) ∧ idx h l = a.length := by
  rcases idxFrom_split h l 0 with h1 | ⟨a, x, b, h1, h2, h3, h4⟩
  · exact .inl h1
  · exact .inr ⟨a, x, b, h1, h2, h3, by unfold idx; omega⟩

theorem popOf_eq (h : Int) (l : List Wr) : popOf h l = l.eraseP (fun x => x.h == h) := by
  unfold popOf
  rcases idx_split h l with ⟨h1, h2⟩ | ⟨a, x, b, rfl, hx, ha, h2⟩
  · rw [if_pos (by omega), List.eraseP_of_forall_not (by simpa using h2)]
  · rw [if_neg (by omega), h2, Int.toNat_natCast, List.eraseP_append_right _ (by simpa using ha), List.eraseP_cons_of_pos (by simpa using hx)]
    simp
theorem firstOf_eq (h : Int) (l : List Wr) : firstOf h l = l.find? (fun x => x.h == h) := by
  unfold firstOf
  rcases idx_split h l with ⟨h1, h2⟩ | ⟨a, x, b, rfl, hx, ha, h2⟩
  · rw [if_pos (by omega), Eq.comm, List.find?_eq_none]
    simpa using h2
  · rw [if_neg (by omega), h2, Int.toNat_natCast, List.find?_append, List.find?_cons_of_pos (by simpa using hx), List.find?_eq_none.2 (by simpa using ha)]
    simp
theorem has_eq (h : Int) (l : List Wr) : decide (0 ≤ idx h l) = l.any (fun x => x.h == h) := by
  rcases idx_split h l with ⟨h1, h2⟩ | ⟨a, x, b, rfl, hx, ha, h2⟩
  · rw [decide_eq_false (by omega), Eq.comm, List.any_eq_false]
    simpa using h2
  · rw [decide_eq_true (by omega), Eq.comm, List.any_eq_true]
    exact ⟨x, by simp, by simpa using hx⟩
theorem popOf_length (h : Int) (l : List Wr) : (popOf h l).length ≤ l.length := by
  rw [popOf_eq]
  exact List.length_eraseP_le
theorem popOf_drop (h : Int) (l : List Wr) (hi : 0 ≤ idx h l) : (popOf h l).countP (fun x => x.h == h) + 1 = l.countP (fun x => x.h == h) ∧ (popOf h l).filter (fun x => x.h != h) = l.filter (fun x => x.h != h) := by
  rcases idx_split h l with ⟨h1, h2⟩ | ⟨a, x, b, rfl, hx, ha, h2⟩
  · omega
  · unfold popOf
    rw [if_neg (by omega), h2, Int.toNat_natCast]
    constructor
    · simp [hx]
      omega
    · simp [List.filter_append, hx]
theorem no_drop (h : Int) (l : List Wr) (hi : idx h l < 0) : l.countP (fun x => x.h == h) = 0 ∧ l.filter (fun x => x.h != h) = l := by
  rcases idx_split h l with ⟨h1, h2⟩ | ⟨a, x, b, rfl, hx, ha, h2⟩
  · exact ⟨List.countP_eq_zero.2 (by simpa using h2), List.filter_eq_self.2 (by simpa using h2)⟩
  · omega

/-- what a buffer holds behind a Drop -/
def dropOf (h : Int) (l : List Wr) : List Wr := l.filter (fun x => x.h != h)
def dropN (h : Int) (l : List Wr) : Nat := l.countP (fun x => x.h == h)
theorem dropOf_length (h : Int) (l : List Wr) : (dropOf h l).length ≤ l.length := List.length_filter_le _ _
theorem dropN_le (h : Int) (l : List Wr) : dropN h l ≤ l.length := List.countP_le_length

set_option maxHeartbeats 400000 in
theorem drop_any (B g : Nat) (l : List Wr) (h : Int) (w : World) (hb : BufAt w B g l) (hl : l.length ≤ 1000) :
    Calls Try.prog 12 #[.pointer (some ⟨g, 0, none⟩), .int .i64 h] w fun e w' => e = .returned (.int .i64 (dropN h l)) ∧ BufAt w' B g (dropOf h l) ∧ Fr [55, 30] B w w' := by
  have hle := dropN_le h l
  go_enter Try.func12, Try.ntmps12
  go_wp2
  go_loopw [5] (fun i wr => ∃ (k : Nat) (l' : List Wr), i = .int .i64 k ∧ k + dropN h l' ≤ dropN h l ∧ BufAt wr B g l' ∧ l'.length ≤ 1000 ∧ Fr [55, 30] B w wr ∧ Hid (k + dropN h l' = dropN h l ∧ dropOf h l' = dropOf h l)) (fun i _ => dropN h l - (intOf i).toNat)
  case atStart => exact ⟨0, l, rfl, by omega, hb, hl, Fr.refl _ _ _, hide ⟨by omega, rfl⟩⟩
  case round =>
    obtain ⟨k, l', rfl, hk, hb', hl', hfr, HI⟩ := hrel
    by_cases hi : 0 ≤ idx h l'
    · obtain ⟨p1, p2⟩ := popOf_drop h l' hi
      have hp1 : dropN h (popOf h l') + 1 ≤ dropN h l' := by unfold dropN; omega
      have HP := hide (show dropN h (popOf h l') + 1 = dropN h l' ∧ dropOf h (popOf h l') = dropOf h l' from ⟨p1, p2⟩)
      have hlen := popOf_length h l'
      have HD := hide (show decide (0 ≤ idx h l') = true from decide_eq_true hi)
      clear p1 p2 hi
      go_wp2_with fail
      refine (pop_any B g l' h _ hb' hl').mono ?_
      rintro e w1 ⟨rfl, hb1, hf1⟩
      rw [HD.out]
      go_wp2
      go_roundw
      case rel => exact ⟨k + 1, popOf h l', by go_num, by omega, hb1, by omega, hfr.trans hf1, hide ⟨by have := HI.out.1; have := HP.out.1; omega, by rw [HP.out.2, HI.out.2]⟩⟩
      case measure => simp [intOf]; omega
    · obtain ⟨p1, p2⟩ := no_drop h l' (by omega)
      have HP := hide (show dropN h l' = 0 ∧ dropOf h l' = l' from ⟨p1, p2⟩)
      have HD := hide (show decide (0 ≤ idx h l') = false from decide_eq_false hi)
      have HE := hide (show popOf h l' = l' from by unfold popOf; rw [if_pos (by omega)])
      clear p1 p2 hi
      go_wp2_with fail
      refine (pop_any B g l' h _ hb' hl').mono ?_
      rintro e w1 ⟨rfl, hb1, hf1⟩
      rw [HD.out]
      rw [HE.out] at hb1
      go_wp2
      go_ret
      refine ⟨?_, ?_, hfr.trans hf1⟩
      · have h1 := HI.out.1
        have h2 := HP.out.1
        rw [← h1, h2]
        rfl
      · rw [← HI.out.2, HP.out.2]
        exact hb1

theorem count_any (B g : Nat) (l : List Wr) (w : World) (hb : BufAt w B g l) : Calls Try.prog 19 #[.pointer (some ⟨g, 0, none⟩)] w fun e w' => e = .returned (.int .i64 l.length) ∧ w = w' := by
  obtain ⟨v, hg, hBg, hown⟩ := hb
  obtain ⟨A, cap, rfl, _, _⟩ := hown.shape
  have cg := hg.one
  go_enter Try.func19, Try.ntmps19
  go_wp2
  go_ret
  exact ⟨rfl, rfl⟩
theorem count_nil (w : World) : Calls Try.prog 19 #[.pointer none] w fun e w' => e = .returned (.int .i64 0) ∧ w = w' := by
  go_enter Try.func19, Try.ntmps19
  go_wp2
  go_ret
  exact ⟨rfl, rfl⟩
end Go.Proofs.Ytimdnooakpbkpaa

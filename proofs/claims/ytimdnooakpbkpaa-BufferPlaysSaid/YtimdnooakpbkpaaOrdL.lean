/- The plain law of BufferOrder: what a handle's writes are behind each step. -/
import Derived.Test.YtimdnooakpbkpaaBufE
namespace Go.Proofs.Ytimdnooakpbkpaa
open Go.RowKit
set_option linter.unusedVariables false

/-- the texts of a handle's writes, in order -/
def mineL (m : Int) (l : List Wr) : List ByteArray := (l.filter fun x => x.h == m).map (·.s)
theorem mineL_snoc (m : Int) (l : List Wr) (x : Wr) (h : x.h = m) : mineL m (l ++ [x]) = mineL m l ++ [x.s] := by simp [mineL, h]
theorem mineL_other (m : Int) (l : List Wr) (x : Wr) (h : x.h ≠ m) : mineL m (l ++ [x]) = mineL m l := by simp [mineL, h]
theorem mineL_drop (m h : Int) (l : List Wr) (hne : h ≠ m) : mineL m (dropOf h l) = mineL m l := by
  unfold mineL dropOf
  rw [List.filter_filter]
  congr 1
  apply List.filter_congr
  intro x _
  by_cases hx : x.h = m
  · have : ¬ x.h = h := fun e => hne (e ▸ hx)
    simp [hx]
    omega
  · simp [hx]
theorem mineL_pop (m h : Int) (l : List Wr) (hne : h ≠ m) : mineL m (popOf h l) = mineL m l := by
  rcases idx_split h l with ⟨h1, h2⟩ | ⟨a, x, b, rfl, hx, ha, h2⟩
  · unfold popOf
    rw [if_pos (by omega)]
  · unfold popOf
    rw [if_neg (by omega), h2, Int.toNat_natCast]
    have : ¬ x.h = m := fun e => hne (by omega)
    simp [mineL, this]
theorem mineL_le (m : Int) (l : List Wr) : (mineL m l).length ≤ l.length := by
  unfold mineL
  rw [List.length_map]
  exact List.length_filter_le _ _
theorem mineL_head (m : Int) (l : List Wr) (s : ByteArray) (r : List ByteArray) (h : mineL m l = s :: r) : ∃ x : Wr, x.s = s ∧ fstVal m l = .tuple #[.agg #[.int .i64 x.h, .int .i64 x.o, .string x.s], .bool true] ∧ decide (0 ≤ idx m l) = true ∧ mineL m (popOf m l) = r := by
  rcases idx_split m l with ⟨h1, h2⟩ | ⟨a, x, b, rfl, hx, ha, h2⟩
  · have : mineL m l = [] := by
      unfold mineL
      rw [List.filter_eq_nil_iff.2 (by simpa using h2)]
      rfl
    rw [this] at h
    cases h
  · have hf : (a.filter fun y => y.h == m) = [] := List.filter_eq_nil_iff.2 (by simpa using ha)
    have e1 : mineL m (a ++ x :: b) = x.s :: mineL m b := by
      unfold mineL
      rw [List.filter_append, hf, List.nil_append, List.filter_cons_of_pos (by simpa using hx), List.map_cons]
    have e2 : popOf m (a ++ x :: b) = a ++ b := by
      unfold popOf
      rw [if_neg (by omega), h2, Int.toNat_natCast]
      simp
    have e3 : mineL m (a ++ b) = mineL m b := by
      unfold mineL
      rw [List.filter_append, hf, List.nil_append]
    rw [e1] at h
    injection h with h3 h4
    refine ⟨x, h3, ?_, decide_eq_true (by omega), by rw [e2, e3, h4]⟩
    unfold fstVal firstOf
    rw [if_neg (by omega), h2, Int.toNat_natCast]
    simp
theorem mineL_none (m : Int) (l : List Wr) (h : mineL m l = []) : fstVal m l = .tuple #[.agg #[.int .i64 0, .int .i64 0, .string ⟨#[]⟩], .bool false] ∧ decide (0 ≤ idx m l) = false ∧ popOf m l = l ∧ dropN m l = 0 := by
  rcases idx_split m l with ⟨h1, h2⟩ | ⟨a, x, b, rfl, hx, ha, h2⟩
  · refine ⟨?_, decide_eq_false (by omega), ?_, (no_drop m l (by omega)).1⟩
    · unfold fstVal firstOf
      rw [if_pos (by omega)]
    · unfold popOf
      rw [if_pos (by omega)]
  · simp [mineL, hx] at h
theorem addTo_length (l : List Wr) (x : Wr) (hl : l.length ≤ 16) : (addTo l x).length ≤ 16 := by
  unfold addTo
  by_cases h : addErr l x = 0
  · rw [if_pos h]
    unfold addErr at h
    split at h
    · omega
    · split at h
      · omega
      · split at h
        · omega
        · simp
          omega
  · rw [if_neg h]
    exact hl
theorem Blk.four {w : World} {g : Nat} {a b c d : Value} {t : TypeId} (h : Blk w g t #[a, b, c, d]) :
    w.cell? ⟨g, 0, none⟩ = some a ∧ w.cell? ⟨g, 1, none⟩ = some b ∧ w.cell? ⟨g, 2, none⟩ = some c ∧ w.cell? ⟨g, 3, none⟩ = some d :=
  ⟨h.cell 0, h.cell 1, h.cell 2, h.cell 3⟩
theorem str_cells (l : List ByteArray) : (l.map Value.string).length = l.length * 1 := by simp
theorem str_one (s : ByteArray) : ∀ u ∈ [Value.string s], u.oneCell' = true := by simp [Value.oneCell']
end Go.Proofs.Ytimdnooakpbkpaa

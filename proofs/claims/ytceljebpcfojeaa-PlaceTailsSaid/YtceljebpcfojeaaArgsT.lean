/- Pairs and a slice of pairs that came in, opened to their cells. -/
import Derived.Test.YtceljebpcfojeaaRTail
import Derived.Test.YtceljebpcfojeaaArgs
import Derived.OpenShut
namespace Go.Proofs.Ytceljebpcfojeaa
open Go.ChangeShapes Go.WideShapes Go.ChangeAt Go.RowKit Go.Deep Go.Joins
set_option linter.unusedVariables false

theorem Try.cells26 : Try.prog.cellsOf 26 = 2 := by kernel_rfl
theorem list2 {α : Type} {l : List α} (h : l.length = 2) : ∃ a b, l = [a, b] := by
  match l, h with
  | [a, b], _ => exact ⟨a, b, rfl⟩
section
variable {H : Type} {enc : TypeId × Value → H} {w : World} {base : Nat} {spare : Nat → Bool} {held : Bool}
theorem open_pair_at {fuel : Nat} {cs : List Value} {x : DataW H × List MemPlace} (h : DataW.trod enc Try.prog w base spare held fuel 26 cs = some x) : ∃ a b : Int, cs = [.int .i64 a, .int .i64 b] ∧ okI a ∧ okI b := by
  obtain ⟨xs, n, _, _, hlen, hxl, hg⟩ := DataW.trod_array Try.underlying26 h
  rw [Try.cells26] at hlen
  obtain ⟨c0, c1, rfl⟩ := list2 hlen
  obtain ⟨y0, y1, rfl⟩ := list2 hxl
  have g0 : DataW.trod enc Try.prog w base spare held n 3 ((([c0, c1] : List Value).drop (0 * Try.prog.cellsOf 3)).take (Try.prog.cellsOf 3)) = some y0 := hg 0 (by omega)
  have g1 : DataW.trod enc Try.prog w base spare held n 3 ((([c0, c1] : List Value).drop (1 * Try.prog.cellsOf 3)).take (Try.prog.cellsOf 3)) = some y1 := hg 1 (by omega)
  rw [Try.cells3] at g0 g1
  obtain ⟨a, e0, _, wa⟩ := DataW.trod_int Try.underlying3 g0
  obtain ⟨b, e1, _, wb⟩ := DataW.trod_int Try.underlying3 g1
  have e0' : c0 = .int .i64 a := by simpa using e0
  have e1' : c1 = .int .i64 b := by simpa using e1
  exact ⟨a, b, by rw [e0', e1'], wa, wb⟩
theorem open_pair {r : Reach} {b0 : Nat} {v : Value} {d : DataW H} {p : List MemPlace} (hv : Value.okWide Try.prog w r b0 26 v) (h : DataW.Trod enc Try.prog w base spare held 26 v d p) : ∃ a b : Int, v = .agg #[.int .i64 a, .int .i64 b] := by
  simp only [Value.okWide, Try.underlying26] at hv
  obtain ⟨cs, rfl, hsz, _⟩ := hv
  obtain ⟨fuel, hf⟩ := h
  obtain ⟨a, b, hcs, _, _⟩ := open_pair_at hf
  have : cs.toList = [.int .i64 a, .int .i64 b] := by simpa [Value.cells] using hcs
  exact ⟨a, b, by rw [← Array.toArray_toList (xs := cs), this]⟩
theorem kcells_map (f : Nat → Int × Int) (n j : Nat) (u : Value) (h : (kcells ((List.range n).map f))[j]? = some u) : ∃ i, i < n ∧ ∃ r, r < 2 ∧ j = i * 2 + r ∧ ([Value.int .i64 (f i).1, .int .i64 (f i).2] : List Value)[r]? = some u := by
  induction n with
  | zero => simp [kcells] at h
  | succ n ih =>
    have e : kcells ((List.range (n + 1)).map f) = kcells ((List.range n).map f) ++ [.int .i64 (f n).1, .int .i64 (f n).2] := by simp [kcells, List.range_succ]
    have hl : (kcells ((List.range n).map f)).length = n * 2 := by rw [kcells_length]; simp
    rw [e, List.getElem?_append] at h
    split at h
    · obtain ⟨i, hi, r, hr⟩ := ih h
      exact ⟨i, by omega, r, hr⟩
    · rename_i hge
      rw [hl] at h hge
      have hlt : j - n * 2 < 2 := by
        have := (List.getElem?_eq_some_iff.1 h).1
        simpa using this
      exact ⟨n, by omega, j - n * 2, hlt, by omega, h⟩
theorem open_pairs {r : Reach} {b0 : Nat} {v : Value} {d : DataW H} {p : List MemPlace} (hv : Value.okWide Try.prog w r b0 25 v) (h : DataW.Trod enc Try.prog w base spare held 25 v d p) :
    ∃ (A : Option Addr) (cap : Nat) (ll : List (Int × Int)), v = .slice A ll.length cap ∧ Rd w w.heap.size A (kcells ll) ∧ ll.length ≤ maxLen ∧ ∀ x ∈ ll, okI x.1 ∧ okI x.2 := by
  obtain ⟨a0, len, cap, rfl⟩ := okWide_slice Try.underlying25 hv
  obtain ⟨fuel, hf⟩ := h
  rcases open_slice Try.underlying25 hf with ⟨hcs, _⟩ | ⟨a, len', cap', m, n, D, Pl, hcs, _, hl, hm, hmm, _, hi⟩
  · simp [Value.cells] at hcs
    obtain ⟨rfl, rfl, rfl⟩ := hcs
    exact ⟨none, 0, [], rfl, fun h0 => by simp [kcells] at h0, by simp, fun x hx => by cases hx⟩
  · simp [Value.cells] at hcs
    obtain ⟨rfl, rfl, rfl⟩ := hcs
    have hlm : len ≤ m := by rw [hmm]; split <;> omega
    obtain ⟨f, hfx⟩ := choose_lt (α := Int × Int) (n := len) (p := fun i y => (∀ r u, r < 2 → ([Value.int .i64 y.1, .int .i64 y.2] : List Value)[r]? = some u → w.cell? (a.add (i * 2 + r)) = some u) ∧ okI y.1 ∧ okI y.2) (fun i hilen => by
      obtain ⟨cs', hc, ht⟩ := hi i (by omega)
      rw [Try.cells26] at hc
      obtain ⟨_, hcl, hat⟩ := World.cells?_some hc
      obtain ⟨y0, y1, rfl, k0, k1⟩ := open_pair_at ht
      refine ⟨(y0, y1), fun r u hr hu => ?_, k0, k1⟩
      rw [← add_of_add, hat r hr, hu])
    refine ⟨some a, cap, (List.range len).map f, by simp, rd_of fun j u hu => ?_, by simp; omega, fun x hx => ?_⟩
    · obtain ⟨i, hin, r, hr, rfl, hu'⟩ := kcells_map f len j u hu
      exact (hfx i hin).1 r u hr hu'
    · obtain ⟨i, hin, rfl⟩ := List.mem_map.1 hx
      exact (hfx i (List.mem_range.1 hin)).2
end
end Go.Proofs.Ytceljebpcfojeaa

/- A slice of steps that came in, opened to its cells. -/
import Derived.Test.YtimdnooakpbkpaaBufE
import Derived.ProofKit
import Derived.Deep.Slices
namespace Go.Proofs.Ytimdnooakpbkpaa
open Go.ChangeShapes Go.WideShapes Go.ChangeAt Go.RowKit Go.Deep
set_option linter.unusedVariables false

theorem list3 {α : Type} {l : List α} (h : l.length = 3) : ∃ a b c, l = [a, b, c] := by
  match l, h with
  | [a, b, c], _ => exact ⟨a, b, c, rfl⟩
theorem list4 {α : Type} {l : List α} (h : l.length = 4) : ∃ a b c d, l = [a, b, c, d] := by
  match l, h with
  | [a, b, c, d], _ => exact ⟨a, b, c, d, rfl⟩
theorem list2 {α : Type} {l : List α} (h : l.length = 2) : ∃ a b, l = [a, b] := by
  match l, h with
  | [a, b], _ => exact ⟨a, b, rfl⟩
theorem Try.cells3 : Try.prog.cellsOf 3 = 1 := by kernel_rfl
theorem Try.cells9 : Try.prog.cellsOf 9 = 1 := by kernel_rfl
theorem Try.cells30 : Try.prog.cellsOf 30 = 3 := by kernel_rfl
theorem Try.cells32 : Try.prog.cellsOf 32 = 4 := by kernel_rfl

section
variable {H : Type} {enc : TypeId × Value → H} {w : World} {base : Nat} {spare : Nat → Bool} {held : Bool}
theorem open_write {fuel : Nat} {cs : List Value} {x : DataW H × List MemPlace} (h : DataW.trod enc Try.prog w base spare held fuel 30 cs = some x) : ∃ (a b : Int) (s : ByteArray), cs = [.int .i64 a, .int .i64 b, .string s] := by
  obtain ⟨xs, n, _, _, hlen, hxl, hg⟩ := DataW.trod_struct Try.underlying30 h
  rw [Try.cells30] at hlen
  obtain ⟨c0, c1, c2, rfl⟩ := list3 hlen
  obtain ⟨y0, y1, y2, rfl⟩ := list3 hxl
  have g0 : DataW.trod enc Try.prog w base spare held n 3 ((([c0, c1, c2] : List Value).drop 0).take (Try.prog.cellsOf 3)) = some y0 := hg 0 _ rfl
  have g1 : DataW.trod enc Try.prog w base spare held n 3 ((([c0, c1, c2] : List Value).drop 1).take (Try.prog.cellsOf 3)) = some y1 := hg 1 _ rfl
  have g2 : DataW.trod enc Try.prog w base spare held n 9 ((([c0, c1, c2] : List Value).drop 2).take (Try.prog.cellsOf 9)) = some y2 := hg 2 _ rfl
  rw [Try.cells3] at g0 g1
  rw [Try.cells9] at g2
  obtain ⟨a, e0, _, _⟩ := DataW.trod_int Try.underlying3 g0
  obtain ⟨b, e1, _, _⟩ := DataW.trod_int Try.underlying3 g1
  obtain ⟨s, e2, _, _⟩ := DataW.trod_string Try.underlying9 g2
  have e0' : c0 = .int .i64 a := by simpa using e0
  have e1' : c1 = .int .i64 b := by simpa using e1
  have e2' : c2 = .string s := by simpa using e2
  exact ⟨a, b, s, by rw [e0', e1', e2']⟩
theorem open_step {fuel : Nat} {cs : List Value} {x : DataW H × List MemPlace} (h : DataW.trod enc Try.prog w base spare held fuel 32 cs = some x) : ∃ s : St, cs = stCells [s] := by
  obtain ⟨xs, n, _, _, hlen, hxl, hg⟩ := DataW.trod_struct Try.underlying32 h
  rw [Try.cells32] at hlen
  obtain ⟨c0, c1, c2, c3, rfl⟩ := list4 hlen
  obtain ⟨y0, y1, rfl⟩ := list2 hxl
  have g0 : DataW.trod enc Try.prog w base spare held n 3 ((([c0, c1, c2, c3] : List Value).drop 0).take (Try.prog.cellsOf 3)) = some y0 := hg 0 _ rfl
  have g1 : DataW.trod enc Try.prog w base spare held n 30 ((([c0, c1, c2, c3] : List Value).drop 1).take (Try.prog.cellsOf 30)) = some y1 := hg 1 _ rfl
  rw [Try.cells3] at g0
  rw [Try.cells30] at g1
  obtain ⟨k, e0, _, _⟩ := DataW.trod_int Try.underlying3 g0
  obtain ⟨a, b, s, e1⟩ := open_write g1
  have e0' : c0 = .int .i64 k := by simpa using e0
  have e1' : c1 = .int .i64 a ∧ c2 = .int .i64 b ∧ c3 = .string s := by simpa using e1
  exact ⟨⟨k, ⟨a, b, s⟩⟩, by rw [e0', e1'.1, e1'.2.1, e1'.2.2]; rfl⟩

theorem stCells_map (f : Nat → St) (n j : Nat) (u : Value) (h : (stCells ((List.range n).map f))[j]? = some u) : ∃ i, i < n ∧ ∃ r, r < 4 ∧ j = i * 4 + r ∧ (stCells [f i])[r]? = some u := by
  induction n with
  | zero => simp [stCells] at h
  | succ n ih =>
    have e : stCells ((List.range (n + 1)).map f) = stCells ((List.range n).map f) ++ stCells [f n] := by simp [stCells, List.range_succ]
    have hl : (stCells ((List.range n).map f)).length = n * 4 := by
      unfold stCells
      rw [List.length_flatMap]
      have : ((List.range n).map f).map (fun a => (Value.int IntKind.i64 a.k :: a.x.cells).length) = List.replicate n 4 := by
        apply List.ext_getElem
        · simp
        · intro i h1 h2
          simp [Wr.cells]
      rw [this]
      simp
    rw [e, List.getElem?_append] at h
    split at h
    · obtain ⟨i, hi, r, hr⟩ := ih h
      exact ⟨i, by omega, r, hr⟩
    · rename_i hge
      rw [hl] at h hge
      have hlt : j - n * 4 < 4 := by
        have := (List.getElem?_eq_some_iff.1 h).1
        simpa [stCells, Wr.cells] using this
      exact ⟨n, by omega, j - n * 4, hlt, by omega, h⟩

theorem open_steps {r : Reach} {b0 : Nat} {v : Value} {d : DataW H} {p : List MemPlace} (hv : Value.okWide Try.prog w r b0 22 v) (h : DataW.Trod enc Try.prog w base spare held 22 v d p) :
    ∃ (A : Option Addr) (cap : Nat) (ss : List St), v = .slice A ss.length cap ∧ Arg w w.heap.size A ss.length (stCells ss) ∧ ss.length ≤ maxLen := by
  obtain ⟨a0, len, cap, rfl⟩ := okWide_slice Try.underlying22 hv
  obtain ⟨fuel, hf⟩ := h
  rcases open_slice Try.underlying22 hf with ⟨hcs, _⟩ | ⟨a, len', cap', m, n, D, Pl, hcs, _, hl, hm, hmm, _, hi⟩
  · simp [Value.cells] at hcs
    obtain ⟨rfl, rfl, rfl⟩ := hcs
    exact ⟨none, 0, [], rfl, fun h0 => by simp at h0, by simp⟩
  · simp [Value.cells] at hcs
    obtain ⟨rfl, rfl, rfl⟩ := hcs
    have hlm : len ≤ m := by rw [hmm]; split <;> omega
    haveI : Inhabited St := ⟨⟨0, ⟨0, 0, ⟨#[]⟩⟩⟩⟩
    obtain ⟨f, hfx⟩ := choose_lt (α := St) (n := len) (p := fun i s => ∀ r u, r < 4 → (stCells [s])[r]? = some u → w.cell? (a.add (i * 4 + r)) = some u) (fun i hilen => by
      obtain ⟨cs', hc, ht⟩ := hi i (by omega)
      rw [Try.cells32] at hc
      obtain ⟨_, hcl, hat⟩ := World.cells?_some hc
      obtain ⟨s, rfl⟩ := open_step ht
      refine ⟨s, fun r u hr hu => ?_⟩
      rw [← add_of_add, hat r hr, hu])
    refine ⟨some a, cap, (List.range len).map f, by simp, fun h0 => ?_, by simp; omega⟩
    have h0' : 0 < len := by simpa using h0
    have hc0 := hfx 0 h0' 0 _ (by omega) rfl
    obtain ⟨b, off, spot⟩ := a
    have hspot : spot = none := by simpa [Addr.add] using World.cell?_spot hc0
    subst hspot
    refine ⟨b, off, rfl, ?_, fun j u hu => ?_⟩
    · have := World.block_lt_of_cell? w _ hc0
      rwa [block_of_add] at this
    · obtain ⟨i, hin, r, hr, rfl, hu'⟩ := stCells_map f len j u hu
      have := hfx i hin r u hr hu'
      rwa [Addr.add_lit] at this
end
end Go.Proofs.Ytimdnooakpbkpaa

/- A projection that came in, opened to its cells. -/
import Derived.Test.YtceljebpcfojeaaPr
import Derived.ProofKit
import Derived.ChangeSlices
import Derived.Deep.Slices
import Derived.Lib.SmallJoins
namespace Go.Proofs.Ytceljebpcfojeaa
open Go.ChangeShapes Go.WideShapes Go.ChangeAt Go.RowKit Go.Deep Go.Joins
set_option linter.unusedVariables false

theorem Try.cells22 : Try.prog.cellsOf 22 = 1 := by kernel_rfl
theorem Try.cells24 : Try.prog.cellsOf 24 = 2 := by kernel_rfl
theorem Try.cells52 : Try.prog.cellsOf 52 = 1 := by kernel_rfl
section
variable {H : Type} {enc : TypeId × Value → H} {w : World} {base : Nat} {spare : Nat → Bool} {held : Bool}
/-- a slice of cells that lie in memory lies below its end -/
theorem rd_of {a : Addr} {xs : List Value} (h : ∀ j u, xs[j]? = some u → w.cell? (a.add j) = some u) : Rd w w.heap.size (some a) xs := fun h0 => by
  have hc0 := h 0 _ (List.getElem?_eq_getElem h0)
  obtain ⟨b, off, spot⟩ := a
  have hspot : spot = none := by simpa [Addr.add] using World.cell?_spot hc0
  subst hspot
  refine ⟨b, off, rfl, ?_, fun j u hu => ?_⟩
  · have := World.block_lt_of_cell? w _ hc0
    rwa [block_of_add] at this
  · have := h j u hu
    rwa [Addr.add_lit] at this
theorem open_chain {fuel : Nat} {cs : List Value} {x : DataW H × List MemPlace} (h : DataW.trod enc Try.prog w base spare held fuel 52 cs = some x) :
    ∃ (A : Option Addr) (cap : Nat) (c : List Int), cs = [.slice A c.length cap] ∧ c.length ≤ cap ∧ cap ≤ maxLen ∧ Rd w w.heap.size A (ints c) ∧ ∀ u ∈ c, okI u := by
  rcases open_ints Try.underlying52 Try.underlying3 Try.cells3 h with ⟨hcs, _⟩ | ⟨a, len, cap, zs, hcs, hb, hl, hm, hz, _, hcell, hw⟩
  · exact ⟨none, 0, [], hcs, Nat.le_refl _, by simp [maxLen], fun h0 => by simp [ints] at h0, fun u hu => by cases hu⟩
  · have hlz : len ≤ zs.length := by rw [hz]; split <;> omega
    have hlt : (zs.take len).length = len := by rw [List.length_take]; omega
    refine ⟨some a, cap, zs.take len, by rw [hcs, hlt], by rw [hlt]; exact hl, hm, rd_of fun j u hu => ?_, fun u hu => hw u (List.mem_of_mem_take hu)⟩
    unfold ints at hu
    rw [List.getElem?_map, List.getElem?_take] at hu
    split at hu
    · have hj : j < zs.length := by omega
      rw [List.getElem?_eq_getElem hj] at hu
      simp only [Option.map_some, Option.some.injEq] at hu
      rw [hcell j hj, ← hu]
      simp [List.getD, List.getElem?_eq_getElem hj]
    · cases hu
theorem open_chains {fuel : Nat} {v : Value} {x : DataW H × List MemPlace} (h : DataW.trod enc Try.prog w base spare held fuel 22 [v] = some x) : ∃ cs : List (List Int), PrAt w w.heap.size v cs := by
  rcases open_slice Try.underlying22 h with ⟨hcs, _⟩ | ⟨a, len, cap, m, n, D, Pl, hcs, _, hl, hm, hmm, _, hi⟩
  · obtain rfl : v = .slice none 0 0 := by simpa using hcs
    exact ⟨[], none, 0, [], rfl, Nat.le_refl _, by simp [maxLen], rfl, fun h0 => by simp at h0, fun j c hj => by simp at hj⟩
  · obtain rfl : v = .slice (some a) len cap := by simpa using hcs
    have hlm : len ≤ m := by rw [hmm]; split <;> omega
    obtain ⟨f, hf⟩ := choose_lt (α := Value × List Int) (n := len) (p := fun i y => w.cell? (a.add i) = some y.1 ∧ ∃ (A : Option Addr) (cap : Nat), y.1 = .slice A y.2.length cap ∧ y.2.length ≤ cap ∧ cap ≤ maxLen ∧ Rd w w.heap.size A (ints y.2) ∧ ∀ u ∈ y.2, okI u) (fun i hilen => by
      obtain ⟨cs', hc, ht⟩ := hi i (by omega)
      rw [Try.cells52] at hc
      obtain ⟨_, hcl, hat⟩ := World.cells?_some hc
      obtain ⟨A, cp, c, rfl, k1, k2, k3, k4⟩ := open_chain ht
      refine ⟨(.slice A c.length cp, c), ?_, A, cp, rfl, k1, k2, k3, k4⟩
      have := hat 0 (by omega)
      rw [add_of_add] at this
      simpa using this)
    refine ⟨(List.range len).map fun i => (f i).2, some a, cap, (List.range len).map fun i => (f i).1, by simp, by simpa using hl, hm, by simp, rd_of fun j u hu => ?_, fun j c hj => ?_⟩
    · rw [List.getElem?_map] at hu
      by_cases hjl : j < len
      · rw [List.getElem?_range hjl] at hu
        simp only [Option.map_some, Option.some.injEq] at hu
        rw [← hu]
        exact (hf j hjl).1
      · rw [List.getElem?_eq_none (by simpa using hjl)] at hu
        cases hu
    · rw [List.getElem?_map] at hj
      by_cases hjl : j < len
      · rw [List.getElem?_range hjl] at hj
        simp only [Option.map_some, Option.some.injEq] at hj
        subst hj
        obtain ⟨_, A, cp, k0, k1, k2, k3, k4⟩ := hf j hjl
        exact ⟨A, cp, by rw [List.getElem?_map, List.getElem?_range hjl]; simp [k0], k1, k2, k3, k4⟩
      · rw [List.getElem?_eq_none (by simpa using hjl)] at hj
        cases hj
theorem open_proj {r : Reach} {b0 : Nat} {v : Value} {d : DataW H} {p : List MemPlace} (hv : Value.okWide Try.prog w r b0 24 v) (h : DataW.Trod enc Try.prog w base spare held 24 v d p) :
    ∃ (ep : Int) (s : Value) (cs : List (List Int)), v = .agg #[.int .i64 ep, s] ∧ PrAt w w.heap.size s cs := by
  obtain ⟨c0, c1, y0, y1, m, rfl, rfl, hp, hy0, hy1⟩ := open_agg2 Try.underlying24 (by kernel_rfl) (by kernel_rfl) hv h
  obtain ⟨a, e0, _, wa⟩ := DataW.trod_int Try.underlying3 hy0
  simp only [List.cons.injEq, and_true] at e0
  subst e0
  obtain ⟨cs, hcs⟩ := open_chains hy1
  exact ⟨a, c1, cs, rfl, hcs⟩
end
end Go.Proofs.Ytceljebpcfojeaa

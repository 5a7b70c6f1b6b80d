/- The units' arguments, opened: numbers, questions, steps of questions. -/
import Derived.Test.YtjpegkginmoekaaUnE
import Derived.Test.YtjpegkginmoekaaArgs
import Derived.ChangeSlices
import Derived.OpenShut
import Derived.Deep.Matrix
namespace Go.Proofs.Ytjpegkginmoekaa
open Go.ChangeShapes Go.WideShapes Go.ChangeAt Go.RowKit Go.Deep
set_option linter.unusedVariables false
theorem Try.cells5 : Try.prog.cellsOf 5 = 1 := by kernel_rfl

section
variable {H : Type} {enc : TypeId × Value → H} {w : World} {base : Nat} {held : Bool}
theorem open_u8s {r : Reach} {b0 : Nat} {v : Value} {d : DataW H} {p : List MemPlace} (hv : Value.okWide Try.prog w r b0 72 v) (h : DataW.Trod enc Try.prog w base (fun _ => true) held 72 v d p) :
    ∃ (A : Option Addr) (cap : Nat) (zs : List Int), v = .slice A zs.length cap ∧ Arg w w.heap.size A zs.length (zs.map (.int .u8)) ∧ zs.length ≤ maxLen ∧ ∀ i, i < zs.length → 0 ≤ zs.getD i 0 ∧ zs.getD i 0 ≤ 255 := by
  obtain ⟨a0, len, cap, rfl⟩ := okWide_slice Try.underlying72 hv
  obtain ⟨fuel, hf⟩ := h
  rcases open_ints Try.underlying72 Try.underlying5 Try.cells5 hf with ⟨hcs, _⟩ | ⟨a, len', cap', zs, hcs, hb, hl, hm, hz, _, hcell, hw⟩
  · simp [Value.cells] at hcs
    obtain ⟨rfl, rfl, rfl⟩ := hcs
    exact ⟨none, 0, [], rfl, fun h0 => by simp at h0, by simp, fun i h => by simp at h⟩
  · simp [Value.cells] at hcs
    obtain ⟨rfl, rfl, rfl⟩ := hcs
    simp only [if_true] at hz
    refine ⟨some a, cap, zs.take len, by rw [List.length_take]; congr 1; omega, fun h0 => ?_, by rw [List.length_take]; omega, fun i hi => ?_⟩
    · rw [List.length_take] at h0
      have hc0 := hcell 0 (by omega)
      obtain ⟨b, off, spot⟩ := a
      have hspot : spot = none := by simpa [Addr.add] using World.cell?_spot hc0
      subst hspot
      refine ⟨b, off, rfl, ?_, fun j u hu => ?_⟩
      · have := World.block_lt_of_cell? w _ hc0
        rwa [block_of_add] at this
      · rw [List.getElem?_map, List.getElem?_take] at hu
        split at hu
        · have hj : j < zs.length := by omega
          rw [List.getElem?_eq_getElem hj] at hu
          simp only [Option.map_some, Option.some.injEq] at hu
          have := hcell j hj
          rw [Addr.add_lit] at this
          rw [this, ← hu]
          simp [List.getD, List.getElem?_eq_getElem hj]
        · cases hu
    · rw [List.length_take] at hi
      have hj : i < zs.length := by omega
      have := hw zs[i] (List.getElem_mem hj)
      have hb := bounds_u8 this
      simpa [List.getD, List.getElem?_take, List.getElem?_eq_getElem hj, show i < len by omega] using hb
end
end Go.Proofs.Ytjpegkginmoekaa

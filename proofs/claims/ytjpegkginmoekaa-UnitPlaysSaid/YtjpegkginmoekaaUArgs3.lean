/- The units' arguments, opened: steps of questions. -/
import Derived.Test.YtjpegkginmoekaaUnG
import Derived.Test.YtjpegkginmoekaaUArgs2
namespace Go.Proofs.Ytjpegkginmoekaa
open Go.ChangeShapes Go.WideShapes Go.ChangeAt Go.RowKit Go.Deep
set_option linter.unusedVariables false
theorem Try.cells38 : Try.prog.cellsOf 38 = 10 := by kernel_rfl
theorem list10 {α : Type} {l : List α} (h : l.length = 10) : ∃ a b c d e f g i j k, l = [a, b, c, d, e, f, g, i, j, k] := by
  match l, h with
  | [a, b, c, d, e, f, g, i, j, k], _ => exact ⟨a, b, c, d, e, f, g, i, j, k, rfl⟩

section
variable {H : Type} {enc : TypeId × Value → H} {w : World} {base : Nat} {held : Bool}
theorem open_sk {fuel : Nat} {cs : List Value} {x : DataW H × List MemPlace} (h : DataW.trod enc Try.prog w base (fun _ => true) held fuel 38 cs = some x) :
    ∃ s : Sk, cs = s.cells ∧ Rows_ w w.heap.size s.a.ca s.a.cn ∧ s.a.cn ≤ maxLen := by
  obtain ⟨xs, n, _, _, hlen, hxl, hg⟩ := DataW.trod_struct Try.underlying38 h
  rw [Try.cells38] at hlen
  obtain ⟨c0, c1, c2, c3, c4, c5, c6, c7, c8, c9, rfl⟩ := list10 hlen
  obtain ⟨y0, y1, rfl⟩ := list2_ hxl
  have g0 : DataW.trod enc Try.prog w base (fun _ => true) held n 3 ((([c0, c1, c2, c3, c4, c5, c6, c7, c8, c9] : List Value).drop 0).take (Try.prog.cellsOf 3)) = some y0 := hg 0 _ rfl
  have g1 : DataW.trod enc Try.prog w base (fun _ => true) held n 36 ((([c0, c1, c2, c3, c4, c5, c6, c7, c8, c9] : List Value).drop 1).take (Try.prog.cellsOf 36)) = some y1 := hg 1 _ rfl
  rw [Try.cells3] at g0
  rw [Try.cells36] at g1
  obtain ⟨k, e0, _, _⟩ := DataW.trod_int Try.underlying3 g0
  obtain ⟨a, e1, hr, hk⟩ := open_ask_ g1
  have e0' : c0 = .int .i64 k := by simpa using e0
  have e1' : [c1, c2, c3, c4, c5, c6, c7, c8, c9] = a.cells.toList := by simpa using e1
  exact ⟨⟨k, a⟩, by rw [e0', e1']; rfl, hr, hk⟩
theorem Sk.cells_len (s : Sk) : s.cells.length = 10 := rfl

theorem open_sks {r : Reach} {b0 : Nat} {v : Value} {d : DataW H} {p : List MemPlace} (hv : Value.okWide Try.prog w r b0 22 v) (h : DataW.Trod enc Try.prog w base (fun _ => true) held 22 v d p) :
    ∃ (A : Option Addr) (n cap : Nat) (f : Nat → Sk), v = .slice A n cap ∧ SArg w w.heap.size A n f ∧ n ≤ maxLen := by
  obtain ⟨a0, len, cap, rfl⟩ := okWide_slice Try.underlying22 hv
  obtain ⟨fuel, hf⟩ := h
  rcases open_slice Try.underlying22 hf with ⟨hcs, _⟩ | ⟨a, len', cap', m, n, D, Pl, hcs, _, hl, hm, hmm, _, hi⟩
  · simp [Value.cells] at hcs
    obtain ⟨rfl, rfl, rfl⟩ := hcs
    exact ⟨none, 0, 0, fun _ => ⟨0, ⟨0, 0, 0, 0, 0, 0, ⟨#[]⟩, 0, none, 0, 0⟩⟩, rfl, fun h0 => by omega, by simp⟩
  · simp [Value.cells] at hcs
    obtain ⟨rfl, rfl, rfl⟩ := hcs
    have hlm : len ≤ m := by rw [hmm]; split <;> omega
    haveI : Inhabited Sk := ⟨⟨0, ⟨0, 0, 0, 0, 0, 0, ⟨#[]⟩, 0, none, 0, 0⟩⟩⟩
    obtain ⟨f, hfx⟩ := choose_lt (α := Sk) (n := len) (p := fun i s => (∀ r u, s.cells[r]? = some u → w.cell? (a.add (i * 10 + r)) = some u) ∧ Rows_ w w.heap.size s.a.ca s.a.cn ∧ s.a.cn ≤ maxLen) (fun i hilen => by
      obtain ⟨cs', hc, ht⟩ := hi i (by omega)
      rw [Try.cells38] at hc
      obtain ⟨_, hcl, hat⟩ := World.cells?_some hc
      obtain ⟨s, rfl, hr, hk⟩ := open_sk ht
      refine ⟨s, fun r u hu => ?_, hr, hk⟩
      have hr10 : r < 10 := by have := (List.getElem?_eq_some_iff.1 hu).1; rwa [Sk.cells_len] at this
      rw [← add_of_add, hat r hr10, hu])
    refine ⟨some a, len, cap, f, rfl, fun h0 => ?_, by omega⟩
    have hc0 := (hfx 0 h0).1 0 _ rfl
    obtain ⟨b, off, spot⟩ := a
    have hspot : spot = none := by simpa [Addr.add] using World.cell?_spot hc0
    subst hspot
    refine ⟨b, off, rfl, ?_, fun j hj => ?_⟩
    · have := World.block_lt_of_cell? w _ hc0
      rwa [block_of_add] at this
    · obtain ⟨h1, h2, h3⟩ := hfx j hj
      refine ⟨fun r u hu => ?_, h2, by unfold maxLen at h3; omega⟩
      have := h1 r u hu
      rwa [Addr.add_lit, ← Nat.add_assoc] at this
end
end Go.Proofs.Ytjpegkginmoekaa

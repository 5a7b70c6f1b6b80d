/- The units' arguments, opened: questions, steps of questions. -/
import Derived.Test.YtjpegkginmoekaaUnF
import Derived.Test.YtjpegkginmoekaaUArgs
namespace Go.Proofs.Ytjpegkginmoekaa
open Go.ChangeShapes Go.WideShapes Go.ChangeAt Go.RowKit Go.Deep
set_option linter.unusedVariables false
theorem Try.cells96 : Try.prog.cellsOf 96 = 1 := by kernel_rfl
theorem Try.cells32 : Try.prog.cellsOf 32 = 1 := by kernel_rfl
theorem Try.cells34 : Try.prog.cellsOf 34 = 2 := by kernel_rfl
theorem Try.cells36 : Try.prog.cellsOf 36 = 9 := by kernel_rfl
theorem list2_ {α : Type} {l : List α} (h : l.length = 2) : ∃ a b, l = [a, b] := by
  match l, h with
  | [a, b], _ => exact ⟨a, b, rfl⟩
theorem list8 {α : Type} {l : List α} (h : l.length = 8) : ∃ a b c d e f g i, l = [a, b, c, d, e, f, g, i] := by
  match l, h with
  | [a, b, c, d, e, f, g, i], _ => exact ⟨a, b, c, d, e, f, g, i, rfl⟩
theorem list9 {α : Type} {l : List α} (h : l.length = 9) : ∃ a b c d e f g i j, l = [a, b, c, d, e, f, g, i, j] := by
  match l, h with
  | [a, b, c, d, e, f, g, i, j], _ => exact ⟨a, b, c, d, e, f, g, i, j, rfl⟩

section
variable {H : Type} {enc : TypeId × Value → H} {w : World} {base : Nat} {held : Bool}
theorem open_rows_ {fuel : Nat} {cs : List Value} {x : DataW H × List MemPlace} (h : DataW.trod enc Try.prog w base (fun _ => true) held fuel 32 cs = some x) :
    ∃ (A : Option Addr) (n cap : Nat), cs = [.slice A n cap] ∧ Rows_ w w.heap.size A n ∧ n ≤ maxLen := by
  rcases open_slice1 Try.underlying32 Try.cells96 h with ⟨rfl, _⟩ | ⟨a, len, cap, m, n, V, D, Pl, rfl, hb, hl, hm, hmm, _, hx⟩
  · exact ⟨none, 0, 0, rfl, fun h0 => by omega, by simp⟩
  · simp only [if_true] at hmm
    rw [hmm] at hx
    refine ⟨some a, len, cap, rfl, fun h0 => ?_, by omega⟩
    have hc0 := (hx 0 (by omega)).1
    obtain ⟨b, off, spot⟩ := a
    have hspot : spot = none := by simpa [Addr.add] using World.cell?_spot hc0
    subst hspot
    refine ⟨b, off, rfl, ?_, fun j hj => ?_⟩
    · have := World.block_lt_of_cell? w _ hc0
      rwa [block_of_add] at this
    · obtain ⟨h1, h2⟩ := hx j (by omega)
      rw [Addr.add_lit] at h1
      rcases open_slice1 Try.underlying96 Try.cells3 h2 with ⟨e, _⟩ | ⟨a', len', cap', _, _, _, _, _, e, _, hl', hm', _⟩
      · simp only [List.cons.injEq, and_true] at e
        rw [e] at h1
        exact ⟨none, 0, 0, h1, by omega⟩
      · simp only [List.cons.injEq, and_true] at e
        rw [e] at h1
        exact ⟨_, _, _, h1, by unfold maxLen at hm'; omega⟩
theorem open_proj_ {fuel : Nat} {cs : List Value} {x : DataW H × List MemPlace} (h : DataW.trod enc Try.prog w base (fun _ => true) held fuel 34 cs = some x) :
    ∃ (ep : Int) (A : Option Addr) (n cap : Nat), cs = [.int .i64 ep, .slice A n cap] ∧ Rows_ w w.heap.size A n ∧ n ≤ maxLen := by
  obtain ⟨xs, n, _, _, hlen, hxl, hg⟩ := DataW.trod_struct Try.underlying34 h
  rw [Try.cells34] at hlen
  obtain ⟨c0, c1, rfl⟩ := list2_ hlen
  obtain ⟨y0, y1, rfl⟩ := list2_ hxl
  have g0 : DataW.trod enc Try.prog w base (fun _ => true) held n 3 ((([c0, c1] : List Value).drop 0).take (Try.prog.cellsOf 3)) = some y0 := hg 0 _ rfl
  have g1 : DataW.trod enc Try.prog w base (fun _ => true) held n 32 ((([c0, c1] : List Value).drop 1).take (Try.prog.cellsOf 32)) = some y1 := hg 1 _ rfl
  rw [Try.cells3] at g0
  rw [Try.cells32] at g1
  obtain ⟨a, e0, _, _⟩ := DataW.trod_int Try.underlying3 g0
  obtain ⟨A, k, cap, e1, hr, hk⟩ := open_rows_ g1
  have e0' : c0 = .int .i64 a := by simpa using e0
  have e1' : c1 = .slice A k cap := by simpa using e1
  exact ⟨a, A, k, cap, by rw [e0', e1'], hr, hk⟩
theorem open_ask_ {fuel : Nat} {cs : List Value} {x : DataW H × List MemPlace} (h : DataW.trod enc Try.prog w base (fun _ => true) held fuel 36 cs = some x) :
    ∃ a : Ak, cs = a.cells.toList ∧ Rows_ w w.heap.size a.ca a.cn ∧ a.cn ≤ maxLen := by
  obtain ⟨xs, n, _, _, hlen, hxl, hg⟩ := DataW.trod_struct Try.underlying36 h
  rw [Try.cells36] at hlen
  obtain ⟨c0, c1, c2, c3, c4, c5, c6, c7, c8, rfl⟩ := list9 hlen
  obtain ⟨y0, y1, y2, y3, y4, y5, y6, y7, rfl⟩ := list8 hxl
  have g0 : DataW.trod enc Try.prog w base (fun _ => true) held n 3 ((([c0, c1, c2, c3, c4, c5, c6, c7, c8] : List Value).drop 0).take (Try.prog.cellsOf 3)) = some y0 := hg 0 _ rfl
  have g1 : DataW.trod enc Try.prog w base (fun _ => true) held n 3 ((([c0, c1, c2, c3, c4, c5, c6, c7, c8] : List Value).drop 1).take (Try.prog.cellsOf 3)) = some y1 := hg 1 _ rfl
  have g2 : DataW.trod enc Try.prog w base (fun _ => true) held n 3 ((([c0, c1, c2, c3, c4, c5, c6, c7, c8] : List Value).drop 2).take (Try.prog.cellsOf 3)) = some y2 := hg 2 _ rfl
  have g3 : DataW.trod enc Try.prog w base (fun _ => true) held n 3 ((([c0, c1, c2, c3, c4, c5, c6, c7, c8] : List Value).drop 3).take (Try.prog.cellsOf 3)) = some y3 := hg 3 _ rfl
  have g4 : DataW.trod enc Try.prog w base (fun _ => true) held n 3 ((([c0, c1, c2, c3, c4, c5, c6, c7, c8] : List Value).drop 4).take (Try.prog.cellsOf 3)) = some y4 := hg 4 _ rfl
  have g5 : DataW.trod enc Try.prog w base (fun _ => true) held n 3 ((([c0, c1, c2, c3, c4, c5, c6, c7, c8] : List Value).drop 5).take (Try.prog.cellsOf 3)) = some y5 := hg 5 _ rfl
  have g6 : DataW.trod enc Try.prog w base (fun _ => true) held n 9 ((([c0, c1, c2, c3, c4, c5, c6, c7, c8] : List Value).drop 6).take (Try.prog.cellsOf 9)) = some y6 := hg 6 _ rfl
  have g7 : DataW.trod enc Try.prog w base (fun _ => true) held n 34 ((([c0, c1, c2, c3, c4, c5, c6, c7, c8] : List Value).drop 7).take (Try.prog.cellsOf 34)) = some y7 := hg 7 _ rfl
  rw [Try.cells3] at g0 g1 g2 g3 g4 g5
  rw [Try.cells9] at g6
  rw [Try.cells34] at g7
  obtain ⟨z0, e0, _, _⟩ := DataW.trod_int Try.underlying3 g0
  obtain ⟨z1, e1, _, _⟩ := DataW.trod_int Try.underlying3 g1
  obtain ⟨z2, e2, _, _⟩ := DataW.trod_int Try.underlying3 g2
  obtain ⟨z3, e3, _, _⟩ := DataW.trod_int Try.underlying3 g3
  obtain ⟨z4, e4, _, _⟩ := DataW.trod_int Try.underlying3 g4
  obtain ⟨z5, e5, _, _⟩ := DataW.trod_int Try.underlying3 g5
  obtain ⟨s, e6, _, _⟩ := DataW.trod_string Try.underlying9 g6
  obtain ⟨pe, A, k, cap, e7, hr, hk⟩ := open_proj_ g7
  have e0' : c0 = .int .i64 z0 := by simpa using e0
  have e1' : c1 = .int .i64 z1 := by simpa using e1
  have e2' : c2 = .int .i64 z2 := by simpa using e2
  have e3' : c3 = .int .i64 z3 := by simpa using e3
  have e4' : c4 = .int .i64 z4 := by simpa using e4
  have e5' : c5 = .int .i64 z5 := by simpa using e5
  have e6' : c6 = .string s := by simpa using e6
  have e7' : c7 = .int .i64 pe ∧ c8 = .slice A k cap := by simpa using e7
  exact ⟨⟨z0, z1, z2, z3, z4, z5, s, pe, A, k, cap⟩, by rw [e0', e1', e2', e3', e4', e5', e6', e7'.1, e7'.2]; rfl, hr, hk⟩
theorem open_ask {r : Reach} {b0 : Nat} {v : Value} {d : DataW H} {p : List MemPlace} (hv : Value.okWide Try.prog w r b0 36 v) (h : DataW.Trod enc Try.prog w base (fun _ => true) held 36 v d p) :
    ∃ a : Ak, v = .agg a.cells ∧ Rows_ w w.heap.size a.ca a.cn ∧ a.cn ≤ maxLen := by
  obtain ⟨cs, rfl, _⟩ := okWide_struct Try.underlying36 hv
  obtain ⟨fuel, hf⟩ := h
  obtain ⟨a, e, hr, hk⟩ := open_ask_ hf
  refine ⟨a, ?_, hr, hk⟩
  have e' : cs.toList = a.cells.toList := by simpa [Value.cells] using e
  rw [Array.toList_inj.1 e']
end
end Go.Proofs.Ytjpegkginmoekaa

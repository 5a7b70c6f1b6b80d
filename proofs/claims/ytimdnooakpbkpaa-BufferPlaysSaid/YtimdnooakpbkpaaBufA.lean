/- The buffer's inner functions: New, Mod, the closure, slices.IndexFunc, first. -/
import Derived.Test.YtimdnooakpbkpaaMem
import Derived.Test.YtimdnooakpbkpaaRows
namespace Go.Proofs.Ytimdnooakpbkpaa
open Go.RowKit

/-- a write that waits -/
structure Wr where
  h : Int
  o : Int
  s : ByteArray

def Wr.cells (x : Wr) : List Value := [.int .i64 x.h, .int .i64 x.o, .string x.s]
def cellsOf (l : List Wr) : List Value := l.flatMap Wr.cells
theorem cellsOf_nil : cellsOf [] = [] := rfl
theorem cellsOf_cons (x : Wr) (l : List Wr) : cellsOf (x :: l) = x.cells ++ cellsOf l := rfl
theorem cellsOf_append (a b : List Wr) : cellsOf (a ++ b) = cellsOf a ++ cellsOf b := by simp [cellsOf]
theorem cellsOf_length (l : List Wr) : (cellsOf l).length = l.length * 3 := by
  induction l with
  | nil => rfl
  | cons x l ih => rw [cellsOf_cons, List.length_append, ih, List.length_cons]; simp [Wr.cells]; omega
theorem cellsOf_take (l : List Wr) (k : Nat) : (cellsOf l).take (k * 3) = cellsOf (l.take k) := by
  induction l generalizing k with
  | nil => simp [cellsOf]
  | cons x l ih =>
    cases k with
    | zero => simp [cellsOf]
    | succ k =>
      rw [cellsOf_cons, List.take_succ_cons, cellsOf_cons, show (k + 1) * 3 = k * 3 + 3 from by omega]
      show List.take (k * 3 + 3) (Value.int .i64 x.h :: .int .i64 x.o :: .string x.s :: cellsOf l) = _
      simp [ih, Wr.cells]
theorem cellsOf_drop (l : List Wr) (k : Nat) : (cellsOf l).drop (k * 3) = cellsOf (l.drop k) := by
  induction l generalizing k with
  | nil => simp [cellsOf]
  | cons x l ih =>
    cases k with
    | zero => simp [cellsOf]
    | succ k =>
      rw [cellsOf_cons, List.drop_succ_cons, show (k + 1) * 3 = k * 3 + 3 from by omega]
      show List.drop (k * 3 + 3) (Value.int .i64 x.h :: .int .i64 x.o :: .string x.s :: cellsOf l) = _
      simp [ih]
theorem cellsOf_get (l : List Wr) (k : Nat) (x : Wr) (h : l[k]? = some x) : (cellsOf l)[k * 3]? = some (.int .i64 x.h) ∧ (cellsOf l)[k * 3 + 1]? = some (.int .i64 x.o) ∧ (cellsOf l)[k * 3 + 2]? = some (.string x.s) := by
  have hd : (cellsOf l).drop (k * 3) = x.cells ++ cellsOf (l.drop (k + 1)) := by
    rw [cellsOf_drop]
    have hk : k < l.length := (List.getElem?_eq_some_iff.1 h).1
    have hx : l[k] = x := (List.getElem?_eq_some_iff.1 h).2
    rw [List.drop_eq_getElem_cons hk, hx]
    rfl
  have g : ∀ j, (cellsOf l)[k * 3 + j]? = (x.cells ++ cellsOf (l.drop (k + 1)))[j]? := fun j => by rw [← hd, List.getElem?_drop]
  exact ⟨(g 0).trans rfl, (g 1).trans rfl, (g 2).trans rfl⟩
theorem cellsOf_one (l : List Wr) : ∀ u ∈ cellsOf l, u.oneCell' = true := by
  intro u hu
  obtain ⟨x, _, hx⟩ := List.mem_flatMap.1 hu
  simp [Wr.cells] at hx
  rcases hx with rfl | rfl | rfl <;> rfl

/-- where the first of a handle stands; -1: none -/
def idxFrom (h : Int) (k : Nat) : List Wr → Int
  | [] => -1
  | x :: l => if x.h = h then k else idxFrom h (k + 1) l
def idx (h : Int) (l : List Wr) : Int := idxFrom h 0 l

set_option maxHeartbeats 400000 in
theorem new_any (w : World) : Calls Try.prog 7 #[] w fun e w' => e = .returned (.pointer (some ⟨w.heap.size, 0, none⟩)) ∧ w.alloc (.cells #[.slice none 0 0] 55) = w' := by
  go_enter Try.func7, Try.ntmps7
  go_wp2
  go_ret
  exact ⟨rfl, rfl⟩

def ModOf (n : Int) (w : World) (e : Ending) (w' : World) : Prop := ∃ m : Int, 0 ≤ m ∧ m < n ∧ e = .returned (.int .i64 m) ∧ w = w'
set_option maxHeartbeats 400000 in
theorem mod_any (k : Int) (w : World) : Calls Try.prog 8 #[.int .i64 k, .int .i64 16384] w (ModOf 16384 w) := by
  have h1 : k.tmod 16384 < 16384 := Int.tmod_lt_of_pos _ (by omega)
  have h2 : -16384 < k.tmod 16384 := Int.lt_tmod_of_pos _ (by omega)
  go_enter Try.func8, Try.ntmps8
  go_wp2
  go_ret
  exact ⟨(k.tmod 16384 + 16384) % 16384, by omega, by omega, rfl, rfl⟩

set_option maxHeartbeats 400000 in
theorem clo_any (x : Wr) (h : Int) (a : Addr) (w : World) (ha : w.cell? a = some (.int .i64 h)) (hb : a.block < w.heap.size) :
    Calls Try.prog 25 #[.agg #[.int .i64 x.h, .int .i64 x.o, .string x.s], .pointer (some a)] w fun e w' => e = .returned (.bool (x.h == h)) ∧ Below w.heap.size w w' := by
  have ha' : ∀ o, (w.alloc o).cell? a = some (.int .i64 h) := fun o => (World.cell?_alloc_lt w o a hb).trans ha
  go_enter Try.func25, Try.ntmps25
  go_wp2
  go_ret
  exact ⟨rfl, (Below.refl _ _).alloc (Nat.le_refl _) _⟩

theorem idxFrom_step (h : Int) (l : List Wr) (k : Nat) (x : Wr) (hk : l[k]? = some x) : idxFrom h k (l.drop k) = if x.h = h then (k : Int) else idxFrom h (k + 1) (l.drop (k + 1)) := by
  have hlt : k < l.length := (List.getElem?_eq_some_iff.1 hk).1
  have hx : l[k] = x := (List.getElem?_eq_some_iff.1 hk).2
  rw [List.drop_eq_getElem_cons hlt, hx]
  rfl

set_option maxHeartbeats 400000 in
theorem idxfunc_any (B : Nat) (v : Value) (l : List Wr) (h : Int) (a : Addr) (w : World) (hl : l.length ≤ 1000) (hown : Own w B 30 3 v l.length (cellsOf l)) (ha : w.cell? a = some (.int .i64 h)) (hb : a.block < w.heap.size) :
    Calls Try.prog 24 #[v, .func (.func 25) #[] #[.pointer (some a)]] w fun e w' => e = .returned (.int .i64 (idx h l)) ∧ Below w.heap.size w w' := by
  obtain ⟨A, cap, rfl, _, _⟩ := hown.shape
  go_enter Try.func24, Try.ntmps24
  go_wp2
  go_loopw [8] (fun i wr => ∃ k : Nat, k ≤ l.length ∧ i = .int .i64 k ∧ Below w.heap.size w wr ∧ Hid (idxFrom h k (l.drop k) = idx h l)) (fun i _ => l.length - (intOf i).toNat)
  case atStart => exact ⟨0, Nat.zero_le _, rfl, Below.refl _ _, hide rfl⟩
  case round =>
    obtain ⟨k, hk, rfl, hbel, HI⟩ := hrel
    by_cases hlt : k < l.length
    · obtain ⟨g, cap', hv, _, hgs, _, _⟩ := hown.form (by omega)
      simp only [Value.slice.injEq, true_and] at hv
      obtain ⟨rfl, rfl⟩ := hv
      have hx : l[k]? = some l[k] := List.getElem?_eq_getElem hlt
      generalize l[k] = x at hx
      obtain ⟨q0, q1, q2⟩ := cellsOf_get l k x hx
      have hst := idxFrom_step h l k x hx
      have c : ∀ j u, (cellsOf l)[j]? = some u → wr.cell? ⟨g, j, none⟩ = some u := fun j u hu => (hbel.cell (p := ⟨g, j, none⟩) hgs).trans (by simpa [Addr.add_lit] using hown.cells (g := g) rfl j u hu)
      have c0 := c _ _ q0
      have c1 := c _ _ q1
      have c2 := c _ _ q2
      have HS := hide hst
      have HX := hide hx
      clear hst q0 q1 q2 c hx
      have ha1 := (hbel.cell (p := a) hb).trans ha
      have hz := hbel.size
      by_cases hxh : x.h = h
      · have HB := hide (show (x.h == h) = true by simp [hxh])
        have HXH := hide hxh
        clear hxh
        go_wp2_with fail
        refine (clo_any x h a wr ha1 (by omega)).mono ?_
        rintro e w1 ⟨rfl, hb1⟩
        rw [HB.out]
        go_wp2
        go_ret
        exact ⟨by rw [← HI.out, HS.out, if_pos HXH.out]; rfl, hbel.trans (hb1.mono hz)⟩
      · have HB := hide (show (x.h == h) = false by simp [hxh])
        have HXH := hide hxh
        clear hxh
        go_wp2_with fail
        refine (clo_any x h a wr ha1 (by omega)).mono ?_
        rintro e w1 ⟨rfl, hb1⟩
        rw [HB.out]
        go_wp2
        go_roundw
        case rel => exact ⟨k + 1, by omega, by go_num, hbel.trans (hb1.mono hz), hide (by rw [← HI.out, HS.out, if_neg HXH.out])⟩
        case measure => simp [intOf]; omega
    · have hkl : k = l.length := by omega
      have HI2 : Hid (idx h l = -1) := hide (by rw [← HI.out, hkl, List.drop_length]; rfl)
      clear hkl
      go_wp2

      go_ret
      exact ⟨by rw [HI2.out]; rfl, hbel⟩

set_option maxHeartbeats 400000 in
theorem first_any (B : Nat) (v : Value) (l : List Wr) (h : Int) (g : Nat) (w : World) (hl : l.length ≤ 1000) (hown : Own w B 30 3 v l.length (cellsOf l)) (hg : Blk w g 55 #[v]) :
    Calls Try.prog 22 #[.pointer (some ⟨g, 0, none⟩), .int .i64 h] w fun e w' => e = .returned (.int .i64 (idx h l)) ∧ Below w.heap.size w w' := by
  obtain ⟨A, cap, rfl, _, _⟩ := hown.shape
  have hc : ∀ o, (w.alloc o).cell? ⟨g, 0, none⟩ = some (.slice A l.length cap) := fun o => (hg.alloc o).cell 0
  go_enter Try.func22, Try.ntmps22
  go_wp2_with fail
  refine (idxfunc_any B _ l h _ _ hl (hown.alloc _) ?_ (by simp)).mono ?_
  · exact (Blk.new w 3 #[.int .i64 h]).cell 0
  rintro e w1 ⟨rfl, hb1⟩
  go_wp2
  go_ret
  exact ⟨rfl, ((Below.refl _ _).alloc (Nat.le_refl _) _).trans (hb1.mono (by simp))⟩

theorem first_nil (h : Int) (w : World) : Calls Try.prog 22 #[.pointer none, .int .i64 h] w fun e w' => e = .returned (.int .i64 (-1)) ∧ Below w.heap.size w w' := by
  go_enter Try.func22, Try.ntmps22
  go_wp2
  go_ret
  exact ⟨rfl, (Below.refl _ _).alloc (Nat.le_refl _) _⟩

end Go.Proofs.Ytimdnooakpbkpaa

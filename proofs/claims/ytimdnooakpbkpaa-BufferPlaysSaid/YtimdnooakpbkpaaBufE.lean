/- What the laws call beside the buffer: wakes, fair; a buffer that nobody made. -/
import Derived.Test.YtimdnooakpbkpaaBufD
namespace Go.Proofs.Ytimdnooakpbkpaa
open Go.RowKit
set_option linter.unusedVariables false

theorem BufAt.fr {B g : Nat} {w w' : World} {l : List Wr} (h : BufAt w' B g l) (hf : Fr [55, 30] B w w') (hB : B ≤ w.heap.size) : BufAt w' B g l ∧ Below B w w' := ⟨h, hf.below hB⟩
theorem BufAt.lt {B g : Nat} {w : World} {l : List Wr} (h : BufAt w B g l) : B ≤ g ∧ g < w.heap.size := by
  obtain ⟨v, hg, hBg, _⟩ := h
  exact ⟨hBg, hg.lt⟩
theorem BufAt.drewN {B g : Nat} {w : World} {l : List Wr} (h : BufAt w B g l) (n : Nat) : BufAt (w.drewN n) B g l := h
theorem BufAt.alloc {B g : Nat} {w : World} {l : List Wr} (h : BufAt w B g l) (o : Obj) : BufAt (w.alloc o) B g l := h.below ((Below.refl _ _).alloc (Nat.le_refl _) _)
theorem buf_new (w : World) : BufAt (w.alloc (.cells #[.slice none 0 0] 55)) w.heap.size w.heap.size [] := ⟨_, Blk.new w _ _, Nat.le_refl _, Own.nil _ _ _ _⟩

theorem add_yes (B g : Nat) (l : List Wr) (x : Wr) (w : World) (hb : BufAt w B g l) (hl : l.length ≤ 16) (he : addErr l x = 0) :
    Calls Try.prog 11 #[.pointer (some ⟨g, 0, none⟩), .agg #[.int .i64 x.h, .int .i64 x.o, .string x.s]] w fun e w' => e = .returned (.int .i64 0) ∧ BufAt w' B g (l ++ [x]) ∧ Fr [55, 30] B w w' := by
  have := add_any B g l x w hb hl
  unfold addTo at this
  simpa only [he, if_pos] using this

def wk1 : Wr := ⟨5, 0, ⟨#[97]⟩⟩
def wk2 : Wr := ⟨6, 0, ⟨#[98]⟩⟩
def wk3 : Wr := ⟨5, 1, ⟨#[99]⟩⟩
set_option maxHeartbeats 400000 in
theorem wakes_any (w : World) : Calls Try.prog 10 #[] w fun e w' => e = .returned (.bool true) ∧ Below w.heap.size w w' := by
  go_enter Try.func10, Try.ntmps10
  go_wp2_with fail
  refine (new_any _).mono ?_
  rintro e w1 ⟨rfl, rfl⟩
  go_wp2_with fail
  refine (add_yes w.heap.size w.heap.size [] wk1 _ (buf_new w) (by decide) (by decide)).mono ?_
  rintro e w1 ⟨rfl, hb1, hf1⟩
  go_wp2_with fail
  refine (add_yes w.heap.size w.heap.size ([] ++ [wk1]) wk2 _ hb1 (by decide) (by decide)).mono ?_
  rintro e w2 ⟨rfl, hb2, hf2⟩
  go_wp2_with fail
  refine (add_yes w.heap.size w.heap.size ([] ++ [wk1] ++ [wk2]) wk3 _ hb2 (by decide) (by decide)).mono ?_
  rintro e w3 ⟨rfl, hb3, hf3⟩
  go_wp2_with fail
  refine (fst_any w.heap.size w.heap.size ([] ++ [wk1] ++ [wk2] ++ [wk3]) 5 _ hb3 (by decide)).mono ?_
  rintro e w4 ⟨rfl, hb4⟩
  rw [show fstVal 5 ([] ++ [wk1] ++ [wk2] ++ [wk3]) = .tuple #[.agg #[.int .i64 5, .int .i64 0, .string ⟨#[97]⟩], .bool true] from rfl]
  have hB4 := hb3.below hb4
  go_wp2_with fail
  refine (pop_any w.heap.size w.heap.size ([] ++ [wk1] ++ [wk2] ++ [wk3]) 5 _ (hB4.alloc _) (by decide)).mono ?_
  rintro e w5 ⟨rfl, hb5, hf5⟩
  rw [show decide (0 ≤ idx 5 ([] ++ [wk1] ++ [wk2] ++ [wk3])) = true from by decide]
  go_wp2_with fail
  refine (count_any w.heap.size w.heap.size _ _ hb5).mono ?_
  rintro e w6 ⟨rfl, rfl⟩
  rw [show ((popOf 5 ([] ++ [wk1] ++ [wk2] ++ [wk3])).length : Int) = 2 from by decide]
  go_wp2_with fail
  refine (drop_any w.heap.size w.heap.size _ 5 _ hb5 (by decide)).mono ?_
  rintro e w7 ⟨rfl, hb7, hf7⟩
  rw [show (dropN 5 (popOf 5 ([] ++ [wk1] ++ [wk2] ++ [wk3])) : Int) = 1 from by decide]
  go_wp2_with fail
  refine (count_any w.heap.size w.heap.size _ _ hb7).mono ?_
  rintro e w8 ⟨rfl, rfl⟩
  rw [show ((dropOf 5 (popOf 5 ([] ++ [wk1] ++ [wk2] ++ [wk3]))).length : Int) = 1 from by decide]
  go_wp2
  go_ret
  exact ⟨rfl, ((((((((Fr.refl [55, 30] w.heap.size w).alloc _).trans hf1).trans hf2).trans hf3).trans (Fr.of_below hb4)).alloc _).trans hf5 |>.trans hf7).below (Nat.le_refl _)⟩

theorem ret_bool {a b : Bool} (h : a = b) : Ending.returned (.bool a) = .returned (.bool b) := by rw [h]
theorem ret_int {k : IntKind} {a b : Int} (h : a = b) : Ending.returned (.int k a) = .returned (.int k b) := by rw [h]

structure St where
  k : Int
  x : Wr
def stCells (l : List St) : List Value := l.flatMap fun s => .int .i64 s.k :: s.x.cells
theorem stCells_get (l : List St) (k : Nat) (s : St) (h : l[k]? = some s) : (stCells l)[k * 4]? = some (.int .i64 s.k) ∧ (stCells l)[k * 4 + 1]? = some (.int .i64 s.x.h) ∧ (stCells l)[k * 4 + 2]? = some (.int .i64 s.x.o) ∧ (stCells l)[k * 4 + 3]? = some (.string s.x.s) := by
  have hd : ∀ (l : List St) (k : Nat), (stCells l).drop (k * 4) = stCells (l.drop k) := by
    intro l
    induction l with
    | nil => intro k; simp [stCells]
    | cons x l ih =>
      intro k
      cases k with
      | zero => simp
      | succ k =>
        rw [List.drop_succ_cons, ← ih k, show (k + 1) * 4 = k * 4 + 4 from by omega]
        rfl
  have hk : k < l.length := (List.getElem?_eq_some_iff.1 h).1
  have hx : l[k] = s := (List.getElem?_eq_some_iff.1 h).2
  have h2 : (stCells l).drop (k * 4) = (.int .i64 s.k :: s.x.cells) ++ stCells (l.drop (k + 1)) := by
    rw [hd, List.drop_eq_getElem_cons hk, hx]
    rfl
  have g : ∀ j, (stCells l)[k * 4 + j]? = ((Value.int .i64 s.k :: s.x.cells) ++ stCells (l.drop (k + 1)))[j]? := fun j => by rw [← h2, List.getElem?_drop]
  exact ⟨(g 0).trans rfl, (g 1).trans rfl, (g 2).trans rfl, (g 3).trans rfl⟩

/-- a slice that came in and reads as the cells xs -/
def Arg (w : World) (B : Nat) (A : Option Addr) (n : Nat) (xs : List Value) : Prop :=
  0 < n → ∃ b off, A = some ⟨b, off, none⟩ ∧ b < B ∧ ∀ j u, xs[j]? = some u → w.cell? ⟨b, off + j, none⟩ = some u
theorem Arg.below {w w' : World} {B : Nat} {A : Option Addr} {n : Nat} {xs : List Value} (h : Arg w B A n xs) (hb : Below B w w') : Arg w' B A n xs := fun hn => by
  obtain ⟨b, off, rfl, hlt, hc⟩ := h hn
  exact ⟨b, off, rfl, hlt, fun j u hu => (hb.cell (p := ⟨b, off + j, none⟩) hlt).trans (hc j u hu)⟩

def fairB (l : List St) : Bool := l.all (fun s => decide (s.x.s.size ≤ 5000)) && decide (l.length ≤ 150)

set_option maxHeartbeats 400000 in
theorem fair_any (B : Nat) (A : Option Addr) (cap : Nat) (l : List St) (w : World) (ha : Arg w B A l.length (stCells l)) (hl : l.length ≤ 9223372036854775807) :
    Calls Try.prog 9 #[.slice A l.length cap] w fun e w' => e = .returned (.bool (fairB l)) ∧ w = w' := by
  go_enter Try.func9, Try.ntmps9
  go_wp2
  go_loop [3] (fun i => ∃ k : Nat, k ≤ l.length ∧ i = .int .i64 k ∧ Hid (fairB l = ((l.drop k).all (fun s => decide (s.x.s.size ≤ 5000)) && decide (l.length ≤ 150)))) (fun i => l.length - (intOf i).toNat)
  case atStart => exact ⟨0, Nat.zero_le _, rfl, hide (by simp [fairB])⟩
  case round =>
    obtain ⟨k, hk, rfl, HI⟩ := hrel
    by_cases hlt : k < l.length
    · obtain ⟨b, off, rfl, _, hc⟩ := ha (by omega)
      have hx : l[k]? = some l[k] := List.getElem?_eq_getElem hlt
      have HD := hide (List.drop_eq_getElem_cons hlt)
      generalize l[k] = s at hx HD
      obtain ⟨q0, q1, q2, q3⟩ := stCells_get l k s hx
      have c3 := hc _ _ q3
      rw [show off + (k * 4 + 3) = off + k * 4 + 1 + 2 from by omega] at c3
      clear q0 q1 q2 q3 hc hx ha
      by_cases hs : s.x.s.size ≤ 5000
      · go_wp2
        go_round
        case rel => exact ⟨k + 1, by omega, by go_num, hide (by rw [HI.out, HD.out, List.all_cons, decide_eq_true hs, Bool.true_and])⟩
        case measure => simp [intOf]; omega
      · go_wp2
        go_ret
        exact ⟨by rw [HI.out, HD.out, List.all_cons, decide_eq_false hs]; rfl, rfl⟩
    · have hkl : Hid (k = l.length) := hide (by omega)
      have hd := hide (show decide ((l.length : Int) ≤ 150) = decide (l.length ≤ 150) from decide_eq_decide.2 (by omega))
      go_wp2
      go_ret
      exact ⟨ret_bool (by rw [HI.out, hkl.out, List.drop_length, hd.out]; rfl), rfl⟩

theorem fst_nil (h : Int) (w : World) : Calls Try.prog 14 #[.pointer none, .int .i64 h] w fun e w' => e = .returned (.tuple #[.agg #[.int .i64 0, .int .i64 0, .string ⟨#[]⟩], .bool false]) ∧ Below w.heap.size w w' := by
  go_enter Try.func14, Try.ntmps14
  go_wp2_with fail
  refine (first_nil h _).mono ?_
  rintro e w1 ⟨rfl, hb1⟩
  obtain ⟨b0, b1, b2, z0, z1, z2⟩ := blk3 (box_below hb1)
  go_wp2
  refine bodyPost_ret (v := .tuple #[.agg #[.int .i64 0, .int .i64 0, .string ⟨#[]⟩], .bool false]) (by simp [results, Try.results14, go_sem, b0, b1, b2]) rfl ⟨rfl, ?_⟩
  exact ((Below.refl _ _).alloc (Nat.le_refl _) _).trans (((((hb1.mono (by simp))).setCell (by simp) _).setCell (by simp) _).setCell (by simp) _)
theorem pop_nil (h : Int) (w : World) : Calls Try.prog 13 #[.pointer none, .int .i64 h] w fun e w' => e = .returned (.bool false) ∧ Below w.heap.size w w' := by
  go_enter Try.func13, Try.ntmps13
  go_wp2_with fail
  refine (first_nil h _).mono ?_
  rintro e w1 ⟨rfl, hb1⟩
  go_wp2
  go_ret
  exact ⟨rfl, hb1⟩
theorem drop_nil (h : Int) (w : World) : Calls Try.prog 12 #[.pointer none, .int .i64 h] w fun e w' => e = .returned (.int .i64 0) ∧ Below w.heap.size w w' := by
  go_enter Try.func12, Try.ntmps12
  go_wp2
  go_loopw [5] (fun i wr => i = .int .i64 0 ∧ wr = w) (fun i _ => 0)
  case atStart => exact ⟨rfl, rfl⟩
  case round =>
    obtain ⟨rfl, rfl⟩ := hrel
    go_wp2_with fail
    refine (pop_nil h _).mono ?_
    rintro e w1 ⟨rfl, hb1⟩
    go_wp2
    go_ret
    exact ⟨rfl, hb1⟩
theorem add_nil (h o : Int) (s : ByteArray) (w : World) : Calls Try.prog 11 #[.pointer none, .agg #[.int .i64 h, .int .i64 o, .string s]] w fun e w' => e = .returned (.int .i64 1) ∧ Below w.heap.size w w' := by
  go_enter Try.func11, Try.ntmps11
  go_wp2
  go_ret
  exact ⟨rfl, (Below.refl _ _).alloc (Nat.le_refl _) _⟩
theorem all_nil (w : World) : Calls Try.prog 21 #[.pointer none] w fun e w' => e = .returned (.slice none 0 0) ∧ w = w' := by
  go_enter Try.func21, Try.ntmps21
  go_wp2
  go_ret
  exact ⟨rfl, rfl⟩

set_option maxHeartbeats 400000 in
theorem none_any (h o : Int) (s : ByteArray) (w : World) : Calls Try.prog 6 #[.agg #[.int .i64 h, .int .i64 o, .string s]] w fun e w' => e = .returned (.bool true) ∧ Below w.heap.size w w' := by
  by_cases hs : 5000 < s.size
  · go_enter Try.func6, Try.ntmps6
    go_wp2_with fail
    refine (wakes_any _).mono ?_
    rintro e w1 ⟨rfl, hb1⟩
    go_wp2
    go_ret
    exact ⟨rfl, ((Below.refl _ _).alloc (Nat.le_refl _) _).trans (hb1.mono (by simp))⟩
  · go_enter Try.func6, Try.ntmps6
    go_wp2_with fail
    refine (fst_nil h _).mono ?_
    rintro e w1 ⟨rfl, hb1⟩
    have hB1 := hide (box_below hb1)
    have c0 : ∀ o, (w1.alloc o).cell? ⟨w.heap.size, 0, none⟩ = some (.int .i64 h) := fun o => (blk3 (hB1.out.alloc o)).1
    have c1 : ∀ ob, (w1.alloc ob).cell? ⟨w.heap.size, 1, none⟩ = some (.int .i64 o) := fun o => (blk3 (hB1.out.alloc o)).2.1
    have c2 : ∀ o, (w1.alloc o).cell? ⟨w.heap.size, 2, none⟩ = some (.string s) := fun o => (blk3 (hB1.out.alloc o)).2.2.1
    have hz1 := hb1.size
    simp only [World.size_alloc] at hz1
    have HF1 : Hid (Fr [] w.heap.size w w1) := hide (((Fr.refl [] w.heap.size w).alloc _).trans (Fr.of_below hb1))
    go_wp2_with fail
    refine (add_nil h o s _).mono ?_
    rintro e w2 ⟨rfl, hb2⟩
    have hB2 := hide ((hB1.out.alloc _).below hb2 (hB1.out.alloc _).lt)
    have d0 := (blk3 hB2.out).1
    have HF2 := hide ((HF1.out.alloc _).trans (Fr.of_below hb2))
    clear hb1 hb2 c0 c1 c2
    go_wp2_with fail
    refine (pop_nil h _).mono ?_
    rintro e w3 ⟨rfl, hb3⟩
    have hB3 := hide (hB2.out.below hb3 hB2.out.lt)
    have d1 := (blk3 hB3.out).1
    have HF3 := hide (HF2.out.trans (Fr.of_below hb3))
    clear hb3
    go_wp2_with fail
    refine (drop_nil h _).mono ?_
    rintro e w4 ⟨rfl, hb4⟩
    have HF4 := hide (HF3.out.trans (Fr.of_below hb4))
    clear hb4
    go_wp2_with fail
    refine (count_nil _).mono ?_
    rintro e w5 ⟨rfl, rfl⟩
    go_wp2_with fail
    refine (all_nil _).mono ?_
    rintro e w5 ⟨rfl, rfl⟩
    go_wp2_with fail
    refine (wakes_any _).mono ?_
    rintro e w5 ⟨rfl, hb5⟩
    go_wp2
    go_ret
    exact ⟨rfl, (HF4.out.trans (Fr.of_below hb5)).below (Nat.le_refl _)⟩
end Go.Proofs.Ytimdnooakpbkpaa

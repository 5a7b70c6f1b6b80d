/- The reference's pages: a list. -/
import Derived.Test.YtjpegkginmoekaaUnC
import Derived.BigQuiet
namespace Go.Proofs.Ytjpegkginmoekaa
open Go.RowKit
set_option linter.unusedVariables false

def Pg.cells (x : Pg) : List Value := [.int .i64 x.n, .int .i64 x.k, .string x.s]
def pgs (l : List Pg) : List Value := l.flatMap Pg.cells
theorem pgs_cons (x : Pg) (l : List Pg) : pgs (x :: l) = x.cells ++ pgs l := rfl
theorem pgs_append (a b : List Pg) : pgs (a ++ b) = pgs a ++ pgs b := by simp [pgs]
theorem pgs_length (l : List Pg) : (pgs l).length = l.length * 3 := by
  induction l with
  | nil => rfl
  | cons x l ih => rw [pgs_cons, List.length_append, ih, List.length_cons]; simp [Pg.cells]; omega
theorem pgs_drop (l : List Pg) (k : Nat) : (pgs l).drop (k * 3) = pgs (l.drop k) := by
  induction l generalizing k with
  | nil => simp [pgs]
  | cons x l ih =>
    cases k with
    | zero => simp [pgs]
    | succ k =>
      rw [pgs_cons, List.drop_succ_cons, show (k + 1) * 3 = k * 3 + 3 from by omega]
      show List.drop (k * 3 + 3) (Value.int .i64 x.n :: .int .i64 x.k :: .string x.s :: pgs l) = _
      simp [ih]
theorem pgs_get (l : List Pg) (k : Nat) (x : Pg) (h : l[k]? = some x) : (pgs l)[k * 3]? = some (.int .i64 x.n) ∧ (pgs l)[k * 3 + 1]? = some (.int .i64 x.k) ∧ (pgs l)[k * 3 + 2]? = some (.string x.s) := by
  have hd : (pgs l).drop (k * 3) = x.cells ++ pgs (l.drop (k + 1)) := by
    rw [pgs_drop]
    have hk : k < l.length := (List.getElem?_eq_some_iff.1 h).1
    have hx : l[k] = x := (List.getElem?_eq_some_iff.1 h).2
    rw [List.drop_eq_getElem_cons hk, hx]
    rfl
  have g : ∀ j, (pgs l)[k * 3 + j]? = (x.cells ++ pgs (l.drop (k + 1)))[j]? := fun j => by rw [← hd, List.getElem?_drop]
  exact ⟨(g 0).trans rfl, (g 1).trans rfl, (g 2).trans rfl⟩
theorem pgs_one (l : List Pg) : ∀ u ∈ pgs l, u.oneCell' = true := by
  intro u hu
  obtain ⟨x, _, hx⟩ := List.mem_flatMap.1 hu
  simp [Pg.cells] at hx
  rcases hx with rfl | rfl | rfl <;> rfl

/-- block g is a reference's pages that read as p -/
def RfAt (w : World) (B g : Nat) (p : PS) : Prop := ∃ v, Blk w g 85 #[v, .int .i64 p.room, .int .i64 p.edge] ∧ B ≤ g ∧ Own w B 89 3 v p.l.length (pgs p.l)
theorem RfAt.below {w w' : World} {B g : Nat} {p : PS} (h : RfAt w B g p) (hb : Below w.heap.size w w') : RfAt w' B g p := by
  obtain ⟨v, h1, h2, h3⟩ := h
  exact ⟨v, h1.below hb h1.lt, h2, h3.below hb⟩
theorem RfAt.alloc {w : World} {B g : Nat} {p : PS} (h : RfAt w B g p) (o : Obj) : RfAt (w.alloc o) B g p := h.below ((Below.refl _ _).alloc (Nat.le_refl _) _)
theorem RfAt.fr {ts : List TypeId} {w w' : World} {B B' g : Nat} {p : PS} (h : RfAt w B g p) (hf : Fr ts B' w w') (h1 : 85 ∉ ts) (h2 : 89 ∉ ts) : RfAt w' B g p := by
  obtain ⟨v, k1, k2, k3⟩ := h
  exact ⟨v, k1.fr hf h1, k2, k3.fr hf h2⟩
theorem RfAt.lt {w : World} {B g : Nat} {p : PS} (h : RfAt w B g p) : B ≤ g ∧ g < w.heap.size := by
  obtain ⟨v, k1, k2, k3⟩ := h
  exact ⟨k2, k1.lt⟩
/-- a page's block of the program is no block of the reference's -/
theorem PgAt.grown {w w' : World} {B q r : Nat} {p : PS} {t : TypeId} {cs : Array Value} (h : PgAt w B q p) (hr : Blk w r t cs) (ht : (82 : TypeId) ≠ t) (hg : w.grownBy w' (some r)) : PgAt w' B q p := by
  obtain ⟨b, h1, h2, h3, h4⟩ := h
  exact ⟨b, h1.grown hg (fun e => h1.ne_ hr ht (by injection e)), h2, h3, h4.kept hg (fun e => h4.ne_blk hr (by injection e))⟩

def ixFrom (n : Int) (k : Nat) : List Pg → Int
  | [] => -1
  | x :: l => if x.n = n then k else ixFrom n (k + 1) l
def ix (n : Int) (l : List Pg) : Int := ixFrom n 0 l
theorem ixFrom_step (n : Int) (l : List Pg) (k : Nat) (x : Pg) (hk : l[k]? = some x) : ixFrom n k (l.drop k) = if x.n = n then (k : Int) else ixFrom n (k + 1) (l.drop (k + 1)) := by
  have hlt : k < l.length := (List.getElem?_eq_some_iff.1 hk).1
  have hx : l[k] = x := (List.getElem?_eq_some_iff.1 hk).2
  rw [List.drop_eq_getElem_cons hlt, hx]
  rfl
theorem ixFrom_find (n : Int) (l : List Pg) : ∀ k, (findP n l = none ∧ ixFrom n k l = -1) ∨ ∃ (i : Nat) (x : Pg), l[i]? = some x ∧ findP n l = some x ∧ ixFrom n k l = (k : Int) + i := by
  induction l with
  | nil => intro k; exact .inl ⟨rfl, rfl⟩
  | cons y l ih =>
    intro k
    by_cases hy : y.n = n
    · exact .inr ⟨0, y, rfl, by simp [findP, hy], by simp [ixFrom, hy]⟩
    · have e : findP n (y :: l) = findP n l := by simp [findP, hy]
      rw [e]
      rcases ih (k + 1) with ⟨h1, h2⟩ | ⟨i, x, h1, h2, h3⟩
      · exact .inl ⟨h1, by rw [ixFrom, if_neg hy]; exact h2⟩
      · exact .inr ⟨i + 1, x, h1, h2, by rw [ixFrom, if_neg hy, h3]; omega⟩
theorem ix_find (n : Int) (l : List Pg) : (findP n l = none ∧ ix n l = -1) ∨ ∃ (i : Nat) (x : Pg), l[i]? = some x ∧ findP n l = some x ∧ ix n l = i := by
  rcases ixFrom_find n l 0 with h | ⟨i, x, h1, h2, h3⟩
  · exact .inl h
  · exact .inr ⟨i, x, h1, h2, by unfold ix; rw [h3]; omega⟩

theorem rthere_any (n : Int) (w : World) : Calls Try.prog 49 #[.int .i64 n] w fun e w' => e = .returned (.bool (decide (0 ≤ n ∧ n < 4096))) ∧ w = w' := by
  by_cases h0 : 0 ≤ n
  · by_cases h1 : n < 4096
    · go_enter Try.func49, Try.ntmps49
      go_wp2
      go_ret
      exact ⟨ret_bool (by simp; omega), rfl⟩
    · go_enter Try.func49, Try.ntmps49
      go_wp2
      go_ret
      exact ⟨ret_bool (by simp; omega), rfl⟩
  · go_enter Try.func49, Try.ntmps49
    go_wp2
    go_ret
    exact ⟨ret_bool (by simp; omega), rfl⟩

set_option maxHeartbeats 400000 in
theorem rfind_any (B g : Nat) (p : PS) (n : Int) (w : World) (hp : p.Ok) (hb : RfAt w B g p) :
    Calls Try.prog 50 #[.pointer (some ⟨g, 0, none⟩), .int .i64 n] w fun e w' => e = .returned (.int .i64 (ix n p.l)) ∧ w = w' := by
  obtain ⟨v, hg, hBg, hown⟩ := hb
  have hlen : p.l.length ≤ 4096 := by have := hp.len; have := hp.r1; omega
  obtain ⟨A, cap, rfl, _, _⟩ := hown.shape
  have cg := hg.cell 0
  clear hp
  obtain ⟨room, edge, l⟩ := p
  simp only at hown cg hlen ⊢
  clear hg
  go_enter Try.func50, Try.ntmps50
  go_wp2
  go_loop [5] (fun i => ∃ k : Nat, k ≤ l.length ∧ i = .int .i64 k ∧ Hid (ixFrom n k (l.drop k) = ix n l)) (fun i => l.length - (intOf i).toNat)
  case atStart => exact ⟨0, Nat.zero_le _, rfl, hide rfl⟩
  case round =>
    obtain ⟨k, hk, rfl, HI⟩ := hrel
    by_cases hlt : k < l.length
    · obtain ⟨g', cap', hv, _, hgs, _, _⟩ := hown.form (by omega)
      simp only [Value.slice.injEq, true_and] at hv
      obtain ⟨rfl, rfl⟩ := hv
      have hx : l[k]? = some l[k] := List.getElem?_eq_getElem hlt
      generalize l[k] = x at hx
      obtain ⟨q0, -, -⟩ := pgs_get l k x hx
      have hst := ixFrom_step n l k x hx
      have c0 : w.cell? ⟨g', k * 3, none⟩ = some (.int .i64 x.n) := by simpa [Addr.add_lit] using hown.cells (g := g') rfl _ _ q0
      have HS := hide hst
      clear hst q0 hx hown
      by_cases hxh : x.n = n
      · have HX := hide hxh
        have HB := (show (x.n == n) = true by simp [hxh])
        clear hxh
        go_wp2
        go_ret
        exact ⟨by rw [← HI.out, HS.out, if_pos HX.out]; rfl, rfl⟩
      · have HX := hide hxh
        have HB := (show (x.n == n) = false by simp [hxh])
        clear hxh
        go_wp2
        go_round
        case rel => exact ⟨k + 1, by omega, by go_num, hide (by rw [← HI.out, HS.out, if_neg HX.out])⟩
        case measure => simp [intOf]; omega
    · have HK : Hid (k = l.length) := hide (by omega)
      go_wp2
      go_ret
      exact ⟨by rw [← HI.out, HK.out, List.drop_length]; rfl, rfl⟩

theorem redge_any (B g : Nat) (p : PS) (w : World) (hb : RfAt w B g p) : Calls Try.prog 43 #[.pointer (some ⟨g, 0, none⟩)] w fun e w' => e = .returned (.int .i64 p.edge) ∧ w = w' := by
  obtain ⟨v, hg, hBg, hown⟩ := hb
  obtain ⟨c0, c1, c2, z0, z1, z2⟩ := blk3 hg
  clear hg
  go_enter Try.func43, Try.ntmps43
  go_wp2
  go_ret
  exact ⟨rfl, rfl⟩
theorem rused_any (B g : Nat) (p : PS) (w : World) (hb : RfAt w B g p) : Calls Try.prog 24 #[.pointer (some ⟨g, 0, none⟩)] w fun e w' => e = .returned (.int .i64 p.l.length) ∧ w = w' := by
  obtain ⟨v, hg, hBg, hown⟩ := hb
  obtain ⟨A, cap, rfl, _, _⟩ := hown.shape
  obtain ⟨c0, c1, c2, z0, z1, z2⟩ := blk3 hg
  clear hg hown
  go_enter Try.func24, Try.ntmps24
  go_wp2
  go_ret
  exact ⟨rfl, rfl⟩
theorem rnew_no (room : Int) (w : World) (h : room < 1 ∨ 4096 < room) : Calls Try.prog 36 #[.int .i64 room] w fun e w' => e = .returned (.tuple #[.pointer none, .int .i64 1]) ∧ w = w' := by
  rcases h with h | h
  · go_enter Try.func36, Try.ntmps36
    go_wp2
    go_ret2
    exact ⟨rfl, rfl⟩
  · have h1 : 1 ≤ room := by omega
    go_enter Try.func36, Try.ntmps36
    go_wp2
    go_ret2
    exact ⟨rfl, rfl⟩
theorem rnew_yes (room : Int) (w : World) (h0 : 1 ≤ room) (h1 : room ≤ 4096) : Calls Try.prog 36 #[.int .i64 room] w fun e w' => e = .returned (.tuple #[.pointer (some ⟨w.heap.size, 0, none⟩), .int .i64 0]) ∧ RfAt w' w.heap.size w.heap.size (newP room) ∧ Below w.heap.size w w' := by
  go_enter Try.func36, Try.ntmps36
  go_wp2
  go_ret2
  exact ⟨rfl, ⟨.slice none 0 0, Blk.new w 85 #[.slice none 0 0, .int .i64 room, .int .i64 0], Nat.le_refl _, Own.nil _ _ _ _⟩, (Below.refl _ _).alloc (Nat.le_refl _) _⟩

set_option maxHeartbeats 400000 in
theorem rkind_any (B g : Nat) (p : PS) (n : Int) (w : World) (hp : p.Ok) (hb : RfAt w B g p) :
    Calls Try.prog 42 #[.pointer (some ⟨g, 0, none⟩), .int .i64 n] w fun e w' => e = .returned (.int .i64 (kindP p n)) ∧ w = w' := by
  have HB := hide hb
  obtain ⟨v, hg, hBg, hown⟩ := hb
  have HO := hide hown
  obtain ⟨c0, c1, c2, z0, z1, z2⟩ := blk3 hg
  have hK : ¬ (n < 0 ∨ 4096 ≤ n) → ¬ n < p.edge → kindP p n = match findP n p.l with
    | none => 0
    | some x => x.k := by
    intro h1 h2
    unfold kindP
    rw [if_neg h1, if_neg h2]
    rfl
  by_cases h0 : n < 0 ∨ 4096 ≤ n
  · have hk : kindP p n = 0 := by unfold kindP; rw [if_pos h0]
    have hd : decide (0 ≤ n ∧ n < 4096) = false := by simp; omega
    rw [hk]
    go_enter Try.func42, Try.ntmps42
    go_wp2_with fail
    refine (rthere_any n _).mono ?_
    rintro e w1 ⟨rfl, rfl⟩
    rw [hd]
    go_wp2
    go_ret
    exact ⟨rfl, rfl⟩
  · have hd : decide (0 ≤ n ∧ n < 4096) = true := by simp; omega
    by_cases he : n < p.edge
    · have hk : kindP p n = 3 := by unfold kindP; rw [if_neg h0, if_pos he]
      rw [hk]
      go_enter Try.func42, Try.ntmps42
      go_wp2_with fail
      refine (rthere_any n _).mono ?_
      rintro e w1 ⟨rfl, rfl⟩
      rw [hd]
      go_wp2
      go_ret
      exact ⟨rfl, rfl⟩
    · have hk := hK h0 he
      rw [hk]
      have he' : p.edge ≤ n := by omega
      rcases ix_find n p.l with ⟨h1, h2⟩ | ⟨i, x, h1, h2, h3⟩
      · rw [h1]
        go_enter Try.func42, Try.ntmps42
        go_wp2_with fail
        refine (rthere_any n _).mono ?_
        rintro e w1 ⟨rfl, rfl⟩
        rw [hd]
        go_wp2_with fail
        refine (rfind_any B g p n _ hp HB.out).mono ?_
        rintro e w1 ⟨rfl, rfl⟩
        rw [h2]
        go_wp2
        go_ret
        exact ⟨rfl, rfl⟩
      · rw [h2]
        have hi : i < p.l.length := (List.getElem?_eq_some_iff.1 h1).1
        obtain ⟨g', cap', rfl, _, hgs, _, _⟩ := hown.form (by omega)
        obtain ⟨-, q1, -⟩ := pgs_get p.l i x h1
        have r1 : w.cell? ⟨g', i * 3 + 1, none⟩ = some (.int .i64 x.k) := by simpa [Addr.add_lit] using hown.cells (g := g') rfl _ _ q1
        clear hown q1
        go_enter Try.func42, Try.ntmps42
        go_wp2_with fail
        refine (rthere_any n _).mono ?_
        rintro e w1 ⟨rfl, rfl⟩
        rw [hd]
        go_wp2_with fail
        refine (rfind_any B g p n _ hp HB.out).mono ?_
        rintro e w1 ⟨rfl, rfl⟩
        rw [h3]
        go_wp2
        go_ret
        exact ⟨rfl, rfl⟩
end Go.Proofs.Ytjpegkginmoekaa

/- The buffer's functions: First, Pop, Drop, Count, All. -/
import Derived.Test.YtimdnooakpbkpaaBufB
namespace Go.Proofs.Ytimdnooakpbkpaa
open Go.RowKit
set_option linter.unusedVariables false

theorem idxFrom_lo (h : Int) (l : List Wr) : ∀ k, idxFrom h k l = -1 ∨ ((k : Int) ≤ idxFrom h k l ∧ idxFrom h k l < k + l.length) := by
  induction l with
  | nil => intro k; exact .inl rfl
  | cons x l ih =>
    intro k
    unfold idxFrom
    by_cases hx : x.h = h
    · rw [if_pos hx]
      right
      simp only [List.length_cons]
      omega
    · rw [if_neg hx]
      rcases ih (k + 1) with h1 | ⟨h1, h2⟩
      · exact .inl h1
      · right
        simp only [List.length_cons]
        omega
theorem idx_lo (h : Int) (l : List Wr) : idx h l = -1 ∨ (0 ≤ idx h l ∧ idx h l < l.length) := by
  rcases idxFrom_lo h l 0 with h1 | ⟨h1, h2⟩
  · exact .inl h1
  · right
    unfold idx
    omega

/-- a new block behind a call -/
theorem box_below {w w1 : World} {cs : Array Value} {t : TypeId} (hb : Below (w.alloc (.cells cs t)).heap.size (w.alloc (.cells cs t)) w1) : Blk w1 w.heap.size t cs := (Blk.new w t cs).below hb (by simp)
theorem blk3 {w : World} {g : Nat} {a b c : Value} {t : TypeId} (h : Blk w g t #[a, b, c]) :
    w.cell? ⟨g, 0, none⟩ = some a ∧ w.cell? ⟨g, 1, none⟩ = some b ∧ w.cell? ⟨g, 2, none⟩ = some c ∧ w.frozen? ⟨g, 0, none⟩ = false ∧ w.frozen? ⟨g, 1, none⟩ = false ∧ w.frozen? ⟨g, 2, none⟩ = false :=
  ⟨h.cell 0, h.cell 1, h.cell 2, h.frozen 0, h.frozen 1, h.frozen 2⟩
theorem Blk.one {w : World} {g : Nat} {a : Value} {t : TypeId} (h : Blk w g t #[a]) : w.cell? ⟨g, 0, none⟩ = some a := h.cell 0

/-- the first of a handle -/
def firstOf (h : Int) (l : List Wr) : Option Wr := if idx h l < 0 then none else l[(idx h l).toNat]?
/-- all but the first of a handle -/
def popOf (h : Int) (l : List Wr) : List Wr := if idx h l < 0 then l else l.take (idx h l).toNat ++ l.drop ((idx h l).toNat + 1)

theorem fst_none (g : Nat) (B : Nat) (l : List Wr) (h : Int) (w : World) (hl : l.length ≤ 1000) (hb : BufAt w B g l) (hi : idx h l < 0) :
    Calls Try.prog 14 #[.pointer (some ⟨g, 0, none⟩), .int .i64 h] w fun e w' => e = .returned (.tuple #[.agg #[.int .i64 0, .int .i64 0, .string ⟨#[]⟩], .bool false]) ∧ Below w.heap.size w w' := by
  obtain ⟨v, hg, hBg, hown⟩ := hb
  have HI := hide (show idx h l = -1 by rcases idx_lo h l with h1 | h1 <;> omega)
  clear hi
  go_enter Try.func14, Try.ntmps14
  go_wp2_with fail
  refine (first_any B v l h g _ hl (hown.alloc _) (hg.alloc _)).mono ?_
  rintro e w1 ⟨rfl, hb1⟩
  rw [HI.out]
  obtain ⟨b0, b1, b2, z0, z1, z2⟩ := blk3 (box_below hb1)
  go_wp2
  refine bodyPost_ret (v := .tuple #[.agg #[.int .i64 0, .int .i64 0, .string ⟨#[]⟩], .bool false]) (by simp [results, Try.results14, go_sem, b0, b1, b2]) rfl ⟨rfl, ?_⟩
  exact ((Below.refl _ _).alloc (Nat.le_refl _) _).trans (((((hb1.mono (by simp))).setCell (by simp) _).setCell (by simp) _).setCell (by simp) _)

theorem fst_some (g : Nat) (B : Nat) (l : List Wr) (h : Int) (w : World) (hl : l.length ≤ 1000) (hb : BufAt w B g l) (k : Nat) (hi : idx h l = k) (x : Wr) (hx : l[k]? = some x) :
    Calls Try.prog 14 #[.pointer (some ⟨g, 0, none⟩), .int .i64 h] w fun e w' => e = .returned (.tuple #[.agg #[.int .i64 x.h, .int .i64 x.o, .string x.s], .bool true]) ∧ Below w.heap.size w w' := by
  obtain ⟨v, hg, hBg, hown⟩ := hb
  have hk : k < l.length := (List.getElem?_eq_some_iff.1 hx).1
  obtain ⟨g', cap', rfl, _, hgs, _, _⟩ := hown.form (by omega)
  obtain ⟨q0, q1, q2⟩ := cellsOf_get l k x hx
  have HI := hide hi
  clear hi hx
  go_enter Try.func14, Try.ntmps14
  go_wp2_with fail
  refine (first_any B _ l h g _ hl (hown.alloc _) (hg.alloc _)).mono ?_
  rintro e w1 ⟨rfl, hb1⟩
  rw [HI.out]
  have hown1 := (hown.alloc (.cells #[.int .i64 0, .int .i64 0, .string ⟨#[]⟩] 30)).below hb1
  have hg1 := (hg.alloc (.cells #[.int .i64 0, .int .i64 0, .string ⟨#[]⟩] 30)).below hb1 (by simp; have := hg.lt; omega)
  have c : ∀ j u, (cellsOf l)[j]? = some u → w1.cell? ⟨g', j, none⟩ = some u := fun j u hu => by simpa [Addr.add_lit] using hown1.cells (g := g') rfl j u hu
  have c0 := c _ _ q0
  have c1 := c _ _ q1
  have c2 := c _ _ q2
  have cg := hg1.one
  obtain ⟨b0, b1, b2, z0, z1, z2⟩ := blk3 (box_below hb1)
  clear c q0 q1 q2 hg1 hown1
  go_wp2
  refine bodyPost_ret (v := .tuple #[.agg #[.int .i64 x.h, .int .i64 x.o, .string x.s], .bool true]) (by simp [results, Try.results14, go_sem, b0, b1, b2]) rfl ⟨rfl, ?_⟩
  exact ((Below.refl _ _).alloc (Nat.le_refl _) _).trans (((((hb1.mono (by simp))).setCell (by simp) _).setCell (by simp) _).setCell (by simp) _)

theorem pop_none (g : Nat) (B : Nat) (l : List Wr) (h : Int) (w : World) (hl : l.length ≤ 1000) (hb : BufAt w B g l) (hi : idx h l < 0) :
    Calls Try.prog 13 #[.pointer (some ⟨g, 0, none⟩), .int .i64 h] w fun e w' => e = .returned (.bool false) ∧ Below w.heap.size w w' := by
  obtain ⟨v, hg, hBg, hown⟩ := hb
  have HI := hide (show idx h l = -1 by rcases idx_lo h l with h1 | h1 <;> omega)
  clear hi
  go_enter Try.func13, Try.ntmps13
  go_wp2_with fail
  refine (first_any B v l h g _ hl hown hg).mono ?_
  rintro e w1 ⟨rfl, hb1⟩
  rw [HI.out]
  go_wp2
  go_ret
  exact ⟨rfl, hb1⟩

theorem own_pop {w : World} {B k : Nat} {v : Value} {l : List Wr} (hk : k < l.length) (h : Own w B 30 3 v (k + (l.length - (k + 1))) ((cellsOf l).take (k * 3) ++ cellsOf (l.drop (k + 1)))) : Own w B 30 3 v (l.take k ++ l.drop (k + 1)).length (cellsOf (l.take k ++ l.drop (k + 1))) := by
  rw [cellsOf_append, ← cellsOf_take, show (l.take k ++ l.drop (k + 1)).length = k + (l.length - (k + 1)) by rw [List.length_append, List.length_take, List.length_drop]; omega]
  exact h
theorem BufAt.below {B g : Nat} {w w' : World} {l : List Wr} (h : BufAt w B g l) (hb : Below w.heap.size w w') : BufAt w' B g l := by
  obtain ⟨v, hg, hBg, hown⟩ := h
  exact ⟨v, hg.below hb hg.lt, hBg, hown.below hb⟩

/-- beside the buffer's own block and its row all that was there is as it was -/
def Aside (g : Nat) (w w' : World) : Prop := ∀ k v, Blk w g 55 #[v] → v.ownBlock ≠ some k → k ≠ g → k < w.heap.size → w'.heap[k]? = w.heap[k]?
theorem Aside.cell {g : Nat} {w w' : World} (h : Aside g w w') {B : Nat} {l : List Wr} {w0 : World} (hb : BufAt w0 B g l) (hbel : Below w0.heap.size w0 w) {p : Addr} (hp : w0.heap.size ≤ p.block) (hl : p.block < w.heap.size) : w'.cell? p = w.cell? p := by
  obtain ⟨v, hg, hBg, hown⟩ := hb
  refine World.cell?_of_block (w := w) (h p.block v (hg.below hbel hg.lt) (fun e => ?_) (by have := hg.lt; omega) hl)
  have := (hown.lt _ e).2
  omega
theorem aside_end {g g' : Nat} {v : Value} {w w1 w2 : World} (hg : Blk w g 55 #[v]) (hv : v.ownBlock = some g') (hb : Below w.heap.size w w1) (hg1 : w1.drew.grownBy w2 (some g')) (u : Value) : Aside g w (w2.setCell ⟨g, 0, none⟩ u) := by
  intro k v' hv' hne hkg hk
  have e : v' = v := by
    unfold Blk at hg hv'
    rw [hg] at hv'
    injection hv' with h
    injection h with h
    simpa using h.symm
  subst e
  rw [Below.heap_setCell _ _ _ _ hkg, hg1.block k (by have := hb.size; simp; omega) (fun e => hne (by rw [hv, e]))]
  exact hb.block k hk

set_option maxHeartbeats 400000 in
theorem pop_some (g : Nat) (B : Nat) (l : List Wr) (h : Int) (w : World) (hl : l.length ≤ 1000) (hb : BufAt w B g l) (k : Nat) (hi : idx h l = k) (hk : k < l.length) :
    Calls Try.prog 13 #[.pointer (some ⟨g, 0, none⟩), .int .i64 h] w fun e w' => e = .returned (.bool true) ∧ BufAt w' B g (l.take k ++ l.drop (k + 1)) ∧ Fr [55, 30] B w w' ∧ Aside g w w' := by
  obtain ⟨i0, hi0, hz0, hz1, hz2⟩ := info_parts Try.info30
  obtain ⟨v, hg, hBg, hown⟩ := hb
  obtain ⟨g', cap, rfl, _, hgs, hlc, hcm⟩ := hown.form (by omega)
  have hm : cap ≤ 9223372036854775807 := by unfold maxLen at hcm; omega
  have HI := hide hi
  clear hi
  go_enter Try.func13, Try.ntmps13
  go_wp2_with fail
  refine (first_any B _ l h g _ hl hown hg).mono ?_
  rintro e w1 ⟨rfl, hb1⟩
  rw [HI.out]
  have hG := hg.below hb1 hg.lt
  have hO := hown.below hb1
  have hC := hO.cut (k := k) (by omega)
  have cg := hG.one
  have hsz := hb1.size
  obtain ⟨A, hA, hnews⟩ : ∃ A : Addr, (if cap = k + 1 then some (⟨g', 0, none⟩ : Addr) else some ⟨g', (k + 1) * 3, none⟩) = some A ∧ Hid (0 < l.length - (k + 1) → ∃ a, some A = some a ∧ ∀ j u, (cellsOf (l.drop (k + 1)))[j]? = some u → w1.drew.cell? (a.add j) = some u) := by
    by_cases hc : cap = k + 1
    · exact ⟨_, if_pos hc, hide fun h0 => by omega⟩
    · refine ⟨_, if_neg hc, hide fun _ => ⟨_, rfl, fun j u hu => ?_⟩⟩
      rw [← cellsOf_drop, List.getElem?_drop] at hu
      have := hO.cells (g := g') rfl _ u hu
      rw [Addr.add_lit] at this
      rw [Addr.add_lit]
      simpa using this
  have hBs : B ≤ w1.heap.size := by have := hO.lt g' rfl; omega
  have HG : Hid (Blk w1.drew g 55 #[.slice (some ⟨g', 0, none⟩) l.length cap]) := hide hG
  have HC : Hid (Own w1.drew B 30 3 (.slice (some ⟨g', 0, none⟩) k k) k ((cellsOf l).take (k * 3))) := hide hC
  have n1 : Hid ((cellsOf (l.drop (k + 1))).length = (l.length - (k + 1)) * 3) := hide (by rw [cellsOf_length, List.length_drop])
  have n2 : Hid (∀ u ∈ cellsOf (l.drop (k + 1)), u.oneCell' = true) := hide (cellsOf_one _)
  have n3 : k + (l.length - (k + 1)) ≤ maxLen := by unfold maxLen; omega
  have n4 : (k + (l.length - (k + 1))) * 32 ≤ 140737488355328 := by omega
  have hwr : IntKind.i64.wrap ((k : Int) + 1) = (k : Int) + 1 := by rw [IntKind.wrap_i64]; omega
  have hkc : k ≤ cap := by omega
  have hp0 : (0 : Int) ≤ (k : Int) + 1 := by omega
  have hp1 : (k : Int) + 1 ≤ (l.length : Int) := by omega
  have hp2 : ((k : Int) + 1).toNat = k + 1 := by omega
  have hfr : Hid (Fr [55, 30] B w w1.drew) := hide (Fr.of_below hb1).drew
  have HS := hide hg
  have HB1 := hide hb1
  clear hG hO hC hg hown hb1
  go_wp2_with fail
  go_region_law ((refine step_append_Own _ rfl (.tmp 18) (.tmp 25) 50 rfl B 30 i0 _ 3 32 Try.underlying50 hi0 hz0 hz1 hz2 rfl (by decide) (.slice (some ⟨g', 0, none⟩) k k) k ((cellsOf l).take (k * 3)) rfl HC.out (some A) (l.length - (k + 1)) (cap - (k + 1)) (cellsOf (l.drop (k + 1))) rfl n1.out hnews.out n2.out n3 n4 hBs ?_); intro v' w2 hown1 hg1 _; obtain ⟨A2, cap2, hv2, _, _⟩ := hown1.shape; have hE := hide (buf_end HG.out hBg HC.out hfr.out hown1 hg1); subst hv2; have c1 := hE.out.1.one; have f1 := hE.out.1.frozen 0; have HG1 := hide hg1)
  all_goals go_wp2
  all_goals go_ret
  all_goals exact ⟨rfl, ⟨_, hE.out.2.1, hBg, own_pop (by omega) hE.out.2.2.1⟩, hE.out.2.2.2, aside_end HS.out rfl HB1.out HG1.out _⟩

theorem pop_aside (B g : Nat) (l : List Wr) (h : Int) (w : World) (hb : BufAt w B g l) (hl : l.length ≤ 1000) :
    Calls Try.prog 13 #[.pointer (some ⟨g, 0, none⟩), .int .i64 h] w fun e w' => e = .returned (.bool (decide (0 ≤ idx h l))) ∧ BufAt w' B g (popOf h l) ∧ Fr [55, 30] B w w' ∧ Aside g w w' := by
  unfold popOf
  rcases idx_lo h l with hi | ⟨hi, hj⟩
  · simp only [hi]
    exact (pop_none g B l h w hl hb (by omega)).mono fun e w' ⟨he, hbb⟩ => ⟨he, hb.below hbb, Fr.of_below hbb, fun k _ _ _ _ hk => hbb.block k hk⟩
  · obtain ⟨k, hk⟩ := Int.eq_ofNat_of_zero_le hi
    have e1 : ¬ ((k : Int) < 0) := by omega
    simp only [hk, if_neg e1, Int.toNat_natCast]
    exact (pop_some g B l h w hl hb k hk (by omega)).mono fun e w' ⟨he, hbb⟩ => ⟨by rw [he]; simp, hbb⟩
theorem pop_any (B g : Nat) (l : List Wr) (h : Int) (w : World) (hb : BufAt w B g l) (hl : l.length ≤ 1000) :
    Calls Try.prog 13 #[.pointer (some ⟨g, 0, none⟩), .int .i64 h] w fun e w' => e = .returned (.bool (decide (0 ≤ idx h l))) ∧ BufAt w' B g (popOf h l) ∧ Fr [55, 30] B w w' :=
  (pop_aside B g l h w hb hl).mono fun e w' ⟨h1, h2, h3, _⟩ => ⟨h1, h2, h3⟩

/-- what First answers -/
def fstVal (h : Int) (l : List Wr) : Value := match firstOf h l with
  | none => .tuple #[.agg #[.int .i64 0, .int .i64 0, .string ⟨#[]⟩], .bool false]
  | some x => .tuple #[.agg #[.int .i64 x.h, .int .i64 x.o, .string x.s], .bool true]
theorem fst_any (B g : Nat) (l : List Wr) (h : Int) (w : World) (hb : BufAt w B g l) (hl : l.length ≤ 1000) :
    Calls Try.prog 14 #[.pointer (some ⟨g, 0, none⟩), .int .i64 h] w fun e w' => e = .returned (fstVal h l) ∧ Below w.heap.size w w' := by
  unfold fstVal firstOf
  rcases idx_lo h l with hi | ⟨hi, hj⟩
  · simp only [hi]
    exact fst_none g B l h w hl hb (by omega)
  · obtain ⟨k, hk⟩ := Int.eq_ofNat_of_zero_le hi
    have e1 : ¬ ((k : Int) < 0) := by omega
    have e2 : k < l.length := by omega
    simp only [hk, if_neg e1, Int.toNat_natCast, List.getElem?_eq_getElem e2]
    exact fst_some g B l h w hl hb k hk _ (List.getElem?_eq_getElem e2)
end Go.Proofs.Ytimdnooakpbkpaa

/- The law BufferPlays: the buffer and the reference's, side by side. -/
import Derived.Test.YtimdnooakpbkpaaRefC
import Derived.Test.YtimdnooakpbkpaaSame
import Derived.Deep.RegionHeld3
namespace Go.Proofs.Ytimdnooakpbkpaa
open Go.RowKit
set_option linter.unusedVariables false

/-- the buffer and the reference's, side by side -/
structure BP (w0 : World) (gb gq : Nat) (l q : List Wr) (w : World) : Prop where
  buf : BufAt w w0.heap.size gb l
  ref : RbAt w w0.heap.size gq q
  bel : Below w0.heap.size w0 w
section
variable {w0 w w' : World} {gb gq : Nat} {l q l' q' : List Wr}
theorem BP.one (h : BP w0 gb gq l q w) (hb : BufAt w' w0.heap.size gb l') (hf : Fr [55, 30] w0.heap.size w w') : BP w0 gb gq l' q w' :=
  ⟨hb, h.ref.fr hf (by decide) (by decide), h.bel.trans (hf.below h.bel.size)⟩
theorem BufAt.grown {B r : Nat} {v : Value} (h : BufAt w B gb l) (hr : Blk w r 43 #[v]) (hg : w.grownBy w' (some r)) : BufAt w' B gb l := by
  obtain ⟨v', h1, h2, h3⟩ := h
  refine ⟨v', h1.grown hg (fun e => ?_), h2, ?_⟩
  · injection e with e
    subst e
    unfold Blk at h1 hr
    rw [h1] at hr
    injection hr with hr
    injection hr with _ h2
    cases h2
  · refine ⟨h3.1, ?_⟩
    rcases h3.2 with k | ⟨g', cap, cur, k1, k2, k3, rest⟩
    · exact .inl k
    · refine .inr ⟨g', cap, cur, k1, k2, (hg.block g' (Array.getElem?_eq_some_iff.1 k3).1 (fun e => ?_)).trans k3, rest⟩
      injection e with e
      subst e
      unfold Blk at hr
      rw [k3] at hr
      injection hr with hr
      injection hr with _ h2
      cases h2
theorem BP.two (h : BP w0 gb gq l q w) (hb : RbAt w' w0.heap.size gq q') (hg : w.grownBy w' (some gq)) : BP w0 gb gq l q' w' := by
  obtain ⟨v, h1, h2, h3⟩ := h.ref
  exact ⟨h.buf.grown h1 hg, hb, h.bel.grown hg h.bel.size (fun k hk => by injection hk with hk; omega)⟩
theorem BP.below (h : BP w0 gb gq l q w) (hb : Below w.heap.size w w') : BP w0 gb gq l q w' := ⟨h.buf.below hb, h.ref.below hb, h.bel.trans (hb.mono h.bel.size)⟩
theorem BP.alloc (h : BP w0 gb gq l q w) (o : Obj) : BP w0 gb gq l q (w.alloc o) := h.below ((Below.refl _ _).alloc (Nat.le_refl _) _)
theorem BP.drew (h : BP w0 gb gq l q w) : BP w0 gb gq l q w.drew := h.below (Below.refl _ _).drew
theorem BP.drewN (h : BP w0 gb gq l q w) (n : Nat) : BP w0 gb gq l q (w.drewN n) := ⟨h.buf, h.ref, ⟨h.bel.os, h.bel.tape, h.bel.output, h.bel.size, h.bel.block⟩⟩
theorem BP.box {b : Nat} {t : TypeId} {cs : Array Value} (h : BP w0 gb gq l q w) (hb : Blk w b t cs) (ht : t ≠ 43) (hg : w.grownBy w' (some gq)) : Blk w' b t cs := by
  obtain ⟨v, h1, h2, h3⟩ := h.ref
  refine hb.grown hg (fun e => ?_)
  injection e with e
  subst e
  unfold Blk at h1 hb
  rw [h1] at hb
  injection hb with hb
  injection hb with _ h2
  exact ht h2.symm
end
def BpRel (w : World) (gb gq : Nat) (n : Nat) (i : Value) (wr : World) : Prop := ∃ (j : Nat) (l : List Wr), j ≤ n ∧ i = .int .i64 j ∧ l.length ≤ 16 ∧ BP w gb gq l l wr
theorem fst_form (h : Int) (l : List Wr) : ∃ (y : Wr) (b : Bool), fstVal h l = .tuple #[.agg #[.int .i64 y.h, .int .i64 y.o, .string y.s], .bool b] := by
  unfold fstVal
  cases firstOf h l with
  | none => exact ⟨⟨0, 0, ⟨#[]⟩⟩, false, rfl⟩
  | some x => exact ⟨x, true, rfl⟩
theorem ref_cell {w : World} {B g : Nat} {l : List Wr} (h : RbAt w B g l) : ∃ A cap, Blk w g 43 #[.slice A l.length cap] ∧ Own w B 45 3 (.slice A l.length cap) l.length (cellsOf l) := by
  obtain ⟨v, k1, k2, k3⟩ := h
  obtain ⟨A, cap, rfl, _, _⟩ := k3.shape
  exact ⟨A, cap, k1, k3⟩
theorem below_drewN_ {B : Nat} {w w' : World} (h : Below B w w') (n : Nat) : Below B w (w'.drewN n) := ⟨h.os, h.tape, h.output, h.size, h.block⟩
theorem addTo_le (l : List Wr) (x : Wr) (hl : l.length ≤ 16) : (addTo l x).length ≤ 16 := addTo_length l x hl

theorem look_cells {w : World} {b8 b10 gq : Nat} {y : Wr} {v : Value} (h1 : Blk w b8 30 #[.int .i64 y.h, .int .i64 y.o, .string y.s]) (h2 : Blk w b10 45 #[.int .i64 y.h, .int .i64 y.o, .string y.s]) (h3 : Blk w gq 43 #[v]) :
    (w.cell? ⟨b8, 0, none⟩ = some (.int .i64 y.h) ∧ w.cell? ⟨b8, 1, none⟩ = some (.int .i64 y.o) ∧ w.cell? ⟨b8, 2, none⟩ = some (.string y.s)) ∧ (w.cell? ⟨b10, 0, none⟩ = some (.int .i64 y.h) ∧ w.cell? ⟨b10, 1, none⟩ = some (.int .i64 y.o) ∧ w.cell? ⟨b10, 2, none⟩ = some (.string y.s)) ∧ w.cell? ⟨gq, 0, none⟩ = some v :=
  ⟨⟨h1.cell 0, h1.cell 1, h1.cell 2⟩, ⟨h2.cell 0, h2.cell 1, h2.cell 2⟩, h3.cell 0⟩
theorem look_cells_drewN {w : World} {b8 b10 gq : Nat} {y : Wr} {v : Value} (m : Nat) (h : (w.cell? ⟨b8, 0, none⟩ = some (.int .i64 y.h) ∧ w.cell? ⟨b8, 1, none⟩ = some (.int .i64 y.o) ∧ w.cell? ⟨b8, 2, none⟩ = some (.string y.s)) ∧ (w.cell? ⟨b10, 0, none⟩ = some (.int .i64 y.h) ∧ w.cell? ⟨b10, 1, none⟩ = some (.int .i64 y.o) ∧ w.cell? ⟨b10, 2, none⟩ = some (.string y.s)) ∧ w.cell? ⟨gq, 0, none⟩ = some v) :
    ((w.drewN m).cell? ⟨b8, 0, none⟩ = some (.int .i64 y.h) ∧ (w.drewN m).cell? ⟨b8, 1, none⟩ = some (.int .i64 y.o) ∧ (w.drewN m).cell? ⟨b8, 2, none⟩ = some (.string y.s)) ∧ ((w.drewN m).cell? ⟨b10, 0, none⟩ = some (.int .i64 y.h) ∧ (w.drewN m).cell? ⟨b10, 1, none⟩ = some (.int .i64 y.o) ∧ (w.drewN m).cell? ⟨b10, 2, none⟩ = some (.string y.s)) ∧ (w.drewN m).cell? ⟨gq, 0, none⟩ = some v := h

set_option maxRecDepth 100000 in
set_option maxHeartbeats 4000000 in
theorem bplays_any (A : Option Addr) (cap : Nat) (ss : List St) (w : World) (ha : Arg w w.heap.size A ss.length (stCells ss)) (hl : ss.length ≤ 9223372036854775807) :
    Calls Try.prog 4 #[.slice A ss.length cap] w fun e w' => e = .returned (.bool true) ∧ Below w.heap.size w w' := by
  go_enter Try.func4, Try.ntmps4
  go_wp2_with fail
  refine (new_any _).mono ?_
  rintro e w1 ⟨rfl, rfl⟩
  have HP0 : Hid (BP w w.heap.size (w.heap.size + 1) [] [] ((w.alloc (.cells #[.slice none 0 0] 55)).alloc (.cells #[.slice none 0 0] 43))) := hide
    ⟨(buf_new w).alloc _, ⟨.slice none 0 0, Blk.new' (w.alloc (.cells #[.slice none 0 0] 55)) 43 _ _ (by simp), by omega, Own.nil _ _ _ _⟩, ((Below.refl _ _).alloc (Nat.le_refl _) _).alloc (by simp) _⟩
  go_wp2_with fail
  refine (fair_any w.heap.size A cap ss _ (ha.below HP0.out.bel) hl).mono ?_
  rintro e w3 ⟨rfl, rfl⟩
  by_cases hfair : fairB ss = true
  · rw [hfair]
    go_wp2_with fail
    have hgbq : w.heap.size < w.heap.size + 1 := by omega
    generalize w.heap.size + 1 = gq at *
    go_loopw [5] (fun i wr => BpRel w w.heap.size gq ss.length i wr) (fun i _ => ss.length - (intOf i).toNat)
    case atStart => exact ⟨0, _, Nat.zero_le _, rfl, by simp, HP0.out⟩
    case round =>
      clear HP0
      obtain ⟨j, l, hj, rfl, hl16, hpp⟩ := hrel
      by_cases hlt : j < ss.length
      · obtain ⟨b, off, rfl, hbb, hcs⟩ := ha.below hpp.bel (by omega)
        have hx : ss[j]? = some ss[j] := List.getElem?_eq_getElem hlt
        generalize ss[j] = x at hx
        obtain ⟨q0, q1, q2, q3⟩ := stCells_get ss j x hx
        have c0 := hcs _ _ q0
        have c1 := hcs _ _ q1
        have c2 := hcs _ _ q2
        have c3 := hcs _ _ q3
        simp only [← Nat.add_assoc] at c1 c2 c3
        clear q0 q1 q2 q3 hcs hx ha
        obtain ⟨xk, ⟨xh, xo, xs⟩⟩ := x
        simp only at c0 c1 c2 c3
        by_cases hx0 : xk = 0
        · subst hx0
          have HB0 : Hid (Blk (wr.alloc (.cells #[.int .i64 0, .int .i64 xh, .int .i64 xo, .string xs] 32)) wr.heap.size 32 #[.int .i64 0, .int .i64 xh, .int .i64 xo, .string xs]) := hide (Blk.new wr 32 _)
          have HP0 : Hid (BP w w.heap.size gq l l (wr.alloc (.cells #[.int .i64 0, .int .i64 xh, .int .i64 xo, .string xs] 32))) := hide (hpp.alloc _)
          clear hpp
          have HD0 : Hid (BP w w.heap.size gq l l (wr.alloc (.cells #[.int .i64 0, .int .i64 xh, .int .i64 xo, .string xs] 32)).drew) := hide HP0.out.drew
          have HE0 : Hid (Blk (wr.alloc (.cells #[.int .i64 0, .int .i64 xh, .int .i64 xo, .string xs] 32)).drew wr.heap.size 32 #[.int .i64 0, .int .i64 xh, .int .i64 xo, .string xs]) := hide HB0.out
          have K0 : Hid ((wr.alloc (.cells #[.int .i64 0, .int .i64 xh, .int .i64 xo, .string xs] 32)).drew.cell? ⟨wr.heap.size, 1, none⟩ = some (.int .i64 xh) ∧ (wr.alloc (.cells #[.int .i64 0, .int .i64 xh, .int .i64 xo, .string xs] 32)).drew.cell? ⟨wr.heap.size, 2, none⟩ = some (.int .i64 xo) ∧ (wr.alloc (.cells #[.int .i64 0, .int .i64 xh, .int .i64 xo, .string xs] 32)).drew.cell? ⟨wr.heap.size, 3, none⟩ = some (.string xs)) := hide HE0.out.four.2
          have hl16' : Hid (l.length ≤ 16) := hide hl16
          go_wp2_with fail
          go_region_held3 (fun w' => w'.cell? ⟨wr.heap.size, 1, none⟩ = some (.int .i64 xh) ∧ w'.cell? ⟨wr.heap.size, 2, none⟩ = some (.int .i64 xo) ∧ w'.cell? ⟨wr.heap.size, 3, none⟩ = some (.string xs)) (first | (with_reducible exact K2.out) | (with_reducible exact K1.out) | (with_reducible exact K0.out)) ((first | (go_at_call 11; refine (add_any w.heap.size w.heap.size l ⟨xh, xo, xs⟩ _ HD0.out.buf hl16'.out).mono ?_; rintro e w3 ⟨rfl, hb3, hf3⟩; have HP1 := hide (HD0.out.one hb3 hf3); have HB1 := hide (HE0.out.fr hf3 (by decide)); have K1 := hide HB1.out.four.2; clear hb3 hf3) | (go_at_call 15; refine (radd_any w.heap.size gq l ⟨xh, xo, xs⟩ _ HP1.out.ref hl16'.out).mono ?_; rintro e w4 ⟨rfl, hb4, hf4⟩; have HP := hide (HP1.out.two hb4 hf4); have HB := hide (HP1.out.box HB1.out (by decide) hf4); have K2 := hide HB.out.four.2; clear hb4 hf4)))
          have HL := hide (addTo_le l ⟨xh, xo, xs⟩ hl16'.out)
          clear K0 K1 K2 HP0 HB0 HP1 HB1 HD0 HE0
          obtain ⟨y, yb, hy⟩ := fst_form xh (addTo l ⟨xh, xo, xs⟩)
          have HY := hide hy
          clear hy
          have hL1 : Hid ((addTo l ⟨xh, xo, xs⟩).length ≤ 1000) := hide (by have := HL.out; omega)
          go_wp2_with fail
          refine (fst_any w.heap.size w.heap.size (addTo l ⟨xh, xo, xs⟩) xh _ HP.out.buf hL1.out).mono ?_
          rintro e w5 ⟨rfl, hf5⟩
          rw [HY.out]
          have HP5 := hide (HP.out.below hf5)
          clear hf5
          go_wp2_with fail
          have HP5' := hide (HP5.out.alloc (.cells #[.int .i64 y.h, .int .i64 y.o, .string y.s] 30))
          have HB5 := hide (Blk.new w5 30 #[.int .i64 y.h, .int .i64 y.o, .string y.s])
          refine (rfst_any w.heap.size gq (addTo l ⟨xh, xo, xs⟩) xh _ HP5'.out.ref hL1.out).mono ?_
          rintro e w6 ⟨rfl, hf6⟩
          rw [HY.out]
          have HP6 : Hid (BP w w.heap.size gq (addTo l ⟨xh, xo, xs⟩) (addTo l ⟨xh, xo, xs⟩) (w6.alloc (.cells #[.int .i64 y.h, .int .i64 y.o, .string y.s] 45)).drew) := hide (((HP5'.out.below hf6).alloc _).drew)
          have HB6 : Hid (Blk (w6.alloc (.cells #[.int .i64 y.h, .int .i64 y.o, .string y.s] 45)).drew w5.heap.size 30 #[.int .i64 y.h, .int .i64 y.o, .string y.s]) := hide ((HB5.out.below hf6 HB5.out.lt).alloc _)
          have HC6 : Hid (Blk (w6.alloc (.cells #[.int .i64 y.h, .int .i64 y.o, .string y.s] 45)).drew w6.heap.size 45 #[.int .i64 y.h, .int .i64 y.o, .string y.s]) := hide (Blk.new w6 45 _)
          clear hf6
          obtain ⟨Aq, capq, hq1, hq2⟩ := ref_cell HP6.out.ref
          have HQ1 := hide hq1
          have HQ2 := hide hq2
          clear hq1 hq2
          have K6 : Hid (((w6.alloc (.cells #[.int .i64 y.h, .int .i64 y.o, .string y.s] 45)).drew.cell? ⟨w5.heap.size, 0, none⟩ = some (.int .i64 y.h) ∧ (w6.alloc (.cells #[.int .i64 y.h, .int .i64 y.o, .string y.s] 45)).drew.cell? ⟨w5.heap.size, 1, none⟩ = some (.int .i64 y.o) ∧ (w6.alloc (.cells #[.int .i64 y.h, .int .i64 y.o, .string y.s] 45)).drew.cell? ⟨w5.heap.size, 2, none⟩ = some (.string y.s)) ∧ ((w6.alloc (.cells #[.int .i64 y.h, .int .i64 y.o, .string y.s] 45)).drew.cell? ⟨w6.heap.size, 0, none⟩ = some (.int .i64 y.h) ∧ (w6.alloc (.cells #[.int .i64 y.h, .int .i64 y.o, .string y.s] 45)).drew.cell? ⟨w6.heap.size, 1, none⟩ = some (.int .i64 y.o) ∧ (w6.alloc (.cells #[.int .i64 y.h, .int .i64 y.o, .string y.s] 45)).drew.cell? ⟨w6.heap.size, 2, none⟩ = some (.string y.s)) ∧ (w6.alloc (.cells #[.int .i64 y.h, .int .i64 y.o, .string y.s] 45)).drew.cell? ⟨gq, 0, none⟩ = some (.slice Aq (addTo l ⟨xh, xo, xs⟩).length capq)) := hide (look_cells HB6.out HC6.out HQ1.out)
          go_wp2_with fail
          go_region_held3 (fun w' => (w'.cell? ⟨w5.heap.size, 0, none⟩ = some (.int .i64 y.h) ∧ w'.cell? ⟨w5.heap.size, 1, none⟩ = some (.int .i64 y.o) ∧ w'.cell? ⟨w5.heap.size, 2, none⟩ = some (.string y.s)) ∧ (w'.cell? ⟨w6.heap.size, 0, none⟩ = some (.int .i64 y.h) ∧ w'.cell? ⟨w6.heap.size, 1, none⟩ = some (.int .i64 y.o) ∧ w'.cell? ⟨w6.heap.size, 2, none⟩ = some (.string y.s)) ∧ w'.cell? ⟨gq, 0, none⟩ = some (.slice Aq (addTo l ⟨xh, xo, xs⟩).length capq)) (first | (with_reducible exact K8.out) | (with_reducible exact K7.out) | (with_reducible exact K6.out)) ((first | (go_at_call 19; refine (count_any w.heap.size w.heap.size (addTo l ⟨xh, xo, xs⟩) _ HP6.out.buf).mono ?_; rintro e w7 ⟨rfl, rfl⟩) | (go_at_call 21; refine (all_any w.heap.size w.heap.size (addTo l ⟨xh, xo, xs⟩) _ HP6.out.buf hL1.out).mono ?_; rintro e w7 ⟨v7, rfl, ho7, hf7⟩; have HP7 := hide (HP6.out.below hf7); have K7 := hide (look_cells (HB6.out.below hf7 HB6.out.lt) (HC6.out.below hf7 HC6.out.lt) (HQ1.out.below hf7 HQ1.out.lt)); have HO7 := hide ho7; have HQ7 := hide (HQ2.out.below hf7); clear ho7 hf7) | (go_at_call 20; refine (same_any _ _ _ _ (addTo l ⟨xh, xo, xs⟩) _ HO7.out HQ7.out hL1.out).mono ?_; rintro e w8 ⟨rfl, m8, rfl⟩; have HP8 := hide (HP7.out.drewN m8); have K8 := hide (look_cells_drewN m8 K7.out))))
          go_wp2
          go_roundw
          case rel => exact ⟨j + 1, (addTo l ⟨xh, xo, xs⟩), by omega, by go_num, HL.out, HP8.out⟩
          case measure => simp [intOf]; omega
        by_cases hx1 : xk = 1
        · subst hx1
          have HB0 : Hid (Blk (wr.alloc (.cells #[.int .i64 1, .int .i64 xh, .int .i64 xo, .string xs] 32)) wr.heap.size 32 #[.int .i64 1, .int .i64 xh, .int .i64 xo, .string xs]) := hide (Blk.new wr 32 _)
          have HP0 : Hid (BP w w.heap.size gq l l (wr.alloc (.cells #[.int .i64 1, .int .i64 xh, .int .i64 xo, .string xs] 32))) := hide (hpp.alloc _)
          clear hpp
          have hl16' : Hid (l.length ≤ 1000) := hide (by omega)
          go_wp2_with fail
          refine (pop_any w.heap.size w.heap.size l xh _ HP0.out.buf hl16'.out).mono ?_
          rintro e w3 ⟨rfl, hb3, hf3⟩
          have HP1 := hide (HP0.out.one hb3 hf3)
          clear hb3 hf3
          go_wp2_with fail
          refine (rpop_any w.heap.size gq l xh _ HP1.out.ref hl16'.out).mono ?_
          rintro e w4 ⟨rfl, hb4, hf4⟩
          have HP := hide (HP1.out.two hb4 hf4)
          have HL := hide (Nat.le_trans (popOf_length xh l) hl16)
          clear hb4 hf4 HP0 HB0 HP1
          obtain ⟨y, yb, hy⟩ := fst_form xh (popOf xh l)
          have HY := hide hy
          clear hy
          have hL1 : Hid ((popOf xh l).length ≤ 1000) := hide (by have := HL.out; omega)
          go_wp2_with fail
          refine (fst_any w.heap.size w.heap.size (popOf xh l) xh _ HP.out.buf hL1.out).mono ?_
          rintro e w5 ⟨rfl, hf5⟩
          rw [HY.out]
          have HP5 := hide (HP.out.below hf5)
          clear hf5
          go_wp2_with fail
          have HP5' := hide (HP5.out.alloc (.cells #[.int .i64 y.h, .int .i64 y.o, .string y.s] 30))
          have HB5 := hide (Blk.new w5 30 #[.int .i64 y.h, .int .i64 y.o, .string y.s])
          refine (rfst_any w.heap.size gq (popOf xh l) xh _ HP5'.out.ref hL1.out).mono ?_
          rintro e w6 ⟨rfl, hf6⟩
          rw [HY.out]
          have HP6 : Hid (BP w w.heap.size gq (popOf xh l) (popOf xh l) (w6.alloc (.cells #[.int .i64 y.h, .int .i64 y.o, .string y.s] 45)).drew) := hide (((HP5'.out.below hf6).alloc _).drew)
          have HB6 : Hid (Blk (w6.alloc (.cells #[.int .i64 y.h, .int .i64 y.o, .string y.s] 45)).drew w5.heap.size 30 #[.int .i64 y.h, .int .i64 y.o, .string y.s]) := hide ((HB5.out.below hf6 HB5.out.lt).alloc _)
          have HC6 : Hid (Blk (w6.alloc (.cells #[.int .i64 y.h, .int .i64 y.o, .string y.s] 45)).drew w6.heap.size 45 #[.int .i64 y.h, .int .i64 y.o, .string y.s]) := hide (Blk.new w6 45 _)
          clear hf6
          obtain ⟨Aq, capq, hq1, hq2⟩ := ref_cell HP6.out.ref
          have HQ1 := hide hq1
          have HQ2 := hide hq2
          clear hq1 hq2
          have K6 : Hid (((w6.alloc (.cells #[.int .i64 y.h, .int .i64 y.o, .string y.s] 45)).drew.cell? ⟨w5.heap.size, 0, none⟩ = some (.int .i64 y.h) ∧ (w6.alloc (.cells #[.int .i64 y.h, .int .i64 y.o, .string y.s] 45)).drew.cell? ⟨w5.heap.size, 1, none⟩ = some (.int .i64 y.o) ∧ (w6.alloc (.cells #[.int .i64 y.h, .int .i64 y.o, .string y.s] 45)).drew.cell? ⟨w5.heap.size, 2, none⟩ = some (.string y.s)) ∧ ((w6.alloc (.cells #[.int .i64 y.h, .int .i64 y.o, .string y.s] 45)).drew.cell? ⟨w6.heap.size, 0, none⟩ = some (.int .i64 y.h) ∧ (w6.alloc (.cells #[.int .i64 y.h, .int .i64 y.o, .string y.s] 45)).drew.cell? ⟨w6.heap.size, 1, none⟩ = some (.int .i64 y.o) ∧ (w6.alloc (.cells #[.int .i64 y.h, .int .i64 y.o, .string y.s] 45)).drew.cell? ⟨w6.heap.size, 2, none⟩ = some (.string y.s)) ∧ (w6.alloc (.cells #[.int .i64 y.h, .int .i64 y.o, .string y.s] 45)).drew.cell? ⟨gq, 0, none⟩ = some (.slice Aq (popOf xh l).length capq)) := hide (look_cells HB6.out HC6.out HQ1.out)
          go_wp2_with fail
          go_region_held3 (fun w' => (w'.cell? ⟨w5.heap.size, 0, none⟩ = some (.int .i64 y.h) ∧ w'.cell? ⟨w5.heap.size, 1, none⟩ = some (.int .i64 y.o) ∧ w'.cell? ⟨w5.heap.size, 2, none⟩ = some (.string y.s)) ∧ (w'.cell? ⟨w6.heap.size, 0, none⟩ = some (.int .i64 y.h) ∧ w'.cell? ⟨w6.heap.size, 1, none⟩ = some (.int .i64 y.o) ∧ w'.cell? ⟨w6.heap.size, 2, none⟩ = some (.string y.s)) ∧ w'.cell? ⟨gq, 0, none⟩ = some (.slice Aq (popOf xh l).length capq)) (first | (with_reducible exact K8.out) | (with_reducible exact K7.out) | (with_reducible exact K6.out)) ((first | (go_at_call 19; refine (count_any w.heap.size w.heap.size (popOf xh l) _ HP6.out.buf).mono ?_; rintro e w7 ⟨rfl, rfl⟩) | (go_at_call 21; refine (all_any w.heap.size w.heap.size (popOf xh l) _ HP6.out.buf hL1.out).mono ?_; rintro e w7 ⟨v7, rfl, ho7, hf7⟩; have HP7 := hide (HP6.out.below hf7); have K7 := hide (look_cells (HB6.out.below hf7 HB6.out.lt) (HC6.out.below hf7 HC6.out.lt) (HQ1.out.below hf7 HQ1.out.lt)); have HO7 := hide ho7; have HQ7 := hide (HQ2.out.below hf7); clear ho7 hf7) | (go_at_call 20; refine (same_any _ _ _ _ (popOf xh l) _ HO7.out HQ7.out hL1.out).mono ?_; rintro e w8 ⟨rfl, m8, rfl⟩; have HP8 := hide (HP7.out.drewN m8); have K8 := hide (look_cells_drewN m8 K7.out))))
          go_wp2
          go_roundw
          case rel => exact ⟨j + 1, (popOf xh l), by omega, by go_num, HL.out, HP8.out⟩
          case measure => simp [intOf]; omega
        by_cases hx2 : xk = 2
        · subst hx2
          have HB0 : Hid (Blk (wr.alloc (.cells #[.int .i64 2, .int .i64 xh, .int .i64 xo, .string xs] 32)) wr.heap.size 32 #[.int .i64 2, .int .i64 xh, .int .i64 xo, .string xs]) := hide (Blk.new wr 32 _)
          have HP0 : Hid (BP w w.heap.size gq l l (wr.alloc (.cells #[.int .i64 2, .int .i64 xh, .int .i64 xo, .string xs] 32))) := hide (hpp.alloc _)
          clear hpp
          have hl16' : Hid (l.length ≤ 1000) := hide (by omega)
          go_wp2_with fail
          refine (drop_any w.heap.size w.heap.size l xh _ HP0.out.buf hl16'.out).mono ?_
          rintro e w3 ⟨rfl, hb3, hf3⟩
          have HP1 := hide (HP0.out.one hb3 hf3)
          clear hb3 hf3
          go_wp2_with fail
          refine (rdrop_any w.heap.size gq l xh _ HP1.out.ref hl16'.out).mono ?_
          rintro e w4 ⟨rfl, hb4, hf4⟩
          have HP := hide (HP1.out.two hb4 hf4)
          have HL := hide (Nat.le_trans (dropOf_length xh l) hl16)
          clear hb4 hf4 HP0 HB0 HP1
          obtain ⟨y, yb, hy⟩ := fst_form xh (dropOf xh l)
          have HY := hide hy
          clear hy
          have hL1 : Hid ((dropOf xh l).length ≤ 1000) := hide (by have := HL.out; omega)
          go_wp2_with fail
          refine (fst_any w.heap.size w.heap.size (dropOf xh l) xh _ HP.out.buf hL1.out).mono ?_
          rintro e w5 ⟨rfl, hf5⟩
          rw [HY.out]
          have HP5 := hide (HP.out.below hf5)
          clear hf5
          go_wp2_with fail
          have HP5' := hide (HP5.out.alloc (.cells #[.int .i64 y.h, .int .i64 y.o, .string y.s] 30))
          have HB5 := hide (Blk.new w5 30 #[.int .i64 y.h, .int .i64 y.o, .string y.s])
          refine (rfst_any w.heap.size gq (dropOf xh l) xh _ HP5'.out.ref hL1.out).mono ?_
          rintro e w6 ⟨rfl, hf6⟩
          rw [HY.out]
          have HP6 : Hid (BP w w.heap.size gq (dropOf xh l) (dropOf xh l) (w6.alloc (.cells #[.int .i64 y.h, .int .i64 y.o, .string y.s] 45)).drew) := hide (((HP5'.out.below hf6).alloc _).drew)
          have HB6 : Hid (Blk (w6.alloc (.cells #[.int .i64 y.h, .int .i64 y.o, .string y.s] 45)).drew w5.heap.size 30 #[.int .i64 y.h, .int .i64 y.o, .string y.s]) := hide ((HB5.out.below hf6 HB5.out.lt).alloc _)
          have HC6 : Hid (Blk (w6.alloc (.cells #[.int .i64 y.h, .int .i64 y.o, .string y.s] 45)).drew w6.heap.size 45 #[.int .i64 y.h, .int .i64 y.o, .string y.s]) := hide (Blk.new w6 45 _)
          clear hf6
          obtain ⟨Aq, capq, hq1, hq2⟩ := ref_cell HP6.out.ref
          have HQ1 := hide hq1
          have HQ2 := hide hq2
          clear hq1 hq2
          have K6 : Hid (((w6.alloc (.cells #[.int .i64 y.h, .int .i64 y.o, .string y.s] 45)).drew.cell? ⟨w5.heap.size, 0, none⟩ = some (.int .i64 y.h) ∧ (w6.alloc (.cells #[.int .i64 y.h, .int .i64 y.o, .string y.s] 45)).drew.cell? ⟨w5.heap.size, 1, none⟩ = some (.int .i64 y.o) ∧ (w6.alloc (.cells #[.int .i64 y.h, .int .i64 y.o, .string y.s] 45)).drew.cell? ⟨w5.heap.size, 2, none⟩ = some (.string y.s)) ∧ ((w6.alloc (.cells #[.int .i64 y.h, .int .i64 y.o, .string y.s] 45)).drew.cell? ⟨w6.heap.size, 0, none⟩ = some (.int .i64 y.h) ∧ (w6.alloc (.cells #[.int .i64 y.h, .int .i64 y.o, .string y.s] 45)).drew.cell? ⟨w6.heap.size, 1, none⟩ = some (.int .i64 y.o) ∧ (w6.alloc (.cells #[.int .i64 y.h, .int .i64 y.o, .string y.s] 45)).drew.cell? ⟨w6.heap.size, 2, none⟩ = some (.string y.s)) ∧ (w6.alloc (.cells #[.int .i64 y.h, .int .i64 y.o, .string y.s] 45)).drew.cell? ⟨gq, 0, none⟩ = some (.slice Aq (dropOf xh l).length capq)) := hide (look_cells HB6.out HC6.out HQ1.out)
          go_wp2_with fail
          go_region_held3 (fun w' => (w'.cell? ⟨w5.heap.size, 0, none⟩ = some (.int .i64 y.h) ∧ w'.cell? ⟨w5.heap.size, 1, none⟩ = some (.int .i64 y.o) ∧ w'.cell? ⟨w5.heap.size, 2, none⟩ = some (.string y.s)) ∧ (w'.cell? ⟨w6.heap.size, 0, none⟩ = some (.int .i64 y.h) ∧ w'.cell? ⟨w6.heap.size, 1, none⟩ = some (.int .i64 y.o) ∧ w'.cell? ⟨w6.heap.size, 2, none⟩ = some (.string y.s)) ∧ w'.cell? ⟨gq, 0, none⟩ = some (.slice Aq (dropOf xh l).length capq)) (first | (with_reducible exact K8.out) | (with_reducible exact K7.out) | (with_reducible exact K6.out)) ((first | (go_at_call 19; refine (count_any w.heap.size w.heap.size (dropOf xh l) _ HP6.out.buf).mono ?_; rintro e w7 ⟨rfl, rfl⟩) | (go_at_call 21; refine (all_any w.heap.size w.heap.size (dropOf xh l) _ HP6.out.buf hL1.out).mono ?_; rintro e w7 ⟨v7, rfl, ho7, hf7⟩; have HP7 := hide (HP6.out.below hf7); have K7 := hide (look_cells (HB6.out.below hf7 HB6.out.lt) (HC6.out.below hf7 HC6.out.lt) (HQ1.out.below hf7 HQ1.out.lt)); have HO7 := hide ho7; have HQ7 := hide (HQ2.out.below hf7); clear ho7 hf7) | (go_at_call 20; refine (same_any _ _ _ _ (dropOf xh l) _ HO7.out HQ7.out hL1.out).mono ?_; rintro e w8 ⟨rfl, m8, rfl⟩; have HP8 := hide (HP7.out.drewN m8); have K8 := hide (look_cells_drewN m8 K7.out))))
          go_wp2
          go_roundw
          case rel => exact ⟨j + 1, (dropOf xh l), by omega, by go_num, HL.out, HP8.out⟩
          case measure => simp [intOf]; omega
        have n0 : (xk == 0) = false := by simp [hx0]
        have n1 : (xk == 1) = false := by simp [hx1]
        have n2 : (xk == 2) = false := by simp [hx2]
        clear hx0 hx1 hx2
        have HP : Hid (BP w w.heap.size gq l l (wr.alloc (.cells #[.int .i64 xk, .int .i64 xh, .int .i64 xo, .string xs] 32))) := hide (hpp.alloc _)
        have HL := hide hl16
        clear hpp
        obtain ⟨y, yb, hy⟩ := fst_form xh l
        have HY := hide hy
        clear hy
        have hL1 : Hid (l.length ≤ 1000) := hide (by have := HL.out; omega)
        go_wp2_with fail
        refine (fst_any w.heap.size w.heap.size l xh _ HP.out.buf hL1.out).mono ?_
        rintro e w5 ⟨rfl, hf5⟩
        rw [HY.out]
        have HP5 := hide (HP.out.below hf5)
        clear hf5
        go_wp2_with fail
        have HP5' := hide (HP5.out.alloc (.cells #[.int .i64 y.h, .int .i64 y.o, .string y.s] 30))
        have HB5 := hide (Blk.new w5 30 #[.int .i64 y.h, .int .i64 y.o, .string y.s])
        refine (rfst_any w.heap.size gq l xh _ HP5'.out.ref hL1.out).mono ?_
        rintro e w6 ⟨rfl, hf6⟩
        rw [HY.out]
        have HP6 : Hid (BP w w.heap.size gq l l (w6.alloc (.cells #[.int .i64 y.h, .int .i64 y.o, .string y.s] 45)).drew) := hide (((HP5'.out.below hf6).alloc _).drew)
        have HB6 : Hid (Blk (w6.alloc (.cells #[.int .i64 y.h, .int .i64 y.o, .string y.s] 45)).drew w5.heap.size 30 #[.int .i64 y.h, .int .i64 y.o, .string y.s]) := hide ((HB5.out.below hf6 HB5.out.lt).alloc _)
        have HC6 : Hid (Blk (w6.alloc (.cells #[.int .i64 y.h, .int .i64 y.o, .string y.s] 45)).drew w6.heap.size 45 #[.int .i64 y.h, .int .i64 y.o, .string y.s]) := hide (Blk.new w6 45 _)
        clear hf6
        obtain ⟨Aq, capq, hq1, hq2⟩ := ref_cell HP6.out.ref
        have HQ1 := hide hq1
        have HQ2 := hide hq2
        clear hq1 hq2
        have K6 : Hid (((w6.alloc (.cells #[.int .i64 y.h, .int .i64 y.o, .string y.s] 45)).drew.cell? ⟨w5.heap.size, 0, none⟩ = some (.int .i64 y.h) ∧ (w6.alloc (.cells #[.int .i64 y.h, .int .i64 y.o, .string y.s] 45)).drew.cell? ⟨w5.heap.size, 1, none⟩ = some (.int .i64 y.o) ∧ (w6.alloc (.cells #[.int .i64 y.h, .int .i64 y.o, .string y.s] 45)).drew.cell? ⟨w5.heap.size, 2, none⟩ = some (.string y.s)) ∧ ((w6.alloc (.cells #[.int .i64 y.h, .int .i64 y.o, .string y.s] 45)).drew.cell? ⟨w6.heap.size, 0, none⟩ = some (.int .i64 y.h) ∧ (w6.alloc (.cells #[.int .i64 y.h, .int .i64 y.o, .string y.s] 45)).drew.cell? ⟨w6.heap.size, 1, none⟩ = some (.int .i64 y.o) ∧ (w6.alloc (.cells #[.int .i64 y.h, .int .i64 y.o, .string y.s] 45)).drew.cell? ⟨w6.heap.size, 2, none⟩ = some (.string y.s)) ∧ (w6.alloc (.cells #[.int .i64 y.h, .int .i64 y.o, .string y.s] 45)).drew.cell? ⟨gq, 0, none⟩ = some (.slice Aq l.length capq)) := hide (look_cells HB6.out HC6.out HQ1.out)
        go_wp2_with fail
        go_region_held3 (fun w' => (w'.cell? ⟨w5.heap.size, 0, none⟩ = some (.int .i64 y.h) ∧ w'.cell? ⟨w5.heap.size, 1, none⟩ = some (.int .i64 y.o) ∧ w'.cell? ⟨w5.heap.size, 2, none⟩ = some (.string y.s)) ∧ (w'.cell? ⟨w6.heap.size, 0, none⟩ = some (.int .i64 y.h) ∧ w'.cell? ⟨w6.heap.size, 1, none⟩ = some (.int .i64 y.o) ∧ w'.cell? ⟨w6.heap.size, 2, none⟩ = some (.string y.s)) ∧ w'.cell? ⟨gq, 0, none⟩ = some (.slice Aq l.length capq)) (first | (with_reducible exact K8.out) | (with_reducible exact K7.out) | (with_reducible exact K6.out)) ((first | (go_at_call 19; refine (count_any w.heap.size w.heap.size l _ HP6.out.buf).mono ?_; rintro e w7 ⟨rfl, rfl⟩) | (go_at_call 21; refine (all_any w.heap.size w.heap.size l _ HP6.out.buf hL1.out).mono ?_; rintro e w7 ⟨v7, rfl, ho7, hf7⟩; have HP7 := hide (HP6.out.below hf7); have K7 := hide (look_cells (HB6.out.below hf7 HB6.out.lt) (HC6.out.below hf7 HC6.out.lt) (HQ1.out.below hf7 HQ1.out.lt)); have HO7 := hide ho7; have HQ7 := hide (HQ2.out.below hf7); clear ho7 hf7) | (go_at_call 20; refine (same_any _ _ _ _ l _ HO7.out HQ7.out hL1.out).mono ?_; rintro e w8 ⟨rfl, m8, rfl⟩; have HP8 := hide (HP7.out.drewN m8); have K8 := hide (look_cells_drewN m8 K7.out))))
        go_wp2
        go_roundw
        case rel => exact ⟨j + 1, l, by omega, by go_num, HL.out, HP8.out⟩
        case measure => simp [intOf]; omega
      · have HPP := hide hpp
        clear hpp ha
        go_wp2_with fail
        refine (wakes_any _).mono ?_
        rintro e w9 ⟨rfl, hf9⟩
        have HF := hide (HPP.out.bel.trans (hf9.mono HPP.out.bel.size))
        clear hf9
        go_wp2
        go_ret
        exact ⟨rfl, HF.out⟩
  · have hfair' : fairB ss = false := by simpa using hfair
    rw [hfair']
    go_wp2_with fail
    refine (wakes_any _).mono ?_
    rintro e w9 ⟨rfl, hf9⟩
    have HF := hide (HP0.out.bel.trans (hf9.mono HP0.out.bel.size))
    clear hf9
    go_wp2
    go_ret
    exact ⟨rfl, HF.out⟩
end Go.Proofs.Ytimdnooakpbkpaa

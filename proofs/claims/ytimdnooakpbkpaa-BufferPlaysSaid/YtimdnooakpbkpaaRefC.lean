/- The reference's buffer: Pop. -/
import Derived.Test.YtimdnooakpbkpaaRefB
namespace Go.Proofs.Ytimdnooakpbkpaa
open Go.RowKit
set_option linter.unusedVariables false

theorem rb_pop {w w1 w2 : World} {B g : Nat} {v v1 v2 : Value} {xs ys : List Value} {n m : Nat} (hg : Blk w g 43 #[v]) (hB : B ≤ w.heap.size) (hg1 : (w.alloc (.cells #[] 45)).drew.grownBy w1 (some w.heap.size)) (hown1 : Own w1 w.heap.size 45 3 v1 m ys) (hg2 : w1.grownBy w2 v1.ownBlock) (hown : Own w2 w.heap.size 45 3 v2 n xs) :
    Blk w2 g 43 #[v] ∧ (∀ u, Blk (w2.setCell ⟨g, 0, none⟩ u) g 43 #[u]) ∧ (∀ u, Own (w2.setCell ⟨g, 0, none⟩ u) B 45 3 v2 n xs) ∧ ∀ u, w.grownBy (w2.setCell ⟨g, 0, none⟩ u) (some g) :=
  rb_end hg hB ((((Below.refl _ _).alloc (Nat.le_refl _) _).drew).grown hg1 (by simp) (fun k hk => by injection hk with hk; omega)) hown1 hg2 hown
theorem rown_pop {w : World} {B k : Nat} {v : Value} {l : List Wr} (hk : k < l.length) (h : Own w B 45 3 v (k + (l.length - (k + 1))) ((cellsOf l).take (k * 3) ++ cellsOf (l.drop (k + 1)))) : Own w B 45 3 v (l.take k ++ l.drop (k + 1)).length (cellsOf (l.take k ++ l.drop (k + 1))) := by
  rw [cellsOf_append, ← cellsOf_take, show (l.take k ++ l.drop (k + 1)).length = k + (l.length - (k + 1)) by rw [List.length_append, List.length_take, List.length_drop]; omega]
  exact h
set_option maxHeartbeats 1600000 in
theorem rpop_some (g : Nat) (B : Nat) (l : List Wr) (h : Int) (w : World) (hl : l.length ≤ 1000) (hb : RbAt w B g l) (kk : Nat) (hi : idx h l = kk) (hkk : kk < l.length) :
    Calls Try.prog 16 #[.pointer (some ⟨g, 0, none⟩), .int .i64 h] w fun e w' => e = .returned (.bool true) ∧ RbAt w' B g (l.take kk ++ l.drop (kk + 1)) ∧ w.grownBy w' (some g) := by
  obtain ⟨i0, hi0, hz0, hz1, hz2⟩ := info_parts Try.info45
  obtain ⟨v, hg, hBg, hown⟩ := hb
  have hgs := hg.lt
  obtain ⟨g', cap, rfl, _, hgs', hlc, hcm⟩ := hown.form (by omega)
  have hm : cap ≤ 9223372036854775807 := by unfold maxLen at hcm; omega
  have HI0 := hide hi
  have HG := hide hg
  have HO := hide hown
  have cg := hg.one
  clear hg hown hi
  go_enter Try.func16, Try.ntmps16
  go_wp2
  go_loop [5] (fun i => ∃ k : Nat, k ≤ l.length ∧ i = .int .i64 k ∧ Hid (idxFrom h k (l.drop k) = idx h l)) (fun i => l.length - (intOf i).toNat)
  case atStart => exact ⟨0, Nat.zero_le _, rfl, hide rfl⟩
  case round =>
    obtain ⟨k, hk, rfl, HI⟩ := hrel
    by_cases hlt : k < l.length
    · have hx : l[k]? = some l[k] := List.getElem?_eq_getElem hlt
      generalize l[k] = x at hx
      obtain ⟨q0, q1, q2⟩ := cellsOf_get l k x hx
      have hst := idxFrom_step h l k x hx
      have c0 : w.cell? ⟨g', k * 3, none⟩ = some (.int .i64 x.h) := by simpa [Addr.add_lit] using HO.out.cells (g := g') rfl _ _ q0
      have HS := hide hst
      clear hst q0 q1 q2 hx
      by_cases hxh : x.h = h
      · have hxb : (x.h == h) = true := by simp [hxh]
        have HK : Hid (k = kk) := hide (by
          have e : idx h l = k := by rw [← HI.out, HS.out, if_pos hxh]
          have := HI0.out
          omega)
        clear hxh
        obtain ⟨A, hA, hnews⟩ : ∃ A : Addr, (if cap = k + 1 then some (⟨g', 0, none⟩ : Addr) else some ⟨g', (k + 1) * 3, none⟩) = some A ∧ Hid (∀ W : World, Below w.heap.size w W → 0 < l.length - (k + 1) → ∃ a, some A = some a ∧ ∀ j u, (cellsOf (l.drop (k + 1)))[j]? = some u → W.cell? (a.add j) = some u) := by
          by_cases hc : cap = k + 1
          · exact ⟨_, if_pos hc, hide fun W _ h0 => by omega⟩
          · refine ⟨_, if_neg hc, hide fun W hW _ => ⟨_, rfl, fun j u hu => ?_⟩⟩
            rw [← cellsOf_drop, List.getElem?_drop] at hu
            have := (HO.out.below hW).cells (g := g') rfl _ u hu
            rw [Addr.add_lit] at this
            rw [Addr.add_lit]
            simpa using this
        have HE0 : Hid (Own (w.alloc (.cells #[] 45)).drew w.heap.size 45 3 (.slice (some ⟨w.heap.size, 0, none⟩) 0 0) 0 []) := hide (own_empty (Blk.new w 45 #[]) (Nat.le_refl _))
        have s1 : Hid (((cellsOf l).take (k * 3)).length = k * 3) := hide (by rw [List.length_take, cellsOf_length]; omega)
        have s2 : Hid (0 < k → ∃ a, some (⟨g', 0, none⟩ : Addr) = some a ∧ ∀ j u, ((cellsOf l).take (k * 3))[j]? = some u → (w.alloc (.cells #[] 45)).drew.cell? (a.add j) = some u) := hide fun h0 => ⟨_, rfl, fun j u hu => by
          rw [List.getElem?_take] at hu
          split at hu
          · exact (HO.out.alloc (.cells #[] 45)).cells (g := g') rfl j u hu
          · cases hu⟩
        have s3 : Hid (∀ u ∈ (cellsOf l).take (k * 3), u.oneCell' = true) := hide (fun u hu => cellsOf_one _ u (List.mem_of_mem_take hu))
        have s4 : 0 + k ≤ maxLen := by unfold maxLen; omega
        have s5 : (0 + k) * 32 ≤ 140737488355328 := by omega
        have n1 : Hid ((cellsOf (l.drop (k + 1))).length = (l.length - (k + 1)) * 3) := hide (by rw [cellsOf_length, List.length_drop])
        have n2 : Hid (∀ u ∈ cellsOf (l.drop (k + 1)), u.oneCell' = true) := hide (cellsOf_one _)
        have n3 : 0 + k + (l.length - (k + 1)) ≤ maxLen := by unfold maxLen; omega
        have n4 : (0 + k + (l.length - (k + 1))) * 32 ≤ 140737488355328 := by omega
        have hBs : B ≤ w.heap.size := by omega
        have cg0 : ∀ ob, (w.alloc ob).cell? ⟨g, 0, none⟩ = some (.slice (some ⟨g', 0, none⟩) l.length cap) := fun ob => (HG.out.alloc ob).cell 0
        have hwr : IntKind.i64.wrap ((k : Int) + 1) = (k : Int) + 1 := by rw [IntKind.wrap_i64]; omega
        have hkc : k ≤ cap := by omega
        have hp0 : (0 : Int) ≤ (k : Int) + 1 := by omega
        have hp1 : (k : Int) + 1 ≤ (l.length : Int) := by omega
        have hp2 : ((k : Int) + 1).toNat = k + 1 := by omega
        go_wp2_with fail
        go_region_law (first
          | (refine step_append_Own _ rfl (.tmp 26) (.tmp 32) 41 rfl w.heap.size 45 i0 _ 3 32 Try.underlying41 hi0 hz0 hz1 hz2 rfl (by decide) (.slice (some ⟨w.heap.size, 0, none⟩) 0 0) 0 [] rfl HE0.out (some ⟨g', 0, none⟩) k cap ((cellsOf l).take (k * 3)) rfl s1.out s2.out s3.out s4 s5 (by simp) ?_; intro v1 w1 hown1 hg1 _; have HO1 := hide hown1; have HG1 := hide hg1; have hb1 := ((((Below.refl w.heap.size w).alloc (Nat.le_refl _) (.cells #[] 45)).drew).grown hg1 (by simp) (fun k hk => by simp [Value.ownBlock] at hk; omega)); have cg1 := (HG.out.below hb1 hgs).one; have hz1' := hb1.size; have HB1 := hide hb1; clear hown1 hg1 hb1)
          | (refine step_append_Own _ rfl (.tmp 33) (.tmp 40) 41 rfl w.heap.size 45 i0 _ 3 32 Try.underlying41 hi0 hz0 hz1 hz2 rfl (by decide) v1 (0 + k) ([] ++ (cellsOf l).take (k * 3)) rfl HO1.out (some A) (l.length - (k + 1)) (cap - (k + 1)) (cellsOf (l.drop (k + 1))) rfl n1.out (hnews.out w1 HB1.out) n2.out n3 n4 hz1' ?_; intro v2 w2 hown2 hg2 _; have HE := hide (rb_pop HG.out hBs HG1.out HO1.out hg2 hown2); obtain ⟨A2, cap2, hv2, _, _⟩ := hown2.shape; have HO2 := hide hown2; subst hv2; have d0 := HE.out.1.one; have e0 := HE.out.1.frozen 0; clear hown2 hg2))
        all_goals go_wp2
        all_goals go_ret
        all_goals
          obtain rfl := HK.out
          obtain ⟨k1, k2, k3, k4⟩ := HE.out
          have k5 := k3 (.slice A2 (k + (l.length - (k + 1))) cap2)
          simp only [Nat.zero_add, List.nil_append] at k5
          exact ⟨rfl, ⟨_, k2 _, hBg, rown_pop hkk k5⟩, k4 _⟩
      · have hxb : (x.h == h) = false := by simp [hxh]
        have HXH := hide hxh
        clear hxh
        go_wp2
        go_round
        case rel => exact ⟨k + 1, by omega, by go_num, hide (by rw [← HI.out, HS.out, if_neg HXH.out])⟩
        case measure => simp [intOf]; omega
    · exfalso
      have hkl : k = l.length := by omega
      have : idx h l = -1 := by rw [← HI.out, hkl, List.drop_length]; rfl
      have := HI0.out
      omega

theorem rpop_none (g : Nat) (B : Nat) (l : List Wr) (h : Int) (w : World) (hl : l.length ≤ 1000) (hb : RbAt w B g l) (hi : idx h l = -1) :
    Calls Try.prog 16 #[.pointer (some ⟨g, 0, none⟩), .int .i64 h] w fun e w' => e = .returned (.bool false) ∧ w = w' := by
  obtain ⟨v, hg, hBg, hown⟩ := hb
  obtain ⟨A, cap, rfl, _, _⟩ := hown.shape
  have HI0 := hide hi
  have HO := hide hown
  have cg := hg.one
  clear hg hown hi
  go_enter Try.func16, Try.ntmps16
  go_wp2
  go_loop [5] (fun i => ∃ k : Nat, k ≤ l.length ∧ i = .int .i64 k ∧ Hid (idxFrom h k (l.drop k) = idx h l)) (fun i => l.length - (intOf i).toNat)
  case atStart => exact ⟨0, Nat.zero_le _, rfl, hide rfl⟩
  case round =>
    obtain ⟨k, hk, rfl, HI⟩ := hrel
    by_cases hlt : k < l.length
    · obtain ⟨g', cap', hv, _, hgs, _, _⟩ := HO.out.form (by omega)
      simp only [Value.slice.injEq, true_and] at hv
      obtain ⟨rfl, rfl⟩ := hv
      have hx : l[k]? = some l[k] := List.getElem?_eq_getElem hlt
      generalize l[k] = x at hx
      obtain ⟨q0, q1, q2⟩ := cellsOf_get l k x hx
      have hst := idxFrom_step h l k x hx
      have c0 : w.cell? ⟨g', k * 3, none⟩ = some (.int .i64 x.h) := by simpa [Addr.add_lit] using HO.out.cells (g := g') rfl _ _ q0
      have HS := hide hst
      clear hst q0 q1 q2 hx
      by_cases hxh : x.h = h
      · exfalso
        have e : idx h l = k := by rw [← HI.out, HS.out, if_pos hxh]
        have := HI0.out
        omega
      · have hxb : (x.h == h) = false := by simp [hxh]
        have HXH := hide hxh
        clear hxh
        go_wp2
        go_round
        case rel => exact ⟨k + 1, by omega, by go_num, hide (by rw [← HI.out, HS.out, if_neg HXH.out])⟩
        case measure => simp [intOf]; omega
    · go_wp2
      go_ret
      exact ⟨rfl, rfl⟩

theorem grown_refl_ (w : World) (row : Option Nat) : w.grownBy w row := ⟨rfl, rfl, rfl, Nat.le_refl _, fun _ _ _ => rfl⟩
theorem rpop_any (B g : Nat) (l : List Wr) (h : Int) (w : World) (hb : RbAt w B g l) (hl : l.length ≤ 1000) :
    Calls Try.prog 16 #[.pointer (some ⟨g, 0, none⟩), .int .i64 h] w fun e w' => e = .returned (.bool (decide (0 ≤ idx h l))) ∧ RbAt w' B g (popOf h l) ∧ w.grownBy w' (some g) := by
  unfold popOf
  rcases idx_lo h l with hi | ⟨hi, hj⟩
  · simp only [hi]
    refine (rpop_none g B l h w hl hb hi).mono ?_
    rintro e w' ⟨rfl, rfl⟩
    exact ⟨rfl, hb, grown_refl_ _ _⟩
  · obtain ⟨k, hk⟩ := Int.eq_ofNat_of_zero_le hi
    have e1 : ¬ ((k : Int) < 0) := by omega
    simp only [hk, if_neg e1, Int.toNat_natCast]
    exact (rpop_some g B l h w hl hb k hk (by omega)).mono fun e w' ⟨he, hbb⟩ => ⟨by rw [he]; simp, hbb⟩
theorem grown_tr {a b c : World} {g : Nat} (h : a.grownBy b (some g)) (k : b.grownBy c (some g)) : a.grownBy c (some g) :=
  ⟨k.os.trans h.os, k.tape.trans h.tape, k.output.trans h.output, Nat.le_trans h.size k.size, fun i hi hne => (k.block i (by have := h.size; omega) hne).trans (h.block i hi hne)⟩

set_option maxHeartbeats 400000 in
theorem rdrop_any (B g : Nat) (l : List Wr) (h : Int) (w : World) (hb : RbAt w B g l) (hl : l.length ≤ 1000) :
    Calls Try.prog 17 #[.pointer (some ⟨g, 0, none⟩), .int .i64 h] w fun e w' => e = .returned (.int .i64 (dropN h l)) ∧ RbAt w' B g (dropOf h l) ∧ w.grownBy w' (some g) := by
  have hle := dropN_le h l
  go_enter Try.func17, Try.ntmps17
  go_wp2
  go_loopw [5] (fun i wr => ∃ (k : Nat) (l' : List Wr), i = .int .i64 k ∧ k + dropN h l' ≤ dropN h l ∧ RbAt wr B g l' ∧ l'.length ≤ 1000 ∧ w.grownBy wr (some g) ∧ Hid (k + dropN h l' = dropN h l ∧ dropOf h l' = dropOf h l)) (fun i _ => dropN h l - (intOf i).toNat)
  case atStart => exact ⟨0, l, rfl, by omega, hb, hl, grown_refl_ _ _, hide ⟨by omega, rfl⟩⟩
  case round =>
    obtain ⟨k, l', rfl, hk, hb', hl', hfr, HI⟩ := hrel
    by_cases hi : 0 ≤ idx h l'
    · obtain ⟨p1, p2⟩ := popOf_drop h l' hi
      have hp1 : dropN h (popOf h l') + 1 ≤ dropN h l' := by unfold dropN; omega
      have HP := hide (show dropN h (popOf h l') + 1 = dropN h l' ∧ dropOf h (popOf h l') = dropOf h l' from ⟨p1, p2⟩)
      have hlen := popOf_length h l'
      have HD := hide (show decide (0 ≤ idx h l') = true from decide_eq_true hi)
      clear p1 p2 hi
      go_wp2_with fail
      refine (rpop_any B g l' h _ hb' hl').mono ?_
      rintro e w1 ⟨rfl, hb1, hf1⟩
      rw [HD.out]
      go_wp2
      go_roundw
      case rel => exact ⟨k + 1, popOf h l', by go_num, by omega, hb1, by omega, grown_tr hfr hf1, hide ⟨by have := HI.out.1; have := HP.out.1; omega, by rw [HP.out.2, HI.out.2]⟩⟩
      case measure => simp [intOf]; omega
    · obtain ⟨p1, p2⟩ := no_drop h l' (by omega)
      have HP := hide (show dropN h l' = 0 ∧ dropOf h l' = l' from ⟨p1, p2⟩)
      have HD := hide (show decide (0 ≤ idx h l') = false from decide_eq_false hi)
      have HE := hide (show popOf h l' = l' from by unfold popOf; rw [if_pos (by omega)])
      clear p1 p2 hi
      go_wp2_with fail
      refine (rpop_any B g l' h _ hb' hl').mono ?_
      rintro e w1 ⟨rfl, hb1, hf1⟩
      rw [HD.out]
      rw [HE.out] at hb1
      go_wp2
      go_ret
      refine ⟨?_, ?_, grown_tr hfr hf1⟩
      · have h1 := HI.out.1
        have h2 := HP.out.1
        rw [← h1, h2]
        rfl
      · rw [← HI.out.2, HP.out.2]
        exact hb1

theorem radd_any (B g : Nat) (l : List Wr) (x : Wr) (w : World) (hb : RbAt w B g l) (hl : l.length ≤ 16) :
    Calls Try.prog 15 #[.pointer (some ⟨g, 0, none⟩), .agg #[.int .i64 x.h, .int .i64 x.o, .string x.s]] w fun e w' => e = .returned (.int .i64 (addErr l x)) ∧ RbAt w' B g (addTo l x) ∧ w.grownBy w' (some g) := by
  obtain ⟨v, hg, hBg, hown⟩ := hb
  unfold addTo addErr
  by_cases c1 : x.h < 0 ∨ 16384 ≤ x.h
  · simp only [if_pos c1]
    exact (radd_arg g x.h x.o x.s w c1).mono fun e w' ⟨he, hb⟩ => ⟨he, ⟨v, hg.below hb hg.lt, hBg, hown.below hb⟩, grown_below hb⟩
  · by_cases c2 : x.o < 0 ∨ x.s.size < 1 ∨ 1024 < x.s.size ∨ 8192 - (x.s.size : Int) < x.o
    · simp only [if_neg c1, if_pos c2]
      exact (radd_space g x.h x.o x.s w (by omega) (by omega) c2).mono fun e w' ⟨he, hb⟩ => ⟨he, ⟨v, hg.below hb hg.lt, hBg, hown.below hb⟩, grown_below hb⟩
    · by_cases c3 : l.length = 16
      · simp only [if_neg c1, if_neg c2, if_pos c3]
        obtain ⟨A, cap, rfl, _, _⟩ := hown.shape
        exact (radd_many g l.length c3 A cap x.h x.o x.s w hg (by omega) (by omega) (by omega) (by omega) (by omega) (by omega)).mono fun e w' ⟨he, hb⟩ => ⟨he, ⟨_, hg.below hb hg.lt, hBg, hown.below hb⟩, grown_below hb⟩
      · simp only [if_neg c1, if_neg c2, if_neg c3]
        exact radd_ok B g l v x.h x.o x.s w hg hBg hown (by omega) (by omega) (by omega) (by omega) (by omega) (by omega) (by omega)
end Go.Proofs.Ytimdnooakpbkpaa

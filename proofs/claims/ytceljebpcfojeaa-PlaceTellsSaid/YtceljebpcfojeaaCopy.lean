/- CopyProjection. -/
import Derived.Test.YtceljebpcfojeaaChain
namespace Go.Proofs.Ytceljebpcfojeaa
open Go.RowKit
set_option linter.unusedVariables false

theorem Try.info52 : (Try.prog.info? 52).map (fun i => (i.zero, i.size, i.bytes)) = some (some (.slice none 0 0), 1, 24) := by kernel_rfl
theorem Own.kept {w w' : World} {base : Nat} {e t : TypeId} {size n : Nat} {v v2 : Value} {xs : List Value} (h : Own w base e size v n xs) (hg : w.grownBy w' v2.ownBlock) (hk : ∀ k, v2.ownBlock = some k → ∃ cs, w.heap[k]? = some (.cells cs t (0, 0))) (hne : e ≠ t) : Own w' base e size v n xs := by
  refine ⟨h.1, ?_⟩
  rcases h.2 with h1 | ⟨g, cap, cur, rfl, k1, k2, rest⟩
  · exact .inl h1
  · refine .inr ⟨g, cap, cur, rfl, k1, (hg.block g (Array.getElem?_eq_some_iff.1 k2).1 (fun e' => ?_)).trans k2, rest⟩
    obtain ⟨cs, hcs⟩ := hk g e'.symm
    rw [k2] at hcs
    injection hcs with hcs
    injection hcs with _ h2
    exact hne h2
/-- the slice lv is the copy, so far: of the chains cs; its cells are vs -/
def CpV (w : World) (base : Nat) (lv : Value) (vs : List Value) (cs : List (List Int)) : Prop :=
  vs.length = cs.length ∧ Own w base 52 1 lv vs.length vs ∧ ∀ (j : Nat) (c : List Int), cs[j]? = some c → (∀ u ∈ c, okI u) ∧ ∃ u : Value, vs[j]? = some u ∧ Own w base 3 1 u c.length (ints c)
theorem CpV.pr {w : World} {base : Nat} {lv : Value} {vs : List Value} {cs : List (List Int)} (h : CpV w base lv vs cs) : PrAt w w.heap.size lv cs := by
  obtain ⟨h1, h2, h3⟩ := h
  rw [h1] at h2
  obtain ⟨A, cap, rfl, k1, k2⟩ := h2.shape
  refine ⟨A, cap, vs, rfl, k1, k2, h1, fun h0 => ?_, fun j c hj => ?_⟩
  · obtain ⟨g, cap', hv, _, hg, _, _⟩ := h2.form (by omega)
    simp only [Value.slice.injEq, true_and] at hv
    obtain ⟨rfl, rfl⟩ := hv
    exact ⟨g, 0, rfl, hg, fun j u hu => by simpa [Addr.add_lit] using h2.cells (g := g) rfl j u hu⟩
  · obtain ⟨h4, u, h5, h6⟩ := h3 j c hj
    obtain ⟨A', cap', k3, k4, k5⟩ := h6.shape
    obtain ⟨A2, cap2, e2, _, _, k6⟩ := rd_own h6
    rw [k3] at e2
    simp only [Value.slice.injEq, true_and] at e2
    obtain ⟨rfl, rfl⟩ := e2
    exact ⟨A', cap', by rw [h5, k3], k4, k5, k6, h4⟩
theorem CpV.below {w w' : World} {base : Nat} {lv : Value} {vs : List Value} {cs : List (List Int)} (h : CpV w base lv vs cs) (hb : Below w.heap.size w w') : CpV w' base lv vs cs :=
  ⟨h.1, h.2.1.below hb, fun j c hj => let ⟨h4, u, h5, h6⟩ := h.2.2 j c hj; ⟨h4, u, h5, h6.below hb⟩⟩
theorem CpV.setCell {w : World} {base : Nat} {lv : Value} {vs : List Value} {cs : List (List Int)} (h : CpV w base lv vs cs) {p : Addr} {xs : Array Value} (ho : Blk w p.block 24 xs) (u : Value) : CpV (w.setCell p u) base lv vs cs :=
  ⟨h.1, h.2.1.setCell ho (by decide) u, fun j c hj => let ⟨h4, x, h5, h6⟩ := h.2.2 j c hj; ⟨h4, x, h5, h6.setCell ho (by decide) u⟩⟩
/-- one chain more -/
theorem CpV.snoc {w W w' : World} {base : Nat} {lv lv' u : Value} {vs : List Value} {cs : List (List Int)} {c : List Int} (h : CpV w base lv vs cs) (hb : Below w.heap.size w W) (hu : Own W base 3 1 u c.length (ints c)) (hok : ∀ x ∈ c, okI x) (hg : W.grownBy w' lv.ownBlock)
    (ho : Own w' base 52 1 lv' (vs.length + 1) (vs ++ [u])) : CpV w' base lv' (vs ++ [u]) (cs ++ [c]) := by
  obtain ⟨h1, h2, h3⟩ := h.below hb
  have hk : ∀ k, lv.ownBlock = some k → ∃ cs, W.heap[k]? = some (.cells cs 52 (0, 0)) := fun k hk => (h2.kind k hk).2
  refine ⟨by simp [h1], by rw [List.length_append]; exact ho, fun j d hj => ?_⟩
  by_cases hjl : j < cs.length
  · rw [List.getElem?_append_left hjl] at hj
    obtain ⟨h4, x, h5, h6⟩ := h3 j d hj
    exact ⟨h4, x, by rw [List.getElem?_append_left (by omega)]; exact h5, h6.kept hg hk (by decide)⟩
  · have hje : j = cs.length := by
      have := (List.getElem?_eq_some_iff.1 hj).1
      rw [List.length_append, List.length_singleton] at this
      omega
    subst hje
    rw [List.getElem?_append_right (Nat.le_refl _)] at hj
    simp only [Nat.sub_self, List.getElem?_cons_zero, Option.some.injEq] at hj
    subst hj
    exact ⟨hok, u, by rw [List.getElem?_append_right (by omega), h1]; simp, hu.kept hg hk (by decide)⟩
theorem own_one {w : World} {base : Nat} {e : TypeId} {size n : Nat} {v : Value} {xs : List Value} (h : Own w base e size v n xs) : ∀ u ∈ [v], u.oneCell' = true := by
  intro u hu
  obtain ⟨A, cap, hv, _, _⟩ := h.shape
  rw [List.mem_singleton.1 hu, hv]
  rfl
def CopyPost (ep : Int) (cs : List (List Int)) (w : World) (e : Ending) (w' : World) : Prop := ∃ v' : Value, e = .returned (.agg #[.int .i64 ep, v']) ∧ PrAt w' w'.heap.size v' cs ∧ Below w.heap.size w w'

set_option maxRecDepth 100000 in
set_option maxHeartbeats 1600000 in
theorem copy_any (B : Nat) (ep : Int) (v : Value) (cs : List (List Int)) (w : World) (h : PrAt w B v cs) (hB : B ≤ w.heap.size) (hn : cs.length ≤ 50) (hc50 : ∀ c ∈ cs, c.length ≤ 50) :
    Calls Try.prog 11 #[.agg #[.int .i64 ep, v]] w (CopyPost ep cs w) := by
  obtain ⟨i3, hi3, hz30, hz31, hz32⟩ := info_parts Try.info3
  obtain ⟨i52, hi52, hz520, hz521, hz522⟩ := info_parts Try.info52
  obtain ⟨A, cap, rfl, hcap, hcap2⟩ := h.shape
  have HP := hide h
  clear h
  have HW2 : Hid (Blk ((w.alloc (.cells #[.int .i64 ep, .slice A cs.length cap] 24)).alloc (.cells #[.int .i64 0, .slice none 0 0] 24)) w.heap.size 24 #[.int .i64 ep, .slice A cs.length cap] ∧ Blk ((w.alloc (.cells #[.int .i64 ep, .slice A cs.length cap] 24)).alloc (.cells #[.int .i64 0, .slice none 0 0] 24)) (w.heap.size + 1) 24 #[.int .i64 0, .slice none 0 0] ∧ Below w.heap.size w ((w.alloc (.cells #[.int .i64 ep, .slice A cs.length cap] 24)).alloc (.cells #[.int .i64 0, .slice none 0 0] 24))) := hide
    ⟨(Blk.new w 24 _).alloc _, Blk.new' (w.alloc (.cells #[.int .i64 ep, .slice A cs.length cap] 24)) 24 _ _ (by simp), ((Below.refl _ _).alloc (Nat.le_refl _) _).alloc (by simp) _⟩
  go_enter Try.func11, Try.ntmps11
  go_wp2
  go_loopw [3, 4] (fun lv iv wr => ∃ (j : Nat) (vs : List Value), j ≤ cs.length ∧ iv = .int .i64 j ∧ CpV wr (w.heap.size + 2) lv vs (cs.take j) ∧ Below (w.heap.size + 2) ((w.alloc (.cells #[.int .i64 ep, .slice A cs.length cap] 24)).alloc (.cells #[.int .i64 0, .slice none 0 0] 24)) wr) (fun _ iv _ => cs.length - (intOf iv).toNat)
  case atStart => exact ⟨0, [], Nat.zero_le _, rfl, ⟨rfl, Own.nil _ _ _ _, fun j c hj => by simp at hj⟩, Below.refl _ _⟩
  case round =>
    obtain ⟨j, vs, hj, rfl, hcp, hbel⟩ := hrel
    have hws := hbel.size
    simp only [World.size_alloc] at hws
    have HB0 : Hid (Below w.heap.size w wr) := hide (HW2.out.2.2.trans (hbel.mono (by omega)))
    have HX1 := hide (HW2.out.1.below hbel (by omega))
    have HX2 := hide (HW2.out.2.1.below hbel (by omega))
    have HBL := hide hbel
    obtain ⟨x0, x1, y0, y1⟩ := HX1.out.two
    have hvl : vs.length ≤ 50 := by have := hcp.1; rw [List.length_take] at this; omega
    have hown := hcp.2.1
    have HC := hide hcp
    clear hbel hcp
    obtain ⟨Al, capl, rfl, hlc, hlm⟩ := hown.shape
    have HOW := hide hown
    clear hown
    by_cases hlt : j < cs.length
    · have hc : cs[j]? = some cs[j] := List.getElem?_eq_getElem hlt
      have hcl := hc50 _ (List.getElem_mem hlt)
      generalize cs[j] = c at hc hcl
      have HCJ := hide hc
      clear hc
      obtain ⟨b, off, Aj, capj, rfl, hb, hcell0, hcj, hcj2, hrd, hok⟩ := HP.out.chain HCJ.out
      have hcell : ∀ o, (wr.alloc o).cell? ⟨b, off + j, none⟩ = some (.slice Aj c.length capj) := fun o => ((HB0.out.alloc (show w.heap.size ≤ wr.heap.size by omega) o).cell (p := ⟨b, off + j, none⟩) (show b < w.heap.size by omega)).trans hcell0
      have z1 : ∀ o, (wr.alloc o).cell? ⟨w.heap.size, 1, none⟩ = some (.slice (some ⟨b, off, none⟩) cs.length cap) := fun o => (HX1.out.alloc o).cell 1
      have HRD := hide hrd
      have HOK := hide hok
      have hN : Hid (∀ o, 0 < c.length → ∃ a', Aj = some a' ∧ ∀ k u, (ints c)[k]? = some u → (wr.alloc o).cell? (a'.add k) = some u) := hide fun o h0 => by
        obtain ⟨b1, o1, rfl, h2, h3⟩ := HRD.out (by rw [ints_length]; exact h0)
        refine ⟨_, rfl, fun k u hu => ?_⟩
        rw [Addr.add_lit]
        exact ((HB0.out.alloc (show w.heap.size ≤ wr.heap.size by omega) o).cell (p := ⟨b1, o1 + k, none⟩) (show b1 < w.heap.size by omega)).trans (h3 k u hu)
      have hE : Hid (Own (wr.alloc (.cells #[] 3)) (w.heap.size + 2) 3 1 (.slice (some ⟨wr.heap.size, 0, none⟩) 0 0) 0 []) := hide (own_empty (Blk.new wr 3 #[]) (by omega))
      have n1 : Hid ((ints c).length = c.length * 1) := hide (by rw [ints_length, Nat.mul_one])
      have n2 : Hid (∀ u ∈ ints c, u.oneCell' = true) := hide (ints_one _)
      have n3 : 0 + c.length ≤ maxLen := by unfold maxLen; omega
      have n4 : (0 + c.length) * 8 ≤ 140737488355328 := by omega
      have n5 : w.heap.size + 2 ≤ (wr.alloc (.cells #[] 3)).heap.size := by simp; omega
      have m3 : vs.length + 1 ≤ maxLen := by unfold maxLen; omega
      have m4 : (vs.length + 1) * 24 ≤ 140737488355328 := by omega
      clear hcell0 hrd hok
      go_wp2_with (first
        | (at_builtin; refine wpList_append_Own _ rfl (.tmp 13) (.tmp 18) 52 rfl (w.heap.size + 2) 3 i3 _ 1 8 Try.underlying52 hi3 hz30 hz31 hz32 rfl (by decide) (.slice (some ⟨wr.heap.size, 0, none⟩) 0 0) 0 [] rfl hE.out Aj c.length capj (ints c) rfl n1.out (hN.out _) n2.out n3 n4 n5 ?_; intro v1 w1 hown1 hg1 _; simp only [Nat.zero_add, List.nil_append] at hown1; obtain ⟨A1, cap1, hv1, _, _⟩ := hown1.shape; subst hv1; have HO1 := hide hown1; have HB1 := hide (((Below.refl wr.heap.size wr).alloc (Nat.le_refl _) (.cells #[] 3)).grown hg1 (by simp) (fun k hk => by simp [Value.ownBlock] at hk; omega)); have hz1 := HB1.out.size; have h1c : Hid (∀ u ∈ [Value.slice A1 c.length cap1], u.oneCell' = true) := hide (own_one hown1); clear hown1 hg1)
        | (at_builtin; refine wpList_append_Own _ rfl (.tmp 12) (.tmp 20) 22 rfl (w.heap.size + 2) 52 i52 _ 1 24 Try.underlying22 hi52 hz520 hz521 hz522 rfl (by decide) (.slice Al vs.length capl) vs.length vs rfl ((HOW.out.below HB1.out).alloc _) (some ⟨w1.heap.size, 0, none⟩) 1 1 [.slice A1 c.length cap1] rfl rfl (blk_src (Blk.new w1 52 #[.slice A1 c.length cap1])) h1c.out m3 m4 (by simp; omega) ?_; intro v2 w2 hown2 hg2 _; have HO2 := hide hown2; have HG2 := hide hg2; clear hown2 hg2))
      go_roundw
      case rel =>
        refine ⟨j + 1, vs ++ [.slice A1 c.length cap1], by omega, by go_num, ?_, ?_⟩
        · rw [List.take_add_one, HCJ.out]
          exact HC.out.snoc (HB1.out.alloc hz1 _) (HO1.out.alloc _) HOK.out HG2.out HO2.out
        · exact ((HBL.out.trans (HB1.out.mono (by omega))).alloc (by omega) _).grown HG2.out (by simp; omega) (fun k hk => (HOW.out.lt k hk).1)
      case measure => simp [intOf]; omega
    · have HJ : Hid (j = cs.length) := hide (by omega)
      obtain ⟨u0, u1, v0, v1⟩ := HX2.out.two
      go_wp2
      refine bodyPost_ret (v := .agg #[.int .i64 ep, .slice Al vs.length capl]) (by simp [results, Try.results11, go_sem, u0, u1]) rfl ⟨_, rfl, ?_, ?_⟩
      · have e1 := HC.out.setCell (p := ⟨w.heap.size, 1, none⟩) HX1.out (.slice Al vs.length capl)
        have hx := HX2.out.far (p := ⟨w.heap.size, 1, none⟩) (show w.heap.size + 1 ≠ w.heap.size by omega) (.slice Al vs.length capl)
        have e2 := e1.setCell (p := ⟨w.heap.size + 1, 0, none⟩) hx (.int .i64 ep)
        have e3 := e2.setCell (p := ⟨w.heap.size + 1, 1, none⟩) (hx.set_ 0 (.int .i64 ep)) (.slice Al vs.length capl)
        rw [HJ.out, List.take_length] at e3
        exact e3.pr
      · exact ((HB0.out.setCell (by simp) _).setCell (by simp) _).setCell (by simp) _
end Go.Proofs.Ytceljebpcfojeaa

/- The reference's Units. -/
import Derived.Test.YtceljebpcfojeaaWakes
namespace Go.Proofs.Ytceljebpcfojeaa
open Go.RowKit
set_option linter.unusedVariables false

theorem Try.info3 : (Try.prog.info? 3).map (fun i => (i.zero, i.size, i.bytes)) = some (some (.int .i64 0), 1, 8) := by kernel_rfl
theorem Own.lower {w : World} {base base' : Nat} {e : TypeId} {size n : Nat} {v : Value} {xs : List Value} (h : Own w base e size v n xs) (hb : base' ≤ base) : Own w base' e size v n xs := by
  refine ⟨h.1, ?_⟩
  rcases h.2 with h1 | ⟨g, cap, cur, rfl, k1, rest⟩
  · exact .inl h1
  · exact .inr ⟨g, cap, cur, rfl, Nat.le_trans hb k1, rest⟩
theorem own_empty {w : World} {B g : Nat} {t : TypeId} {size : Nat} (h : Blk w g t #[]) (hB : B ≤ g) : Own w B t size (.slice (some ⟨g, 0, none⟩) 0 0) 0 [] :=
  ⟨by simp, .inr ⟨g, 0, #[], rfl, hB, h, Nat.le_refl _, by simp [maxLen], by simp, by simp⟩⟩
theorem own_src {w : World} {B : Nat} {A : Option Addr} {e : TypeId} {size n cap : Nat} {xs : List Value} (h : Own w B e size (.slice A n cap) n xs) : 0 < n → ∃ a, A = some a ∧ ∀ j u, xs[j]? = some u → w.cell? (a.add j) = some u := by
  intro h0
  obtain ⟨g', cap', hv', _, _, _, _⟩ := h.form h0
  simp only [Value.slice.injEq, true_and] at hv'
  obtain ⟨rfl, rfl⟩ := hv'
  exact ⟨_, rfl, h.cells (g := g') rfl⟩
theorem blk_src {w : World} {g : Nat} {t : TypeId} {cs : Array Value} (h : Blk w g t cs) : 0 < 1 → ∃ a, some (⟨g, 0, none⟩ : Addr) = some a ∧ ∀ j u, cs.toList[j]? = some u → w.cell? (a.add j) = some u := fun _ =>
  ⟨_, rfl, fun j u hu => by
    rw [Addr.add_lit, h.cell]
    simpa using hu⟩
theorem ints_one (c : List Int) : ∀ u ∈ ints c, u.oneCell' = true := by
  intro u hu
  obtain ⟨x, _, rfl⟩ := List.mem_map.1 hu
  rfl
theorem ints_take (c : List Int) (k : Nat) : (ints c).take k = ints (c.take k) := by simp [ints, List.map_take]
theorem ints_drop (c : List Int) (k : Nat) : (ints c).drop k = ints (c.drop k) := by simp [ints, List.map_drop]
theorem ints_append (a b : List Int) : ints (a ++ b) = ints a ++ ints b := by simp [ints]

/-- behind the first append onto an empty row that lies from B on -/
theorem un_mid {w W w1 : World} {B : Nat} {v0 : Value} {e : Nat} (hb : Below B w W) (hBW : B ≤ W.heap.size) (he : v0 = .slice (some ⟨e, 0, none⟩) 0 0) (hlt : B ≤ e) (hg1 : W.grownBy w1 v0.ownBlock) : Below B w w1 := by
  subst he
  exact hb.grown hg1 hBW (fun k hk => by simp [Value.ownBlock] at hk; omega)
theorem un_src {W w1 : World} {v0 : Value} {t : TypeId} {cs : Array Value} {e g : Nat} (hbx : Blk W g t cs) (he : v0 = .slice (some ⟨e, 0, none⟩) 0 0) (hne : g ≠ e) (hg1 : W.grownBy w1 v0.ownBlock) : Blk w1 g t cs := by
  subst he
  exact hbx.grown hg1 (fun h => by simp [Value.ownBlock] at h; omega)
theorem own_cell {w : World} {B : Nat} {A : Option Addr} {cap : Nat} {l : List Int} {a : Nat} {x : Int} (h : Own w B 3 1 (.slice A l.length cap) l.length (ints l)) (ha : l[a]? = some x) : ∃ g, A = some ⟨g, 0, none⟩ ∧ w.cell? ⟨g, a, none⟩ = some (.int .i64 x) := by
  have hl := (List.getElem?_eq_some_iff.1 ha).1
  obtain ⟨g, cap', hv, _, _, _, _⟩ := h.form (by omega)
  simp only [Value.slice.injEq, true_and] at hv
  obtain ⟨rfl, rfl⟩ := hv
  exact ⟨g, rfl, by simpa [Addr.add_lit] using h.cells (g := g) rfl a _ (ints_get l a x ha)⟩
theorem below_le (u : Int) (l : List Int) : below u l ≤ l.length := by unfold below; exact (List.takeWhile_sublist _).length_le
theorem below_lt {u : Int} {l : List Int} {a : Nat} (ha : a < below u l) : ∃ x, l[a]? = some x ∧ x < u := by
  have hl := below_le u l
  refine ⟨l[a], List.getElem?_eq_getElem (by omega), (takeWhile_at u l).1 _ ?_⟩
  rw [List.mem_take_iff_getElem]
  exact ⟨a, by omega, rfl⟩

def UnitsPost (cs : List (List Int)) (w : World) (e : Ending) (w' : World) : Prop := ∃ (A : Option Addr) (cap : Nat), e = .returned (.slice A (unitsL cs.flatten).length cap) ∧ (unitsL cs.flatten).length ≤ cap ∧ Below w.heap.size w w'

/-- what holds at a loop's head: the list of what was met -/
def UnAt (w : World) (ep : Int) (vp : Value) (l : List Int) (lv : Value) (wr : World) : Prop :=
  Own wr (w.heap.size + 1) 3 1 lv l.length (ints l) ∧ Below (w.heap.size + 1) (w.alloc (.cells #[.int .i64 ep, vp] 24)) wr

theorem un_end {w wr w3 : World} {ep : Int} {vp v3 : Value} {l l2 l3 : List Int} {a r : Nat} {u : Int} (h1 : l3 = l2) (h2 : l2 = l.take a ++ [u] ++ l.drop a) (hr : r = l.length - a) (ho : Own w3 wr.heap.size 3 1 v3 (0 + a + 1 + r) ([] ++ ints (l.take a) ++ [.int .i64 u] ++ ints (l.drop a)))
    (hb : Below (w.heap.size + 1) (w.alloc (.cells #[.int .i64 ep, vp] 24)) wr) (hb3 : Below wr.heap.size wr w3) (hws : w.heap.size + 1 ≤ wr.heap.size) : UnAt w ep vp l3 v3 w3 := by
  subst h1
  subst h2
  subst hr
  refine ⟨?_, hb.trans (hb3.mono hws)⟩
  have e : ints (l.take a ++ [u] ++ l.drop a) = [] ++ ints (l.take a) ++ [.int .i64 u] ++ ints (l.drop a) := by rw [ints_append, ints_append]; rfl
  have h := ho.lower hws
  have hl := h.1
  rw [← e, ints_length] at hl
  rw [← e] at h
  rw [show (l.take a ++ [u] ++ l.drop a).length = 0 + a + 1 + (l.length - a) by omega]
  exact h

set_option maxRecDepth 100000 in
set_option maxHeartbeats 6400000 in
theorem units_any (B : Nat) (ep : Int) (v : Value) (cs : List (List Int)) (w : World) (h : PrAt w B v cs) (hB : B ≤ w.heap.size) (hn : cs.flatten.length ≤ 1000) :
    Calls Try.prog 27 #[.agg #[.int .i64 ep, v]] w (UnitsPost cs w) := by
  obtain ⟨i0, hi, hz0, hz1, hz2⟩ := info_parts Try.info3
  obtain ⟨A, cap, rfl, hcap, hcap2⟩ := h.shape
  have HP := hide h
  have HBX : Hid (Blk (w.alloc (.cells #[.int .i64 ep, .slice A cs.length cap] 24)) w.heap.size 24 #[.int .i64 ep, .slice A cs.length cap]) := hide (Blk.new w 24 _)
  clear h
  go_enter Try.func27, Try.ntmps27
  go_wp2
  go_loopw [3, 4] (fun lv i wr => ∃ j : Nat, j ≤ cs.length ∧ i = .int .i64 j ∧ UnAt w ep (.slice A cs.length cap) (unitsL (cs.take j).flatten) lv wr) (fun _ i _ => cs.length - (intOf i).toNat)
  case atStart => exact ⟨0, Nat.zero_le _, rfl, Own.nil _ _ _ _, Below.refl _ _⟩
  case round =>
    obtain ⟨j, hj, rfl, hown, hbel⟩ := hrel
    have HO := hide hown
    have HBL := hide hbel
    have HBW : Hid (Below w.heap.size w wr) := hide (((Below.refl _ _).alloc (Nat.le_refl _) _).trans (hbel.mono (by omega)))
    obtain ⟨bx0, bx1, _, _⟩ := (HBX.out.below hbel (by omega)).two
    clear hown hbel
    by_cases hlt : j < cs.length
    · have hc : cs[j]? = some cs[j] := List.getElem?_eq_getElem hlt
      generalize cs[j] = c at hc
      have HC := hide hc
      clear hc
      obtain ⟨b, off, Aj, capj, rfl, hb, hcell0, hcj, hcj2, hrd, hok⟩ := HP.out.chain HC.out
      have HC0 := hide hcell0
      have HRD := hide hrd
      clear hrd hok hcell0
      go_wp2_with fail
      go_loopw [3, 5] (fun lv i wr => ∃ k : Nat, k ≤ c.length ∧ i = .int .i64 k ∧ UnAt w ep (.slice (some ⟨b, off, none⟩) cs.length cap) (unitsL ((cs.take j).flatten ++ c.take k)) lv wr) (fun _ i _ => c.length - (intOf i).toNat)
      case atStart => exact ⟨0, Nat.zero_le _, rfl, by simpa using HO.out, HBL.out⟩
      case round =>
        clear bx0 bx1 HO HBL HBW
        obtain ⟨k, hk, rfl, hown, hbel⟩ := hrel
        have HBW : Hid (Below w.heap.size w wr) := hide (((Below.refl _ _).alloc (Nat.le_refl _) _).trans (hbel.mono (by omega)))
        obtain ⟨bx0, bx1, _, _⟩ := (HBX.out.below hbel (by omega)).two
        have hcell := (HBW.out.cell (p := ⟨b, off + j, none⟩) (show b < w.heap.size by omega)).trans HC0.out
        have hws := hbel.size
        simp only [World.size_alloc] at hws
        have HBL := hide hbel
        clear hbel
        by_cases hlt2 : k < c.length
        · have hu : c[k]? = some c[k] := List.getElem?_eq_getElem hlt2
          have htk : Hid (c.take (k + 1) = c.take k ++ [c[k]]) := hide (List.take_succ_eq_append_getElem hlt2)
          generalize c[k] = u at hu htk
          obtain ⟨bk, offk, rfl, hbk, hcu0⟩ := HRD.out.unit hu
          have hcu := (HBW.out.cell (p := ⟨bk, offk + k, none⟩) (show bk < w.heap.size by omega)).trans hcu0
          have HL : Hid (unitsL ((cs.take j).flatten ++ c.take (k + 1)) = insU (unitsL ((cs.take j).flatten ++ c.take k)) u) := hide (by rw [htk.out, ← List.append_assoc, unitsL_snoc])
          have hle := flat_take_le cs j HC.out k
          obtain ⟨us, _, ul, _⟩ := unitsL_ok ((cs.take j).flatten ++ c.take k)
          have HS := hide us
          clear us htk hu hcu0
          generalize unitsL ((cs.take j).flatten ++ c.take k) = l at *
          have hl1 : l.length ≤ 1000 := by omega
          clear ul hle
          obtain ⟨Al, capl, rfl, hlc, hlm⟩ := hown.shape
          have hlm2 : capl ≤ 9223372036854775807 := by unfold maxLen at hlm; omega
          have HO := hide hown
          clear hown hlm
          have hbl := below_le u l
          go_wp2_with fail
          go_loop [7] (fun i => ∃ a : Nat, a ≤ below u l ∧ i = .int .i64 a) (fun i => below u l - (intOf i).toNat)
          case atStart => exact ⟨0, Nat.zero_le _, rfl⟩
          case round =>
            obtain ⟨a, ha, rfl⟩ := hrel
            by_cases h1 : a < below u l
            · obtain ⟨x, hx, hxu⟩ := below_lt h1
              obtain ⟨g, rfl, hcx⟩ := own_cell HO.out hx
              have hal : a < l.length := by omega
              clear hx
              go_wp2
              go_round
              case rel => exact ⟨a + 1, by omega, by go_num⟩
              case measure => simp [intOf]; omega
            · by_cases hm : l[a]? = some u
              · obtain ⟨g, rfl, hcx⟩ := own_cell HO.out hm
                have hal : a < l.length := (List.getElem?_eq_some_iff.1 hm).1
                have HI : Hid (insU l u = l) := hide (by unfold insU; rw [if_pos (List.mem_of_getElem? hm)])
                have hne : ¬ (a = l.length) := by omega
                clear hm h1
                go_wp2
                go_roundw
                case rel => exact ⟨k + 1, by omega, by go_num, by rw [HL.out, HI.out]; exact ⟨HO.out, HBL.out⟩⟩
                case measure => simp [intOf]; omega
              · have hab : a = below u l := by omega
                have HI : Hid (insU l u = l.take a ++ [u] ++ l.drop a) := hide (by
                  unfold insU
                  rw [if_neg (fun hh => hm (by rw [hab]; exact (at_below HS.out u).1 hh)), hab])
                have hal : a ≤ l.length := by omega
                have hcase : (Al = none ∧ capl = 0 ∧ l = [] ∧ a = 0) ∨ (∃ g, Al = some ⟨g, 0, none⟩ ∧ a = l.length) ∨ (a < l.length ∧ ∃ g x, Al = some ⟨g, 0, none⟩ ∧ wr.cell? ⟨g, a, none⟩ = some (.int .i64 x) ∧ u < x) := by
                  by_cases h2 : a = l.length
                  · rcases HO.out.2 with ⟨hv, h0⟩ | ⟨g, cp, cur, hv, _⟩
                    · simp only [Value.slice.injEq] at hv
                      exact .inl ⟨hv.1, hv.2.2, List.eq_nil_of_length_eq_zero h0, by omega⟩
                    · simp only [Value.slice.injEq] at hv
                      exact .inr (.inl ⟨g, hv.1, h2⟩)
                  · have hx : l[a]? = some l[a] := List.getElem?_eq_getElem (by omega)
                    obtain ⟨g, hA, hcx⟩ := own_cell HO.out hx
                    have hge := (takeWhile_at u l).2 l[a] (by rw [← hab]; exact hx)
                    refine .inr (.inr ⟨by omega, g, l[a], hA, hcx, ?_⟩)
                    have : l[a] ≠ u := fun e => hm (by rw [hx, e])
                    omega
                clear hm h1 hab ha
                rcases hcase with ⟨rfl, rfl, hl0, ha0⟩ | ⟨g, rfl, hal2⟩ | ⟨hal2, g, x, rfl, hcx, hux⟩
                · -- a nil row
                  obtain rfl := hl0
                  obtain rfl := ha0
                  have src62 : Hid (∀ W : World, Below wr.heap.size wr W → 0 < 0 → ∃ a', (none : Option Addr) = some a' ∧ ∀ j x, (ints (([] : List Int).take 0))[j]? = some x → W.cell? (a'.add j) = some x) := hide fun _ _ h => absurd h (by omega)
                  have src70 : Hid (∀ W : World, Below wr.heap.size wr W → 0 < ([] : List Int).length - 0 → ∃ a', (none : Option Addr) = some a' ∧ ∀ j x, (ints (([] : List Int).drop 0))[j]? = some x → W.cell? (a'.add j) = some x) := hide fun _ _ h => absurd h (by simp)
                  have n1 : Hid ((ints (([] : List Int).take 0)).length = 0 * 1) := hide (by rw [ints_length, List.length_take]; omega)
                  have n2 : Hid (∀ u ∈ (ints (([] : List Int).take 0)), u.oneCell' = true) := hide (ints_one _)
                  have n3 : 0 + 0 ≤ maxLen := by unfold maxLen; omega
                  have n4 : (0 + 0) * 8 ≤ 140737488355328 := by omega
                  have m1 : Hid (∀ w1 : World, 0 < 1 → ∃ a, some (⟨w1.heap.size, 0, none⟩ : Addr) = some a ∧ ∀ j x, [Value.int .i64 u][j]? = some x → (w1.alloc (.cells #[.int .i64 u] 3)).cell? (a.add j) = some x) := hide fun w1 => blk_src (Blk.new w1 3 #[.int .i64 u])
                  have m2 : Hid (∀ x ∈ [Value.int .i64 u], x.oneCell' = true) := hide (by simp [Value.oneCell'])
                  have m3 : 0 + 0 + 1 ≤ maxLen := by unfold maxLen; omega
                  have m4 : (0 + 0 + 1) * 8 ≤ 140737488355328 := by omega
                  have d1 : Hid ((ints (([] : List Int).drop 0)).length = (([] : List Int).length - 0) * 1) := hide (by rw [ints_length, List.length_drop]; omega)
                  have d2 : Hid (∀ u ∈ (ints (([] : List Int).drop 0)), u.oneCell' = true) := hide (ints_one _)
                  have d3 : 0 + 0 + 1 + (([] : List Int).length - 0) ≤ maxLen := by unfold maxLen; omega
                  have d4 : (0 + 0 + 1 + (([] : List Int).length - 0)) * 8 ≤ 140737488355328 := by omega
                  have ea : Hid (Own (wr.alloc (.cells #[] 3)).drew wr.heap.size 3 1 (.slice (some ⟨wr.heap.size, 0, none⟩) 0 0) 0 []) := hide (own_empty (Blk.new wr 3 #[]) (Nat.le_refl _))
                  have eb : Hid (Own ((wr.alloc (.cells #[] 3)).alloc (.cells #[.int .i64 u] 3)).drew wr.heap.size 3 1 (.slice (some ⟨wr.heap.size, 0, none⟩) 0 0) 0 []) := hide (own_empty ((Blk.new wr 3 #[]).alloc _) (Nat.le_refl _))
                  have ec : Hid (Own ((wr.alloc (.cells #[.int .i64 u] 3)).alloc (.cells #[] 3)).drew wr.heap.size 3 1 (.slice (some ⟨wr.heap.size + 1, 0, none⟩) 0 0) 0 []) := hide (own_empty (Blk.new' (wr.alloc (.cells #[.int .i64 u] 3)) 3 #[] _ (by simp)) (by omega))
                  have fa : Hid (Below wr.heap.size wr (wr.alloc (.cells #[] 3)).drew) := hide ((Below.refl _ _).alloc (Nat.le_refl _) _).drew
                  have fb : Hid (Below wr.heap.size wr ((wr.alloc (.cells #[] 3)).alloc (.cells #[.int .i64 u] 3)).drew) := hide (((Below.refl _ _).alloc (Nat.le_refl _) _).alloc (by simp) _).drew
                  have fc : Hid (Below wr.heap.size wr ((wr.alloc (.cells #[.int .i64 u] 3)).alloc (.cells #[] 3)).drew) := hide (((Below.refl _ _).alloc (Nat.le_refl _) _).alloc (by simp) _).drew
                  have db : Hid (Blk ((wr.alloc (.cells #[] 3)).alloc (.cells #[.int .i64 u] 3)).drew (wr.heap.size + 1) 3 #[.int .i64 u]) := hide (Blk.new' (wr.alloc (.cells #[] 3)) 3 _ _ (by simp))
                  have dc : Hid (Blk ((wr.alloc (.cells #[.int .i64 u] 3)).alloc (.cells #[] 3)).drew wr.heap.size 3 #[.int .i64 u]) := hide ((Blk.new wr 3 _).alloc _)
                  go_wp2_with fail
                  go_region_law (first
                    | (refine step_append_Own _ rfl (.tmp 59) (.tmp 62) 52 rfl wr.heap.size 3 i0 _ 1 8 Try.underlying52 hi hz0 hz1 hz2 rfl (by decide) (.slice (some ⟨wr.heap.size, 0, none⟩) 0 0) 0 [] rfl ea.out none 0 0 (ints (([] : List Int).take 0)) rfl n1.out (src62.out _ fa.out) n2.out n3 n4 fa.out.size ?_; intro v1 w1 hown1 hg1 _; have HM := hide (un_mid fa.out fa.out.size rfl (by omega) hg1); have HO1 := hide hown1; have hz5 : wr.heap.size ≤ w1.heap.size := HM.out.size; clear hown1 hg1)
                    | (refine step_append_Own _ rfl (.tmp 59) (.tmp 62) 52 rfl wr.heap.size 3 i0 _ 1 8 Try.underlying52 hi hz0 hz1 hz2 rfl (by decide) (.slice (some ⟨wr.heap.size, 0, none⟩) 0 0) 0 [] rfl eb.out none 0 0 (ints (([] : List Int).take 0)) rfl n1.out (src62.out _ fb.out) n2.out n3 n4 fb.out.size ?_; intro v1 w1 hown1 hg1 _; have HM := hide (un_mid fb.out fb.out.size rfl (by omega) hg1); have HO1 := hide hown1; have hz5 : wr.heap.size ≤ w1.heap.size := HM.out.size; have HS := hide (un_src db.out rfl (by omega) hg1); clear hown1 hg1)
                    | (refine step_append_Own _ rfl (.tmp 59) (.tmp 62) 52 rfl wr.heap.size 3 i0 _ 1 8 Try.underlying52 hi hz0 hz1 hz2 rfl (by decide) (.slice (some ⟨wr.heap.size + 1, 0, none⟩) 0 0) 0 [] rfl ec.out none 0 0 (ints (([] : List Int).take 0)) rfl n1.out (src62.out _ fc.out) n2.out n3 n4 fc.out.size ?_; intro v1 w1 hown1 hg1 _; have HM := hide (un_mid fc.out fc.out.size rfl (by omega) hg1); have HO1 := hide hown1; have hz5 : wr.heap.size ≤ w1.heap.size := HM.out.size; have HS := hide (un_src dc.out rfl (by omega) hg1); clear hown1 hg1)
                    | (refine step_append_Own _ rfl (.tmp 63) (.tmp 65) 52 rfl wr.heap.size 3 i0 _ 1 8 Try.underlying52 hi hz0 hz1 hz2 rfl (by decide) v1 (0 + 0) ([] ++ (ints (([] : List Int).take 0))) rfl (HO1.out.alloc _) (some ⟨w1.heap.size, 0, none⟩) 1 1 [.int .i64 u] rfl rfl (m1.out w1) m2.out m3 m4 (HM.out.alloc hz5 _).size ?_; intro v2 w2 hown2 hg2 _; have HM2 := hide (Below.grown (HM.out.alloc hz5 _) hg2 (HM.out.alloc hz5 _).size (fun k hk => (HO1.out.lt k hk).1)); have HO2 := hide hown2; have hz6 : wr.heap.size ≤ w2.heap.size := HM2.out.size; clear hown2 hg2)
                    | (refine step_append_Own _ rfl (.tmp 63) (.tmp 65) 52 rfl wr.heap.size 3 i0 _ 1 8 Try.underlying52 hi hz0 hz1 hz2 rfl (by decide) v1 (0 + 0) ([] ++ (ints (([] : List Int).take 0))) rfl HO1.out (some ⟨wr.heap.size + 1, 0, none⟩) 1 1 [.int .i64 u] rfl rfl (blk_src HS.out) m2.out m3 m4 HM.out.size ?_; intro v2 w2 hown2 hg2 _; have HM2 := hide (Below.grown HM.out hg2 HM.out.size (fun k hk => (HO1.out.lt k hk).1)); have HO2 := hide hown2; have hz6 : wr.heap.size ≤ w2.heap.size := HM2.out.size; clear hown2 hg2)
                    | (refine step_append_Own _ rfl (.tmp 63) (.tmp 65) 52 rfl wr.heap.size 3 i0 _ 1 8 Try.underlying52 hi hz0 hz1 hz2 rfl (by decide) v1 (0 + 0) ([] ++ (ints (([] : List Int).take 0))) rfl HO1.out (some ⟨wr.heap.size, 0, none⟩) 1 1 [.int .i64 u] rfl rfl (blk_src HS.out) m2.out m3 m4 HM.out.size ?_; intro v2 w2 hown2 hg2 _; have HM2 := hide (Below.grown HM.out hg2 HM.out.size (fun k hk => (HO1.out.lt k hk).1)); have HO2 := hide hown2; have hz6 : wr.heap.size ≤ w2.heap.size := HM2.out.size; clear hown2 hg2)
                    | (refine step_append_Own _ rfl (.tmp 66) (.tmp 69) 52 rfl wr.heap.size 3 i0 _ 1 8 Try.underlying52 hi hz0 hz1 hz2 rfl (by decide) v2 (0 + 0 + 1) ([] ++ (ints (([] : List Int).take 0)) ++ [.int .i64 u]) rfl HO2.out none (([] : List Int).length - 0) 0 (ints (([] : List Int).drop 0)) rfl d1.out (src70.out _ HM2.out) d2.out d3 d4 hz6 ?_; intro v3 w3 hown3 hg3 _; have HM3 := hide (Below.grown HM2.out hg3 hz6 (fun k hk => (HO2.out.lt k hk).1)); have HO3 := hide hown3; clear hown3 hg3))
                  all_goals go_wp2
                  all_goals go_roundw
                  all_goals try case rel => exact ⟨k + 1, by omega, by go_num, un_end HL.out HI.out (by simp) HO3.out HBL.out HM3.out hws⟩
                  all_goals try case measure => simp [intOf]; omega
                · -- at the end
                  subst hal2
                  obtain ⟨A70, hA70, src70⟩ : ∃ A : Addr, (if capl = l.length then some (⟨g, 0, none⟩ : Addr) else some ⟨g, l.length, none⟩) = some A ∧ Hid (∀ W : World, Below wr.heap.size wr W → 0 < 0 → ∃ a', some A = some a' ∧ ∀ j x, (ints (l.drop l.length))[j]? = some x → W.cell? (a'.add j) = some x) := by
                    by_cases hc : capl = l.length
                    · exact ⟨_, if_pos hc, hide fun W _ h0 => by omega⟩
                    · refine ⟨_, if_neg hc, hide fun W hW _ => ⟨_, rfl, fun j x hx => ?_⟩⟩
                      rw [← ints_drop, List.getElem?_drop] at hx
                      have := (HO.out.below hW).cells (g := g) rfl _ x hx
                      rw [Addr.add_lit] at this
                      rw [Addr.add_lit]
                      simpa using this
                  have src62 : Hid (∀ W : World, Below wr.heap.size wr W → 0 < l.length → ∃ a', some (⟨g, 0, none⟩ : Addr) = some a' ∧ ∀ j x, (ints (l.take l.length))[j]? = some x → W.cell? (a'.add j) = some x) := hide fun W hW _ => ⟨_, rfl, fun j x hx => by
                    rw [← ints_take, List.getElem?_take] at hx
                    split at hx
                    · exact (HO.out.below hW).cells (g := g) rfl j x hx
                    · cases hx⟩
                  have hac : l.length ≤ capl := by omega
                  have n1 : Hid ((ints (l.take l.length)).length = l.length * 1) := hide (by rw [ints_length, List.length_take]; omega)
                  have n2 : Hid (∀ u ∈ (ints (l.take l.length)), u.oneCell' = true) := hide (ints_one _)
                  have n3 : 0 + l.length ≤ maxLen := by unfold maxLen; omega
                  have n4 : (0 + l.length) * 8 ≤ 140737488355328 := by omega
                  have m1 : Hid (∀ w1 : World, 0 < 1 → ∃ a, some (⟨w1.heap.size, 0, none⟩ : Addr) = some a ∧ ∀ j x, [Value.int .i64 u][j]? = some x → (w1.alloc (.cells #[.int .i64 u] 3)).cell? (a.add j) = some x) := hide fun w1 => blk_src (Blk.new w1 3 #[.int .i64 u])
                  have m2 : Hid (∀ x ∈ [Value.int .i64 u], x.oneCell' = true) := hide (by simp [Value.oneCell'])
                  have m3 : 0 + l.length + 1 ≤ maxLen := by unfold maxLen; omega
                  have m4 : (0 + l.length + 1) * 8 ≤ 140737488355328 := by omega
                  have d1 : Hid ((ints (l.drop l.length)).length = 0 * 1) := hide (by rw [ints_length, List.length_drop]; omega)
                  have d2 : Hid (∀ u ∈ (ints (l.drop l.length)), u.oneCell' = true) := hide (ints_one _)
                  have d3 : 0 + l.length + 1 + 0 ≤ maxLen := by unfold maxLen; omega
                  have d4 : (0 + l.length + 1 + 0) * 8 ≤ 140737488355328 := by omega
                  have ea : Hid (Own (wr.alloc (.cells #[] 3)).drew wr.heap.size 3 1 (.slice (some ⟨wr.heap.size, 0, none⟩) 0 0) 0 []) := hide (own_empty (Blk.new wr 3 #[]) (Nat.le_refl _))
                  have eb : Hid (Own ((wr.alloc (.cells #[] 3)).alloc (.cells #[.int .i64 u] 3)).drew wr.heap.size 3 1 (.slice (some ⟨wr.heap.size, 0, none⟩) 0 0) 0 []) := hide (own_empty ((Blk.new wr 3 #[]).alloc _) (Nat.le_refl _))
                  have ec : Hid (Own ((wr.alloc (.cells #[.int .i64 u] 3)).alloc (.cells #[] 3)).drew wr.heap.size 3 1 (.slice (some ⟨wr.heap.size + 1, 0, none⟩) 0 0) 0 []) := hide (own_empty (Blk.new' (wr.alloc (.cells #[.int .i64 u] 3)) 3 #[] _ (by simp)) (by omega))
                  have fa : Hid (Below wr.heap.size wr (wr.alloc (.cells #[] 3)).drew) := hide ((Below.refl _ _).alloc (Nat.le_refl _) _).drew
                  have fb : Hid (Below wr.heap.size wr ((wr.alloc (.cells #[] 3)).alloc (.cells #[.int .i64 u] 3)).drew) := hide (((Below.refl _ _).alloc (Nat.le_refl _) _).alloc (by simp) _).drew
                  have fc : Hid (Below wr.heap.size wr ((wr.alloc (.cells #[.int .i64 u] 3)).alloc (.cells #[] 3)).drew) := hide (((Below.refl _ _).alloc (Nat.le_refl _) _).alloc (by simp) _).drew
                  have db : Hid (Blk ((wr.alloc (.cells #[] 3)).alloc (.cells #[.int .i64 u] 3)).drew (wr.heap.size + 1) 3 #[.int .i64 u]) := hide (Blk.new' (wr.alloc (.cells #[] 3)) 3 _ _ (by simp))
                  have dc : Hid (Blk ((wr.alloc (.cells #[.int .i64 u] 3)).alloc (.cells #[] 3)).drew wr.heap.size 3 #[.int .i64 u]) := hide ((Blk.new wr 3 _).alloc _)
                  go_wp2_with fail
                  go_region_law (first
                    | (refine step_append_Own _ rfl (.tmp 59) (.tmp 62) 52 rfl wr.heap.size 3 i0 _ 1 8 Try.underlying52 hi hz0 hz1 hz2 rfl (by decide) (.slice (some ⟨wr.heap.size, 0, none⟩) 0 0) 0 [] rfl ea.out (some ⟨g, 0, none⟩) l.length capl (ints (l.take l.length)) rfl n1.out (src62.out _ fa.out) n2.out n3 n4 fa.out.size ?_; intro v1 w1 hown1 hg1 _; have HM := hide (un_mid fa.out fa.out.size rfl (by omega) hg1); have HO1 := hide hown1; have hz5 : wr.heap.size ≤ w1.heap.size := HM.out.size; clear hown1 hg1)
                    | (refine step_append_Own _ rfl (.tmp 59) (.tmp 62) 52 rfl wr.heap.size 3 i0 _ 1 8 Try.underlying52 hi hz0 hz1 hz2 rfl (by decide) (.slice (some ⟨wr.heap.size, 0, none⟩) 0 0) 0 [] rfl eb.out (some ⟨g, 0, none⟩) l.length capl (ints (l.take l.length)) rfl n1.out (src62.out _ fb.out) n2.out n3 n4 fb.out.size ?_; intro v1 w1 hown1 hg1 _; have HM := hide (un_mid fb.out fb.out.size rfl (by omega) hg1); have HO1 := hide hown1; have hz5 : wr.heap.size ≤ w1.heap.size := HM.out.size; have HS := hide (un_src db.out rfl (by omega) hg1); clear hown1 hg1)
                    | (refine step_append_Own _ rfl (.tmp 59) (.tmp 62) 52 rfl wr.heap.size 3 i0 _ 1 8 Try.underlying52 hi hz0 hz1 hz2 rfl (by decide) (.slice (some ⟨wr.heap.size + 1, 0, none⟩) 0 0) 0 [] rfl ec.out (some ⟨g, 0, none⟩) l.length capl (ints (l.take l.length)) rfl n1.out (src62.out _ fc.out) n2.out n3 n4 fc.out.size ?_; intro v1 w1 hown1 hg1 _; have HM := hide (un_mid fc.out fc.out.size rfl (by omega) hg1); have HO1 := hide hown1; have hz5 : wr.heap.size ≤ w1.heap.size := HM.out.size; have HS := hide (un_src dc.out rfl (by omega) hg1); clear hown1 hg1)
                    | (refine step_append_Own _ rfl (.tmp 63) (.tmp 65) 52 rfl wr.heap.size 3 i0 _ 1 8 Try.underlying52 hi hz0 hz1 hz2 rfl (by decide) v1 (0 + l.length) ([] ++ (ints (l.take l.length))) rfl (HO1.out.alloc _) (some ⟨w1.heap.size, 0, none⟩) 1 1 [.int .i64 u] rfl rfl (m1.out w1) m2.out m3 m4 (HM.out.alloc hz5 _).size ?_; intro v2 w2 hown2 hg2 _; have HM2 := hide (Below.grown (HM.out.alloc hz5 _) hg2 (HM.out.alloc hz5 _).size (fun k hk => (HO1.out.lt k hk).1)); have HO2 := hide hown2; have hz6 : wr.heap.size ≤ w2.heap.size := HM2.out.size; clear hown2 hg2)
                    | (refine step_append_Own _ rfl (.tmp 63) (.tmp 65) 52 rfl wr.heap.size 3 i0 _ 1 8 Try.underlying52 hi hz0 hz1 hz2 rfl (by decide) v1 (0 + l.length) ([] ++ (ints (l.take l.length))) rfl HO1.out (some ⟨wr.heap.size + 1, 0, none⟩) 1 1 [.int .i64 u] rfl rfl (blk_src HS.out) m2.out m3 m4 HM.out.size ?_; intro v2 w2 hown2 hg2 _; have HM2 := hide (Below.grown HM.out hg2 HM.out.size (fun k hk => (HO1.out.lt k hk).1)); have HO2 := hide hown2; have hz6 : wr.heap.size ≤ w2.heap.size := HM2.out.size; clear hown2 hg2)
                    | (refine step_append_Own _ rfl (.tmp 63) (.tmp 65) 52 rfl wr.heap.size 3 i0 _ 1 8 Try.underlying52 hi hz0 hz1 hz2 rfl (by decide) v1 (0 + l.length) ([] ++ (ints (l.take l.length))) rfl HO1.out (some ⟨wr.heap.size, 0, none⟩) 1 1 [.int .i64 u] rfl rfl (blk_src HS.out) m2.out m3 m4 HM.out.size ?_; intro v2 w2 hown2 hg2 _; have HM2 := hide (Below.grown HM.out hg2 HM.out.size (fun k hk => (HO1.out.lt k hk).1)); have HO2 := hide hown2; have hz6 : wr.heap.size ≤ w2.heap.size := HM2.out.size; clear hown2 hg2)
                    | (refine step_append_Own _ rfl (.tmp 66) (.tmp 69) 52 rfl wr.heap.size 3 i0 _ 1 8 Try.underlying52 hi hz0 hz1 hz2 rfl (by decide) v2 (0 + l.length + 1) ([] ++ (ints (l.take l.length)) ++ [.int .i64 u]) rfl HO2.out (some A70) 0 (capl - l.length) (ints (l.drop l.length)) rfl d1.out (src70.out _ HM2.out) d2.out d3 d4 hz6 ?_; intro v3 w3 hown3 hg3 _; have HM3 := hide (Below.grown HM2.out hg3 hz6 (fun k hk => (HO2.out.lt k hk).1)); have HO3 := hide hown3; clear hown3 hg3))
                  all_goals go_wp2
                  all_goals go_roundw
                  all_goals try case rel => exact ⟨k + 1, by omega, by go_num, un_end HL.out HI.out (by simp) HO3.out HBL.out HM3.out hws⟩
                  all_goals try case measure => simp [intOf]; omega
                · -- amidst
                  obtain ⟨A70, hA70, src70⟩ : ∃ A : Addr, (if capl = a then some (⟨g, 0, none⟩ : Addr) else some ⟨g, a, none⟩) = some A ∧ Hid (∀ W : World, Below wr.heap.size wr W → 0 < l.length - a → ∃ a', some A = some a' ∧ ∀ j x, (ints (l.drop a))[j]? = some x → W.cell? (a'.add j) = some x) := by
                    by_cases hc : capl = a
                    · exact ⟨_, if_pos hc, hide fun W _ h0 => by omega⟩
                    · refine ⟨_, if_neg hc, hide fun W hW _ => ⟨_, rfl, fun j x hx => ?_⟩⟩
                      rw [← ints_drop, List.getElem?_drop] at hx
                      have := (HO.out.below hW).cells (g := g) rfl _ x hx
                      rw [Addr.add_lit] at this
                      rw [Addr.add_lit]
                      simpa using this
                  have src62 : Hid (∀ W : World, Below wr.heap.size wr W → 0 < a → ∃ a', some (⟨g, 0, none⟩ : Addr) = some a' ∧ ∀ j x, (ints (l.take a))[j]? = some x → W.cell? (a'.add j) = some x) := hide fun W hW _ => ⟨_, rfl, fun j x hx => by
                    rw [← ints_take, List.getElem?_take] at hx
                    split at hx
                    · exact (HO.out.below hW).cells (g := g) rfl j x hx
                    · cases hx⟩
                  have hac : a ≤ capl := by omega
                  have hne : ¬ (a = l.length) := by omega
                  have hxu : ¬ (x < u) := by omega
                  have hxe : (x != u) = true := by simp; omega
                  have n1 : Hid ((ints (l.take a)).length = a * 1) := hide (by rw [ints_length, List.length_take]; omega)
                  have n2 : Hid (∀ u ∈ (ints (l.take a)), u.oneCell' = true) := hide (ints_one _)
                  have n3 : 0 + a ≤ maxLen := by unfold maxLen; omega
                  have n4 : (0 + a) * 8 ≤ 140737488355328 := by omega
                  have m1 : Hid (∀ w1 : World, 0 < 1 → ∃ a, some (⟨w1.heap.size, 0, none⟩ : Addr) = some a ∧ ∀ j x, [Value.int .i64 u][j]? = some x → (w1.alloc (.cells #[.int .i64 u] 3)).cell? (a.add j) = some x) := hide fun w1 => blk_src (Blk.new w1 3 #[.int .i64 u])
                  have m2 : Hid (∀ x ∈ [Value.int .i64 u], x.oneCell' = true) := hide (by simp [Value.oneCell'])
                  have m3 : 0 + a + 1 ≤ maxLen := by unfold maxLen; omega
                  have m4 : (0 + a + 1) * 8 ≤ 140737488355328 := by omega
                  have d1 : Hid ((ints (l.drop a)).length = (l.length - a) * 1) := hide (by rw [ints_length, List.length_drop]; omega)
                  have d2 : Hid (∀ u ∈ (ints (l.drop a)), u.oneCell' = true) := hide (ints_one _)
                  have d3 : 0 + a + 1 + (l.length - a) ≤ maxLen := by unfold maxLen; omega
                  have d4 : (0 + a + 1 + (l.length - a)) * 8 ≤ 140737488355328 := by omega
                  have ea : Hid (Own (wr.alloc (.cells #[] 3)).drew wr.heap.size 3 1 (.slice (some ⟨wr.heap.size, 0, none⟩) 0 0) 0 []) := hide (own_empty (Blk.new wr 3 #[]) (Nat.le_refl _))
                  have eb : Hid (Own ((wr.alloc (.cells #[] 3)).alloc (.cells #[.int .i64 u] 3)).drew wr.heap.size 3 1 (.slice (some ⟨wr.heap.size, 0, none⟩) 0 0) 0 []) := hide (own_empty ((Blk.new wr 3 #[]).alloc _) (Nat.le_refl _))
                  have ec : Hid (Own ((wr.alloc (.cells #[.int .i64 u] 3)).alloc (.cells #[] 3)).drew wr.heap.size 3 1 (.slice (some ⟨wr.heap.size + 1, 0, none⟩) 0 0) 0 []) := hide (own_empty (Blk.new' (wr.alloc (.cells #[.int .i64 u] 3)) 3 #[] _ (by simp)) (by omega))
                  have fa : Hid (Below wr.heap.size wr (wr.alloc (.cells #[] 3)).drew) := hide ((Below.refl _ _).alloc (Nat.le_refl _) _).drew
                  have fb : Hid (Below wr.heap.size wr ((wr.alloc (.cells #[] 3)).alloc (.cells #[.int .i64 u] 3)).drew) := hide (((Below.refl _ _).alloc (Nat.le_refl _) _).alloc (by simp) _).drew
                  have fc : Hid (Below wr.heap.size wr ((wr.alloc (.cells #[.int .i64 u] 3)).alloc (.cells #[] 3)).drew) := hide (((Below.refl _ _).alloc (Nat.le_refl _) _).alloc (by simp) _).drew
                  have db : Hid (Blk ((wr.alloc (.cells #[] 3)).alloc (.cells #[.int .i64 u] 3)).drew (wr.heap.size + 1) 3 #[.int .i64 u]) := hide (Blk.new' (wr.alloc (.cells #[] 3)) 3 _ _ (by simp))
                  have dc : Hid (Blk ((wr.alloc (.cells #[.int .i64 u] 3)).alloc (.cells #[] 3)).drew wr.heap.size 3 #[.int .i64 u]) := hide ((Blk.new wr 3 _).alloc _)
                  go_wp2_with fail
                  go_region_law (first
                    | (refine step_append_Own _ rfl (.tmp 59) (.tmp 62) 52 rfl wr.heap.size 3 i0 _ 1 8 Try.underlying52 hi hz0 hz1 hz2 rfl (by decide) (.slice (some ⟨wr.heap.size, 0, none⟩) 0 0) 0 [] rfl ea.out (some ⟨g, 0, none⟩) a capl (ints (l.take a)) rfl n1.out (src62.out _ fa.out) n2.out n3 n4 fa.out.size ?_; intro v1 w1 hown1 hg1 _; have HM := hide (un_mid fa.out fa.out.size rfl (by omega) hg1); have HO1 := hide hown1; have hz5 : wr.heap.size ≤ w1.heap.size := HM.out.size; clear hown1 hg1)
                    | (refine step_append_Own _ rfl (.tmp 59) (.tmp 62) 52 rfl wr.heap.size 3 i0 _ 1 8 Try.underlying52 hi hz0 hz1 hz2 rfl (by decide) (.slice (some ⟨wr.heap.size, 0, none⟩) 0 0) 0 [] rfl eb.out (some ⟨g, 0, none⟩) a capl (ints (l.take a)) rfl n1.out (src62.out _ fb.out) n2.out n3 n4 fb.out.size ?_; intro v1 w1 hown1 hg1 _; have HM := hide (un_mid fb.out fb.out.size rfl (by omega) hg1); have HO1 := hide hown1; have hz5 : wr.heap.size ≤ w1.heap.size := HM.out.size; have HS := hide (un_src db.out rfl (by omega) hg1); clear hown1 hg1)
                    | (refine step_append_Own _ rfl (.tmp 59) (.tmp 62) 52 rfl wr.heap.size 3 i0 _ 1 8 Try.underlying52 hi hz0 hz1 hz2 rfl (by decide) (.slice (some ⟨wr.heap.size + 1, 0, none⟩) 0 0) 0 [] rfl ec.out (some ⟨g, 0, none⟩) a capl (ints (l.take a)) rfl n1.out (src62.out _ fc.out) n2.out n3 n4 fc.out.size ?_; intro v1 w1 hown1 hg1 _; have HM := hide (un_mid fc.out fc.out.size rfl (by omega) hg1); have HO1 := hide hown1; have hz5 : wr.heap.size ≤ w1.heap.size := HM.out.size; have HS := hide (un_src dc.out rfl (by omega) hg1); clear hown1 hg1)
                    | (refine step_append_Own _ rfl (.tmp 63) (.tmp 65) 52 rfl wr.heap.size 3 i0 _ 1 8 Try.underlying52 hi hz0 hz1 hz2 rfl (by decide) v1 (0 + a) ([] ++ (ints (l.take a))) rfl (HO1.out.alloc _) (some ⟨w1.heap.size, 0, none⟩) 1 1 [.int .i64 u] rfl rfl (m1.out w1) m2.out m3 m4 (HM.out.alloc hz5 _).size ?_; intro v2 w2 hown2 hg2 _; have HM2 := hide (Below.grown (HM.out.alloc hz5 _) hg2 (HM.out.alloc hz5 _).size (fun k hk => (HO1.out.lt k hk).1)); have HO2 := hide hown2; have hz6 : wr.heap.size ≤ w2.heap.size := HM2.out.size; clear hown2 hg2)
                    | (refine step_append_Own _ rfl (.tmp 63) (.tmp 65) 52 rfl wr.heap.size 3 i0 _ 1 8 Try.underlying52 hi hz0 hz1 hz2 rfl (by decide) v1 (0 + a) ([] ++ (ints (l.take a))) rfl HO1.out (some ⟨wr.heap.size + 1, 0, none⟩) 1 1 [.int .i64 u] rfl rfl (blk_src HS.out) m2.out m3 m4 HM.out.size ?_; intro v2 w2 hown2 hg2 _; have HM2 := hide (Below.grown HM.out hg2 HM.out.size (fun k hk => (HO1.out.lt k hk).1)); have HO2 := hide hown2; have hz6 : wr.heap.size ≤ w2.heap.size := HM2.out.size; clear hown2 hg2)
                    | (refine step_append_Own _ rfl (.tmp 63) (.tmp 65) 52 rfl wr.heap.size 3 i0 _ 1 8 Try.underlying52 hi hz0 hz1 hz2 rfl (by decide) v1 (0 + a) ([] ++ (ints (l.take a))) rfl HO1.out (some ⟨wr.heap.size, 0, none⟩) 1 1 [.int .i64 u] rfl rfl (blk_src HS.out) m2.out m3 m4 HM.out.size ?_; intro v2 w2 hown2 hg2 _; have HM2 := hide (Below.grown HM.out hg2 HM.out.size (fun k hk => (HO1.out.lt k hk).1)); have HO2 := hide hown2; have hz6 : wr.heap.size ≤ w2.heap.size := HM2.out.size; clear hown2 hg2)
                    | (refine step_append_Own _ rfl (.tmp 66) (.tmp 69) 52 rfl wr.heap.size 3 i0 _ 1 8 Try.underlying52 hi hz0 hz1 hz2 rfl (by decide) v2 (0 + a + 1) ([] ++ (ints (l.take a)) ++ [.int .i64 u]) rfl HO2.out (some A70) (l.length - a) (capl - a) (ints (l.drop a)) rfl d1.out (src70.out _ HM2.out) d2.out d3 d4 hz6 ?_; intro v3 w3 hown3 hg3 _; have HM3 := hide (Below.grown HM2.out hg3 hz6 (fun k hk => (HO2.out.lt k hk).1)); have HO3 := hide hown3; clear hown3 hg3))
                  all_goals go_wp2
                  all_goals go_roundw
                  all_goals try case rel => exact ⟨k + 1, by omega, by go_num, un_end HL.out HI.out (by simp) HO3.out HBL.out HM3.out hws⟩
                  all_goals try case measure => simp [intOf]; omega
        · have HK : Hid (k = c.length) := hide (by omega)
          have HO := hide hown
          clear hown
          go_wp2
          go_roundw
          case rel => exact ⟨j + 1, by omega, by go_num, by rw [take_flat HC.out]; have := HO.out; rw [HK.out, List.take_length] at this; exact ⟨this, HBL.out⟩⟩
          case measure => simp [intOf]; omega
    · have HJ : Hid (j = cs.length) := hide (by omega)
      obtain ⟨Al, capl, rfl, hlc, hlm⟩ := HO.out.shape
      go_wp2
      go_ret
      have hh := HO.out
      rw [HJ.out, List.take_length] at hh hlc ⊢
      exact ⟨Al, capl, rfl, hlc, HBW.out⟩
end Go.Proofs.Ytceljebpcfojeaa

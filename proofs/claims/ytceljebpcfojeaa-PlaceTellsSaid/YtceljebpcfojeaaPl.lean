/- place.Of, Addr, Below; Mod. -/
import Derived.Test.YtceljebpcfojeaaGood
import Derived.Lib.MinMax
import Derived.Deep.RegionHeld3
namespace Go.Proofs.Ytceljebpcfojeaa
open Go.RowKit
set_option linter.unusedVariables false

theorem good_to (B : Nat) (ep : Int) (v : Value) (cs : List (List Int)) (g : Bool) (w : World) (h : PrAt w B v cs) (hB : B ≤ w.heap.size) (hg : goodP ep cs = g) :
    Calls Try.prog 25 #[.agg #[.int .i64 ep, v]] w fun e w' => e = .returned (.bool g) ∧ Below w.heap.size w w' := by
  subst hg
  exact good_any B ep v cs w h hB
theorem goodP_len {ep : Int} {cs : List (List Int)} (h : goodP ep cs = true) : 1 ≤ cs.length ∧ cs.length ≤ 4 := by
  unfold goodP at h
  rw [Bool.and_eq_true, decide_eq_true_iff] at h
  exact h.1.2.2
def OfVal (addr n : Int) : Value := .tuple #[.agg #[.int .i64 (addr % n), .int .i64 (addr / n)], .bool true]
def noPlace : Value := .tuple #[.agg #[.int .i64 0, .int .i64 0], .bool false]
def ofB (ep : Int) (cs : List (List Int)) (addr : Int) : Bool := goodP ep cs && decide (0 ≤ addr ∧ addr < 16384)
theorem ofB_yes {ep : Int} {cs : List (List Int)} {addr : Int} (h : ofB ep cs addr = true) : goodP ep cs = true ∧ 0 ≤ addr ∧ addr < 16384 := by
  unfold ofB at h
  rw [Bool.and_eq_true, decide_eq_true_iff] at h
  exact h
theorem Blk.two {w : World} {g : Nat} {a b : Value} {t : TypeId} (h : Blk w g t #[a, b]) : w.cell? ⟨g, 0, none⟩ = some a ∧ w.cell? ⟨g, 1, none⟩ = some b ∧ w.frozen? ⟨g, 0, none⟩ = false ∧ w.frozen? ⟨g, 1, none⟩ = false := ⟨h.cell 0, h.cell 1, h.frozen 0, h.frozen 1⟩
theorem Blk.new' (w : World) (t : TypeId) (cs : Array Value) (g : Nat) (hg : g = w.heap.size) : Blk (w.alloc (.cells cs t)) g t cs := by
  subst hg
  exact Blk.new w t cs
/-- two new blocks, and a call behind them -/
theorem two_below {w w1 : World} {a b c d : Value} {t u : TypeId} (hb : Below ((w.alloc (.cells #[a, b] t)).alloc (.cells #[c, d] u)).heap.size ((w.alloc (.cells #[a, b] t)).alloc (.cells #[c, d] u)) w1) :
    Blk w1 w.heap.size t #[a, b] ∧ Blk w1 (w.heap.size + 1) u #[c, d] ∧ Below w.heap.size w w1 :=
  ⟨((Blk.new w t _).alloc _).below hb (by simp; omega), (Blk.new' (w.alloc (.cells #[a, b] t)) u #[c, d] (w.heap.size + 1) (by simp)).below hb (by simp), (((Below.refl _ _).alloc (Nat.le_refl _) _).alloc (by simp) _).trans (hb.mono (by simp; omega))⟩

theorem below_undrew {B : Nat} {w w1 : World} (hb : Below B w.drew w1) : Below B w w1 := ⟨hb.os, hb.tape, hb.output, hb.size, hb.block⟩
theorem two_below_d {w w1 : World} {a b c d : Value} {t u : TypeId} (hb : Below ((w.alloc (.cells #[a, b] t)).alloc (.cells #[c, d] u)).drew.heap.size ((w.alloc (.cells #[a, b] t)).alloc (.cells #[c, d] u)).drew w1) :
    Blk w1 w.heap.size t #[a, b] ∧ Blk w1 (w.heap.size + 1) u #[c, d] ∧ Below w.heap.size w w1 := two_below (below_undrew hb)

set_option maxHeartbeats 800000 in
theorem of_no (B : Nat) (ep addr : Int) (v : Value) (cs : List (List Int)) (w : World) (h : PrAt w B v cs) (hB : B ≤ w.heap.size) (hno : ofB ep cs addr = false) :
    Calls Try.prog 17 #[.agg #[.int .i64 ep, v], .int .i64 addr] w fun e w' => e = .returned noPlace ∧ Below w.heap.size w w' := by
  have HPA : Hid (∀ o o', PrAt ((w.alloc o).alloc o') w.heap.size v cs) := hide fun o o' => h.below (((Below.refl _ _).alloc (Nat.le_refl _) _).alloc (by simp) _) hB
  unfold ofB at hno
  by_cases hg : goodP ep cs = true
  · have HG := hide hg
    rw [hg, Bool.true_and, decide_eq_false_iff_not] at hno
    clear hg
    by_cases h0 : 0 ≤ addr
    · have h1 : 16384 ≤ addr := by omega
      go_enter Try.func17, Try.ntmps17
      go_wp2_with fail
      refine (good_to w.heap.size ep v cs true _ (HPA.out _ _) (by simp; omega) HG.out).mono ?_
      rintro e w1 ⟨rfl, hb1⟩
      obtain ⟨k1, k2, k3⟩ := two_below hb1
      have HB3 := hide k3
      obtain ⟨c0, c1, z0, z1⟩ := k2.two
      clear k1 k2 k3 hb1
      go_wp2
      refine bodyPost_ret (v := noPlace) (by simp [results, Try.results17, go_sem, noPlace, c0, c1]) rfl ⟨rfl, ?_⟩
      exact (HB3.out.setCell (by simp) _).setCell (by simp) _
    · go_enter Try.func17, Try.ntmps17
      go_wp2_with fail
      refine (good_to w.heap.size ep v cs true _ (HPA.out _ _) (by simp; omega) HG.out).mono ?_
      rintro e w1 ⟨rfl, hb1⟩
      obtain ⟨k1, k2, k3⟩ := two_below hb1
      have HB3 := hide k3
      obtain ⟨c0, c1, z0, z1⟩ := k2.two
      clear k1 k2 k3 hb1
      go_wp2
      refine bodyPost_ret (v := noPlace) (by simp [results, Try.results17, go_sem, noPlace, c0, c1]) rfl ⟨rfl, ?_⟩
      exact (HB3.out.setCell (by simp) _).setCell (by simp) _
  · have HG := hide (eq_false_of_ne_true hg)
    clear hg hno
    go_enter Try.func17, Try.ntmps17
    go_wp2_with fail
    refine (good_to w.heap.size ep v cs false _ (HPA.out _ _) (by simp; omega) HG.out).mono ?_
    rintro e w1 ⟨rfl, hb1⟩
    obtain ⟨k1, k2, k3⟩ := two_below hb1
    have HB3 := hide k3
    obtain ⟨c0, c1, z0, z1⟩ := k2.two
    clear k1 k2 k3 hb1
    go_wp2
    refine bodyPost_ret (v := noPlace) (by simp [results, Try.results17, go_sem, noPlace, c0, c1]) rfl ⟨rfl, ?_⟩
    exact (HB3.out.setCell (by simp) _).setCell (by simp) _

set_option maxHeartbeats 800000 in
theorem of_yes (B : Nat) (ep addr : Int) (v : Value) (cs : List (List Int)) (w : World) (h : PrAt w B v cs) (hB : B ≤ w.heap.size) (hyes : ofB ep cs addr = true) :
    Calls Try.prog 17 #[.agg #[.int .i64 ep, v], .int .i64 addr] w fun e w' => e = .returned (OfVal addr cs.length) ∧ Below w.heap.size w w' := by
  obtain ⟨hg, h0, h1⟩ := ofB_yes hyes
  obtain ⟨n0, n1⟩ := goodP_len hg
  have HG := hide hg
  have HPA : Hid (∀ o o', PrAt ((w.alloc o).alloc o') w.heap.size v cs) := hide fun o o' => h.below (((Below.refl _ _).alloc (Nat.le_refl _) _).alloc (by simp) _) hB
  obtain ⟨A, cap, rfl, hcap, hcap2⟩ := h.shape
  clear hg h hyes
  generalize hn : cs.length = n at *
  have HN := hide hn
  clear hn
  have i0 : (0 : Int) < (n : Int) := by omega
  have i1 : ¬ (n = 0) := by omega
  have d0 : 0 ≤ addr / n := Int.ediv_nonneg h0 (by omega)
  have d1 : addr / n ≤ addr := Int.ediv_le_self _ h0
  have m0 : 0 ≤ addr % n := Int.emod_nonneg _ (by omega)
  have m1 : addr % n < n := Int.emod_lt_of_pos _ i0
  go_enter Try.func17, Try.ntmps17
  go_wp2_with fail
  refine (good_to w.heap.size ep _ cs true _ (HPA.out _ _) (by simp; omega) HG.out).mono ?_
  rintro e w1 ⟨rfl, hb1⟩
  obtain ⟨k1, k2, k3⟩ := two_below hb1
  have HB3 := hide k3
  obtain ⟨a0, a1, _, _⟩ := k1.two
  obtain ⟨c0, c1, z0, z1⟩ := k2.two
  clear k1 k2 k3 hb1
  go_wp2_with fail
  go_region
  all_goals go_wp2
  all_goals refine bodyPost_ret (v := OfVal addr n) (by simp [results, Try.results17, go_sem, OfVal, c0, c1]) rfl ⟨rfl, ?_⟩
  all_goals exact ((HB3.out.setCell (by simp) _).setCell (by simp) _).drew
def ofVal (ep : Int) (cs : List (List Int)) (addr : Int) : Value := if ofB ep cs addr = true then OfVal addr cs.length else noPlace
theorem of_any (B : Nat) (ep addr : Int) (v : Value) (cs : List (List Int)) (w : World) (h : PrAt w B v cs) (hB : B ≤ w.heap.size) :
    Calls Try.prog 17 #[.agg #[.int .i64 ep, v], .int .i64 addr] w fun e w' => e = .returned (ofVal ep cs addr) ∧ Below w.heap.size w w' := by
  unfold ofVal
  by_cases hb : ofB ep cs addr = true
  · rw [if_pos hb]
    exact of_yes B ep addr v cs w h hB hb
  · rw [if_neg hb]
    exact of_no B ep addr v cs w h hB (eq_false_of_ne_true hb)

theorem two_cells {w : World} {b d : Nat} {x y z u : Value} {t s : TypeId} (h : Blk w b t #[x, y]) (k : Blk w d s #[z, u]) : (w.cell? ⟨b, 0, none⟩ = some x ∧ w.cell? ⟨b, 1, none⟩ = some y) ∧ w.cell? ⟨d, 0, none⟩ = some z ∧ w.cell? ⟨d, 1, none⟩ = some u := ⟨⟨h.cell 0, h.cell 1⟩, k.cell 0, k.cell 1⟩
/-- what Addr answers -/
def AdVal (a : Int) (b : Bool) : Value := .tuple #[.int .i64 a, .bool b]
def adB (ep : Int) (cs : List (List Int)) (c p : Int) : Bool := goodP ep cs && decide (0 ≤ c ∧ c < cs.length ∧ 0 ≤ p ∧ p ≤ (16383 - c) / cs.length)
def adVal (ep : Int) (cs : List (List Int)) (c p : Int) : Value := if adB ep cs c p = true then AdVal (p * cs.length + c) true else AdVal 0 false
theorem adVal_yes {ep c p : Int} {cs : List (List Int)} (hg : goodP ep cs = true) (h : 0 ≤ c ∧ c < cs.length ∧ 0 ≤ p ∧ p ≤ (16383 - c) / cs.length) : adVal ep cs c p = AdVal (p * cs.length + c) true := by
  unfold adVal adB
  rw [hg, decide_eq_true h]
  rfl
theorem adVal_no {ep c p : Int} {cs : List (List Int)} (h : ¬ (0 ≤ c ∧ c < cs.length ∧ 0 ≤ p ∧ p ≤ (16383 - c) / cs.length)) : adVal ep cs c p = AdVal 0 false := by
  unfold adVal adB
  rw [decide_eq_false h, Bool.and_false]
  rfl
theorem adVal_bad {ep c p : Int} {cs : List (List Int)} (h : goodP ep cs = false) : adVal ep cs c p = AdVal 0 false := by
  unfold adVal adB
  rw [h, Bool.false_and]
  rfl

set_option maxRecDepth 10000 in
set_option maxHeartbeats 1600000 in
theorem addr_yes (B : Nat) (ep c p : Int) (v : Value) (cs : List (List Int)) (w : World) (h : PrAt w B v cs) (hB : B ≤ w.heap.size) (hg : goodP ep cs = true) (hc : 0 ≤ c ∧ c < cs.length ∧ 0 ≤ p ∧ p ≤ (16383 - c) / cs.length) :
    Calls Try.prog 18 #[.agg #[.int .i64 ep, v], .agg #[.int .i64 c, .int .i64 p]] w fun e w' => e = .returned (AdVal (p * cs.length + c) true) ∧ Below w.heap.size w w' := by
  have HPA : Hid (∀ o o', PrAt ((w.alloc o).alloc o').drew w.heap.size v cs) := hide fun o o' => h.below (((Below.refl _ _).alloc (Nat.le_refl _) _).alloc (by simp) _).drew hB
  obtain ⟨A, cap, rfl, hcap, hcap2⟩ := h.shape
  clear h
  have K0 : Hid ((((w.alloc (.cells #[.int .i64 ep, .slice A cs.length cap] 24)).alloc (.cells #[.int .i64 c, .int .i64 p] 40)).drew.cell? ⟨w.heap.size, 0, none⟩ = some (.int .i64 ep) ∧ ((w.alloc (.cells #[.int .i64 ep, .slice A cs.length cap] 24)).alloc (.cells #[.int .i64 c, .int .i64 p] 40)).drew.cell? ⟨w.heap.size, 1, none⟩ = some (.slice A cs.length cap)) ∧ ((w.alloc (.cells #[.int .i64 ep, .slice A cs.length cap] 24)).alloc (.cells #[.int .i64 c, .int .i64 p] 40)).drew.cell? ⟨w.heap.size + 1, 0, none⟩ = some (.int .i64 c) ∧ ((w.alloc (.cells #[.int .i64 ep, .slice A cs.length cap] 24)).alloc (.cells #[.int .i64 c, .int .i64 p] 40)).drew.cell? ⟨w.heap.size + 1, 1, none⟩ = some (.int .i64 p)) :=
    hide (two_cells (w := ((w.alloc (.cells #[.int .i64 ep, .slice A cs.length cap] 24)).alloc (.cells #[.int .i64 c, .int .i64 p] 40)).drew) ((Blk.new w 24 _).alloc _) (Blk.new' (w.alloc (.cells #[.int .i64 ep, .slice A cs.length cap] 24)) 40 _ _ (by simp)))
  obtain ⟨n0, n1⟩ := goodP_len hg
  have HG := hide hg
  clear hg
  obtain ⟨h0, h1, h2, h3⟩ := hc
  generalize cs.length = n at *
  have i0 : (0 : Int) < (n : Int) := by omega
  have i1 : ¬ (n = 0) := by omega
  have q0 : 0 ≤ (16383 - c) / (n : Int) := Int.ediv_nonneg (by omega) (by omega)
  have q1 : (16383 - c) / (n : Int) ≤ 16383 - c := Int.ediv_le_self _ (by omega)
  have hm : p * (n : Int) ≤ 16383 - c := (Int.le_ediv_iff_mul_le i0).1 h3
  have hm0 : 0 ≤ p * (n : Int) := Int.mul_nonneg h2 (by omega)
  have b0 : decide (c < 0) = false := by simp; omega
  have b1 : decide ((n : Int) ≤ c) = false := by simp; omega
  have b2 : decide (p < 0) = false := by simp; omega
  have b3 : decide ((16383 - c) / (n : Int) < p) = false := decide_eq_false (by omega)
  have w1 : IntKind.i64.wrap (16383 - c) = 16383 - c := by rw [IntKind.wrap_i64]; omega
  have w2 : (16383 - c).tdiv (n : Int) = (16383 - c) / (n : Int) := Int.tdiv_eq_ediv_of_nonneg (by omega)
  have w3 : IntKind.i64.wrap ((16383 - c) / (n : Int)) = (16383 - c) / (n : Int) := by rw [IntKind.wrap_i64]; omega
  go_enter Try.func18, Try.ntmps18
  go_wp2_with fail
  first | (go_region_held3 (fun w' => (w'.cell? ⟨w.heap.size, 0, none⟩ = some (.int .i64 ep) ∧ w'.cell? ⟨w.heap.size, 1, none⟩ = some (.slice A n cap)) ∧ w'.cell? ⟨w.heap.size + 1, 0, none⟩ = some (.int .i64 c) ∧ w'.cell? ⟨w.heap.size + 1, 1, none⟩ = some (.int .i64 p)) (first | (with_reducible exact K1.out) | (with_reducible exact K0.out)) ((go_at_call 25; refine (good_to w.heap.size ep _ cs true _ (HPA.out _ _) (by simp; omega) HG.out).mono ?_; rintro e w1 ⟨rfl, hb1⟩; have HB3 := hide (two_below_d hb1).2.2; have K1 := hide (two_cells (two_below_d hb1).1 (two_below_d hb1).2.1); clear hb1))) | fail
  go_wp2
  go_ret2
  exact ⟨rfl, HB3.out⟩

/-- what Below answers -/
def beB (ep : Int) (cs : List (List Int)) (ch : Int) : Bool := goodP ep cs && decide (0 ≤ ch ∧ ch < cs.length)
def beV (n addr ch : Int) : Int := max (min (max addr 0) 16384 - ch + n - 1) 0 / n
theorem Blk.new2 {w w1 : World} {a b : Value} {t : TypeId} (hb : Below (w.alloc (.cells #[a, b] t)).heap.size (w.alloc (.cells #[a, b] t)) w1) : w1.cell? ⟨w.heap.size, 0, none⟩ = some a ∧ w1.cell? ⟨w.heap.size, 1, none⟩ = some b ∧ Below w.heap.size w w1 :=
  ⟨((Blk.new w t #[a, b]).below hb (by simp)).cell 0, ((Blk.new w t #[a, b]).below hb (by simp)).cell 1, ((Below.refl _ _).alloc (Nat.le_refl _) _).trans (hb.mono (by simp))⟩

set_option maxHeartbeats 800000 in
theorem below_no (B : Nat) (ep addr ch : Int) (v : Value) (cs : List (List Int)) (w : World) (h : PrAt w B v cs) (hB : B ≤ w.heap.size) (hno : beB ep cs ch = false) :
    Calls Try.prog 13 #[.agg #[.int .i64 ep, v], .int .i64 addr, .int .i64 ch] w fun e w' => e = .returned (.int .i64 0) ∧ Below w.heap.size w w' := by
  have HPA : Hid (∀ o, PrAt (w.alloc o) w.heap.size v cs) := hide fun o => h.below ((Below.refl _ _).alloc (Nat.le_refl _) _) hB
  obtain ⟨A, cap, rfl, hcap, hcap2⟩ := h.shape
  clear h
  unfold beB at hno
  by_cases hg : goodP ep cs = true
  · have HG := hide hg
    rw [hg, Bool.true_and, decide_eq_false_iff_not] at hno
    clear hg
    generalize cs.length = n at *
    by_cases h0 : 0 ≤ ch
    · have h1 : (n : Int) ≤ ch := by omega
      clear hno
      go_enter Try.func13, Try.ntmps13
      go_wp2_with fail
      refine (good_to w.heap.size ep _ cs true _ (HPA.out _) (by simp) HG.out).mono ?_
      rintro e w1 ⟨rfl, hb1⟩
      obtain ⟨c0, c1, k3⟩ := Blk.new2 hb1
      have HB3 := hide k3
      clear k3 hb1
      go_wp2
      go_ret
      exact ⟨rfl, HB3.out⟩
    · clear hno
      go_enter Try.func13, Try.ntmps13
      go_wp2_with fail
      refine (good_to w.heap.size ep _ cs true _ (HPA.out _) (by simp) HG.out).mono ?_
      rintro e w1 ⟨rfl, hb1⟩
      obtain ⟨c0, c1, k3⟩ := Blk.new2 hb1
      have HB3 := hide k3
      clear k3 hb1
      go_wp2
      go_ret
      exact ⟨rfl, HB3.out⟩
  · have HG := hide (eq_false_of_ne_true hg)
    clear hg hno
    generalize cs.length = n at *
    go_enter Try.func13, Try.ntmps13
    go_wp2_with fail
    refine (good_to w.heap.size ep _ cs false _ (HPA.out _) (by simp) HG.out).mono ?_
    rintro e w1 ⟨rfl, hb1⟩
    obtain ⟨c0, c1, k3⟩ := Blk.new2 hb1
    have HB3 := hide k3
    clear k3 hb1
    go_wp2
    go_ret
    exact ⟨rfl, HB3.out⟩

set_option maxHeartbeats 800000 in
theorem below_yes (B : Nat) (ep addr ch : Int) (v : Value) (cs : List (List Int)) (w : World) (h : PrAt w B v cs) (hB : B ≤ w.heap.size) (hyes : beB ep cs ch = true) :
    Calls Try.prog 13 #[.agg #[.int .i64 ep, v], .int .i64 addr, .int .i64 ch] w fun e w' => e = .returned (.int .i64 (beV cs.length addr ch)) ∧ Below w.heap.size w w' := by
  have HPA : Hid (∀ o, PrAt (w.alloc o) w.heap.size v cs) := hide fun o => h.below ((Below.refl _ _).alloc (Nat.le_refl _) _) hB
  obtain ⟨A, cap, rfl, hcap, hcap2⟩ := h.shape
  clear h
  unfold beB at hyes
  rw [Bool.and_eq_true, decide_eq_true_iff] at hyes
  obtain ⟨hg, h0, h1⟩ := hyes
  obtain ⟨n0, n1⟩ := goodP_len hg
  have HG := hide hg
  clear hg
  generalize cs.length = n at *
  have i0 : (0 : Int) < (n : Int) := by omega
  have i1 : ¬ (n = 0) := by omega
  have hd : Hid (∀ x : Int, x = max (min (max addr 0) 16384 - ch + n - 1) 0 → 0 ≤ x / n ∧ x / n ≤ x ∧ x ≤ 20000) := hide fun x hx => ⟨Int.ediv_nonneg (by omega) (by omega), Int.ediv_le_self _ (by omega), by omega⟩
  have hv : Hid (beV n addr ch = max (min (max addr 0) 16384 - ch + n - 1) 0 / n) := hide rfl
  generalize beV n addr ch = bv at *
  obtain ⟨d0, d1, d2⟩ := hd.out _ rfl
  go_enter Try.func13, Try.ntmps13
  go_wp2_with fail
  refine (good_to w.heap.size ep _ cs true _ (HPA.out _) (by simp) HG.out).mono ?_
  rintro e w1 ⟨rfl, hb1⟩
  obtain ⟨c0, c1, k3⟩ := Blk.new2 hb1
  have HB3 := hide k3
  clear k3 hb1
  go_wp2
  go_ret
  exact ⟨by rw [hv.out]; rfl, HB3.out⟩
def beVal (ep : Int) (cs : List (List Int)) (addr ch : Int) : Int := if beB ep cs ch = true then beV cs.length addr ch else 0
theorem below_any (B : Nat) (ep addr ch : Int) (v : Value) (cs : List (List Int)) (w : World) (h : PrAt w B v cs) (hB : B ≤ w.heap.size) :
    Calls Try.prog 13 #[.agg #[.int .i64 ep, v], .int .i64 addr, .int .i64 ch] w fun e w' => e = .returned (.int .i64 (beVal ep cs addr ch)) ∧ Below w.heap.size w w' := by
  unfold beVal
  by_cases hb : beB ep cs ch = true
  · rw [if_pos hb]
    exact below_yes B ep addr ch v cs w h hB hb
  · rw [if_neg hb]
    exact below_no B ep addr ch v cs w h hB (eq_false_of_ne_true hb)

set_option maxHeartbeats 400000 in
theorem mod_any (k n m : Int) (hn : 1 ≤ n) (hn2 : n ≤ 20000) (hm : m = k % n) (w : World) : Calls Try.prog 16 #[.int .i64 k, .int .i64 n] w fun e w' => e = .returned (.int .i64 m) ∧ w = w' := by
  have h1 : k.tmod n < n := Int.tmod_lt_of_pos _ (by omega)
  have h2 : -n < k.tmod n := by
    have := Int.lt_tmod_of_pos k (show 0 < n by omega)
    omega
  have hn0 : ¬ (n = 0) := by omega
  have HM : Hid ((k.tmod n + n) % n = m) := hide (by
    rw [hm, Int.add_emod_right]
    have := Int.tmod_add_mul_tdiv k n
    have e : k = k.tmod n + n * k.tdiv n := this.symm
    rw [e, Int.add_mul_emod_self_left, Int.tmod_add_mul_tdiv])
  have h0 : 0 < n := by omega
  clear hm
  go_enter Try.func16, Try.ntmps16
  go_wp2
  go_ret
  exact ⟨by rw [← HM.out]; rfl, rfl⟩
end Go.Proofs.Ytceljebpcfojeaa

/- Units: no unit at all (UnitNone); how large a question is. -/
import Derived.Test.YtjpegkginmoekaaUnE
namespace Go.Proofs.Ytjpegkginmoekaa
open Go.RowKit
set_option linter.unusedVariables false

/-- a slice argument whose elements are slices -/
def Rows_ (w : World) (B : Nat) (A : Option Addr) (n : Nat) : Prop :=
  0 < n → ∃ b off, A = some ⟨b, off, none⟩ ∧ b < B ∧ ∀ j, j < n → ∃ A' L C, w.cell? ⟨b, off + j, none⟩ = some (.slice A' L C) ∧ L ≤ 9223372036854775807
theorem Rows_.below {w w' : World} {B : Nat} {A : Option Addr} {n : Nat} (h : Rows_ w B A n) (hb : Below B w w') : Rows_ w' B A n := fun hn => by
  obtain ⟨b, off, rfl, hlt, hc⟩ := h hn
  refine ⟨b, off, rfl, hlt, fun j hj => ?_⟩
  obtain ⟨A', L, C, h1, h2⟩ := hc j hj
  exact ⟨A', L, C, (hb.cell (p := ⟨b, off + j, none⟩) hlt).trans h1, h2⟩

def SomeBool (e : Ending) : Prop := ∃ b, e = .returned (.bool b)
theorem sbool {e : Ending} {b : Bool} (h : e = .returned (.bool b)) : SomeBool e := ⟨b, h⟩
set_option maxHeartbeats 400000 in
theorem largeP_any (B : Nat) (ep : Int) (A : Option Addr) (n cap : Nat) (w : World) (ha : Rows_ w B A n) (hB : B ≤ w.heap.size) (hn : n ≤ 9223372036854775807) :
    Calls Try.prog 51 #[.agg #[.int .i64 ep, .slice A n cap]] w fun e w' => SomeBool e ∧ Below w.heap.size w w' := by
  have HB := hide (Blk.new w 34 #[.int .i64 ep, .slice A n cap])
  have c1 := HB.out.cell 1
  have hb := ha.below (((Below.refl _ w).alloc hB (.cells #[.int .i64 ep, .slice A n cap] 34)))
  have HW : Hid (Below w.heap.size w (w.alloc (.cells #[.int .i64 ep, .slice A n cap] 34))) := hide ((Below.refl _ _).alloc (Nat.le_refl _) _)
  clear ha
  go_enter Try.func51, Try.ntmps51
  by_cases h50 : n ≤ 50
  · go_wp2_with fail
    go_loop [3] (fun i => ∃ k : Nat, k ≤ n ∧ i = .int .i64 k) (fun i => n - (intOf i).toNat)
    case atStart => exact ⟨0, Nat.zero_le _, rfl⟩
    case round =>
      obtain ⟨k, hk, rfl⟩ := hrel
      by_cases hlt : k < n
      · obtain ⟨b, off, rfl, _, hc⟩ := hb (by omega)
        obtain ⟨A', L, C, c2, hL⟩ := hc k hlt
        by_cases hs : L ≤ 50
        · go_wp2
          go_round
          case rel => exact ⟨k + 1, by omega, by go_num⟩
          case measure => simp [intOf]; omega
        · go_wp2
          go_ret
          exact ⟨sbool rfl, HW.out⟩
      · go_wp2
        go_ret
        exact ⟨sbool rfl, HW.out⟩
  · go_wp2
    go_ret
    exact ⟨sbool rfl, HW.out⟩

theorem Blk.nine {w : World} {g : Nat} {t : TypeId} {a b c d e f i j k : Value} (h : Blk w g t #[a, b, c, d, e, f, i, j, k]) : w.cell? ⟨g, 6, none⟩ = some i ∧ w.cell? ⟨g, 7, none⟩ = some j ∧ w.cell? ⟨g, 8, none⟩ = some k := ⟨h.cell 6, h.cell 7, h.cell 8⟩
set_option maxRecDepth 100000 in
set_option maxHeartbeats 400000 in
theorem largeA_any (B : Nat) (a : Ak) (w : World) (ha : Rows_ w B a.ca a.cn) (hB : B ≤ w.heap.size) (hn : a.cn ≤ 9223372036854775807) :
    Calls Try.prog 44 #[.agg a.cells] w fun e w' => SomeBool e ∧ Below w.heap.size w w' := by
  have HW : Hid (∀ o, Below w.heap.size w (w.alloc o)) := hide (fun o => (Below.refl _ _).alloc (Nat.le_refl _) _)
  have hb : Hid (∀ o, Rows_ (w.alloc o) B a.ca a.cn) := hide (fun o => ha.below ((Below.refl _ w).alloc hB o))
  clear ha
  obtain ⟨ak, au, ae, apg, asz, an, ad, ape, aca, acn, acc⟩ := a
  unfold Ak.cells
  by_cases hs : ad.size ≤ 6000
  · go_enter Try.func44, Try.ntmps44
    go_wp2_with fail
    refine (largeP_any B ape aca acn acc _ (by exact hb.out _) (by simp; omega) hn).mono ?_
    rintro e w1 ⟨⟨b, rfl⟩, hf⟩
    go_wp2
    go_ret
    exact ⟨sbool rfl, (HW.out _).trans (hf.mono (by simp))⟩
  · go_enter Try.func44, Try.ntmps44
    go_wp2
    go_ret
    exact ⟨sbool rfl, HW.out _⟩

set_option maxHeartbeats 400000 in
theorem projz (w : World) : Calls Try.prog 45 #[.agg #[.int .i64 0, .slice none 0 0], .agg #[.int .i64 0, .slice none 0 0]] w fun e w' => e = .returned (.bool true) ∧ Below w.heap.size w w' := by
  go_enter Try.func45, Try.ntmps45
  go_wp2_with fail
  go_loop [5] (fun i => i = .int .i64 0) (fun i => 0)
  case atStart => rfl
  case round =>
    subst hrel
    go_wp2
    go_ret
    exact ⟨rfl, ((Below.refl _ _).alloc (Nat.le_refl _) _).alloc (by simp) _⟩

set_option maxRecDepth 100000 in
set_option maxHeartbeats 800000 in
theorem ans_same (c n : Int) (d : ByteArray) (ep : Int) (w : World) : Calls Try.prog 15 #[.agg #[.int .i64 c, .int .i64 n, .string d, .int .i64 0, .slice none 0 0, .int .i64 0, .int .i64 0, .int .i64 ep], .agg #[.int .i64 c, .int .i64 n, .string d, .int .i64 0, .slice none 0 0, .int .i64 0, .int .i64 0, .int .i64 ep]] w fun e w' => e = .returned (.bool true) ∧ Below w.heap.size w w' := by
  have HW : Hid (∀ o o', Below w.heap.size w ((w.alloc o).alloc o')) := hide (fun o o' => ((Below.refl _ _).alloc (Nat.le_refl _) _).alloc (by simp) _)
  have X1 : Hid (∀ o', Blk ((w.alloc (.cells #[.int .i64 c, .int .i64 n, .string d, .int .i64 0, .slice none 0 0, .int .i64 0, .int .i64 0, .int .i64 ep] 41)).alloc o') w.heap.size 41 #[.int .i64 c, .int .i64 n, .string d, .int .i64 0, .slice none 0 0, .int .i64 0, .int .i64 0, .int .i64 ep]) := hide (fun o' => (Blk.new _ _ _).alloc o')
  have X2 : Hid (∀ o, Blk ((w.alloc o).alloc (.cells #[.int .i64 c, .int .i64 n, .string d, .int .i64 0, .slice none 0 0, .int .i64 0, .int .i64 0, .int .i64 ep] 41)) (w.heap.size + 1) 41 #[.int .i64 c, .int .i64 n, .string d, .int .i64 0, .slice none 0 0, .int .i64 0, .int .i64 0, .int .i64 ep]) := hide (fun o => by
    have := Blk.new (w.alloc o) 41 #[.int .i64 c, .int .i64 n, .string d, .int .i64 0, .slice none 0 0, .int .i64 0, .int .i64 0, .int .i64 ep]
    rwa [show (w.alloc o).heap.size = w.heap.size + 1 from by simp] at this)
  go_enter Try.func15, Try.ntmps15
  go_wp2_with fail
  refine (projz _).mono ?_
  rintro e w3 ⟨rfl, hf⟩
  have e1 := blk8 ((X1.out _).below hf (X1.out _).lt)
  have e2 := blk8 ((X2.out _).below hf (X2.out _).lt)
  obtain ⟨⟨-, -, -, -, -, a5, a6, a7⟩, -⟩ := e1
  obtain ⟨⟨-, -, -, -, -, b5, b6, b7⟩, -⟩ := e2
  have HF := hide ((HW.out _ _).trans (hf.mono (by simp; omega)))
  clear hf X1 X2 HW
  go_wp2
  go_ret
  exact ⟨rfl, HF.out⟩

set_option maxRecDepth 100000 in
set_option maxHeartbeats 800000 in
theorem unone_any (a : Ak) (w : World) (ha : Rows_ w w.heap.size a.ca a.cn) (hn : a.cn ≤ 9223372036854775807) :
    Calls Try.prog 10 #[.agg a.cells] w fun e w' => e = .returned (.bool true) ∧ Below w.heap.size w w' := by
  have HW : Hid (∀ o, Below w.heap.size w (w.alloc o)) := hide (fun o => (Below.refl _ _).alloc (Nat.le_refl _) _)
  have hb : Hid (∀ o, Rows_ (w.alloc o) w.heap.size a.ca a.cn) := hide (fun o => ha.below (HW.out o))
  clear ha
  obtain ⟨ak, au, ae, apg, asz, an, ad, ape, aca, acn, acc⟩ := a
  unfold Ak.cells
  have X1 : Hid (Blk (w.alloc (.cells #[.int .i64 ak, .int .i64 au, .int .i64 ae, .int .i64 apg, .int .i64 asz, .int .i64 an, .string ad, .int .i64 ape, .slice aca acn acc] 36)) w.heap.size 36 #[.int .i64 ak, .int .i64 au, .int .i64 ae, .int .i64 apg, .int .i64 asz, .int .i64 an, .string ad, .int .i64 ape, .slice aca acn acc]) := hide (Blk.new _ _ _)
  go_enter Try.func10, Try.ntmps10
  go_wp2_with fail
  refine (largeA_any w.heap.size ⟨ak, au, ae, apg, asz, an, ad, ape, aca, acn, acc⟩ _ (by exact hb.out _) (by simp) hn).mono ?_
  rintro e w1 ⟨⟨b, rfl⟩, hf⟩
  have HF1 := hide ((HW.out _).trans (hf.mono (by simp)))
  have Y1 := hide (X1.out.below hf X1.out.lt)
  clear hf
  cases b with
  | true =>
    go_wp2_with fail
    refine (uwakes_any _).mono ?_
    rintro e w2 ⟨rfl, hf2⟩
    have HF2 := hide (HF1.out.trans (hf2.mono HF1.out.size))
    clear hf2
    go_wp2
    go_ret
    exact ⟨rfl, HF2.out⟩
  | false =>
    go_wp2_with fail
    refine (crash_nil _).mono ?_
    rintro e w2 ⟨rfl, rfl⟩
    go_wp2_with fail
    refine (start_nil _).mono ?_
    rintro e w2 ⟨rfl, rfl⟩
    have y0 := Y1.out.cell 0
    have y1 := Y1.out.cell 1
    have y2 := Y1.out.cell 2
    have y3 := Y1.out.cell 3
    have y4 := Y1.out.cell 4
    have y5 := Y1.out.cell 5
    have y6 := Y1.out.cell 6
    have y7 := Y1.out.cell 7
    have y8 := Y1.out.cell 8
    go_wp2_with fail
    refine (do_nil ⟨ak, au, ae, apg, asz, an, ad, ape, aca, acn, acc⟩ _).mono ?_
    rintro e w2 ⟨rfl, hf2⟩
    have HF2 := hide ((HF1.out.trans (hf2.mono HF1.out.size)).alloc (by have := HF1.out.size; have := hf2.size; omega) (.cells #[.int .i64 1, .int .i64 0, .string ⟨#[]⟩, .int .i64 0, .slice none 0 0, .int .i64 0, .int .i64 0, .int .i64 0] 41))
    clear hf2 y0 y1 y2 y3 y4 y5 y6 y7 y8
    go_wp2_with fail
    refine (ans_same 1 0 ⟨#[]⟩ 0 _).mono ?_
    rintro e w3 ⟨rfl, hf3⟩
    have HF3 := hide (HF2.out.trans (hf3.mono HF2.out.size))
    clear hf3
    go_wp2_with fail
    refine (down_nil _).mono ?_
    rintro e w4 ⟨rfl, rfl⟩
    go_wp2_with fail
    refine (epoch_nil _).mono ?_
    rintro e w4 ⟨rfl, rfl⟩
    go_wp2_with fail
    refine (pages_nil _).mono ?_
    rintro e w4 ⟨rfl, rfl⟩
    go_wp2_with fail
    refine (uwakes_any _).mono ?_
    rintro e w4 ⟨rfl, hf4⟩
    have HF4 := hide (HF3.out.trans (hf4.mono HF3.out.size))
    clear hf4
    go_wp2
    go_ret
    exact ⟨rfl, HF4.out⟩
end Go.Proofs.Ytjpegkginmoekaa

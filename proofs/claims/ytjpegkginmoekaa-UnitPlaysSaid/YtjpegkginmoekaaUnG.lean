/- Units: a sealed epoch stays sealed (UnitSeals). -/
import Derived.Test.YtjpegkginmoekaaUnF
namespace Go.Proofs.Ytjpegkginmoekaa
open Go.RowKit
set_option linter.unusedVariables false

/-- a step of the units' laws -/
structure Sk where
  k : Int
  a : Ak
def Sk.cells (s : Sk) : List Value := .int .i64 s.k :: s.a.cells.toList
def SArg (w : World) (B : Nat) (A : Option Addr) (n : Nat) (f : Nat → Sk) : Prop :=
  0 < n → ∃ b off, A = some ⟨b, off, none⟩ ∧ b < B ∧ ∀ j, j < n → (∀ r u, (f j).cells[r]? = some u → w.cell? ⟨b, off + j * 10 + r, none⟩ = some u) ∧ Rows_ w B (f j).a.ca (f j).a.cn ∧ (f j).a.cn ≤ 9223372036854775807
theorem SArg.below {w w' : World} {B : Nat} {A : Option Addr} {n : Nat} {f : Nat → Sk} (h : SArg w B A n f) (hb : Below B w w') : SArg w' B A n f := fun hn => by
  obtain ⟨b, off, rfl, hlt, hc⟩ := h hn
  refine ⟨b, off, rfl, hlt, fun j hj => ?_⟩
  obtain ⟨h1, h2, h3⟩ := hc j hj
  exact ⟨fun r u hu => (hb.cell (p := ⟨b, off + j * 10 + r, none⟩) hlt).trans (h1 r u hu), h2.below hb, h3⟩
theorem ten {w : World} {b o : Nat} {s : Sk} (h : ∀ r u, s.cells[r]? = some u → w.cell? ⟨b, o + r, none⟩ = some u) :
    w.cell? ⟨b, o, none⟩ = some (.int .i64 s.k) ∧ w.cell? ⟨b, o + 1, none⟩ = some (.int .i64 s.a.k) ∧ w.cell? ⟨b, o + 1 + 1, none⟩ = some (.int .i64 s.a.u) ∧ w.cell? ⟨b, o + 1 + 2, none⟩ = some (.int .i64 s.a.e) ∧ w.cell? ⟨b, o + 1 + 3, none⟩ = some (.int .i64 s.a.pg) ∧ w.cell? ⟨b, o + 1 + 4, none⟩ = some (.int .i64 s.a.sz) ∧ w.cell? ⟨b, o + 1 + 5, none⟩ = some (.int .i64 s.a.n) ∧ w.cell? ⟨b, o + 1 + 6, none⟩ = some (.string s.a.d) ∧ w.cell? ⟨b, o + 1 + 7, none⟩ = some (.int .i64 s.a.pe) ∧ w.cell? ⟨b, o + 1 + 8, none⟩ = some (.slice s.a.ca s.a.cn s.a.cc) :=
  ⟨h 0 _ rfl, h 1 _ rfl, h 2 _ rfl, h 3 _ rfl, h 4 _ rfl, h 5 _ rfl, h 6 _ rfl, h 7 _ rfl, h 8 _ rfl, h 9 _ rfl⟩

def FairRel (w : World) (n : Nat) (i : Value) (wr : World) : Prop := ∃ k : Nat, k ≤ n ∧ i = .int .i64 k ∧ Below w.heap.size w wr
set_option maxRecDepth 100000 in
set_option maxHeartbeats 800000 in
theorem ufair_any (B : Nat) (A : Option Addr) (n cap : Nat) (f : Nat → Sk) (w : World) (ha : SArg w B A n f) (hB : B ≤ w.heap.size) (hn : n ≤ 9223372036854775807) :
    Calls Try.prog 13 #[.slice A n cap] w fun e w' => SomeBool e ∧ Below w.heap.size w w' := by
  go_enter Try.func13, Try.ntmps13
  go_wp2_with fail
  go_loopw [3] (fun i wr => FairRel w n i wr) (fun i _ => n - (intOf i).toNat)
  case atStart => exact ⟨0, Nat.zero_le _, rfl, Below.refl _ _⟩
  case round =>
    obtain ⟨k, hk, rfl, hf⟩ := hrel
    by_cases hlt : k < n
    · obtain ⟨b, off, rfl, _, hc⟩ := ha.below (hf.mono hB) (by omega)
      obtain ⟨h1, h2, h3⟩ := hc k hlt
      obtain ⟨c0, c1, c2, c3, c4, c5, c6, c7, c8, c9⟩ := ten h1
      clear hc h1 ha
      generalize f k = s at *
      obtain ⟨sk, ak, au, ae, apg, asz, an, ad, ape, aca, acn, acc⟩ := s
      simp only at c0 c1 c2 c3 c4 c5 c6 c7 c8 c9 h2 h3
      have HF := hide hf
      clear hf
      go_wp2_with fail
      refine (largeA_any B ⟨ak, au, ae, apg, asz, an, ad, ape, aca, acn, acc⟩ _ h2 (by have := HF.out.size; omega) h3).mono ?_
      rintro e w1 ⟨⟨b, rfl⟩, hf1⟩
      have HF1 := hide (HF.out.trans (hf1.mono HF.out.size))
      clear hf1 c0 c1 c2 c3 c4 c5 c6 c7 c8 c9
      cases b with
      | true =>
        go_wp2
        go_ret
        exact ⟨sbool rfl, HF1.out⟩
      | false =>
        go_wp2
        go_roundw
        case rel => exact ⟨k + 1, by omega, by go_num, HF1.out⟩
        case measure => simp [intOf]; omega
    · go_wp2
      go_ret
      exact ⟨sbool rfl, hf⟩

def first : ByteArray := ⟨#[102, 105, 114, 115, 116]⟩
def sealP : PS := ⟨50, 0, [⟨0, 1, ⟨#[102, 105, 114, 115, 116]⟩⟩]⟩
theorem seal_w : doR (newU 50) ⟨1, 0, 0, 0, 0, 0, ⟨#[102, 105, 114, 115, 116]⟩, 0, none, 0, 0⟩ = (⟨0, 0, ⟨#[]⟩, 0⟩, ⟨sealP, 0, false⟩) := rfl
theorem sealP_ok : sealP.Ok := by
  have := doR_ok (newU_ok 50 (by decide) (by decide)) ⟨1, 0, 0, 0, 0, 0, ⟨#[102, 105, 114, 115, 116]⟩, 0, none, 0, 0⟩
  rwa [seal_w] at this
theorem seal_s (n : Int) (h : 0 ≤ n) : doR ⟨sealP, 0, false⟩ ⟨5, 0, n, 0, 0, 0, ⟨#[]⟩, 0, none, 0, 0⟩ = (⟨0, 1, ⟨#[]⟩, n⟩, ⟨sealP, n, false⟩) := by
  have h0 : tailP sealP = 1 := rfl
  simp only [doR]
  rw [if_neg (by decide), if_neg (by decide), if_neg (by omega), if_neg (by decide), if_neg (by decide), if_neg (by decide), if_neg (by decide), h0]
theorem seal_no (n : Int) (dn : Bool) (a : Ak) (h : a.e < n) : ∃ c ep, c ≠ 0 ∧ doR ⟨sealP, n, dn⟩ a = (⟨c, 0, ⟨#[]⟩, ep⟩, ⟨sealP, n, dn⟩) := by
  unfold doR
  by_cases h1 : dn = true
  · exact ⟨45, 0, by decide, by rw [if_pos h1]⟩
  · rw [if_neg h1]
    by_cases h2 : a.k < 1 ∨ 5 < a.k
    · exact ⟨1, n, by decide, by rw [if_pos h2]⟩
    · exact ⟨40, n, by decide, by rw [if_neg h2, if_pos h]⟩
theorem seal_r (n : Int) : doR ⟨sealP, n, false⟩ ⟨3, 0, n, 0, 0, 0, ⟨#[]⟩, 0, none, 0, 0⟩ = (⟨0, 0, ⟨#[102, 105, 114, 115, 116]⟩, n⟩, ⟨sealP, n, false⟩) := by
  have h0 : readP sealP 0 = (⟨#[102, 105, 114, 115, 116]⟩, 0) := rfl
  simp only [doR]
  rw [if_neg (by decide), if_neg (by decide), if_neg (by omega), if_neg (by decide), if_neg (by decide), if_pos trivial, h0]

theorem ansf0 (c n : Int) (d : ByteArray) (ep : Int) (w : World) : (Instr.field 41 (.agg #[.int .i64 c, .int .i64 n, .string d, .int .i64 0, .slice none 0 0, .int .i64 0, .int .i64 0, .int .i64 ep]) 0).run Try.prog w = .ok (.int .i64 c) w := by kernel_rfl
def SealRel (w : World) (m : Nat) (n : Int) (i : Value) (wr : World) : Prop :=
  ∃ (j : Nat) (dn : Bool), j ≤ m ∧ i = .int .i64 j ∧ UnAt wr w.heap.size (w.heap.size + 2) ⟨sealP, n, dn⟩ ∧ Fr [76, 82] w.heap.size w wr

set_option maxRecDepth 100000 in
set_option maxHeartbeats 2000000 in
theorem seals_any (A : Option Addr) (m cap : Nat) (f : Nat → Sk) (z : Int) (hz0 : 0 ≤ z) (hz1 : z ≤ 255) (w : World) (ha : SArg w w.heap.size A m f) (hm : m ≤ 9223372036854775807) :
    Calls Try.prog 4 #[.slice A m cap, .int .u8 z] w fun e w' => e = .returned (.bool true) ∧ Below w.heap.size w w' := by
  go_enter Try.func4, Try.ntmps4
  go_wp2_with fail
  refine (unew_yes 50 _ (by decide) (by decide)).mono ?_
  rintro e w1 ⟨rfl, hb1, hf1⟩
  have HU1 := hide hb1
  have HF1 := hide hf1
  clear hb1 hf1
  go_wp2_with fail
  refine (ufair_any w.heap.size A m cap f _ (ha.below HF1.out) HF1.out.size hm).mono ?_
  rintro e w2 ⟨⟨b, rfl⟩, hf2⟩
  have HU2 := hide (HU1.out.below hf2)
  have HF2 : Hid (Fr [76, 82] w.heap.size w w2) := hide ((Fr.of_below HF1.out).trans (Fr.of_below hf2))
  clear hf2 HU1 HF1
  cases b with
  | false =>
    go_wp2_with fail
    refine (uwakes_any _).mono ?_
    rintro e w9 ⟨rfl, hf9⟩
    go_wp2
    go_ret
    exact ⟨rfl, (HF2.out.trans (Fr.of_below hf9)).below (Nat.le_refl _)⟩
  | true =>
    go_wp2_with fail
    refine (do_to w.heap.size (w.heap.size + 2) (newU 50) _ (newU_ok 50 (by decide) (by decide)) ⟨1, 0, 0, 0, 0, 0, ⟨#[102, 105, 114, 115, 116]⟩, 0, none, 0, 0⟩ _ _ _ _ _ HU2.out seal_w).mono ?_
    rintro e w3 ⟨rfl, hb, hf⟩
    have HU3 := hide hb
    have HF3 := hide (HF2.out.trans hf)
    clear hb hf HU2 HF2
    go_wp2_with fail
    have hn0 : 1 ≤ 1 + z := by omega
    have hn1 : 1 + z ≤ 256 := by omega
    generalize 1 + z = n at *
    refine (do_to w.heap.size (w.heap.size + 2) ⟨sealP, 0, false⟩ _ sealP_ok ⟨5, 0, n, 0, 0, 0, ⟨#[]⟩, 0, none, 0, 0⟩ _ _ _ _ _ HU3.out (seal_s n (by omega))).mono ?_
    rintro e w4 ⟨rfl, hb, hf⟩
    have HU4 := hide hb
    have HF4 := hide (HF3.out.trans hf)
    clear hb hf HU3 HF3
    have hff := ansf0 0 1 ⟨#[]⟩ n w4
    go_wp2_with fail
    go_loopw [9] (fun i wr => SealRel w m n i wr) (fun i _ => m - (intOf i).toNat)
    case atStart => exact ⟨0, false, Nat.zero_le _, rfl, HU4.out, HF4.out⟩
    case round =>
      obtain ⟨j, dn, hj, rfl, hu, hf⟩ := hrel
      by_cases hlt : j < m
      · obtain ⟨b, off, rfl, _, hc⟩ := ha.below (hf.below (Nat.le_refl _)) (by omega)
        obtain ⟨h1, -, -⟩ := hc j hlt
        obtain ⟨c0, c1, c2, c3, c4, c5, c6, c7, c8, c9⟩ := ten h1
        clear hc h1 ha
        generalize f j = s at *
        obtain ⟨sk, ak, au, ae, apg, asz, an, ad, ape, aca, acn, acc⟩ := s
        simp only at c0 c1 c2 c3 c4 c5 c6 c7 c8 c9
        have HU := hide hu
        have HF := hide hf
        clear hu hf
        by_cases hk0 : sk = 0
        · subst hk0
          by_cases hq : ak = 5
          · subst hq
            by_cases hae : n < ae
            · go_wp2
              go_roundw
              case rel => exact ⟨j + 1, dn, by omega, by go_num, HU.out.alloc _, HF.out.alloc _⟩
              case measure => simp [intOf]; omega
            · skip
              have hlt2 : ae.tmod n < n := Int.tmod_lt_of_pos _ (by omega)
              obtain ⟨c, ep2, hc0, hdo⟩ := seal_no n dn ⟨5, au, ae.tmod n, apg, asz, an, ad, ape, aca, acn, acc⟩ hlt2
              have HDO := hide hdo
              clear hdo hlt2
              go_wp2_with fail
              refine (do_to w.heap.size (w.heap.size + 2) ⟨sealP, n, dn⟩ _ sealP_ok ⟨5, au, ae.tmod n, apg, asz, an, ad, ape, aca, acn, acc⟩ _ _ _ _ _ (HU.out.alloc _) HDO.out).mono ?_
              rintro e w5 ⟨rfl, hb5, hf5⟩
              have HU5 := hide (hb5.alloc (.cells #[.int .i64 c, .int .i64 0, .string ⟨#[]⟩, .int .i64 0, .slice none 0 0, .int .i64 0, .int .i64 0, .int .i64 ep2] 41))
              have HF5 := hide (((HF.out.alloc _).trans hf5).alloc (.cells #[.int .i64 c, .int .i64 0, .string ⟨#[]⟩, .int .i64 0, .slice none 0 0, .int .i64 0, .int .i64 0, .int .i64 ep2] 41))
              clear hb5 hf5 c0 c1 c2 c3 c4 c5 c6 c7 c8 c9
              go_wp2_with fail
              refine (epoch_any w.heap.size (w.heap.size + 2) _ _ HU5.out).mono ?_
              rintro e w6 ⟨rfl, rfl⟩
              go_wp2
              go_roundw
              case rel => exact ⟨j + 1, dn, by omega, by go_num, HU5.out, HF5.out⟩
              case measure => simp [intOf]; omega
          · skip
            have hlt2 : ae.tmod n < n := Int.tmod_lt_of_pos _ (by omega)
            obtain ⟨c, ep2, hc0, hdo⟩ := seal_no n dn ⟨ak, au, ae.tmod n, apg, asz, an, ad, ape, aca, acn, acc⟩ hlt2
            have HDO := hide hdo
            clear hdo hlt2
            go_wp2_with fail
            refine (do_to w.heap.size (w.heap.size + 2) ⟨sealP, n, dn⟩ _ sealP_ok ⟨ak, au, ae.tmod n, apg, asz, an, ad, ape, aca, acn, acc⟩ _ _ _ _ _ (HU.out.alloc _) HDO.out).mono ?_
            rintro e w5 ⟨rfl, hb5, hf5⟩
            have HU5 := hide (hb5.alloc (.cells #[.int .i64 c, .int .i64 0, .string ⟨#[]⟩, .int .i64 0, .slice none 0 0, .int .i64 0, .int .i64 0, .int .i64 ep2] 41))
            have HF5 := hide (((HF.out.alloc _).trans hf5).alloc (.cells #[.int .i64 c, .int .i64 0, .string ⟨#[]⟩, .int .i64 0, .slice none 0 0, .int .i64 0, .int .i64 0, .int .i64 ep2] 41))
            clear hb5 hf5 c0 c1 c2 c3 c4 c5 c6 c7 c8 c9
            go_wp2_with fail
            refine (epoch_any w.heap.size (w.heap.size + 2) _ _ HU5.out).mono ?_
            rintro e w6 ⟨rfl, rfl⟩
            go_wp2
            go_roundw
            case rel => exact ⟨j + 1, dn, by omega, by go_num, HU5.out, HF5.out⟩
            case measure => simp [intOf]; omega
        by_cases hk1 : sk = 1
        · subst hk1
          go_wp2_with fail
          refine (crash_any w.heap.size (w.heap.size + 2) ⟨sealP, n, dn⟩ _ HU.out).mono ?_
          rintro e w5 ⟨rfl, hb5, hf5⟩
          have HU5 := hide hb5
          have HF5 := hide (HF.out.trans hf5)
          clear hb5 hf5 c0 c1 c2 c3 c4 c5 c6 c7 c8 c9
          go_wp2_with fail
          refine (epoch_any w.heap.size (w.heap.size + 2) _ _ HU5.out).mono ?_
          rintro e w6 ⟨rfl, rfl⟩
          go_wp2
          go_roundw
          case rel => exact ⟨j + 1, true, by omega, by go_num, HU5.out, HF5.out⟩
          case measure => simp [intOf]; omega
        by_cases hk2 : sk = 2
        · subst hk2
          go_wp2_with fail
          refine (start_any w.heap.size (w.heap.size + 2) ⟨sealP, n, dn⟩ _ HU.out).mono ?_
          rintro e w5 ⟨rfl, hb5, hf5⟩
          have HU5 := hide hb5
          have HF5 := hide (HF.out.trans hf5)
          clear hb5 hf5 c0 c1 c2 c3 c4 c5 c6 c7 c8 c9
          go_wp2_with fail
          refine (epoch_any w.heap.size (w.heap.size + 2) _ _ HU5.out).mono ?_
          rintro e w6 ⟨rfl, rfl⟩
          go_wp2
          go_roundw
          case rel => exact ⟨j + 1, false, by omega, by go_num, HU5.out, HF5.out⟩
          case measure => simp [intOf]; omega
        have n0 : (sk == 0) = false := by simp [hk0]
        have n1 : (sk == 1) = false := by simp [hk1]
        have n2 : (sk == 2) = false := by simp [hk2]
        clear hk0 hk1 hk2 
        go_wp2_with fail
        refine (epoch_any w.heap.size (w.heap.size + 2) _ _ HU.out).mono ?_
        rintro e w6 ⟨rfl, rfl⟩
        go_wp2
        go_roundw
        case rel => exact ⟨j + 1, dn, by omega, by go_num, HU.out, HF.out⟩
        case measure => simp [intOf]; omega
      · have HU := hide hu
        have HF := hide hf
        clear hu hf
        go_wp2_with fail
        refine (start_any w.heap.size (w.heap.size + 2) ⟨sealP, n, dn⟩ _ HU.out).mono ?_
        rintro e w5 ⟨rfl, hb5, hf5⟩
        have HU5 := hide hb5
        have HF5 := hide (HF.out.trans hf5)
        clear hb5 hf5
        go_wp2_with fail
        refine (do_to w.heap.size (w.heap.size + 2) ⟨sealP, n, false⟩ _ sealP_ok ⟨3, 0, n, 0, 0, 0, ⟨#[]⟩, 0, none, 0, 0⟩ _ _ _ _ _ HU5.out (seal_r n)).mono ?_
        rintro e w6 ⟨rfl, hb6, hf6⟩
        have HU6 := hide (hb6.alloc (.cells #[.int .i64 0, .int .i64 0, .string ⟨#[102, 105, 114, 115, 116]⟩, .int .i64 0, .slice none 0 0, .int .i64 0, .int .i64 0, .int .i64 n] 41))
        have HF6 := hide ((HF5.out.trans hf6).alloc (.cells #[.int .i64 0, .int .i64 0, .string ⟨#[102, 105, 114, 115, 116]⟩, .int .i64 0, .slice none 0 0, .int .i64 0, .int .i64 0, .int .i64 n] 41))
        clear hb6 hf6
        go_wp2_with fail
        refine (pages_any w.heap.size (w.heap.size + 2) _ _ HU6.out).mono ?_
        rintro e w7 ⟨⟨q, rfl, hq⟩, rfl⟩
        have HQ := hide hq
        clear hq
        go_wp2_with fail
        refine (used_any w.heap.size q sealP _ HQ.out).mono ?_
        rintro e w7 ⟨rfl, rfl⟩
        rw [show (sealP.l.length : Int) = 1 from rfl]
        go_wp2_with fail
        refine (pages_any w.heap.size (w.heap.size + 2) _ _ HU6.out).mono ?_
        rintro e w7 ⟨⟨q2, rfl, hq2⟩, rfl⟩
        have HQ2 := hide hq2
        clear hq2
        go_wp2_with fail
        refine (edge_any w.heap.size q2 sealP _ HQ2.out).mono ?_
        rintro e w7 ⟨rfl, rfl⟩
        rw [show sealP.edge = 0 from rfl]
        go_wp2_with fail
        refine (uwakes_any _).mono ?_
        rintro e w9 ⟨rfl, hf9⟩
        have HF9 := hide ((HF6.out.trans (Fr.of_below hf9)).below (Nat.le_refl _))
        clear hf9
        go_wp2
        go_ret
        exact ⟨rfl, HF9.out⟩
end Go.Proofs.Ytjpegkginmoekaa

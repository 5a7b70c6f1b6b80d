/- Units: what is written stays through crashes (UnitKeeps). -/
import Derived.Test.YtjpegkginmoekaaUnD
import Derived.Test.YtjpegkginmoekaaStays
namespace Go.Proofs.Ytjpegkginmoekaa
open Go.RowKit
set_option linter.unusedVariables false

/-- the pages behind j rounds of writing s to the places zs -/
structure Kept (zs : List Int) (s : ByteArray) (p : PS) (j : Nat) : Prop where
  ok : p.Ok
  edge : p.edge = 0
  room : p.room = 300
  len : p.l.length ≤ j
  all : ∀ x ∈ p.l, x.k = 1 ∧ x.s = s
  has : ∀ i, i < j → findP (zs.getD i 0) p.l ≠ none
theorem kept_start (zs : List Int) (s : ByteArray) : Kept zs s (newP 300) 0 := ⟨newP_ok 300 (by decide) (by decide), rfl, rfl, by simp [newP], by simp [newP], fun i h => by omega⟩
theorem Kept.write {zs : List Int} {s : ByteArray} {p : PS} {j : Nat} (h : Kept zs s p j) (hj : j < 100) (h0 : 0 ≤ zs.getD j 0) (h1 : zs.getD j 0 ≤ 255) (hs : s.size ≤ 2000) : Kept zs s (writeP p (zs.getD j 0) s) (j + 1) := by
  have hk : kindP p (zs.getD j 0) = match findP (zs.getD j 0) p.l with
    | none => 0
    | some x => x.k := by
    unfold kindP
    rw [if_neg (by omega), if_neg (by have := h.edge; omega)]
    rfl
  cases hf : findP (zs.getD j 0) p.l with
  | none =>
    rw [hf] at hk
    have he : writeErr p (zs.getD j 0) s = 0 := by
      unfold writeErr
      rw [if_neg (by omega), if_neg (by omega), if_neg (by have := h.edge; omega), if_neg (by simpa using hk), if_neg (by have := h.room; have := h.len; omega)]
    refine ⟨writeP_ok h.ok _ _, ?_, ?_, ?_, ?_, ?_⟩
    · unfold writeP; rw [if_pos he]; exact h.edge
    · unfold writeP; rw [if_pos he]; exact h.room
    · unfold writeP; rw [if_pos he]; simpa using h.len
    · unfold writeP
      rw [if_pos he]
      intro x hx
      rcases List.mem_append.1 hx with hx | hx
      · exact h.all x hx
      · rw [List.mem_singleton.1 hx]; exact ⟨rfl, rfl⟩
    · unfold writeP
      rw [if_pos he]
      intro i hi
      show findP (zs.getD i 0) (p.l ++ [⟨zs.getD j 0, 1, s⟩]) ≠ none
      by_cases hij : i = j
      · subst hij
        intro hn
        have := (findP_none hn) ⟨zs.getD i 0, 1, s⟩ (by simp)
        exact this rfl
      · have hh := h.has i (by omega)
        cases hg : findP (zs.getD i 0) p.l with
        | none => exact absurd hg hh
        | some x => rw [findP_snoc hg]; simp
  | some x =>
    rw [hf] at hk
    have hx := h.all x (findP_some hf).1
    have hk1 : kindP p (zs.getD j 0) = 1 := by rw [hk]; exact hx.1
    have he : writeErr p (zs.getD j 0) s ≠ 0 := by
      unfold writeErr
      rw [if_neg (by omega), if_neg (by omega), if_neg (by have := h.edge; omega), if_pos (by rw [hk1]; decide)]
      decide
    have hw : writeP p (zs.getD j 0) s = p := by unfold writeP; rw [if_neg he]
    rw [hw]
    refine ⟨h.ok, h.edge, h.room, by have := h.len; omega, h.all, fun i hi => ?_⟩
    by_cases hij : i = j
    · subst hij; rw [hf]; simp
    · exact h.has i (by omega)
theorem Kept.read {zs : List Int} {s : ByteArray} {p : PS} {j i : Nat} (h : Kept zs s p j) (hi : i < j) (h0 : 0 ≤ zs.getD i 0) (h1 : zs.getD i 0 ≤ 255) : readP p (zs.getD i 0) = (s, 0) := by
  unfold readP
  rw [if_neg (by omega), if_neg (by have := h.edge; omega)]
  have hh := h.has i hi
  cases hg : findP (zs.getD i 0) p.l with
  | none => exact absurd hg hh
  | some x =>
    have hx := h.all x (findP_some hg).1
    simp only
    rw [if_neg (by rw [hx.1]; decide), hx.2]

theorem keep_w (p : PS) (n : Int) (s : ByteArray) : doR ⟨p, 0, false⟩ ⟨1, 0, 0, n, 0, 0, s, 0, none, 0, 0⟩ = (⟨writeErr p n s, 0, ⟨#[]⟩, 0⟩, ⟨writeP p n s, 0, false⟩) := by simp [doR]
theorem keep_d (p : PS) (n : Int) : doR ⟨p, 0, true⟩ ⟨3, 0, 0, n, 0, 0, ⟨#[]⟩, 0, none, 0, 0⟩ = (⟨45, 0, ⟨#[]⟩, 0⟩, ⟨p, 0, true⟩) := by simp [doR]
theorem keep_r {zs : List Int} {s : ByteArray} {p : PS} {j i : Nat} (h : Kept zs s p j) (hi : i < j) (h0 : 0 ≤ zs.getD i 0) (h1 : zs.getD i 0 ≤ 255) :
    doR ⟨p, 0, false⟩ ⟨3, 0, 0, zs.getD i 0, 0, 0, ⟨#[]⟩, 0, none, 0, 0⟩ = (⟨0, 0, s, 0⟩, ⟨p, 0, false⟩) := by simp only [doR]; rw [h.read hi h0 h1]; simp

def KeepRel (w : World) (zs : List Int) (s : ByteArray) (i : Value) (wr : World) : Prop :=
  ∃ (j : Nat) (p : PS), j ≤ zs.length ∧ i = .int .i64 j ∧ UnAt wr w.heap.size (w.heap.size + 2) ⟨p, 0, false⟩ ∧ Kept zs s p j ∧ Fr [76, 82] w.heap.size w wr
def KeepIn (w : World) (p : PS) (n : Nat) (i : Value) (wr : World) : Prop :=
  ∃ (j : Nat), j ≤ n ∧ i = .int .i64 j ∧ UnAt wr w.heap.size (w.heap.size + 2) ⟨p, 0, false⟩ ∧ Fr [76, 82] w.heap.size w wr
theorem cellsOf_ {w : World} {zs : List Int} {b off : Nat} {kd : IntKind} (h : ∀ j u, (zs.map (Value.int kd))[j]? = some u → w.cell? ⟨b, off + j, none⟩ = some u) (j : Nat) (hj : j < zs.length) : w.cell? ⟨b, off + j, none⟩ = some (.int kd (zs.getD j 0)) :=
  h j _ (by simp [List.getElem?_map, List.getElem?_eq_getElem hj, List.getD])

set_option maxRecDepth 100000 in
set_option maxHeartbeats 2000000 in
theorem keeps_any (A : Option Addr) (cap : Nat) (zs : List Int) (s : ByteArray) (w : World) (ha : Arg w w.heap.size A zs.length (zs.map (.int .u8))) (hl : zs.length ≤ 9223372036854775807) (hz : ∀ i, i < zs.length → 0 ≤ zs.getD i 0 ∧ zs.getD i 0 ≤ 255) :
    Calls Try.prog 9 #[.slice A zs.length cap, .string s] w fun e w' => e = .returned (.bool true) ∧ Below w.heap.size w w' := by
  go_enter Try.func9, Try.ntmps9
  go_wp2_with fail
  refine (unew_yes 300 _ (by decide) (by decide)).mono ?_
  rintro e w1 ⟨rfl, hb1, hf1⟩
  by_cases hs : s.size ≤ 2000
  · have HU := hide hb1
    have HF : Hid (Fr [76, 82] w.heap.size w w1) := hide (Fr.of_below hf1)
    clear hb1 hf1
    go_wp2_with fail
    go_loopw [7] (fun i wr => KeepRel w zs s i wr) (fun i _ => zs.length - (intOf i).toNat)
    case atStart => exact ⟨0, _, Nat.zero_le _, rfl, HU.out, kept_start zs s, HF.out⟩
    case round =>
      obtain ⟨j, p, hj, rfl, hu, hk, hf⟩ := hrel
      by_cases hlt : j < zs.length
      · by_cases hlt2 : j < 100
        · obtain ⟨hz0, hz1⟩ := hz j hlt
          obtain ⟨b, off, rfl, hbb, hcs⟩ := ha (by omega)
          have HC : Hid (∀ wX, Fr [76, 82] w.heap.size w wX → ∀ i, i < zs.length → wX.cell? ⟨b, off + i, none⟩ = some (.int .u8 (zs.getD i 0))) := hide (fun wX hX i hi => by
            rw [(hX.below (Nat.le_refl _)).cell (p := ⟨b, off + i, none⟩) hbb]
            exact cellsOf_ hcs i hi)
          have HK := hide (hk.write hlt2 hz0 hz1 hs)
          have HO := hide hk.ok
          have c0 := HC.out _ hf j hlt
          have HU2 := hide hu
          have HF2 := hide hf
          clear hu hk hf hcs ha
          generalize hzz : zs.getD j 0 = z at *
          go_wp2_with fail
          refine (do_to w.heap.size (w.heap.size + 2) ⟨p, 0, false⟩ ⟨writeP p z s, 0, false⟩ HO.out ⟨1, 0, 0, z, 0, 0, s, 0, none, 0, 0⟩ (writeErr p z s) 0 ⟨#[]⟩ 0 _ HU2.out (keep_w p z s)).mono ?_
          rintro e w2 ⟨rfl, hb, hf⟩
          have HU3 := hide hb
          have HF3 := hide (HF2.out.trans hf)
          clear hb hf HU2 HF2
          go_wp2_with fail
          refine (crash_any w.heap.size (w.heap.size + 2) _ _ HU3.out).mono ?_
          rintro e w3 ⟨rfl, hb, hf⟩
          have HU4 := hide hb
          have HF4 := hide (HF3.out.trans hf)
          have c4 := HC.out _ HF4.out j hlt
          rw [hzz] at c4
          clear hb hf HU3 HF3
          go_wp2_with fail
          refine (do_to w.heap.size (w.heap.size + 2) ⟨writeP p z s, 0, true⟩ ⟨writeP p z s, 0, true⟩ HK.out.ok ⟨3, 0, 0, z, 0, 0, ⟨#[]⟩, 0, none, 0, 0⟩ 45 0 ⟨#[]⟩ 0 _ HU4.out (keep_d _ z)).mono ?_
          rintro e w5 ⟨rfl, hb, hf⟩
          have HU5 := hide hb
          have HF5 := hide (HF4.out.trans hf)
          clear hb hf HU4 HF4
          go_wp2_with fail
          refine (start_any w.heap.size (w.heap.size + 2) _ _ (HU5.out.alloc _)).mono ?_
          rintro e w6 ⟨rfl, hb, hf⟩
          have HU6 := hide hb
          have HF6 := hide ((HF5.out.alloc _).trans hf)
          clear hb hf HU5 HF5
          go_wp2_with fail
          obtain ⟨wo, hwo⟩ : ∃ wo : World, wo = wr := ⟨_, rfl⟩
          go_loopw [9] (fun i wr => KeepIn w (writeP p z s) (j + 1) i wr) (fun i _ => j + 1 - (intOf i).toNat)
          case atStart => exact ⟨0, Nat.zero_le _, rfl, HU6.out, HF6.out⟩
          case round =>
            obtain ⟨k, hk, rfl, hu, hf⟩ := hrel
            by_cases hkl : k < j + 1
            · have hkz : k < zs.length := by omega
              have c7 := HC.out _ hf k hkz
              obtain ⟨hy0, hy1⟩ := hz k hkz
              have HR := hide (keep_r HK.out hkl hy0 hy1)
              generalize hyy : zs.getD k 0 = y at *
              have HU7 := hide hu
              have HF7 := hide hf
              clear hu hf
              go_wp2_with fail
              refine (do_to w.heap.size (w.heap.size + 2) _ _ HK.out.ok ⟨3, 0, 0, y, 0, 0, ⟨#[]⟩, 0, none, 0, 0⟩ 0 0 s 0 _ HU7.out HR.out).mono ?_
              rintro e w7 ⟨rfl, hb, hf⟩
              have HU8 := hide hb
              have HF8 := hide (HF7.out.trans hf)
              clear hb hf
              go_wp2
              go_roundw
              case rel => exact ⟨k + 1, by omega, by go_num, HU8.out.alloc _, HF8.out.alloc _⟩
              case measure => simp [intOf]; omega
            · go_wp2
              go_roundw
              case rel => exact ⟨j + 1, _, by omega, by go_num, hu, HK.out, hf⟩
              case measure => simp [intOf]; omega
        · go_wp2_with fail
          refine (uwakes_any _).mono ?_
          rintro e w9 ⟨rfl, hf9⟩
          go_wp2
          go_ret
          exact ⟨rfl, (hf.trans (Fr.of_below hf9)).below (Nat.le_refl _)⟩
      · go_wp2_with fail
        refine (uwakes_any _).mono ?_
        rintro e w9 ⟨rfl, hf9⟩
        go_wp2
        go_ret
        exact ⟨rfl, (hf.trans (Fr.of_below hf9)).below (Nat.le_refl _)⟩
  · go_wp2_with fail
    refine (uwakes_any _).mono ?_
    rintro e w9 ⟨rfl, hf9⟩
    go_wp2
    go_ret
    exact ⟨rfl, hf1.trans (hf9.mono hf1.size)⟩
end Go.Proofs.Ytjpegkginmoekaa

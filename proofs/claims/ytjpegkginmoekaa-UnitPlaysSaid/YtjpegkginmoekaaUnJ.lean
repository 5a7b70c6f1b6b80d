/- The law UnitPlays: the unit and the reference's, side by side. -/
import Derived.Test.YtjpegkginmoekaaUnI
import Derived.Test.YtjpegkginmoekaaUnG
import Derived.Test.YtjpegkginmoekaaPlays
namespace Go.Proofs.Ytjpegkginmoekaa
open Go.RowKit
set_option linter.unusedVariables false

structure UP (w0 : World) (gu gr : Nat) (u v : US) (w : World) : Prop where
  un : UnAt w w0.heap.size gu u
  ru : RuAt w w0.heap.size gr v
  bel : Below w0.heap.size w0 w
section
variable {w0 w w' : World} {gu gr : Nat} {u v u' v' : US}
theorem UP.unit (h : UP w0 gu gr u v w) (hb : UnAt w' w0.heap.size gu u') (hf : Fr [76, 82] w0.heap.size w w') : UP w0 gu gr u' v w' :=
  ⟨hb, h.ru.fr hf (by decide) (by decide) (by decide), h.bel.trans (hf.below h.bel.size)⟩
theorem UP.ref (h : UP w0 gu gr u v w) (hb : RuAt w' w0.heap.size gr v') (hf : Fn w0.heap.size w w') : UP w0 gu gr u v' w' :=
  ⟨h.un.fn hf, hb, h.bel.trans (hf.below h.bel.size)⟩
theorem UP.below (h : UP w0 gu gr u v w) (hb : Below w.heap.size w w') : UP w0 gu gr u v w' := ⟨h.un.below hb, h.ru.below hb, h.bel.trans (hb.mono h.bel.size)⟩
theorem UP.drewN (h : UP w0 gu gr u v w) (n : Nat) : UP w0 gu gr u v (w.drewN n) := h.below (below_drewN (Below.refl _ _) n)
/-- the reference is turned off or on -/
theorem UP.turn (h : UP w0 gu gr u v w) (b : Bool) : UP w0 gu gr u { v with dn := b } (w.setCell ⟨gr, 2, none⟩ (.bool b)) := by
  obtain ⟨q, h1, h2, h3⟩ := h.ru
  have hg := setCell_grown w gr 2 (.bool b)
  have hf : Fn w0.heap.size w (w.setCell ⟨gr, 2, none⟩ (.bool b)) := (Fn.of_below (Below.refl _ _)).grown h1 (.inl rfl) h2 hg
  exact h.ref ⟨q, h1.set_ 2 (.bool b), h2, h3.keep h1 (by decide) (by decide) hg⟩ hf
theorem UP.cells (h : UP w0 gu gr u v w) : ∃ q, RfAt w w0.heap.size q v.p ∧ w.cell? ⟨gr, 0, none⟩ = some (.pointer (some ⟨q, 0, none⟩)) ∧ w.cell? ⟨gr, 1, none⟩ = some (.int .i64 v.ep) ∧ w.cell? ⟨gr, 2, none⟩ = some (.bool v.dn) ∧ w.frozen? ⟨gr, 2, none⟩ = false := by
  obtain ⟨q, h1, h2, h3⟩ := h.ru
  exact ⟨q, h3, h1.cell 0, h1.cell 1, h1.cell 2, h1.frozen 2⟩
end
def UpRel (w : World) (gu gr : Nat) (n : Nat) (i : Value) (wr : World) : Prop := ∃ (j : Nat) (u : US), j ≤ n ∧ i = .int .i64 j ∧ u.p.Ok ∧ UP w gu gr u u wr
theorem RuAt.lt {w : World} {B g : Nat} {u : US} (h : RuAt w B g u) : g < w.heap.size := by
  obtain ⟨q, h1, _⟩ := h
  exact h1.lt
theorem three_below {w w' : World} {g : Nat} {a b c : Value} (h : w.cell? ⟨g, 0, none⟩ = some a ∧ w.cell? ⟨g, 1, none⟩ = some b ∧ w.cell? ⟨g, 2, none⟩ = some c) (hb : Below w.heap.size w w') (hlt : g < w.heap.size) : w'.cell? ⟨g, 0, none⟩ = some a ∧ w'.cell? ⟨g, 1, none⟩ = some b ∧ w'.cell? ⟨g, 2, none⟩ = some c :=
  ⟨(hb.cell (p := ⟨g, 0, none⟩) hlt).trans h.1, (hb.cell (p := ⟨g, 1, none⟩) hlt).trans h.2.1, (hb.cell (p := ⟨g, 2, none⟩) hlt).trans h.2.2⟩
theorem rdo_to (B g : Nat) (u u' : US) (hp : u.p.Ok) (a : Ak) (code n : Int) (d : ByteArray) (ep : Int) (w : World) (hb : RuAt w B g u) (hr : doR u a = (⟨code, n, d, ep⟩, u')) :
    Calls Try.prog 17 #[.pointer (some ⟨g, 0, none⟩), .agg a.cells] w fun e w' => e = .returned (.agg #[.int .i64 code, .int .i64 n, .string d, .int .i64 0, .slice none 0 0, .int .i64 0, .int .i64 0, .int .i64 ep]) ∧ RuAt w' B g u' ∧ Fn B w w' := by
  have := rdo_any B g u hp a w hb
  rwa [hr] at this
abbrev Nine (b o : Nat) (a : Ak) (w : World) : Prop := w.cell? ⟨b, o + 1, none⟩ = some (.int .i64 a.k) ∧ w.cell? ⟨b, o + 1 + 1, none⟩ = some (.int .i64 a.u) ∧ w.cell? ⟨b, o + 1 + 2, none⟩ = some (.int .i64 a.e) ∧ w.cell? ⟨b, o + 1 + 3, none⟩ = some (.int .i64 a.pg) ∧ w.cell? ⟨b, o + 1 + 4, none⟩ = some (.int .i64 a.sz) ∧ w.cell? ⟨b, o + 1 + 5, none⟩ = some (.int .i64 a.n) ∧ w.cell? ⟨b, o + 1 + 6, none⟩ = some (.string a.d) ∧ w.cell? ⟨b, o + 1 + 7, none⟩ = some (.int .i64 a.pe) ∧ w.cell? ⟨b, o + 1 + 8, none⟩ = some (.slice a.ca a.cn a.cc)
theorem Nine.below {b o B : Nat} {a : Ak} {w w' : World} (h : Nine b o a w) (hb : Below B w w') (hlt : b < B) : Nine b o a w' := by
  obtain ⟨h1, h2, h3, h4, h5, h6, h7, h8, h9⟩ := h
  exact ⟨(hb.cell (p := ⟨b, o + 1, none⟩) hlt).trans h1, (hb.cell (p := ⟨b, o + 1 + 1, none⟩) hlt).trans h2, (hb.cell (p := ⟨b, o + 1 + 2, none⟩) hlt).trans h3, (hb.cell (p := ⟨b, o + 1 + 3, none⟩) hlt).trans h4, (hb.cell (p := ⟨b, o + 1 + 4, none⟩) hlt).trans h5, (hb.cell (p := ⟨b, o + 1 + 5, none⟩) hlt).trans h6, (hb.cell (p := ⟨b, o + 1 + 6, none⟩) hlt).trans h7, (hb.cell (p := ⟨b, o + 1 + 7, none⟩) hlt).trans h8, (hb.cell (p := ⟨b, o + 1 + 8, none⟩) hlt).trans h9⟩

set_option maxRecDepth 100000 in
set_option maxHeartbeats 4000000 in
theorem uplays_any (A : Option Addr) (n cap : Nat) (f : Nat → Sk) (room : Int) (w : World) (ha : SArg w w.heap.size A n f) (hn : n ≤ 9223372036854775807) :
    Calls Try.prog 3 #[.int .i64 room, .slice A n cap] w fun e w' => e = .returned (.bool true) ∧ Below w.heap.size w w' := by
  by_cases hroom : room < 1 ∨ 4096 < room
  · go_enter Try.func3, Try.ntmps3
    go_wp2_with fail
    refine (unew_no room _ hroom).mono ?_
    rintro e w1 ⟨rfl, rfl⟩
    go_wp2_with fail
    refine (runew_no room _ hroom).mono ?_
    rintro e w1 ⟨rfl, rfl⟩
    go_wp2_with fail
    refine (uwakes_any _).mono ?_
    rintro e w9 ⟨rfl, hf9⟩
    go_wp2
    go_ret
    exact ⟨rfl, hf9⟩
  have hr0 : 1 ≤ room := by omega
  have hr1 : room ≤ 4096 := by omega
  clear hroom
  go_enter Try.func3, Try.ntmps3
  go_wp2_with fail
  refine (unew_yes room _ hr0 hr1).mono ?_
  rintro e w1 ⟨rfl, hb1, hf1⟩
  go_wp2_with fail
  refine (runew_yes room _ hr0 hr1).mono ?_
  rintro e w2 ⟨gr, rfl, hb2, hf2⟩
  have HP0 : Hid (UP w (w.heap.size + 2) gr (newU room) (newU room) w2) := hide ⟨hb1.below hf2, by
    obtain ⟨q, k1, k2, k3⟩ := hb2
    exact ⟨q, k1, Nat.le_trans hf1.size k2, k3.lower hf1.size⟩, hf1.trans (hf2.mono hf1.size)⟩
  clear hb1 hf1 hb2 hf2
  generalize w.heap.size + 2 = gu at *
  go_wp2_with fail
  refine (ufair_any w.heap.size A n cap f _ (ha.below HP0.out.bel) HP0.out.bel.size hn).mono ?_
  rintro e w3 ⟨⟨fb, rfl⟩, hf3⟩
  have HP1 := hide (HP0.out.below hf3)
  clear hf3 HP0
  cases fb with
  | false =>
    go_wp2_with fail
    refine (uwakes_any _).mono ?_
    rintro e w9 ⟨rfl, hf9⟩
    have HF := hide (HP1.out.below hf9).bel
    clear hf9
    go_wp2
    go_ret
    exact ⟨rfl, HF.out⟩
  | true =>
    go_wp2_with fail
    go_loopw [9] (fun i wr => UpRel w gu gr n i wr) (fun i _ => n - (intOf i).toNat)
    case atStart => exact ⟨0, _, Nat.zero_le _, rfl, newU_ok room hr0 hr1, HP1.out⟩
    case round =>
      clear HP1
      obtain ⟨j, u, hj, rfl, hok, hpp⟩ := hrel
      have HPP := hide hpp
      have HOK := hide hok
      by_cases hlt : j < n
      · obtain ⟨b, off, rfl, hbb, hc⟩ := ha.below hpp.bel (by omega)
        obtain ⟨h1, -, -⟩ := hc j hlt
        obtain ⟨c0, c1, c2, c3, c4, c5, c6, c7, c8, c9⟩ := ten h1
        clear hc h1 ha hpp hok
        generalize f j = s at *
        obtain ⟨sk, ak, au, ae, apg, asz, an, ad, ape, aca, acn, acc⟩ := s
        simp only at c0 c1 c2 c3 c4 c5 c6 c7 c8 c9
        by_cases hk0 : sk = 0
        · subst hk0
          generalize hR : doR u ⟨ak, au, ae, apg, asz, an, ad, ape, aca, acn, acc⟩ = R
          obtain ⟨⟨rc, rn, rd, re⟩, u2⟩ := R
          have HR := hide hR
          have HO : Hid u2.p.Ok := hide (by have := doR_ok HOK.out ⟨ak, au, ae, apg, asz, an, ad, ape, aca, acn, acc⟩; rw [hR] at this; exact this)
          clear hR
          have HPd0 : Hid (UP w gu gr u u wr.drew) := hide (HPP.out.drewN 1)
          have KN : Hid (Nine b (off + j * 10) ⟨ak, au, ae, apg, asz, an, ad, ape, aca, acn, acc⟩ wr.drew) := hide ⟨c1, c2, c3, c4, c5, c6, c7, c8, c9⟩
          go_wp2_with fail
          go_region_held3 (fun w' => w'.cell? ⟨b, off + j * 10 + 1, none⟩ = some (.int .i64 ak) ∧ w'.cell? ⟨b, off + j * 10 + 1 + 1, none⟩ = some (.int .i64 au) ∧ w'.cell? ⟨b, off + j * 10 + 1 + 2, none⟩ = some (.int .i64 ae) ∧ w'.cell? ⟨b, off + j * 10 + 1 + 3, none⟩ = some (.int .i64 apg) ∧ w'.cell? ⟨b, off + j * 10 + 1 + 4, none⟩ = some (.int .i64 asz) ∧ w'.cell? ⟨b, off + j * 10 + 1 + 5, none⟩ = some (.int .i64 an) ∧ w'.cell? ⟨b, off + j * 10 + 1 + 6, none⟩ = some (.string ad) ∧ w'.cell? ⟨b, off + j * 10 + 1 + 7, none⟩ = some (.int .i64 ape) ∧ w'.cell? ⟨b, off + j * 10 + 1 + 8, none⟩ = some (.slice aca acn acc)) (first | (with_reducible exact K7.out) | (with_reducible exact K6.out) | (with_reducible exact K5.out) | (with_reducible exact KN.out)) ((first | (go_at_call 16; refine (do_to w.heap.size gu u u2 HOK.out ⟨ak, au, ae, apg, asz, an, ad, ape, aca, acn, acc⟩ rc rn rd re _ (by exact HPd0.out.un) HR.out).mono ?_; rintro e w5 ⟨rfl, hb5, hf5⟩; have HP5 := hide (HPd0.out.unit hb5 hf5); have K5 := hide (Nine.below KN.out (hf5.below HPd0.out.bel.size) hbb); clear hb5 hf5) | (go_at_call 17; refine (rdo_to w.heap.size gr u u2 HOK.out ⟨ak, au, ae, apg, asz, an, ad, ape, aca, acn, acc⟩ rc rn rd re _ HP5.out.ru HR.out).mono ?_; rintro e w6 ⟨rfl, hb6, hf6⟩; have HP6 := hide (HP5.out.ref hb6 hf6); have K6 := hide (Nine.below K5.out (hf6.below HP5.out.bel.size) hbb); clear hb6 hf6) | (go_at_call 15; refine (ans_same rc rn rd re _).mono ?_; rintro e w7 ⟨rfl, hf7⟩; have HP := hide (HP6.out.below hf7); have K7 := hide (Nine.below K6.out (hf7.mono HP6.out.bel.size) hbb); clear hf7)))
          clear KN K5 K6 K7 HP5 HP6 HPd0 HPP c1 c2 c3 c4 c5 c6 c7 c8 c9 HR
          obtain ⟨qr, hqr, d0, d1, d2, d3⟩ := HP.out.cells
          have HQR := hide hqr
          have K0 : Hid (w7.drew.cell? ⟨gr, 0, none⟩ = some (.pointer (some ⟨qr, 0, none⟩)) ∧ w7.drew.cell? ⟨gr, 1, none⟩ = some (.int .i64 u2.ep) ∧ w7.drew.cell? ⟨gr, 2, none⟩ = some (.bool u2.dn)) := hide ⟨d0, d1, d2⟩
          have HPd : Hid (UP w gu gr u2 u2 w7.drew) := hide (HP.out.drewN 1)
          have HQd : Hid (RfAt w7.drew w.heap.size qr u2.p) := hide (hqr.drewN 1)
          clear hqr d3
          go_wp2_with fail
          go_region_held3 (fun w' => w'.cell? ⟨gr, 0, none⟩ = some (.pointer (some ⟨qr, 0, none⟩)) ∧ w'.cell? ⟨gr, 1, none⟩ = some (.int .i64 u2.ep) ∧ w'.cell? ⟨gr, 2, none⟩ = some (.bool u2.dn)) (first | (with_reducible exact K8.out) | (with_reducible exact K0.out)) ((first | (go_at_call 20; refine (down_any w.heap.size gu u2 _ (by exact HPd.out.un)).mono ?_; rintro e w11 ⟨rfl, rfl⟩) | (go_at_call 21; refine (epoch_any w.heap.size gu u2 _ (by exact HPd.out.un)).mono ?_; rintro e w11 ⟨rfl, rfl⟩) | (go_at_call 22; refine (pages_any w.heap.size gu u2 _ (by exact HPd.out.un)).mono ?_; rintro e w11 ⟨⟨qp, rfl, hqp⟩, rfl⟩; have HQP := hide hqp; clear hqp) | (go_at_call 23; refine (used_any w.heap.size qp u2.p _ HQP.out).mono ?_; rintro e w11 ⟨rfl, rfl⟩) | (go_at_call 24; refine (rused_any w.heap.size qr u2.p _ (by exact HQd.out)).mono ?_; rintro e w11 ⟨rfl, rfl⟩) | (go_at_call 25; refine (tail_any w.heap.size qp u2.p HO.out _ HQP.out).mono ?_; rintro e w12 ⟨rfl, hf12⟩; have HP8 := hide (HPd.out.below hf12); have HQ8 := hide (HQd.out.below hf12); have K8 := hide (three_below K0.out hf12 HPd.out.ru.lt); clear hf12) | (go_at_call 26; refine (rtail_any w.heap.size qr u2.p _ HO.out HQ8.out).mono ?_; rintro e w13 ⟨rfl, rfl⟩)))
          go_wp2
          go_roundw
          case rel => exact ⟨j + 1, u2, by omega, by go_num, HO.out, HP8.out⟩
          case measure => simp [intOf]; omega
        by_cases hk1 : sk = 1
        · subst hk1
          go_wp2_with fail
          refine (crash_any w.heap.size gu u _ HPP.out.un).mono ?_
          rintro e w5 ⟨rfl, hb5, hf5⟩
          have HP5 := hide (HPP.out.unit hb5 hf5)
          obtain ⟨qx, -, -, -, dx, zx⟩ := HP5.out.cells
          have HP := hide (HP5.out.turn true)
          have HO := HOK
          clear hb5 hf5 HPP c0 c1 c2 c3 c4 c5 c6 c7 c8 c9
          obtain ⟨qr, hqr, d0, d1, d2, d3⟩ := HP.out.cells
          have HQR := hide hqr
          have K0 : Hid ((w5.setCell ⟨gr, 2, none⟩ (.bool true)).drew.cell? ⟨gr, 0, none⟩ = some (.pointer (some ⟨qr, 0, none⟩)) ∧ (w5.setCell ⟨gr, 2, none⟩ (.bool true)).drew.cell? ⟨gr, 1, none⟩ = some (.int .i64 ({ u with dn := true } : US).ep) ∧ (w5.setCell ⟨gr, 2, none⟩ (.bool true)).drew.cell? ⟨gr, 2, none⟩ = some (.bool ({ u with dn := true } : US).dn)) := hide ⟨d0, d1, d2⟩
          have HPd : Hid (UP w gu gr ({ u with dn := true } : US) ({ u with dn := true } : US) (w5.setCell ⟨gr, 2, none⟩ (.bool true)).drew) := hide (HP.out.drewN 1)
          have HQd : Hid (RfAt (w5.setCell ⟨gr, 2, none⟩ (.bool true)).drew w.heap.size qr ({ u with dn := true } : US).p) := hide (hqr.drewN 1)
          clear hqr d3
          go_wp2_with fail
          go_region_held3 (fun w' => w'.cell? ⟨gr, 0, none⟩ = some (.pointer (some ⟨qr, 0, none⟩)) ∧ w'.cell? ⟨gr, 1, none⟩ = some (.int .i64 ({ u with dn := true } : US).ep) ∧ w'.cell? ⟨gr, 2, none⟩ = some (.bool ({ u with dn := true } : US).dn)) (first | (with_reducible exact K8.out) | (with_reducible exact K0.out)) ((first | (go_at_call 20; refine (down_any w.heap.size gu ({ u with dn := true } : US) _ (by exact HPd.out.un)).mono ?_; rintro e w11 ⟨rfl, rfl⟩) | (go_at_call 21; refine (epoch_any w.heap.size gu ({ u with dn := true } : US) _ (by exact HPd.out.un)).mono ?_; rintro e w11 ⟨rfl, rfl⟩) | (go_at_call 22; refine (pages_any w.heap.size gu ({ u with dn := true } : US) _ (by exact HPd.out.un)).mono ?_; rintro e w11 ⟨⟨qp, rfl, hqp⟩, rfl⟩; have HQP := hide hqp; clear hqp) | (go_at_call 23; refine (used_any w.heap.size qp ({ u with dn := true } : US).p _ HQP.out).mono ?_; rintro e w11 ⟨rfl, rfl⟩) | (go_at_call 24; refine (rused_any w.heap.size qr ({ u with dn := true } : US).p _ (by exact HQd.out)).mono ?_; rintro e w11 ⟨rfl, rfl⟩) | (go_at_call 25; refine (tail_any w.heap.size qp ({ u with dn := true } : US).p HO.out _ HQP.out).mono ?_; rintro e w12 ⟨rfl, hf12⟩; have HP8 := hide (HPd.out.below hf12); have HQ8 := hide (HQd.out.below hf12); have K8 := hide (three_below K0.out hf12 HPd.out.ru.lt); clear hf12) | (go_at_call 26; refine (rtail_any w.heap.size qr ({ u with dn := true } : US).p _ HO.out HQ8.out).mono ?_; rintro e w13 ⟨rfl, rfl⟩)))
          go_wp2
          go_roundw
          case rel => exact ⟨j + 1, ({ u with dn := true } : US), by omega, by go_num, HO.out, HP8.out⟩
          case measure => simp [intOf]; omega
        by_cases hk2 : sk = 2
        · subst hk2
          go_wp2_with fail
          refine (start_any w.heap.size gu u _ HPP.out.un).mono ?_
          rintro e w5 ⟨rfl, hb5, hf5⟩
          have HP5 := hide (HPP.out.unit hb5 hf5)
          obtain ⟨qx, -, -, -, dx, zx⟩ := HP5.out.cells
          have HP := hide (HP5.out.turn false)
          have HO := HOK
          clear hb5 hf5 HPP c0 c1 c2 c3 c4 c5 c6 c7 c8 c9
          obtain ⟨qr, hqr, d0, d1, d2, d3⟩ := HP.out.cells
          have HQR := hide hqr
          have K0 : Hid ((w5.setCell ⟨gr, 2, none⟩ (.bool false)).drew.cell? ⟨gr, 0, none⟩ = some (.pointer (some ⟨qr, 0, none⟩)) ∧ (w5.setCell ⟨gr, 2, none⟩ (.bool false)).drew.cell? ⟨gr, 1, none⟩ = some (.int .i64 ({ u with dn := false } : US).ep) ∧ (w5.setCell ⟨gr, 2, none⟩ (.bool false)).drew.cell? ⟨gr, 2, none⟩ = some (.bool ({ u with dn := false } : US).dn)) := hide ⟨d0, d1, d2⟩
          have HPd : Hid (UP w gu gr ({ u with dn := false } : US) ({ u with dn := false } : US) (w5.setCell ⟨gr, 2, none⟩ (.bool false)).drew) := hide (HP.out.drewN 1)
          have HQd : Hid (RfAt (w5.setCell ⟨gr, 2, none⟩ (.bool false)).drew w.heap.size qr ({ u with dn := false } : US).p) := hide (hqr.drewN 1)
          clear hqr d3
          go_wp2_with fail
          go_region_held3 (fun w' => w'.cell? ⟨gr, 0, none⟩ = some (.pointer (some ⟨qr, 0, none⟩)) ∧ w'.cell? ⟨gr, 1, none⟩ = some (.int .i64 ({ u with dn := false } : US).ep) ∧ w'.cell? ⟨gr, 2, none⟩ = some (.bool ({ u with dn := false } : US).dn)) (first | (with_reducible exact K8.out) | (with_reducible exact K0.out)) ((first | (go_at_call 20; refine (down_any w.heap.size gu ({ u with dn := false } : US) _ (by exact HPd.out.un)).mono ?_; rintro e w11 ⟨rfl, rfl⟩) | (go_at_call 21; refine (epoch_any w.heap.size gu ({ u with dn := false } : US) _ (by exact HPd.out.un)).mono ?_; rintro e w11 ⟨rfl, rfl⟩) | (go_at_call 22; refine (pages_any w.heap.size gu ({ u with dn := false } : US) _ (by exact HPd.out.un)).mono ?_; rintro e w11 ⟨⟨qp, rfl, hqp⟩, rfl⟩; have HQP := hide hqp; clear hqp) | (go_at_call 23; refine (used_any w.heap.size qp ({ u with dn := false } : US).p _ HQP.out).mono ?_; rintro e w11 ⟨rfl, rfl⟩) | (go_at_call 24; refine (rused_any w.heap.size qr ({ u with dn := false } : US).p _ (by exact HQd.out)).mono ?_; rintro e w11 ⟨rfl, rfl⟩) | (go_at_call 25; refine (tail_any w.heap.size qp ({ u with dn := false } : US).p HO.out _ HQP.out).mono ?_; rintro e w12 ⟨rfl, hf12⟩; have HP8 := hide (HPd.out.below hf12); have HQ8 := hide (HQd.out.below hf12); have K8 := hide (three_below K0.out hf12 HPd.out.ru.lt); clear hf12) | (go_at_call 26; refine (rtail_any w.heap.size qr ({ u with dn := false } : US).p _ HO.out HQ8.out).mono ?_; rintro e w13 ⟨rfl, rfl⟩)))
          go_wp2
          go_roundw
          case rel => exact ⟨j + 1, ({ u with dn := false } : US), by omega, by go_num, HO.out, HP8.out⟩
          case measure => simp [intOf]; omega
        have n0 : (sk == 0) = false := by simp [hk0]
        have n1 : (sk == 1) = false := by simp [hk1]
        have n2 : (sk == 2) = false := by simp [hk2]
        clear hk0 hk1 hk2
        have HP := HPP
        have HO := HOK
        obtain ⟨qr, hqr, d0, d1, d2, d3⟩ := HP.out.cells
        have HQR := hide hqr
        have K0 : Hid (wr.drew.cell? ⟨gr, 0, none⟩ = some (.pointer (some ⟨qr, 0, none⟩)) ∧ wr.drew.cell? ⟨gr, 1, none⟩ = some (.int .i64 u.ep) ∧ wr.drew.cell? ⟨gr, 2, none⟩ = some (.bool u.dn)) := hide ⟨d0, d1, d2⟩
        have HPd : Hid (UP w gu gr u u wr.drew) := hide (HP.out.drewN 1)
        have HQd : Hid (RfAt wr.drew w.heap.size qr u.p) := hide (hqr.drewN 1)
        clear hqr d3
        go_wp2_with fail
        go_region_held3 (fun w' => w'.cell? ⟨gr, 0, none⟩ = some (.pointer (some ⟨qr, 0, none⟩)) ∧ w'.cell? ⟨gr, 1, none⟩ = some (.int .i64 u.ep) ∧ w'.cell? ⟨gr, 2, none⟩ = some (.bool u.dn)) (first | (with_reducible exact K8.out) | (with_reducible exact K0.out)) ((first | (go_at_call 20; refine (down_any w.heap.size gu u _ (by exact HPd.out.un)).mono ?_; rintro e w11 ⟨rfl, rfl⟩) | (go_at_call 21; refine (epoch_any w.heap.size gu u _ (by exact HPd.out.un)).mono ?_; rintro e w11 ⟨rfl, rfl⟩) | (go_at_call 22; refine (pages_any w.heap.size gu u _ (by exact HPd.out.un)).mono ?_; rintro e w11 ⟨⟨qp, rfl, hqp⟩, rfl⟩; have HQP := hide hqp; clear hqp) | (go_at_call 23; refine (used_any w.heap.size qp u.p _ HQP.out).mono ?_; rintro e w11 ⟨rfl, rfl⟩) | (go_at_call 24; refine (rused_any w.heap.size qr u.p _ (by exact HQd.out)).mono ?_; rintro e w11 ⟨rfl, rfl⟩) | (go_at_call 25; refine (tail_any w.heap.size qp u.p HO.out _ HQP.out).mono ?_; rintro e w12 ⟨rfl, hf12⟩; have HP8 := hide (HPd.out.below hf12); have HQ8 := hide (HQd.out.below hf12); have K8 := hide (three_below K0.out hf12 HPd.out.ru.lt); clear hf12) | (go_at_call 26; refine (rtail_any w.heap.size qr u.p _ HO.out HQ8.out).mono ?_; rintro e w13 ⟨rfl, rfl⟩)))
        go_wp2
        go_roundw
        case rel => exact ⟨j + 1, u, by omega, by go_num, HO.out, HP8.out⟩
        case measure => simp [intOf]; omega
      · clear hpp hok ha
        go_wp2_with fail
        refine (uwakes_any _).mono ?_
        rintro e w9 ⟨rfl, hf9⟩
        have HF := hide (HPP.out.below hf9).bel
        clear hf9
        go_wp2
        go_ret
        exact ⟨rfl, HF.out⟩
end Go.Proofs.Ytjpegkginmoekaa

/- The law PagePlays: the pages and the reference's list, side by side. -/
import Derived.Test.YtjpegkginmoekaaRfD
import Derived.Test.YtjpegkginmoekaaStays
import Derived.Deep.RegionHeld3
namespace Go.Proofs.Ytjpegkginmoekaa
open Go.RowKit
set_option linter.unusedVariables false

theorem RfAt.lower {w : World} {B B' g : Nat} {p : PS} (h : RfAt w B g p) (hb : B' ≤ B) : RfAt w B' g p := by
  obtain ⟨v, h1, h2, h3⟩ := h
  exact ⟨v, h1, Nat.le_trans hb h2, h3.lower hb⟩
/-- the pages and the reference's, side by side -/
structure PP (w0 : World) (gp gr : Nat) (p q : PS) (w : World) : Prop where
  pg : PgAt w w0.heap.size gp p
  rf : RfAt w w0.heap.size gr q
  bel : Below w0.heap.size w0 w
section
variable {w0 w w' : World} {gp gr : Nat} {p q p' q' : PS}
theorem PP.page (h : PP w0 gp gr p q w) (hb : PgAt w' w0.heap.size gp p') (hf : Fr [82] w0.heap.size w w') : PP w0 gp gr p' q w' :=
  ⟨hb, h.rf.fr hf (by decide) (by decide), h.bel.trans (hf.below h.bel.size)⟩
theorem PP.ref (h : PP w0 gp gr p q w) (hb : RfAt w' w0.heap.size gr q') (hg : w.grownBy w' (some gr)) : PP w0 gp gr p q' w' := by
  obtain ⟨v, h1, h2, h3⟩ := h.rf
  exact ⟨h.pg.grown h1 (by decide) hg, hb, h.bel.grown hg h.bel.size (fun k hk => by injection hk with hk; omega)⟩
theorem PP.below (h : PP w0 gp gr p q w) (hb : Below w.heap.size w w') : PP w0 gp gr p q w' := ⟨h.pg.below hb, h.rf.below hb, h.bel.trans (hb.mono h.bel.size)⟩
theorem PP.alloc (h : PP w0 gp gr p q w) (o : Obj) : PP w0 gp gr p q (w.alloc o) := h.below ((Below.refl _ _).alloc (Nat.le_refl _) _)
theorem PP.drewN (h : PP w0 gp gr p q w) (n : Nat) : PP w0 gp gr p q (w.drewN n) := h.below (below_drewN (Below.refl _ _) n)
theorem PP.box {b : Nat} {t : TypeId} {cs : Array Value} (h : PP w0 gp gr p q w) (hb : Blk w b t cs) (ht : t ≠ 85) (hg : w.grownBy w' (some gr)) : Blk w' b t cs := by
  obtain ⟨v, h1, h2, h3⟩ := h.rf
  exact hb.grown hg (fun e => hb.ne_ h1 ht (by injection e))
end
def PlRel (w : World) (gp gr : Nat) (n : Nat) (i : Value) (wr : World) : Prop := ∃ (j : Nat) (p : PS), j ≤ n ∧ i = .int .i64 j ∧ p.Ok ∧ PP w gp gr p p wr
def PlRel2 (w : World) (gp gr : Nat) (p : PS) (i : Value) (wr : World) : Prop := ∃ (j : Int), -1 ≤ j ∧ j ≤ 30 ∧ i = .int .i64 j ∧ PP w gp gr p p wr
theorem blk3_ {w : World} {g : Nat} {a b c : Value} {t : TypeId} (h : Blk w g t #[a, b, c]) : w.cell? ⟨g, 1, none⟩ = some b ∧ w.cell? ⟨g, 2, none⟩ = some c := ⟨h.cell 1, h.cell 2⟩

set_option maxRecDepth 100000 in
set_option maxHeartbeats 4000000 in
theorem plays_any (A : Option Addr) (cap : Nat) (ss : List Sp) (room : Int) (w : World) (ha : Arg w w.heap.size A ss.length (spCells ss)) (hl : ss.length ≤ 9223372036854775807) :
    Calls Try.prog 7 #[.int .i64 room, .slice A ss.length cap] w fun e w' => e = .returned (.bool true) ∧ Below w.heap.size w w' := by
  by_cases hroom : room < 1 ∨ 4096 < room
  · go_enter Try.func7, Try.ntmps7
    go_wp2_with fail
    refine (new_no room _ hroom).mono ?_
    rintro e w1 ⟨rfl, rfl⟩
    go_wp2_with fail
    refine (rnew_no room _ hroom).mono ?_
    rintro e w1 ⟨rfl, rfl⟩
    go_wp2_with fail
    refine (wakes_any _).mono ?_
    rintro e w9 ⟨rfl, hf9⟩
    go_wp2
    go_ret
    exact ⟨rfl, hf9⟩
  have hr0 : 1 ≤ room := by omega
  have hr1 : room ≤ 4096 := by omega
  clear hroom
  go_enter Try.func7, Try.ntmps7
  go_wp2_with fail
  refine (new_yes room _ hr0 hr1).mono ?_
  rintro e w1 ⟨rfl, hb1, hf1, hs1⟩
  have HS := hide hs1
  clear hs1
  go_wp2_with fail
  refine (rnew_yes room _ hr0 hr1).mono ?_
  rintro e w2 ⟨rfl, hb2, hf2⟩
  rw [HS.out] at hb2 ⊢
  have HP0 : Hid (PP w (w.heap.size + 1) (w.heap.size + 2) (newP room) (newP room) w2) := hide ⟨hb1.below hf2, hb2.lower (by omega), hf1.trans (hf2.mono hf1.size)⟩
  clear hb1 hf1 hb2 hf2
  generalize w.heap.size + 2 = gr at *
  generalize w.heap.size + 1 = gp at *
  go_wp2_with fail
  refine (fair_any w.heap.size A cap ss _ (ha.below HP0.out.bel) hl).mono ?_
  rintro e w3 ⟨rfl, rfl⟩
  by_cases hfair : fairP ss = true
  · rw [hfair]
    go_wp2_with fail
    go_loopw [9] (fun i wr => PlRel w gp gr ss.length i wr) (fun i _ => ss.length - (intOf i).toNat)
    case atStart => exact ⟨0, _, Nat.zero_le _, rfl, newP_ok room hr0 hr1, HP0.out⟩
    case round =>
      clear HP0
      obtain ⟨j, p, hj, rfl, hok, hpp⟩ := hrel
      by_cases hlt : j < ss.length
      · obtain ⟨b, off, rfl, hbb, hcs⟩ := ha.below hpp.bel (by omega)
        have hx : ss[j]? = some ss[j] := List.getElem?_eq_getElem hlt
        generalize ss[j] = x at hx
        obtain ⟨q0, q1, q2⟩ := spCells_get ss j x hx
        have c0 := hcs _ _ q0
        have c1 := hcs _ _ q1
        have c2 := hcs _ _ q2
        simp only [← Nat.add_assoc] at c1 c2
        clear q0 q1 q2 hcs hx ha
        obtain ⟨xk, xn, xs⟩ := x
        simp only at c0 c1 c2
        have HOP := hide hok
        by_cases hx0 : xk = 0
        · subst hx0
          have HB0 : Hid (Blk (wr.alloc (.cells #[.int .i64 0, .int .i64 xn, .string xs] 58)).drew wr.heap.size 58 #[.int .i64 0, .int .i64 xn, .string xs]) := hide (Blk.new wr 58 _)
          have HP0 : Hid (PP w gp gr p p (wr.alloc (.cells #[.int .i64 0, .int .i64 xn, .string xs] 58)).drew) := hide ((hpp.alloc _).drewN 1)
          clear hpp hok
          have K0 : Hid ((wr.alloc (.cells #[.int .i64 0, .int .i64 xn, .string xs] 58)).drew.cell? ⟨wr.heap.size, 1, none⟩ = some (.int .i64 xn) ∧ (wr.alloc (.cells #[.int .i64 0, .int .i64 xn, .string xs] 58)).drew.cell? ⟨wr.heap.size, 2, none⟩ = some (.string xs)) := hide (blk3_ HB0.out)
          go_wp2_with fail
          go_region_held3 (fun w' => w'.cell? ⟨wr.heap.size, 1, none⟩ = some (.int .i64 xn) ∧ w'.cell? ⟨wr.heap.size, 2, none⟩ = some (.string xs)) (first | (with_reducible exact K2.out) | (with_reducible exact K1.out) | (with_reducible exact K0.out)) ((first | (go_at_call 31; refine (write_any w.heap.size gp p HOP.out xn xs _ (by exact HP0.out.pg)).mono ?_; rintro e w3 ⟨rfl, hb3, hf3⟩; have HP1 := hide (HP0.out.page hb3 hf3); have HB1 := hide (HB0.out.fr hf3 (by decide)); have K1 := hide (blk3_ HB1.out); clear hb3 hf3) | (go_at_call 37; refine (rwrite_any w.heap.size gr p xn xs _ HOP.out HP1.out.rf).mono ?_; rintro e w4 ⟨rfl, hb4, hf4⟩; have HP := hide (HP1.out.ref hb4 hf4); have HB := hide (HP1.out.box HB1.out (by decide) hf4); have K2 := hide (blk3_ HB.out); clear hb4 hf4)))
          have HO := hide (writeP_ok HOP.out xn xs)
          clear K0 K1 K2 HP0 HB0 HP1 HB1
          -- looking
          go_wp2_with fail
          refine (read_any w.heap.size gp (writeP p xn xs) HO.out xn _ HP.out.pg).mono ?_
          rintro e w5 ⟨rfl, rfl⟩
          go_wp2_with fail
          refine (rread_any w.heap.size gr (writeP p xn xs) xn _ HO.out HP.out.rf).mono ?_
          rintro e w6 ⟨rfl, m6, rfl⟩
          have HP6 : Hid (PP w gp gr (writeP p xn xs) (writeP p xn xs) (w4.drewN (m6 + 1))) := hide (HP.out.drewN (m6 + 1))
          have HB6 : Hid (Blk (w4.drewN (m6 + 1)) wr.heap.size 58 _) := hide (HB.out.drewN (m6 + 1))
          have K6 := hide (blk3_ HB6.out).1
          have K5 : Hid ((w4.drewN m6).drew.cell? ⟨wr.heap.size, 1, none⟩ = some (.int .i64 xn)) := K6
          go_wp2_with fail
          go_region_held3 (fun w' => w'.cell? ⟨wr.heap.size, 1, none⟩ = some (.int .i64 xn)) (first | (with_reducible exact K8.out) | (with_reducible exact K6.out) | (with_reducible exact K5.out)) ((first | (go_at_call 41; refine (kind_any w.heap.size gp (writeP p xn xs) HO.out xn _ (by exact HP6.out.pg)).mono ?_; rintro e w7 ⟨rfl, rfl⟩) | (go_at_call 42; refine (rkind_any w.heap.size gr (writeP p xn xs) xn _ HO.out (by exact HP6.out.rf)).mono ?_; rintro e w7 ⟨rfl, rfl⟩) | (go_at_call 25; refine (tail_any w.heap.size gp (writeP p xn xs) HO.out _ (by exact HP6.out.pg)).mono ?_; rintro e w8 ⟨rfl, hf8⟩; have HP8 := hide (HP6.out.below hf8); have K8 := hide (blk3_ (HB6.out.below hf8 HB6.out.lt)).1; clear hf8) | (go_at_call 26; refine (rtail_any w.heap.size gr (writeP p xn xs) _ HO.out HP8.out.rf).mono ?_; rintro e w9 ⟨rfl, rfl⟩) | (go_at_call 23; refine (used_any w.heap.size gp (writeP p xn xs) _ HP8.out.pg).mono ?_; rintro e w9 ⟨rfl, rfl⟩) | (go_at_call 24; refine (rused_any w.heap.size gr (writeP p xn xs) _ HP8.out.rf).mono ?_; rintro e w9 ⟨rfl, rfl⟩) | (go_at_call 27; refine (edge_any w.heap.size gp (writeP p xn xs) _ HP8.out.pg).mono ?_; rintro e w9 ⟨rfl, rfl⟩) | (go_at_call 43; refine (redge_any w.heap.size gr (writeP p xn xs) _ HP8.out.rf).mono ?_; rintro e w9 ⟨rfl, rfl⟩)))
          go_wp2
          go_roundw
          case rel => exact ⟨j + 1, _, by omega, by go_num, HO.out, HP8.out⟩
          case measure => simp [intOf]; omega
        by_cases hx1 : xk = 1
        · subst hx1
          have HB0 : Hid (Blk (wr.alloc (.cells #[.int .i64 1, .int .i64 xn, .string xs] 58)).drew wr.heap.size 58 #[.int .i64 1, .int .i64 xn, .string xs]) := hide (Blk.new wr 58 _)
          have HP0 : Hid (PP w gp gr p p (wr.alloc (.cells #[.int .i64 1, .int .i64 xn, .string xs] 58)).drew) := hide ((hpp.alloc _).drewN 1)
          clear hpp hok
          have K0 : Hid ((wr.alloc (.cells #[.int .i64 1, .int .i64 xn, .string xs] 58)).drew.cell? ⟨wr.heap.size, 1, none⟩ = some (.int .i64 xn) ∧ (wr.alloc (.cells #[.int .i64 1, .int .i64 xn, .string xs] 58)).drew.cell? ⟨wr.heap.size, 2, none⟩ = some (.string xs)) := hide (blk3_ HB0.out)
          go_wp2_with fail
          go_region_held3 (fun w' => w'.cell? ⟨wr.heap.size, 1, none⟩ = some (.int .i64 xn) ∧ w'.cell? ⟨wr.heap.size, 2, none⟩ = some (.string xs)) (first | (with_reducible exact K2.out) | (with_reducible exact K1.out) | (with_reducible exact K0.out)) ((first | (go_at_call 33; refine (fill_any w.heap.size gp p HOP.out xn _ (by exact HP0.out.pg)).mono ?_; rintro e w3 ⟨rfl, hb3, hf3⟩; have HP1 := hide (HP0.out.page hb3 hf3); have HB1 := hide (HB0.out.fr hf3 (by decide)); have K1 := hide (blk3_ HB1.out); clear hb3 hf3) | (go_at_call 38; refine (rfill_any w.heap.size gr p xn _ HOP.out HP1.out.rf).mono ?_; rintro e w4 ⟨rfl, hb4, hf4⟩; have HP := hide (HP1.out.ref hb4 hf4); have HB := hide (HP1.out.box HB1.out (by decide) hf4); have K2 := hide (blk3_ HB.out); clear hb4 hf4)))
          have HO := hide (fillP_ok HOP.out xn)
          clear K0 K1 K2 HP0 HB0 HP1 HB1
          -- looking
          go_wp2_with fail
          refine (read_any w.heap.size gp (fillP p xn) HO.out xn _ HP.out.pg).mono ?_
          rintro e w5 ⟨rfl, rfl⟩
          go_wp2_with fail
          refine (rread_any w.heap.size gr (fillP p xn) xn _ HO.out HP.out.rf).mono ?_
          rintro e w6 ⟨rfl, m6, rfl⟩
          have HP6 : Hid (PP w gp gr (fillP p xn) (fillP p xn) (w4.drewN (m6 + 1))) := hide (HP.out.drewN (m6 + 1))
          have HB6 : Hid (Blk (w4.drewN (m6 + 1)) wr.heap.size 58 _) := hide (HB.out.drewN (m6 + 1))
          have K6 := hide (blk3_ HB6.out).1
          have K5 : Hid ((w4.drewN m6).drew.cell? ⟨wr.heap.size, 1, none⟩ = some (.int .i64 xn)) := K6
          go_wp2_with fail
          go_region_held3 (fun w' => w'.cell? ⟨wr.heap.size, 1, none⟩ = some (.int .i64 xn)) (first | (with_reducible exact K8.out) | (with_reducible exact K6.out) | (with_reducible exact K5.out)) ((first | (go_at_call 41; refine (kind_any w.heap.size gp (fillP p xn) HO.out xn _ (by exact HP6.out.pg)).mono ?_; rintro e w7 ⟨rfl, rfl⟩) | (go_at_call 42; refine (rkind_any w.heap.size gr (fillP p xn) xn _ HO.out (by exact HP6.out.rf)).mono ?_; rintro e w7 ⟨rfl, rfl⟩) | (go_at_call 25; refine (tail_any w.heap.size gp (fillP p xn) HO.out _ (by exact HP6.out.pg)).mono ?_; rintro e w8 ⟨rfl, hf8⟩; have HP8 := hide (HP6.out.below hf8); have K8 := hide (blk3_ (HB6.out.below hf8 HB6.out.lt)).1; clear hf8) | (go_at_call 26; refine (rtail_any w.heap.size gr (fillP p xn) _ HO.out HP8.out.rf).mono ?_; rintro e w9 ⟨rfl, rfl⟩) | (go_at_call 23; refine (used_any w.heap.size gp (fillP p xn) _ HP8.out.pg).mono ?_; rintro e w9 ⟨rfl, rfl⟩) | (go_at_call 24; refine (rused_any w.heap.size gr (fillP p xn) _ HP8.out.rf).mono ?_; rintro e w9 ⟨rfl, rfl⟩) | (go_at_call 27; refine (edge_any w.heap.size gp (fillP p xn) _ HP8.out.pg).mono ?_; rintro e w9 ⟨rfl, rfl⟩) | (go_at_call 43; refine (redge_any w.heap.size gr (fillP p xn) _ HP8.out.rf).mono ?_; rintro e w9 ⟨rfl, rfl⟩)))
          go_wp2
          go_roundw
          case rel => exact ⟨j + 1, _, by omega, by go_num, HO.out, HP8.out⟩
          case measure => simp [intOf]; omega
        by_cases hx2 : xk = 2
        · subst hx2
          have HB0 : Hid (Blk (wr.alloc (.cells #[.int .i64 2, .int .i64 xn, .string xs] 58)).drew wr.heap.size 58 #[.int .i64 2, .int .i64 xn, .string xs]) := hide (Blk.new wr 58 _)
          have HP0 : Hid (PP w gp gr p p (wr.alloc (.cells #[.int .i64 2, .int .i64 xn, .string xs] 58)).drew) := hide ((hpp.alloc _).drewN 1)
          clear hpp hok
          have K0 : Hid ((wr.alloc (.cells #[.int .i64 2, .int .i64 xn, .string xs] 58)).drew.cell? ⟨wr.heap.size, 1, none⟩ = some (.int .i64 xn) ∧ (wr.alloc (.cells #[.int .i64 2, .int .i64 xn, .string xs] 58)).drew.cell? ⟨wr.heap.size, 2, none⟩ = some (.string xs)) := hide (blk3_ HB0.out)
          go_wp2_with fail
          go_region_held3 (fun w' => w'.cell? ⟨wr.heap.size, 1, none⟩ = some (.int .i64 xn) ∧ w'.cell? ⟨wr.heap.size, 2, none⟩ = some (.string xs)) (first | (with_reducible exact K2.out) | (with_reducible exact K1.out) | (with_reducible exact K0.out)) ((first | (go_at_call 34; refine (trim_any w.heap.size gp p HOP.out xn _ (by exact HP0.out.pg)).mono ?_; rintro e w3 ⟨rfl, hb3, hf3⟩; have HP1 := hide (HP0.out.page hb3 hf3); have HB1 := hide (HB0.out.fr hf3 (by decide)); have K1 := hide (blk3_ HB1.out); clear hb3 hf3) | (go_at_call 39; refine (rtrim_any w.heap.size gr p xn _ HOP.out HP1.out.rf).mono ?_; rintro e w4 ⟨rfl, hb4, hf4⟩; have HP := hide (HP1.out.ref hb4 hf4); have HB := hide (HP1.out.box HB1.out (by decide) hf4); have K2 := hide (blk3_ HB.out); clear hb4 hf4)))
          have HO := hide (trimP_ok HOP.out xn)
          clear K0 K1 K2 HP0 HB0 HP1 HB1
          -- looking
          go_wp2_with fail
          refine (read_any w.heap.size gp (trimP p xn) HO.out xn _ HP.out.pg).mono ?_
          rintro e w5 ⟨rfl, rfl⟩
          go_wp2_with fail
          refine (rread_any w.heap.size gr (trimP p xn) xn _ HO.out HP.out.rf).mono ?_
          rintro e w6 ⟨rfl, m6, rfl⟩
          have HP6 : Hid (PP w gp gr (trimP p xn) (trimP p xn) (w4.drewN (m6 + 1))) := hide (HP.out.drewN (m6 + 1))
          have HB6 : Hid (Blk (w4.drewN (m6 + 1)) wr.heap.size 58 _) := hide (HB.out.drewN (m6 + 1))
          have K6 := hide (blk3_ HB6.out).1
          have K5 : Hid ((w4.drewN m6).drew.cell? ⟨wr.heap.size, 1, none⟩ = some (.int .i64 xn)) := K6
          go_wp2_with fail
          go_region_held3 (fun w' => w'.cell? ⟨wr.heap.size, 1, none⟩ = some (.int .i64 xn)) (first | (with_reducible exact K8.out) | (with_reducible exact K6.out) | (with_reducible exact K5.out)) ((first | (go_at_call 41; refine (kind_any w.heap.size gp (trimP p xn) HO.out xn _ (by exact HP6.out.pg)).mono ?_; rintro e w7 ⟨rfl, rfl⟩) | (go_at_call 42; refine (rkind_any w.heap.size gr (trimP p xn) xn _ HO.out (by exact HP6.out.rf)).mono ?_; rintro e w7 ⟨rfl, rfl⟩) | (go_at_call 25; refine (tail_any w.heap.size gp (trimP p xn) HO.out _ (by exact HP6.out.pg)).mono ?_; rintro e w8 ⟨rfl, hf8⟩; have HP8 := hide (HP6.out.below hf8); have K8 := hide (blk3_ (HB6.out.below hf8 HB6.out.lt)).1; clear hf8) | (go_at_call 26; refine (rtail_any w.heap.size gr (trimP p xn) _ HO.out HP8.out.rf).mono ?_; rintro e w9 ⟨rfl, rfl⟩) | (go_at_call 23; refine (used_any w.heap.size gp (trimP p xn) _ HP8.out.pg).mono ?_; rintro e w9 ⟨rfl, rfl⟩) | (go_at_call 24; refine (rused_any w.heap.size gr (trimP p xn) _ HP8.out.rf).mono ?_; rintro e w9 ⟨rfl, rfl⟩) | (go_at_call 27; refine (edge_any w.heap.size gp (trimP p xn) _ HP8.out.pg).mono ?_; rintro e w9 ⟨rfl, rfl⟩) | (go_at_call 43; refine (redge_any w.heap.size gr (trimP p xn) _ HP8.out.rf).mono ?_; rintro e w9 ⟨rfl, rfl⟩)))
          go_wp2
          go_roundw
          case rel => exact ⟨j + 1, _, by omega, by go_num, HO.out, HP8.out⟩
          case measure => simp [intOf]; omega
        have n0 : (xk == 0) = false := by simp [hx0]
        have n1 : (xk == 1) = false := by simp [hx1]
        have n2 : (xk == 2) = false := by simp [hx2]
        clear hx0 hx1 hx2
        have HB : Hid (Blk (wr.alloc (.cells #[.int .i64 xk, .int .i64 xn, .string xs] 58)) wr.heap.size 58 #[.int .i64 xk, .int .i64 xn, .string xs]) := hide (Blk.new wr 58 _)
        have HP : Hid (PP w gp gr p p (wr.alloc (.cells #[.int .i64 xk, .int .i64 xn, .string xs] 58))) := hide (hpp.alloc _)
        have HO := HOP
        clear hpp hok
        -- looking
        go_wp2_with fail
        refine (read_any w.heap.size gp p HO.out xn _ HP.out.pg).mono ?_
        rintro e w5 ⟨rfl, rfl⟩
        go_wp2_with fail
        refine (rread_any w.heap.size gr p xn _ HO.out HP.out.rf).mono ?_
        rintro e w6 ⟨rfl, m6, rfl⟩
        have HP6 : Hid (PP w gp gr p p ((wr.alloc (.cells #[.int .i64 xk, .int .i64 xn, .string xs] 58)).drewN (m6 + 1))) := hide (HP.out.drewN (m6 + 1))
        have HB6 : Hid (Blk ((wr.alloc (.cells #[.int .i64 xk, .int .i64 xn, .string xs] 58)).drewN (m6 + 1)) wr.heap.size 58 _) := hide (HB.out.drewN (m6 + 1))
        have K6 := hide (blk3_ HB6.out).1
        have K5 : Hid (((wr.alloc (.cells #[.int .i64 xk, .int .i64 xn, .string xs] 58)).drewN m6).drew.cell? ⟨wr.heap.size, 1, none⟩ = some (.int .i64 xn)) := K6
        go_wp2_with fail
        go_region_held3 (fun w' => w'.cell? ⟨wr.heap.size, 1, none⟩ = some (.int .i64 xn)) (first | (with_reducible exact K8.out) | (with_reducible exact K6.out) | (with_reducible exact K5.out)) ((first | (go_at_call 41; refine (kind_any w.heap.size gp p HO.out xn _ (by exact HP6.out.pg)).mono ?_; rintro e w7 ⟨rfl, rfl⟩) | (go_at_call 42; refine (rkind_any w.heap.size gr p xn _ HO.out (by exact HP6.out.rf)).mono ?_; rintro e w7 ⟨rfl, rfl⟩) | (go_at_call 25; refine (tail_any w.heap.size gp p HO.out _ (by exact HP6.out.pg)).mono ?_; rintro e w8 ⟨rfl, hf8⟩; have HP8 := hide (HP6.out.below hf8); have K8 := hide (blk3_ (HB6.out.below hf8 HB6.out.lt)).1; clear hf8) | (go_at_call 26; refine (rtail_any w.heap.size gr p _ HO.out HP8.out.rf).mono ?_; rintro e w9 ⟨rfl, rfl⟩) | (go_at_call 23; refine (used_any w.heap.size gp p _ HP8.out.pg).mono ?_; rintro e w9 ⟨rfl, rfl⟩) | (go_at_call 24; refine (rused_any w.heap.size gr p _ HP8.out.rf).mono ?_; rintro e w9 ⟨rfl, rfl⟩) | (go_at_call 27; refine (edge_any w.heap.size gp p _ HP8.out.pg).mono ?_; rintro e w9 ⟨rfl, rfl⟩) | (go_at_call 43; refine (redge_any w.heap.size gr p _ HP8.out.rf).mono ?_; rintro e w9 ⟨rfl, rfl⟩)))
        go_wp2
        go_roundw
        case rel => exact ⟨j + 1, _, by omega, by go_num, HO.out, HP8.out⟩
        case measure => simp [intOf]; omega
      · have HPP := hide hpp
        have HOP := hide hok
        clear hpp hok ha
        go_wp2_with fail
        go_loopw [15] (fun i wr => PlRel2 w gp gr p i wr) (fun i _ => (30 - intOf i).toNat)
        case atStart => exact ⟨-1, by decide, by decide, rfl, HPP.out⟩
        case round =>
          obtain ⟨jj, hj0, hj1, rfl, hp2⟩ := hrel
          by_cases hlt2 : jj < 30
          · have HP2 := hide hp2
            clear hp2
            go_wp2_with fail
            refine (read_any w.heap.size gp p HOP.out jj _ HP2.out.pg).mono ?_
            rintro e w5 ⟨rfl, rfl⟩
            go_wp2_with fail
            refine (rread_any w.heap.size gr p jj _ HOP.out HP2.out.rf).mono ?_
            rintro e w6 ⟨rfl, m6, rfl⟩
            go_wp2
            go_roundw
            case rel => exact ⟨jj + 1, by omega, by omega, by go_num, HP2.out.drewN _⟩
            case measure => simp [intOf]; omega
          · have HP2 := hide hp2
            clear hp2
            go_wp2_with fail
            refine (wakes_any _).mono ?_
            rintro e w9 ⟨rfl, hf9⟩
            have HF := hide (HP2.out.bel.trans (hf9.mono HP2.out.bel.size))
            clear hf9
            go_wp2
            go_ret
            exact ⟨rfl, HF.out⟩
  · have hfair' : fairP ss = false := by simpa using hfair
    rw [hfair']
    go_wp2_with fail
    refine (wakes_any _).mono ?_
    rintro e w9 ⟨rfl, hf9⟩
    have HF := hide (HP0.out.bel.trans (hf9.mono HP0.out.bel.size))
    clear hf9
    go_wp2
    go_ret
    exact ⟨rfl, HF.out⟩
end Go.Proofs.Ytjpegkginmoekaa

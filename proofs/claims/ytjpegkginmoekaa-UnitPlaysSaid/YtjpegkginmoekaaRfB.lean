/- The reference's pages: Read, Tail. -/
import Derived.Test.YtjpegkginmoekaaRfA
import Derived.Deep.QuietTactic
import Derived.Lib.MinMax
namespace Go.Proofs.Ytjpegkginmoekaa
open Go.RowKit
set_option linter.unusedVariables false

theorem RfAt.drewN {w : World} {B g : Nat} {p : PS} (h : RfAt w B g p) (n : Nat) : RfAt (w.drewN n) B g p := h
theorem rkind_to (B g : Nat) (p : PS) (n e : Int) (w : World) (hp : p.Ok) (hb : RfAt w B g p) (he : kindP p n = e) :
    Calls Try.prog 42 #[.pointer (some ⟨g, 0, none⟩), .int .i64 n] w fun en w' => en = .returned (.int .i64 e) ∧ w = w' := by
  subst he
  exact rkind_any B g p n w hp hb
theorem rfind_to (B g : Nat) (p : PS) (n e : Int) (w : World) (hp : p.Ok) (hb : RfAt w B g p) (he : ix n p.l = e) :
    Calls Try.prog 50 #[.pointer (some ⟨g, 0, none⟩), .int .i64 n] w fun en w' => en = .returned (.int .i64 e) ∧ w = w' := by
  subst he
  exact rfind_any B g p n w hp hb

theorem rread_bad (B g : Nat) (p : PS) (n : Int) (w : World) (h0 : n < 0 ∨ 4096 ≤ n) :
    Calls Try.prog 40 #[.pointer (some ⟨g, 0, none⟩), .int .i64 n] w fun e w' => e = .returned (.tuple #[.string ⟨#[]⟩, .int .i64 1]) ∧ w = w' := by
  have hd : decide (0 ≤ n ∧ n < 4096) = false := by simp; omega
  go_enter Try.func40, Try.ntmps40
  go_wp2_with fail
  refine (rthere_any n _).mono ?_
  rintro e w1 ⟨rfl, rfl⟩
  rw [hd]
  go_wp2
  go_ret2
  exact ⟨rfl, rfl⟩
theorem rread_trim (B g : Nat) (p : PS) (n : Int) (w : World) (hp : p.Ok) (hb : RfAt w B g p) (h0 : ¬ (n < 0 ∨ 4096 ≤ n)) (hk : kindP p n = 3) :
    Calls Try.prog 40 #[.pointer (some ⟨g, 0, none⟩), .int .i64 n] w fun e w' => e = .returned (.tuple #[.string ⟨#[]⟩, .int .i64 43]) ∧ w = w' := by
  have hd : decide (0 ≤ n ∧ n < 4096) = true := by simp; omega
  go_enter Try.func40, Try.ntmps40
  go_wp2_with fail
  refine (rthere_any n _).mono ?_
  rintro e w1 ⟨rfl, rfl⟩
  rw [hd]
  go_wp2_with fail
  refine (rkind_to B g p n 3 _ hp hb hk).mono ?_
  rintro e w1 ⟨rfl, rfl⟩
  go_wp2
  go_ret2
  exact ⟨rfl, rfl⟩
theorem rread_none (B g : Nat) (p : PS) (n : Int) (w : World) (hp : p.Ok) (hb : RfAt w B g p) (h0 : ¬ (n < 0 ∨ 4096 ≤ n)) (hk : kindP p n = 0) :
    Calls Try.prog 40 #[.pointer (some ⟨g, 0, none⟩), .int .i64 n] w fun e w' => e = .returned (.tuple #[.string ⟨#[]⟩, .int .i64 42]) ∧ w = w' := by
  have hd : decide (0 ≤ n ∧ n < 4096) = true := by simp; omega
  go_enter Try.func40, Try.ntmps40
  go_wp2_with fail
  refine (rthere_any n _).mono ?_
  rintro e w1 ⟨rfl, rfl⟩
  rw [hd]
  go_wp2_with fail
  refine (rkind_to B g p n 0 _ hp hb hk).mono ?_
  rintro e w1 ⟨rfl, rfl⟩
  go_wp2_with fail
  refine (rkind_to B g p n 0 _ hp hb hk).mono ?_
  rintro e w1 ⟨rfl, rfl⟩
  go_wp2
  go_ret2
  exact ⟨rfl, rfl⟩
theorem rread_junk (B g : Nat) (p : PS) (n : Int) (w : World) (hp : p.Ok) (hb : RfAt w B g p) (h0 : ¬ (n < 0 ∨ 4096 ≤ n)) (hk : kindP p n = 2) :
    Calls Try.prog 40 #[.pointer (some ⟨g, 0, none⟩), .int .i64 n] w fun e w' => e = .returned (.tuple #[.string ⟨#[]⟩, .int .i64 46]) ∧ w = w' := by
  have hd : decide (0 ≤ n ∧ n < 4096) = true := by simp; omega
  go_enter Try.func40, Try.ntmps40
  go_wp2_with fail
  refine (rthere_any n _).mono ?_
  rintro e w1 ⟨rfl, rfl⟩
  rw [hd]
  go_wp2_with fail
  refine (rkind_to B g p n 2 _ hp hb hk).mono ?_
  rintro e w1 ⟨rfl, rfl⟩
  go_wp2_with fail
  refine (rkind_to B g p n 2 _ hp hb hk).mono ?_
  rintro e w1 ⟨rfl, rfl⟩
  go_wp2_with fail
  refine (rkind_to B g p n 2 _ hp hb hk).mono ?_
  rintro e w1 ⟨rfl, rfl⟩
  go_wp2
  go_ret2
  exact ⟨rfl, rfl⟩
set_option maxHeartbeats 400000 in
theorem rread_ok (B g : Nat) (p : PS) (n : Int) (w : World) (hp : p.Ok) (hb : RfAt w B g p) (h0 : ¬ (n < 0 ∨ 4096 ≤ n)) (hk : kindP p n = 1) (i : Nat) (x : Pg) (hx : p.l[i]? = some x) (hi : ix n p.l = i) :
    Calls Try.prog 40 #[.pointer (some ⟨g, 0, none⟩), .int .i64 n] w fun e w' => e = .returned (.tuple #[.string x.s, .int .i64 0]) ∧ ∃ m, w' = w.drewN m := by
  have hd : decide (0 ≤ n ∧ n < 4096) = true := by simp; omega
  have hil : i < p.l.length := (List.getElem?_eq_some_iff.1 hx).1
  have HB := hide hb
  obtain ⟨v, hg, hBg, hown⟩ := hb
  obtain ⟨c0, c1, c2, z0, z1, z2⟩ := blk3 hg
  obtain ⟨g', cap', rfl, _, hgs, _, _⟩ := hown.form (by omega)
  obtain ⟨-, -, q2⟩ := pgs_get p.l i x hx
  have r2 : w.cell? ⟨g', i * 3 + 2, none⟩ = some (.string x.s) := by simpa [Addr.add_lit] using hown.cells (g := g') rfl _ _ q2
  have HI := hide hi
  have HK := hide hk
  have HP := hide hp
  clear hown q2 hg hx hi hk hp
  have hlen : p.l.length ≤ 4096 := by have := HP.out.len; have := HP.out.r1; omega
  go_enter Try.func40, Try.ntmps40
  go_wp2_with fail
  refine (rthere_any n _).mono ?_
  rintro e w1 ⟨rfl, rfl⟩
  rw [hd]
  go_wp2_with fail
  refine (rkind_to B g p n 1 _ HP.out HB.out HK.out).mono ?_
  rintro e w1 ⟨rfl, rfl⟩
  go_wp2_with fail
  refine (rkind_to B g p n 1 _ HP.out HB.out HK.out).mono ?_
  rintro e w1 ⟨rfl, rfl⟩
  go_wp2_with fail
  refine (rkind_to B g p n 1 _ HP.out HB.out HK.out).mono ?_
  rintro e w1 ⟨rfl, rfl⟩
  go_wp2
  go_quiet ((go_at_call 50; exact Calls.quiet_of_same ((rfind_to B g p n i _ HP.out (HB.out.drewN _) HI.out).mono fun _ _ h => ⟨h.1, h.2.symm⟩)))
  go_wp2
  go_ret2
  exact ⟨rfl, _, rfl⟩
theorem kind_read {p : PS} (hp : p.Ok) {n : Int} (h0 : ¬ (n < 0 ∨ 4096 ≤ n)) : (kindP p n = 3 ∧ readP p n = (⟨#[]⟩, 43)) ∨ (kindP p n = 0 ∧ readP p n = (⟨#[]⟩, 42)) ∨ (kindP p n = 2 ∧ readP p n = (⟨#[]⟩, 46)) ∨ (kindP p n = 1 ∧ ∃ (i : Nat) (x : Pg), p.l[i]? = some x ∧ ix n p.l = i ∧ readP p n = (x.s, 0)) := by
  unfold kindP readP
  rw [if_neg h0, if_neg h0]
  by_cases he : n < p.edge
  · rw [if_pos he, if_pos he]; exact .inl ⟨rfl, rfl⟩
  rw [if_neg he, if_neg he]
  rcases ix_find n p.l with ⟨h1, h2⟩ | ⟨i, x, h1, h2, h3⟩
  · rw [h1]; exact .inr (.inl ⟨rfl, rfl⟩)
  · rw [h2]
    simp only
    rcases hp.kd x (findP_some h2).1 with hk | hk
    · exact .inr (.inr (.inr ⟨hk, i, x, h1, h3, by rw [if_neg (by rw [hk]; decide)]⟩))
    · exact .inr (.inr (.inl ⟨hk, by rw [if_pos hk]⟩))
theorem rread_any (B g : Nat) (p : PS) (n : Int) (w : World) (hp : p.Ok) (hb : RfAt w B g p) :
    Calls Try.prog 40 #[.pointer (some ⟨g, 0, none⟩), .int .i64 n] w fun e w' => e = .returned (.tuple #[.string (readP p n).1, .int .i64 (readP p n).2]) ∧ ∃ m, w' = w.drewN m := by
  by_cases h0 : n < 0 ∨ 4096 ≤ n
  · have : readP p n = (⟨#[]⟩, 1) := by unfold readP; rw [if_pos h0]
    rw [this]
    exact (rread_bad B g p n w h0).mono fun e w' h => ⟨h.1, 0, h.2 ▸ rfl⟩
  · rcases kind_read hp h0 with ⟨h1, h2⟩ | ⟨h1, h2⟩ | ⟨h1, h2⟩ | ⟨h1, i, x, h3, h4, h2⟩
    · rw [h2]; exact (rread_trim B g p n w hp hb h0 h1).mono fun e w' h => ⟨h.1, 0, h.2 ▸ rfl⟩
    · rw [h2]; exact (rread_none B g p n w hp hb h0 h1).mono fun e w' h => ⟨h.1, 0, h.2 ▸ rfl⟩
    · rw [h2]; exact (rread_junk B g p n w hp hb h0 h1).mono fun e w' h => ⟨h.1, 0, h.2 ▸ rfl⟩
    · rw [h2]; exact rread_ok B g p n w hp hb h0 h1 i x h3 h4

def tailK (p : PS) (k : Nat) : Int := (p.l.take k).foldl (fun t x => max t (x.n + 1)) p.edge
theorem tailK_step (p : PS) (k : Nat) (x : Pg) (h : p.l[k]? = some x) : tailK p (k + 1) = max (tailK p k) (x.n + 1) := by
  unfold tailK
  rw [List.take_add_one, h]
  simp
set_option maxHeartbeats 400000 in
theorem rtail_any (B g : Nat) (p : PS) (w : World) (hp : p.Ok) (hb : RfAt w B g p) :
    Calls Try.prog 26 #[.pointer (some ⟨g, 0, none⟩)] w fun e w' => e = .returned (.int .i64 (tailP p)) ∧ w = w' := by
  obtain ⟨v, hg, hBg, hown⟩ := hb
  have hlen : p.l.length ≤ 4096 := by have := hp.len; have := hp.r1; omega
  obtain ⟨A, cap, rfl, _, _⟩ := hown.shape
  obtain ⟨c0, c1, c2, z0, z1, z2⟩ := blk3 hg
  clear hg z0 z1 z2
  have HP := hide hp
  clear hp
  go_enter Try.func26, Try.ntmps26
  go_wp2
  go_loop [3, 4] (fun t i => ∃ k : Nat, k ≤ p.l.length ∧ i = .int .i64 k ∧ t = .int .i64 (tailK p k)) (fun _ i => p.l.length - (intOf i).toNat)
  case atStart => exact ⟨0, Nat.zero_le _, rfl, rfl⟩
  case round =>
    obtain ⟨k, hk, rfl, rfl⟩ := hrel
    by_cases hlt : k < p.l.length
    · obtain ⟨g', cap', hv, _, hgs, _, _⟩ := hown.form (by omega)
      simp only [Value.slice.injEq, true_and] at hv
      obtain ⟨rfl, rfl⟩ := hv
      have hx : p.l[k]? = some p.l[k] := List.getElem?_eq_getElem hlt
      have hm := List.getElem_mem hlt
      generalize p.l[k] = x at hx hm
      obtain ⟨q0, -, -⟩ := pgs_get p.l k x hx
      have HS := hide (tailK_step p k x hx)
      have r0 : w.cell? ⟨g', k * 3, none⟩ = some (.int .i64 x.n) := by simpa [Addr.add_lit] using hown.cells (g := g') rfl _ _ q0
      have b0 : 0 ≤ x.n := by have := (HP.out.at0 x hm).1; have := HP.out.e0; omega
      have b1 : x.n < 4096 := (HP.out.at0 x hm).2
      clear q0 hx hown hm
      go_wp2
      go_round
      case rel => exact ⟨k + 1, by omega, by go_num, by rw [HS.out]⟩
      case measure => simp [intOf]; omega
    · have HK : Hid (k = p.l.length) := hide (by omega)
      go_wp2
      go_ret
      exact ⟨by rw [show tailP p = tailK p k from by rw [HK.out]; unfold tailP tailK; rw [List.take_length]]; rfl, rfl⟩
end Go.Proofs.Ytjpegkginmoekaa

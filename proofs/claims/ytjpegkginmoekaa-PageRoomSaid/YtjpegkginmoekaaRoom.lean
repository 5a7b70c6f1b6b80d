/- The law PageRoom: its plain law and its walk. -/
import Derived.Test.YtjpegkginmoekaaPgD
namespace Go.Proofs.Ytjpegkginmoekaa
open Go.RowKit
set_option linter.unusedVariables false

theorem kindP_of {p : PS} {n c : Int} (h0 : 0 ≤ n) (h1 : n < 4096) (he : p.edge ≤ n) (hm : ∃ x ∈ p.l, x.n = n) (hc : ∀ x ∈ p.l, x.n = n → x.k = c) : kindP p n = c := by
  unfold kindP
  rw [if_neg (by omega), if_neg (by omega)]
  rcases hf : findP n p.l with _ | x
  · obtain ⟨x, hx, e⟩ := hm
    exact absurd e (findP_none hf x hx)
  · obtain ⟨hx, e⟩ := findP_some hf
    exact hc x hx e
theorem kindP_no {p : PS} {n : Int} (h0 : 0 ≤ n) (h1 : n < 4096) (he : p.edge ≤ n) (hm : ∀ x ∈ p.l, x.n ≠ n) : kindP p n = 0 := by
  unfold kindP
  rw [if_neg (by omega), if_neg (by omega)]
  rcases hf : findP n p.l with _ | x
  · rfl
  · obtain ⟨hx, e⟩ := findP_some hf
    exact absurd e (hm x hx)

/-- k pages of n are written -/
def rl (k : Nat) : List Pg := (List.range k).map fun i : Nat => ⟨(i : Int), 1, ⟨#[97]⟩⟩
def rp (n k : Nat) : PS := ⟨n, 0, rl k⟩
theorem rl_mem {k : Nat} {x : Pg} (h : x ∈ rl k) : ∃ i, i < k ∧ x = ⟨(i : Int), 1, ⟨#[97]⟩⟩ := by
  obtain ⟨i, hi, rfl⟩ := List.mem_map.1 h
  exact ⟨i, by simpa using hi, rfl⟩
theorem rl_length (k : Nat) : (rl k).length = k := by simp [rl]
theorem rl_succ (k : Nat) : rl (k + 1) = rl k ++ [⟨(k : Int), 1, ⟨#[97]⟩⟩] := by simp [rl, List.range_succ]
theorem rp_ok (n k : Nat) (h0 : 1 ≤ n) (h1 : n ≤ 256) (hk : k ≤ n) : (rp n k).Ok where
  r0 := by show (1 : Int) ≤ n; omega
  r1 := by show (n : Int) ≤ 4096; omega
  e0 := Int.le_refl 0
  e1 := by show (0 : Int) ≤ 4096; omega
  len := by show ((rl k).length : Int) ≤ n; rw [rl_length]; omega
  at0 := by intro x hx; obtain ⟨i, hi, rfl⟩ := rl_mem hx; exact ⟨by show (0 : Int) ≤ i; omega, by show (i : Int) < 4096; omega⟩
  kd := by intro x hx; obtain ⟨i, hi, rfl⟩ := rl_mem hx; exact .inl rfl
theorem rp_write (n k : Nat) (h1 : n ≤ 256) (hk : k < n) : writeErr (rp n k) k ⟨#[97]⟩ = 0 ∧ writeP (rp n k) k ⟨#[97]⟩ = rp n (k + 1) := by
  have hs : (⟨#[97]⟩ : ByteArray).size = 1 := rfl
  have h0 : kindP (rp n k) k = 0 := kindP_no (by omega) (by omega) (by show (0 : Int) ≤ k; omega) (by intro x hx; obtain ⟨i, hi, rfl⟩ := rl_mem hx; show (i : Int) ≠ k; omega)
  have hl : ¬ (rp n k).room ≤ ((rp n k).l.length : Int) := by show ¬ (n : Int) ≤ ((rl k).length : Int); rw [rl_length]; omega
  have hw : writeErr (rp n k) k ⟨#[97]⟩ = 0 := by
    unfold writeErr
    rw [if_neg (by omega), hs, if_neg (by omega), if_neg (by show ¬ (k : Int) < 0; omega), h0, if_neg (by omega), if_neg hl]
  refine ⟨hw, ?_⟩
  unfold writeP
  rw [hw, if_pos rfl]
  unfold rp
  rw [rl_succ]
theorem rp_fill (n k : Nat) (h1 : n ≤ 256) (hk : k < n) : fillErr (rp n (k + 1)) k = 41 ∧ fillP (rp n (k + 1)) k = rp n (k + 1) := by
  have h0 : kindP (rp n (k + 1)) k = 1 := kindP_of (by omega) (by omega) (by show (0 : Int) ≤ k; omega) ⟨⟨(k : Int), 1, ⟨#[97]⟩⟩, List.mem_map.2 ⟨k, by simp, rfl⟩, rfl⟩ (by intro x hx _; obtain ⟨i, hi, rfl⟩ := rl_mem hx; rfl)
  constructor
  · unfold fillErr
    rw [if_neg (by omega), h0, if_neg (by decide), if_neg (by decide), if_pos rfl]
  · unfold fillP
    rw [h0, if_neg (by simp)]
theorem rp_full (n : Nat) (h0 : 1 ≤ n) (h1 : n ≤ 256) : writeErr (rp n n) n ⟨#[98]⟩ = 44 ∧ writeP (rp n n) n ⟨#[98]⟩ = rp n n ∧ fillErr (rp n n) n = 44 ∧ fillP (rp n n) n = rp n n := by
  have hs : (⟨#[98]⟩ : ByteArray).size = 1 := rfl
  have hk : kindP (rp n n) n = 0 := kindP_no (by omega) (by omega) (by show (0 : Int) ≤ n; omega) (by intro x hx; obtain ⟨i, hi, rfl⟩ := rl_mem hx; show (i : Int) ≠ n; omega)
  have hl : (rp n n).room ≤ ((rp n n).l.length : Int) := by show (n : Int) ≤ ((rl n).length : Int); rw [rl_length]; omega
  have hw : writeErr (rp n n) n ⟨#[98]⟩ = 44 := by
    unfold writeErr
    rw [if_neg (by omega), hs, if_neg (by omega), if_neg (by show ¬ (n : Int) < 0; omega), hk, if_neg (by omega), if_pos hl]
  have hf : fillErr (rp n n) n = 44 := by
    unfold fillErr
    rw [if_neg (by omega), hk, if_neg (by decide), if_neg (by decide), if_neg (by decide), if_pos hl]
  exact ⟨hw, by unfold writeP; rw [hw, if_neg (by decide)], hf, by unfold fillP; rw [hf, if_neg (by simp)]⟩

/-- behind Trim(1), and behind the Fill that follows -/
def rq (n : Nat) : PS := ⟨n, 1, (rl n).filter fun x => decide (1 ≤ x.n)⟩
def rr (n : Nat) : PS := ⟨n, 1, (rq n).l ++ [⟨(n : Int), 2, ⟨#[]⟩⟩]⟩
theorem rq_eq (n : Nat) : trimP (rp n n) 1 = rq n := by
  unfold trimP
  rw [if_neg (by omega), if_neg (by show ¬ (1 : Int) ≤ 0; omega)]
  rfl
theorem rq_mem {n : Nat} {x : Pg} (h : x ∈ (rq n).l) : ∃ i, 1 ≤ i ∧ i < n ∧ x = ⟨(i : Int), 1, ⟨#[97]⟩⟩ := by
  obtain ⟨h1, h2⟩ := List.mem_filter.1 h
  obtain ⟨i, hi, rfl⟩ := rl_mem h1
  have h3 : (1 : Int) ≤ (i : Int) := by simpa using h2
  exact ⟨i, by omega, hi, rfl⟩
theorem rq_length (n : Nat) (h0 : 1 ≤ n) : (rq n).l.length + 1 = n := by
  show ((rl n).filter _).length + 1 = n
  induction n with
  | zero => omega
  | succ n ih =>
    rw [rl_succ, List.filter_append, List.length_append]
    by_cases hn : n = 0
    · subst hn
      simp [rl]
    · have := ih (by omega)
      rw [List.filter_cons_of_pos (by simp; omega)]
      simp
      omega
theorem rq_fill (n : Nat) (h0 : 1 ≤ n) (h1 : n ≤ 256) : fillErr (rq n) n = 0 ∧ fillP (rq n) n = rr n := by
  have hk : kindP (rq n) n = 0 := kindP_no (by omega) (by omega) (by show (1 : Int) ≤ n; omega) (by intro x hx; obtain ⟨i, _, hi, rfl⟩ := rq_mem hx; show (i : Int) ≠ n; omega)
  have hl : ¬ (rq n).room ≤ ((rq n).l.length : Int) := by show ¬ (n : Int) ≤ ((rq n).l.length : Int); have := rq_length n h0; omega
  have hf : fillErr (rq n) n = 0 := by
    unfold fillErr
    rw [if_neg (by omega), hk, if_neg (by decide), if_neg (by decide), if_neg (by decide), if_neg hl]
  exact ⟨hf, by unfold fillP; rw [if_pos ⟨hf, hk⟩]; rfl⟩
theorem rr_mem {n : Nat} {x : Pg} (h : x ∈ (rr n).l) : (∃ i, 1 ≤ i ∧ i < n ∧ x = ⟨(i : Int), 1, ⟨#[97]⟩⟩) ∨ x = ⟨(n : Int), 2, ⟨#[]⟩⟩ := by
  rcases List.mem_append.1 h with h | h
  · exact .inl (rq_mem h)
  · exact .inr (List.mem_singleton.1 h)
theorem rr_last (n : Nat) : (⟨(n : Int), 2, ⟨#[]⟩⟩ : Pg) ∈ (rr n).l := List.mem_append.2 (.inr (List.mem_singleton.2 rfl))
theorem rr_length (n : Nat) (h0 : 1 ≤ n) : (rr n).l.length = n := by
  show ((rq n).l ++ _).length = n
  rw [List.length_append]
  exact rq_length n h0
theorem rr_all (n : Nat) (h0 : 1 ≤ n) (h1 : n ≤ 256) : fillErr (rr n) n = 0 ∧ fillP (rr n) n = rr n ∧ writeErr (rr n) (n + 1) ⟨#[98]⟩ = 44 ∧ writeP (rr n) (n + 1) ⟨#[98]⟩ = rr n ∧ tailP (rr n) = n + 1 := by
  have hs : (⟨#[98]⟩ : ByteArray).size = 1 := rfl
  have hk : kindP (rr n) n = 2 := kindP_of (by omega) (by omega) (by show (1 : Int) ≤ n; omega) ⟨_, rr_last n, rfl⟩ (by
    intro x hx e
    rcases rr_mem hx with ⟨i, _, hi, rfl⟩ | rfl
    · have : (i : Int) = n := e
      omega
    · rfl)
  have hk1 : kindP (rr n) (n + 1) = 0 := kindP_no (by omega) (by omega) (by show (1 : Int) ≤ n + 1; omega) (by
    intro x hx
    rcases rr_mem hx with ⟨i, _, hi, rfl⟩ | rfl
    · show (i : Int) ≠ n + 1; omega
    · show (n : Int) ≠ n + 1; omega)
  have hl : (rr n).room ≤ ((rr n).l.length : Int) := by show (n : Int) ≤ ((rr n).l.length : Int); rw [rr_length n h0]; omega
  have hf : fillErr (rr n) n = 0 := by
    unfold fillErr
    rw [if_neg (by omega), hk, if_neg (by decide), if_pos rfl]
  have hw : writeErr (rr n) (n + 1) ⟨#[98]⟩ = 44 := by
    unfold writeErr
    rw [if_neg (by omega), hs, if_neg (by omega), if_neg (by show ¬ (n : Int) + 1 < 1; omega), hk1, if_neg (by omega), if_pos hl]
  refine ⟨hf, by unfold fillP; rw [hk, if_neg (by simp)], hw, by unfold writeP; rw [hw, if_neg (by decide)], ?_⟩
  refine (tail_eq (p := rr n) (t := n + 1) (by show (1 : Int) ≤ n + 1; omega) ?_ (.inr ⟨_, rr_last n, rfl⟩)).symm
  intro x hx
  rcases rr_mem hx with ⟨i, _, hi, rfl⟩ | rfl
  · show (i : Int) + 1 ≤ n + 1; omega
  · exact Int.le_refl _

set_option maxRecDepth 100000 in
set_option maxHeartbeats 1600000 in
theorem room_any (a : Int) (fl : Bool) (h0 : 0 ≤ a) (h1 : a ≤ 255) (w : World) : Calls Try.prog 6 #[.int .u8 a, .bool fl] w fun e w' => e = .returned (.bool true) ∧ Below w.heap.size w w' := by
  obtain ⟨n, hn0, hn1, hn⟩ : ∃ n : Nat, 1 ≤ n ∧ n ≤ 256 ∧ a = (n : Int) - 1 := ⟨(a + 1).toNat, by omega, by omega, by omega⟩
  subst hn
  have hz : (1 : Int) + ((n : Int) - 1) = n := by omega
  go_enter Try.func6, Try.ntmps6
  go_wp2_with fail
  refine (new_yes n _ (by omega) (by omega)).mono ?_
  rintro e w1 ⟨rfl, hb1, hf1, _⟩
  have HB1 := hide (show PgAt w1 w.heap.size (w.heap.size + 1) (rp n 0) from hb1)
  have HF1 := hide (Fr.of_below hf1 (ts := [82]) (B := w.heap.size))
  clear hb1 hf1 hz
  go_wp2_with fail
  go_loopw [8] (fun i wr => ∃ k : Nat, k ≤ n ∧ i = .int .i64 k ∧ PgAt wr w.heap.size (w.heap.size + 1) (rp n k) ∧ Hid (Fr [82] w.heap.size w wr)) (fun i _ => n - (intOf i).toNat)
  case atStart => exact ⟨0, Nat.zero_le _, rfl, HB1.out, HF1⟩
  case round =>
    obtain ⟨k, hk, rfl, hb, hf⟩ := hrel
    by_cases hlt : k < n
    · have HW := hide (rp_write n k hn1 hlt)
      have HL := hide (rp_fill n k hn1 hlt)
      by_cases hod : fl = true ∧ (k : Int) % 2 = 1
      · obtain ⟨hfl, ho⟩ := hod
        subst hfl
        have hob : ((k : Int) % 2 == 1) = true := by simp [ho]
        clear ho
        go_wp2_with fail
        refine (write_to w.heap.size (w.heap.size + 1) (rp n k) (rp n (k + 1)) (rp_ok n k hn0 hn1 hk) k 0 ⟨#[97]⟩ _ hb HW.out.1 HW.out.2).mono ?_
        rintro e w2 ⟨rfl, hb2, hf2⟩
        have HF2 := hide (hf.out.trans hf2)
        clear hf2 hb
        go_wp2_with fail
        refine (fill_to w.heap.size (w.heap.size + 1) (rp n (k + 1)) (rp n (k + 1)) (rp_ok n (k + 1) hn0 hn1 hlt) k 41 _ hb2 HL.out.1 HL.out.2).mono ?_
        rintro e w3 ⟨rfl, hb3, hf3⟩
        have HF3 := hide (HF2.out.trans hf3)
        clear hf3 hb2
        go_wp2
        go_roundw
        case rel => exact ⟨k + 1, by omega, by go_num, hb3, HF3⟩
        case measure => simp [intOf]; omega
      · have hob : (fl && ((k : Int) % 2 == 1)) = false := by
          cases fl with
          | false => rfl
          | true => simpa using hod
        clear hod
        cases fl with
        | false =>
          go_wp2_with fail
          refine (write_to w.heap.size (w.heap.size + 1) (rp n k) (rp n (k + 1)) (rp_ok n k hn0 hn1 hk) k 0 ⟨#[97]⟩ _ hb HW.out.1 HW.out.2).mono ?_
          rintro e w2 ⟨rfl, hb2, hf2⟩
          have HF2 := hide (hf.out.trans hf2)
          clear hf2 hb
          go_wp2
          go_roundw
          case rel => exact ⟨k + 1, by omega, by go_num, hb2, HF2⟩
          case measure => simp [intOf]; omega
        | true =>
          have hob1 : ((k : Int) % 2 == 1) = false := by simpa using hob
          clear hob
          go_wp2_with fail
          refine (write_to w.heap.size (w.heap.size + 1) (rp n k) (rp n (k + 1)) (rp_ok n k hn0 hn1 hk) k 0 ⟨#[97]⟩ _ hb HW.out.1 HW.out.2).mono ?_
          rintro e w2 ⟨rfl, hb2, hf2⟩
          have HF2 := hide (hf.out.trans hf2)
          clear hf2 hb
          go_wp2
          go_roundw
          case rel => exact ⟨k + 1, by omega, by go_num, hb2, HF2⟩
          case measure => simp [intOf]; omega
    · obtain rfl : k = n := by omega
      have HU := hide (rp_full k hn0 hn1)
      have HQ := hide (rq_fill k hn0 hn1)
      have HR := hide (rr_all k hn0 hn1)
      have okp := hide (rp_ok k k hn0 hn1 (Nat.le_refl _))
      have okq : Hid (rq k).Ok := hide (rq_eq k ▸ trimP_ok okp.out 1)
      have okr : Hid (rr k).Ok := hide (HQ.out.2 ▸ fillP_ok okq.out k)
      clear hk hlt
      go_wp2_with fail
      refine (write_to w.heap.size (w.heap.size + 1) (rp k k) (rp k k) okp.out k 44 ⟨#[98]⟩ _ hb HU.out.1 HU.out.2.1).mono ?_
      rintro e w2 ⟨rfl, hb2, hf2⟩
      go_wp2_with fail
      refine (fill_to w.heap.size (w.heap.size + 1) (rp k k) (rp k k) okp.out k 44 _ hb2 HU.out.2.2.1 HU.out.2.2.2).mono ?_
      rintro e w3 ⟨rfl, hb3, hf3⟩
      go_wp2_with fail
      refine (trim_to w.heap.size (w.heap.size + 1) (rp k k) (rq k) okp.out 1 0 _ hb3 rfl (rq_eq k)).mono ?_
      rintro e w4 ⟨rfl, hb4, hf4⟩
      have HF4 := hide (((hf.out.trans hf2).trans hf3).trans hf4)
      clear hf2 hf3 hf4 hb hb2 hb3
      go_wp2_with fail
      refine (fill_to w.heap.size (w.heap.size + 1) (rq k) (rr k) okq.out k 0 _ hb4 HQ.out.1 HQ.out.2).mono ?_
      rintro e w5 ⟨rfl, hb5, hf5⟩
      go_wp2_with fail
      refine (fill_to w.heap.size (w.heap.size + 1) (rr k) (rr k) okr.out k 0 _ hb5 HR.out.1 HR.out.2.1).mono ?_
      rintro e w6 ⟨rfl, hb6, hf6⟩
      go_wp2_with fail
      refine (write_to w.heap.size (w.heap.size + 1) (rr k) (rr k) okr.out (k + 1) 44 ⟨#[98]⟩ _ hb6 HR.out.2.2.1 HR.out.2.2.2.1).mono ?_
      rintro e w7 ⟨rfl, hb7, hf7⟩
      have HF7 := hide (((HF4.out.trans hf5).trans hf6).trans hf7)
      clear hf5 hf6 hf7 hb4 hb5 hb6
      go_wp2_with fail
      refine (used_any w.heap.size (w.heap.size + 1) (rr k) _ hb7).mono ?_
      rintro e w8 ⟨rfl, rfl⟩
      rw [rr_length k hn0]
      go_wp2_with fail
      refine (tail_to w.heap.size (w.heap.size + 1) (rr k) okr.out (k + 1) _ hb7 HR.out.2.2.2.2).mono ?_
      rintro e w8 ⟨rfl, hb8⟩
      have HF8 := hide (HF7.out.trans (Fr.of_below hb8))
      clear hb8 hb7
      go_wp2_with fail
      refine (wakes_any _).mono ?_
      rintro e w9 ⟨rfl, hb9⟩
      go_wp2
      go_ret
      exact ⟨rfl, (HF8.out.trans (Fr.of_below hb9)).below (Nat.le_refl _)⟩
end Go.Proofs.Ytjpegkginmoekaa

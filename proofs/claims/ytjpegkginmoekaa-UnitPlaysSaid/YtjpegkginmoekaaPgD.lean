/- Pages: they stay well formed; contracts at named answers; pages that nobody made; wakes. -/
import Derived.Test.YtjpegkginmoekaaPgC
namespace Go.Proofs.Ytjpegkginmoekaa
open Go.RowKit
set_option linter.unusedVariables false

theorem add_ok {p : PS} (hp : p.Ok) {x : Pg} (hl : (p.l.length : Int) < p.room) (h0 : p.edge ≤ x.n) (h1 : x.n < 4096) (hk : x.k = 1 ∨ x.k = 2) : (PS.mk p.room p.edge (p.l ++ [x])).Ok where
  r0 := hp.r0
  r1 := hp.r1
  e0 := hp.e0
  e1 := hp.e1
  len := by show ((p.l ++ [x]).length : Int) ≤ p.room; rw [List.length_append, List.length_singleton]; omega
  at0 := by
    intro y hy
    rcases List.mem_append.1 hy with hy | hy
    · exact hp.at0 y hy
    · rw [List.mem_singleton.1 hy]; exact ⟨h0, h1⟩
  kd := by
    intro y hy
    rcases List.mem_append.1 hy with hy | hy
    · exact hp.kd y hy
    · rw [List.mem_singleton.1 hy]; exact hk
theorem writeP_ok {p : PS} (hp : p.Ok) (n : Int) (s : ByteArray) : (writeP p n s).Ok := by
  unfold writeP
  split
  · rename_i h
    unfold writeErr at h
    split at h
    · omega
    · split at h
      · omega
      · split at h
        · omega
        · split at h
          · omega
          · split at h
            · omega
            · exact add_ok hp (x := ⟨n, 1, s⟩) (by omega) (by show p.edge ≤ n; omega) (by show n < 4096; omega) (.inl rfl)
  · exact hp
theorem fillP_ok {p : PS} (hp : p.Ok) (n : Int) : (fillP p n).Ok := by
  unfold fillP
  split
  · rename_i h
    obtain ⟨h, hk⟩ := h
    unfold fillErr at h
    split at h
    · omega
    · rename_i h0
      rw [hk, if_neg (by decide), if_neg (by decide), if_neg (by decide)] at h
      split at h
      · omega
      · rcases kindP_cases hp h0 with ⟨h3, _⟩ | ⟨he, _⟩
        · omega
        · exact add_ok hp (x := ⟨n, 2, ⟨#[]⟩⟩) (by omega) (by show p.edge ≤ n; omega) (by show n < 4096; omega) (.inr rfl)
  · exact hp
theorem trimP_ok {p : PS} (hp : p.Ok) (b : Int) : (trimP p b).Ok := by
  unfold trimP
  split
  · exact hp
  · split
    · exact hp
    · rename_i h1 h2
      have e0 := hp.e0
      refine ⟨hp.r0, hp.r1, by show 0 ≤ b; omega, by show b ≤ 4096; omega, ?_, ?_, ?_⟩
      · have := List.length_filter_le (fun x : Pg => decide (b ≤ x.n)) p.l
        have := hp.len
        show ((p.l.filter fun x => decide (b ≤ x.n)).length : Int) ≤ p.room
        omega
      · intro x hx
        obtain ⟨a, c⟩ := List.mem_filter.1 hx
        exact ⟨by simpa using c, (hp.at0 x a).2⟩
      · intro x hx
        exact hp.kd x (List.mem_filter.1 hx).1

section
variable (B g : Nat) (p p' : PS) (hp : p.Ok) (n e : Int) (s : ByteArray) (w : World) (hb : PgAt w B g p)
include hp hb
theorem write_to (he : writeErr p n s = e) (hq : writeP p n s = p') : Calls Try.prog 31 #[.pointer (some ⟨g, 0, none⟩), .int .i64 n, .string s] w fun en w' => en = .returned (.int .i64 e) ∧ PgAt w' B g p' ∧ Fr [82] B w w' := by
  subst he hq
  exact write_any B g p hp n s w hb
theorem fill_to (he : fillErr p n = e) (hq : fillP p n = p') : Calls Try.prog 33 #[.pointer (some ⟨g, 0, none⟩), .int .i64 n] w fun en w' => en = .returned (.int .i64 e) ∧ PgAt w' B g p' ∧ Fr [82] B w w' := by
  subst he hq
  exact fill_any B g p hp n w hb
theorem trim_to (he : trimErr n = e) (hq : trimP p n = p') : Calls Try.prog 34 #[.pointer (some ⟨g, 0, none⟩), .int .i64 n] w fun en w' => en = .returned (.int .i64 e) ∧ PgAt w' B g p' ∧ Fr [82] B w w' := by
  subst he hq
  exact trim_any B g p hp n w hb
theorem read_to (he : readP p n = (s, e)) : Calls Try.prog 35 #[.pointer (some ⟨g, 0, none⟩), .int .i64 n] w fun en w' => en = .returned (.tuple #[.string s, .int .i64 e]) ∧ w = w' := by
  have := read_any B g p hp n w hb
  rwa [he] at this
theorem kind_to (he : kindP p n = e) : Calls Try.prog 41 #[.pointer (some ⟨g, 0, none⟩), .int .i64 n] w fun en w' => en = .returned (.int .i64 e) ∧ w = w' := by
  have := kind_any B g p hp n w hb
  rwa [he] at this
theorem tail_to (he : tailP p = e) : Calls Try.prog 25 #[.pointer (some ⟨g, 0, none⟩)] w fun en w' => en = .returned (.int .i64 e) ∧ Below w.heap.size w w' := by
  have := tail_any B g p hp w hb
  rwa [he] at this
end

theorem write_nil (n : Int) (s : ByteArray) (w : World) : Calls Try.prog 31 #[.pointer none, .int .i64 n, .string s] w fun e w' => e = .returned (.int .i64 1) ∧ w = w' := by
  go_enter Try.func31, Try.ntmps31
  go_wp2_with fail
  refine (there_nil n _).mono ?_
  rintro e w1 ⟨rfl, rfl⟩
  go_wp2
  go_ret
  exact ⟨rfl, rfl⟩
theorem fill_nil (n : Int) (w : World) : Calls Try.prog 33 #[.pointer none, .int .i64 n] w fun e w' => e = .returned (.int .i64 1) ∧ w = w' := by
  go_enter Try.func33, Try.ntmps33
  go_wp2_with fail
  refine (there_nil n _).mono ?_
  rintro e w1 ⟨rfl, rfl⟩
  go_wp2
  go_ret
  exact ⟨rfl, rfl⟩
theorem read_nil (n : Int) (w : World) : Calls Try.prog 35 #[.pointer none, .int .i64 n] w fun e w' => e = .returned (.tuple #[.string ⟨#[]⟩, .int .i64 1]) ∧ w = w' := by
  go_enter Try.func35, Try.ntmps35
  go_wp2_with fail
  refine (there_nil n _).mono ?_
  rintro e w1 ⟨rfl, rfl⟩
  go_wp2
  go_ret2
  exact ⟨rfl, rfl⟩
theorem tail_nil (w : World) : Calls Try.prog 25 #[.pointer none] w fun e w' => e = .returned (.int .i64 0) ∧ w = w' := by
  go_enter Try.func25, Try.ntmps25
  go_wp2
  go_ret
  exact ⟨rfl, rfl⟩
theorem used_nil (w : World) : Calls Try.prog 23 #[.pointer none] w fun e w' => e = .returned (.int .i64 0) ∧ w = w' := by
  go_enter Try.func23, Try.ntmps23
  go_wp2
  go_ret
  exact ⟨rfl, rfl⟩
theorem edge_nil (w : World) : Calls Try.prog 27 #[.pointer none] w fun e w' => e = .returned (.int .i64 0) ∧ w = w' := by
  go_enter Try.func27, Try.ntmps27
  go_wp2
  go_ret
  exact ⟨rfl, rfl⟩

def sa : ByteArray := ⟨#[97]⟩
def sb : ByteArray := ⟨#[98]⟩
def wk1 : PS := ⟨9, 0, [⟨0, 1, ⟨#[97]⟩⟩]⟩
def wk2 : PS := ⟨9, 0, [⟨0, 1, ⟨#[97]⟩⟩, ⟨2, 2, ⟨#[]⟩⟩]⟩
def wk3 : PS := ⟨9, 1, [⟨2, 2, ⟨#[]⟩⟩]⟩
theorem wk1_eq : writeP (newP 9) 0 ⟨#[97]⟩ = wk1 := rfl
theorem wk2_eq : fillP wk1 2 = wk2 := rfl
theorem wk3_eq : trimP wk2 1 = wk3 := rfl
theorem wk1_ok : wk1.Ok := wk1_eq ▸ writeP_ok (newP_ok 9 (by decide) (by decide)) _ _
theorem wk2_ok : wk2.Ok := wk2_eq ▸ fillP_ok wk1_ok _
theorem wk3_ok : wk3.Ok := wk3_eq ▸ trimP_ok wk2_ok _

set_option maxHeartbeats 800000 in
theorem wakes_any (w : World) : Calls Try.prog 32 #[] w fun e w' => e = .returned (.bool true) ∧ Below w.heap.size w w' := by
  go_enter Try.func32, Try.ntmps32
  go_wp2_with fail
  refine (new_yes 9 _ (by decide) (by decide)).mono ?_
  rintro e w1 ⟨rfl, hb1, hf1, _⟩
  go_wp2_with fail
  refine (write_to w.heap.size (w.heap.size + 1) (newP 9) wk1 (newP_ok 9 (by decide) (by decide)) 0 0 ⟨#[97]⟩ _ hb1 (by decide) wk1_eq).mono ?_
  rintro e w2 ⟨rfl, hb2, hf2⟩
  go_wp2_with fail
  refine (write_to w.heap.size (w.heap.size + 1) wk1 wk1 wk1_ok 0 41 ⟨#[98]⟩ _ hb2 (by decide) rfl).mono ?_
  rintro e w3 ⟨rfl, hb3, hf3⟩
  go_wp2_with fail
  refine (fill_to w.heap.size (w.heap.size + 1) wk1 wk2 wk1_ok 2 0 _ hb3 (by decide) wk2_eq).mono ?_
  rintro e w4 ⟨rfl, hb4, hf4⟩
  go_wp2_with fail
  refine (trim_to w.heap.size (w.heap.size + 1) wk2 wk3 wk2_ok 1 0 _ hb4 (by decide) wk3_eq).mono ?_
  rintro e w5 ⟨rfl, hb5, hf5⟩
  have HF := hide ((((Fr.of_below hf1 (ts := [82]) (B := w.heap.size)).trans hf2).trans hf3).trans hf4 |>.trans hf5)
  clear hf1 hf2 hf3 hf4 hf5 hb1 hb2 hb3 hb4
  go_wp2_with fail
  refine (read_to w.heap.size (w.heap.size + 1) wk3 wk3_ok 0 43 ⟨#[]⟩ _ hb5 rfl).mono ?_
  rintro e w6 ⟨rfl, rfl⟩
  go_wp2_with fail
  refine (read_to w.heap.size (w.heap.size + 1) wk3 wk3_ok 1 42 ⟨#[]⟩ _ hb5 rfl).mono ?_
  rintro e w6 ⟨rfl, rfl⟩
  go_wp2_with fail
  refine (tail_to w.heap.size (w.heap.size + 1) wk3 wk3_ok 3 _ hb5 rfl).mono ?_
  rintro e w6 ⟨rfl, hb6⟩
  have hb7 := hb5.below hb6
  go_wp2_with fail
  refine (used_any w.heap.size (w.heap.size + 1) wk3 _ hb7).mono ?_
  rintro e w7 ⟨rfl, rfl⟩
  rw [show (wk3.l.length : Int) = 1 from rfl]
  go_wp2_with fail
  refine (kind_to w.heap.size (w.heap.size + 1) wk3 wk3_ok 2 2 _ hb7 rfl).mono ?_
  rintro e w7 ⟨rfl, rfl⟩
  go_wp2
  go_ret
  exact ⟨rfl, (HF.out.trans (Fr.of_below hb6)).below (Nat.le_refl _)⟩

set_option maxHeartbeats 800000 in
theorem none_any (k n : Int) (s : ByteArray) (w : World) : Calls Try.prog 8 #[.agg #[.int .i64 k, .int .i64 n, .string s]] w fun e w' => e = .returned (.bool true) ∧ Below w.heap.size w w' := by
  go_enter Try.func8, Try.ntmps8
  go_wp2_with fail
  refine (read_nil n _).mono ?_
  rintro e w1 ⟨rfl, rfl⟩
  go_wp2_with fail
  refine (write_nil n s _).mono ?_
  rintro e w1 ⟨rfl, rfl⟩
  go_wp2_with fail
  refine (fill_nil n _).mono ?_
  rintro e w1 ⟨rfl, rfl⟩
  go_wp2_with fail
  refine (kind_nil n _).mono ?_
  rintro e w1 ⟨rfl, rfl⟩
  go_wp2_with fail
  refine (trim_nil n _).mono ?_
  rintro e w1 ⟨rfl, rfl⟩
  go_wp2_with fail
  refine (tail_nil _).mono ?_
  rintro e w1 ⟨rfl, rfl⟩
  go_wp2_with fail
  refine (used_nil _).mono ?_
  rintro e w1 ⟨rfl, rfl⟩
  go_wp2_with fail
  refine (edge_nil _).mono ?_
  rintro e w1 ⟨rfl, rfl⟩
  go_wp2_with fail
  refine (wakes_any _).mono ?_
  rintro e w1 ⟨rfl, hb1⟩
  go_wp2
  go_ret
  exact ⟨rfl, ((Below.refl _ _).alloc (Nat.le_refl _) _).trans (hb1.mono (by simp))⟩
end Go.Proofs.Ytjpegkginmoekaa

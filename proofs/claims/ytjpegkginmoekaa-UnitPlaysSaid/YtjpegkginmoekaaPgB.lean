/- Pages: New, Write, Fill, Read, Used, Edge. -/
import Derived.Test.YtjpegkginmoekaaPgA
namespace Go.Proofs.Ytjpegkginmoekaa
open Go.RowKit
set_option linter.unusedVariables false

def newP (room : Int) : PS := ⟨room, 0, []⟩
theorem newP_ok (room : Int) (h0 : 1 ≤ room) (h1 : room ≤ 4096) : (newP room).Ok := ⟨h0, h1, by simp [newP], by simp [newP], by simp [newP]; omega, by simp [newP], by simp [newP]⟩
theorem new_no (room : Int) (w : World) (h : room < 1 ∨ 4096 < room) : Calls Try.prog 28 #[.int .i64 room] w fun e w' => e = .returned (.tuple #[.pointer none, .int .i64 1]) ∧ w = w' := by
  rcases h with h | h
  · go_enter Try.func28, Try.ntmps28
    go_wp2
    go_ret2
    exact ⟨rfl, rfl⟩
  · have h0 : 1 ≤ room := by omega
    go_enter Try.func28, Try.ntmps28
    go_wp2
    go_ret2
    exact ⟨rfl, rfl⟩
theorem new_yes (room : Int) (w : World) (h0 : 1 ≤ room) (h1 : room ≤ 4096) : Calls Try.prog 28 #[.int .i64 room] w fun e w' => e = .returned (.tuple #[.pointer (some ⟨w.heap.size + 1, 0, none⟩), .int .i64 0]) ∧ PgAt w' w.heap.size (w.heap.size + 1) (newP room) ∧ Below w.heap.size w w' ∧ w'.heap.size = w.heap.size + 2 := by
  have hmm := @run_makeMap Try.prog
  go_enter Try.func28, Try.ntmps28
  go_wp2
  go_ret2
  refine ⟨rfl, ⟨w.heap.size, ?_, by omega, Nat.le_refl _, ?_⟩, ((Below.refl _ _).alloc (Nat.le_refl _) _).alloc (by simp) _, by simp⟩
  · have := Blk.new (w.alloc (.map #[] 0)) 82 #[.int .i64 room, .map (some w.heap.size), .int .i64 0]
    simpa [newP] using this
  · exact (map_new w).below ((Below.refl _ _).alloc (Nat.le_refl _) _)

/-- what Write answers -/
def writeErr (p : PS) (n : Int) (s : ByteArray) : Int :=
  if n < 0 ∨ 4096 ≤ n then 1 else if 4096 < s.size then 2 else if n < p.edge then 43 else if kindP p n ≠ 0 then 41 else if p.room ≤ p.l.length then 44 else 0
def writeP (p : PS) (n : Int) (s : ByteArray) : PS := if writeErr p n s = 0 then ⟨p.room, p.edge, p.l ++ [⟨n, 1, s⟩]⟩ else p

theorem kindP_zero {p : PS} (hp : p.Ok) {n : Int} (h0 : ¬ (n < 0 ∨ 4096 ≤ n)) (he : ¬ n < p.edge) (h : kindP p n = 0) : findP n p.l = none := by
  unfold kindP at h
  rw [if_neg h0, if_neg he] at h
  rcases hf : findP n p.l with _ | x
  · rfl
  · rw [hf] at h
    have := hp.kd x (findP_some hf).1
    simp only at h
    omega
theorem kindP_ge {p : PS} (hp : p.Ok) {n : Int} (h0 : ¬ (n < 0 ∨ 4096 ≤ n)) (he : ¬ n < p.edge) : kindP p n = 0 ∨ kindP p n = 1 ∨ kindP p n = 2 := by
  unfold kindP
  rw [if_neg h0, if_neg he]
  rcases hf : findP n p.l with _ | x
  · exact .inl rfl
  · exact .inr (hp.kd x (findP_some hf).1)

set_option maxHeartbeats 800000 in
theorem write_any (B g : Nat) (p : PS) (hp : p.Ok) (n : Int) (s : ByteArray) (w : World) (hb : PgAt w B g p) :
    Calls Try.prog 31 #[.pointer (some ⟨g, 0, none⟩), .int .i64 n, .string s] w fun e w' => e = .returned (.int .i64 (writeErr p n s)) ∧ PgAt w' B g (writeP p n s) ∧ Fr [82] B w w' := by
  by_cases h0 : n < 0 ∨ 4096 ≤ n
  · have HE : Hid (writeErr p n s = 1) := hide (by unfold writeErr; rw [if_pos h0])
    have HP : Hid (writeP p n s = p) := hide (by unfold writeP; rw [HE.out, if_neg (by decide)])
    go_enter Try.func31, Try.ntmps31
    go_wp2_with fail
    refine (there_no g n _ h0).mono ?_
    rintro e w1 ⟨rfl, rfl⟩
    go_wp2
    go_ret
    exact ⟨by rw [HE.out]; rfl, by rw [HP.out]; exact hb, Fr.refl _ _ _⟩
  have i0 : 0 ≤ n := by omega
  have i1 : n < 4096 := by omega
  by_cases hs : 4096 < s.size
  · have HE : Hid (writeErr p n s = 2) := hide (by unfold writeErr; rw [if_neg h0, if_pos hs])
    have HP : Hid (writeP p n s = p) := hide (by unfold writeP; rw [HE.out, if_neg (by decide)])
    go_enter Try.func31, Try.ntmps31
    go_wp2_with fail
    refine (there_yes g n _ i0 i1).mono ?_
    rintro e w1 ⟨rfl, rfl⟩
    go_wp2
    go_ret
    exact ⟨by rw [HE.out]; rfl, by rw [HP.out]; exact hb, Fr.refl _ _ _⟩
  have hb0 := hb
  obtain ⟨b, hg, hBg, hBb, hm⟩ := hb0
  obtain ⟨c0, c1, c2, _, _, _⟩ := blk3 hg
  clear hm hg hBb
  by_cases he : n < p.edge
  · have HE : Hid (writeErr p n s = 43) := hide (by unfold writeErr; rw [if_neg h0, if_neg hs, if_pos he])
    have HP : Hid (writeP p n s = p) := hide (by unfold writeP; rw [HE.out, if_neg (by decide)])
    go_enter Try.func31, Try.ntmps31
    go_wp2_with fail
    refine (there_yes g n _ i0 i1).mono ?_
    rintro e w1 ⟨rfl, rfl⟩
    go_wp2
    go_ret
    exact ⟨by rw [HE.out]; rfl, by rw [HP.out]; exact hb, Fr.refl _ _ _⟩
  by_cases hk : kindP p n = 0
  · have hno := hide (kindP_zero hp h0 he hk)
    have HK := hide hk
    by_cases hf : p.room ≤ p.l.length
    · have HE : Hid (writeErr p n s = 44) := hide (by unfold writeErr; rw [if_neg h0, if_neg hs, if_neg he, if_neg (by omega), if_pos hf])
      have HP : Hid (writeP p n s = p) := hide (by unfold writeP; rw [HE.out, if_neg (by decide)])
      clear hk
      go_enter Try.func31, Try.ntmps31
      go_wp2_with fail
      refine (there_yes g n _ i0 i1).mono ?_
      rintro e w1 ⟨rfl, rfl⟩
      go_wp2_with fail
      refine (kind_any B g p hp n _ hb).mono ?_
      rintro e w1 ⟨rfl, rfl⟩
      rw [HK.out]
      go_wp2_with fail
      refine (set_full B g p n 1 s _ hb hf).mono ?_
      rintro e w1 ⟨rfl, hb1⟩
      go_wp2
      go_ret
      exact ⟨by rw [HE.out]; rfl, by rw [HP.out]; exact hb.below hb1, Fr.of_below hb1⟩
    · have HE : Hid (writeErr p n s = 0) := hide (by unfold writeErr; rw [if_neg h0, if_neg hs, if_neg he, if_neg (by omega), if_neg hf])
      have HP : Hid (writeP p n s = ⟨p.room, p.edge, p.l ++ [⟨n, 1, s⟩]⟩) := hide (by unfold writeP; rw [HE.out, if_pos rfl])
      have hr := hp.r1
      clear hk
      go_enter Try.func31, Try.ntmps31
      go_wp2_with fail
      refine (there_yes g n _ i0 i1).mono ?_
      rintro e w1 ⟨rfl, rfl⟩
      go_wp2_with fail
      refine (kind_any B g p hp n _ hb).mono ?_
      rintro e w1 ⟨rfl, rfl⟩
      rw [HK.out]
      go_wp2_with fail
      refine (set_ok B g p n 1 s _ hb (by omega) hr i0 i1 hno.out).mono ?_
      rintro e w1 ⟨rfl, hb1, hf1⟩
      go_wp2
      go_ret
      exact ⟨by rw [HE.out]; rfl, by rw [HP.out]; exact hb1, hf1⟩
  · have HE : Hid (writeErr p n s = 41) := hide (by unfold writeErr; rw [if_neg h0, if_neg hs, if_neg he, if_pos hk])
    have HP : Hid (writeP p n s = p) := hide (by unfold writeP; rw [HE.out, if_neg (by decide)])
    have hkb : (kindP p n != 0) = true := by simp [hk]
    clear hk
    go_enter Try.func31, Try.ntmps31
    go_wp2_with fail
    refine (there_yes g n _ i0 i1).mono ?_
    rintro e w1 ⟨rfl, rfl⟩
    go_wp2_with fail
    refine (kind_any B g p hp n _ hb).mono ?_
    rintro e w1 ⟨rfl, rfl⟩
    go_wp2
    go_ret
    exact ⟨by rw [HE.out]; rfl, by rw [HP.out]; exact hb, Fr.refl _ _ _⟩

/-- what Fill answers -/
def fillErr (p : PS) (n : Int) : Int :=
  if n < 0 ∨ 4096 ≤ n then 1 else if kindP p n = 3 then 43 else if kindP p n = 2 then 0 else if kindP p n = 1 then 41 else if p.room ≤ p.l.length then 44 else 0
def fillP (p : PS) (n : Int) : PS := if fillErr p n = 0 ∧ kindP p n = 0 then ⟨p.room, p.edge, p.l ++ [⟨n, 2, ⟨#[]⟩⟩]⟩ else p
theorem kindP_cases {p : PS} (hp : p.Ok) {n : Int} (h0 : ¬ (n < 0 ∨ 4096 ≤ n)) : (kindP p n = 3 ∧ n < p.edge) ∨ (¬ n < p.edge ∧ (kindP p n = 0 ∨ kindP p n = 1 ∨ kindP p n = 2)) := by
  by_cases he : n < p.edge
  · exact .inl ⟨by unfold kindP; rw [if_neg h0, if_pos he], he⟩
  · exact .inr ⟨he, kindP_ge hp h0 he⟩

set_option maxHeartbeats 800000 in
theorem fill_any (B g : Nat) (p : PS) (hp : p.Ok) (n : Int) (w : World) (hb : PgAt w B g p) :
    Calls Try.prog 33 #[.pointer (some ⟨g, 0, none⟩), .int .i64 n] w fun e w' => e = .returned (.int .i64 (fillErr p n)) ∧ PgAt w' B g (fillP p n) ∧ Fr [82] B w w' := by
  by_cases h0 : n < 0 ∨ 4096 ≤ n
  · have HE : Hid (fillErr p n = 1) := hide (by unfold fillErr; rw [if_pos h0])
    have HP : Hid (fillP p n = p) := hide (by unfold fillP; rw [HE.out, if_neg (by simp)])
    go_enter Try.func33, Try.ntmps33
    go_wp2_with fail
    refine (there_no g n _ h0).mono ?_
    rintro e w1 ⟨rfl, rfl⟩
    go_wp2
    go_ret
    exact ⟨by rw [HE.out]; rfl, by rw [HP.out]; exact hb, Fr.refl _ _ _⟩
  have i0 : 0 ≤ n := by omega
  have i1 : n < 4096 := by omega
  rcases kindP_cases hp h0 with ⟨hk, he⟩ | ⟨he, hk⟩
  · have HK := hide hk
    have HE : Hid (fillErr p n = 43) := hide (by unfold fillErr; rw [if_neg h0, if_pos hk])
    have HP : Hid (fillP p n = p) := hide (by unfold fillP; rw [HE.out, if_neg (by simp)])
    clear hk
    go_enter Try.func33, Try.ntmps33
    go_wp2_with fail
    refine (there_yes g n _ i0 i1).mono ?_
    rintro e w1 ⟨rfl, rfl⟩
    go_wp2_with fail
    refine (kind_any B g p hp n _ hb).mono ?_
    rintro e w1 ⟨rfl, rfl⟩
    rw [HK.out]
    go_wp2
    go_ret
    exact ⟨by rw [HE.out]; rfl, by rw [HP.out]; exact hb, Fr.refl _ _ _⟩
  rcases hk with hk | hk | hk
  · have hno := hide (kindP_zero hp h0 he hk)
    have HK := hide hk
    by_cases hf : p.room ≤ p.l.length
    · have HE : Hid (fillErr p n = 44) := hide (by unfold fillErr; rw [if_neg h0, hk, if_neg (by decide), if_neg (by decide), if_neg (by decide), if_pos hf])
      have HP : Hid (fillP p n = p) := hide (by unfold fillP; rw [HE.out, if_neg (by simp)])
      clear hk
      go_enter Try.func33, Try.ntmps33
      go_wp2_with fail
      refine (there_yes g n _ i0 i1).mono ?_
      rintro e w1 ⟨rfl, rfl⟩
      go_wp2_with fail
      refine (kind_any B g p hp n _ hb).mono ?_
      rintro e w1 ⟨rfl, rfl⟩
      rw [HK.out]
      go_wp2_with fail
      refine (set_full B g p n 2 ⟨#[]⟩ _ hb hf).mono ?_
      rintro e w1 ⟨rfl, hb1⟩
      go_wp2
      go_ret
      exact ⟨by rw [HE.out]; rfl, by rw [HP.out]; exact hb.below hb1, Fr.of_below hb1⟩
    · have HE : Hid (fillErr p n = 0) := hide (by unfold fillErr; rw [if_neg h0, hk, if_neg (by decide), if_neg (by decide), if_neg (by decide), if_neg hf])
      have HP : Hid (fillP p n = ⟨p.room, p.edge, p.l ++ [⟨n, 2, ⟨#[]⟩⟩]⟩) := hide (by unfold fillP; rw [if_pos ⟨HE.out, HK.out⟩])
      have hr := hp.r1
      clear hk
      go_enter Try.func33, Try.ntmps33
      go_wp2_with fail
      refine (there_yes g n _ i0 i1).mono ?_
      rintro e w1 ⟨rfl, rfl⟩
      go_wp2_with fail
      refine (kind_any B g p hp n _ hb).mono ?_
      rintro e w1 ⟨rfl, rfl⟩
      rw [HK.out]
      go_wp2_with fail
      refine (set_ok B g p n 2 ⟨#[]⟩ _ hb (by omega) hr i0 i1 hno.out).mono ?_
      rintro e w1 ⟨rfl, hb1, hf1⟩
      go_wp2
      go_ret
      exact ⟨by rw [HE.out]; rfl, by rw [HP.out]; exact hb1, hf1⟩
  · have HK := hide hk
    have HE : Hid (fillErr p n = 41) := hide (by unfold fillErr; rw [if_neg h0, hk, if_neg (by decide), if_neg (by decide), if_pos rfl])
    have HP : Hid (fillP p n = p) := hide (by unfold fillP; rw [HE.out, if_neg (by simp)])
    clear hk
    go_enter Try.func33, Try.ntmps33
    go_wp2_with fail
    refine (there_yes g n _ i0 i1).mono ?_
    rintro e w1 ⟨rfl, rfl⟩
    go_wp2_with fail
    refine (kind_any B g p hp n _ hb).mono ?_
    rintro e w1 ⟨rfl, rfl⟩
    rw [HK.out]
    go_wp2
    go_ret
    exact ⟨by rw [HE.out]; rfl, by rw [HP.out]; exact hb, Fr.refl _ _ _⟩
  · have HK := hide hk
    have HE : Hid (fillErr p n = 0) := hide (by unfold fillErr; rw [if_neg h0, hk, if_neg (by decide), if_pos rfl])
    have HP : Hid (fillP p n = p) := hide (by unfold fillP; rw [HK.out, if_neg (by simp)])
    clear hk
    go_enter Try.func33, Try.ntmps33
    go_wp2_with fail
    refine (there_yes g n _ i0 i1).mono ?_
    rintro e w1 ⟨rfl, rfl⟩
    go_wp2_with fail
    refine (kind_any B g p hp n _ hb).mono ?_
    rintro e w1 ⟨rfl, rfl⟩
    rw [HK.out]
    go_wp2
    go_ret
    exact ⟨by rw [HE.out]; rfl, by rw [HP.out]; exact hb, Fr.refl _ _ _⟩

/-- what Read answers -/
def readP (p : PS) (n : Int) : ByteArray × Int :=
  if n < 0 ∨ 4096 ≤ n then (⟨#[]⟩, 1) else if n < p.edge then (⟨#[]⟩, 43) else match findP n p.l with
    | none => (⟨#[]⟩, 42)
    | some x => if x.k = 2 then (⟨#[]⟩, 46) else (x.s, 0)

set_option maxRecDepth 100000 in
set_option maxHeartbeats 800000 in
theorem read_any (B g : Nat) (p : PS) (hp : p.Ok) (n : Int) (w : World) (hb : PgAt w B g p) :
    Calls Try.prog 35 #[.pointer (some ⟨g, 0, none⟩), .int .i64 n] w fun e w' => e = .returned (.tuple #[.string (readP p n).1, .int .i64 (readP p n).2]) ∧ w = w' := by
  by_cases h0 : n < 0 ∨ 4096 ≤ n
  · have HE : Hid (readP p n = (⟨#[]⟩, 1)) := hide (by unfold readP; rw [if_pos h0])
    go_enter Try.func35, Try.ntmps35
    go_wp2_with fail
    refine (there_no g n _ h0).mono ?_
    rintro e w1 ⟨rfl, rfl⟩
    go_wp2
    go_ret2
    exact ⟨by rw [HE.out]; rfl, rfl⟩
  have i0 : 0 ≤ n := by omega
  have i1 : n < 4096 := by omega
  by_cases he : n < p.edge
  · have HK : Hid (kindP p n = 3) := hide (by unfold kindP; rw [if_neg h0, if_pos he])
    have HE : Hid (readP p n = (⟨#[]⟩, 43)) := hide (by unfold readP; rw [if_neg h0, if_pos he])
    go_enter Try.func35, Try.ntmps35
    go_wp2_with fail
    refine (there_yes g n _ i0 i1).mono ?_
    rintro e w1 ⟨rfl, rfl⟩
    go_wp2_with fail
    refine (kind_any B g p hp n _ hb).mono ?_
    rintro e w1 ⟨rfl, rfl⟩
    rw [HK.out]
    go_wp2
    go_ret2
    exact ⟨by rw [HE.out]; rfl, rfl⟩
  rcases hfd : findP n p.l with _ | x
  · have HK : Hid (kindP p n = 0) := hide (by unfold kindP; rw [if_neg h0, if_neg he, hfd])
    have HE : Hid (readP p n = (⟨#[]⟩, 42)) := hide (by unfold readP; rw [if_neg h0, if_neg he, hfd])
    clear hfd
    go_enter Try.func35, Try.ntmps35
    go_wp2_with fail
    refine (there_yes g n _ i0 i1).mono ?_
    rintro e w1 ⟨rfl, rfl⟩
    go_wp2_with fail
    refine (kind_any B g p hp n _ hb).mono ?_
    rintro e w1 ⟨rfl, rfl⟩
    rw [HK.out]
    go_wp2
    go_ret2
    exact ⟨by rw [HE.out]; rfl, rfl⟩
  obtain ⟨hx, hxn⟩ := findP_some hfd
  rcases hp.kd x hx with hk | hk
  · have HK : Hid (kindP p n = 1) := hide (by unfold kindP; rw [if_neg h0, if_neg he, hfd]; exact hk)
    have HE : Hid (readP p n = (x.s, 0)) := hide (by unfold readP; rw [if_neg h0, if_neg he, hfd]; simp [hk])
    have hb0 := hb
    obtain ⟨b, hg, hBg, hBb, hm⟩ := hb0
    obtain ⟨c0, c1, c2, _, _, _⟩ := blk3 hg
    have hl := hm.hit hx
    rw [hxn] at hl
    have HL := hide hl
    have hf1 := field1
    clear hfd hxn hx hl hk hm hg
    go_enter Try.func35, Try.ntmps35
    go_wp2_with fail
    refine (there_yes g n _ i0 i1).mono ?_
    rintro e w1 ⟨rfl, rfl⟩
    go_wp2_with fail
    refine (kind_any B g p hp n _ hb).mono ?_
    rintro e w1 ⟨rfl, rfl⟩
    rw [HK.out]
    go_wp2_with (at_lookup; refine wpList_lookup_eq rfl (.tmp 22) (.tmp 24) 80 rfl b (keyV n) _ rfl rfl HL.out ?_; unfold conV)
    go_ret2
    exact ⟨by rw [HE.out]; rfl, rfl⟩
  · have HK : Hid (kindP p n = 2) := hide (by unfold kindP; rw [if_neg h0, if_neg he, hfd]; exact hk)
    have HE : Hid (readP p n = (⟨#[]⟩, 46)) := hide (by unfold readP; rw [if_neg h0, if_neg he, hfd]; simp [hk])
    clear hfd hk hx hxn
    go_enter Try.func35, Try.ntmps35
    go_wp2_with fail
    refine (there_yes g n _ i0 i1).mono ?_
    rintro e w1 ⟨rfl, rfl⟩
    go_wp2_with fail
    refine (kind_any B g p hp n _ hb).mono ?_
    rintro e w1 ⟨rfl, rfl⟩
    rw [HK.out]
    go_wp2
    go_ret2
    exact ⟨by rw [HE.out]; rfl, rfl⟩

theorem used_any (B g : Nat) (p : PS) (w : World) (hb : PgAt w B g p) : Calls Try.prog 23 #[.pointer (some ⟨g, 0, none⟩)] w fun e w' => e = .returned (.int .i64 p.l.length) ∧ w = w' := by
  obtain ⟨b, hg, hBg, hBb, hm⟩ := hb
  obtain ⟨c0, c1, c2, _, _, _⟩ := blk3 hg
  have HL := hide hm.len
  clear hg hm
  go_enter Try.func23, Try.ntmps23
  go_wp2_with (at_len; refine wpList_len_eq rfl (.tmp 8) 80 rfl b p.l.length rfl HL.out ?_)
  go_ret
  exact ⟨rfl, rfl⟩
theorem edge_any (B g : Nat) (p : PS) (w : World) (hb : PgAt w B g p) : Calls Try.prog 27 #[.pointer (some ⟨g, 0, none⟩)] w fun e w' => e = .returned (.int .i64 p.edge) ∧ w = w' := by
  obtain ⟨b, hg, hBg, hBb, hm⟩ := hb
  obtain ⟨c0, c1, c2, _, _, _⟩ := blk3 hg
  clear hg hm
  go_enter Try.func27, Try.ntmps27
  go_wp2
  go_ret
  exact ⟨rfl, rfl⟩
end Go.Proofs.Ytjpegkginmoekaa

/- Pages: there, Kind, set, New, Edge, Used. -/
import Derived.Test.YtjpegkginmoekaaMap
import Derived.Deep.QuietTactic
import Derived.BigQuiet
namespace Go.Proofs.Ytjpegkginmoekaa
open Go.RowKit
set_option linter.unusedVariables false

/-- pages in plain words -/
structure PS where
  room : Int
  edge : Int
  l : List Pg

structure PS.Ok (p : PS) : Prop where
  r0 : 1 ≤ p.room
  r1 : p.room ≤ 4096
  e0 : 0 ≤ p.edge
  e1 : p.edge ≤ 4096
  len : (p.l.length : Int) ≤ p.room
  at0 : ∀ x ∈ p.l, p.edge ≤ x.n ∧ x.n < 4096
  kd : ∀ x ∈ p.l, x.k = 1 ∨ x.k = 2

def findP (n : Int) (l : List Pg) : Option Pg := l.find? fun x => x.n == n
theorem findP_none {n : Int} {l : List Pg} (h : findP n l = none) : ∀ x ∈ l, x.n ≠ n := by
  unfold findP at h
  rw [List.find?_eq_none] at h
  simpa using h
theorem findP_some {n : Int} {l : List Pg} {x : Pg} (h : findP n l = some x) : x ∈ l ∧ x.n = n := by
  unfold findP at h
  have h1 := List.mem_of_find?_eq_some h
  have h2 := List.find?_some h
  exact ⟨h1, by simpa using h2⟩

/-- what kind of page it is -/
def kindP (p : PS) (n : Int) : Int :=
  if n < 0 ∨ 4096 ≤ n then 0 else if n < p.edge then 3 else match findP n p.l with
    | none => 0
    | some x => x.k

/-- block g is pages that read as p -/
def PgAt (w : World) (B g : Nat) (p : PS) : Prop :=
  ∃ b, Blk w g 82 #[.int .i64 p.room, .map (some b), .int .i64 p.edge] ∧ B ≤ g ∧ B ≤ b ∧ MapAt w b p.l

theorem PgAt.below {w w' : World} {B g : Nat} {p : PS} (h : PgAt w B g p) (hb : Below w.heap.size w w') : PgAt w' B g p := by
  obtain ⟨b, h1, h2, h3, h4⟩ := h
  exact ⟨b, h1.below hb h1.lt, h2, h3, h4.below hb⟩
theorem PgAt.alloc {w : World} {B g : Nat} {p : PS} (h : PgAt w B g p) (o : Obj) : PgAt (w.alloc o) B g p := h.below ((Below.refl _ _).alloc (Nat.le_refl _) _)
theorem PgAt.drew {w : World} {B g : Nat} {p : PS} (h : PgAt w B g p) : PgAt w.drew B g p := h
theorem PgAt.lt {w : World} {B g : Nat} {p : PS} (h : PgAt w B g p) : B ≤ g ∧ g < w.heap.size := by
  obtain ⟨b, h1, h2, h3, h4⟩ := h
  exact ⟨h2, h1.lt⟩
theorem blk3 {w : World} {g : Nat} {a b c : Value} {t : TypeId} (h : Blk w g t #[a, b, c]) :
    w.cell? ⟨g, 0, none⟩ = some a ∧ w.cell? ⟨g, 1, none⟩ = some b ∧ w.cell? ⟨g, 2, none⟩ = some c ∧ w.frozen? ⟨g, 0, none⟩ = false ∧ w.frozen? ⟨g, 1, none⟩ = false ∧ w.frozen? ⟨g, 2, none⟩ = false :=
  ⟨h.cell 0, h.cell 1, h.cell 2, h.frozen 0, h.frozen 1, h.frozen 2⟩

theorem there_yes (g : Nat) (n : Int) (w : World) (h0 : 0 ≤ n) (h1 : n < 4096) : Calls Try.prog 47 #[.pointer (some ⟨g, 0, none⟩), .int .i64 n] w fun e w' => e = .returned (.bool true) ∧ w = w' := by
  go_enter Try.func47, Try.ntmps47
  go_wp2
  go_ret
  exact ⟨by simp [*], rfl⟩
theorem there_no (g : Nat) (n : Int) (w : World) (h : n < 0 ∨ 4096 ≤ n) : Calls Try.prog 47 #[.pointer (some ⟨g, 0, none⟩), .int .i64 n] w fun e w' => e = .returned (.bool false) ∧ w = w' := by
  rcases h with h | h
  · go_enter Try.func47, Try.ntmps47
    go_wp2
    go_ret
    exact ⟨by first | (simp; done) | (simp; omega), rfl⟩
  · have h0 : 0 ≤ n := by omega
    go_enter Try.func47, Try.ntmps47
    go_wp2
    go_ret
    exact ⟨by first | (simp; done) | (simp; omega), rfl⟩
theorem there_nil (n : Int) (w : World) : Calls Try.prog 47 #[.pointer none, .int .i64 n] w fun e w' => e = .returned (.bool false) ∧ w = w' := by
  go_enter Try.func47, Try.ntmps47
  go_wp2
  go_ret
  exact ⟨rfl, rfl⟩
theorem ret_bool {a b : Bool} (h : a = b) : Ending.returned (.bool a) = .returned (.bool b) := by rw [h]
theorem ret_int {k : IntKind} {a b : Int} (h : a = b) : Ending.returned (.int k a) = .returned (.int k b) := by rw [h]

theorem field0 (k : Int) (s : ByteArray) (w : World) : (Instr.field 93 (.agg #[.int .i64 k, .string s]) 0).run Try.prog w = .ok (.int .i64 k) w := by kernel_rfl
theorem field1 (k : Int) (s : ByteArray) (w : World) : (Instr.field 93 (.agg #[.int .i64 k, .string s]) 1).run Try.prog w = .ok (.string s) w := by kernel_rfl

set_option maxRecDepth 100000 in
theorem kind_any (B g : Nat) (p : PS) (hp : p.Ok) (n : Int) (w : World) (hb : PgAt w B g p) :
    Calls Try.prog 41 #[.pointer (some ⟨g, 0, none⟩), .int .i64 n] w fun e w' => e = .returned (.int .i64 (kindP p n)) ∧ w = w' := by
  by_cases h0 : n < 0 ∨ 4096 ≤ n
  · have HE : Hid (kindP p n = 0) := hide (by unfold kindP; rw [if_pos h0])
    go_enter Try.func41, Try.ntmps41
    go_wp2_with fail
    refine (there_no g n _ h0).mono ?_
    rintro e w1 ⟨rfl, rfl⟩
    go_wp2
    go_ret
    exact ⟨by rw [HE.out]; rfl, rfl⟩
  · have i0 : 0 ≤ n := by omega
    have i1 : n < 4096 := by omega
    obtain ⟨b, hg, hBg, hBb, hm⟩ := hb
    obtain ⟨c0, c1, c2, _, _, _⟩ := blk3 hg
    by_cases he : n < p.edge
    · have HE : Hid (kindP p n = 3) := hide (by unfold kindP; rw [if_neg h0, if_pos he])
      go_enter Try.func41, Try.ntmps41
      go_wp2_with fail
      refine (there_yes g n _ i0 i1).mono ?_
      rintro e w1 ⟨rfl, rfl⟩
      go_wp2
      go_ret
      exact ⟨by rw [HE.out]; rfl, rfl⟩
    · rcases hfd : findP n p.l with _ | x
      · have HE : Hid (kindP p n = 0) := hide (by unfold kindP; rw [if_neg h0, if_neg he, hfd])
        have hl := hm.miss (n := n) ⟨i0, by omega⟩ (findP_none hfd)
        have HL := hide hl
        clear hfd hl
        have hf0 := field0
        go_enter Try.func41, Try.ntmps41
        go_wp2_with fail
        refine (there_yes g n _ i0 i1).mono ?_
        rintro e w1 ⟨rfl, rfl⟩
        go_wp2_with (at_lookup; refine wpList_lookup_eq rfl (.tmp 20) (.tmp 22) 80 rfl b (keyV n) _ rfl rfl HL.out ?_; unfold conV)
        go_ret
        exact ⟨by rw [HE.out]; rfl, rfl⟩
      · have HE : Hid (kindP p n = x.k) := hide (by unfold kindP; rw [if_neg h0, if_neg he, hfd])
        obtain ⟨hx, hxn⟩ := findP_some hfd
        have hl := hm.hit hx
        rw [hxn] at hl
        have HL := hide hl
        clear hfd hxn hx hl
        have hf0 := field0
        go_enter Try.func41, Try.ntmps41
        go_wp2_with fail
        refine (there_yes g n _ i0 i1).mono ?_
        rintro e w1 ⟨rfl, rfl⟩
        go_wp2_with (at_lookup; refine wpList_lookup_eq rfl (.tmp 20) (.tmp 22) 80 rfl b (keyV n) _ rfl rfl HL.out ?_; unfold conV)
        go_ret
        exact ⟨by rw [HE.out]; rfl, rfl⟩

theorem kind_nil (n : Int) (w : World) : Calls Try.prog 41 #[.pointer none, .int .i64 n] w fun e w' => e = .returned (.int .i64 0) ∧ w = w' := by
  go_enter Try.func41, Try.ntmps41
  go_wp2_with fail
  refine (there_nil n _).mono ?_
  rintro e w1 ⟨rfl, rfl⟩
  go_wp2
  go_ret
  exact ⟨rfl, rfl⟩

set_option maxHeartbeats 400000 in
theorem set_full (B g : Nat) (p : PS) (n k : Int) (s : ByteArray) (w : World) (hb : PgAt w B g p) (hf : p.room ≤ p.l.length) :
    Calls Try.prog 48 #[.pointer (some ⟨g, 0, none⟩), .int .i64 n, .agg #[.int .i64 k, .string s]] w fun e w' => e = .returned (.int .i64 44) ∧ Below w.heap.size w w' := by
  obtain ⟨b, hg, hBg, hBb, hm⟩ := hb
  have hg' : ∀ o, Blk (w.alloc o) g 82 _ := fun o => hg.alloc o
  have c0 := fun o => (blk3 (hg' o)).1
  have c1 := fun o => (blk3 (hg' o)).2.1
  have hl : Hid (∀ o ty, (Builtin.len_ #[80] ty #[.map (some b)]).run Try.prog (w.alloc o).drew = .ok (.int .i64 p.l.length) (w.alloc o).drew) := hide fun o ty => (hm.below (w' := (w.alloc o).drew) (((Below.refl _ _).alloc (Nat.le_refl _) _).drew)).len ty
  clear hg'
  go_enter Try.func48, Try.ntmps48
  go_wp2_with fail
  go_region_law (refine step_len_eq rfl (.tmp 10) 80 rfl b p.l.length rfl (hl.out _) ?_)
  all_goals go_wp2
  all_goals go_ret
  all_goals exact ⟨rfl, ((Below.refl _ _).alloc (Nat.le_refl _) _).drew⟩

theorem set_end {B g b : Nat} {w W w' : World} {l : List Pg} {cs : Array Value} (hg : Blk w g 82 cs) (hBb : B ≤ b) (hm : MapAt w b l) (hb : Below w.heap.size w W) (hgr : W.grownBy w' (some b)) : Blk w' g 82 cs ∧ Fr [82] B w w' := by
  have hne := hm.ne_blk hg
  obtain ⟨es, c, ho⟩ := (hm.below hb).obj
  exact ⟨(hg.below hb hg.lt).grown hgr (fun e => hne (by injection e with e; exact e.symm)), (Fr.of_below hb).turned hBb ho hgr⟩

set_option maxRecDepth 100000 in
set_option maxHeartbeats 800000 in
theorem set_ok (B g : Nat) (p : PS) (n k : Int) (s : ByteArray) (w : World) (hb : PgAt w B g p) (hf : p.l.length < p.room) (hr : p.room ≤ 4096) (h0 : 0 ≤ n) (h1 : n < 4096) (hno : findP n p.l = none) :
    Calls Try.prog 48 #[.pointer (some ⟨g, 0, none⟩), .int .i64 n, .agg #[.int .i64 k, .string s]] w fun e w' => e = .returned (.int .i64 0) ∧ PgAt w' B g ⟨p.room, p.edge, p.l ++ [⟨n, k, s⟩]⟩ ∧ Fr [82] B w w' := by
  obtain ⟨b, hg, hBg, hBb, hm⟩ := hb
  have hg' : ∀ o, Blk (w.alloc o) g 82 _ := fun o => hg.alloc o
  have c0 := fun o => (blk3 (hg' o)).1
  have c1 := fun o => (blk3 (hg' o)).2.1
  have hm' : ∀ o, MapAt (w.alloc o).drew.drew b p.l := fun o => hm.below (((Below.refl _ _).alloc (Nat.le_refl _) _).drew.drew)
  have hl : Hid (∀ o ty, (Builtin.len_ #[80] ty #[.map (some b)]).run Try.prog (w.alloc o).drew = .ok (.int .i64 p.l.length) (w.alloc o).drew) := hide fun o ty => (hm.below (w' := (w.alloc o).drew) (((Below.refl _ _).alloc (Nat.le_refl _) _).drew)).len ty
  obtain ⟨w', hrun, hm2, hgr⟩ := (hm' (.cells #[.int .i64 k, .string s] 93)).put (n := n) ⟨h0, by omega⟩ (findP_none hno) (by simp [maxLen]; omega) k s
  unfold keyV conV at hrun
  have HM := hide hm2
  have HG := hide hgr
  have HB := hide hg
  have HO := hide hm
  clear hg' hg hm hm' hm2 hgr hno
  go_enter Try.func48, Try.ntmps48
  go_wp2_with fail
  go_region_law (refine step_len_eq rfl (.tmp 10) 80 rfl b p.l.length rfl (hl.out _) ?_)
  all_goals go_wp2_with fail
  all_goals go_region
  all_goals go_wp2
  all_goals go_ret
  all_goals exact ⟨rfl, ⟨b, (set_end HB.out hBb HO.out (((Below.refl _ _).alloc (Nat.le_refl _) _).drew.drew) HG.out).1, hBg, hBb, HM.out⟩, (set_end HB.out hBb HO.out (((Below.refl _ _).alloc (Nat.le_refl _) _).drew.drew) HG.out).2⟩
end Go.Proofs.Ytjpegkginmoekaa

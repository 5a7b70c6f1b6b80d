/- The buffer's functions: Add, First, Pop, Drop, Count, All. -/
import Derived.Test.YtimdnooakpbkpaaBufA
namespace Go.Proofs.Ytimdnooakpbkpaa
open Go.RowKit
set_option linter.unusedVariables false

theorem Try.info30 : (Try.prog.info? 30).map (fun i => (i.zero, i.size, i.bytes)) = some (some (.agg #[.int .i64 0, .int .i64 0, .string ⟨#[]⟩]), 3, 32) := by kernel_rfl

/-- block g is a buffer that holds l; it and its row lie from block B on -/
def BufAt (w : World) (B g : Nat) (l : List Wr) : Prop := ∃ v, Blk w g 55 #[v] ∧ B ≤ g ∧ Own w B 30 3 v l.length (cellsOf l)

/-- what Add answers -/
def addErr (l : List Wr) (x : Wr) : Int :=
  if x.h < 0 ∨ 16384 ≤ x.h then 1 else if x.o < 0 ∨ x.s.size < 1 ∨ 1024 < x.s.size ∨ 8192 - (x.s.size : Int) < x.o then 67 else if l.length = 16 then 3 else 0
/-- what a buffer holds behind an Add -/
def addTo (l : List Wr) (x : Wr) : List Wr := if addErr l x = 0 then l ++ [x] else l

theorem add_arg (g : Nat) (h o : Int) (s : ByteArray) (w : World) (hh : h < 0 ∨ 16384 ≤ h) :
    Calls Try.prog 11 #[.pointer (some ⟨g, 0, none⟩), .agg #[.int .i64 h, .int .i64 o, .string s]] w fun e w' => e = .returned (.int .i64 1) ∧ Below w.heap.size w w' := by
  rcases hh with hh | hh
  · go_enter Try.func11, Try.ntmps11
    go_wp2
    go_ret
    exact ⟨rfl, (Below.refl _ _).alloc (Nat.le_refl _) _⟩
  · have h0 : 0 ≤ h := by omega
    go_enter Try.func11, Try.ntmps11
    go_wp2
    go_ret
    exact ⟨rfl, (Below.refl _ _).alloc (Nat.le_refl _) _⟩

theorem add_space (g : Nat) (h o : Int) (s : ByteArray) (w : World) (h0 : 0 ≤ h) (h1 : h < 16384) (hs : o < 0 ∨ s.size < 1 ∨ 1024 < s.size ∨ 8192 - (s.size : Int) < o) :
    Calls Try.prog 11 #[.pointer (some ⟨g, 0, none⟩), .agg #[.int .i64 h, .int .i64 o, .string s]] w fun e w' => e = .returned (.int .i64 67) ∧ Below w.heap.size w w' := by
  by_cases o0 : o < 0
  · go_enter Try.func11, Try.ntmps11
    go_wp2
    go_ret
    exact ⟨rfl, (Below.refl _ _).alloc (Nat.le_refl _) _⟩
  by_cases s0 : s.size < 1
  · go_enter Try.func11, Try.ntmps11
    go_wp2
    go_ret
    exact ⟨rfl, (Below.refl _ _).alloc (Nat.le_refl _) _⟩
  by_cases s1 : 1024 < s.size
  · go_enter Try.func11, Try.ntmps11
    go_wp2
    go_ret
    exact ⟨rfl, (Below.refl _ _).alloc (Nat.le_refl _) _⟩
  have s2 : 8192 - (s.size : Int) < o := by omega
  go_enter Try.func11, Try.ntmps11
  go_wp2
  go_ret
  exact ⟨rfl, (Below.refl _ _).alloc (Nat.le_refl _) _⟩

theorem add_many (g n : Nat) (hn : n = 16) (A : Option Addr) (cap : Nat) (h o : Int) (s : ByteArray) (w : World) (hg : Blk w g 55 #[.slice A n cap]) (h0 : 0 ≤ h) (h1 : h < 16384) (o0 : 0 ≤ o) (s0 : 1 ≤ s.size) (s1 : s.size ≤ 1024) (s2 : o ≤ 8192 - (s.size : Int)) :
    Calls Try.prog 11 #[.pointer (some ⟨g, 0, none⟩), .agg #[.int .i64 h, .int .i64 o, .string s]] w fun e w' => e = .returned (.int .i64 3) ∧ Below w.heap.size w w' := by
  subst hn
  have hc : ∀ o, (w.alloc o).cell? ⟨g, 0, none⟩ = some (.slice A 16 cap) := fun o => (hg.alloc o).cell 0
  go_enter Try.func11, Try.ntmps11
  go_wp2
  go_ret
  exact ⟨rfl, (Below.refl _ _).alloc (Nat.le_refl _) _⟩

theorem news_at (w : World) (cs : Array Value) (t : TypeId) (g : Nat) (hg : g = w.heap.size) : ∀ j u, cs.toList[j]? = some u → (w.alloc (.cells cs t)).cell? ((⟨g, 0, none⟩ : Addr).add j) = some u := by
  subst hg
  intro j u hu
  rw [Addr.add_lit, (Blk.new w t cs).cell]
  simpa using hu

/-- behind an append onto the buffer's row and the store of the new row into it -/
theorem buf_end {B g n n' : Nat} {w W w1 : World} {v0 v v' : Value} {xs xs' : List Value} (hg : Blk W g 55 #[v0]) (hBg : B ≤ g) (hown : Own W B 30 3 v n xs) (hf : Fr [55, 30] B w W) (hown1 : Own w1 B 30 3 v' n' xs') (hg1 : W.grownBy w1 v.ownBlock) :
    Blk w1 g 55 #[v0] ∧ Blk (w1.setCell ⟨g, 0, none⟩ v') g 55 #[v'] ∧ Own (w1.setCell ⟨g, 0, none⟩ v') B 30 3 v' n' xs' ∧ Fr [55, 30] B w (w1.setCell ⟨g, 0, none⟩ v') := by
  have hne := hown.ne_blk hg (by decide)
  have hb1 : Blk w1 g 55 #[v0] := hg.grown hg1 (fun e => hne e.symm)
  refine ⟨hb1, hb1.set_ 0 v', hown1.setCell (p := ⟨g, 0, none⟩) hb1 (by decide) v', ?_⟩
  refine (hf.grown hg1 fun k hk => ?_).setCell (p := ⟨g, 0, none⟩) hBg hb1 (by decide) v'
  obtain ⟨h1, cs, h2⟩ := hown.kind k hk
  exact ⟨h1, cs, 30, (0, 0), h2, by decide⟩

theorem own_snoc {w : World} {B : Nat} {v : Value} {l : List Wr} {x : Wr} (h : Own w B 30 3 v (l.length + 1) (cellsOf l ++ [.int .i64 x.h, .int .i64 x.o, .string x.s])) : Own w B 30 3 v (l ++ [x]).length (cellsOf (l ++ [x])) := by
  rw [List.length_append, cellsOf_append]
  exact h

set_option maxHeartbeats 400000 in
theorem add_ok (B g : Nat) (l : List Wr) (v : Value) (h o : Int) (s : ByteArray) (w : World) (hg : Blk w g 55 #[v]) (hBg : B ≤ g) (hown : Own w B 30 3 v l.length (cellsOf l)) (hl : l.length < 16) (h0 : 0 ≤ h) (h1 : h < 16384) (o0 : 0 ≤ o) (s0 : 1 ≤ s.size) (s1 : s.size ≤ 1024) (s2 : o ≤ 8192 - (s.size : Int)) :
    Calls Try.prog 11 #[.pointer (some ⟨g, 0, none⟩), .agg #[.int .i64 h, .int .i64 o, .string s]] w fun e w' => e = .returned (.int .i64 0) ∧ BufAt w' B g (l ++ [⟨h, o, s⟩]) ∧ Fr [55, 30] B w w' := by
  obtain ⟨i0, hi, hz0, hz1, hz2⟩ := info_parts Try.info30
  obtain ⟨A, cap, rfl, _, _⟩ := hown.shape
  have hc : ∀ o, (w.alloc o).cell? ⟨g, 0, none⟩ = some (.slice A l.length cap) := fun o => (hg.alloc o).cell 0
  have hc2 : ∀ o o', ((w.alloc o).alloc o').cell? ⟨g, 0, none⟩ = some (.slice A l.length cap) := fun o o' => ((hg.alloc o).alloc o').cell 0
  have hgs := hg.lt
  have hbl : ((l.length : Int) == 16) = false := by simp; omega
  have hO : Hid (∀ o1 o2, Own ((w.alloc o1).alloc o2).drew B 30 3 (.slice A l.length cap) l.length (cellsOf l)) := hide fun o1 o2 => (hown.alloc o1).alloc o2
  have hG : Hid (∀ o1 o2, Blk ((w.alloc o1).alloc o2).drew g 55 #[.slice A l.length cap]) := hide fun o1 o2 => (hg.alloc o1).alloc o2
  have hN : Hid (∀ o1, 0 < 1 → ∃ a, some (⟨w.heap.size + 1, 0, none⟩ : Addr) = some a ∧ ∀ j u, [Value.int .i64 h, .int .i64 o, .string s][j]? = some u → ((w.alloc o1).alloc (.cells #[.int .i64 h, .int .i64 o, .string s] 30)).drew.cell? (a.add j) = some u) :=
    hide fun o1 _ => ⟨_, rfl, news_at (w.alloc o1) #[.int .i64 h, .int .i64 o, .string s] 30 _ (by simp)⟩
  have hone : ∀ u ∈ [Value.int .i64 h, .int .i64 o, .string s], u.oneCell' = true := by simp [Value.oneCell']
  have hB : B ≤ w.heap.size + 2 := by omega
  clear hg hown
  go_enter Try.func11, Try.ntmps11
  go_wp2_with fail
  go_region_law ((refine step_append_Own _ rfl (.tmp 54) (.tmp 56) 50 rfl B 30 i0 _ 3 32 Try.underlying50 hi hz0 hz1 hz2 rfl (by decide) (.slice A l.length cap) l.length (cellsOf l) rfl (hO.out _ _) (some ⟨w.heap.size + 1, 0, none⟩) 1 1 [.int .i64 h, .int .i64 o, .string s] rfl rfl (hN.out _) hone (by unfold maxLen; omega) (by omega) (by simpa using hB) ?_); intro v' w1 hown1 hg1 _; obtain ⟨g', cap', hv', _, _, _, _⟩ := hown1.form (by omega); have hE := hide (buf_end (hG.out _ _) hBg (hO.out _ _) ((((Fr.refl [55, 30] B w).alloc _).alloc _).drew) hown1 hg1); subst hv'; have c1 := hE.out.1.cell 0; have f1 := hE.out.1.frozen 0; simp only [List.getElem?_toArray, List.getElem?_cons_zero] at c1)
  all_goals go_wp2
  all_goals go_ret
  all_goals exact ⟨rfl, ⟨_, hE.out.2.1, hBg, own_snoc hE.out.2.2.1⟩, hE.out.2.2.2⟩

theorem add_any (B g : Nat) (l : List Wr) (x : Wr) (w : World) (hb : BufAt w B g l) (hl : l.length ≤ 16) :
    Calls Try.prog 11 #[.pointer (some ⟨g, 0, none⟩), .agg #[.int .i64 x.h, .int .i64 x.o, .string x.s]] w fun e w' => e = .returned (.int .i64 (addErr l x)) ∧ BufAt w' B g (addTo l x) ∧ Fr [55, 30] B w w' := by
  obtain ⟨v, hg, hBg, hown⟩ := hb
  unfold addTo addErr
  by_cases c1 : x.h < 0 ∨ 16384 ≤ x.h
  · simp only [if_pos c1]
    exact (add_arg g x.h x.o x.s w c1).mono fun e w' ⟨he, hb⟩ => ⟨he, ⟨v, hg.below hb hg.lt, hBg, hown.below hb⟩, Fr.of_below hb⟩
  · by_cases c2 : x.o < 0 ∨ x.s.size < 1 ∨ 1024 < x.s.size ∨ 8192 - (x.s.size : Int) < x.o
    · simp only [if_neg c1, if_pos c2]
      exact (add_space g x.h x.o x.s w (by omega) (by omega) c2).mono fun e w' ⟨he, hb⟩ => ⟨he, ⟨v, hg.below hb hg.lt, hBg, hown.below hb⟩, Fr.of_below hb⟩
    · by_cases c3 : l.length = 16
      · simp only [if_neg c1, if_neg c2, if_pos c3]
        obtain ⟨A, cap, rfl, _, _⟩ := hown.shape
        exact (add_many g l.length c3 A cap x.h x.o x.s w hg (by omega) (by omega) (by omega) (by omega) (by omega) (by omega)).mono fun e w' ⟨he, hb⟩ => ⟨he, ⟨_, hg.below hb hg.lt, hBg, hown.below hb⟩, Fr.of_below hb⟩
      · simp only [if_neg c1, if_neg c2, if_neg c3]
        exact add_ok B g l v x.h x.o x.s w hg hBg hown (by omega) (by omega) (by omega) (by omega) (by omega) (by omega) (by omega)
end Go.Proofs.Ytimdnooakpbkpaa

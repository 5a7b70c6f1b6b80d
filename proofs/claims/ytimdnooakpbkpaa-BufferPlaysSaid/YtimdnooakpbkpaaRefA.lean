/- The reference's buffer: First, Add. -/
import Derived.Test.YtimdnooakpbkpaaBufF
import Derived.Test.YtimdnooakpbkpaaOrdL
import Derived.BigQuiet
import Derived.Deep.QuietTactic
namespace Go.Proofs.Ytimdnooakpbkpaa
open Go.RowKit
set_option linter.unusedVariables false

theorem Try.info45 : (Try.prog.info? 45).map (fun i => (i.zero, i.size, i.bytes)) = some (some (.agg #[.int .i64 0, .int .i64 0, .string ⟨#[]⟩]), 3, 32) := by kernel_rfl

/-- block g is a reference's buffer that holds l -/
def RbAt (w : World) (B g : Nat) (l : List Wr) : Prop := ∃ v, Blk w g 43 #[v] ∧ B ≤ g ∧ Own w B 45 3 v l.length (cellsOf l)
theorem RbAt.below {w w' : World} {B g : Nat} {l : List Wr} (h : RbAt w B g l) (hb : Below w.heap.size w w') : RbAt w' B g l := by
  obtain ⟨v, h1, h2, h3⟩ := h
  exact ⟨v, h1.below hb h1.lt, h2, h3.below hb⟩
theorem RbAt.alloc {w : World} {B g : Nat} {l : List Wr} (h : RbAt w B g l) (o : Obj) : RbAt (w.alloc o) B g l := h.below ((Below.refl _ _).alloc (Nat.le_refl _) _)
theorem RbAt.drewN {w : World} {B g : Nat} {l : List Wr} (h : RbAt w B g l) (n : Nat) : RbAt (w.drewN n) B g l := h
theorem RbAt.fr {ts : List TypeId} {w w' : World} {B B' g : Nat} {l : List Wr} (h : RbAt w B g l) (hf : Fr ts B' w w') (h1 : 43 ∉ ts) (h2 : 45 ∉ ts) : RbAt w' B g l := by
  obtain ⟨v, k1, k2, k3⟩ := h
  exact ⟨v, k1.fr hf h1, k2, k3.fr hf h2⟩
theorem RbAt.lt {w : World} {B g : Nat} {l : List Wr} (h : RbAt w B g l) : B ≤ g ∧ g < w.heap.size := by
  obtain ⟨v, k1, k2, k3⟩ := h
  exact ⟨k2, k1.lt⟩

set_option maxHeartbeats 400000 in
theorem rfst_any (B g : Nat) (l : List Wr) (h : Int) (w : World) (hb : RbAt w B g l) (hl : l.length ≤ 1000) :
    Calls Try.prog 18 #[.pointer (some ⟨g, 0, none⟩), .int .i64 h] w fun e w' => e = .returned (fstVal h l) ∧ Below w.heap.size w w' := by
  obtain ⟨v, hg, hBg, hown⟩ := hb
  obtain ⟨A, cap, rfl, _, _⟩ := hown.shape
  have hlt := hg.lt
  have hc : ∀ o, (w.alloc o).cell? ⟨g, 0, none⟩ = some (.slice A l.length cap) := fun o => (hg.alloc o).cell 0
  have hB : Hid (Blk (w.alloc (.cells #[.int .i64 0, .int .i64 0, .string ⟨#[]⟩] 45)) w.heap.size 45 #[.int .i64 0, .int .i64 0, .string ⟨#[]⟩]) := hide (Blk.new w 45 _)
  go_enter Try.func18, Try.ntmps18
  go_wp2
  go_loop [6] (fun i => ∃ k : Nat, k ≤ l.length ∧ i = .int .i64 k ∧ Hid (idxFrom h k (l.drop k) = idx h l)) (fun i => l.length - (intOf i).toNat)
  case atStart => exact ⟨0, Nat.zero_le _, rfl, hide rfl⟩
  case round =>
    obtain ⟨k, hk, rfl, HI⟩ := hrel
    by_cases hlt : k < l.length
    · obtain ⟨g', cap', hv, _, hgs, _, _⟩ := hown.form (by omega)
      simp only [Value.slice.injEq, true_and] at hv
      obtain ⟨rfl, rfl⟩ := hv
      have hx : l[k]? = some l[k] := List.getElem?_eq_getElem hlt
      generalize l[k] = x at hx
      obtain ⟨q0, q1, q2⟩ := cellsOf_get l k x hx
      have hst := idxFrom_step h l k x hx
      have c : ∀ j u, (cellsOf l)[j]? = some u → (w.alloc (.cells #[.int .i64 0, .int .i64 0, .string ⟨#[]⟩] 45)).cell? ⟨g', j, none⟩ = some u := fun j u hu => by simpa [Addr.add_lit] using (hown.alloc (.cells #[.int .i64 0, .int .i64 0, .string ⟨#[]⟩] 45)).cells (g := g') rfl j u hu
      have c0 := c _ _ q0
      have c1 := c _ _ q1
      have c2 := c _ _ q2
      have HS := hide hst
      have HX := hide hx
      clear hst q0 q1 q2 c hx
      by_cases hxh : x.h = h
      · have HF : Hid (fstVal h l = .tuple #[.agg #[.int .i64 x.h, .int .i64 x.o, .string x.s], .bool true]) := hide (by
          have e : idx h l = k := by rw [← HI.out, HS.out, if_pos hxh]
          unfold fstVal firstOf
          rw [e, if_neg (by omega), Int.toNat_natCast, HX.out])
        have hxb : (x.h == h) = true := by simp [hxh]
        have HXH := hide hxh
        clear hxh
        go_wp2
        rw [HF.out]
        obtain ⟨b0, b1, b2, z0, z1, z2⟩ := blk3 hB.out
        refine bodyPost_ret (v := .tuple #[.agg #[.int .i64 x.h, .int .i64 x.o, .string x.s], .bool true]) (by simp [results, Try.results18, go_sem, b0, b1, b2]) rfl ⟨rfl, ?_⟩
        exact (Below.refl w.heap.size w).alloc (Nat.le_refl _) _
      · have hxb : (x.h == h) = false := by simp [hxh]
        have HXH := hide hxh
        clear hxh
        go_wp2
        go_round
        case rel => exact ⟨k + 1, by omega, by go_num, hide (by rw [← HI.out, HS.out, if_neg HXH.out])⟩
        case measure => simp [intOf]; omega
    · have hkl : k = l.length := by omega
      have HI2 : Hid (idx h l = -1) := hide (by rw [← HI.out, hkl, List.drop_length]; rfl)
      have HF : Hid (fstVal h l = .tuple #[.agg #[.int .i64 0, .int .i64 0, .string ⟨#[]⟩], .bool false]) := hide (by unfold fstVal firstOf; rw [HI2.out, if_pos (by omega)])
      clear hkl
      go_wp2
      rw [HF.out]
      obtain ⟨b0, b1, b2, z0, z1, z2⟩ := blk3 hB.out
      refine bodyPost_ret (v := .tuple #[.agg #[.int .i64 0, .int .i64 0, .string ⟨#[]⟩], .bool false]) (by simp [results, Try.results18, go_sem, b0, b1, b2]) rfl ⟨rfl, ?_⟩
      exact (Below.refl w.heap.size w).alloc (Nat.le_refl _) _
end Go.Proofs.Ytimdnooakpbkpaa

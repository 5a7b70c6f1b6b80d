/- The law's Same. -/
import Derived.Test.YtimdnooakpbkpaaRefA
namespace Go.Proofs.Ytimdnooakpbkpaa
open Go.RowKit
set_option linter.unusedVariables false

set_option maxHeartbeats 1600000 in
theorem same_any (B1 B2 : Nat) (v1 v2 : Value) (l : List Wr) (w : World) (h1 : Own w B1 30 3 v1 l.length (cellsOf l)) (h2 : Own w B2 45 3 v2 l.length (cellsOf l)) (hl : l.length ≤ 1000) :
    Calls Try.prog 20 #[v1, v2] w fun e w' => e = .returned (.bool true) ∧ ∃ m, w' = w.drewN m := by
  obtain ⟨A1, cap1, rfl, _, _⟩ := h1.shape
  obtain ⟨A2, cap2, rfl, _, _⟩ := h2.shape
  have H1 := hide h1
  have H2 := hide h2
  clear h1 h2
  go_enter Try.func20, Try.ntmps20
  go_wp2
  go_loopw [5] (fun i wr => ∃ k m : Nat, k ≤ l.length ∧ i = .int .i64 k ∧ wr = w.drewN m) (fun i _ => l.length - (intOf i).toNat)
  case atStart => exact ⟨0, 0, Nat.zero_le _, rfl, rfl⟩
  case round =>
    obtain ⟨k, m, hk, rfl, rfl⟩ := hrel
    by_cases hlt : k < l.length
    · obtain ⟨g1, c1, hv1, _, _, _, _⟩ := H1.out.form (by omega)
      simp only [Value.slice.injEq, true_and] at hv1
      obtain ⟨rfl, rfl⟩ := hv1
      obtain ⟨g2, c2, hv2, _, _, _, _⟩ := H2.out.form (by omega)
      simp only [Value.slice.injEq, true_and] at hv2
      obtain ⟨rfl, rfl⟩ := hv2
      have hx : l[k]? = some l[k] := List.getElem?_eq_getElem hlt
      generalize l[k] = x at hx
      obtain ⟨q0, q1, q2⟩ := cellsOf_get l k x hx
      have a : ∀ n j u, (cellsOf l)[j]? = some u → (w.drewN n).cell? ⟨g1, j, none⟩ = some u := fun n j u hu => by simpa [Addr.add_lit] using (H1.out.drewN n).cells (g := g1) rfl j u hu
      have b : ∀ n j u, (cellsOf l)[j]? = some u → (w.drewN n).cell? ⟨g2, j, none⟩ = some u := fun n j u hu => by simpa [Addr.add_lit] using (H2.out.drewN n).cells (g := g2) rfl j u hu
      have a0 := fun n => a n _ _ q0
      have a1 := fun n => a n _ _ q1
      have a2 := fun n => a n _ _ q2
      have b0 := fun n => b n _ _ q0
      have b1 := fun n => b n _ _ q1
      have b2 := fun n => b n _ _ q2
      clear a b q0 q1 q2 hx
      go_wp2_with fail
      go_quiet (fail)
      go_wp2
      go_roundw
      case rel => exact ⟨k + 1, _, by omega, by go_num, rfl⟩
      case measure => simp [intOf]; omega
    · go_wp2
      go_ret
      exact ⟨rfl, m, rfl⟩
end Go.Proofs.Ytimdnooakpbkpaa

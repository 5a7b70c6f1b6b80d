/- Units: Do where its answer is known; what wakes. -/
import Derived.Test.YtjpegkginmoekaaUnC
namespace Go.Proofs.Ytjpegkginmoekaa
open Go.RowKit
set_option linter.unusedVariables false

/-- the answer's agg, spelled out -/
def ansV (code n : Int) (d : ByteArray) (ep : Int) : Value := .agg #[.int .i64 code, .int .i64 n, .string d, .int .i64 0, .slice none 0 0, .int .i64 0, .int .i64 0, .int .i64 ep]
theorem do_to (B g : Nat) (u u' : US) (hp : u.p.Ok) (a : Ak) (code n : Int) (d : ByteArray) (ep : Int) (w : World) (hb : UnAt w B g u) (hr : doR u a = (⟨code, n, d, ep⟩, u')) :
    Calls Try.prog 16 #[.pointer (some ⟨g, 0, none⟩), .agg a.cells] w fun e w' => e = .returned (.agg #[.int .i64 code, .int .i64 n, .string d, .int .i64 0, .slice none 0 0, .int .i64 0, .int .i64 0, .int .i64 ep]) ∧ UnAt w' B g u' ∧ Fr [76, 82] B w w' := by
  have := do_any B g u hp a w hb
  rwa [hr] at this
theorem doR_ok {u : US} (hp : u.p.Ok) (a : Ak) : (doR u a).2.p.Ok := by
  unfold doR
  repeat' split
  all_goals first | exact hp | exact writeP_ok hp _ _ | exact fillP_ok hp _ | exact trimP_ok hp _

set_option maxRecDepth 100000 in
theorem do_nil (a : Ak) (w : World) : Calls Try.prog 16 #[.pointer none, .agg a.cells] w fun e w' => e = .returned (.agg #[.int .i64 1, .int .i64 0, .string ⟨#[]⟩, .int .i64 0, .slice none 0 0, .int .i64 0, .int .i64 0, .int .i64 0]) ∧ Below w.heap.size w w' := by
  obtain ⟨ak, au, ae, apg, asz, an, ad, ape, aca, acn, acc⟩ := a
  unfold Ak.cells
  go_enter Try.func16, Try.ntmps16
  go_wp2
  refine bodyPost_ret (v := An.v ⟨1, 0, ⟨#[]⟩, 0⟩) (by simp [results, Try.results16, go_sem, An.v, ansC]) rfl ⟨rfl, ?_⟩
  exact ((Below.refl _ _).alloc (Nat.le_refl _) _).alloc (by simp) _

def uw1 : US := ⟨⟨9, 0, [⟨1, 1, ⟨#[97]⟩⟩]⟩, 0, false⟩
def uw2 : US := ⟨⟨9, 0, [⟨1, 1, ⟨#[97]⟩⟩]⟩, 3, false⟩
theorem uw1_eq : doR (newU 9) ⟨1, 0, 0, 1, 0, 0, ⟨#[97]⟩, 0, none, 0, 0⟩ = (⟨0, 0, ⟨#[]⟩, 0⟩, uw1) := rfl
theorem uw2_eq : doR uw1 ⟨5, 0, 3, 0, 0, 0, ⟨#[]⟩, 0, none, 0, 0⟩ = (⟨0, 2, ⟨#[]⟩, 3⟩, uw2) := rfl
theorem uw3_eq : doR uw2 ⟨1, 0, 2, 2, 0, 0, ⟨#[98]⟩, 0, none, 0, 0⟩ = (⟨40, 0, ⟨#[]⟩, 3⟩, uw2) := rfl
theorem uw4_eq : doR uw2 ⟨3, 0, 3, 1, 0, 0, ⟨#[]⟩, 0, none, 0, 0⟩ = (⟨0, 0, ⟨#[97]⟩, 3⟩, uw2) := rfl
theorem newU_ok (r : Int) (h0 : 1 ≤ r) (h1 : r ≤ 4096) : (newU r).p.Ok := newP_ok r h0 h1
theorem uw1_ok : uw1.p.Ok := by
  have := doR_ok (newU_ok 9 (by decide) (by decide)) ⟨1, 0, 0, 1, 0, 0, ⟨#[97]⟩, 0, none, 0, 0⟩
  rwa [uw1_eq] at this
theorem uw2_ok : uw2.p.Ok := uw1_ok

set_option maxRecDepth 100000 in
set_option maxHeartbeats 800000 in
theorem uwakes_any (w : World) : Calls Try.prog 14 #[] w fun e w' => e = .returned (.bool true) ∧ Below w.heap.size w w' := by
  go_enter Try.func14, Try.ntmps14
  go_wp2_with fail
  refine (unew_yes 9 _ (by decide) (by decide)).mono ?_
  rintro e w1 ⟨rfl, hb1, hf1⟩
  go_wp2_with fail
  refine (do_to w.heap.size (w.heap.size + 2) (newU 9) uw1 (newU_ok 9 (by decide) (by decide)) ⟨1, 0, 0, 1, 0, 0, ⟨#[97]⟩, 0, none, 0, 0⟩ 0 0 ⟨#[]⟩ 0 _ hb1 uw1_eq).mono ?_
  rintro e w2 ⟨rfl, hb2, hf2⟩
  have F2 : Hid (Fr [76, 82] w.heap.size w w2) := hide ((Fr.of_below hf1).trans hf2)
  have U2 := hide hb2
  clear hb1 hf1 hb2 hf2
  go_wp2_with fail
  refine (do_to w.heap.size (w.heap.size + 2) uw1 uw2 uw1_ok ⟨5, 0, 3, 0, 0, 0, ⟨#[]⟩, 0, none, 0, 0⟩ 0 2 ⟨#[]⟩ 3 _ (U2.out.alloc _) uw2_eq).mono ?_
  rintro e w3 ⟨rfl, hb3, hf3⟩
  have F3 : Hid (Fr [76, 82] w.heap.size w w3) := hide ((F2.out.alloc _).trans hf3)
  have A3 : Hid (Blk w3 w2.heap.size 41 _) := hide ((Blk.new w2 41 _).fr hf3 (by decide))
  have U3 := hide hb3
  clear hb3 hf3 F2 U2
  go_wp2_with fail
  refine (do_to w.heap.size (w.heap.size + 2) uw2 uw2 uw2_ok ⟨1, 0, 2, 2, 0, 0, ⟨#[98]⟩, 0, none, 0, 0⟩ 40 0 ⟨#[]⟩ 3 _ (U3.out.alloc _) uw3_eq).mono ?_
  rintro e w4 ⟨rfl, hb4, hf4⟩
  have F4 : Hid (Fr [76, 82] w.heap.size w w4) := hide ((F3.out.alloc _).trans hf4)
  have A4 := hide ((A3.out.alloc _).fr hf4 (by decide))
  have B4 : Hid (Blk w4 w3.heap.size 41 _) := hide ((Blk.new w3 41 _).fr hf4 (by decide))
  have U4 := hide hb4
  clear hb4 hf4 F3 U3 A3
  go_wp2_with fail
  refine (do_to w.heap.size (w.heap.size + 2) uw2 uw2 uw2_ok ⟨3, 0, 3, 1, 0, 0, ⟨#[]⟩, 0, none, 0, 0⟩ 0 0 ⟨#[97]⟩ 3 _ (U4.out.alloc _) uw4_eq).mono ?_
  rintro e w5 ⟨rfl, hb5, hf5⟩
  have F5 : Hid (Fr [76, 82] w.heap.size w w5) := hide ((F4.out.alloc _).trans hf5)
  have A5 := hide ((A4.out.alloc _).fr hf5 (by decide))
  have B5 := hide ((B4.out.alloc _).fr hf5 (by decide))
  have C5 : Hid (Blk w5 w4.heap.size 41 _) := hide ((Blk.new w4 41 _).fr hf5 (by decide))
  clear hb5 hf5 F4 U4 A4 B4
  have a0 : ∀ o, (w5.alloc o).cell? ⟨w2.heap.size, 0, none⟩ = some (.int .i64 0) := fun o => (A5.out.alloc o).cell 0
  have b1 : ∀ o, (w5.alloc o).cell? ⟨w3.heap.size, 1, none⟩ = some (.int .i64 2) := fun o => (B5.out.alloc o).cell 1
  have b6 : ∀ o, (w5.alloc o).cell? ⟨w3.heap.size, 7, none⟩ = some (.int .i64 3) := fun o => (B5.out.alloc o).cell 7
  have d0 : ∀ o, (w5.alloc o).cell? ⟨w4.heap.size, 0, none⟩ = some (.int .i64 40) := fun o => (C5.out.alloc o).cell 0
  have d6 : ∀ o, (w5.alloc o).cell? ⟨w4.heap.size, 7, none⟩ = some (.int .i64 3) := fun o => (C5.out.alloc o).cell 7
  clear A5 B5 C5
  go_wp2
  go_ret
  exact ⟨rfl, (F5.out.alloc _).below (Nat.le_refl _)⟩
end Go.Proofs.Ytjpegkginmoekaa

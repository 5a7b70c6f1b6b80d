/- Units: New, Crash, Start, Down, Epoch, Pages, doing, Do. -/
import Derived.Test.YtjpegkginmoekaaUnA
namespace Go.Proofs.Ytjpegkginmoekaa
open Go.RowKit
set_option linter.unusedVariables false

def newU (room : Int) : US := ⟨newP room, 0, false⟩
theorem unew_no (room : Int) (w : World) (h : room < 1 ∨ 4096 < room) : Calls Try.prog 11 #[.int .i64 room] w fun e w' => e = .returned (.tuple #[.pointer none, .int .i64 1]) ∧ w = w' := by
  go_enter Try.func11, Try.ntmps11
  go_wp2_with fail
  refine (new_no room _ h).mono ?_
  rintro e w1 ⟨rfl, rfl⟩
  go_wp2
  go_ret2
  exact ⟨rfl, rfl⟩
theorem unew_yes (room : Int) (w : World) (h0 : 1 ≤ room) (h1 : room ≤ 4096) : Calls Try.prog 11 #[.int .i64 room] w fun e w' => e = .returned (.tuple #[.pointer (some ⟨w.heap.size + 2, 0, none⟩), .int .i64 0]) ∧ UnAt w' w.heap.size (w.heap.size + 2) (newU room) ∧ Below w.heap.size w w' := by
  go_enter Try.func11, Try.ntmps11
  go_wp2_with fail
  refine (new_yes room _ h0 h1).mono ?_
  rintro e w1 ⟨rfl, hb1, hf1, hs1⟩
  have HS := hide hs1
  clear hs1
  go_wp2
  go_ret2
  refine ⟨by rw [HS.out]; rfl, ⟨w.heap.size + 1, ?_, by omega, hb1.alloc _⟩, hf1.alloc hf1.size _⟩
  have := Blk.new w1 76 #[.pointer (some ⟨w.heap.size + 1, 0, none⟩), .int .i64 0, .bool false]
  rwa [HS.out] at this

theorem crash_any (B g : Nat) (u : US) (w : World) (hb : UnAt w B g u) : Calls Try.prog 18 #[.pointer (some ⟨g, 0, none⟩)] w fun e w' => e = .returned (.tuple #[]) ∧ UnAt w' B g { u with dn := true } ∧ Fr [76, 82] B w w' := by
  obtain ⟨q, hg, hBg, hq⟩ := hb
  obtain ⟨c0, c1, c2, z0, z1, z2⟩ := blk3 hg
  have HG := hide hg
  have HQ := hide hq
  clear hg hq
  go_enter Try.func18, Try.ntmps18
  go_wp2
  go_end0
  have hqg : g ≠ q := by
    obtain ⟨b, h1, _⟩ := HQ.out
    exact HG.out.ne_ h1 (by decide)
  refine ⟨rfl, ⟨q, HG.out.set_ 2 (.bool true), hBg, ?_⟩, (Fr.refl _ _ _).setCell (p := ⟨g, 2, none⟩) hBg HG.out (by decide) _⟩
  obtain ⟨b, h1, h2, h3, h4⟩ := HQ.out
  exact ⟨b, h1.far (p := ⟨g, 2, none⟩) (fun e => hqg e.symm) _, h2, h3, h4.setCell (p := ⟨g, 2, none⟩) (h4.ne_blk HG.out) _⟩
theorem start_any (B g : Nat) (u : US) (w : World) (hb : UnAt w B g u) : Calls Try.prog 19 #[.pointer (some ⟨g, 0, none⟩)] w fun e w' => e = .returned (.tuple #[]) ∧ UnAt w' B g { u with dn := false } ∧ Fr [76, 82] B w w' := by
  obtain ⟨q, hg, hBg, hq⟩ := hb
  obtain ⟨c0, c1, c2, z0, z1, z2⟩ := blk3 hg
  have HG := hide hg
  have HQ := hide hq
  clear hg hq
  go_enter Try.func19, Try.ntmps19
  go_wp2
  go_end0
  have hqg : g ≠ q := by
    obtain ⟨b, h1, _⟩ := HQ.out
    exact HG.out.ne_ h1 (by decide)
  refine ⟨rfl, ⟨q, HG.out.set_ 2 (.bool false), hBg, ?_⟩, (Fr.refl _ _ _).setCell (p := ⟨g, 2, none⟩) hBg HG.out (by decide) _⟩
  obtain ⟨b, h1, h2, h3, h4⟩ := HQ.out
  exact ⟨b, h1.far (p := ⟨g, 2, none⟩) (fun e => hqg e.symm) _, h2, h3, h4.setCell (p := ⟨g, 2, none⟩) (h4.ne_blk HG.out) _⟩
theorem crash_nil (w : World) : Calls Try.prog 18 #[.pointer none] w fun e w' => e = .returned (.tuple #[]) ∧ w = w' := by
  go_enter Try.func18, Try.ntmps18
  go_wp2
  go_end0
  exact ⟨rfl, rfl⟩
theorem start_nil (w : World) : Calls Try.prog 19 #[.pointer none] w fun e w' => e = .returned (.tuple #[]) ∧ w = w' := by
  go_enter Try.func19, Try.ntmps19
  go_wp2
  go_end0
  exact ⟨rfl, rfl⟩
theorem down_any (B g : Nat) (u : US) (w : World) (hb : UnAt w B g u) : Calls Try.prog 20 #[.pointer (some ⟨g, 0, none⟩)] w fun e w' => e = .returned (.bool u.dn) ∧ w = w' := by
  obtain ⟨q, hg, hBg, hq⟩ := hb
  obtain ⟨c0, c1, c2, z0, z1, z2⟩ := blk3 hg
  clear hg hq
  go_enter Try.func20, Try.ntmps20
  go_wp2
  go_ret
  exact ⟨rfl, rfl⟩
theorem epoch_any (B g : Nat) (u : US) (w : World) (hb : UnAt w B g u) : Calls Try.prog 21 #[.pointer (some ⟨g, 0, none⟩)] w fun e w' => e = .returned (.int .i64 u.ep) ∧ w = w' := by
  obtain ⟨q, hg, hBg, hq⟩ := hb
  obtain ⟨c0, c1, c2, z0, z1, z2⟩ := blk3 hg
  clear hg hq
  go_enter Try.func21, Try.ntmps21
  go_wp2
  go_ret
  exact ⟨rfl, rfl⟩
theorem pages_any (B g : Nat) (u : US) (w : World) (hb : UnAt w B g u) : Calls Try.prog 22 #[.pointer (some ⟨g, 0, none⟩)] w fun e w' => (∃ q, e = .returned (.pointer (some ⟨q, 0, none⟩)) ∧ PgAt w B q u.p) ∧ w = w' := by
  obtain ⟨q, hg, hBg, hq⟩ := hb
  obtain ⟨c0, c1, c2, z0, z1, z2⟩ := blk3 hg
  have HQ := hide hq
  clear hg hq
  go_enter Try.func22, Try.ntmps22
  go_wp2
  go_ret
  exact ⟨⟨q, rfl, HQ.out⟩, rfl⟩
theorem down_nil (w : World) : Calls Try.prog 20 #[.pointer none] w fun e w' => e = .returned (.bool true) ∧ w = w' := by
  go_enter Try.func20, Try.ntmps20
  go_wp2
  go_ret
  exact ⟨rfl, rfl⟩
theorem epoch_nil (w : World) : Calls Try.prog 21 #[.pointer none] w fun e w' => e = .returned (.int .i64 0) ∧ w = w' := by
  go_enter Try.func21, Try.ntmps21
  go_wp2
  go_ret
  exact ⟨rfl, rfl⟩
theorem pages_nil (w : World) : Calls Try.prog 22 #[.pointer none] w fun e w' => e = .returned (.pointer none) ∧ w = w' := by
  go_enter Try.func22, Try.ntmps22
  go_wp2
  go_ret
  exact ⟨rfl, rfl⟩

theorem tab0 (w : World) : (Instr.index 97 (.agg #[.nilFunc, .func (.func 53) #[] #[], .func (.func 54) #[] #[], .func (.func 55) #[] #[], .func (.func 56) #[] #[], .func (.func 57) #[] #[]]) (.int .i64 0)).run Try.prog w = .ok .nilFunc w := by kernel_rfl
theorem tab1 (w : World) : (Instr.index 97 (.agg #[.nilFunc, .func (.func 53) #[] #[], .func (.func 54) #[] #[], .func (.func 55) #[] #[], .func (.func 56) #[] #[], .func (.func 57) #[] #[]]) (.int .i64 1)).run Try.prog w = .ok (.func (.func 53) #[] #[]) w := by kernel_rfl
theorem tab2 (w : World) : (Instr.index 97 (.agg #[.nilFunc, .func (.func 53) #[] #[], .func (.func 54) #[] #[], .func (.func 55) #[] #[], .func (.func 56) #[] #[], .func (.func 57) #[] #[]]) (.int .i64 2)).run Try.prog w = .ok (.func (.func 54) #[] #[]) w := by kernel_rfl
theorem tab3 (w : World) : (Instr.index 97 (.agg #[.nilFunc, .func (.func 53) #[] #[], .func (.func 54) #[] #[], .func (.func 55) #[] #[], .func (.func 56) #[] #[], .func (.func 57) #[] #[]]) (.int .i64 3)).run Try.prog w = .ok (.func (.func 55) #[] #[]) w := by kernel_rfl
theorem tab4 (w : World) : (Instr.index 97 (.agg #[.nilFunc, .func (.func 53) #[] #[], .func (.func 54) #[] #[], .func (.func 55) #[] #[], .func (.func 56) #[] #[], .func (.func 57) #[] #[]]) (.int .i64 4)).run Try.prog w = .ok (.func (.func 56) #[] #[]) w := by kernel_rfl
theorem tab5 (w : World) : (Instr.index 97 (.agg #[.nilFunc, .func (.func 53) #[] #[], .func (.func 54) #[] #[], .func (.func 55) #[] #[], .func (.func 56) #[] #[], .func (.func 57) #[] #[]]) (.int .i64 5)).run Try.prog w = .ok (.func (.func 57) #[] #[]) w := by kernel_rfl
set_option maxRecDepth 100000 in
theorem doing_no (k : Int) (w : World) (h : k < 1 ∨ 5 < k) : Calls Try.prog 46 #[.int .i64 k] w fun e w' => e = .returned .nilFunc ∧ w = w' := by
  by_cases h0 : k < 0
  · go_enter Try.func46, Try.ntmps46
    go_wp2
    go_ret
    exact ⟨rfl, rfl⟩
  · by_cases h5 : 5 < k
    · have h0' : 0 ≤ k := by omega
      go_enter Try.func46, Try.ntmps46
      go_wp2
      go_ret
      exact ⟨rfl, rfl⟩
    · obtain rfl : k = 0 := by omega
      have ht := tab0
      go_enter Try.func46, Try.ntmps46
      go_wp2
      go_ret
      exact ⟨rfl, rfl⟩
set_option maxRecDepth 100000 in
theorem doing_1 (w : World) : Calls Try.prog 46 #[.int .i64 1] w fun e w' => e = .returned (.func (.func 53) #[] #[]) ∧ w = w' := by
  have ht := tab1
  go_enter Try.func46, Try.ntmps46
  go_wp2
  go_ret
  exact ⟨rfl, rfl⟩
set_option maxRecDepth 100000 in
theorem doing_2 (w : World) : Calls Try.prog 46 #[.int .i64 2] w fun e w' => e = .returned (.func (.func 54) #[] #[]) ∧ w = w' := by
  have ht := tab2
  go_enter Try.func46, Try.ntmps46
  go_wp2
  go_ret
  exact ⟨rfl, rfl⟩
set_option maxRecDepth 100000 in
theorem doing_3 (w : World) : Calls Try.prog 46 #[.int .i64 3] w fun e w' => e = .returned (.func (.func 55) #[] #[]) ∧ w = w' := by
  have ht := tab3
  go_enter Try.func46, Try.ntmps46
  go_wp2
  go_ret
  exact ⟨rfl, rfl⟩
set_option maxRecDepth 100000 in
theorem doing_4 (w : World) : Calls Try.prog 46 #[.int .i64 4] w fun e w' => e = .returned (.func (.func 56) #[] #[]) ∧ w = w' := by
  have ht := tab4
  go_enter Try.func46, Try.ntmps46
  go_wp2
  go_ret
  exact ⟨rfl, rfl⟩
set_option maxRecDepth 100000 in
theorem doing_5 (w : World) : Calls Try.prog 46 #[.int .i64 5] w fun e w' => e = .returned (.func (.func 57) #[] #[]) ∧ w = w' := by
  have ht := tab5
  go_enter Try.func46, Try.ntmps46
  go_wp2
  go_ret
  exact ⟨rfl, rfl⟩
end Go.Proofs.Ytjpegkginmoekaa

/- The reference's unit: Do, kind by kind. -/
import Derived.Test.YtjpegkginmoekaaUnH
namespace Go.Proofs.Ytjpegkginmoekaa
open Go.RowKit
set_option linter.unusedVariables false

/-- the three blocks that the reference's Do lays -/
def W3 (w : World) (ak au ae apg asz an : Int) (ad : ByteArray) (ape : Int) (aca : Option Addr) (acn acc : Nat) (ep : Int) : World :=
  ((w.alloc (.cells #[.int .i64 ak, .int .i64 au, .int .i64 ae, .int .i64 apg, .int .i64 asz, .int .i64 an, .string ad, .int .i64 ape, .slice aca acn acc] 36)).alloc (.cells #[.int .i64 0, .int .i64 0, .string ⟨#[]⟩, .int .i64 0, .slice none 0 0, .int .i64 0, .int .i64 0, .int .i64 0] 41)).alloc (.cells #[.int .i64 0, .int .i64 0, .string ⟨#[]⟩, .int .i64 0, .slice none 0 0, .int .i64 0, .int .i64 0, .int .i64 ep] 41)
section
variable (w : World) (ak au ae apg asz an : Int) (ad : ByteArray) (ape : Int) (aca : Option Addr) (acn acc : Nat) (ep : Int)
theorem W3.box : Blk (W3 w ak au ae apg asz an ad ape aca acn acc ep) w.heap.size 36 #[.int .i64 ak, .int .i64 au, .int .i64 ae, .int .i64 apg, .int .i64 asz, .int .i64 an, .string ad, .int .i64 ape, .slice aca acn acc] := (W2.box w ak au ae apg asz an ad ape aca acn acc).alloc _
theorem W3.res : Blk (W3 w ak au ae apg asz an ad ape aca acn acc ep) (w.heap.size + 1) 41 #[.int .i64 0, .int .i64 0, .string ⟨#[]⟩, .int .i64 0, .slice none 0 0, .int .i64 0, .int .i64 0, .int .i64 0] := (W2.res w ak au ae apg asz an ad ape aca acn acc).alloc _
theorem W3.ans : Blk (W3 w ak au ae apg asz an ad ape aca acn acc ep) (w.heap.size + 2) 41 #[.int .i64 0, .int .i64 0, .string ⟨#[]⟩, .int .i64 0, .slice none 0 0, .int .i64 0, .int .i64 0, .int .i64 ep] := by
  have := Blk.new (W2 w ak au ae apg asz an ad ape aca acn acc) 41 #[.int .i64 0, .int .i64 0, .string ⟨#[]⟩, .int .i64 0, .slice none 0 0, .int .i64 0, .int .i64 0, .int .i64 ep]
  rw [W2.size] at this
  exact this
theorem W3.below : Below w.heap.size w (W3 w ak au ae apg asz an ad ape aca acn acc ep) := (W2.below w ak au ae apg asz an ad ape aca acn acc).alloc (by rw [W2.size]; omega) _
end
theorem rread_g (B g : Nat) (p : PS) (n : Int) (w : World) (hp : p.Ok) (hb : RfAt w B g p) :
    Calls Try.prog 40 #[.pointer (some ⟨g, 0, none⟩), .int .i64 n] w fun e w' => e = .returned (.tuple #[.string (readP p n).1, .int .i64 (readP p n).2]) ∧ RfAt w' B g p ∧ w.grownBy w' (some g) :=
  (rread_any B g p n w hp hb).mono (by
    rintro e w' ⟨rfl, m, rfl⟩
    exact ⟨rfl, hb.drewN m, grown_drewN w m _⟩)
theorem far_cell_d {w : World} {b o b' o' : Nat} {u v : Value} (h : w.drew.cell? ⟨b, o, none⟩ = some v) (hne : b ≠ b') : (w.setCell ⟨b', o', none⟩ u).drew.cell? ⟨b, o, none⟩ = some v := far_cell (w := w) h hne
theorem RfAt.blk {w : World} {B g : Nat} {p : PS} (h : RfAt w B g p) : (∃ v, Blk w g 85 #[v, .int .i64 p.room, .int .i64 p.edge]) ∧ True := by
  obtain ⟨v, h1, _⟩ := h
  exact ⟨⟨v, h1⟩, trivial⟩

set_option maxRecDepth 100000 in
set_option maxHeartbeats 1000000 in
theorem rdo_new_1 (B g : Nat) (u : US) (hp : u.p.Ok) (au ae apg asz an : Int) (ad : ByteArray) (ape : Int) (aca : Option Addr) (acn acc : Nat) (w : World) (hb : RuAt w B g u) (hd : u.dn = false) (he : u.ep ≤ ae) :
    Calls Try.prog 17 #[.pointer (some ⟨g, 0, none⟩), .agg (Ak.mk 1 au ae apg asz an ad ape aca acn acc).cells] w fun e w' => e = .returned (An.v ⟨(writeErr u.p apg ad), 0, ⟨#[]⟩, u.ep⟩) ∧ RuAt w' B g { u with p := writeP u.p apg ad } ∧ Fn B w w' := by
  obtain ⟨q, hg, hBg, hq⟩ := hb
  have hBq := hq.lt.1
  have hqs := hq.lt.2
  unfold Ak.cells
  rw [hd] at hg
  have hgs := hg.lt
  have hgw := hg.below (W2.below w 1 au ae apg asz an ad ape aca acn acc) hgs
  have g2 := (blk3 hgw).2.2.1
  have g1 := (blk3 hgw).2.1
  have g1' : ∀ o, ((W2 w 1 au ae apg asz an ad ape aca acn acc).alloc o).cell? ⟨g, 1, none⟩ = some (.int .i64 u.ep) := fun o => (blk3 (hgw.alloc o)).2.1
  unfold W2 at g2 g1 g1'
  have G3 : Hid (∀ n, Blk ((W3 w 1 au ae apg asz an ad ape aca acn acc u.ep).drewN n) g 45 #[.pointer (some ⟨q, 0, none⟩), .int .i64 u.ep, .bool false]) := hide (fun n => (hgw.alloc _).drewN n)
  have X3 : Hid (∀ n, Blk ((W3 w 1 au ae apg asz an ad ape aca acn acc u.ep).drewN n) w.heap.size 36 _) := hide (fun n => (W3.box w 1 au ae apg asz an ad ape aca acn acc u.ep).drewN n)
  have R3 : Hid (∀ n, Blk ((W3 w 1 au ae apg asz an ad ape aca acn acc u.ep).drewN n) (w.heap.size + 1) 41 _) := hide (fun n => (W3.res w 1 au ae apg asz an ad ape aca acn acc u.ep).drewN n)
  have A3 : Hid (∀ n, Blk ((W3 w 1 au ae apg asz an ad ape aca acn acc u.ep).drewN n) (w.heap.size + 2) 41 _) := hide (fun n => (W3.ans w 1 au ae apg asz an ad ape aca acn acc u.ep).drewN n)
  have Q3 : Hid (∀ n, RfAt ((W3 w 1 au ae apg asz an ad ape aca acn acc u.ep).drewN n) B q u.p) := hide (fun n => (hq.below (W3.below w 1 au ae apg asz an ad ape aca acn acc u.ep)).drewN n)
  have F3 : Hid (∀ n, Fn B w ((W3 w 1 au ae apg asz an ad ape aca acn acc u.ep).drewN n)) := hide (fun n => (Fn.of_below (W3.below w 1 au ae apg asz an ad ape aca acn acc u.ep)).drewN n)
  clear hg hq hgw
  go_enter Try.func17, Try.ntmps17
  go_wp2_with fail
  go_quiet (fail)
  go_wp2_with fail
  have HK0 : Hid (((W3 w 1 au ae apg asz an ad ape aca acn acc u.ep).drewN nq).drew.cell? ⟨g, 0, none⟩ = some (.pointer (some ⟨q, 0, none⟩)) ∧ ((W3 w 1 au ae apg asz an ad ape aca acn acc u.ep).drewN nq).drew.cell? ⟨w.heap.size, 3, none⟩ = some (.int .i64 apg) ∧ ((W3 w 1 au ae apg asz an ad ape aca acn acc u.ep).drewN nq).drew.cell? ⟨w.heap.size, 6, none⟩ = some (.string ad)) := hide ⟨(G3.out nq).cell 0, (X3.out nq).cell 3, (X3.out nq).cell 6⟩
  unfold W3 at HK0
  go_region_held3 (fun w' => w'.cell? ⟨g, 0, none⟩ = some (.pointer (some ⟨q, 0, none⟩)) ∧ w'.cell? ⟨w.heap.size, 3, none⟩ = some (.int .i64 apg) ∧ w'.cell? ⟨w.heap.size, 6, none⟩ = some (.string ad)) (first | (with_reducible exact HK.out) | (obtain ⟨k1, k2, k3⟩ := HK.out; refine ⟨?_, ?_, ?_⟩ <;> (iterate 2 (first | (with_reducible refine far_cell ?_ (by omega)) | skip)) <;> first | (with_reducible exact k1) | (with_reducible exact k2) | (with_reducible exact k3)) | (with_reducible exact HK0.out)) ((go_at_call 37; refine (rwrite_any B q u.p apg ad _ hp (by exact Q3.out (nq + 1))).mono ?_; rintro e w1 ⟨rfl, hb1, hg1⟩; have hx := X3.out (nq + 1); have hq4 := hb1; have G4 := hide ((G3.out (nq + 1)).grown hg1 (fun e => by have := (Q3.out 0).blk.2; obtain ⟨v, k1⟩ := (Q3.out (nq + 1)).blk.1; exact (G3.out (nq + 1)).ne_ k1 (by decide) (by injection e))); have X4 := hide ((X3.out (nq + 1)).grown hg1 (fun e => by injection e; omega)); have R4 := hide ((R3.out (nq + 1)).grown hg1 (fun e => by injection e; omega)); have A4 := hide ((A3.out (nq + 1)).grown hg1 (fun e => by injection e; omega)); have F4 := hide ((F3.out (nq + 1)).grown (Q3.out (nq + 1)).blk.1.choose_spec (.inr rfl) hBq hg1); have Q4 := hide hq4; have HK : Hid (w1.cell? ⟨g, 0, none⟩ = some (.pointer (some ⟨q, 0, none⟩)) ∧ w1.cell? ⟨w.heap.size, 3, none⟩ = some (.int .i64 apg) ∧ w1.cell? ⟨w.heap.size, 6, none⟩ = some (.string ad)) := hide ⟨G4.out.cell 0, X4.out.cell 3, X4.out.cell 6⟩; have x40 := A4.out.cell 0; have x41 := A4.out.cell 1; have x42 := A4.out.cell 2; have y40 := A4.out.frozen 0; have y41 := A4.out.frozen 1; have y42 := A4.out.frozen 2))
  have U4 : Hid (RuAt w1 B g { u with p := writeP u.p apg ad }) := hide ⟨q, by rw [show ({ u with p := writeP u.p apg ad } : US).dn = false from hd]; exact G4.out, hBg, Q4.out⟩
  have A5 := hide (A4.out.set_ 0 (.int .i64 (writeErr u.p apg ad)))
  have R5 := hide (R4.out.far (p := ⟨w.heap.size + 2, 0, none⟩) (by simp) (.int .i64 (writeErr u.p apg ad)))
  have U5 := hide (U4.out.store A4.out 0 (.int .i64 (writeErr u.p apg ad)))
  have F5 := hide (F4.out.store (r := w.heap.size + 2) (by omega) 0 (.int .i64 (writeErr u.p apg ad)))
  clear x40 x41 x42 y40 y41 y42 HK HK0 hq4 hx
  go_wp2_with (first
    | (refine wpList_load41 rfl (.tmp 5) rfl (w.heap.size + 1 + 1) _ _ _ _ rfl (show Blk _ _ _ (ansC (writeErr u.p apg ad) 0 ⟨#[]⟩ u.ep) from A5.out) ?_)
    | (refine wpList_store41 rfl (.tmp 4) (.tmp 99) rfl (w.heap.size + 1) _ _ _ _ _ _ _ _ _ _ _ _ rfl rfl R5.out ?_; intro w4 hg4 hr4; have U6 := hide (U5.out.keep R5.out hg4); have F6 := hide (F5.out.keep (by omega) hg4); obtain ⟨⟨v0, v1, v2, v3, v4, v5, v6, v7⟩, -⟩ := blk8 hr4; clear hg4 hr4))
  refine bodyPost_ret (v := An.v ⟨(writeErr u.p apg ad), 0, ⟨#[]⟩, u.ep⟩) (by simp [results, Try.results17, go_sem, An.v, ansC, v0, v1, v2, v3, v4, v5, v6, v7]) rfl ⟨rfl, U6.out, F6.out⟩


set_option maxRecDepth 100000 in
set_option maxHeartbeats 1000000 in
theorem rdo_new_2 (B g : Nat) (u : US) (hp : u.p.Ok) (au ae apg asz an : Int) (ad : ByteArray) (ape : Int) (aca : Option Addr) (acn acc : Nat) (w : World) (hb : RuAt w B g u) (hd : u.dn = false) (he : u.ep ≤ ae) :
    Calls Try.prog 17 #[.pointer (some ⟨g, 0, none⟩), .agg (Ak.mk 2 au ae apg asz an ad ape aca acn acc).cells] w fun e w' => e = .returned (An.v ⟨(fillErr u.p apg), 0, ⟨#[]⟩, u.ep⟩) ∧ RuAt w' B g { u with p := fillP u.p apg } ∧ Fn B w w' := by
  obtain ⟨q, hg, hBg, hq⟩ := hb
  have hBq := hq.lt.1
  have hqs := hq.lt.2
  unfold Ak.cells
  rw [hd] at hg
  have hgs := hg.lt
  have hgw := hg.below (W2.below w 2 au ae apg asz an ad ape aca acn acc) hgs
  have g2 := (blk3 hgw).2.2.1
  have g1 := (blk3 hgw).2.1
  have g1' : ∀ o, ((W2 w 2 au ae apg asz an ad ape aca acn acc).alloc o).cell? ⟨g, 1, none⟩ = some (.int .i64 u.ep) := fun o => (blk3 (hgw.alloc o)).2.1
  unfold W2 at g2 g1 g1'
  have G3 : Hid (∀ n, Blk ((W3 w 2 au ae apg asz an ad ape aca acn acc u.ep).drewN n) g 45 #[.pointer (some ⟨q, 0, none⟩), .int .i64 u.ep, .bool false]) := hide (fun n => (hgw.alloc _).drewN n)
  have X3 : Hid (∀ n, Blk ((W3 w 2 au ae apg asz an ad ape aca acn acc u.ep).drewN n) w.heap.size 36 _) := hide (fun n => (W3.box w 2 au ae apg asz an ad ape aca acn acc u.ep).drewN n)
  have R3 : Hid (∀ n, Blk ((W3 w 2 au ae apg asz an ad ape aca acn acc u.ep).drewN n) (w.heap.size + 1) 41 _) := hide (fun n => (W3.res w 2 au ae apg asz an ad ape aca acn acc u.ep).drewN n)
  have A3 : Hid (∀ n, Blk ((W3 w 2 au ae apg asz an ad ape aca acn acc u.ep).drewN n) (w.heap.size + 2) 41 _) := hide (fun n => (W3.ans w 2 au ae apg asz an ad ape aca acn acc u.ep).drewN n)
  have Q3 : Hid (∀ n, RfAt ((W3 w 2 au ae apg asz an ad ape aca acn acc u.ep).drewN n) B q u.p) := hide (fun n => (hq.below (W3.below w 2 au ae apg asz an ad ape aca acn acc u.ep)).drewN n)
  have F3 : Hid (∀ n, Fn B w ((W3 w 2 au ae apg asz an ad ape aca acn acc u.ep).drewN n)) := hide (fun n => (Fn.of_below (W3.below w 2 au ae apg asz an ad ape aca acn acc u.ep)).drewN n)
  clear hg hq hgw
  go_enter Try.func17, Try.ntmps17
  go_wp2_with fail
  go_quiet (fail)
  go_wp2_with fail
  have HK0 : Hid (((W3 w 2 au ae apg asz an ad ape aca acn acc u.ep).drewN nq).drew.cell? ⟨g, 0, none⟩ = some (.pointer (some ⟨q, 0, none⟩)) ∧ ((W3 w 2 au ae apg asz an ad ape aca acn acc u.ep).drewN nq).drew.cell? ⟨w.heap.size, 3, none⟩ = some (.int .i64 apg) ∧ ((W3 w 2 au ae apg asz an ad ape aca acn acc u.ep).drewN nq).drew.cell? ⟨w.heap.size, 6, none⟩ = some (.string ad)) := hide ⟨(G3.out nq).cell 0, (X3.out nq).cell 3, (X3.out nq).cell 6⟩
  unfold W3 at HK0
  go_region_held3 (fun w' => w'.cell? ⟨g, 0, none⟩ = some (.pointer (some ⟨q, 0, none⟩)) ∧ w'.cell? ⟨w.heap.size, 3, none⟩ = some (.int .i64 apg) ∧ w'.cell? ⟨w.heap.size, 6, none⟩ = some (.string ad)) (first | (with_reducible exact HK.out) | (obtain ⟨k1, k2, k3⟩ := HK.out; refine ⟨?_, ?_, ?_⟩ <;> (iterate 2 (first | (with_reducible refine far_cell ?_ (by omega)) | skip)) <;> first | (with_reducible exact k1) | (with_reducible exact k2) | (with_reducible exact k3)) | (with_reducible exact HK0.out)) ((go_at_call 38; refine (rfill_any B q u.p apg _ hp (by exact Q3.out (nq + 1))).mono ?_; rintro e w1 ⟨rfl, hb1, hg1⟩; have hx := X3.out (nq + 1); have hq4 := hb1; have G4 := hide ((G3.out (nq + 1)).grown hg1 (fun e => by have := (Q3.out 0).blk.2; obtain ⟨v, k1⟩ := (Q3.out (nq + 1)).blk.1; exact (G3.out (nq + 1)).ne_ k1 (by decide) (by injection e))); have X4 := hide ((X3.out (nq + 1)).grown hg1 (fun e => by injection e; omega)); have R4 := hide ((R3.out (nq + 1)).grown hg1 (fun e => by injection e; omega)); have A4 := hide ((A3.out (nq + 1)).grown hg1 (fun e => by injection e; omega)); have F4 := hide ((F3.out (nq + 1)).grown (Q3.out (nq + 1)).blk.1.choose_spec (.inr rfl) hBq hg1); have Q4 := hide hq4; have HK : Hid (w1.cell? ⟨g, 0, none⟩ = some (.pointer (some ⟨q, 0, none⟩)) ∧ w1.cell? ⟨w.heap.size, 3, none⟩ = some (.int .i64 apg) ∧ w1.cell? ⟨w.heap.size, 6, none⟩ = some (.string ad)) := hide ⟨G4.out.cell 0, X4.out.cell 3, X4.out.cell 6⟩; have x40 := A4.out.cell 0; have x41 := A4.out.cell 1; have x42 := A4.out.cell 2; have y40 := A4.out.frozen 0; have y41 := A4.out.frozen 1; have y42 := A4.out.frozen 2))
  have U4 : Hid (RuAt w1 B g { u with p := fillP u.p apg }) := hide ⟨q, by rw [show ({ u with p := fillP u.p apg } : US).dn = false from hd]; exact G4.out, hBg, Q4.out⟩
  have A5 := hide (A4.out.set_ 0 (.int .i64 (fillErr u.p apg)))
  have R5 := hide (R4.out.far (p := ⟨w.heap.size + 2, 0, none⟩) (by simp) (.int .i64 (fillErr u.p apg)))
  have U5 := hide (U4.out.store A4.out 0 (.int .i64 (fillErr u.p apg)))
  have F5 := hide (F4.out.store (r := w.heap.size + 2) (by omega) 0 (.int .i64 (fillErr u.p apg)))
  clear x40 x41 x42 y40 y41 y42 HK HK0 hq4 hx
  go_wp2_with (first
    | (refine wpList_load41 rfl (.tmp 5) rfl (w.heap.size + 1 + 1) _ _ _ _ rfl (show Blk _ _ _ (ansC (fillErr u.p apg) 0 ⟨#[]⟩ u.ep) from A5.out) ?_)
    | (refine wpList_store41 rfl (.tmp 4) (.tmp 99) rfl (w.heap.size + 1) _ _ _ _ _ _ _ _ _ _ _ _ rfl rfl R5.out ?_; intro w4 hg4 hr4; have U6 := hide (U5.out.keep R5.out hg4); have F6 := hide (F5.out.keep (by omega) hg4); obtain ⟨⟨v0, v1, v2, v3, v4, v5, v6, v7⟩, -⟩ := blk8 hr4; clear hg4 hr4))
  refine bodyPost_ret (v := An.v ⟨(fillErr u.p apg), 0, ⟨#[]⟩, u.ep⟩) (by simp [results, Try.results17, go_sem, An.v, ansC, v0, v1, v2, v3, v4, v5, v6, v7]) rfl ⟨rfl, U6.out, F6.out⟩


set_option maxRecDepth 100000 in
set_option maxHeartbeats 1000000 in
theorem rdo_new_3 (B g : Nat) (u : US) (hp : u.p.Ok) (au ae apg asz an : Int) (ad : ByteArray) (ape : Int) (aca : Option Addr) (acn acc : Nat) (w : World) (hb : RuAt w B g u) (hd : u.dn = false) (he : u.ep ≤ ae) :
    Calls Try.prog 17 #[.pointer (some ⟨g, 0, none⟩), .agg (Ak.mk 3 au ae apg asz an ad ape aca acn acc).cells] w fun e w' => e = .returned (An.v ⟨(readP u.p apg).2, 0, (readP u.p apg).1, u.ep⟩) ∧ RuAt w' B g u ∧ Fn B w w' := by
  obtain ⟨q, hg, hBg, hq⟩ := hb
  have hBq := hq.lt.1
  have hqs := hq.lt.2
  unfold Ak.cells
  rw [hd] at hg
  have hgs := hg.lt
  have hgw := hg.below (W2.below w 3 au ae apg asz an ad ape aca acn acc) hgs
  have g2 := (blk3 hgw).2.2.1
  have g1 := (blk3 hgw).2.1
  have g1' : ∀ o, ((W2 w 3 au ae apg asz an ad ape aca acn acc).alloc o).cell? ⟨g, 1, none⟩ = some (.int .i64 u.ep) := fun o => (blk3 (hgw.alloc o)).2.1
  unfold W2 at g2 g1 g1'
  have G3 : Hid (∀ n, Blk ((W3 w 3 au ae apg asz an ad ape aca acn acc u.ep).drewN n) g 45 #[.pointer (some ⟨q, 0, none⟩), .int .i64 u.ep, .bool false]) := hide (fun n => (hgw.alloc _).drewN n)
  have X3 : Hid (∀ n, Blk ((W3 w 3 au ae apg asz an ad ape aca acn acc u.ep).drewN n) w.heap.size 36 _) := hide (fun n => (W3.box w 3 au ae apg asz an ad ape aca acn acc u.ep).drewN n)
  have R3 : Hid (∀ n, Blk ((W3 w 3 au ae apg asz an ad ape aca acn acc u.ep).drewN n) (w.heap.size + 1) 41 _) := hide (fun n => (W3.res w 3 au ae apg asz an ad ape aca acn acc u.ep).drewN n)
  have A3 : Hid (∀ n, Blk ((W3 w 3 au ae apg asz an ad ape aca acn acc u.ep).drewN n) (w.heap.size + 2) 41 _) := hide (fun n => (W3.ans w 3 au ae apg asz an ad ape aca acn acc u.ep).drewN n)
  have Q3 : Hid (∀ n, RfAt ((W3 w 3 au ae apg asz an ad ape aca acn acc u.ep).drewN n) B q u.p) := hide (fun n => (hq.below (W3.below w 3 au ae apg asz an ad ape aca acn acc u.ep)).drewN n)
  have F3 : Hid (∀ n, Fn B w ((W3 w 3 au ae apg asz an ad ape aca acn acc u.ep).drewN n)) := hide (fun n => (Fn.of_below (W3.below w 3 au ae apg asz an ad ape aca acn acc u.ep)).drewN n)
  clear hg hq hgw
  go_enter Try.func17, Try.ntmps17
  go_wp2_with fail
  go_quiet (fail)
  go_wp2_with fail
  have HK0 : Hid (((W3 w 3 au ae apg asz an ad ape aca acn acc u.ep).drewN nq).drew.cell? ⟨g, 0, none⟩ = some (.pointer (some ⟨q, 0, none⟩)) ∧ ((W3 w 3 au ae apg asz an ad ape aca acn acc u.ep).drewN nq).drew.cell? ⟨w.heap.size, 3, none⟩ = some (.int .i64 apg) ∧ ((W3 w 3 au ae apg asz an ad ape aca acn acc u.ep).drewN nq).drew.cell? ⟨w.heap.size, 6, none⟩ = some (.string ad)) := hide ⟨(G3.out nq).cell 0, (X3.out nq).cell 3, (X3.out nq).cell 6⟩
  unfold W3 at HK0
  go_region_held3 (fun w' => w'.cell? ⟨g, 0, none⟩ = some (.pointer (some ⟨q, 0, none⟩)) ∧ w'.cell? ⟨w.heap.size, 3, none⟩ = some (.int .i64 apg) ∧ w'.cell? ⟨w.heap.size, 6, none⟩ = some (.string ad)) (first | (with_reducible exact HK.out) | (obtain ⟨k1, k2, k3⟩ := HK.out; refine ⟨?_, ?_, ?_⟩ <;> (iterate 2 (first | (with_reducible refine far_cell ?_ (by omega)) | skip)) <;> first | (with_reducible exact k1) | (with_reducible exact k2) | (with_reducible exact k3)) | (with_reducible exact HK0.out)) ((go_at_call 40; refine (rread_g B q u.p apg _ hp (by exact Q3.out (nq + 1))).mono ?_; rintro e w1 ⟨rfl, hb1, hg1⟩; have hx := X3.out (nq + 1); have hq4 := hb1; have G4 := hide ((G3.out (nq + 1)).grown hg1 (fun e => by have := (Q3.out 0).blk.2; obtain ⟨v, k1⟩ := (Q3.out (nq + 1)).blk.1; exact (G3.out (nq + 1)).ne_ k1 (by decide) (by injection e))); have X4 := hide ((X3.out (nq + 1)).grown hg1 (fun e => by injection e; omega)); have R4 := hide ((R3.out (nq + 1)).grown hg1 (fun e => by injection e; omega)); have A4 := hide ((A3.out (nq + 1)).grown hg1 (fun e => by injection e; omega)); have F4 := hide ((F3.out (nq + 1)).grown (Q3.out (nq + 1)).blk.1.choose_spec (.inr rfl) hBq hg1); have Q4 := hide hq4; have HK : Hid (w1.cell? ⟨g, 0, none⟩ = some (.pointer (some ⟨q, 0, none⟩)) ∧ w1.cell? ⟨w.heap.size, 3, none⟩ = some (.int .i64 apg) ∧ w1.cell? ⟨w.heap.size, 6, none⟩ = some (.string ad)) := hide ⟨G4.out.cell 0, X4.out.cell 3, X4.out.cell 6⟩; have x40 := A4.out.cell 0; have x41 := A4.out.cell 1; have x42 := A4.out.cell 2; have y40 := A4.out.frozen 0; have y41 := A4.out.frozen 1; have y42 := A4.out.frozen 2))
  have U4 : Hid (RuAt w1 B g u) := hide ⟨q, by rw [show (u : US).dn = false from hd]; exact G4.out, hBg, Q4.out⟩
  have A4b := hide (A4.out.set_ 2 (.string (readP u.p apg).1))
  have R4b := hide (R4.out.far (p := ⟨w.heap.size + 2, 2, none⟩) (by simp) (.string (readP u.p apg).1))
  have U4b := hide (U4.out.store A4.out 2 (.string (readP u.p apg).1))
  have F4b := hide (F4.out.store (r := w.heap.size + 2) (by omega) 2 (.string (readP u.p apg).1))
  have A5 := hide (A4b.out.set_ 0 (.int .i64 (readP u.p apg).2))
  have R5 := hide (R4b.out.far (p := ⟨w.heap.size + 2, 0, none⟩) (by simp) (.int .i64 (readP u.p apg).2))
  have U5 := hide (U4b.out.store A4b.out 0 (.int .i64 (readP u.p apg).2))
  have F5 := hide (F4b.out.store (r := w.heap.size + 2) (by omega) 0 (.int .i64 (readP u.p apg).2))
  clear x40 x41 x42 y40 y41 y42 HK HK0 hq4 hx
  go_wp2_with (first
    | (refine wpList_load41 rfl (.tmp 5) rfl (w.heap.size + 1 + 1) _ _ _ _ rfl (show Blk _ _ _ (ansC (readP u.p apg).2 0 (readP u.p apg).1 u.ep) from A5.out) ?_)
    | (refine wpList_store41 rfl (.tmp 4) (.tmp 99) rfl (w.heap.size + 1) _ _ _ _ _ _ _ _ _ _ _ _ rfl rfl R5.out ?_; intro w4 hg4 hr4; have U6 := hide (U5.out.keep R5.out hg4); have F6 := hide (F5.out.keep (by omega) hg4); obtain ⟨⟨v0, v1, v2, v3, v4, v5, v6, v7⟩, -⟩ := blk8 hr4; clear hg4 hr4))
  refine bodyPost_ret (v := An.v ⟨(readP u.p apg).2, 0, (readP u.p apg).1, u.ep⟩) (by simp [results, Try.results17, go_sem, An.v, ansC, v0, v1, v2, v3, v4, v5, v6, v7]) rfl ⟨rfl, U6.out, F6.out⟩


set_option maxRecDepth 100000 in
set_option maxHeartbeats 1000000 in
theorem rdo_new_4 (B g : Nat) (u : US) (hp : u.p.Ok) (au ae apg asz an : Int) (ad : ByteArray) (ape : Int) (aca : Option Addr) (acn acc : Nat) (w : World) (hb : RuAt w B g u) (hd : u.dn = false) (he : u.ep ≤ ae) :
    Calls Try.prog 17 #[.pointer (some ⟨g, 0, none⟩), .agg (Ak.mk 4 au ae apg asz an ad ape aca acn acc).cells] w fun e w' => e = .returned (An.v ⟨(trimErr apg), 0, ⟨#[]⟩, u.ep⟩) ∧ RuAt w' B g { u with p := trimP u.p apg } ∧ Fn B w w' := by
  obtain ⟨q, hg, hBg, hq⟩ := hb
  have hBq := hq.lt.1
  have hqs := hq.lt.2
  unfold Ak.cells
  rw [hd] at hg
  have hgs := hg.lt
  have hgw := hg.below (W2.below w 4 au ae apg asz an ad ape aca acn acc) hgs
  have g2 := (blk3 hgw).2.2.1
  have g1 := (blk3 hgw).2.1
  have g1' : ∀ o, ((W2 w 4 au ae apg asz an ad ape aca acn acc).alloc o).cell? ⟨g, 1, none⟩ = some (.int .i64 u.ep) := fun o => (blk3 (hgw.alloc o)).2.1
  unfold W2 at g2 g1 g1'
  have G3 : Hid (∀ n, Blk ((W3 w 4 au ae apg asz an ad ape aca acn acc u.ep).drewN n) g 45 #[.pointer (some ⟨q, 0, none⟩), .int .i64 u.ep, .bool false]) := hide (fun n => (hgw.alloc _).drewN n)
  have X3 : Hid (∀ n, Blk ((W3 w 4 au ae apg asz an ad ape aca acn acc u.ep).drewN n) w.heap.size 36 _) := hide (fun n => (W3.box w 4 au ae apg asz an ad ape aca acn acc u.ep).drewN n)
  have R3 : Hid (∀ n, Blk ((W3 w 4 au ae apg asz an ad ape aca acn acc u.ep).drewN n) (w.heap.size + 1) 41 _) := hide (fun n => (W3.res w 4 au ae apg asz an ad ape aca acn acc u.ep).drewN n)
  have A3 : Hid (∀ n, Blk ((W3 w 4 au ae apg asz an ad ape aca acn acc u.ep).drewN n) (w.heap.size + 2) 41 _) := hide (fun n => (W3.ans w 4 au ae apg asz an ad ape aca acn acc u.ep).drewN n)
  have Q3 : Hid (∀ n, RfAt ((W3 w 4 au ae apg asz an ad ape aca acn acc u.ep).drewN n) B q u.p) := hide (fun n => (hq.below (W3.below w 4 au ae apg asz an ad ape aca acn acc u.ep)).drewN n)
  have F3 : Hid (∀ n, Fn B w ((W3 w 4 au ae apg asz an ad ape aca acn acc u.ep).drewN n)) := hide (fun n => (Fn.of_below (W3.below w 4 au ae apg asz an ad ape aca acn acc u.ep)).drewN n)
  clear hg hq hgw
  go_enter Try.func17, Try.ntmps17
  go_wp2_with fail
  go_quiet (fail)
  go_wp2_with fail
  have HK0 : Hid (((W3 w 4 au ae apg asz an ad ape aca acn acc u.ep).drewN nq).drew.cell? ⟨g, 0, none⟩ = some (.pointer (some ⟨q, 0, none⟩)) ∧ ((W3 w 4 au ae apg asz an ad ape aca acn acc u.ep).drewN nq).drew.cell? ⟨w.heap.size, 3, none⟩ = some (.int .i64 apg) ∧ ((W3 w 4 au ae apg asz an ad ape aca acn acc u.ep).drewN nq).drew.cell? ⟨w.heap.size, 6, none⟩ = some (.string ad)) := hide ⟨(G3.out nq).cell 0, (X3.out nq).cell 3, (X3.out nq).cell 6⟩
  unfold W3 at HK0
  go_region_held3 (fun w' => w'.cell? ⟨g, 0, none⟩ = some (.pointer (some ⟨q, 0, none⟩)) ∧ w'.cell? ⟨w.heap.size, 3, none⟩ = some (.int .i64 apg) ∧ w'.cell? ⟨w.heap.size, 6, none⟩ = some (.string ad)) (first | (with_reducible exact HK.out) | (obtain ⟨k1, k2, k3⟩ := HK.out; refine ⟨?_, ?_, ?_⟩ <;> (iterate 2 (first | (with_reducible refine far_cell ?_ (by omega)) | skip)) <;> first | (with_reducible exact k1) | (with_reducible exact k2) | (with_reducible exact k3)) | (with_reducible exact HK0.out)) ((go_at_call 39; refine (rtrim_any B q u.p apg _ hp (by exact Q3.out (nq + 1))).mono ?_; rintro e w1 ⟨rfl, hb1, hg1⟩; have hx := X3.out (nq + 1); have hq4 := hb1; have G4 := hide ((G3.out (nq + 1)).grown hg1 (fun e => by have := (Q3.out 0).blk.2; obtain ⟨v, k1⟩ := (Q3.out (nq + 1)).blk.1; exact (G3.out (nq + 1)).ne_ k1 (by decide) (by injection e))); have X4 := hide ((X3.out (nq + 1)).grown hg1 (fun e => by injection e; omega)); have R4 := hide ((R3.out (nq + 1)).grown hg1 (fun e => by injection e; omega)); have A4 := hide ((A3.out (nq + 1)).grown hg1 (fun e => by injection e; omega)); have F4 := hide ((F3.out (nq + 1)).grown (Q3.out (nq + 1)).blk.1.choose_spec (.inr rfl) hBq hg1); have Q4 := hide hq4; have HK : Hid (w1.cell? ⟨g, 0, none⟩ = some (.pointer (some ⟨q, 0, none⟩)) ∧ w1.cell? ⟨w.heap.size, 3, none⟩ = some (.int .i64 apg) ∧ w1.cell? ⟨w.heap.size, 6, none⟩ = some (.string ad)) := hide ⟨G4.out.cell 0, X4.out.cell 3, X4.out.cell 6⟩; have x40 := A4.out.cell 0; have x41 := A4.out.cell 1; have x42 := A4.out.cell 2; have y40 := A4.out.frozen 0; have y41 := A4.out.frozen 1; have y42 := A4.out.frozen 2))
  have U4 : Hid (RuAt w1 B g { u with p := trimP u.p apg }) := hide ⟨q, by rw [show ({ u with p := trimP u.p apg } : US).dn = false from hd]; exact G4.out, hBg, Q4.out⟩
  have A5 := hide (A4.out.set_ 0 (.int .i64 (trimErr apg)))
  have R5 := hide (R4.out.far (p := ⟨w.heap.size + 2, 0, none⟩) (by simp) (.int .i64 (trimErr apg)))
  have U5 := hide (U4.out.store A4.out 0 (.int .i64 (trimErr apg)))
  have F5 := hide (F4.out.store (r := w.heap.size + 2) (by omega) 0 (.int .i64 (trimErr apg)))
  clear x40 x41 x42 y40 y41 y42 HK HK0 hq4 hx
  go_wp2_with (first
    | (refine wpList_load41 rfl (.tmp 5) rfl (w.heap.size + 1 + 1) _ _ _ _ rfl (show Blk _ _ _ (ansC (trimErr apg) 0 ⟨#[]⟩ u.ep) from A5.out) ?_)
    | (refine wpList_store41 rfl (.tmp 4) (.tmp 99) rfl (w.heap.size + 1) _ _ _ _ _ _ _ _ _ _ _ _ rfl rfl R5.out ?_; intro w4 hg4 hr4; have U6 := hide (U5.out.keep R5.out hg4); have F6 := hide (F5.out.keep (by omega) hg4); obtain ⟨⟨v0, v1, v2, v3, v4, v5, v6, v7⟩, -⟩ := blk8 hr4; clear hg4 hr4))
  refine bodyPost_ret (v := An.v ⟨(trimErr apg), 0, ⟨#[]⟩, u.ep⟩) (by simp [results, Try.results17, go_sem, An.v, ansC, v0, v1, v2, v3, v4, v5, v6, v7]) rfl ⟨rfl, U6.out, F6.out⟩


set_option maxRecDepth 100000 in
set_option maxHeartbeats 1000000 in
theorem rdo_new_5 (B g : Nat) (u : US) (hp : u.p.Ok) (au ae apg asz an : Int) (ad : ByteArray) (ape : Int) (aca : Option Addr) (acn acc : Nat) (w : World) (hb : RuAt w B g u) (hd : u.dn = false) (he : u.ep ≤ ae) :
    Calls Try.prog 17 #[.pointer (some ⟨g, 0, none⟩), .agg (Ak.mk 5 au ae apg asz an ad ape aca acn acc).cells] w fun e w' => e = .returned (An.v ⟨0, (tailP u.p), ⟨#[]⟩, ae⟩) ∧ RuAt w' B g { u with ep := ae } ∧ Fn B w w' := by
  obtain ⟨q, hg, hBg, hq⟩ := hb
  have hBq := hq.lt.1
  have hqs := hq.lt.2
  unfold Ak.cells
  rw [hd] at hg
  have hgs := hg.lt
  have hgw := hg.below (W2.below w 5 au ae apg asz an ad ape aca acn acc) hgs
  have g2 := (blk3 hgw).2.2.1
  have g1 := (blk3 hgw).2.1
  have g1' : ∀ o, ((W2 w 5 au ae apg asz an ad ape aca acn acc).alloc o).cell? ⟨g, 1, none⟩ = some (.int .i64 u.ep) := fun o => (blk3 (hgw.alloc o)).2.1
  unfold W2 at g2 g1 g1'
  have G3 : Hid (∀ n, Blk ((W3 w 5 au ae apg asz an ad ape aca acn acc u.ep).drewN n) g 45 #[.pointer (some ⟨q, 0, none⟩), .int .i64 u.ep, .bool false]) := hide (fun n => (hgw.alloc _).drewN n)
  have X3 : Hid (∀ n, Blk ((W3 w 5 au ae apg asz an ad ape aca acn acc u.ep).drewN n) w.heap.size 36 _) := hide (fun n => (W3.box w 5 au ae apg asz an ad ape aca acn acc u.ep).drewN n)
  have R3 : Hid (∀ n, Blk ((W3 w 5 au ae apg asz an ad ape aca acn acc u.ep).drewN n) (w.heap.size + 1) 41 _) := hide (fun n => (W3.res w 5 au ae apg asz an ad ape aca acn acc u.ep).drewN n)
  have A3 : Hid (∀ n, Blk ((W3 w 5 au ae apg asz an ad ape aca acn acc u.ep).drewN n) (w.heap.size + 2) 41 _) := hide (fun n => (W3.ans w 5 au ae apg asz an ad ape aca acn acc u.ep).drewN n)
  have Q3 : Hid (∀ n, RfAt ((W3 w 5 au ae apg asz an ad ape aca acn acc u.ep).drewN n) B q u.p) := hide (fun n => (hq.below (W3.below w 5 au ae apg asz an ad ape aca acn acc u.ep)).drewN n)
  have F3 : Hid (∀ n, Fn B w ((W3 w 5 au ae apg asz an ad ape aca acn acc u.ep).drewN n)) := hide (fun n => (Fn.of_below (W3.below w 5 au ae apg asz an ad ape aca acn acc u.ep)).drewN n)
  clear hg hq hgw
  go_enter Try.func17, Try.ntmps17
  go_wp2_with fail
  go_quiet (fail)
  have z1 := (G3.out nq).frozen 1
  have zc1 := (blk3 (G3.out nq)).2.1
  unfold W3 at z1 zc1
  go_wp2_with fail
  have W5b : Hid (Blk (((W3 w 5 au ae apg asz an ad ape aca acn acc u.ep).drewN nq).setCell ⟨g, 1, none⟩ (.int .i64 ae)).drew g 45 #[.pointer (some ⟨q, 0, none⟩), .int .i64 ae, .bool false]) := hide ((G3.out nq).set_ 1 _)
  have X5 : Hid (Blk (((W3 w 5 au ae apg asz an ad ape aca acn acc u.ep).drewN nq).setCell ⟨g, 1, none⟩ (.int .i64 ae)).drew w.heap.size 36 _) := hide ((X3.out nq).far (p := ⟨g, 1, none⟩) (by show w.heap.size ≠ g; omega) _)
  have R4 : Hid (Blk (((W3 w 5 au ae apg asz an ad ape aca acn acc u.ep).drewN nq).setCell ⟨g, 1, none⟩ (.int .i64 ae)).drew (w.heap.size + 1) 41 _) := hide ((R3.out nq).far (p := ⟨g, 1, none⟩) (by show w.heap.size + 1 ≠ g; omega) _)
  have A4 : Hid (Blk (((W3 w 5 au ae apg asz an ad ape aca acn acc u.ep).drewN nq).setCell ⟨g, 1, none⟩ (.int .i64 ae)).drew (w.heap.size + 2) 41 _) := hide ((A3.out nq).far (p := ⟨g, 1, none⟩) (by show w.heap.size + 2 ≠ g; omega) _)
  have Q4 : Hid (RfAt (((W3 w 5 au ae apg asz an ad ape aca acn acc u.ep).drewN nq).setCell ⟨g, 1, none⟩ (.int .i64 ae)).drew B q u.p) := hide (((Q3.out nq).keep (G3.out nq) (by decide) (by decide) (setCell_grown _ _ 1 (.int .i64 ae))).drewN 1)
  have F4 : Hid (Fn B w (((W3 w 5 au ae apg asz an ad ape aca acn acc u.ep).drewN nq).setCell ⟨g, 1, none⟩ (.int .i64 ae)).drew) := hide (((F3.out nq).grown (G3.out nq) (.inl rfl) hBg (setCell_grown _ _ 1 (.int .i64 ae))).drewN 1)
  have HK0 : Hid ((((W3 w 5 au ae apg asz an ad ape aca acn acc u.ep).drewN nq).setCell ⟨g, 1, none⟩ (.int .i64 ae)).drew.cell? ⟨g, 0, none⟩ = some (.pointer (some ⟨q, 0, none⟩)) ∧ (((W3 w 5 au ae apg asz an ad ape aca acn acc u.ep).drewN nq).setCell ⟨g, 1, none⟩ (.int .i64 ae)).drew.cell? ⟨w.heap.size, 2, none⟩ = some (.int .i64 ae)) := hide ⟨W5b.out.cell 0, X5.out.cell 2⟩
  have U4 : Hid (RuAt (((W3 w 5 au ae apg asz an ad ape aca acn acc u.ep).drewN nq).setCell ⟨g, 1, none⟩ (.int .i64 ae)).drew B g { u with ep := ae }) := hide ⟨q, by rw [show ({ u with ep := ae } : US).dn = false from hd]; exact W5b.out, hBg, Q4.out⟩
  have x41 := A4.out.cell 1
  have x47 := A4.out.cell 7
  have y41 := A4.out.frozen 1
  have y47 := A4.out.frozen 7
  unfold W3 at HK0 x41 x47 y41 y47
  go_region_held3 (fun w' => w'.cell? ⟨g, 0, none⟩ = some (.pointer (some ⟨q, 0, none⟩)) ∧ w'.cell? ⟨w.heap.size, 2, none⟩ = some (.int .i64 ae)) (first | (with_reducible exact HK0.out) | (obtain ⟨k1, k2⟩ := HK0.out; refine ⟨?_, ?_⟩ <;> first | (with_reducible exact k1) | (with_reducible exact k2) | (with_reducible refine far_cell_d ?_ (by omega); first | (with_reducible exact k1) | (with_reducible exact k2)) | (with_reducible refine far_cell_d ?_ (by omega); with_reducible refine far_cell_d ?_ (by omega); first | (with_reducible exact k1) | (with_reducible exact k2)))) ((go_at_call 26; refine (rtail_any B q u.p _ hp (by exact Q4.out)).mono ?_; rintro e w1 ⟨rfl, rfl⟩))
  have A4b := hide (A4.out.set_ 7 (.int .i64 ae))
  have R4b := hide (R4.out.far (p := ⟨w.heap.size + 2, 7, none⟩) (by simp) (.int .i64 ae))
  have U4b := hide (U4.out.store A4.out 7 (.int .i64 ae))
  have F4b := hide (F4.out.store (r := w.heap.size + 2) (by omega) 7 (.int .i64 ae))
  have A5 : Hid (Blk (((((W3 w 5 au ae apg asz an ad ape aca acn acc u.ep).drewN nq).setCell ⟨g, 1, none⟩ (.int .i64 ae)).setCell ⟨w.heap.size + 2, 7, none⟩ (.int .i64 ae)).setCell ⟨w.heap.size + 2, 1, none⟩ (.int .i64 (tailP u.p))).drew (w.heap.size + 2) 41 (ansC 0 (tailP u.p) ⟨#[]⟩ ae)) := hide (A4b.out.set_ 1 (.int .i64 (tailP u.p)))
  have R5 : Hid (Blk (((((W3 w 5 au ae apg asz an ad ape aca acn acc u.ep).drewN nq).setCell ⟨g, 1, none⟩ (.int .i64 ae)).setCell ⟨w.heap.size + 2, 7, none⟩ (.int .i64 ae)).setCell ⟨w.heap.size + 2, 1, none⟩ (.int .i64 (tailP u.p))).drew (w.heap.size + 1) 41 #[.int .i64 0, .int .i64 0, .string ⟨#[]⟩, .int .i64 0, .slice none 0 0, .int .i64 0, .int .i64 0, .int .i64 0]) := hide (R4b.out.far (p := ⟨w.heap.size + 2, 1, none⟩) (by simp) (.int .i64 (tailP u.p)))
  have U5 : Hid (RuAt (((((W3 w 5 au ae apg asz an ad ape aca acn acc u.ep).drewN nq).setCell ⟨g, 1, none⟩ (.int .i64 ae)).setCell ⟨w.heap.size + 2, 7, none⟩ (.int .i64 ae)).setCell ⟨w.heap.size + 2, 1, none⟩ (.int .i64 (tailP u.p))).drew B g { u with ep := ae }) := hide (U4b.out.store A4b.out 1 (.int .i64 (tailP u.p)))
  have F5 : Hid (Fn B w (((((W3 w 5 au ae apg asz an ad ape aca acn acc u.ep).drewN nq).setCell ⟨g, 1, none⟩ (.int .i64 ae)).setCell ⟨w.heap.size + 2, 7, none⟩ (.int .i64 ae)).setCell ⟨w.heap.size + 2, 1, none⟩ (.int .i64 (tailP u.p))).drew) := hide (F4b.out.store (r := w.heap.size + 2) (by omega) 1 (.int .i64 (tailP u.p)))
  unfold W3 at A5 R5 U5 F5
  go_wp2_with (first
    | (refine wpList_load41 rfl (.tmp 5) rfl (w.heap.size + 1 + 1) _ _ _ _ rfl (show Blk _ _ _ (ansC 0 (tailP u.p) ⟨#[]⟩ ae) from A5.out) ?_)
    | (refine wpList_store41 rfl (.tmp 4) (.tmp 99) rfl (w.heap.size + 1) _ _ _ _ _ _ _ _ _ _ _ _ rfl rfl R5.out ?_; intro w4 hg4 hr4; have U6 := hide (U5.out.keep R5.out hg4); have F6 := hide (F5.out.keep (by omega) hg4); obtain ⟨⟨v0, v1, v2, v3, v4, v5, v6, v7⟩, -⟩ := blk8 hr4; clear hg4 hr4))
  refine bodyPost_ret (v := An.v ⟨0, (tailP u.p), ⟨#[]⟩, ae⟩) (by simp [results, Try.results17, go_sem, An.v, ansC, v0, v1, v2, v3, v4, v5, v6, v7]) rfl ⟨rfl, U6.out, F6.out⟩


theorem rdo_any (B g : Nat) (u : US) (hp : u.p.Ok) (a : Ak) (w : World) (hb : RuAt w B g u) :
    Calls Try.prog 17 #[.pointer (some ⟨g, 0, none⟩), .agg a.cells] w fun e w' => e = .returned (An.v (doR u a).1) ∧ RuAt w' B g (doR u a).2 ∧ Fn B w w' := by
  unfold doR
  by_cases hd : u.dn = true
  · rw [if_pos hd]
    refine (rdo_down B g u a w hb hd).mono ?_
    rintro e w' ⟨rfl, hw⟩
    exact ⟨rfl, hb.below hw, Fn.of_below hw⟩
  rw [if_neg hd]
  have hd' : u.dn = false := by simpa using hd
  by_cases hk : a.k < 1 ∨ 5 < a.k
  · rw [if_pos hk]
    refine (rdo_kind B g u a w hb hd' hk).mono ?_
    rintro e w' ⟨rfl, hw⟩
    exact ⟨rfl, hb.below hw, Fn.of_below hw⟩
  rw [if_neg hk]
  by_cases he : a.e < u.ep
  · rw [if_pos he]
    refine (rdo_old B g u a w hb hd' (by omega) (by omega) he).mono ?_
    rintro e w' ⟨rfl, hw⟩
    exact ⟨rfl, hb.below hw, Fn.of_below hw⟩
  rw [if_neg he]
  obtain ⟨ak, au, ae, apg, asz, an, ad, ape, aca, acn, acc⟩ := a
  simp only at hk he ⊢
  have h5 : ak = 1 ∨ ak = 2 ∨ ak = 3 ∨ ak = 4 ∨ ak = 5 := by omega
  have he' : u.ep ≤ ae := by omega
  rcases h5 with rfl | rfl | rfl | rfl | rfl
  · exact rdo_new_1 B g u hp au ae apg asz an ad ape aca acn acc w hb hd' he'
  · exact rdo_new_2 B g u hp au ae apg asz an ad ape aca acn acc w hb hd' he'
  · exact rdo_new_3 B g u hp au ae apg asz an ad ape aca acn acc w hb hd' he'
  · exact rdo_new_4 B g u hp au ae apg asz an ad ape aca acn acc w hb hd' he'
  · exact rdo_new_5 B g u hp au ae apg asz an ad ape aca acn acc w hb hd' he'
end Go.Proofs.Ytjpegkginmoekaa

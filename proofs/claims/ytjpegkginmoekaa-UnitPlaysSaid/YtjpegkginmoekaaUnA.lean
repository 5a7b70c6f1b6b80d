/- Units: what a question does to the pages. -/
import Derived.Test.YtjpegkginmoekaaPgD
import Derived.Deep.RegionHeld3
namespace Go.Proofs.Ytjpegkginmoekaa
open Go.RowKit
set_option linter.unusedVariables false

/-- a question -/
structure Ak where
  k : Int
  u : Int
  e : Int
  pg : Int
  sz : Int
  n : Int
  d : ByteArray
  pe : Int
  ca : Option Addr
  cn : Nat
  cc : Nat
def Ak.cells (a : Ak) : Array Value := #[.int .i64 a.k, .int .i64 a.u, .int .i64 a.e, .int .i64 a.pg, .int .i64 a.sz, .int .i64 a.n, .string a.d, .int .i64 a.pe, .slice a.ca a.cn a.cc]
/-- an answer -/
def ansC (code n : Int) (d : ByteArray) (ep : Int) : Array Value := #[.int .i64 code, .int .i64 n, .string d, .int .i64 0, .slice none 0 0, .int .i64 0, .int .i64 0, .int .i64 ep]

/-- a unit in plain words -/
structure US where
  p : PS
  ep : Int
  dn : Bool
/-- block g is a unit that reads as u -/
def UnAt (w : World) (B g : Nat) (u : US) : Prop := ∃ q, Blk w g 76 #[.pointer (some ⟨q, 0, none⟩), .int .i64 u.ep, .bool u.dn] ∧ B ≤ g ∧ PgAt w B q u.p
theorem UnAt.below {w w' : World} {B g : Nat} {u : US} (h : UnAt w B g u) (hb : Below w.heap.size w w') : UnAt w' B g u := by
  obtain ⟨q, h1, h2, h3⟩ := h
  exact ⟨q, h1.below hb h1.lt, h2, h3.below hb⟩
theorem UnAt.alloc {w : World} {B g : Nat} {u : US} (h : UnAt w B g u) (o : Obj) : UnAt (w.alloc o) B g u := h.below ((Below.refl _ _).alloc (Nat.le_refl _) _)
theorem UnAt.drew {w : World} {B g : Nat} {u : US} (h : UnAt w B g u) : UnAt w.drew B g u := h

theorem blk8 {w : World} {g : Nat} {a b c d e f i j : Value} {t : TypeId} (h : Blk w g t #[a, b, c, d, e, f, i, j]) :
    (w.cell? ⟨g, 0, none⟩ = some a ∧ w.cell? ⟨g, 1, none⟩ = some b ∧ w.cell? ⟨g, 2, none⟩ = some c ∧ w.cell? ⟨g, 3, none⟩ = some d ∧ w.cell? ⟨g, 4, none⟩ = some e ∧ w.cell? ⟨g, 5, none⟩ = some f ∧ w.cell? ⟨g, 6, none⟩ = some i ∧ w.cell? ⟨g, 7, none⟩ = some j) ∧
    (w.frozen? ⟨g, 0, none⟩ = false ∧ w.frozen? ⟨g, 1, none⟩ = false ∧ w.frozen? ⟨g, 2, none⟩ = false ∧ w.frozen? ⟨g, 3, none⟩ = false ∧ w.frozen? ⟨g, 4, none⟩ = false ∧ w.frozen? ⟨g, 5, none⟩ = false ∧ w.frozen? ⟨g, 6, none⟩ = false ∧ w.frozen? ⟨g, 7, none⟩ = false) :=
  ⟨⟨h.cell 0, h.cell 1, h.cell 2, h.cell 3, h.cell 4, h.cell 5, h.cell 6, h.cell 7⟩, h.frozen 0, h.frozen 1, h.frozen 2, h.frozen 3, h.frozen 4, h.frozen 5, h.frozen 6, h.frozen 7⟩

theorem Blk.ne_ {w : World} {g g' : Nat} {t t' : TypeId} {cs cs' : Array Value} (h : Blk w g t cs) (h' : Blk w g' t' cs') (hne : t ≠ t') : g ≠ g' := by
  rintro rfl
  unfold Blk at h h'
  rw [h] at h'
  injection h' with h'
  injection h' with _ ht
  exact hne ht
theorem PgAt.store {w : World} {B q r : Nat} {p : PS} {cs : Array Value} (h : PgAt w B q p) (hr : Blk w r 41 cs) (i : Nat) (v : Value) : PgAt (w.setCell ⟨r, i, none⟩ v) B q p := by
  obtain ⟨b, h1, h2, h3, h4⟩ := h
  exact ⟨b, h1.far (p := ⟨r, i, none⟩) (h1.ne_ hr (by decide)) v, h2, h3, h4.setCell (p := ⟨r, i, none⟩) (h4.ne_blk hr) v⟩
theorem UnAt.store {w : World} {B g r : Nat} {u : US} {cs : Array Value} (h : UnAt w B g u) (hr : Blk w r 41 cs) (i : Nat) (v : Value) : UnAt (w.setCell ⟨r, i, none⟩ v) B g u := by
  obtain ⟨q, h1, h2, h3⟩ := h
  exact ⟨q, h1.far (p := ⟨r, i, none⟩) (h1.ne_ hr (by decide)) v, h2, h3.store hr i v⟩
theorem Fr.store {ts : List TypeId} {B : Nat} {a w : World} (h : Fr ts B a w) {r : Nat} (hr : a.heap.size ≤ r) (i : Nat) (v : Value) : Fr ts B a (w.setCell ⟨r, i, none⟩ v) :=
  ⟨h.os, h.tape, h.output, Nat.le_trans h.size (by simp [World.setCell]), fun k o hk hh => by
    have hlt := (Array.getElem?_eq_some_iff.1 hk).1
    rw [Below.heap_setCell _ _ _ _ (by show k ≠ r; omega)]
    exact h.block k o hk hh⟩
/-- an answer is stored into its place -/
def st8 (w : World) (r : Nat) (v0 v1 v2 v3 v4 v5 v6 v7 : Value) : World :=
  (((((((w.setCell ⟨r, 0, none⟩ v0).setCell ⟨r, 1, none⟩ v1).setCell ⟨r, 2, none⟩ v2).setCell ⟨r, 3, none⟩ v3).setCell ⟨r, 4, none⟩ v4).setCell ⟨r, 5, none⟩ v5).setCell ⟨r, 6, none⟩ v6).setCell ⟨r, 7, none⟩ v7
theorem UnAt.st8 {w : World} {B g r : Nat} {u : US} {cs : Array Value} (h : UnAt w B g u) (hr : Blk w r 41 cs) (v0 v1 v2 v3 v4 v5 v6 v7 : Value) : UnAt (st8 w r v0 v1 v2 v3 v4 v5 v6 v7) B g u :=
  (((((((h.store hr 0 v0).store (hr.set_ 0 v0) 1 v1).store ((hr.set_ 0 v0).set_ 1 v1) 2 v2).store (((hr.set_ 0 v0).set_ 1 v1).set_ 2 v2) 3 v3).store ((((hr.set_ 0 v0).set_ 1 v1).set_ 2 v2).set_ 3 v3) 4 v4).store (((((hr.set_ 0 v0).set_ 1 v1).set_ 2 v2).set_ 3 v3).set_ 4 v4) 5 v5).store ((((((hr.set_ 0 v0).set_ 1 v1).set_ 2 v2).set_ 3 v3).set_ 4 v4).set_ 5 v5) 6 v6).store (((((((hr.set_ 0 v0).set_ 1 v1).set_ 2 v2).set_ 3 v3).set_ 4 v4).set_ 5 v5).set_ 6 v6) 7 v7
theorem Fr.st8 {ts : List TypeId} {B : Nat} {a w : World} (h : Fr ts B a w) {r : Nat} (hr : a.heap.size ≤ r) (v0 v1 v2 v3 v4 v5 v6 v7 : Value) : Fr ts B a (st8 w r v0 v1 v2 v3 v4 v5 v6 v7) :=
  (((((((h.store hr 0 v0).store hr 1 v1).store hr 2 v2).store hr 3 v3).store hr 4 v4).store hr 5 v5).store hr 6 v6).store hr 7 v7
def zAns : Array Value := ansC 0 0 ⟨#[]⟩ 0

/-- the two blocks that a unit's inner functions lay: the question's box, the answer's place -/
def W2 (w : World) (ak au ae apg asz an : Int) (ad : ByteArray) (ape : Int) (aca : Option Addr) (acn acc : Nat) : World :=
  (w.alloc (.cells #[.int .i64 ak, .int .i64 au, .int .i64 ae, .int .i64 apg, .int .i64 asz, .int .i64 an, .string ad, .int .i64 ape, .slice aca acn acc] 36)).alloc (.cells #[.int .i64 0, .int .i64 0, .string ⟨#[]⟩, .int .i64 0, .slice none 0 0, .int .i64 0, .int .i64 0, .int .i64 0] 41)
section
variable (w : World) (ak au ae apg asz an : Int) (ad : ByteArray) (ape : Int) (aca : Option Addr) (acn acc : Nat)
theorem W2.box : Blk (W2 w ak au ae apg asz an ad ape aca acn acc) w.heap.size 36 #[.int .i64 ak, .int .i64 au, .int .i64 ae, .int .i64 apg, .int .i64 asz, .int .i64 an, .string ad, .int .i64 ape, .slice aca acn acc] := (Blk.new w 36 _).alloc _
theorem W2.res : Blk (W2 w ak au ae apg asz an ad ape aca acn acc) (w.heap.size + 1) 41 #[.int .i64 0, .int .i64 0, .string ⟨#[]⟩, .int .i64 0, .slice none 0 0, .int .i64 0, .int .i64 0, .int .i64 0] := by
  have := Blk.new (w.alloc (.cells #[.int .i64 ak, .int .i64 au, .int .i64 ae, .int .i64 apg, .int .i64 asz, .int .i64 an, .string ad, .int .i64 ape, .slice aca acn acc] 36)) 41 #[.int .i64 0, .int .i64 0, .string ⟨#[]⟩, .int .i64 0, .slice none 0 0, .int .i64 0, .int .i64 0, .int .i64 0]
  unfold W2
  simpa using this
theorem W2.below : Below w.heap.size w (W2 w ak au ae apg asz an ad ape aca acn acc) := ((Below.refl _ _).alloc (Nat.le_refl _) _).alloc (by simp) _
theorem W2.size : (W2 w ak au ae apg asz an ad ape aca acn acc).heap.size = w.heap.size + 2 := by simp [W2]
end
theorem far_cell {w : World} {b o b' o' : Nat} {u v : Value} (h : w.cell? ⟨b, o, none⟩ = some v) (hne : b ≠ b') : (w.setCell ⟨b', o', none⟩ u).cell? ⟨b, o, none⟩ = some v := by
  rw [World.cell?_setCell_other w _ _ u (fun e => hne (by injection e with e; exact e.symm))]
  exact h

set_option maxRecDepth 100000 in
set_option maxHeartbeats 400000 in
theorem uwrite_any (B g : Nat) (u : US) (hp : u.p.Ok) (a : Ak) (w : World) (hb : UnAt w B g u) :
    Calls Try.prog 53 #[.pointer (some ⟨g, 0, none⟩), .agg a.cells] w fun e w' => e = .returned (.agg (ansC (writeErr u.p a.pg a.d) 0 ⟨#[]⟩ 0)) ∧ UnAt w' B g { u with p := writeP u.p a.pg a.d } ∧ Fr [82] B w w' := by
  obtain ⟨q, hg, hBg, hq⟩ := hb
  obtain ⟨ak, au, ae, apg, asz, an, ad, ape, aca, acn, acc⟩ := a
  unfold Ak.cells
  have hgs := hg.lt
  have hB : B ≤ w.heap.size := by omega
  have G2 : Hid (Blk (W2 w ak au ae apg asz an ad ape aca acn acc).drew g 76 #[.pointer (some ⟨q, 0, none⟩), .int .i64 u.ep, .bool u.dn]) := hide (hg.below (W2.below ..).drew hgs)
  have X2 : Hid (Blk (W2 w ak au ae apg asz an ad ape aca acn acc).drew w.heap.size 36 _) := hide (W2.box w ak au ae apg asz an ad ape aca acn acc)
  have R2 : Hid (Blk (W2 w ak au ae apg asz an ad ape aca acn acc).drew (w.heap.size + 1) 41 _) := hide (W2.res w ak au ae apg asz an ad ape aca acn acc)
  have Q2 : Hid (PgAt (W2 w ak au ae apg asz an ad ape aca acn acc).drew B q u.p) := hide (hq.below (W2.below ..).drew)
  have F2 : Hid (Fr [82] B w (W2 w ak au ae apg asz an ad ape aca acn acc).drew) := hide (Fr.of_below (W2.below ..)).drew
  have HK0 : Hid ((W2 w ak au ae apg asz an ad ape aca acn acc).drew.cell? ⟨g, 0, none⟩ = some (.pointer (some ⟨q, 0, none⟩)) ∧ (W2 w ak au ae apg asz an ad ape aca acn acc).drew.cell? ⟨w.heap.size, 3, none⟩ = some (.int .i64 apg) ∧ (W2 w ak au ae apg asz an ad ape aca acn acc).drew.cell? ⟨w.heap.size, 6, none⟩ = some (.string ad)) :=
    hide ⟨G2.out.cell 0, X2.out.cell 3, X2.out.cell 6⟩
  clear hg hq
  go_enter Try.func53, Try.ntmps53
  go_wp2_with fail
  go_region_held3 (fun w' => w'.cell? ⟨g, 0, none⟩ = some (.pointer (some ⟨q, 0, none⟩)) ∧ w'.cell? ⟨w.heap.size, 3, none⟩ = some (.int .i64 apg) ∧ w'.cell? ⟨w.heap.size, 6, none⟩ = some (.string ad)) (first | (with_reducible exact HK.out) | (obtain ⟨k1, k2, k3⟩ := HK.out; refine ⟨?_, ?_, ?_⟩ <;> (iterate 8 (with_reducible refine far_cell ?_ (by omega))) <;> first | (with_reducible exact k1) | (with_reducible exact k2) | (with_reducible exact k3)) | (have := HK0; unfold W2 at this; with_reducible exact this.out)) ((go_at_call 31; refine (write_any B q u.p hp apg ad _ Q2.out).mono ?_; rintro e w1 ⟨rfl, hb1, hf1⟩; have G3 := hide (G2.out.fr hf1 (by decide)); have X3 := hide (X2.out.fr hf1 (by decide)); obtain ⟨⟨r0, r1, r2, r3, r4, r5, r6, r7⟩, y0, y1, y2, y3, y4, y5, y6, y7⟩ := blk8 (R2.out.fr hf1 (by decide)); have HK : Hid (w1.cell? ⟨g, 0, none⟩ = some (.pointer (some ⟨q, 0, none⟩)) ∧ w1.cell? ⟨w.heap.size, 3, none⟩ = some (.int .i64 apg) ∧ w1.cell? ⟨w.heap.size, 6, none⟩ = some (.string ad)) := hide ⟨G3.out.cell 0, X3.out.cell 3, X3.out.cell 6⟩; have Q3 := hide hb1; have R3 := hide (R2.out.fr hf1 (by decide)); have F3 := hide (F2.out.trans hf1); clear hb1 hf1))
  all_goals go_wp2
  refine bodyPost_ret (v := .agg (ansC (writeErr u.p apg ad) 0 ⟨#[]⟩ 0)) (by simp [results, Try.results53, go_sem, ansC, r0, r1, r2, r3, r4, r5, r6, r7]) rfl ⟨rfl, ?_, ?_⟩
  · exact UnAt.st8 (u := { u with p := writeP u.p apg ad }) ⟨q, G3.out, hBg, Q3.out⟩ R3.out _ _ _ _ _ _ _ _
  · exact F3.out.st8 (by omega) _ _ _ _ _ _ _ _
set_option maxRecDepth 100000 in
set_option maxHeartbeats 400000 in
theorem ufill_any (B g : Nat) (u : US) (hp : u.p.Ok) (a : Ak) (w : World) (hb : UnAt w B g u) :
    Calls Try.prog 54 #[.pointer (some ⟨g, 0, none⟩), .agg a.cells] w fun e w' => e = .returned (.agg (ansC (fillErr u.p a.pg) 0 ⟨#[]⟩ 0)) ∧ UnAt w' B g { u with p := fillP u.p a.pg } ∧ Fr [82] B w w' := by
  obtain ⟨q, hg, hBg, hq⟩ := hb
  obtain ⟨ak, au, ae, apg, asz, an, ad, ape, aca, acn, acc⟩ := a
  unfold Ak.cells
  have hgs := hg.lt
  have hB : B ≤ w.heap.size := by omega
  have G2 : Hid (Blk (W2 w ak au ae apg asz an ad ape aca acn acc).drew g 76 #[.pointer (some ⟨q, 0, none⟩), .int .i64 u.ep, .bool u.dn]) := hide (hg.below (W2.below ..).drew hgs)
  have X2 : Hid (Blk (W2 w ak au ae apg asz an ad ape aca acn acc).drew w.heap.size 36 _) := hide (W2.box w ak au ae apg asz an ad ape aca acn acc)
  have R2 : Hid (Blk (W2 w ak au ae apg asz an ad ape aca acn acc).drew (w.heap.size + 1) 41 _) := hide (W2.res w ak au ae apg asz an ad ape aca acn acc)
  have Q2 : Hid (PgAt (W2 w ak au ae apg asz an ad ape aca acn acc).drew B q u.p) := hide (hq.below (W2.below ..).drew)
  have F2 : Hid (Fr [82] B w (W2 w ak au ae apg asz an ad ape aca acn acc).drew) := hide (Fr.of_below (W2.below ..)).drew
  have HK0 : Hid ((W2 w ak au ae apg asz an ad ape aca acn acc).drew.cell? ⟨g, 0, none⟩ = some (.pointer (some ⟨q, 0, none⟩)) ∧ (W2 w ak au ae apg asz an ad ape aca acn acc).drew.cell? ⟨w.heap.size, 3, none⟩ = some (.int .i64 apg) ∧ (W2 w ak au ae apg asz an ad ape aca acn acc).drew.cell? ⟨w.heap.size, 6, none⟩ = some (.string ad)) :=
    hide ⟨G2.out.cell 0, X2.out.cell 3, X2.out.cell 6⟩
  clear hg hq
  go_enter Try.func54, Try.ntmps54
  go_wp2_with fail
  go_region_held3 (fun w' => w'.cell? ⟨g, 0, none⟩ = some (.pointer (some ⟨q, 0, none⟩)) ∧ w'.cell? ⟨w.heap.size, 3, none⟩ = some (.int .i64 apg) ∧ w'.cell? ⟨w.heap.size, 6, none⟩ = some (.string ad)) (first | (with_reducible exact HK.out) | (obtain ⟨k1, k2, k3⟩ := HK.out; refine ⟨?_, ?_, ?_⟩ <;> (iterate 8 (with_reducible refine far_cell ?_ (by omega))) <;> first | (with_reducible exact k1) | (with_reducible exact k2) | (with_reducible exact k3)) | (have := HK0; unfold W2 at this; with_reducible exact this.out)) ((go_at_call 33; refine (fill_any B q u.p hp apg _ Q2.out).mono ?_; rintro e w1 ⟨rfl, hb1, hf1⟩; have G3 := hide (G2.out.fr hf1 (by decide)); have X3 := hide (X2.out.fr hf1 (by decide)); obtain ⟨⟨r0, r1, r2, r3, r4, r5, r6, r7⟩, y0, y1, y2, y3, y4, y5, y6, y7⟩ := blk8 (R2.out.fr hf1 (by decide)); have HK : Hid (w1.cell? ⟨g, 0, none⟩ = some (.pointer (some ⟨q, 0, none⟩)) ∧ w1.cell? ⟨w.heap.size, 3, none⟩ = some (.int .i64 apg) ∧ w1.cell? ⟨w.heap.size, 6, none⟩ = some (.string ad)) := hide ⟨G3.out.cell 0, X3.out.cell 3, X3.out.cell 6⟩; have Q3 := hide hb1; have R3 := hide (R2.out.fr hf1 (by decide)); have F3 := hide (F2.out.trans hf1); clear hb1 hf1))
  all_goals go_wp2
  refine bodyPost_ret (v := .agg (ansC (fillErr u.p apg) 0 ⟨#[]⟩ 0)) (by simp [results, Try.results54, go_sem, ansC, r0, r1, r2, r3, r4, r5, r6, r7]) rfl ⟨rfl, ?_, ?_⟩
  · exact UnAt.st8 (u := { u with p := fillP u.p apg }) ⟨q, G3.out, hBg, Q3.out⟩ R3.out _ _ _ _ _ _ _ _
  · exact F3.out.st8 (by omega) _ _ _ _ _ _ _ _
set_option maxRecDepth 100000 in
set_option maxHeartbeats 400000 in
theorem utrim_any (B g : Nat) (u : US) (hp : u.p.Ok) (a : Ak) (w : World) (hb : UnAt w B g u) :
    Calls Try.prog 56 #[.pointer (some ⟨g, 0, none⟩), .agg a.cells] w fun e w' => e = .returned (.agg (ansC (trimErr a.pg) 0 ⟨#[]⟩ 0)) ∧ UnAt w' B g { u with p := trimP u.p a.pg } ∧ Fr [82] B w w' := by
  obtain ⟨q, hg, hBg, hq⟩ := hb
  obtain ⟨ak, au, ae, apg, asz, an, ad, ape, aca, acn, acc⟩ := a
  unfold Ak.cells
  have hgs := hg.lt
  have hB : B ≤ w.heap.size := by omega
  have G2 : Hid (Blk (W2 w ak au ae apg asz an ad ape aca acn acc).drew g 76 #[.pointer (some ⟨q, 0, none⟩), .int .i64 u.ep, .bool u.dn]) := hide (hg.below (W2.below ..).drew hgs)
  have X2 : Hid (Blk (W2 w ak au ae apg asz an ad ape aca acn acc).drew w.heap.size 36 _) := hide (W2.box w ak au ae apg asz an ad ape aca acn acc)
  have R2 : Hid (Blk (W2 w ak au ae apg asz an ad ape aca acn acc).drew (w.heap.size + 1) 41 _) := hide (W2.res w ak au ae apg asz an ad ape aca acn acc)
  have Q2 : Hid (PgAt (W2 w ak au ae apg asz an ad ape aca acn acc).drew B q u.p) := hide (hq.below (W2.below ..).drew)
  have F2 : Hid (Fr [82] B w (W2 w ak au ae apg asz an ad ape aca acn acc).drew) := hide (Fr.of_below (W2.below ..)).drew
  have HK0 : Hid ((W2 w ak au ae apg asz an ad ape aca acn acc).drew.cell? ⟨g, 0, none⟩ = some (.pointer (some ⟨q, 0, none⟩)) ∧ (W2 w ak au ae apg asz an ad ape aca acn acc).drew.cell? ⟨w.heap.size, 3, none⟩ = some (.int .i64 apg) ∧ (W2 w ak au ae apg asz an ad ape aca acn acc).drew.cell? ⟨w.heap.size, 6, none⟩ = some (.string ad)) :=
    hide ⟨G2.out.cell 0, X2.out.cell 3, X2.out.cell 6⟩
  clear hg hq
  go_enter Try.func56, Try.ntmps56
  go_wp2_with fail
  go_region_held3 (fun w' => w'.cell? ⟨g, 0, none⟩ = some (.pointer (some ⟨q, 0, none⟩)) ∧ w'.cell? ⟨w.heap.size, 3, none⟩ = some (.int .i64 apg) ∧ w'.cell? ⟨w.heap.size, 6, none⟩ = some (.string ad)) (first | (with_reducible exact HK.out) | (obtain ⟨k1, k2, k3⟩ := HK.out; refine ⟨?_, ?_, ?_⟩ <;> (iterate 8 (with_reducible refine far_cell ?_ (by omega))) <;> first | (with_reducible exact k1) | (with_reducible exact k2) | (with_reducible exact k3)) | (have := HK0; unfold W2 at this; with_reducible exact this.out)) ((go_at_call 34; refine (trim_any B q u.p hp apg _ Q2.out).mono ?_; rintro e w1 ⟨rfl, hb1, hf1⟩; have G3 := hide (G2.out.fr hf1 (by decide)); have X3 := hide (X2.out.fr hf1 (by decide)); obtain ⟨⟨r0, r1, r2, r3, r4, r5, r6, r7⟩, y0, y1, y2, y3, y4, y5, y6, y7⟩ := blk8 (R2.out.fr hf1 (by decide)); have HK : Hid (w1.cell? ⟨g, 0, none⟩ = some (.pointer (some ⟨q, 0, none⟩)) ∧ w1.cell? ⟨w.heap.size, 3, none⟩ = some (.int .i64 apg) ∧ w1.cell? ⟨w.heap.size, 6, none⟩ = some (.string ad)) := hide ⟨G3.out.cell 0, X3.out.cell 3, X3.out.cell 6⟩; have Q3 := hide hb1; have R3 := hide (R2.out.fr hf1 (by decide)); have F3 := hide (F2.out.trans hf1); clear hb1 hf1))
  all_goals go_wp2
  refine bodyPost_ret (v := .agg (ansC (trimErr apg) 0 ⟨#[]⟩ 0)) (by simp [results, Try.results56, go_sem, ansC, r0, r1, r2, r3, r4, r5, r6, r7]) rfl ⟨rfl, ?_, ?_⟩
  · exact UnAt.st8 (u := { u with p := trimP u.p apg }) ⟨q, G3.out, hBg, Q3.out⟩ R3.out _ _ _ _ _ _ _ _
  · exact F3.out.st8 (by omega) _ _ _ _ _ _ _ _
set_option maxRecDepth 100000 in
set_option maxHeartbeats 400000 in
theorem uread_any (B g : Nat) (u : US) (hp : u.p.Ok) (a : Ak) (w : World) (hb : UnAt w B g u) :
    Calls Try.prog 55 #[.pointer (some ⟨g, 0, none⟩), .agg a.cells] w fun e w' => e = .returned (.agg (ansC (readP u.p a.pg).2 0 (readP u.p a.pg).1 0)) ∧ UnAt w' B g u ∧ Fr [82] B w w' := by
  have HU := hide hb
  obtain ⟨q, hg, hBg, hq⟩ := hb
  obtain ⟨ak, au, ae, apg, asz, an, ad, ape, aca, acn, acc⟩ := a
  unfold Ak.cells
  have hgs := hg.lt
  have hB : B ≤ w.heap.size := by omega
  have G2 : Hid (Blk (W2 w ak au ae apg asz an ad ape aca acn acc).drew g 76 #[.pointer (some ⟨q, 0, none⟩), .int .i64 u.ep, .bool u.dn]) := hide (hg.below (W2.below ..).drew hgs)
  have X2 : Hid (Blk (W2 w ak au ae apg asz an ad ape aca acn acc).drew w.heap.size 36 _) := hide (W2.box w ak au ae apg asz an ad ape aca acn acc)
  have Q2 : Hid (PgAt (W2 w ak au ae apg asz an ad ape aca acn acc).drew B q u.p) := hide (hq.below (W2.below ..).drew)
  have HK0 : Hid ((W2 w ak au ae apg asz an ad ape aca acn acc).drew.cell? ⟨g, 0, none⟩ = some (.pointer (some ⟨q, 0, none⟩)) ∧ (W2 w ak au ae apg asz an ad ape aca acn acc).drew.cell? ⟨w.heap.size, 3, none⟩ = some (.int .i64 apg)) :=
    hide ⟨G2.out.cell 0, X2.out.cell 3⟩
  have HK1 := HK0
  unfold W2 at HK1
  clear hg hq
  go_enter Try.func55, Try.ntmps55
  go_wp2_with fail
  go_region_held3 (fun w' => w'.cell? ⟨g, 0, none⟩ = some (.pointer (some ⟨q, 0, none⟩)) ∧ w'.cell? ⟨w.heap.size, 3, none⟩ = some (.int .i64 apg)) (first | (with_reducible exact HK1.out) | (exact HK0.out)) ((go_at_call 35; refine (read_any B q u.p hp apg _ (by exact Q2.out)).mono ?_; rintro e w1 ⟨rfl, rfl⟩))
  all_goals go_wp2
  refine bodyPost_ret (v := .agg (ansC (readP u.p apg).2 0 (readP u.p apg).1 0)) (by simp [results, Try.results55, go_sem, ansC]) rfl ⟨rfl, ?_, ?_⟩
  · exact HU.out.below ((((Below.refl _ _).alloc (Nat.le_refl _) _).alloc (by simp) _).drew)
  · exact Fr.of_below ((((Below.refl _ _).alloc (Nat.le_refl _) _).alloc (by simp) _).drew)

set_option maxRecDepth 100000 in
set_option maxHeartbeats 400000 in
theorem useal_any (B g : Nat) (u : US) (hp : u.p.Ok) (a : Ak) (w : World) (hb : UnAt w B g u) :
    Calls Try.prog 57 #[.pointer (some ⟨g, 0, none⟩), .agg a.cells] w fun e w' => e = .returned (.agg (ansC 0 (tailP u.p) ⟨#[]⟩ 0)) ∧ UnAt w' B g { u with ep := a.e } ∧ Fr [76, 82] B w w' := by
  obtain ⟨q, hg, hBg, hq⟩ := hb
  obtain ⟨ak, au, ae, apg, asz, an, ad, ape, aca, acn, acc⟩ := a
  unfold Ak.cells
  have hgs := hg.lt
  have hB : B ≤ w.heap.size := by omega
  have G2 : Hid (Blk (W2 w ak au ae apg asz an ad ape aca acn acc) g 76 #[.pointer (some ⟨q, 0, none⟩), .int .i64 u.ep, .bool u.dn]) := hide (hg.below (W2.below ..) hgs)
  have R2 : Hid (Blk (W2 w ak au ae apg asz an ad ape aca acn acc) (w.heap.size + 1) 41 _) := hide (W2.res w ak au ae apg asz an ad ape aca acn acc)
  have Q2 : Hid (PgAt (W2 w ak au ae apg asz an ad ape aca acn acc) B q u.p) := hide (hq.below (W2.below ..))
  have F2 : Hid (Fr [76, 82] B w (W2 w ak au ae apg asz an ad ape aca acn acc)) := hide (Fr.of_below (W2.below ..))
  obtain ⟨g0, g1, g2, z0, z1, z2⟩ := blk3 G2.out
  unfold W2 at g0 g1 g2 z0 z1 z2
  have hsz : (w.setCell ⟨g, 1, none⟩ (.int .i64 ae)).heap.size = w.heap.size := by simp [World.setCell]
  have g3 : Blk (w.setCell ⟨g, 1, none⟩ (.int .i64 ae)) g 76 #[.pointer (some ⟨q, 0, none⟩), .int .i64 ae, .bool u.dn] := hg.set_ 1 (.int .i64 ae)
  have hqg : g ≠ q := by
    obtain ⟨b, h1, _⟩ := hq
    exact hg.ne_ h1 (by decide)
  have q3 : PgAt (w.setCell ⟨g, 1, none⟩ (.int .i64 ae)) B q u.p := by
    obtain ⟨b, h1, h2, h3, h4⟩ := hq
    exact ⟨b, h1.far (p := ⟨g, 1, none⟩) (fun e => hqg e.symm) _, h2, h3, h4.setCell (p := ⟨g, 1, none⟩) (h4.ne_blk hg) _⟩
  have G3 : Hid (Blk (W2 (w.setCell ⟨g, 1, none⟩ (.int .i64 ae)) ak au ae apg asz an ad ape aca acn acc) g 76 #[.pointer (some ⟨q, 0, none⟩), .int .i64 ae, .bool u.dn]) := hide (g3.below (W2.below ..) g3.lt)
  have Q3 : Hid (PgAt (W2 (w.setCell ⟨g, 1, none⟩ (.int .i64 ae)) ak au ae apg asz an ad ape aca acn acc) B q u.p) := hide (q3.below (W2.below ..))
  have R3 : Hid (Blk (W2 (w.setCell ⟨g, 1, none⟩ (.int .i64 ae)) ak au ae apg asz an ad ape aca acn acc) (w.heap.size + 1) 41 #[.int .i64 0, .int .i64 0, .string ⟨#[]⟩, .int .i64 0, .slice none 0 0, .int .i64 0, .int .i64 0, .int .i64 0]) := hide (by
    have := W2.res (w.setCell ⟨g, 1, none⟩ (.int .i64 ae)) ak au ae apg asz an ad ape aca acn acc
    rwa [hsz] at this)
  have F3 : Hid (Fr [76, 82] B w (W2 (w.setCell ⟨g, 1, none⟩ (.int .i64 ae)) ak au ae apg asz an ad ape aca acn acc)) := hide ((((Fr.refl [76, 82] B w).setCell (p := ⟨g, 1, none⟩) hBg hg (by decide) _).alloc _).alloc _)
  have k0 := (blk3 G3.out).1
  unfold W2 at k0
  clear g3 q3 hsz
  clear hg hq
  go_enter Try.func57, Try.ntmps57
  go_wp2_with fail
  refine (tail_any B q u.p hp _ Q3.out).mono ?_
  rintro e w1 ⟨rfl, hb1⟩
  have G4 := hide (G3.out.below hb1 G3.out.lt)
  have Q4 := hide (Q3.out.below hb1)
  have R4 := hide (R3.out.below hb1 R3.out.lt)
  have F4 := hide (F3.out.trans (Fr.of_below hb1))
  obtain ⟨⟨r0, r1, r2, r3, r4, r5, r6, r7⟩, y0, y1, y2, y3, y4, y5, y6, y7⟩ := blk8 R4.out
  clear hb1
  go_wp2
  refine bodyPost_ret (v := .agg (ansC 0 (tailP u.p) ⟨#[]⟩ 0)) (by simp [results, Try.results57, go_sem, ansC, r0, r1, r2, r3, r4, r5, r6, r7]) rfl ⟨rfl, ?_, ?_⟩
  · exact UnAt.st8 (u := { u with ep := ae }) ⟨q, G4.out, hBg, Q4.out⟩ R4.out _ _ _ _ _ _ _ _
  · exact F4.out.st8 (by omega) _ _ _ _ _ _ _ _
end Go.Proofs.Ytjpegkginmoekaa

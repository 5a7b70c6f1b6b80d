/- The reference's unit: New, Do. -/
import Derived.Test.YtjpegkginmoekaaRfD
import Derived.Test.YtjpegkginmoekaaUnD
import Derived.Deep.RegionHeld3
namespace Go.Proofs.Ytjpegkginmoekaa
open Go.RowKit
set_option linter.unusedVariables false

/-- what the reference's unit leaves: all but its own blocks -/
structure Fn (B : Nat) (w w' : World) : Prop where
  os : w'.os = w.os
  tape : w'.tape = w.tape
  output : w'.output = w.output
  size : w.heap.size ≤ w'.heap.size
  block : ∀ k o, w.heap[k]? = some o → (k < B ∨ ∀ cs t z, o = .cells cs t z → t ≠ 45 ∧ t ≠ 85) → w'.heap[k]? = some o
theorem Fn.of_below {B : Nat} {w w' : World} (h : Below w.heap.size w w') : Fn B w w' :=
  ⟨h.os, h.tape, h.output, h.size, fun k _ hk _ => (h.block k (Array.getElem?_eq_some_iff.1 hk).1).trans hk⟩
theorem Fn.trans {B : Nat} {a b c : World} (h : Fn B a b) (k : Fn B b c) : Fn B a c :=
  ⟨k.os.trans h.os, k.tape.trans h.tape, k.output.trans h.output, Nat.le_trans h.size k.size, fun i o ho hi => k.block i o (h.block i o ho hi) hi⟩
theorem Fn.drewN {B : Nat} {a w : World} (h : Fn B a w) (n : Nat) : Fn B a (w.drewN n) := ⟨h.os, h.tape, h.output, h.size, h.block⟩
theorem Fn.grown {B q : Nat} {a w w' : World} {t : TypeId} {cs : Array Value} (h : Fn B a w) (hq : Blk w q t cs) (ht : t = 45 ∨ t = 85) (hB : B ≤ q) (hg : w.grownBy w' (some q)) : Fn B a w' :=
  h.trans ⟨hg.os, hg.tape, hg.output, hg.size, fun k o hk hh => by
    rw [hg.block k (Array.getElem?_eq_some_iff.1 hk).1 (by
      intro e
      injection e with e
      subst e
      unfold Blk at hq
      rw [hq] at hk
      injection hk with hk
      rcases hh with hh | hh
      · omega
      · have := hh _ _ _ hk.symm
        rcases ht with e | e
        · exact this.1 e
        · exact this.2 e)]
    exact hk⟩
theorem Fn.keep {B : Nat} {a w w' : World} {r : Nat} (h : Fn B a w) (hr : a.heap.size ≤ r) (hg : w.grownBy w' (some r)) : Fn B a w' :=
  ⟨hg.os.trans h.os, hg.tape.trans h.tape, hg.output.trans h.output, Nat.le_trans h.size hg.size, fun k o hk hh => by
    have h1 := h.block k o hk hh
    have hlt := (Array.getElem?_eq_some_iff.1 hk).1
    rw [hg.block k (Array.getElem?_eq_some_iff.1 h1).1 (fun e => by injection e with e; omega)]
    exact h1⟩
theorem setCell_grown (w : World) (r i : Nat) (v : Value) : w.grownBy (w.setCell ⟨r, i, none⟩ v) (some r) :=
  ⟨rfl, rfl, rfl, by simp [World.setCell], fun k hk hne => Below.heap_setCell _ _ _ _ (fun e => hne (by rw [e]))⟩
theorem Fn.store {B : Nat} {a w : World} (h : Fn B a w) {r : Nat} (hr : a.heap.size ≤ r) (i : Nat) (v : Value) : Fn B a (w.setCell ⟨r, i, none⟩ v) := h.keep hr (setCell_grown w r i v)
theorem Fn.below {B : Nat} {w w' : World} (h : Fn B w w') (hB : B ≤ w.heap.size) : Below B w w' :=
  ⟨h.os, h.tape, h.output, h.size, fun k hk => by
    have hk' : k < w.heap.size := by omega
    have := h.block k _ (Array.getElem?_eq_getElem hk') (.inl hk)
    rw [this, Array.getElem?_eq_getElem hk']⟩
theorem Blk.fn {B g : Nat} {w w' : World} {t : TypeId} {cs : Array Value} (h : Blk w g t cs) (hf : Fn B w w') (h1 : t ≠ 45) (h2 : t ≠ 85) : Blk w' g t cs :=
  hf.block g _ h (.inr fun cs' t' z' e => by injection e with _ e2 _; subst e2; exact ⟨h1, h2⟩)
theorem PgAt.fn {w w' : World} {B B' g : Nat} {p : PS} (h : PgAt w B g p) (hf : Fn B' w w') : PgAt w' B g p := by
  obtain ⟨b, h1, h2, h3, h4⟩ := h
  refine ⟨b, h1.fn hf (by decide) (by decide), h2, h3, h4.same ?_⟩
  obtain ⟨es, c, hb⟩ := h4.obj
  rw [hf.block b _ hb (.inr fun cs t z e => by cases e), hb]
theorem UnAt.fn {w w' : World} {B B' g : Nat} {u : US} (h : UnAt w B g u) (hf : Fn B' w w') : UnAt w' B g u := by
  obtain ⟨q, h1, h2, h3⟩ := h
  exact ⟨q, h1.fn hf (by decide) (by decide), h2, h3.fn hf⟩

/-- block g is a reference's unit that reads as u -/
def RuAt (w : World) (B g : Nat) (u : US) : Prop := ∃ q, Blk w g 45 #[.pointer (some ⟨q, 0, none⟩), .int .i64 u.ep, .bool u.dn] ∧ B ≤ g ∧ RfAt w B q u.p
theorem RuAt.below {w w' : World} {B g : Nat} {u : US} (h : RuAt w B g u) (hb : Below w.heap.size w w') : RuAt w' B g u := by
  obtain ⟨q, h1, h2, h3⟩ := h
  exact ⟨q, h1.below hb h1.lt, h2, h3.below hb⟩
theorem RuAt.alloc {w : World} {B g : Nat} {u : US} (h : RuAt w B g u) (o : Obj) : RuAt (w.alloc o) B g u := h.below ((Below.refl _ _).alloc (Nat.le_refl _) _)
theorem RuAt.fr {ts : List TypeId} {w w' : World} {B B' g : Nat} {u : US} (h : RuAt w B g u) (hf : Fr ts B' w w') (h0 : 45 ∉ ts) (h1 : 85 ∉ ts) (h2 : 89 ∉ ts) : RuAt w' B g u := by
  obtain ⟨q, k1, k2, k3⟩ := h
  exact ⟨q, k1.fr hf h0, k2, k3.fr hf h1 h2⟩
theorem RfAt.keep {w w' : World} {B q r : Nat} {p : PS} {t : TypeId} {cs : Array Value} (h : RfAt w B q p) (hr : Blk w r t cs) (h1 : (85 : TypeId) ≠ t) (h2 : (89 : TypeId) ≠ t) (hg : w.grownBy w' (some r)) : RfAt w' B q p := by
  obtain ⟨v, k1, k2, k3⟩ := h
  exact ⟨v, k1.grown hg (fun e => k1.ne_ hr h1 (by injection e)), k2, k3.grown hg (fun i hi e => k3.ne_blk hr h2 (hi.trans e))⟩
theorem RuAt.keep {w w' : World} {B g r : Nat} {u : US} {cs : Array Value} (h : RuAt w B g u) (hr : Blk w r 41 cs) (hg : w.grownBy w' (some r)) : RuAt w' B g u := by
  obtain ⟨q, h1, h2, h3⟩ := h
  exact ⟨q, h1.grown hg (fun e => h1.ne_ hr (by decide) (by injection e)), h2, h3.keep hr (by decide) (by decide) hg⟩
theorem RuAt.store {w : World} {B g r : Nat} {u : US} {cs : Array Value} (h : RuAt w B g u) (hr : Blk w r 41 cs) (i : Nat) (v : Value) : RuAt (w.setCell ⟨r, i, none⟩ v) B g u := h.keep hr (setCell_grown w r i v)

theorem runew_no (room : Int) (w : World) (h : room < 1 ∨ 4096 < room) : Calls Try.prog 12 #[.int .i64 room] w fun e w' => e = .returned (.tuple #[.pointer none, .int .i64 1]) ∧ w = w' := by
  go_enter Try.func12, Try.ntmps12
  go_wp2_with fail
  refine (rnew_no room _ h).mono ?_
  rintro e w1 ⟨rfl, rfl⟩
  go_wp2
  go_ret2
  exact ⟨rfl, rfl⟩
theorem runew_yes (room : Int) (w : World) (h0 : 1 ≤ room) (h1 : room ≤ 4096) : Calls Try.prog 12 #[.int .i64 room] w fun e w' => ∃ g, e = .returned (.tuple #[.pointer (some ⟨g, 0, none⟩), .int .i64 0]) ∧ RuAt w' w.heap.size g (newU room) ∧ Below w.heap.size w w' := by
  go_enter Try.func12, Try.ntmps12
  go_wp2_with fail
  refine (rnew_yes room _ h0 h1).mono ?_
  rintro e w1 ⟨rfl, hb1, hf1⟩
  have HB := hide hb1
  have HF := hide hf1
  clear hb1 hf1
  go_wp2
  go_ret2
  exact ⟨_, rfl, ⟨w.heap.size, Blk.new w1 45 #[.pointer (some ⟨w.heap.size, 0, none⟩), .int .i64 0, .bool false], HF.out.size, HB.out.alloc _⟩, HF.out.alloc HF.out.size _⟩

set_option maxRecDepth 100000 in
set_option maxHeartbeats 200000 in
theorem rdo_down (B g : Nat) (u : US) (a : Ak) (w : World) (hb : RuAt w B g u) (hd : u.dn = true) :
    Calls Try.prog 17 #[.pointer (some ⟨g, 0, none⟩), .agg a.cells] w fun e w' => e = .returned (An.v ⟨45, 0, ⟨#[]⟩, 0⟩) ∧ Below w.heap.size w w' := by
  obtain ⟨q, hg, hBg, hq⟩ := hb
  obtain ⟨ak, au, ae, apg, asz, an, ad, ape, aca, acn, acc⟩ := a
  unfold Ak.cells
  rw [hd] at hg
  have hgs := hg.lt
  have g2 := (blk3 (hg.below (W2.below w ak au ae apg asz an ad ape aca acn acc) hgs)).2.2.1
  unfold W2 at g2
  clear hg hq
  go_enter Try.func17, Try.ntmps17
  go_wp2
  refine bodyPost_ret (v := An.v ⟨45, 0, ⟨#[]⟩, 0⟩) (by simp [results, Try.results17, go_sem, An.v, ansC]) rfl ⟨rfl, ?_⟩
  exact ((Below.refl _ _).alloc (Nat.le_refl _) _).alloc (by simp) _

set_option maxRecDepth 100000 in
set_option maxHeartbeats 400000 in
theorem rdo_kind (B g : Nat) (u : US) (a : Ak) (w : World) (hb : RuAt w B g u) (hd : u.dn = false) (hk : a.k < 1 ∨ 5 < a.k) :
    Calls Try.prog 17 #[.pointer (some ⟨g, 0, none⟩), .agg a.cells] w fun e w' => e = .returned (An.v ⟨1, 0, ⟨#[]⟩, u.ep⟩) ∧ Below w.heap.size w w' := by
  obtain ⟨q, hg, hBg, hq⟩ := hb
  obtain ⟨ak, au, ae, apg, asz, an, ad, ape, aca, acn, acc⟩ := a
  unfold Ak.cells
  simp only at hk
  rw [hd] at hg
  have hgs := hg.lt
  have hgw := hg.below (W2.below w ak au ae apg asz an ad ape aca acn acc) hgs
  have g2 := (blk3 hgw).2.2.1
  have g1 := (blk3 hgw).2.1
  unfold W2 at g2 g1
  clear hg hq hgw
  rcases hk with hk | hk
  · go_enter Try.func17, Try.ntmps17
    go_wp2
    refine bodyPost_ret (v := An.v ⟨1, 0, ⟨#[]⟩, u.ep⟩) (by simp [results, Try.results17, go_sem, An.v, ansC]) rfl ⟨rfl, ?_⟩
    exact (((Below.refl _ _).alloc (Nat.le_refl _) _).alloc (by simp) _).alloc (by simp; omega) _
  · have hk1 : 1 ≤ ak := by omega
    go_enter Try.func17, Try.ntmps17
    go_wp2
    refine bodyPost_ret (v := An.v ⟨1, 0, ⟨#[]⟩, u.ep⟩) (by simp [results, Try.results17, go_sem, An.v, ansC]) rfl ⟨rfl, ?_⟩
    exact (((Below.refl _ _).alloc (Nat.le_refl _) _).alloc (by simp) _).alloc (by simp; omega) _

set_option maxRecDepth 100000 in
set_option maxHeartbeats 400000 in
theorem rdo_old (B g : Nat) (u : US) (a : Ak) (w : World) (hb : RuAt w B g u) (hd : u.dn = false) (hk0 : 1 ≤ a.k) (hk1 : a.k ≤ 5) (he : a.e < u.ep) :
    Calls Try.prog 17 #[.pointer (some ⟨g, 0, none⟩), .agg a.cells] w fun e w' => e = .returned (An.v ⟨40, 0, ⟨#[]⟩, u.ep⟩) ∧ Below w.heap.size w w' := by
  obtain ⟨q, hg, hBg, hq⟩ := hb
  obtain ⟨ak, au, ae, apg, asz, an, ad, ape, aca, acn, acc⟩ := a
  unfold Ak.cells
  simp only at hk0 hk1 he
  rw [hd] at hg
  have hgs := hg.lt
  have hgw := hg.below (W2.below w ak au ae apg asz an ad ape aca acn acc) hgs
  have g2 := (blk3 hgw).2.2.1
  have g1 := (blk3 hgw).2.1
  have g1' : ∀ o, ((W2 w ak au ae apg asz an ad ape aca acn acc).alloc o).cell? ⟨g, 1, none⟩ = some (.int .i64 u.ep) := fun o => (blk3 (hgw.alloc o)).2.1
  unfold W2 at g2 g1 g1'
  clear hg hq hgw
  go_enter Try.func17, Try.ntmps17
  go_wp2_with fail
  go_quiet (fail)
  go_wp2
  refine bodyPost_ret (v := An.v ⟨40, 0, ⟨#[]⟩, u.ep⟩) (by simp [results, Try.results17, go_sem, An.v, ansC]) rfl ⟨rfl, ?_⟩
  repeat (with_reducible refine Below.setCell ?_ (by first | (simp; done) | (simp; omega)) _)
  with_reducible refine below_drewN ?_ _
  exact (((Below.refl _ _).alloc (Nat.le_refl _) _).alloc (by simp) _).alloc (by simp; omega) _
end Go.Proofs.Ytjpegkginmoekaa

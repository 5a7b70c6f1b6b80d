/- Units: Do. -/
import Derived.Test.YtjpegkginmoekaaUnB
import Derived.Deep.MidRow
namespace Go.Proofs.Ytjpegkginmoekaa
open Go.RowKit
set_option linter.unusedVariables false

/-- an answer's four cells that are not always nought -/
structure An where
  code : Int
  n : Int
  d : ByteArray
  ep : Int
def An.v (r : An) : Value := .agg (ansC r.code r.n r.d r.ep)
/-- what Do answers, and what the unit is behind it -/
def doR (u : US) (a : Ak) : An × US :=
  if u.dn then (⟨45, 0, ⟨#[]⟩, 0⟩, u)
  else if a.k < 1 ∨ 5 < a.k then (⟨1, 0, ⟨#[]⟩, u.ep⟩, u)
  else if a.e < u.ep then (⟨40, 0, ⟨#[]⟩, u.ep⟩, u)
  else if a.k = 1 then (⟨writeErr u.p a.pg a.d, 0, ⟨#[]⟩, u.ep⟩, { u with p := writeP u.p a.pg a.d })
  else if a.k = 2 then (⟨fillErr u.p a.pg, 0, ⟨#[]⟩, u.ep⟩, { u with p := fillP u.p a.pg })
  else if a.k = 3 then (⟨(readP u.p a.pg).2, 0, (readP u.p a.pg).1, u.ep⟩, u)
  else if a.k = 4 then (⟨trimErr a.pg, 0, ⟨#[]⟩, u.ep⟩, { u with p := trimP u.p a.pg })
  else (⟨0, tailP u.p, ⟨#[]⟩, a.e⟩, { u with ep := a.e })

set_option maxRecDepth 100000 in
set_option maxHeartbeats 200000 in
theorem do_down (B g : Nat) (u : US) (a : Ak) (w : World) (hb : UnAt w B g u) (hd : u.dn = true) :
    Calls Try.prog 16 #[.pointer (some ⟨g, 0, none⟩), .agg a.cells] w fun e w' => e = .returned (An.v ⟨45, 0, ⟨#[]⟩, 0⟩) ∧ Below w.heap.size w w' := by
  obtain ⟨q, hg, hBg, hq⟩ := hb
  obtain ⟨ak, au, ae, apg, asz, an, ad, ape, aca, acn, acc⟩ := a
  unfold Ak.cells
  rw [hd] at hg
  have hgs := hg.lt
  have g2 := (blk3 (hg.below (W2.below w ak au ae apg asz an ad ape aca acn acc) hgs)).2.2.1
  unfold W2 at g2
  clear hg hq
  go_enter Try.func16, Try.ntmps16
  go_wp2
  refine bodyPost_ret (v := An.v ⟨45, 0, ⟨#[]⟩, 0⟩) (by simp [results, Try.results16, go_sem, An.v, ansC]) rfl ⟨rfl, ?_⟩
  exact ((Below.refl _ _).alloc (Nat.le_refl _) _).alloc (by simp) _

theorem eqnil0 (w : World) : (binOp .eql 78 .nilFunc .nilFunc).run Try.prog w = .ok (.bool true) w := by kernel_rfl
theorem eqnil1 (w : World) : (binOp .eql 78 (.func (.func 53) #[] #[]) .nilFunc).run Try.prog w = .ok (.bool false) w := by kernel_rfl
theorem eqnil2 (w : World) : (binOp .eql 78 (.func (.func 54) #[] #[]) .nilFunc).run Try.prog w = .ok (.bool false) w := by kernel_rfl
theorem eqnil3 (w : World) : (binOp .eql 78 (.func (.func 55) #[] #[]) .nilFunc).run Try.prog w = .ok (.bool false) w := by kernel_rfl
theorem eqnil4 (w : World) : (binOp .eql 78 (.func (.func 56) #[] #[]) .nilFunc).run Try.prog w = .ok (.bool false) w := by kernel_rfl
theorem eqnil5 (w : World) : (binOp .eql 78 (.func (.func 57) #[] #[]) .nilFunc).run Try.prog w = .ok (.bool false) w := by kernel_rfl

set_option maxRecDepth 100000 in
set_option maxHeartbeats 300000 in
theorem do_kind (B g : Nat) (u : US) (a : Ak) (w : World) (hb : UnAt w B g u) (hd : u.dn = false) (hk : a.k < 1 ∨ 5 < a.k) :
    Calls Try.prog 16 #[.pointer (some ⟨g, 0, none⟩), .agg a.cells] w fun e w' => e = .returned (An.v ⟨1, 0, ⟨#[]⟩, u.ep⟩) ∧ Below w.heap.size w w' := by
  obtain ⟨q, hg, hBg, hq⟩ := hb
  obtain ⟨ak, au, ae, apg, asz, an, ad, ape, aca, acn, acc⟩ := a
  unfold Ak.cells
  simp only at hk
  rw [hd] at hg
  have hgs := hg.lt
  have hgw := hg.below (W2.below w ak au ae apg asz an ad ape aca acn acc) hgs
  have g2 := (blk3 hgw).2.2.1
  have g1 : ∀ o, ((W2 w ak au ae apg asz an ad ape aca acn acc).alloc o).cell? ⟨g, 1, none⟩ = some (.int .i64 u.ep) := fun o => (blk3 (hgw.alloc o)).2.1
  unfold W2 at g2 g1
  have HK := hide hk
  have he := eqnil0
  clear hg hq hgw hk
  go_enter Try.func16, Try.ntmps16
  go_wp2_with fail
  refine (doing_no ak _ HK.out).mono ?_
  rintro e w1 ⟨rfl, rfl⟩
  go_wp2
  refine bodyPost_ret (v := An.v ⟨1, 0, ⟨#[]⟩, u.ep⟩) (by simp [results, Try.results16, go_sem, An.v, ansC]) rfl ⟨rfl, ?_⟩
  exact (((Below.refl _ _).alloc (Nat.le_refl _) _).alloc (by simp) _).alloc (by simp; omega) _

theorem below_drewN {B : Nat} {a w : World} (h : Below B a w) (n : Nat) : Below B a (w.drewN n) := ⟨h.os, h.tape, h.output, h.size, h.block⟩
theorem Blk.st8 {w : World} {r : Nat} {cs : Array Value} (hr : Blk w r 41 cs) (hs : cs.size = 8) (v0 v1 v2 v3 v4 v5 v6 v7 : Value) : Blk (st8 w r v0 v1 v2 v3 v4 v5 v6 v7) r 41 #[v0, v1, v2, v3, v4, v5, v6, v7] := by
  obtain ⟨l⟩ := cs
  match l, hs with
  | [c0, c1, c2, c3, c4, c5, c6, c7], _ =>
    have h := (((((((hr.set_ 0 v0).set_ 1 v1).set_ 2 v2).set_ 3 v3).set_ 4 v4).set_ 5 v5).set_ 6 v6).set_ 7 v7
    simp only [List.setIfInBounds_toArray, List.set_cons_zero, List.set_cons_succ] at h
    exact h
theorem Blk.far8 {w : World} {g r : Nat} {t : TypeId} {cs : Array Value} (h : Blk w g t cs) (hne : g ≠ r) (v0 v1 v2 v3 v4 v5 v6 v7 : Value) : Blk (Go.Proofs.Ytjpegkginmoekaa.st8 w r v0 v1 v2 v3 v4 v5 v6 v7) g t cs :=
  (((((((h.far (p := ⟨r, 0, none⟩) hne v0).far (p := ⟨r, 1, none⟩) hne v1).far (p := ⟨r, 2, none⟩) hne v2).far (p := ⟨r, 3, none⟩) hne v3).far (p := ⟨r, 4, none⟩) hne v4).far (p := ⟨r, 5, none⟩) hne v5).far (p := ⟨r, 6, none⟩) hne v6).far (p := ⟨r, 7, none⟩) hne v7

theorem Try.info41 : (Try.prog.info? 41).map (·.size) = some 8 := by kernel_rfl
theorem setCells_grown (b : Nat) : ∀ (vs : List Value) (o : Nat) (w : World), w.grownBy (w.setCells b o vs) (some b)
  | [], _, w => ⟨rfl, rfl, rfl, Nat.le_refl _, fun _ _ _ => rfl⟩
  | v :: r, o, w => by
    have h1 := setCells_grown b r (o + 1) (w.setCell ⟨b, o, none⟩ v)
    have hs : (w.setCell ⟨b, o, none⟩ v).heap.size = w.heap.size := by simp [World.setCell]
    refine ⟨h1.os, h1.tape, h1.output, by have := h1.size; rw [hs] at this; exact this, fun k hk hne => ?_⟩
    refine (h1.block k (by omega) hne).trans (Below.heap_setCell _ _ _ _ (fun e => hne (by rw [e])))
theorem setCells_blk8 {w : World} {r : Nat} {t : TypeId} {c0 c1 c2 c3 c4 c5 c6 c7 v0 v1 v2 v3 v4 v5 v6 v7 : Value} (h : Blk w r t #[c0, c1, c2, c3, c4, c5, c6, c7]) : Blk (w.setCells r 0 [v0, v1, v2, v3, v4, v5, v6, v7]) r t #[v0, v1, v2, v3, v4, v5, v6, v7] := by
  have h := (((((((h.set_ 0 v0).set_ 1 v1).set_ 2 v2).set_ 3 v3).set_ 4 v4).set_ 5 v5).set_ 6 v6).set_ 7 v7
  simp only [List.setIfInBounds_toArray, List.set_cons_zero, List.set_cons_succ] at h
  exact h
theorem blk_there {w : World} {r : Nat} {t : TypeId} {cs : Array Value} (h : Blk w r t cs) : w.there r 0 cs.size := fun j hj => ⟨by rw [Nat.zero_add, h.cell, Array.getElem?_eq_getElem hj]; rfl, by rw [Nat.zero_add]; exact h.frozen j⟩
theorem blk_range {w : World} {r : Nat} {t : TypeId} {cs : Array Value} (h : Blk w r t cs) : w.rangeAt r 0 cs.toList := fun j v hv => by
  rw [Nat.zero_add, h.cell]
  simpa using hv
/-- an answer is stored into its place: what is told of the world behind it -/
theorem wpList_store41 {ops : Array Oper} {rest : List Oper} {op : Oper} {a : Act} {w : World} {Q : Exit → Act → World → Prop} (hgd : op.guard = none) (x y : Operand) (ho : op.op = .store 41 x y)
    (r : Nat) (c n : Int) (d : ByteArray) (ep : Int) (c0 c1 c2 c3 c4 c5 c6 c7 : Value) (hx : a.eval x = .pointer (some ⟨r, 0, none⟩)) (hy : a.eval y = .agg (ansC c n d ep)) (hb : Blk w r 41 #[c0, c1, c2, c3, c4, c5, c6, c7])
    (h : ∀ w', w.grownBy w' (some r) → Blk w' r 41 (ansC c n d ep) → wpList Try.prog ops Q rest (a.put op.dst undef) w') : wpList Try.prog ops Q (op :: rest) a w :=
  wpList_store_mid hgd 41 x y ho r 0 (ansC c n d ep) hx hy (show w.there r 0 8 from blk_there hb) Try.info41 (by simp [ansC, Value.oneCell']) (h _ (setCells_grown r _ 0 w) (setCells_blk8 hb))
theorem wpList_load41 {ops : Array Oper} {rest : List Oper} {op : Oper} {a : Act} {w : World} {Q : Exit → Act → World → Prop} (hgd : op.guard = none) (x : Operand) (ho : op.op = .load 41 x)
    (r : Nat) (c n : Int) (d : ByteArray) (ep : Int) (hx : a.eval x = .pointer (some ⟨r, 0, none⟩)) (hb : Blk w r 41 (ansC c n d ep))
    (h : wpList Try.prog ops Q rest (a.put op.dst (.agg (ansC c n d ep))) w) : wpList Try.prog ops Q (op :: rest) a w :=
  wpList_load_mid hgd 41 x ho r 0 hx (ansC c n d ep).toList _ (blk_range hb) Try.underlying41 rfl Try.info41 h
theorem PgAt.keep {w w' : World} {B q r : Nat} {p : PS} {cs : Array Value} (h : PgAt w B q p) (hr : Blk w r 41 cs) (hg : w.grownBy w' (some r)) : PgAt w' B q p := by
  obtain ⟨b, h1, h2, h3, h4⟩ := h
  exact ⟨b, h1.grown hg (fun e => h1.ne_ hr (by decide) (by injection e)), h2, h3, h4.kept hg (fun e => h4.ne_blk hr (by injection e))⟩
theorem UnAt.keep {w w' : World} {B g r : Nat} {u : US} {cs : Array Value} (h : UnAt w B g u) (hr : Blk w r 41 cs) (hg : w.grownBy w' (some r)) : UnAt w' B g u := by
  obtain ⟨q, h1, h2, h3⟩ := h
  exact ⟨q, h1.grown hg (fun e => h1.ne_ hr (by decide) (by injection e)), h2, h3.keep hr hg⟩
theorem Fr.keep {ts : List TypeId} {B : Nat} {a w w' : World} {r : Nat} (h : Fr ts B a w) (hr : a.heap.size ≤ r) (hg : w.grownBy w' (some r)) : Fr ts B a w' :=
  ⟨hg.os.trans h.os, hg.tape.trans h.tape, hg.output.trans h.output, Nat.le_trans h.size hg.size, fun k o hk hh => by
    have h1 := h.block k o hk hh
    have hlt := (Array.getElem?_eq_some_iff.1 hk).1
    rw [hg.block k (Array.getElem?_eq_some_iff.1 h1).1 (fun e => by injection e with e; omega)]
    exact h1⟩
theorem UnAt.epc {w : World} {B g : Nat} {u : US} (h : UnAt w B g u) : w.cell? ⟨g, 1, none⟩ = some (.int .i64 u.ep) := by
  obtain ⟨q, h1, _⟩ := h
  exact h1.cell 1
theorem UnAt.lt {w : World} {B g : Nat} {u : US} (h : UnAt w B g u) : B ≤ g ∧ g < w.heap.size := by
  obtain ⟨q, h1, h2, _⟩ := h
  exact ⟨h2, h1.lt⟩


set_option maxRecDepth 100000 in
set_option maxHeartbeats 400000 in
theorem do_old_1 (B g : Nat) (u : US) (au ae apg asz an : Int) (ad : ByteArray) (ape : Int) (aca : Option Addr) (acn acc : Nat) (w : World) (hb : UnAt w B g u) (hd : u.dn = false) (he : ae < u.ep) :
    Calls Try.prog 16 #[.pointer (some ⟨g, 0, none⟩), .agg (Ak.mk 1 au ae apg asz an ad ape aca acn acc).cells] w fun e w' => e = .returned (An.v ⟨40, 0, ⟨#[]⟩, u.ep⟩) ∧ Below w.heap.size w w' := by
  obtain ⟨q, hg, hBg, hq⟩ := hb
  unfold Ak.cells
  rw [hd] at hg
  have hgs := hg.lt
  have hgw := hg.below (W2.below w 1 au ae apg asz an ad ape aca acn acc) hgs
  have g2 := (blk3 hgw).2.2.1
  have g1 : ∀ o, ((W2 w 1 au ae apg asz an ad ape aca acn acc).alloc o).cell? ⟨g, 1, none⟩ = some (.int .i64 u.ep) := fun o => (blk3 (hgw.alloc o)).2.1
  unfold W2 at g2 g1
  have hen := eqnil1
  clear hg hq hgw
  go_enter Try.func16, Try.ntmps16
  go_wp2_with fail
  refine (doing_1 _).mono ?_
  rintro e w1 ⟨rfl, rfl⟩
  go_wp2_with fail
  go_quiet (fail)
  go_wp2
  refine bodyPost_ret (v := An.v ⟨40, 0, ⟨#[]⟩, u.ep⟩) (by simp [results, Try.results16, go_sem, An.v, ansC]) rfl ⟨rfl, ?_⟩
  repeat (with_reducible refine Below.setCell ?_ (by first | (simp; done) | (simp; omega)) _)
  with_reducible refine below_drewN ?_ _
  exact (((Below.refl _ _).alloc (Nat.le_refl _) _).alloc (by simp) _).alloc (by simp; omega) _

set_option maxRecDepth 100000 in
set_option maxHeartbeats 400000 in
theorem do_old_2 (B g : Nat) (u : US) (au ae apg asz an : Int) (ad : ByteArray) (ape : Int) (aca : Option Addr) (acn acc : Nat) (w : World) (hb : UnAt w B g u) (hd : u.dn = false) (he : ae < u.ep) :
    Calls Try.prog 16 #[.pointer (some ⟨g, 0, none⟩), .agg (Ak.mk 2 au ae apg asz an ad ape aca acn acc).cells] w fun e w' => e = .returned (An.v ⟨40, 0, ⟨#[]⟩, u.ep⟩) ∧ Below w.heap.size w w' := by
  obtain ⟨q, hg, hBg, hq⟩ := hb
  unfold Ak.cells
  rw [hd] at hg
  have hgs := hg.lt
  have hgw := hg.below (W2.below w 2 au ae apg asz an ad ape aca acn acc) hgs
  have g2 := (blk3 hgw).2.2.1
  have g1 : ∀ o, ((W2 w 2 au ae apg asz an ad ape aca acn acc).alloc o).cell? ⟨g, 1, none⟩ = some (.int .i64 u.ep) := fun o => (blk3 (hgw.alloc o)).2.1
  unfold W2 at g2 g1
  have hen := eqnil2
  clear hg hq hgw
  go_enter Try.func16, Try.ntmps16
  go_wp2_with fail
  refine (doing_2 _).mono ?_
  rintro e w1 ⟨rfl, rfl⟩
  go_wp2_with fail
  go_quiet (fail)
  go_wp2
  refine bodyPost_ret (v := An.v ⟨40, 0, ⟨#[]⟩, u.ep⟩) (by simp [results, Try.results16, go_sem, An.v, ansC]) rfl ⟨rfl, ?_⟩
  repeat (with_reducible refine Below.setCell ?_ (by first | (simp; done) | (simp; omega)) _)
  with_reducible refine below_drewN ?_ _
  exact (((Below.refl _ _).alloc (Nat.le_refl _) _).alloc (by simp) _).alloc (by simp; omega) _

set_option maxRecDepth 100000 in
set_option maxHeartbeats 400000 in
theorem do_old_3 (B g : Nat) (u : US) (au ae apg asz an : Int) (ad : ByteArray) (ape : Int) (aca : Option Addr) (acn acc : Nat) (w : World) (hb : UnAt w B g u) (hd : u.dn = false) (he : ae < u.ep) :
    Calls Try.prog 16 #[.pointer (some ⟨g, 0, none⟩), .agg (Ak.mk 3 au ae apg asz an ad ape aca acn acc).cells] w fun e w' => e = .returned (An.v ⟨40, 0, ⟨#[]⟩, u.ep⟩) ∧ Below w.heap.size w w' := by
  obtain ⟨q, hg, hBg, hq⟩ := hb
  unfold Ak.cells
  rw [hd] at hg
  have hgs := hg.lt
  have hgw := hg.below (W2.below w 3 au ae apg asz an ad ape aca acn acc) hgs
  have g2 := (blk3 hgw).2.2.1
  have g1 : ∀ o, ((W2 w 3 au ae apg asz an ad ape aca acn acc).alloc o).cell? ⟨g, 1, none⟩ = some (.int .i64 u.ep) := fun o => (blk3 (hgw.alloc o)).2.1
  unfold W2 at g2 g1
  have hen := eqnil3
  clear hg hq hgw
  go_enter Try.func16, Try.ntmps16
  go_wp2_with fail
  refine (doing_3 _).mono ?_
  rintro e w1 ⟨rfl, rfl⟩
  go_wp2_with fail
  go_quiet (fail)
  go_wp2
  refine bodyPost_ret (v := An.v ⟨40, 0, ⟨#[]⟩, u.ep⟩) (by simp [results, Try.results16, go_sem, An.v, ansC]) rfl ⟨rfl, ?_⟩
  repeat (with_reducible refine Below.setCell ?_ (by first | (simp; done) | (simp; omega)) _)
  with_reducible refine below_drewN ?_ _
  exact (((Below.refl _ _).alloc (Nat.le_refl _) _).alloc (by simp) _).alloc (by simp; omega) _

set_option maxRecDepth 100000 in
set_option maxHeartbeats 400000 in
theorem do_old_4 (B g : Nat) (u : US) (au ae apg asz an : Int) (ad : ByteArray) (ape : Int) (aca : Option Addr) (acn acc : Nat) (w : World) (hb : UnAt w B g u) (hd : u.dn = false) (he : ae < u.ep) :
    Calls Try.prog 16 #[.pointer (some ⟨g, 0, none⟩), .agg (Ak.mk 4 au ae apg asz an ad ape aca acn acc).cells] w fun e w' => e = .returned (An.v ⟨40, 0, ⟨#[]⟩, u.ep⟩) ∧ Below w.heap.size w w' := by
  obtain ⟨q, hg, hBg, hq⟩ := hb
  unfold Ak.cells
  rw [hd] at hg
  have hgs := hg.lt
  have hgw := hg.below (W2.below w 4 au ae apg asz an ad ape aca acn acc) hgs
  have g2 := (blk3 hgw).2.2.1
  have g1 : ∀ o, ((W2 w 4 au ae apg asz an ad ape aca acn acc).alloc o).cell? ⟨g, 1, none⟩ = some (.int .i64 u.ep) := fun o => (blk3 (hgw.alloc o)).2.1
  unfold W2 at g2 g1
  have hen := eqnil4
  clear hg hq hgw
  go_enter Try.func16, Try.ntmps16
  go_wp2_with fail
  refine (doing_4 _).mono ?_
  rintro e w1 ⟨rfl, rfl⟩
  go_wp2_with fail
  go_quiet (fail)
  go_wp2
  refine bodyPost_ret (v := An.v ⟨40, 0, ⟨#[]⟩, u.ep⟩) (by simp [results, Try.results16, go_sem, An.v, ansC]) rfl ⟨rfl, ?_⟩
  repeat (with_reducible refine Below.setCell ?_ (by first | (simp; done) | (simp; omega)) _)
  with_reducible refine below_drewN ?_ _
  exact (((Below.refl _ _).alloc (Nat.le_refl _) _).alloc (by simp) _).alloc (by simp; omega) _

set_option maxRecDepth 100000 in
set_option maxHeartbeats 400000 in
theorem do_old_5 (B g : Nat) (u : US) (au ae apg asz an : Int) (ad : ByteArray) (ape : Int) (aca : Option Addr) (acn acc : Nat) (w : World) (hb : UnAt w B g u) (hd : u.dn = false) (he : ae < u.ep) :
    Calls Try.prog 16 #[.pointer (some ⟨g, 0, none⟩), .agg (Ak.mk 5 au ae apg asz an ad ape aca acn acc).cells] w fun e w' => e = .returned (An.v ⟨40, 0, ⟨#[]⟩, u.ep⟩) ∧ Below w.heap.size w w' := by
  obtain ⟨q, hg, hBg, hq⟩ := hb
  unfold Ak.cells
  rw [hd] at hg
  have hgs := hg.lt
  have hgw := hg.below (W2.below w 5 au ae apg asz an ad ape aca acn acc) hgs
  have g2 := (blk3 hgw).2.2.1
  have g1 : ∀ o, ((W2 w 5 au ae apg asz an ad ape aca acn acc).alloc o).cell? ⟨g, 1, none⟩ = some (.int .i64 u.ep) := fun o => (blk3 (hgw.alloc o)).2.1
  unfold W2 at g2 g1
  have hen := eqnil5
  clear hg hq hgw
  go_enter Try.func16, Try.ntmps16
  go_wp2_with fail
  refine (doing_5 _).mono ?_
  rintro e w1 ⟨rfl, rfl⟩
  go_wp2_with fail
  go_quiet (fail)
  go_wp2
  refine bodyPost_ret (v := An.v ⟨40, 0, ⟨#[]⟩, u.ep⟩) (by simp [results, Try.results16, go_sem, An.v, ansC]) rfl ⟨rfl, ?_⟩
  repeat (with_reducible refine Below.setCell ?_ (by first | (simp; done) | (simp; omega)) _)
  with_reducible refine below_drewN ?_ _
  exact (((Below.refl _ _).alloc (Nat.le_refl _) _).alloc (by simp) _).alloc (by simp; omega) _

set_option maxRecDepth 100000 in
set_option maxHeartbeats 400000 in
theorem do_new_1 (B g : Nat) (u : US) (hp : u.p.Ok) (au ae apg asz an : Int) (ad : ByteArray) (ape : Int) (aca : Option Addr) (acn acc : Nat) (w : World) (hb : UnAt w B g u) (hd : u.dn = false) (he : u.ep ≤ ae) :
    Calls Try.prog 16 #[.pointer (some ⟨g, 0, none⟩), .agg (Ak.mk 1 au ae apg asz an ad ape aca acn acc).cells] w fun e w' => e = .returned (An.v ⟨(writeErr u.p apg ad), 0, ⟨#[]⟩, u.ep⟩) ∧ UnAt w' B g { u with p := writeP u.p apg ad } ∧ Fr [76, 82] B w w' := by
  have HU := hide hb
  obtain ⟨q, hg, hBg, hq⟩ := hb
  unfold Ak.cells
  rw [hd] at hg
  have hgs := hg.lt
  have hgw := hg.below (W2.below w 1 au ae apg asz an ad ape aca acn acc) hgs
  have g2 := (blk3 hgw).2.2.1
  have g1 : ∀ o, ((W2 w 1 au ae apg asz an ad ape aca acn acc).alloc o).cell? ⟨g, 1, none⟩ = some (.int .i64 u.ep) := fun o => (blk3 (hgw.alloc o)).2.1
  unfold W2 at g2 g1
  have hen := eqnil1
  have X3 : Hid (∀ nq, Blk (((W2 w 1 au ae apg asz an ad ape aca acn acc).alloc (.cells #[.int .i64 1, .int .i64 0, .string ⟨#[]⟩, .int .i64 0, .slice none 0 0, .int .i64 0, .int .i64 0, .int .i64 0] 41)).drewN nq) (w.heap.size + 2) 41 #[.int .i64 1, .int .i64 0, .string ⟨#[]⟩, .int .i64 0, .slice none 0 0, .int .i64 0, .int .i64 0, .int .i64 0]) := hide (fun nq => by
    have := Blk.new (W2 w 1 au ae apg asz an ad ape aca acn acc) 41 #[.int .i64 1, .int .i64 0, .string ⟨#[]⟩, .int .i64 0, .slice none 0 0, .int .i64 0, .int .i64 0, .int .i64 0]
    rw [W2.size] at this
    exact this)
  have R3 : Hid (∀ o nq, Blk (((W2 w 1 au ae apg asz an ad ape aca acn acc).alloc o).drewN nq) (w.heap.size + 1) 41 #[.int .i64 0, .int .i64 0, .string ⟨#[]⟩, .int .i64 0, .slice none 0 0, .int .i64 0, .int .i64 0, .int .i64 0]) := hide (fun o nq => (W2.res w 1 au ae apg asz an ad ape aca acn acc).alloc o)
  have B3 : Hid (∀ o nq, Below w.heap.size w (((W2 w 1 au ae apg asz an ad ape aca acn acc).alloc o).drewN nq)) := hide (fun o nq => below_drewN ((W2.below ..).alloc (by rw [W2.size]; omega) o) nq)
  clear hg hq hgw
  go_enter Try.func16, Try.ntmps16
  go_wp2_with fail
  refine (doing_1 _).mono ?_
  rintro e w1 ⟨rfl, rfl⟩
  go_wp2_with fail
  go_quiet (fail)
  go_wp2_with fail
  refine (uwrite_any B g u hp ⟨1, au, ae, apg, asz, an, ad, ape, aca, acn, acc⟩ _ (HU.out.below (by exact B3.out _ _))).mono ?_
  rintro e w1 ⟨rfl, hu1, hf1⟩
  have X4 := hide ((X3.out nq).fr hf1 (by decide))
  have R4 := hide ((R3.out _ nq).fr hf1 (by decide))
  have F4 : Hid (Fr [76, 82] B w w1) := hide ((Fr.of_below (B3.out _ nq)).trans (hf1.more (by simp)))
  have U4 := hide hu1
  clear hf1 hu1 g1 g2
  simp only
  go_wp2_with (first
    | (refine wpList_store41 rfl (.tmp 6) (.tmp 24) rfl (w.heap.size + 2) _ _ _ _ _ _ _ _ _ _ _ _ rfl rfl X4.out ?_; intro w2 hg2 hx2; have X5 := hide hx2; have R5 := hide (R4.out.grown hg2 (fun e => (by injection e with e; omega))); have U5 := hide (U4.out.keep X4.out hg2); have F5 := hide (F4.out.keep (by omega) hg2); have k5 := U5.out.epc; have x57 := X5.out.cell 7; have y57 := X5.out.frozen 7; (try simp only at k5); clear hg2 hx2 X4 R4 U4 F4)
    | (refine wpList_load41 rfl (.tmp 6) rfl (w.heap.size + 2) _ _ _ _ rfl (show Blk _ _ _ (ansC (writeErr u.p apg ad) 0 ⟨#[]⟩ u.ep) from X5.out.set_ 7 _) ?_; have R55 := hide (R5.out.far (p := ⟨w.heap.size + 2, 7, none⟩) (by simp) (.int .i64 u.ep)); have U55 := hide (U5.out.store X5.out 7 (.int .i64 u.ep)); have F55 := hide (F5.out.store (r := w.heap.size + 2) (by omega) 7 (.int .i64 u.ep)))
    | (refine wpList_store41 rfl (.tmp 4) (.tmp 42) rfl (w.heap.size + 1) _ _ _ _ _ _ _ _ _ _ _ _ rfl rfl R55.out ?_; intro w4 hg4 hr4; have U6 := hide (U55.out.keep R55.out hg4); have F6 := hide (F55.out.keep (by omega) hg4); obtain ⟨⟨v0, v1, v2, v3, v4, v5, v6, v7⟩, -⟩ := blk8 hr4; clear hg4 hr4 U5 R5 F5 U55 R55 F55))
  refine bodyPost_ret (v := An.v ⟨(writeErr u.p apg ad), 0, ⟨#[]⟩, u.ep⟩) (by simp [results, Try.results16, go_sem, An.v, ansC, v0, v1, v2, v3, v4, v5, v6, v7]) rfl ⟨rfl, ?_, ?_⟩
  · first | exact U6.out | (exact (hd ▸ U6.out))
  · exact F6.out

set_option maxRecDepth 100000 in
set_option maxHeartbeats 400000 in
theorem do_new_2 (B g : Nat) (u : US) (hp : u.p.Ok) (au ae apg asz an : Int) (ad : ByteArray) (ape : Int) (aca : Option Addr) (acn acc : Nat) (w : World) (hb : UnAt w B g u) (hd : u.dn = false) (he : u.ep ≤ ae) :
    Calls Try.prog 16 #[.pointer (some ⟨g, 0, none⟩), .agg (Ak.mk 2 au ae apg asz an ad ape aca acn acc).cells] w fun e w' => e = .returned (An.v ⟨(fillErr u.p apg), 0, ⟨#[]⟩, u.ep⟩) ∧ UnAt w' B g { u with p := fillP u.p apg } ∧ Fr [76, 82] B w w' := by
  have HU := hide hb
  obtain ⟨q, hg, hBg, hq⟩ := hb
  unfold Ak.cells
  rw [hd] at hg
  have hgs := hg.lt
  have hgw := hg.below (W2.below w 2 au ae apg asz an ad ape aca acn acc) hgs
  have g2 := (blk3 hgw).2.2.1
  have g1 : ∀ o, ((W2 w 2 au ae apg asz an ad ape aca acn acc).alloc o).cell? ⟨g, 1, none⟩ = some (.int .i64 u.ep) := fun o => (blk3 (hgw.alloc o)).2.1
  unfold W2 at g2 g1
  have hen := eqnil2
  have X3 : Hid (∀ nq, Blk (((W2 w 2 au ae apg asz an ad ape aca acn acc).alloc (.cells #[.int .i64 1, .int .i64 0, .string ⟨#[]⟩, .int .i64 0, .slice none 0 0, .int .i64 0, .int .i64 0, .int .i64 0] 41)).drewN nq) (w.heap.size + 2) 41 #[.int .i64 1, .int .i64 0, .string ⟨#[]⟩, .int .i64 0, .slice none 0 0, .int .i64 0, .int .i64 0, .int .i64 0]) := hide (fun nq => by
    have := Blk.new (W2 w 2 au ae apg asz an ad ape aca acn acc) 41 #[.int .i64 1, .int .i64 0, .string ⟨#[]⟩, .int .i64 0, .slice none 0 0, .int .i64 0, .int .i64 0, .int .i64 0]
    rw [W2.size] at this
    exact this)
  have R3 : Hid (∀ o nq, Blk (((W2 w 2 au ae apg asz an ad ape aca acn acc).alloc o).drewN nq) (w.heap.size + 1) 41 #[.int .i64 0, .int .i64 0, .string ⟨#[]⟩, .int .i64 0, .slice none 0 0, .int .i64 0, .int .i64 0, .int .i64 0]) := hide (fun o nq => (W2.res w 2 au ae apg asz an ad ape aca acn acc).alloc o)
  have B3 : Hid (∀ o nq, Below w.heap.size w (((W2 w 2 au ae apg asz an ad ape aca acn acc).alloc o).drewN nq)) := hide (fun o nq => below_drewN ((W2.below ..).alloc (by rw [W2.size]; omega) o) nq)
  clear hg hq hgw
  go_enter Try.func16, Try.ntmps16
  go_wp2_with fail
  refine (doing_2 _).mono ?_
  rintro e w1 ⟨rfl, rfl⟩
  go_wp2_with fail
  go_quiet (fail)
  go_wp2_with fail
  refine (ufill_any B g u hp ⟨2, au, ae, apg, asz, an, ad, ape, aca, acn, acc⟩ _ (HU.out.below (by exact B3.out _ _))).mono ?_
  rintro e w1 ⟨rfl, hu1, hf1⟩
  have X4 := hide ((X3.out nq).fr hf1 (by decide))
  have R4 := hide ((R3.out _ nq).fr hf1 (by decide))
  have F4 : Hid (Fr [76, 82] B w w1) := hide ((Fr.of_below (B3.out _ nq)).trans (hf1.more (by simp)))
  have U4 := hide hu1
  clear hf1 hu1 g1 g2
  simp only
  go_wp2_with (first
    | (refine wpList_store41 rfl (.tmp 6) (.tmp 24) rfl (w.heap.size + 2) _ _ _ _ _ _ _ _ _ _ _ _ rfl rfl X4.out ?_; intro w2 hg2 hx2; have X5 := hide hx2; have R5 := hide (R4.out.grown hg2 (fun e => (by injection e with e; omega))); have U5 := hide (U4.out.keep X4.out hg2); have F5 := hide (F4.out.keep (by omega) hg2); have k5 := U5.out.epc; have x57 := X5.out.cell 7; have y57 := X5.out.frozen 7; (try simp only at k5); clear hg2 hx2 X4 R4 U4 F4)
    | (refine wpList_load41 rfl (.tmp 6) rfl (w.heap.size + 2) _ _ _ _ rfl (show Blk _ _ _ (ansC (fillErr u.p apg) 0 ⟨#[]⟩ u.ep) from X5.out.set_ 7 _) ?_; have R55 := hide (R5.out.far (p := ⟨w.heap.size + 2, 7, none⟩) (by simp) (.int .i64 u.ep)); have U55 := hide (U5.out.store X5.out 7 (.int .i64 u.ep)); have F55 := hide (F5.out.store (r := w.heap.size + 2) (by omega) 7 (.int .i64 u.ep)))
    | (refine wpList_store41 rfl (.tmp 4) (.tmp 42) rfl (w.heap.size + 1) _ _ _ _ _ _ _ _ _ _ _ _ rfl rfl R55.out ?_; intro w4 hg4 hr4; have U6 := hide (U55.out.keep R55.out hg4); have F6 := hide (F55.out.keep (by omega) hg4); obtain ⟨⟨v0, v1, v2, v3, v4, v5, v6, v7⟩, -⟩ := blk8 hr4; clear hg4 hr4 U5 R5 F5 U55 R55 F55))
  refine bodyPost_ret (v := An.v ⟨(fillErr u.p apg), 0, ⟨#[]⟩, u.ep⟩) (by simp [results, Try.results16, go_sem, An.v, ansC, v0, v1, v2, v3, v4, v5, v6, v7]) rfl ⟨rfl, ?_, ?_⟩
  · first | exact U6.out | (exact (hd ▸ U6.out))
  · exact F6.out

set_option maxRecDepth 100000 in
set_option maxHeartbeats 400000 in
theorem do_new_3 (B g : Nat) (u : US) (hp : u.p.Ok) (au ae apg asz an : Int) (ad : ByteArray) (ape : Int) (aca : Option Addr) (acn acc : Nat) (w : World) (hb : UnAt w B g u) (hd : u.dn = false) (he : u.ep ≤ ae) :
    Calls Try.prog 16 #[.pointer (some ⟨g, 0, none⟩), .agg (Ak.mk 3 au ae apg asz an ad ape aca acn acc).cells] w fun e w' => e = .returned (An.v ⟨(readP u.p apg).2, 0, (readP u.p apg).1, u.ep⟩) ∧ UnAt w' B g u ∧ Fr [76, 82] B w w' := by
  have HU := hide hb
  obtain ⟨q, hg, hBg, hq⟩ := hb
  unfold Ak.cells
  rw [hd] at hg
  have hgs := hg.lt
  have hgw := hg.below (W2.below w 3 au ae apg asz an ad ape aca acn acc) hgs
  have g2 := (blk3 hgw).2.2.1
  have g1 : ∀ o, ((W2 w 3 au ae apg asz an ad ape aca acn acc).alloc o).cell? ⟨g, 1, none⟩ = some (.int .i64 u.ep) := fun o => (blk3 (hgw.alloc o)).2.1
  unfold W2 at g2 g1
  have hen := eqnil3
  have X3 : Hid (∀ nq, Blk (((W2 w 3 au ae apg asz an ad ape aca acn acc).alloc (.cells #[.int .i64 1, .int .i64 0, .string ⟨#[]⟩, .int .i64 0, .slice none 0 0, .int .i64 0, .int .i64 0, .int .i64 0] 41)).drewN nq) (w.heap.size + 2) 41 #[.int .i64 1, .int .i64 0, .string ⟨#[]⟩, .int .i64 0, .slice none 0 0, .int .i64 0, .int .i64 0, .int .i64 0]) := hide (fun nq => by
    have := Blk.new (W2 w 3 au ae apg asz an ad ape aca acn acc) 41 #[.int .i64 1, .int .i64 0, .string ⟨#[]⟩, .int .i64 0, .slice none 0 0, .int .i64 0, .int .i64 0, .int .i64 0]
    rw [W2.size] at this
    exact this)
  have R3 : Hid (∀ o nq, Blk (((W2 w 3 au ae apg asz an ad ape aca acn acc).alloc o).drewN nq) (w.heap.size + 1) 41 #[.int .i64 0, .int .i64 0, .string ⟨#[]⟩, .int .i64 0, .slice none 0 0, .int .i64 0, .int .i64 0, .int .i64 0]) := hide (fun o nq => (W2.res w 3 au ae apg asz an ad ape aca acn acc).alloc o)
  have B3 : Hid (∀ o nq, Below w.heap.size w (((W2 w 3 au ae apg asz an ad ape aca acn acc).alloc o).drewN nq)) := hide (fun o nq => below_drewN ((W2.below ..).alloc (by rw [W2.size]; omega) o) nq)
  clear hg hq hgw
  go_enter Try.func16, Try.ntmps16
  go_wp2_with fail
  refine (doing_3 _).mono ?_
  rintro e w1 ⟨rfl, rfl⟩
  go_wp2_with fail
  go_quiet (fail)
  go_wp2_with fail
  refine (uread_any B g u hp ⟨3, au, ae, apg, asz, an, ad, ape, aca, acn, acc⟩ _ (HU.out.below (by exact B3.out _ _))).mono ?_
  rintro e w1 ⟨rfl, hu1, hf1⟩
  have X4 := hide ((X3.out nq).fr hf1 (by decide))
  have R4 := hide ((R3.out _ nq).fr hf1 (by decide))
  have F4 : Hid (Fr [76, 82] B w w1) := hide ((Fr.of_below (B3.out _ nq)).trans (hf1.more (by simp)))
  have U4 := hide hu1
  clear hf1 hu1 g1 g2
  simp only
  go_wp2_with (first
    | (refine wpList_store41 rfl (.tmp 6) (.tmp 24) rfl (w.heap.size + 2) _ _ _ _ _ _ _ _ _ _ _ _ rfl rfl X4.out ?_; intro w2 hg2 hx2; have X5 := hide hx2; have R5 := hide (R4.out.grown hg2 (fun e => (by injection e with e; omega))); have U5 := hide (U4.out.keep X4.out hg2); have F5 := hide (F4.out.keep (by omega) hg2); have k5 := U5.out.epc; have x57 := X5.out.cell 7; have y57 := X5.out.frozen 7; (try simp only at k5); clear hg2 hx2 X4 R4 U4 F4)
    | (refine wpList_load41 rfl (.tmp 6) rfl (w.heap.size + 2) _ _ _ _ rfl (show Blk _ _ _ (ansC (readP u.p apg).2 0 (readP u.p apg).1 u.ep) from X5.out.set_ 7 _) ?_; have R55 := hide (R5.out.far (p := ⟨w.heap.size + 2, 7, none⟩) (by simp) (.int .i64 u.ep)); have U55 := hide (U5.out.store X5.out 7 (.int .i64 u.ep)); have F55 := hide (F5.out.store (r := w.heap.size + 2) (by omega) 7 (.int .i64 u.ep)))
    | (refine wpList_store41 rfl (.tmp 4) (.tmp 42) rfl (w.heap.size + 1) _ _ _ _ _ _ _ _ _ _ _ _ rfl rfl R55.out ?_; intro w4 hg4 hr4; have U6 := hide (U55.out.keep R55.out hg4); have F6 := hide (F55.out.keep (by omega) hg4); obtain ⟨⟨v0, v1, v2, v3, v4, v5, v6, v7⟩, -⟩ := blk8 hr4; clear hg4 hr4 U5 R5 F5 U55 R55 F55))
  refine bodyPost_ret (v := An.v ⟨(readP u.p apg).2, 0, (readP u.p apg).1, u.ep⟩) (by simp [results, Try.results16, go_sem, An.v, ansC, v0, v1, v2, v3, v4, v5, v6, v7]) rfl ⟨rfl, ?_, ?_⟩
  · first | exact U6.out | (exact (hd ▸ U6.out))
  · exact F6.out

set_option maxRecDepth 100000 in
set_option maxHeartbeats 400000 in
theorem do_new_4 (B g : Nat) (u : US) (hp : u.p.Ok) (au ae apg asz an : Int) (ad : ByteArray) (ape : Int) (aca : Option Addr) (acn acc : Nat) (w : World) (hb : UnAt w B g u) (hd : u.dn = false) (he : u.ep ≤ ae) :
    Calls Try.prog 16 #[.pointer (some ⟨g, 0, none⟩), .agg (Ak.mk 4 au ae apg asz an ad ape aca acn acc).cells] w fun e w' => e = .returned (An.v ⟨(trimErr apg), 0, ⟨#[]⟩, u.ep⟩) ∧ UnAt w' B g { u with p := trimP u.p apg } ∧ Fr [76, 82] B w w' := by
  have HU := hide hb
  obtain ⟨q, hg, hBg, hq⟩ := hb
  unfold Ak.cells
  rw [hd] at hg
  have hgs := hg.lt
  have hgw := hg.below (W2.below w 4 au ae apg asz an ad ape aca acn acc) hgs
  have g2 := (blk3 hgw).2.2.1
  have g1 : ∀ o, ((W2 w 4 au ae apg asz an ad ape aca acn acc).alloc o).cell? ⟨g, 1, none⟩ = some (.int .i64 u.ep) := fun o => (blk3 (hgw.alloc o)).2.1
  unfold W2 at g2 g1
  have hen := eqnil4
  have X3 : Hid (∀ nq, Blk (((W2 w 4 au ae apg asz an ad ape aca acn acc).alloc (.cells #[.int .i64 1, .int .i64 0, .string ⟨#[]⟩, .int .i64 0, .slice none 0 0, .int .i64 0, .int .i64 0, .int .i64 0] 41)).drewN nq) (w.heap.size + 2) 41 #[.int .i64 1, .int .i64 0, .string ⟨#[]⟩, .int .i64 0, .slice none 0 0, .int .i64 0, .int .i64 0, .int .i64 0]) := hide (fun nq => by
    have := Blk.new (W2 w 4 au ae apg asz an ad ape aca acn acc) 41 #[.int .i64 1, .int .i64 0, .string ⟨#[]⟩, .int .i64 0, .slice none 0 0, .int .i64 0, .int .i64 0, .int .i64 0]
    rw [W2.size] at this
    exact this)
  have R3 : Hid (∀ o nq, Blk (((W2 w 4 au ae apg asz an ad ape aca acn acc).alloc o).drewN nq) (w.heap.size + 1) 41 #[.int .i64 0, .int .i64 0, .string ⟨#[]⟩, .int .i64 0, .slice none 0 0, .int .i64 0, .int .i64 0, .int .i64 0]) := hide (fun o nq => (W2.res w 4 au ae apg asz an ad ape aca acn acc).alloc o)
  have B3 : Hid (∀ o nq, Below w.heap.size w (((W2 w 4 au ae apg asz an ad ape aca acn acc).alloc o).drewN nq)) := hide (fun o nq => below_drewN ((W2.below ..).alloc (by rw [W2.size]; omega) o) nq)
  clear hg hq hgw
  go_enter Try.func16, Try.ntmps16
  go_wp2_with fail
  refine (doing_4 _).mono ?_
  rintro e w1 ⟨rfl, rfl⟩
  go_wp2_with fail
  go_quiet (fail)
  go_wp2_with fail
  refine (utrim_any B g u hp ⟨4, au, ae, apg, asz, an, ad, ape, aca, acn, acc⟩ _ (HU.out.below (by exact B3.out _ _))).mono ?_
  rintro e w1 ⟨rfl, hu1, hf1⟩
  have X4 := hide ((X3.out nq).fr hf1 (by decide))
  have R4 := hide ((R3.out _ nq).fr hf1 (by decide))
  have F4 : Hid (Fr [76, 82] B w w1) := hide ((Fr.of_below (B3.out _ nq)).trans (hf1.more (by simp)))
  have U4 := hide hu1
  clear hf1 hu1 g1 g2
  simp only
  go_wp2_with (first
    | (refine wpList_store41 rfl (.tmp 6) (.tmp 24) rfl (w.heap.size + 2) _ _ _ _ _ _ _ _ _ _ _ _ rfl rfl X4.out ?_; intro w2 hg2 hx2; have X5 := hide hx2; have R5 := hide (R4.out.grown hg2 (fun e => (by injection e with e; omega))); have U5 := hide (U4.out.keep X4.out hg2); have F5 := hide (F4.out.keep (by omega) hg2); have k5 := U5.out.epc; have x57 := X5.out.cell 7; have y57 := X5.out.frozen 7; (try simp only at k5); clear hg2 hx2 X4 R4 U4 F4)
    | (refine wpList_load41 rfl (.tmp 6) rfl (w.heap.size + 2) _ _ _ _ rfl (show Blk _ _ _ (ansC (trimErr apg) 0 ⟨#[]⟩ u.ep) from X5.out.set_ 7 _) ?_; have R55 := hide (R5.out.far (p := ⟨w.heap.size + 2, 7, none⟩) (by simp) (.int .i64 u.ep)); have U55 := hide (U5.out.store X5.out 7 (.int .i64 u.ep)); have F55 := hide (F5.out.store (r := w.heap.size + 2) (by omega) 7 (.int .i64 u.ep)))
    | (refine wpList_store41 rfl (.tmp 4) (.tmp 42) rfl (w.heap.size + 1) _ _ _ _ _ _ _ _ _ _ _ _ rfl rfl R55.out ?_; intro w4 hg4 hr4; have U6 := hide (U55.out.keep R55.out hg4); have F6 := hide (F55.out.keep (by omega) hg4); obtain ⟨⟨v0, v1, v2, v3, v4, v5, v6, v7⟩, -⟩ := blk8 hr4; clear hg4 hr4 U5 R5 F5 U55 R55 F55))
  refine bodyPost_ret (v := An.v ⟨(trimErr apg), 0, ⟨#[]⟩, u.ep⟩) (by simp [results, Try.results16, go_sem, An.v, ansC, v0, v1, v2, v3, v4, v5, v6, v7]) rfl ⟨rfl, ?_, ?_⟩
  · first | exact U6.out | (exact (hd ▸ U6.out))
  · exact F6.out

set_option maxRecDepth 100000 in
set_option maxHeartbeats 400000 in
theorem do_new_5 (B g : Nat) (u : US) (hp : u.p.Ok) (au ae apg asz an : Int) (ad : ByteArray) (ape : Int) (aca : Option Addr) (acn acc : Nat) (w : World) (hb : UnAt w B g u) (hd : u.dn = false) (he : u.ep ≤ ae) :
    Calls Try.prog 16 #[.pointer (some ⟨g, 0, none⟩), .agg (Ak.mk 5 au ae apg asz an ad ape aca acn acc).cells] w fun e w' => e = .returned (An.v ⟨0, (tailP u.p), ⟨#[]⟩, ae⟩) ∧ UnAt w' B g { u with ep := ae } ∧ Fr [76, 82] B w w' := by
  have HU := hide hb
  obtain ⟨q, hg, hBg, hq⟩ := hb
  unfold Ak.cells
  rw [hd] at hg
  have hgs := hg.lt
  have hgw := hg.below (W2.below w 5 au ae apg asz an ad ape aca acn acc) hgs
  have g2 := (blk3 hgw).2.2.1
  have g1 : ∀ o, ((W2 w 5 au ae apg asz an ad ape aca acn acc).alloc o).cell? ⟨g, 1, none⟩ = some (.int .i64 u.ep) := fun o => (blk3 (hgw.alloc o)).2.1
  unfold W2 at g2 g1
  have hen := eqnil5
  have X3 : Hid (∀ nq, Blk (((W2 w 5 au ae apg asz an ad ape aca acn acc).alloc (.cells #[.int .i64 1, .int .i64 0, .string ⟨#[]⟩, .int .i64 0, .slice none 0 0, .int .i64 0, .int .i64 0, .int .i64 0] 41)).drewN nq) (w.heap.size + 2) 41 #[.int .i64 1, .int .i64 0, .string ⟨#[]⟩, .int .i64 0, .slice none 0 0, .int .i64 0, .int .i64 0, .int .i64 0]) := hide (fun nq => by
    have := Blk.new (W2 w 5 au ae apg asz an ad ape aca acn acc) 41 #[.int .i64 1, .int .i64 0, .string ⟨#[]⟩, .int .i64 0, .slice none 0 0, .int .i64 0, .int .i64 0, .int .i64 0]
    rw [W2.size] at this
    exact this)
  have R3 : Hid (∀ o nq, Blk (((W2 w 5 au ae apg asz an ad ape aca acn acc).alloc o).drewN nq) (w.heap.size + 1) 41 #[.int .i64 0, .int .i64 0, .string ⟨#[]⟩, .int .i64 0, .slice none 0 0, .int .i64 0, .int .i64 0, .int .i64 0]) := hide (fun o nq => (W2.res w 5 au ae apg asz an ad ape aca acn acc).alloc o)
  have B3 : Hid (∀ o nq, Below w.heap.size w (((W2 w 5 au ae apg asz an ad ape aca acn acc).alloc o).drewN nq)) := hide (fun o nq => below_drewN ((W2.below ..).alloc (by rw [W2.size]; omega) o) nq)
  clear hg hq hgw
  go_enter Try.func16, Try.ntmps16
  go_wp2_with fail
  refine (doing_5 _).mono ?_
  rintro e w1 ⟨rfl, rfl⟩
  go_wp2_with fail
  go_quiet (fail)
  go_wp2_with fail
  refine (useal_any B g u hp ⟨5, au, ae, apg, asz, an, ad, ape, aca, acn, acc⟩ _ (HU.out.below (by exact B3.out _ _))).mono ?_
  rintro e w1 ⟨rfl, hu1, hf1⟩
  have X4 := hide ((X3.out nq).fr hf1 (by decide))
  have R4 := hide ((R3.out _ nq).fr hf1 (by decide))
  have F4 : Hid (Fr [76, 82] B w w1) := hide ((Fr.of_below (B3.out _ nq)).trans (hf1.more (by simp)))
  have U4 := hide hu1
  clear hf1 hu1 g1 g2
  simp only
  go_wp2_with (first
    | (refine wpList_store41 rfl (.tmp 6) (.tmp 24) rfl (w.heap.size + 2) _ _ _ _ _ _ _ _ _ _ _ _ rfl rfl X4.out ?_; intro w2 hg2 hx2; have X5 := hide hx2; have R5 := hide (R4.out.grown hg2 (fun e => (by injection e with e; omega))); have U5 := hide (U4.out.keep X4.out hg2); have F5 := hide (F4.out.keep (by omega) hg2); have k5 := U5.out.epc; have x57 := X5.out.cell 7; have y57 := X5.out.frozen 7; (try simp only at k5); clear hg2 hx2 X4 R4 U4 F4)
    | (refine wpList_load41 rfl (.tmp 6) rfl (w.heap.size + 2) _ _ _ _ rfl (show Blk _ _ _ (ansC 0 (tailP u.p) ⟨#[]⟩ ae) from X5.out.set_ 7 _) ?_; have R55 := hide (R5.out.far (p := ⟨w.heap.size + 2, 7, none⟩) (by simp) (.int .i64 ae)); have U55 := hide (U5.out.store X5.out 7 (.int .i64 ae)); have F55 := hide (F5.out.store (r := w.heap.size + 2) (by omega) 7 (.int .i64 ae)))
    | (refine wpList_store41 rfl (.tmp 4) (.tmp 42) rfl (w.heap.size + 1) _ _ _ _ _ _ _ _ _ _ _ _ rfl rfl R55.out ?_; intro w4 hg4 hr4; have U6 := hide (U55.out.keep R55.out hg4); have F6 := hide (F55.out.keep (by omega) hg4); obtain ⟨⟨v0, v1, v2, v3, v4, v5, v6, v7⟩, -⟩ := blk8 hr4; clear hg4 hr4 U5 R5 F5 U55 R55 F55))
  refine bodyPost_ret (v := An.v ⟨0, (tailP u.p), ⟨#[]⟩, ae⟩) (by simp [results, Try.results16, go_sem, An.v, ansC, v0, v1, v2, v3, v4, v5, v6, v7]) rfl ⟨rfl, ?_, ?_⟩
  · first | exact U6.out | (exact (hd ▸ U6.out))
  · exact F6.out

theorem do_any (B g : Nat) (u : US) (hp : u.p.Ok) (a : Ak) (w : World) (hb : UnAt w B g u) :
    Calls Try.prog 16 #[.pointer (some ⟨g, 0, none⟩), .agg a.cells] w fun e w' => e = .returned (An.v (doR u a).1) ∧ UnAt w' B g (doR u a).2 ∧ Fr [76, 82] B w w' := by
  unfold doR
  by_cases hd : u.dn = true
  · rw [if_pos hd]
    refine (do_down B g u a w hb hd).mono ?_
    rintro e w' ⟨rfl, hw⟩
    exact ⟨rfl, hb.below hw, Fr.of_below hw⟩
  rw [if_neg hd]
  have hd' : u.dn = false := by simpa using hd
  by_cases hk : a.k < 1 ∨ 5 < a.k
  · rw [if_pos hk]
    refine (do_kind B g u a w hb hd' hk).mono ?_
    rintro e w' ⟨rfl, hw⟩
    exact ⟨rfl, hb.below hw, Fr.of_below hw⟩
  rw [if_neg hk]
  obtain ⟨ak, au, ae, apg, asz, an, ad, ape, aca, acn, acc⟩ := a
  simp only at hk ⊢
  have h5 : ak = 1 ∨ ak = 2 ∨ ak = 3 ∨ ak = 4 ∨ ak = 5 := by omega
  by_cases he : ae < u.ep
  · rw [if_pos he]
    have fin : ∀ (k : Int), Calls Try.prog 16 #[.pointer (some ⟨g, 0, none⟩), .agg (Ak.mk k au ae apg asz an ad ape aca acn acc).cells] w (fun e w' => e = .returned (An.v ⟨40, 0, ⟨#[]⟩, u.ep⟩) ∧ Below w.heap.size w w') → Calls Try.prog 16 #[.pointer (some ⟨g, 0, none⟩), .agg (Ak.mk k au ae apg asz an ad ape aca acn acc).cells] w fun e w' => e = .returned (An.v ⟨40, 0, ⟨#[]⟩, u.ep⟩) ∧ UnAt w' B g u ∧ Fr [76, 82] B w w' := fun k h => h.mono (by
      rintro e w' ⟨rfl, hw⟩
      exact ⟨rfl, hb.below hw, Fr.of_below hw⟩)
    rcases h5 with rfl | rfl | rfl | rfl | rfl
    · exact fin _ (do_old_1 B g u au ae apg asz an ad ape aca acn acc w hb hd' he)
    · exact fin _ (do_old_2 B g u au ae apg asz an ad ape aca acn acc w hb hd' he)
    · exact fin _ (do_old_3 B g u au ae apg asz an ad ape aca acn acc w hb hd' he)
    · exact fin _ (do_old_4 B g u au ae apg asz an ad ape aca acn acc w hb hd' he)
    · exact fin _ (do_old_5 B g u au ae apg asz an ad ape aca acn acc w hb hd' he)
  rw [if_neg he]
  have he' : u.ep ≤ ae := by omega
  rcases h5 with rfl | rfl | rfl | rfl | rfl
  · exact do_new_1 B g u hp au ae apg asz an ad ape aca acn acc w hb hd' he'
  · exact do_new_2 B g u hp au ae apg asz an ad ape aca acn acc w hb hd' he'
  · exact do_new_3 B g u hp au ae apg asz an ad ape aca acn acc w hb hd' he'
  · exact do_new_4 B g u hp au ae apg asz an ad ape aca acn acc w hb hd' he'
  · exact do_new_5 B g u hp au ae apg asz an ad ape aca acn acc w hb hd' he'
end Go.Proofs.Ytjpegkginmoekaa

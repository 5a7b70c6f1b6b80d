/- The law PlaceTells. -/
import Derived.Test.YtceljebpcfojeaaCopy
import Derived.Test.YtceljebpcfojeaaAddrB
namespace Go.Proofs.Ytceljebpcfojeaa
open Go.RowKit
set_option linter.unusedVariables false

theorem of_tells (ep addr : Int) (cs : List (List Int)) : ∃ (f g : Int) (ob : Bool), ofVal ep cs addr = .tuple #[.agg #[.int .i64 f, .int .i64 g], .bool ob] ∧ rofVal ep cs addr = .agg #[.int .i64 f, .int .i64 g, .bool ob] := by
  unfold ofVal rofVal
  by_cases hb : ofB ep cs addr = true
  · rw [if_pos hb, if_pos hb]
    exact ⟨_, _, _, rfl, rfl⟩
  · rw [if_neg hb, if_neg hb]
    exact ⟨_, _, _, rfl, rfl⟩
theorem addr_tells (ep c p : Int) (cs : List (List Int)) : ∃ (a : Int) (ab : Bool), adVal ep cs c p = .tuple #[.int .i64 a, .bool ab] ∧ decide (0 ≤ radVal ep cs c p) = ab ∧ max (radVal ep cs c p) 0 = a ∧ max 0 (radVal ep cs c p) = a := by
  unfold adVal radVal
  by_cases hb : adB ep cs c p = true
  · rw [if_pos hb, if_pos hb]
    have h0 : 0 ≤ p * cs.length + c := by
      unfold adB at hb
      rw [Bool.and_eq_true, decide_eq_true_iff] at hb
      have : 0 ≤ p * (cs.length : Int) := Int.mul_nonneg hb.2.2.2.1 (by omega)
      omega
    exact ⟨_, _, rfl, by simpa using h0, by omega, by omega⟩
  · rw [if_neg hb, if_neg hb]
    exact ⟨_, _, rfl, by decide, by decide, by decide⟩
theorem chainOf_len {ep addr : Int} {cs : List (List Int)} (h : ∀ c ∈ cs, c.length ≤ 50) : (chainOf ep cs addr).length ≤ 1000 := by
  unfold chainOf
  split
  · rw [List.getD_eq_getElem?_getD]
    cases hx : cs[(addr % (cs.length : Int)).toNat]? with
    | none => simp
    | some c =>
      have := h c (List.mem_of_getElem? hx)
      simp only [Option.getD_some]
      omega
  · simp
theorem ints_bel (B1 B2 cap1 cap2 : Nat) (A1 A2 : Option Addr) (c : List Int) (w : World) (h1 : Rd w B1 A1 (ints c)) (h2 : Rd w B2 A2 (ints c)) (hl : c.length ≤ 1000) :
    Calls Try.prog 21 #[.slice A1 c.length cap1, .slice A2 c.length cap2] w fun e w' => e = .returned (.bool true) ∧ Below w.heap.size w w' :=
  (ints_same B1 B2 cap1 cap2 A1 A2 c w h1 h2 hl).mono fun e w' ⟨he, m, hm⟩ => ⟨he, by rw [hm]; exact below_drewN_ (Below.refl _ _) m⟩

/-- the arguments' blocks and the copy's -/
structure TI (w : World) (ep c p : Int) (v v4 : Value) (cs : List (List Int)) (b7 : Nat) (wr : World) : Prop where
  box : Blk wr w.heap.size 24 #[.int .i64 ep, v]
  xbox : Blk wr (w.heap.size + 1) 40 #[.int .i64 c, .int .i64 p]
  inb : Blk wr b7 24 #[.int .i64 ep, v4]
  pin : PrAt wr b7 v4 cs
  bel : Below w.heap.size w wr
theorem TI.below {w wr w' : World} {ep c p : Int} {v v4 : Value} {cs : List (List Int)} {b7 : Nat} (h : TI w ep c p v v4 cs b7 wr) (hb : Below wr.heap.size wr w') : TI w ep c p v v4 cs b7 w' :=
  ⟨h.box.below hb h.box.lt, h.xbox.below hb h.xbox.lt, h.inb.below hb h.inb.lt, h.pin.below (hb.mono (Nat.le_of_lt h.inb.lt)) (Nat.le_refl _), h.bel.trans (hb.mono h.bel.size)⟩
theorem TI.alloc {w wr : World} {ep c p : Int} {v v4 : Value} {cs : List (List Int)} {b7 : Nat} (h : TI w ep c p v v4 cs b7 wr) (o : Obj) : TI w ep c p v v4 cs b7 (wr.alloc o) := h.below ((Below.refl _ _).alloc (Nat.le_refl _) _)
theorem TI.cells {w wr : World} {ep c p : Int} {v v4 : Value} {cs : List (List Int)} {b7 : Nat} (h : TI w ep c p v v4 cs b7 wr) :
    (wr.cell? ⟨w.heap.size, 0, none⟩ = some (.int .i64 ep) ∧ wr.cell? ⟨w.heap.size, 1, none⟩ = some v) ∧ (wr.cell? ⟨w.heap.size + 1, 0, none⟩ = some (.int .i64 c) ∧ wr.cell? ⟨w.heap.size + 1, 1, none⟩ = some (.int .i64 p)) ∧ (wr.cell? ⟨b7, 0, none⟩ = some (.int .i64 ep) ∧ wr.cell? ⟨b7, 1, none⟩ = some v4) :=
  ⟨⟨h.box.cell 0, h.box.cell 1⟩, ⟨h.xbox.cell 0, h.xbox.cell 1⟩, ⟨h.inb.cell 0, h.inb.cell 1⟩⟩
/-- and the two places -/
structure TL (w : World) (ep c p f g : Int) (ob : Bool) (v v4 : Value) (cs : List (List Int)) (b7 b8 b10 : Nat) (wr : World) : Prop where
  ti : TI w ep c p v v4 cs b7 wr
  ofb : Blk wr b8 40 #[.int .i64 f, .int .i64 g]
  rof : Blk wr b10 48 #[.int .i64 f, .int .i64 g, .bool ob]
theorem TL.below {w wr w' : World} {ep c p f g : Int} {ob : Bool} {v v4 : Value} {cs : List (List Int)} {b7 b8 b10 : Nat} (h : TL w ep c p f g ob v v4 cs b7 b8 b10 wr) (hb : Below wr.heap.size wr w') : TL w ep c p f g ob v v4 cs b7 b8 b10 w' :=
  ⟨h.ti.below hb, h.ofb.below hb h.ofb.lt, h.rof.below hb h.rof.lt⟩
theorem TL.cells {w wr : World} {ep c p f g : Int} {ob : Bool} {v v4 : Value} {cs : List (List Int)} {b7 b8 b10 : Nat} (h : TL w ep c p f g ob v v4 cs b7 b8 b10 wr) :
    (wr.cell? ⟨w.heap.size, 0, none⟩ = some (.int .i64 ep) ∧ wr.cell? ⟨w.heap.size, 1, none⟩ = some v) ∧ (wr.cell? ⟨b7, 0, none⟩ = some (.int .i64 ep) ∧ wr.cell? ⟨b7, 1, none⟩ = some v4) ∧ (wr.cell? ⟨b8, 0, none⟩ = some (.int .i64 f) ∧ wr.cell? ⟨b8, 1, none⟩ = some (.int .i64 g)) ∧ (wr.cell? ⟨b10, 0, none⟩ = some (.int .i64 f) ∧ wr.cell? ⟨b10, 1, none⟩ = some (.int .i64 g) ∧ wr.cell? ⟨b10, 2, none⟩ = some (.bool ob)) :=
  ⟨⟨h.ti.box.cell 0, h.ti.box.cell 1⟩, ⟨h.ti.inb.cell 0, h.ti.inb.cell 1⟩, ⟨h.ofb.cell 0, h.ofb.cell 1⟩, ⟨h.rof.cell 0, h.rof.cell 1, h.rof.cell 2⟩⟩

set_option maxRecDepth 100000 in
set_option maxHeartbeats 4000000 in
theorem tells_any (ep addr c p : Int) (v : Value) (cs : List (List Int)) (w : World) (h : PrAt w w.heap.size v cs) :
    Calls Try.prog 6 #[.agg #[.int .i64 ep, v], .int .i64 addr, .agg #[.int .i64 c, .int .i64 p]] w fun e w' => e = .returned (.bool true) ∧ Below w.heap.size w w' := by
  have HPA : Hid (PrAt ((w.alloc (.cells #[.int .i64 ep, v] 24)).alloc (.cells #[.int .i64 c, .int .i64 p] 40)) w.heap.size v cs) := hide (h.below (((Below.refl _ _).alloc (Nat.le_refl _) _).alloc (by simp) _) (Nat.le_refl _))
  have HP := hide h
  clear h
  by_cases hL : largeP cs = true
  · have HL := hide hL
    clear hL
    go_enter Try.func6, Try.ntmps6
    go_wp2_with fail
    refine (large_to w.heap.size ep v cs true _ HPA.out (by simp; omega) HL.out).mono ?_
    rintro e w1 ⟨rfl, hb1⟩
    have HB1 := hide (two_below hb1).2.2
    clear hb1
    go_wp2_with fail
    refine (wakes_any _).mono ?_
    rintro e w2 ⟨rfl, hb2⟩
    have HB2 := hide (HB1.out.trans (hb2.mono HB1.out.size))
    clear hb2
    go_wp2
    go_ret
    exact ⟨rfl, HB2.out⟩
  have hLf := eq_false_of_ne_true hL
  have HL := hide hLf
  have HSm := hide (large_no hLf)
  have HCL := hide (chainOf_len (ep := ep) (addr := addr) HSm.out.2)
  clear hL hLf
  obtain ⟨f, g, ob, hof, hrof⟩ := of_tells ep addr cs
  have HOF := hide hof
  have HROF := hide hrof
  obtain ⟨a, ab, had, hge, hmx, hmx2⟩ := addr_tells ep c p cs
  have HAD := hide had
  have HRD := hide (rfl : radVal ep cs c p = radVal ep cs c p)
  generalize hr : radVal ep cs c p = r at hge hmx hmx2
  have HR := hide hr
  clear hr had hof hrof HRD
  go_enter Try.func6, Try.ntmps6
  go_wp2_with fail
  refine (large_to w.heap.size ep v cs false _ HPA.out (by simp; omega) HL.out).mono ?_
  rintro e w1 ⟨rfl, hb1⟩
  have HX1 := hide (two_below hb1)
  have a0 : w1.cell? ⟨w.heap.size, 0, none⟩ = some (.int .i64 ep) := HX1.out.1.cell 0
  have a1 : w1.cell? ⟨w.heap.size, 1, none⟩ = some v := HX1.out.1.cell 1
  clear hb1
  go_wp2_with fail
  refine (copy_any w.heap.size ep v cs _ (HP.out.below HX1.out.2.2 (Nat.le_refl _)) HX1.out.2.2.size HSm.out.1 HSm.out.2).mono ?_
  rintro e w4 ⟨v4, rfl, hp4, hb4⟩
  obtain ⟨A4, cap4, rfl, q1, q2⟩ := hp4.shape
  have HT4 : Hid (TI w ep c p v (.slice A4 cs.length cap4) cs w4.heap.size (w4.alloc (.cells #[.int .i64 ep, .slice A4 cs.length cap4] 24))) := hide
    ⟨(HX1.out.1.below hb4 HX1.out.1.lt).alloc _, (HX1.out.2.1.below hb4 HX1.out.2.1.lt).alloc _, Blk.new w4 24 _, hp4.below ((Below.refl _ _).alloc (Nat.le_refl _) _) (Nat.le_refl _), (HX1.out.2.2.trans (hb4.mono HX1.out.2.2.size)).alloc (HX1.out.2.2.trans (hb4.mono HX1.out.2.2.size)).size _⟩
  clear a0 a1 hp4 hb4
  obtain ⟨⟨c0, c1⟩, ⟨c2, c3⟩, ⟨c4, c5⟩⟩ := HT4.out.cells
  go_wp2_with fail
  refine (of_to w4.heap.size ep addr _ cs _ _ HT4.out.pin (Nat.le_of_lt HT4.out.inb.lt) HOF.out).mono ?_
  rintro e w5 ⟨rfl, hb5⟩
  have HT5 := hide ((HT4.out.below hb5).alloc (.cells #[.int .i64 f, .int .i64 g] 40))
  clear c0 c1 c2 c3 c4 c5 hb5
  obtain ⟨⟨c0, c1⟩, ⟨c2, c3⟩, ⟨c4, c5⟩⟩ := HT5.out.cells
  go_wp2_with fail
  refine (rof_to w.heap.size ep addr _ cs _ _ (HP.out.below HT5.out.bel (Nat.le_refl _)) HT5.out.bel.size HROF.out).mono ?_
  rintro e w6 ⟨rfl, hb6⟩
  have HT6 : Hid (TL w ep c p f g ob v (.slice A4 cs.length cap4) cs w4.heap.size w5.heap.size w6.heap.size (w6.alloc (.cells #[.int .i64 f, .int .i64 g, .bool ob] 48))) := hide
    ⟨(HT5.out.below hb6).alloc _, ((Blk.new w5 40 _).below hb6 (by simp)).alloc _, Blk.new w6 48 _⟩
  clear c0 c1 c2 c3 c4 c5 hb6
  obtain ⟨⟨c0, c1⟩, ⟨c2, c3⟩, ⟨c4, c5⟩⟩ := HT6.out.ti.cells
  go_wp2_with fail
  refine (addr_to w4.heap.size ep c p _ cs _ _ HT6.out.ti.pin (Nat.le_of_lt HT6.out.ti.inb.lt) HAD.out).mono ?_
  rintro e w7 ⟨rfl, hb7⟩
  have HT7 := hide (HT6.out.below hb7)
  clear c0 c1 c2 c3 c4 c5 hb7
  obtain ⟨⟨c0, c1⟩, ⟨c2, c3⟩, ⟨c4, c5⟩⟩ := HT7.out.ti.cells
  go_wp2_with fail
  refine (radd_any w.heap.size ep c p _ cs _ (HP.out.below HT7.out.ti.bel (Nat.le_refl _)) HT7.out.ti.bel.size).mono ?_
  rintro e w8 ⟨rfl, hb8⟩
  rw [HR.out]
  have HT8 : Hid (TL w ep c p f g ob v (.slice A4 cs.length cap4) cs w4.heap.size w5.heap.size w6.heap.size w8.drew) := hide ((HT7.out.below hb8).below (Below.refl _ _).drew)
  have K0 := hide HT8.out.cells
  clear c0 c1 c2 c3 c4 c5 hb8
  go_wp2_with fail
  go_region_held3 (fun w' => (w'.cell? ⟨w.heap.size, 0, none⟩ = some (.int .i64 ep) ∧ w'.cell? ⟨w.heap.size, 1, none⟩ = some v) ∧ (w'.cell? ⟨w4.heap.size, 0, none⟩ = some (.int .i64 ep) ∧ w'.cell? ⟨w4.heap.size, 1, none⟩ = some (.slice A4 cs.length cap4)) ∧ (w'.cell? ⟨w5.heap.size, 0, none⟩ = some (.int .i64 f) ∧ w'.cell? ⟨w5.heap.size, 1, none⟩ = some (.int .i64 g)) ∧ (w'.cell? ⟨w6.heap.size, 0, none⟩ = some (.int .i64 f) ∧ w'.cell? ⟨w6.heap.size, 1, none⟩ = some (.int .i64 g) ∧ w'.cell? ⟨w6.heap.size, 2, none⟩ = some (.bool ob))) (first | (with_reducible exact K13.out) | (with_reducible exact K12.out) | (with_reducible exact K11.out) | (with_reducible exact K10.out) | (with_reducible exact K9.out) | (with_reducible exact K0.out)) ((first | (go_at_call 22; refine (chain_any w4.heap.size ep addr _ cs _ HT8.out.ti.pin (Nat.le_of_lt HT8.out.ti.inb.lt)).mono ?_; rintro e w9 ⟨A9, cap9, rfl, s1, s2, hr9, hb9⟩; have HT9 := hide (HT8.out.below hb9); have K9 := hide (HT8.out.below hb9).cells; have HR9 := hide hr9; clear hr9 hb9) | (go_at_call 23; refine (rchain_any w.heap.size ep addr _ cs _ (HP.out.below HT9.out.ti.bel (Nat.le_refl _)) HT9.out.ti.bel.size).mono ?_; rintro e w10 ⟨A10, cap10, rfl, s3, s4, hr10, hb10⟩; have HT10 := hide (HT9.out.below hb10); have K10 := hide (HT9.out.below hb10).cells; have HR10 := hide hr10; have HR9b := hide (HR9.out.below hb10 (Nat.le_refl _)); clear hr10 hb10) | (go_at_call 21; refine (ints_bel _ _ cap9 cap10 _ _ _ _ HR9b.out HR10.out HCL.out).mono ?_; rintro e w11 ⟨rfl, hb11⟩; have HT11 := hide (HT10.out.below hb11); have K11 := hide (HT10.out.below hb11).cells; clear hb11) | (go_at_call 24; refine (proj_same w4.heap.size w.heap.size ep _ _ cs _ HT11.out.ti.pin (Nat.le_of_lt HT11.out.ti.inb.lt) (HP.out.below HT11.out.ti.bel (Nat.le_refl _)) HT11.out.ti.bel.size HSm.out.2).mono ?_; rintro e w12 ⟨rfl, hb12⟩; have HT12 := hide (HT11.out.below hb12); have K12 := hide (HT11.out.below hb12).cells; clear hb12) | (go_at_call 9; refine (wakes_any _).mono ?_; rintro e w13 ⟨rfl, hb13⟩; have HT13 := hide (HT12.out.below hb13); have K13 := hide (HT12.out.below hb13).cells; clear hb13)))
  go_wp2
  go_ret
  exact ⟨rfl, HT13.out.ti.bel⟩
end Go.Proofs.Ytceljebpcfojeaa

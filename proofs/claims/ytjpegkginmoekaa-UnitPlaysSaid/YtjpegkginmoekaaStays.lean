/- The law PageStays: its plain law and its walk. -/
import Derived.Test.YtjpegkginmoekaaPgD
namespace Go.Proofs.Ytjpegkginmoekaa
open Go.RowKit
set_option linter.unusedVariables false

/-- a slice that came in and reads as the cells xs -/
def Arg (w : World) (B : Nat) (A : Option Addr) (n : Nat) (xs : List Value) : Prop :=
  0 < n → ∃ b off, A = some ⟨b, off, none⟩ ∧ b < B ∧ ∀ j u, xs[j]? = some u → w.cell? ⟨b, off + j, none⟩ = some u
theorem Arg.below {w w' : World} {B : Nat} {A : Option Addr} {n : Nat} {xs : List Value} (h : Arg w B A n xs) (hb : Below B w w') : Arg w' B A n xs := fun hn => by
  obtain ⟨b, off, rfl, hlt, hc⟩ := h hn
  exact ⟨b, off, rfl, hlt, fun j u hu => (hb.cell (p := ⟨b, off + j, none⟩) hlt).trans (hc j u hu)⟩

/-- a step of the pages' laws -/
structure Sp where
  k : Int
  n : Int
  s : ByteArray
def spCells (l : List Sp) : List Value := l.flatMap fun s => [.int .i64 s.k, .int .i64 s.n, .string s.s]
theorem spCells_get (l : List Sp) (k : Nat) (s : Sp) (h : l[k]? = some s) : (spCells l)[k * 3]? = some (.int .i64 s.k) ∧ (spCells l)[k * 3 + 1]? = some (.int .i64 s.n) ∧ (spCells l)[k * 3 + 2]? = some (.string s.s) := by
  have hd : ∀ (l : List Sp) (k : Nat), (spCells l).drop (k * 3) = spCells (l.drop k) := by
    intro l
    induction l with
    | nil => intro k; simp [spCells]
    | cons x l ih =>
      intro k
      cases k with
      | zero => simp
      | succ k =>
        rw [List.drop_succ_cons, ← ih k, show (k + 1) * 3 = k * 3 + 3 from by omega]
        rfl
  have hk : k < l.length := (List.getElem?_eq_some_iff.1 h).1
  have hx : l[k] = s := (List.getElem?_eq_some_iff.1 h).2
  have h2 : (spCells l).drop (k * 3) = [.int .i64 s.k, .int .i64 s.n, .string s.s] ++ spCells (l.drop (k + 1)) := by
    rw [hd, List.drop_eq_getElem_cons hk, hx]
    rfl
  have g : ∀ j, (spCells l)[k * 3 + j]? = ([Value.int .i64 s.k, .int .i64 s.n, .string s.s] ++ spCells (l.drop (k + 1)))[j]? := fun j => by rw [← h2, List.getElem?_drop]
  exact ⟨(g 0).trans rfl, (g 1).trans rfl, (g 2).trans rfl⟩

def fairP (l : List Sp) : Bool := l.all (fun s => decide (s.s.size ≤ 6000)) && decide (l.length ≤ 200)
set_option maxHeartbeats 400000 in
theorem fair_any (B : Nat) (A : Option Addr) (cap : Nat) (l : List Sp) (w : World) (ha : Arg w B A l.length (spCells l)) (hl : l.length ≤ 9223372036854775807) :
    Calls Try.prog 30 #[.slice A l.length cap] w fun e w' => e = .returned (.bool (fairP l)) ∧ w = w' := by
  go_enter Try.func30, Try.ntmps30
  go_wp2
  go_loop [3] (fun i => ∃ k : Nat, k ≤ l.length ∧ i = .int .i64 k ∧ Hid (fairP l = ((l.drop k).all (fun s => decide (s.s.size ≤ 6000)) && decide (l.length ≤ 200)))) (fun i => l.length - (intOf i).toNat)
  case atStart => exact ⟨0, Nat.zero_le _, rfl, hide (by simp [fairP])⟩
  case round =>
    obtain ⟨k, hk, rfl, HI⟩ := hrel
    by_cases hlt : k < l.length
    · obtain ⟨b, off, rfl, _, hc⟩ := ha (by omega)
      have hx : l[k]? = some l[k] := List.getElem?_eq_getElem hlt
      have HD := hide (List.drop_eq_getElem_cons hlt)
      generalize l[k] = s at hx HD
      obtain ⟨q0, q1, q2⟩ := spCells_get l k s hx
      have c2 := hc _ _ q2
      rw [show off + (k * 3 + 2) = off + k * 3 + 2 from by omega] at c2
      clear q0 q1 q2 hc hx ha
      by_cases hs : s.s.size ≤ 6000
      · go_wp2
        go_round
        case rel => exact ⟨k + 1, by omega, by go_num, hide (by rw [HI.out, HD.out, List.all_cons, decide_eq_true hs, Bool.true_and])⟩
        case measure => simp [intOf]; omega
      · go_wp2
        go_ret
        exact ⟨by rw [HI.out, HD.out, List.all_cons, decide_eq_false hs]; rfl, rfl⟩
    · have hkl : Hid (k = l.length) := hide (by omega)
      have hd := hide (show decide ((l.length : Int) ≤ 200) = decide (l.length ≤ 200) from decide_eq_decide.2 (by omega))
      go_wp2
      go_ret
      exact ⟨ret_bool (by rw [HI.out, hkl.out, List.drop_length, hd.out]; rfl), rfl⟩

def ModOf (n : Int) (w : World) (e : Ending) (w' : World) : Prop := ∃ m : Int, 0 ≤ m ∧ m < n ∧ e = .returned (.int .i64 m) ∧ w = w'
set_option maxHeartbeats 400000 in
theorem mod_any (k : Int) (w : World) : Calls Try.prog 29 #[.int .i64 k, .int .i64 40] w (ModOf 40 w) := by
  have h1 : k.tmod 40 < 40 := Int.tmod_lt_of_pos _ (by omega)
  have h2 : -40 < k.tmod 40 := Int.lt_tmod_of_pos _ (by omega)
  go_enter Try.func29, Try.ntmps29
  go_wp2
  go_ret
  exact ⟨(k.tmod 40 + 40) % 40, by omega, by omega, rfl, rfl⟩

/-- what PageStays keeps: page kk is as it was written, or it has been trimmed -/
def Stay (kk : Int) (s : ByteArray) (p : PS) (gn : Bool) : Prop := p.Ok ∧ (gn = true → kk < p.edge) ∧ (gn = false → p.edge ≤ kk ∧ findP kk p.l = some ⟨kk, 1, s⟩)
theorem findP_snoc {n : Int} {l : List Pg} {x y : Pg} (h : findP n l = some x) : findP n (l ++ [y]) = some x := by
  unfold findP at h ⊢
  rw [List.find?_append, h]
  rfl
theorem findP_trim {n b : Int} {l : List Pg} (h : b ≤ n) : findP n (l.filter fun x => decide (b ≤ x.n)) = findP n l := by
  unfold findP
  rw [List.find?_filter]
  congr 1
  funext x
  by_cases e : x.n = n
  · simp [e, h]
  · simp [e]
theorem Stay.write {kk : Int} {s : ByteArray} {p : PS} {gn : Bool} (h : Stay kk s p gn) (n : Int) (s' : ByteArray) : Stay kk s (writeP p n s') gn := by
  obtain ⟨h1, h2, h3⟩ := h
  refine ⟨writeP_ok h1 _ _, ?_, ?_⟩
  · intro e
    have := h2 e
    unfold writeP
    split <;> exact this
  · intro e
    have := h3 e
    unfold writeP
    split
    · exact ⟨this.1, findP_snoc this.2⟩
    · exact this
theorem Stay.fill {kk : Int} {s : ByteArray} {p : PS} {gn : Bool} (h : Stay kk s p gn) (n : Int) : Stay kk s (fillP p n) gn := by
  obtain ⟨h1, h2, h3⟩ := h
  refine ⟨fillP_ok h1 _, ?_, ?_⟩
  · intro e
    have := h2 e
    unfold fillP
    split <;> exact this
  · intro e
    have := h3 e
    unfold fillP
    split
    · exact ⟨this.1, findP_snoc this.2⟩
    · exact this
theorem Stay.trim_no {kk : Int} {s : ByteArray} {p : PS} {gn : Bool} (h : Stay kk s p gn) {b : Int} (hb : b < 0 ∨ 4096 < b) : trimErr b = 1 ∧ trimP p b = p := by
  unfold trimErr trimP
  rw [if_pos hb, if_pos hb]
  exact ⟨rfl, rfl⟩
theorem Stay.trim {kk : Int} {s : ByteArray} {p : PS} {gn : Bool} (h : Stay kk s p gn) {b : Int} (hb : ¬ (b < 0 ∨ 4096 < b)) : trimErr b = 0 ∧ Stay kk s (trimP p b) (gn || decide (kk < b)) := by
  obtain ⟨h1, h2, h3⟩ := h
  refine ⟨by unfold trimErr; rw [if_neg hb], trimP_ok h1 _, ?_, ?_⟩
  · intro e
    unfold trimP
    rw [if_neg hb]
    split
    · rename_i hbe
      cases gn with
      | true => exact h2 rfl
      | false => have : kk < b := by simpa using e
                 omega
    · rename_i hbe
      cases gn with
      | true => have := h2 rfl
                show kk < b
                omega
      | false => show kk < b
                 simpa using e
  · intro e
    simp only [Bool.or_eq_false_iff, decide_eq_false_iff_not] at e
    obtain ⟨e1, e2⟩ := e
    obtain ⟨h4, h5⟩ := h3 e1
    unfold trimP
    rw [if_neg hb]
    split
    · exact ⟨h4, h5⟩
    · exact ⟨by show b ≤ kk; omega, by show findP kk (p.l.filter _) = _; rw [findP_trim (by omega)]; exact h5⟩
theorem Stay.read {kk : Int} {s : ByteArray} {p : PS} {gn : Bool} (h : Stay kk s p gn) (h0 : 0 ≤ kk) (h1 : kk < 40) : readP p kk = if gn then (⟨#[]⟩, 43) else (s, 0) := by
  obtain ⟨_, h2, h3⟩ := h
  unfold readP
  rw [if_neg (by omega)]
  cases gn with
  | true => rw [if_pos (h2 rfl)]; rfl
  | false =>
    obtain ⟨h4, h5⟩ := h3 rfl
    rw [if_neg (by omega), h5]
    rfl
theorem stay_start (kk : Int) (s : ByteArray) (h0 : 0 ≤ kk) (h1 : kk < 40) (hs : s.size ≤ 4096) : writeErr (newP 100) kk s = 0 ∧ Stay kk s (writeP (newP 100) kk s) false := by
  have hk : kindP (newP 100) kk = 0 := by
    unfold kindP
    rw [if_neg (by omega), if_neg (by show ¬ kk < 0; omega)]
    rfl
  have hw : writeErr (newP 100) kk s = 0 := by
    unfold writeErr
    rw [if_neg (by omega), if_neg (by omega), if_neg (by show ¬ kk < 0; omega), hk, if_neg (by omega), if_neg (by show ¬ (100 : Int) ≤ ((0 : Nat) : Int); omega)]
  refine ⟨hw, writeP_ok (newP_ok 100 (by decide) (by decide)) _ _, fun e => (by cases e), fun _ => ?_⟩
  unfold writeP
  rw [hw, if_pos rfl]
  refine ⟨h0, ?_⟩
  show findP kk [⟨kk, 1, s⟩] = _
  simp [findP]

/-- what holds at each round's head -/
def StaysRel (w : World) (kk : Int) (s : ByteArray) (n : Nat) (gone i : Value) (wr : World) : Prop :=
  ∃ (j : Nat) (p : PS) (gn : Bool), j ≤ n ∧ i = .int .i64 j ∧ gone = .bool gn ∧ PgAt wr w.heap.size (w.heap.size + 1) p ∧ Stay kk s p gn ∧ Fr [82] w.heap.size w wr
theorem Blk.three {w : World} {g : Nat} {a b c : Value} {t : TypeId} (h : Blk w g t #[a, b, c]) : w.cell? ⟨g, 0, none⟩ = some a ∧ w.cell? ⟨g, 1, none⟩ = some b ∧ w.cell? ⟨g, 2, none⟩ = some c := ⟨h.cell 0, h.cell 1, h.cell 2⟩

set_option maxRecDepth 100000 in
set_option maxHeartbeats 4000000 in
theorem stays_any (A : Option Addr) (cap : Nat) (ss : List Sp) (a0 : Int) (s : ByteArray) (w : World) (ha : Arg w w.heap.size A ss.length (spCells ss)) (hl : ss.length ≤ 9223372036854775807) :
    Calls Try.prog 5 #[.int .i64 a0, .string s, .slice A ss.length cap] w fun e w' => e = .returned (.bool true) ∧ Below w.heap.size w w' := by
  go_enter Try.func5, Try.ntmps5
  go_wp2_with fail
  refine (new_yes 100 _ (by decide) (by decide)).mono ?_
  rintro e w1 ⟨rfl, hb1, hf1, _⟩
  have HB1 := hide hb1
  have HF1 := hide (Fr.of_below hf1 (ts := [82]) (B := w.heap.size))
  have ha1 := ha.below hf1
  clear hb1 hf1
  go_wp2_with fail
  refine (mod_any a0 _).mono ?_
  rintro e w2 ⟨kk, hk0, hk1, rfl, rfl⟩
  go_wp2_with fail
  refine (fair_any w.heap.size A cap ss _ ha1 hl).mono ?_
  rintro e w2 ⟨rfl, rfl⟩
  clear ha1
  by_cases hfair : fairP ss = true
  · rw [hfair]
    by_cases hs : s.size ≤ 4096
    · have HS := hide (stay_start kk s hk0 hk1 hs)
      go_wp2_with fail
      refine (write_to w.heap.size (w.heap.size + 1) (newP 100) _ (newP_ok 100 (by decide) (by decide)) kk 0 s _ HB1.out HS.out.1 rfl).mono ?_
      rintro e w2 ⟨rfl, hb2, hf2⟩
      have HB2 := hide hb2
      have HF2 := hide (HF1.out.trans hf2)
      clear hb2 hf2
      go_wp2_with fail
      go_loopw [10, 11] (fun gone i wr => StaysRel w kk s ss.length gone i wr) (fun _ i _ => ss.length - (intOf i).toNat)
      case atStart => exact ⟨0, _, false, Nat.zero_le _, rfl, rfl, HB2.out, HS.out.2, HF2.out⟩
      case round =>
        obtain ⟨j, p, gn, hj, rfl, rfl, hb, hst, hfr⟩ := hrel
        by_cases hlt : j < ss.length
        · obtain ⟨b, off, rfl, hbb, hcs⟩ := ha.below (hfr.below (Nat.le_refl _)) (by omega)
          have hx : ss[j]? = some ss[j] := List.getElem?_eq_getElem hlt
          generalize ss[j] = x at hx
          obtain ⟨q0, q1, q2⟩ := spCells_get ss j x hx
          have c0 := hcs _ _ q0
          have c1 := hcs _ _ q1
          have c2 := hcs _ _ q2
          simp only [← Nat.add_assoc] at c1 c2
          clear q0 q1 q2 hcs hx ha
          obtain ⟨xk, xn, xs⟩ := x
          have HB := hide (Blk.new wr 58 #[.int .i64 xk, .int .i64 xn, .string xs])
          have HP := hide (hb.alloc (.cells #[.int .i64 xk, .int .i64 xn, .string xs] 58))
          have HF := hide (hfr.alloc (.cells #[.int .i64 xk, .int .i64 xn, .string xs] 58))
          have HST := hide hst
          clear hb hfr hst
          cases gn with
          | true =>
            by_cases hx0 : xk = 0
            · have hxk := hx0
              subst hxk
              go_wp2_with fail
              refine (write_any w.heap.size (w.heap.size + 1) p HST.out.1 xn xs _ HP.out).mono ?_
              rintro e w3 ⟨rfl, hb3, hf3⟩
              have HP3 := hide hb3
              have HS3 := hide (HST.out.write xn xs)
              have HF3 := hide (HF.out.trans hf3)
              clear hb3 hf3
              go_wp2_with fail
              refine (read_to w.heap.size (w.heap.size + 1) _ HS3.out.1 kk 43 ⟨#[]⟩ _ HP3.out (HS3.out.read hk0 hk1)).mono ?_
              rintro e w4 ⟨rfl, rfl⟩
              go_wp2
              go_roundw
              case rel => exact ⟨j + 1, _, true, by omega, by go_num, rfl, HP3.out, HS3.out, HF3.out⟩
              case measure => simp [intOf]; omega
            by_cases hx1 : xk = 1
            · have hxk := hx1
              subst hxk
              go_wp2_with fail
              refine (fill_any w.heap.size (w.heap.size + 1) p HST.out.1 xn _ HP.out).mono ?_
              rintro e w3 ⟨rfl, hb3, hf3⟩
              have HP3 := hide hb3
              have HS3 := hide (HST.out.fill xn)
              have HF3 := hide (HF.out.trans hf3)
              clear hb3 hf3
              go_wp2_with fail
              refine (read_to w.heap.size (w.heap.size + 1) _ HS3.out.1 kk 43 ⟨#[]⟩ _ HP3.out (HS3.out.read hk0 hk1)).mono ?_
              rintro e w4 ⟨rfl, rfl⟩
              go_wp2
              go_roundw
              case rel => exact ⟨j + 1, _, true, by omega, by go_num, rfl, HP3.out, HS3.out, HF3.out⟩
              case measure => simp [intOf]; omega
            by_cases hx2 : xk = 2
            · subst hx2
              by_cases hbad : xn < 0 ∨ 4096 < xn
              · skip
                have HT := hide (HST.out.trim_no hbad)
                go_wp2_with fail
                refine (trim_to w.heap.size (w.heap.size + 1) p p HST.out.1 xn 1 _ HP.out HT.out.1 HT.out.2).mono ?_
                rintro e w3 ⟨rfl, hb3, hf3⟩
                have HP3 := hide hb3
                have HS3 := HST
                have HF3 := hide (HF.out.trans hf3)
                clear hb3 hf3
                go_wp2_with fail
                refine (read_to w.heap.size (w.heap.size + 1) _ HS3.out.1 kk 43 ⟨#[]⟩ _ HP3.out (HS3.out.read hk0 hk1)).mono ?_
                rintro e w4 ⟨rfl, rfl⟩
                go_wp2
                go_roundw
                case rel => exact ⟨j + 1, _, true, by omega, by go_num, rfl, HP3.out, HS3.out, HF3.out⟩
                case measure => simp [intOf]; omega
              · skip
                have HT := hide (HST.out.trim hbad)
                go_wp2_with fail
                refine (trim_to w.heap.size (w.heap.size + 1) p (trimP p xn) HST.out.1 xn 0 _ HP.out HT.out.1 rfl).mono ?_
                rintro e w3 ⟨rfl, hb3, hf3⟩
                obtain ⟨d0, d1, d2⟩ := (HB.out.fr hf3 (by decide)).three
                have HP3 := hide hb3
                have HS3 : Hid (Stay kk s (trimP p xn) true) := hide (by simpa using HT.out.2)
                have HF3 := hide (HF.out.trans hf3)
                clear hb3 hf3
                go_wp2_with fail
                refine (read_to w.heap.size (w.heap.size + 1) _ HS3.out.1 kk 43 ⟨#[]⟩ _ HP3.out (HS3.out.read hk0 hk1)).mono ?_
                rintro e w4 ⟨rfl, rfl⟩
                go_wp2
                go_roundw
                case rel => exact ⟨j + 1, _, true, by omega, by go_num, rfl, HP3.out, HS3.out, HF3.out⟩
                case measure => simp [intOf]; omega
            have n0 : (xk == 0) = false := by simp [hx0]
            have n1 : (xk == 1) = false := by simp [hx1]
            have n2 : (xk == 2) = false := by simp [hx2]
            clear hx0 hx1 hx2
            have HP3 := HP
            have HS3 := HST
            have HF3 := HF
            go_wp2_with fail
            refine (read_to w.heap.size (w.heap.size + 1) _ HS3.out.1 kk 43 ⟨#[]⟩ _ HP3.out (HS3.out.read hk0 hk1)).mono ?_
            rintro e w4 ⟨rfl, rfl⟩
            go_wp2
            go_roundw
            case rel => exact ⟨j + 1, _, true, by omega, by go_num, rfl, HP3.out, HS3.out, HF3.out⟩
            case measure => simp [intOf]; omega
          | false =>
            by_cases hx0 : xk = 0
            · have hxk := hx0
              subst hxk
              go_wp2_with fail
              refine (write_any w.heap.size (w.heap.size + 1) p HST.out.1 xn xs _ HP.out).mono ?_
              rintro e w3 ⟨rfl, hb3, hf3⟩
              have HP3 := hide hb3
              have HS3 := hide (HST.out.write xn xs)
              have HF3 := hide (HF.out.trans hf3)
              clear hb3 hf3
              go_wp2_with fail
              refine (read_to w.heap.size (w.heap.size + 1) _ HS3.out.1 kk 0 s _ HP3.out (HS3.out.read hk0 hk1)).mono ?_
              rintro e w4 ⟨rfl, rfl⟩
              go_wp2
              go_roundw
              case rel => exact ⟨j + 1, _, false, by omega, by go_num, rfl, HP3.out, HS3.out, HF3.out⟩
              case measure => simp [intOf]; omega
            by_cases hx1 : xk = 1
            · have hxk := hx1
              subst hxk
              go_wp2_with fail
              refine (fill_any w.heap.size (w.heap.size + 1) p HST.out.1 xn _ HP.out).mono ?_
              rintro e w3 ⟨rfl, hb3, hf3⟩
              have HP3 := hide hb3
              have HS3 := hide (HST.out.fill xn)
              have HF3 := hide (HF.out.trans hf3)
              clear hb3 hf3
              go_wp2_with fail
              refine (read_to w.heap.size (w.heap.size + 1) _ HS3.out.1 kk 0 s _ HP3.out (HS3.out.read hk0 hk1)).mono ?_
              rintro e w4 ⟨rfl, rfl⟩
              go_wp2
              go_roundw
              case rel => exact ⟨j + 1, _, false, by omega, by go_num, rfl, HP3.out, HS3.out, HF3.out⟩
              case measure => simp [intOf]; omega
            by_cases hx2 : xk = 2
            · subst hx2
              by_cases hbad : xn < 0 ∨ 4096 < xn
              · skip
                have HT := hide (HST.out.trim_no hbad)
                go_wp2_with fail
                refine (trim_to w.heap.size (w.heap.size + 1) p p HST.out.1 xn 1 _ HP.out HT.out.1 HT.out.2).mono ?_
                rintro e w3 ⟨rfl, hb3, hf3⟩
                have HP3 := hide hb3
                have HS3 := HST
                have HF3 := hide (HF.out.trans hf3)
                clear hb3 hf3
                go_wp2_with fail
                refine (read_to w.heap.size (w.heap.size + 1) _ HS3.out.1 kk 0 s _ HP3.out (HS3.out.read hk0 hk1)).mono ?_
                rintro e w4 ⟨rfl, rfl⟩
                go_wp2
                go_roundw
                case rel => exact ⟨j + 1, _, false, by omega, by go_num, rfl, HP3.out, HS3.out, HF3.out⟩
                case measure => simp [intOf]; omega
              by_cases hgt : kk < xn
              · skip
                have HT := hide (HST.out.trim hbad)
                go_wp2_with fail
                refine (trim_to w.heap.size (w.heap.size + 1) p (trimP p xn) HST.out.1 xn 0 _ HP.out HT.out.1 rfl).mono ?_
                rintro e w3 ⟨rfl, hb3, hf3⟩
                obtain ⟨d0, d1, d2⟩ := (HB.out.fr hf3 (by decide)).three
                have HP3 := hide hb3
                have HS3 : Hid (Stay kk s (trimP p xn) true) := hide (by have := HT.out.2; rwa [decide_eq_true (by omega)] at this)
                have HF3 := hide (HF.out.trans hf3)
                clear hb3 hf3
                go_wp2_with fail
                refine (read_to w.heap.size (w.heap.size + 1) _ HS3.out.1 kk 43 ⟨#[]⟩ _ HP3.out (HS3.out.read hk0 hk1)).mono ?_
                rintro e w4 ⟨rfl, rfl⟩
                go_wp2
                go_roundw
                case rel => exact ⟨j + 1, _, true, by omega, by go_num, rfl, HP3.out, HS3.out, HF3.out⟩
                case measure => simp [intOf]; omega
              · skip
                have HT := hide (HST.out.trim hbad)
                go_wp2_with fail
                refine (trim_to w.heap.size (w.heap.size + 1) p (trimP p xn) HST.out.1 xn 0 _ HP.out HT.out.1 rfl).mono ?_
                rintro e w3 ⟨rfl, hb3, hf3⟩
                obtain ⟨d0, d1, d2⟩ := (HB.out.fr hf3 (by decide)).three
                have HP3 := hide hb3
                have HS3 : Hid (Stay kk s (trimP p xn) false) := hide (by have := HT.out.2; rwa [decide_eq_false (by omega)] at this)
                have HF3 := hide (HF.out.trans hf3)
                clear hb3 hf3
                go_wp2_with fail
                refine (read_to w.heap.size (w.heap.size + 1) _ HS3.out.1 kk 0 s _ HP3.out (HS3.out.read hk0 hk1)).mono ?_
                rintro e w4 ⟨rfl, rfl⟩
                go_wp2
                go_roundw
                case rel => exact ⟨j + 1, _, false, by omega, by go_num, rfl, HP3.out, HS3.out, HF3.out⟩
                case measure => simp [intOf]; omega
            have n0 : (xk == 0) = false := by simp [hx0]
            have n1 : (xk == 1) = false := by simp [hx1]
            have n2 : (xk == 2) = false := by simp [hx2]
            clear hx0 hx1 hx2
            have HP3 := HP
            have HS3 := HST
            have HF3 := HF
            go_wp2_with fail
            refine (read_to w.heap.size (w.heap.size + 1) _ HS3.out.1 kk 0 s _ HP3.out (HS3.out.read hk0 hk1)).mono ?_
            rintro e w4 ⟨rfl, rfl⟩
            go_wp2
            go_roundw
            case rel => exact ⟨j + 1, _, false, by omega, by go_num, rfl, HP3.out, HS3.out, HF3.out⟩
            case measure => simp [intOf]; omega
        · clear ha
          have HF := hide hfr
          clear hfr hb hst
          go_wp2_with fail
          refine (wakes_any _).mono ?_
          rintro e w2 ⟨rfl, hb2⟩
          go_wp2
          go_ret
          exact ⟨rfl, (HF.out.trans (Fr.of_below hb2)).below (Nat.le_refl _)⟩
    · go_wp2_with fail
      refine (wakes_any _).mono ?_
      rintro e w2 ⟨rfl, hb2⟩
      go_wp2
      go_ret
      exact ⟨rfl, (HF1.out.trans (Fr.of_below hb2)).below (Nat.le_refl _)⟩
  · rw [eq_false_of_ne_true hfair]
    go_wp2_with fail
    refine (wakes_any _).mono ?_
    rintro e w2 ⟨rfl, hb2⟩
    go_wp2
    go_ret
    exact ⟨rfl, (HF1.out.trans (Fr.of_below hb2)).below (Nat.le_refl _)⟩
end Go.Proofs.Ytjpegkginmoekaa

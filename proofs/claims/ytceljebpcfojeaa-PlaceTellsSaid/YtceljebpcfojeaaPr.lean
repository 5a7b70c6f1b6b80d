/- A projection in memory; proj.met. -/
import Derived.Test.YtceljebpcfojeaaLaw
import Derived.Deep.LoopGhost
import Derived.BigQuiet
import Derived.Deep.QuietTactic
namespace Go.Proofs.Ytceljebpcfojeaa
open Go.RowKit
set_option linter.unusedVariables false

theorem ret_bool {a b : Bool} (h : a = b) : Ending.returned (.bool a) = .returned (.bool b) := by rw [h]
theorem ret_int {k : IntKind} {a b : Int} (h : a = b) : Ending.returned (.int k a) = .returned (.int k b) := by rw [h]
def ints (c : List Int) : List Value := c.map (.int .i64)
theorem ints_length (c : List Int) : (ints c).length = c.length := by simp [ints]
theorem ints_get (c : List Int) (k : Nat) (u : Int) (h : c[k]? = some u) : (ints c)[k]? = some (.int .i64 u) := by simp [ints, h]
/-- at A the cells xs lie, below B -/
def Rd (w : World) (B : Nat) (A : Option Addr) (xs : List Value) : Prop := 0 < xs.length → ∃ b off, A = some ⟨b, off, none⟩ ∧ b < B ∧ ∀ j u, xs[j]? = some u → w.cell? ⟨b, off + j, none⟩ = some u
theorem Rd.below {w w' : World} {B B' : Nat} {A : Option Addr} {xs : List Value} (h : Rd w B A xs) (hb : Below B' w w') (hB : B ≤ B') : Rd w' B' A xs := fun h0 => by
  obtain ⟨b, off, rfl, h1, h2⟩ := h h0
  exact ⟨b, off, rfl, by omega, fun j u hu => (hb.cell (p := ⟨b, off + j, none⟩) (by show b < B'; omega)).trans (h2 j u hu)⟩
/-- the slice v reads as the chains cs; all of it lies below B -/
def PrAt (w : World) (B : Nat) (v : Value) (cs : List (List Int)) : Prop :=
  ∃ (A : Option Addr) (cap : Nat) (vs : List Value), v = .slice A cs.length cap ∧ cs.length ≤ cap ∧ cap ≤ maxLen ∧ vs.length = cs.length ∧ Rd w B A vs ∧
    ∀ (j : Nat) (c : List Int), cs[j]? = some c → ∃ (Aj : Option Addr) (capj : Nat), vs[j]? = some (Value.slice Aj c.length capj) ∧ c.length ≤ capj ∧ capj ≤ maxLen ∧ Rd w B Aj (ints c) ∧ ∀ u ∈ c, okI u
theorem PrAt.below {w w' : World} {B B' : Nat} {v : Value} {cs : List (List Int)} (h : PrAt w B v cs) (hb : Below B' w w') (hB : B ≤ B') : PrAt w' B' v cs := by
  obtain ⟨A, cap, vs, h1, h2, h3, h4, h5, h6⟩ := h
  refine ⟨A, cap, vs, h1, h2, h3, h4, h5.below hb hB, fun j c hc => ?_⟩
  obtain ⟨Aj, capj, k1, k2, k3, k4, k5⟩ := h6 j c hc
  exact ⟨Aj, capj, k1, k2, k3, k4.below hb hB, k5⟩
theorem PrAt.shape {w : World} {B : Nat} {v : Value} {cs : List (List Int)} (h : PrAt w B v cs) : ∃ A cap, v = .slice A cs.length cap ∧ cs.length ≤ cap ∧ cap ≤ 9223372036854775807 := by
  obtain ⟨A, cap, vs, h1, h2, h3, _⟩ := h
  exact ⟨A, cap, h1, h2, by unfold maxLen at h3; omega⟩
theorem PrAt.chain {w : World} {B : Nat} {A : Option Addr} {n cap j : Nat} {cs : List (List Int)} {c : List Int} (h : PrAt w B (.slice A n cap) cs) (hj : cs[j]? = some c) :
    ∃ b off Aj capj, A = some ⟨b, off, none⟩ ∧ b < B ∧ w.cell? ⟨b, off + j, none⟩ = some (.slice Aj c.length capj) ∧ c.length ≤ capj ∧ capj ≤ 9223372036854775807 ∧ Rd w B Aj (ints c) ∧ ∀ u ∈ c, okI u := by
  obtain ⟨A', cap', vs, h1, h2, h3, h4, h5, h6⟩ := h
  obtain ⟨Aj, capj, k1, k2, k3, k4, k5⟩ := h6 j c hj
  have hl := (List.getElem?_eq_some_iff.1 hj).1
  obtain ⟨b, off, rfl, g1, g2⟩ := h5 (by omega)
  simp only [Value.slice.injEq] at h1
  exact ⟨b, off, Aj, capj, h1.1, g1, g2 j _ k1, k2, by unfold maxLen at k3; omega, k4, k5⟩
theorem Rd.unit {w : World} {B : Nat} {A : Option Addr} {c : List Int} {k : Nat} {u : Int} (h : Rd w B A (ints c)) (hk : c[k]? = some u) : ∃ b off, A = some ⟨b, off, none⟩ ∧ b < B ∧ w.cell? ⟨b, off + k, none⟩ = some (.int .i64 u) := by
  have hl := (List.getElem?_eq_some_iff.1 hk).1
  obtain ⟨b, off, rfl, g1, g2⟩ := h (by rw [ints_length]; omega)
  exact ⟨b, off, rfl, g1, g2 k _ (ints_get c k u hk)⟩
theorem take_flat {cs : List (List Int)} {j : Nat} {c : List Int} (h : cs[j]? = some c) : (cs.take (j + 1)).flatten = (cs.take j).flatten ++ c := by
  rw [List.take_add_one, h]
  simp
theorem flat_take_le (cs : List (List Int)) (j : Nat) {c : List Int} (h : cs[j]? = some c) (k : Nat) : ((cs.take j).flatten ++ c.take k).length ≤ cs.flatten.length := by
  have h1 : ((cs.take j).flatten ++ c.take k).length ≤ (cs.take (j + 1)).flatten.length := by
    rw [take_flat h, List.length_append, List.length_append]
    have : (c.take k).length ≤ c.length := by rw [List.length_take]; omega
    omega
  have h2 : (cs.take (j + 1)).flatten.length ≤ cs.flatten.length := by
    have : cs.flatten = (cs.take (j + 1)).flatten ++ (cs.drop (j + 1)).flatten := by rw [← List.flatten_append, List.take_append_drop]
    rw [this, List.length_append]
    omega
  omega
theorem cnt_bound {κ : Type} [DecidableEq κ] (l : List κ) (k : κ) : 0 ≤ getL (cntL l) k ∧ getL (cntL l) k ≤ l.length := by
  rw [(cntL_ok l).2.1]
  have := List.count_le_length (a := k) (l := l)
  omega

set_option maxRecDepth 100000 in
set_option maxHeartbeats 1600000 in
theorem met_any (B : Nat) (ep : Int) (v : Value) (cs : List (List Int)) (w : World) (h : PrAt w B v cs) (hB : B ≤ w.heap.size) (hn : cs.flatten.length ≤ 1000) :
    Calls Try.prog 29 #[.agg #[.int .i64 ep, v]] w fun e w' => e = .returned (.map (some (w.heap.size + 1))) ∧ MapAt kU w' (w.heap.size + 1) (cntL cs.flatten) ∧ Below w.heap.size w w' := by
  have hmm := @run_makeMap Try.prog
  obtain ⟨A, cap, rfl, hcap, hcap2⟩ := h.shape
  have HP := hide h
  clear h
  have hM0 : Hid (∀ o, MapAt kU ((w.alloc o).alloc (.map #[] 0)) (w.heap.size + 1) (cntL ((cs.take 0).flatten))) := hide fun o => by simpa [cntL] using map_new kU (w.alloc o)
  go_enter Try.func29, Try.ntmps29
  go_wp2
  go_loopw [12] (fun i wr => ∃ j : Nat, j ≤ cs.length ∧ i = .int .i64 j ∧ MapAt kU wr (w.heap.size + 1) (cntL (cs.take j).flatten) ∧ Below w.heap.size w wr) (fun i _ => cs.length - (intOf i).toNat)
  case atStart => exact ⟨0, Nat.zero_le _, rfl, hM0.out _, ((Below.refl _ _).alloc (Nat.le_refl _) _).alloc (by simp) _⟩
  case round =>
    obtain ⟨j, hj, rfl, hm, hbel⟩ := hrel
    have HM := hide hm
    have HBL := hide hbel
    clear hm hbel
    by_cases hlt : j < cs.length
    · have hc : cs[j]? = some cs[j] := List.getElem?_eq_getElem hlt
      generalize cs[j] = c at hc
      have HC := hide hc
      clear hc
      obtain ⟨b, off, Aj, capj, rfl, hb, hcell0, hcj, hcj2, hrd, hok⟩ := HP.out.chain HC.out
      have hcell := (HBL.out.cell (p := ⟨b, off + j, none⟩) (show b < w.heap.size by omega)).trans hcell0
      have HRD := hide hrd
      have HOK := hide hok
      clear hrd hok hcell0
      go_wp2_with fail
      go_loopw [18] (fun i wr => ∃ k : Nat, k ≤ c.length ∧ i = .int .i64 k ∧ MapAt kU wr (w.heap.size + 1) (cntL ((cs.take j).flatten ++ c.take k)) ∧ Below w.heap.size w wr) (fun i _ => c.length - (intOf i).toNat)
      case atStart => exact ⟨0, Nat.zero_le _, rfl, by simpa using HM.out, HBL.out⟩
      case round =>
        clear hcell
        obtain ⟨k, hk, rfl, hm, hbel⟩ := hrel
        have hws := hbel.size
        by_cases hlt2 : k < c.length
        · have hu : c[k]? = some c[k] := List.getElem?_eq_getElem hlt2
          have HUM : Hid (okI c[k]) := hide (HOK.out _ (List.getElem_mem hlt2))
          have htk : Hid (c.take (k + 1) = c.take k ++ [c[k]]) := hide (List.take_succ_eq_append_getElem hlt2)
          generalize c[k] = u at hu HUM htk
          obtain ⟨bk, offk, rfl, hbk, hcu0⟩ := HRD.out.unit hu
          have hcu := (hbel.cell (p := ⟨bk, offk + k, none⟩) (show bk < w.heap.size by omega)).trans hcu0
          have hle := flat_take_le cs j HC.out k
          have HL : Hid (cntL ((cs.take j).flatten ++ c.take (k + 1)) = putL (cntL ((cs.take j).flatten ++ c.take k)) u (getL (cntL ((cs.take j).flatten ++ c.take k)) u + 1)) := hide (by rw [htk.out, ← List.append_assoc, cntL_snoc])
          have hcl := (cntL_ok ((cs.take j).flatten ++ c.take k)).2.2.2.2
          obtain ⟨hb0, hb1⟩ := cnt_bound ((cs.take j).flatten ++ c.take k) u
          have HBL2 := hide hbel
          clear hbel hcu0 hu
          generalize cntL ((cs.take j).flatten ++ c.take k) = m at *
          have hmd : MapAt kU wr.drew (w.heap.size + 1) m := hm
          have hl : (Instr.lookup 60 (.map (some (w.heap.size + 1))) (.agg #[.int .i64 u]) false).run Try.prog wr.drew = .ok (.int .i64 (getL m u)) wr.drew := hmd.look HUM.out
          obtain ⟨st, W1, hE, hL1, _, hS⟩ := hmd.entry (k := u) Try.klaw63 HUM.out (by unfold maxLen; omega)
          replace hE : (Instr.mapEntry 60 (.map (some (w.heap.size + 1))) (.agg #[.int .i64 u])).run Try.prog wr.drew = .ok (.tuple #[.int .i64 (getL m u), .int .i64 st]) W1 := hE
          replace hL1 : (Instr.lookup 60 (.map (some (w.heap.size + 1))) (.agg #[.int .i64 u]) false).run Try.prog W1 = .ok (.int .i64 (getL m u)) W1 := hL1
          obtain ⟨W3, hrun3, hm3, hg3⟩ := hS (getL m u + 1)
          replace hrun3 : (Instr.entryStore 60 (.map (some (w.heap.size + 1))) (.int .i64 st) (.int .i64 (getL m u + 1))).run Try.prog W1 = .ok () W3 := hrun3
          have HM3 := hide (HL.out ▸ hm3)
          have HG3 := hide hg3
          clear hm hmd hS hm3 hg3 HL
          generalize getL m u = g at *
          have hg1 : g ≤ 1000 := by omega
          clear hle hcl hb1
          go_wp2_with fail
          go_region
          all_goals go_wp2
          all_goals go_roundw
          all_goals try case rel => exact ⟨k + 1, by omega, by go_num, HM3.out, HBL2.out.drew.grown HG3.out (by simpa using hws) (fun k hk => by injection hk with hk; omega)⟩
          all_goals try case measure => simp [intOf]; omega
        · have HK : Hid (k = c.length) := hide (by omega)
          have HM2 := hide hm
          have HBL2 := hide hbel
          clear hm hbel
          go_wp2
          go_roundw
          case rel => exact ⟨j + 1, by omega, by go_num, by rw [take_flat HC.out]; have := HM2.out; rwa [HK.out, List.take_length] at this, HBL2.out⟩
          case measure => simp [intOf]; omega
    · have HJ : Hid (j = cs.length) := hide (by omega)
      go_wp2
      go_ret
      exact ⟨rfl, by have := HM.out; rwa [HJ.out, List.take_length] at this, HBL.out⟩
end Go.Proofs.Ytceljebpcfojeaa

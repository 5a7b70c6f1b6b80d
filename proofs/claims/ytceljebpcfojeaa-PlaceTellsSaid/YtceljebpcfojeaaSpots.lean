/- place.spots. -/
import Derived.Test.YtceljebpcfojeaaPl
namespace Go.Proofs.Ytceljebpcfojeaa
open Go.RowKit
set_option linter.unusedVariables false

theorem spots_len (m : List (Int × Int)) (cs : List (List Int)) : (spots m cs).length ≤ cs.flatten.length := by
  have : ∀ i, (spotsF m i cs).length ≤ cs.flatten.length := by
    induction cs with
    | nil => intro i; simp [spotsF]
    | cons c cs ih =>
      intro i
      have := ih (i + 1)
      rw [spotsF, List.length_append, List.flatten_cons, List.length_append]
      have : (spotsC i m c).length ≤ c.length := by
        unfold spotsC
        rw [List.length_map]
        exact List.length_filter_le _ _
      omega
  exact this 0
theorem spots_part (m : List (Int × Int)) (cs : List (List Int)) (j : Nat) (c : List Int) (hj : cs[j]? = some c) (k : Nat) : (spots m (cs.take j) ++ spotsC j m (c.take k)).length ≤ cs.flatten.length := by
  have h1 := spots_len m (cs.take j)
  have h2 : (spotsC j m (c.take k)).length ≤ (c.take k).length := by
    unfold spotsC
    rw [List.length_map]
    exact List.length_filter_le _ _
  have h3 := flat_take_le cs j hj k
  rw [List.length_append] at h3 ⊢
  omega

set_option maxRecDepth 100000 in
set_option maxHeartbeats 1600000 in
theorem spots_any (B tm : Nat) (m : List (Int × Int)) (ep : Int) (v : Value) (cs : List (List Int)) (w : World) (h : PrAt w B v cs) (hB : B ≤ w.heap.size) (hM : MapAt kI w tm m) (hn : cs.length ≤ 4) (hf : cs.flatten.length ≤ 16) :
    Calls Try.prog 26 #[.agg #[.int .i64 ep, v], .map (some tm)] w fun e w' => e = .returned (.map (some (w.heap.size + 1))) ∧ MapAt kP w' (w.heap.size + 1) (cntL (spots m cs)) ∧ Below w.heap.size w w' := by
  have hmm := @run_makeMap Try.prog
  obtain ⟨A, cap, rfl, hcap, hcap2⟩ := h.shape
  have HP := hide h
  have HMI := hide hM
  have htm := hM.lt
  clear h hM
  have hM0 : Hid (∀ o, MapAt kP ((w.alloc o).alloc (.map #[] 0)) (w.heap.size + 1) (cntL (spots m (cs.take 0)))) := hide fun o => by simpa [cntL, spots, spotsF] using map_new kP (w.alloc o)
  go_enter Try.func26, Try.ntmps26
  go_wp2
  go_loopw [16] (fun i wr => ∃ j : Nat, j ≤ cs.length ∧ i = .int .i64 j ∧ MapAt kP wr (w.heap.size + 1) (cntL (spots m (cs.take j))) ∧ Below w.heap.size w wr) (fun i _ => cs.length - (intOf i).toNat)
  case atStart => exact ⟨0, Nat.zero_le _, rfl, hM0.out _, ((Below.refl _ _).alloc (Nat.le_refl _) _).alloc (by simp) _⟩
  case round =>
    obtain ⟨j, hj, rfl, hm, hbel⟩ := hrel
    have HM := hide hm
    have HBL := hide hbel
    clear hm hbel
    by_cases hlt : j < cs.length
    · have hc : cs[j]? = some cs[j] := List.getElem?_eq_getElem hlt
      generalize cs[j] = c at hc
      have HC := hide hc
      clear hc
      obtain ⟨b, off, Aj, capj, rfl, hb, hcell0, hcj, hcj2, hrd, hok⟩ := HP.out.chain HC.out
      have hcell := (HBL.out.cell (p := ⟨b, off + j, none⟩) (show b < w.heap.size by omega)).trans hcell0
      have HRD := hide hrd
      have HOK := hide hok
      clear hrd hok hcell0
      go_wp2_with fail
      go_loopw [23] (fun i wr => ∃ k : Nat, k ≤ c.length ∧ i = .int .i64 k ∧ MapAt kP wr (w.heap.size + 1) (cntL (spots m (cs.take j) ++ spotsC j m (c.take k))) ∧ Below w.heap.size w wr) (fun i _ => c.length - (intOf i).toNat)
      case atStart => exact ⟨0, Nat.zero_le _, rfl, by simpa [spotsC] using HM.out, HBL.out⟩
      case round =>
        clear hcell
        obtain ⟨k, hk, rfl, hm, hbel⟩ := hrel
        have hws := hbel.size
        by_cases hlt2 : k < c.length
        · have hu : c[k]? = some c[k] := List.getElem?_eq_getElem hlt2
          have HUM : Hid (okI c[k]) := hide (HOK.out _ (List.getElem_mem hlt2))
          generalize c[k] = u at hu HUM
          obtain ⟨bk, offk, rfl, hbk, hcu0⟩ := HRD.out.unit hu
          have hcu := (hbel.cell (p := ⟨bk, offk + k, none⟩) (show bk < w.heap.size by omega)).trans hcu0
          have HL := hide (spotsC_take j m c k u hu)
          have hle := spots_part m cs j c HC.out k
          have hlk : (Instr.lookup 29 (.map (some tm)) (.int .i64 u) true).run Try.prog wr = .ok (.tuple #[.int .i64 (getL m u), .bool (hasL m u)]) wr := (HMI.out.below hbel htm).look_ok (k := u) HUM.out
          have HBL2 := hide hbel
          clear hbel hcu0 hu
          generalize getL m u = q at *
          by_cases hh : hasL m u = true
          · rw [hh] at hlk
            have HT : Hid (spots m (cs.take j) ++ spotsC j m (c.take (k + 1)) = (spots m (cs.take j) ++ spotsC j m (c.take k)) ++ [((j : Int), min (max q 0) 4096)]) := hide (by rw [HL.out, if_pos hh, List.append_assoc]; rfl)
            clear hh HL
            generalize spots m (cs.take j) ++ spotsC j m (c.take k) = ss at *
            have hokk : kP.ok ((j : Int), min (max q 0) 4096) := ⟨okI_of (by omega), okI_of (by omega)⟩
            have hcl := (cntL_ok ss).2.2.2.2
            obtain ⟨hb0, hb1⟩ := cnt_bound ss ((j : Int), min (max q 0) 4096)
            have HT2 : Hid (cntL (spots m (cs.take j) ++ spotsC j m (c.take (k + 1))) = putL (cntL ss) ((j : Int), min (max q 0) 4096) (getL (cntL ss) ((j : Int), min (max q 0) 4096) + 1)) := hide (by rw [HT.out, cntL_snoc])
            clear HT
            generalize cntL ss = M at *
            have hmd : MapAt kP wr.drew (w.heap.size + 1) M := hm
            have hl : (Instr.lookup 56 (.map (some (w.heap.size + 1))) (.agg #[.int .i64 j, .int .i64 (min (max q 0) 4096)]) false).run Try.prog wr.drew = .ok (.int .i64 (getL M ((j : Int), min (max q 0) 4096))) wr.drew := hmd.look hokk
            obtain ⟨st, W1, hE, hL1, _, hS⟩ := hmd.entry Try.klaw40 hokk (by unfold maxLen; omega)
            replace hE : (Instr.mapEntry 56 (.map (some (w.heap.size + 1))) (.agg #[.int .i64 j, .int .i64 (min (max q 0) 4096)])).run Try.prog wr.drew = .ok (.tuple #[.int .i64 (getL M ((j : Int), min (max q 0) 4096)), .int .i64 st]) W1 := hE
            replace hL1 : (Instr.lookup 56 (.map (some (w.heap.size + 1))) (.agg #[.int .i64 j, .int .i64 (min (max q 0) 4096)]) false).run Try.prog W1 = .ok (.int .i64 (getL M ((j : Int), min (max q 0) 4096))) W1 := hL1
            obtain ⟨W3, hrun3, hm3, hg3⟩ := hS (getL M ((j : Int), min (max q 0) 4096) + 1)
            replace hrun3 : (Instr.entryStore 56 (.map (some (w.heap.size + 1))) (.int .i64 st) (.int .i64 (getL M ((j : Int), min (max q 0) 4096) + 1))).run Try.prog W1 = .ok () W3 := hrun3
            have HM3 := hide (HT2.out ▸ hm3)
            have HG3 := hide hg3
            clear hm hmd hS hm3 hg3 HT2
            generalize getL M ((j : Int), min (max q 0) 4096) = g at *
            have hg1 : g ≤ 1000 := by omega
            clear hle hcl hb1 hokk
            go_wp2_with fail
            go_region
            all_goals go_wp2
            all_goals go_roundw
            all_goals try case rel => exact ⟨k + 1, by omega, by go_num, HM3.out, HBL2.out.drew.grown HG3.out (by simpa using hws) (fun k hk => by injection hk with hk; omega)⟩
            all_goals try case measure => simp [intOf]; omega
          · have hhf := eq_false_of_ne_true hh
            rw [hhf] at hlk
            have HM2 := hide hm
            have HT : Hid (spotsC j m (c.take (k + 1)) = spotsC j m (c.take k)) := hide (by rw [HL.out, if_neg hh, List.append_nil])
            clear hh hhf HL hm
            go_wp2
            go_roundw
            case rel => exact ⟨k + 1, by omega, by go_num, by rw [HT.out]; exact HM2.out, HBL2.out⟩
            case measure => simp [intOf]; omega
        · have HK : Hid (k = c.length) := hide (by omega)
          have HM2 := hide hm
          have HBL2 := hide hbel
          clear hm hbel
          go_wp2
          go_roundw
          case rel => exact ⟨j + 1, by omega, by go_num, by rw [spots_take m cs j c HC.out]; have := HM2.out; rwa [HK.out, List.take_length] at this, HBL2.out⟩
          case measure => simp [intOf]; omega
    · have HJ : Hid (j = cs.length) := hide (by omega)
      go_wp2
      go_ret
      exact ⟨rfl, by have := HM.out; rwa [HJ.out, List.take_length] at this, HBL.out⟩
end Go.Proofs.Ytceljebpcfojeaa

/- Maps whose elements are ints, by their keys' kind: what is known of one in plain words. -/
import Derived.Test.YtceljebpcfojeaaMem
import Derived.Test.YtceljebpcfojeaaRows
import Derived.DeepKeys4
import Derived.WideKeyEntry
import Derived.Maps.Own
import Derived.Maps.OwnOps
import Derived.Maps.OwnSet
import Derived.Maps.Views
import Derived.Maps.RangeWalk
import Derived.RegionTactic
import Derived.OwnWalk
namespace Go.Proofs.Ytceljebpcfojeaa
open Go.RowKit Go.Maps Go.WideElems
open Go.WideMaps (KeyLaw)
set_option linter.unusedVariables false

section
variable {H : Type} {P : Program} {w W1 : World} {t k e : TypeId} {R : Value → Option (DataW H × List MemPlace)} {b st : Nat} {es : Array MapEntry} {clock : Nat} {v0 z key : Value} {kl : Lit}
/-- 'm[k] op= v' makes the entry first: as a store of what it held -/
theorem entry_put (K : KeyLaw P k) (ht : P.underlying t = some (.map k e)) (hz : ∀ u : World, (zeroValue e).run P u = .ok z u) (hb : w.heap[b]? = some (.map es clock)) (F : WideElems.Fit P k R es clock)
    (hkey : keyOf P k key = some kl) (hrun : (Instr.mapEntry t (.map (some b)) key).run P w = .ok (.tuple #[v0, goInt st]) W1) : (Instr.mapUpdate t (.map (some b)) key v0).run P w = .ok () W1 := by
  rcases K.find w hkey es.toList F.keys with ⟨f1, f2⟩ | ⟨j, x, f1, f2, f3⟩
  · simp [Instr.mapEntry, run_underlying ht, MapKept.run_getObj_map hb, K.check w false hkey, f1, hz, MapKept.run_setObj_map _ hb, Result.andThen] at hrun
    obtain ⟨⟨rfl, _⟩, rfl⟩ := hrun
    simp [Instr.mapUpdate, run_underlying ht, MapKept.run_getObj_map hb, K.check w false hkey, f1, MapKept.run_setObj_map _ hb, Result.andThen]
  · have g1 : es[j]? = some x := by simpa using f2
    have g2 : es.modify j (fun y => { y with key := key }) = es.modify j (fun y => { y with key := key, val := x.val }) := by
      apply Array.ext_getElem?
      intro i
      simp only [Array.getElem?_modify]
      split
      · rename_i h
        subst h
        rw [g1]
        simp
      · rfl
    simp [Instr.mapEntry, run_underlying ht, MapKept.run_getObj_map hb, K.check w false hkey, f1, g1, f3, K.stays w hkey, MapKept.run_setObj_map _ hb, Result.andThen] at hrun
    obtain ⟨⟨rfl, _⟩, rfl⟩ := hrun
    simp [Instr.mapUpdate, run_underlying ht, MapKept.run_getObj_map hb, K.check w false hkey, f1, g1, f3, K.stays w hkey, MapKept.run_setObj_map _ hb, Result.andThen, g2]
end

theorem laidOut : laidOutB Try.prog = true := by kernel_rfl
/-- a kind of keys -/
structure KK (κ : Type) where
  T : TypeId
  K : TypeId
  law : Keyed Try.prog K
  und : Try.prog.underlying T = some (.map K 3)
  kv : κ → Value
  kl : κ → Lit
  ok : κ → Prop
  kv_inj : ∀ a b, kv a = kv b → a = b
  key_ok : ∀ a, ok a → keyOf Try.prog K (kv a) = some (kl a)
  kl_key : ∀ a, WideAt.IsKeyLit (kl a)
theorem KK.inj {κ : Type} (kk : KK κ) {a b : κ} (ha : kk.ok a) (hb : kk.ok b) (h : kk.kl a = kk.kl b) : a = b := by
  have h1 := kk.key_ok a ha
  have h2 := kk.key_ok b hb
  rw [h] at h1
  exact kk.kv_inj _ _ (kk.law.inj h1 h2)

def okI (n : Int) : Prop := (Lit.int .i64 n).wf = true
theorem okI_of {n : Int} (h : -1000000000 ≤ n ∧ n ≤ 1000000000) : okI n := WalkArith.wf_i64 (by omega)
theorem zero3 (w : World) : (zeroValue 3).run Try.prog w = .ok (.int .i64 0) w := by kernel_rfl
def datI (k : Int) : DataW Unit := .lit (.int .i64 k)
def Ri (v : Value) : Option (DataW Unit × List MemPlace) := match v with
  | .int .i64 k => some (datI k, [])
  | _ => none
theorem Ri_mk (k : Int) : Ri (.int .i64 k) = some (datI k, []) := rfl
theorem Ri_inv {v : Value} {k : Int} {ps : List MemPlace} (h : Ri v = some (datI k, ps)) : v = .int .i64 k := by
  unfold Ri at h
  split at h
  · simp only [datI, Option.some.injEq, Prod.mk.injEq, DataW.lit.injEq, Lit.int.injEq, true_and] at h
    rw [h.1]
  · cases h

section
variable {κ : Type}
/-- the map's datum reads as the list l -/
structure MRel (kk : KK κ) (D : DataW Unit) (l : List (κ × Int)) : Prop where
  tidy : Tidy D
  has : ∀ z, Maps.has D z = true ↔ ∃ x ∈ l, kk.kl x.1 = z
  val : ∀ x ∈ l, ∀ z, D.atKey (kk.kl x.1) z = datI x.2
  size : Maps.size D = l.length
  apart : l.Pairwise (fun x y => x.1 ≠ y.1)
  low : ∀ x ∈ l, kk.ok x.1
def MapAt (kk : KK κ) (w : World) (b : Nat) (l : List (κ × Int)) : Prop := ∃ D : DataW Unit, w.ownsMap Try.prog kk.K Ri b l.length D ∧ MRel kk D l
theorem owns_size {P : Program} {k : TypeId} {w : World} {b n : Nat} {D : DataW Unit} (h : w.ownsMap P k Ri b n D) : w.ownsMap P k Ri b (Maps.size D) D := by
  obtain ⟨es, clock, hb, F, hs, hD⟩ := h
  refine ⟨es, clock, hb, F, ?_, hD⟩
  rw [hD]
  simp [Maps.size, length_sorted]
theorem map_new (kk : KK κ) (w : World) : MapAt kk (w.alloc (.map #[] 0)) w.heap.size [] :=
  ⟨.map [], World.ownsMap_made w _ _ _, ⟨tidy_empty, fun z => ⟨fun h => (by cases h), fun ⟨x, hx, _⟩ => (by cases hx)⟩, fun x hx => (by cases hx), rfl, List.Pairwise.nil, fun x hx => (by cases hx)⟩⟩
variable {kk : KK κ} {w : World} {b : Nat} {l : List (κ × Int)}
theorem MapAt.len (h : MapAt kk w b l) (ty : TypeId) : (Builtin.len_ #[kk.T] ty #[.map (some b)]).run Try.prog w = .ok (.int .i64 l.length) w := by
  obtain ⟨D, ho, hr⟩ := h
  rw [ho.len kk.und, hr.size]
theorem MapAt.kept {w' : World} {row : Option Nat} (h : MapAt kk w b l) (hg : w.grownBy w' row) (hne : some b ≠ row) : MapAt kk w' b l := by
  obtain ⟨D, ho, hr⟩ := h
  exact ⟨D, ho.kept hg hne, hr⟩
theorem MapAt.obj (h : MapAt kk w b l) : ∃ es c, w.heap[b]? = some (.map es c) := by
  obtain ⟨D, ⟨es, c, hb, _⟩, hr⟩ := h
  exact ⟨es, c, hb⟩
theorem MapAt.lt (h : MapAt kk w b l) : b < w.heap.size := by
  obtain ⟨es, c, hb⟩ := h.obj
  exact (Array.getElem?_eq_some_iff.1 hb).1
theorem MapAt.same {w' : World} (h : MapAt kk w b l) (hb : w'.heap[b]? = w.heap[b]?) : MapAt kk w' b l := by
  obtain ⟨D, ⟨es, c, hbb, rest⟩, hr⟩ := h
  exact ⟨D, ⟨es, c, hb.trans hbb, rest⟩, hr⟩
theorem MapAt.below {w' : World} {B : Nat} (h : MapAt kk w b l) (hb : Below B w w') (hB : b < B) : MapAt kk w' b l := h.same (hb.block b hB)
theorem MapAt.alloc (h : MapAt kk w b l) (o : Obj) : MapAt kk (w.alloc o) b l := h.same (Below.heap_alloc w o b h.lt)
theorem MapAt.apart (h : MapAt kk w b l) : l.Pairwise fun x y => x.1 ≠ y.1 := let ⟨_, _, hr⟩ := h; hr.apart
theorem MapAt.low (h : MapAt kk w b l) : ∀ x ∈ l, kk.ok x.1 := let ⟨_, _, hr⟩ := h; hr.low
end
section
variable {κ : Type} [DecidableEq κ]
def getL (l : List (κ × Int)) (k : κ) : Int := match l.find? (fun x => decide (x.1 = k)) with
  | none => 0
  | some x => x.2
def hasL (l : List (κ × Int)) (k : κ) : Bool := l.any (fun x => decide (x.1 = k))
def putL (l : List (κ × Int)) (k : κ) (v : Int) : List (κ × Int) := if hasL l k = true then l.map (fun x => if x.1 = k then (k, v) else x) else l ++ [(k, v)]
theorem hasL_iff {l : List (κ × Int)} {k : κ} : hasL l k = true ↔ ∃ x ∈ l, x.1 = k := by simp [hasL]
theorem hasL_no {l : List (κ × Int)} {k : κ} (h : ∀ x ∈ l, x.1 ≠ k) : hasL l k = false := by
  rw [← Bool.not_eq_true, hasL_iff]
  rintro ⟨x, hx, e⟩
  exact h x hx e
theorem getL_no {l : List (κ × Int)} {k : κ} (h : ∀ x ∈ l, x.1 ≠ k) : getL l k = 0 := by
  unfold getL
  rw [List.find?_eq_none.2 (by simpa using h)]
theorem getL_mem {l : List (κ × Int)} (hl : l.Pairwise fun x y => x.1 ≠ y.1) {x : κ × Int} (hx : x ∈ l) : getL l x.1 = x.2 := by
  induction l with
  | nil => cases hx
  | cons y l ih =>
    obtain ⟨h1, h2⟩ := List.pairwise_cons.1 hl
    rcases List.mem_cons.1 hx with rfl | hx
    · simp [getL]
    · have : y.1 ≠ x.1 := h1 x hx
      have e : getL (y :: l) x.1 = getL l x.1 := by simp [getL, this]
      rw [e, ih h2 hx]
theorem putL_mem {l : List (κ × Int)} {k : κ} {v : Int} {x : κ × Int} : x ∈ putL l k v ↔ x = (k, v) ∨ (x ∈ l ∧ x.1 ≠ k) := by
  unfold putL
  by_cases h : hasL l k = true
  · rw [if_pos h, List.mem_map]
    constructor
    · rintro ⟨y, hy, rfl⟩
      by_cases e : y.1 = k
      · left; simp [e]
      · right; simp [e, hy]
    · rintro (rfl | ⟨hx, hne⟩)
      · obtain ⟨y, hy, e⟩ := hasL_iff.1 h
        exact ⟨y, hy, by simp [e]⟩
      · exact ⟨x, hx, by simp [hne]⟩
  · rw [if_neg h]
    have hno : ∀ x ∈ l, x.1 ≠ k := fun x hx e => h (hasL_iff.2 ⟨x, hx, e⟩)
    simp only [List.mem_append, List.mem_singleton]
    constructor
    · rintro (hx | rfl)
      · exact .inr ⟨hx, hno x hx⟩
      · exact .inl rfl
    · rintro (rfl | ⟨hx, _⟩)
      · exact .inr rfl
      · exact .inl hx
theorem putL_length (l : List (κ × Int)) (k : κ) (v : Int) : (putL l k v).length = if hasL l k = true then l.length else l.length + 1 := by
  unfold putL
  by_cases h : hasL l k = true
  · rw [if_pos h, if_pos h, List.length_map]
  · rw [if_neg h, if_neg h]; simp
theorem putL_apart {l : List (κ × Int)} (hl : l.Pairwise fun x y => x.1 ≠ y.1) (k : κ) (v : Int) : (putL l k v).Pairwise fun x y => x.1 ≠ y.1 := by
  unfold putL
  by_cases h : hasL l k = true
  · rw [if_pos h, List.pairwise_map]
    refine hl.imp ?_
    intro x y hxy
    by_cases e1 : x.1 = k <;> by_cases e2 : y.1 = k <;> simp [e1, e2]
    · exact absurd (e1.trans e2.symm) hxy
    · exact fun e => e2 e.symm
    · exact hxy
  · rw [if_neg h, List.pairwise_append]
    refine ⟨hl, List.pairwise_singleton _ _, fun x hx y hy => ?_⟩
    rw [List.mem_singleton.1 hy]
    exact fun e => h (hasL_iff.2 ⟨x, hx, e⟩)
theorem putL_new {l : List (κ × Int)} {k : κ} (h : hasL l k = false) (v : Int) : putL l k v = l ++ [(k, v)] := by unfold putL; rw [if_neg (by rw [h]; decide)]

variable {kk : KK κ} {w : World} {b : Nat} {l : List (κ × Int)}
theorem MRel.yes {D : DataW Unit} (h : MRel kk D l) {k : κ} (hk : kk.ok k) : Maps.has D (kk.kl k) = hasL l k := by
  rw [Bool.eq_iff_iff, h.has, hasL_iff]
  constructor
  · rintro ⟨x, hx, e⟩
    exact ⟨x, hx, kk.inj (h.low x hx) hk e⟩
  · rintro ⟨x, hx, rfl⟩
    exact ⟨x, hx, rfl⟩
theorem MRel.at_ {D : DataW Unit} (h : MRel kk D l) {k : κ} (hk : kk.ok k) : D.atKey (kk.kl k) (datI 0) = datI (getL l k) := by
  by_cases hh : hasL l k = true
  · obtain ⟨x, hx, rfl⟩ := hasL_iff.1 hh
    rw [h.val x hx, getL_mem h.apart hx]
  · have hno : ∀ x ∈ l, x.1 ≠ k := fun x hx e => hh (hasL_iff.2 ⟨x, hx, e⟩)
    rw [atKey_of_not_has (by rw [h.yes hk]; simpa using hh), getL_no hno]
theorem MRel.put {D : DataW Unit} (hr : MRel kk D l) {k : κ} (hk : kk.ok k) (v : Int) : MRel kk (D.put (kk.kl k) (datI v)) (putL l k v) := by
  refine ⟨hr.tidy.put (kk.kl_key k) _, fun z => ?_, fun x hx z => ?_, ?_, putL_apart hr.apart k v, fun x hx => ?_⟩
  · by_cases hz : z = kk.kl k
    · subst hz
      rw [has_put_same hr.tidy.isMap (kk.kl_key k)]
      exact ⟨fun _ => ⟨(k, v), putL_mem.2 (.inl rfl), rfl⟩, fun _ => rfl⟩
    · rw [has_put_other hz, hr.has z]
      constructor
      · rintro ⟨x, hx, e⟩
        exact ⟨x, putL_mem.2 (.inr ⟨hx, fun e' => hz (by rw [← e, e'])⟩), e⟩
      · rintro ⟨x, hx, e⟩
        rcases putL_mem.1 hx with rfl | ⟨hx, _⟩
        · exact absurd e.symm hz
        · exact ⟨x, hx, e⟩
  · rcases putL_mem.1 hx with rfl | ⟨hx, hne⟩
    · exact atKey_put_same hr.tidy.isMap (kk.kl_key k) _ _
    · rw [atKey_put_other (fun e => hne (kk.inj (hr.low x hx) hk e)), hr.val x hx]
  · rw [size_put hr.tidy, hr.yes hk, hr.size, putL_length]
  · rcases putL_mem.1 hx with rfl | ⟨hx, _⟩
    · exact hk
    · exact hr.low x hx
theorem MapAt.look (h : MapAt kk w b l) {k : κ} (hk : kk.ok k) : (Instr.lookup kk.T (.map (some b)) (kk.kv k) false).run Try.prog w = .ok (.int .i64 (getL l k)) w := by
  obtain ⟨D, ho, hr⟩ := h
  obtain ⟨v, ps, hrun, hv⟩ := ho.lookup (zd := datI 0) kk.law kk.und (zero3 w) (Ri_mk 0) (kk.key_ok k hk)
  rw [hr.at_ hk] at hv
  rw [hrun, Ri_inv hv]
theorem MapAt.look_ok (h : MapAt kk w b l) {k : κ} (hk : kk.ok k) : (Instr.lookup kk.T (.map (some b)) (kk.kv k) true).run Try.prog w = .ok (.tuple #[.int .i64 (getL l k), .bool (hasL l k)]) w := by
  obtain ⟨D, ho, hr⟩ := h
  obtain ⟨v, ps, hrun, hv⟩ := ho.look_ok (zd := datI 0) kk.law kk.und (zero3 w) (Ri_mk 0) (kk.key_ok k hk)
  rw [hr.at_ hk] at hv
  rw [hrun, Ri_inv hv, hr.yes hk]
theorem MapAt.put (h : MapAt kk w b l) {k : κ} (hk : kk.ok k) (hl : l.length < maxLen) (v : Int) :
    ∃ w', (Instr.mapUpdate kk.T (.map (some b)) (kk.kv k) (.int .i64 v)).run Try.prog w = .ok () w' ∧ MapAt kk w' b (putL l k v) ∧ w.grownBy w' (some b) := by
  obtain ⟨D, ho, hr⟩ := h
  obtain ⟨w', hrun, ho', hg⟩ := ho.update kk.law kk.und hl (kk.key_ok k hk) (Ri_mk v)
  have hr' := hr.put hk v
  exact ⟨w', hrun, ⟨_, by rw [← hr'.size]; exact owns_size ho', hr'⟩, hg⟩
theorem MapAt.entry (KL : KeyLaw Try.prog kk.K) (h : MapAt kk w b l) {k : κ} (hk : kk.ok k) (hl : l.length < maxLen) :
    ∃ (st : Nat) (W1 : World), (Instr.mapEntry kk.T (.map (some b)) (kk.kv k)).run Try.prog w = .ok (.tuple #[.int .i64 (getL l k), .int .i64 st]) W1 ∧
      (Instr.lookup kk.T (.map (some b)) (kk.kv k) false).run Try.prog W1 = .ok (.int .i64 (getL l k)) W1 ∧ (∀ j, j ≠ b → W1.heap[j]? = w.heap[j]?) ∧
      ∀ v : Int, ∃ W3, (Instr.entryStore kk.T (.map (some b)) (.int .i64 st) (.int .i64 v)).run Try.prog W1 = .ok () W3 ∧ MapAt kk W3 b (putL l k v) ∧ w.grownBy W3 (some b) := by
  have hlook := h.look hk
  have hput := fun v => h.put hk hl v
  have hbig := h.put hk hl (getL l k)
  obtain ⟨D, ⟨es, clock, hb, F, hs, hD⟩, hr⟩ := h
  obtain ⟨v0, st, es1, clock1, hE, hcase, hS⟩ := entry_then_store (P := Try.prog) (w := w) KL kk.und zero3 hb F (kk.key_ok k hk)
  have hv0 : v0 = .int .i64 (getL l k) := by
    rcases Maps.fit_look false kk.law kk.und (zero3 w) hb F (kk.key_ok k hk) with ⟨hrun, hno, hat⟩ | ⟨e0, y, h1, h2, hrun, _, _, _⟩
    · rw [hlook] at hrun
      injection hrun with e1 _
      replace e1 : Value.int IntKind.i64 (getL l k) = Value.int IntKind.i64 0 := e1
      rcases hcase with ⟨x, hx, hx1, hx2⟩ | ⟨_, hz⟩
      · exact absurd hx1 (hno x hx)
      · rw [hz, e1]
    · rw [hlook] at hrun
      injection hrun with e1 _
      replace e1 : Value.int IntKind.i64 (getL l k) = e0.val := e1
      rcases hcase with ⟨x, hx, hx1, hx2⟩ | ⟨hno, _⟩
      · have : x = e0 := entry_eq_of_key (l := es.toList) (by have := F.stamped.2.2; simpa only [List.Nodup, List.pairwise_map] using this) hx h1 (hx1.trans h2.symm)
        rw [hx2, this, e1]
      · exact absurd h2 (hno e0 h1)
  subst hv0
  have hp := entry_put KL kk.und zero3 hb F (kk.key_ok k hk) hE
  obtain ⟨W1', hrun1, hm1, hg1⟩ := hbig
  rw [hp] at hrun1
  injection hrun1 with _ hW
  subst hW
  have hl1 := hm1.look hk
  have hge : getL (putL l k (getL l k)) k = getL l k := by
    have : ((k, getL l k) : κ × Int) ∈ putL l k (getL l k) := putL_mem.2 (.inl rfl)
    exact getL_mem (putL_apart hr.apart k _) this
  rw [hge] at hl1
  refine ⟨st, _, hE, hl1, fun j hj => by simp [ChangeMaps.setBlock, Ne.symm hj], fun v => ?_⟩
  obtain ⟨es', clock', hs1, hs2⟩ := hS (ChangeMaps.setBlock w b (.map es1 clock1)) (.int .i64 v) (by
    have := (Array.getElem?_eq_some_iff.1 hb).1
    simp [ChangeMaps.setBlock, this])
  obtain ⟨W3, hrun3, hm3, hg3⟩ := hput v
  rw [hs2] at hrun3
  injection hrun3 with _ hW
  subst hW
  exact ⟨_, hs1, by simpa [ChangeMaps.setBlock] using hm3, by simpa [ChangeMaps.setBlock] using hg3⟩
end
end Go.Proofs.Ytceljebpcfojeaa

/- The plain laws of places: what is counted; good projections; tails. -/
import Derived.Test.YtceljebpcfojeaaMapR
namespace Go.Proofs.Ytceljebpcfojeaa
set_option linter.unusedVariables false

section
variable {κ : Type} [DecidableEq κ]
/-- how often each stands -/
def incL (m : List (κ × Int)) (k : κ) : List (κ × Int) := putL m k (getL m k + 1)
def cntL (l : List κ) : List (κ × Int) := l.foldl incL []
theorem cntL_snoc (l : List κ) (k : κ) : cntL (l ++ [k]) = putL (cntL l) k (getL (cntL l) k + 1) := by simp [cntL, incL, List.foldl_append]
theorem getL_put (l : List (κ × Int)) (hl : l.Pairwise fun x y => x.1 ≠ y.1) (k j : κ) (v : Int) : getL (putL l k v) j = if j = k then v else getL l j := by
  by_cases h : j = k
  · subst h
    rw [if_pos rfl]
    exact getL_mem (putL_apart hl j v) (x := (j, v)) (putL_mem.2 (.inl rfl))
  · rw [if_neg h]
    by_cases hh : hasL l j = true
    · obtain ⟨x, hx, rfl⟩ := hasL_iff.1 hh
      rw [getL_mem hl hx]
      exact getL_mem (putL_apart hl k v) (putL_mem.2 (.inr ⟨hx, h⟩))
    · have hno : ∀ x ∈ l, x.1 ≠ j := fun x hx e => hh (hasL_iff.2 ⟨x, hx, e⟩)
      rw [getL_no hno, getL_no]
      intro x hx
      rcases putL_mem.1 hx with rfl | ⟨hx, _⟩
      · exact fun e => h e.symm
      · exact hno x hx
theorem cntL_ok (l : List κ) : (cntL l).Pairwise (fun x y => x.1 ≠ y.1) ∧ (∀ k, getL (cntL l) k = (l.count k : Nat)) ∧ (∀ x ∈ cntL l, x.1 ∈ l) ∧ (∀ k ∈ l, hasL (cntL l) k = true) ∧ (cntL l).length ≤ l.length := by
  have h : ∀ n, n ≤ l.length → (cntL (l.take n)).Pairwise (fun x y => x.1 ≠ y.1) ∧ (∀ k, getL (cntL (l.take n)) k = ((l.take n).count k : Nat)) ∧ (∀ x ∈ cntL (l.take n), x.1 ∈ l.take n) ∧ (∀ k ∈ l.take n, hasL (cntL (l.take n)) k = true) ∧ (cntL (l.take n)).length ≤ n := by
    intro n
    induction n with
    | zero => intro _; simp [cntL, getL]
    | succ n ih =>
      intro hn
      obtain ⟨h1, h2, h3, h4, h5⟩ := ih (by omega)
      have e : l.take (n + 1) = l.take n ++ [l[n]] := by rw [List.take_succ_eq_append_getElem (by omega)]
      rw [e, cntL_snoc]
      refine ⟨putL_apart h1 _ _, fun k => ?_, fun x hx => ?_, fun k hk => ?_, ?_⟩
      · rw [getL_put _ h1, List.count_append, h2]
        by_cases hk : k = l[n]
        · subst hk; simp
        · rw [if_neg hk, h2]
          have : List.count k [l[n]] = 0 := by
            rw [List.count_eq_zero]; simpa using hk
          rw [this]; simp
      · rcases putL_mem.1 hx with rfl | ⟨hx, _⟩
        · exact List.mem_append_right _ (List.mem_singleton.2 rfl)
        · exact List.mem_append_left _ (h3 x hx)
      · rcases List.mem_append.1 hk with hk | hk
        · obtain ⟨x, hx, rfl⟩ := hasL_iff.1 (h4 k hk)
          by_cases hx1 : x.1 = l[n]
          · exact hasL_iff.2 ⟨(l[n], _), putL_mem.2 (.inl rfl), hx1.symm⟩
          · exact hasL_iff.2 ⟨x, putL_mem.2 (.inr ⟨hx, hx1⟩), rfl⟩
        · have : k = l[n] := by simpa using hk
          subst this
          exact hasL_iff.2 ⟨(l[n], _), putL_mem.2 (.inl rfl), rfl⟩
      · rw [putL_length]
        split <;> omega
  have := h l.length (Nat.le_refl _)
  rwa [List.take_length] at this
end

/-- is a projection good? -/
def goodC (cs : List (List Int)) : Bool := cs.all fun c => decide (1 ≤ c.length ∧ c.length ≤ 4)
def goodU (l : List Int) : Bool := l.all (fun u => decide (0 ≤ u ∧ u < 16)) && decide l.Nodup
def goodP (ep : Int) (cs : List (List Int)) : Bool := decide (0 ≤ ep ∧ ep ≤ 2147483647 ∧ 1 ≤ cs.length ∧ cs.length ≤ 4) && (goodC cs && goodU cs.flatten)

theorem nodup_count (l : List Int) : l.Nodup ↔ ∀ u ∈ l, l.count u ≤ 1 := by
  constructor
  · intro h u _
    induction l with
    | nil => simp
    | cons a l ih =>
      rw [List.nodup_cons] at h
      have h1 := ih h.2
      by_cases e : a = u
      · subst e
        have h2 := List.count_eq_zero.2 h.1
        simp [h2]
      · have h2 : List.count u (a :: l) = List.count u l := by rw [List.count_cons]; simp [e]
        rw [h2]
        by_cases hu : u ∈ l
        · exact h1 hu
        · rw [List.count_eq_zero.2 hu]; omega
  · intro h
    induction l with
    | nil => simp
    | cons a l ih =>
      rw [List.nodup_cons]
      constructor
      · intro ha
        have h1 := h a (by simp)
        have h2 := List.count_pos_iff.2 ha
        simp at h1
        omega
      · refine ih fun u hu => ?_
        have h1 := h u (by simp [hu])
        have h2 := List.count_le_count_cons (a := u) (b := a) (l := l)
        omega
/-- one entry of what was met is as it must be -/
def okE (x : Int × Int) : Prop := 0 ≤ x.1 ∧ x.1 < 16 ∧ x.2 ≤ 1
theorem goodU_yes {l : List Int} (h : ∀ x ∈ cntL l, okE x) : goodU l = true := by
  obtain ⟨h1, h2, h3, h4, h5⟩ := cntL_ok l
  unfold goodU
  rw [Bool.and_eq_true]
  constructor
  · rw [List.all_eq_true]
    intro u hu
    obtain ⟨x, hx, rfl⟩ := hasL_iff.1 (h4 u hu)
    obtain ⟨a, b, _⟩ := h x hx
    simp [a, b]
  · rw [decide_eq_true_iff, nodup_count]
    intro u hu
    obtain ⟨x, hx, rfl⟩ := hasL_iff.1 (h4 u hu)
    have := (h x hx).2.2
    have e := h2 x.1
    rw [getL_mem h1 hx] at e
    omega
theorem goodU_no {l : List Int} {x : Int × Int} (hx : x ∈ cntL l) (h : ¬ okE x) : goodU l = false := by
  obtain ⟨h1, h2, h3, h4, h5⟩ := cntL_ok l
  rw [← Bool.not_eq_true]
  intro hg
  unfold goodU at hg
  rw [Bool.and_eq_true, List.all_eq_true, decide_eq_true_iff, nodup_count] at hg
  apply h
  have hm := h3 x hx
  have a := hg.1 x.1 hm
  have b := hg.2 x.1 hm
  have e := h2 x.1
  rw [getL_mem h1 hx] at e
  simp only [decide_eq_true_iff] at a
  exact ⟨a.1, a.2, by omega⟩

/-- the reference's list of units: rising, each once -/
def below (u : Int) (l : List Int) : Nat := (l.takeWhile fun x => decide (x < u)).length
def insU (l : List Int) (u : Int) : List Int := if u ∈ l then l else l.take (below u l) ++ [u] ++ l.drop (below u l)
def unitsL (l : List Int) : List Int := l.foldl insU []
theorem unitsL_snoc (l : List Int) (u : Int) : unitsL (l ++ [u]) = insU (unitsL l) u := by simp [unitsL, List.foldl_append]
theorem insU_mem (l : List Int) (u v : Int) : v ∈ insU l u ↔ v = u ∨ v ∈ l := by
  unfold insU
  by_cases h : u ∈ l
  · rw [if_pos h]
    exact ⟨.inr, fun e => e.elim (fun e => e ▸ h) id⟩
  · rw [if_neg h]
    have : v ∈ l ↔ v ∈ l.take (below u l) ∨ v ∈ l.drop (below u l) := by rw [← List.mem_append, List.take_append_drop]
    rw [this]
    simp only [List.mem_append, List.mem_singleton]
    constructor
    · rintro ((h | h) | h)
      · exact .inr (.inl h)
      · exact .inl h
      · exact .inr (.inr h)
    · rintro (h | h | h)
      · exact .inl (.inr h)
      · exact .inl (.inl h)
      · exact .inr h
theorem insU_length (l : List Int) (u : Int) : (insU l u).length = if u ∈ l then l.length else l.length + 1 := by
  unfold insU
  by_cases h : u ∈ l
  · rw [if_pos h, if_pos h]
  · rw [if_neg h, if_neg h]
    simp only [List.length_append, List.length_take, List.length_drop, List.length_singleton]
    have : below u l ≤ l.length := by unfold below; exact (List.takeWhile_sublist _).length_le
    omega
theorem takeWhile_at (u : Int) (l : List Int) : (∀ x ∈ l.take (below u l), x < u) ∧ (∀ x, l[below u l]? = some x → u ≤ x) := by
  unfold below
  induction l with
  | nil => simp
  | cons a l ih =>
    by_cases h : a < u
    · have e : (a :: l).takeWhile (fun x => decide (x < u)) = a :: l.takeWhile (fun x => decide (x < u)) := by simp [h]
      rw [e]
      simp only [List.length_cons, List.take_succ_cons, List.getElem?_cons_succ]
      refine ⟨fun x hx => ?_, ih.2⟩
      rcases List.mem_cons.1 hx with rfl | hx
      · exact h
      · exact ih.1 x hx
    · have e : (a :: l).takeWhile (fun x => decide (x < u)) = [] := by simp [h]
      rw [e]
      simp
      omega
theorem insU_sorted {l : List Int} (hl : l.Pairwise (· < ·)) (u : Int) : (insU l u).Pairwise (· < ·) := by
  unfold insU
  by_cases h : u ∈ l
  · rwa [if_pos h]
  · rw [if_neg h]
    obtain ⟨h1, h2⟩ := takeWhile_at u l
    have hd : ∀ x ∈ l.drop (below u l), u < x := by
      intro x hx
      rcases Nat.lt_or_ge (below u l) l.length with hlt | hge
      · have h3 := h2 _ (List.getElem?_eq_getElem hlt)
        have hne : l[below u l] ≠ u := fun e => h (e ▸ List.getElem_mem hlt)
        rw [List.drop_eq_getElem_cons hlt] at hx
        have hp := hl.sublist (List.drop_sublist (below u l) l)
        rw [List.drop_eq_getElem_cons hlt, List.pairwise_cons] at hp
        rcases List.mem_cons.1 hx with rfl | hx
        · omega
        · have := hp.1 x hx
          omega
      · rw [List.drop_eq_nil_of_le hge] at hx
        cases hx
    have hp := hl
    rw [← List.take_append_drop (below u l) l, List.pairwise_append] at hp
    rw [List.append_assoc, List.pairwise_append]
    refine ⟨hp.1, ?_, ?_⟩
    · simp only [List.singleton_append, List.pairwise_cons]
      exact ⟨hd, hp.2.1⟩
    · intro x hx y hy
      simp only [List.singleton_append, List.mem_cons] at hy
      rcases hy with rfl | hy
      · exact h1 x hx
      · exact hp.2.2 x hx y hy
/-- in a rising list a number stands where the lesser ones end, or nowhere -/
theorem at_below {l : List Int} (hl : l.Pairwise (· < ·)) (u : Int) : u ∈ l ↔ l[below u l]? = some u := by
  constructor
  · intro h
    obtain ⟨h1, h2⟩ := takeWhile_at u l
    rw [← List.take_append_drop (below u l) l, List.mem_append] at h
    rcases h with h | h
    · have := h1 u h
      omega
    · rcases Nat.lt_or_ge (below u l) l.length with hlt | hge
      · have h3 := h2 _ (List.getElem?_eq_getElem hlt)
        have hp := hl.sublist (List.drop_sublist (below u l) l)
        rw [List.drop_eq_getElem_cons hlt] at h hp
        rw [List.pairwise_cons] at hp
        rcases List.mem_cons.1 h with e | h
        · rw [List.getElem?_eq_getElem hlt, ← e]
        · have := hp.1 u h
          omega
      · rw [List.drop_eq_nil_of_le hge] at h
        cases h
  · intro h
    exact List.mem_of_getElem? h
theorem unitsL_ok (l : List Int) : (unitsL l).Pairwise (· < ·) ∧ (∀ u, u ∈ unitsL l ↔ u ∈ l) ∧ (unitsL l).length ≤ l.length ∧ ((unitsL l).length = l.length ↔ l.Nodup) := by
  have h : ∀ n, n ≤ l.length → (unitsL (l.take n)).Pairwise (· < ·) ∧ (∀ u, u ∈ unitsL (l.take n) ↔ u ∈ l.take n) ∧ (unitsL (l.take n)).length ≤ n ∧ ((unitsL (l.take n)).length = n ↔ (l.take n).Nodup) := by
    intro n
    induction n with
    | zero => intro _; simp [unitsL]
    | succ n ih =>
      intro hn
      obtain ⟨h1, h2, h3, h4⟩ := ih (by omega)
      have e : l.take (n + 1) = l.take n ++ [l[n]] := by rw [List.take_succ_eq_append_getElem (by omega)]
      rw [e, unitsL_snoc]
      refine ⟨insU_sorted h1 _, fun u => ?_, ?_, ?_⟩
      · rw [insU_mem, h2, List.mem_append, List.mem_singleton, or_comm]
      · rw [insU_length]
        split <;> omega
      · rw [insU_length]
        by_cases hm : l[n] ∈ unitsL (l.take n)
        · rw [if_pos hm]
          have hm' := (h2 _).1 hm
          constructor
          · intro e; omega
          · intro hnd
            rw [List.nodup_append] at hnd
            exact absurd rfl (hnd.2.2 _ hm' _ (by simp))
        · rw [if_neg hm]
          have hm' : l[n] ∉ l.take n := fun h => hm ((h2 _).2 h)
          constructor
          · intro e
            rw [List.nodup_append]
            refine ⟨h4.1 (by omega), by simp, fun a ha b hb => ?_⟩
            rw [List.mem_singleton.1 hb]
            rintro rfl
            exact hm' ha
          · intro hnd
            have := h4.2 (List.nodup_append.1 hnd).1
            omega
  have := h l.length (Nat.le_refl _)
  rwa [List.take_length] at this
theorem unitsL_below {l : List Int} (u : Int) : (u ∈ unitsL l ↔ (unitsL l)[below u (unitsL l)]? = some u) := at_below (unitsL_ok l).1 u

/-- how many pages a unit has, cut to what can be -/
def cut (n : Int) : Int := min (max n 0) 4096
/-- the places behind which units have no page -/
def spotsC (i : Int) (m : List (Int × Int)) (c : List Int) : List (Int × Int) := (c.filter fun u => hasL m u).map fun u => (i, cut (getL m u))
def spotsF (m : List (Int × Int)) : Nat → List (List Int) → List (Int × Int)
  | _, [] => []
  | i, c :: r => spotsC i m c ++ spotsF m (i + 1) r
def spots (m : List (Int × Int)) (cs : List (List Int)) : List (Int × Int) := spotsF m 0 cs
theorem spotsF_snoc (m : List (Int × Int)) (cs : List (List Int)) (c : List Int) : ∀ i, spotsF m i (cs ++ [c]) = spotsF m i cs ++ spotsC ((i + cs.length : Nat) : Int) m c := by
  induction cs with
  | nil => intro i; simp [spotsF]
  | cons d cs ih =>
    intro i
    rw [List.cons_append, spotsF, spotsF, ih, List.append_assoc, List.length_cons]
    congr 4
    omega
theorem spots_take (m : List (Int × Int)) (cs : List (List Int)) (i : Nat) (c : List Int) (h : cs[i]? = some c) : spots m (cs.take (i + 1)) = spots m (cs.take i) ++ spotsC i m c := by
  have hi : i < cs.length := (List.getElem?_eq_some_iff.1 h).1
  have e : cs.take (i + 1) = cs.take i ++ [c] := by
    rw [List.take_add_one, h]
    rfl
  unfold spots
  rw [e, spotsF_snoc, List.length_take, Nat.min_eq_left (by omega), Nat.zero_add]
theorem spotsC_take (i : Int) (m : List (Int × Int)) (c : List Int) (k : Nat) (u : Int) (h : c[k]? = some u) : spotsC i m (c.take (k + 1)) = spotsC i m (c.take k) ++ if hasL m u = true then [(i, cut (getL m u))] else [] := by
  unfold spotsC
  rw [List.take_add_one, h, List.filter_append, List.map_append]
  by_cases hh : hasL m u = true <;> simp [hh]
theorem cut_range (n : Int) : 0 ≤ cut n ∧ cut n ≤ 4096 := by unfold cut; omega
theorem spotsF_mem (m : List (Int × Int)) (cs : List (List Int)) : ∀ i, ∀ s ∈ spotsF m i cs, (i : Int) ≤ s.1 ∧ s.1 < i + cs.length ∧ 0 ≤ s.2 ∧ s.2 ≤ 4096 := by
  induction cs with
  | nil => intro i s hs; cases hs
  | cons c cs ih =>
    intro i s hs
    rw [spotsF, List.mem_append] at hs
    rcases hs with hs | hs
    · unfold spotsC at hs
      obtain ⟨u, _, rfl⟩ := List.mem_map.1 hs
      have := cut_range (getL m u)
      simp only [List.length_cons]
      omega
    · have := ih (i + 1) s hs
      simp only [List.length_cons]
      omega
theorem spots_mem {m : List (Int × Int)} {cs : List (List Int)} {s : Int × Int} (hs : s ∈ spots m cs) : 0 ≤ s.1 ∧ s.1 < cs.length ∧ 0 ≤ s.2 ∧ s.2 ≤ 4096 := by
  have := spotsF_mem m cs 0 s hs
  omega
/-- t is the least address above all of the places' -/
structure IsTail (n : Int) (ss : List (Int × Int)) (t : Int) : Prop where
  up : ∀ s ∈ ss, 0 < s.2 → (s.2 - 1) * n + s.1 + 1 ≤ t
  at_ : t = 0 ∨ ∃ s ∈ ss, 0 < s.2 ∧ t = (s.2 - 1) * n + s.1 + 1
  pos : 0 ≤ t
theorem IsTail.eq {n : Int} {ss ss' : List (Int × Int)} {t t' : Int} (h : IsTail n ss t) (h' : IsTail n ss' t') (he : ∀ s, s ∈ ss ↔ s ∈ ss') : t = t' := by
  have a : t ≤ t' := by
    rcases h.at_ with rfl | ⟨s, hs, h0, rfl⟩
    · exact h'.pos
    · exact h'.up s ((he s).1 hs) h0
  have b : t' ≤ t := by
    rcases h'.at_ with rfl | ⟨s, hs, h0, rfl⟩
    · exact h.pos
    · exact h.up s ((he s).2 hs) h0
  omega
end Go.Proofs.Ytceljebpcfojeaa

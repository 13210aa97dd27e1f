/- Plain facts of the middle of a falling list. No program is named here. -/
import Derived.Test.YtinkbiinbfbjgaaDBase
namespace Go.Proofs.Ytinkbiinbfbjgaa
set_option linter.unusedVariables false

/-- How many of some are a number at least. -/
def cntGe (zs : List Int) (x : Int) : Nat := (zs.filter fun y => decide (x ≤ y)).length
theorem cntGe_cons (y : Int) (zs : List Int) (x : Int) : cntGe (y :: zs) x = (if x ≤ y then 1 else 0) + cntGe zs x := by
  unfold cntGe
  rw [List.filter_cons]
  by_cases h : x ≤ y <;> simp [h] <;> omega
theorem cntGe_perm {a b : List Int} (h : a.Perm b) (x : Int) : cntGe a x = cntGe b x := by
  unfold cntGe
  exact (h.filter _).length_eq
theorem cntGe_snoc (zs : List Int) (y x : Int) : cntGe (zs ++ [y]) x = cntGe zs x + (if x ≤ y then 1 else 0) := by
  unfold cntGe
  rw [List.filter_append]
  by_cases h : x ≤ y <;> simp [h]
theorem cntGe_le (zs : List Int) (x : Int) : cntGe zs x ≤ zs.length := List.length_filter_le _ _
theorem cntGe_none {zs : List Int} {x : Int} (h : ∀ y ∈ zs, y < x) : cntGe zs x = 0 := by
  unfold cntGe
  rw [List.length_eq_zero_iff, List.filter_eq_nil_iff]
  intro y hy
  have := h y hy
  simp; omega
theorem fall_iff : ∀ {l : List Int}, l.Pairwise (fun a b => b ≤ a) → ∀ (m : Nat) (hm : m < l.length) (x : Int), x ≤ l[m] ↔ m < cntGe l x
  | [], _, m, hm, _ => absurd hm (by simp)
  | y :: r, h, 0, _, x => by
    rw [List.getElem_cons_zero, cntGe_cons]
    have hr := (List.pairwise_cons.1 h).1
    constructor
    · intro hx; rw [if_pos hx]; omega
    · intro hx
      by_cases hxy : x ≤ y
      · exact hxy
      · rw [if_neg hxy, Nat.zero_add, cntGe_none (fun z hz => by have := hr z hz; omega)] at hx
        omega
  | y :: r, h, m + 1, hm, x => by
    have hr := (List.pairwise_cons.1 h).1
    have ih := fall_iff (List.pairwise_cons.1 h).2 m (by simpa using hm) x
    rw [List.getElem_cons_succ, cntGe_cons, ih]
    by_cases hxy : x ≤ y
    · rw [if_pos hxy]; omega
    · rw [if_neg hxy, cntGe_none (fun z hz => by have := hr z hz; omega)]
      omega

/-- Some numbers, falling. -/
def fallL (zs : List Int) : List Int := (zs.mergeSort fun x y => decide (x ≤ y)).reverse
theorem fallL_perm (zs : List Int) : (fallL zs).Perm zs := (List.reverse_perm _).trans (List.mergeSort_perm _ _)
theorem fallL_len (zs : List Int) : (fallL zs).length = zs.length := (fallL_perm zs).length_eq
theorem fallL_fall (zs : List Int) : (fallL zs).Pairwise (fun a b => b ≤ a) := by
  unfold fallL
  rw [List.pairwise_reverse]
  have h := List.pairwise_mergeSort (le := fun x y : Int => decide (x ≤ y)) (fun a b c h1 h2 => by simp at h1 h2 ⊢; omega) (fun a b => by simp; omega) zs
  exact h.imp fun h => by simpa using h

/-- The middle one of them; 0 of none. -/
def med (zs : List Int) : Int := (fallL zs).getD (zs.length / 2) 0
theorem med_nil : med [] = 0 := by simp [med, fallL]
theorem med_iff {zs : List Int} (h : 0 < zs.length) (x : Int) : x ≤ med zs ↔ zs.length < 2 * cntGe zs x := by
  have hm : zs.length / 2 < (fallL zs).length := by rw [fallL_len]; omega
  have e : med zs = (fallL zs)[zs.length / 2] := by simp [med, hm]
  rw [e, fall_iff (fallL_fall zs) _ hm, cntGe_perm (fallL_perm zs)]
  omega
theorem med_mem {zs : List Int} (h : 0 < zs.length) : med zs ∈ zs := by
  have hm : zs.length / 2 < (fallL zs).length := by rw [fallL_len]; omega
  have e : med zs = (fallL zs)[zs.length / 2] := by simp [med, hm]
  rw [e]
  exact (fallL_perm zs).mem_iff.1 (List.getElem_mem hm)
theorem med_eq {zs ys : List Int} (hl : zs.length = ys.length) (h : ∀ x, cntGe zs x = cntGe ys x) : med zs = med ys := by
  rcases Nat.eq_zero_or_pos zs.length with h0 | h0
  · have e1 : zs = [] := List.length_eq_zero_iff.1 h0
    have e2 : ys = [] := List.length_eq_zero_iff.1 (by omega)
    rw [e1, e2]
  · have a1 := (med_iff (zs := ys) (by omega) (med zs)).2 (by rw [← hl, ← h]; exact (med_iff h0 _).1 (Int.le_refl _))
    have a2 := (med_iff h0 (med ys)).2 (by rw [hl, h]; exact (med_iff (by omega) _).1 (Int.le_refl _))
    omega

/-- What a voter has: 0 of one that is no node. -/
def valOf (f : Nat → Int) (n : Int) : Int := if 0 ≤ n ∧ n < 8 then f n.toNat else 0
def vals (f : Nat → Int) (v : List Int) : List Int := v.map (valOf f)
theorem vals_len (f : Nat → Int) (v : List Int) : (vals f v).length = v.length := by simp [vals]

/-- The reference's search. -/
def bestS (f : Nat → Int) (v : List Int) (b : Int) (i : Nat) : Int := if (i : Int) ∈ v ∧ b < f i ∧ v.length < 2 * cntGe (vals f v) (f i) then f i else b
def bestTo (f : Nat → Int) (v : List Int) : Nat → Int
  | 0 => 0
  | i + 1 => bestS f v (bestTo f v i) i
theorem bestTo_spec (f : Nat → Int) (v : List Int) : ∀ k, 0 ≤ bestTo f v k ∧ (bestTo f v k = 0 ∨ v.length < 2 * cntGe (vals f v) (bestTo f v k)) ∧ ∀ i, i < k → (i : Int) ∈ v → v.length < 2 * cntGe (vals f v) (f i) → f i ≤ bestTo f v k
  | 0 => ⟨Int.le_refl _, .inl rfl, fun i hi => absurd hi (by omega)⟩
  | k + 1 => by
    obtain ⟨h1, h2, h3⟩ := bestTo_spec f v k
    by_cases hc : (k : Int) ∈ v ∧ bestTo f v k < f k ∧ v.length < 2 * cntGe (vals f v) (f k)
    · have e : bestTo f v (k + 1) = f k := by show bestS _ _ _ _ = _; unfold bestS; rw [if_pos hc]
      rw [e]
      refine ⟨by omega, .inr hc.2.2, fun i hi hm hl => ?_⟩
      rcases Nat.lt_or_ge i k with hik | hik
      · have := h3 i hik hm hl; omega
      · have : i = k := by omega
        subst this; exact Int.le_refl _
    · have e : bestTo f v (k + 1) = bestTo f v k := by show bestS _ _ _ _ = _; unfold bestS; rw [if_neg hc]
      rw [e]
      refine ⟨h1, h2, fun i hi hm hl => ?_⟩
      rcases Nat.lt_or_ge i k with hik | hik
      · exact h3 i hik hm hl
      · have : i = k := by omega
        subst this
        rcases Int.lt_or_le (bestTo f v i) (f i) with h | h
        · exact absurd ⟨hm, h, hl⟩ hc
        · exact h
theorem best_med (f : Nat → Int) (v : List Int) (hf : ∀ i, i < 8 → 0 ≤ f i) : bestTo f v 8 = med (vals f v) := by
  obtain ⟨h1, h2, h3⟩ := bestTo_spec f v 8
  rcases Nat.eq_zero_or_pos v.length with h0 | h0
  · have : v = [] := List.length_eq_zero_iff.1 h0
    subst this
    rw [show vals f [] = [] from rfl, med_nil]
    rcases h2 with h2 | h2
    · exact h2
    · simp [vals, cntGe] at h2
  · have hp : 0 < (vals f v).length := by rw [vals_len]; exact h0
    have mi := med_iff hp
    rw [vals_len] at mi
    have hmem := med_mem hp
    have hnn : ∀ x ∈ vals f v, 0 ≤ x := by
      intro x hx
      obtain ⟨n, _, rfl⟩ := List.mem_map.1 hx
      unfold valOf
      split
      · rename_i h; exact hf _ (by omega)
      · exact Int.le_refl _
    have le1 : med (vals f v) ≤ bestTo f v 8 := by
      obtain ⟨n, hn, hv⟩ := List.mem_map.1 hmem
      unfold valOf at hv
      split at hv
      · rename_i h
        have := h3 n.toNat (by omega) (by rw [Int.toNat_of_nonneg h.1]; exact hn) (by rw [hv]; exact (mi _).1 (Int.le_refl _))
        omega
      · omega
    have le2 : bestTo f v 8 ≤ med (vals f v) := by
      rcases h2 with h2 | h2
      · have := hnn _ hmem; omega
      · exact (mi _).2 h2
    omega

/-- Who gets further never makes it less. -/
theorem med_mono {f g : Nat → Int} {v : List Int} (h : ∀ i, f i ≤ g i) : med (vals f v) ≤ med (vals g v) := by
  rcases Nat.eq_zero_or_pos v.length with h0 | h0
  · have : v = [] := List.length_eq_zero_iff.1 h0
    subst this
    exact Int.le_refl _
  · have hp : 0 < (vals f v).length := by rw [vals_len]; exact h0
    have hq : 0 < (vals g v).length := by rw [vals_len]; exact h0
    rw [med_iff hq]
    have h1 := (med_iff hp _).1 (Int.le_refl (med (vals f v)))
    rw [vals_len] at h1 ⊢
    have : ∀ x, cntGe (vals f v) x ≤ cntGe (vals g v) x := by
      intro x
      clear h1 hp hq h0
      induction v with
      | nil => exact Nat.le_refl _
      | cons n r ih =>
        have hn : valOf f n ≤ valOf g n := by unfold valOf; split; exact h _; exact Int.le_refl _
        show cntGe (valOf f n :: vals f r) x ≤ cntGe (valOf g n :: vals g r) x
        rw [cntGe_cons, cntGe_cons]
        by_cases h1 : x ≤ valOf f n
        · rw [if_pos h1, if_pos (by omega)]; omega
        · rw [if_neg h1]; omega
    have := this (med (vals f v))
    omega
theorem med_rev (f : Nat → Int) (v : List Int) : med (vals f v.reverse) = med (vals f v) := by
  refine med_eq (by simp [vals_len]) fun x => cntGe_perm ?_ x
  exact (List.reverse_perm v).map _
end Go.Proofs.Ytinkbiinbfbjgaa

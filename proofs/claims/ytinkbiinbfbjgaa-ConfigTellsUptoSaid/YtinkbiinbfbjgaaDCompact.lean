/- Plain facts of a rising list out of which equal neighbours are taken. No program is named here. -/
import Derived.Test.YtinkbiinbfbjgaaDBase
import Derived.Lib.SlicesCompact
namespace Go.Proofs.Ytinkbiinbfbjgaa
set_option linter.unusedVariables false
open Go.Lib (compact compactUpTo keeps compactUpTo_succ)

theorem upTo_spec {zs : List Int} (hs : zs.Pairwise (· ≤ ·)) : ∀ m, m ≤ zs.length →
    (compactUpTo zs.toArray m).Pairwise (· < ·) ∧ (∀ x, x ∈ compactUpTo zs.toArray m ↔ x ∈ zs.take m) := by
  intro m
  induction m with
  | zero => intro _; exact ⟨by simp [compactUpTo], fun x => by simp [compactUpTo]⟩
  | succ m ih =>
    intro hm
    obtain ⟨h1, h2⟩ := ih (by omega)
    have hml : m < zs.length := by omega
    have e : zs.toArray[m]! = zs[m] := by simp [hml]
    rw [compactUpTo_succ]
    have ht : zs.take (m + 1) = zs.take m ++ [zs[m]] := take_snoc zs m hml
    have hle : ∀ x ∈ zs.take m, x ≤ zs[m] := by
      intro x hx
      obtain ⟨i, hi, rfl⟩ := List.mem_iff_getElem.1 hx
      have hi' : i < m := by simp at hi; omega
      rw [List.getElem_take]
      exact List.pairwise_iff_getElem.1 hs i m (by omega) hml hi'
    by_cases hk : keeps zs.toArray m = true
    · rw [if_pos hk, e]
      refine ⟨?_, fun x => by rw [ht, List.mem_append, List.mem_append, h2]⟩
      rw [List.pairwise_append]
      refine ⟨h1, List.pairwise_singleton _ _, fun x hx y hy => ?_⟩
      rw [List.mem_singleton] at hy
      subst hy
      have hx' := (h2 x).1 hx
      have := hle x hx'
      rcases Int.lt_or_eq_of_le this with h | h
      · exact h
      · exfalso
        unfold keeps at hk
        simp only [decide_eq_true_eq] at hk
        obtain ⟨i, hi, hxi⟩ := List.mem_iff_getElem.1 hx'
        have hi' : i < m := by simp at hi; omega
        rw [List.getElem_take] at hxi
        rcases hk with hk | hk
        · omega
        · apply hk
          have hm1 : m - 1 < zs.length := by omega
          have e2 : zs.toArray[m - 1]! = zs[m - 1] := by simp [hm1]
          rw [e, e2]
          have a1 : zs[i] ≤ zs[m - 1] := by
            rcases Nat.lt_or_ge i (m - 1) with h | h
            · exact List.pairwise_iff_getElem.1 hs i (m - 1) (by omega) hm1 h
            · have : i = m - 1 := by omega
              subst this; exact Int.le_refl _
          have a2 : zs[m - 1] ≤ zs[m] := List.pairwise_iff_getElem.1 hs (m - 1) m hm1 hml (by omega)
          omega
    · rw [if_neg hk, List.append_nil]
      refine ⟨h1, fun x => ?_⟩
      rw [h2, ht, List.mem_append, List.mem_singleton]
      refine ⟨.inl, fun h => h.elim id fun hx => ?_⟩
      subst hx
      unfold keeps at hk
      simp only [decide_eq_true_eq, not_or] at hk
      obtain ⟨hm0, hk⟩ := hk
      have hm1 : m - 1 < zs.length := by omega
      have e2 : zs.toArray[m - 1]! = zs[m - 1] := by simp [hm1]
      rw [e, e2] at hk
      have hk' : zs[m] = zs[m - 1] := Classical.byContradiction hk
      rw [hk']
      exact List.mem_iff_getElem.2 ⟨m - 1, by simp; omega, by rw [List.getElem_take]⟩
theorem compact_spec {zs : List Int} (hs : zs.Pairwise (· ≤ ·)) : (compact zs).Pairwise (· < ·) ∧ ∀ x, x ∈ compact zs ↔ x ∈ zs := by
  have h := upTo_spec hs zs.length (Nat.le_refl _)
  rw [List.take_length] at h
  exact h
theorem sort_rises (zs : List Int) : (zs.mergeSort fun x y => decide (x ≤ y)).Pairwise (· ≤ ·) := by
  have h := List.pairwise_mergeSort (le := fun x y : Int => decide (x ≤ y)) (fun a b c h1 h2 => by simp at h1 h2 ⊢; omega) (fun a b => by simp; omega) zs
  exact h.imp fun h => by simpa using h
theorem compact_len (zs : List Int) : (compact zs).length ≤ zs.length := by
  unfold compact compactUpTo
  rw [List.length_map]
  exact Nat.le_trans (List.length_filter_le _ _) (by simp)
theorem compact_sort (zs : List Int) : (compact (zs.mergeSort fun x y => decide (x ≤ y))).Pairwise (· < ·) ∧ (∀ x, x ∈ compact (zs.mergeSort fun x y => decide (x ≤ y)) ↔ x ∈ zs) ∧ (compact (zs.mergeSort fun x y => decide (x ≤ y))).length ≤ zs.length := by
  obtain ⟨h1, h2⟩ := compact_spec (sort_rises zs)
  exact ⟨h1, fun x => by rw [h2, List.mem_mergeSort], Nat.le_trans (compact_len _) (by simp)⟩
end Go.Proofs.Ytinkbiinbfbjgaa

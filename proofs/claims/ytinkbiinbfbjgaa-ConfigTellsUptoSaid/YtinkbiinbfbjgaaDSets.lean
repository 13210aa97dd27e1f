/- Plain facts of sets of nodes: what config.Apply answers, as members. -/
import Derived.Test.YtinkbiinbfbjgaaDApply2
namespace Go.Proofs.Ytinkbiinbfbjgaa
open Go.RowKit
set_option linter.unusedVariables false
set_option linter.unusedSimpArgs false

theorem sorted_ext : ∀ {a b : List Int}, a.Pairwise (· < ·) → b.Pairwise (· < ·) → (∀ x, x ∈ a ↔ x ∈ b) → a = b
  | [], [], _, _, _ => rfl
  | [], y :: b, _, _, h => absurd ((h y).2 (by simp)) (by simp)
  | x :: a, [], _, _, h => absurd ((h x).1 (by simp)) (by simp)
  | x :: a, y :: b, ha, hb, h => by
    rw [List.pairwise_cons] at ha hb
    have e : x = y := by
      have h1 := (h x).1 (by simp)
      have h2 := (h y).2 (by simp)
      simp only [List.mem_cons] at h1 h2
      rcases h1 with h1 | h1
      · exact h1
      · rcases h2 with h2 | h2
        · exact h2.symm
        · have := hb.1 _ h1
          have := ha.1 _ h2
          omega
    subst e
    refine congrArg _ (sorted_ext ha.2 hb.2 fun z => ?_)
    have hz := h z
    simp only [List.mem_cons] at hz
    constructor
    · intro m
      rcases hz.1 (.inr m) with e | e
      · have := ha.1 z m
        omega
      · exact e
    · intro m
      rcases hz.2 (.inr m) with e | e
      · have := hb.1 z m
        omega
      · exact e

theorem setTo_mem (f : Nat → Bool) (k : Nat) (x : Int) : x ∈ setTo f k ↔ 0 ≤ x ∧ x < k ∧ f x.toNat = true := by
  simp only [setTo, List.mem_map, List.mem_filter, List.mem_range]
  constructor
  · rintro ⟨i, ⟨h1, h2⟩, rfl⟩
    exact ⟨by omega, by omega, by simpa using h2⟩
  · rintro ⟨h1, h2, h3⟩
    exact ⟨x.toNat, ⟨by omega, h3⟩, by omega⟩
theorem setList_mem (f : Nat → Bool) (x : Int) : x ∈ setList f ↔ 0 ≤ x ∧ x < 8 ∧ f x.toNat = true := setTo_mem f 8 x
theorem setTo_sorted (f : Nat → Bool) : ∀ k, (setTo f k).Pairwise (· < ·)
  | 0 => by simp [setTo]
  | k + 1 => by
    rw [setTo_succ, List.pairwise_append]
    refine ⟨setTo_sorted f k, by split <;> simp, fun a ha b hb => ?_⟩
    have := (setTo_mem f k a).1 ha
    split at hb
    · simp only [List.mem_singleton] at hb
      omega
    · simp at hb
theorem setList_sorted (f : Nat → Bool) : (setList f).Pairwise (· < ·) := setTo_sorted f 8

theorem okAt_bounds {l : List Int} (h : risesB l = true) {x : Int} (hx : x ∈ l) : 0 ≤ x ∧ x < 8 := by
  obtain ⟨i, hi, rfl⟩ := List.getElem_of_mem hx
  have := rises_at h i hi
  simp only [okAt, Bool.and_eq_true, decide_eq_true_eq, List.getD_eq_getElem?_getD, List.getElem?_eq_getElem hi, Option.getD_some] at this
  exact ⟨this.1, this.2.1⟩
theorem rises_step {l : List Int} (h : risesB l = true) (i : Nat) (hi : i + 1 < l.length) : l[i] < l[i + 1] := by
  have := rises_at h (i + 1) hi
  simp only [okAt, Bool.and_eq_true, Bool.or_eq_true, decide_eq_true_eq, List.getD_eq_getElem?_getD, List.getElem?_eq_getElem hi, Option.getD_some] at this
  have h2 := this.2.2
  rcases h2 with h2 | h2
  · omega
  · rw [show i + 1 - 1 = i by omega, List.getElem?_eq_getElem (show i < l.length by omega), Option.getD_some] at h2
    exact h2
theorem rises_lt {l : List Int} (h : risesB l = true) (i : Nat) : ∀ j (hj : j < l.length) (hij : i < j), l[i]'(by omega) < l[j]
  | 0, hj, hij => by omega
  | j + 1, hj, hij => by
    have s := rises_step h j hj
    by_cases e : i = j
    · subst e
      exact s
    · exact Int.lt_trans (rises_lt h i j (by omega) (by omega)) s
theorem rises_sorted {l : List Int} (h : risesB l = true) : l.Pairwise (· < ·) :=
  List.pairwise_iff_getElem.2 fun i j hi hj hij => rises_lt h i j hj hij
theorem rises_of {l : List Int} (hs : l.Pairwise (· < ·)) (hb : ∀ x ∈ l, 0 ≤ x ∧ x < 8) : risesB l = true := by
  refine rises_true fun i hi => ?_
  have h1 := hb _ (List.getElem_mem hi)
  simp only [okAt, Bool.and_eq_true, Bool.or_eq_true, decide_eq_true_eq, List.getD_eq_getElem?_getD, List.getElem?_eq_getElem hi, Option.getD_some]
  refine ⟨h1.1, h1.2, ?_⟩
  by_cases e : i = 0
  · exact .inl e
  · right
    rw [List.getElem?_eq_getElem (show i - 1 < l.length by omega), Option.getD_some]
    exact List.pairwise_iff_getElem.1 hs (i - 1) i (by omega) hi (by omega)
theorem setList_rises (f : Nat → Bool) : risesB (setList f) = true :=
  rises_of (setList_sorted f) fun x hx => by
    have := (setList_mem f x).1 hx
    omega
/-- A row that rises is known by its members. -/
theorem setList_eq {f : Nat → Bool} {l : List Int} (h : risesB l = true) (hm : ∀ x, 0 ≤ x → x < 8 → (f x.toNat = true ↔ x ∈ l)) : setList f = l :=
  sorted_ext (setList_sorted f) (rises_sorted h) fun x => by
    rw [setList_mem]
    constructor
    · rintro ⟨h1, h2, h3⟩
      exact (hm x h1 h2).1 h3
    · intro m
      have b := okAt_bounds h m
      exact ⟨b.1, b.2, (hm x b.1 b.2).2 m⟩
theorem memF_at {v : List Int} {x : Int} (h : 0 ≤ x) : memF v x.toNat = true ↔ x ∈ v := by
  simp only [memF, decide_eq_true_eq, Int.toNat_of_nonneg h]
theorem setList_memF {v : List Int} (h : risesB v = true) : setList (memF v) = v :=
  setList_eq h fun x h1 h2 => memF_at h1
theorem updF_at {f : Nat → Bool} {n x : Int} (hn : 0 ≤ n) (hx : 0 ≤ x) (b : Bool) : updF f n.toNat b x.toNat = if x = n then b else f x.toNat := by
  simp only [updF]
  by_cases e : x = n
  · simp [e]
  · rw [if_neg (by omega), if_neg e]

theorem check_iff {v l : List Int} : checkB v l = true ↔ v ≠ [] ∧ risesB v = true ∧ risesB l = true ∧ ∀ x ∈ l, x ∉ v := by
  simp [checkB]

theorem updF_mem {v : List Int} {n x : Int} (hn : 0 ≤ n) (b : Bool) : x ∈ setList (updF (memF v) n.toNat b) ↔ 0 ≤ x ∧ x < 8 ∧ (if x = n then b = true else x ∈ v) := by
  rw [setList_mem]
  constructor
  · rintro ⟨h1, h2, h3⟩
    rw [updF_at hn h1] at h3
    refine ⟨h1, h2, ?_⟩
    split
    · rename_i e
      simpa [e] using h3
    · rename_i e
      simp only [e, if_false] at h3
      exact (memF_at h1).1 h3
  · rintro ⟨h1, h2, h3⟩
    refine ⟨h1, h2, ?_⟩
    rw [updF_at hn h1]
    split
    · rename_i e
      simpa [e] using h3
    · rename_i e
      simp only [e, if_false] at h3
      exact (memF_at h1).2 h3

/-- What a change makes of a configuration that may be, may be. -/
theorem apply_check {v l v' l' : List Int} {kind n : Int} (h : checkB v l = true) (hn : thereB v l n = true ∨ 0 ≤ n ∧ n < 8) (ha : applyR v l kind n = some (v', l')) : checkB v' l' = true := by
  obtain ⟨h1, h2, h3, h4⟩ := check_iff.1 h
  have hb : 0 ≤ n ∧ n < 8 := by
    rcases hn with hn | hn
    · simp only [thereB, Bool.or_eq_true, decide_eq_true_eq] at hn
      rcases hn with hn | hn
      · exact okAt_bounds h2 hn
      · exact okAt_bounds h3 hn
    · exact hn
  rw [check_iff]
  unfold applyR at ha
  split at ha
  · rename_i c
    simp only [Option.some.injEq, Prod.mk.injEq] at ha
    obtain ⟨rfl, rfl⟩ := ha
    simp [thereB] at c
    rw [setList_memF h2]
    refine ⟨h1, h2, setList_rises _, fun x hx => ?_⟩
    obtain ⟨b1, b2, b3⟩ := (updF_mem hb.1 _).1 hx
    split at b3
    · rename_i e
      subst e
      exact c.2.2.2.1
    · exact h4 x b3
  split at ha
  · rename_i c
    simp only [Option.some.injEq, Prod.mk.injEq] at ha
    obtain ⟨rfl, rfl⟩ := ha
    refine ⟨fun e => ?_, setList_rises _, setList_rises _, fun x hx hv => ?_⟩
    · have : n ∈ setList (updF (memF v) n.toNat true) := (updF_mem hb.1 _).2 ⟨hb.1, hb.2, by simp⟩
      rw [e] at this
      simp at this
    · obtain ⟨b1, b2, b3⟩ := (updF_mem hb.1 _).1 hx
      obtain ⟨d1, d2, d3⟩ := (updF_mem hb.1 _).1 hv
      split at b3
      · simp at b3
      · rename_i e
        simp only [e, if_false] at d3
        exact h4 x b3 d3
  split at ha
  · rename_i c
    simp only [Option.some.injEq, Prod.mk.injEq] at ha
    obtain ⟨rfl, rfl⟩ := ha
    refine ⟨fun e => ?_, setList_rises _, setList_rises _, fun x hx hv => ?_⟩
    · -- another voter stays
      have hall : ∀ x ∈ v, x = n := fun x hx => by
        have b := okAt_bounds h2 hx
        by_cases q : x = n
        · exact q
        · have : x ∈ setList (updF (memF v) n.toNat false) := (updF_mem hb.1 _).2 ⟨b.1, b.2, by simp [q, hx]⟩
          rw [e] at this
          simp at this
      have hlen : v.length = 1 := by
        have hs := rises_sorted h2
        cases v with
        | nil => simp at h1
        | cons y t =>
          cases t with
          | nil => rfl
          | cons z t =>
            have e1 := hall y (by simp)
            have e2 := hall z (by simp)
            rw [List.pairwise_cons] at hs
            have := hs.1 z (by simp)
            omega
      have hmem : n ∈ v := by
        cases v with
        | nil => simp at h1
        | cons y t =>
          have := hall y (by simp)
          simp [this]
      exact c.2.2 ⟨hlen, by simp [hmem]⟩
    · obtain ⟨b1, b2, b3⟩ := (updF_mem hb.1 _).1 hx
      obtain ⟨d1, d2, d3⟩ := (updF_mem hb.1 _).1 hv
      split at b3
      · simp at b3
      · rename_i e
        simp only [e, if_false] at d3
        exact h4 x b3 d3
  · cases ha

/-- A learner that is added: the row's other members stay, and taking it out again leaves what was. -/
theorem back_of {v l : List Int} {n : Int} {v' l' : List Int} (h : checkB v l = true) (ha : applyR v l 1 n = some (v', l')) :
    0 ≤ n ∧ n < 8 ∧ n ∉ v ∧ n ∉ l ∧ v' = v ∧ n ∈ l' ∧ (∀ x, x ∈ l' ↔ x ∈ l ∨ x = n) ∧ checkB v' l' = true ∧ applyR v' l' 3 n = some (v, l) ∧
      ∃ u, applyR v' l' 2 n = some (u, l) ∧ (∀ x, x ∈ u ↔ x ∈ v ∨ x = n) ∧ u.length = v.length + 1 := by
  obtain ⟨h1, h2, h3, h4⟩ := check_iff.1 h
  have ha0 := ha
  unfold applyR at ha
  split at ha
  case isFalse c => simp at ha
  rename_i c
  obtain ⟨_, c1, c2, c3⟩ := c
  simp only [Option.some.injEq, Prod.mk.injEq] at ha
  obtain ⟨rfl, rfl⟩ := ha
  simp only [thereB, Bool.or_eq_false_iff, decide_eq_false_iff_not] at c3
  have m' : ∀ x, x ∈ setList (updF (memF l) n.toNat true) ↔ x ∈ l ∨ x = n := fun x => by
    rw [updF_mem c1]
    constructor
    · rintro ⟨_, _, q⟩
      split at q
      · exact .inr ‹_›
      · exact .inl q
    · rintro (q | q)
      · have b := okAt_bounds h3 q
        exact ⟨b.1, b.2, by split <;> simp [q]⟩
      · subst q
        exact ⟨c1, c2, by simp⟩
  have hn' := (m' n).2 (.inr rfl)
  have hc := apply_check h (.inr ⟨c1, c2⟩) ha0
  rw [setList_memF h2] at *
  generalize setList (updF (memF l) n.toNat true) = l' at *
  have hl : setList (updF (memF l') n.toNat false) = l := setList_eq h3 fun x x1 x2 => by
    rw [updF_at c1 x1]
    split
    · rename_i e
      subst e
      simp [c3.2]
    · rename_i e
      rw [memF_at x1, m' x]
      simp [e]
  have hv : setList (updF (memF v) n.toNat false) = v := setList_eq h2 fun x x1 x2 => by
    rw [updF_at c1 x1]
    split
    · rename_i e
      subst e
      simp [c3.1]
    · rw [memF_at x1]
  refine ⟨c1, c2, c3.1, c3.2, rfl, hn', m', hc, ?_, setList (updF (memF v) n.toNat true), ?_, ?_, ?_⟩
  · simp [applyR, thereB, hn', c3.1, hl, hv]
  · simp [applyR, thereB, hn', c3.1, hl]
  · intro x
    rw [updF_mem c1]
    constructor
    · rintro ⟨_, _, q⟩
      split at q
      · exact .inr ‹_›
      · exact .inl q
    · rintro (q | q)
      · have b := okAt_bounds h2 q
        exact ⟨b.1, b.2, by split <;> simp [q]⟩
      · subst q
        exact ⟨c1, c2, by simp⟩
  · have hp : (setList (updF (memF v) n.toNat true)).Perm (n :: v) := by
      refine (List.perm_ext_iff_of_nodup ?_ ?_).2 fun x => ?_
      · exact (setList_sorted _).imp fun h => by omega
      · exact List.nodup_cons.2 ⟨c3.1, (rises_sorted h2).imp fun h => by omega⟩
      · rw [updF_mem c1, List.mem_cons]
        constructor
        · rintro ⟨_, _, q⟩
          split at q
          · exact .inl ‹_›
          · exact .inr q
        · rintro (q | q)
          · subst q
            exact ⟨c1, c2, by simp⟩
          · have b := okAt_bounds h2 q
            exact ⟨b.1, b.2, by split <;> simp [q]⟩
    have := hp.length_eq
    simpa using this

end Go.Proofs.Ytinkbiinbfbjgaa

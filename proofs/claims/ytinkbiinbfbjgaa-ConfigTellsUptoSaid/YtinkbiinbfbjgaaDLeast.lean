/- Plain facts of the least number above another one, and of lists that rise. No program is named here. -/
import Derived.Test.YtinkbiinbfbjgaaDBase
namespace Go.Proofs.Ytinkbiinbfbjgaa
set_option linter.unusedVariables false
set_option linter.unusedSimpArgs false

/-- One round of the search for the least number. -/
def leastS (above : Int) (any : Bool) (s : Int × Bool) (x : Int) : Int × Bool := if (any = true → above < x) ∧ (s.2 = true → x < s.1) then (x, true) else s
def leastL (l : List Int) (above : Int) (any : Bool) : Int × Bool := l.foldl (leastS above any) (0, false)
theorem leastL_snoc (l : List Int) (x above : Int) (any : Bool) : leastL (l ++ [x]) above any = leastS above any (leastL l above any) x := by
  simp [leastL]

theorem leastL_spec (above : Int) (any : Bool) (l : List Int) : ∀ s : Int × Bool,
    ((l.foldl (leastS above any) s).2 = true → ((s.2 = true ∧ (l.foldl (leastS above any) s).1 = s.1) ∨ ((l.foldl (leastS above any) s).1 ∈ l ∧ (any = true → above < (l.foldl (leastS above any) s).1)))) ∧
    (s.2 = true → (l.foldl (leastS above any) s).2 = true ∧ (l.foldl (leastS above any) s).1 ≤ s.1) ∧
    (∀ x ∈ l, (any = true → above < x) → (l.foldl (leastS above any) s).2 = true ∧ (l.foldl (leastS above any) s).1 ≤ x) ∧
    ((l.foldl (leastS above any) s).2 = false → (l.foldl (leastS above any) s) = s) := by
  induction l with
  | nil => intro s; exact ⟨fun h => .inl ⟨h, rfl⟩, fun h => ⟨h, Int.le_refl _⟩, (fun x hx => by cases hx), fun _ => rfl⟩
  | cons y r ih =>
    intro s
    obtain ⟨i1, i2, i3, i4⟩ := ih (leastS above any s y)
    simp only [List.foldl_cons]
    by_cases hc : (any = true → above < y) ∧ (s.2 = true → y < s.1)
    · have e : leastS above any s y = (y, true) := by simp only [leastS, if_pos hc]
      rw [e] at i1 i2 i3 i4 ⊢
      obtain ⟨j1, j2⟩ := i2 rfl
      refine ⟨fun h => ?_, fun h => ⟨j1, ?_⟩, fun x hx ha => ?_, fun h => by rw [j1] at h; cases h⟩
      · rcases i1 h with ⟨_, h'⟩ | ⟨h', h''⟩
        · exact .inr ⟨by rw [h']; simp, by rw [h']; exact hc.1⟩
        · exact .inr ⟨List.mem_cons_of_mem _ h', h''⟩
      · have := hc.2 h
        simp only at j2
        omega
      · rcases List.mem_cons.1 hx with rfl | hx
        · exact ⟨j1, j2⟩
        · exact i3 x hx ha
    · have e : leastS above any s y = s := by simp only [leastS, if_neg hc]
      rw [e] at i1 i2 i3 i4 ⊢
      refine ⟨fun h => ?_, i2, fun x hx ha => ?_, i4⟩
      · rcases i1 h with h' | ⟨h', h''⟩
        · exact .inl h'
        · exact .inr ⟨List.mem_cons_of_mem _ h', h''⟩
      · rcases List.mem_cons.1 hx with rfl | hx
        · by_cases hs : s.2 = true
          · have := i2 hs
            have hx' : ¬ x < s.1 := fun h => hc ⟨ha, fun _ => h⟩
            exact ⟨this.1, by omega⟩
          · exact absurd ⟨ha, fun h => absurd h hs⟩ hc
        · exact i3 x hx ha

theorem least_true {l : List Int} {above : Int} {any : Bool} (h : (leastL l above any).2 = true) :
    (leastL l above any).1 ∈ l ∧ (any = true → above < (leastL l above any).1) := by
  rcases (leastL_spec above any l (0, false)).1 h with ⟨h', _⟩ | h'
  · cases h'
  · exact h'
theorem least_le {l : List Int} {above : Int} {any : Bool} {x : Int} (hx : x ∈ l) (ha : any = true → above < x) : (leastL l above any).2 = true ∧ (leastL l above any).1 ≤ x :=
  (leastL_spec above any l (0, false)).2.2.1 x hx ha
theorem least_false {l : List Int} {above : Int} {any : Bool} (h : (leastL l above any).2 = false) : (leastL l above any).1 = 0 := by
  have := (leastL_spec above any l (0, false)).2.2.2 h
  unfold leastL
  rw [this]
theorem least_none {l : List Int} {above : Int} {any : Bool} (h : (leastL l above any).2 = false) {x : Int} (hx : x ∈ l) : ¬(any = true → above < x) := by
  intro ha
  have := (least_le hx ha).1
  rw [h] at this
  cases this

theorem filter_lt {p q : Int → Bool} {l : List Int} (hpq : ∀ x ∈ l, p x = true → q x = true) {y : Int} (hy : y ∈ l) (hq : q y = true) (hp : p y = false) : (l.filter p).length + 1 ≤ (l.filter q).length := by
  induction l with
  | nil => cases hy
  | cons z r ih =>
    have hle : (r.filter p).length ≤ (r.filter q).length := by
      have h' : ∀ x ∈ r, p x = true → q x = true := fun x hx => hpq x (List.mem_cons_of_mem _ hx)
      clear ih hpq hy hq hp
      induction r with
      | nil => simp
      | cons u t ih =>
        have hi := ih fun x hx => h' x (List.mem_cons_of_mem _ hx)
        have hu := h' u (List.mem_cons_self ..)
        simp only [List.filter_cons]
        cases hpu : p u
        · cases q u <;> simp <;> omega
        · rw [hu hpu]; simp; omega
    simp only [List.filter_cons]
    rcases List.mem_cons.1 hy with rfl | hy
    · rw [hq, hp]; simp; omega
    · have := ih (fun x hx => hpq x (List.mem_cons_of_mem _ hx)) hy
      have hz := hpq z (List.mem_cons_self ..)
      cases hpz : p z
      · cases q z <;> simp <;> omega
      · rw [hz hpz]; simp; omega

/-- What the loop over the least numbers has gathered. -/
def Gath (both acc : List Int) (n : Int) (is : Bool) : Prop :=
  acc.Pairwise (· < ·) ∧ (∀ x, x ∈ acc ↔ x ∈ both ∧ (is = true → x < n)) ∧ (is = true → n ∈ both) ∧ acc.length + (if is = true then (both.filter fun x => decide (n ≤ x)).length else 0) ≤ both.length
def gathM (both : List Int) (n : Int) (is : Bool) : Nat := if is = true then (both.filter fun x => decide (n ≤ x)).length else 0

theorem Gath.start (both : List Int) (n0 : Int) : Gath both [] (leastL both 0 false).1 (leastL both 0 false).2 := by
  refine ⟨List.Pairwise.nil, fun x => ?_, fun h => (least_true h).1, ?_⟩
  · constructor
    · intro h; exact absurd h (by simp)
    · rintro ⟨hx, h⟩
      have := least_le (above := 0) (any := false) hx (fun h => by cases h)
      have := h this.1
      omega
  · split
    · simp only [List.length_nil, Nat.zero_add]; exact List.length_filter_le _ _
    · simp
theorem Gath.step {both acc : List Int} {n : Int} (h : Gath both acc n true) :
    Gath both (acc ++ [n]) (leastL both n true).1 (leastL both n true).2 ∧ gathM both (leastL both n true).1 (leastL both n true).2 < gathM both n true := by
  obtain ⟨h1, h2, h3, h4⟩ := h
  have hn := h3 rfl
  have hcnt : gathM both (leastL both n true).1 (leastL both n true).2 + 1 ≤ gathM both n true := by
    unfold gathM
    by_cases hf : (leastL both n true).2 = true
    · rw [if_pos hf, if_pos rfl]
      have := (least_true hf).2 rfl
      exact filter_lt (y := n) (fun x _ hx => by simp only [decide_eq_true_eq] at hx ⊢; omega) hn (by simp) (by simp; omega)
    · rw [if_neg hf, if_pos rfl]
      have : 0 < (both.filter fun x => decide (n ≤ x)).length := List.length_pos_of_mem (List.mem_filter.2 ⟨hn, by simp⟩)
      omega
  refine ⟨⟨?_, fun x => ?_, fun h => (least_true h).1, ?_⟩, by omega⟩
  · rw [List.pairwise_append]
    refine ⟨h1, List.pairwise_singleton _ _, fun a ha b hb => ?_⟩
    rw [List.mem_singleton] at hb
    subst hb
    exact ((h2 a).1 ha).2 rfl
  · rw [List.mem_append, List.mem_singleton, h2 x]
    constructor
    · rintro (⟨hx, hl⟩ | rfl)
      · have := hl rfl
        exact ⟨hx, fun hf => by have := (least_true hf).2 rfl; omega⟩
      · exact ⟨hn, fun hf => by have := (least_true hf).2 rfl; omega⟩
    · rintro ⟨hx, hl⟩
      rcases Int.lt_trichotomy x n with hlt | rfl | hgt
      · exact .inl ⟨hx, fun _ => hlt⟩
      · exact .inr rfl
      · have := least_le (above := n) (any := true) hx (fun _ => hgt)
        have := hl this.1
        omega
  · unfold gathM at hcnt
    simp only [List.length_append, List.length_singleton]
    simp only [if_pos] at h4 hcnt
    omega
theorem Gath.done {both acc : List Int} {n : Int} (h : Gath both acc n false) : acc.Pairwise (· < ·) ∧ (∀ x, x ∈ acc ↔ x ∈ both) ∧ acc.length ≤ both.length := by
  obtain ⟨h1, h2, _, h4⟩ := h
  exact ⟨h1, fun x => by rw [h2 x]; simp, by omega⟩
theorem Gath.len {both acc : List Int} {n : Int} {is : Bool} (h : Gath both acc n is) : acc.length ≤ both.length := by
  have := h.2.2.2
  omega

end Go.Proofs.Ytinkbiinbfbjgaa

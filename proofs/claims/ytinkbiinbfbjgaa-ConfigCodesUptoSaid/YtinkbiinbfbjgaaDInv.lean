/- A region that draws its order, walked by an invariant: each operation once, behind any set of operations that holds those that it waits for. No program is named here. -/
import Derived.Test.YtinkbiinbfbjgaaDBase
import Derived.Orders
namespace Go.Proofs.Ytinkbiinbfbjgaa
open Go.RowKit
set_option linter.unusedVariables false

section
variable {P : Program} {ops : Array Oper} {Q : Exit → Act → World → Prop}

/-- The set with one more. -/
def more (D : Nat → Bool) (i : Nat) : Nat → Bool := fun j => D j || decide (j = i)

/-- What one operation must give. -/
def invStep (P : Program) (ops : Array Oper) (Q : Exit → Act → World → Prop) (Inv : (Nat → Bool) → Act → World → Prop) (i : Nat) (o : Oper) : Prop :=
  ∀ D a w, Inv D a w → D i = false → (∀ e ∈ o.after.toList, Region.binds .any e = true → D e.on = true) →
    if Region.wanted o (yielded ops a.tmps) then o.wp P a w (Inv (more D i)) Q else Inv (more D i) (a.put o.dst undef) w

def invSteps (P : Program) (ops : Array Oper) (Q : Exit → Act → World → Prop) (Inv : (Nat → Bool) → Act → World → Prop) : Nat → List Oper → Prop
  | _, [] => True
  | i, o :: r => invStep P ops Q Inv i o ∧ invSteps P ops Q Inv (i + 1) r

theorem invSteps_nil {Inv : (Nat → Bool) → Act → World → Prop} {i : Nat} : invSteps P ops Q Inv i [] := trivial
theorem invSteps_cons {Inv : (Nat → Bool) → Act → World → Prop} {i : Nat} {o : Oper} {r : List Oper} (h : invStep P ops Q Inv i o) (h' : invSteps P ops Q Inv (i + 1) r) : invSteps P ops Q Inv i (o :: r) := ⟨h, h'⟩
theorem invStep_of {Inv : (Nat → Bool) → Act → World → Prop} {i : Nat} {o : Oper}
    (h : ∀ D a w, Inv D a w → D i = false → (∀ e ∈ o.after.toList, Region.binds .any e = true → D e.on = true) → ∀ K : Act → World → Prop, (∀ a' w', Inv (more D i) a' w' → K a' w') →
      if Region.wanted o (yielded ops a.tmps) then o.wp P a w K Q else K (a.put o.dst undef) w) : invStep P ops Q Inv i o :=
  fun D a w hI hn hd => h D a w hI hn hd _ fun _ _ h => h

theorem invSteps_at {Inv : (Nat → Bool) → Act → World → Prop} : ∀ (l : List Oper) (k : Nat), invSteps P ops Q Inv k l → ∀ j o, l[j]? = some o → invStep P ops Q Inv (k + j) o := by
  intro l
  induction l with
  | nil => intro k _ j o h; simp at h
  | cons x r ih =>
    intro k h j o hj
    cases j with
    | zero => simp at hj; subst hj; exact h.1
    | succ j =>
      have := ih (k + 1) h.2 j o (by simpa using hj)
      rwa [show k + 1 + j = k + (j + 1) by omega] at this

/-- Each operation waits for earlier ones alone. -/
def forwards (l : List Oper) : Bool := l.zipIdx.all fun x => x.1.after.toList.all fun e => !Region.binds .any e || decide (e.on < x.2)

theorem wpAny_inv {Inv : (Nat → Bool) → Act → World → Prop} (hst : invSteps P ops Q Inv 0 ops.toList) (hf : forwards ops.toList = true)
    (hend : ∀ D a w, Inv D a w → (∀ i, i < ops.size → D i = true) → Q .normal a w) :
    ∀ (fuel : Nat) (listed : Array Bool) (a : Act) (w : World), listed.size = ops.size → (listed.toList.filter fun b => !b).length ≤ fuel → Inv (fun i => listed.getD i false) a w →
      wpAny P .any ops Q fuel listed a w := by
  have hready : ∀ listed : Array Bool, listed.size = ops.size → Region.ready .any ops listed = [] → ∀ i, i < ops.size → listed.getD i false = true := by
    intro listed hs hr i
    induction i using Nat.strongRecOn with
    | ind i ih =>
      intro hi
      cases hl : listed.getD i false with
      | true => rfl
      | false =>
        exfalso
        have hm : i ∈ Region.ready .any ops listed := by
          unfold Region.ready
          rw [List.mem_filter]
          refine ⟨by simpa using hi, ?_⟩
          have h1 : listed.getD i true = false := by
            simp only [Array.getD, hs, hi, dif_pos] at hl ⊢
            exact hl
          simp only [h1, Bool.not_false, Bool.true_and, Array.getElem?_eq_getElem hi, Option.map_some, Option.getD_some]
          rw [Array.all_eq_true_iff_forall_mem]
          intro e he
          cases hb : Region.binds .any e with
          | false => rfl
          | true =>
            have hlt : e.on < i := by
              unfold forwards at hf
              rw [List.all_eq_true] at hf
              have := hf (ops[i], i) (by
                rw [List.mem_zipIdx_iff_getElem?]
                simp [hi])
              rw [List.all_eq_true] at this
              have := this e (by simpa using he)
              simp [hb] at this
              exact this
            simp [ih e.on hlt (by omega)]
        rw [hr] at hm
        cases hm
  intro fuel
  induction fuel with
  | zero =>
    intro listed a w hs hc hI
    have hall : ∀ i, i < ops.size → listed.getD i false = true := by
      intro i hi
      have h0 : listed.toList.filter (fun b => !b) = [] := List.eq_nil_of_length_eq_zero (by omega)
      rw [List.filter_eq_nil_iff] at h0
      have := h0 listed[i] (by simp)
      simp only [Array.getD, hs, hi, dif_pos]
      simpa using this
    refine ⟨?_, hend _ a w hI hall⟩
    unfold Region.ready
    rw [List.filter_eq_nil_iff]
    intro i hi
    have hi' : i < ops.size := by simpa using hi
    have := hall i hi'
    simp only [Array.getD, hs, hi', dif_pos] at this
    simp [Array.getD, hs, hi']
    intro h
    exact absurd ((show listed[i] = true from this).symm.trans h) (by simp)
  | succ fuel ih =>
    intro listed a w hs hc hI
    refine ⟨fun hr => hend _ a w hI (hready listed hs hr), fun i hi => ?_⟩
    unfold Region.ready at hi
    rw [List.mem_filter] at hi
    obtain ⟨hi1, hi2⟩ := hi
    have hi' : i < ops.size := by simpa using hi1
    simp only [Array.getElem?_eq_getElem hi', Option.map_some, Option.getD_some, Bool.and_eq_true, Bool.not_eq_true'] at hi2
    have hli : listed.getD i false = false := by
      have := hi2.1
      simp only [Array.getD, hs, hi', dif_pos] at this ⊢
      exact this
    have hstep := invSteps_at ops.toList 0 hst i ops[i] (by simp [hi'])
    rw [Nat.zero_add] at hstep
    have hs2 := hstep _ a w hI hli (by
      intro e he hb
      have := hi2.2
      rw [Array.all_eq_true_iff_forall_mem] at this
      have := this e (by simpa using he)
      simpa [hb] using this)
    have key : ∀ a' w', Inv (more (fun i => listed.getD i false) i) a' w' → wpAny P .any ops Q fuel (listed.setIfInBounds i true) a' w' := by
      intro a' w' h'
      refine ih _ a' w' (by simpa using hs) ?_ ?_
      · have hil : i < listed.size := by omega
        have e1 : listed[i] = false := by
          simpa [Array.getD, hil] using hli
        have h2 : ((listed.setIfInBounds i true).toList.filter fun b => !b).length + 1 = (listed.toList.filter fun b => !b).length := by
          rw [Array.toList_setIfInBounds]
          have hsplit : listed.toList = listed.toList.take i ++ false :: listed.toList.drop (i + 1) := by
            have hil' : i < listed.toList.length := by rw [Array.length_toList]; exact hil
            have hd := List.drop_eq_getElem_cons (l := listed.toList) (i := i) hil'
            rw [Array.getElem_toList, e1] at hd
            rw [← hd]
            exact (List.take_append_drop i _).symm
          rw [List.set_eq_take_append_cons_drop, if_pos (by rw [Array.length_toList]; exact hil)]
          conv => rhs; rw [hsplit]
          simp
          omega
        omega
      · have : (fun j => (listed.setIfInBounds i true).getD j false) = more (fun i => listed.getD i false) i := by
          funext j
          unfold more
          by_cases e : j = i
          · subst e
            have hil : j < listed.size := by omega
            simp [Array.getD, hil]
          · by_cases hj : j < listed.size
            · have e2 : (listed.setIfInBounds i true)[j]'(by simpa using hj) = listed[j] := by rw [Array.getElem_setIfInBounds, if_neg (Ne.symm e)]
              simp [Array.getD, hj, e, e2]
            · simp [Array.getD, hj, e]
        rw [this]
        exact h'
    unfold wpOp
    simp only [Array.getElem?_eq_getElem hi']
    by_cases hw : Region.wanted ops[i] (yielded ops a.tmps) = true
    · rw [if_pos hw] at hs2 ⊢
      exact .inl (Oper.wp_mono key hs2)
    · rw [if_neg hw] at hs2 ⊢
      exact key _ _ hs2

theorem wp_region_inv {id : Nat} {l : List Oper} {a : Act} {w : World} (hm : P.follows .mixedOrders = true) (Inv : (Nat → Bool) → Act → World → Prop) (hf : forwards l = true)
    (h0 : Inv (fun _ => false) a w.drew) (hst : invSteps P l.toArray Q Inv 0 l)
    (hend : ∀ D a w, Inv D a w → (∀ i, i < l.length → D i = true) → Q .normal a w) : (Code.region id l.toArray true).wp P Q a w := by
  refine wp_region_any hm (wpAny_inv (Inv := Inv) (by simpa using hst) (by simpa using hf) (fun D a w h h' => hend D a w h (by simpa using h')) _ _ _ _ (by simp) ?_ ?_)
  · exact Nat.le_trans (List.length_filter_le (fun b => !b) (Array.replicate l.toArray.size false).toList) (by simp)
  · have : (fun i => (Array.replicate l.toArray.size false).getD i false) = fun _ => false := by
      funext i
      simp only [Array.getD]
      split <;> simp
    rw [this]
    exact h0
end

/-- Several slots written, one behind the other. -/
def puts (a : Act) : List (Nat × Value) → Act
  | [] => a
  | (d, v) :: r => puts (a.put (some d) v) r
theorem puts_nil (a : Act) : puts a [] = a := rfl
theorem puts_cons (a : Act) (d : Nat) (v : Value) (r : List (Nat × Value)) : puts a ((d, v) :: r) = puts (a.put (some d) v) r := rfl
theorem more_self (D : Nat → Bool) (i : Nat) : more D i i = true := by simp [more]
theorem more_of {D : Nat → Bool} {i j : Nat} (h : more D i j = true) (hne : j ≠ i) : D j = true := by
  simpa [more, hne] using h

end Go.Proofs.Ytinkbiinbfbjgaa

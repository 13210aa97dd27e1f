/- The law of a region that draws its order, where the invariant on the world may speak of what is done. No program is named here. -/
import Derived.Test.YtinkbiinbfbjgaaDRes
namespace Go.Proofs.Ytinkbiinbfbjgaa
open Go.RowKit
set_option linter.unusedVariables false

section
variable {P : Program} {Q : Exit → Act → World → Prop}
/-- What one operation owes. -/
def resStepG (P : Program) (Q : Exit → Act → World → Prop) (l : List Oper) (a : Act) (G : (Nat → Bool) → World → Prop) (R : Nat → (Nat → Value) → World → Prop) (fin : Nat → Option Nat) (i : Nat) (o : Oper) : Prop :=
  ∀ (D : Nat → Bool) (v : Nat → Value) (w : World), G D w → D i = false → (∀ j, waits l j i = true → D j = false) → (∀ e, e ∈ depsOf o → (fin e = none ∨ fin e = some i) → R e v w) →
    ∀ K : Act → World → Prop, (∀ (x : Value) (A : Act) (w' : World), A = (puts a (slotsOf 0 l v)).put o.dst x → G (more D i) w' → R i (updV v i x) w' → (∀ j, j ≠ i → fin j ≠ some i → waits l j i = false → (∀ m, fin j = some m → waits l i m = false) → R j v w → R j (updV v i x) w') → K A w') →
      ResDo P o (yielded l.toArray (puts a (slotsOf 0 l v)).tmps) (puts a (slotsOf 0 l v)) w K Q
def resStepsG (P : Program) (Q : Exit → Act → World → Prop) (l : List Oper) (a : Act) (G : (Nat → Bool) → World → Prop) (R : Nat → (Nat → Value) → World → Prop) (fin : Nat → Option Nat) : Nat → List Oper → Prop
  | _, [] => True
  | i, o :: r => resStepG P Q l a G R fin i o ∧ resStepsG P Q l a G R fin (i + 1) r
theorem resStepsG_nil {l : List Oper} {a : Act} {G : (Nat → Bool) → World → Prop} {R : Nat → (Nat → Value) → World → Prop} {fin : Nat → Option Nat} {i : Nat} : resStepsG P Q l a G R fin i [] := trivial
theorem resStepsG_cons {l : List Oper} {a : Act} {G : (Nat → Bool) → World → Prop} {R : Nat → (Nat → Value) → World → Prop} {fin : Nat → Option Nat} {i : Nat} {o : Oper} {r : List Oper}
    (h : resStepG P Q l a G R fin i o) (h' : resStepsG P Q l a G R fin (i + 1) r) : resStepsG P Q l a G R fin i (o :: r) := ⟨h, h'⟩

/-- The invariant. -/
def resInvG (l : List Oper) (a : Act) (G : (Nat → Bool) → World → Prop) (R : Nat → (Nat → Value) → World → Prop) (fin : Nat → Option Nat) (D : Nat → Bool) (A : Act) (w : World) : Prop :=
  G D w ∧ (∀ j k, D j = true → waits l j k = true → D k = true) ∧ ∃ v : Nat → Value, A = puts a (slotsOf 0 l v) ∧ ∀ i, D i = true → (∀ j, fin i = some j → D j = false) → R i v w

theorem res_invG {l : List Oper} {a : Act} {G : (Nat → Bool) → World → Prop} {R : Nat → (Nat → Value) → World → Prop} {fin : Nat → Option Nat} (hn : (dstsOf l).Nodup) :
    ∀ (r : List Oper) (k : Nat), (∀ j, r[j]? = l[k + j]?) → resStepsG P Q l a G R fin k r → invSteps P l.toArray Q (resInvG l a G R fin) k r := by
  intro r
  induction r with
  | nil => intro k _ _; trivial
  | cons o t ih =>
    intro k hl h
    refine ⟨?_, ih (k + 1) (fun j => by have := hl (j + 1); rw [show k + 1 + j = k + (j + 1) by omega, ← this]; rfl) h.2⟩
    refine invStep_of fun D A w hI hD hd K hK => ?_
    obtain ⟨hG, hW, v, rfl, hR⟩ := hI
    have hlk : l[k]? = some o := by have := hl 0; simpa using this.symm
    have fit : ∀ x, (puts a (slotsOf 0 l v)).put o.dst x = puts a (slotsOf 0 l (updV v k x)) := fun x => by
      have := puts_upd l 0 k a v x o hn hlk
      rw [Nat.zero_add] at this
      exact this.symm
    refine (h.1 D v w hG hD (fun j hj => by cases hDj : D j with | false => rfl | true => exact absurd (hW j k hDj hj) (by simp [hD])) (fun e he hf => ?_) K (fun x A w' hA hG' hx hst => ?_)).out
    · obtain ⟨g, hg, rfl⟩ := List.mem_map.1 he
      obtain ⟨hg1, hg2⟩ := List.mem_filter.1 hg
      refine hR g.on (hd g hg1 hg2) fun j hj => ?_
      rcases hf with hf | hf
      · rw [hf] at hj; cases hj
      · rw [hf] at hj; cases hj; exact hD
    · subst hA
      refine hK _ _ ⟨hG', fun j m hj hw => ?_, updV v k x, fit x, fun i hi hf => ?_⟩
      · by_cases e : j = k
        · subst e
          unfold waits at hw
          rw [hlk] at hw
          have hm : m ∈ depsOf o := by simpa using hw
          obtain ⟨g, hg, rfl⟩ := List.mem_map.1 hm
          obtain ⟨hg1, hg2⟩ := List.mem_filter.1 hg
          unfold more
          rw [hd g hg1 hg2]
          rfl
        · unfold more
          rw [hW j m (more_of hj e) hw]
          rfl
      by_cases e : i = k
      · subst e
        exact hx
      · refine hst i e (fun hfi => ?_) (by cases hw : waits l i k with | false => rfl | true => exact absurd (hW i k (more_of hi e) hw) (by simp [hD])) (fun m hm => ?_) (hR i (more_of hi e) fun j hj => ?_)
        · have := hf k hfi
          rw [more_self] at this
          cases this
        · cases hw : waits l k m with
          | false => rfl
          | true =>
            have hmf := hf m hm
            unfold waits at hw
            rw [hlk] at hw
            have hmo : m ∈ depsOf o := by simpa using hw
            obtain ⟨g, hg, rfl⟩ := List.mem_map.1 hmo
            obtain ⟨hg1, hg2⟩ := List.mem_filter.1 hg
            unfold more at hmf
            rw [hd g hg1 hg2] at hmf
            cases hmf
        · have := hf j hj
          unfold more at this
          simp only [Bool.or_eq_false_iff] at this
          exact this.1

/-- The law: a region that draws its order. -/
theorem wp_region_resG {id : Nat} {l : List Oper} {a : Act} {w : World} (hm : P.follows .mixedOrders = true) (G : (Nat → Bool) → World → Prop) (R : Nat → (Nat → Value) → World → Prop) (fin : Nat → Option Nat)
    (hf : forwards l = true) (hn : (dstsOf l).Nodup) (h0 : G (fun _ => false) w.drew) (hst : resStepsG P Q l a G R fin 0 l)
    (hend : ∀ (D : Nat → Bool) (v : Nat → Value) (w' : World), (∀ i, i < l.length → D i = true) → G D w' → (∀ i, i < l.length → fin i = none → R i v w') → Q .normal (puts a (slotsOf 0 l v)) w') : (Code.region id l.toArray true).wp P Q a w := by
  refine wp_region_inv hm (resInvG l a G R fin) hf ?_ (res_invG hn l 0 (fun j => by rw [Nat.zero_add]) hst) fun D A w' hI hall => ?_
  · obtain ⟨v, hv⟩ := puts_self l 0 a
    exact ⟨h0, (fun j k hj => by cases hj), v, hv.symm, fun i hi => by cases hi⟩
  · obtain ⟨hG, _, v, rfl, hR⟩ := hI
    exact hend D v w' hall hG fun i hi hfi => hR i (hall i hi) fun j hj => by rw [hfi] at hj; cases hj
end
end Go.Proofs.Ytinkbiinbfbjgaa

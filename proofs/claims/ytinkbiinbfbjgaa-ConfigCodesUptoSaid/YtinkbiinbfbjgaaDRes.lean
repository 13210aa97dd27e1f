/- A region that draws its order, walked operation by operation: what each operation's value is ('R'), and by which later operation it is used up ('fin'). No program is named here. -/
import Derived.Test.YtinkbiinbfbjgaaDInv
namespace Go.Proofs.Ytinkbiinbfbjgaa
open Go.RowKit
set_option linter.unusedVariables false

/-- The slots that some operations write, with values. -/
def slotsOf : Nat → List Oper → (Nat → Value) → List (Nat × Value)
  | _, [], _ => []
  | i, o :: r, v => match o.dst with
    | some d => (d, v i) :: slotsOf (i + 1) r v
    | none => slotsOf (i + 1) r v
theorem slotsOf_nil (i : Nat) (v : Nat → Value) : slotsOf i [] v = [] := rfl
theorem slotsOf_some (i : Nat) (d : Nat) (op : Op) (ty : TypeId) (pos : String) (af : Array Edge) (g : Option (Nat × Bool)) (r : List Oper) (v : Nat → Value) : slotsOf i (⟨some d, op, ty, pos, af, g⟩ :: r) v = (d, v i) :: slotsOf (i + 1) r v := rfl
theorem slotsOf_none (i : Nat) (op : Op) (ty : TypeId) (pos : String) (af : Array Edge) (g : Option (Nat × Bool)) (r : List Oper) (v : Nat → Value) : slotsOf i (⟨none, op, ty, pos, af, g⟩ :: r) v = slotsOf (i + 1) r v := rfl
def dstsOf (l : List Oper) : List Nat := l.filterMap (·.dst)
def updV (v : Nat → Value) (i : Nat) (x : Value) : Nat → Value := fun j => if j = i then x else v j

theorem put_put_ne (a : Act) {d e : Nat} (h : d ≠ e) (x y : Value) : (a.put (some d) x).put (some e) y = (a.put (some e) y).put (some d) x := by
  simp only [Act.put]
  rw [Array.setIfInBounds_comm _ _ h]
theorem put_put_eq (a : Act) (d : Nat) (x y : Value) : (a.put (some d) x).put (some d) y = a.put (some d) y := by
  simp only [Act.put, Array.setIfInBounds_setIfInBounds]
theorem puts_put (L : List (Nat × Value)) : ∀ (a : Act) (d : Nat) (x : Value), d ∉ L.map (·.1) → puts (a.put (some d) x) L = (puts a L).put (some d) x := by
  induction L with
  | nil => intro a d x _; rfl
  | cons p r ih =>
    intro a d x h
    obtain ⟨e, y⟩ := p
    simp only [List.map_cons, List.mem_cons, not_or] at h
    rw [puts_cons, puts_cons, put_put_ne a h.1, ih _ _ _ h.2]
theorem slots_fst : ∀ (l : List Oper) (i : Nat) (v : Nat → Value), (slotsOf i l v).map (·.1) = dstsOf l
  | [], _, _ => rfl
  | o :: r, i, v => by
    have ih := slots_fst r (i + 1) v
    unfold slotsOf dstsOf
    cases h : o.dst with
    | some d => simp only [List.map_cons, List.filterMap_cons, h]; rw [ih]; rfl
    | none => simp only [List.filterMap_cons, h]; rw [ih]; rfl
theorem slots_upd_low : ∀ (l : List Oper) (i k : Nat) (v : Nat → Value) (x : Value), k < i → slotsOf i l (updV v k x) = slotsOf i l v
  | [], _, _, _, _, _ => rfl
  | o :: r, i, k, v, x, h => by
    have ih := slots_upd_low r (i + 1) k v x (by omega)
    have e : updV v k x i = v i := if_neg (by omega)
    unfold slotsOf
    cases o.dst with
    | some d => simp only [e, ih]
    | none => exact ih
theorem puts_upd : ∀ (l : List Oper) (i k : Nat) (a : Act) (v : Nat → Value) (x : Value) (o : Oper), (dstsOf l).Nodup → l[k]? = some o →
    puts a (slotsOf i l (updV v (i + k) x)) = (puts a (slotsOf i l v)).put o.dst x
  | [], _, _, _, _, _, _, _, h => by simp at h
  | p :: r, i, 0, a, v, x, o, hn, h => by
    simp at h
    subst h
    have hlow := slots_upd_low r (i + 1) i v x (by omega)
    have e : updV v i x i = x := if_pos rfl
    unfold slotsOf
    cases hd : p.dst with
    | some d =>
      simp only [Nat.add_zero, e, hlow, puts_cons]
      have hnd : d ∉ (slotsOf (i + 1) r v).map (·.1) := by
        rw [slots_fst]
        unfold dstsOf at hn
        simp only [List.filterMap_cons, hd, List.nodup_cons] at hn
        exact hn.1
      rw [puts_put _ _ _ _ hnd, puts_put _ _ _ _ hnd, put_put_eq]
    | none => simp only [Nat.add_zero, hlow]; rfl
  | p :: r, i, k + 1, a, v, x, o, hn, h => by
    have hn' : (dstsOf r).Nodup := by
      unfold dstsOf at hn ⊢
      simp only [List.filterMap_cons] at hn
      cases hd : p.dst with
      | some d => rw [hd] at hn; exact (List.nodup_cons.1 hn).2
      | none => rw [hd] at hn; exact hn
    have e : updV v (i + (k + 1)) x i = v i := if_neg (by omega)
    unfold slotsOf
    have e2 : i + (k + 1) = i + 1 + k := by omega
    cases hd : p.dst with
    | some d =>
      simp only [e, puts_cons]
      rw [e2]
      exact puts_upd r (i + 1) k _ v x o hn' (by simpa using h)
    | none =>
      simp only
      rw [e2]
      exact puts_upd r (i + 1) k _ v x o hn' (by simpa using h)
theorem puts_self : ∀ (l : List Oper) (i : Nat) (a : Act), ∃ v, puts a (slotsOf i l v) = a
  | [], _, a => ⟨fun _ => undef, rfl⟩
  | o :: r, i, a => by
    obtain ⟨v, hv⟩ := puts_self r (i + 1) a
    cases hd : o.dst with
    | none =>
      refine ⟨v, ?_⟩
      unfold slotsOf
      rw [hd]
      exact hv
    | some d =>
      refine ⟨updV v i (a.tmps.getD d undef), ?_⟩
      unfold slotsOf
      rw [hd]
      have e : updV v i (a.tmps.getD d undef) i = a.tmps.getD d undef := if_pos rfl
      simp only [e, puts_cons]
      rw [slots_upd_low _ _ _ _ _ (by omega)]
      have hs : a.put (some d) (a.tmps.getD d undef) = a := by
        simp only [Act.put]
        have : a.tmps.setIfInBounds d (a.tmps.getD d undef) = a.tmps := by
          apply Array.ext
          · simp
          · intro j h1 h2
            rw [Array.getElem_setIfInBounds]
            split
            · subst_vars; simp [h2]
            · rfl
        rw [this]
      rw [hs]
      exact hv

section
variable {P : Program} {Q : Exit → Act → World → Prop}

def depsOf (o : Oper) : List Nat := (o.after.toList.filter (Region.binds .any)).map (·.on)
theorem depsOf_mem {o : Oper} {e : Edge} (h : e ∈ o.after.toList) (hb : Region.binds .any e = true) : e.on ∈ depsOf o :=
  List.mem_map.2 ⟨e, List.mem_filter.2 ⟨h, hb⟩, rfl⟩

/-- Does an operation wait for another one? -/
def waits (l : List Oper) (j i : Nat) : Bool := match l[j]? with
  | some o => (depsOf o).contains i
  | none => false

/-- One operation's step, behind a name that nothing unfolds. -/
structure ResDo (P : Program) (o : Oper) (y : Nat → Option Bool) (A : Act) (w : World) (K : Act → World → Prop) (Q : Exit → Act → World → Prop) : Prop where
  out : if Region.wanted o y then o.wp P A w K Q else K (A.put o.dst undef) w

/-- What one operation owes. -/
def resStepV (P : Program) (Q : Exit → Act → World → Prop) (l : List Oper) (a : Act) (G : World → Prop) (R : Nat → (Nat → Value) → World → Prop) (fin : Nat → Option Nat) (i : Nat) (o : Oper) : Prop :=
  ∀ (v : Nat → Value) (w : World), G w → (∀ e, e ∈ depsOf o → (fin e = none ∨ fin e = some i) → R e v w) →
    ∀ K : Act → World → Prop, (∀ (x : Value) (A : Act) (w' : World), A = (puts a (slotsOf 0 l v)).put o.dst x → G w' → R i (updV v i x) w' → (∀ j, j ≠ i → fin j ≠ some i → waits l j i = false → (∀ m, fin j = some m → waits l i m = false) → R j v w → R j (updV v i x) w') → K A w') →
      ResDo P o (yielded l.toArray (puts a (slotsOf 0 l v)).tmps) (puts a (slotsOf 0 l v)) w K Q
def resStepsV (P : Program) (Q : Exit → Act → World → Prop) (l : List Oper) (a : Act) (G : World → Prop) (R : Nat → (Nat → Value) → World → Prop) (fin : Nat → Option Nat) : Nat → List Oper → Prop
  | _, [] => True
  | i, o :: r => resStepV P Q l a G R fin i o ∧ resStepsV P Q l a G R fin (i + 1) r
theorem resStepsV_nil {l : List Oper} {a : Act} {G : World → Prop} {R : Nat → (Nat → Value) → World → Prop} {fin : Nat → Option Nat} {i : Nat} : resStepsV P Q l a G R fin i [] := trivial
theorem resStepsV_cons {l : List Oper} {a : Act} {G : World → Prop} {R : Nat → (Nat → Value) → World → Prop} {fin : Nat → Option Nat} {i : Nat} {o : Oper} {r : List Oper}
    (h : resStepV P Q l a G R fin i o) (h' : resStepsV P Q l a G R fin (i + 1) r) : resStepsV P Q l a G R fin i (o :: r) := ⟨h, h'⟩

/-- The invariant. -/
def resInvV (l : List Oper) (a : Act) (G : World → Prop) (R : Nat → (Nat → Value) → World → Prop) (fin : Nat → Option Nat) (D : Nat → Bool) (A : Act) (w : World) : Prop :=
  G w ∧ (∀ j k, D j = true → waits l j k = true → D k = true) ∧ ∃ v : Nat → Value, A = puts a (slotsOf 0 l v) ∧ ∀ i, D i = true → (∀ j, fin i = some j → D j = false) → R i v w

theorem res_invV {l : List Oper} {a : Act} {G : World → Prop} {R : Nat → (Nat → Value) → World → Prop} {fin : Nat → Option Nat} (hn : (dstsOf l).Nodup) :
    ∀ (r : List Oper) (k : Nat), (∀ j, r[j]? = l[k + j]?) → resStepsV P Q l a G R fin k r → invSteps P l.toArray Q (resInvV l a G R fin) k r := by
  intro r
  induction r with
  | nil => intro k _ _; trivial
  | cons o t ih =>
    intro k hl h
    refine ⟨?_, ih (k + 1) (fun j => by have := hl (j + 1); rw [show k + 1 + j = k + (j + 1) by omega, ← this]; rfl) h.2⟩
    refine invStep_of fun D A w hI hD hd K hK => ?_
    obtain ⟨hG, hW, v, rfl, hR⟩ := hI
    have hlk : l[k]? = some o := by have := hl 0; simpa using this.symm
    have fit : ∀ x, (puts a (slotsOf 0 l v)).put o.dst x = puts a (slotsOf 0 l (updV v k x)) := fun x => by
      have := puts_upd l 0 k a v x o hn hlk
      rw [Nat.zero_add] at this
      exact this.symm
    refine (h.1 v w hG (fun e he hf => ?_) K (fun x A w' hA hG' hx hst => ?_)).out
    · obtain ⟨g, hg, rfl⟩ := List.mem_map.1 he
      obtain ⟨hg1, hg2⟩ := List.mem_filter.1 hg
      refine hR g.on (hd g hg1 hg2) fun j hj => ?_
      rcases hf with hf | hf
      · rw [hf] at hj; cases hj
      · rw [hf] at hj; cases hj; exact hD
    · subst hA
      refine hK _ _ ⟨hG', fun j m hj hw => ?_, updV v k x, fit x, fun i hi hf => ?_⟩
      · by_cases e : j = k
        · subst e
          unfold waits at hw
          rw [hlk] at hw
          have hm : m ∈ depsOf o := by simpa using hw
          obtain ⟨g, hg, rfl⟩ := List.mem_map.1 hm
          obtain ⟨hg1, hg2⟩ := List.mem_filter.1 hg
          unfold more
          rw [hd g hg1 hg2]
          rfl
        · unfold more
          rw [hW j m (more_of hj e) hw]
          rfl
      by_cases e : i = k
      · subst e
        exact hx
      · refine hst i e (fun hfi => ?_) (by cases hw : waits l i k with | false => rfl | true => exact absurd (hW i k (more_of hi e) hw) (by simp [hD])) (fun m hm => ?_) (hR i (more_of hi e) fun j hj => ?_)
        · have := hf k hfi
          rw [more_self] at this
          cases this
        · cases hw : waits l k m with
          | false => rfl
          | true =>
            have hmf := hf m hm
            unfold waits at hw
            rw [hlk] at hw
            have hmo : m ∈ depsOf o := by simpa using hw
            obtain ⟨g, hg, rfl⟩ := List.mem_map.1 hmo
            obtain ⟨hg1, hg2⟩ := List.mem_filter.1 hg
            unfold more at hmf
            rw [hd g hg1 hg2] at hmf
            cases hmf
        · have := hf j hj
          unfold more at this
          simp only [Bool.or_eq_false_iff] at this
          exact this.1

/-- The law: a region that draws its order. -/
theorem wp_region_resV {id : Nat} {l : List Oper} {a : Act} {w : World} (hm : P.follows .mixedOrders = true) (G : World → Prop) (R : Nat → (Nat → Value) → World → Prop) (fin : Nat → Option Nat)
    (hf : forwards l = true) (hn : (dstsOf l).Nodup) (h0 : G w.drew) (hst : resStepsV P Q l a G R fin 0 l)
    (hend : ∀ (v : Nat → Value) (w' : World), G w' → (∀ i, i < l.length → fin i = none → R i v w') → Q .normal (puts a (slotsOf 0 l v)) w') : (Code.region id l.toArray true).wp P Q a w := by
  refine wp_region_inv hm (resInvV l a G R fin) hf ?_ (res_invV hn l 0 (fun j => by rw [Nat.zero_add]) hst) fun D A w' hI hall => ?_
  · obtain ⟨v, hv⟩ := puts_self l 0 a
    exact ⟨h0, (fun j k hj => by cases hj), v, hv.symm, fun i hi => by cases hi⟩
  · obtain ⟨hG, _, v, rfl, hR⟩ := hI
    exact hend v w' hG fun i hi hfi => hR i (hall i hi) fun j hj => by rw [hfi] at hj; cases hj
/-- What one operation owes. -/
def resStep (P : Program) (Q : Exit → Act → World → Prop) (l : List Oper) (a : Act) (G : World → Prop) (R : Nat → Value → World → Prop) (fin : Nat → Option Nat) (i : Nat) (o : Oper) : Prop :=
  ∀ (v : Nat → Value) (w : World), G w → (∀ e, e ∈ depsOf o → (fin e = none ∨ fin e = some i) → R e (v e) w) →
    ∀ K : Act → World → Prop, (∀ (x : Value) (A : Act) (w' : World), A = (puts a (slotsOf 0 l v)).put o.dst x → G w' → R i x w' → (∀ j, j ≠ i → fin j ≠ some i → waits l j i = false → (∀ m, fin j = some m → waits l i m = false) → R j (v j) w → R j (v j) w') → K A w') →
      ResDo P o (yielded l.toArray (puts a (slotsOf 0 l v)).tmps) (puts a (slotsOf 0 l v)) w K Q
def resSteps (P : Program) (Q : Exit → Act → World → Prop) (l : List Oper) (a : Act) (G : World → Prop) (R : Nat → Value → World → Prop) (fin : Nat → Option Nat) : Nat → List Oper → Prop
  | _, [] => True
  | i, o :: r => resStep P Q l a G R fin i o ∧ resSteps P Q l a G R fin (i + 1) r
theorem resSteps_nil {l : List Oper} {a : Act} {G : World → Prop} {R : Nat → Value → World → Prop} {fin : Nat → Option Nat} {i : Nat} : resSteps P Q l a G R fin i [] := trivial
theorem resSteps_cons {l : List Oper} {a : Act} {G : World → Prop} {R : Nat → Value → World → Prop} {fin : Nat → Option Nat} {i : Nat} {o : Oper} {r : List Oper}
    (h : resStep P Q l a G R fin i o) (h' : resSteps P Q l a G R fin (i + 1) r) : resSteps P Q l a G R fin i (o :: r) := ⟨h, h'⟩

theorem updV_ne {v : Nat → Value} {i j : Nat} {x : Value} (h : j ≠ i) : updV v i x j = v j := if_neg h
theorem updV_self {v : Nat → Value} {i : Nat} {x : Value} : updV v i x i = x := if_pos rfl
theorem resSteps_V {l : List Oper} {a : Act} {G : World → Prop} {R : Nat → Value → World → Prop} {fin : Nat → Option Nat} :
    ∀ (r : List Oper) (k : Nat), resSteps P Q l a G R fin k r → resStepsV P Q l a G (fun i v w => R i (v i) w) fin k r
  | [], _, _ => trivial
  | o :: r, k, h => by
    refine ⟨fun v w hG hd K hK => h.1 v w hG hd K fun x A w' hA hG' hx hst => ?_, resSteps_V r (k + 1) h.2⟩
    refine hK x A w' hA hG' (by show R k (updV v k x k) w'; rw [updV_self]; exact hx) fun j hj hf hw hm hr => ?_
    show R j (updV v k x j) w'
    rw [updV_ne hj]
    exact hst j hj hf hw hm hr
/-- The law, where each fact is on the operation's own value alone. -/
theorem wp_region_res {id : Nat} {l : List Oper} {a : Act} {w : World} (hm : P.follows .mixedOrders = true) (G : World → Prop) (R : Nat → Value → World → Prop) (fin : Nat → Option Nat)
    (hf : forwards l = true) (hn : (dstsOf l).Nodup) (h0 : G w.drew) (hst : resSteps P Q l a G R fin 0 l)
    (hend : ∀ (v : Nat → Value) (w' : World), G w' → (∀ i, i < l.length → fin i = none → R i (v i) w') → Q .normal (puts a (slotsOf 0 l v)) w') : (Code.region id l.toArray true).wp P Q a w := by
  exact wp_region_resV hm G (fun i v w => R i (v i) w) fin hf hn h0 (resSteps_V l 0 hst) hend
end
end Go.Proofs.Ytinkbiinbfbjgaa

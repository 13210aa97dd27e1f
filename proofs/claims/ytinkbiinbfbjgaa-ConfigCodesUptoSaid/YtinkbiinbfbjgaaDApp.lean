/- append to nil or an own slice, of a row that can be read: at one operation, and at a step of a region that draws its order. No program is named here. -/
import Derived.Test.YtinkbiinbfbjgaaDRes
import Derived.Maps.AppendAt
import Derived.ArgAppend
namespace Go.Proofs.Ytinkbiinbfbjgaa
open Go.RowKit
set_option linter.unusedVariables false

theorem run_app {P : Program} {t ty e : TypeId} {z : Value} {size bytes : Nat} (E : ElemT P t e z size bytes) (base : Nat) {w : World}
    (v : Value) (n : Nat) (xs : List Value) (hown : w.ownsRow base e size v n xs)
    (ao : Option Addr) (m c : Nat) (news : List Value) (hl : news.length = m * size) (hrow : Row w ao news) (h1 : ∀ u ∈ news, u.oneCell' = true)
    (hbytes : (n + m) * bytes ≤ 140737488355328) (hbase : base ≤ w.heap.size) :
    ∃ A C w', (Builtin.append_ #[t, t] ty #[v, .slice ao m c]).run P w = .ok (.slice A (n + m) C) w' ∧ w'.ownsRow base e size (.slice A (n + m) C) (n + m) (xs ++ news) ∧ w.grownBy w' v.ownBlock ∧ Below base w w' := by
  obtain ⟨i, hi, hz, hsize, hby⟩ := E.info
  have h63 : n + m ≤ maxLen := by
    have h1 := Nat.le_mul_of_pos_right (n + m) E.hbz
    unfold maxLen
    omega
  have hm0 : news = [] → m = 0 := by
    intro h0
    rw [h0] at hl
    have := E.hsz
    rcases Nat.mul_eq_zero.1 (show m * size = 0 by simpa using hl.symm) with h | h
    · exact h
    · omega
  have own : ∀ (ad : Addr) (hnews : ∀ j u, news[j]? = some u → w.cell? (ad.add j) = some u), ∃ A C w', (Builtin.append_ #[t, t] ty #[v, .slice (some ad) m c]).run P w = .ok (.slice A (n + m) C) w' ∧ w'.ownsRow base e size (.slice A (n + m) C) (n + m) (xs ++ news) ∧ w.grownBy w' v.ownBlock ∧ Below base w w' := by
    intro ad hnews
    obtain ⟨v', w', hr, h2, h3, _, _⟩ := run_append_own_at (P := P) w base t ty e i z size bytes E.ht hi hz hsize hby E.hzs E.hsz v n xs hown ad m c news hl hnews h1 h63 hbytes hbase
    obtain ⟨A, C, hv, _⟩ := own_slice h2
    subst hv
    exact ⟨A, C, w', hr, h2, h3, (Below.refl _ _).grown h3 hbase fun k hk => (hown.lt k hk).1⟩
  cases ao with
  | none =>
    have h0 : news = [] := by
      rcases hrow with h | ⟨b, o, hb, _⟩
      · exact h
      · cases hb
    have hm := hm0 h0
    obtain ⟨A, C, hv, _⟩ := own_slice hown
    refine ⟨A, C, w, ?_, by subst h0; subst hm; rw [hv] at hown; simpa using hown, ⟨rfl, rfl, rfl, Nat.le_refl _, fun _ _ _ => rfl⟩, Below.refl _ _⟩
    subst hm
    rcases hown.2 with ⟨rfl, rfl⟩ | ⟨g, cap, cur, rfl, _, _, hnc, _⟩
    · cases hv
      simp [Builtin.append_, run_underlying E.ht, sizeOf, typeInfo, hi, Builtin.lenOf, Builtin.firstCells]
    · cases hv
      simp [Builtin.append_, run_underlying E.ht, sizeOf, typeInfo, hi, Builtin.lenOf, Builtin.firstCells, hnc, storeCells]
  | some ad =>
    by_cases h0 : news = []
    · exact own ad (by subst h0; simp)
    · obtain ⟨b, o', hb, _, hc⟩ := hrow.open (by cases news with | nil => simp at h0 | cons _ _ => simp)
      cases hb
      refine own _ fun j u hj => ?_
      obtain ⟨hj', rfl⟩ := List.getElem?_eq_some_iff.1 hj
      have := hc j hj'
      simp only [List.getD, List.getElem?_eq_getElem hj', Option.getD_some] at this
      rw [← this]
      unfold Addr.add
      split
      · rename_i h; subst h; rfl
      · rfl

theorem own_below {w w' : World} {base : Nat} {e : TypeId} {size : Nat} {v : Value} {n : Nat} {xs : List Value} (h : w.ownsRow base e size v n xs) (hb : Below w.heap.size w w') : w'.ownsRow base e size v n xs :=
  h.kept (grown_of_below hb none) (by cases hv : v.ownBlock <;> simp)

/-- At the operation. -/
theorem wp_app {P : Program} {t e : TypeId} {z : Value} {size bytes : Nat} (E : ElemT P t e z size bytes) (base : Nat) {w : World} {o : Oper} {a : Act} {K : Act → World → Prop} {Q : Exit → Act → World → Prop} (s x : Operand)
    (ho : o.op = .call { callee := .builtin .append, args := #[s, x], argTypes := #[t, t] })
    (v : Value) (n : Nat) (xs : List Value) (hs : a.eval s = v) (hown : w.ownsRow base e size v n xs)
    (ao : Option Addr) (m c : Nat) (news : List Value) (hx : a.eval x = .slice ao m c) (hl : news.length = m * size) (hrow : Row w ao news) (h1 : ∀ u ∈ news, u.oneCell' = true)
    (hbytes : (n + m) * bytes ≤ 140737488355328) (hbase : base ≤ w.heap.size)
    (h : ∀ A C w', w'.ownsRow base e size (.slice A (n + m) C) (n + m) (xs ++ news) → w.grownBy w' v.ownBlock → Below base w w' → K (a.put o.dst (.slice A (n + m) C)) w') : o.wp P a w K Q := by
  obtain ⟨A, C, w', hr, h2, h3, h4⟩ := run_app E (ty := o.type) base v n xs hown ao m c news hl hrow h1 hbytes hbase
  unfold Oper.wp execOp
  simp only [ho, resolve, invoke, builtin, Sem.run_bind, Sem.run_pure, Result.andThen_ok, List.map_toArray, List.map_cons, List.map_nil, hs, hx, hr]
  exact h A C w' h2 h3 h4

/-- At a step of a region that draws its order. -/
theorem step_app {P : Program} {t e : TypeId} {z : Value} {size bytes : Nat} (E : ElemT P t e z size bytes) (base : Nat) {w : World} {o : Oper} {a : Act} {y : Nat → Option Bool} {K : Act → World → Prop} {Q : Exit → Act → World → Prop} {F : Prop} (hgd : o.guard = none) (s x : Operand)
    (ho : o.op = .call { callee := .builtin .append, args := #[s, x], argTypes := #[t, t] })
    (v : Value) (n : Nat) (xs : List Value) (hs : a.eval s = v) (hown : w.ownsRow base e size v n xs)
    (ao : Option Addr) (m c : Nat) (news : List Value) (hx : a.eval x = .slice ao m c) (hl : news.length = m * size) (hrow : Row w ao news) (h1 : ∀ u ∈ news, u.oneCell' = true)
    (hbytes : (n + m) * bytes ≤ 140737488355328) (hbase : base ≤ w.heap.size)
    (h : ∀ A C w', w'.ownsRow base e size (.slice A (n + m) C) (n + m) (xs ++ news) → w.grownBy w' v.ownBlock → Below base w w' → K (a.put o.dst (.slice A (n + m) C)) w') :
    if Region.wanted o y = true then o.wp P a w K Q else F := by
  rw [if_pos (by unfold Region.wanted; rw [hgd])]
  exact wp_app E base s x ho v n xs hs hown ao m c news hx hl hrow h1 hbytes hbase h

/-- append to an empty slice without room: nothing that was is changed. -/
theorem run_app0 {P : Program} {t ty e : TypeId} {z : Value} {size bytes : Nat} (E : ElemT P t e z size bytes) {w : World} (p : Addr)
    (ao : Option Addr) (m c : Nat) (news : List Value) (hl : news.length = m * size) (hrow : Row w ao news)
    (hbytes : m * bytes ≤ 140737488355328) :
    ∃ A C w', (Builtin.append_ #[t, t] ty #[.slice (some p) 0 0, .slice ao m c]).run P w = .ok (.slice A m C) w' ∧ Row w' A news ∧ Below w.heap.size w w' := by
  obtain ⟨i, hi, hz, hsize, hby⟩ := E.info
  have h63 : m ≤ maxLen := by
    have h1 := Nat.le_mul_of_pos_right m E.hbz
    unfold maxLen
    omega
  by_cases h0 : news = []
  · have hm : m = 0 := by
      rw [h0] at hl
      have := E.hsz
      rcases Nat.mul_eq_zero.1 (show m * size = 0 by simpa using hl.symm) with h | h
      · exact h
      · omega
    subst h0
    subst hm
    refine ⟨some p, 0, w, ?_, Row.nil _ _, Below.refl _ _⟩
    cases ao with
    | none => simp [Builtin.append_, run_underlying E.ht, sizeOf, typeInfo, hi, Builtin.lenOf, Builtin.firstCells, storeCells]
    | some ad => simp [Builtin.append_, run_underlying E.ht, sizeOf, typeInfo, hi, Builtin.lenOf, Builtin.firstCells, loadCells, loadCellsFrom, storeCells]
  · have hpos : 0 < news.length := by cases news with | nil => exact absurd rfl h0 | cons _ _ => simp
    obtain ⟨b, o', hb, _, hc⟩ := hrow.open hpos
    subst hb
    have hm : 0 < m := by
      rcases Nat.eq_zero_or_pos m with h | h
      · rw [h, Nat.zero_mul] at hl; omega
      · exact h
    obtain ⟨v', w', hr, hown, hg⟩ := run_append_arg_grows (P := P) w t ty e i z size bytes E.ht hi hz hsize hby E.hzs E.hsz p 0 0 [] (by simp) (by simp) ⟨b, o', none⟩ m c news hl (fun j u hj => by
      obtain ⟨hj', rfl⟩ := List.getElem?_eq_some_iff.1 hj
      have := hc j hj'
      simp only [List.getD, List.getElem?_eq_getElem hj', Option.getD_some] at this
      rw [← this]
      unfold Addr.add
      split
      · rename_i h; subst h; rfl
      · rfl) (by omega) (by simpa using h63) (by simpa using hbytes)
    obtain ⟨A, C, hv, _⟩ := own_slice hown
    subst hv
    simp only [Nat.zero_add, List.nil_append] at hr hown
    exact ⟨A, C, w', hr, Row.of_own hown, (Below.refl _ _).grown hg (Nat.le_refl _) fun k hk => by cases hk⟩

theorem wp_app0 {P : Program} {t e : TypeId} {z : Value} {size bytes : Nat} (E : ElemT P t e z size bytes) {w : World} {o : Oper} {a : Act} {K : Act → World → Prop} {Q : Exit → Act → World → Prop} (s x : Operand)
    (ho : o.op = .call { callee := .builtin .append, args := #[s, x], argTypes := #[t, t] }) (p : Addr) (hs : a.eval s = .slice (some p) 0 0)
    (ao : Option Addr) (m c : Nat) (news : List Value) (hx : a.eval x = .slice ao m c) (hl : news.length = m * size) (hrow : Row w ao news)
    (hbytes : m * bytes ≤ 140737488355328)
    (h : ∀ A C w', Row w' A news → Below w.heap.size w w' → K (a.put o.dst (.slice A m C)) w') : o.wp P a w K Q := by
  obtain ⟨A, C, w', hr, h2, h4⟩ := run_app0 E (ty := o.type) p ao m c news hl hrow hbytes
  unfold Oper.wp execOp
  simp only [ho, resolve, invoke, builtin, Sem.run_bind, Sem.run_pure, Result.andThen_ok, List.map_toArray, List.map_cons, List.map_nil, hs, hx, hr]
  exact h A C w' h2 h4
theorem step_app0 {P : Program} {t e : TypeId} {z : Value} {size bytes : Nat} (E : ElemT P t e z size bytes) {w : World} {o : Oper} {a : Act} {y : Nat → Option Bool} {K : Act → World → Prop} {Q : Exit → Act → World → Prop} {F : Prop} (hgd : o.guard = none) (s x : Operand)
    (ho : o.op = .call { callee := .builtin .append, args := #[s, x], argTypes := #[t, t] }) (p : Addr) (hs : a.eval s = .slice (some p) 0 0)
    (ao : Option Addr) (m c : Nat) (news : List Value) (hx : a.eval x = .slice ao m c) (hl : news.length = m * size) (hrow : Row w ao news)
    (hbytes : m * bytes ≤ 140737488355328)
    (h : ∀ A C w', Row w' A news → Below w.heap.size w w' → K (a.put o.dst (.slice A m C)) w') :
    if Region.wanted o y = true then o.wp P a w K Q else F := by
  rw [if_pos (by unfold Region.wanted; rw [hgd])]
  exact wp_app0 E s x ho p hs ao m c news hx hl hrow hbytes h
end Go.Proofs.Ytinkbiinbfbjgaa

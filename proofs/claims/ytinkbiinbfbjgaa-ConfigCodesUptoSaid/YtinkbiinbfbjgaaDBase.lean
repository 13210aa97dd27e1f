/- Small lemmas on worlds, rows of cells and slices that the proofs of this seat share. No program is named here. -/
import Derived.WalkKit
import Derived.WalkSpells
import Derived.WalkLawsBesides
import Derived.Deep.LoopGhost
import Derived.Deep.QuietTactic
import Derived.BigQuiet
import Derived.Lib.Hide
import Derived.Deep.Light
import Derived.Laws.AppendOwnNone
import Derived.Deep.RegionWith
import Derived.Deep.RegionHeld3
import Derived.Deep.DeepCutAuto
import Derived.Deep.CutBlock
import Derived.Lib.LazyBuf
namespace Go.Proofs.Ytinkbiinbfbjgaa
open Go.RowKit
set_option linter.unusedVariables false

theorem bcell {W w1 : World} (hb : Below W.heap.size W w1) : (∀ b o, b < W.heap.size → w1.cell? ⟨b, o, none⟩ = W.cell? ⟨b, o, none⟩) ∧ (∀ b o, b < W.heap.size → w1.frozen? ⟨b, o, none⟩ = W.frozen? ⟨b, o, none⟩) :=
  ⟨fun b o h => hb.cell (p := ⟨b, o, none⟩) h, fun b o h => hb.frozen (p := ⟨b, o, none⟩) h⟩
theorem bAlloc {a w : World} (h : Below a.heap.size a w) (o : Obj) : Below a.heap.size a (w.alloc o) := h.alloc h.size o
theorem bTrans {a b c : World} (h : Below a.heap.size a b) (k : Below b.heap.size b c) : Below a.heap.size a c := h.trans (k.mono h.size)
theorem bDrew {a w : World} (h : Below a.heap.size a w) : Below a.heap.size a w.drew := Below.drew h
theorem bUndrew {a w : World} (h : Below a.drew.heap.size a.drew w) : Below a.heap.size a w := bTrans (Below.drew (Below.refl _ _)) h
theorem bDrewN {B : Nat} {a w : World} (h : Below B a w) (n : Nat) : Below B a (w.drewN n) := ⟨h.os, h.tape, h.output, h.size, h.block⟩

/-- The cells of a row that can be read: 'vs' from the place of 'a' on. -/
def Row (w : World) (a : Option Addr) (vs : List Value) : Prop :=
  vs = [] ∨ ∃ b o, a = some ⟨b, o, none⟩ ∧ ∀ i, i < vs.length → w.cell? ⟨b, o + i, none⟩ = some (vs.getD i undef)

theorem Row.nil (w : World) (a : Option Addr) : Row w a [] := .inl rfl

theorem Row.below {w w' : World} {a : Option Addr} {vs : List Value} (h : Row w a vs) (hb : Below w.heap.size w w') : Row w' a vs := by
  rcases h with h | ⟨b, o, ha, hc⟩
  · exact .inl h
  · by_cases h0 : vs = []
    · exact .inl h0
    · refine .inr ⟨b, o, ha, fun i hi => ?_⟩
      have hlt := World.block_lt_of_cell? _ _ (hc i hi)
      rw [(bcell hb).1 b (o + i) hlt]
      exact hc i hi

theorem Row.open {w : World} {a : Option Addr} {vs : List Value} (h : Row w a vs) (h0 : 0 < vs.length) :
    ∃ b o, a = some ⟨b, o, none⟩ ∧ b < w.heap.size ∧ ∀ i, i < vs.length → w.cell? ⟨b, o + i, none⟩ = some (vs.getD i undef) := by
  rcases h with rfl | ⟨b, o, ha, hc⟩
  · simp at h0
  · exact ⟨b, o, ha, World.block_lt_of_cell? _ _ (hc 0 h0), hc⟩

/-- A row of numbers of one kind. -/
def Ints (w : World) (k : IntKind) (a : Option Addr) (l : List Int) : Prop := Row w a (l.map (.int k))

theorem Ints.below {w w' : World} {k : IntKind} {a : Option Addr} {l : List Int} (h : Ints w k a l) (hb : Below w.heap.size w w') : Ints w' k a l := Row.below h hb
theorem Ints.nil (w : World) (k : IntKind) (a : Option Addr) : Ints w k a [] := .inl rfl

theorem Ints.open {w : World} {k : IntKind} {a : Option Addr} {l : List Int} (h : Ints w k a l) (h0 : 0 < l.length) :
    ∃ b o, a = some ⟨b, o, none⟩ ∧ b < w.heap.size ∧ ∀ i, i < l.length → w.cell? ⟨b, o + i, none⟩ = some (.int k (l.getD i 0)) := by
  obtain ⟨b, o, ha, hlt, hc⟩ := Row.open h (by simpa using h0)
  refine ⟨b, o, ha, hlt, fun i hi => ?_⟩
  rw [hc i (by simpa using hi)]
  simp [List.getD, hi]

/-- What the laws on append, make ask of a slice's type. -/
structure ElemT (P : Program) (t e : TypeId) (z : Value) (size bytes : Nat) : Prop where
  ht : P.underlying t = some (.slice e)
  info : ∃ i, P.info? e = some i ∧ i.zero = some z ∧ i.size = size ∧ i.bytes = bytes
  hzs : z.cells.size = size
  hsz : 0 < size
  hbz : 0 < bytes
theorem ElemT.of {P : Program} {t e : TypeId} {z : Value} {size bytes : Nat} (ht : P.underlying t = some (.slice e))
    (h : (P.info? e).map (fun i => (i.zero, i.size, i.bytes)) = some (some z, size, bytes)) (hzs : z.cells.size = size) (hsz : 0 < size) (hbz : 0 < bytes) : ElemT P t e z size bytes := by
  obtain ⟨i, h1, h2, h3, h4⟩ := info_parts h
  exact ⟨ht, ⟨i, h1, h2, h3, h4⟩, hzs, hsz, hbz⟩

theorem Row.of_own {w : World} {base : Nat} {e : TypeId} {size : Nat} {A : Option Addr} {n C : Nat} {xs : List Value} (h : w.ownsRow base e size (.slice A n C) n xs) : Row w A xs := by
  rcases h.2 with ⟨hv, hn⟩ | ⟨g, cap, cur, hv, _⟩
  · refine .inl ?_
    have := h.1
    subst hn
    simpa using this
  · cases hv
    refine .inr ⟨g, 0, rfl, fun i hi => ?_⟩
    rw [Nat.zero_add, h.cellAt i (by rw [← h.1]; exact hi)]
    simp [List.getD, hi]

theorem own_slice {w : World} {base : Nat} {e : TypeId} {size : Nat} {v : Value} {n : Nat} {xs : List Value} (h : w.ownsRow base e size v n xs) :
    ∃ A C, v = .slice A n C ∧ (A = none → n = 0 ∧ C = 0) ∧ n ≤ C ∧ (∀ a, A = some a → base ≤ a.block ∧ a.block < w.heap.size) := by
  have hlt := h.lt
  rcases h.2 with ⟨hv, hn⟩ | ⟨g, cap, cur, hv, hg, hh, hc, _⟩
  · exact ⟨none, 0, by rw [hv, hn], fun _ => ⟨hn, rfl⟩, by omega, fun a h => by cases h⟩
  · refine ⟨some ⟨g, 0, none⟩, cap, hv, (fun h => by cases h), hc, fun a h => ?_⟩
    cases h
    exact hlt g (by rw [hv]; rfl)

/-- append to a slice that is nil or the call's own, of a row that can be read (nil, empty or not). -/
theorem wpList_app {P : Program} {t e : TypeId} {z : Value} {size bytes : Nat} (E : ElemT P t e z size bytes) (base : Nat) {w : World} {ops : Array Oper} {rest : List Oper} {o : Oper} {a : Act} {Q : Exit → Act → World → Prop} (hgd : o.guard = none) (s x : Operand)
    (ho : o.op = .call { callee := .builtin .append, args := #[s, x], argTypes := #[t, t] })
    (v : Value) (n : Nat) (xs : List Value) (hs : a.eval s = v) (hown : w.ownsRow base e size v n xs)
    (ao : Option Addr) (m c : Nat) (news : List Value) (hx : a.eval x = .slice ao m c) (hl : news.length = m * size) (hrow : Row w ao news) (h1 : ∀ u ∈ news, u.oneCell' = true)
    (hbytes : (n + m) * bytes ≤ 140737488355328) (hbase : base ≤ w.heap.size)
    (h : ∀ A C w', w'.ownsRow base e size (.slice A (n + m) C) (n + m) (xs ++ news) → w.grownBy w' v.ownBlock → Below base w w' → wpList P ops Q rest (a.put o.dst (.slice A (n + m) C)) w') : wpList P ops Q (o :: rest) a w := by
  obtain ⟨i, hi, hz, hsize, hby⟩ := E.info
  have h63 : n + m ≤ maxLen := by
    have h1 := Nat.le_mul_of_pos_right (n + m) E.hbz
    unfold maxLen
    omega
  have same : news = [] → m = 0 → wpList P ops Q rest (a.put o.dst v) w := by
    intro h0 hm
    subst h0
    subst hm
    obtain ⟨A, C, hv, _⟩ := own_slice hown
    have := h A C w (by rw [hv] at hown; simpa using hown) ⟨rfl, rfl, rfl, Nat.le_refl _, fun _ _ _ => rfl⟩ (Below.refl _ _)
    rw [hv]
    simpa using this
  cases ao with
  | none =>
    have h0 : news = [] := by
      rcases hrow with h | ⟨b, o, hb, _⟩
      · exact h
      · cases hb
    have hm : m = 0 := by
      rw [h0] at hl
      have := E.hsz
      rcases Nat.mul_eq_zero.1 (show m * size = 0 by simpa using hl.symm) with h | h
      · exact h
      · omega
    refine wpList_plain hgd fun K hK => ?_
    have hrun : (Builtin.append_ #[t, t] o.type #[v, .slice none m c]).run P w = .ok v w := by
      subst hm
      rcases hown.2 with ⟨rfl, rfl⟩ | ⟨g, cap, cur, rfl, _, _, hnc, _⟩
      · simp [Builtin.append_, run_underlying E.ht, sizeOf, typeInfo, hi, Builtin.lenOf, Builtin.firstCells]
      · simp [Builtin.append_, run_underlying E.ht, sizeOf, typeInfo, hi, Builtin.lenOf, Builtin.firstCells, hnc, storeCells]
    unfold Oper.wp
    simp [execOp, ho, resolve, invoke, builtin, hs, hx, hrun, Result.andThen]
    exact hK _ _ (same h0 hm)
  | some ad =>
    by_cases h0 : news = []
    · have hm : m = 0 := by
        rw [h0] at hl
        have := E.hsz
        rcases Nat.mul_eq_zero.1 (show m * size = 0 by simpa using hl.symm) with h | h
        · exact h
        · omega
      refine wpList_append_own w hgd s x t ho base e i z size bytes E.ht hi hz hsize hby E.hzs E.hsz v n xs hs hown ad m c [] hx (by subst h0; exact hl) (by simp) (by simp) h63 hbytes hbase ?_
      intro v' w' h2 h3 _
      obtain ⟨A, C, hv, _⟩ := own_slice h2
      subst hv
      refine h A C w' (by rw [h0]; exact h2) h3 ((Below.refl _ _).grown h3 hbase fun k hk => (hown.lt k hk).1)
    · obtain ⟨b, o', hb, _, hc⟩ := hrow.open (by cases news with | nil => simp at h0 | cons _ _ => simp)
      cases hb
      refine wpList_append_own w hgd s x t ho base e i z size bytes E.ht hi hz hsize hby E.hzs E.hsz v n xs hs hown ⟨b, o', none⟩ m c news hx hl (fun j u hj => ?_) h1 h63 hbytes hbase ?_
      · obtain ⟨hj', rfl⟩ := List.getElem?_eq_some_iff.1 hj
        have := hc j hj'
        simp only [List.getD, List.getElem?_eq_getElem hj', Option.getD_some] at this
        rw [← this]
        unfold Addr.add
        split
        · rename_i h; subst h; rfl
        · rfl
      · intro v' w' h2 h3 _
        obtain ⟨A, C, hv, _⟩ := own_slice h2
        subst hv
        exact h A C w' h2 h3 ((Below.refl _ _).grown h3 hbase fun k hk => (hown.lt k hk).1)

theorem Row.one (w : World) (v : Value) (t : TypeId) : Row (w.alloc (.cells #[v] t)) (some ⟨w.heap.size, 0, none⟩) [v] := by
  refine .inr ⟨_, _, rfl, fun i hi => ?_⟩
  have : i = 0 := by simpa using hi
  subst this
  simp

theorem Row.new (w : World) (cs : List Value) (t : TypeId) : Row (w.alloc (.cells cs.toArray t)) (some ⟨w.heap.size, 0, none⟩) cs := by
  refine .inr ⟨_, _, rfl, fun i hi => ?_⟩
  simp [List.getD, hi]

theorem cell_at {w : World} {g : Nat} {cs : Array Value} {T : TypeId} {f : Nat × Nat} (h : w.heap[g]? = some (.cells cs T f)) (o : Nat) : w.cell? ⟨g, o, none⟩ = cs[o]? := by
  simp [World.cell?, h]
theorem frozen_at {w : World} {g : Nat} {cs : Array Value} {T : TypeId} (h : w.heap[g]? = some (.cells cs T (0, 0))) (o : Nat) : w.frozen? ⟨g, o, none⟩ = false := by
  simp [World.frozen?, h]
theorem heap_lt {w : World} {g : Nat} {o : Obj} (h : w.heap[g]? = some o) : g < w.heap.size := by
  rcases Nat.lt_or_ge g w.heap.size with h1 | h1
  · exact h1
  · rw [Array.getElem?_eq_none h1] at h; cases h
theorem setCell_at {w : World} {g : Nat} {cs : Array Value} {T : TypeId} {f : Nat × Nat} (h : w.heap[g]? = some (.cells cs T f)) (o : Nat) (v : Value) :
    (w.setCell ⟨g, o, none⟩ v).heap[g]? = some (.cells (cs.setIfInBounds o v) T f) := by
  have hg : g < w.heap.size := by
    rcases Nat.lt_or_ge g w.heap.size with h1 | h1
    · exact h1
    · rw [Array.getElem?_eq_none h1] at h; cases h
  simp only [World.setCell, Array.getElem?_modify, if_pos, h]
  rfl

theorem grown_of_below {w w1 : World} (hb : Below w.heap.size w w1) (row : Option Nat) : w.grownBy w1 row := ⟨hb.os, hb.tape, hb.output, hb.size, fun k hk _ => hb.block k hk⟩
theorem grown_set {w w1 : World} {g : Nat} (h : w.grownBy w1 (some g)) (o : Nat) (v : Value) : w.grownBy (w1.setCell ⟨g, o, none⟩ v) (some g) :=
  ⟨h.os, h.tape, h.output, by simpa using h.size, fun k hk hne => by rw [Below.heap_setCell _ _ _ _ (fun e => hne (by rw [e]))]; exact h.block k hk hne⟩

theorem Row.other {w : World} {a : Option Addr} {vs : List Value} (h : Row w a vs) {p : Addr} (hp : ∀ x, a = some x → x.block ≠ p.block) (v : Value) : Row (w.setCell p v) a vs := by
  rcases h with h | ⟨b, o, rfl, hc⟩
  · exact .inl h
  · refine .inr ⟨b, o, rfl, fun i hi => ?_⟩
    rw [World.cell?_setCell_other _ _ _ _ (fun e => hp _ rfl (by rw [e]))]
    exact hc i hi

theorem heap_alloc_old (w : World) (o : Obj) (k : Nat) (h : k < w.heap.size) : (w.alloc o).heap[k]? = w.heap[k]? := Below.heap_alloc w o k h
theorem keepC {w w1 : World} (hb : Below w.heap.size w w1) {b o : Nat} {v : Value} (h : w.cell? ⟨b, o, none⟩ = some v) : w1.cell? ⟨b, o, none⟩ = some v := by
  have hlt := World.block_lt_of_cell? _ _ h
  rw [(bcell hb).1 b o hlt]
  exact h
theorem keepH {w w1 : World} (hb : Below w.heap.size w w1) {b : Nat} {o : Obj} (h : w.heap[b]? = some o) : w1.heap[b]? = some o := by
  rw [hb.block b (heap_lt h)]
  exact h
theorem keepF {w w1 : World} (hb : Below w.heap.size w w1) {b o : Nat} {v : Value} (h : w.cell? ⟨b, o, none⟩ = some v) (hf : w.frozen? ⟨b, o, none⟩ = false) : w1.frozen? ⟨b, o, none⟩ = false := by
  have hlt := World.block_lt_of_cell? _ _ h
  rw [(bcell hb).2 b o hlt]
  exact hf

theorem oneCell_ints (k : IntKind) (l : List Int) : ∀ u ∈ l.map (Value.int k), u.oneCell' = true := by
  intro u hu
  obtain ⟨n, _, rfl⟩ := List.mem_map.1 hu
  rfl

theorem sizeOf_run {P : Program} {e : TypeId} {size : Nat} (h : (P.info? e).map (·.size) = some size) (w : World) : (sizeOf e).run P w = .ok size w := by
  cases hi : P.info? e with
  | none => simp [hi] at h
  | some i =>
    simp [hi] at h
    simp [sizeOf, typeInfo, hi, h]

theorem part_int {P : Program} {e : TypeId} {k : IntKind} (he : P.underlying e = some (.int k)) (cs : Array Value) (i : Nat) (v : Value) (hv : cs[i]? = some v) (w : World) : (part e cs i).run P w = .ok v w := by
  simp [part, isAgg, run_underlying he, hv]

theorem eq_array_go {P : Program} {e : TypeId} {k : IntKind} (he : P.underlying e = some (.int k)) (xs ys : List Int) (d : Nat) (w : World) :
    ∀ (m s : Nat), s + m = xs.length → s + m = ys.length →
      (forIn (List.range' s m) ((none, ()) : Option Bool × Unit) (fun i (_ : Option Bool × Unit) => do
        if !(← Op.equalIn (d + 1) e (← part e (xs.map (Value.int k)).toArray (i * 1)) (← part e (ys.map (Value.int k)).toArray (i * 1))) then return ForInStep.done ((some false, ()) : Option Bool × Unit)
        return ForInStep.yield (none, ()))).run P w = .ok (if xs.drop s = ys.drop s then (none, ()) else (some false, ())) w := by
  intro m
  induction m with
  | zero =>
    intro s h1 h2
    simp [List.drop_of_length_le (show xs.length ≤ s by omega), List.drop_of_length_le (show ys.length ≤ s by omega)]
  | succ m ih =>
    intro s h1 h2
    have hx : s < xs.length := by omega
    have hy : s < ys.length := by omega
    have e1 := part_int (P := P) he (xs.map (Value.int k)).toArray (s * 1) (.int k xs[s]) (by simp [hx]) w
    have e2 := part_int (P := P) he (ys.map (Value.int k)).toArray (s * 1) (.int k ys[s]) (by simp [hy]) w
    have e3 := run_equalIn_int (P := P) w d e k k xs[s] ys[s] he
    have e4 := ih (s + 1) (by omega) (by omega)
    rw [List.drop_eq_getElem_cons hx, List.drop_eq_getElem_cons hy]
    simp only [List.range'_succ, List.forIn_cons, Sem.run_bind, e1, e2, e3, Result.andThen_ok]
    by_cases h : xs[s] = ys[s]
    · simp only [h, beq_self_eq_true, Bool.not_true, Bool.false_eq_true, if_false, Sem.run_pure, Result.andThen_ok, List.cons.injEq, true_and]
      exact e4
    · have hn : ¬(xs[s] :: xs.drop (s + 1) = ys[s] :: ys.drop (s + 1)) := by intro e; exact h (List.cons.inj e).1
      rw [if_neg hn]
      simp [h]

/-- '==' of two arrays of numbers. -/
theorem run_eq_array {P : Program} {t e n : Nat} {k : IntKind} (ht : P.underlying t = some (.array n e)) (he : P.underlying e = some (.int k)) (hs : (P.info? e).map (·.size) = some 1)
    (xs ys : List Int) (hx : xs.length = n) (hy : ys.length = n) (d : Nat) (w : World) :
    (Op.equalIn (d + 2) t (.agg (xs.map (.int k)).toArray) (.agg (ys.map (.int k)).toArray)).run P w = .ok (decide (xs = ys)) w := by
  have h := eq_array_go (P := P) he xs ys d w n 0 (by omega) (by omega)
  rw [Op.equalIn]
  simp only [Sem.run_bind, run_underlying ht, Result.andThen_ok, sizeOf_run hs, Std.Legacy.Range.forIn_eq_forIn_range', Std.Legacy.Range.size, Nat.sub_zero, Nat.add_sub_cancel, Nat.div_one]
  simp only [List.drop_zero] at h
  rw [h]
  by_cases e : xs = ys <;> simp [e]

/-- The number of elements that are in another list. -/
def countIn (vs nodes : List Int) : Int := ((vs.filter (· ∈ nodes)).length : Int)
theorem countIn_nil (n : List Int) : countIn [] n = 0 := rfl
theorem countIn_snoc (vs n : List Int) (x : Int) : countIn (vs ++ [x]) n = countIn vs n + (if x ∈ n then 1 else 0) := by
  unfold countIn
  by_cases h : x ∈ n <;> simp [h]
theorem countIn_le (vs n : List Int) : 0 ≤ countIn vs n ∧ countIn vs n ≤ vs.length := by
  unfold countIn
  have := List.length_filter_le (fun x => decide (x ∈ n)) vs
  exact ⟨by omega, by omega⟩
theorem take_snoc {α : Type} (l : List α) (k : Nat) (h : k < l.length) : l.take (k + 1) = l.take k ++ [l[k]] := by
  rw [List.take_succ_eq_append_getElem h]

theorem ret_of {a b : Value} (h : a = b) : Ending.returned a = .returned b := by rw [h]
theorem int_of {k : IntKind} {a b : Int} (h : a = b) : Value.int k a = .int k b := by rw [h]
theorem bool_of {a b : Bool} (h : a = b) : Value.bool a = .bool b := by rw [h]

end Go.Proofs.Ytinkbiinbfbjgaa

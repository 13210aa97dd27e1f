/- What an argument of bounded bulk holds, kind by kind. -/
import Derived.Test.YtinkbiinbfbjgaaRows
import Derived.Test.YtinkbiinbfbjgaaDRead
namespace Go.Proofs.Ytinkbiinbfbjgaa
open Go.ChangeShapes Go.WideShapes Go.ChangeAt Go.RowKit
set_option linter.unusedVariables false

theorem bulk_part {H : Type} {d : DataW H} {l : List (DataW H)} (h : d ∈ l) : Rows.uptoBulk d ≤ Rows.uptoBulkAll l := by
  induction l with
  | nil => cases h
  | cons x r ih =>
    simp only [Rows.uptoBulkAll]
    rcases List.mem_cons.1 h with e | e
    · subst e; omega
    · have := ih e; omega
theorem bulk_pos {H : Type} (d : DataW H) : 1 ≤ Rows.uptoBulk d := by
  cases d with
  | lit l => cases l <;> simp [Rows.uptoBulk]
  | _ => simp [Rows.uptoBulk]
theorem bulk_len {H : Type} (l : List (DataW H)) : l.length ≤ Rows.uptoBulkAll l := by
  induction l with
  | nil => simp
  | cons x r ih => have := bulk_pos x; simp only [Rows.uptoBulkAll, List.length_cons]; omega
theorem bulk_bound {H : Type} {l : List (DataW H)} (hk : Rows.uptoSmall H l = true) : Rows.uptoBulkAll l ≤ 1048576 := by
  have h := of_decide_eq_true hk
  exact h

section
variable {H : Type} {enc : TypeId × Value → H} {P : Program} {W W' : World} {n : Nat}

/-- The cells read as something of the type, of bulk n at most. -/
def HasB (n : Nat) (enc : TypeId × Value → H) (P : Program) (W : World) (t : TypeId) (cs : List Value) : Prop := ∃ fuel x, DataW.trod enc P W 0 (fun _ => true) true fuel t cs = some x ∧ Rows.uptoBulk x.1 ≤ n

theorem HasB.of {t : TypeId} {v : Value} {d : DataW H} {p : List MemPlace} (h : DataW.Trod enc P W 0 (fun _ => true) true t v d p) (hn : Rows.uptoBulk d ≤ n) : HasB n enc P W t v.cells.toList := by
  obtain ⟨m, hm⟩ := h
  exact ⟨m, _, hm, hn⟩
theorem HasB.has {t : TypeId} {cs : List Value} (h : HasB n enc P W t cs) : Has enc P W t cs := by
  obtain ⟨m, x, hx, _⟩ := h
  exact ⟨m, x, hx⟩
theorem HasB.string {t : TypeId} {cs : List Value} (ht : P.underlying t = some .string) (h : HasB n enc P W t cs) : ∃ s : ByteArray, cs = [.string s] ∧ s.size ≤ n := by
  obtain ⟨m, x, hx, hb⟩ := h
  obtain ⟨s, h1, h2, _⟩ := DataW.trod_string ht hx
  refine ⟨s, h1, ?_⟩
  subst h2
  simp [Rows.uptoBulk] at hb
  omega
theorem HasB.struct {t : TypeId} {fs : Array Field} {cs : List Value} (ht : P.underlying t = some (.struct fs)) (h : HasB n enc P W t cs) :
    cs.length = P.cellsOf t ∧ ∀ (i : Nat) (f : Field), fs[i]? = some f → HasB n enc P W f.type ((cs.drop f.offset).take (P.cellsOf f.type)) := by
  obtain ⟨m, x, hx, hb⟩ := h
  obtain ⟨xs, k, _, hxe, hl, hs, hf⟩ := DataW.trod_struct ht hx
  refine ⟨hl, fun i f hi => ?_⟩
  have hlt : i < fs.size := by
    rcases Nat.lt_or_ge i fs.size with h | h
    · exact h
    · simp [Array.getElem?_eq_none h] at hi
  refine ⟨k, xs[i], by rw [hf i f hi]; simp [show i < xs.length by omega], ?_⟩
  subst hxe
  have h1 : xs[i].1 ∈ xs.map (·.1) := List.mem_map.2 ⟨xs[i], List.getElem_mem _, rfl⟩
  have h2 := bulk_part h1
  simp only [Rows.uptoBulk] at hb
  omega
theorem HasB.array {t e : TypeId} {len : Nat} {cs : List Value} (ht : P.underlying t = some (.array len e)) (h : HasB n enc P W t cs) :
    cs.length = P.cellsOf t ∧ ∀ i, i < len → HasB n enc P W e ((cs.drop (i * P.cellsOf e)).take (P.cellsOf e)) := by
  obtain ⟨m, x, hx, hb⟩ := h
  obtain ⟨xs, k, _, hxe, hl, hs, hf⟩ := DataW.trod_array ht hx
  refine ⟨hl, fun i hi => ⟨k, xs[i], ?_, ?_⟩⟩
  · rw [hf i hi]
    simp [show i < xs.length by omega]
  · subst hxe
    have h1 : xs[i].1 ∈ xs.map (·.1) := List.mem_map.2 ⟨xs[i], List.getElem_mem _, rfl⟩
    have h2 := bulk_part h1
    simp only [Rows.uptoBulk] at hb
    omega

/-- A slice, its elements taken apart by 'dec'. -/
theorem HasB.slice {α : Type} {t e : TypeId} {size : Nat} {cs : List Value} (ht : P.underlying t = some (.slice e)) (hs : P.cellsOf e = size) (hpos : 0 < size) (enc' : α → List Value) (ok : α → Prop)
    (dec : ∀ cs', HasB n enc P W e cs' → ∃ y, cs' = enc' y ∧ ok y) (h : HasB n enc P W t cs) :
    ∃ a C, ∃ l : List α, cs = [.slice a l.length C] ∧ (a = none → C = 0) ∧ l.length ≤ C ∧ l.length ≤ n ∧ (∀ y ∈ l, ok y) ∧ RowOf size enc' W a l := by
  obtain ⟨fuel, x, hx, hb⟩ := h
  rcases Go.Deep.open_slice ht hx with ⟨rfl, _⟩ | ⟨a, len, cap, m, k, D, Pl, rfl, _, hlc, hm, hmm, hxe, hi⟩
  · exact ⟨none, 0, [], rfl, fun _ => rfl, Nat.le_refl _, by simp, by simp, .inl rfl⟩
  · have hml : len ≤ m := by rw [hmm]; split <;> omega
    subst hxe
    simp only [Rows.uptoBulk] at hb
    have hlen := bulk_len ((List.range len).map D)
    simp only [List.length_map, List.length_range] at hlen
    obtain ⟨l, hl, hq⟩ := list_of len (fun i y => ok y ∧ ∃ cs', W.cells? 0 (a.add (i * P.cellsOf e)) (P.cellsOf e) = some cs' ∧ cs' = enc' y) (fun i hil => by
      obtain ⟨cs', h1, h2⟩ := hi i (by omega)
      have h3 : D i ∈ (List.range len).map D := List.mem_map.2 ⟨i, by simpa using hil, rfl⟩
      have h4 := bulk_part h3
      obtain ⟨y, hy, ho⟩ := dec cs' ⟨k, _, h2, by simp only; omega⟩
      exact ⟨y, ho, cs', h1, hy⟩)
    subst hl
    refine ⟨some a, cap, l, rfl, (fun h => by cases h), hlc, by omega, fun y hy => ?_, ?_⟩
    · obtain ⟨i, hil, rfl⟩ := List.mem_iff_getElem.1 hy
      exact (hq i hil).1
    · by_cases h0 : l = []
      · exact .inl h0
      · right
        obtain ⟨b, o, sp⟩ := a
        have hsp : sp = none := by
          obtain ⟨_, cs', h1, _⟩ := hq 0 (by cases l with | nil => simp at h0 | cons _ _ => simp)
          have := (cells?_at h1).2 0 (by omega)
          simp [Addr.add, World.cell?] at this
          split at this
          · split at this
            · cases this
            · cases sp with
              | none => rfl
              | some _ => simp at *
          · cases this
        subst hsp
        refine ⟨b, o, rfl, fun i hil j hj => ?_⟩
        obtain ⟨_, cs', h1, rfl⟩ := hq i hil
        have := (cells?_at h1).2 j (by omega)
        rw [← this, hs]
        rw [add_at]

theorem ints_of {k : IntKind} {a : Option Addr} {l : List Int} (h : RowOf 1 (fun n => [Value.int k n]) W a l) : Ints W k a l := by
  rcases h with rfl | ⟨b, o, ha, hc⟩
  · exact .inl rfl
  · refine .inr ⟨b, o, ha, fun i hi => ?_⟩
    have := hc i (by simpa using hi) 0 (by decide)
    simp only [Nat.mul_one, Nat.add_zero] at this
    rw [this]
    have hi' : i < l.length := by simpa using hi
    simp [List.getD, hi']

theorem HasB.ints {t e : TypeId} {k : IntKind} {cs : List Value} (ht : P.underlying t = some (.slice e)) (he : P.underlying e = some (.int k)) (hs : P.cellsOf e = 1) (h : HasB n enc P W t cs) :
    ∃ a C, ∃ l : List Int, cs = [.slice a l.length C] ∧ (a = none → C = 0) ∧ l.length ≤ C ∧ l.length ≤ n ∧ (∀ y ∈ l, (Lit.int k y).wf = true) ∧ Ints W k a l := by
  obtain ⟨a, C, l, h1, h2, h3, h4, h5, h6⟩ := HasB.slice ht hs (by decide) (fun n => [Value.int k n]) (fun y => (Lit.int k y).wf = true) (fun cs' h' => by
    obtain ⟨y, e, hw⟩ := h'.has.int he
    exact ⟨y, e, hw⟩) h
  exact ⟨a, C, l, h1, h2, h3, h4, h5, ints_of h6⟩
end

end Go.Proofs.Ytinkbiinbfbjgaa

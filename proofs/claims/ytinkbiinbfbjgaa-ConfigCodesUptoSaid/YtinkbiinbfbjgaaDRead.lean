/- What an argument that can be read holds, kind by kind; and that it reads the same behind a call that writes nothing old. -/
import Derived.Test.YtinkbiinbfbjgaaDBase
import Derived.ProofKit
import Derived.OpenShut
import Derived.ShutString
import Derived.ChangeOld
import Derived.Deep.Slices
namespace Go.Proofs.Ytinkbiinbfbjgaa
open Go.ChangeShapes Go.WideShapes Go.ChangeAt Go.RowKit
set_option linter.unusedVariables false

section
variable {H : Type} {enc : TypeId × Value → H} {P : Program} {W W' : World}

theorem below_trodAll (hl : laidOutB P = true) {ts : List TypeId} (hr : (ts.all fun t => P.readableRec t && decide (t < P.types.size)) = true) {vs : List Value} {ds : List (DataW H)} {ps : List MemPlace}
    (h : DataW.TrodAll enc P W 0 (fun _ => true) true ts vs ds ps) (hb : Below W.heap.size W W') : DataW.TrodAll enc P W' 0 (fun b => decide (b < W.heap.size)) true ts vs ds ps := by
  induction ts generalizing vs ds ps with
  | nil => cases vs <;> cases ds <;> simp_all [DataW.TrodAll]
  | cons t ts ih =>
    cases vs with
    | nil => simp [DataW.TrodAll] at h
    | cons v vs =>
      cases ds with
      | nil => simp [DataW.TrodAll] at h
      | cons d ds =>
        obtain ⟨p, p', h1, h2, rfl⟩ := h
        simp only [List.all_cons, Bool.and_eq_true, decide_eq_true_eq] at hr
        have lt : ∀ x ∈ p, x.block < W.heap.size := by obtain ⟨m, hm⟩ := h1; exact DataW.trod_lt m _ _ _ hm
        exact ⟨p, p', Below.trod hl hr.1.1 hr.1.2 h1 hb lt, ih hr.2 h2, rfl⟩

/-- The cells read as something of the type. -/
def Has (enc : TypeId × Value → H) (P : Program) (W : World) (t : TypeId) (cs : List Value) : Prop := ∃ fuel x, DataW.trod enc P W 0 (fun _ => true) true fuel t cs = some x

theorem Has.of {t : TypeId} {v : Value} {d : DataW H} {p : List MemPlace} (h : DataW.Trod enc P W 0 (fun _ => true) true t v d p) : Has enc P W t v.cells.toList := by
  obtain ⟨n, hn⟩ := h
  exact ⟨n, _, hn⟩
theorem Has.int {t : TypeId} {k : IntKind} {cs : List Value} (ht : P.underlying t = some (.int k)) (h : Has enc P W t cs) : ∃ n, cs = [.int k n] ∧ (Lit.int k n).wf = true := by
  obtain ⟨m, x, hx⟩ := h
  obtain ⟨n, h1, _, h2⟩ := DataW.trod_int ht hx
  exact ⟨n, h1, h2⟩
theorem Has.bool {t : TypeId} {cs : List Value} (ht : P.underlying t = some .bool) (h : Has enc P W t cs) : ∃ b, cs = [.bool b] := by
  obtain ⟨m, x, hx⟩ := h
  obtain ⟨n, h1, _⟩ := DataW.trod_bool ht hx
  exact ⟨n, h1⟩
theorem Has.string {t : TypeId} {cs : List Value} (ht : P.underlying t = some .string) (h : Has enc P W t cs) : ∃ s : ByteArray, cs = [.string s] ∧ s.size ≤ maxLen := by
  obtain ⟨m, x, hx⟩ := h
  obtain ⟨n, h1, _, h2⟩ := DataW.trod_string ht hx
  exact ⟨n, h1, h2⟩
theorem Has.struct {t : TypeId} {fs : Array Field} {cs : List Value} (ht : P.underlying t = some (.struct fs)) (h : Has enc P W t cs) :
    cs.length = P.cellsOf t ∧ ∀ (i : Nat) (f : Field), fs[i]? = some f → Has enc P W f.type ((cs.drop f.offset).take (P.cellsOf f.type)) := by
  obtain ⟨m, x, hx⟩ := h
  obtain ⟨xs, n, _, _, hl, hs, hf⟩ := DataW.trod_struct ht hx
  refine ⟨hl, fun i f hi => ?_⟩
  have hlt : i < fs.size := by
    rcases Nat.lt_or_ge i fs.size with h | h
    · exact h
    · simp [Array.getElem?_eq_none h] at hi
  exact ⟨n, xs[i], by rw [hf i f hi]; simp [show i < xs.length by omega]⟩
theorem Has.array {t e : TypeId} {len : Nat} {cs : List Value} (ht : P.underlying t = some (.array len e)) (h : Has enc P W t cs) :
    cs.length = P.cellsOf t ∧ ∀ i, i < len → Has enc P W e ((cs.drop (i * P.cellsOf e)).take (P.cellsOf e)) := by
  obtain ⟨m, x, hx⟩ := h
  obtain ⟨xs, n, _, _, hl, hs, hf⟩ := DataW.trod_array ht hx
  refine ⟨hl, fun i hi => ⟨n, xs[i], ?_⟩⟩
  rw [hf i hi]
  simp [show i < xs.length by omega]

/-- Rows whose elements take several cells each. -/
def RowOf {α : Type} (size : Nat) (e : α → List Value) (w : World) (a : Option Addr) (l : List α) : Prop :=
  l = [] ∨ ∃ b o, a = some ⟨b, o, none⟩ ∧ ∀ i (h : i < l.length) j, j < size → w.cell? ⟨b, o + i * size + j, none⟩ = some ((e l[i]).getD j undef)

theorem add_at (b o x y : Nat) : ((⟨b, o, none⟩ : Addr).add x).add y = ⟨b, o + x + y, none⟩ := by
  unfold Addr.add
  by_cases hx : x = 0 <;> by_cases hy : y = 0 <;> simp [hx, hy]

theorem cells?_at {base : Nat} {a : Addr} {n : Nat} {cs : List Value} (h : W.cells? base a n = some cs) : cs.length = n ∧ ∀ j, j < n → W.cell? (a.add j) = some (cs.getD j undef) := by
  unfold World.cells? at h
  split at h
  · have hl := Go.mapM_some_length h
    refine ⟨by simpa using hl, fun j hj => ?_⟩
    have := Go.mapM_some_get h j j (by simp [hj])
    rw [this]
    have hj' : j < cs.length := by rw [hl]; simpa using hj
    simp [List.getD, hj']
  · cases h

theorem list_of {α : Type} (n : Nat) (Q : Nat → α → Prop) (h : ∀ i, i < n → ∃ y, Q i y) : ∃ l : List α, l.length = n ∧ ∀ i (hi : i < l.length), Q i l[i] := by
  induction n with
  | zero => exact ⟨[], rfl, fun i hi => by simp at hi⟩
  | succ n ih =>
    obtain ⟨l, hl, hq⟩ := ih fun i hi => h i (by omega)
    obtain ⟨y, hy⟩ := h n (by omega)
    refine ⟨l ++ [y], by simp [hl], fun i hi => ?_⟩
    by_cases hin : i < l.length
    · rw [List.getElem_append_left hin]; exact hq i hin
    · have : i = n := by simp at hi; omega
      subst this
      rw [List.getElem_append_right (by omega)]
      simpa [hl] using hy

/-- A slice, its elements taken apart by 'dec'. -/
theorem Has.slice {α : Type} {t e : TypeId} {size : Nat} {cs : List Value} (ht : P.underlying t = some (.slice e)) (hs : P.cellsOf e = size) (hpos : 0 < size) (enc' : α → List Value) (ok : α → Prop)
    (dec : ∀ cs', Has enc P W e cs' → ∃ y, cs' = enc' y ∧ ok y) (h : Has enc P W t cs) :
    ∃ a C, ∃ l : List α, cs = [.slice a l.length C] ∧ (a = none → C = 0) ∧ l.length ≤ C ∧ C ≤ maxLen ∧ (∀ y ∈ l, ok y) ∧ RowOf size enc' W a l := by
  obtain ⟨fuel, x, hx⟩ := h
  rcases Go.Deep.open_slice ht hx with ⟨rfl, _⟩ | ⟨a, len, cap, m, n, D, Pl, rfl, _, hlc, hm, hmm, _, hi⟩
  · exact ⟨none, 0, [], rfl, fun _ => rfl, Nat.le_refl _, by simp, by simp, .inl rfl⟩
  · have hml : len ≤ m := by rw [hmm]; split <;> omega
    obtain ⟨l, hl, hq⟩ := list_of len (fun i y => ok y ∧ ∃ cs', W.cells? 0 (a.add (i * P.cellsOf e)) (P.cellsOf e) = some cs' ∧ cs' = enc' y) (fun i hil => by
      obtain ⟨cs', h1, h2⟩ := hi i (by omega)
      obtain ⟨y, hy, ho⟩ := dec cs' ⟨n, _, h2⟩
      exact ⟨y, ho, cs', h1, hy⟩)
    subst hl
    refine ⟨some a, cap, l, rfl, (fun h => by cases h), hlc, hm, fun y hy => ?_, ?_⟩
    · obtain ⟨i, hil, rfl⟩ := List.mem_iff_getElem.1 hy
      exact (hq i hil).1
    · by_cases h0 : l = []
      · exact .inl h0
      · right
        obtain ⟨b, o, sp⟩ := a
        have hsp : sp = none := by
          obtain ⟨_, cs', h1, _⟩ := hq 0 (by cases l with | nil => simp at h0 | cons _ _ => simp)
          have := (cells?_at h1).2 0 (by omega)
          simp [Addr.add, World.cell?] at this
          split at this
          · split at this
            · cases this
            · cases sp with
              | none => rfl
              | some _ => simp at *
          · cases this
        subst hsp
        refine ⟨b, o, rfl, fun i hil j hj => ?_⟩
        obtain ⟨_, cs', h1, rfl⟩ := hq i hil
        have := (cells?_at h1).2 j (by omega)
        rw [← this, hs]
        rw [add_at]
end

theorem agg_of {v : Value} {cs : List Value} (h : v.cells.toList = cs) (hl : 2 ≤ cs.length) : v = .agg cs.toArray := by
  subst h
  cases v <;> simp [Value.cells] at *

theorem list2 {α : Type} {l : List α} (h : l.length = 2) : ∃ x y, l = [x, y] := by
  match l, h with
  | [x, y], _ => exact ⟨x, y, rfl⟩
theorem list3 {α : Type} {l : List α} (h : l.length = 3) : ∃ x y z, l = [x, y, z] := by
  match l, h with
  | [x, y, z], _ => exact ⟨x, y, z, rfl⟩

theorem u64_bounds {n : Int} (h : (Lit.int .u64 n).wf = true) : 0 ≤ n ∧ n < 18446744073709551616 := by
  simp [Lit.wf, IntKind.min, IntKind.max, IntKind.signed, IntKind.bits] at h
  omega
theorem i64_bounds {n : Int} (h : (Lit.int .i64 n).wf = true) : -9223372036854775808 ≤ n ∧ n ≤ 9223372036854775807 := by
  simp [Lit.wf, IntKind.min, IntKind.max, IntKind.signed, IntKind.bits] at h
  omega

end Go.Proofs.Ytinkbiinbfbjgaa

/- slices.Sort at []uint64: no element; slices.Reverse; both on a slice of the call itself. The first three turned from the worked walks at []int. -/
import Derived.Test.YtinkbiinbfbjgaaDSortH
import Derived.Test.YtinkbiinbfbjgaaDBase
namespace Go.Proofs.Ytinkbiinbfbjgaa
open Go.RowKit
set_option linter.unusedVariables false

theorem insertionSort_u64_nil (p : Option Addr) (cap : Nat) (w : World) :
    Calls Try.prog 100 #[.slice p 0 cap, .int .i64 0, .int .i64 0] w fun e w' => e = .returned (.tuple #[]) ∧ w' = w := by
  go_enter Try.func100, Try.ntmps100
  go_wp2
  refine wp_loop_rounds 1 ?_
  rw [rounds_succ]
  go_wp2
  go_end0
  exact ⟨rfl, rfl⟩

set_option maxRecDepth 100000 in
theorem pdqsort_u64_nil (p : Option Addr) (cap : Nat) (w : World) :
    Calls Try.prog 88 #[.slice p 0 cap, .int .i64 0, .int .i64 0, .int .i64 0] w fun e w' => e = .returned (.tuple #[]) ∧ w' = w := by
  go_enter Try.func88, Try.ntmps88
  go_wp2
  refine wp_loop_rounds 1 ?_
  rw [rounds_succ]
  go_wp2_with (first | (go_at_call 100; refine (insertionSort_u64_nil p cap _).mono ?_; rintro e w' ⟨rfl, rfl⟩))
  refine bodyPost_ret (results_none rfl _ _ _) rfl ?_
  exact ⟨rfl, rfl⟩

set_option maxRecDepth 100000 in
theorem Sort_u64_nil (p : Option Addr) (cap : Nat) (w : World) :
    Calls Try.prog 82 #[.slice p 0 cap] w fun e w' => e = .returned (.tuple #[]) ∧ w' = w := by
  have hLen : ∀ w, Calls Try.prog 86 #[.int .u64 0] w fun e w' => e = .returned (.int .i64 0) ∧ w' = w := fun w => Try.bits_Len 0 w (by omega) (by omega)
  go_enter Try.func82, Try.ntmps82
  go_wp2_with (first
    | (go_at_call 86; refine (hLen _).mono ?_; rintro e w' ⟨rfl, rfl⟩)
    | (go_at_call 88; refine (pdqsort_u64_nil p cap _).mono ?_; rintro e w' ⟨rfl, rfl⟩))
  go_end0
  exact ⟨rfl, rfl⟩

/-- A slice of the call itself, not nil: what the sort asks. -/
theorem holds_own {w : World} {base : Nat} {e : TypeId} {g n C : Nat} {zs : List Int} (h : w.ownsRow base e 1 (.slice (some ⟨g, 0, none⟩) n C) n (zs.map encU)) (hn : zs.length = n) : Go.Sort.Holds encU w g 0 zs.toArray ∧ g < w.heap.size ∧ base ≤ g := by
  rcases h.2 with ⟨hv, _⟩ | ⟨g', cap, cur, hv, hb, hh, _, _, _, htake⟩
  · cases hv
  · cases hv
    refine ⟨fun j hj => ⟨?_, frozen_at hh _⟩, heap_lt hh, hb⟩
    have hj' : j < zs.length := by simpa using hj
    rw [Nat.zero_add, h.cellAt j (by omega)]
    simp [hj']
theorem ints_of_holds {w : World} {g : Nat} {zs : List Int} (h : Go.Sort.Holds encU w g 0 zs.toArray) : Ints w .u64 (some ⟨g, 0, none⟩) zs := by
  refine .inr ⟨g, 0, rfl, fun i hi => ?_⟩
  have hi' : i < zs.length := by simpa using hi
  rw [(h i (by simpa using hi')).1]
  simp [List.getD, hi', encU]
theorem heap_putRow {w : World} {blk off k : Nat} {d : Array Int} (h : k ≠ blk) : (Go.Sort.putRow encU w blk off d).heap[k]? = w.heap[k]? := by
  unfold Go.Sort.putRow Go.Sort.mapBlock
  simp only [Array.getElem?_modify, if_neg (Ne.symm h)]
theorem size_putRow {w : World} {blk off : Nat} {d : Array Int} : (Go.Sort.putRow encU w blk off d).heap.size = w.heap.size := by
  unfold Go.Sort.putRow Go.Sort.mapBlock
  simp
theorem below_put {w : World} {base blk off n : Nat} {d : Array Int} (hb : base ≤ blk) (hw : base ≤ w.heap.size) : Below base w (Go.Sort.putRow encU (Go.Sort.ahead w n) blk off d) :=
  ⟨rfl, rfl, rfl, by rw [size_putRow]; exact Nat.le_refl _, fun k hk => by rw [heap_putRow (by omega)]; rfl⟩
theorem below_grow {w : World} {base : Nat} {os : Array Obj} (hw : base ≤ w.heap.size) : Below base w (Go.Sort.grow w os) :=
  ⟨rfl, rfl, rfl, by simp [Go.Sort.grow], fun k hk => Go.Sort.heap_grow_old w os (by omega)⟩

/-- slices.Sort on a slice of the call itself. -/
theorem sortU (base : Nat) (A : Option Addr) (C : Nat) (zs : List Int) (w : World) (h : w.ownsRow base 22 1 (.slice A zs.length C) zs.length (zs.map encU)) (hl : zs.length < 4611686018427387904) (hbase : base ≤ w.heap.size) :
    Calls Try.prog 82 #[.slice A zs.length C] w fun e w' => e = .returned (.tuple #[]) ∧ Below base w w' ∧ (A = none ∧ zs = [] ∨ ∃ g, A = some ⟨g, 0, none⟩ ∧ base ≤ g ∧ g < w'.heap.size ∧ Go.Sort.Holds encU w' g 0 (zs.mergeSort fun x y => decide (x ≤ y)).toArray) := by
  rcases h.2 with ⟨hv, hn⟩ | ⟨g', cap, cur, hv, hb, hh, _⟩
  · have h0 : zs = [] := List.length_eq_zero_iff.1 hn
    subst h0
    cases hv
    exact (Sort_u64_nil none _ w).mono fun e w' ⟨he, hw⟩ => ⟨he, by rw [hw]; exact Below.refl _ _, .inl ⟨rfl, rfl⟩⟩
  · cases hv
    obtain ⟨hH, hg, hb⟩ := holds_own h rfl
    refine (slices_Sort_u64 g' 0 _ zs w hH hg hl).mono fun e w' ⟨he, n, os, hw⟩ => ⟨he, ?_, .inr ⟨g', rfl, hb, ?_, ?_⟩⟩
    · rw [hw]
      exact (below_put hb hbase).trans (below_grow (by rw [size_putRow]; exact hbase))
    · rw [hw]
      have : g' < (Go.Sort.putRow encU (Go.Sort.ahead w n) g' 0 (zs.mergeSort fun x y => decide (x ≤ y)).toArray).heap.size := by rw [size_putRow]; exact hg
      simp only [Go.Sort.grow, Array.size_append]
      omega
    · rw [hw]
      exact Go.Sort.holds_grow _ _ _ _ _ _ (by rw [size_putRow]; exact hg) (Go.Sort.holds_putRow _ _ _ _ zs.toArray _ (Go.Sort.holds_ahead _ _ _ _ _ _ hH) (by simp))

theorem revU (base : Nat) (A : Option Addr) (C : Nat) (zs : List Int) (w : World) (h : A = none ∧ zs = [] ∨ ∃ g, A = some ⟨g, 0, none⟩ ∧ base ≤ g ∧ g < w.heap.size ∧ Go.Sort.Holds encU w g 0 zs.toArray) (hl : zs.length < 4611686018427387904) (hbase : base ≤ w.heap.size) :
    Calls Try.prog 83 #[.slice A zs.length C] w fun e w' => e = .returned (.tuple #[]) ∧ Below base w w' ∧ Ints w' .u64 A zs.reverse := by
  rcases h with ⟨rfl, rfl⟩ | ⟨g, rfl, hb, hg, hH⟩
  · exact (AnyE.slices_Reverse_empty Try.revLays none C w).mono fun e w' ⟨he, hw⟩ => ⟨he, by rw [hw]; exact Below.refl _ _, Row.nil _ _⟩
  · refine (AnyE.slices_Reverse Try.revLays encU (fun _ => rfl) g 0 C zs w hH (by omega)).mono fun e w' ⟨he, n, hw⟩ => ⟨he, ?_, ?_⟩
    · rw [hw]
      exact below_put hb hbase
    · rw [hw]
      exact ints_of_holds (Go.Sort.holds_putRow _ _ _ _ zs.toArray _ (Go.Sort.holds_ahead _ _ _ _ _ _ hH) (by simp))

end Go.Proofs.Ytinkbiinbfbjgaa

/- Contracts of codec's Writer: New, Byte, Bytes; slices.Clone of bytes. -/
import Derived.Test.YtinkbiinbfbjgaaProg
import Derived.Test.YtinkbiinbfbjgaaDBase
namespace Go.Proofs.Ytinkbiinbfbjgaa
open Go.RowKit
set_option linter.unusedVariables false

theorem elU8 : ElemT Try.prog 54 5 (.int .u8 0) 1 1 := ElemT.of (by kernel_rfl) (by kernel_rfl) rfl (by decide) (by decide)

/-- Below block B nothing has turned but block g. -/
structure BelowX (B g : Nat) (w w' : World) : Prop where
  os : w'.os = w.os
  tape : w'.tape = w.tape
  output : w'.output = w.output
  size : w.heap.size ≤ w'.heap.size
  block : ∀ k, k < B → k ≠ g → w'.heap[k]? = w.heap[k]?
theorem BelowX.refl (B g : Nat) (w : World) : BelowX B g w w := ⟨rfl, rfl, rfl, Nat.le_refl _, fun _ _ _ => rfl⟩
theorem BelowX.trans {B g : Nat} {a b c : World} (h : BelowX B g a b) (k : BelowX B g b c) : BelowX B g a c :=
  ⟨k.os.trans h.os, k.tape.trans h.tape, k.output.trans h.output, Nat.le_trans h.size k.size, fun i hi hne => (k.block i hi hne).trans (h.block i hi hne)⟩
theorem BelowX.mono {B B' g : Nat} {w w' : World} (h : BelowX B g w w') (hB : B' ≤ B) : BelowX B' g w w' := ⟨h.os, h.tape, h.output, h.size, fun k hk => h.block k (by omega)⟩
theorem BelowX.of {B g : Nat} {w w' : World} (h : Below B w w') : BelowX B g w w' := ⟨h.os, h.tape, h.output, h.size, fun k hk _ => h.block k hk⟩
theorem BelowX.below {B g : Nat} {w w' : World} (h : BelowX B g w w') (hg : g ≤ B) : Below g w w' := ⟨h.os, h.tape, h.output, h.size, fun k hk => h.block k (by omega) (by omega)⟩
theorem BelowX.set {B g : Nat} {w w' : World} (h : BelowX B g w w') (o : Nat) (v : Value) : BelowX B g w (w'.setCell ⟨g, o, none⟩ v) :=
  ⟨h.os, h.tape, h.output, by simpa using h.size, fun k hk hne => by rw [Below.heap_setCell _ _ _ _ hne]; exact h.block k hk hne⟩

/-- A writer in block g, its row from block 'base' on. -/
def WAt (w : World) (g base : Nat) (bs : List Int) : Prop :=
  g < base ∧ ∃ A C, w.heap[g]? = some (.cells #[.slice A bs.length C] 114 (0, 0)) ∧ w.ownsRow base 5 1 (.slice A bs.length C) bs.length (bs.map (.int .u8))

set_option maxHeartbeats 400000 in
theorem wNew_calls (w : World) :
    Calls Try.prog 63 #[] w fun e w' => e = .returned (.pointer (some ⟨w.heap.size, 0, none⟩)) ∧ w' = w.alloc (.cells #[.slice none 0 0] 114) := by
  go_enter Try.func63, Try.ntmps63
  go_wp2
  go_ret
  exact ⟨rfl, rfl⟩

theorem WAt.start {w : World} {g base : Nat} (hg : g < base) (h : w.heap[g]? = some (.cells #[.slice none 0 0] 114 (0, 0))) : WAt w g base [] :=
  ⟨hg, none, 0, h, World.ownsRow_nil _ _ _ _⟩

theorem keep1 {base g : Nat} {w w2 : World} {o : Obj} {v : Value} {T : TypeId} (hb2 : Below base (w.alloc o) w2) (hg : g < base) (hgl : g < w.heap.size) (hh : w.heap[g]? = some (.cells #[v] T (0, 0))) :
    w2.heap[g]? = some (.cells #[v] T (0, 0)) ∧ w2.cell? ⟨g, 0, none⟩ = some v ∧ w2.frozen? ⟨g, 0, none⟩ = false := by
  have hh2 : w2.heap[g]? = some (.cells #[v] T (0, 0)) := by
    rw [hb2.block g hg, heap_alloc_old _ _ _ hgl]
    exact hh
  exact ⟨hh2, by rw [cell_at hh2]; rfl, frozen_at hh2 0⟩

set_option maxHeartbeats 400000 in
theorem wByte_calls (g base : Nat) (bs : List Int) (x : Int) (w : World) (h : WAt w g base bs) (hl : bs.length < 2^40) (hbase : base ≤ w.heap.size) :
    Calls Try.prog 64 #[.pointer (some ⟨g, 0, none⟩), .int .u8 x] w fun e w' => e = .returned (.tuple #[]) ∧ WAt w' g base (bs ++ [x]) ∧ BelowX base g w w' ∧ base ≤ w'.heap.size := by
  obtain ⟨hg, A, C, hh, hown⟩ := h
  have hc : w.cell? ⟨g, 0, none⟩ = some (.slice A bs.length C) := by rw [cell_at hh]; rfl
  have hgl : g < w.heap.size := heap_lt hh
  go_enter Try.func64, Try.ntmps64
  go_wp2_with (at_builtin; refine wpList_app elU8 base rfl _ _ rfl _ _ _ rfl (hown.alloc _) _ 1 _ [.int .u8 x] rfl rfl (Row.one _ _ _) (by simp [Value.oneCell']) (by omega) (by simp; omega) ?_; intro A2 C2 w2 hown2 hgrow2 hb2; go_loud (obtain ⟨hh2, hc2, hf2⟩ := keep1 hb2 hg hgl hh))
  refine bodyPost_end (results_none rfl _ _ _) rfl ⟨rfl, ?_, ?_, ?_⟩
  · go_light
    refine ⟨hg, A2, C2, ?_, ?_⟩
    · have h3 := setCell_at hh2 0 (.slice A2 (bs.length + 1) C2)
      rw [h3]
      simp
    · have h4 : (w2.setCell ⟨g, 0, none⟩ (.slice A2 (bs.length + 1) C2)).ownsRow base 5 1 (.slice A2 (bs.length + 1) C2) (bs.length + 1) ((bs.map (.int .u8)) ++ [.int .u8 x]) := ownsRow_setCell_below hown2 hg _
      simpa using h4
  · exact BelowX.set (BelowX.of (((Below.refl base w).alloc hbase _).trans hb2)) 0 _
  · have := hb2.size
    simp at this ⊢
    omega

set_option maxHeartbeats 400000 in
theorem bClone_calls (bs : List Int) (A : Option Addr) (C : Nat) (w : World) (h : Ints w .u8 A bs) (hn : A = none → bs = [] ∧ C = 0) (hl : bs.length < 2^40) :
    Calls Try.prog 80 #[.slice A bs.length C] w fun e w' => ∃ A' C', e = .returned (.slice A' bs.length C') ∧ w'.ownsRow w.heap.size 5 1 (.slice A' bs.length C') bs.length (bs.map (.int .u8)) ∧ Below w.heap.size w w' := by
  cases A with
  | none =>
    obtain ⟨rfl, rfl⟩ := hn rfl
    have hq := @Lib.run_eql_slice_nil
    go_enter Try.func80, Try.ntmps80
    go_wp2
    go_ret
    exact ⟨none, 0, rfl, World.ownsRow_nil _ _ _ _, Below.refl _ _⟩
  | some a =>
    have hq := fun w' => Lib.run_eql_slice_nil (P := Try.prog) w' 54 5 (some a) bs.length C 0 0 elU8.ht
    have h0 : (w.alloc (.cells #[] 5)).ownsRow w.heap.size 5 1 (.slice (some ⟨w.heap.size, 0, none⟩) 0 0) 0 [] := World.ownsRow_lit (base := w.heap.size) w #[] 0 (Nat.le_refl _) (by decide) rfl
    have hb := bAlloc (Below.refl _ w) (.cells #[] 5)
    go_enter Try.func80, Try.ntmps80
    go_wp2_with (at_builtin; refine wpList_app elU8 w.heap.size rfl _ _ rfl _ 0 [] rfl h0 _ bs.length C (bs.map (.int .u8)) rfl (by simp) (h.below hb) (oneCell_ints _ _) (by omega) (by simp) ?_; intro A2 C2 w2 hown2 hgrow2 hb2)
    go_ret
    go_light
    simp only [Nat.zero_add, List.nil_append] at hown2 ⊢
    exact ⟨A2, C2, rfl, hown2, hb.trans hb2⟩

set_option maxHeartbeats 400000 in
theorem wBytes_calls (g base : Nat) (bs : List Int) (w : World) (h : WAt w g base bs) (hl : bs.length < 2^40) :
    Calls Try.prog 65 #[.pointer (some ⟨g, 0, none⟩)] w fun e w' => ∃ A' C', e = .returned (.slice A' bs.length C') ∧ w'.ownsRow w.heap.size 5 1 (.slice A' bs.length C') bs.length (bs.map (.int .u8)) ∧ Below w.heap.size w w' := by
  obtain ⟨hg, A, C, hh, hown⟩ := h
  have hc : w.cell? ⟨g, 0, none⟩ = some (.slice A bs.length C) := by rw [cell_at hh]; rfl
  have hn : A = none → bs = [] ∧ C = 0 := by
    obtain ⟨A', C', e, h1, _⟩ := own_slice hown
    cases e
    intro h
    have := h1 h
    exact ⟨List.eq_nil_of_length_eq_zero this.1, this.2⟩
  go_enter Try.func65, Try.ntmps65
  go_wp2_with (go_at_call 80; refine (bClone_calls bs A C w (Row.of_own hown) hn hl).mono ?_; rintro e w1 ⟨A', C', rfl, ho, hb⟩)
  go_ret
  exact ⟨A', C', rfl, ho, hb⟩

end Go.Proofs.Ytinkbiinbfbjgaa

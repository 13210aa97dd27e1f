/- Contracts of config.of, list, Apply. -/
import Derived.Test.YtinkbiinbfbjgaaDConfC
namespace Go.Proofs.Ytinkbiinbfbjgaa
open Go.RowKit
set_option linter.unusedVariables false

theorem elInt : ElemT Try.prog 37 3 (.int .i64 0) 1 8 := ElemT.of (by kernel_rfl) (by kernel_rfl) rfl (by decide) (by decide)

def memF (v : List Int) : Nat → Bool := fun i => decide ((i : Int) ∈ v)
def bools (f : Nat → Bool) : Array Value := #[.bool (f 0), .bool (f 1), .bool (f 2), .bool (f 3), .bool (f 4), .bool (f 5), .bool (f 6), .bool (f 7)]
theorem bools_set (f : Nat → Bool) (k : Nat) (hk : k < 8) (b : Bool) : (bools f).setIfInBounds k (.bool b) = bools (fun i => if i = k then b else f i) := by
  have h : k = 0 ∨ k = 1 ∨ k = 2 ∨ k = 3 ∨ k = 4 ∨ k = 5 ∨ k = 6 ∨ k = 7 := by omega
  rcases h with rfl | rfl | rfl | rfl | rfl | rfl | rfl | rfl <;> rfl
theorem bools_get (f : Nat → Bool) (k : Nat) (hk : k < 8) : (bools f)[k]? = some (.bool (f k)) := by
  have h : k = 0 ∨ k = 1 ∨ k = 2 ∨ k = 3 ∨ k = 4 ∨ k = 5 ∨ k = 6 ∨ k = 7 := by omega
  rcases h with rfl | rfl | rfl | rfl | rfl | rfl | rfl | rfl <;> rfl
theorem bools_cell {w : World} {g : Nat} {f : Nat → Bool} {T : TypeId} (h : w.heap[g]? = some (.cells (bools f) T (0, 0))) (k : Nat) (hk : k < 8) : w.cell? ⟨g, k, none⟩ = some (.bool (f k)) := by
  rw [cell_at h, bools_get f k hk]
theorem bools_put {w : World} {g : Nat} {f : Nat → Bool} {T : TypeId} (h : w.heap[g]? = some (.cells (bools f) T (0, 0))) (k : Nat) (hk : k < 8) (b : Bool) :
    (w.setCell ⟨g, k, none⟩ (.bool b)).heap[g]? = some (.cells (bools (fun i => if i = k then b else f i)) T (0, 0)) := by
  rw [setCell_at h, bools_set f k hk]

theorem store8 {w : World} {g : Nat} {f : Nat → Bool} {T : TypeId} (h : w.heap[g]? = some (.cells (bools f) T (0, 0))) (f' : Nat → Bool) :
    ((((((((w.setCell ⟨g, 0, none⟩ (.bool (f' 0))).setCell ⟨g, 1, none⟩ (.bool (f' 1))).setCell ⟨g, 2, none⟩ (.bool (f' 2))).setCell ⟨g, 3, none⟩ (.bool (f' 3))).setCell ⟨g, 4, none⟩ (.bool (f' 4))).setCell ⟨g, 5, none⟩ (.bool (f' 5))).setCell ⟨g, 6, none⟩ (.bool (f' 6))).setCell ⟨g, 7, none⟩ (.bool (f' 7))).heap[g]? = some (.cells (bools f') T (0, 0)) := by
  have h0 := bools_put h 0 (by decide) (f' 0)
  have h1 := bools_put h0 1 (by decide) (f' 1)
  have h2 := bools_put h1 2 (by decide) (f' 2)
  have h3 := bools_put h2 3 (by decide) (f' 3)
  have h4 := bools_put h3 4 (by decide) (f' 4)
  have h5 := bools_put h4 5 (by decide) (f' 5)
  have h6 := bools_put h5 6 (by decide) (f' 6)
  have h7 := bools_put h6 7 (by decide) (f' 7)
  rw [h7]
  simp [bools]
theorem store8_other {w : World} {g k : Nat} (hk : k ≠ g) (f' : Nat → Bool) :
    ((((((((w.setCell ⟨g, 0, none⟩ (.bool (f' 0))).setCell ⟨g, 1, none⟩ (.bool (f' 1))).setCell ⟨g, 2, none⟩ (.bool (f' 2))).setCell ⟨g, 3, none⟩ (.bool (f' 3))).setCell ⟨g, 4, none⟩ (.bool (f' 4))).setCell ⟨g, 5, none⟩ (.bool (f' 5))).setCell ⟨g, 6, none⟩ (.bool (f' 6))).setCell ⟨g, 7, none⟩ (.bool (f' 7))).heap[k]? = w.heap[k]? := by
  rw [Below.heap_setCell _ _ _ _ hk, Below.heap_setCell _ _ _ _ hk, Below.heap_setCell _ _ _ _ hk, Below.heap_setCell _ _ _ _ hk, Below.heap_setCell _ _ _ _ hk, Below.heap_setCell _ _ _ _ hk, Below.heap_setCell _ _ _ _ hk, Below.heap_setCell _ _ _ _ hk]

set_option maxRecDepth 100000 in
set_option maxHeartbeats 2000000 in
theorem of_calls (l : List Int) (a : Option Addr) (c : Nat) (w : World) (h : Ints w .i64 a l) (hs : Small l) :
    Calls Try.prog 59 #[.slice a l.length c] w fun e w' => e = .returned (.agg (bools (memF l))) ∧ Below w.heap.size w w' := by
  unfold memF
  have hl := hs.1
  by_cases h0 : 0 < l.length
  · obtain ⟨b, o, rfl, hb, hc⟩ := h.open h0
    clear h h0
    go_enter Try.func59, Try.ntmps59
    go_wp2
    go_loopw [8] (fun i wr => ∃ k : Nat, k ≤ l.length ∧ i = .int .i64 k ∧ Below w.heap.size w wr ∧ (∃ f, wr.heap[w.heap.size]? = some (.cells (bools f) 84 (0, 0))) ∧ wr.heap[w.heap.size + 1]? = some (.cells (bools fun i => decide ((i : Int) ∈ l.take k)) 84 (0, 0))) (fun i _ => l.length - (intOf i).toNat)
    case atStart =>
      refine ⟨0, by omega, rfl, bAlloc (bAlloc (Below.refl _ _) _) _, ⟨fun _ => false, ?_⟩, ?_⟩
      · rw [heap_alloc_old _ _ _ (by simp)]
        exact heap_alloc_new w _
      · have := heap_alloc_new (w.alloc (.cells (bools fun _ => false) 84)) (.cells (bools fun _ => false) 84)
        rw [World.size_alloc] at this
        simp only [List.take_zero, List.not_mem_nil, decide_false]
        exact this
    case round =>
      obtain ⟨k, hk, rfl, hbr, ⟨f0, hg0⟩, hg1⟩ := hrel
      by_cases hlt : k < l.length
      · have hcell : wr.cell? ⟨b, o + k, none⟩ = some (.int .i64 l[k]) := by rw [hbr.cell hb, hc k hlt]; simp [List.getD, hlt]
        have hx := hs.2 k hlt
        have hts := take_snoc l k hlt
        generalize l[k] = x at *
        obtain ⟨n, rfl⟩ := Int.eq_ofNat_of_zero_le hx.1
        have hn8 : n < 8 := by omega
        have hcn := bools_cell hg1 n hn8
        have hfn := frozen_at hg1 n
        have hz : w.heap.size + 1 < wr.heap.size := heap_lt hg1
        have hx2 := hx.2
        have hx1 := hx.1
        have HT := Lib.hid hts
        have H0 := Lib.hid hg0
        have H1 := Lib.hid hg1
        clear hts hx hc hg0 hg1
        go_wp2
        go_light
        refine ⟨⟨k + 1, by omega, by go_num, hbr.setCell (by simp) _, ⟨f0, ?_⟩, ?_⟩, by simp [intOf]; omega⟩
        · rw [Below.heap_setCell _ _ _ _ (by simp)]; exact H0.out
        · rw [bools_put H1.out n hn8 true]
          refine congrArg (fun f => some (Obj.cells (bools f) 84 (0, 0))) (funext fun i => ?_)
          rw [HT.out]
          by_cases e : i = n
          · subst e; simp
          · simp [e]
            intro h
            omega
      · have e : l.take k = l := List.take_of_length_le (by omega)
        rw [e] at hg1
        generalize hfd : (fun i : Nat => decide ((i : Int) ∈ l)) = f at *
        have d0 := bools_cell hg1 0 (by decide)
        have d1 := bools_cell hg1 1 (by decide)
        have d2 := bools_cell hg1 2 (by decide)
        have d3 := bools_cell hg1 3 (by decide)
        have d4 := bools_cell hg1 4 (by decide)
        have d5 := bools_cell hg1 5 (by decide)
        have d6 := bools_cell hg1 6 (by decide)
        have d7 := bools_cell hg1 7 (by decide)
        have q0 := bools_cell hg0 0 (by decide)
        have q1 := bools_cell hg0 1 (by decide)
        have q2 := bools_cell hg0 2 (by decide)
        have q3 := bools_cell hg0 3 (by decide)
        have q4 := bools_cell hg0 4 (by decide)
        have q5 := bools_cell hg0 5 (by decide)
        have q6 := bools_cell hg0 6 (by decide)
        have q7 := bools_cell hg0 7 (by decide)
        have z0 : ∀ o, wr.frozen? ⟨w.heap.size, o, none⟩ = false := fun o => frozen_at hg0 o
        clear hc e
        go_wp2
        refine bodyPost_ret (v := .agg (bools f)) ?_ rfl ⟨ret_of (by rw [← hfd]), ?_⟩
        · go_light
          simp [results, Try.results59, go_sem, q0, q1, q2, q3, q4, q5, q6, q7]
          rfl
        · go_light
          repeat (with_reducible refine Below.setCell ?_ (by simp) _)
          exact hbr
  · have hl0 : l = [] := by cases l with | nil => rfl | cons _ _ => simp at h0
    subst hl0
    go_enter Try.func59, Try.ntmps59
    go_wp2
    go_loop [8] (fun i => i = .int .i64 0) (fun _ => 0)
    case atStart => rfl
    case round =>
      subst hrel
      go_wp2
      refine bodyPost_ret (v := .agg (bools fun _ => false)) ?_ rfl ⟨ret_of (by simp), ?_⟩
      · go_light
        simp [results, Try.results59, go_sem]
        rfl
      · go_light
        repeat (with_reducible refine Below.setCell ?_ (by simp) _)
        exact bAlloc (bAlloc (Below.refl _ _) _) _

/-- The numbers of a set, rising. -/
def setTo (f : Nat → Bool) (k : Nat) : List Int := ((List.range k).filter f).map fun (i : Nat) => (i : Int)
def setList (f : Nat → Bool) : List Int := setTo f 8
theorem setTo_succ (f : Nat → Bool) (k : Nat) : setTo f (k + 1) = setTo f k ++ (if f k = true then [(k : Int)] else []) := by
  unfold setTo
  rw [List.range_succ, List.filter_append, List.map_append, List.filter_cons, List.filter_nil]
  congr 1
  by_cases h : f k = true
  · rw [if_pos h, if_pos h]; rfl
  · rw [if_neg h, if_neg h]; rfl
theorem setTo_len (f : Nat → Bool) (k : Nat) : (setTo f k).length ≤ k := by
  unfold setTo
  have := List.length_filter_le f (List.range k)
  simpa using this

theorem setU : Try.prog.underlying 84 = some (.array 8 4) := by kernel_rfl
theorem boolU : Try.prog.underlying 4 = some .bool := by kernel_rfl
theorem boolS : (Try.prog.info? 4).map (·.size) = some 1 := by kernel_rfl
theorem part_bool (cs : Array Value) (i : Nat) (v : Value) (hv : cs[i]? = some v) (w : World) : (part 4 cs i).run Try.prog w = .ok v w := by
  simp [part, isAgg, run_underlying boolU, hv]
theorem idxB (f : Nat → Bool) (k : Nat) (hk : k < 8) (w : World) : (Instr.index 84 (.agg (bools f)) (.int .i64 k)).run Try.prog w = .ok (.bool (f k)) w := by
  have e1 := part_bool (bools f) (k * 1) (.bool (f k)) (by rw [Nat.mul_one]; exact bools_get f k hk) w
  simp only [Nat.mul_one] at e1
  simp [Instr.index, asIntOf, run_underlying setU, sizeOf_run boolS, hk, e1]

set_option maxRecDepth 100000 in
set_option maxHeartbeats 2000000 in
theorem list_calls (f : Nat → Bool) (w : World) :
    Calls Try.prog 60 #[.agg (bools f)] w fun e w' => ∃ A C, e = .returned (.slice A (setList f).length C) ∧ Ints w' .i64 A (setList f) ∧ Below w.heap.size w w' ∧ ∀ x, A = some x → w.heap.size ≤ x.block := by
  have hb := bAlloc (Below.refl _ w) (.cells (bools f) 84)
  go_enter Try.func60, Try.ntmps60
  unfold bools
  go_wp2
  go_loopw [3, 7] (fun v i wr => ∃ k : Nat, k ≤ 8 ∧ i = .int .i64 k ∧ Below w.heap.size w wr ∧ w.heap.size + 1 ≤ wr.heap.size ∧ ∃ A C, v = .slice A (setTo f k).length C ∧ wr.ownsRow (w.heap.size + 1) 3 1 (.slice A (setTo f k).length C) (setTo f k).length ((setTo f k).map (.int .i64))) (fun _ i _ => 8 - (intOf i).toNat)
  case atStart => exact ⟨0, by omega, rfl, hb, by simp, none, 0, rfl, World.ownsRow_nil _ _ _ _⟩
  case round =>
    obtain ⟨k, hk, rfl, hbr, hsz, A, C, rfl, hown⟩ := hrel
    have hwl := setTo_len f k
    have hs := setTo_succ f k
    by_cases hk8 : k < 8
    · have hidx := fun w' => idxB f k hk8 w'
      unfold bools at hidx
      generalize f k = x at hs hidx
      have HS := Lib.hid hs
      clear hs
      cases x
      · go_wp2
        go_light
        have hs := HS.out
        simp at hs
        refine ⟨⟨k + 1, by omega, by go_num, hbr, hsz, A, C, ?_, ?_⟩, by simp [intOf]; omega⟩
        · rw [hs]
        · rw [hs]; exact hown
      · go_wp2_with (at_builtin; refine wpList_app elInt (w.heap.size + 1) rfl _ _ rfl _ _ _ rfl (hown.alloc _) _ 1 _ [.int .i64 k] rfl rfl (Row.one _ _ _) (by simp [Value.oneCell']) (by omega) (by simp; omega) ?_; intro A2 C2 w2 hown2 hgrow2 hb2)
        go_light
        have hs := HS.out
        rw [if_pos rfl] at hs
        have hs2 := hb2.size
        simp at hs2
        refine ⟨⟨k + 1, by omega, by go_num, (hbr.alloc hbr.size _).trans (hb2.mono (by omega)), by omega, A2, C2, ?_, ?_⟩, by simp [intOf]; omega⟩
        · rw [hs]; simp
        · rw [hs]; simpa using hown2
    · have e8 : k = 8 := by omega
      subst e8
      go_wp2
      go_ret
      refine ⟨A, C, rfl, Row.of_own hown, hbr, fun x hx => ?_⟩
      have := hown.lt x.block (by rw [hx]; rfl)
      omega

end Go.Proofs.Ytinkbiinbfbjgaa

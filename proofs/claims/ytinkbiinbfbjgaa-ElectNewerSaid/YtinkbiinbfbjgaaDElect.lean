/- Contracts of elect's functions; alive of the statements of chapter 17. -/
import Derived.Test.YtinkbiinbfbjgaaProg
import Derived.Test.YtinkbiinbfbjgaaDConfA
namespace Go.Proofs.Ytinkbiinbfbjgaa
open Go.RowKit
set_option linter.unusedVariables false

theorem elInt : ElemT Try.prog 37 3 (.int .i64 0) 1 8 := ElemT.of (by kernel_rfl) (by kernel_rfl) rfl (by decide) (by decide)

theorem oneCell_ints (k : IntKind) (l : List Int) : ∀ u ∈ l.map (Value.int k), u.oneCell' = true := by
  intro u hu
  obtain ⟨n, _, rfl⟩ := List.mem_map.1 hu
  rfl

/-- A tally in block g: the voters, the answers. -/
def TallyAt (w : World) (g : Nat) (l an : List Int) : Prop :=
  an.length = 8 ∧ ∃ A C, w.heap[g]? = some (.cells (#[.slice A l.length C, .slice none 0 0] ++ (an.map (.int .u8)).toArray) 109 (0, 0)) ∧ Ints w .i64 A l ∧ ∀ x, A = some x → x.block ≠ g

theorem cell_at {w : World} {g : Nat} {cs : Array Value} {T : TypeId} {f : Nat × Nat} (h : w.heap[g]? = some (.cells cs T f)) (o : Nat) : w.cell? ⟨g, o, none⟩ = cs[o]? := by
  simp [World.cell?, h]
theorem frozen_at {w : World} {g : Nat} {cs : Array Value} {T : TypeId} (h : w.heap[g]? = some (.cells cs T (0, 0))) (o : Nat) : w.frozen? ⟨g, o, none⟩ = false := by
  simp [World.frozen?, h]
theorem heap_lt {w : World} {g : Nat} {o : Obj} (h : w.heap[g]? = some o) : g < w.heap.size := by
  rcases Nat.lt_or_ge g w.heap.size with h1 | h1
  · exact h1
  · rw [Array.getElem?_eq_none h1] at h; cases h
theorem setCell_at {w : World} {g : Nat} {cs : Array Value} {T : TypeId} {f : Nat × Nat} (h : w.heap[g]? = some (.cells cs T f)) (o : Nat) (v : Value) :
    (w.setCell ⟨g, o, none⟩ v).heap[g]? = some (.cells (cs.setIfInBounds o v) T f) := by
  have hg : g < w.heap.size := by
    rcases Nat.lt_or_ge g w.heap.size with h1 | h1
    · exact h1
    · rw [Array.getElem?_eq_none h1] at h; cases h
  simp only [World.setCell, Array.getElem?_modify, if_pos, h]
  rfl

theorem grown_of_below {w w1 : World} (hb : Below w.heap.size w w1) (row : Option Nat) : w.grownBy w1 row := ⟨hb.os, hb.tape, hb.output, hb.size, fun k hk _ => hb.block k hk⟩
theorem grown_set {w w1 : World} {g : Nat} (h : w.grownBy w1 (some g)) (o : Nat) (v : Value) : w.grownBy (w1.setCell ⟨g, o, none⟩ v) (some g) :=
  ⟨h.os, h.tape, h.output, by simpa using h.size, fun k hk hne => by rw [Below.heap_setCell _ _ _ _ (fun e => hne (by rw [e]))]; exact h.block k hk hne⟩

theorem TallyAt.below {w w1 : World} {g : Nat} {l an : List Int} (h : TallyAt w g l an) (hb : Below w.heap.size w w1) : TallyAt w1 g l an := by
  obtain ⟨h8, A, C, hg, hr, hA⟩ := h
  exact ⟨h8, A, C, by rw [hb.block g (heap_lt hg)]; exact hg, hr.below hb, hA⟩
theorem Row.other {w : World} {a : Option Addr} {vs : List Value} (h : Row w a vs) {p : Addr} (hp : ∀ x, a = some x → x.block ≠ p.block) (v : Value) : Row (w.setCell p v) a vs := by
  rcases h with h | ⟨b, o, rfl, hc⟩
  · exact .inl h
  · refine .inr ⟨b, o, rfl, fun i hi => ?_⟩
    rw [World.cell?_setCell_other _ _ _ _ (fun e => hp _ rfl (by rw [e]))]
    exact hc i hi

theorem TallyAt.set {w : World} {g : Nat} {l an : List Int} (h : TallyAt w g l an) (k : Nat) (v : Int) : TallyAt (w.setCell ⟨g, 2 + k, none⟩ (.int .u8 v)) g l (an.set k v) := by
  obtain ⟨h8, A, C, hg, hr, hA⟩ := h
  refine ⟨by simpa using h8, A, C, ?_, Row.other hr hA _, hA⟩
  rw [setCell_at hg, Array.setIfInBounds_append_right (by simp)]
  simp [List.map_set]

set_option maxHeartbeats 400000 in
theorem New_calls (l m : List Int) (a b : Option Addr) (c d : Nat) (w : World) (h : Ints w .i64 a l) (hl : l.length < 2^40) :
    Calls Try.prog 51 #[.agg #[.slice a l.length c, .slice b m.length d]] w fun e w' => ∃ g, e = .returned (.pointer (some ⟨g, 0, none⟩)) ∧ w.heap.size ≤ g ∧ Below w.heap.size w w' ∧ TallyAt w' g l [0, 0, 0, 0, 0, 0, 0, 0] := by
  have hb := bAlloc (Below.refl w.heap.size w) (.cells #[.slice a l.length c, .slice b m.length d] 39)
  go_enter Try.func51, Try.ntmps51
  go_wp2_with (at_builtin; refine wpList_app elInt w.heap.size rfl _ _ rfl (.slice none 0 0) 0 [] rfl (World.ownsRow_nil _ _ _ _) a l.length c (l.map (.int .i64)) rfl (by simp) (h.below hb) (oneCell_ints _ _) (by omega) (by simp) ?_; intro A C w1 hown hgrow hb1)
  go_ret
  go_light
  have hr := Row.of_own hown
  refine ⟨w1.heap.size, rfl, ?_, bAlloc (hb.trans hb1) _, rfl, A, C, ?_, ?_, ?_⟩
  · have := hb1.size; simp at this; omega
  · rw [heap_alloc_new w1 _]; simp
  · exact Row.below hr (bAlloc (Below.refl _ _) _)
  · intro x hx
    have := hown.lt x.block (by rw [hx]; rfl)
    omega

def countA (l an : List Int) (node : Int) (good : Bool) : List Int :=
  if 0 ≤ node ∧ node < 8 ∧ node ∈ l ∧ an.getD node.toNat 0 = 0 then an.set node.toNat (if good then 1 else 2) else an

theorem countA_hit {l an : List Int} {k : Nat} {good : Bool} (hk : k < 8) (h8 : an.length = 8) (hin : (k : Int) ∈ l) (hz : an[k] = 0) : countA l an k good = an.set k (if good then 1 else 2) := by
  unfold countA
  rw [if_pos ⟨by omega, by omega, hin, by simp [List.getD, show k < an.length by omega, hz]⟩, Int.toNat_natCast]

set_option maxHeartbeats 1000000 in
theorem Count_calls (l an : List Int) (g : Nat) (node : Int) (good : Bool) (w : World) (h : TallyAt w g l an) (hl : l.length < 2^40) :
    Calls Try.prog 52 #[.pointer (some ⟨g, 0, none⟩), .int .i64 node, .bool good] w fun e w' => e = .returned (.tuple #[]) ∧ TallyAt w' g l (countA l an node good) ∧ w.grownBy w' (some g) := by
  have hT := h
  obtain ⟨h8, A, C, hg, hr, hA⟩ := h
  have hgl : g < w.heap.size := heap_lt hg
  have hc0 : w.cell? ⟨g, 0, none⟩ = some (.slice A l.length C) := by rw [cell_at hg]; simp
  have hc1 : w.cell? ⟨g, 1, none⟩ = some (.slice none 0 0) := by rw [cell_at hg]; simp
  have hck : ∀ k : Nat, k < 8 → w.cell? ⟨g, 2 + k, none⟩ = some (.int .u8 (an.getD k 0)) := by
    intro k hk
    rw [cell_at hg, Array.getElem?_append_right (by simp)]
    simp [List.getD, show k < an.length by omega]
  have hf : ∀ k : Nat, w.frozen? ⟨g, 2 + k, none⟩ = false := fun k => frozen_at hg _
  by_cases hn : 0 ≤ node ∧ node < 8
  · obtain ⟨hn0, hn8⟩ := hn
    obtain ⟨k, rfl⟩ := Int.eq_ofNat_of_zero_le hn0
    have hk8 : k < 8 := by omega
    have hk := hck k hk8
    have hfk := hf k
    clear hck hf
    go_enter Try.func52, Try.ntmps52
    go_wp2_with (go_at_call 29; refine (Votes_calls l [] _ _ _ 0 _ _ hr (by omega)).mono ?_; rintro e w1 ⟨rfl, hb1⟩; obtain ⟨hc, hf⟩ := bcell hb1)
    · refine bodyPost_ret (results_none rfl _ _ _) rfl ⟨rfl, ?_, ?_⟩
      · go_light
        have hor : ((k : Int) < 0 ∨ 8 ≤ (k : Int)) ∨ (an[k] != 0) = true := by assumption
        have e : countA l an k good = an := by
          unfold countA
          rw [if_neg]
          rintro ⟨_, _, _, h⟩
          rcases hor with h' | h'
          · omega
          · simp only [Int.toNat_natCast, List.getD, List.getElem?_eq_getElem (show k < an.length by omega), Option.getD_some] at h
            simp [h] at h'
        rw [e]
        exact hT.below hb1
      · exact grown_of_below hb1 _
    · refine bodyPost_end (results_none rfl _ _ _) rfl ⟨rfl, ?_, ?_⟩
      · go_light
        have hin : (k : Int) ∈ l := by assumption
        have hz : (an[k] != 0) = false := (by assumption : (0 ≤ (k : Int) ∧ (k : Int) < 8) ∧ (an[k] != 0) = false).2
        have hgd : good = true := by assumption
        rw [countA_hit hk8 h8 hin (by simpa using hz), hgd]
        have := ((hT.below hb1).set k 2).set k 1
        simpa using this
      · exact grown_set (grown_set (grown_of_below hb1 _) _ _) _ _
    · refine bodyPost_end (results_none rfl _ _ _) rfl ⟨rfl, ?_, ?_⟩
      · go_light
        have hin : (k : Int) ∈ l := by assumption
        have hz : (an[k] != 0) = false := (by assumption : (0 ≤ (k : Int) ∧ (k : Int) < 8) ∧ (an[k] != 0) = false).2
        have hgd : good = false := by assumption
        rw [countA_hit hk8 h8 hin (by simpa using hz), hgd]
        exact (hT.below hb1).set k 2
      · exact grown_set (grown_of_below hb1 _) _ _
    · refine bodyPost_ret (results_none rfl _ _ _) rfl ⟨rfl, ?_, ?_⟩
      · go_light
        have hin : ¬(k : Int) ∈ l := by assumption
        have e : countA l an k good = an := by
          unfold countA
          rw [if_neg (fun h => hin h.2.2.1)]
        rw [e]
        exact hT.below hb1
      · exact grown_of_below hb1 _
  · have e : countA l an node good = an := by
      unfold countA
      rw [if_neg (fun h => hn ⟨h.1, h.2.1⟩)]
    rw [e]
    clear e
    by_cases h1 : node < 0
    · clear hn
      go_enter Try.func52, Try.ntmps52
      go_wp2
      exact bodyPost_ret (results_none rfl _ _ _) rfl ⟨rfl, hT, ⟨rfl, rfl, rfl, Nat.le_refl _, fun _ _ _ => rfl⟩⟩
    · have h2 : 8 ≤ node := by omega
      clear hn
      go_enter Try.func52, Try.ntmps52
      go_wp2
      exact bodyPost_ret (results_none rfl _ _ _) rfl ⟨rfl, hT, ⟨rfl, rfl, rfl, Nat.le_refl _, fun _ _ _ => rfl⟩⟩


/-- The numbers of the places that hold 'what'. -/
def withA (an : List Int) (what : Int) (k : Nat) : List Int := ((List.range k).filter fun i => an.getD i 0 = what).map fun (i : Nat) => (i : Int)
theorem withA_succ (an : List Int) (what : Int) (k : Nat) : withA an what (k + 1) = withA an what k ++ (if an.getD k 0 = what then [(k : Int)] else []) := by
  unfold withA
  rw [List.range_succ, List.filter_append, List.map_append]
  congr 1
  rw [List.filter_cons, List.filter_nil]
  by_cases h : an.getD k 0 = what
  · rw [if_pos h, if_pos (by simpa using h)]; rfl
  · rw [if_neg h, if_neg (by simpa using h)]; rfl
theorem withA_len (an : List Int) (what : Int) (k : Nat) : (withA an what k).length ≤ k := by
  unfold withA
  have := List.length_filter_le (fun i => decide (an.getD i 0 = what)) (List.range k)
  simpa using this
theorem withA_zero (what : Int) (hw : what ≠ 0) (k : Nat) : withA [0, 0, 0, 0, 0, 0, 0, 0] what k = [] := by
  induction k with
  | zero => rfl
  | succ k ih =>
    rw [withA_succ, ih, if_neg]
    · rfl
    · intro h
      apply hw
      rw [← h]
      match k with
      | 0 | 1 | 2 | 3 | 4 | 5 | 6 | 7 => rfl
      | k + 8 => rfl

theorem arr8 : Try.prog.underlying 107 = some (.array 8 5) := by kernel_rfl
theorem u8u : Try.prog.underlying 5 = some (.int .u8) := by kernel_rfl
theorem u8s : (Try.prog.info? 5).map (·.size) = some 1 := by kernel_rfl

theorem idx8 (a0 a1 a2 a3 a4 a5 a6 a7 : Int) (k : Nat) (hk : k < 8) (w : World) :
    (Instr.index 107 (.agg #[.int .u8 a0, .int .u8 a1, .int .u8 a2, .int .u8 a3, .int .u8 a4, .int .u8 a5, .int .u8 a6, .int .u8 a7]) (.int .i64 k)).run Try.prog w = .ok (.int .u8 ([a0, a1, a2, a3, a4, a5, a6, a7].getD k 0)) w := by
  have e1 := part_int (P := Try.prog) u8u #[.int .u8 a0, .int .u8 a1, .int .u8 a2, .int .u8 a3, .int .u8 a4, .int .u8 a5, .int .u8 a6, .int .u8 a7] (k * 1) (.int .u8 ([a0, a1, a2, a3, a4, a5, a6, a7].getD k 0)) (by
    have h : k = 0 ∨ k = 1 ∨ k = 2 ∨ k = 3 ∨ k = 4 ∨ k = 5 ∨ k = 6 ∨ k = 7 := by omega
    rcases h with rfl | rfl | rfl | rfl | rfl | rfl | rfl | rfl <;> rfl) w
  simp only [Nat.mul_one] at e1
  simp [Instr.index, asIntOf, run_underlying arr8, sizeOf_run u8s, hk, e1]

theorem eq8 (a0 a1 a2 a3 a4 a5 a6 a7 b0 b1 b2 b3 b4 b5 b6 b7 : Int) (w : World) :
    (Op.equalIn 10000 107 (.agg #[.int .u8 a0, .int .u8 a1, .int .u8 a2, .int .u8 a3, .int .u8 a4, .int .u8 a5, .int .u8 a6, .int .u8 a7])
      (.agg #[.int .u8 b0, .int .u8 b1, .int .u8 b2, .int .u8 b3, .int .u8 b4, .int .u8 b5, .int .u8 b6, .int .u8 b7])).run Try.prog w = .ok (decide ([a0, a1, a2, a3, a4, a5, a6, a7] = [b0, b1, b2, b3, b4, b5, b6, b7])) w :=
  run_eq_array arr8 u8u u8s [a0, a1, a2, a3, a4, a5, a6, a7] [b0, b1, b2, b3, b4, b5, b6, b7] rfl rfl 9998 w

set_option maxRecDepth 100000 in
set_option maxHeartbeats 1000000 in
theorem with_calls (l : List Int) (a0 a1 a2 a3 a4 a5 a6 a7 : Int) (g : Nat) (what : Int) (hw : what ≠ 0) (w : World) (h : TallyAt w g l [a0, a1, a2, a3, a4, a5, a6, a7]) :
    Calls Try.prog 77 #[.pointer (some ⟨g, 0, none⟩), .int .u8 what] w fun e w' => ∃ A C, e = .returned (.slice A (withA [a0, a1, a2, a3, a4, a5, a6, a7] what 8).length C) ∧ Ints w' .i64 A (withA [a0, a1, a2, a3, a4, a5, a6, a7] what 8) ∧ Below w.heap.size w w' := by
  obtain ⟨h8, A, C, hg, hr, hA⟩ := h
  have hgl : g < w.heap.size := heap_lt hg
  have c0 : w.cell? ⟨g, 2, none⟩ = some (.int .u8 a0) := by rw [cell_at hg]; rfl
  have c1 : w.cell? ⟨g, 3, none⟩ = some (.int .u8 a1) := by rw [cell_at hg]; rfl
  have c2 : w.cell? ⟨g, 4, none⟩ = some (.int .u8 a2) := by rw [cell_at hg]; rfl
  have c3 : w.cell? ⟨g, 5, none⟩ = some (.int .u8 a3) := by rw [cell_at hg]; rfl
  have c4 : w.cell? ⟨g, 6, none⟩ = some (.int .u8 a4) := by rw [cell_at hg]; rfl
  have c5 : w.cell? ⟨g, 7, none⟩ = some (.int .u8 a5) := by rw [cell_at hg]; rfl
  have c6 : w.cell? ⟨g, 8, none⟩ = some (.int .u8 a6) := by rw [cell_at hg]; rfl
  have c7 : w.cell? ⟨g, 9, none⟩ = some (.int .u8 a7) := by rw [cell_at hg]; rfl
  go_enter Try.func77, Try.ntmps77
  have heq := fun w' => eq8 a0 a1 a2 a3 a4 a5 a6 a7 0 0 0 0 0 0 0 0 w'
  have hgd : Try.prog.eqGuardType Try.prog.depth 107 = false := by kernel_rfl
  go_wp2
  · go_ret
    go_light
    have hz : a0 = 0 ∧ a1 = 0 ∧ a2 = 0 ∧ a3 = 0 ∧ a4 = 0 ∧ a5 = 0 ∧ a6 = 0 ∧ a7 = 0 := by assumption
    obtain ⟨rfl, rfl, rfl, rfl, rfl, rfl, rfl, rfl⟩ := hz
    rw [withA_zero what hw]
    exact ⟨none, 0, rfl, Ints.nil _ _ _, Below.refl _ _⟩
  · clear heq hgd
    go_loopw [5, 18] (fun v i wr => ∃ k : Nat, k ≤ 8 ∧ i = .int .i64 k ∧ Below w.heap.size w wr ∧ ∃ A C, v = .slice A (withA [a0, a1, a2, a3, a4, a5, a6, a7] what k).length C ∧ wr.ownsRow w.heap.size 3 1 (.slice A (withA [a0, a1, a2, a3, a4, a5, a6, a7] what k).length C) (withA [a0, a1, a2, a3, a4, a5, a6, a7] what k).length ((withA [a0, a1, a2, a3, a4, a5, a6, a7] what k).map (.int .i64))) (fun _ i _ => 8 - (intOf i).toNat)
    case atStart => exact ⟨0, by omega, rfl, Below.refl _ _, none, 0, rfl, World.ownsRow_nil _ _ _ _⟩
    case round =>
      obtain ⟨k, hk, rfl, hbr, A, C, rfl, hown⟩ := hrel
      have hwl := withA_len [a0, a1, a2, a3, a4, a5, a6, a7] what k
      clear c0 c1 c2 c3 c4 c5 c6 c7 hg
      have hs := withA_succ [a0, a1, a2, a3, a4, a5, a6, a7] what k
      by_cases hk8 : k < 8
      · have hidx := fun w' => idx8 a0 a1 a2 a3 a4 a5 a6 a7 k hk8 w'
        generalize hx : [a0, a1, a2, a3, a4, a5, a6, a7].getD k 0 = x at hs hidx
        have HS := Lib.hid hs
        clear hs hx
        go_wp2_with (at_builtin; refine wpList_app elInt w.heap.size rfl _ _ rfl _ _ _ rfl (hown.alloc _) _ 1 _ [.int .i64 k] rfl rfl (Row.one _ _ _) (by simp [Value.oneCell']) (by omega) (by have := hbr.size; simp; omega) ?_; intro A2 C2 w2 hown2 hgrow2 hb2)
        · have hxw : (x == what) = true := by assumption
          go_light
          have hs := HS.out
          rw [if_pos (by simpa using hxw)] at hs
          refine ⟨⟨k + 1, by omega, by go_num, (hbr.alloc hbr.size _).trans hb2, A2, C2, ?_, ?_⟩, by simp [intOf]; omega⟩
          · rw [hs]; simp
          · rw [hs]; simpa using hown2
        · have hxw : (x == what) = false := by assumption
          go_light
          have hs := HS.out
          rw [if_neg (by simpa using hxw), List.append_nil] at hs
          refine ⟨⟨k + 1, by omega, by go_num, hbr, A, C, ?_, ?_⟩, by simp [intOf]; omega⟩
          · rw [hs]
          · rw [hs]; exact hown
      · have e8 : k = 8 := by omega
        subst e8
        go_wp2
        go_ret
        exact ⟨A, C, rfl, Row.of_own hown, hbr⟩


/-- How many voters have said yes. -/
def wonA (l : List Int) (a0 a1 a2 a3 a4 a5 a6 a7 : Int) : Bool := decide ((l.length : Int) < 2 * countIn l (withA [a0, a1, a2, a3, a4, a5, a6, a7] 1 8))

set_option maxHeartbeats 1000000 in
theorem Won_calls (l : List Int) (a0 a1 a2 a3 a4 a5 a6 a7 : Int) (g : Nat) (w : World) (h : TallyAt w g l [a0, a1, a2, a3, a4, a5, a6, a7]) (hl : l.length < 2^40) :
    Calls Try.prog 53 #[.pointer (some ⟨g, 0, none⟩)] w fun e w' => e = .returned (.bool (wonA l a0 a1 a2 a3 a4 a5 a6 a7)) ∧ Below w.heap.size w w' := by
  have hT := h
  obtain ⟨h8, A, C, hg, hr, hA⟩ := h
  have hgl : g < w.heap.size := heap_lt hg
  have hc0 : w.cell? ⟨g, 0, none⟩ = some (.slice A l.length C) := by rw [cell_at hg]; simp
  have hc1 : w.cell? ⟨g, 1, none⟩ = some (.slice none 0 0) := by rw [cell_at hg]; simp
  go_enter Try.func53, Try.ntmps53
  go_wp2
  go_region_with (first | (go_at_call 77; refine (with_calls l a0 a1 a2 a3 a4 a5 a6 a7 g 1 (by decide) _ (hT.below (by repeat (first | (with_reducible exact Below.refl _ _) | (with_reducible refine Below.drew ?_))))).mono ?_; rintro e w1 ⟨A1, C1, rfl, hi1, hb0⟩; have hb1 := bTrans (Below.drew (Below.refl _ w)) hb0; clear hb0; obtain ⟨hcc, hff⟩ := bcell hb1) | (go_at_call 24; refine (Majority_calls l [] _ _ _ _ _ 0 _ _ (hr.below hb1) (by omega) hi1 (by have := withA_len [a0, a1, a2, a3, a4, a5, a6, a7] 1 8; omega)).mono ?_; rintro e w2 ⟨rfl, hb2⟩))
  all_goals (go_wp2; go_ret; exact ⟨rfl, bTrans hb1 hb2⟩)

/-- How many voters have said no. -/
def nos (l an : List Int) : Int := ((l.filter fun n => decide (0 ≤ n ∧ n < 8) && decide (an.getD n.toNat 0 = 2)).length : Int)
theorem nos_snoc (l an : List Int) (x : Int) : nos (l ++ [x]) an = nos l an + (if (0 ≤ x ∧ x < 8) ∧ an.getD x.toNat 0 = 2 then 1 else 0) := by
  unfold nos
  rw [List.filter_append, List.length_append, List.filter_cons, List.filter_nil]
  by_cases h : (0 ≤ x ∧ x < 8) ∧ an.getD x.toNat 0 = 2
  · rw [if_pos h, if_pos (by simpa using h)]; simp
  · rw [if_neg h, if_neg (by simpa using h)]; simp
theorem nos_le (l an : List Int) : 0 ≤ nos l an ∧ nos l an ≤ l.length := by
  unfold nos
  have := List.length_filter_le (fun n => decide (0 ≤ n ∧ n < 8) && decide (an.getD n.toNat 0 = 2)) l
  exact ⟨by omega, by omega⟩
def lostA (l an : List Int) : Bool := decide (2 * ((l.length : Int) - nos l an) ≤ l.length)

set_option maxHeartbeats 1000000 in
theorem Lost_calls (l an : List Int) (g : Nat) (w : World) (h : TallyAt w g l an) (hl : l.length < 2^40) :
    Calls Try.prog 54 #[.pointer (some ⟨g, 0, none⟩)] w fun e w' => e = .returned (.bool (lostA l an)) ∧ Below w.heap.size w w' := by
  obtain ⟨h8, A, C, hg, hr, hA⟩ := h
  have hgl : g < w.heap.size := heap_lt hg
  have hc0 : w.cell? ⟨g, 0, none⟩ = some (.slice A l.length C) := by rw [cell_at hg]; simp
  have hck : ∀ k : Nat, k < 8 → w.cell? ⟨g, 2 + k, none⟩ = some (.int .u8 (an.getD k 0)) := by
    intro k hk
    rw [cell_at hg, Array.getElem?_append_right (by simp)]
    simp [List.getD, show k < an.length by omega]
  have hnl := nos_le l an
  by_cases h0 : 0 < l.length
  · obtain ⟨b, o, rfl, hb, hc⟩ := hr.open h0
    clear hg h0
    go_enter Try.func54, Try.ntmps54
    go_wp2
    go_loop [3, 12] (fun s i => ∃ k : Nat, k ≤ l.length ∧ i = .int .i64 k ∧ s = .int .i64 (nos (l.take k) an)) (fun _ i => l.length - (intOf i).toNat)
    case atStart => exact ⟨0, by omega, rfl, rfl⟩
    case round =>
      obtain ⟨k, hk, rfl, rfl⟩ := hrel
      have hnk := nos_le (l.take k) an
      have hlk : (l.take k).length ≤ k := List.length_take_le _ _
      by_cases hlt : k < l.length
      · have hcell := hc k hlt
        simp only [List.getD, List.getElem?_eq_getElem hlt, Option.getD_some] at hcell
        have hs := nos_snoc (l.take k) an l[k]
        rw [← take_snoc l k hlt] at hs
        have HS := Lib.hid hs
        clear hs hc hnl
        by_cases h08 : 0 ≤ l[k] ∧ l[k] < 8
        · obtain ⟨x, hx⟩ := Int.eq_ofNat_of_zero_le h08.1
          have hx8 := hck x (by omega)
          rw [hx] at hcell h08
          have h1 := h08.1
          have h2 := h08.2
          clear hck h08
          go_wp2
          · have hh : (an[x]?.getD 0 == 2) = true := by assumption
            go_light
            refine ⟨⟨k + 1, by omega, by go_num, int_of ?_⟩, by simp [intOf]; omega⟩
            rw [HS.out, hx, if_pos ⟨⟨h1, h2⟩, by simpa using hh⟩]
          · have hh : (an[x]?.getD 0 == 2) = false := by assumption
            go_light
            refine ⟨⟨k + 1, by omega, by go_num, int_of ?_⟩, by simp [intOf]; omega⟩
            rw [HS.out, hx, if_neg (fun h => by have h3 := h.2; simp at h3 hh; exact hh h3)]; omega
        · clear hck
          have hs : nos (l.take (k + 1)) an = nos (l.take k) an := by rw [HS.out, if_neg (fun h => h08 h.1)]; omega
          have HS2 := Lib.hid hs
          clear hs HS
          by_cases h1 : l[k] < 0
          · clear h08
            go_wp2
            go_light
            exact ⟨⟨k + 1, by omega, by go_num, int_of HS2.out.symm⟩, by simp [intOf]; omega⟩
          · have h2 : 8 ≤ l[k] := by omega
            clear h08
            go_wp2
            go_light
            exact ⟨⟨k + 1, by omega, by go_num, int_of HS2.out.symm⟩, by simp [intOf]; omega⟩
      · have hkl : l.length = k := by omega
        have e : l.take k = l := List.take_of_length_le (by omega)
        rw [e] at hnk ⊢
        clear hc hck e
        go_wp2
        go_quiet (fail)
        go_wp2
        go_ret
        go_light
        refine ⟨ret_of (bool_of ?_), bDrewN (Below.refl _ _) _⟩
        unfold lostA
        rw [hkl]
  · have hl0 : l = [] := by cases l with | nil => rfl | cons _ _ => simp at h0
    subst hl0
    go_enter Try.func54, Try.ntmps54
    go_wp2
    go_loop [3, 12] (fun s i => s = .int .i64 0 ∧ i = .int .i64 0) (fun _ _ => 0)
    case atStart => exact ⟨rfl, rfl⟩
    case round =>
      obtain ⟨rfl, rfl⟩ := hrel
      go_wp2
      go_quiet (fail)
      go_wp2
      go_ret
      exact ⟨rfl, bDrewN (Below.refl _ _) _⟩


def newer (i t j u : Int) : Bool := decide (u < t) || (decide (t = u) && decide (j ≤ i))

set_option maxHeartbeats 400000 in
theorem Newer_calls (i t j u : Int) (w : World) :
    Calls Try.prog 16 #[.int .u64 i, .int .u64 t, .int .u64 j, .int .u64 u] w fun e w' => e = .returned (.bool (newer i t j u)) ∧ w = w' := by
  go_enter Try.func16, Try.ntmps16
  go_wp2
  all_goals
    go_ret
    refine ⟨ret_of (bool_of ?_), rfl⟩
    go_light
    unfold newer
    rw [Bool.eq_iff_iff]
    simp
    omega

set_option maxHeartbeats 400000 in
theorem Timeout_calls (d : Int) (h0 : 0 ≤ d) (w : World) :
    Calls Try.prog 18 #[.int .u64 d] w fun e w' => e = .returned (.int .i64 (10 + d % 10)) ∧ w = w' := by
  go_enter Try.func18, Try.ntmps18
  go_wp2
  go_ret
  refine ⟨ret_of (int_of ?_), rfl⟩
  simp

set_option maxHeartbeats 4000000 in
theorem alive17_calls (w : World) :
    Calls Try.prog 19 #[] w fun e w' => e = .returned (.bool true) ∧ Below w.heap.size w w' := by
  have hr := Row.new w [.int .i64 0, .int .i64 1, .int .i64 2] 3
  have hb := bAlloc (Below.refl _ w) (.cells [.int .i64 0, .int .i64 1, .int .i64 2].toArray 3)
  go_enter Try.func19, Try.ntmps19
  go_wp2_with fail
  refine (New_calls [0, 1, 2] [] _ _ _ 0 _ hr (by decide)).mono ?_
  rintro e w1 ⟨g, rfl, hg1, hb1, ht1⟩
  go_wp2_with fail
  refine (Count_calls _ _ g 0 true _ ht1 (by decide)).mono ?_
  rintro e w2 ⟨rfl, ht2, hb2⟩
  have e2 : countA [0, 1, 2] [0, 0, 0, 0, 0, 0, 0, 0] 0 true = [1, 0, 0, 0, 0, 0, 0, 0] := by decide
  rw [e2] at ht2
  go_wp2_with fail
  refine (Won_calls [0, 1, 2] 1 0 0 0 0 0 0 0 g _ ht2 (by decide)).mono ?_
  rintro e w3 ⟨rfl, hb3⟩
  rw [show wonA [0, 1, 2] 1 0 0 0 0 0 0 0 = false by decide]
  go_wp2_with fail
  refine (Count_calls _ _ g 2 true _ (ht2.below hb3) (by decide)).mono ?_
  rintro e w4 ⟨rfl, ht4, hb4⟩
  rw [show countA [0, 1, 2] [1, 0, 0, 0, 0, 0, 0, 0] 2 true = [1, 0, 1, 0, 0, 0, 0, 0] by decide] at ht4
  go_wp2_with fail
  refine (Won_calls [0, 1, 2] 1 0 1 0 0 0 0 0 g _ ht4 (by decide)).mono ?_
  rintro e w5 ⟨rfl, hb5⟩
  rw [show wonA [0, 1, 2] 1 0 1 0 0 0 0 0 = true by decide]
  go_wp2_with fail
  refine (Lost_calls [0, 1, 2] [1, 0, 1, 0, 0, 0, 0, 0] g _ (ht4.below hb5) (by decide)).mono ?_
  rintro e w6 ⟨rfl, hb6⟩
  rw [show lostA [0, 1, 2] [1, 0, 1, 0, 0, 0, 0, 0] = false by decide]
  go_wp2_with fail
  refine (Timeout_calls 25 (by decide) _).mono ?_
  rintro e w7 ⟨rfl, rfl⟩
  go_wp2_with fail
  refine (Newer_calls 3 2 9 1 _).mono ?_
  rintro e w8 ⟨rfl, rfl⟩
  go_wp2
  go_ret
  go_light
  have b1 := bTrans hb hb1
  have b2 : Below w.heap.size w w2 := b1.grown hb2 b1.size fun k hk => by cases hk; have := hb.size; omega
  have b3 := bTrans b2 hb3
  have b4 : Below w.heap.size w w4 := b3.grown hb4 b3.size fun k hk => by cases hk; have := hb.size; omega
  exact ⟨rfl, bTrans (bTrans b4 hb5) hb6⟩

end Go.Proofs.Ytinkbiinbfbjgaa

/- Contracts of repl.Progress; alive of the statements of chapter 18. -/
import Derived.Test.YtinkbiinbfbjgaaDReplC
namespace Go.Proofs.Ytinkbiinbfbjgaa
open Go.RowKit
set_option linter.unusedVariables false
set_option linter.unusedSimpArgs false

/-- What is known of a node. -/
def prog (n m : Int) (b : Bool) : Value := .agg #[.int .u64 n, .int .u64 m, .bool b]

set_option maxHeartbeats 1000000 in
theorem Fresh_calls (x : Int) (h0 : 0 ≤ x) (h1 : x ≤ 4611686018427387904) (w : World) :
    Calls Try.prog 40 #[.int .u64 x] w fun e w' => e = .returned (prog (x + 1) 0 false) ∧ Below w.heap.size w w' := by
  unfold prog
  go_enter Try.func40, Try.ntmps40
  go_wp2
  refine bodyPost_ret (v := .agg #[.int .u64 (x + 1), .int .u64 0, .bool false]) ?_ rfl ⟨rfl, ?_⟩
  · go_light
    simp [results, Try.results40, go_sem]
  · go_light
    (repeat (first | (with_reducible exact Below.refl _ _) | (with_reducible refine bAlloc ?_ _) | (with_reducible refine bDrew ?_) | (with_reducible refine bDrewN ?_ _)))
set_option maxHeartbeats 1000000 in
theorem Acked_calls (n m i : Int) (b : Bool) (hn0 : 0 ≤ n) (hn : n ≤ 4611686018427387905) (hm0 : 0 ≤ m) (hm : m ≤ 4611686018427387904) (hi0 : 0 ≤ i) (hi : i ≤ 4611686018427387904) (w : World) :
    Calls Try.prog 42 #[prog n m b, .int .u64 i] w fun e w' => e = .returned (prog (max n (max m i + 1)) (max m i) false) ∧ Below w.heap.size w w' := by
  unfold prog
  go_enter Try.func42, Try.ntmps42
  go_wp2
  refine bodyPost_ret (v := .agg #[.int .u64 (max n (max m i + 1)), .int .u64 (max m i), .bool false]) ?_ rfl ⟨rfl, ?_⟩
  · go_light
    simp [results, Try.results42, go_sem]
  · go_light
    (repeat (first | (with_reducible exact Below.refl _ _) | (with_reducible refine bAlloc ?_ _) | (with_reducible refine bDrew ?_) | (with_reducible refine bDrewN ?_ _)))
set_option maxHeartbeats 1000000 in
theorem Refused_calls (n m i : Int) (b : Bool) (hn0 : 0 ≤ n) (hn : n ≤ 4611686018427387905) (hm0 : 0 ≤ m) (hm : m ≤ 4611686018427387904) (hi0 : 0 ≤ i) (hi : i ≤ 4611686018427387904) (w : World) :
    Calls Try.prog 43 #[prog n m b, .int .u64 i] w fun e w' => e = .returned (prog (max (min n (i + 1)) (m + 1)) m false) ∧ Below w.heap.size w w' := by
  unfold prog
  go_enter Try.func43, Try.ntmps43
  go_wp2
  refine bodyPost_ret (v := .agg #[.int .u64 (max (min n (i + 1)) (m + 1)), .int .u64 m, .bool false]) ?_ rfl ⟨rfl, ?_⟩
  · go_light
    simp [results, Try.results43, go_sem]
  · go_light
    (repeat (first | (with_reducible exact Below.refl _ _) | (with_reducible refine bAlloc ?_ _) | (with_reducible refine bDrew ?_) | (with_reducible refine bDrewN ?_ _)))
set_option maxHeartbeats 1000000 in
theorem Beat_calls (n m : Int) (b : Bool) (w : World) :
    Calls Try.prog 44 #[prog n m b] w fun e w' => e = .returned (prog n m false) ∧ Below w.heap.size w w' := by
  unfold prog
  go_enter Try.func44, Try.ntmps44
  go_wp2
  refine bodyPost_ret (v := .agg #[.int .u64 n, .int .u64 m, .bool false]) ?_ rfl ⟨rfl, ?_⟩
  · go_light
    simp [results, Try.results44, go_sem]
  · go_light
    (repeat (first | (with_reducible exact Below.refl _ _) | (with_reducible refine bAlloc ?_ _) | (with_reducible refine bDrew ?_) | (with_reducible refine bDrewN ?_ _)))
set_option maxHeartbeats 1000000 in
theorem Sent_calls (n m : Int) (b : Bool) (k : Int) (w : World) :
    Calls Try.prog 41 #[prog n m b, .int .i64 k] w fun e w' => e = .returned (prog n m (b || decide (0 < k))) ∧ Below w.heap.size w w' := by
  unfold prog
  cases b
  · obtain ⟨z, hz⟩ : ∃ z, decide (0 < k) = z := ⟨_, rfl⟩
    rw [hz]
    go_enter Try.func41, Try.ntmps41
    go_wp2
    refine bodyPost_ret (v := .agg #[.int .u64 n, .int .u64 m, .bool z]) ?_ rfl ⟨rfl, ?_⟩
    · go_light
      simp [results, Try.results41, go_sem]
    · go_light
      (repeat (first | (with_reducible exact Below.refl _ _) | (with_reducible refine bAlloc ?_ _) | (with_reducible refine bDrew ?_) | (with_reducible refine bDrewN ?_ _)))
  · go_enter Try.func41, Try.ntmps41
    go_wp2
    refine bodyPost_ret (v := .agg #[.int .u64 n, .int .u64 m, .bool true]) ?_ rfl ⟨rfl, ?_⟩
    · go_light
      simp [results, Try.results41, go_sem]
    · go_light
      (repeat (first | (with_reducible exact Below.refl _ _) | (with_reducible refine bAlloc ?_ _) | (with_reducible refine bDrew ?_) | (with_reducible refine bDrewN ?_ _)))

def fA (i : Nat) : Int := [5, 3, 4].getD i 0
theorem com_A : comV fA [0, 1, 2] = 4 := by
  have hv : vals fA [0, 1, 2] = [5, 3, 4] := by decide
  unfold comV
  rw [hv]
  have h1 := (med_iff (zs := [5, 3, 4]) (by decide) 4).2 (by decide)
  have h2 := fun h => (med_iff (zs := [5, 3, 4]) (by decide) 5).1 h
  have h3 : ¬ 5 ≤ med [5, 3, 4] := fun h => absurd (h2 h) (by decide)
  omega

set_option maxRecDepth 100000 in
set_option maxHeartbeats 4000000 in
theorem alive18_calls (w : World) :
    Calls Try.prog 35 #[] w fun e w' => e = .returned (.bool true) ∧ Below w.heap.size w w' := by
  have r1 := Row.new w [.int .i64 0, .int .i64 1, .int .i64 2] 3
  have b1 := bAlloc (Below.refl _ w) (.cells [.int .i64 0, .int .i64 1, .int .i64 2].toArray 3)
  have b2 := bAlloc b1 (.cells #[.slice (some ⟨w.heap.size, 0, none⟩) 3 3, .slice none 0 0] 39)
  have r1 : Ints _ .i64 _ [0, 1, 2] := r1.below (bAlloc (Below.refl _ _) (.cells #[.slice (some ⟨w.heap.size, 0, none⟩) 3 3, .slice none 0 0] 39))
  have hn := heap_alloc_new (w.alloc (.cells #[.int .i64 0, .int .i64 1, .int .i64 2] 3)) (.cells #[.slice (some ⟨w.heap.size, 0, none⟩) 3 3, .slice none 0 0] 39)
  rw [World.size_alloc] at hn
  have k0 : ((w.alloc (.cells #[.int .i64 0, .int .i64 1, .int .i64 2] 3)).alloc (.cells #[.slice (some ⟨w.heap.size, 0, none⟩) 3 3, .slice none 0 0] 39)).cell? ⟨w.heap.size + 1, 0, none⟩ = some (.slice (some ⟨w.heap.size, 0, none⟩) 3 3) := by rw [cell_at hn]; rfl
  have k1 : ((w.alloc (.cells #[.int .i64 0, .int .i64 1, .int .i64 2] 3)).alloc (.cells #[.slice (some ⟨w.heap.size, 0, none⟩) 3 3, .slice none 0 0] 39)).cell? ⟨w.heap.size + 1, 1, none⟩ = some (.slice none 0 0) := by rw [cell_at hn]; rfl
  clear hn b1
  have F := fun w' => Fresh_calls 7 (by decide) (by decide) w'
  have R := fun w' => Refused_calls 8 0 4 false (by decide) (by decide) (by decide) (by decide) (by decide) (by decide) w'
  have A := fun w' => Acked_calls 5 0 5 false (by decide) (by decide) (by decide) (by decide) (by decide) (by decide) w'
  have C := fun a w' h' => Committed_calls [0, 1, 2] [] a none 3 0 fA w' h' (by decide)
  rw [com_A] at C
  unfold prog at F R A
  simp only [show (7 : Int) + 1 = 8 by decide] at F
  simp only [show max (min (8 : Int) (4 + 1)) (0 + 1) = 5 by decide] at R
  simp only [show max (5 : Int) (max 0 5 + 1) = 6 by decide, show max (0 : Int) 5 = 5 by decide, show (5 : Int) + 1 = 6 by decide, show max (5 : Int) 6 = 6 by decide] at A
  go_enter Try.func35, Try.ntmps35
  go_wp2_with fail
  refine (F _).mono ?_
  rintro e w1 ⟨rfl, hb1⟩
  (replace r1 := Ints.below r1 hb1; replace k0 := keepC hb1 k0; replace k1 := keepC hb1 k1; replace b2 := bTrans b2 hb1)
  clear F hb1
  go_wp2_with fail
  refine (R _).mono ?_
  rintro e w2 ⟨rfl, hb2⟩
  (replace r1 := Ints.below r1 hb2; replace k0 := keepC hb2 k0; replace k1 := keepC hb2 k1; replace b2 := bTrans b2 hb2)
  clear R hb2
  go_wp2_with fail
  refine (A _).mono ?_
  rintro e w3 ⟨rfl, hb3⟩
  (replace r1 := Ints.below r1 hb3; replace k0 := keepC hb3 k0; replace k1 := keepC hb3 k1; replace b2 := bTrans b2 hb3)
  clear A hb3
  have hx := bAlloc (Below.refl _ w3) (.cells #[.int .u64 6, .int .u64 5, .bool false] 68)
  have hn := heap_alloc_new w3 (.cells #[.int .u64 6, .int .u64 5, .bool false] 68)
  have m0 : (w3.alloc (.cells #[.int .u64 6, .int .u64 5, .bool false] 68)).cell? ⟨w3.heap.size, 0, none⟩ = some (.int .u64 6) := by rw [cell_at hn]; rfl
  have m1 : (w3.alloc (.cells #[.int .u64 6, .int .u64 5, .bool false] 68)).cell? ⟨w3.heap.size, 1, none⟩ = some (.int .u64 5) := by rw [cell_at hn]; rfl
  have m2 : (w3.alloc (.cells #[.int .u64 6, .int .u64 5, .bool false] 68)).cell? ⟨w3.heap.size, 2, none⟩ = some (.bool false) := by rw [cell_at hn]; rfl
  clear hn
  (replace r1 := Ints.below r1 hx; replace k0 := keepC hx k0; replace k1 := keepC hx k1; replace b2 := bTrans b2 hx)
  clear hx
  go_wp2_with fail
  refine (C _ _ r1).mono ?_
  rintro e w4 ⟨rfl, hb4⟩
  (replace m0 := keepC hb4 m0; replace m1 := keepC hb4 m1; replace m2 := keepC hb4 m2; replace b2 := bTrans b2 hb4)
  go_wp2
  go_ret
  exact ⟨rfl, b2⟩
end Go.Proofs.Ytinkbiinbfbjgaa

/- The walks of ElectNewer and ElectOrder. -/
import Derived.Test.YtinkbiinbfbjgaaDElect
namespace Go.Proofs.Ytinkbiinbfbjgaa
open Go.RowKit
set_option linter.unusedVariables false

set_option maxHeartbeats 400000 in
theorem refNewer_calls (i t j u : Int) (w : World) :
    Calls Try.prog 17 #[.int .u64 i, .int .u64 t, .int .u64 j, .int .u64 u] w fun e w' => e = .returned (.bool (newer i t j u)) ∧ w = w' := by
  go_enter Try.func17, Try.ntmps17
  go_wp2
  all_goals
    go_ret
    refine ⟨ret_of (bool_of ?_), rfl⟩
    go_light
    unfold newer
    simp_all
  all_goals omega

theorem arr2 : Try.prog.underlying 23 = some (.array 2 22) := by kernel_rfl
theorem u64u : Try.prog.underlying 22 = some (.int .u64) := by kernel_rfl
theorem u64s : (Try.prog.info? 22).map (·.size) = some 1 := by kernel_rfl

theorem eq2 (a0 a1 b0 b1 : Int) (w : World) :
    (Op.equalIn 10000 23 (.agg #[.int .u64 a0, .int .u64 a1]) (.agg #[.int .u64 b0, .int .u64 b1])).run Try.prog w = .ok (decide ([a0, a1] = [b0, b1])) w :=
  run_eq_array arr2 u64u u64s [a0, a1] [b0, b1] rfl rfl 9998 w

theorem newer_either (a0 a1 b0 b1 : Int) (h : newer a0 a1 b0 b1 = false) : newer b0 b1 a0 a1 = true := by
  unfold newer at *
  simp at *
  omega
theorem newer_both (a0 a1 b0 b1 : Int) (h : newer a0 a1 b0 b1 = true) (h' : newer b0 b1 a0 a1 = true) : a0 = b0 ∧ a1 = b1 := by
  unfold newer at *
  simp at *
  omega

set_option maxRecDepth 100000 in
set_option maxHeartbeats 4000000 in
theorem ElectNewer_calls (a0 a1 b0 b1 d : Int) (hd : 0 ≤ d ∧ d < 18446744073709551616) (w : World) :
    Calls Try.prog 3 #[.agg #[.int .u64 a0, .int .u64 a1], .agg #[.int .u64 b0, .int .u64 b1], .int .u64 d] w fun e w' => e = .returned (.bool true) ∧ Below w.heap.size w w' := by
  have hb := bAlloc (bAlloc (Below.refl _ w) (.cells #[.int .u64 a0, .int .u64 a1] 23)) (.cells #[.int .u64 b0, .int .u64 b1] 23)
  obtain ⟨hd0, hd1⟩ := hd
  have hm0 : 0 ≤ d % 10 := by omega
  have hm1 : d % 10 < 10 := by omega
  have heq := fun w' => eq2 a0 a1 b0 b1 w'
  have hgd : Try.prog.eqGuardType Try.prog.depth 23 = false := by kernel_rfl
  have h1 := newer_either a0 a1 b0 b1
  have h2 := newer_both a0 a1 b0 b1
  have N1 := fun w' => Newer_calls a0 a1 b0 b1 w'
  have N2 := fun w' => Newer_calls b0 b1 a0 a1 w'
  have N3 := fun w' => refNewer_calls a0 a1 b0 b1 w'
  generalize newer a0 a1 b0 b1 = x at *
  generalize newer b0 b1 a0 a1 = y at *
  go_enter Try.func3, Try.ntmps3
  go_wp2_with fail
  refine (N1 _).mono ?_
  rintro e w1 ⟨rfl, rfl⟩
  go_wp2_with fail
  refine (N2 _).mono ?_
  rintro e w2 ⟨rfl, rfl⟩
  go_wp2_with fail
  refine (N3 _).mono ?_
  rintro e w3 ⟨rfl, rfl⟩
  clear N1 N2 N3
  cases x <;> cases y
  · exact absurd (h1 rfl) (by simp)
  · clear h1 h2
    go_wp2_with (first | (go_at_call 18; refine (Timeout_calls d hd0 _).mono ?_; rintro e w1 ⟨rfl, rfl⟩) | (go_at_call 19; refine (alive17_calls _).mono ?_; rintro e w1 ⟨rfl, hb1⟩))
    go_ret
    go_light
    refine ⟨ret_of (bool_of ?_), bTrans hb hb1⟩
    simp
    omega
  · clear h1 h2
    go_wp2_with (first | (go_at_call 18; refine (Timeout_calls d hd0 _).mono ?_; rintro e w1 ⟨rfl, rfl⟩) | (go_at_call 19; refine (alive17_calls _).mono ?_; rintro e w1 ⟨rfl, hb1⟩))
    go_ret
    go_light
    refine ⟨ret_of (bool_of ?_), bTrans hb hb1⟩
    simp
    omega
  · obtain ⟨rfl, rfl⟩ := h2 rfl rfl
    clear h1 h2
    go_wp2_with (first | (go_at_call 18; refine (Timeout_calls d hd0 _).mono ?_; rintro e w1 ⟨rfl, rfl⟩) | (go_at_call 19; refine (alive17_calls _).mono ?_; rintro e w1 ⟨rfl, hb1⟩))
    go_ret
    go_light
    refine ⟨ret_of (bool_of ?_), bTrans hb hb1⟩
    simp
    omega

theorem newer_trans (a0 a1 b0 b1 c0 c1 : Int) (h : newer a0 a1 b0 b1 = true) (h' : newer b0 b1 c0 c1 = true) : newer a0 a1 c0 c1 = true := by
  unfold newer at *
  simp at *
  omega
theorem newer_refl (a0 a1 : Int) : newer a0 a1 a0 a1 = true := by simp [newer]

set_option maxRecDepth 100000 in
set_option maxHeartbeats 4000000 in
theorem ElectOrder_calls (a0 a1 b0 b1 c0 c1 : Int) (w : World) :
    Calls Try.prog 4 #[.agg #[.int .u64 a0, .int .u64 a1], .agg #[.int .u64 b0, .int .u64 b1], .agg #[.int .u64 c0, .int .u64 c1]] w fun e w' => e = .returned (.bool true) ∧ Below w.heap.size w w' := by
  have hb := bAlloc (bAlloc (bAlloc (Below.refl _ w) (.cells #[.int .u64 a0, .int .u64 a1] 23)) (.cells #[.int .u64 b0, .int .u64 b1] 23)) (.cells #[.int .u64 c0, .int .u64 c1] 23)
  have h1 := newer_trans a0 a1 b0 b1 c0 c1
  have N1 := fun w' => Newer_calls a0 a1 b0 b1 w'
  have N2 := fun w' => Newer_calls b0 b1 c0 c1 w'
  have N3 := fun w' => Newer_calls a0 a1 c0 c1 w'
  have N4 := fun w' => Newer_calls a0 a1 a0 a1 w'
  rw [newer_refl] at N4
  generalize newer a0 a1 b0 b1 = x at *
  generalize newer b0 b1 c0 c1 = y at *
  generalize newer a0 a1 c0 c1 = z at *
  go_enter Try.func4, Try.ntmps4
  go_wp2_with fail
  refine (N1 _).mono ?_
  rintro e w1 ⟨rfl, rfl⟩
  go_wp2_with fail
  refine (N2 _).mono ?_
  rintro e w2 ⟨rfl, rfl⟩
  clear N1 N2
  go_wp2_with fail
  refine (alive17_calls _).mono ?_
  rintro e w3 ⟨rfl, hb3⟩
  obtain ⟨hc, hf⟩ := bcell hb3
  have hfin := bTrans hb hb3
  clear hb hb3
  cases x <;> cases y
  · clear h1 N3
    go_wp2_with fail
    refine (N4 _).mono ?_
    rintro e w4 ⟨rfl, rfl⟩
    go_wp2
    go_ret
    exact ⟨rfl, hfin⟩
  · clear h1 N3
    go_wp2_with fail
    refine (N4 _).mono ?_
    rintro e w4 ⟨rfl, rfl⟩
    go_wp2
    go_ret
    exact ⟨rfl, hfin⟩
  · clear h1 N3
    go_wp2_with fail
    refine (N4 _).mono ?_
    rintro e w4 ⟨rfl, rfl⟩
    go_wp2
    go_ret
    exact ⟨rfl, hfin⟩
  · obtain rfl := h1 rfl rfl
    clear h1
    go_wp2_with fail
    refine (N3 _).mono ?_
    rintro e w4 ⟨rfl, rfl⟩
    go_wp2_with fail
    refine (N4 _).mono ?_
    rintro e w4 ⟨rfl, rfl⟩
    go_wp2
    go_ret
    exact ⟨rfl, hfin⟩

end Go.Proofs.Ytinkbiinbfbjgaa

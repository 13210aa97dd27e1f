/- An argument of type [8]uint64, opened. -/
import Derived.Test.YtinkbiinbfbjgaaDRepl
import Derived.Test.YtinkbiinbfbjgaaDRead
namespace Go.Proofs.Ytinkbiinbfbjgaa
open Go.ChangeShapes Go.WideShapes Go.ChangeAt Go.RowKit
set_option linter.unusedVariables false

theorem arr8 : Try.prog.underlying 59 = some (.array 8 22) := by kernel_rfl
theorem u64U : Try.prog.underlying 22 = some (.int .u64) := by kernel_rfl
def intAt (cs : List Value) (i : Nat) : Int := match cs[i]? with
  | some (.int _ n) => n
  | _ => 0
theorem arr8_of {H : Type} {enc : TypeId × Value → H} {W : World} {cs : List Value} (h : Has enc Try.prog W 59 cs) : ∃ f, cs = (u8s f).toList ∧ ∀ i, i < 8 → 0 ≤ f i ∧ f i < 18446744073709551616 := by
  obtain ⟨hl, he⟩ := h.array arr8
  rw [show Try.prog.cellsOf 59 = 8 by kernel_rfl] at hl
  have hat : ∀ i, i < 8 → cs[i]? = some (.int .u64 (intAt cs i)) ∧ 0 ≤ intAt cs i ∧ intAt cs i < 18446744073709551616 := by
    intro i hi
    have h1 := he i hi
    rw [show Try.prog.cellsOf 22 = 1 by kernel_rfl, Nat.mul_one] at h1
    obtain ⟨n, hn, hw⟩ := Has.int u64U h1
    have e : cs[i]? = some (.int .u64 n) := by
      have := congrArg (fun l => l[0]?) hn
      simpa [hl, hi] using this
    have e2 : intAt cs i = n := by unfold intAt; rw [e]
    rw [e2]
    exact ⟨e, u64_bounds hw⟩
  refine ⟨intAt cs, ?_, fun i hi => (hat i hi).2⟩
  apply List.ext_getElem?
  intro i
  rcases Nat.lt_or_ge i 8 with hi | hi
  · rw [(hat i hi).1, Array.getElem?_toList, u8s_get _ i hi]
  · rw [List.getElem?_eq_none (by omega), List.getElem?_eq_none (by simp [u8s]; omega)]
theorem open_arr8 {H : Type} {enc : TypeId × Value → H} {W : World} {v : Value} {d : DataW H} {p : List MemPlace} (h : DataW.Trod enc Try.prog W 0 (fun _ => true) true 59 v d p) : ∃ f, v = .agg (u8s f) ∧ ∀ i, i < 8 → 0 ≤ f i ∧ f i < 18446744073709551616 := by
  obtain ⟨f, hcs, hb⟩ := arr8_of (Has.of h)
  exact ⟨f, by rw [agg_of hcs (by simp [u8s])], hb⟩
end Go.Proofs.Ytinkbiinbfbjgaa

/- The statement ElectNewer of the seat: for every input the law returns true, and every argument reads behind the call as it read before. No condition. -/
import Derived.Test.YtinkbiinbfbjgaaRows
import Derived.Test.YtinkbiinbfbjgaaDLaw17
import Derived.Test.YtinkbiinbfbjgaaDRead
namespace Go.Proofs.Ytinkbiinbfbjgaa.electNewer
open Go.ChangeShapes Go.WideShapes Go.ChangeAt Go.RowKit
open Go.ChangeMaps (open_string shut_string)
set_option linter.unusedVariables false

theorem own : ownKnob Try.prog.godebug = none := by kernel_rfl
theorem laidOut : laidOutB Try.prog = true := by kernel_rfl

set_option maxRecDepth 100000 in
theorem contract (H : Type) (enc : TypeId × Value → H) (W : World) (base : Nat) (args : Array Value) (ds gs : List (DataW H)) (before : List MemPlace)
    (hval0 : ∀ (j : Nat) t v, Try.f3.params[j]? = some t → args[j]? = some v → Value.okWide Try.prog W .any base t v)
    (hW : DataW.Whole enc Try.prog Try.f3.params.toList Rows.electNewerSpec.vars false W args.toList ds gs before) :
    Calls Try.prog 3 args W fun e W' => ∃ v, e = .returned v ∧ Rows.electNewerSpec.post enc Try.prog Try.f3 false true false false W args v W' := by
  have hval : ∀ (j : Nat) t v, Try.f3.params[j]? = some t → args[j]? = some v → Value.okWide Try.prog W .any base t v := hval0
  have hW' := hW
  obtain ⟨p, q, hA0, hV, rfl, hfz, hnd⟩ := hW
  have hA : DataW.TrodAll enc Try.prog W 0 (fun _ => true) true Try.f3.params.toList args.toList ds p := hA0
  have hA1 := hA
  rw [Try.params3] at hA hval
  obtain ⟨v0, vs0, d0, ds0, p0, q0, hargs, rfl, rfl, h0, r0⟩ := trodAll_cons hA
  obtain ⟨v1, vs1, d1, ds1, p1, q1, rfl, rfl, rfl, h1, r1⟩ := trodAll_cons r0
  obtain ⟨v2, vs2, d2, ds2, p2, q2, rfl, rfl, rfl, h2, r2⟩ := trodAll_cons r1
  obtain ⟨rfl, rfl, rfl⟩ := trodAll_nil r2
  obtain rfl : args = #[v0, v1, v2] := by cases args; simp_all
  obtain ⟨rfl, rfl⟩ := trodVars_none hV
  have hs0 := (Has.of h0).array arr2
  obtain ⟨a0, b0, rfl⟩ : ∃ a b, v0 = .agg #[.int .u64 a, .int .u64 b] := by
    obtain ⟨hl, he⟩ := hs0
    have hc : Try.prog.cellsOf 23 = 2 := by kernel_rfl
    have hce : Try.prog.cellsOf 22 = 1 := by kernel_rfl
    rw [hc] at hl
    obtain ⟨x, y, hxy⟩ := list2 hl
    have e0 := he 0 (by decide)
    have e1 := he 1 (by decide)
    rw [hxy, hce] at e0 e1
    obtain ⟨a, ea, _⟩ := Has.int u64u e0
    obtain ⟨b, eb, _⟩ := Has.int u64u e1
    simp at ea eb
    subst ea
    subst eb
    exact ⟨a, b, agg_of hxy (by simp)⟩
  have hs1 := (Has.of h1).array arr2
  obtain ⟨a1, b1, rfl⟩ : ∃ a b, v1 = .agg #[.int .u64 a, .int .u64 b] := by
    obtain ⟨hl, he⟩ := hs1
    have hc : Try.prog.cellsOf 23 = 2 := by kernel_rfl
    have hce : Try.prog.cellsOf 22 = 1 := by kernel_rfl
    rw [hc] at hl
    obtain ⟨x, y, hxy⟩ := list2 hl
    have e0 := he 0 (by decide)
    have e1 := he 1 (by decide)
    rw [hxy, hce] at e0 e1
    obtain ⟨a, ea, _⟩ := Has.int u64u e0
    obtain ⟨b, eb, _⟩ := Has.int u64u e1
    simp at ea eb
    subst ea
    subst eb
    exact ⟨a, b, agg_of hxy (by simp)⟩
  obtain ⟨d, rfl, rfl, rfl, wd⟩ := open_int Try.underlying22 (hval 2 22 v2 rfl rfl) h2
  clear hA0 hval0
  refine (ElectNewer_calls a0 b0 a1 b1 d (u64_bounds wd) W).mono fun e W' ⟨he, bel⟩ => ?_
  subst he
  exact ⟨_, rfl, _, _, _, [], _, [], hW', trodAll_mk1 (shut_bool Try.underlying4 _), below_trodAll laidOut (by kernel_rfl) hA1 bel, rfl, bel.frame _, fun h => by cases h⟩

set_option maxRecDepth 100000 in
theorem lifted (os : Os) (started : os.Started) (H : Type) (enc : TypeId × Value → H) :
    ReturnsInHanded {} Try.checked os 3 .any (Rows.electNewerSpec.pre6 enc Try.prog Try.f3 Rows.electNewerRow.domain false) (Rows.electNewerSpec.post enc Try.prog Try.f3 false true false false) := by
  refine returnsInHanded_of_change (C := Try.checked) own started (by kernel_rfl) Try.func3
    (ChangeSpec.witness6 (enc := enc) (C := Try.checked) false ⟨#[], #[.agg #[.int .u64 0, .int .u64 0], .agg #[.int .u64 0, .int .u64 0], .int .u64 0], []⟩ 8 (by kernel_rfl) (by kernel_rfl) (by kernel_rfl) (by kernel_rfl)) ?_
  intro W base args ds gs before hval hW _ _
  exact contract H enc W base args ds gs before hval hW

theorem over : Rows.electNewerRow.holds Try.pinned (OpenSpec.ofChange Rows.electNewerSpec) :=
  OpenClaim.holds_of_wide 3 Try.f3 rfl rfl rfl rfl rfl rfl rfl ⟨rfl, rfl, rfl, rfl, rfl⟩ rfl rfl rfl rfl rfl (by kernel_rfl) Try.func3 (by kernel_rfl)
    (of_decide_eq_true (by kernel_rfl)) (by unfold Func.isWrapper; first | (rw [if_pos (by decide +kernel)]; kernel_rfl) | (rw [if_neg (by decide +kernel)]; exact ⟨rfl, rfl⟩))
    (fun os started H enc _ => lifted os started H enc)

theorem proved : Rows.ElectNewerSaid := over
#print axioms proved
end Go.Proofs.Ytinkbiinbfbjgaa.electNewer

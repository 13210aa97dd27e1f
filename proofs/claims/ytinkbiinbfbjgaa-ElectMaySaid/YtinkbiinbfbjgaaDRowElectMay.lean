/- The statement ElectMay of the seat: for every input the law returns true, and every argument reads behind the call as it read before. No condition. -/
import Derived.Test.YtinkbiinbfbjgaaRows
import Derived.Test.YtinkbiinbfbjgaaDMay
import Derived.Test.YtinkbiinbfbjgaaDRead
namespace Go.Proofs.Ytinkbiinbfbjgaa.electMay
open Go.ChangeShapes Go.WideShapes Go.ChangeAt Go.RowKit
open Go.ChangeMaps (open_string shut_string)
set_option linter.unusedVariables false

theorem own : ownKnob Try.prog.godebug = none := by kernel_rfl
theorem laidOut : laidOutB Try.prog = true := by kernel_rfl

set_option maxRecDepth 100000 in
theorem contract (H : Type) (enc : TypeId × Value → H) (W : World) (base : Nat) (args : Array Value) (ds gs : List (DataW H)) (before : List MemPlace)
    (hval0 : ∀ (j : Nat) t v, Try.f5.params[j]? = some t → args[j]? = some v → Value.okWide Try.prog W .any base t v)
    (hW : DataW.Whole enc Try.prog Try.f5.params.toList Rows.electMaySpec.vars false W args.toList ds gs before) :
    Calls Try.prog 5 args W fun e W' => ∃ v, e = .returned v ∧ Rows.electMaySpec.post enc Try.prog Try.f5 false true false false W args v W' := by
  have hval : ∀ (j : Nat) t v, Try.f5.params[j]? = some t → args[j]? = some v → Value.okWide Try.prog W .any base t v := hval0
  have hW' := hW
  obtain ⟨p, q, hA0, hV, rfl, hfz, hnd⟩ := hW
  have hA : DataW.TrodAll enc Try.prog W 0 (fun _ => true) true Try.f5.params.toList args.toList ds p := hA0
  have hA1 := hA
  rw [Try.params5] at hA hval
  obtain ⟨v0, vs0, d0, ds0, p0, q0, hargs, rfl, rfl, h0, r0⟩ := trodAll_cons hA
  obtain ⟨v1, vs1, d1, ds1, p1, q1, rfl, rfl, rfl, h1, r1⟩ := trodAll_cons r0
  obtain ⟨rfl, rfl, rfl⟩ := trodAll_nil r1
  obtain rfl : args = #[v0, v1] := by cases args; simp_all
  obtain ⟨rfl, rfl⟩ := trodVars_none hV
  have hs0 := (Has.of h0).struct Try.underlying30
  obtain ⟨t, f, rfl⟩ : ∃ a b, v0 = .agg #[.int .u64 a, .int .i64 b] := by
    obtain ⟨hl, he⟩ := hs0
    rw [show Try.prog.cellsOf 30 = 2 by kernel_rfl] at hl
    obtain ⟨x, y, hxy⟩ := list2 hl
    have e0 := he 0 _ rfl
    have e1 := he 1 _ rfl
    rw [hxy] at e0 e1
    obtain ⟨a, ea, _⟩ := Has.int Try.underlying22 e0
    obtain ⟨b, eb, _⟩ := Has.int Try.underlying3 e1
    simp [show Try.prog.cellsOf 22 = 1 by kernel_rfl, show Try.prog.cellsOf 3 = 1 by kernel_rfl] at ea eb
    subst ea
    subst eb
    exact ⟨a, b, agg_of hxy (by simp)⟩
  obtain ⟨a1, len1, cap1, rfl⟩ := okWide_slice Try.underlying31 (hval 1 31 v1 rfl rfl)
  obtain ⟨A1, C1, l1, hcs1, hn1, hlc1, hm1, ok1, row1⟩ := Has.slice (α := AskD) Try.underlying31 (show Try.prog.cellsOf 33 = 3 by kernel_rfl) (by decide) _ _ ask_dec (Has.of h1)
  simp [Value.cells] at hcs1
  obtain ⟨rfl, rfl, rfl⟩ := hcs1
  clear hA0 hval0
  refine (ElectMay_calls t f l1 a1 cap1 W row1 (by unfold maxLen at hm1; omega)).mono fun e W' ⟨he, bel⟩ => ?_
  subst he
  exact ⟨_, rfl, _, _, _, [], _, [], hW', trodAll_mk1 (shut_bool Try.underlying4 _), below_trodAll laidOut (by kernel_rfl) hA1 bel, rfl, bel.frame _, fun h => by cases h⟩

set_option maxRecDepth 100000 in
theorem lifted (os : Os) (started : os.Started) (H : Type) (enc : TypeId × Value → H) :
    ReturnsInHanded {} Try.checked os 5 .any (Rows.electMaySpec.pre6 enc Try.prog Try.f5 Rows.electMayRow.domain false) (Rows.electMaySpec.post enc Try.prog Try.f5 false true false false) := by
  refine returnsInHanded_of_change (C := Try.checked) own started (by kernel_rfl) Try.func5
    (ChangeSpec.witness6 (enc := enc) (C := Try.checked) false ⟨#[], #[.agg #[.int .u64 0, .int .i64 0], .slice none 0 0], []⟩ 8 (by kernel_rfl) (by kernel_rfl) (by kernel_rfl) (by kernel_rfl)) ?_
  intro W base args ds gs before hval hW _ _
  exact contract H enc W base args ds gs before hval hW

theorem over : Rows.electMayRow.holds Try.pinned (OpenSpec.ofChange Rows.electMaySpec) :=
  OpenClaim.holds_of_wide 5 Try.f5 rfl rfl rfl rfl rfl rfl rfl ⟨rfl, rfl, rfl, rfl, rfl⟩ rfl rfl rfl rfl rfl (by kernel_rfl) Try.func5 (by kernel_rfl)
    (of_decide_eq_true (by kernel_rfl)) (by unfold Func.isWrapper; first | (rw [if_pos (by decide +kernel)]; kernel_rfl) | (rw [if_neg (by decide +kernel)]; exact ⟨rfl, rfl⟩))
    (fun os started H enc _ => lifted os started H enc)

theorem proved : Rows.ElectMaySaid := over
#print axioms proved
end Go.Proofs.Ytinkbiinbfbjgaa.electMay

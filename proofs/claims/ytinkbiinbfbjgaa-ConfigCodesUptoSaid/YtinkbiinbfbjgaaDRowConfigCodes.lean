/- The statement ConfigCodes of the seat: for every input the law returns true, and every argument reads behind the call as it read before. Condition: the arguments hold together at most 1048576 values and letters. -/
import Derived.Test.YtinkbiinbfbjgaaRows
import Derived.Test.YtinkbiinbfbjgaaDCodes
import Derived.Test.YtinkbiinbfbjgaaDRead
import Derived.Test.YtinkbiinbfbjgaaDUpto
import Derived.JoinedCond
namespace Go.Proofs.Ytinkbiinbfbjgaa.configCodes
open Go.ChangeShapes Go.WideShapes Go.ChangeAt Go.RowKit
open Go.ChangeMaps (open_string shut_string)
set_option linter.unusedVariables false

theorem own : ownKnob Try.prog.godebug = none := by kernel_rfl
theorem laidOut : laidOutB Try.prog = true := by kernel_rfl

set_option maxRecDepth 100000 in
theorem contract (H : Type) (enc : TypeId × Value → H) (W : World) (base : Nat) (args : Array Value) (ds gs : List (DataW H)) (before : List MemPlace)
    (hval0 : ∀ (j : Nat) t v, Try.f10.params[j]? = some t → args[j]? = some v → Value.okWide Try.prog W .any base t v)
    (hW : DataW.Whole enc Try.prog Try.f10.params.toList Rows.configCodesSpec.vars false W args.toList ds gs before)
    (hk : Rows.uptoSmall H (ds ++ gs) = true) :
    Calls Try.prog 10 args W fun e W' => ∃ v, e = .returned v ∧ Rows.configCodesSpec.post enc Try.prog Try.f10 false true false false W args v W' := by
  have hval : ∀ (j : Nat) t v, Try.f10.params[j]? = some t → args[j]? = some v → Value.okWide Try.prog W .any base t v := hval0
  have hW' := hW
  obtain ⟨p, q, hA0, hV, rfl, hfz, hnd⟩ := hW
  have hA : DataW.TrodAll enc Try.prog W 0 (fun _ => true) true Try.f10.params.toList args.toList ds p := hA0
  have hA1 := hA
  rw [Try.params10] at hA hval
  obtain ⟨v0, vs0, d0, ds0, p0, q0, hargs, rfl, rfl, h0, r0⟩ := trodAll_cons hA
  obtain ⟨v1, vs1, d1, ds1, p1, q1, rfl, rfl, rfl, h1, r1⟩ := trodAll_cons r0
  obtain ⟨rfl, rfl, rfl⟩ := trodAll_nil r1
  obtain rfl : args = #[v0, v1] := by cases args; simp_all
  obtain ⟨rfl, rfl⟩ := trodVars_none hV
  have hB := bulk_bound hk
  simp only [List.append_nil, Rows.uptoBulkAll] at hB
  have hs0 := (HasB.of (n := 1048576) h0 (by omega)).struct Try.underlying39
  obtain ⟨av0, cv0, vs0', al0, cl0, ls0, rfl, hav0, hvl0, rv0, hal0, hll0, rl0, okv0, okl0⟩ : ∃ (a : Option Addr) (c : Nat) (v : List Int) (b : Option Addr) (d : Nat) (l : List Int), v0 = .agg #[.slice a v.length c, .slice b l.length d] ∧ (a = none → c = 0) ∧ v.length ≤ 1048576 ∧ Ints W .i64 a v ∧ (b = none → d = 0) ∧ l.length ≤ 1048576 ∧ Ints W .i64 b l ∧ (∀ y ∈ v, (Lit.int .i64 y).wf = true) ∧ (∀ y ∈ l, (Lit.int .i64 y).wf = true) := by
    obtain ⟨hl, he⟩ := hs0
    rw [show Try.prog.cellsOf 39 = 2 by kernel_rfl] at hl
    obtain ⟨x, y, hxy⟩ := list2 hl
    have e0 := he 0 _ rfl
    have e1 := he 1 _ rfl
    rw [hxy] at e0 e1
    obtain ⟨a, c, v, ea, n1, _, n2, o1, r1⟩ := HasB.ints Try.underlying37 Try.underlying3 (by kernel_rfl) e0
    obtain ⟨b, d, l, eb, n3, _, n4, o2, r2⟩ := HasB.ints Try.underlying37 Try.underlying3 (by kernel_rfl) e1
    simp [show Try.prog.cellsOf 37 = 1 by kernel_rfl] at ea eb
    subst ea
    subst eb
    exact ⟨a, c, v, b, d, l, agg_of hxy (by simp), n1, n2, r1, n3, n4, r2, o1, o2⟩
  obtain ⟨a1, len1, cap1, rfl⟩ := okWide_slice Try.underlying54 (hval 1 54 v1 rfl rfl)
  obtain ⟨A1, C1, l1, hcs1, hn1, hlc1, hl1, ok1, row1⟩ := HasB.ints Try.underlying54 Try.underlying5 (by kernel_rfl) (HasB.of (n := 1048576) h1 (by omega))
  simp [Value.cells] at hcs1
  obtain ⟨rfl, rfl, rfl⟩ := hcs1
  clear hA0 hval0
  refine (Codes_calls _ _ _ _ _ _ _ _ _ W rv0 hvl0 rl0 hll0 row1 (nil_row hn1 row1) (by omega) (fun y hy => u8_bounds (ok1 y hy))).mono fun e W' ⟨he, bel⟩ => ?_
  subst he
  exact ⟨_, rfl, _, _, _, [], _, [], hW', trodAll_mk1 (shut_bool Try.underlying4 _), below_trodAll laidOut (by kernel_rfl) hA1 bel, rfl, bel.frame _, fun h => by cases h⟩

set_option maxRecDepth 100000 in
theorem lifted (os : Os) (started : os.Started) (H : Type) (enc : TypeId × Value → H) (F : Stop.Interp) :
    ReturnsInHanded {} Try.checked os 10 .any ((Rows.OpenSpec.upto Rows.configCodesSpec).pre6 enc Try.prog Try.f10 Rows.configCodesUptoRow.domain false) (((Rows.OpenSpec.upto Rows.configCodesSpec).at F).post enc Try.prog Try.f10 false true false false) := by
  refine returnsInHanded_of_cond (C := Try.checked) (s := Rows.OpenSpec.upto Rows.configCodesSpec) (k := Rows.uptoSmall) rfl own started (by kernel_rfl) Try.func10
    (OpenSpec.witness (enc := enc) (C := Try.checked) (s := Rows.OpenSpec.upto Rows.configCodesSpec) (k := Rows.uptoSmall) rfl false ⟨#[], #[.agg #[.slice none 0 0, .slice none 0 0], .slice none 0 0], []⟩ 8 (by kernel_rfl) (by kernel_rfl) (by kernel_rfl)
      (x := ([.agg [.nil, .nil], .nil], [], [])) (by kernel_rfl) rfl (by kernel_rfl)) ?_
  intro W base args ds gs before hval hW _ hk _
  exact contract H enc W base args ds gs before hval hW hk

theorem over : Rows.configCodesUptoRow.holds Try.pinned (Rows.OpenSpec.upto Rows.configCodesSpec) :=
  OpenClaim.holds_of_cond 10 Try.f10 rfl rfl rfl rfl rfl rfl rfl ⟨rfl, rfl, rfl, rfl, rfl⟩ rfl rfl rfl rfl rfl (by kernel_rfl) Try.func10 (by kernel_rfl)
    (of_decide_eq_true (by kernel_rfl)) (by unfold Func.isWrapper; first | (rw [if_pos (by decide +kernel)]; kernel_rfl) | (rw [if_neg (by decide +kernel)]; exact ⟨rfl, rfl⟩))
    (fun os started H enc _ F => lifted os started H enc F)

theorem proved : Rows.ConfigCodesUptoSaid := over
#print axioms proved
end Go.Proofs.Ytinkbiinbfbjgaa.configCodes

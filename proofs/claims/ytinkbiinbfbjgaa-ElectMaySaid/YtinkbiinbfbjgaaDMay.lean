/- Contracts of May (the program's and the reference's), and the walk of ElectMay. -/
import Derived.Test.YtinkbiinbfbjgaaDElect
import Derived.Test.YtinkbiinbfbjgaaDRead
namespace Go.Proofs.Ytinkbiinbfbjgaa
open Go.RowKit
set_option linter.unusedVariables false

def mayT (t f term fr : Int) (nw : Bool) : Int := if term < t then t else term
def mayF (t f term fr : Int) (nw : Bool) : Int := if term < t then f else if t < term then (if nw then fr else -1) else if nw = true ∧ (f = -1 ∨ f = fr) then fr else f
def mayB (t f term fr : Int) (nw : Bool) : Bool := if term < t then false else if t < term then nw else decide (nw = true ∧ (f = -1 ∨ f = fr))

theorem vote_of {t f t' f' : Int} {b b' : Bool} (h1 : t = t') (h2 : f = f') (h3 : b = b') : Ending.returned (.tuple #[.agg #[.int .u64 t, .int .i64 f], .bool b]) = .returned (.tuple #[.agg #[.int .u64 t', .int .i64 f'], .bool b']) := by rw [h1, h2, h3]

set_option maxHeartbeats 1000000 in
theorem May_calls (t f term fr : Int) (nw : Bool) (w : World) :
    Calls Try.prog 20 #[.agg #[.int .u64 t, .int .i64 f], .int .u64 term, .int .i64 fr, .bool nw] w fun e w' => e = .returned (.tuple #[.agg #[.int .u64 (mayT t f term fr nw), .int .i64 (mayF t f term fr nw)], .bool (mayB t f term fr nw)]) ∧ Below w.heap.size w w' := by
  go_enter Try.func20, Try.ntmps20
  go_wp2
  all_goals refine bodyPost_ret (v := .tuple #[.agg #[.int .u64 (mayT t f term fr nw), .int .i64 (mayF t f term fr nw)], .bool (mayB t f term fr nw)]) ?_ rfl ⟨rfl, ?_⟩
  all_goals go_light
  all_goals first | ((repeat (first | (with_reducible exact Below.refl _ _) | (with_reducible refine bAlloc ?_ _))); done) | skip
  all_goals simp [results, Try.results20, go_sem]
  all_goals unfold mayT mayF mayB
  all_goals grind

set_option maxHeartbeats 1000000 in
theorem refMay_calls (t f term fr : Int) (nw : Bool) (w : World) :
    Calls Try.prog 21 #[.agg #[.int .u64 t, .int .i64 f], .int .u64 term, .int .i64 fr, .bool nw] w fun e w' => e = .returned (.tuple #[.agg #[.int .u64 (mayT t f term fr nw), .int .i64 (mayF t f term fr nw)], .bool (mayB t f term fr nw)]) ∧ Below w.heap.size w w' := by
  go_enter Try.func21, Try.ntmps21
  go_wp2
  all_goals refine bodyPost_ret (v := .tuple #[.agg #[.int .u64 (mayT t f term fr nw), .int .i64 (mayF t f term fr nw)], .bool (mayB t f term fr nw)]) ?_ rfl ⟨rfl, ?_⟩
  all_goals go_light
  all_goals first | ((repeat (first | (with_reducible exact Below.refl _ _) | (with_reducible refine bAlloc ?_ _))); done) | skip
  all_goals simp [results, Try.results21, go_sem]
  all_goals unfold mayT mayF mayB
  all_goals grind

theorem may_T (t f term fr : Int) (nw : Bool) : t ≤ mayT t f term fr nw := by unfold mayT; grind
theorem may_F (t f term fr : Int) (nw : Bool) (h : mayT t f term fr nw = t) (h' : f ≠ -1) : mayF t f term fr nw = f := by unfold mayT at h; unfold mayF; grind
theorem may_B (t f term fr : Int) (nw : Bool) (h : mayB t f term fr nw = true) : mayF t f term fr nw = fr ∧ mayT t f term fr nw = term := by unfold mayB at h; unfold mayF mayT; grind

theorem heap_alloc_old (w : World) (o : Obj) (k : Nat) (h : k < w.heap.size) : (w.alloc o).heap[k]? = w.heap[k]? := Below.heap_alloc w o k h
theorem vote_store {w : World} {g : Nat} {a b : Value} {T : TypeId} (h : w.heap[g]? = some (.cells #[a, b] T (0, 0))) (x y : Value) (o : Obj) :
    (((w.setCell ⟨g, 0, none⟩ x).setCell ⟨g, 1, none⟩ y).alloc o).heap[g]? = some (.cells #[x, y] T (0, 0)) := by
  have h1 := setCell_at (setCell_at h 0 x) 1 y
  rw [heap_alloc_old _ _ _ (heap_lt h1), h1]
  rfl

structure AskD where
  term : Int
  fr : Int
  nw : Bool
def AskD.enc (a : AskD) : List Value := [.int .u64 a.term, .int .i64 a.fr, .bool a.nw]

set_option maxRecDepth 100000 in
set_option maxHeartbeats 4000000 in
theorem ElectMay_calls (t f : Int) (l : List AskD) (a : Option Addr) (C : Nat) (w : World) (hr : RowOf 3 AskD.enc w a l) (hl : l.length ≤ 9223372036854775807) :
    Calls Try.prog 5 #[.agg #[.int .u64 t, .int .i64 f], .slice a l.length C] w fun e w' => e = .returned (.bool true) ∧ Below w.heap.size w w' := by
  by_cases h0 : l = []
  · subst h0
    go_enter Try.func5, Try.ntmps5
    go_wp2
    go_loop [15] (fun i => i = .int .i64 0) (fun _ => 0)
    case atStart => rfl
    case round =>
      subst hrel
      go_wp2_with (go_at_call 19; refine (alive17_calls _).mono ?_; rintro e w1 ⟨rfl, hb1⟩)
      go_ret
      exact ⟨rfl, bTrans (bAlloc (bAlloc (Below.refl _ _) _) _) hb1⟩
  · obtain ⟨b, o, rfl, hc⟩ := hr.resolve_left h0
    have hbl : b < w.heap.size := by
      have := hc 0 (by cases l with | nil => simp at h0 | cons _ _ => simp) 0 (by decide)
      exact World.block_lt_of_cell? _ _ this
    clear hr h0
    go_enter Try.func5, Try.ntmps5
    go_wp2
    go_loopw [15] (fun i wr => ∃ k : Nat, k ≤ l.length ∧ i = .int .i64 k ∧ Below w.heap.size w wr ∧ ∃ ct cf : Int, wr.heap[w.heap.size + 1]? = some (.cells #[.int .u64 ct, .int .i64 cf] 30 (0, 0))) (fun i _ => l.length - (intOf i).toNat)
    case atStart =>
      refine ⟨0, by omega, rfl, bAlloc (bAlloc (Below.refl _ _) _) _, t, f, ?_⟩
      have := heap_alloc_new (w.alloc (.cells #[.int .u64 t, .int .i64 f] 30)) (.cells #[.int .u64 t, .int .i64 f] 30)
      simpa using this
    case round =>
      obtain ⟨k, hk, rfl, hbr, ct, cf, hv⟩ := hrel
      have hv0 : wr.cell? ⟨w.heap.size + 1, 0, none⟩ = some (.int .u64 ct) := by rw [cell_at hv]; rfl
      have hv1 : wr.cell? ⟨w.heap.size + 1, 1, none⟩ = some (.int .i64 cf) := by rw [cell_at hv]; rfl
      have hvf0 : wr.frozen? ⟨w.heap.size + 1, 0, none⟩ = false := frozen_at hv 0
      have hvf1 : wr.frozen? ⟨w.heap.size + 1, 1, none⟩ = false := frozen_at hv 1
      have hsz : w.heap.size + 1 < wr.heap.size := heap_lt hv
      by_cases hlt : k < l.length
      · obtain ⟨⟨term, fr, nw⟩, hx⟩ : ∃ x, l[k] = x := ⟨_, rfl⟩
        have e0 : wr.cell? ⟨b, o + k * 3, none⟩ = some (.int .u64 term) := by rw [hbr.cell hbl, ← Nat.add_zero (o + k * 3), hc k hlt 0 (by decide), hx]; rfl
        have e1 : wr.cell? ⟨b, o + k * 3 + 1, none⟩ = some (.int .i64 fr) := by rw [hbr.cell hbl, hc k hlt 1 (by decide), hx]; rfl
        have e2 : wr.cell? ⟨b, o + k * 3 + 2, none⟩ = some (.bool nw) := by rw [hbr.cell hbl, hc k hlt 2 (by decide), hx]; rfl
        have M1 := fun w' => May_calls ct cf term fr nw w'
        have M2 := fun w' => refMay_calls ct cf term fr nw w'
        have hT := may_T ct cf term fr nw
        have hF := may_F ct cf term fr nw
        have hB := may_B ct cf term fr nw
        generalize mayT ct cf term fr nw = T at *
        generalize mayF ct cf term fr nw = F at *
        generalize mayB ct cf term fr nw = B at *
        have HV := Lib.hid hv
        clear hx hc hv
        have hkl : k < l.length := hlt
        go_wp2_with fail
        refine (M1 _).mono ?_
        rintro e w1 ⟨rfl, hb1⟩
        obtain ⟨hc1, hf1⟩ := bcell hb1
        have hs1 := hb1.size
        simp at hs1
        have z1 : w.heap.size < wr.heap.size := by omega
        have z2 : w.heap.size < w1.heap.size := by omega
        have z3 : w.heap.size + 1 < w1.heap.size := by omega
        have z4 : wr.heap.size < w1.heap.size := by omega
        go_wp2_with fail
        refine (M2 _).mono ?_
        rintro e w2 ⟨rfl, hb2⟩
        obtain ⟨hc2, hf2⟩ := bcell hb2
        have hs2 := hb2.size
        simp at hs2
        have z5 : w.heap.size < w2.heap.size := by omega
        have z6 : w.heap.size + 1 < w2.heap.size := by omega
        have z7 : wr.heap.size < w2.heap.size := by omega
        have z8 : w1.heap.size < w2.heap.size := by omega
        clear M1 M2
        have HF := Lib.hid hF
        have HB := Lib.hid hB
        clear hF hB
        go_wp2
        all_goals go_light
        all_goals have hF := HF.out
        all_goals have hB := HB.out
        all_goals first | (exfalso; clear hbr e0 e1 e2 hb1 hc1 hf1 hb2 hc2 hf2; grind) | skip
        all_goals
          have hv2 : w2.heap[w.heap.size + 1]? = some (.cells #[.int .u64 ct, .int .i64 cf] 30 (0, 0)) := by
            rw [hb2.block _ (by simp; omega), heap_alloc_old _ _ _ (by omega), hb1.block _ (by simp; omega), heap_alloc_old _ _ _ (by omega)]
            exact HV.out
          have hb3 := bTrans (bAlloc hbr _) (bTrans hb1 (bTrans (bAlloc (Below.refl _ _) _) hb2))
          exact ⟨⟨k + 1, by omega, by go_num, bAlloc ((hb3.setCell (by simp) _).setCell (by simp) _) _, _, _, vote_store hv2 _ _ _⟩, by simp [intOf]; omega⟩
      · have hkl : k = l.length := by omega
        subst hkl
        go_wp2_with (go_at_call 19; refine (alive17_calls _).mono ?_; rintro e w1 ⟨rfl, hb1⟩)
        go_ret
        exact ⟨rfl, bTrans hbr hb1⟩

theorem ask_dec {H : Type} {enc : TypeId × Value → H} {W : World} : ∀ cs', Has enc Try.prog W 33 cs' → ∃ y : AskD, cs' = y.enc ∧ True := by
  intro cs h
  obtain ⟨hl, he⟩ := h.struct Try.underlying33
  rw [show Try.prog.cellsOf 33 = 3 by kernel_rfl] at hl
  obtain ⟨x, y, z, rfl⟩ := list3 hl
  have e0 := he 0 _ rfl
  have e1 := he 1 _ rfl
  have e2 := he 2 _ rfl
  obtain ⟨a, ea, _⟩ := Has.int Try.underlying22 e0
  obtain ⟨b, eb, _⟩ := Has.int Try.underlying3 e1
  obtain ⟨c, ec⟩ := Has.bool Try.underlying4 e2
  simp [show Try.prog.cellsOf 22 = 1 by kernel_rfl, show Try.prog.cellsOf 3 = 1 by kernel_rfl, show Try.prog.cellsOf 4 = 1 by kernel_rfl] at ea eb ec
  subst ea
  subst eb
  subst ec
  exact ⟨⟨a, b, c⟩, rfl, trivial⟩

end Go.Proofs.Ytinkbiinbfbjgaa

/- Contract of the reference's Same, for two configurations with the same rows. -/
import Derived.Test.YtinkbiinbfbjgaaDConfA
namespace Go.Proofs.Ytinkbiinbfbjgaa
open Go.RowKit
set_option linter.unusedVariables false
set_option linter.unusedSimpArgs false

set_option maxHeartbeats 4000000 in
theorem Same_calls (v l : List Int) (a b p q : Option Addr) (c d x y : Nat) (w : World) (h : Ints w .i64 a v) (hl : v.length < 2^60) (h2 : Ints w .i64 b l) (hm : l.length < 2^60)
    (h3 : Ints w .i64 p v) (h4 : Ints w .i64 q l) :
    Calls Try.prog 28 #[.agg #[.slice a v.length c, .slice b l.length d], .agg #[.slice p v.length x, .slice q l.length y]] w fun e w' => e = .returned (.bool true) ∧ Below w.heap.size w w' := by
  have hb := bAlloc (bAlloc (Below.refl w.heap.size w) (.cells #[.slice a v.length c, .slice b l.length d] 39)) (.cells #[.slice p v.length x, .slice q l.length y] 39)
  go_enter Try.func28, Try.ntmps28
  go_wp2
  go_loopw [5] (fun i wr => ∃ k : Nat, k ≤ v.length ∧ i = .int .i64 k ∧ ∃ n, wr = ((w.alloc (.cells #[.slice a v.length c, .slice b l.length d] 39)).alloc (.cells #[.slice p v.length x, .slice q l.length y] 39)).drewN n) (fun i _ => v.length - (intOf i).toNat)
  case atStart => exact ⟨0, by omega, rfl, 0, rfl⟩
  case round =>
    obtain ⟨k, hk, rfl, n, rfl⟩ := hrel
    by_cases hlt : k < v.length
    · obtain ⟨g, o, rfl, hg, hc⟩ := h.open (by omega)
      obtain ⟨g', o', rfl, hg', hc'⟩ := h3.open (by omega)
      replace hc := hc k hlt
      replace hc' := hc' k hlt
      generalize v.getD k 0 = z at *
      clear h h2 h3 h4
      have hi1 : (k : Int) < (v.length : Int) := by omega
      have hi0 : (0 : Int) ≤ (k : Int) := by omega
      go_wp2
      go_quiet (fail)
      go_wp2
      go_light
      exact ⟨⟨k + 1, by omega, by go_num, _, rfl⟩, by simp [intOf]; omega⟩
    · clear h h3
      go_wp2
      go_loopw [6] (fun i wr => ∃ k : Nat, k ≤ l.length ∧ i = .int .i64 k ∧ ∃ n, wr = ((w.alloc (.cells #[.slice a v.length c, .slice b l.length d] 39)).alloc (.cells #[.slice p v.length x, .slice q l.length y] 39)).drewN n) (fun i _ => l.length - (intOf i).toNat)
      case atStart => exact ⟨0, by omega, rfl, n, rfl⟩
      case round =>
        obtain ⟨k', hk', rfl, n', rfl⟩ := hrel
        by_cases hlt' : k' < l.length
        · obtain ⟨g, o, rfl, hg, hc⟩ := h2.open (by omega)
          obtain ⟨g', o', rfl, hg', hc'⟩ := h4.open (by omega)
          replace hc := hc k' hlt'
          replace hc' := hc' k' hlt'
          generalize l.getD k' 0 = z at *
          clear h2 h4
          have hi1 : (k' : Int) < (l.length : Int) := by omega
          have hi0 : (0 : Int) ≤ (k' : Int) := by omega
          go_wp2
          go_quiet (fail)
          go_wp2
          go_light
          exact ⟨⟨k' + 1, by omega, by go_num, _, rfl⟩, by simp [intOf]; omega⟩
        · clear h2 h4
          go_wp2
          go_ret
          exact ⟨rfl, bDrewN hb _⟩
end Go.Proofs.Ytinkbiinbfbjgaa

/- Contracts of the functions of config that only read: Index, Contains, Votes, Has, Majority. -/
import Derived.Test.YtinkbiinbfbjgaaProg
import Derived.Test.YtinkbiinbfbjgaaDBase
namespace Go.Proofs.Ytinkbiinbfbjgaa
open Go.RowKit
set_option linter.unusedVariables false

def idxI (l : List Int) (x : Int) : Int := if x ∈ l then (l.idxOf x : Int) else -1

theorem idxI_hit {l : List Int} {x : Int} {k : Nat} (hk : k < l.length) (hx : ¬x ∈ l.take k) (h : x = l[k]) : idxI l x = k := by
  have hm : x ∈ l := by rw [h]; exact List.getElem_mem hk
  have : l.idxOf x = k := by
    have hs : l = l.take k ++ l.drop k := (List.take_append_drop k l).symm
    have hd : l.drop k = x :: l.drop (k + 1) := by rw [h]; exact List.drop_eq_getElem_cons hk
    rw [hs, List.idxOf_append, if_neg hx, hd, List.idxOf_cons_self]
    simp; omega
  simp [idxI, hm, this]

theorem idxI_miss {l : List Int} {x : Int} (hx : ¬x ∈ l) : idxI l x = -1 := by simp [idxI, hx]
theorem idxI_nonneg (l : List Int) (x : Int) : decide (0 ≤ idxI l x) = decide (x ∈ l) := by
  unfold idxI; by_cases h : x ∈ l <;> simp [h]

set_option maxHeartbeats 400000 in
theorem Index_calls (l : List Int) (a : Option Addr) (c : Nat) (x : Int) (w : World) (h : Ints w .i64 a l) (hl : l.length < 2^60) :
    Calls Try.prog 79 #[.slice a l.length c, .int .i64 x] w fun e w' => e = .returned (.int .i64 (idxI l x)) ∧ w = w' := by
  by_cases h0 : 0 < l.length
  · obtain ⟨b, o, rfl, _, hc⟩ := h.open h0
    clear h h0
    go_enter Try.func79, Try.ntmps79
    go_wp2
    go_loop [8] (fun i => ∃ k : Nat, k ≤ l.length ∧ i = .int .i64 k ∧ x ∉ l.take k) (fun i => l.length - (intOf i).toNat)
    case atStart => exact ⟨0, by omega, rfl, by simp⟩
    case round =>
      obtain ⟨k, hk, rfl, hx⟩ := hrel
      have hcell : k < l.length → w.cell? ⟨b, o + k, none⟩ = some (.int .i64 (l.getD k 0)) := fun _ => hc k (by omega)
      clear hc
      go_wp2
      · go_ret
        go_light
        have hlt : k < l.length := by assumption
        have heq : (x == l[k]) = true := by assumption
        exact ⟨ret_of (int_of (idxI_hit hlt hx (by simpa using heq)).symm), rfl⟩
      · go_light
        have hlt : k < l.length := by assumption
        have hne : (x == l[k]) = false := by assumption
        refine ⟨⟨k + 1, by omega, by go_num, ?_⟩, by simp [intOf]; omega⟩
        rw [take_snoc l k hlt]
        simp only [List.mem_append, List.mem_singleton, not_or]
        exact ⟨hx, by simpa using hne⟩
      · go_ret
        go_light
        have hge : ¬k < l.length := by assumption
        rw [List.take_of_length_le (by omega)] at hx
        exact ⟨ret_of (int_of (idxI_miss hx).symm), rfl⟩
  · have hl0 : l = [] := by cases l with | nil => rfl | cons _ _ => simp at h0
    subst hl0
    go_enter Try.func79, Try.ntmps79
    go_wp2
    go_loop [8] (fun i => i = .int .i64 0) (fun i => 0)
    case atStart => rfl
    case round =>
      subst hrel
      go_wp2
      go_ret
      exact ⟨ret_of (int_of rfl), rfl⟩

set_option maxHeartbeats 400000 in
theorem Contains_calls (l : List Int) (a : Option Addr) (c : Nat) (x : Int) (w : World) (h : Ints w .i64 a l) (hl : l.length < 2^60) :
    Calls Try.prog 58 #[.slice a l.length c, .int .i64 x] w fun e w' => e = .returned (.bool (decide (x ∈ l))) ∧ w = w' := by
  go_enter Try.func58, Try.ntmps58
  go_wp2_with (go_at_call 79; refine (Index_calls l _ _ _ _ h hl).mono ?_; rintro e w' ⟨rfl, rfl⟩)
  go_ret
  exact ⟨ret_of (bool_of (idxI_nonneg l x)), rfl⟩

set_option maxHeartbeats 400000 in
theorem Votes_calls (l m : List Int) (a b : Option Addr) (c d : Nat) (x : Int) (w : World) (h : Ints w .i64 a l) (hl : l.length < 2^60) :
    Calls Try.prog 29 #[.agg #[.slice a l.length c, .slice b m.length d], .int .i64 x] w fun e w' => e = .returned (.bool (decide (x ∈ l))) ∧ Below w.heap.size w w' := by
  have hb := bAlloc (Below.refl w.heap.size w) (.cells #[.slice a l.length c, .slice b m.length d] 39)
  go_enter Try.func29, Try.ntmps29
  go_wp2_with (go_at_call 58; refine (Contains_calls l _ _ _ _ (h.below hb) hl).mono ?_; rintro e w' ⟨rfl, rfl⟩)
  go_ret
  exact ⟨rfl, hb⟩

set_option maxHeartbeats 400000 in
theorem Has_calls (l m : List Int) (a b : Option Addr) (c d : Nat) (x : Int) (w : World) (h : Ints w .i64 a l) (hl : l.length < 2^60) (h2 : Ints w .i64 b m) (hm : m.length < 2^60) :
    Calls Try.prog 30 #[.agg #[.slice a l.length c, .slice b m.length d], .int .i64 x] w fun e w' => e = .returned (.bool (decide (x ∈ l) || decide (x ∈ m))) ∧ Below w.heap.size w w' := by
  have hb := bAlloc (Below.refl w.heap.size w) (.cells #[.slice a l.length c, .slice b m.length d] 39)
  by_cases hx : x ∈ l
  · have V := Votes_calls l m a b c d x (w.alloc (.cells #[.slice a l.length c, .slice b m.length d] 39)) (h.below hb) hl
    simp only [hx, decide_true] at V
    simp only [hx, decide_true, Bool.true_or]
    go_enter Try.func30, Try.ntmps30
    go_wp2_with fail
    refine V.mono ?_
    rintro e w1 ⟨rfl, hb1⟩
    go_wp2
    go_ret
    exact ⟨rfl, bTrans hb hb1⟩
  · have V := Votes_calls l m a b c d x (w.alloc (.cells #[.slice a l.length c, .slice b m.length d] 39)) (h.below hb) hl
    simp only [hx, decide_false] at V
    simp only [hx, decide_false, Bool.false_or]
    go_enter Try.func30, Try.ntmps30
    go_wp2_with fail
    refine V.mono ?_
    rintro e w1 ⟨rfl, hb1⟩
    obtain ⟨hc, hf⟩ := bcell hb1
    go_wp2_with (go_at_call 58; refine (Contains_calls m _ _ _ _ (h2.below (bTrans hb hb1)) hm).mono ?_; rintro e w' ⟨rfl, rfl⟩)
    go_ret
    exact ⟨rfl, bTrans hb hb1⟩

set_option maxHeartbeats 400000 in
theorem Majority_calls (l m n : List Int) (a b x : Option Addr) (c d y : Nat) (w : World) (h : Ints w .i64 a l) (hl : l.length < 2^60) (h2 : Ints w .i64 x n) (hm : n.length < 2^60) :
    Calls Try.prog 24 #[.agg #[.slice a l.length c, .slice b m.length d], .slice x n.length y] w fun e w' => e = .returned (.bool (decide ((l.length : Int) < 2 * countIn l n))) ∧ Below w.heap.size w w' := by
  have hb := bAlloc (Below.refl w.heap.size w) (.cells #[.slice a l.length c, .slice b m.length d] 39)
  have hcl := countIn_le l n
  by_cases h0 : 0 < l.length
  · obtain ⟨g, o, rfl, hg, hc⟩ := h.open h0
    clear h h0
    go_enter Try.func24, Try.ntmps24
    go_wp2
    go_loop [5, 11] (fun s i => ∃ k : Nat, k ≤ l.length ∧ i = .int .i64 k ∧ s = .int .i64 (countIn (l.take k) n)) (fun _ i => l.length - (intOf i).toNat)
    case atStart => exact ⟨0, by omega, rfl, rfl⟩
    case round =>
      obtain ⟨k, hk, rfl, rfl⟩ := hrel
      have hcell : k < l.length → w.cell? ⟨g, o + k, none⟩ = some (.int .i64 (l.getD k 0)) := fun _ => hc k (by omega)
      have hck := countIn_le (l.take k) n
      have hlk : (l.take k).length ≤ k := List.length_take_le _ _
      have hne : g ≠ w.heap.size := by omega
      clear hc hcl
      go_wp2_with (go_at_call 58; refine (Contains_calls n _ _ _ _ (h2.below hb) hm).mono ?_; rintro e w' ⟨rfl, rfl⟩)
      · have hlt : k < l.length := by assumption
        have hin : l[k] ∈ n := by assumption
        go_light
        refine ⟨⟨k + 1, by omega, by go_num, int_of ?_⟩, by simp [intOf]; omega⟩
        rw [take_snoc l k hlt, countIn_snoc, if_pos hin]
      · have hlt : k < l.length := by assumption
        have hin : ¬l[k] ∈ n := by assumption
        go_light
        refine ⟨⟨k + 1, by omega, by go_num, int_of ?_⟩, by simp [intOf]; omega⟩
        rw [take_snoc l k hlt, countIn_snoc, if_neg hin]; omega
      · have hge : ¬k < l.length := by assumption
        go_ret
        go_light
        have e : l.take k = l := List.take_of_length_le (by omega)
        rw [e]
        exact ⟨rfl, hb⟩
  · have hl0 : l = [] := by cases l with | nil => rfl | cons _ _ => simp at h0
    subst hl0
    go_enter Try.func24, Try.ntmps24
    go_wp2
    go_loop [5, 11] (fun s i => s = .int .i64 0 ∧ i = .int .i64 0) (fun _ _ => 0)
    case atStart => exact ⟨rfl, rfl⟩
    case round =>
      obtain ⟨rfl, rfl⟩ := hrel
      go_wp2
      go_ret
      exact ⟨rfl, hb⟩
end Go.Proofs.Ytinkbiinbfbjgaa

/- The walk of ConfigMore. -/
import Derived.Test.YtinkbiinbfbjgaaDConfC
namespace Go.Proofs.Ytinkbiinbfbjgaa
open Go.RowKit
set_option linter.unusedVariables false

theorem elInt : ElemT Try.prog 37 3 (.int .i64 0) 1 8 := ElemT.of (by kernel_rfl) (by kernel_rfl) rfl (by decide) (by decide)

theorem count_more (v a b : List Int) : countIn v a ≤ countIn v (a ++ b) := by
  induction v with
  | nil => exact Int.le_refl _
  | cons x v ih =>
    unfold countIn at *
    rw [List.filter_cons, List.filter_cons]
    by_cases h1 : x ∈ a
    · have h2 : x ∈ a ++ b := List.mem_append_left _ h1
      simp only [h1, h2, decide_true, if_true, List.length_cons]
      omega
    · by_cases h2 : x ∈ a ++ b
      · simp only [h1, h2, decide_true, decide_false, if_true, List.length_cons]
        simp only [Bool.false_eq_true, if_false]
        omega
      · simp only [h1, h2, decide_false, Bool.false_eq_true, if_false]
        exact ih

/-- Two of which both are more than half meet. -/
theorem count_meet (v a b : List Int) : countIn v a + countIn v b ≤ v.length + ((v.filter fun x => decide (x ∈ a) && decide (x ∈ b)).length : Int) := by
  induction v with
  | nil => simp [countIn]
  | cons x v ih =>
    unfold countIn at *
    rw [List.filter_cons, List.filter_cons, List.filter_cons]
    by_cases h1 : x ∈ a <;> by_cases h2 : x ∈ b <;> simp only [h1, h2, decide_true, decide_false, Bool.and_true, Bool.and_false, Bool.false_eq_true, if_true, if_false, List.length_cons] <;> omega
theorem meet_of {v a b : List Int} (h1 : (v.length : Int) < 2 * countIn v a) (h2 : (v.length : Int) < 2 * countIn v b) : ∃ x ∈ v, x ∈ a ∧ x ∈ b := by
  have h := count_meet v a b
  have hp : 0 < (v.filter fun x => decide (x ∈ a) && decide (x ∈ b)).length := by omega
  obtain ⟨x, hx⟩ := List.exists_mem_of_length_pos hp
  have := List.mem_filter.1 hx
  simp at this
  exact ⟨x, this.1, this.2⟩

set_option maxRecDepth 100000 in
set_option maxHeartbeats 4000000 in
theorem More_calls (v l p q : List Int) (a b x y : Option Addr) (c d cx cy : Nat) (w : World) (h : Ints w .i64 a v) (hl : v.length ≤ 1048576) (h2 : Ints w .i64 b l) (hm : l.length ≤ 1048576)
    (h3 : Ints w .i64 x p) (hp : p.length ≤ 1048576) (h4 : Ints w .i64 y q) (hq : q.length ≤ 1048576) :
    Calls Try.prog 6 #[.agg #[.slice a v.length c, .slice b l.length d], .slice x p.length cx, .slice y q.length cy] w fun e w' => e = .returned (.bool true) ∧ Below w.heap.size w w' := by
  have hb := bAlloc (Below.refl w.heap.size w) (.cells #[.slice a v.length c, .slice b l.length d] 39)
  have k0 : (w.alloc (.cells #[.slice a v.length c, .slice b l.length d] 39)).cell? ⟨w.heap.size, 0, none⟩ = some (.slice a v.length c) := by rw [cell_at (heap_alloc_new w _)]; rfl
  have k1 : (w.alloc (.cells #[.slice a v.length c, .slice b l.length d] 39)).cell? ⟨w.heap.size, 1, none⟩ = some (.slice b l.length d) := by rw [cell_at (heap_alloc_new w _)]; rfl
  replace h := Ints.below h hb
  replace h2 := Ints.below h2 hb
  replace h3 := Ints.below h3 hb
  replace h4 := Ints.below h4 hb
  by_cases hk : checkB v l = true
  · have CC := Check_calls v l a b c d _ h (by omega) h2 (by omega)
    rw [check_zero.2 hk] at CC
    go_enter Try.func6, Try.ntmps6
    go_wp2_with fail
    refine (CC).mono ?_
    rintro e w1 ⟨rfl, hb1⟩
    clear CC
    replace h := Ints.below h hb1
    replace h2 := Ints.below h2 hb1
    replace h3 := Ints.below h3 hb1
    replace h4 := Ints.below h4 hb1
    replace k0 := keepC hb1 k0
    replace k1 := keepC hb1 k1
    replace hb := bTrans hb hb1
    clear hb1
    have h0 : (w1.alloc (.cells #[] 3)).ownsRow w1.heap.size 3 1 (.slice (some ⟨w1.heap.size, 0, none⟩) 0 0) 0 [] := World.ownsRow_lit (base := w1.heap.size) w1 #[] 0 (Nat.le_refl _) (by decide) rfl
    have hbe := bAlloc (Below.refl _ w1) (.cells #[] 3)
    have h3e := h3.below hbe
    have h4e := h4.below hbe
    go_wp2_with (first | (at_builtin; refine wpList_app elInt w1.heap.size rfl (.tmp 14) (.tmp 15) rfl _ 0 [] rfl h0 _ p.length cx (p.map (.int .i64)) rfl (by simp) h3e (oneCell_ints _ _) (by omega) (by simp) ?_; intro A2 C2 w2 hown2 hgrow2 hb2; simp only [Nat.zero_add, List.nil_append] at hown2; have hb3 := hbe.trans hb2; have h4f := h4.below hb3) | (at_builtin; refine wpList_app elInt w1.heap.size rfl (.tmp 16) (.tmp 17) rfl _ _ _ rfl hown2 _ q.length cy (q.map (.int .i64)) rfl (by simp) h4f (oneCell_ints _ _) (by omega) hb3.size ?_; intro A4 C4 w4 hown4 hgrow4 hb4; have hb5 := hb3.trans hb4; have h4g := h4.below hb5; have k0 := keepC hb5 k0; have k1 := keepC hb5 k1; have n1 : Ints w4 .i64 A4 (p ++ q) := by (unfold Ints; rw [List.map_append]; exact Row.of_own hown4)) | fail)
    have h3g := h3.below hb5
    have hvg := h.below hb5
    replace hb := bTrans hb hb5
    clear h3 h4 h3e h4e h4f h h2 hbe hb2 hb3 hb4 hb5 hown2 hown4 hgrow2 hgrow4 h0
    have cm := count_more v p q
    have cmeet := @meet_of v p q
    have M1 := fun w' h' h'' => Majority_calls v l p a b x c d cx w' h' (by omega) h'' (by omega)
    have M2 := fun w' h' h'' => Majority_calls v l (p ++ q) a b A4 c d C4 w' h' (by omega) h'' (by simp; omega)
    have M3 := fun w' h' h'' => Majority_calls v l q a b y c d cy w' h' (by omega) h'' (by omega)
    have hm12 : decide ((v.length : Int) < 2 * countIn v p) = true → decide ((v.length : Int) < 2 * countIn v (p ++ q)) = true := by simp; omega
    have hm13 : decide ((v.length : Int) < 2 * countIn v p) = true → decide ((v.length : Int) < 2 * countIn v q) = true → ∃ z ∈ v, z ∈ p ∧ z ∈ q := by
      intro h1 h2
      exact cmeet (by simpa using h1) (by simpa using h2)
    clear cm cmeet
    simp only [List.length_append] at M2
    generalize decide ((v.length : Int) < 2 * countIn v p) = m1 at *
    generalize decide ((v.length : Int) < 2 * countIn v (p ++ q)) = m2 at *
    generalize decide ((v.length : Int) < 2 * countIn v q) = m3 at *
    refine (M1 _ hvg h3g).mono ?_
    rintro e w5 ⟨rfl, hb5⟩
    replace hvg := Ints.below hvg hb5
    replace h3g := Ints.below h3g hb5
    replace h4g := Ints.below h4g hb5
    replace n1 := Ints.below n1 hb5
    replace k0 := keepC hb5 k0
    replace k1 := keepC hb5 k1
    replace hb := bTrans hb hb5
    clear hb5
    have H13 := Lib.hid hm13
    clear hm13
    cases m1
    · clear hm12 M2 M3
      go_wp2_with fail
      refine (M1 _ hvg h3g).mono ?_
      rintro e w6 ⟨rfl, hb6⟩
      replace hb := bTrans hb hb6
      clear M1 h3g hvg n1 h4g
      go_wp2_with fail
      refine (alive14_calls _).mono ?_
      rintro e w7 ⟨rfl, hb7⟩
      go_wp2
      go_ret
      exact ⟨rfl, bTrans hb hb7⟩
    · obtain rfl := hm12 rfl
      clear hm12
      go_wp2_with fail
      refine (M2 _ hvg n1).mono ?_
      rintro e w6 ⟨rfl, hb6⟩
      replace hvg := Ints.below hvg hb6
      replace h3g := Ints.below h3g hb6
      replace h4g := Ints.below h4g hb6
      replace k0 := keepC hb6 k0
      replace k1 := keepC hb6 k1
      replace hb := bTrans hb hb6
      clear M2 n1 hb6
      go_wp2_with fail
      refine (M1 _ hvg h3g).mono ?_
      rintro e w7 ⟨rfl, hb7⟩
      replace hvg := Ints.below hvg hb7
      replace h3g := Ints.below h3g hb7
      replace h4g := Ints.below h4g hb7
      replace k0 := keepC hb7 k0
      replace k1 := keepC hb7 k1
      replace hb := bTrans hb hb7
      clear M1 hb7
      go_wp2_with fail
      refine (M3 _ hvg h4g).mono ?_
      rintro e w8 ⟨rfl, hb8⟩
      replace hvg := Ints.below hvg hb8
      replace h3g := Ints.below h3g hb8
      replace h4g := Ints.below h4g hb8
      replace k0 := keepC hb8 k0
      replace k1 := keepC hb8 k1
      replace hb := bTrans hb hb8
      clear M3 hb8
      cases m3
      · go_wp2_with fail
        refine (alive14_calls _).mono ?_
        rintro e w9 ⟨rfl, hb9⟩
        go_wp2
        go_ret
        exact ⟨rfl, bTrans hb hb9⟩
      · obtain ⟨z, hz, hzp, hzq⟩ := H13.out (by simp) (by simp)
        obtain ⟨g, o, rfl, hg, hc⟩ := hvg.open (List.length_pos_of_mem hz)
        go_wp2_with fail
        go_loop [42] (fun i => ∃ k : Nat, k ≤ v.length ∧ i = .int .i64 k ∧ z ∉ v.take k) (fun i => v.length - (intOf i).toNat)
        case atStart => exact ⟨0, by omega, rfl, by simp⟩
        case round =>
          obtain ⟨k, hk', rfl, hzk⟩ := hrel
          have hkv : k < v.length := by
            rcases Nat.lt_or_ge k v.length with h | h
            · exact h
            · rw [List.take_of_length_le h] at hzk; exact absurd hz hzk
          have hcell := hc k hkv
          have e1 : v.getD k 0 = v[k] := by simp [List.getD, hkv]
          rw [e1] at hcell
          have I1 := fun w' h' => In_calls p x cx v[k] w' h' (by omega)
          have I2 := fun w' h' => In_calls q y cy v[k] w' h' (by omega)
          have hz' : v[k] = z → decide (v[k] ∈ p) = true ∧ decide (v[k] ∈ q) = true := by
            intro e
            simp [e, hzp, hzq]
          have hts := take_snoc v k hkv
          generalize decide (v[k] ∈ p) = d1 at *
          generalize decide (v[k] ∈ q) = d2 at *
          generalize v[k] = t at *
          have HT := Lib.hid hts
          have HZ := Lib.hid hz'
          have HK := Lib.hid hzk
          clear hts hz' hzk e1 hc hz hzp hzq
          go_wp2_with fail
          refine (I1 _ h3g).mono ?_
          rintro e w' ⟨rfl, rfl⟩
          cases d1
          · go_wp2
            go_light
            refine ⟨⟨k + 1, by omega, by go_num, ?_⟩, by simp [intOf]; omega⟩
            rw [HT.out]
            simp only [List.mem_append, List.mem_singleton, not_or]
            exact ⟨HK.out, fun e => by have := (HZ.out e.symm).1; simp at this⟩
          · go_wp2_with fail
            refine (I2 _ h4g).mono ?_
            rintro e w' ⟨rfl, rfl⟩
            cases d2
            · go_wp2
              go_light
              refine ⟨⟨k + 1, by omega, by go_num, ?_⟩, by simp [intOf]; omega⟩
              rw [HT.out]
              simp only [List.mem_append, List.mem_singleton, not_or]
              exact ⟨HK.out, fun e => by have := (HZ.out e.symm).2; simp at this⟩
            · go_wp2_with fail
              refine (alive14_calls _).mono ?_
              rintro e w9 ⟨rfl, hb9⟩
              go_wp2
              go_ret
              exact ⟨rfl, bTrans hb hb9⟩
  · have CC := Check_calls v l a b c d _ h (by omega) h2 (by omega)
    rw [show checkE v l = 140 by simp [checkE, hk]] at CC
    go_enter Try.func6, Try.ntmps6
    go_wp2_with fail
    refine (CC).mono ?_
    rintro e w1 ⟨rfl, hb1⟩
    clear CC
    go_wp2_with fail
    refine (alive14_calls _).mono ?_
    rintro e w2 ⟨rfl, hb2⟩
    go_wp2
    go_ret
    exact ⟨rfl, bTrans (bTrans hb hb1) hb2⟩

end Go.Proofs.Ytinkbiinbfbjgaa

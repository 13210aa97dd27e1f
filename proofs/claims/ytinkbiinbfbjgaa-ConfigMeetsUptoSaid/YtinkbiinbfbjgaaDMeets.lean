/- Contract of the law ConfigMeets. -/
import Derived.Test.YtinkbiinbfbjgaaDChanges
namespace Go.Proofs.Ytinkbiinbfbjgaa
open Go.RowKit
set_option linter.unusedVariables false
set_option linter.unusedSimpArgs false

theorem count_meet2 (v a b : List Int) : countIn v a + countIn v b ≤ v.length + ((v.filter fun x => decide (x ∈ a) && decide (x ∈ b)).length : Int) := by
  induction v with
  | nil => simp [countIn]
  | cons x v ih =>
    unfold countIn at *
    rw [List.filter_cons, List.filter_cons, List.filter_cons]
    by_cases h1 : x ∈ a <;> by_cases h2 : x ∈ b <;> simp only [h1, h2, decide_true, decide_false, Bool.and_true, Bool.and_false, Bool.false_eq_true, if_true, if_false, List.length_cons] <;> omega
theorem countIn_perm {v V : List Int} (h : V.Perm v) (a : List Int) : countIn V a = countIn v a := by
  unfold countIn
  rw [(h.filter _).length_eq]
theorem countIn_cons (x : Int) (v a : List Int) : countIn (x :: v) a = (if x ∈ a then 1 else 0) + countIn v a := by
  unfold countIn
  rw [List.filter_cons]
  by_cases h : x ∈ a <;> simp [h] <;> omega
theorem countIn_congr {v a b : List Int} (h : ∀ x ∈ v, x ∈ a ↔ x ∈ b) : countIn v a = countIn v b := by
  unfold countIn
  rw [List.filter_congr (q := fun x => decide (x ∈ b)) (fun x hx => by simp [h x hx])]
theorem meet_same {v a b : List Int} (h1 : (v.length : Int) < 2 * countIn v a) (h2 : (v.length : Int) < 2 * countIn v b) : ∃ x ∈ v, x ∈ a ∧ x ∈ b := by
  have h := count_meet2 v a b
  have hp : 0 < (v.filter fun x => decide (x ∈ a) && decide (x ∈ b)).length := by omega
  obtain ⟨x, hx⟩ := List.exists_mem_of_length_pos hp
  have := List.mem_filter.1 hx
  simp at this
  exact ⟨x, this.1, this.2⟩
/-- One more voter: majorities of both meet in a voter of both. -/
theorem meet_more {v V : List Int} {n : Int} (hn : n ∉ v) (hp : V.Perm (n :: v)) {a b : List Int} (h1 : (v.length : Int) < 2 * countIn v a) (h2 : (V.length : Int) < 2 * countIn V b) : ∃ x ∈ v, x ∈ V ∧ x ∈ a ∧ x ∈ b := by
  have e : countIn (n :: v) (a.filter fun x => decide (x ∈ v)) = countIn v a := by
    rw [countIn_cons, if_neg (by simp [hn]), Int.zero_add]
    exact countIn_congr fun x hx => by simp [hx]
  have h := count_meet2 (n :: v) (a.filter fun x => decide (x ∈ v)) b
  rw [countIn_perm hp] at h2
  rw [hp.length_eq] at h2
  rw [e] at h
  simp only [List.length_cons] at h h2
  have hp0 : 0 < ((n :: v).filter fun x => decide (x ∈ a.filter fun x => decide (x ∈ v)) && decide (x ∈ b)).length := by omega
  obtain ⟨x, hx⟩ := List.exists_mem_of_length_pos hp0
  have := List.mem_filter.1 hx
  simp at this
  exact ⟨x, this.2.1.2, hp.mem_iff.2 (List.mem_cons_of_mem _ this.2.1.2), this.2.1.1, this.2.2⟩
theorem sorted_nodup {l : List Int} (h : l.Pairwise (· < ·)) : l.Nodup := h.imp fun h => by omega

theorem meets_of {v l v' l' : List Int} {kind n : Int} (h : checkB v l = true) (ha : applyR v l kind n = some (v', l')) {a b : List Int} (h1 : (v.length : Int) < 2 * countIn v a) (h2 : (v'.length : Int) < 2 * countIn v' b) : ∃ x ∈ a, x ∈ b ∧ x ∈ v ∧ x ∈ v' := by
  obtain ⟨_, hr, hr2, _⟩ := check_iff.1 h
  have ev := setList_memF hr
  have hin : thereB v l n = true → 0 ≤ n ∧ n < 8 := by
    intro h
    unfold thereB at h
    simp only [Bool.or_eq_true, decide_eq_true_eq] at h
    rcases h with h | h
    · exact okAt_bounds hr h
    · exact okAt_bounds hr2 h
  have same : v' = v → ∃ x ∈ a, x ∈ b ∧ x ∈ v ∧ x ∈ v' := by
    rintro rfl
    obtain ⟨x, h3, h4, h5⟩ := meet_same h1 h2
    exact ⟨x, h4, h5, h3, h3⟩
  unfold applyR at ha
  by_cases c1 : kind = 1 ∧ 0 ≤ n ∧ n < 8 ∧ thereB v l n = false
  · rw [if_pos c1] at ha
    cases ha
    exact same ev
  · rw [if_neg c1] at ha
    by_cases c2 : kind = 2 ∧ thereB v l n = true ∧ decide (n ∈ v) = false
    · rw [if_pos c2] at ha
      cases ha
      have hn := hin c2.2.1
      have hnv : n ∉ v := by simpa using c2.2.2
      have hp : (setList (updF (memF v) n.toNat true)).Perm (n :: v) := by
        refine (List.perm_ext_iff_of_nodup (sorted_nodup (setList_sorted _)) (List.nodup_cons.2 ⟨hnv, sorted_nodup (rises_sorted hr)⟩)).2 fun x => ?_
        rw [updF_mem hn.1, List.mem_cons]
        constructor
        · rintro ⟨_, _, hx⟩
          by_cases e : x = n
          · exact .inl e
          · rw [if_neg e] at hx; exact .inr hx
        · rintro (rfl | hx)
          · exact ⟨hn.1, hn.2, by simp⟩
          · have := okAt_bounds hr hx
            exact ⟨this.1, this.2, by by_cases e : x = n <;> simp [e, hx]⟩
      obtain ⟨x, h3, h4, h5, h6⟩ := meet_more hnv hp h1 h2
      exact ⟨x, h5, h6, h3, h4⟩
    · rw [if_neg c2] at ha
      by_cases c3 : kind = 3 ∧ thereB v l n = true ∧ ¬(v.length = 1 ∧ decide (n ∈ v) = true)
      · rw [if_pos c3] at ha
        cases ha
        have hn := hin c3.2.1
        have hm : ∀ x, x ∈ setList (updF (memF v) n.toNat false) ↔ x ∈ v ∧ x ≠ n := by
          intro x
          rw [updF_mem hn.1]
          constructor
          · rintro ⟨_, _, hx⟩
            by_cases e : x = n
            · simp [e] at hx
            · rw [if_neg e] at hx; exact ⟨hx, e⟩
          · rintro ⟨hx, e⟩
            have := okAt_bounds hr hx
            exact ⟨this.1, this.2, by rw [if_neg e]; exact hx⟩
        by_cases hv : n ∈ v
        · have hnn : n ∉ setList (updF (memF v) n.toNat false) := fun h => ((hm n).1 h).2 rfl
          have hp : v.Perm (n :: setList (updF (memF v) n.toNat false)) := by
            refine (List.perm_ext_iff_of_nodup (sorted_nodup (rises_sorted hr)) (List.nodup_cons.2 ⟨hnn, sorted_nodup (setList_sorted _)⟩)).2 fun x => ?_
            rw [List.mem_cons, hm]
            by_cases e : x = n
            · simp [e, hv]
            · simp [e]
          obtain ⟨x, h3, h4, h5, h6⟩ := meet_more hnn hp h2 h1
          exact ⟨x, h6, h5, h4, h3⟩
        · exact same (sorted_ext (setList_sorted _) (rises_sorted hr) fun x => by
            rw [hm x]
            exact ⟨fun h => h.1, fun h => ⟨h, fun e => hv (e ▸ h)⟩⟩)
      · rw [if_neg c3] at ha
        cases ha

set_option maxRecDepth 100000 in
set_option maxHeartbeats 8000000 in
theorem Meets_calls (v l p q : List Int) (a b x y : Option Addr) (c d cx cy : Nat) (kind n : Int) (w : World) (h : Ints w .i64 a v) (hl : v.length ≤ 1048576) (h2 : Ints w .i64 b l) (hm : l.length ≤ 1048576)
    (h3 : Ints w .i64 x p) (hp : p.length ≤ 1048576) (h4 : Ints w .i64 y q) (hq : q.length ≤ 1048576) :
    Calls Try.prog 8 #[.agg #[.slice a v.length c, .slice b l.length d], .agg #[.int .i64 kind, .int .i64 n], .agg #[.slice x p.length cx, .slice y q.length cy]] w fun e w' => e = .returned (.bool true) ∧ Below w.heap.size w w' := by
  have hb := bAlloc (bAlloc (bAlloc (Below.refl w.heap.size w) (.cells #[.slice a v.length c, .slice b l.length d] 39)) (.cells #[.int .i64 kind, .int .i64 n] 46)) (.cells #[.slice x p.length cx, .slice y q.length cy] 51)
  have x0 := heap3_0 w (.cells #[.slice a v.length c, .slice b l.length d] 39) (.cells #[.int .i64 kind, .int .i64 n] 46) (.cells #[.slice x p.length cx, .slice y q.length cy] 51)
  have x1 := heap3_1 w (.cells #[.slice a v.length c, .slice b l.length d] 39) (.cells #[.int .i64 kind, .int .i64 n] 46) (.cells #[.slice x p.length cx, .slice y q.length cy] 51)
  have x2 := heap3_2 w (.cells #[.slice a v.length c, .slice b l.length d] 39) (.cells #[.int .i64 kind, .int .i64 n] 46) (.cells #[.slice x p.length cx, .slice y q.length cy] 51)
  have k0 : (((w.alloc (.cells #[.slice a v.length c, .slice b l.length d] 39)).alloc (.cells #[.int .i64 kind, .int .i64 n] 46)).alloc (.cells #[.slice x p.length cx, .slice y q.length cy] 51)).cell? ⟨w.heap.size, 0, none⟩ = some (.slice a v.length c) := by rw [cell_at x0]; rfl
  have k1 : (((w.alloc (.cells #[.slice a v.length c, .slice b l.length d] 39)).alloc (.cells #[.int .i64 kind, .int .i64 n] 46)).alloc (.cells #[.slice x p.length cx, .slice y q.length cy] 51)).cell? ⟨w.heap.size, 1, none⟩ = some (.slice b l.length d) := by rw [cell_at x0]; rfl
  have k2 : (((w.alloc (.cells #[.slice a v.length c, .slice b l.length d] 39)).alloc (.cells #[.int .i64 kind, .int .i64 n] 46)).alloc (.cells #[.slice x p.length cx, .slice y q.length cy] 51)).cell? ⟨w.heap.size + 1, 0, none⟩ = some (.int .i64 kind) := by rw [cell_at x1]; rfl
  have k3 : (((w.alloc (.cells #[.slice a v.length c, .slice b l.length d] 39)).alloc (.cells #[.int .i64 kind, .int .i64 n] 46)).alloc (.cells #[.slice x p.length cx, .slice y q.length cy] 51)).cell? ⟨w.heap.size + 1, 1, none⟩ = some (.int .i64 n) := by rw [cell_at x1]; rfl
  have k4 : (((w.alloc (.cells #[.slice a v.length c, .slice b l.length d] 39)).alloc (.cells #[.int .i64 kind, .int .i64 n] 46)).alloc (.cells #[.slice x p.length cx, .slice y q.length cy] 51)).cell? ⟨w.heap.size + 1 + 1, 0, none⟩ = some (.slice x p.length cx) := by rw [cell_at x2]; rfl
  have k5 : (((w.alloc (.cells #[.slice a v.length c, .slice b l.length d] 39)).alloc (.cells #[.int .i64 kind, .int .i64 n] 46)).alloc (.cells #[.slice x p.length cx, .slice y q.length cy] 51)).cell? ⟨w.heap.size + 1 + 1, 1, none⟩ = some (.slice y q.length cy) := by rw [cell_at x2]; rfl
  clear x0 x1 x2
  (replace h := Ints.below h hb; replace h2 := Ints.below h2 hb; replace h3 := Ints.below h3 hb; replace h4 := Ints.below h4 hb)
  obtain ⟨v', l', code, hcd, lv', ll', AP, hmeet⟩ : ∃ v' l' code, (code = 0 → checkB v' l' = true) ∧ v'.length ≤ 8 ∧ l'.length ≤ 8 ∧
      (∀ (a b : Option Addr) (c d : Nat) (w : World), Ints w .i64 a v → Ints w .i64 b l → Calls Try.prog 26 #[.agg #[.slice a v.length c, .slice b l.length d], .agg #[.int .i64 kind, .int .i64 n]] w fun e w' => ∃ A C B D, e = .returned (.tuple #[.agg #[.slice A (List.length v') C, .slice B (List.length l') D], .int .i64 code]) ∧ Ints w' .i64 A v' ∧ Ints w' .i64 B l' ∧ Below w.heap.size w w') ∧
      (code = 0 → decide ((v.length : Int) < 2 * countIn v p) = true → decide ((v'.length : Int) < 2 * countIn v' q) = true → ∃ z ∈ p, z ∈ q ∧ z ∈ v ∧ z ∈ v') := by
    by_cases hk : checkB v l = true
    · cases ha : applyR v l kind n with
      | none =>
        refine ⟨[], [], 141, (fun h => by cases h), by simp, by simp, fun a b c d w h h2 => ?_, (fun h => by cases h)⟩
        exact (Apply_go v l a b c d kind n w h h2 hk).mono fun e w' h => ⟨none, 0, none, 0, h.2.1 ha, Ints.nil _ _ _, Ints.nil _ _ _, h.1⟩
      | some r =>
        obtain ⟨v', l'⟩ := r
        have hn : thereB v l n = true ∨ 0 ≤ n ∧ n < 8 := by
          unfold applyR at ha
          by_cases h1 : kind = 1 ∧ 0 ≤ n ∧ n < 8 ∧ thereB v l n = false
          · exact .inr ⟨h1.2.1, h1.2.2.1⟩
          · rw [if_neg h1] at ha
            by_cases h2 : kind = 2 ∧ thereB v l n = true ∧ decide (n ∈ v) = false
            · exact .inl h2.2.1
            · rw [if_neg h2] at ha
              by_cases h3 : kind = 3 ∧ thereB v l n = true ∧ ¬(v.length = 1 ∧ decide (n ∈ v) = true)
              · exact .inl h3.2.1
              · rw [if_neg h3] at ha
                cases ha
        have hc := apply_check hk hn ha
        have hp := check_iff.1 hc
        refine ⟨v', l', 0, fun _ => hc, len8c hp.2.1, len8c hp.2.2.1, fun a b c d w h h2 => ?_, fun _ h1 h2 => ?_⟩
        · exact (Apply_go v l a b c d kind n w h h2 hk).mono fun e w' h =>
            let ⟨A, C, B, D, h1, h2, h3⟩ := h.2.2 v' l' ha
            ⟨A, C, B, D, h1, h2, h3, h.1⟩
        · exact meets_of hk ha (by simpa using h1) (by simpa using h2)
    · have hk' : checkB v l = false := by simpa using hk
      refine ⟨[], [], 140, (fun h => by cases h), by simp, by simp, fun a b c d w h h2 => ?_, (fun h => by cases h)⟩
      exact (Apply_bad v l a b c d kind n w h (by omega) h2 (by omega) hk').mono fun e w' h => ⟨none, 0, none, 0, h.1, Ints.nil _ _ _, Ints.nil _ _ _, h.2⟩
  have HMEET := Lib.hid hmeet
  clear hmeet hcd
  go_enter Try.func8, Try.ntmps8
  go_wp2_with fail
  refine (AP a b c d _ h h2).mono ?_
  rintro e w2 ⟨A2, C2, B2, D2, rfl, he1, he2, hb2⟩
  clear AP
  (replace h := Ints.below h hb2; replace h2 := Ints.below h2 hb2; replace h3 := Ints.below h3 hb2; replace h4 := Ints.below h4 hb2; replace k0 := keepC hb2 k0; replace k1 := keepC hb2 k1; replace k2 := keepC hb2 k2; replace k3 := keepC hb2 k3; replace k4 := keepC hb2 k4; replace k5 := keepC hb2 k5; replace hb := bTrans hb hb2)
  have hx2 := bAlloc (Below.refl _ w2) (.cells #[.slice A2 v'.length C2, .slice B2 l'.length D2] 39)
  have o0 : (w2.alloc (.cells #[.slice A2 v'.length C2, .slice B2 l'.length D2] 39)).cell? ⟨w2.heap.size, 0, none⟩ = some (.slice A2 v'.length C2) := by rw [cell_at (heap_alloc_new w2 _)]; rfl
  have o1 : (w2.alloc (.cells #[.slice A2 v'.length C2, .slice B2 l'.length D2] 39)).cell? ⟨w2.heap.size, 1, none⟩ = some (.slice B2 l'.length D2) := by rw [cell_at (heap_alloc_new w2 _)]; rfl
  (replace h := Ints.below h hx2; replace h2 := Ints.below h2 hx2; replace h3 := Ints.below h3 hx2; replace h4 := Ints.below h4 hx2; replace he1 := Ints.below he1 hx2; replace he2 := Ints.below he2 hx2; replace k0 := keepC hx2 k0; replace k1 := keepC hx2 k1; replace k2 := keepC hx2 k2; replace k3 := keepC hx2 k3; replace k4 := keepC hx2 k4; replace k5 := keepC hx2 k5; replace hb := bTrans hb hx2)
  clear hb2 hx2
  have M1 := fun w' h' h'' => Majority_calls v l p a b x c d cx w' h' (by omega) h'' (by omega)
  have M2 := fun w' h' h'' => Majority_calls v' l' q A2 B2 y C2 D2 cy w' h' (by omega) h'' (by omega)
  have I1 := fun (t : Int) w' h' => In_calls q y cy t w' h' (by omega)
  have V1 := fun (t : Int) w' h' => Votes_calls v l a b c d t w' h' (by omega)
  have V2 := fun (t : Int) w' h' => Votes_calls v' l' A2 B2 C2 D2 t w' h' (by omega)
  generalize decide ((v.length : Int) < 2 * countIn v p) = m1 at *
  generalize decide ((v'.length : Int) < 2 * countIn v' q) = m2 at *
  by_cases hc : code = 0
  · subst hc
    go_wp2_with fail
    refine (M1 _ h h3).mono ?_
    rintro e w4 ⟨rfl, hb4⟩
    (replace h := Ints.below h hb4; replace h2 := Ints.below h2 hb4; replace h3 := Ints.below h3 hb4; replace h4 := Ints.below h4 hb4; replace he1 := Ints.below he1 hb4; replace he2 := Ints.below he2 hb4; replace k0 := keepC hb4 k0; replace k1 := keepC hb4 k1; replace k2 := keepC hb4 k2; replace k3 := keepC hb4 k3; replace k4 := keepC hb4 k4; replace k5 := keepC hb4 k5; replace o0 := keepC hb4 o0; replace o1 := keepC hb4 o1; replace hb := bTrans hb hb4)
    clear hb4 M1
    cases m1
    · clear M2 I1 V1 V2
      go_wp2_with fail
      refine (alive14_calls _).mono ?_
      rintro e w5 ⟨rfl, hb5⟩
      go_wp2
      go_ret
      exact ⟨rfl, bTrans hb hb5⟩
    · go_wp2_with fail
      refine (M2 _ he1 h4).mono ?_
      rintro e w5 ⟨rfl, hb5⟩
      (replace h := Ints.below h hb5; replace h2 := Ints.below h2 hb5; replace h3 := Ints.below h3 hb5; replace h4 := Ints.below h4 hb5; replace he1 := Ints.below he1 hb5; replace he2 := Ints.below he2 hb5; replace k0 := keepC hb5 k0; replace k1 := keepC hb5 k1; replace k2 := keepC hb5 k2; replace k3 := keepC hb5 k3; replace k4 := keepC hb5 k4; replace k5 := keepC hb5 k5; replace o0 := keepC hb5 o0; replace o1 := keepC hb5 o1; replace hb := bTrans hb hb5)
      clear hb5 M2
      cases m2
      · clear I1 V1 V2
        go_wp2_with fail
        refine (alive14_calls _).mono ?_
        rintro e w6 ⟨rfl, hb6⟩
        go_wp2
        go_ret
        exact ⟨rfl, bTrans hb hb6⟩
      · obtain ⟨z, hzp, hzq, hzv, hzv'⟩ := HMEET.out (by simp) (by simp) (by simp)
        obtain ⟨g, o, rfl, hg, hc⟩ := h3.open (List.length_pos_of_mem hzp)
        go_wp2_with fail
        go_loopw [37] (fun i wr => ∃ k : Nat, k ≤ p.length ∧ i = .int .i64 k ∧ z ∉ p.take k ∧ Below w5.heap.size w5 wr) (fun i _ => p.length - (intOf i).toNat)
        case atStart => exact ⟨0, by omega, rfl, by simp, Below.refl _ _⟩
        case round =>
          obtain ⟨k, hk', rfl, hzk, hbr⟩ := hrel
          have hkv : k < p.length := by
            rcases Nat.lt_or_ge k p.length with h | h
            · exact h
            · rw [List.take_of_length_le h] at hzk; exact absurd hzp hzk
          have hcell := keepC hbr (hc k hkv)
          have e1 : p.getD k 0 = p[k] := by simp [List.getD, hkv]
          rw [e1] at hcell
          have It := I1 p[k]
          have Vt := V1 p[k]
          have Vu := V2 p[k]
          have hz' : p[k] = z → decide (p[k] ∈ q) = true ∧ decide (p[k] ∈ v) = true ∧ decide (p[k] ∈ v') = true := by
            intro e
            simp [e, hzv, hzv', hzq]
          have hts := take_snoc p k hkv
          generalize decide (p[k] ∈ q) = d1 at *
          generalize decide (p[k] ∈ v) = d2 at *
          generalize decide (p[k] ∈ v') = d3 at *
          generalize p[k] = t at *
          have HT := Lib.hid hts
          have HZ := Lib.hid hz'
          have HK := Lib.hid hzk
          clear hts hz' hzk e1 hc hzp hzq hzv hzv' I1 V1 V2
          (replace h := Ints.below h hbr; replace h2 := Ints.below h2 hbr; replace h3 := Ints.below h3 hbr; replace h4 := Ints.below h4 hbr; replace he1 := Ints.below he1 hbr; replace he2 := Ints.below he2 hbr; replace k0 := keepC hbr k0; replace k1 := keepC hbr k1; replace k2 := keepC hbr k2; replace k3 := keepC hbr k3; replace k4 := keepC hbr k4; replace k5 := keepC hbr k5; replace o0 := keepC hbr o0; replace o1 := keepC hbr o1; replace hb := bTrans hb hbr)
          go_wp2_with fail
          refine (It _ h4).mono ?_
          rintro e w' ⟨rfl, rfl⟩
          clear It
          cases d1
          · clear Vt Vu
            go_wp2
            go_light
            refine ⟨⟨k + 1, by omega, by go_num, ?_, hbr⟩, by simp [intOf]; omega⟩
            rw [HT.out]
            simp only [List.mem_append, List.mem_singleton, not_or]
            exact ⟨HK.out, fun e => by have := (HZ.out e.symm).1; simp at this⟩
          · go_wp2_with fail
            refine (Vt _ h).mono ?_
            rintro e w7 ⟨rfl, hb7⟩
            clear Vt
            (replace h := Ints.below h hb7; replace h2 := Ints.below h2 hb7; replace h3 := Ints.below h3 hb7; replace h4 := Ints.below h4 hb7; replace he1 := Ints.below he1 hb7; replace he2 := Ints.below he2 hb7; replace k0 := keepC hb7 k0; replace k1 := keepC hb7 k1; replace k2 := keepC hb7 k2; replace k3 := keepC hb7 k3; replace k4 := keepC hb7 k4; replace k5 := keepC hb7 k5; replace o0 := keepC hb7 o0; replace o1 := keepC hb7 o1; replace hb := bTrans hb hb7; replace hbr := bTrans hbr hb7)
            clear hb7
            cases d2
            · clear Vu
              go_wp2
              go_light
              refine ⟨⟨k + 1, by omega, by go_num, ?_, hbr⟩, by simp [intOf]; omega⟩
              rw [HT.out]
              simp only [List.mem_append, List.mem_singleton, not_or]
              exact ⟨HK.out, fun e => by have := (HZ.out e.symm).2.1; simp at this⟩
            · go_wp2_with fail
              refine (Vu _ he1).mono ?_
              rintro e w8 ⟨rfl, hb8⟩
              clear Vu
              (replace h := Ints.below h hb8; replace h2 := Ints.below h2 hb8; replace h3 := Ints.below h3 hb8; replace h4 := Ints.below h4 hb8; replace he1 := Ints.below he1 hb8; replace he2 := Ints.below he2 hb8; replace k0 := keepC hb8 k0; replace k1 := keepC hb8 k1; replace k2 := keepC hb8 k2; replace k3 := keepC hb8 k3; replace k4 := keepC hb8 k4; replace k5 := keepC hb8 k5; replace o0 := keepC hb8 o0; replace o1 := keepC hb8 o1; replace hb := bTrans hb hb8; replace hbr := bTrans hbr hb8)
              clear hb8
              cases d3
              · go_wp2
                go_light
                refine ⟨⟨k + 1, by omega, by go_num, ?_, hbr⟩, by simp [intOf]; omega⟩
                rw [HT.out]
                simp only [List.mem_append, List.mem_singleton, not_or]
                exact ⟨HK.out, fun e => by have := (HZ.out e.symm).2.2; simp at this⟩
              · go_wp2_with fail
                refine (alive14_calls _).mono ?_
                rintro e w9 ⟨rfl, hb9⟩
                go_wp2
                go_ret
                exact ⟨rfl, bTrans hb hb9⟩
  · have e1 : (code != 0) = true := by simpa using hc
    clear M1 M2 I1 V1 V2 HMEET
    go_wp2_with fail
    refine (alive14_calls _).mono ?_
    rintro e w4 ⟨rfl, hb4⟩
    go_wp2
    go_ret
    exact ⟨rfl, bTrans hb hb4⟩
end Go.Proofs.Ytinkbiinbfbjgaa

/- Contract of the law ConfigChanges. -/
import Derived.Test.YtinkbiinbfbjgaaDRefApply
import Derived.Test.YtinkbiinbfbjgaaDSame
import Derived.Test.YtinkbiinbfbjgaaDConfC
namespace Go.Proofs.Ytinkbiinbfbjgaa
open Go.RowKit
set_option linter.unusedVariables false
set_option linter.unusedSimpArgs false

/-- What the operations of the copying region leave. -/
def chR (g0 B0 : Nat) (v l : List Int) (a b : Option Addr) (c d : Nat) : Nat → (Nat → Value) → World → Prop
  | 0, u, _ => ∃ p, u 0 = .slice (some p) 0 0
  | 1, u, _ => u 1 = .pointer (some ⟨g0, 0, none⟩)
  | 2, u, _ => u 2 = .slice a v.length c
  | 3, u, W => ∃ A C, u 3 = .slice A v.length C ∧ Ints W .i64 A v
  | 4, u, _ => ∃ p, u 4 = .slice (some p) 0 0
  | 5, u, _ => u 5 = .pointer (some ⟨g0, 1, none⟩)
  | 6, u, _ => u 6 = .slice b l.length d
  | 7, u, W => ∃ A C, u 7 = .slice A l.length C ∧ Ints W .i64 A l
  | 8, u, W => ∃ A C B D, u 8 = .agg #[.slice A v.length C, .slice B l.length D] ∧ Ints W .i64 A v ∧ Ints W .i64 B l
  | 9, u, W => ∃ g, u 9 = .pointer (some ⟨g, 0, none⟩) ∧ B0 ≤ g ∧ W.heap[g]? = some (.cells #[.slice none 0 0, .slice none 0 0] 39 (0, 0))
  | 10, u, W => ∃ g A C B D, u 9 = .pointer (some ⟨g, 0, none⟩) ∧ B0 ≤ g ∧ W.heap[g]? = some (.cells #[.slice A v.length C, .slice B l.length D] 39 (0, 0)) ∧ Ints W .i64 A v ∧ Ints W .i64 B l
  | _, _, _ => True
theorem chR_upd {g0 B0 : Nat} {v l : List Int} {a b : Option Addr} {c d : Nat} (j i : Nat) (u : Nat → Value) (x : Value) {W : World} (hj : j ≠ i) (h9 : j = 10 → i ≠ 9) (h : chR g0 B0 v l a b c d j u W) : chR g0 B0 v l a b c d j (updV u i x) W := by
  have e : updV u i x j = u j := updV_ne hj
  match j, h with
  | 0, ⟨p, h⟩ => exact ⟨p, e.trans h⟩
  | 1, h => exact e.trans h
  | 2, h => exact e.trans h
  | 3, ⟨A, C, h, k⟩ => exact ⟨A, C, e.trans h, k⟩
  | 4, ⟨p, h⟩ => exact ⟨p, e.trans h⟩
  | 5, h => exact e.trans h
  | 6, h => exact e.trans h
  | 7, ⟨A, C, h, k⟩ => exact ⟨A, C, e.trans h, k⟩
  | 8, ⟨A, C, B, D, h, k⟩ => exact ⟨A, C, B, D, e.trans h, k⟩
  | 9, ⟨g, h, k⟩ => exact ⟨g, e.trans h, k⟩
  | 10, ⟨g, A, C, B, D, h, k⟩ => exact ⟨g, A, C, B, D, (updV_ne (fun e => h9 rfl e.symm)).trans h, k⟩
  | _ + 11, _ => trivial
theorem chR_below {g0 B0 : Nat} {v l : List Int} {a b : Option Addr} {c d : Nat} (j : Nat) (u : Nat → Value) {W W' : World} (hb : Below W.heap.size W W') (h : chR g0 B0 v l a b c d j u W) : chR g0 B0 v l a b c d j u W' := by
  match j, h with
  | 0, h => exact h
  | 1, h => exact h
  | 2, h => exact h
  | 3, ⟨A, C, h, k⟩ => exact ⟨A, C, h, k.below hb⟩
  | 4, h => exact h
  | 5, h => exact h
  | 6, h => exact h
  | 7, ⟨A, C, h, k⟩ => exact ⟨A, C, h, k.below hb⟩
  | 8, ⟨A, C, B, D, h, k, m⟩ => exact ⟨A, C, B, D, h, k.below hb, m.below hb⟩
  | 9, ⟨g, h, k, m⟩ => exact ⟨g, h, k, keepH hb m⟩
  | 10, ⟨g, A, C, B, D, h, k, m, i, j⟩ => exact ⟨g, A, C, B, D, h, k, keepH hb m, i.below hb, j.below hb⟩
  | _ + 11, _ => trivial
theorem chR_set {g0 B0 : Nat} {v l : List Int} {a b : Option Addr} {c d : Nat} (j : Nat) (u : Nat → Value) {W : World} {g : Nat} {p q p1 : Option Addr} {n0 m0 c0 d0 n1 c1 : Nat} (hg : W.heap[g]? = some (.cells #[.slice p n0 c0, .slice q m0 d0] 39 (0, 0))) (z : Value)
    (h : chR g0 B0 v l a b c d j u W) (h9 : j ≠ 9) (h10 : j ≠ 10) : chR g0 B0 v l a b c d j u ((W.setCell ⟨g, 0, none⟩ (.slice p1 n1 c1)).setCell ⟨g, 1, none⟩ z) := by
  match j, h with
  | 0, h => exact h
  | 1, h => exact h
  | 2, h => exact h
  | 3, ⟨A, C, h, k⟩ => exact ⟨A, C, h, ints_set2 hg z k⟩
  | 4, h => exact h
  | 5, h => exact h
  | 6, h => exact h
  | 7, ⟨A, C, h, k⟩ => exact ⟨A, C, h, ints_set2 hg z k⟩
  | 8, ⟨A, C, B, D, h, k, m⟩ => exact ⟨A, C, B, D, h, ints_set2 hg z k, ints_set2 hg z m⟩
  | 9, _ => exact absurd rfl h9
  | 10, _ => exact absurd rfl h10
  | _ + 11, _ => trivial
def chF : Nat → Option Nat
  | 9 => some 10
  | _ => none

theorem len8c {l : List Int} (h : risesB l = true) : l.length ≤ 8 := (rises_small h).1

/-- What both make of a change. -/
theorem chRes (v l : List Int) (kind n : Int) (hl : v.length ≤ 1048576) (hm : l.length ≤ 1048576) : ∃ v' l' code, (code = 0 → checkB v' l' = true) ∧ v'.length ≤ 8 ∧ l'.length ≤ 8 ∧
    (∀ (a b : Option Addr) (c d : Nat) (w : World), Ints w .i64 a v → Ints w .i64 b l → Calls Try.prog 26 #[.agg #[.slice a v.length c, .slice b l.length d], .agg #[.int .i64 kind, .int .i64 n]] w fun e w' => ∃ A C B D, e = .returned (.tuple #[.agg #[.slice A (List.length v') C, .slice B (List.length l') D], .int .i64 code]) ∧ Ints w' .i64 A v' ∧ Ints w' .i64 B l' ∧ Below w.heap.size w w') ∧
    (∀ (a b : Option Addr) (c d : Nat) (w : World), Ints w .i64 a v → Ints w .i64 b l → Calls Try.prog 27 #[.agg #[.slice a v.length c, .slice b l.length d], .agg #[.int .i64 kind, .int .i64 n]] w fun e w' => ∃ A C B D, e = .returned (.tuple #[.agg #[.slice A (List.length v') C, .slice B (List.length l') D], .int .i64 code]) ∧ Ints w' .i64 A v' ∧ Ints w' .i64 B l' ∧ Below w.heap.size w w') := by
  by_cases hk : checkB v l = true
  · cases ha : applyR v l kind n with
    | none =>
      refine ⟨[], [], 141, (fun h => by cases h), by simp, by simp, fun a b c d w h h2 => ?_, fun a b c d w h h2 => ?_⟩
      · exact (Apply_go v l a b c d kind n w h h2 hk).mono fun e w' h => ⟨none, 0, none, 0, h.2.1 ha, Ints.nil _ _ _, Ints.nil _ _ _, h.1⟩
      · exact (rApply_go v l a b c d kind n w h h2 hk).mono fun e w' h => ⟨none, 0, none, 0, h.2.1 ha, Ints.nil _ _ _, Ints.nil _ _ _, h.1⟩
    | some r =>
      obtain ⟨v', l'⟩ := r
      have hn : thereB v l n = true ∨ 0 ≤ n ∧ n < 8 := by
        unfold applyR at ha
        by_cases h1 : kind = 1 ∧ 0 ≤ n ∧ n < 8 ∧ thereB v l n = false
        · exact .inr ⟨h1.2.1, h1.2.2.1⟩
        · rw [if_neg h1] at ha
          by_cases h2 : kind = 2 ∧ thereB v l n = true ∧ decide (n ∈ v) = false
          · exact .inl h2.2.1
          · rw [if_neg h2] at ha
            by_cases h3 : kind = 3 ∧ thereB v l n = true ∧ ¬(v.length = 1 ∧ decide (n ∈ v) = true)
            · exact .inl h3.2.1
            · rw [if_neg h3] at ha
              cases ha
      have hc := apply_check hk hn ha
      have hp := check_iff.1 hc
      refine ⟨v', l', 0, fun _ => hc, len8c hp.2.1, len8c hp.2.2.1, fun a b c d w h h2 => ?_, fun a b c d w h h2 => ?_⟩
      · exact (Apply_go v l a b c d kind n w h h2 hk).mono fun e w' h =>
          let ⟨A, C, B, D, h1, h2, h3⟩ := h.2.2 v' l' ha
          ⟨A, C, B, D, h1, h2, h3, h.1⟩
      · exact (rApply_go v l a b c d kind n w h h2 hk).mono fun e w' h =>
          let ⟨A, C, B, D, h1, h2, h3⟩ := h.2.2 v' l' ha
          ⟨A, C, B, D, h1, h2, h3, h.1⟩
  · have hk' : checkB v l = false := by simpa using hk
    refine ⟨[], [], 140, (fun h => by cases h), by simp, by simp, fun a b c d w h h2 => ?_, fun a b c d w h h2 => ?_⟩
    · exact (Apply_bad v l a b c d kind n w h (by omega) h2 (by omega) hk').mono fun e w' h => ⟨none, 0, none, 0, h.1, Ints.nil _ _ _, Ints.nil _ _ _, h.2⟩
    · exact (rApply_bad v l a b c d kind n w h (by omega) h2 (by omega) hk').mono fun e w' h => ⟨none, 0, none, 0, h.1, Ints.nil _ _ _, Ints.nil _ _ _, h.2⟩

set_option maxRecDepth 100000 in
set_option maxHeartbeats 8000000 in
theorem Changes_calls (v l : List Int) (a b : Option Addr) (c d : Nat) (kind n : Int) (w : World) (h : Ints w .i64 a v) (hl : v.length ≤ 1048576) (h2 : Ints w .i64 b l) (hm : l.length ≤ 1048576) :
    Calls Try.prog 7 #[.agg #[.slice a v.length c, .slice b l.length d], .agg #[.int .i64 kind, .int .i64 n]] w fun e w' => e = .returned (.bool true) ∧ Below w.heap.size w w' := by
  have hb := bAlloc (bAlloc (Below.refl w.heap.size w) (.cells #[.slice a v.length c, .slice b l.length d] 39)) (.cells #[.int .i64 kind, .int .i64 n] 46)
  have k0 : ((w.alloc (.cells #[.slice a v.length c, .slice b l.length d] 39)).alloc (.cells #[.int .i64 kind, .int .i64 n] 46)).cell? ⟨w.heap.size, 0, none⟩ = some (.slice a v.length c) := keepC (bAlloc (Below.refl _ _) _) (by rw [cell_at (heap_alloc_new w _)]; rfl)
  have k1 : ((w.alloc (.cells #[.slice a v.length c, .slice b l.length d] 39)).alloc (.cells #[.int .i64 kind, .int .i64 n] 46)).cell? ⟨w.heap.size, 1, none⟩ = some (.slice b l.length d) := keepC (bAlloc (Below.refl _ _) _) (by rw [cell_at (heap_alloc_new w _)]; rfl)
  have hn := heap_alloc_new (w.alloc (.cells #[.slice a v.length c, .slice b l.length d] 39)) (.cells #[.int .i64 kind, .int .i64 n] 46)
  rw [World.size_alloc] at hn
  have k2 : ((w.alloc (.cells #[.slice a v.length c, .slice b l.length d] 39)).alloc (.cells #[.int .i64 kind, .int .i64 n] 46)).cell? ⟨w.heap.size + 1, 0, none⟩ = some (.int .i64 kind) := by rw [cell_at hn]; rfl
  have k3 : ((w.alloc (.cells #[.slice a v.length c, .slice b l.length d] 39)).alloc (.cells #[.int .i64 kind, .int .i64 n] 46)).cell? ⟨w.heap.size + 1, 1, none⟩ = some (.int .i64 n) := by rw [cell_at hn]; rfl
  clear hn
  (replace h := Ints.below h hb; replace h2 := Ints.below h2 hb)
  have hz : w.heap.size + 1 < ((w.alloc (.cells #[.slice a v.length c, .slice b l.length d] 39)).alloc (.cells #[.int .i64 kind, .int .i64 n] 46)).heap.size := by simp
  go_enter Try.func7, Try.ntmps7
  go_wp2_with fail
  generalize (w.alloc (.cells #[.slice a v.length c, .slice b l.length d] 39)).alloc (.cells #[.int .i64 kind, .int .i64 n] 46) = w1 at *
  have ob : ∀ W, Below w1.heap.size w1 W → W.cell? ⟨w.heap.size, 0, none⟩ = some (.slice a v.length c) ∧ W.cell? ⟨w.heap.size, 1, none⟩ = some (.slice b l.length d) := fun W hB => ⟨keepC hB k0, keepC hB k1⟩
  refine wp_region_resV (by kernel_rfl) (fun W => Below w1.heap.size w1 W) (chR w.heap.size w1.heap.size v l a b c d) chF (by decide) (by decide) (bDrew (Below.refl _ _)) ?hst ?hend
  case hst =>
    iterate 11 (with_reducible refine resStepsV_cons ?_ ?_; rotate_left)
    · exact resStepsV_nil
    · intro u W hG hd K hK
      have HK := Lib.hid hK
      clear hK hd
      refine ⟨?_⟩
      simp only [slotsOf_some, slotsOf_none, slotsOf_nil, puts_cons, puts_nil, Nat.zero_add, Nat.reduceAdd]
      go_simp
      exact HK.out (.slice (some ⟨W.heap.size, 0, none⟩) 0 0) _ _ (by simp [slotsOf_some, slotsOf_none, slotsOf_nil, puts_cons, puts_nil, Act.put, -Function.const_apply]) (bAlloc hG _) ⟨_, updV_self⟩ (fun j hj _ _ _ h => chR_below j _ (bAlloc (Below.refl _ _) _) (chR_upd j 0 u _ hj (fun _ => by decide) h))
    · intro u W hG hd K hK
      have HK := Lib.hid hK
      clear hK hd
      refine ⟨?_⟩
      simp only [slotsOf_some, slotsOf_none, slotsOf_nil, puts_cons, puts_nil, Nat.zero_add, Nat.reduceAdd]
      go_simp
      exact HK.out _ _ _ (by simp [slotsOf_some, slotsOf_none, slotsOf_nil, puts_cons, puts_nil, Act.put, -Function.const_apply]) hG updV_self (fun j hj _ _ _ h => chR_upd j 1 u _ hj (fun _ => by decide) h)
    · intro u W hG hd K hK
      have r0 : u 1 = .pointer (some ⟨w.heap.size, 0, none⟩) := hd 1 (by decide) (.inl rfl)
      have hc := (ob W hG).1
      have HK := Lib.hid hK
      clear hK hd
      refine ⟨?_⟩
      simp only [slotsOf_some, slotsOf_none, slotsOf_nil, puts_cons, puts_nil, Nat.zero_add, Nat.reduceAdd]
      go_simp
      exact HK.out _ _ _ (by simp [slotsOf_some, slotsOf_none, slotsOf_nil, puts_cons, puts_nil, Act.put, r0]) hG updV_self (fun j hj _ _ _ h => chR_upd j 2 u _ hj (fun _ => by decide) h)
    · intro u W hG hd K hK
      obtain ⟨p, r0⟩ : ∃ p, u 0 = .slice (some p) 0 0 := hd 0 (by decide) (.inl rfl)
      have r2 : u 2 = .slice a v.length c := hd 2 (by decide) (.inl rfl)
      clear hd
      refine ⟨?_⟩
      simp only [slotsOf_some, slotsOf_none, slotsOf_nil, puts_cons, puts_nil, Nat.zero_add, Nat.reduceAdd]
      refine step_app0 elInt rfl (.tmp 10) (.tmp 12) rfl p (by simp [Act.eval, Act.put, r0]) a v.length c (v.map (.int .i64)) (by simp [Act.eval, Act.put, r2]) (by simp) (h.below hG) (by omega) ?_
      intro A C w' hi hb'
      exact hK _ _ _ (by simp [slotsOf_some, slotsOf_none, slotsOf_nil, puts_cons, puts_nil, Act.put, -Function.const_apply]) (bTrans hG hb') ⟨A, C, updV_self, hi⟩ (fun j hj _ _ _ h => chR_below j _ hb' (chR_upd j 3 u _ hj (fun _ => by decide) h))
    · intro u W hG hd K hK
      have HK := Lib.hid hK
      clear hK hd
      refine ⟨?_⟩
      simp only [slotsOf_some, slotsOf_none, slotsOf_nil, puts_cons, puts_nil, Nat.zero_add, Nat.reduceAdd]
      go_simp
      exact HK.out (.slice (some ⟨W.heap.size, 0, none⟩) 0 0) _ _ (by simp [slotsOf_some, slotsOf_none, slotsOf_nil, puts_cons, puts_nil, Act.put, -Function.const_apply]) (bAlloc hG _) ⟨_, updV_self⟩ (fun j hj _ _ _ h => chR_below j _ (bAlloc (Below.refl _ _) _) (chR_upd j 4 u _ hj (fun _ => by decide) h))
    · intro u W hG hd K hK
      have HK := Lib.hid hK
      clear hK hd
      refine ⟨?_⟩
      simp only [slotsOf_some, slotsOf_none, slotsOf_nil, puts_cons, puts_nil, Nat.zero_add, Nat.reduceAdd]
      go_simp
      exact HK.out _ _ _ (by simp [slotsOf_some, slotsOf_none, slotsOf_nil, puts_cons, puts_nil, Act.put, -Function.const_apply]) hG updV_self (fun j hj _ _ _ h => chR_upd j 5 u _ hj (fun _ => by decide) h)
    · intro u W hG hd K hK
      have r0 : u 5 = .pointer (some ⟨w.heap.size, 1, none⟩) := hd 5 (by decide) (.inl rfl)
      have hc := (ob W hG).2
      have HK := Lib.hid hK
      clear hK hd
      refine ⟨?_⟩
      simp only [slotsOf_some, slotsOf_none, slotsOf_nil, puts_cons, puts_nil, Nat.zero_add, Nat.reduceAdd]
      go_simp
      exact HK.out _ _ _ (by simp [slotsOf_some, slotsOf_none, slotsOf_nil, puts_cons, puts_nil, Act.put, r0]) hG updV_self (fun j hj _ _ _ h => chR_upd j 6 u _ hj (fun _ => by decide) h)
    · intro u W hG hd K hK
      obtain ⟨p, r0⟩ : ∃ p, u 4 = .slice (some p) 0 0 := hd 4 (by decide) (.inl rfl)
      have r2 : u 6 = .slice b l.length d := hd 6 (by decide) (.inl rfl)
      clear hd
      refine ⟨?_⟩
      simp only [slotsOf_some, slotsOf_none, slotsOf_nil, puts_cons, puts_nil, Nat.zero_add, Nat.reduceAdd]
      refine step_app0 elInt rfl (.tmp 14) (.tmp 16) rfl p (by simp [Act.eval, Act.put, r0]) b l.length d (l.map (.int .i64)) (by simp [Act.eval, Act.put, r2]) (by simp) (h2.below hG) (by omega) ?_
      intro A C w' hi hb'
      exact hK _ _ _ (by simp [slotsOf_some, slotsOf_none, slotsOf_nil, puts_cons, puts_nil, Act.put, -Function.const_apply]) (bTrans hG hb') ⟨A, C, updV_self, hi⟩ (fun j hj _ _ _ h => chR_below j _ hb' (chR_upd j 7 u _ hj (fun _ => by decide) h))
    · intro u W hG hd K hK
      obtain ⟨A, C, r3, hi⟩ : ∃ A C, u 3 = .slice A v.length C ∧ Ints W .i64 A v := hd 3 (by decide) (.inl rfl)
      obtain ⟨B, D, r7, hj⟩ : ∃ A C, u 7 = .slice A l.length C ∧ Ints W .i64 A l := hd 7 (by decide) (.inl rfl)
      have HK := Lib.hid hK
      clear hK hd
      refine ⟨?_⟩
      simp only [slotsOf_some, slotsOf_none, slotsOf_nil, puts_cons, puts_nil, Nat.zero_add, Nat.reduceAdd]
      go_simp
      exact HK.out _ _ _ (by simp [slotsOf_some, slotsOf_none, slotsOf_nil, puts_cons, puts_nil, Act.put, r3, r7]) hG ⟨A, C, B, D, updV_self, hi, hj⟩ (fun j hj _ _ _ h => chR_upd j 8 u _ hj (fun _ => by decide) h)
    · intro u W hG hd K hK
      have HK := Lib.hid hK
      clear hK hd
      refine ⟨?_⟩
      simp only [slotsOf_some, slotsOf_none, slotsOf_nil, puts_cons, puts_nil, Nat.zero_add, Nat.reduceAdd]
      go_simp
      exact HK.out _ _ _ (by simp [slotsOf_some, slotsOf_none, slotsOf_nil, puts_cons, puts_nil, Act.put, -Function.const_apply]) (bAlloc hG _) ⟨_, updV_self, hG.size, heap_alloc_new W _⟩ (fun j hj _ hw _ h => chR_below j _ (bAlloc (Below.refl _ _) _) (chR_upd j 9 u _ hj (fun e _ => by subst e; exact absurd hw (by decide)) h))
    · intro u W hG hd K hK
      obtain ⟨A, C, B, D, r8, hi, hj⟩ : ∃ A C B D, u 8 = .agg #[.slice A v.length C, .slice B l.length D] ∧ Ints W .i64 A v ∧ Ints W .i64 B l := hd 8 (by decide) (.inl rfl)
      obtain ⟨g, r9, hgB, hx⟩ : ∃ g, u 9 = .pointer (some ⟨g, 0, none⟩) ∧ w1.heap.size ≤ g ∧ W.heap[g]? = some (.cells #[.slice none 0 0, .slice none 0 0] 39 (0, 0)) := hd 9 (by decide) (.inr rfl)
      have t0 : W.cell? ⟨g, 0, none⟩ = some (.slice none 0 0) := by rw [cell_at hx]; rfl
      have t1 : W.cell? ⟨g, 1, none⟩ = some (.slice none 0 0) := by rw [cell_at hx]; rfl
      have tf : ∀ o, W.frozen? ⟨g, o, none⟩ = false := fun o => frozen_at hx o
      have HX := Lib.hid hx
      clear hx
      have HK := Lib.hid hK
      clear hK hd
      refine ⟨?_⟩
      simp only [slotsOf_some, slotsOf_none, slotsOf_nil, puts_cons, puts_nil, Nat.zero_add, Nat.reduceAdd]
      go_simp
      have hx := HX.out
      exact HK.out undef _ _ (by simp [slotsOf_some, slotsOf_none, slotsOf_nil, puts_cons, puts_nil, Act.put, r8, r9]) (Below.setCell (Below.setCell hG hgB _) hgB _) ⟨g, A, C, B, D, (updV_ne (by decide)).trans r9, hgB, heap_set2 hx, ints_set2 hx _ hi, ints_set2 hx _ hj⟩ (fun j hj hf hw _ h => chR_upd j 10 u _ hj (fun e => absurd e hj) (chR_set j u hx _ h (fun e => hf (by rw [e]; rfl)) hj))
  case hend =>
    intro u W hG hR
    obtain ⟨g, A, C, B, D, r9, hgB, hx, hi, hj⟩ : ∃ g A C B D, u 9 = .pointer (some ⟨g, 0, none⟩) ∧ w1.heap.size ≤ g ∧ W.heap[g]? = some (.cells #[.slice A v.length C, .slice B l.length D] 39 (0, 0)) ∧ Ints W .i64 A v ∧ Ints W .i64 B l := hR 10 (by decide) rfl
    have m0 : W.cell? ⟨g, 0, none⟩ = some (.slice A v.length C) := by rw [cell_at hx]; rfl
    have m1 : W.cell? ⟨g, 1, none⟩ = some (.slice B l.length D) := by rw [cell_at hx]; rfl
    (replace h := Ints.below h hG; replace h2 := Ints.below h2 hG; replace k0 := keepC hG k0; replace k1 := keepC hG k1; replace k2 := keepC hG k2; replace k3 := keepC hG k3; replace hb := bTrans hb hG)
    clear hR hx ob hG
    simp only [slotsOf_some, slotsOf_none, slotsOf_nil, puts_cons, puts_nil, Nat.zero_add, Nat.reduceAdd]
    obtain ⟨v', l', code, hcd, lv', ll', AP, RP⟩ := chRes v l kind n hl hm
    have CK := fun (hc : code = 0) a b c d w' h' h'' => Check_calls v' l' a b c d w' h' (by omega) h'' (by omega)
    have CZ : ∀ hc : code = 0, checkE v' l' = 0 := fun hc => check_zero.2 (hcd hc)
    have S1 := fun a b c d p q x y w' h' h'' h3' h4' => Same_calls v' l' a b p q c d x y w' h' (by omega) h'' (by omega) h3' h4'
    have S2 := fun a b c d p q x y w' h' h'' h3' h4' => Same_calls v l a b p q c d x y w' h' (by omega) h'' (by omega) h3' h4'
    clear hcd
    go_wp2_with fail
    refine (AP A B C D _ hi hj).mono ?_
    rintro e w2 ⟨A2, C2, B2, D2, rfl, he1, he2, hb2⟩
    clear AP
    (replace h := Ints.below h hb2; replace h2 := Ints.below h2 hb2; replace hi := Ints.below hi hb2; replace hj := Ints.below hj hb2; replace k0 := keepC hb2 k0; replace k1 := keepC hb2 k1; replace k2 := keepC hb2 k2; replace k3 := keepC hb2 k3; replace m0 := keepC hb2 m0; replace m1 := keepC hb2 m1; replace hb := bTrans hb hb2)
    have hx2 := bAlloc (Below.refl _ w2) (.cells #[.slice A2 v'.length C2, .slice B2 l'.length D2] 39)
    have o0 : (w2.alloc (.cells #[.slice A2 v'.length C2, .slice B2 l'.length D2] 39)).cell? ⟨w2.heap.size, 0, none⟩ = some (.slice A2 v'.length C2) := by rw [cell_at (heap_alloc_new w2 _)]; rfl
    have o1 : (w2.alloc (.cells #[.slice A2 v'.length C2, .slice B2 l'.length D2] 39)).cell? ⟨w2.heap.size, 1, none⟩ = some (.slice B2 l'.length D2) := by rw [cell_at (heap_alloc_new w2 _)]; rfl
    (replace h := Ints.below h hx2; replace h2 := Ints.below h2 hx2; replace hi := Ints.below hi hx2; replace hj := Ints.below hj hx2; replace he1 := Ints.below he1 hx2; replace he2 := Ints.below he2 hx2; replace k0 := keepC hx2 k0; replace k1 := keepC hx2 k1; replace k2 := keepC hx2 k2; replace k3 := keepC hx2 k3; replace m0 := keepC hx2 m0; replace m1 := keepC hx2 m1; replace hb := bTrans hb hx2)
    clear hb2 hx2
    go_wp2_with fail
    refine (RP a b c d _ h h2).mono ?_
    rintro e w3 ⟨A3, C3, B3, D3, rfl, hf1, hf2, hb3⟩
    clear RP
    (replace h := Ints.below h hb3; replace h2 := Ints.below h2 hb3; replace hi := Ints.below hi hb3; replace hj := Ints.below hj hb3; replace he1 := Ints.below he1 hb3; replace he2 := Ints.below he2 hb3; replace k0 := keepC hb3 k0; replace k1 := keepC hb3 k1; replace k2 := keepC hb3 k2; replace k3 := keepC hb3 k3; replace m0 := keepC hb3 m0; replace m1 := keepC hb3 m1; replace o0 := keepC hb3 o0; replace o1 := keepC hb3 o1; replace hb := bTrans hb hb3)
    have hx3 := bAlloc (Below.refl _ w3) (.cells #[.slice A3 v'.length C3, .slice B3 l'.length D3] 39)
    have q0 : (w3.alloc (.cells #[.slice A3 v'.length C3, .slice B3 l'.length D3] 39)).cell? ⟨w3.heap.size, 0, none⟩ = some (.slice A3 v'.length C3) := by rw [cell_at (heap_alloc_new w3 _)]; rfl
    have q1 : (w3.alloc (.cells #[.slice A3 v'.length C3, .slice B3 l'.length D3] 39)).cell? ⟨w3.heap.size, 1, none⟩ = some (.slice B3 l'.length D3) := by rw [cell_at (heap_alloc_new w3 _)]; rfl
    (replace h := Ints.below h hx3; replace h2 := Ints.below h2 hx3; replace hi := Ints.below hi hx3; replace hj := Ints.below hj hx3; replace he1 := Ints.below he1 hx3; replace he2 := Ints.below he2 hx3; replace hf1 := Ints.below hf1 hx3; replace hf2 := Ints.below hf2 hx3; replace k0 := keepC hx3 k0; replace k1 := keepC hx3 k1; replace k2 := keepC hx3 k2; replace k3 := keepC hx3 k3; replace m0 := keepC hx3 m0; replace m1 := keepC hx3 m1; replace o0 := keepC hx3 o0; replace o1 := keepC hx3 o1; replace hb := bTrans hb hx3)
    clear hb3 hx3
    go_wp2_with fail
    refine (alive14_calls _).mono ?_
    rintro e w4 ⟨rfl, hb4⟩
    (replace h := Ints.below h hb4; replace h2 := Ints.below h2 hb4; replace hi := Ints.below hi hb4; replace hj := Ints.below hj hb4; replace he1 := Ints.below he1 hb4; replace he2 := Ints.below he2 hb4; replace hf1 := Ints.below hf1 hb4; replace hf2 := Ints.below hf2 hb4; replace k0 := keepC hb4 k0; replace k1 := keepC hb4 k1; replace k2 := keepC hb4 k2; replace k3 := keepC hb4 k3; replace m0 := keepC hb4 m0; replace m1 := keepC hb4 m1; replace o0 := keepC hb4 o0; replace o1 := keepC hb4 o1; replace q0 := keepC hb4 q0; replace q1 := keepC hb4 q1; replace hb := bTrans hb hb4)
    clear hb4
    go_wp2_with fail
    refine (S1 _ _ _ _ _ _ _ _ _ he1 he2 hf1 hf2).mono ?_
    rintro e w5 ⟨rfl, hb5⟩
    (replace h := Ints.below h hb5; replace h2 := Ints.below h2 hb5; replace hi := Ints.below hi hb5; replace hj := Ints.below hj hb5; replace he1 := Ints.below he1 hb5; replace he2 := Ints.below he2 hb5; replace hf1 := Ints.below hf1 hb5; replace hf2 := Ints.below hf2 hb5; replace k0 := keepC hb5 k0; replace k1 := keepC hb5 k1; replace k2 := keepC hb5 k2; replace k3 := keepC hb5 k3; replace m0 := keepC hb5 m0; replace m1 := keepC hb5 m1; replace o0 := keepC hb5 o0; replace o1 := keepC hb5 o1; replace q0 := keepC hb5 q0; replace q1 := keepC hb5 q1; replace hb := bTrans hb hb5)
    clear hb5 S1
    go_wp2_with fail
    refine (S2 _ _ _ _ _ _ _ _ _ hi hj h h2).mono ?_
    rintro e w6 ⟨rfl, hb6⟩
    (replace h := Ints.below h hb6; replace h2 := Ints.below h2 hb6; replace hi := Ints.below hi hb6; replace hj := Ints.below hj hb6; replace he1 := Ints.below he1 hb6; replace he2 := Ints.below he2 hb6; replace hf1 := Ints.below hf1 hb6; replace hf2 := Ints.below hf2 hb6; replace k0 := keepC hb6 k0; replace k1 := keepC hb6 k1; replace k2 := keepC hb6 k2; replace k3 := keepC hb6 k3; replace m0 := keepC hb6 m0; replace m1 := keepC hb6 m1; replace o0 := keepC hb6 o0; replace o1 := keepC hb6 o1; replace q0 := keepC hb6 q0; replace q1 := keepC hb6 q1; replace hb := bTrans hb hb6)
    clear hb6 S2
    by_cases hc : code = 0
    · have CC := CK hc A2 B2 C2 D2 _ he1 he2
      rw [CZ hc] at CC
      clear CK CZ
      subst hc
      go_wp2_with fail
      refine (CC).mono ?_
      rintro e w7 ⟨rfl, hb7⟩
      (replace hb := bTrans hb hb7)
      go_wp2
      go_ret
      exact ⟨rfl, hb⟩
    · have e1 : (code != 0) = true := by simpa using hc
      clear CK CZ
      go_wp2
      go_ret
      exact ⟨rfl, hb⟩
end Go.Proofs.Ytinkbiinbfbjgaa

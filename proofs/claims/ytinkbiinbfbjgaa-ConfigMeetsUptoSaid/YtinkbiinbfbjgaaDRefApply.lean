/- Contract of the reference's Apply. -/
import Derived.Test.YtinkbiinbfbjgaaDRefAll
import Derived.Test.YtinkbiinbfbjgaaDSets
namespace Go.Proofs.Ytinkbiinbfbjgaa
open Go.RowKit
set_option linter.unusedVariables false
set_option linter.unusedSimpArgs false

theorem upOf_with {l acc : List Int} {n : Int} (hr : risesB l = true) (h0 : 0 ≤ n) (h8 : n < 8) (h : UpOf (l ++ [n]) acc) : acc = setList (updF (memF l) n.toNat true) := by
  refine sorted_ext h.1 (setList_sorted _) fun x => ?_
  rw [h.2.1 x, updF_mem h0]
  simp only [List.mem_append, List.mem_singleton]
  constructor
  · rintro (hx | rfl)
    · have := okAt_bounds hr hx
      exact ⟨this.1, this.2, by by_cases e : x = n <;> simp [e, hx]⟩
    · exact ⟨h0, h8, by simp⟩
  · rintro ⟨_, _, hx⟩
    by_cases e : x = n
    · exact .inr e
    · rw [if_neg e] at hx; exact .inl hx
theorem lessL_set {l : List Int} {n : Int} (hr : risesB l = true) (h0 : 0 ≤ n) : lessL l n = setList (updF (memF l) n.toNat false) := by
  refine sorted_ext ((rises_sorted hr).filter _) (setList_sorted _) fun x => ?_
  rw [updF_mem h0]
  unfold lessL
  simp only [List.mem_filter, Bool.not_eq_true', decide_eq_false_iff_not]
  constructor
  · rintro ⟨hx, hne⟩
    have := okAt_bounds hr hx
    exact ⟨this.1, this.2, by simp [hne, hx]⟩
  · rintro ⟨_, _, hx⟩
    by_cases e : x = n
    · simp [e] at hx
    · rw [if_neg e] at hx; exact ⟨hx, e⟩

theorem Ints.set_conf {w : World} {A : Option Addr} {l : List Int} (h : Ints w .i64 A l) {g : Nat} {p q : Option Addr} {n m c d : Nat} {T : TypeId} (hg : w.heap[g]? = some (.cells #[.slice p n c, .slice q m d] T (0, 0))) (o : Nat) (v : Value) : Ints (w.setCell ⟨g, o, none⟩ v) .i64 A l := by
  by_cases h0 : 0 < l.length
  · refine Row.other h (fun x hx e => ?_) v
    obtain ⟨b, o', hA, _, hc⟩ := h.open h0
    rw [hA] at hx
    cases hx
    have := hc 0 h0
    simp only at e
    rw [e, cell_at hg] at this
    rcases o' with _ | _ | o' <;> simp at this
  · have hl0 : l = [] := by cases l with | nil => rfl | cons _ _ => simp at h0
    rw [hl0]
    exact Row.nil _ _

set_option maxHeartbeats 2000000 in
theorem rApply_bad (v l : List Int) (a b : Option Addr) (c d : Nat) (kind n : Int) (w : World) (h : Ints w .i64 a v) (hl : v.length < 2^60) (h2 : Ints w .i64 b l) (hm : l.length < 2^60) (hk : checkB v l = false) :
    Calls Try.prog 27 #[.agg #[.slice a v.length c, .slice b l.length d], .agg #[.int .i64 kind, .int .i64 n]] w fun e w' => e = .returned (.tuple #[.agg #[.slice none 0 0, .slice none 0 0], .int .i64 140]) ∧ Below w.heap.size w w' := by
  have hb := bAlloc (bAlloc (bAlloc (Below.refl w.heap.size w) (.cells #[.slice a v.length c, .slice b l.length d] 39)) (.cells #[.int .i64 kind, .int .i64 n] 46)) (.cells #[.slice none 0 0, .slice none 0 0] 39)
  have K := rCheck_calls v l a b c d _ (h.below hb) hl (h2.below hb) hm
  rw [show checkE v l = 140 by simp [checkE, hk]] at K
  go_enter Try.func27, Try.ntmps27
  go_wp2_with fail
  refine (K).mono ?_
  rintro e w1 ⟨rfl, hb1⟩
  clear K
  have hs1 := hb1.size
  simp at hs1
  obtain ⟨hc, hf⟩ := bcell hb1
  have z1 : w.heap.size + 1 < w1.heap.size := by omega
  go_wp2
  refine bodyPost_ret (v := .tuple #[.agg #[.slice none 0 0, .slice none 0 0], .int .i64 140]) ?_ rfl ⟨rfl, ?_⟩
  · go_light
    simp [results, Try.results27, go_sem, hc]
  · go_light
    repeat (with_reducible refine Below.setCell ?_ (by simp; omega) _)
    exact bTrans hb hb1

/-- The world of a region of Apply: the boxes stand, the result's cell has slices. -/
def rApG (w : World) (v l : List Int) (a b : Option Addr) (c d : Nat) (kind n : Int) (W : World) : Prop :=
  Below w.heap.size w W ∧ W.heap[w.heap.size]? = some (.cells #[.slice a v.length c, .slice b l.length d] 39 (0, 0)) ∧ W.heap[w.heap.size + 1]? = some (.cells #[.int .i64 kind, .int .i64 n] 46 (0, 0)) ∧
    ∃ p q n0 m0 c0 d0, W.heap[w.heap.size + 2]? = some (.cells #[.slice p n0 c0, .slice q m0 d0] 39 (0, 0))
theorem rApG_below {w : World} {v l : List Int} {a b : Option Addr} {c d : Nat} {kind n : Int} {W W' : World} (h : rApG w v l a b c d kind n W) (hb : Below W.heap.size W W') : rApG w v l a b c d kind n W' := by
  obtain ⟨h1, h2, h3, p, q, n0, m0, c0, d0, h4⟩ := h
  exact ⟨bTrans h1 hb, keepH hb h2, keepH hb h3, p, q, n0, m0, c0, d0, keepH hb h4⟩

/-- What the operations of the first region leave. -/
def rAp6 (g : Nat) (v l : List Int) (a b : Option Addr) (c d : Nat) (n : Int) : Nat → Value → World → Prop
  | 0, x, _ => x = .pointer (some ⟨g, 0, none⟩)
  | 1, x, _ => x = .slice a v.length c
  | 2, x, _ => x = .pointer (some ⟨g, 1, none⟩)
  | 3, x, _ => x = .slice b l.length d
  | 4, x, _ => x = .pointer (some ⟨g + 1, 1, none⟩)
  | 5, x, _ => x = .int .i64 n
  | 6, x, W => ∃ A C acc, x = .slice A (List.length acc) C ∧ UpOf (l ++ [n]) acc ∧ Ints W .i64 A acc
  | 7, x, W => ∃ A C acc, x = .agg #[.slice a v.length c, .slice A (List.length acc) C] ∧ UpOf (l ++ [n]) acc ∧ Ints W .i64 A acc
  | 8, _, W => ∃ A C acc, W.heap[g + 2]? = some (.cells #[.slice a v.length c, .slice A (List.length acc) C] 39 (0, 0)) ∧ UpOf (l ++ [n]) acc ∧ Ints W .i64 A acc
  | 9, x, _ => x = .int .i64 0
  | _, _, _ => True
theorem rAp6_below {g : Nat} {v l : List Int} {a b : Option Addr} {c d : Nat} {n : Int} (j : Nat) (x : Value) {W W' : World} (hb : Below W.heap.size W W') (h : rAp6 g v l a b c d n j x W) : rAp6 g v l a b c d n j x W' := by
  match j, h with
  | 0, h => exact h
  | 1, h => exact h
  | 2, h => exact h
  | 3, h => exact h
  | 4, h => exact h
  | 5, h => exact h
  | 6, ⟨A, C, acc, e, h, i⟩ => exact ⟨A, C, acc, e, h, i.below hb⟩
  | 7, ⟨A, C, acc, e, h, i⟩ => exact ⟨A, C, acc, e, h, i.below hb⟩
  | 8, ⟨A, C, acc, e, h, i⟩ => exact ⟨A, C, acc, keepH hb e, h, i.below hb⟩
  | 9, h => exact h
  | _ + 10, _ => trivial
theorem ints_set2 {W : World} {A : Option Addr} {acc : List Int} {g : Nat} {p q p1 : Option Addr} {n0 m0 c0 d0 n1 c1 : Nat} {T : TypeId} (hg : W.heap[g]? = some (.cells #[.slice p n0 c0, .slice q m0 d0] T (0, 0))) (z : Value) (h : Ints W .i64 A acc) :
    Ints ((W.setCell ⟨g, 0, none⟩ (.slice p1 n1 c1)).setCell ⟨g, 1, none⟩ z) .i64 A acc :=
  (h.set_conf hg 0 _).set_conf (by rw [setCell_at hg]; rfl) 1 z
theorem heap_set2 {W : World} {g : Nat} {x y p q : Value} {T : TypeId} (hg : W.heap[g]? = some (.cells #[x, y] T (0, 0))) :
    ((W.setCell ⟨g, 0, none⟩ p).setCell ⟨g, 1, none⟩ q).heap[g]? = some (.cells #[p, q] T (0, 0)) := by
  rw [setCell_at (setCell_at hg 0 p) 1 q]; rfl
theorem heap_set2_other {W : World} {g k : Nat} (h : k ≠ g) (p q : Value) : ((W.setCell ⟨g, 0, none⟩ p).setCell ⟨g, 1, none⟩ q).heap[k]? = W.heap[k]? := by
  rw [Below.heap_setCell _ _ _ _ (fun e => h e), Below.heap_setCell _ _ _ _ (fun e => h e)]
theorem rAp6_set {g : Nat} {v l : List Int} {a b : Option Addr} {c d : Nat} {n : Int} (j : Nat) (x : Value) {W : World} {p q p1 : Option Addr} {n0 m0 c0 d0 n1 c1 : Nat} (hg : W.heap[g + 2]? = some (.cells #[.slice p n0 c0, .slice q m0 d0] 39 (0, 0))) (z : Value) (h : rAp6 g v l a b c d n j x W) (h8 : j ≠ 8) :
    rAp6 g v l a b c d n j x ((W.setCell ⟨g + 2, 0, none⟩ (.slice p1 n1 c1)).setCell ⟨g + 2, 1, none⟩ z) := by
  match j, h with
  | 0, h => exact h
  | 1, h => exact h
  | 2, h => exact h
  | 3, h => exact h
  | 4, h => exact h
  | 5, h => exact h
  | 6, ⟨A, C, acc, e, h, i⟩ => exact ⟨A, C, acc, e, h, ints_set2 hg z i⟩
  | 7, ⟨A, C, acc, e, h, i⟩ => exact ⟨A, C, acc, e, h, ints_set2 hg z i⟩
  | 8, _ => exact absurd rfl h8
  | 9, h => exact h
  | _ + 10, _ => trivial
theorem rApG_set {w : World} {v l : List Int} {a b : Option Addr} {c d : Nat} {kind n : Int} {W : World} {p q p1 q1 : Option Addr} {n0 m0 c0 d0 n1 c1 m1 d1 : Nat} (h : rApG w v l a b c d kind n W) (hg : W.heap[w.heap.size + 2]? = some (.cells #[.slice p n0 c0, .slice q m0 d0] 39 (0, 0))) :
    rApG w v l a b c d kind n ((W.setCell ⟨w.heap.size + 2, 0, none⟩ (.slice p1 n1 c1)).setCell ⟨w.heap.size + 2, 1, none⟩ (.slice q1 m1 d1)) := by
  obtain ⟨h1, h2, h3, _⟩ := h
  refine ⟨Below.setCell (Below.setCell h1 (by simp) _) (by simp) _, ?_, ?_, p1, q1, n1, m1, c1, d1, heap_set2 hg⟩
  · rw [heap_set2_other (by omega)]; exact h2
  · rw [heap_set2_other (by omega)]; exact h3

/-- What the operations of the other two regions leave: P says what the voters are then. -/
def rAp8 (g : Nat) (v l : List Int) (a b : Option Addr) (c d : Nat) (n : Int) (P : List Int → Prop) : Nat → Value → World → Prop
  | 0, x, _ => x = .pointer (some ⟨g, 0, none⟩)
  | 1, x, _ => x = .slice a v.length c
  | 2, x, _ => x = .pointer (some ⟨g + 1, 1, none⟩)
  | 3, x, _ => x = .int .i64 n
  | 4, x, W => ∃ A C acc, x = .slice A (List.length acc) C ∧ P acc ∧ Ints W .i64 A acc
  | 5, x, _ => x = .pointer (some ⟨g, 1, none⟩)
  | 6, x, _ => x = .slice b l.length d
  | 7, x, _ => x = .pointer (some ⟨g + 1, 1, none⟩)
  | 8, x, _ => x = .int .i64 n
  | 9, x, W => ∃ A C, x = .slice A (lessL l n).length C ∧ Ints W .i64 A (lessL l n)
  | 10, x, W => ∃ A C acc B D, x = .agg #[.slice A (List.length acc) C, .slice B (lessL l n).length D] ∧ P acc ∧ Ints W .i64 A acc ∧ Ints W .i64 B (lessL l n)
  | 11, _, W => ∃ A C acc B D, W.heap[g + 2]? = some (.cells #[.slice A (List.length acc) C, .slice B (lessL l n).length D] 39 (0, 0)) ∧ P acc ∧ Ints W .i64 A acc ∧ Ints W .i64 B (lessL l n)
  | 12, x, _ => x = .int .i64 0
  | _, _, _ => True
theorem rAp8_below {g : Nat} {v l : List Int} {a b : Option Addr} {c d : Nat} {n : Int} {P : List Int → Prop} (j : Nat) (x : Value) {W W' : World} (hb : Below W.heap.size W W') (h : rAp8 g v l a b c d n P j x W) : rAp8 g v l a b c d n P j x W' := by
  match j, h with
  | 0, h => exact h
  | 1, h => exact h
  | 2, h => exact h
  | 3, h => exact h
  | 4, ⟨A, C, acc, e, h, i⟩ => exact ⟨A, C, acc, e, h, i.below hb⟩
  | 5, h => exact h
  | 6, h => exact h
  | 7, h => exact h
  | 8, h => exact h
  | 9, ⟨A, C, e, i⟩ => exact ⟨A, C, e, i.below hb⟩
  | 10, ⟨A, C, acc, B, D, e, h, i, k⟩ => exact ⟨A, C, acc, B, D, e, h, i.below hb, k.below hb⟩
  | 11, ⟨A, C, acc, B, D, e, h, i, k⟩ => exact ⟨A, C, acc, B, D, keepH hb e, h, i.below hb, k.below hb⟩
  | 12, h => exact h
  | _ + 13, _ => trivial
theorem rAp8_set {g : Nat} {v l : List Int} {a b : Option Addr} {c d : Nat} {n : Int} {P : List Int → Prop} (j : Nat) (x : Value) {W : World} {p q p1 : Option Addr} {n0 m0 c0 d0 n1 c1 : Nat} (hg : W.heap[g + 2]? = some (.cells #[.slice p n0 c0, .slice q m0 d0] 39 (0, 0))) (z : Value) (h : rAp8 g v l a b c d n P j x W) (h8 : j ≠ 11) :
    rAp8 g v l a b c d n P j x ((W.setCell ⟨g + 2, 0, none⟩ (.slice p1 n1 c1)).setCell ⟨g + 2, 1, none⟩ z) := by
  match j, h with
  | 0, h => exact h
  | 1, h => exact h
  | 2, h => exact h
  | 3, h => exact h
  | 4, ⟨A, C, acc, e, h, i⟩ => exact ⟨A, C, acc, e, h, ints_set2 hg z i⟩
  | 5, h => exact h
  | 6, h => exact h
  | 7, h => exact h
  | 8, h => exact h
  | 9, ⟨A, C, e, i⟩ => exact ⟨A, C, e, ints_set2 hg z i⟩
  | 10, ⟨A, C, acc, B, D, e, h, i, k⟩ => exact ⟨A, C, acc, B, D, e, h, ints_set2 hg z i, ints_set2 hg z k⟩
  | 11, _ => exact absurd rfl h8
  | 12, h => exact h
  | _ + 13, _ => trivial

set_option maxRecDepth 100000 in
set_option maxHeartbeats 16000000 in
theorem rApply_go (v l : List Int) (a b : Option Addr) (c d : Nat) (kind n : Int) (w : World) (h : Ints w .i64 a v) (h2 : Ints w .i64 b l) (hk : checkB v l = true) :
    Calls Try.prog 27 #[.agg #[.slice a v.length c, .slice b l.length d], .agg #[.int .i64 kind, .int .i64 n]] w (ApplyPost v l kind n w) := by
  obtain ⟨hne, hr1, hr2, _⟩ := check_parts hk
  have s1 := rises_small hr1
  have s2 := rises_small hr2
  have l1 := s1.1
  have l2 := s2.1
  have hin : thereB v l n = true → 0 ≤ n ∧ n < 8 := by
    intro h
    unfold thereB at h
    simp only [Bool.or_eq_true, decide_eq_true_eq] at h
    rcases h with h | h
    · obtain ⟨i, hi, rfl⟩ := List.mem_iff_getElem.1 h; exact s1.2 i hi
    · obtain ⟨i, hi, rfl⟩ := List.mem_iff_getElem.1 h; exact s2.2 i hi
  have hpos : 0 < v.length := List.length_pos_iff.2 hne
  have hb := bAlloc (bAlloc (bAlloc (Below.refl w.heap.size w) (.cells #[.slice a v.length c, .slice b l.length d] 39)) (.cells #[.int .i64 kind, .int .i64 n] 46)) (.cells #[.slice none 0 0, .slice none 0 0] 39)
  have K := rCheck_calls v l a b c d _ (h.below hb) (by omega) (h2.below hb) (by omega)
  rw [check_zero.2 hk] at K
  have KH := fun w' h' h'' => rHas_calls v l a b c d n w' h' (by omega) h'' (by omega)
  have KV := fun w' h' => rVotes_calls v l a b c d n w' h' (by omega)
  go_enter Try.func27, Try.ntmps27
  go_wp2_with fail
  refine (K).mono ?_
  rintro e w1 ⟨rfl, hb1⟩
  clear K
  have x0 := keepH hb1 (heap3_0 w (.cells #[.slice a v.length c, .slice b l.length d] 39) (.cells #[.int .i64 kind, .int .i64 n] 46) (.cells #[.slice none 0 0, .slice none 0 0] 39))
  have x1 := keepH hb1 (heap3_1 w (.cells #[.slice a v.length c, .slice b l.length d] 39) (.cells #[.int .i64 kind, .int .i64 n] 46) (.cells #[.slice none 0 0, .slice none 0 0] 39))
  have x2 := keepH hb1 (heap3_2 w (.cells #[.slice a v.length c, .slice b l.length d] 39) (.cells #[.int .i64 kind, .int .i64 n] 46) (.cells #[.slice none 0 0, .slice none 0 0] 39))
  have y0 : w1.cell? ⟨w.heap.size, 0, none⟩ = some (.slice a v.length c) := by rw [cell_at x0]; rfl
  have y1 : w1.cell? ⟨w.heap.size, 1, none⟩ = some (.slice b l.length d) := by rw [cell_at x0]; rfl
  have z2 : w1.cell? ⟨w.heap.size + 1, 0, none⟩ = some (.int .i64 kind) := by rw [cell_at x1]; rfl
  have z3 : w1.cell? ⟨w.heap.size + 1, 1, none⟩ = some (.int .i64 n) := by rw [cell_at x1]; rfl
  (replace hb := bTrans hb hb1)
  clear hb1
  go_wp2_with fail
  refine (KH _ (h.below hb) (h2.below hb)).mono ?_
  rintro e w2 ⟨rfl, hb2⟩
  (replace y0 := keepC hb2 y0; replace y1 := keepC hb2 y1; replace z2 := keepC hb2 z2; replace z3 := keepC hb2 z3; replace x0 := keepH hb2 x0; replace x1 := keepH hb2 x1; replace x2 := keepH hb2 x2; replace hb := bTrans hb hb2)
  clear KH hb2
  go_wp2_with fail
  refine (KV _ (h.below hb)).mono ?_
  rintro e w3 ⟨rfl, hb3⟩
  (replace y0 := keepC hb3 y0; replace y1 := keepC hb3 y1; replace z2 := keepC hb3 z2; replace z3 := keepC hb3 z3; replace x0 := keepH hb3 x0; replace x1 := keepH hb3 x1; replace x2 := keepH hb3 x2; replace hb := bTrans hb hb3)
  clear KV hb3
  have t0 : w3.cell? ⟨w.heap.size + 1 + 1, 0, none⟩ = some (.slice none 0 0) := by rw [cell_at x2]; rfl
  have t1 : w3.cell? ⟨w.heap.size + 1 + 1, 1, none⟩ = some (.slice none 0 0) := by rw [cell_at x2]; rfl
  have tf : ∀ o, w3.frozen? ⟨w.heap.size + 1 + 1, o, none⟩ = false := fun o => frozen_at x2 o
  have hR := Lib.hid (show applyR v l kind n = (if kind = 1 ∧ 0 ≤ n ∧ n < 8 ∧ thereB v l n = false then some (setList (memF v), setList (updF (memF l) n.toNat true))
      else if kind = 2 ∧ thereB v l n = true ∧ decide (n ∈ v) = false then some (setList (updF (memF v) n.toNat true), setList (updF (memF l) n.toNat false))
      else if kind = 3 ∧ thereB v l n = true ∧ ¬(v.length = 1 ∧ decide (n ∈ v) = true) then some (setList (updF (memF v) n.toNat false), setList (updF (memF l) n.toNat false))
      else none) from rfl)
  have G0 : rApG w v l a b c d kind n w3 := ⟨hb, x0, x1, _, _, _, _, _, _, x2⟩
  rw [show (decide (n ∈ v) || decide (n ∈ l)) = thereB v l n from rfl]
  generalize decide (n ∈ v) = vt at *
  generalize thereB v l n = hs at *
  have HIN := Lib.hid hin
  have HG := Lib.hid G0
  clear hin G0 x0 x1 hk
  by_cases k1 : kind = 1
  · subst k1
    cases hs
    · by_cases n0 : 0 ≤ n
      · by_cases n7 : n ≤ 7
        · have HN := Lib.hid (show applyR v l 1 n = some (setList (memF v), setList (updF (memF l) n.toNat true)) by rw [hR.out, if_pos ⟨rfl, n0, by omega, rfl⟩])
          go_wp2_with fail
          clear t0 t1 tf x2 y0 y1 z2 z3
          refine wp_region_res (by kernel_rfl) (rApG w v l a b c d 1 n) (rAp6 w.heap.size v l a b c d n) (fun _ => none) (by decide) (by decide) (rApG_below HG.out (bDrew (Below.refl _ _))) ?hst ?hend
          case hst =>
            iterate 10 (with_reducible refine resSteps_cons ?_ ?_; rotate_left)
            · exact resSteps_nil
            · intro u W hG hd K hK
              have HK := Lib.hid hK
              clear hK hd
              refine ⟨?_⟩
              simp only [slotsOf_some, slotsOf_none, slotsOf_nil, puts_cons, puts_nil, Nat.zero_add, Nat.reduceAdd]
              go_simp
              exact HK.out _ _ _ (by simp [slotsOf_some, slotsOf_none, slotsOf_nil, puts_cons, puts_nil, Act.put, -Function.const_apply]) hG rfl (fun j _ _ _ _ h => h)
            · intro u W hG hd K hK
              have r0 : u 0 = .pointer (some ⟨w.heap.size, 0, none⟩) := hd 0 (by decide) (.inl rfl)
              have hc : W.cell? ⟨w.heap.size, 0, none⟩ = some (.slice a v.length c) := by rw [cell_at hG.2.1]; rfl
              have HK := Lib.hid hK
              clear hK hd
              refine ⟨?_⟩
              simp only [slotsOf_some, slotsOf_none, slotsOf_nil, puts_cons, puts_nil, Nat.zero_add, Nat.reduceAdd]
              go_simp
              exact HK.out _ _ _ (by simp [slotsOf_some, slotsOf_none, slotsOf_nil, puts_cons, puts_nil, Act.put, r0]) hG rfl (fun j _ _ _ _ h => h)
            · intro u W hG hd K hK
              have HK := Lib.hid hK
              clear hK hd
              refine ⟨?_⟩
              simp only [slotsOf_some, slotsOf_none, slotsOf_nil, puts_cons, puts_nil, Nat.zero_add, Nat.reduceAdd]
              go_simp
              exact HK.out _ _ _ (by simp [slotsOf_some, slotsOf_none, slotsOf_nil, puts_cons, puts_nil, Act.put, -Function.const_apply]) hG rfl (fun j _ _ _ _ h => h)
            · intro u W hG hd K hK
              have r0 : u 2 = .pointer (some ⟨w.heap.size, 1, none⟩) := hd 2 (by decide) (.inl rfl)
              have hc : W.cell? ⟨w.heap.size, 1, none⟩ = some (.slice b l.length d) := by rw [cell_at hG.2.1]; rfl
              have HK := Lib.hid hK
              clear hK hd
              refine ⟨?_⟩
              simp only [slotsOf_some, slotsOf_none, slotsOf_nil, puts_cons, puts_nil, Nat.zero_add, Nat.reduceAdd]
              go_simp
              exact HK.out _ _ _ (by simp [slotsOf_some, slotsOf_none, slotsOf_nil, puts_cons, puts_nil, Act.put, r0]) hG rfl (fun j _ _ _ _ h => h)
            · intro u W hG hd K hK
              have HK := Lib.hid hK
              clear hK hd
              refine ⟨?_⟩
              simp only [slotsOf_some, slotsOf_none, slotsOf_nil, puts_cons, puts_nil, Nat.zero_add, Nat.reduceAdd]
              go_simp
              exact HK.out _ _ _ (by simp [slotsOf_some, slotsOf_none, slotsOf_nil, puts_cons, puts_nil, Act.put, -Function.const_apply]) hG rfl (fun j _ _ _ _ h => h)
            · intro u W hG hd K hK
              have r0 : u 4 = .pointer (some ⟨w.heap.size + 1, 1, none⟩) := hd 4 (by decide) (.inl rfl)
              have hc : W.cell? ⟨w.heap.size + 1, 1, none⟩ = some (.int .i64 n) := by rw [cell_at hG.2.2.1]; rfl
              have HK := Lib.hid hK
              clear hK hd
              refine ⟨?_⟩
              simp only [slotsOf_some, slotsOf_none, slotsOf_nil, puts_cons, puts_nil, Nat.zero_add, Nat.reduceAdd]
              go_simp
              exact HK.out _ _ _ (by simp [slotsOf_some, slotsOf_none, slotsOf_nil, puts_cons, puts_nil, Act.put, r0]) hG rfl (fun j _ _ _ _ h => h)
            · intro u W hG hd K hK
              have r3 : u 3 = .slice b l.length d := hd 3 (by decide) (.inl rfl)
              have r5 : u 5 = .int .i64 n := hd 5 (by decide) (.inl rfl)
              have HK := Lib.hid hK
              clear hK hd
              refine ⟨?_⟩
              simp only [slotsOf_some, slotsOf_none, slotsOf_nil, puts_cons, puts_nil, Nat.zero_add, Nat.reduceAdd]
              go_simp
              refine (with_calls14 l b d n W (h2.below hG.1) (by omega)).mono ?_
              rintro e w' ⟨A, C, acc, rfl, hU, hi, hb'⟩
              exact HK.out _ _ _ (by simp [slotsOf_some, slotsOf_none, slotsOf_nil, puts_cons, puts_nil, Act.put, r3, r5]) (rApG_below hG hb') ⟨A, C, acc, rfl, hU, hi⟩ (fun j _ _ _ _ h => rAp6_below j _ hb' h)
            · intro u W hG hd K hK
              have r1 : u 1 = .slice a v.length c := hd 1 (by decide) (.inl rfl)
              obtain ⟨A, C, acc, r6, hU, hi⟩ : ∃ A C acc, u 6 = .slice A (List.length acc) C ∧ UpOf (l ++ [n]) acc ∧ Ints W .i64 A acc := hd 6 (by decide) (.inl rfl)
              have HK := Lib.hid hK
              clear hK hd
              refine ⟨?_⟩
              simp only [slotsOf_some, slotsOf_none, slotsOf_nil, puts_cons, puts_nil, Nat.zero_add, Nat.reduceAdd]
              go_simp
              exact HK.out _ _ _ (by simp [slotsOf_some, slotsOf_none, slotsOf_nil, puts_cons, puts_nil, Act.put, r1, r6]) hG ⟨A, C, acc, rfl, hU, hi⟩ (fun j _ _ _ _ h => h)
            · intro u W hG hd K hK
              obtain ⟨A, C, acc, r7, hU, hi⟩ : ∃ A C acc, u 7 = .agg #[.slice a v.length c, .slice A (List.length acc) C] ∧ UpOf (l ++ [n]) acc ∧ Ints W .i64 A acc := hd 7 (by decide) (.inl rfl)
              have hx' := hG.2.2.2
              have HK := Lib.hid hK
              clear hK hd
              obtain ⟨p, q, n0', m0, c0, d0, hx⟩ := hx'
              have t0 : W.cell? ⟨w.heap.size + 1 + 1, 0, none⟩ = some (.slice p n0' c0) := by rw [cell_at hx]; rfl
              have t1 : W.cell? ⟨w.heap.size + 1 + 1, 1, none⟩ = some (.slice q m0 d0) := by rw [cell_at hx]; rfl
              have tf : ∀ o, W.frozen? ⟨w.heap.size + 1 + 1, o, none⟩ = false := fun o => frozen_at hx o
              have HX := Lib.hid hx
              clear hx
              refine ⟨?_⟩
              simp only [slotsOf_some, slotsOf_none, slotsOf_nil, puts_cons, puts_nil, Nat.zero_add, Nat.reduceAdd]
              go_simp
              have hx := HX.out
              exact HK.out undef _ _ (by simp [slotsOf_some, slotsOf_none, slotsOf_nil, puts_cons, puts_nil, Act.put, r7]) (rApG_set hG hx) ⟨A, C, acc, heap_set2 hx, hU, ints_set2 hx _ hi⟩ (fun j hj _ _ _ h => rAp6_set j _ hx _ h hj)
            · intro u W hG hd K hK
              have HK := Lib.hid hK
              clear hK hd
              refine ⟨?_⟩
              simp only [slotsOf_some, slotsOf_none, slotsOf_nil, puts_cons, puts_nil, Nat.zero_add, Nat.reduceAdd]
              go_simp
              exact HK.out _ _ _ (by simp [slotsOf_some, slotsOf_none, slotsOf_nil, puts_cons, puts_nil, Act.put, -Function.const_apply]) hG rfl (fun j _ _ _ _ h => h)
          case hend =>
            intro u W hG hR'
            obtain ⟨A, C, acc, hx, hU, hi⟩ : ∃ A C acc, W.heap[w.heap.size + 2]? = some (.cells #[.slice a v.length c, .slice A (List.length acc) C] 39 (0, 0)) ∧ UpOf (l ++ [n]) acc ∧ Ints W .i64 A acc := hR' 8 (by decide) rfl
            have r9 : u 9 = .int .i64 0 := hR' 9 (by decide) rfl
            have t0 : W.cell? ⟨w.heap.size + 1 + 1, 0, none⟩ = some (.slice a v.length c) := by rw [cell_at hx]; rfl
            have t1 : W.cell? ⟨w.heap.size + 1 + 1, 1, none⟩ = some (.slice A acc.length C) := by rw [cell_at hx]; rfl
            have hbW := hG.1
            have e1 := upOf_with hr2 n0 (by omega) hU
            have e2 := setList_memF hr1
            have hi1 := h.below hbW
            clear hR' hG hx
            simp only [slotsOf_some, slotsOf_none, slotsOf_nil, puts_cons, puts_nil, Nat.zero_add, Nat.reduceAdd]
            go_wp2
            refine bodyPost_ret (v := .tuple #[.agg #[.slice a v.length c, .slice A acc.length C], .int .i64 0]) ?_ rfl ⟨?_, (fun h => by rw [HN.out] at h; cases h), fun v' l' h => ?_⟩
            · go_light
              simp [results, Try.results27, go_sem, t0, t1, r9]
            · go_light
              exact hbW
            · rw [HN.out] at h
              cases h
              rw [← e1, e2]
              exact ⟨a, c, A, C, rfl, hi1, hi⟩
        · have HN := Lib.hid (show applyR v l 1 n = none by rw [hR.out, if_neg (by omega), if_neg (by omega), if_neg (by omega)])
          go_wp2
          refine bodyPost_ret (v := .tuple #[.agg #[.slice none 0 0, .slice none 0 0], .int .i64 141]) ?_ rfl ⟨?_, fun _ => rfl, fun v' l' h => by rw [HN.out] at h; cases h⟩
          · go_light
            simp [results, Try.results27, go_sem, t0, t1, tf]
          · go_light
            (repeat (with_reducible refine Below.setCell ?_ (by simp; omega) _))
            exact hb
      · have HN := Lib.hid (show applyR v l 1 n = none by rw [hR.out, if_neg (by omega), if_neg (by omega), if_neg (by omega)])
        go_wp2
        refine bodyPost_ret (v := .tuple #[.agg #[.slice none 0 0, .slice none 0 0], .int .i64 141]) ?_ rfl ⟨?_, fun _ => rfl, fun v' l' h => by rw [HN.out] at h; cases h⟩
        · go_light
          simp [results, Try.results27, go_sem, t0, t1, tf]
        · go_light
          (repeat (with_reducible refine Below.setCell ?_ (by simp; omega) _))
          exact hb
    · have HN := Lib.hid (show applyR v l 1 n = none by rw [hR.out, if_neg (by simp), if_neg (by omega), if_neg (by omega)])
      go_wp2
      refine bodyPost_ret (v := .tuple #[.agg #[.slice none 0 0, .slice none 0 0], .int .i64 141]) ?_ rfl ⟨?_, fun _ => rfl, fun v' l' h => by rw [HN.out] at h; cases h⟩
      · go_light
        simp [results, Try.results27, go_sem, t0, t1, tf]
      · go_light
        (repeat (with_reducible refine Below.setCell ?_ (by simp; omega) _))
        exact hb
  · by_cases k2 : kind = 2
    · subst k2
      cases hs
      · have HN := Lib.hid (show applyR v l 2 n = none by rw [hR.out, if_neg (by omega), if_neg (by simp), if_neg (by omega)])
        go_wp2
        refine bodyPost_ret (v := .tuple #[.agg #[.slice none 0 0, .slice none 0 0], .int .i64 141]) ?_ rfl ⟨?_, fun _ => rfl, fun v' l' h => by rw [HN.out] at h; cases h⟩
        · go_light
          simp [results, Try.results27, go_sem, t0, t1, tf]
        · go_light
          (repeat (with_reducible refine Below.setCell ?_ (by simp; omega) _))
          exact hb
      · cases vt
        · have HN := Lib.hid (show applyR v l 2 n = some (setList (updF (memF v) n.toNat true), setList (updF (memF l) n.toNat false)) by rw [hR.out, if_neg (by simp), if_pos ⟨rfl, rfl, rfl⟩])
          obtain ⟨n0, n8⟩ := HIN.out rfl
          go_wp2_with fail
          clear t0 t1 tf x2 y0 y1 z2 z3
          refine wp_region_res (by kernel_rfl) (rApG w v l a b c d 2 n) (rAp8 w.heap.size v l a b c d n (fun acc => UpOf (v ++ [n]) acc)) (fun _ => none) (by decide) (by decide) (rApG_below HG.out (bDrew (Below.refl _ _))) ?hst ?hend
          case hst =>
            iterate 13 (with_reducible refine resSteps_cons ?_ ?_; rotate_left)
            · exact resSteps_nil
            · intro u W hG hd K hK
              have HK := Lib.hid hK
              clear hK hd
              refine ⟨?_⟩
              simp only [slotsOf_some, slotsOf_none, slotsOf_nil, puts_cons, puts_nil, Nat.zero_add, Nat.reduceAdd]
              go_simp
              exact HK.out _ _ _ (by simp [slotsOf_some, slotsOf_none, slotsOf_nil, puts_cons, puts_nil, Act.put, -Function.const_apply]) hG rfl (fun j _ _ _ _ h => h)
            · intro u W hG hd K hK
              have r0 : u 0 = .pointer (some ⟨w.heap.size, 0, none⟩) := hd 0 (by decide) (.inl rfl)
              have hc : W.cell? ⟨w.heap.size, 0, none⟩ = some (.slice a v.length c) := by rw [cell_at hG.2.1]; rfl
              have HK := Lib.hid hK
              clear hK hd
              refine ⟨?_⟩
              simp only [slotsOf_some, slotsOf_none, slotsOf_nil, puts_cons, puts_nil, Nat.zero_add, Nat.reduceAdd]
              go_simp
              exact HK.out _ _ _ (by simp [slotsOf_some, slotsOf_none, slotsOf_nil, puts_cons, puts_nil, Act.put, r0]) hG rfl (fun j _ _ _ _ h => h)
            · intro u W hG hd K hK
              have HK := Lib.hid hK
              clear hK hd
              refine ⟨?_⟩
              simp only [slotsOf_some, slotsOf_none, slotsOf_nil, puts_cons, puts_nil, Nat.zero_add, Nat.reduceAdd]
              go_simp
              exact HK.out _ _ _ (by simp [slotsOf_some, slotsOf_none, slotsOf_nil, puts_cons, puts_nil, Act.put, -Function.const_apply]) hG rfl (fun j _ _ _ _ h => h)
            · intro u W hG hd K hK
              have r0 : u 2 = .pointer (some ⟨w.heap.size + 1, 1, none⟩) := hd 2 (by decide) (.inl rfl)
              have hc : W.cell? ⟨w.heap.size + 1, 1, none⟩ = some (.int .i64 n) := by rw [cell_at hG.2.2.1]; rfl
              have HK := Lib.hid hK
              clear hK hd
              refine ⟨?_⟩
              simp only [slotsOf_some, slotsOf_none, slotsOf_nil, puts_cons, puts_nil, Nat.zero_add, Nat.reduceAdd]
              go_simp
              exact HK.out _ _ _ (by simp [slotsOf_some, slotsOf_none, slotsOf_nil, puts_cons, puts_nil, Act.put, r0]) hG rfl (fun j _ _ _ _ h => h)
            · intro u W hG hd K hK
              have r3 : u 1 = .slice a v.length c := hd 1 (by decide) (.inl rfl)
              have r5 : u 3 = .int .i64 n := hd 3 (by decide) (.inl rfl)
              have HK := Lib.hid hK
              clear hK hd
              refine ⟨?_⟩
              simp only [slotsOf_some, slotsOf_none, slotsOf_nil, puts_cons, puts_nil, Nat.zero_add, Nat.reduceAdd]
              go_simp
              refine (with_calls14 v a c n W (h.below hG.1) (by omega)).mono ?_
              rintro e w' ⟨A, C, acc, rfl, hU, hi, hb'⟩
              exact HK.out _ _ _ (by simp [slotsOf_some, slotsOf_none, slotsOf_nil, puts_cons, puts_nil, Act.put, r3, r5]) (rApG_below hG hb') ⟨A, C, acc, rfl, hU, hi⟩ (fun j _ _ _ _ h => rAp8_below j _ hb' h)
            · intro u W hG hd K hK
              have HK := Lib.hid hK
              clear hK hd
              refine ⟨?_⟩
              simp only [slotsOf_some, slotsOf_none, slotsOf_nil, puts_cons, puts_nil, Nat.zero_add, Nat.reduceAdd]
              go_simp
              exact HK.out _ _ _ (by simp [slotsOf_some, slotsOf_none, slotsOf_nil, puts_cons, puts_nil, Act.put, -Function.const_apply]) hG rfl (fun j _ _ _ _ h => h)
            · intro u W hG hd K hK
              have r0 : u 5 = .pointer (some ⟨w.heap.size, 1, none⟩) := hd 5 (by decide) (.inl rfl)
              have hc : W.cell? ⟨w.heap.size, 1, none⟩ = some (.slice b l.length d) := by rw [cell_at hG.2.1]; rfl
              have HK := Lib.hid hK
              clear hK hd
              refine ⟨?_⟩
              simp only [slotsOf_some, slotsOf_none, slotsOf_nil, puts_cons, puts_nil, Nat.zero_add, Nat.reduceAdd]
              go_simp
              exact HK.out _ _ _ (by simp [slotsOf_some, slotsOf_none, slotsOf_nil, puts_cons, puts_nil, Act.put, r0]) hG rfl (fun j _ _ _ _ h => h)
            · intro u W hG hd K hK
              have HK := Lib.hid hK
              clear hK hd
              refine ⟨?_⟩
              simp only [slotsOf_some, slotsOf_none, slotsOf_nil, puts_cons, puts_nil, Nat.zero_add, Nat.reduceAdd]
              go_simp
              exact HK.out _ _ _ (by simp [slotsOf_some, slotsOf_none, slotsOf_nil, puts_cons, puts_nil, Act.put, -Function.const_apply]) hG rfl (fun j _ _ _ _ h => h)
            · intro u W hG hd K hK
              have r0 : u 7 = .pointer (some ⟨w.heap.size + 1, 1, none⟩) := hd 7 (by decide) (.inl rfl)
              have hc : W.cell? ⟨w.heap.size + 1, 1, none⟩ = some (.int .i64 n) := by rw [cell_at hG.2.2.1]; rfl
              have HK := Lib.hid hK
              clear hK hd
              refine ⟨?_⟩
              simp only [slotsOf_some, slotsOf_none, slotsOf_nil, puts_cons, puts_nil, Nat.zero_add, Nat.reduceAdd]
              go_simp
              exact HK.out _ _ _ (by simp [slotsOf_some, slotsOf_none, slotsOf_nil, puts_cons, puts_nil, Act.put, r0]) hG rfl (fun j _ _ _ _ h => h)
            · intro u W hG hd K hK
              have r3 : u 6 = .slice b l.length d := hd 6 (by decide) (.inl rfl)
              have r5 : u 8 = .int .i64 n := hd 8 (by decide) (.inl rfl)
              have HK := Lib.hid hK
              clear hK hd
              refine ⟨?_⟩
              simp only [slotsOf_some, slotsOf_none, slotsOf_nil, puts_cons, puts_nil, Nat.zero_add, Nat.reduceAdd]
              go_simp
              refine (without_calls l b d n W (h2.below hG.1) (by omega)).mono ?_
              rintro e w' ⟨A, C, rfl, hi, hb'⟩
              exact HK.out _ _ _ (by simp [slotsOf_some, slotsOf_none, slotsOf_nil, puts_cons, puts_nil, Act.put, r3, r5]) (rApG_below hG hb') ⟨A, C, rfl, hi⟩ (fun j _ _ _ _ h => rAp8_below j _ hb' h)
            · intro u W hG hd K hK
              obtain ⟨A, C, acc, r4, hU, hi⟩ : ∃ A C acc, u 4 = .slice A (List.length acc) C ∧ (fun acc => UpOf (v ++ [n]) acc) acc ∧ Ints W .i64 A acc := hd 4 (by decide) (.inl rfl)
              obtain ⟨B, D, r9, hj⟩ : ∃ A C, u 9 = .slice A (lessL l n).length C ∧ Ints W .i64 A (lessL l n) := hd 9 (by decide) (.inl rfl)
              have HU := Lib.hid hU
              clear hU
              have HK := Lib.hid hK
              clear hK hd
              refine ⟨?_⟩
              simp only [slotsOf_some, slotsOf_none, slotsOf_nil, puts_cons, puts_nil, Nat.zero_add, Nat.reduceAdd]
              go_simp
              exact HK.out _ _ _ (by simp [slotsOf_some, slotsOf_none, slotsOf_nil, puts_cons, puts_nil, Act.put, r4, r9]) hG ⟨A, C, acc, B, D, rfl, HU.out, hi, hj⟩ (fun j _ _ _ _ h => h)
            · intro u W hG hd K hK
              obtain ⟨A, C, acc, B, D, r10, hU, hi, hj⟩ : ∃ A C acc B D, u 10 = .agg #[.slice A (List.length acc) C, .slice B (lessL l n).length D] ∧ (fun acc => UpOf (v ++ [n]) acc) acc ∧ Ints W .i64 A acc ∧ Ints W .i64 B (lessL l n) := hd 10 (by decide) (.inl rfl)
              have HU := Lib.hid hU
              clear hU
              have hx' := hG.2.2.2
              have HK := Lib.hid hK
              clear hK hd
              obtain ⟨p, q, n0', m0, c0, d0, hx⟩ := hx'
              have t0 : W.cell? ⟨w.heap.size + 1 + 1, 0, none⟩ = some (.slice p n0' c0) := by rw [cell_at hx]; rfl
              have t1 : W.cell? ⟨w.heap.size + 1 + 1, 1, none⟩ = some (.slice q m0 d0) := by rw [cell_at hx]; rfl
              have tf : ∀ o, W.frozen? ⟨w.heap.size + 1 + 1, o, none⟩ = false := fun o => frozen_at hx o
              have HX := Lib.hid hx
              clear hx
              refine ⟨?_⟩
              simp only [slotsOf_some, slotsOf_none, slotsOf_nil, puts_cons, puts_nil, Nat.zero_add, Nat.reduceAdd]
              go_simp
              have hx := HX.out
              exact HK.out undef _ _ (by simp [slotsOf_some, slotsOf_none, slotsOf_nil, puts_cons, puts_nil, Act.put, r10]) (rApG_set hG hx) ⟨A, C, acc, B, D, heap_set2 hx, HU.out, ints_set2 hx _ hi, ints_set2 hx _ hj⟩ (fun j hj' _ _ _ h => rAp8_set j _ hx _ h hj')
            · intro u W hG hd K hK
              have HK := Lib.hid hK
              clear hK hd
              refine ⟨?_⟩
              simp only [slotsOf_some, slotsOf_none, slotsOf_nil, puts_cons, puts_nil, Nat.zero_add, Nat.reduceAdd]
              go_simp
              exact HK.out _ _ _ (by simp [slotsOf_some, slotsOf_none, slotsOf_nil, puts_cons, puts_nil, Act.put, -Function.const_apply]) hG rfl (fun j _ _ _ _ h => h)
          case hend =>
            intro u W hG hR'
            obtain ⟨A, C, acc, B, D, hx, hU, hi, hj⟩ : ∃ A C acc B D, W.heap[w.heap.size + 2]? = some (.cells #[.slice A (List.length acc) C, .slice B (lessL l n).length D] 39 (0, 0)) ∧ (fun acc => UpOf (v ++ [n]) acc) acc ∧ Ints W .i64 A acc ∧ Ints W .i64 B (lessL l n) := hR' 11 (by decide) rfl
            have r9 : u 12 = .int .i64 0 := hR' 12 (by decide) rfl
            have t0 : W.cell? ⟨w.heap.size + 1 + 1, 0, none⟩ = some (.slice A acc.length C) := by rw [cell_at hx]; rfl
            have t1 : W.cell? ⟨w.heap.size + 1 + 1, 1, none⟩ = some (.slice B (lessL l n).length D) := by rw [cell_at hx]; rfl
            have hbW := hG.1
            have e1 : acc = setList (updF (memF v) n.toNat true) := upOf_with hr1 n0 n8 hU
            have e2 := lessL_set hr2 n0
            have E12 := Lib.hid (And.intro e1 e2)
            clear e1 e2 hR' hG hx hU
            simp only [slotsOf_some, slotsOf_none, slotsOf_nil, puts_cons, puts_nil, Nat.zero_add, Nat.reduceAdd]
            go_wp2
            refine bodyPost_ret (v := .tuple #[.agg #[.slice A acc.length C, .slice B (lessL l n).length D], .int .i64 0]) ?_ rfl ⟨?_, (fun h => by rw [HN.out] at h; cases h), fun v' l' h => ?_⟩
            · go_light
              simp [results, Try.results27, go_sem, t0, t1, r9]
            · go_light
              exact hbW
            · obtain ⟨e1, e2⟩ := E12.out
              rw [HN.out] at h
              cases h
              rw [← e1, ← e2]
              exact ⟨A, C, B, D, rfl, hi, hj⟩
        · have HN := Lib.hid (show applyR v l 2 n = none by rw [hR.out, if_neg (by omega), if_neg (by simp), if_neg (by omega)])
          go_wp2
          refine bodyPost_ret (v := .tuple #[.agg #[.slice none 0 0, .slice none 0 0], .int .i64 141]) ?_ rfl ⟨?_, fun _ => rfl, fun v' l' h => by rw [HN.out] at h; cases h⟩
          · go_light
            simp [results, Try.results27, go_sem, t0, t1, tf]
          · go_light
            (repeat (with_reducible refine Below.setCell ?_ (by simp; omega) _))
            exact hb
    · by_cases k3 : kind = 3
      · subst k3
        cases hs
        · have HN := Lib.hid (show applyR v l 3 n = none by rw [hR.out, if_neg (by omega), if_neg (by omega), if_neg (by simp)])
          go_wp2
          refine bodyPost_ret (v := .tuple #[.agg #[.slice none 0 0, .slice none 0 0], .int .i64 141]) ?_ rfl ⟨?_, fun _ => rfl, fun v' l' h => by rw [HN.out] at h; cases h⟩
          · go_light
            simp [results, Try.results27, go_sem, t0, t1, tf]
          · go_light
            (repeat (with_reducible refine Below.setCell ?_ (by simp; omega) _))
            exact hb
        · obtain ⟨n0, n8⟩ := HIN.out rfl
          by_cases hone : vt = true ∧ v.length = 1
          · obtain ⟨rfl, hlen⟩ := hone
            have HN := Lib.hid (show applyR v l 3 n = none by rw [hR.out, if_neg (by omega), if_neg (by omega), if_neg (by simp [hlen])])
            go_wp2
            refine bodyPost_ret (v := .tuple #[.agg #[.slice none 0 0, .slice none 0 0], .int .i64 141]) ?_ rfl ⟨?_, fun _ => rfl, fun v' l' h => by rw [HN.out] at h; cases h⟩
            · go_light
              simp [results, Try.results27, go_sem, t0, t1, tf]
            · go_light
              (repeat (with_reducible refine Below.setCell ?_ (by simp; omega) _))
              exact hb
          · have HN := Lib.hid (show applyR v l 3 n = some (setList (updF (memF v) n.toNat false), setList (updF (memF l) n.toNat false)) by rw [hR.out, if_neg (by omega), if_neg (by omega), if_pos ⟨rfl, rfl, fun h => hone ⟨h.2, h.1⟩⟩])
            cases vt
            · clear hone
              go_wp2_with fail
              clear t0 t1 tf x2 y0 y1 z2 z3
              refine wp_region_res (by kernel_rfl) (rApG w v l a b c d 3 n) (rAp8 w.heap.size v l a b c d n (fun acc => acc = lessL v n)) (fun _ => none) (by decide) (by decide) (rApG_below HG.out (bDrew (Below.refl _ _))) ?hst ?hend
              case hst =>
                iterate 13 (with_reducible refine resSteps_cons ?_ ?_; rotate_left)
                · exact resSteps_nil
                · intro u W hG hd K hK
                  have HK := Lib.hid hK
                  clear hK hd
                  refine ⟨?_⟩
                  simp only [slotsOf_some, slotsOf_none, slotsOf_nil, puts_cons, puts_nil, Nat.zero_add, Nat.reduceAdd]
                  go_simp
                  exact HK.out _ _ _ (by simp [slotsOf_some, slotsOf_none, slotsOf_nil, puts_cons, puts_nil, Act.put, -Function.const_apply]) hG rfl (fun j _ _ _ _ h => h)
                · intro u W hG hd K hK
                  have r0 : u 0 = .pointer (some ⟨w.heap.size, 0, none⟩) := hd 0 (by decide) (.inl rfl)
                  have hc : W.cell? ⟨w.heap.size, 0, none⟩ = some (.slice a v.length c) := by rw [cell_at hG.2.1]; rfl
                  have HK := Lib.hid hK
                  clear hK hd
                  refine ⟨?_⟩
                  simp only [slotsOf_some, slotsOf_none, slotsOf_nil, puts_cons, puts_nil, Nat.zero_add, Nat.reduceAdd]
                  go_simp
                  exact HK.out _ _ _ (by simp [slotsOf_some, slotsOf_none, slotsOf_nil, puts_cons, puts_nil, Act.put, r0]) hG rfl (fun j _ _ _ _ h => h)
                · intro u W hG hd K hK
                  have HK := Lib.hid hK
                  clear hK hd
                  refine ⟨?_⟩
                  simp only [slotsOf_some, slotsOf_none, slotsOf_nil, puts_cons, puts_nil, Nat.zero_add, Nat.reduceAdd]
                  go_simp
                  exact HK.out _ _ _ (by simp [slotsOf_some, slotsOf_none, slotsOf_nil, puts_cons, puts_nil, Act.put, -Function.const_apply]) hG rfl (fun j _ _ _ _ h => h)
                · intro u W hG hd K hK
                  have r0 : u 2 = .pointer (some ⟨w.heap.size + 1, 1, none⟩) := hd 2 (by decide) (.inl rfl)
                  have hc : W.cell? ⟨w.heap.size + 1, 1, none⟩ = some (.int .i64 n) := by rw [cell_at hG.2.2.1]; rfl
                  have HK := Lib.hid hK
                  clear hK hd
                  refine ⟨?_⟩
                  simp only [slotsOf_some, slotsOf_none, slotsOf_nil, puts_cons, puts_nil, Nat.zero_add, Nat.reduceAdd]
                  go_simp
                  exact HK.out _ _ _ (by simp [slotsOf_some, slotsOf_none, slotsOf_nil, puts_cons, puts_nil, Act.put, r0]) hG rfl (fun j _ _ _ _ h => h)
                · intro u W hG hd K hK
                  have r3 : u 1 = .slice a v.length c := hd 1 (by decide) (.inl rfl)
                  have r5 : u 3 = .int .i64 n := hd 3 (by decide) (.inl rfl)
                  have HK := Lib.hid hK
                  clear hK hd
                  refine ⟨?_⟩
                  simp only [slotsOf_some, slotsOf_none, slotsOf_nil, puts_cons, puts_nil, Nat.zero_add, Nat.reduceAdd]
                  go_simp
                  refine (without_calls v a c n W (h.below hG.1) (by omega)).mono ?_
                  rintro e w' ⟨A, C, rfl, hi, hb'⟩
                  exact HK.out _ _ _ (by simp [slotsOf_some, slotsOf_none, slotsOf_nil, puts_cons, puts_nil, Act.put, r3, r5]) (rApG_below hG hb') ⟨A, C, lessL v n, rfl, rfl, hi⟩ (fun j _ _ _ _ h => rAp8_below j _ hb' h)
                · intro u W hG hd K hK
                  have HK := Lib.hid hK
                  clear hK hd
                  refine ⟨?_⟩
                  simp only [slotsOf_some, slotsOf_none, slotsOf_nil, puts_cons, puts_nil, Nat.zero_add, Nat.reduceAdd]
                  go_simp
                  exact HK.out _ _ _ (by simp [slotsOf_some, slotsOf_none, slotsOf_nil, puts_cons, puts_nil, Act.put, -Function.const_apply]) hG rfl (fun j _ _ _ _ h => h)
                · intro u W hG hd K hK
                  have r0 : u 5 = .pointer (some ⟨w.heap.size, 1, none⟩) := hd 5 (by decide) (.inl rfl)
                  have hc : W.cell? ⟨w.heap.size, 1, none⟩ = some (.slice b l.length d) := by rw [cell_at hG.2.1]; rfl
                  have HK := Lib.hid hK
                  clear hK hd
                  refine ⟨?_⟩
                  simp only [slotsOf_some, slotsOf_none, slotsOf_nil, puts_cons, puts_nil, Nat.zero_add, Nat.reduceAdd]
                  go_simp
                  exact HK.out _ _ _ (by simp [slotsOf_some, slotsOf_none, slotsOf_nil, puts_cons, puts_nil, Act.put, r0]) hG rfl (fun j _ _ _ _ h => h)
                · intro u W hG hd K hK
                  have HK := Lib.hid hK
                  clear hK hd
                  refine ⟨?_⟩
                  simp only [slotsOf_some, slotsOf_none, slotsOf_nil, puts_cons, puts_nil, Nat.zero_add, Nat.reduceAdd]
                  go_simp
                  exact HK.out _ _ _ (by simp [slotsOf_some, slotsOf_none, slotsOf_nil, puts_cons, puts_nil, Act.put, -Function.const_apply]) hG rfl (fun j _ _ _ _ h => h)
                · intro u W hG hd K hK
                  have r0 : u 7 = .pointer (some ⟨w.heap.size + 1, 1, none⟩) := hd 7 (by decide) (.inl rfl)
                  have hc : W.cell? ⟨w.heap.size + 1, 1, none⟩ = some (.int .i64 n) := by rw [cell_at hG.2.2.1]; rfl
                  have HK := Lib.hid hK
                  clear hK hd
                  refine ⟨?_⟩
                  simp only [slotsOf_some, slotsOf_none, slotsOf_nil, puts_cons, puts_nil, Nat.zero_add, Nat.reduceAdd]
                  go_simp
                  exact HK.out _ _ _ (by simp [slotsOf_some, slotsOf_none, slotsOf_nil, puts_cons, puts_nil, Act.put, r0]) hG rfl (fun j _ _ _ _ h => h)
                · intro u W hG hd K hK
                  have r3 : u 6 = .slice b l.length d := hd 6 (by decide) (.inl rfl)
                  have r5 : u 8 = .int .i64 n := hd 8 (by decide) (.inl rfl)
                  have HK := Lib.hid hK
                  clear hK hd
                  refine ⟨?_⟩
                  simp only [slotsOf_some, slotsOf_none, slotsOf_nil, puts_cons, puts_nil, Nat.zero_add, Nat.reduceAdd]
                  go_simp
                  refine (without_calls l b d n W (h2.below hG.1) (by omega)).mono ?_
                  rintro e w' ⟨A, C, rfl, hi, hb'⟩
                  exact HK.out _ _ _ (by simp [slotsOf_some, slotsOf_none, slotsOf_nil, puts_cons, puts_nil, Act.put, r3, r5]) (rApG_below hG hb') ⟨A, C, rfl, hi⟩ (fun j _ _ _ _ h => rAp8_below j _ hb' h)
                · intro u W hG hd K hK
                  obtain ⟨A, C, acc, r4, hU, hi⟩ : ∃ A C acc, u 4 = .slice A (List.length acc) C ∧ (fun acc => acc = lessL v n) acc ∧ Ints W .i64 A acc := hd 4 (by decide) (.inl rfl)
                  obtain ⟨B, D, r9, hj⟩ : ∃ A C, u 9 = .slice A (lessL l n).length C ∧ Ints W .i64 A (lessL l n) := hd 9 (by decide) (.inl rfl)
                  have HU := Lib.hid hU
                  clear hU
                  have HK := Lib.hid hK
                  clear hK hd
                  refine ⟨?_⟩
                  simp only [slotsOf_some, slotsOf_none, slotsOf_nil, puts_cons, puts_nil, Nat.zero_add, Nat.reduceAdd]
                  go_simp
                  exact HK.out _ _ _ (by simp [slotsOf_some, slotsOf_none, slotsOf_nil, puts_cons, puts_nil, Act.put, r4, r9]) hG ⟨A, C, acc, B, D, rfl, HU.out, hi, hj⟩ (fun j _ _ _ _ h => h)
                · intro u W hG hd K hK
                  obtain ⟨A, C, acc, B, D, r10, hU, hi, hj⟩ : ∃ A C acc B D, u 10 = .agg #[.slice A (List.length acc) C, .slice B (lessL l n).length D] ∧ (fun acc => acc = lessL v n) acc ∧ Ints W .i64 A acc ∧ Ints W .i64 B (lessL l n) := hd 10 (by decide) (.inl rfl)
                  have HU := Lib.hid hU
                  clear hU
                  have hx' := hG.2.2.2
                  have HK := Lib.hid hK
                  clear hK hd
                  obtain ⟨p, q, n0', m0, c0, d0, hx⟩ := hx'
                  have t0 : W.cell? ⟨w.heap.size + 1 + 1, 0, none⟩ = some (.slice p n0' c0) := by rw [cell_at hx]; rfl
                  have t1 : W.cell? ⟨w.heap.size + 1 + 1, 1, none⟩ = some (.slice q m0 d0) := by rw [cell_at hx]; rfl
                  have tf : ∀ o, W.frozen? ⟨w.heap.size + 1 + 1, o, none⟩ = false := fun o => frozen_at hx o
                  have HX := Lib.hid hx
                  clear hx
                  refine ⟨?_⟩
                  simp only [slotsOf_some, slotsOf_none, slotsOf_nil, puts_cons, puts_nil, Nat.zero_add, Nat.reduceAdd]
                  go_simp
                  have hx := HX.out
                  exact HK.out undef _ _ (by simp [slotsOf_some, slotsOf_none, slotsOf_nil, puts_cons, puts_nil, Act.put, r10]) (rApG_set hG hx) ⟨A, C, acc, B, D, heap_set2 hx, HU.out, ints_set2 hx _ hi, ints_set2 hx _ hj⟩ (fun j hj' _ _ _ h => rAp8_set j _ hx _ h hj')
                · intro u W hG hd K hK
                  have HK := Lib.hid hK
                  clear hK hd
                  refine ⟨?_⟩
                  simp only [slotsOf_some, slotsOf_none, slotsOf_nil, puts_cons, puts_nil, Nat.zero_add, Nat.reduceAdd]
                  go_simp
                  exact HK.out _ _ _ (by simp [slotsOf_some, slotsOf_none, slotsOf_nil, puts_cons, puts_nil, Act.put, -Function.const_apply]) hG rfl (fun j _ _ _ _ h => h)
              case hend =>
                intro u W hG hR'
                obtain ⟨A, C, acc, B, D, hx, hU, hi, hj⟩ : ∃ A C acc B D, W.heap[w.heap.size + 2]? = some (.cells #[.slice A (List.length acc) C, .slice B (lessL l n).length D] 39 (0, 0)) ∧ (fun acc => acc = lessL v n) acc ∧ Ints W .i64 A acc ∧ Ints W .i64 B (lessL l n) := hR' 11 (by decide) rfl
                have r9 : u 12 = .int .i64 0 := hR' 12 (by decide) rfl
                have t0 : W.cell? ⟨w.heap.size + 1 + 1, 0, none⟩ = some (.slice A acc.length C) := by rw [cell_at hx]; rfl
                have t1 : W.cell? ⟨w.heap.size + 1 + 1, 1, none⟩ = some (.slice B (lessL l n).length D) := by rw [cell_at hx]; rfl
                have hbW := hG.1
                have e1 : acc = setList (updF (memF v) n.toNat false) := hU.trans (lessL_set hr1 n0)
                have e2 := lessL_set hr2 n0
                have E12 := Lib.hid (And.intro e1 e2)
                clear e1 e2 hR' hG hx hU
                simp only [slotsOf_some, slotsOf_none, slotsOf_nil, puts_cons, puts_nil, Nat.zero_add, Nat.reduceAdd]
                go_wp2
                refine bodyPost_ret (v := .tuple #[.agg #[.slice A acc.length C, .slice B (lessL l n).length D], .int .i64 0]) ?_ rfl ⟨?_, (fun h => by rw [HN.out] at h; cases h), fun v' l' h => ?_⟩
                · go_light
                  simp [results, Try.results27, go_sem, t0, t1, r9]
                · go_light
                  exact hbW
                · obtain ⟨e1, e2⟩ := E12.out
                  rw [HN.out] at h
                  cases h
                  rw [← e1, ← e2]
                  exact ⟨A, C, B, D, rfl, hi, hj⟩
            · have hlen : 1 < v.length := by
                rcases Nat.lt_or_ge 1 v.length with h | h
                · exact h
                · exact absurd ⟨rfl, by omega⟩ hone
              clear hone
              have hlenI : (1 : Int) < (v.length : Int) := by omega
              go_wp2_with fail
              clear t0 t1 tf x2 y0 y1 z2 z3
              refine wp_region_res (by kernel_rfl) (rApG w v l a b c d 3 n) (rAp8 w.heap.size v l a b c d n (fun acc => acc = lessL v n)) (fun _ => none) (by decide) (by decide) (rApG_below HG.out (bDrew (Below.refl _ _))) ?hst ?hend
              case hst =>
                iterate 13 (with_reducible refine resSteps_cons ?_ ?_; rotate_left)
                · exact resSteps_nil
                · intro u W hG hd K hK
                  have HK := Lib.hid hK
                  clear hK hd
                  refine ⟨?_⟩
                  simp only [slotsOf_some, slotsOf_none, slotsOf_nil, puts_cons, puts_nil, Nat.zero_add, Nat.reduceAdd]
                  go_simp
                  exact HK.out _ _ _ (by simp [slotsOf_some, slotsOf_none, slotsOf_nil, puts_cons, puts_nil, Act.put, hlenI]) hG rfl (fun j _ _ _ _ h => h)
                · intro u W hG hd K hK
                  have r0 : u 0 = .pointer (some ⟨w.heap.size, 0, none⟩) := hd 0 (by decide) (.inl rfl)
                  have hc : W.cell? ⟨w.heap.size, 0, none⟩ = some (.slice a v.length c) := by rw [cell_at hG.2.1]; rfl
                  have HK := Lib.hid hK
                  clear hK hd
                  refine ⟨?_⟩
                  simp only [slotsOf_some, slotsOf_none, slotsOf_nil, puts_cons, puts_nil, Nat.zero_add, Nat.reduceAdd]
                  go_simp
                  exact HK.out _ _ _ (by simp [slotsOf_some, slotsOf_none, slotsOf_nil, puts_cons, puts_nil, Act.put, r0, hlenI]) hG rfl (fun j _ _ _ _ h => h)
                · intro u W hG hd K hK
                  have HK := Lib.hid hK
                  clear hK hd
                  refine ⟨?_⟩
                  simp only [slotsOf_some, slotsOf_none, slotsOf_nil, puts_cons, puts_nil, Nat.zero_add, Nat.reduceAdd]
                  go_simp
                  exact HK.out _ _ _ (by simp [slotsOf_some, slotsOf_none, slotsOf_nil, puts_cons, puts_nil, Act.put, hlenI]) hG rfl (fun j _ _ _ _ h => h)
                · intro u W hG hd K hK
                  have r0 : u 2 = .pointer (some ⟨w.heap.size + 1, 1, none⟩) := hd 2 (by decide) (.inl rfl)
                  have hc : W.cell? ⟨w.heap.size + 1, 1, none⟩ = some (.int .i64 n) := by rw [cell_at hG.2.2.1]; rfl
                  have HK := Lib.hid hK
                  clear hK hd
                  refine ⟨?_⟩
                  simp only [slotsOf_some, slotsOf_none, slotsOf_nil, puts_cons, puts_nil, Nat.zero_add, Nat.reduceAdd]
                  go_simp
                  exact HK.out _ _ _ (by simp [slotsOf_some, slotsOf_none, slotsOf_nil, puts_cons, puts_nil, Act.put, r0, hlenI]) hG rfl (fun j _ _ _ _ h => h)
                · intro u W hG hd K hK
                  have r3 : u 1 = .slice a v.length c := hd 1 (by decide) (.inl rfl)
                  have r5 : u 3 = .int .i64 n := hd 3 (by decide) (.inl rfl)
                  have HK := Lib.hid hK
                  clear hK hd
                  refine ⟨?_⟩
                  simp only [slotsOf_some, slotsOf_none, slotsOf_nil, puts_cons, puts_nil, Nat.zero_add, Nat.reduceAdd]
                  go_simp
                  refine (without_calls v a c n W (h.below hG.1) (by omega)).mono ?_
                  rintro e w' ⟨A, C, rfl, hi, hb'⟩
                  exact HK.out _ _ _ (by simp [slotsOf_some, slotsOf_none, slotsOf_nil, puts_cons, puts_nil, Act.put, r3, r5, hlenI]) (rApG_below hG hb') ⟨A, C, lessL v n, rfl, rfl, hi⟩ (fun j _ _ _ _ h => rAp8_below j _ hb' h)
                · intro u W hG hd K hK
                  have HK := Lib.hid hK
                  clear hK hd
                  refine ⟨?_⟩
                  simp only [slotsOf_some, slotsOf_none, slotsOf_nil, puts_cons, puts_nil, Nat.zero_add, Nat.reduceAdd]
                  go_simp
                  exact HK.out _ _ _ (by simp [slotsOf_some, slotsOf_none, slotsOf_nil, puts_cons, puts_nil, Act.put, hlenI]) hG rfl (fun j _ _ _ _ h => h)
                · intro u W hG hd K hK
                  have r0 : u 5 = .pointer (some ⟨w.heap.size, 1, none⟩) := hd 5 (by decide) (.inl rfl)
                  have hc : W.cell? ⟨w.heap.size, 1, none⟩ = some (.slice b l.length d) := by rw [cell_at hG.2.1]; rfl
                  have HK := Lib.hid hK
                  clear hK hd
                  refine ⟨?_⟩
                  simp only [slotsOf_some, slotsOf_none, slotsOf_nil, puts_cons, puts_nil, Nat.zero_add, Nat.reduceAdd]
                  go_simp
                  exact HK.out _ _ _ (by simp [slotsOf_some, slotsOf_none, slotsOf_nil, puts_cons, puts_nil, Act.put, r0, hlenI]) hG rfl (fun j _ _ _ _ h => h)
                · intro u W hG hd K hK
                  have HK := Lib.hid hK
                  clear hK hd
                  refine ⟨?_⟩
                  simp only [slotsOf_some, slotsOf_none, slotsOf_nil, puts_cons, puts_nil, Nat.zero_add, Nat.reduceAdd]
                  go_simp
                  exact HK.out _ _ _ (by simp [slotsOf_some, slotsOf_none, slotsOf_nil, puts_cons, puts_nil, Act.put, hlenI]) hG rfl (fun j _ _ _ _ h => h)
                · intro u W hG hd K hK
                  have r0 : u 7 = .pointer (some ⟨w.heap.size + 1, 1, none⟩) := hd 7 (by decide) (.inl rfl)
                  have hc : W.cell? ⟨w.heap.size + 1, 1, none⟩ = some (.int .i64 n) := by rw [cell_at hG.2.2.1]; rfl
                  have HK := Lib.hid hK
                  clear hK hd
                  refine ⟨?_⟩
                  simp only [slotsOf_some, slotsOf_none, slotsOf_nil, puts_cons, puts_nil, Nat.zero_add, Nat.reduceAdd]
                  go_simp
                  exact HK.out _ _ _ (by simp [slotsOf_some, slotsOf_none, slotsOf_nil, puts_cons, puts_nil, Act.put, r0, hlenI]) hG rfl (fun j _ _ _ _ h => h)
                · intro u W hG hd K hK
                  have r3 : u 6 = .slice b l.length d := hd 6 (by decide) (.inl rfl)
                  have r5 : u 8 = .int .i64 n := hd 8 (by decide) (.inl rfl)
                  have HK := Lib.hid hK
                  clear hK hd
                  refine ⟨?_⟩
                  simp only [slotsOf_some, slotsOf_none, slotsOf_nil, puts_cons, puts_nil, Nat.zero_add, Nat.reduceAdd]
                  go_simp
                  refine (without_calls l b d n W (h2.below hG.1) (by omega)).mono ?_
                  rintro e w' ⟨A, C, rfl, hi, hb'⟩
                  exact HK.out _ _ _ (by simp [slotsOf_some, slotsOf_none, slotsOf_nil, puts_cons, puts_nil, Act.put, r3, r5, hlenI]) (rApG_below hG hb') ⟨A, C, rfl, hi⟩ (fun j _ _ _ _ h => rAp8_below j _ hb' h)
                · intro u W hG hd K hK
                  obtain ⟨A, C, acc, r4, hU, hi⟩ : ∃ A C acc, u 4 = .slice A (List.length acc) C ∧ (fun acc => acc = lessL v n) acc ∧ Ints W .i64 A acc := hd 4 (by decide) (.inl rfl)
                  obtain ⟨B, D, r9, hj⟩ : ∃ A C, u 9 = .slice A (lessL l n).length C ∧ Ints W .i64 A (lessL l n) := hd 9 (by decide) (.inl rfl)
                  have HU := Lib.hid hU
                  clear hU
                  have HK := Lib.hid hK
                  clear hK hd
                  refine ⟨?_⟩
                  simp only [slotsOf_some, slotsOf_none, slotsOf_nil, puts_cons, puts_nil, Nat.zero_add, Nat.reduceAdd]
                  go_simp
                  exact HK.out _ _ _ (by simp [slotsOf_some, slotsOf_none, slotsOf_nil, puts_cons, puts_nil, Act.put, r4, r9, hlenI]) hG ⟨A, C, acc, B, D, rfl, HU.out, hi, hj⟩ (fun j _ _ _ _ h => h)
                · intro u W hG hd K hK
                  obtain ⟨A, C, acc, B, D, r10, hU, hi, hj⟩ : ∃ A C acc B D, u 10 = .agg #[.slice A (List.length acc) C, .slice B (lessL l n).length D] ∧ (fun acc => acc = lessL v n) acc ∧ Ints W .i64 A acc ∧ Ints W .i64 B (lessL l n) := hd 10 (by decide) (.inl rfl)
                  have HU := Lib.hid hU
                  clear hU
                  have hx' := hG.2.2.2
                  have HK := Lib.hid hK
                  clear hK hd
                  obtain ⟨p, q, n0', m0, c0, d0, hx⟩ := hx'
                  have t0 : W.cell? ⟨w.heap.size + 1 + 1, 0, none⟩ = some (.slice p n0' c0) := by rw [cell_at hx]; rfl
                  have t1 : W.cell? ⟨w.heap.size + 1 + 1, 1, none⟩ = some (.slice q m0 d0) := by rw [cell_at hx]; rfl
                  have tf : ∀ o, W.frozen? ⟨w.heap.size + 1 + 1, o, none⟩ = false := fun o => frozen_at hx o
                  have HX := Lib.hid hx
                  clear hx
                  refine ⟨?_⟩
                  simp only [slotsOf_some, slotsOf_none, slotsOf_nil, puts_cons, puts_nil, Nat.zero_add, Nat.reduceAdd]
                  go_simp
                  have hx := HX.out
                  exact HK.out undef _ _ (by simp [slotsOf_some, slotsOf_none, slotsOf_nil, puts_cons, puts_nil, Act.put, r10, hlenI]) (rApG_set hG hx) ⟨A, C, acc, B, D, heap_set2 hx, HU.out, ints_set2 hx _ hi, ints_set2 hx _ hj⟩ (fun j hj' _ _ _ h => rAp8_set j _ hx _ h hj')
                · intro u W hG hd K hK
                  have HK := Lib.hid hK
                  clear hK hd
                  refine ⟨?_⟩
                  simp only [slotsOf_some, slotsOf_none, slotsOf_nil, puts_cons, puts_nil, Nat.zero_add, Nat.reduceAdd]
                  go_simp
                  exact HK.out _ _ _ (by simp [slotsOf_some, slotsOf_none, slotsOf_nil, puts_cons, puts_nil, Act.put, hlenI]) hG rfl (fun j _ _ _ _ h => h)
              case hend =>
                intro u W hG hR'
                obtain ⟨A, C, acc, B, D, hx, hU, hi, hj⟩ : ∃ A C acc B D, W.heap[w.heap.size + 2]? = some (.cells #[.slice A (List.length acc) C, .slice B (lessL l n).length D] 39 (0, 0)) ∧ (fun acc => acc = lessL v n) acc ∧ Ints W .i64 A acc ∧ Ints W .i64 B (lessL l n) := hR' 11 (by decide) rfl
                have r9 : u 12 = .int .i64 0 := hR' 12 (by decide) rfl
                have t0 : W.cell? ⟨w.heap.size + 1 + 1, 0, none⟩ = some (.slice A acc.length C) := by rw [cell_at hx]; rfl
                have t1 : W.cell? ⟨w.heap.size + 1 + 1, 1, none⟩ = some (.slice B (lessL l n).length D) := by rw [cell_at hx]; rfl
                have hbW := hG.1
                have e1 : acc = setList (updF (memF v) n.toNat false) := hU.trans (lessL_set hr1 n0)
                have e2 := lessL_set hr2 n0
                have E12 := Lib.hid (And.intro e1 e2)
                clear e1 e2 hR' hG hx hU
                simp only [slotsOf_some, slotsOf_none, slotsOf_nil, puts_cons, puts_nil, Nat.zero_add, Nat.reduceAdd]
                go_wp2
                refine bodyPost_ret (v := .tuple #[.agg #[.slice A acc.length C, .slice B (lessL l n).length D], .int .i64 0]) ?_ rfl ⟨?_, (fun h => by rw [HN.out] at h; cases h), fun v' l' h => ?_⟩
                · go_light
                  simp [results, Try.results27, go_sem, t0, t1, r9]
                · go_light
                  exact hbW
                · obtain ⟨e1, e2⟩ := E12.out
                  rw [HN.out] at h
                  cases h
                  rw [← e1, ← e2]
                  exact ⟨A, C, B, D, rfl, hi, hj⟩
      · have HN := Lib.hid (show applyR v l kind n = none by rw [hR.out, if_neg (by omega), if_neg (by omega), if_neg (by omega)])
        go_wp2
        refine bodyPost_ret (v := .tuple #[.agg #[.slice none 0 0, .slice none 0 0], .int .i64 141]) ?_ rfl ⟨?_, fun _ => rfl, fun v' l' h => by rw [HN.out] at h; cases h⟩
        · go_light
          simp [results, Try.results27, go_sem, t0, t1, tf]
        · go_light
          (repeat (with_reducible refine Below.setCell ?_ (by simp; omega) _))
          exact hb
end Go.Proofs.Ytinkbiinbfbjgaa

/- Contracts of the reference's least, All, with, without. -/
import Derived.Test.YtinkbiinbfbjgaaDLeast
import Derived.Test.YtinkbiinbfbjgaaDConfB
import Derived.Test.YtinkbiinbfbjgaaDApply
import Derived.Test.YtinkbiinbfbjgaaDApp
namespace Go.Proofs.Ytinkbiinbfbjgaa
open Go.RowKit
set_option linter.unusedVariables false
set_option linter.unusedSimpArgs false

set_option maxHeartbeats 2000000 in
theorem least_calls (l : List Int) (a : Option Addr) (c : Nat) (above : Int) (any : Bool) (w : World) (h : Ints w .i64 a l) (hl : l.length < 2^60) :
    Calls Try.prog 75 #[.slice a l.length c, .int .i64 above, .bool any] w fun e w' => e = .returned (.tuple #[.int .i64 (leastL l above any).1, .bool (leastL l above any).2]) ∧ w = w' := by
  by_cases h0 : 0 < l.length
  · obtain ⟨b, o, rfl, _, hc⟩ := h.open h0
    clear h h0
    go_enter Try.func75, Try.ntmps75
    go_wp2
    go_loop [8, 9, 10] (fun s8 s9 i => ∃ k : Nat, k ≤ l.length ∧ i = .int .i64 k ∧ s8 = .int .i64 (leastL (l.take k) above any).1 ∧ s9 = .bool (leastL (l.take k) above any).2) (fun _ _ i => l.length - (intOf i).toNat)
    case atStart => exact ⟨0, by omega, rfl, rfl, rfl⟩
    case round =>
      obtain ⟨k, hk, rfl, rfl, rfl⟩ := hrel
      by_cases hlt : k < l.length
      · have hcell := hc k hlt
        have h2 : l.getD k 0 = l[k] := by simp [List.getD, hlt]
        rw [h2] at hcell
        have hs : leastL (l.take (k + 1)) above any = leastS above any (leastL (l.take k) above any) l[k] := by rw [take_snoc l k hlt, leastL_snoc]
        generalize l[k] = y at *
        generalize leastL (l.take k) above any = s at *
        obtain ⟨bs, fs⟩ := s
        have HS := Lib.hid hs
        clear hc h2 hs
        cases any <;> cases fs
        · go_wp2
          go_light
          exact ⟨⟨k + 1, by omega, by go_num, int_of (by rw [HS.out]; simp [leastS]), bool_of (by rw [HS.out]; simp [leastS])⟩, by simp [intOf]; omega⟩
        · by_cases hy : y < bs
          · go_wp2
            go_light
            exact ⟨⟨k + 1, by omega, by go_num, int_of (by rw [HS.out]; simp [leastS, hy]), bool_of (by rw [HS.out]; simp [leastS, hy])⟩, by simp [intOf]; omega⟩
          · go_wp2
            go_light
            exact ⟨⟨k + 1, by omega, by go_num, int_of (by rw [HS.out]; simp [leastS, hy]), bool_of (by rw [HS.out]; simp [leastS, hy])⟩, by simp [intOf]; omega⟩
        · by_cases hy : above < y
          · go_wp2
            go_light
            exact ⟨⟨k + 1, by omega, by go_num, int_of (by rw [HS.out]; simp [leastS, hy]), bool_of (by rw [HS.out]; simp [leastS, hy])⟩, by simp [intOf]; omega⟩
          · go_wp2
            go_light
            exact ⟨⟨k + 1, by omega, by go_num, int_of (by rw [HS.out]; simp [leastS, hy]), bool_of (by rw [HS.out]; simp [leastS, hy])⟩, by simp [intOf]; omega⟩
        · by_cases hy : above < y
          · by_cases hy2 : y < bs
            · go_wp2
              go_light
              exact ⟨⟨k + 1, by omega, by go_num, int_of (by rw [HS.out]; simp [leastS, hy, hy2]), bool_of (by rw [HS.out]; simp [leastS, hy, hy2])⟩, by simp [intOf]; omega⟩
            · go_wp2
              go_light
              exact ⟨⟨k + 1, by omega, by go_num, int_of (by rw [HS.out]; simp [leastS, hy, hy2]), bool_of (by rw [HS.out]; simp [leastS, hy, hy2])⟩, by simp [intOf]; omega⟩
          · go_wp2
            go_light
            exact ⟨⟨k + 1, by omega, by go_num, int_of (by rw [HS.out]; simp [leastS, hy]), bool_of (by rw [HS.out]; simp [leastS, hy])⟩, by simp [intOf]; omega⟩
      · rw [List.take_of_length_le (by omega)]
        clear hc
        go_wp2
        go_ret2
        exact ⟨rfl, rfl⟩
  · have hl0 : l = [] := by cases l with | nil => rfl | cons _ _ => simp at h0
    subst hl0
    go_enter Try.func75, Try.ntmps75
    go_wp2
    go_loop [8, 9, 10] (fun s8 s9 i => i = .int .i64 0 ∧ s8 = .int .i64 0 ∧ s9 = .bool false) (fun _ _ _ => 0)
    case atStart => exact ⟨rfl, rfl, rfl⟩
    case round =>
      obtain ⟨rfl, rfl, rfl⟩ := hrel
      go_wp2
      go_ret2
      exact ⟨rfl, rfl⟩

def gathV (both : List Int) (n s : Value) : Nat := match s with
  | .bool b => gathM both (intOf n) b
  | _ => 0
theorem gathV_of (both : List Int) (n : Int) (b : Bool) : gathV both (.int .i64 n) (.bool b) = gathM both n b := rfl

/-- A rising list of another one's numbers, no more of them. -/
def UpOf (l acc : List Int) : Prop := acc.Pairwise (· < ·) ∧ (∀ x, x ∈ acc ↔ x ∈ l) ∧ acc.length ≤ l.length

def rAllR (g B : Nat) (p q : List Int) (x0 y0 : Option Addr) (cx cy : Nat) : Nat → Value → World → Prop
  | 0, x, W => W.ownsRow B 3 1 x 0 [] 
  | 1, x, _ => x = .pointer (some ⟨g, 0, none⟩)
  | 2, x, _ => x = .slice x0 p.length cx
  | 3, x, W => ∃ A C, x = .slice A p.length C ∧ W.ownsRow B 3 1 (.slice A p.length C) p.length (p.map (.int .i64))
  | 4, x, _ => x = .pointer (some ⟨g, 1, none⟩)
  | 5, x, _ => x = .slice y0 q.length cy
  | 6, x, W => ∃ A C, x = .slice A (p.length + q.length) C ∧ W.ownsRow B 3 1 (.slice A (p.length + q.length) C) (p.length + q.length) (p.map (Value.int .i64) ++ q.map (Value.int .i64))
  | 7, x, W => ∃ A C, x = .slice A (p.length + q.length) C ∧ W.ownsRow B 3 1 (.slice A (p.length + q.length) C) (p.length + q.length) (p.map (Value.int .i64) ++ q.map (Value.int .i64))
  | _, _, _ => True
theorem rAllR_below {g B : Nat} {p q : List Int} {x0 y0 : Option Addr} {cx cy : Nat} (j : Nat) (x : Value) {W W' : World} (hb : Below W.heap.size W W') (h : rAllR g B p q x0 y0 cx cy j x W) : rAllR g B p q x0 y0 cx cy j x W' := by
  match j, h with
  | 0, h => exact own_below h hb
  | 1, h => exact h
  | 2, h => exact h
  | 3, ⟨A, C, e, h⟩ => exact ⟨A, C, e, own_below h hb⟩
  | 4, h => exact h
  | 5, h => exact h
  | 6, ⟨A, C, e, h⟩ => exact ⟨A, C, e, own_below h hb⟩
  | 7, ⟨A, C, e, h⟩ => exact ⟨A, C, e, own_below h hb⟩
  | _ + 8, _ => trivial
def rAllF : Nat → Option Nat
  | 0 => some 3
  | 3 => some 6
  | _ => none

set_option maxRecDepth 100000 in
set_option maxHeartbeats 4000000 in
theorem rAll_calls (p q : List Int) (x0 y0 : Option Addr) (cx cy : Nat) (w : World) (h : Ints w .i64 x0 p) (hp : p.length ≤ 2097152) (h2 : Ints w .i64 y0 q) (hq : q.length ≤ 2097152) :
    Calls Try.prog 46 #[.agg #[.slice x0 p.length cx, .slice y0 q.length cy]] w fun e w' => ∃ A C acc, e = .returned (.slice A acc.length C) ∧ UpOf (p ++ q) acc ∧ Ints w' .i64 A acc ∧ Below w.heap.size w w' := by
  have hb := bAlloc (Below.refl w.heap.size w) (.cells #[.slice x0 p.length cx, .slice y0 q.length cy] 39)
  have k0 : (w.alloc (.cells #[.slice x0 p.length cx, .slice y0 q.length cy] 39)).cell? ⟨w.heap.size, 0, none⟩ = some (.slice x0 p.length cx) := by rw [cell_at (heap_alloc_new w _)]; rfl
  have k1 : (w.alloc (.cells #[.slice x0 p.length cx, .slice y0 q.length cy] 39)).cell? ⟨w.heap.size, 1, none⟩ = some (.slice y0 q.length cy) := by rw [cell_at (heap_alloc_new w _)]; rfl
  (replace h := Ints.below h hb; replace h2 := Ints.below h2 hb)
  have hx1 : w.heap.size < (w.alloc (.cells #[.slice x0 p.length cx, .slice y0 q.length cy] 39)).heap.size := by simp
  go_enter Try.func46, Try.ntmps46
  go_wp2_with fail
  generalize w.alloc (.cells #[.slice x0 p.length cx, .slice y0 q.length cy] 39) = w1 at *
  have hz : w.heap.size < w1.heap.size := hx1
  have ob : ∀ W, Below w1.heap.size w1 W → W.cell? ⟨w.heap.size, 0, none⟩ = some (.slice x0 p.length cx) ∧ W.cell? ⟨w.heap.size, 1, none⟩ = some (.slice y0 q.length cy) := fun W hB => ⟨keepC hB k0, keepC hB k1⟩
  refine wp_region_res (by kernel_rfl) (fun W => Below w1.heap.size w1 W) (rAllR w.heap.size w1.heap.size p q x0 y0 cx cy) rAllF (by decide) (by decide) (bDrew (Below.refl _ _)) ?hst ?hend
  case hst =>
    iterate 8 (with_reducible refine resSteps_cons ?_ ?_; rotate_left)
    · exact resSteps_nil
    · intro v W hG hd K hK
      have HK := Lib.hid hK
      clear hK hd
      refine ⟨?_⟩
      simp only [slotsOf_some, slotsOf_none, slotsOf_nil, puts_cons, puts_nil, Nat.zero_add, Nat.reduceAdd]
      go_simp
      exact HK.out _ _ _ (by simp [slotsOf_some, slotsOf_none, slotsOf_nil, puts_cons, puts_nil, Act.put, -Function.const_apply]) (bAlloc hG _) (World.ownsRow_lit (base := w1.heap.size) W #[] 0 hG.size (by decide) rfl) (fun j _ _ _ _ h => rAllR_below j _ (bAlloc (Below.refl _ _) _) h)
    · intro v W hG hd K hK
      have HK := Lib.hid hK
      clear hK hd
      refine ⟨?_⟩
      simp only [slotsOf_some, slotsOf_none, slotsOf_nil, puts_cons, puts_nil, Nat.zero_add, Nat.reduceAdd]
      go_simp
      exact HK.out _ _ _ (by simp [slotsOf_some, slotsOf_none, slotsOf_nil, puts_cons, puts_nil, Act.put, -Function.const_apply]) hG rfl (fun j _ _ _ _ h => h)
    · intro v W hG hd K hK
      have r1 : v 1 = .pointer (some ⟨w.heap.size, 0, none⟩) := hd 1 (by decide) (.inl rfl)
      have hc := (ob W hG).1
      have HK := Lib.hid hK
      clear hK hd ob
      refine ⟨?_⟩
      simp only [slotsOf_some, slotsOf_none, slotsOf_nil, puts_cons, puts_nil, Nat.zero_add, Nat.reduceAdd]
      go_simp
      exact HK.out _ _ _ (by simp [slotsOf_some, slotsOf_none, slotsOf_nil, puts_cons, puts_nil, Act.put, r1]) hG rfl (fun j _ _ _ _ h => h)
    · intro v W hG hd K hK
      have r0 : W.ownsRow w1.heap.size 3 1 (v 0) 0 [] := hd 0 (by decide) (.inr rfl)
      have r2 : v 2 = .slice x0 p.length cx := hd 2 (by decide) (.inl rfl)
      clear hd
      refine ⟨?_⟩
      simp only [slotsOf_some, slotsOf_none, slotsOf_nil, puts_cons, puts_nil, Nat.zero_add, Nat.reduceAdd]
      refine step_app elInt w1.heap.size rfl (.tmp 7) (.tmp 9) rfl (v 0) 0 [] (by simp [Act.eval, Act.put]) r0 x0 p.length cx (p.map (.int .i64)) (by simp [Act.eval, Act.put, r2]) (by simp) (h.below hG) (oneCell_ints _ _) (by omega) hG.size ?_
      intro A C w' hown hgrow hb'
      simp only [Nat.zero_add, List.nil_append] at hown ⊢
      refine hK _ _ _ (by simp [slotsOf_some, slotsOf_none, slotsOf_nil, puts_cons, puts_nil, Act.put, -Function.const_apply]) (hG.trans hb') ⟨A, C, rfl, hown⟩ (fun j hj hf hw hm hr => ?_)
      rcases j with _|_|_|_|_|_|_|_|j
      all_goals first | exact hr | exact absurd rfl hj | exact absurd rfl hf | exact absurd hw (by decide)
    · intro v W hG hd K hK
      have HK := Lib.hid hK
      clear hK hd
      refine ⟨?_⟩
      simp only [slotsOf_some, slotsOf_none, slotsOf_nil, puts_cons, puts_nil, Nat.zero_add, Nat.reduceAdd]
      go_simp
      exact HK.out _ _ _ (by simp [slotsOf_some, slotsOf_none, slotsOf_nil, puts_cons, puts_nil, Act.put, -Function.const_apply]) hG rfl (fun j _ _ _ _ h => h)
    · intro v W hG hd K hK
      have r4 : v 4 = .pointer (some ⟨w.heap.size, 1, none⟩) := hd 4 (by decide) (.inl rfl)
      have hc := (ob W hG).2
      have HK := Lib.hid hK
      clear hK hd ob
      refine ⟨?_⟩
      simp only [slotsOf_some, slotsOf_none, slotsOf_nil, puts_cons, puts_nil, Nat.zero_add, Nat.reduceAdd]
      go_simp
      exact HK.out _ _ _ (by simp [slotsOf_some, slotsOf_none, slotsOf_nil, puts_cons, puts_nil, Act.put, r4]) hG rfl (fun j _ _ _ _ h => h)
    · intro v W hG hd K hK
      obtain ⟨A3, C3, r3, hown3⟩ : ∃ A C, v 3 = .slice A p.length C ∧ W.ownsRow w1.heap.size 3 1 (.slice A p.length C) p.length (p.map (.int .i64)) := hd 3 (by decide) (.inr rfl)
      have r5 : v 5 = .slice y0 q.length cy := hd 5 (by decide) (.inl rfl)
      clear hd
      refine ⟨?_⟩
      simp only [slotsOf_some, slotsOf_none, slotsOf_nil, puts_cons, puts_nil, Nat.zero_add, Nat.reduceAdd]
      refine step_app elInt w1.heap.size rfl (.tmp 10) (.tmp 12) rfl _ _ _ (by simp [Act.eval, Act.put, r3]) hown3 y0 q.length cy (q.map (.int .i64)) (by simp [Act.eval, Act.put, r5]) (by simp) (h2.below hG) (oneCell_ints _ _) (by omega) hG.size ?_
      intro A C w' hown hgrow hb'
      refine hK _ _ _ (by simp [slotsOf_some, slotsOf_none, slotsOf_nil, puts_cons, puts_nil, Act.put, -Function.const_apply]) (hG.trans hb') ⟨A, C, rfl, hown⟩ (fun j hj hf hw hm hr => ?_)
      rcases j with _|_|_|_|_|_|_|_|j
      all_goals first | exact hr | exact absurd rfl hj | exact absurd rfl hf | exact absurd hw (by decide) | exact absurd (hm _ rfl) (by decide)
    · intro v W hG hd K hK
      obtain ⟨A6, C6, r6, hown6⟩ : ∃ A C, v 6 = .slice A (p.length + q.length) C ∧ W.ownsRow w1.heap.size 3 1 (.slice A (p.length + q.length) C) (p.length + q.length) (p.map (Value.int .i64) ++ q.map (Value.int .i64)) := hd 6 (by decide) (.inl rfl)
      have HK := Lib.hid hK
      clear hK hd
      refine ⟨?_⟩
      simp only [slotsOf_some, slotsOf_none, slotsOf_nil, puts_cons, puts_nil, Nat.zero_add, Nat.reduceAdd]
      go_simp
      exact HK.out _ _ _ (by simp [slotsOf_some, slotsOf_none, slotsOf_nil, puts_cons, puts_nil, Act.put, r6]) hG ⟨A6, C6, rfl, hown6⟩ (fun j _ _ _ _ h => h)
  case hend =>
    intro v W hG hR
    obtain ⟨A4, C4, r7, hown7⟩ : ∃ A C, v 7 = .slice A (p.length + q.length) C ∧ W.ownsRow w1.heap.size 3 1 (.slice A (p.length + q.length) C) (p.length + q.length) (p.map (Value.int .i64) ++ q.map (Value.int .i64)) := hR 7 (by decide) rfl
    have n1 : Ints W .i64 A4 (p ++ q) := by (unfold Ints; rw [List.map_append]; exact Row.of_own hown7)
    clear hR
    simp only [slotsOf_some, slotsOf_none, slotsOf_nil, puts_cons, puts_nil, Nat.zero_add, Nat.reduceAdd]
    go_wp2_with fail
    rw [← List.length_append] at *
    have hbl : (p ++ q).length ≤ 4194304 := by simp; omega
    generalize hpq : p ++ q = both at *
    have HPQ := Lib.hid hpq
    clear hpq
    have hb := bTrans hb hG
    clear h h2 ob k0 k1 hown7 r7
    refine (least_calls both A4 C4 0 false _ n1 (by omega)).mono ?_
    rintro e w' ⟨rfl, rfl⟩
    have hg := Gath.start both 0
    generalize leastL both 0 false = s0 at *
    obtain ⟨n0, f0⟩ := s0
    simp only at hg
    have HL := Lib.hid hbl
    clear hbl hG
    go_wp2_with fail
    go_loopw [4, 5, 6] (fun s4 s5 s6 wr => ∃ A C acc n is, s4 = .slice A (List.length acc) C ∧ s5 = .int .i64 n ∧ s6 = .bool is ∧ Gath both acc n is ∧ wr.ownsRow W.heap.size 3 1 (.slice A acc.length C) acc.length (acc.map (.int .i64)) ∧ Below W.heap.size W wr) (fun _ n s _ => gathV both n s)
    case atStart => exact ⟨none, 0, [], n0, f0, rfl, rfl, rfl, hg, World.ownsRow_nil _ _ _ _, Below.refl _ _⟩
    case round =>
      obtain ⟨A, C, acc, n, is, rfl, rfl, rfl, hG, hown, hbr⟩ := hrel
      clear hg
      have hal := hG.len
      have hbl := HL.out
      cases is
      · go_wp2
        go_ret
        exact ⟨A, C, acc, rfl, (by rw [HPQ.out]; exact hG.done), Row.of_own hown, bTrans hb hbr⟩
      · obtain ⟨hG', hm⟩ := hG.step
        have L1 := fun w' h' => least_calls both A4 C4 n true w' h' (by omega)
        generalize leastL both n true = s1 at *
        obtain ⟨n', f'⟩ := s1
        simp only at hG' hm L1
        have HM := Lib.hid hm
        clear hm HL
        have hs := hbr.size
        go_wp2_with (at_builtin; refine wpList_app elInt W.heap.size rfl _ _ rfl _ _ _ rfl (hown.alloc _) _ 1 _ [.int .i64 n] rfl rfl (Row.one _ _ _) (by simp [Value.oneCell']) (by omega) (by simp; omega) ?_; intro A6 C6 w6 hown6 hgrow6 hb6)
        have hb7 := hbr.trans ((Below.refl _ wr).alloc hbr.size _ |>.trans hb6)
        refine (L1 _ (n1.below hb7)).mono ?_
        rintro e w' ⟨rfl, rfl⟩
        go_wp2
        go_light
        refine ⟨⟨A6, C6, acc ++ [n], n', f', ?_, rfl, rfl, hG', ?_, hb7⟩, ?_⟩
        · simp
        · simpa using hown6
        · rw [gathV_of]; exact HM.out

set_option maxHeartbeats 400000 in
theorem with_calls14 (l : List Int) (a : Option Addr) (c : Nat) (n : Int) (w : World) (h : Ints w .i64 a l) (hl : l.length ≤ 1048576) :
    Calls Try.prog 61 #[.slice a l.length c, .int .i64 n] w fun e w' => ∃ A C acc, e = .returned (.slice A acc.length C) ∧ UpOf (l ++ [n]) acc ∧ Ints w' .i64 A acc ∧ Below w.heap.size w w' := by
  have n1 : Ints _ .i64 _ [n] := Row.new w [.int .i64 n] 3
  have hb := bAlloc (Below.refl _ w) (.cells #[.int .i64 n] 3)
  go_enter Try.func61, Try.ntmps61
  go_wp2_with fail
  refine (rAll_calls l [n] _ _ _ _ _ (h.below hb) (by omega) n1 (by simp)).mono ?_
  rintro e w1 ⟨A, C, acc, rfl, hU, hi, hb1⟩
  go_wp2
  go_ret
  exact ⟨A, C, acc, rfl, hU, hi, bTrans hb hb1⟩

/-- The numbers but one. -/
def lessL (l : List Int) (n : Int) : List Int := l.filter fun x => !decide (x = n)
theorem lessL_snoc (l : List Int) (n x : Int) : lessL (l ++ [x]) n = lessL l n ++ (if x = n then [] else [x]) := by
  unfold lessL
  rw [List.filter_append]
  by_cases h : x = n <;> simp [h]
theorem lessL_le (l : List Int) (n : Int) : (lessL l n).length ≤ l.length := List.length_filter_le _ _

set_option maxHeartbeats 2000000 in
theorem without_calls (l : List Int) (a : Option Addr) (c : Nat) (n : Int) (w : World) (h : Ints w .i64 a l) (hl : l.length ≤ 1048576) :
    Calls Try.prog 62 #[.slice a l.length c, .int .i64 n] w fun e w' => ∃ A C, e = .returned (.slice A (lessL l n).length C) ∧ Ints w' .i64 A (lessL l n) ∧ Below w.heap.size w w' := by
  by_cases h0 : 0 < l.length
  · obtain ⟨b, o, rfl, hbl, hc⟩ := h.open h0
    clear h h0
    go_enter Try.func62, Try.ntmps62
    go_wp2
    go_loopw [5, 6] (fun s5 i wr => ∃ A C, ∃ k : Nat, k ≤ l.length ∧ i = .int .i64 k ∧ s5 = .slice A (lessL (l.take k) n).length C ∧ wr.ownsRow w.heap.size 3 1 (.slice A (lessL (l.take k) n).length C) (lessL (l.take k) n).length ((lessL (l.take k) n).map (Value.int .i64)) ∧ Below w.heap.size w wr) (fun _ i _ => l.length - (intOf i).toNat)
    case atStart => exact ⟨none, 0, 0, by omega, rfl, rfl, World.ownsRow_nil _ _ _ _, Below.refl _ _⟩
    case round =>
      obtain ⟨A, C, k, hk, rfl, rfl, hown, hbr⟩ := hrel
      by_cases hlt : k < l.length
      · have hcell := hc k hlt
        have h2 : l.getD k 0 = l[k] := by simp [List.getD, hlt]
        rw [h2] at hcell
        replace hcell := keepC hbr hcell
        have hs : lessL (l.take (k + 1)) n = lessL (l.take k) n ++ (if l[k] = n then [] else [l[k]]) := by rw [take_snoc l k hlt, lessL_snoc]
        have hle := lessL_le (l.take k) n
        have hlk : (l.take k).length ≤ k := List.length_take_le _ _
        generalize l[k] = y at *
        have hsz := hbr.size
        have HS := Lib.hid hs
        clear hc h2 hs
        by_cases hy : y = n
        · subst hy
          go_wp2
          go_light
          have e := HS.out
          rw [if_pos rfl, List.append_nil] at e
          exact ⟨⟨A, C, k + 1, by omega, by go_num, by rw [e], by rw [e]; exact hown, hbr⟩, by simp [intOf]; omega⟩
        · have hy' : (y != n) = true := by simpa using hy
          go_wp2_with (at_builtin; refine wpList_app elInt w.heap.size rfl _ _ rfl _ _ _ rfl (hown.alloc _) _ 1 _ [.int .i64 y] rfl rfl (Row.one _ _ _) (by simp [Value.oneCell']) (by omega) (by simp; omega) ?_; intro A6 C6 w6 hown6 hgrow6 hb6)
          go_light
          have e := HS.out
          rw [if_neg hy] at e
          refine ⟨⟨A6, C6, k + 1, by omega, by go_num, by rw [e]; simp, by rw [e]; simpa using hown6, hbr.trans ((Below.refl _ wr).alloc hbr.size _ |>.trans hb6)⟩, by simp [intOf]; omega⟩
      · have e : l.take k = l := List.take_of_length_le (by omega)
        rw [e] at hown ⊢
        clear hc e
        go_wp2
        go_ret
        exact ⟨A, C, rfl, Row.of_own hown, hbr⟩
  · have hl0 : l = [] := by cases l with | nil => rfl | cons _ _ => simp at h0
    subst hl0
    go_enter Try.func62, Try.ntmps62
    go_wp2
    go_loop [5, 6] (fun s5 i => s5 = .slice none 0 0 ∧ i = .int .i64 0) (fun _ _ => 0)
    case atStart => exact ⟨rfl, rfl⟩
    case round =>
      obtain ⟨rfl, rfl⟩ := hrel
      go_wp2
      go_ret
      exact ⟨none, ⟨0, rfl⟩, Row.nil _ _, Below.refl _ _⟩
end Go.Proofs.Ytinkbiinbfbjgaa

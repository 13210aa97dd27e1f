/- Contract of the law ReplCommits. -/
import Derived.Test.YtinkbiinbfbjgaaDProg
namespace Go.Proofs.Ytinkbiinbfbjgaa
open Go.RowKit
set_option linter.unusedVariables false
set_option linter.unusedSimpArgs false
def lcR (v l : List Int) (a b : Option Addr) (c d : Nat) (f : Nat → Int) (x0 y : Int) (z : Bool) : Nat → Value → World → Prop
  | 0, x, _ => x = .bool true
  | 1, x, _ => x = .bool true
  | 2, x, _ => x = .agg #[.slice a v.length c, .slice b l.length d]
  | 3, x, _ => x = .agg (u8s f)
  | 4, x, _ => x = .int .u64 y
  | 5, x, _ => x = .agg #[.slice a v.length c, .slice b l.length d]
  | 6, x, _ => x = .agg (u8s f)
  | 7, x, _ => x = .int .u64 y
  | 8, x, _ => x = .bool true
  | 9, x, _ => x = .bool true
  | 10, x, _ => x = .bool true
  | 11, x, _ => x = .agg #[.slice a v.length c, .slice b l.length d]
  | 12, x, _ => x = .agg (u8s f)
  | 13, x, _ => x = .int .u64 x0
  | 14, x, _ => x = .bool z
  | 15, x, _ => x = .agg #[.slice a v.length c, .slice b l.length d]
  | 16, x, _ => x = .agg (u8s f)
  | 17, x, _ => x = .int .u64 x0
  | 18, x, _ => x = .bool z
  | 19, x, _ => x = .bool true
  | 20, x, _ => x = .bool true
  | 21, x, _ => x = .bool true
  | _, _, _ => True
theorem lcR_pure {v l : List Int} {a b : Option Addr} {c d : Nat} {f : Nat → Int} {x0 y : Int} {z : Bool} (j : Nat) (x : Value) {W W' : World} (h : lcR v l a b c d f x0 y z j x W) : lcR v l a b c d f x0 y z j x W' := by
  match j, h with
  | 0, h => exact h
  | 1, h => exact h
  | 2, h => exact h
  | 3, h => exact h
  | 4, h => exact h
  | 5, h => exact h
  | 6, h => exact h
  | 7, h => exact h
  | 8, h => exact h
  | 9, h => exact h
  | 10, h => exact h
  | 11, h => exact h
  | 12, h => exact h
  | 13, h => exact h
  | 14, h => exact h
  | 15, h => exact h
  | 16, h => exact h
  | 17, h => exact h
  | 18, h => exact h
  | 19, h => exact h
  | 20, h => exact h
  | 21, h => exact h
  | _ + 22, _ => trivial

/-- Whether a round was heard: both ways. -/
theorem heard_eq (f : Nat → Int) (v : List Int) (x : Int) : (decide (0 < v.length) && decide (x ≤ comV f v)) = decide ((v.length : Int) < 2 * (cntGe (vals f v) x : Int)) := by
  rcases Nat.eq_zero_or_pos v.length with h0 | h0
  · have : v = [] := List.length_eq_zero_iff.1 h0
    subst this
    simp [vals, cntGe]
  · have hi := med_iff (zs := vals f v) (by rw [vals_len]; exact h0) x
    rw [vals_len] at hi
    unfold comV
    rw [Bool.eq_iff_iff]
    simp only [Bool.and_eq_true, decide_eq_true_eq]
    rw [hi]
    omega

set_option maxRecDepth 100000 in
set_option maxHeartbeats 1000000 in
theorem RCommits_calls (v l : List Int) (a b : Option Addr) (c d : Nat) (f : Nat → Int) (x0 : Int) (w : World) (h : Ints w .i64 a v) (hl : v.length ≤ 1048576) (hf : ∀ i, i < 8 → 0 ≤ f i) :
    Calls Try.prog 12 #[.agg #[.slice a v.length c, .slice b l.length d], .agg (u8s f), .int .u64 x0] w fun e w' => e = .returned (.bool true) ∧ Below w.heap.size w w' := by
  have hb := bAlloc (bAlloc (Below.refl w.heap.size w) (.cells #[.slice a v.length c, .slice b l.length d] 39)) (.cells (u8s f) 59)
  have k0 : ((w.alloc (.cells #[.slice a v.length c, .slice b l.length d] 39)).alloc (.cells (u8s f) 59)).cell? ⟨w.heap.size, 0, none⟩ = some (.slice a v.length c) := keepC (bAlloc (Below.refl _ _) _) (by rw [cell_at (heap_alloc_new w _)]; rfl)
  have k1 : ((w.alloc (.cells #[.slice a v.length c, .slice b l.length d] 39)).alloc (.cells (u8s f) 59)).cell? ⟨w.heap.size, 1, none⟩ = some (.slice b l.length d) := keepC (bAlloc (Below.refl _ _) _) (by rw [cell_at (heap_alloc_new w _)]; rfl)
  have hn := heap_alloc_new (w.alloc (.cells #[.slice a v.length c, .slice b l.length d] 39)) (.cells (u8s f) 59)
  rw [World.size_alloc] at hn
  have hcs : ∀ k, k < 8 → ((w.alloc (.cells #[.slice a v.length c, .slice b l.length d] 39)).alloc (.cells (u8s f) 59)).cell? ⟨w.heap.size + 1, k, none⟩ = some (.int .u64 (f k)) := fun k hk => u8s_cell hn k hk
  (replace h := Ints.below h hb)
  clear hn
  have AL := fun w' => alive18_calls w'
  have CO := fun w' h' => Committed_calls v l a b c d f w' h' hl
  have RC := fun w' h' => rCommitted_calls v l a b c d f w' h' hl
  rw [show bestTo f v 8 = comV f v from best_med f v hf] at RC
  have HE := fun w' h' => Heard_calls v l a b c d f x0 w' h' hl
  have RE := fun w' h' => rHeard_calls v l a b c d f x0 w' h' hl
  rw [heard_eq] at HE
  generalize comV f v = y at *
  generalize decide ((v.length : Int) < 2 * (cntGe (vals f v) x0 : Int)) = z at *
  go_enter Try.func12, Try.ntmps12
  unfold u8s
  go_wp2_with fail
  rw [show #[Value.int .u64 (f 0), .int .u64 (f 1), .int .u64 (f 2), .int .u64 (f 3), .int .u64 (f 4), .int .u64 (f 5), .int .u64 (f 6), .int .u64 (f 7)] = u8s f from rfl] at *
  generalize ((w.alloc (.cells #[.slice a v.length c, .slice b l.length d] 39)).alloc (.cells (u8s f) 59)) = w1 at *
  refine wp_region_res (by kernel_rfl) (fun W => Below w1.heap.size w1 W) (lcR v l a b c d f x0 y z) (fun _ => none) (by decide) (by decide) ((bDrew (Below.refl _ _))) ?hst ?hend
  case hst =>
    iterate 22 (with_reducible refine resSteps_cons ?_ ?_; rotate_left)
    · exact resSteps_nil
    · intro u W hG hd K hK
      have HK := Lib.hid hK
      clear hK hd
      refine ⟨?_⟩
      simp only [slotsOf_some, slotsOf_none, slotsOf_nil, puts_cons, puts_nil, Nat.zero_add, Nat.reduceAdd]
      go_simp
      refine (AL W).mono ?_
      rintro e w' ⟨rfl, hb'⟩
      exact HK.out _ _ _ (by simp [slotsOf_some, slotsOf_none, slotsOf_nil, puts_cons, puts_nil, Act.put, -Function.const_apply]) (bTrans hG hb') rfl (fun j _ _ _ _ h => lcR_pure j _ h)
    · intro u W hG hd K hK
      have r0 : u 0 = .bool true := hd 0 (by decide) (.inl rfl)
      have HK := Lib.hid hK
      clear hK hd
      refine ⟨?_⟩
      simp only [slotsOf_some, slotsOf_none, slotsOf_nil, puts_cons, puts_nil, Nat.zero_add, Nat.reduceAdd]
      go_simp
      exact HK.out _ _ _ (by simp [slotsOf_some, slotsOf_none, slotsOf_nil, puts_cons, puts_nil, Act.put, r0]) hG rfl (fun j _ _ _ _ h => h)
    · intro u W hG hd K hK
      have r1 : u 1 = .bool true := hd 1 (by decide) (.inl rfl)
      have hc := keepC hG k0
      have hc2 := keepC hG k1
      have HK := Lib.hid hK
      clear hK hd
      refine ⟨?_⟩
      simp only [slotsOf_some, slotsOf_none, slotsOf_nil, puts_cons, puts_nil, Nat.zero_add, Nat.reduceAdd]
      go_simp
      exact HK.out _ _ _ (by simp [slotsOf_some, slotsOf_none, slotsOf_nil, puts_cons, puts_nil, Act.put, r1]) hG rfl (fun j _ _ _ _ h => h)
    · intro u W hG hd K hK
      have r1 : u 1 = .bool true := hd 1 (by decide) (.inl rfl)
      have q0 := keepC hG (hcs 0 (by decide))
      have q1 := keepC hG (hcs 1 (by decide))
      have q2 := keepC hG (hcs 2 (by decide))
      have q3 := keepC hG (hcs 3 (by decide))
      have q4 := keepC hG (hcs 4 (by decide))
      have q5 := keepC hG (hcs 5 (by decide))
      have q6 := keepC hG (hcs 6 (by decide))
      have q7 := keepC hG (hcs 7 (by decide))
      have HK := Lib.hid hK
      clear hK hd
      refine ⟨?_⟩
      simp only [slotsOf_some, slotsOf_none, slotsOf_nil, puts_cons, puts_nil, Nat.zero_add, Nat.reduceAdd]
      go_simp
      exact HK.out _ _ _ (by simp [slotsOf_some, slotsOf_none, slotsOf_nil, puts_cons, puts_nil, Act.put, r1, u8s]) hG rfl (fun j _ _ _ _ h => h)
    · intro u W hG hd K hK
      have r1 : u 1 = .bool true := hd 1 (by decide) (.inl rfl)
      have r2 : u 2 = .agg #[.slice a v.length c, .slice b l.length d] := hd 2 (by decide) (.inl rfl)
      have r3 : u 3 = .agg (u8s f) := hd 3 (by decide) (.inl rfl)
      have HK := Lib.hid hK
      clear hK hd
      refine ⟨?_⟩
      simp only [slotsOf_some, slotsOf_none, slotsOf_nil, puts_cons, puts_nil, Nat.zero_add, Nat.reduceAdd]
      go_simp
      refine (CO W (h.below hG)).mono ?_
      rintro e w' ⟨rfl, hb'⟩
      exact HK.out _ _ _ (by simp [slotsOf_some, slotsOf_none, slotsOf_nil, puts_cons, puts_nil, Act.put, r1, r2, r3]) (bTrans hG hb') rfl (fun j _ _ _ _ h => lcR_pure j _ h)
    · intro u W hG hd K hK
      have r1 : u 1 = .bool true := hd 1 (by decide) (.inl rfl)
      have hc := keepC hG k0
      have hc2 := keepC hG k1
      have HK := Lib.hid hK
      clear hK hd
      refine ⟨?_⟩
      simp only [slotsOf_some, slotsOf_none, slotsOf_nil, puts_cons, puts_nil, Nat.zero_add, Nat.reduceAdd]
      go_simp
      exact HK.out _ _ _ (by simp [slotsOf_some, slotsOf_none, slotsOf_nil, puts_cons, puts_nil, Act.put, r1]) hG rfl (fun j _ _ _ _ h => h)
    · intro u W hG hd K hK
      have r1 : u 1 = .bool true := hd 1 (by decide) (.inl rfl)
      have q0 := keepC hG (hcs 0 (by decide))
      have q1 := keepC hG (hcs 1 (by decide))
      have q2 := keepC hG (hcs 2 (by decide))
      have q3 := keepC hG (hcs 3 (by decide))
      have q4 := keepC hG (hcs 4 (by decide))
      have q5 := keepC hG (hcs 5 (by decide))
      have q6 := keepC hG (hcs 6 (by decide))
      have q7 := keepC hG (hcs 7 (by decide))
      have HK := Lib.hid hK
      clear hK hd
      refine ⟨?_⟩
      simp only [slotsOf_some, slotsOf_none, slotsOf_nil, puts_cons, puts_nil, Nat.zero_add, Nat.reduceAdd]
      go_simp
      exact HK.out _ _ _ (by simp [slotsOf_some, slotsOf_none, slotsOf_nil, puts_cons, puts_nil, Act.put, r1, u8s]) hG rfl (fun j _ _ _ _ h => h)
    · intro u W hG hd K hK
      have r1 : u 1 = .bool true := hd 1 (by decide) (.inl rfl)
      have r5 : u 5 = .agg #[.slice a v.length c, .slice b l.length d] := hd 5 (by decide) (.inl rfl)
      have r6 : u 6 = .agg (u8s f) := hd 6 (by decide) (.inl rfl)
      have HK := Lib.hid hK
      clear hK hd
      refine ⟨?_⟩
      simp only [slotsOf_some, slotsOf_none, slotsOf_nil, puts_cons, puts_nil, Nat.zero_add, Nat.reduceAdd]
      go_simp
      refine (RC W (h.below hG)).mono ?_
      rintro e w' ⟨rfl, hb'⟩
      exact HK.out _ _ _ (by simp [slotsOf_some, slotsOf_none, slotsOf_nil, puts_cons, puts_nil, Act.put, r1, r5, r6]) (bTrans hG hb') rfl (fun j _ _ _ _ h => lcR_pure j _ h)
    · intro u W hG hd K hK
      have r1 : u 1 = .bool true := hd 1 (by decide) (.inl rfl)
      have r4 : u 4 = .int .u64 y := hd 4 (by decide) (.inl rfl)
      have r7 : u 7 = .int .u64 y := hd 7 (by decide) (.inl rfl)
      have HK := Lib.hid hK
      clear hK hd
      refine ⟨?_⟩
      simp only [slotsOf_some, slotsOf_none, slotsOf_nil, puts_cons, puts_nil, Nat.zero_add, Nat.reduceAdd]
      go_simp
      exact HK.out _ _ _ (by simp [slotsOf_some, slotsOf_none, slotsOf_nil, puts_cons, puts_nil, Act.put, r1, r4, r7]) hG rfl (fun j _ _ _ _ h => h)
    · intro u W hG hd K hK
      have r1 : u 1 = .bool true := hd 1 (by decide) (.inl rfl)
      have r8 : u 8 = .bool true := hd 8 (by decide) (.inl rfl)
      have HK := Lib.hid hK
      clear hK hd
      refine ⟨?_⟩
      simp only [slotsOf_some, slotsOf_none, slotsOf_nil, puts_cons, puts_nil, Nat.zero_add, Nat.reduceAdd]
      go_simp
      exact HK.out _ _ _ (by simp [slotsOf_some, slotsOf_none, slotsOf_nil, puts_cons, puts_nil, Act.put, r1, r8]) hG rfl (fun j _ _ _ _ h => h)
    · intro u W hG hd K hK
      have r9 : u 9 = .bool true := hd 9 (by decide) (.inl rfl)
      have HK := Lib.hid hK
      clear hK hd
      refine ⟨?_⟩
      simp only [slotsOf_some, slotsOf_none, slotsOf_nil, puts_cons, puts_nil, Nat.zero_add, Nat.reduceAdd]
      go_simp
      exact HK.out _ _ _ (by simp [slotsOf_some, slotsOf_none, slotsOf_nil, puts_cons, puts_nil, Act.put, r9]) hG rfl (fun j _ _ _ _ h => h)
    · intro u W hG hd K hK
      have r10 : u 10 = .bool true := hd 10 (by decide) (.inl rfl)
      have hc := keepC hG k0
      have hc2 := keepC hG k1
      have HK := Lib.hid hK
      clear hK hd
      refine ⟨?_⟩
      simp only [slotsOf_some, slotsOf_none, slotsOf_nil, puts_cons, puts_nil, Nat.zero_add, Nat.reduceAdd]
      go_simp
      exact HK.out _ _ _ (by simp [slotsOf_some, slotsOf_none, slotsOf_nil, puts_cons, puts_nil, Act.put, r10]) hG rfl (fun j _ _ _ _ h => h)
    · intro u W hG hd K hK
      have r10 : u 10 = .bool true := hd 10 (by decide) (.inl rfl)
      have q0 := keepC hG (hcs 0 (by decide))
      have q1 := keepC hG (hcs 1 (by decide))
      have q2 := keepC hG (hcs 2 (by decide))
      have q3 := keepC hG (hcs 3 (by decide))
      have q4 := keepC hG (hcs 4 (by decide))
      have q5 := keepC hG (hcs 5 (by decide))
      have q6 := keepC hG (hcs 6 (by decide))
      have q7 := keepC hG (hcs 7 (by decide))
      have HK := Lib.hid hK
      clear hK hd
      refine ⟨?_⟩
      simp only [slotsOf_some, slotsOf_none, slotsOf_nil, puts_cons, puts_nil, Nat.zero_add, Nat.reduceAdd]
      go_simp
      exact HK.out _ _ _ (by simp [slotsOf_some, slotsOf_none, slotsOf_nil, puts_cons, puts_nil, Act.put, r10, u8s]) hG rfl (fun j _ _ _ _ h => h)
    · intro u W hG hd K hK
      have r10 : u 10 = .bool true := hd 10 (by decide) (.inl rfl)
      have HK := Lib.hid hK
      clear hK hd
      refine ⟨?_⟩
      simp only [slotsOf_some, slotsOf_none, slotsOf_nil, puts_cons, puts_nil, Nat.zero_add, Nat.reduceAdd]
      go_simp
      exact HK.out _ _ _ (by simp [slotsOf_some, slotsOf_none, slotsOf_nil, puts_cons, puts_nil, Act.put, r10]) hG rfl (fun j _ _ _ _ h => h)
    · intro u W hG hd K hK
      have r10 : u 10 = .bool true := hd 10 (by decide) (.inl rfl)
      have r11 : u 11 = .agg #[.slice a v.length c, .slice b l.length d] := hd 11 (by decide) (.inl rfl)
      have r12 : u 12 = .agg (u8s f) := hd 12 (by decide) (.inl rfl)
      have r13 : u 13 = .int .u64 x0 := hd 13 (by decide) (.inl rfl)
      have HK := Lib.hid hK
      clear hK hd
      refine ⟨?_⟩
      simp only [slotsOf_some, slotsOf_none, slotsOf_nil, puts_cons, puts_nil, Nat.zero_add, Nat.reduceAdd]
      go_simp
      refine (HE W (h.below hG)).mono ?_
      rintro e w' ⟨rfl, hb'⟩
      exact HK.out _ _ _ (by simp [slotsOf_some, slotsOf_none, slotsOf_nil, puts_cons, puts_nil, Act.put, r10, r11, r12, r13]) (bTrans hG hb') rfl (fun j _ _ _ _ h => lcR_pure j _ h)
    · intro u W hG hd K hK
      have r10 : u 10 = .bool true := hd 10 (by decide) (.inl rfl)
      have hc := keepC hG k0
      have hc2 := keepC hG k1
      have HK := Lib.hid hK
      clear hK hd
      refine ⟨?_⟩
      simp only [slotsOf_some, slotsOf_none, slotsOf_nil, puts_cons, puts_nil, Nat.zero_add, Nat.reduceAdd]
      go_simp
      exact HK.out _ _ _ (by simp [slotsOf_some, slotsOf_none, slotsOf_nil, puts_cons, puts_nil, Act.put, r10]) hG rfl (fun j _ _ _ _ h => h)
    · intro u W hG hd K hK
      have r10 : u 10 = .bool true := hd 10 (by decide) (.inl rfl)
      have q0 := keepC hG (hcs 0 (by decide))
      have q1 := keepC hG (hcs 1 (by decide))
      have q2 := keepC hG (hcs 2 (by decide))
      have q3 := keepC hG (hcs 3 (by decide))
      have q4 := keepC hG (hcs 4 (by decide))
      have q5 := keepC hG (hcs 5 (by decide))
      have q6 := keepC hG (hcs 6 (by decide))
      have q7 := keepC hG (hcs 7 (by decide))
      have HK := Lib.hid hK
      clear hK hd
      refine ⟨?_⟩
      simp only [slotsOf_some, slotsOf_none, slotsOf_nil, puts_cons, puts_nil, Nat.zero_add, Nat.reduceAdd]
      go_simp
      exact HK.out _ _ _ (by simp [slotsOf_some, slotsOf_none, slotsOf_nil, puts_cons, puts_nil, Act.put, r10, u8s]) hG rfl (fun j _ _ _ _ h => h)
    · intro u W hG hd K hK
      have r10 : u 10 = .bool true := hd 10 (by decide) (.inl rfl)
      have HK := Lib.hid hK
      clear hK hd
      refine ⟨?_⟩
      simp only [slotsOf_some, slotsOf_none, slotsOf_nil, puts_cons, puts_nil, Nat.zero_add, Nat.reduceAdd]
      go_simp
      exact HK.out _ _ _ (by simp [slotsOf_some, slotsOf_none, slotsOf_nil, puts_cons, puts_nil, Act.put, r10]) hG rfl (fun j _ _ _ _ h => h)
    · intro u W hG hd K hK
      have r10 : u 10 = .bool true := hd 10 (by decide) (.inl rfl)
      have r15 : u 15 = .agg #[.slice a v.length c, .slice b l.length d] := hd 15 (by decide) (.inl rfl)
      have r16 : u 16 = .agg (u8s f) := hd 16 (by decide) (.inl rfl)
      have r17 : u 17 = .int .u64 x0 := hd 17 (by decide) (.inl rfl)
      have HK := Lib.hid hK
      clear hK hd
      refine ⟨?_⟩
      simp only [slotsOf_some, slotsOf_none, slotsOf_nil, puts_cons, puts_nil, Nat.zero_add, Nat.reduceAdd]
      go_simp
      refine (RE W (h.below hG)).mono ?_
      rintro e w' ⟨rfl, hb'⟩
      exact HK.out _ _ _ (by simp [slotsOf_some, slotsOf_none, slotsOf_nil, puts_cons, puts_nil, Act.put, r10, r15, r16, r17]) (bTrans hG hb') rfl (fun j _ _ _ _ h => lcR_pure j _ h)
    · intro u W hG hd K hK
      have r10 : u 10 = .bool true := hd 10 (by decide) (.inl rfl)
      have r14 : u 14 = .bool z := hd 14 (by decide) (.inl rfl)
      have r18 : u 18 = .bool z := hd 18 (by decide) (.inl rfl)
      have HK := Lib.hid hK
      clear hK hd
      refine ⟨?_⟩
      simp only [slotsOf_some, slotsOf_none, slotsOf_nil, puts_cons, puts_nil, Nat.zero_add, Nat.reduceAdd]
      go_simp
      exact HK.out _ _ _ (by simp [slotsOf_some, slotsOf_none, slotsOf_nil, puts_cons, puts_nil, Act.put, r10, r14, r18]) hG rfl (fun j _ _ _ _ h => h)
    · intro u W hG hd K hK
      have r10 : u 10 = .bool true := hd 10 (by decide) (.inl rfl)
      have r19 : u 19 = .bool true := hd 19 (by decide) (.inl rfl)
      have HK := Lib.hid hK
      clear hK hd
      refine ⟨?_⟩
      simp only [slotsOf_some, slotsOf_none, slotsOf_nil, puts_cons, puts_nil, Nat.zero_add, Nat.reduceAdd]
      go_simp
      exact HK.out _ _ _ (by simp [slotsOf_some, slotsOf_none, slotsOf_nil, puts_cons, puts_nil, Act.put, r10, r19]) hG rfl (fun j _ _ _ _ h => h)
    · intro u W hG hd K hK
      have r20 : u 20 = .bool true := hd 20 (by decide) (.inl rfl)
      have HK := Lib.hid hK
      clear hK hd
      refine ⟨?_⟩
      simp only [slotsOf_some, slotsOf_none, slotsOf_nil, puts_cons, puts_nil, Nat.zero_add, Nat.reduceAdd]
      go_simp
      exact HK.out _ _ _ (by simp [slotsOf_some, slotsOf_none, slotsOf_nil, puts_cons, puts_nil, Act.put, r20]) hG rfl (fun j _ _ _ _ h => h)
  case hend =>
    intro u W hG hR
    have r21 : u 21 = .bool true := hR 21 (by decide) rfl
    clear hR
    have hbr2 := bTrans hb hG
    clear hcs k0 k1 h hG AL CO RC HE RE
    simp only [slotsOf_some, slotsOf_none, slotsOf_nil, puts_cons, puts_nil, Nat.zero_add, Nat.reduceAdd]
    simp [Act.put, r21]
    go_wp2
    go_ret
    exact ⟨rfl, hbr2⟩
end Go.Proofs.Ytinkbiinbfbjgaa

/- Contract of the reference's Committed. -/
import Derived.Test.YtinkbiinbfbjgaaDRepl
import Derived.IntWalk
namespace Go.Proofs.Ytinkbiinbfbjgaa
open Go.RowKit
set_option linter.unusedVariables false
set_option linter.unusedSimpArgs false
/-- What the operations of the test of the reference's Committed leave. -/
def rcR (g : Nat) (v l : List Int) (a b : Option Addr) (c d : Nat) (f : Nat → Int) (i : Nat) (best : Int) (q : Nat) (z : Bool) : Nat → Value → World → Prop
  | 0, x, _ => x = .bool true
  | 1, x, _ => x = .bool true
  | 2, x, _ => x = .int .i64 (i : Nat)
  | 3, x, _ => x = .pointer (some ⟨g + 1, i, none⟩)
  | 4, x, _ => x = .int .u64 (f i)
  | 5, x, _ => x = .int .u64 best
  | 6, x, _ => x = .bool true
  | 7, x, _ => x = .bool true
  | 8, x, _ => x = .bool true
  | 9, x, _ => x = .agg #[.slice a v.length c, .slice b l.length d]
  | 10, x, _ => x = .agg (u8s f)
  | 11, x, _ => x = .int .i64 (i : Nat)
  | 12, x, _ => x = .pointer (some ⟨g + 1, i, none⟩)
  | 13, x, _ => x = .int .u64 (f i)
  | 14, x, _ => x = .int .i64 (q : Nat)
  | 15, x, _ => x = .int .i64 (2 * (q : Nat) : Int)
  | 16, x, _ => x = .pointer (some ⟨g, 0, none⟩)
  | 17, x, _ => x = .slice a v.length c
  | 18, x, _ => x = .int .i64 (v.length : Nat)
  | 19, x, _ => x = .bool z
  | 20, x, _ => x = .bool z
  | _, _, _ => True
theorem rcR_pure {g : Nat} {v l : List Int} {a b : Option Addr} {c d : Nat} {f : Nat → Int} {i : Nat} {best : Int} {q : Nat} {z : Bool} (j : Nat) (x : Value) {W W' : World} (h : rcR g v l a b c d f i best q z j x W) : rcR g v l a b c d f i best q z j x W' := by
  match j, h with
  | 0, h => exact h
  | 1, h => exact h
  | 2, h => exact h
  | 3, h => exact h
  | 4, h => exact h
  | 5, h => exact h
  | 6, h => exact h
  | 7, h => exact h
  | 8, h => exact h
  | 9, h => exact h
  | 10, h => exact h
  | 11, h => exact h
  | 12, h => exact h
  | 13, h => exact h
  | 14, h => exact h
  | 15, h => exact h
  | 16, h => exact h
  | 17, h => exact h
  | 18, h => exact h
  | 19, h => exact h
  | 20, h => exact h
  | _ + 21, _ => trivial

theorem bestTo_succ (f : Nat → Int) (v : List Int) (i : Nat) : bestTo f v (i + 1) = if (i : Int) ∈ v ∧ bestTo f v i < f i ∧ v.length < 2 * cntGe (vals f v) (f i) then f i else bestTo f v i := rfl

set_option maxRecDepth 100000 in
set_option maxHeartbeats 1000000 in
theorem rCommitted_calls (v l : List Int) (a b : Option Addr) (c d : Nat) (f : Nat → Int) (w : World) (h : Ints w .i64 a v) (hl : v.length ≤ 1048576) :
    Calls Try.prog 37 #[.agg #[.slice a v.length c, .slice b l.length d], .agg (u8s f)] w fun e w' => e = .returned (.int .u64 (bestTo f v 8)) ∧ Below w.heap.size w w' := by
  have hb := bAlloc (bAlloc (Below.refl w.heap.size w) (.cells #[.slice a v.length c, .slice b l.length d] 39)) (.cells (u8s f) 59)
  have k0 : ((w.alloc (.cells #[.slice a v.length c, .slice b l.length d] 39)).alloc (.cells (u8s f) 59)).cell? ⟨w.heap.size, 0, none⟩ = some (.slice a v.length c) := keepC (bAlloc (Below.refl _ _) _) (by rw [cell_at (heap_alloc_new w _)]; rfl)
  have k1 : ((w.alloc (.cells #[.slice a v.length c, .slice b l.length d] 39)).alloc (.cells (u8s f) 59)).cell? ⟨w.heap.size, 1, none⟩ = some (.slice b l.length d) := keepC (bAlloc (Below.refl _ _) _) (by rw [cell_at (heap_alloc_new w _)]; rfl)
  have hn := heap_alloc_new (w.alloc (.cells #[.slice a v.length c, .slice b l.length d] 39)) (.cells (u8s f) 59)
  rw [World.size_alloc] at hn
  have hcs : ∀ k, k < 8 → ((w.alloc (.cells #[.slice a v.length c, .slice b l.length d] 39)).alloc (.cells (u8s f) 59)).cell? ⟨w.heap.size + 1, k, none⟩ = some (.int .u64 (f k)) := fun k hk => u8s_cell hn k hk
  (replace h := Ints.below h hb)
  clear hn
  go_enter Try.func37, Try.ntmps37
  unfold u8s
  go_wp2_with fail
  rw [show #[Value.int .u64 (f 0), .int .u64 (f 1), .int .u64 (f 2), .int .u64 (f 3), .int .u64 (f 4), .int .u64 (f 5), .int .u64 (f 6), .int .u64 (f 7)] = u8s f from rfl] at *
  generalize ((w.alloc (.cells #[.slice a v.length c, .slice b l.length d] 39)).alloc (.cells (u8s f) 59)) = w1 at *
  go_loopw [5, 6] (fun s5 i wr => ∃ k : Nat, k ≤ 8 ∧ i = .int .i64 k ∧ s5 = .int .u64 (bestTo f v k) ∧ Below w1.heap.size w1 wr) (fun _ i _ => 8 - (intOf i).toNat)
  case atStart => exact ⟨0, by omega, rfl, rfl, Below.refl _ _⟩
  case round =>
    obtain ⟨k, hk, rfl, rfl, hbr⟩ := hrel
    (replace h := Ints.below h hbr; replace k0 := keepC hbr k0; replace k1 := keepC hbr k1)
    replace hcs := fun k hk => keepC hbr (hcs k hk)
    by_cases hlt : k < 8
    · have I1 := In_calls v a c (k : Int) wr h (by omega)
      have ci := hcs k hlt
      have hs := bestTo_succ f v k
      have hq := cntGe_le (vals f v) (f k)
      rw [vals_len] at hq
      have RH := fun w' h' => rHas17_calls v l a b c d f (f k) w' h' hl
      generalize bestTo f v k = best at *
      generalize cntGe (vals f v) (f k) = q at *
      have HS := Lib.hid hs
      clear hs
      by_cases hin : (k : Int) ∈ v
      · rw [show decide ((k : Int) ∈ v) = true from decide_eq_true hin] at I1
        go_wp2_with fail
        refine (I1).mono ?_
        rintro e w' ⟨rfl, rfl⟩
        by_cases hgt : best < f k
        · obtain ⟨z, hz⟩ : ∃ z, z = decide ((v.length : Int) < 2 * (q : Int)) := ⟨_, rfl⟩
          have HZ := Lib.hid hz
          have hz' : decide ((v.length : Int) < 2 * (q : Int)) = z := hz.symm
          clear hz I1
          go_wp2_with fail
          refine wp_region_res (by kernel_rfl) (fun W => Below wr.heap.size wr W) (rcR w.heap.size v l a b c d f k best q z) (fun _ => none) (by decide) (by decide) ((bDrew (Below.refl _ _))) ?hst ?hend
          case hst =>
            iterate 21 (with_reducible refine resSteps_cons ?_ ?_; rotate_left)
            · exact resSteps_nil
            · intro u W hG hd K hK
              have HK := Lib.hid hK
              clear hK hd
              refine ⟨?_⟩
              simp only [slotsOf_some, slotsOf_none, slotsOf_nil, puts_cons, puts_nil, Nat.zero_add, Nat.reduceAdd]
              go_simp
              exact HK.out _ _ _ (by simp [slotsOf_some, slotsOf_none, slotsOf_nil, puts_cons, puts_nil, Act.put, -Function.const_apply]) hG rfl (fun j _ _ _ _ h => h)
            · intro u W hG hd K hK
              have r0 : u 0 = .bool true := hd 0 (by decide) (.inl rfl)
              have HK := Lib.hid hK
              clear hK hd
              refine ⟨?_⟩
              simp only [slotsOf_some, slotsOf_none, slotsOf_nil, puts_cons, puts_nil, Nat.zero_add, Nat.reduceAdd]
              go_simp
              exact HK.out _ _ _ (by simp [slotsOf_some, slotsOf_none, slotsOf_nil, puts_cons, puts_nil, Act.put, r0]) hG rfl (fun j _ _ _ _ h => h)
            · intro u W hG hd K hK
              have r1 : u 1 = .bool true := hd 1 (by decide) (.inl rfl)
              have HK := Lib.hid hK
              clear hK hd
              refine ⟨?_⟩
              simp only [slotsOf_some, slotsOf_none, slotsOf_nil, puts_cons, puts_nil, Nat.zero_add, Nat.reduceAdd]
              go_simp
              exact HK.out _ _ _ (by simp [slotsOf_some, slotsOf_none, slotsOf_nil, puts_cons, puts_nil, Act.put, r1]) hG rfl (fun j _ _ _ _ h => h)
            · intro u W hG hd K hK
              have r1 : u 1 = .bool true := hd 1 (by decide) (.inl rfl)
              have r2 : u 2 = .int .i64 (k : Nat) := hd 2 (by decide) (.inl rfl)
              have HK := Lib.hid hK
              clear hK hd
              refine ⟨?_⟩
              simp only [slotsOf_some, slotsOf_none, slotsOf_nil, puts_cons, puts_nil, Nat.zero_add, Nat.reduceAdd]
              go_simp
              exact HK.out _ _ _ (by simp [slotsOf_some, slotsOf_none, slotsOf_nil, puts_cons, puts_nil, Act.put, r1, r2]) hG rfl (fun j _ _ _ _ h => h)
            · intro u W hG hd K hK
              have r1 : u 1 = .bool true := hd 1 (by decide) (.inl rfl)
              have r3 : u 3 = .pointer (some ⟨w.heap.size + 1, k, none⟩) := hd 3 (by decide) (.inl rfl)
              have hc := keepC hG ci
              have HK := Lib.hid hK
              clear hK hd
              refine ⟨?_⟩
              simp only [slotsOf_some, slotsOf_none, slotsOf_nil, puts_cons, puts_nil, Nat.zero_add, Nat.reduceAdd]
              go_simp
              exact HK.out _ _ _ (by simp [slotsOf_some, slotsOf_none, slotsOf_nil, puts_cons, puts_nil, Act.put, r1, r3]) hG rfl (fun j _ _ _ _ h => h)
            · intro u W hG hd K hK
              have r1 : u 1 = .bool true := hd 1 (by decide) (.inl rfl)
              have HK := Lib.hid hK
              clear hK hd
              refine ⟨?_⟩
              simp only [slotsOf_some, slotsOf_none, slotsOf_nil, puts_cons, puts_nil, Nat.zero_add, Nat.reduceAdd]
              go_simp
              exact HK.out _ _ _ (by simp [slotsOf_some, slotsOf_none, slotsOf_nil, puts_cons, puts_nil, Act.put, r1]) hG rfl (fun j _ _ _ _ h => h)
            · intro u W hG hd K hK
              have r1 : u 1 = .bool true := hd 1 (by decide) (.inl rfl)
              have r4 : u 4 = .int .u64 (f k) := hd 4 (by decide) (.inl rfl)
              have r5 : u 5 = .int .u64 best := hd 5 (by decide) (.inl rfl)
              have HK := Lib.hid hK
              clear hK hd
              refine ⟨?_⟩
              simp only [slotsOf_some, slotsOf_none, slotsOf_nil, puts_cons, puts_nil, Nat.zero_add, Nat.reduceAdd]
              go_simp
              exact HK.out _ _ _ (by simp [slotsOf_some, slotsOf_none, slotsOf_nil, puts_cons, puts_nil, Act.put, r1, r4, r5]) hG rfl (fun j _ _ _ _ h => h)
            · intro u W hG hd K hK
              have r1 : u 1 = .bool true := hd 1 (by decide) (.inl rfl)
              have r6 : u 6 = .bool true := hd 6 (by decide) (.inl rfl)
              have HK := Lib.hid hK
              clear hK hd
              refine ⟨?_⟩
              simp only [slotsOf_some, slotsOf_none, slotsOf_nil, puts_cons, puts_nil, Nat.zero_add, Nat.reduceAdd]
              go_simp
              exact HK.out _ _ _ (by simp [slotsOf_some, slotsOf_none, slotsOf_nil, puts_cons, puts_nil, Act.put, r1, r6]) hG rfl (fun j _ _ _ _ h => h)
            · intro u W hG hd K hK
              have r7 : u 7 = .bool true := hd 7 (by decide) (.inl rfl)
              have HK := Lib.hid hK
              clear hK hd
              refine ⟨?_⟩
              simp only [slotsOf_some, slotsOf_none, slotsOf_nil, puts_cons, puts_nil, Nat.zero_add, Nat.reduceAdd]
              go_simp
              exact HK.out _ _ _ (by simp [slotsOf_some, slotsOf_none, slotsOf_nil, puts_cons, puts_nil, Act.put, r7]) hG rfl (fun j _ _ _ _ h => h)
            · intro u W hG hd K hK
              have r8 : u 8 = .bool true := hd 8 (by decide) (.inl rfl)
              have hc := keepC hG k0
              have hc2 := keepC hG k1
              have HK := Lib.hid hK
              clear hK hd
              refine ⟨?_⟩
              simp only [slotsOf_some, slotsOf_none, slotsOf_nil, puts_cons, puts_nil, Nat.zero_add, Nat.reduceAdd]
              go_simp
              exact HK.out _ _ _ (by simp [slotsOf_some, slotsOf_none, slotsOf_nil, puts_cons, puts_nil, Act.put, r8]) hG rfl (fun j _ _ _ _ h => h)
            · intro u W hG hd K hK
              have r8 : u 8 = .bool true := hd 8 (by decide) (.inl rfl)
              have q0 := keepC hG (hcs 0 (by decide))
              have q1 := keepC hG (hcs 1 (by decide))
              have q2 := keepC hG (hcs 2 (by decide))
              have q3 := keepC hG (hcs 3 (by decide))
              have q4 := keepC hG (hcs 4 (by decide))
              have q5 := keepC hG (hcs 5 (by decide))
              have q6 := keepC hG (hcs 6 (by decide))
              have q7 := keepC hG (hcs 7 (by decide))
              have HK := Lib.hid hK
              clear hK hd
              refine ⟨?_⟩
              simp only [slotsOf_some, slotsOf_none, slotsOf_nil, puts_cons, puts_nil, Nat.zero_add, Nat.reduceAdd]
              go_simp
              exact HK.out _ _ _ (by simp [slotsOf_some, slotsOf_none, slotsOf_nil, puts_cons, puts_nil, Act.put, r8, u8s]) hG rfl (fun j _ _ _ _ h => h)
            · intro u W hG hd K hK
              have r8 : u 8 = .bool true := hd 8 (by decide) (.inl rfl)
              have HK := Lib.hid hK
              clear hK hd
              refine ⟨?_⟩
              simp only [slotsOf_some, slotsOf_none, slotsOf_nil, puts_cons, puts_nil, Nat.zero_add, Nat.reduceAdd]
              go_simp
              exact HK.out _ _ _ (by simp [slotsOf_some, slotsOf_none, slotsOf_nil, puts_cons, puts_nil, Act.put, r8]) hG rfl (fun j _ _ _ _ h => h)
            · intro u W hG hd K hK
              have r8 : u 8 = .bool true := hd 8 (by decide) (.inl rfl)
              have r11 : u 11 = .int .i64 (k : Nat) := hd 11 (by decide) (.inl rfl)
              have HK := Lib.hid hK
              clear hK hd
              refine ⟨?_⟩
              simp only [slotsOf_some, slotsOf_none, slotsOf_nil, puts_cons, puts_nil, Nat.zero_add, Nat.reduceAdd]
              go_simp
              exact HK.out _ _ _ (by simp [slotsOf_some, slotsOf_none, slotsOf_nil, puts_cons, puts_nil, Act.put, r8, r11]) hG rfl (fun j _ _ _ _ h => h)
            · intro u W hG hd K hK
              have r8 : u 8 = .bool true := hd 8 (by decide) (.inl rfl)
              have r12 : u 12 = .pointer (some ⟨w.heap.size + 1, k, none⟩) := hd 12 (by decide) (.inl rfl)
              have hc := keepC hG ci
              have HK := Lib.hid hK
              clear hK hd
              refine ⟨?_⟩
              simp only [slotsOf_some, slotsOf_none, slotsOf_nil, puts_cons, puts_nil, Nat.zero_add, Nat.reduceAdd]
              go_simp
              exact HK.out _ _ _ (by simp [slotsOf_some, slotsOf_none, slotsOf_nil, puts_cons, puts_nil, Act.put, r8, r12]) hG rfl (fun j _ _ _ _ h => h)
            · intro u W hG hd K hK
              have r8 : u 8 = .bool true := hd 8 (by decide) (.inl rfl)
              have r9 : u 9 = .agg #[.slice a v.length c, .slice b l.length d] := hd 9 (by decide) (.inl rfl)
              have r10 : u 10 = .agg (u8s f) := hd 10 (by decide) (.inl rfl)
              have r13 : u 13 = .int .u64 (f k) := hd 13 (by decide) (.inl rfl)
              have HK := Lib.hid hK
              clear hK hd
              refine ⟨?_⟩
              simp only [slotsOf_some, slotsOf_none, slotsOf_nil, puts_cons, puts_nil, Nat.zero_add, Nat.reduceAdd]
              go_simp
              refine (RH W (h.below hG)).mono ?_
              rintro e w' ⟨rfl, hb'⟩
              exact HK.out _ _ _ (by simp [slotsOf_some, slotsOf_none, slotsOf_nil, puts_cons, puts_nil, Act.put, r8, r9, r10, r13]) (bTrans hG hb') rfl (fun j _ _ _ _ h => rcR_pure j _ h)
            · intro u W hG hd K hK
              have r8 : u 8 = .bool true := hd 8 (by decide) (.inl rfl)
              have r14 : u 14 = .int .i64 (q : Nat) := hd 14 (by decide) (.inl rfl)
              have hw : IntKind.i64.wrap (2 * (q : Int)) = 2 * (q : Int) := IntWalk.i64_in _ (by omega)
              have HK := Lib.hid hK
              clear hK hd
              refine ⟨?_⟩
              simp only [slotsOf_some, slotsOf_none, slotsOf_nil, puts_cons, puts_nil, Nat.zero_add, Nat.reduceAdd]
              go_simp
              exact HK.out _ _ _ (by simp [slotsOf_some, slotsOf_none, slotsOf_nil, puts_cons, puts_nil, Act.put, r8, r14, hw]) hG rfl (fun j _ _ _ _ h => h)
            · intro u W hG hd K hK
              have r8 : u 8 = .bool true := hd 8 (by decide) (.inl rfl)
              have HK := Lib.hid hK
              clear hK hd
              refine ⟨?_⟩
              simp only [slotsOf_some, slotsOf_none, slotsOf_nil, puts_cons, puts_nil, Nat.zero_add, Nat.reduceAdd]
              go_simp
              exact HK.out _ _ _ (by simp [slotsOf_some, slotsOf_none, slotsOf_nil, puts_cons, puts_nil, Act.put, r8]) hG rfl (fun j _ _ _ _ h => h)
            · intro u W hG hd K hK
              have r8 : u 8 = .bool true := hd 8 (by decide) (.inl rfl)
              have r16 : u 16 = .pointer (some ⟨w.heap.size, 0, none⟩) := hd 16 (by decide) (.inl rfl)
              have hc := keepC hG k0
              have HK := Lib.hid hK
              clear hK hd
              refine ⟨?_⟩
              simp only [slotsOf_some, slotsOf_none, slotsOf_nil, puts_cons, puts_nil, Nat.zero_add, Nat.reduceAdd]
              go_simp
              exact HK.out _ _ _ (by simp [slotsOf_some, slotsOf_none, slotsOf_nil, puts_cons, puts_nil, Act.put, r8, r16]) hG rfl (fun j _ _ _ _ h => h)
            · intro u W hG hd K hK
              have r8 : u 8 = .bool true := hd 8 (by decide) (.inl rfl)
              have r17 : u 17 = .slice a v.length c := hd 17 (by decide) (.inl rfl)
              have HK := Lib.hid hK
              clear hK hd
              refine ⟨?_⟩
              simp only [slotsOf_some, slotsOf_none, slotsOf_nil, puts_cons, puts_nil, Nat.zero_add, Nat.reduceAdd]
              go_simp
              exact HK.out _ _ _ (by simp [slotsOf_some, slotsOf_none, slotsOf_nil, puts_cons, puts_nil, Act.put, r8, r17]) hG rfl (fun j _ _ _ _ h => h)
            · intro u W hG hd K hK
              have r8 : u 8 = .bool true := hd 8 (by decide) (.inl rfl)
              have r15 : u 15 = .int .i64 (2 * (q : Nat) : Int) := hd 15 (by decide) (.inl rfl)
              have r18 : u 18 = .int .i64 (v.length : Nat) := hd 18 (by decide) (.inl rfl)
              have HK := Lib.hid hK
              clear hK hd
              refine ⟨?_⟩
              simp only [slotsOf_some, slotsOf_none, slotsOf_nil, puts_cons, puts_nil, Nat.zero_add, Nat.reduceAdd]
              go_simp
              exact HK.out _ _ _ (by simp [slotsOf_some, slotsOf_none, slotsOf_nil, puts_cons, puts_nil, Act.put, r8, r15, r18]) hG rfl (fun j _ _ _ _ h => h)
            · intro u W hG hd K hK
              have r8 : u 8 = .bool true := hd 8 (by decide) (.inl rfl)
              have r19 : u 19 = .bool z := hd 19 (by decide) (.inl rfl)
              have HK := Lib.hid hK
              clear hK hd
              refine ⟨?_⟩
              simp only [slotsOf_some, slotsOf_none, slotsOf_nil, puts_cons, puts_nil, Nat.zero_add, Nat.reduceAdd]
              go_simp
              exact HK.out _ _ _ (by simp [slotsOf_some, slotsOf_none, slotsOf_nil, puts_cons, puts_nil, Act.put, r8, r19]) hG rfl (fun j _ _ _ _ h => h)
          case hend =>
            intro u W hG hR
            have r20 : u 20 = .bool z := hR 20 (by decide) rfl
            clear hR
            have ci2 := keepC hG ci
            have hbr2 := bTrans hbr hG
            clear hcs RH ci k0 k1 h hG hz'
            simp only [slotsOf_some, slotsOf_none, slotsOf_nil, puts_cons, puts_nil, Nat.zero_add, Nat.reduceAdd]
            simp [Act.put, r20]
            cases z
            · go_wp2
              go_light
              exact ⟨⟨k + 1, by omega, by go_num, int_of (by rw [HS.out, if_neg (fun h => by have := HZ.out; simp at this; omega)]), hbr2⟩, by simp [intOf]; omega⟩
            · go_wp2
              go_light
              exact ⟨⟨k + 1, by omega, by go_num, int_of (by rw [HS.out, if_pos ⟨hin, hgt, by have := HZ.out; simp at this; omega⟩]), hbr2⟩, by simp [intOf]; omega⟩
        · have hg' : decide (best < f k) = false := decide_eq_false hgt
          have HGT := Lib.hid hgt
          clear hgt
          clear I1 hcs RH
          go_wp2_with fail
          go_quiet (fail)
          go_wp2
          go_light
          exact ⟨⟨k + 1, by omega, by go_num, int_of (by rw [HS.out, if_neg (fun h => by have h1 := HGT.out; have h2 := h.2.1; omega)]), (by first | exact hbr | exact bDrew hbr | exact bDrewN hbr _ | exact bDrewN (bDrew hbr) _)⟩, by simp [intOf]; omega⟩
      · rw [show decide ((k : Int) ∈ v) = false from decide_eq_false hin] at I1
        go_wp2_with fail
        refine (I1).mono ?_
        rintro e w' ⟨rfl, rfl⟩
        clear I1 hcs RH
        go_wp2_with fail
        go_quiet (fail)
        go_wp2
        go_light
        exact ⟨⟨k + 1, by omega, by go_num, int_of (by rw [HS.out, if_neg (fun h => hin h.1)]), (by first | exact hbr | exact bDrew hbr | exact bDrewN hbr _ | exact bDrewN (bDrew hbr) _)⟩, by simp [intOf]; omega⟩
    · have e8 : k = 8 := by omega
      subst e8
      clear hcs
      go_wp2
      go_ret
      exact ⟨rfl, bTrans hb hbr⟩

def rhR (g : Nat) (v l : List Int) (a b : Option Addr) (c d : Nat) (f : Nat → Int) (x0 : Int) (q : Nat) (z : Bool) : Nat → Value → World → Prop
  | 0, x, _ => x = .agg #[.slice a v.length c, .slice b l.length d]
  | 1, x, _ => x = .agg (u8s f)
  | 2, x, _ => x = .int .u64 x0
  | 3, x, _ => x = .int .i64 (q : Nat)
  | 4, x, _ => x = .int .i64 (2 * (q : Nat) : Int)
  | 5, x, _ => x = .pointer (some ⟨g, 0, none⟩)
  | 6, x, _ => x = .slice a v.length c
  | 7, x, _ => x = .int .i64 (v.length : Nat)
  | 8, x, _ => x = .bool z
  | 9, x, _ => x = .bool z
  | _, _, _ => True
theorem rhR_pure {g : Nat} {v l : List Int} {a b : Option Addr} {c d : Nat} {f : Nat → Int} {x0 : Int} {q : Nat} {z : Bool} (j : Nat) (x : Value) {W W' : World} (h : rhR g v l a b c d f x0 q z j x W) : rhR g v l a b c d f x0 q z j x W' := by
  match j, h with
  | 0, h => exact h
  | 1, h => exact h
  | 2, h => exact h
  | 3, h => exact h
  | 4, h => exact h
  | 5, h => exact h
  | 6, h => exact h
  | 7, h => exact h
  | 8, h => exact h
  | 9, h => exact h
  | _ + 10, _ => trivial

set_option maxRecDepth 100000 in
set_option maxHeartbeats 1000000 in
theorem rHeard_calls (v l : List Int) (a b : Option Addr) (c d : Nat) (f : Nat → Int) (x0 : Int) (w : World) (h : Ints w .i64 a v) (hl : v.length ≤ 1048576) :
    Calls Try.prog 39 #[.agg #[.slice a v.length c, .slice b l.length d], .agg (u8s f), .int .u64 x0] w fun e w' => e = .returned (.bool (decide ((v.length : Int) < 2 * (cntGe (vals f v) x0 : Int)))) ∧ Below w.heap.size w w' := by
  have hb := bAlloc (bAlloc (Below.refl w.heap.size w) (.cells #[.slice a v.length c, .slice b l.length d] 39)) (.cells (u8s f) 59)
  have k0 : ((w.alloc (.cells #[.slice a v.length c, .slice b l.length d] 39)).alloc (.cells (u8s f) 59)).cell? ⟨w.heap.size, 0, none⟩ = some (.slice a v.length c) := keepC (bAlloc (Below.refl _ _) _) (by rw [cell_at (heap_alloc_new w _)]; rfl)
  have k1 : ((w.alloc (.cells #[.slice a v.length c, .slice b l.length d] 39)).alloc (.cells (u8s f) 59)).cell? ⟨w.heap.size, 1, none⟩ = some (.slice b l.length d) := keepC (bAlloc (Below.refl _ _) _) (by rw [cell_at (heap_alloc_new w _)]; rfl)
  have hn := heap_alloc_new (w.alloc (.cells #[.slice a v.length c, .slice b l.length d] 39)) (.cells (u8s f) 59)
  rw [World.size_alloc] at hn
  have hcs : ∀ k, k < 8 → ((w.alloc (.cells #[.slice a v.length c, .slice b l.length d] 39)).alloc (.cells (u8s f) 59)).cell? ⟨w.heap.size + 1, k, none⟩ = some (.int .u64 (f k)) := fun k hk => u8s_cell hn k hk
  (replace h := Ints.below h hb)
  clear hn
  have hq := cntGe_le (vals f v) x0
  rw [vals_len] at hq
  have RH := fun w' h' => rHas17_calls v l a b c d f x0 w' h' hl
  obtain ⟨q, hqq⟩ : ∃ q, q = cntGe (vals f v) x0 := ⟨_, rfl⟩
  rw [← hqq] at hq RH
  obtain ⟨z, hz⟩ : ∃ z, z = decide ((v.length : Int) < 2 * (q : Int)) := ⟨_, rfl⟩
  have HZ : Hid (z = decide ((v.length : Int) < 2 * (cntGe (vals f v) x0 : Int))) := by rw [← hqq]; exact Lib.hid hz
  have hz' : decide ((v.length : Int) < 2 * (q : Int)) = z := hz.symm
  clear hz hqq
  go_enter Try.func39, Try.ntmps39
  unfold u8s
  go_wp2_with fail
  rw [show #[Value.int .u64 (f 0), .int .u64 (f 1), .int .u64 (f 2), .int .u64 (f 3), .int .u64 (f 4), .int .u64 (f 5), .int .u64 (f 6), .int .u64 (f 7)] = u8s f from rfl] at *
  generalize ((w.alloc (.cells #[.slice a v.length c, .slice b l.length d] 39)).alloc (.cells (u8s f) 59)) = w1 at *
  refine wp_region_res (by kernel_rfl) (fun W => Below w1.heap.size w1 W) (rhR w.heap.size v l a b c d f x0 q z) (fun _ => none) (by decide) (by decide) ((bDrew (Below.refl _ _))) ?hst ?hend
  case hst =>
    iterate 10 (with_reducible refine resSteps_cons ?_ ?_; rotate_left)
    · exact resSteps_nil
    · intro u W hG hd K hK
      have hc := keepC hG k0
      have hc2 := keepC hG k1
      have HK := Lib.hid hK
      clear hK hd
      refine ⟨?_⟩
      simp only [slotsOf_some, slotsOf_none, slotsOf_nil, puts_cons, puts_nil, Nat.zero_add, Nat.reduceAdd]
      go_simp
      exact HK.out _ _ _ (by simp [slotsOf_some, slotsOf_none, slotsOf_nil, puts_cons, puts_nil, Act.put, -Function.const_apply]) hG rfl (fun j _ _ _ _ h => h)
    · intro u W hG hd K hK
      have q0 := keepC hG (hcs 0 (by decide))
      have q1 := keepC hG (hcs 1 (by decide))
      have q2 := keepC hG (hcs 2 (by decide))
      have q3 := keepC hG (hcs 3 (by decide))
      have q4 := keepC hG (hcs 4 (by decide))
      have q5 := keepC hG (hcs 5 (by decide))
      have q6 := keepC hG (hcs 6 (by decide))
      have q7 := keepC hG (hcs 7 (by decide))
      have HK := Lib.hid hK
      clear hK hd
      refine ⟨?_⟩
      simp only [slotsOf_some, slotsOf_none, slotsOf_nil, puts_cons, puts_nil, Nat.zero_add, Nat.reduceAdd]
      go_simp
      exact HK.out _ _ _ (by simp [slotsOf_some, slotsOf_none, slotsOf_nil, puts_cons, puts_nil, Act.put, u8s]) hG rfl (fun j _ _ _ _ h => h)
    · intro u W hG hd K hK
      have HK := Lib.hid hK
      clear hK hd
      refine ⟨?_⟩
      simp only [slotsOf_some, slotsOf_none, slotsOf_nil, puts_cons, puts_nil, Nat.zero_add, Nat.reduceAdd]
      go_simp
      exact HK.out _ _ _ (by simp [slotsOf_some, slotsOf_none, slotsOf_nil, puts_cons, puts_nil, Act.put, -Function.const_apply]) hG rfl (fun j _ _ _ _ h => h)
    · intro u W hG hd K hK
      have r0 : u 0 = .agg #[.slice a v.length c, .slice b l.length d] := hd 0 (by decide) (.inl rfl)
      have r1 : u 1 = .agg (u8s f) := hd 1 (by decide) (.inl rfl)
      have r2 : u 2 = .int .u64 x0 := hd 2 (by decide) (.inl rfl)
      have HK := Lib.hid hK
      clear hK hd
      refine ⟨?_⟩
      simp only [slotsOf_some, slotsOf_none, slotsOf_nil, puts_cons, puts_nil, Nat.zero_add, Nat.reduceAdd]
      go_simp
      refine (RH W (h.below hG)).mono ?_
      rintro e w' ⟨rfl, hb'⟩
      exact HK.out _ _ _ (by simp [slotsOf_some, slotsOf_none, slotsOf_nil, puts_cons, puts_nil, Act.put, r0, r1, r2]) (bTrans hG hb') rfl (fun j _ _ _ _ h => rhR_pure j _ h)
    · intro u W hG hd K hK
      have r3 : u 3 = .int .i64 (q : Nat) := hd 3 (by decide) (.inl rfl)
      have hw : IntKind.i64.wrap (2 * (q : Int)) = 2 * (q : Int) := IntWalk.i64_in _ (by omega)
      have HK := Lib.hid hK
      clear hK hd
      refine ⟨?_⟩
      simp only [slotsOf_some, slotsOf_none, slotsOf_nil, puts_cons, puts_nil, Nat.zero_add, Nat.reduceAdd]
      go_simp
      exact HK.out _ _ _ (by simp [slotsOf_some, slotsOf_none, slotsOf_nil, puts_cons, puts_nil, Act.put, r3, hw]) hG rfl (fun j _ _ _ _ h => h)
    · intro u W hG hd K hK
      have HK := Lib.hid hK
      clear hK hd
      refine ⟨?_⟩
      simp only [slotsOf_some, slotsOf_none, slotsOf_nil, puts_cons, puts_nil, Nat.zero_add, Nat.reduceAdd]
      go_simp
      exact HK.out _ _ _ (by simp [slotsOf_some, slotsOf_none, slotsOf_nil, puts_cons, puts_nil, Act.put, -Function.const_apply]) hG rfl (fun j _ _ _ _ h => h)
    · intro u W hG hd K hK
      have r5 : u 5 = .pointer (some ⟨w.heap.size, 0, none⟩) := hd 5 (by decide) (.inl rfl)
      have hc := keepC hG k0
      have HK := Lib.hid hK
      clear hK hd
      refine ⟨?_⟩
      simp only [slotsOf_some, slotsOf_none, slotsOf_nil, puts_cons, puts_nil, Nat.zero_add, Nat.reduceAdd]
      go_simp
      exact HK.out _ _ _ (by simp [slotsOf_some, slotsOf_none, slotsOf_nil, puts_cons, puts_nil, Act.put, r5]) hG rfl (fun j _ _ _ _ h => h)
    · intro u W hG hd K hK
      have r6 : u 6 = .slice a v.length c := hd 6 (by decide) (.inl rfl)
      have HK := Lib.hid hK
      clear hK hd
      refine ⟨?_⟩
      simp only [slotsOf_some, slotsOf_none, slotsOf_nil, puts_cons, puts_nil, Nat.zero_add, Nat.reduceAdd]
      go_simp
      exact HK.out _ _ _ (by simp [slotsOf_some, slotsOf_none, slotsOf_nil, puts_cons, puts_nil, Act.put, r6]) hG rfl (fun j _ _ _ _ h => h)
    · intro u W hG hd K hK
      have r4 : u 4 = .int .i64 (2 * (q : Nat) : Int) := hd 4 (by decide) (.inl rfl)
      have r7 : u 7 = .int .i64 (v.length : Nat) := hd 7 (by decide) (.inl rfl)
      have HK := Lib.hid hK
      clear hK hd
      refine ⟨?_⟩
      simp only [slotsOf_some, slotsOf_none, slotsOf_nil, puts_cons, puts_nil, Nat.zero_add, Nat.reduceAdd]
      go_simp
      exact HK.out _ _ _ (by simp [slotsOf_some, slotsOf_none, slotsOf_nil, puts_cons, puts_nil, Act.put, r4, r7]) hG rfl (fun j _ _ _ _ h => h)
    · intro u W hG hd K hK
      have r8 : u 8 = .bool z := hd 8 (by decide) (.inl rfl)
      have HK := Lib.hid hK
      clear hK hd
      refine ⟨?_⟩
      simp only [slotsOf_some, slotsOf_none, slotsOf_nil, puts_cons, puts_nil, Nat.zero_add, Nat.reduceAdd]
      go_simp
      exact HK.out _ _ _ (by simp [slotsOf_some, slotsOf_none, slotsOf_nil, puts_cons, puts_nil, Act.put, r8]) hG rfl (fun j _ _ _ _ h => h)
  case hend =>
    intro u W hG hR
    have r9 : u 9 = .bool z := hR 9 (by decide) rfl
    clear hR
    have hbr2 := bTrans hb hG
    clear hcs RH k0 k1 h hG hz'
    simp only [slotsOf_some, slotsOf_none, slotsOf_nil, puts_cons, puts_nil, Nat.zero_add, Nat.reduceAdd]
    simp [Act.put, r9]
    go_wp2
    go_ret
    exact ⟨ret_of (bool_of HZ.out), hbr2⟩
end Go.Proofs.Ytinkbiinbfbjgaa

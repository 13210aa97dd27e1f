/- Contract of the law ConfigTells. -/
import Derived.Test.YtinkbiinbfbjgaaDAll
import Derived.Test.YtinkbiinbfbjgaaDSets
namespace Go.Proofs.Ytinkbiinbfbjgaa
open Go.RowKit
set_option linter.unusedVariables false
set_option linter.unusedSimpArgs false
def teR (v l ns : List Int) (a b x : Option Addr) (c d cx : Nat) (nd ce : Int) (z1 z2 z3 : Bool) : Nat → Value → World → Prop
  | 0, x_, _ => x_ = .agg #[.slice a v.length c, .slice b l.length d]
  | 1, x_, _ => x_ = .int .i64 ce
  | 2, x_, _ => x_ = .agg #[.slice a v.length c, .slice b l.length d]
  | 3, x_, _ => x_ = .int .i64 ce
  | 4, x_, _ => x_ = .bool true
  | 5, x_, _ => x_ = .bool true
  | 6, x_, _ => x_ = .agg #[.slice a v.length c, .slice b l.length d]
  | 7, x_, _ => x_ = .int .i64 nd
  | 8, x_, _ => x_ = .bool z1
  | 9, x_, _ => x_ = .agg #[.slice a v.length c, .slice b l.length d]
  | 10, x_, _ => x_ = .int .i64 nd
  | 11, x_, _ => x_ = .bool z1
  | 12, x_, _ => x_ = .bool true
  | 13, x_, _ => x_ = .bool true
  | 14, x_, _ => x_ = .bool true
  | 15, x_, _ => x_ = .agg #[.slice a v.length c, .slice b l.length d]
  | 16, x_, _ => x_ = .int .i64 nd
  | 17, x_, _ => x_ = .bool z2
  | 18, x_, _ => x_ = .agg #[.slice a v.length c, .slice b l.length d]
  | 19, x_, _ => x_ = .int .i64 nd
  | 20, x_, _ => x_ = .bool z2
  | 21, x_, _ => x_ = .bool true
  | 22, x_, _ => x_ = .bool true
  | 23, x_, _ => x_ = .bool true
  | 24, x_, _ => x_ = .agg #[.slice a v.length c, .slice b l.length d]
  | 25, x_, _ => x_ = .slice x ns.length cx
  | 26, x_, _ => x_ = .bool z3
  | 27, x_, _ => x_ = .agg #[.slice a v.length c, .slice b l.length d]
  | 28, x_, _ => x_ = .slice x ns.length cx
  | 29, x_, _ => x_ = .bool z3
  | 30, x_, _ => x_ = .bool true
  | 31, x_, _ => x_ = .bool true
  | 32, x_, _ => x_ = .bool true
  | _, _, _ => True
theorem teR_pure {v l ns : List Int} {a b x : Option Addr} {c d cx : Nat} {nd ce : Int} {z1 z2 z3 : Bool} (j : Nat) (x_ : Value) {W W' : World} (h : teR v l ns a b x c d cx nd ce z1 z2 z3 j x_ W) : teR v l ns a b x c d cx nd ce z1 z2 z3 j x_ W' := by
  match j, h with
  | 0, h => exact h
  | 1, h => exact h
  | 2, h => exact h
  | 3, h => exact h
  | 4, h => exact h
  | 5, h => exact h
  | 6, h => exact h
  | 7, h => exact h
  | 8, h => exact h
  | 9, h => exact h
  | 10, h => exact h
  | 11, h => exact h
  | 12, h => exact h
  | 13, h => exact h
  | 14, h => exact h
  | 15, h => exact h
  | 16, h => exact h
  | 17, h => exact h
  | 18, h => exact h
  | 19, h => exact h
  | 20, h => exact h
  | 21, h => exact h
  | 22, h => exact h
  | 23, h => exact h
  | 24, h => exact h
  | 25, h => exact h
  | 26, h => exact h
  | 27, h => exact h
  | 28, h => exact h
  | 29, h => exact h
  | 30, h => exact h
  | 31, h => exact h
  | 32, h => exact h
  | _ + 33, _ => trivial

set_option maxRecDepth 100000 in
set_option maxHeartbeats 1000000 in
theorem Tells_calls (v l ns : List Int) (a b x : Option Addr) (c d cx : Nat) (nd : Int) (w : World) (h : Ints w .i64 a v) (hl : v.length ≤ 1048576) (h2 : Ints w .i64 b l) (hm : l.length ≤ 1048576) (h3 : Ints w .i64 x ns) (hn : ns.length ≤ 1048576) :
    Calls Try.prog 15 #[.agg #[.slice a v.length c, .slice b l.length d], .int .i64 nd, .slice x ns.length cx] w fun e w' => e = .returned (.bool true) ∧ Below w.heap.size w w' := by
  have hb := bAlloc (Below.refl w.heap.size w) (.cells #[.slice a v.length c, .slice b l.length d] 39)
  have k0 : (w.alloc (.cells #[.slice a v.length c, .slice b l.length d] 39)).cell? ⟨w.heap.size, 0, none⟩ = some (.slice a v.length c) := by rw [cell_at (heap_alloc_new w _)]; rfl
  have k1 : (w.alloc (.cells #[.slice a v.length c, .slice b l.length d] 39)).cell? ⟨w.heap.size, 1, none⟩ = some (.slice b l.length d) := by rw [cell_at (heap_alloc_new w _)]; rfl
  (replace h := Ints.below h hb; replace h2 := Ints.below h2 hb; replace h3 := Ints.below h3 hb)
  have C1 := fun w' h' h'' => Check_calls v l a b c d w' h' (by omega) h'' (by omega)
  have C2 := fun w' h' h'' => rCheck_calls v l a b c d w' h' (by omega) h'' (by omega)
  have V1 := fun w' h' => Votes_calls v l a b c d nd w' h' (by omega)
  have V2 := fun w' h' => rVotes_calls v l a b c d nd w' h' (by omega)
  have H1 := fun w' h' h'' => Has_calls v l a b c d nd w' h' (by omega) h'' (by omega)
  have H2 := fun w' h' h'' => rHas_calls v l a b c d nd w' h' (by omega) h'' (by omega)
  have M1 := fun w' h' h'' => Majority_calls v l ns a b x c d cx w' h' (by omega) h'' (by omega)
  have M2 := fun w' h' h'' => rMajority_calls v l ns a b x c d cx w' h' (by omega) h'' (by omega)
  generalize checkE v l = ce at *
  generalize (decide (nd ∈ v) || decide (nd ∈ l)) = z2 at *
  generalize decide (nd ∈ v) = z1 at *
  generalize decide ((v.length : Int) < 2 * countIn v ns) = z3 at *
  go_enter Try.func15, Try.ntmps15
  go_wp2_with fail
  refine (All_calls v l a b c d _ h hl h2 hm).mono ?_
  rintro e w1 ⟨A1, C1', acc1, rfl, hU1, hi1, hb1⟩
  (replace h := Ints.below h hb1; replace h2 := Ints.below h2 hb1; replace h3 := Ints.below h3 hb1; replace k0 := keepC hb1 k0; replace k1 := keepC hb1 k1; replace hb := bTrans hb hb1)
  go_wp2_with fail
  refine (rAll_calls v l a b c d _ h (by omega) h2 (by omega)).mono ?_
  rintro e w2 ⟨A2, C2', acc2, rfl, hU2, hi2, hb2⟩
  (replace h := Ints.below h hb2; replace h2 := Ints.below h2 hb2; replace h3 := Ints.below h3 hb2; replace hi1 := Ints.below hi1 hb2; replace k0 := keepC hb2 k0; replace k1 := keepC hb2 k1; replace hb := bTrans hb hb2)
  have hal := hU1.2.2
  obtain rfl : acc1 = acc2 := sorted_ext hU1.1 hU2.1 fun y => by rw [hU1.2.1, hU2.2.1]
  have hall : acc1.length ≤ 2097152 := by have : (v ++ l).length = v.length + l.length := by simp
                                          omega
  clear hb1 hb2 hU1 hU2 hal
  go_wp2_with fail
  refine (alive14_calls _).mono ?_
  rintro e w3 ⟨rfl, hb3⟩
  (replace h := Ints.below h hb3; replace h2 := Ints.below h2 hb3; replace h3 := Ints.below h3 hb3; replace hi1 := Ints.below hi1 hb3; replace hi2 := Ints.below hi2 hb3; replace k0 := keepC hb3 k0; replace k1 := keepC hb3 k1; replace hb := bTrans hb hb3)
  clear hb3
  go_wp2_with fail
  go_loopw [25] (fun i wr => ∃ k : Nat, k ≤ acc1.length ∧ i = .int .i64 k ∧ Below w3.heap.size w3 wr) (fun i _ => acc1.length - (intOf i).toNat)
  case atStart => exact ⟨0, by omega, rfl, Below.refl _ _⟩
  case round =>
    obtain ⟨k, hk, rfl, hbr⟩ := hrel
    by_cases hlt : k < acc1.length
    · obtain ⟨g1, o1, rfl, _, hc1⟩ := hi1.open (by omega)
      obtain ⟨g2, o2, rfl, _, hc2⟩ := hi2.open (by omega)
      have q1 := keepC hbr (hc1 k hlt)
      have q2 := keepC hbr (hc2 k hlt)
      generalize acc1.getD k 0 = y at *
      have hkI : (k : Int) < (acc1.length : Int) := by omega
      clear hc1 hc2 hi1 hi2 h h2 h3 k0 k1 C1 C2 V1 V2 H1 H2 M1 M2
      go_wp2_with fail
      go_quiet (fail)
      go_wp2
      go_light
      exact ⟨⟨k + 1, by omega, by go_num, (by first | exact hbr | exact bDrew hbr | exact bDrewN hbr _ | exact bDrewN (bDrew hbr) _)⟩, by simp [intOf]; omega⟩
    · (replace h := Ints.below h hbr; replace h2 := Ints.below h2 hbr; replace h3 := Ints.below h3 hbr; replace k0 := keepC hbr k0; replace k1 := keepC hbr k1; replace hb := bTrans hb hbr)
      clear hi1 hi2 hbr
      go_wp2_with fail
      refine wp_region_res (by kernel_rfl) (fun W => Below wr.heap.size wr W) (teR v l ns a b x c d cx nd ce z1 z2 z3) (fun _ => none) (by decide) (by decide) ((bDrew (Below.refl _ _))) ?hst ?hend
      case hst =>
        iterate 33 (with_reducible refine resSteps_cons ?_ ?_; rotate_left)
        · exact resSteps_nil
        · intro u W hG hd K hK
          have hc := keepC hG k0
          have hc2 := keepC hG k1
          have HK := Lib.hid hK
          clear hK hd
          refine ⟨?_⟩
          simp only [slotsOf_some, slotsOf_none, slotsOf_nil, puts_cons, puts_nil, Nat.zero_add, Nat.reduceAdd]
          go_simp
          exact HK.out _ _ _ (by simp [slotsOf_some, slotsOf_none, slotsOf_nil, puts_cons, puts_nil, Act.put, -Function.const_apply]) hG rfl (fun j _ _ _ _ h => h)
        · intro u W hG hd K hK
          have r0 : u 0 = .agg #[.slice a v.length c, .slice b l.length d] := hd 0 (by decide) (.inl rfl)
          have HK := Lib.hid hK
          clear hK hd
          refine ⟨?_⟩
          simp only [slotsOf_some, slotsOf_none, slotsOf_nil, puts_cons, puts_nil, Nat.zero_add, Nat.reduceAdd]
          go_simp
          refine (C1 W (h.below hG) (h2.below hG)).mono ?_
          rintro e w' ⟨rfl, hb'⟩
          exact HK.out _ _ _ (by simp [slotsOf_some, slotsOf_none, slotsOf_nil, puts_cons, puts_nil, Act.put, r0]) (bTrans hG hb') rfl (fun j _ _ _ _ h => teR_pure j _ h)
        · intro u W hG hd K hK
          have hc := keepC hG k0
          have hc2 := keepC hG k1
          have HK := Lib.hid hK
          clear hK hd
          refine ⟨?_⟩
          simp only [slotsOf_some, slotsOf_none, slotsOf_nil, puts_cons, puts_nil, Nat.zero_add, Nat.reduceAdd]
          go_simp
          exact HK.out _ _ _ (by simp [slotsOf_some, slotsOf_none, slotsOf_nil, puts_cons, puts_nil, Act.put, -Function.const_apply]) hG rfl (fun j _ _ _ _ h => h)
        · intro u W hG hd K hK
          have r2 : u 2 = .agg #[.slice a v.length c, .slice b l.length d] := hd 2 (by decide) (.inl rfl)
          have HK := Lib.hid hK
          clear hK hd
          refine ⟨?_⟩
          simp only [slotsOf_some, slotsOf_none, slotsOf_nil, puts_cons, puts_nil, Nat.zero_add, Nat.reduceAdd]
          go_simp
          refine (C2 W (h.below hG) (h2.below hG)).mono ?_
          rintro e w' ⟨rfl, hb'⟩
          exact HK.out _ _ _ (by simp [slotsOf_some, slotsOf_none, slotsOf_nil, puts_cons, puts_nil, Act.put, r2]) (bTrans hG hb') rfl (fun j _ _ _ _ h => teR_pure j _ h)
        · intro u W hG hd K hK
          have r1 : u 1 = .int .i64 ce := hd 1 (by decide) (.inl rfl)
          have r3 : u 3 = .int .i64 ce := hd 3 (by decide) (.inl rfl)
          have HK := Lib.hid hK
          clear hK hd
          refine ⟨?_⟩
          simp only [slotsOf_some, slotsOf_none, slotsOf_nil, puts_cons, puts_nil, Nat.zero_add, Nat.reduceAdd]
          go_simp
          exact HK.out _ _ _ (by simp [slotsOf_some, slotsOf_none, slotsOf_nil, puts_cons, puts_nil, Act.put, r1, r3]) hG rfl (fun j _ _ _ _ h => h)
        · intro u W hG hd K hK
          have r4 : u 4 = .bool true := hd 4 (by decide) (.inl rfl)
          have HK := Lib.hid hK
          clear hK hd
          refine ⟨?_⟩
          simp only [slotsOf_some, slotsOf_none, slotsOf_nil, puts_cons, puts_nil, Nat.zero_add, Nat.reduceAdd]
          go_simp
          exact HK.out _ _ _ (by simp [slotsOf_some, slotsOf_none, slotsOf_nil, puts_cons, puts_nil, Act.put, r4]) hG rfl (fun j _ _ _ _ h => h)
        · intro u W hG hd K hK
          have r5 : u 5 = .bool true := hd 5 (by decide) (.inl rfl)
          have hc := keepC hG k0
          have hc2 := keepC hG k1
          have HK := Lib.hid hK
          clear hK hd
          refine ⟨?_⟩
          simp only [slotsOf_some, slotsOf_none, slotsOf_nil, puts_cons, puts_nil, Nat.zero_add, Nat.reduceAdd]
          go_simp
          exact HK.out _ _ _ (by simp [slotsOf_some, slotsOf_none, slotsOf_nil, puts_cons, puts_nil, Act.put, r5]) hG rfl (fun j _ _ _ _ h => h)
        · intro u W hG hd K hK
          have r5 : u 5 = .bool true := hd 5 (by decide) (.inl rfl)
          have HK := Lib.hid hK
          clear hK hd
          refine ⟨?_⟩
          simp only [slotsOf_some, slotsOf_none, slotsOf_nil, puts_cons, puts_nil, Nat.zero_add, Nat.reduceAdd]
          go_simp
          exact HK.out _ _ _ (by simp [slotsOf_some, slotsOf_none, slotsOf_nil, puts_cons, puts_nil, Act.put, r5]) hG rfl (fun j _ _ _ _ h => h)
        · intro u W hG hd K hK
          have r5 : u 5 = .bool true := hd 5 (by decide) (.inl rfl)
          have r6 : u 6 = .agg #[.slice a v.length c, .slice b l.length d] := hd 6 (by decide) (.inl rfl)
          have r7 : u 7 = .int .i64 nd := hd 7 (by decide) (.inl rfl)
          have HK := Lib.hid hK
          clear hK hd
          refine ⟨?_⟩
          simp only [slotsOf_some, slotsOf_none, slotsOf_nil, puts_cons, puts_nil, Nat.zero_add, Nat.reduceAdd]
          go_simp
          refine (V1 W (h.below hG)).mono ?_
          rintro e w' ⟨rfl, hb'⟩
          exact HK.out _ _ _ (by simp [slotsOf_some, slotsOf_none, slotsOf_nil, puts_cons, puts_nil, Act.put, r5, r6, r7]) (bTrans hG hb') rfl (fun j _ _ _ _ h => teR_pure j _ h)
        · intro u W hG hd K hK
          have r5 : u 5 = .bool true := hd 5 (by decide) (.inl rfl)
          have hc := keepC hG k0
          have hc2 := keepC hG k1
          have HK := Lib.hid hK
          clear hK hd
          refine ⟨?_⟩
          simp only [slotsOf_some, slotsOf_none, slotsOf_nil, puts_cons, puts_nil, Nat.zero_add, Nat.reduceAdd]
          go_simp
          exact HK.out _ _ _ (by simp [slotsOf_some, slotsOf_none, slotsOf_nil, puts_cons, puts_nil, Act.put, r5]) hG rfl (fun j _ _ _ _ h => h)
        · intro u W hG hd K hK
          have r5 : u 5 = .bool true := hd 5 (by decide) (.inl rfl)
          have HK := Lib.hid hK
          clear hK hd
          refine ⟨?_⟩
          simp only [slotsOf_some, slotsOf_none, slotsOf_nil, puts_cons, puts_nil, Nat.zero_add, Nat.reduceAdd]
          go_simp
          exact HK.out _ _ _ (by simp [slotsOf_some, slotsOf_none, slotsOf_nil, puts_cons, puts_nil, Act.put, r5]) hG rfl (fun j _ _ _ _ h => h)
        · intro u W hG hd K hK
          have r5 : u 5 = .bool true := hd 5 (by decide) (.inl rfl)
          have r9 : u 9 = .agg #[.slice a v.length c, .slice b l.length d] := hd 9 (by decide) (.inl rfl)
          have r10 : u 10 = .int .i64 nd := hd 10 (by decide) (.inl rfl)
          have HK := Lib.hid hK
          clear hK hd
          refine ⟨?_⟩
          simp only [slotsOf_some, slotsOf_none, slotsOf_nil, puts_cons, puts_nil, Nat.zero_add, Nat.reduceAdd]
          go_simp
          refine (V2 W (h.below hG)).mono ?_
          rintro e w' ⟨rfl, hb'⟩
          exact HK.out _ _ _ (by simp [slotsOf_some, slotsOf_none, slotsOf_nil, puts_cons, puts_nil, Act.put, r5, r9, r10]) (bTrans hG hb') rfl (fun j _ _ _ _ h => teR_pure j _ h)
        · intro u W hG hd K hK
          have r5 : u 5 = .bool true := hd 5 (by decide) (.inl rfl)
          have r8 : u 8 = .bool z1 := hd 8 (by decide) (.inl rfl)
          have r11 : u 11 = .bool z1 := hd 11 (by decide) (.inl rfl)
          have HK := Lib.hid hK
          clear hK hd
          refine ⟨?_⟩
          simp only [slotsOf_some, slotsOf_none, slotsOf_nil, puts_cons, puts_nil, Nat.zero_add, Nat.reduceAdd]
          go_simp
          exact HK.out _ _ _ (by simp [slotsOf_some, slotsOf_none, slotsOf_nil, puts_cons, puts_nil, Act.put, r5, r8, r11]) hG rfl (fun j _ _ _ _ h => h)
        · intro u W hG hd K hK
          have r5 : u 5 = .bool true := hd 5 (by decide) (.inl rfl)
          have r12 : u 12 = .bool true := hd 12 (by decide) (.inl rfl)
          have HK := Lib.hid hK
          clear hK hd
          refine ⟨?_⟩
          simp only [slotsOf_some, slotsOf_none, slotsOf_nil, puts_cons, puts_nil, Nat.zero_add, Nat.reduceAdd]
          go_simp
          exact HK.out _ _ _ (by simp [slotsOf_some, slotsOf_none, slotsOf_nil, puts_cons, puts_nil, Act.put, r5, r12]) hG rfl (fun j _ _ _ _ h => h)
        · intro u W hG hd K hK
          have r13 : u 13 = .bool true := hd 13 (by decide) (.inl rfl)
          have HK := Lib.hid hK
          clear hK hd
          refine ⟨?_⟩
          simp only [slotsOf_some, slotsOf_none, slotsOf_nil, puts_cons, puts_nil, Nat.zero_add, Nat.reduceAdd]
          go_simp
          exact HK.out _ _ _ (by simp [slotsOf_some, slotsOf_none, slotsOf_nil, puts_cons, puts_nil, Act.put, r13]) hG rfl (fun j _ _ _ _ h => h)
        · intro u W hG hd K hK
          have r14 : u 14 = .bool true := hd 14 (by decide) (.inl rfl)
          have hc := keepC hG k0
          have hc2 := keepC hG k1
          have HK := Lib.hid hK
          clear hK hd
          refine ⟨?_⟩
          simp only [slotsOf_some, slotsOf_none, slotsOf_nil, puts_cons, puts_nil, Nat.zero_add, Nat.reduceAdd]
          go_simp
          exact HK.out _ _ _ (by simp [slotsOf_some, slotsOf_none, slotsOf_nil, puts_cons, puts_nil, Act.put, r14]) hG rfl (fun j _ _ _ _ h => h)
        · intro u W hG hd K hK
          have r14 : u 14 = .bool true := hd 14 (by decide) (.inl rfl)
          have HK := Lib.hid hK
          clear hK hd
          refine ⟨?_⟩
          simp only [slotsOf_some, slotsOf_none, slotsOf_nil, puts_cons, puts_nil, Nat.zero_add, Nat.reduceAdd]
          go_simp
          exact HK.out _ _ _ (by simp [slotsOf_some, slotsOf_none, slotsOf_nil, puts_cons, puts_nil, Act.put, r14]) hG rfl (fun j _ _ _ _ h => h)
        · intro u W hG hd K hK
          have r14 : u 14 = .bool true := hd 14 (by decide) (.inl rfl)
          have r15 : u 15 = .agg #[.slice a v.length c, .slice b l.length d] := hd 15 (by decide) (.inl rfl)
          have r16 : u 16 = .int .i64 nd := hd 16 (by decide) (.inl rfl)
          have HK := Lib.hid hK
          clear hK hd
          refine ⟨?_⟩
          simp only [slotsOf_some, slotsOf_none, slotsOf_nil, puts_cons, puts_nil, Nat.zero_add, Nat.reduceAdd]
          go_simp
          refine (H1 W (h.below hG) (h2.below hG)).mono ?_
          rintro e w' ⟨rfl, hb'⟩
          exact HK.out _ _ _ (by simp [slotsOf_some, slotsOf_none, slotsOf_nil, puts_cons, puts_nil, Act.put, r14, r15, r16]) (bTrans hG hb') rfl (fun j _ _ _ _ h => teR_pure j _ h)
        · intro u W hG hd K hK
          have r14 : u 14 = .bool true := hd 14 (by decide) (.inl rfl)
          have hc := keepC hG k0
          have hc2 := keepC hG k1
          have HK := Lib.hid hK
          clear hK hd
          refine ⟨?_⟩
          simp only [slotsOf_some, slotsOf_none, slotsOf_nil, puts_cons, puts_nil, Nat.zero_add, Nat.reduceAdd]
          go_simp
          exact HK.out _ _ _ (by simp [slotsOf_some, slotsOf_none, slotsOf_nil, puts_cons, puts_nil, Act.put, r14]) hG rfl (fun j _ _ _ _ h => h)
        · intro u W hG hd K hK
          have r14 : u 14 = .bool true := hd 14 (by decide) (.inl rfl)
          have HK := Lib.hid hK
          clear hK hd
          refine ⟨?_⟩
          simp only [slotsOf_some, slotsOf_none, slotsOf_nil, puts_cons, puts_nil, Nat.zero_add, Nat.reduceAdd]
          go_simp
          exact HK.out _ _ _ (by simp [slotsOf_some, slotsOf_none, slotsOf_nil, puts_cons, puts_nil, Act.put, r14]) hG rfl (fun j _ _ _ _ h => h)
        · intro u W hG hd K hK
          have r14 : u 14 = .bool true := hd 14 (by decide) (.inl rfl)
          have r18 : u 18 = .agg #[.slice a v.length c, .slice b l.length d] := hd 18 (by decide) (.inl rfl)
          have r19 : u 19 = .int .i64 nd := hd 19 (by decide) (.inl rfl)
          have HK := Lib.hid hK
          clear hK hd
          refine ⟨?_⟩
          simp only [slotsOf_some, slotsOf_none, slotsOf_nil, puts_cons, puts_nil, Nat.zero_add, Nat.reduceAdd]
          go_simp
          refine (H2 W (h.below hG) (h2.below hG)).mono ?_
          rintro e w' ⟨rfl, hb'⟩
          exact HK.out _ _ _ (by simp [slotsOf_some, slotsOf_none, slotsOf_nil, puts_cons, puts_nil, Act.put, r14, r18, r19]) (bTrans hG hb') rfl (fun j _ _ _ _ h => teR_pure j _ h)
        · intro u W hG hd K hK
          have r14 : u 14 = .bool true := hd 14 (by decide) (.inl rfl)
          have r17 : u 17 = .bool z2 := hd 17 (by decide) (.inl rfl)
          have r20 : u 20 = .bool z2 := hd 20 (by decide) (.inl rfl)
          have HK := Lib.hid hK
          clear hK hd
          refine ⟨?_⟩
          simp only [slotsOf_some, slotsOf_none, slotsOf_nil, puts_cons, puts_nil, Nat.zero_add, Nat.reduceAdd]
          go_simp
          exact HK.out _ _ _ (by simp [slotsOf_some, slotsOf_none, slotsOf_nil, puts_cons, puts_nil, Act.put, r14, r17, r20]) hG rfl (fun j _ _ _ _ h => h)
        · intro u W hG hd K hK
          have r14 : u 14 = .bool true := hd 14 (by decide) (.inl rfl)
          have r21 : u 21 = .bool true := hd 21 (by decide) (.inl rfl)
          have HK := Lib.hid hK
          clear hK hd
          refine ⟨?_⟩
          simp only [slotsOf_some, slotsOf_none, slotsOf_nil, puts_cons, puts_nil, Nat.zero_add, Nat.reduceAdd]
          go_simp
          exact HK.out _ _ _ (by simp [slotsOf_some, slotsOf_none, slotsOf_nil, puts_cons, puts_nil, Act.put, r14, r21]) hG rfl (fun j _ _ _ _ h => h)
        · intro u W hG hd K hK
          have r22 : u 22 = .bool true := hd 22 (by decide) (.inl rfl)
          have HK := Lib.hid hK
          clear hK hd
          refine ⟨?_⟩
          simp only [slotsOf_some, slotsOf_none, slotsOf_nil, puts_cons, puts_nil, Nat.zero_add, Nat.reduceAdd]
          go_simp
          exact HK.out _ _ _ (by simp [slotsOf_some, slotsOf_none, slotsOf_nil, puts_cons, puts_nil, Act.put, r22]) hG rfl (fun j _ _ _ _ h => h)
        · intro u W hG hd K hK
          have r23 : u 23 = .bool true := hd 23 (by decide) (.inl rfl)
          have hc := keepC hG k0
          have hc2 := keepC hG k1
          have HK := Lib.hid hK
          clear hK hd
          refine ⟨?_⟩
          simp only [slotsOf_some, slotsOf_none, slotsOf_nil, puts_cons, puts_nil, Nat.zero_add, Nat.reduceAdd]
          go_simp
          exact HK.out _ _ _ (by simp [slotsOf_some, slotsOf_none, slotsOf_nil, puts_cons, puts_nil, Act.put, r23]) hG rfl (fun j _ _ _ _ h => h)
        · intro u W hG hd K hK
          have r23 : u 23 = .bool true := hd 23 (by decide) (.inl rfl)
          have HK := Lib.hid hK
          clear hK hd
          refine ⟨?_⟩
          simp only [slotsOf_some, slotsOf_none, slotsOf_nil, puts_cons, puts_nil, Nat.zero_add, Nat.reduceAdd]
          go_simp
          exact HK.out _ _ _ (by simp [slotsOf_some, slotsOf_none, slotsOf_nil, puts_cons, puts_nil, Act.put, r23]) hG rfl (fun j _ _ _ _ h => h)
        · intro u W hG hd K hK
          have r23 : u 23 = .bool true := hd 23 (by decide) (.inl rfl)
          have r24 : u 24 = .agg #[.slice a v.length c, .slice b l.length d] := hd 24 (by decide) (.inl rfl)
          have r25 : u 25 = .slice x ns.length cx := hd 25 (by decide) (.inl rfl)
          have HK := Lib.hid hK
          clear hK hd
          refine ⟨?_⟩
          simp only [slotsOf_some, slotsOf_none, slotsOf_nil, puts_cons, puts_nil, Nat.zero_add, Nat.reduceAdd]
          go_simp
          refine (M1 W (h.below hG) (h3.below hG)).mono ?_
          rintro e w' ⟨rfl, hb'⟩
          exact HK.out _ _ _ (by simp [slotsOf_some, slotsOf_none, slotsOf_nil, puts_cons, puts_nil, Act.put, r23, r24, r25]) (bTrans hG hb') rfl (fun j _ _ _ _ h => teR_pure j _ h)
        · intro u W hG hd K hK
          have r23 : u 23 = .bool true := hd 23 (by decide) (.inl rfl)
          have hc := keepC hG k0
          have hc2 := keepC hG k1
          have HK := Lib.hid hK
          clear hK hd
          refine ⟨?_⟩
          simp only [slotsOf_some, slotsOf_none, slotsOf_nil, puts_cons, puts_nil, Nat.zero_add, Nat.reduceAdd]
          go_simp
          exact HK.out _ _ _ (by simp [slotsOf_some, slotsOf_none, slotsOf_nil, puts_cons, puts_nil, Act.put, r23]) hG rfl (fun j _ _ _ _ h => h)
        · intro u W hG hd K hK
          have r23 : u 23 = .bool true := hd 23 (by decide) (.inl rfl)
          have HK := Lib.hid hK
          clear hK hd
          refine ⟨?_⟩
          simp only [slotsOf_some, slotsOf_none, slotsOf_nil, puts_cons, puts_nil, Nat.zero_add, Nat.reduceAdd]
          go_simp
          exact HK.out _ _ _ (by simp [slotsOf_some, slotsOf_none, slotsOf_nil, puts_cons, puts_nil, Act.put, r23]) hG rfl (fun j _ _ _ _ h => h)
        · intro u W hG hd K hK
          have r23 : u 23 = .bool true := hd 23 (by decide) (.inl rfl)
          have r27 : u 27 = .agg #[.slice a v.length c, .slice b l.length d] := hd 27 (by decide) (.inl rfl)
          have r28 : u 28 = .slice x ns.length cx := hd 28 (by decide) (.inl rfl)
          have HK := Lib.hid hK
          clear hK hd
          refine ⟨?_⟩
          simp only [slotsOf_some, slotsOf_none, slotsOf_nil, puts_cons, puts_nil, Nat.zero_add, Nat.reduceAdd]
          go_simp
          refine (M2 W (h.below hG) (h3.below hG)).mono ?_
          rintro e w' ⟨rfl, hb'⟩
          exact HK.out _ _ _ (by simp [slotsOf_some, slotsOf_none, slotsOf_nil, puts_cons, puts_nil, Act.put, r23, r27, r28]) (bTrans hG hb') rfl (fun j _ _ _ _ h => teR_pure j _ h)
        · intro u W hG hd K hK
          have r23 : u 23 = .bool true := hd 23 (by decide) (.inl rfl)
          have r26 : u 26 = .bool z3 := hd 26 (by decide) (.inl rfl)
          have r29 : u 29 = .bool z3 := hd 29 (by decide) (.inl rfl)
          have HK := Lib.hid hK
          clear hK hd
          refine ⟨?_⟩
          simp only [slotsOf_some, slotsOf_none, slotsOf_nil, puts_cons, puts_nil, Nat.zero_add, Nat.reduceAdd]
          go_simp
          exact HK.out _ _ _ (by simp [slotsOf_some, slotsOf_none, slotsOf_nil, puts_cons, puts_nil, Act.put, r23, r26, r29]) hG rfl (fun j _ _ _ _ h => h)
        · intro u W hG hd K hK
          have r23 : u 23 = .bool true := hd 23 (by decide) (.inl rfl)
          have r30 : u 30 = .bool true := hd 30 (by decide) (.inl rfl)
          have HK := Lib.hid hK
          clear hK hd
          refine ⟨?_⟩
          simp only [slotsOf_some, slotsOf_none, slotsOf_nil, puts_cons, puts_nil, Nat.zero_add, Nat.reduceAdd]
          go_simp
          exact HK.out _ _ _ (by simp [slotsOf_some, slotsOf_none, slotsOf_nil, puts_cons, puts_nil, Act.put, r23, r30]) hG rfl (fun j _ _ _ _ h => h)
        · intro u W hG hd K hK
          have r31 : u 31 = .bool true := hd 31 (by decide) (.inl rfl)
          have HK := Lib.hid hK
          clear hK hd
          refine ⟨?_⟩
          simp only [slotsOf_some, slotsOf_none, slotsOf_nil, puts_cons, puts_nil, Nat.zero_add, Nat.reduceAdd]
          go_simp
          exact HK.out _ _ _ (by simp [slotsOf_some, slotsOf_none, slotsOf_nil, puts_cons, puts_nil, Act.put, r31]) hG rfl (fun j _ _ _ _ h => h)
      case hend =>
        intro u W hG hR
        have r32 : u 32 = .bool true := hR 32 (by decide) rfl
        clear hR
        have hbr2 := bTrans hb hG
        clear k0 k1 h h2 h3 hG C1 C2 V1 V2 H1 H2 M1 M2
        simp only [slotsOf_some, slotsOf_none, slotsOf_nil, puts_cons, puts_nil, Nat.zero_add, Nat.reduceAdd]
        simp [Act.put, r32]
        go_wp2
        go_ret
        exact ⟨rfl, hbr2⟩
end Go.Proofs.Ytinkbiinbfbjgaa

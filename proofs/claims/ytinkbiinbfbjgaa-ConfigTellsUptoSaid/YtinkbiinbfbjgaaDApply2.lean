/- Contracts of config.Apply. -/
import Derived.Test.YtinkbiinbfbjgaaDApply
import Derived.Test.YtinkbiinbfbjgaaDInv
namespace Go.Proofs.Ytinkbiinbfbjgaa
open Go.RowKit
set_option linter.unusedVariables false
set_option linter.unusedSimpArgs false

theorem extF {p : Prop} {u : Value} {B : Nat} {o : Obj} {W W' : World} (r : p → ∃ g, u = .pointer (some ⟨g, 0, none⟩) ∧ B ≤ g ∧ W.heap[g]? = some o) (hb : Below W.heap.size W W') :
    p → ∃ g, u = .pointer (some ⟨g, 0, none⟩) ∧ B ≤ g ∧ W'.heap[g]? = some o := fun h =>
  let ⟨g, h1, h2, h3⟩ := r h
  ⟨g, h1, h2, keepH hb h3⟩

def updF (f : Nat → Bool) (n : Nat) (b : Bool) : Nat → Bool := fun i => if i = n then b else f i

theorem heap3_0 (w : World) (o0 o1 o2 : Obj) : (((w.alloc o0).alloc o1).alloc o2).heap[w.heap.size]? = some o0 := by
  rw [heap_alloc_old _ _ _ (by simp; omega), heap_alloc_old _ _ _ (by simp)]; exact heap_alloc_new w _
theorem heap3_1 (w : World) (o0 o1 o2 : Obj) : (((w.alloc o0).alloc o1).alloc o2).heap[w.heap.size + 1]? = some o1 := by
  rw [heap_alloc_old _ _ _ (by simp)]
  have := heap_alloc_new (w.alloc o0) o1
  rw [World.size_alloc] at this
  exact this
theorem heap3_2 (w : World) (o0 o1 o2 : Obj) : (((w.alloc o0).alloc o1).alloc o2).heap[w.heap.size + 2]? = some o2 := by
  have := heap_alloc_new ((w.alloc o0).alloc o1) o2
  rw [World.size_alloc, World.size_alloc] at this
  exact this

set_option maxHeartbeats 16000000 in
theorem Apply_bad (v l : List Int) (a b : Option Addr) (c d : Nat) (kind n : Int) (w : World) (h : Ints w .i64 a v) (hl : v.length < 2^60) (h2 : Ints w .i64 b l) (hm : l.length < 2^60) (hk : checkB v l = false) :
    Calls Try.prog 26 #[.agg #[.slice a v.length c, .slice b l.length d], .agg #[.int .i64 kind, .int .i64 n]] w fun e w' => e = .returned (.tuple #[.agg #[.slice none 0 0, .slice none 0 0], .int .i64 140]) ∧ Below w.heap.size w w' := by
  have hb := bAlloc (bAlloc (bAlloc (Below.refl w.heap.size w) (.cells #[.slice a v.length c, .slice b l.length d] 39)) (.cells #[.int .i64 kind, .int .i64 n] 46)) (.cells #[.slice none 0 0, .slice none 0 0] 39)
  have K := Check_calls v l a b c d _ (h.below hb) hl (h2.below hb) hm
  rw [show checkE v l = 140 by simp [checkE, hk]] at K
  go_enter Try.func26, Try.ntmps26
  go_wp2_with fail
  refine (K).mono ?_
  rintro e w1 ⟨rfl, hb1⟩
  clear K
  have hs1 := hb1.size
  simp at hs1
  obtain ⟨hc, hf⟩ := bcell hb1
  have z1 : w.heap.size + 1 < w1.heap.size := by omega
  go_wp2
  refine bodyPost_ret (v := .tuple #[.agg #[.slice none 0 0, .slice none 0 0], .int .i64 140]) ?_ rfl ⟨rfl, ?_⟩
  · go_light
    simp [results, Try.results26, go_sem, hc]
  · go_light
    repeat (with_reducible refine Below.setCell ?_ (by simp; omega) _)
    exact bTrans hb hb1

def thereB (v l : List Int) (n : Int) : Bool := decide (n ∈ v) || decide (n ∈ l)
/-- What a change makes of a configuration that may be. -/
def applyR (v l : List Int) (kind n : Int) : Option (List Int × List Int) :=
  if kind = 1 ∧ 0 ≤ n ∧ n < 8 ∧ thereB v l n = false then some (setList (memF v), setList (updF (memF l) n.toNat true))
  else if kind = 2 ∧ thereB v l n = true ∧ decide (n ∈ v) = false then some (setList (updF (memF v) n.toNat true), setList (updF (memF l) n.toNat false))
  else if kind = 3 ∧ thereB v l n = true ∧ ¬(v.length = 1 ∧ decide (n ∈ v) = true) then some (setList (updF (memF v) n.toNat false), setList (updF (memF l) n.toNat false))
  else none
def ApplyPost (v l : List Int) (kind n : Int) (w : World) (e : Ending) (w' : World) : Prop :=
  Below w.heap.size w w' ∧ (applyR v l kind n = none → e = .returned (.tuple #[.agg #[.slice none 0 0, .slice none 0 0], .int .i64 141])) ∧
    ∀ v' l', applyR v l kind n = some (v', l') → ∃ A C B D, e = .returned (.tuple #[.agg #[.slice A v'.length C, .slice B l'.length D], .int .i64 0]) ∧ Ints w' .i64 A v' ∧ Ints w' .i64 B l'

set_option maxRecDepth 100000 in
set_option maxHeartbeats 16000000 in
theorem Apply_go (v l : List Int) (a b : Option Addr) (c d : Nat) (kind n : Int) (w : World) (h : Ints w .i64 a v) (h2 : Ints w .i64 b l) (hk : checkB v l = true) :
    Calls Try.prog 26 #[.agg #[.slice a v.length c, .slice b l.length d], .agg #[.int .i64 kind, .int .i64 n]] w (ApplyPost v l kind n w) := by
  obtain ⟨_, hr1, hr2, _⟩ := check_parts hk
  have s1 := rises_small hr1
  have s2 := rises_small hr2
  have l1 := s1.1
  have l2 := s2.1
  have hb := bAlloc (bAlloc (bAlloc (Below.refl w.heap.size w) (.cells #[.slice a v.length c, .slice b l.length d] 39)) (.cells #[.int .i64 kind, .int .i64 n] 46)) (.cells #[.slice none 0 0, .slice none 0 0] 39)
  have K := Check_calls v l a b c d _ (h.below hb) (by omega) (h2.below hb) (by omega)
  rw [check_zero.2 hk] at K
  go_enter Try.func26, Try.ntmps26
  go_wp2_with fail
  refine (K).mono ?_
  rintro e w1 ⟨rfl, hb1⟩
  clear K
  have x0 := keepH hb1 (heap3_0 w (.cells #[.slice a v.length c, .slice b l.length d] 39) (.cells #[.int .i64 kind, .int .i64 n] 46) (.cells #[.slice none 0 0, .slice none 0 0] 39))
  have x1 := keepH hb1 (heap3_1 w (.cells #[.slice a v.length c, .slice b l.length d] 39) (.cells #[.int .i64 kind, .int .i64 n] 46) (.cells #[.slice none 0 0, .slice none 0 0] 39))
  have x2 := keepH hb1 (heap3_2 w (.cells #[.slice a v.length c, .slice b l.length d] 39) (.cells #[.int .i64 kind, .int .i64 n] 46) (.cells #[.slice none 0 0, .slice none 0 0] 39))
  have y0 : w1.cell? ⟨w.heap.size, 0, none⟩ = some (.slice a v.length c) := by rw [cell_at x0]; rfl
  have y1 : w1.cell? ⟨w.heap.size, 1, none⟩ = some (.slice b l.length d) := by rw [cell_at x0]; rfl
  replace hb := bTrans hb hb1
  have hi1 := h.below hb
  have hi2 := h2.below hb
  clear hb1
  have hz : w.heap.size < w1.heap.size := heap_lt x0
  have hz2 : w.heap.size + 2 < w1.heap.size := heap_lt x2
  go_upto_region 3 with fail
  go_cut [6, 7] (fun p q wx => ∃ g6 g7 : Nat, p = .pointer (some ⟨g6, 0, none⟩) ∧ q = .pointer (some ⟨g7, 0, none⟩) ∧ g6 ≠ g7 ∧ w1.heap.size ≤ g6 ∧ w1.heap.size ≤ g7 ∧ wx.heap[g6]? = some (.cells (bools (memF v)) 84 (0, 0)) ∧ wx.heap[g7]? = some (.cells (bools (memF l)) 84 (0, 0)) ∧ Below w1.heap.size w1 wx)
  case first =>
    generalize ha : Act.mk _ _ = a0
    refine wp_region_inv (by kernel_rfl) (fun D A W => ∃ u14 u15 u16 u17 u18 u19 u6 u7 : Value, A = puts a0 [(14, u14), (15, u15), (16, u16), (17, u17), (18, u18), (19, u19), (6, u6), (7, u7)] ∧
      (D 0 = true → u14 = .pointer (some ⟨w.heap.size, 0, none⟩)) ∧ (D 1 = true → u15 = .slice a v.length c) ∧ (D 2 = true → u16 = .agg (bools (memF v))) ∧
      (D 3 = true → u17 = .pointer (some ⟨w.heap.size, 1, none⟩)) ∧ (D 4 = true → u18 = .slice b l.length d) ∧ (D 5 = true → u19 = .agg (bools (memF l))) ∧
      (D 6 = true → ∃ g, u6 = .pointer (some ⟨g, 0, none⟩) ∧ w1.heap.size ≤ g ∧ W.heap[g]? = some (.cells (bools (if D 8 = true then memF v else fun _ => false)) 84 (0, 0))) ∧
      (D 7 = true → ∃ g, u7 = .pointer (some ⟨g, 0, none⟩) ∧ w1.heap.size ≤ g ∧ W.heap[g]? = some (.cells (bools (if D 9 = true then memF l else fun _ => false)) 84 (0, 0))) ∧
      (D 6 = true → D 7 = true → u6 ≠ u7) ∧ (D 8 = true → D 6 = true) ∧ (D 9 = true → D 7 = true) ∧ Below w1.heap.size w1 W) (by decide) ?h0 ?hst ?hend
    case h0 =>
      exact ⟨undef, undef, undef, undef, undef, undef, undef, undef, by subst ha; simp [puts, Act.put], (fun h => by cases h), (fun h => by cases h), (fun h => by cases h), (fun h => by cases h), (fun h => by cases h), (fun h => by cases h), (fun h => by cases h), (fun h => by cases h), (fun h => by cases h), (fun h => by cases h), (fun h => by cases h), bDrew (Below.refl _ _)⟩
    case hst =>
      iterate 10 (with_reducible refine invSteps_cons (invStep_of ?_) ?_; rotate_left)
      · exact invSteps_nil
      · intro D A W hI hn hd K hK
        obtain ⟨u14, u15, u16, u17, u18, u19, u6, u7, hA, r0, r1, r2, r3, r4, r5, r6, r7, r67, r8, r9, hB⟩ := hI
        subst hA
        subst ha
        simp [Region.binds] at hd
        have HK := Lib.hid hK
        clear hK
        simp only [puts_cons, puts_nil]
        have R := Lib.hid (And.intro r0 (And.intro r1 (And.intro r2 (And.intro r3 (And.intro r4 (And.intro r5 (And.intro r6 (And.intro r7 (And.intro r67 (And.intro r8 r9))))))))))
        clear r0 r1 r2 r3 r4 r5 r6 r7 r67 r8 r9
        go_simp
        obtain ⟨r0, r1, r2, r3, r4, r5, r6, r7, r67, r8, r9⟩ := R.out
        refine HK.out _ _ ⟨(.pointer (some ⟨w.heap.size, 0, none⟩)), u15, u16, u17, u18, u19, u6, u7, by simp [puts, Act.put, bools], fun _ => rfl, fun h => r1 (more_of h (by decide)), fun h => r2 (more_of h (by decide)), fun h => r3 (more_of h (by decide)), fun h => r4 (more_of h (by decide)), fun h => r5 (more_of h (by decide)), (by simpa [more] using r6), (by simpa [more] using r7), (by simpa [more] using r67), (by simpa [more] using r8), (by simpa [more] using r9), hB⟩
      · intro D A W hI hn hd K hK
        obtain ⟨u14, u15, u16, u17, u18, u19, u6, u7, hA, r0, r1, r2, r3, r4, r5, r6, r7, r67, r8, r9, hB⟩ := hI
        subst hA
        subst ha
        simp [Region.binds] at hd
        have HK := Lib.hid hK
        clear hK
        simp only [puts_cons, puts_nil]
        obtain rfl := r0 hd
        have yW := keepC hB y0
        have R := Lib.hid (And.intro r0 (And.intro r1 (And.intro r2 (And.intro r3 (And.intro r4 (And.intro r5 (And.intro r6 (And.intro r7 (And.intro r67 (And.intro r8 r9))))))))))
        clear r0 r1 r2 r3 r4 r5 r6 r7 r67 r8 r9
        go_simp
        obtain ⟨r0, r1, r2, r3, r4, r5, r6, r7, r67, r8, r9⟩ := R.out
        refine HK.out _ _ ⟨(.pointer (some ⟨w.heap.size, 0, none⟩)), (.slice a v.length c), u16, u17, u18, u19, u6, u7, by simp [puts, Act.put, bools], fun h => r0 (more_of h (by decide)), fun _ => rfl, fun h => r2 (more_of h (by decide)), fun h => r3 (more_of h (by decide)), fun h => r4 (more_of h (by decide)), fun h => r5 (more_of h (by decide)), (by simpa [more] using r6), (by simpa [more] using r7), (by simpa [more] using r67), (by simpa [more] using r8), (by simpa [more] using r9), hB⟩
      · intro D A W hI hn hd K hK
        obtain ⟨u14, u15, u16, u17, u18, u19, u6, u7, hA, r0, r1, r2, r3, r4, r5, r6, r7, r67, r8, r9, hB⟩ := hI
        subst hA
        subst ha
        simp [Region.binds] at hd
        have HK := Lib.hid hK
        clear hK
        simp only [puts_cons, puts_nil]
        obtain rfl := r1 hd
        have hiW := hi1.below hB
        have R := Lib.hid (And.intro r0 (And.intro r1 (And.intro r2 (And.intro r3 (And.intro r4 (And.intro r5 (And.intro r6 (And.intro r7 (And.intro r67 (And.intro r8 r9))))))))))
        clear r0 r1 r2 r3 r4 r5 r6 r7 r67 r8 r9
        go_simp
        refine (of_calls v a c _ hiW s1).mono ?_
        rintro e w2 ⟨rfl, hb2⟩
        obtain ⟨r0, r1, r2, r3, r4, r5, r6, r7, r67, r8, r9⟩ := R.out
        refine HK.out _ _ ⟨u14, (.slice a v.length c), (.agg (bools (memF v))), u17, u18, u19, u6, u7, by simp [puts, Act.put, bools], fun h => r0 (more_of h (by decide)), fun h => r1 (more_of h (by decide)), fun _ => rfl, fun h => r3 (more_of h (by decide)), fun h => r4 (more_of h (by decide)), fun h => r5 (more_of h (by decide)), (by simpa [more] using extF r6 hb2), (by simpa [more] using extF r7 hb2), (by simpa [more] using r67), (by simpa [more] using r8), (by simpa [more] using r9), bTrans hB hb2⟩
      · intro D A W hI hn hd K hK
        obtain ⟨u14, u15, u16, u17, u18, u19, u6, u7, hA, r0, r1, r2, r3, r4, r5, r6, r7, r67, r8, r9, hB⟩ := hI
        subst hA
        subst ha
        simp [Region.binds] at hd
        have HK := Lib.hid hK
        clear hK
        simp only [puts_cons, puts_nil]
        have R := Lib.hid (And.intro r0 (And.intro r1 (And.intro r2 (And.intro r3 (And.intro r4 (And.intro r5 (And.intro r6 (And.intro r7 (And.intro r67 (And.intro r8 r9))))))))))
        clear r0 r1 r2 r3 r4 r5 r6 r7 r67 r8 r9
        go_simp
        obtain ⟨r0, r1, r2, r3, r4, r5, r6, r7, r67, r8, r9⟩ := R.out
        refine HK.out _ _ ⟨u14, u15, u16, (.pointer (some ⟨w.heap.size, 1, none⟩)), u18, u19, u6, u7, by simp [puts, Act.put, bools], fun h => r0 (more_of h (by decide)), fun h => r1 (more_of h (by decide)), fun h => r2 (more_of h (by decide)), fun _ => rfl, fun h => r4 (more_of h (by decide)), fun h => r5 (more_of h (by decide)), (by simpa [more] using r6), (by simpa [more] using r7), (by simpa [more] using r67), (by simpa [more] using r8), (by simpa [more] using r9), hB⟩
      · intro D A W hI hn hd K hK
        obtain ⟨u14, u15, u16, u17, u18, u19, u6, u7, hA, r0, r1, r2, r3, r4, r5, r6, r7, r67, r8, r9, hB⟩ := hI
        subst hA
        subst ha
        simp [Region.binds] at hd
        have HK := Lib.hid hK
        clear hK
        simp only [puts_cons, puts_nil]
        obtain rfl := r3 hd
        have yW := keepC hB y1
        have R := Lib.hid (And.intro r0 (And.intro r1 (And.intro r2 (And.intro r3 (And.intro r4 (And.intro r5 (And.intro r6 (And.intro r7 (And.intro r67 (And.intro r8 r9))))))))))
        clear r0 r1 r2 r3 r4 r5 r6 r7 r67 r8 r9
        go_simp
        obtain ⟨r0, r1, r2, r3, r4, r5, r6, r7, r67, r8, r9⟩ := R.out
        refine HK.out _ _ ⟨u14, u15, u16, (.pointer (some ⟨w.heap.size, 1, none⟩)), (.slice b l.length d), u19, u6, u7, by simp [puts, Act.put, bools], fun h => r0 (more_of h (by decide)), fun h => r1 (more_of h (by decide)), fun h => r2 (more_of h (by decide)), fun h => r3 (more_of h (by decide)), fun _ => rfl, fun h => r5 (more_of h (by decide)), (by simpa [more] using r6), (by simpa [more] using r7), (by simpa [more] using r67), (by simpa [more] using r8), (by simpa [more] using r9), hB⟩
      · intro D A W hI hn hd K hK
        obtain ⟨u14, u15, u16, u17, u18, u19, u6, u7, hA, r0, r1, r2, r3, r4, r5, r6, r7, r67, r8, r9, hB⟩ := hI
        subst hA
        subst ha
        simp [Region.binds] at hd
        have HK := Lib.hid hK
        clear hK
        simp only [puts_cons, puts_nil]
        obtain rfl := r4 hd.1
        have hiW := hi2.below hB
        have R := Lib.hid (And.intro r0 (And.intro r1 (And.intro r2 (And.intro r3 (And.intro r4 (And.intro r5 (And.intro r6 (And.intro r7 (And.intro r67 (And.intro r8 r9))))))))))
        clear r0 r1 r2 r3 r4 r5 r6 r7 r67 r8 r9
        go_simp
        refine (of_calls l b d _ hiW s2).mono ?_
        rintro e w2 ⟨rfl, hb2⟩
        obtain ⟨r0, r1, r2, r3, r4, r5, r6, r7, r67, r8, r9⟩ := R.out
        refine HK.out _ _ ⟨u14, u15, u16, u17, (.slice b l.length d), (.agg (bools (memF l))), u6, u7, by simp [puts, Act.put, bools], fun h => r0 (more_of h (by decide)), fun h => r1 (more_of h (by decide)), fun h => r2 (more_of h (by decide)), fun h => r3 (more_of h (by decide)), fun h => r4 (more_of h (by decide)), fun _ => rfl, (by simpa [more] using extF r6 hb2), (by simpa [more] using extF r7 hb2), (by simpa [more] using r67), (by simpa [more] using r8), (by simpa [more] using r9), bTrans hB hb2⟩
      · intro D A W hI hn hd K hK
        obtain ⟨u14, u15, u16, u17, u18, u19, u6, u7, hA, r0, r1, r2, r3, r4, r5, r6, r7, r67, r8, r9, hB⟩ := hI
        subst hA
        subst ha
        simp [Region.binds] at hd
        have HK := Lib.hid hK
        clear hK
        simp only [puts_cons, puts_nil]
        have n8 : D 8 = false := by cases h : D 8 with | false => rfl | true => exact absurd (r8 h) (by simp [hn])
        have R := Lib.hid (And.intro r0 (And.intro r1 (And.intro r2 (And.intro r3 (And.intro r4 (And.intro r5 (And.intro r6 (And.intro r7 (And.intro r67 (And.intro r8 r9))))))))))
        clear r0 r1 r2 r3 r4 r5 r6 r7 r67 r8 r9
        go_simp
        obtain ⟨r0, r1, r2, r3, r4, r5, r6, r7, r67, r8, r9⟩ := R.out
        refine HK.out _ _ ⟨u14, u15, u16, u17, u18, u19, (.pointer (some ⟨W.heap.size, 0, none⟩)), u7, by simp [puts, Act.put, bools], fun h => r0 (more_of h (by decide)), fun h => r1 (more_of h (by decide)), fun h => r2 (more_of h (by decide)), fun h => r3 (more_of h (by decide)), fun h => r4 (more_of h (by decide)), fun h => r5 (more_of h (by decide)), (fun _ => ⟨W.heap.size, rfl, hB.size, by rw [if_neg (by simp [more, n8])]; exact heap_alloc_new W _⟩), (by simpa [more] using extF r7 (bAlloc (Below.refl _ W) (.cells #[.bool false, .bool false, .bool false, .bool false, .bool false, .bool false, .bool false, .bool false] 84))), (fun _ h7 e => ?_), (by intro h; simp [more] at h ⊢), (by simpa [more] using r9), bAlloc hB _⟩
        obtain ⟨g, hg, _, hh⟩ := r7 (more_of h7 (by decide))
        rw [hg] at e
        simp at e
        have := heap_lt hh
        omega
      · intro D A W hI hn hd K hK
        obtain ⟨u14, u15, u16, u17, u18, u19, u6, u7, hA, r0, r1, r2, r3, r4, r5, r6, r7, r67, r8, r9, hB⟩ := hI
        subst hA
        subst ha
        simp [Region.binds] at hd
        have HK := Lib.hid hK
        clear hK
        simp only [puts_cons, puts_nil]
        have n9 : D 9 = false := by cases h : D 9 with | false => rfl | true => exact absurd (r9 h) (by simp [hn])
        have R := Lib.hid (And.intro r0 (And.intro r1 (And.intro r2 (And.intro r3 (And.intro r4 (And.intro r5 (And.intro r6 (And.intro r7 (And.intro r67 (And.intro r8 r9))))))))))
        clear r0 r1 r2 r3 r4 r5 r6 r7 r67 r8 r9
        go_simp
        obtain ⟨r0, r1, r2, r3, r4, r5, r6, r7, r67, r8, r9⟩ := R.out
        refine HK.out _ _ ⟨u14, u15, u16, u17, u18, u19, u6, (.pointer (some ⟨W.heap.size, 0, none⟩)), by simp [puts, Act.put, bools], fun h => r0 (more_of h (by decide)), fun h => r1 (more_of h (by decide)), fun h => r2 (more_of h (by decide)), fun h => r3 (more_of h (by decide)), fun h => r4 (more_of h (by decide)), fun h => r5 (more_of h (by decide)), (by simpa [more] using extF r6 (bAlloc (Below.refl _ W) (.cells #[.bool false, .bool false, .bool false, .bool false, .bool false, .bool false, .bool false, .bool false] 84))), (fun _ => ⟨W.heap.size, rfl, hB.size, by rw [if_neg (by simp [more, n9])]; exact heap_alloc_new W _⟩), (fun h6 _ e => ?_), (by simpa [more] using r8), (by intro h; simp [more] at h ⊢), bAlloc hB _⟩
        obtain ⟨g, hg, _, hh⟩ := r6 (more_of h6 (by decide))
        rw [hg] at e
        simp at e
        have := heap_lt hh
        omega
      · intro D A W hI hn hd K hK
        obtain ⟨u14, u15, u16, u17, u18, u19, u6, u7, hA, r0, r1, r2, r3, r4, r5, r6, r7, r67, r8, r9, hB⟩ := hI
        subst hA
        subst ha
        have HK := Lib.hid hK
        clear hK
        simp only [puts_cons, puts_nil]
        have k6 : D 6 = true := hd ⟨6, .data⟩ (by simp) (by simp [Region.binds])
        have k2 : D 2 = true := hd ⟨2, .data⟩ (by simp) (by simp [Region.binds])
        clear hd
        have hs := (r6 k6).choose_spec
        generalize (r6 k6).choose = g at hs
        have hg := hs.1
        have hgB := hs.2.1
        have hh := hs.2.2
        clear hs
        have e2 := r2 k2
        subst e2
        have n8 : D 8 = false := hn
        simp only [n8, Bool.false_eq_true, if_false] at hh
        subst hg
        have q0 := bools_cell hh 0 (by decide)
        have q1 := bools_cell hh 1 (by decide)
        have q2 := bools_cell hh 2 (by decide)
        have q3 := bools_cell hh 3 (by decide)
        have q4 := bools_cell hh 4 (by decide)
        have q5 := bools_cell hh 5 (by decide)
        have q6 := bools_cell hh 6 (by decide)
        have q7 := bools_cell hh 7 (by decide)
        have qf : ∀ o, W.frozen? ⟨g, o, none⟩ = false := fun o => frozen_at hh o
        have R := Lib.hid (And.intro r0 (And.intro r1 (And.intro r2 (And.intro r3 (And.intro r4 (And.intro r5 (And.intro r6 (And.intro r7 (And.intro r67 (And.intro r8 r9))))))))))
        clear r0 r1 r2 r3 r4 r5 r6 r7 r67 r8 r9
        unfold bools
        go_simp
        obtain ⟨r0, r1, r2, r3, r4, r5, r6, r7, r67, r8, r9⟩ := R.out
        refine HK.out _ _ ⟨u14, u15, (.agg (bools (memF v))), u17, u18, u19, (.pointer (some ⟨g, 0, none⟩)), u7, by simp [puts, Act.put, bools], fun h => r0 (more_of h (by decide)), fun h => r1 (more_of h (by decide)), fun h => r2 (more_of h (by decide)), fun h => r3 (more_of h (by decide)), fun h => r4 (more_of h (by decide)), fun h => r5 (more_of h (by decide)), (fun _ => ⟨g, rfl, hgB, by rw [if_pos (more_self _ _)]; exact store8 hh (memF v)⟩), (fun h => ?_), (by simpa [more] using r67), (fun _ => by simpa [more] using k6), (by simpa [more] using r9), (by (repeat (with_reducible refine Below.setCell ?_ hgB _)); exact hB)⟩
        obtain ⟨g', e1, e3, e4⟩ := r7 (more_of h (by decide))
        refine ⟨g', e1, e3, ?_⟩
        rw [store8_other (fun e => r67 k6 (more_of h (by decide)) (by rw [e1, e])) (memF v)]
        simpa [more] using e4
      · intro D A W hI hn hd K hK
        obtain ⟨u14, u15, u16, u17, u18, u19, u6, u7, hA, r0, r1, r2, r3, r4, r5, r6, r7, r67, r8, r9, hB⟩ := hI
        subst hA
        subst ha
        have HK := Lib.hid hK
        clear hK
        simp only [puts_cons, puts_nil]
        have k6 : D 7 = true := hd ⟨7, .data⟩ (by simp) (by simp [Region.binds])
        have k2 : D 5 = true := hd ⟨5, .data⟩ (by simp) (by simp [Region.binds])
        clear hd
        have hs := (r7 k6).choose_spec
        generalize (r7 k6).choose = g at hs
        have hg := hs.1
        have hgB := hs.2.1
        have hh := hs.2.2
        clear hs
        have e2 := r5 k2
        subst e2
        have n9 : D 9 = false := hn
        simp only [n9, Bool.false_eq_true, if_false] at hh
        subst hg
        have q0 := bools_cell hh 0 (by decide)
        have q1 := bools_cell hh 1 (by decide)
        have q2 := bools_cell hh 2 (by decide)
        have q3 := bools_cell hh 3 (by decide)
        have q4 := bools_cell hh 4 (by decide)
        have q5 := bools_cell hh 5 (by decide)
        have q6 := bools_cell hh 6 (by decide)
        have q7 := bools_cell hh 7 (by decide)
        have qf : ∀ o, W.frozen? ⟨g, o, none⟩ = false := fun o => frozen_at hh o
        have R := Lib.hid (And.intro r0 (And.intro r1 (And.intro r2 (And.intro r3 (And.intro r4 (And.intro r5 (And.intro r6 (And.intro r7 (And.intro r67 (And.intro r8 r9))))))))))
        clear r0 r1 r2 r3 r4 r5 r6 r7 r67 r8 r9
        unfold bools
        go_simp
        obtain ⟨r0, r1, r2, r3, r4, r5, r6, r7, r67, r8, r9⟩ := R.out
        refine HK.out _ _ ⟨u14, u15, u16, u17, u18, (.agg (bools (memF l))), u6, (.pointer (some ⟨g, 0, none⟩)), by simp [puts, Act.put, bools], fun h => r0 (more_of h (by decide)), fun h => r1 (more_of h (by decide)), fun h => r2 (more_of h (by decide)), fun h => r3 (more_of h (by decide)), fun h => r4 (more_of h (by decide)), fun h => r5 (more_of h (by decide)), (fun h => ?_), (fun _ => ⟨g, rfl, hgB, by rw [if_pos (more_self _ _)]; exact store8 hh (memF l)⟩), (by simpa [more] using r67), (by simpa [more] using r8), (fun _ => by simpa [more] using k6), (by (repeat (with_reducible refine Below.setCell ?_ hgB _)); exact hB)⟩
        obtain ⟨g', e1, e3, e4⟩ := r6 (more_of h (by decide))
        refine ⟨g', e1, e3, ?_⟩
        rw [store8_other (fun e => r67 (more_of h (by decide)) k6 (by rw [e1, e])) (memF l)]
        simpa [more] using e4
    case hend =>
      intro D A W hI hall
      obtain ⟨u14, u15, u16, u17, u18, u19, u6, u7, hA, r0, r1, r2, r3, r4, r5, r6, r7, r67, r8, r9, hB⟩ := hI
      have t : ∀ i, i < 10 → D i = true := fun i hi => hall i (by simpa using hi)
      have e14 := r0 (t 0 (by decide))
      have e15 := r1 (t 1 (by decide))
      have e16 := r2 (t 2 (by decide))
      have e17 := r3 (t 3 (by decide))
      have e18 := r4 (t 4 (by decide))
      have e19 := r5 (t 5 (by decide))
      have hs6 := (r6 (t 6 (by decide))).choose_spec
      generalize (r6 (t 6 (by decide))).choose = g6 at hs6
      have hs7 := (r7 (t 7 (by decide))).choose_spec
      generalize (r7 (t 7 (by decide))).choose = g7 at hs7
      have hg6 := hs6.1
      have hb6 := hs6.2.1
      have hh6 := hs6.2.2
      have hg7 := hs7.1
      have hb7 := hs7.2.1
      have hh7 := hs7.2.2
      have hne := r67 (t 6 (by decide)) (t 7 (by decide))
      rw [if_pos (t 8 (by decide))] at hh6
      rw [if_pos (t 9 (by decide))] at hh7
      clear r0 r1 r2 r3 r4 r5 r6 r7 r67 r8 r9 hs6 hs7 t hall
      subst hA
      subst ha
      subst e14
      subst e15
      subst e16
      subst e17
      subst e18
      subst e19
      subst hg6
      subst hg7
      simp only [puts_cons, puts_nil]
      have H6 := Lib.hid hh6
      have H7 := Lib.hid hh7
      clear hh6 hh7
      go_wp2_with fail
      go_meet
      exact ⟨g6, g7, rfl, rfl, fun e => hne (by rw [e]), hb6, hb7, H6.out, H7.out, hB⟩
  case rest =>
    obtain ⟨g6, g7, rfl, rfl, hne, hg6, hg7, hh6, hh7, hB⟩ := hcut
    have xc0 := keepH hB x0
    have xc1 := keepH hB x1
    have xc2 := keepH hB x2
    have hi1c := hi1.below hB
    have hi2c := hi2.below hB
    replace hb := bTrans hb hB
    have z0 : wc.cell? ⟨w.heap.size, 0, none⟩ = some (.slice a v.length c) := by rw [cell_at xc0]; rfl
    have z1 : wc.cell? ⟨w.heap.size, 1, none⟩ = some (.slice b l.length d) := by rw [cell_at xc0]; rfl
    have z2 : wc.cell? ⟨w.heap.size + 1, 0, none⟩ = some (.int .i64 kind) := by rw [cell_at xc1]; rfl
    have z3 : wc.cell? ⟨w.heap.size + 1, 1, none⟩ = some (.int .i64 n) := by rw [cell_at xc1]; rfl
    have HH := fun w' h' h'' => Has_calls v l a b c d n w' h' (by omega) h'' (by omega)
    have HV := fun w' h' => Votes_calls v l a b c d n w' h' (by omega)
    clear x0 x1 x2 y0 y1 hi1 hi2 hB
    go_wp2_with fail
    refine (HH _ hi1c hi2c).mono ?_
    rintro e w2 ⟨rfl, hb2⟩
    replace hi1c := Ints.below hi1c hb2
    replace hi2c := Ints.below hi2c hb2
    replace z0 := keepC hb2 z0
    replace z1 := keepC hb2 z1
    replace z2 := keepC hb2 z2
    replace z3 := keepC hb2 z3
    replace hb := bTrans hb hb2
    have xc2 := keepH hb2 xc2
    have hh6 := keepH hb2 hh6
    have hh7 := keepH hb2 hh7
    clear HH hb2 h h2
    have t0 : w2.cell? ⟨w.heap.size + 1 + 1, 0, none⟩ = some (.slice none 0 0) := by rw [cell_at xc2]; rfl
    have t1 : w2.cell? ⟨w.heap.size + 1 + 1, 1, none⟩ = some (.slice none 0 0) := by rw [cell_at xc2]; rfl
    have tf : ∀ o, w2.frozen? ⟨w.heap.size + 1 + 1, o, none⟩ = false := fun o => frozen_at xc2 o
    have hR := Lib.hid (show applyR v l kind n = (if kind = 1 ∧ 0 ≤ n ∧ n < 8 ∧ thereB v l n = false then some (setList (memF v), setList (updF (memF l) n.toNat true))
      else if kind = 2 ∧ thereB v l n = true ∧ decide (n ∈ v) = false then some (setList (updF (memF v) n.toNat true), setList (updF (memF l) n.toNat false))
      else if kind = 3 ∧ thereB v l n = true ∧ ¬(v.length = 1 ∧ decide (n ∈ v) = true) then some (setList (updF (memF v) n.toNat false), setList (updF (memF l) n.toNat false))
      else none) from rfl)
    have hin : thereB v l n = true → 0 ≤ n ∧ n < 8 := by
      intro h
      unfold thereB at h
      simp only [Bool.or_eq_true, decide_eq_true_eq] at h
      rcases h with h | h
      · obtain ⟨i, hi, rfl⟩ := List.mem_iff_getElem.1 h; exact s1.2 i hi
      · obtain ⟨i, hi, rfl⟩ := List.mem_iff_getElem.1 h; exact s2.2 i hi
    go_upto_block 0 with fail
    rw [show (decide (n ∈ v) || decide (n ∈ l)) = thereB v l n from rfl]
    go_cut [9] (fun t9 wx => ∃ f6 f7 : Nat → Bool, applyR v l kind n = some (setList f6, setList f7) ∧ wx.heap[g6]? = some (.cells (bools f6) 84 (0, 0)) ∧ wx.heap[g7]? = some (.cells (bools f7) 84 (0, 0)) ∧ wx.heap[w.heap.size + 2]? = some (.cells #[.slice none 0 0, .slice none 0 0] 39 (0, 0)) ∧ Below w.heap.size w wx)
    case first =>
      by_cases k1 : kind = 1
      · subst k1
        by_cases hok : 0 ≤ n ∧ n < 8 ∧ thereB v l n = false
        · obtain ⟨h1, h2, h3⟩ := hok
          have HS := Lib.hid (show applyR v l 1 n = some (setList (memF v), setList (updF (memF l) n.toNat true)) by rw [hR.out, if_pos ⟨rfl, h1, h2, h3⟩])
          obtain ⟨m, rfl⟩ := Int.eq_ofNat_of_zero_le h1
          have hm8 : m < 8 := by omega
          have q := bools_cell hh7 m hm8
          have qf := frozen_at hh7 m
          have H6 := Lib.hid hh6
          have H7 := Lib.hid hh7
          have HX := Lib.hid xc2
          clear hin hh6 hh7 xc2 HV
          go_wp2_with fail
          go_meet
          go_light
          refine ⟨memF v, updF (memF l) m true, HS.out, ?_, bools_put H7.out m hm8 true, ?_, hb.setCell (by simp; omega) _⟩
          · rw [Below.heap_setCell _ _ _ _ hne]; exact H6.out
          · rw [Below.heap_setCell _ _ _ _ (by simp; omega)]; exact HX.out
        · have HN := Lib.hid (show applyR v l 1 n = none by rw [hR.out, if_neg (fun h => hok h.2), if_neg (by simp), if_neg (by simp)])
          by_cases h1 : 0 ≤ n
          · by_cases h2 : n < 8
            · have h3 : thereB v l n = true := by
                cases h : thereB v l n with
                | true => rfl
                | false => exact absurd ⟨h1, h2, h⟩ hok
              clear hok hin
              go_wp2_with fail
              refine bodyPost_ret (v := .tuple #[.agg #[.slice none 0 0, .slice none 0 0], .int .i64 141]) ?_ rfl ⟨?_, fun _ => rfl, fun v' l' h => by rw [HN.out] at h; cases h⟩
              · go_light
                simp [results, Try.results26, go_sem, t0, t1, tf]
              · go_light
                (repeat (with_reducible refine Below.setCell ?_ (by simp; omega) _))
                exact hb
            · clear hok hin
              go_wp2_with fail
              refine bodyPost_ret (v := .tuple #[.agg #[.slice none 0 0, .slice none 0 0], .int .i64 141]) ?_ rfl ⟨?_, fun _ => rfl, fun v' l' h => by rw [HN.out] at h; cases h⟩
              · go_light
                simp [results, Try.results26, go_sem, t0, t1, tf]
              · go_light
                (repeat (with_reducible refine Below.setCell ?_ (by simp; omega) _))
                exact hb
          · clear hok hin
            go_wp2_with fail
            refine bodyPost_ret (v := .tuple #[.agg #[.slice none 0 0, .slice none 0 0], .int .i64 141]) ?_ rfl ⟨?_, fun _ => rfl, fun v' l' h => by rw [HN.out] at h; cases h⟩
            · go_light
              simp [results, Try.results26, go_sem, t0, t1, tf]
            · go_light
              (repeat (with_reducible refine Below.setCell ?_ (by simp; omega) _))
              exact hb
      · have b1 : (kind == 1) = false := by simpa using k1
        by_cases k2 : kind = 2
        · subst k2
          cases hth : thereB v l n with
          | false =>
            have HN := Lib.hid (show applyR v l 2 n = none by rw [hR.out, if_neg (by simp), if_neg (by simp [hth]), if_neg (by simp)])
            clear hin k1
            go_wp2_with fail
            refine bodyPost_ret (v := .tuple #[.agg #[.slice none 0 0, .slice none 0 0], .int .i64 141]) ?_ rfl ⟨?_, fun _ => rfl, fun v' l' h => by rw [HN.out] at h; cases h⟩
            · go_light
              simp [results, Try.results26, go_sem, t0, t1, tf]
            · go_light
              (repeat (with_reducible refine Below.setCell ?_ (by simp; omega) _))
              exact hb
          | true =>
            obtain ⟨h1, h2⟩ := hin hth
            obtain ⟨m, rfl⟩ := Int.eq_ofNat_of_zero_le h1
            have hm8 : m < 8 := by omega
            have Hp := Lib.hid (show decide ((m : Int) ∈ v) = decide ((m : Int) ∈ v) from rfl)
            have HR2 : applyR v l 2 m = if decide ((m : Int) ∈ v) = false then some (setList (updF (memF v) m true), setList (updF (memF l) m false)) else none := by
              rw [hR.out]
              cases hv : decide ((m : Int) ∈ v) <;> simp [hth]
            have HR2 := Lib.hid HR2
            clear hin k1 hR Hp
            generalize decide ((m : Int) ∈ v) = p at *
            go_wp2_with fail
            refine (HV _ hi1c).mono ?_
            rintro e w3 ⟨rfl, hb3⟩
            replace t0 := keepC hb3 t0
            replace t1 := keepC hb3 t1
            replace z2 := keepC hb3 z2
            replace z3 := keepC hb3 z3
            replace hb := bTrans hb hb3
            have xc2 := keepH hb3 xc2
            have tf : ∀ o, w3.frozen? ⟨w.heap.size + 1 + 1, o, none⟩ = false := fun o => frozen_at xc2 o
            have hh6 := keepH hb3 hh6
            have hh7 := keepH hb3 hh7
            have q6 := bools_cell hh6 m hm8
            have q7 := bools_cell hh7 m hm8
            have e7 := frozen_at hh7 m
            have e6 := frozen_at hh6 m
            have q7' : ∀ b, (w3.setCell ⟨g6, m, none⟩ (.bool b)).cell? ⟨g7, m, none⟩ = some (.bool (memF l m)) := fun b => by
              rw [World.cell?_setCell_other _ _ _ _ (by simp [hne])]; exact q7
            have H6 := Lib.hid hh6
            have H7 := Lib.hid hh7
            have HX := Lib.hid xc2
            clear hh6 hh7 xc2 hb3 HV
            cases p
            · have HS := Lib.hid (HR2.out.trans (if_pos rfl))
              go_wp2_with fail
              go_meet
              go_light
              refine ⟨updF (memF v) m true, updF (memF l) m false, HS.out, ?_, ?_, ?_, (hb.setCell (by simp; omega) _).setCell (by simp; omega) _⟩
              · rw [Below.heap_setCell _ _ _ _ hne]; exact bools_put H6.out m hm8 true
              · exact bools_put (by rw [Below.heap_setCell _ _ _ _ (Ne.symm hne)]; exact H7.out) m hm8 false
              · rw [Below.heap_setCell _ _ _ _ (by simp; omega), Below.heap_setCell _ _ _ _ (by simp; omega)]; exact HX.out
            · have HN := Lib.hid (HR2.out.trans (if_neg (by simp)))
              go_wp2_with fail
              refine bodyPost_ret (v := .tuple #[.agg #[.slice none 0 0, .slice none 0 0], .int .i64 141]) ?_ rfl ⟨?_, fun _ => rfl, fun v' l' h => by rw [HN.out] at h; cases h⟩
              · go_light
                simp [results, Try.results26, go_sem, t0, t1, tf]
              · go_light
                (repeat (with_reducible refine Below.setCell ?_ (by simp; omega) _))
                exact hb
        · have b2 : (kind == 2) = false := by simpa using k2
          by_cases k3 : kind = 3
          · subst k3
            cases hth : thereB v l n with
            | false =>
              have HN := Lib.hid (show applyR v l 3 n = none by rw [hR.out, if_neg (by simp), if_neg (by simp), if_neg (by simp [hth])])
              clear hin k1 k2
              go_wp2_with fail
              refine bodyPost_ret (v := .tuple #[.agg #[.slice none 0 0, .slice none 0 0], .int .i64 141]) ?_ rfl ⟨?_, fun _ => rfl, fun v' l' h => by rw [HN.out] at h; cases h⟩
              · go_light
                simp [results, Try.results26, go_sem, t0, t1, tf]
              · go_light
                (repeat (with_reducible refine Below.setCell ?_ (by simp; omega) _))
                exact hb
            | true =>
              obtain ⟨h1, h2⟩ := hin hth
              obtain ⟨m, rfl⟩ := Int.eq_ofNat_of_zero_le h1
              have hm8 : m < 8 := by omega
              have HR2 : applyR v l 3 m = if ¬(v.length = 1 ∧ decide ((m : Int) ∈ v) = true) then some (setList (updF (memF v) m false), setList (updF (memF l) m false)) else none := by
                rw [hR.out]
                simp [hth]
              have HR2 := Lib.hid HR2
              clear hin k1 k2 hR
              generalize decide ((m : Int) ∈ v) = p at *
              by_cases hv1 : v.length = 1
              · have hv1' : ((v.length : Int) == 1) = true := by simp [hv1]
                have HV1 := Lib.hid hv1
                clear hv1
                go_wp2_with fail
                refine (HV _ hi1c).mono ?_
                rintro e w3 ⟨rfl, hb3⟩
                replace t0 := keepC hb3 t0
                replace t1 := keepC hb3 t1
                replace z2 := keepC hb3 z2
                replace z3 := keepC hb3 z3
                replace hb := bTrans hb hb3
                have xc2 := keepH hb3 xc2
                have tf : ∀ o, w3.frozen? ⟨w.heap.size + 1 + 1, o, none⟩ = false := fun o => frozen_at xc2 o
                have hh6 := keepH hb3 hh6
                have hh7 := keepH hb3 hh7
                have q6 := bools_cell hh6 m hm8
                have q7 := bools_cell hh7 m hm8
                have e7 := frozen_at hh7 m
                have e6 := frozen_at hh6 m
                have q7' : ∀ b, (w3.setCell ⟨g6, m, none⟩ (.bool b)).cell? ⟨g7, m, none⟩ = some (.bool (memF l m)) := fun b => by
                  rw [World.cell?_setCell_other _ _ _ _ (by simp [hne])]; exact q7
                have H6 := Lib.hid hh6
                have H7 := Lib.hid hh7
                have HX := Lib.hid xc2
                clear hh6 hh7 xc2 hb3 HV
                cases p
                · have HS := Lib.hid (HR2.out.trans (if_pos (by simp)))
                  go_wp2_with fail
                  go_meet
                  go_light
                  refine ⟨updF (memF v) m false, updF (memF l) m false, HS.out, ?_, ?_, ?_, (hb.setCell (by simp; omega) _).setCell (by simp; omega) _⟩
                  · rw [Below.heap_setCell _ _ _ _ hne]; exact bools_put H6.out m hm8 false
                  · exact bools_put (by rw [Below.heap_setCell _ _ _ _ (Ne.symm hne)]; exact H7.out) m hm8 false
                  · rw [Below.heap_setCell _ _ _ _ (by simp; omega), Below.heap_setCell _ _ _ _ (by simp; omega)]; exact HX.out
                · have HN := Lib.hid (HR2.out.trans (if_neg (by simp [HV1.out])))
                  go_wp2_with fail
                  refine bodyPost_ret (v := .tuple #[.agg #[.slice none 0 0, .slice none 0 0], .int .i64 141]) ?_ rfl ⟨?_, fun _ => rfl, fun v' l' h => by rw [HN.out] at h; cases h⟩
                  · go_light
                    simp [results, Try.results26, go_sem, t0, t1, tf]
                  · go_light
                    (repeat (with_reducible refine Below.setCell ?_ (by simp; omega) _))
                    exact hb
              · have hv1' : ((v.length : Int) == 1) = false := by simp; omega
                have HS := Lib.hid (HR2.out.trans (if_pos (by simp [hv1])))
                have q6 := bools_cell hh6 m hm8
                have q7 := bools_cell hh7 m hm8
                have e7 := frozen_at hh7 m
                have e6 := frozen_at hh6 m
                have q7' : ∀ b, (w2.setCell ⟨g6, m, none⟩ (.bool b)).cell? ⟨g7, m, none⟩ = some (.bool (memF l m)) := fun b => by
                  rw [World.cell?_setCell_other _ _ _ _ (by simp [hne])]; exact q7
                have H6 := Lib.hid hh6
                have H7 := Lib.hid hh7
                have HX := Lib.hid xc2
                clear hh6 hh7 xc2 HV hv1
                go_wp2_with fail
                go_meet
                go_light
                refine ⟨updF (memF v) m false, updF (memF l) m false, HS.out, ?_, ?_, ?_, (hb.setCell (by simp; omega) _).setCell (by simp; omega) _⟩
                · rw [Below.heap_setCell _ _ _ _ hne]; exact bools_put H6.out m hm8 false
                · exact bools_put (by rw [Below.heap_setCell _ _ _ _ (Ne.symm hne)]; exact H7.out) m hm8 false
                · rw [Below.heap_setCell _ _ _ _ (by simp; omega), Below.heap_setCell _ _ _ _ (by simp; omega)]; exact HX.out
          · have b3 : (kind == 3) = false := by simpa using k3
            have HN := Lib.hid (show applyR v l kind n = none by rw [hR.out, if_neg (fun h => k1 h.1), if_neg (fun h => k2 h.1), if_neg (fun h => k3 h.1)])
            clear hin k1 k2 k3
            go_wp2_with fail
            refine bodyPost_ret (v := .tuple #[.agg #[.slice none 0 0, .slice none 0 0], .int .i64 141]) ?_ rfl ⟨?_, fun _ => rfl, fun v' l' h => by rw [HN.out] at h; cases h⟩
            · go_light
              simp [results, Try.results26, go_sem, t0, t1, tf]
            · go_light
              (repeat (with_reducible refine Below.setCell ?_ (by simp; omega) _))
              exact hb
    case rest =>
      obtain ⟨f6, f7, hS, hh6, hh7, hx2, hbw⟩ := hcut
      have HS := Lib.hid hS
      have l6 : g6 < wc.heap.size := heap_lt hh6
      have l7 : g7 < wc.heap.size := heap_lt hh7
      have c6_0 := bools_cell hh6 0 (by decide)
      have c7_0 := bools_cell hh7 0 (by decide)
      have c6_1 := bools_cell hh6 1 (by decide)
      have c7_1 := bools_cell hh7 1 (by decide)
      have c6_2 := bools_cell hh6 2 (by decide)
      have c7_2 := bools_cell hh7 2 (by decide)
      have c6_3 := bools_cell hh6 3 (by decide)
      have c7_3 := bools_cell hh7 3 (by decide)
      have c6_4 := bools_cell hh6 4 (by decide)
      have c7_4 := bools_cell hh7 4 (by decide)
      have c6_5 := bools_cell hh6 5 (by decide)
      have c7_5 := bools_cell hh7 5 (by decide)
      have c6_6 := bools_cell hh6 6 (by decide)
      have c7_6 := bools_cell hh7 6 (by decide)
      have c6_7 := bools_cell hh6 7 (by decide)
      have c7_7 := bools_cell hh7 7 (by decide)
      have t0 : wc.cell? ⟨w.heap.size + 1 + 1, 0, none⟩ = some (.slice none 0 0) := by rw [cell_at hx2]; rfl
      have t1 : wc.cell? ⟨w.heap.size + 1 + 1, 1, none⟩ = some (.slice none 0 0) := by rw [cell_at hx2]; rfl
      have tf : ∀ o, wc.frozen? ⟨w.heap.size + 1 + 1, o, none⟩ = false := fun o => frozen_at hx2 o
      have hzc : w.heap.size + 1 + 1 < wc.heap.size := heap_lt hx2
      clear hh6 hh7 hx2 hS
      have tok1 : True := trivial
      go_wp2
      go_region_with (first | (go_at_call 60; have _t := tok1; refine (list_calls f6 _).mono ?_; rintro e w5 ⟨A5, C5, rfl, hi5, hb5, ha5⟩; (try simp at ha5); clear tok1 _t; (try (replace hb5 := bUndrew hb5)); obtain ⟨hcc5, hff5⟩ := bcell hb5; have hs5 := hb5.size; (try simp at hs5); (have s5 : w.heap.size + 1 + 1 < w5.heap.size := by omega)) | (go_at_call 60; refine (list_calls f7 _).mono ?_; rintro e w6 ⟨A6, C6, rfl, hi6, hb6, ha6⟩; (try simp at ha6); (try (replace hb6 := bUndrew hb6)); obtain ⟨hcc6, hff6⟩ := bcell hb6))
      all_goals
        have hq5 := bTrans hbw hb5
        have hq6 := bTrans hq5 hb6
        have t0' : w6.cell? ⟨w.heap.size + 1 + 1, 0, none⟩ = some (.slice none 0 0) := keepC hb6 (keepC hb5 t0)
        have t1' : w6.cell? ⟨w.heap.size + 1 + 1, 1, none⟩ = some (.slice none 0 0) := keepC hb6 (keepC hb5 t1)
        have tf' : ∀ o, w6.frozen? ⟨w.heap.size + 1 + 1, o, none⟩ = false := fun o => by
          rw [(bcell hb6).2 _ o s5, (bcell hb5).2 _ o hzc]
          exact tf o
        have s6 := hb6.size
        go_wp2
        refine bodyPost_ret (v := .tuple #[.agg #[.slice A5 (setList f6).length C5, .slice A6 (setList f7).length C6], .int .i64 0]) ?_ rfl ⟨?_, (fun h => by rw [HS.out] at h; cases h), fun v' l' h => ?_⟩
        · go_light
          simp [results, Try.results26, go_sem, t0', t1', tf']
        · go_light
          (repeat (with_reducible refine Below.setCell ?_ (by simp; omega) _))
          exact hq6
        · go_light
          rw [HS.out] at h
          cases h
          refine ⟨A5, C5, A6, C6, rfl, ?_, ?_⟩
          · exact Row.other (Row.other (hi5.below hb6) (fun x hx => by have := ha5 x hx; show x.block ≠ w.heap.size + 1 + 1; omega) _) (fun x hx => by have := ha5 x hx; show x.block ≠ w.heap.size + 1 + 1; omega) _
          · exact Row.other (Row.other hi6 (fun x hx => by have := ha6 x hx; show x.block ≠ w.heap.size + 1 + 1; omega) _) (fun x hx => by have := ha6 x hx; show x.block ≠ w.heap.size + 1 + 1; omega) _

end Go.Proofs.Ytinkbiinbfbjgaa

/- Contracts of config.Encode; alive of the statements of chapter 14. -/
import Derived.Test.YtinkbiinbfbjgaaDConfB
import Derived.Test.YtinkbiinbfbjgaaDCodec
namespace Go.Proofs.Ytinkbiinbfbjgaa
open Go.RowKit
set_option linter.unusedVariables false

/-- The bytes of a configuration. -/
def encL (v l : List Int) : List Int := ((v.length : Int) :: v) ++ ((l.length : Int) :: l)
/-- A list's bytes, up to a place. -/
def encOne (l : List Int) : List Int := (l.length : Int) :: l

def encTo (v l : List Int) : Nat → List Int
  | 0 => []
  | 1 => [] ++ encOne v
  | _ => ([] ++ encOne v) ++ encOne l
theorem encTo_two (v l : List Int) : encTo v l 2 = encL v l := rfl

theorem encTo_len (v l : List Int) (k : Nat) (hv : v.length ≤ 8) (hl : l.length ≤ 8) : (encTo v l k).length ≤ 18 := by
  match k with
  | 0 => simp [encTo]
  | 1 => simp [encTo, encOne]; omega
  | k + 2 => simp [encTo, encOne]; omega

def Small (l : List Int) : Prop := l.length ≤ 8 ∧ ∀ i (h : i < l.length), 0 ≤ l[i] ∧ l[i] < 8

theorem okAt_spec {l : List Int} {i : Nat} (hi : i < l.length) (h : okAt l i = true) : 0 ≤ l[i] ∧ l[i] < 8 := by
  unfold okAt at h
  simp only [List.getD, List.getElem?_eq_getElem hi, Option.getD_some, Bool.and_eq_true, decide_eq_true_eq] at h
  exact ⟨h.1, h.2.1⟩
theorem okAt_lt {l : List Int} {i : Nat} (hi : i + 1 < l.length) (h : okAt l (i + 1) = true) : l[i] < l[i + 1] := by
  unfold okAt at h
  simp only [List.getD, List.getElem?_eq_getElem hi, List.getElem?_eq_getElem (show i < l.length by omega), Option.getD_some, Bool.and_eq_true, decide_eq_true_eq, Nat.add_sub_cancel] at h
  simpa using h.2.2
theorem rises_ge {l : List Int} (h : risesB l = true) : ∀ i (hi : i < l.length), (i : Int) ≤ l[i] := by
  intro i
  induction i with
  | zero => intro hi; exact (okAt_spec hi (rises_at h 0 hi)).1
  | succ i ih =>
    intro hi
    have h1 := ih (by omega)
    have h2 := okAt_lt hi (rises_at h (i + 1) hi)
    omega
theorem rises_small {l : List Int} (h : risesB l = true) : Small l := by
  refine ⟨?_, fun i hi => okAt_spec hi (rises_at h i hi)⟩
  rcases Nat.lt_or_ge 8 l.length with h8 | h8
  · have h1 := rises_ge h 8 h8
    have h2 := (okAt_spec h8 (rises_at h 8 h8)).2
    omega
  · exact h8
theorem check_parts {v l : List Int} (h : checkB v l = true) : v ≠ [] ∧ risesB v = true ∧ risesB l = true ∧ ∀ x ∈ l, x ∉ v := by
  unfold checkB at h
  simp only [Bool.and_eq_true, Bool.not_eq_true', List.any_eq_false, decide_eq_true_eq] at h
  exact ⟨fun e => by simp [e] at h, h.2.1, h.2.2.1, h.2.2.2⟩
theorem check_zero {v l : List Int} : checkE v l = 0 ↔ checkB v l = true := by
  unfold checkE
  cases checkB v l <;> simp

theorem wrap_u8 {x : Int} (h : 0 ≤ x ∧ x < 256) : IntKind.u8.wrap x = x := by
  simp [IntKind.wrap, IntKind.signed, IntKind.bits]; omega

set_option maxHeartbeats 1000000 in
theorem Encode_no (l m : List Int) (a b : Option Addr) (c d : Nat) (w : World) (h : Ints w .i64 a l) (hl : l.length < 2^60) (h2 : Ints w .i64 b m) (hm : m.length < 2^60) (hk : checkB l m = false) :
    Calls Try.prog 31 #[.agg #[.slice a l.length c, .slice b m.length d]] w fun e w' => e = .returned (.tuple #[.slice none 0 0, .int .i64 140]) ∧ Below w.heap.size w w' := by
  have hb := bAlloc (Below.refl w.heap.size w) (.cells #[.slice a l.length c, .slice b m.length d] 39)
  have K := Check_calls l m a b c d (w.alloc (.cells #[.slice a l.length c, .slice b m.length d] 39)) (h.below hb) hl (h2.below hb) hm
  rw [show checkE l m = 140 by simp [checkE, hk]] at K
  go_enter Try.func31, Try.ntmps31
  go_wp2_with fail
  refine K.mono ?_
  rintro e w1 ⟨rfl, hb1⟩
  clear K
  go_wp2
  go_ret2
  exact ⟨rfl, bTrans hb hb1⟩

set_option maxRecDepth 100000 in
set_option maxHeartbeats 2000000 in
theorem Encode_yes (l m : List Int) (a b : Option Addr) (c d : Nat) (w : World) (h : Ints w .i64 a l) (h2 : Ints w .i64 b m) (hk : checkB l m = true) :
    Calls Try.prog 31 #[.agg #[.slice a l.length c, .slice b m.length d]] w fun e w' => ∃ A C, e = .returned (.tuple #[.slice A (encL l m).length C, .int .i64 0]) ∧ Ints w' .u8 A (encL l m) ∧ Below w.heap.size w w' := by
  have hb := bAlloc (Below.refl w.heap.size w) (.cells #[.slice a l.length c, .slice b m.length d] 39)
  obtain ⟨hne, hr1, hr2, _⟩ := check_parts hk
  have s1 := rises_small hr1
  have s2 := rises_small hr2
  have l1 := s1.1
  have l2 := s2.1
  have K := Check_calls l m a b c d (w.alloc (.cells #[.slice a l.length c, .slice b m.length d] 39)) (h.below hb) (by omega) (h2.below hb) (by omega)
  rw [show checkE l m = 0 by simp [checkE, hk]] at K
  go_enter Try.func31, Try.ntmps31
  go_wp2_with fail
  refine K.mono ?_
  rintro e w1 ⟨rfl, hb1⟩
  clear K
  have hbox := keepH hb1 (heap_alloc_new w (.cells #[.slice a l.length c, .slice b m.length d] 39))
  have c0 : w1.cell? ⟨w.heap.size, 0, none⟩ = some (.slice a l.length c) := by rw [cell_at hbox]; rfl
  have c1 : w1.cell? ⟨w.heap.size, 1, none⟩ = some (.slice b m.length d) := by rw [cell_at hbox]; rfl
  have hz : w.heap.size < w1.heap.size := heap_lt hbox
  clear hbox
  have hb2 := bTrans hb hb1
  clear hb hb1
  go_wp2_with fail
  refine (wNew_calls _).mono ?_
  rintro e w2 ⟨rfl, rfl⟩
  have hgw := heap_alloc_new w1 (.cells #[.slice none 0 0] 114)
  have hrr := heap_alloc_new (w1.alloc (.cells #[.slice none 0 0] 114)) (.cells #[.slice a l.length c, .slice b m.length d] 37)
  have hgw2 : ((w1.alloc (.cells #[.slice none 0 0] 114)).alloc (.cells #[.slice a l.length c, .slice b m.length d] 37)).heap[w1.heap.size]? = some (.cells #[.slice none 0 0] 114 (0, 0)) := by
    rw [heap_alloc_old _ _ _ (by simp)]; exact hgw
  have hW := WAt.start (base := w1.heap.size + 2) (by omega) hgw2
  rw [World.size_alloc] at hrr
  have hb3 := bAlloc (bAlloc (Below.refl _ w1) (.cells #[.slice none 0 0] 114)) (.cells #[.slice a l.length c, .slice b m.length d] 37)
  have hsz : w1.heap.size + 2 = ((w1.alloc (.cells #[.slice none 0 0] 114)).alloc (.cells #[.slice a l.length c, .slice b m.length d] 37)).heap.size := by simp
  have hi1 := h.below hb2
  have hi2 := h2.below hb2
  go_wp2_with fail
  clear hgw hgw2 c0 c1
  generalize (w1.alloc (.cells #[.slice none 0 0] 114)).alloc (.cells #[.slice a l.length c, .slice b m.length d] 37) = W at *
  go_loopw [19] (fun i wr => ∃ k : Nat, k ≤ 2 ∧ i = .int .i64 k ∧ WAt wr w1.heap.size (w1.heap.size + 2) (encTo l m k) ∧ BelowX (w1.heap.size + 2) w1.heap.size W wr ∧ w1.heap.size + 2 ≤ wr.heap.size) (fun i _ => 2 - (intOf i).toNat)
  case atStart => exact ⟨0, by omega, rfl, hW, BelowX.refl _ _ _, by omega⟩
  case round =>
    obtain ⟨k, hk2, rfl, hWr, hbx, hsr⟩ := hrel
    clear hW
    obtain ⟨wo, rfl⟩ : ∃ wo : World, wo = wr := ⟨_, rfl⟩
    by_cases hlt : k < 2
    · obtain ⟨x, ax, cx, hcx, hix, hsx, hex⟩ : ∃ x ax cx, wo.cell? ⟨w1.heap.size + 1, k, none⟩ = some (.slice ax x.length cx) ∧ Ints w1 .i64 ax x ∧ Small x ∧ encTo l m (k + 1) = encTo l m k ++ encOne x := by
        have hr2 := hbx.block (w1.heap.size + 1) (by omega) (by omega)
        rw [hrr] at hr2
        have h01 : k = 0 ∨ k = 1 := by omega
        rcases h01 with rfl | rfl
        · exact ⟨l, a, c, by rw [cell_at hr2]; rfl, hi1, s1, rfl⟩
        · exact ⟨m, b, d, by rw [cell_at hr2]; rfl, hi2, s2, rfl⟩
      clear hrr hi1 hi2
      have hxl := hsx.1
      have hpl := encTo_len l m k l1 l2
      have HEX := Lib.hid hex
      clear hex
      go_wp2_with fail
      refine (wByte_calls _ _ _ (x.length : Int) _ hWr (by omega) hsr).mono ?_
      rintro e w4 ⟨rfl, hW4, hb4, hs4⟩
      go_wp2_with fail
      by_cases hx0 : 0 < x.length
      · obtain ⟨q, o, rfl, hq, hcc⟩ := hix.open hx0
        go_loopw [30] (fun i wr => ∃ j : Nat, j ≤ x.length ∧ i = .int .i64 j ∧ WAt wr w1.heap.size (w1.heap.size + 2) (encTo l m k ++ ((x.length : Int) :: x.take j)) ∧ BelowX (w1.heap.size + 2) w1.heap.size W wr ∧ w1.heap.size + 2 ≤ wr.heap.size) (fun i _ => x.length - (intOf i).toNat)
        case atStart => exact ⟨0, by omega, rfl, hW4, hbx.trans hb4, hs4⟩
        case round =>
          obtain ⟨j, hj, rfl, hWq, hbq, hsq⟩ := hrel
          clear hW4 hWr
          by_cases hjx : j < x.length
          · have hcell : wr.cell? ⟨q, o + j, none⟩ = some (.int .i64 x[j]) := by
              rw [(hb3.trans ((hbq.below (by omega)).mono (Nat.le_refl _))).cell (p := ⟨q, o + j, none⟩) hq, hcc j hjx]; simp [List.getD, hjx]
            have hxj := hsx.2 j hjx
            have hx1 := hxj.1
            have hx2 := hxj.2
            have hts := take_snoc x j hjx
            generalize x[j] = y at *
            have HTS := Lib.hid hts
            clear hts hxj hcc
            go_wp2_with fail
            refine (wByte_calls _ _ _ y _ hWq (by simp; omega) hsq).mono ?_
            rintro e w5 ⟨rfl, hW5, hb5, hs5⟩
            go_wp2
            go_light
            refine ⟨⟨j + 1, by omega, by go_num, ?_, hbq.trans hb5, hs5⟩, by simp [intOf]; omega⟩
            rw [HTS.out]
            simpa using hW5
          · have e : x.take j = x := List.take_of_length_le (by omega)
            rw [e] at hWq
            clear hcc e
            go_wp2
            go_light
            refine ⟨⟨k + 1, by omega, by go_num, ?_, hbq, hsq⟩, by simp [intOf]; omega⟩
            rw [HEX.out]
            exact hWq
      · have hl0 : x = [] := by cases x with | nil => rfl | cons _ _ => simp at hx0
        subst hl0
        go_loop [30] (fun i => i = .int .i64 0) (fun _ => 0)
        case atStart => rfl
        case round =>
          subst hrel
          go_wp2
          go_light
          refine ⟨⟨k + 1, by omega, by go_num, ?_, hbx.trans hb4, hs4⟩, by simp [intOf]; omega⟩
          rw [HEX.out]
          exact hW4
    · have hk : k = 2 := by omega
      subst hk
      clear hrr
      go_wp2_with fail
      refine (wBytes_calls _ _ _ _ hWr (by have := encTo_len l m 2 l1 l2; omega)).mono ?_
      rintro e w4 ⟨A', C', rfl, ho, hb4⟩
      go_wp2
      go_ret2
      go_light
      refine ⟨A', C', rfl, Row.of_own ho, bTrans (bTrans hb2 (hb3.trans (hbx.below (by omega)))) hb4⟩

set_option maxRecDepth 100000 in
set_option maxHeartbeats 4000000 in
theorem alive14_calls (w : World) :
    Calls Try.prog 23 #[] w fun e w' => e = .returned (.bool true) ∧ Below w.heap.size w w' := by
  have r1 := Row.new w [.int .i64 0, .int .i64 2] 3
  have b1 := bAlloc (Below.refl _ w) (.cells [.int .i64 0, .int .i64 2].toArray 3)
  have r2 := Row.new (w.alloc (.cells [.int .i64 0, .int .i64 2].toArray 3)) [.int .i64 1] 3
  have b2 := bAlloc b1 (.cells [.int .i64 1].toArray 3)
  have r1 := r1.below (bAlloc (Below.refl _ _) (.cells [.int .i64 1].toArray 3))
  have b3 := bAlloc b2 (.cells #[.slice (some ⟨w.heap.size, 0, none⟩) 2 2, .slice (some ⟨w.heap.size + 1, 0, none⟩) 1 1] 39)
  have r1 : Ints _ .i64 _ [0, 2] := r1.below (bAlloc (Below.refl _ _) (.cells #[.slice (some ⟨w.heap.size, 0, none⟩) 2 2, .slice (some ⟨w.heap.size + 1, 0, none⟩) 1 1] 39))
  have r2 : Ints _ .i64 _ [1] := r2.below (bAlloc (Below.refl _ _) (.cells #[.slice (some ⟨w.heap.size, 0, none⟩) 2 2, .slice (some ⟨w.heap.size + 1, 0, none⟩) 1 1] 39))
  rw [World.size_alloc] at r2
  have k0 : (((w.alloc (.cells #[.int .i64 0, .int .i64 2] 3)).alloc (.cells #[.int .i64 1] 3)).alloc (.cells #[.slice (some ⟨w.heap.size, 0, none⟩) 2 2, .slice (some ⟨w.heap.size + 1, 0, none⟩) 1 1] 39)).cell? ⟨w.heap.size + 1 + 1, 0, none⟩ = some (.slice (some ⟨w.heap.size, 0, none⟩) 2 2) := by
    have := heap_alloc_new ((w.alloc (.cells #[.int .i64 0, .int .i64 2] 3)).alloc (.cells #[.int .i64 1] 3)) (.cells #[.slice (some ⟨w.heap.size, 0, none⟩) 2 2, .slice (some ⟨w.heap.size + 1, 0, none⟩) 1 1] 39)
    rw [World.size_alloc, World.size_alloc] at this
    rw [cell_at this]; rfl
  have k1 : (((w.alloc (.cells #[.int .i64 0, .int .i64 2] 3)).alloc (.cells #[.int .i64 1] 3)).alloc (.cells #[.slice (some ⟨w.heap.size, 0, none⟩) 2 2, .slice (some ⟨w.heap.size + 1, 0, none⟩) 1 1] 39)).cell? ⟨w.heap.size + 1 + 1, 1, none⟩ = some (.slice (some ⟨w.heap.size + 1, 0, none⟩) 1 1) := by
    have := heap_alloc_new ((w.alloc (.cells #[.int .i64 0, .int .i64 2] 3)).alloc (.cells #[.int .i64 1] 3)) (.cells #[.slice (some ⟨w.heap.size, 0, none⟩) 2 2, .slice (some ⟨w.heap.size + 1, 0, none⟩) 1 1] 39)
    rw [World.size_alloc, World.size_alloc] at this
    rw [cell_at this]; rfl
  go_enter Try.func23, Try.ntmps23
  go_wp2_with fail
  refine (Encode_yes [0, 2] [1] _ _ _ _ _ r1 r2 (by decide)).mono ?_
  rintro e w1 ⟨A, C, rfl, _, hb1⟩
  replace k0 := keepC hb1 k0
  replace k1 := keepC hb1 k1
  have b4 := bTrans b3 hb1
  replace r1 := r1.below hb1
  replace r2 := r2.below hb1
  clear b1 b2 b3 hb1
  rw [show (encL [0, 2] [1]).length = 5 by decide]
  go_wp2_with fail
  refine (Check_calls [0, 2] [1] _ _ _ _ _ r1 (by decide) r2 (by decide)).mono ?_
  rintro e w2 ⟨rfl, hb1⟩
  rw [show checkE [0, 2] [1] = 0 by decide]
  replace k0 := keepC hb1 k0
  replace k1 := keepC hb1 k1
  replace b4 := bTrans b4 hb1
  replace r1 := r1.below hb1
  replace r2 := r2.below hb1
  clear hb1
  go_wp2_with fail
  refine (Votes_calls [0, 2] [1] _ _ _ _ _ _ r1 (by decide)).mono ?_
  rintro e w3 ⟨rfl, hb1⟩
  rw [show decide ((2 : Int) ∈ [0, 2]) = true by decide]
  replace k0 := keepC hb1 k0
  replace k1 := keepC hb1 k1
  replace b4 := bTrans b4 hb1
  replace r1 := r1.below hb1
  replace r2 := r2.below hb1
  clear hb1
  go_wp2_with fail
  refine (Has_calls [0, 2] [1] _ _ _ _ _ _ r1 (by decide) r2 (by decide)).mono ?_
  rintro e w4 ⟨rfl, hb1⟩
  rw [show (decide ((1 : Int) ∈ [0, 2]) || decide ((1 : Int) ∈ [1])) = true by decide]
  replace k0 := keepC hb1 k0
  replace k1 := keepC hb1 k1
  replace b4 := bTrans b4 hb1
  replace r1 := r1.below hb1
  replace r2 := r2.below hb1
  clear hb1
  have n1 : Ints _ .i64 _ [0, 2] := Row.new w4 [.int .i64 0, .int .i64 2] 3
  go_wp2_with fail
  refine (Majority_calls [0, 2] [1] [0, 2] _ _ _ _ _ _ _ (r1.below (bAlloc (Below.refl _ _) _)) (by decide) n1 (by decide)).mono ?_
  rintro e w5 ⟨rfl, hb1⟩
  rw [show decide ((([0, 2] : List Int).length : Int) < 2 * countIn [0, 2] [0, 2]) = true by decide]
  replace hb1 := bTrans (bAlloc (Below.refl _ w4) _) hb1
  replace k0 := keepC hb1 k0
  replace k1 := keepC hb1 k1
  replace b4 := bTrans b4 hb1
  replace r1 := r1.below hb1
  clear hb1 n1
  have n1 : Ints _ .i64 _ [0, 1] := Row.new w5 [.int .i64 0, .int .i64 1] 3
  go_wp2_with fail
  refine (Majority_calls [0, 2] [1] [0, 1] _ _ _ _ _ _ _ (r1.below (bAlloc (Below.refl _ _) _)) (by decide) n1 (by decide)).mono ?_
  rintro e w6 ⟨rfl, hb1⟩
  rw [show decide ((([0, 2] : List Int).length : Int) < 2 * countIn [0, 2] [0, 1]) = false by decide]
  replace hb1 := bTrans (bAlloc (Below.refl _ w5) _) hb1
  go_wp2
  go_ret
  exact ⟨rfl, bTrans b4 hb1⟩

end Go.Proofs.Ytinkbiinbfbjgaa

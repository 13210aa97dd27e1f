/- Contract of the law ConfigCodes. -/
import Derived.Test.YtinkbiinbfbjgaaDRefDec
import Derived.Test.YtinkbiinbfbjgaaDRefEnc
import Derived.Test.YtinkbiinbfbjgaaDSame
namespace Go.Proofs.Ytinkbiinbfbjgaa
open Go.RowKit
set_option linter.unusedVariables false
set_option linter.unusedSimpArgs false

theorem encL_inj {p q r s : List Int} (h1 : checkB p q = true) (h2 : checkB r s = true) (h : encL p q = encL r s) : p = r ∧ q = s := by
  obtain ⟨a1, a2, _⟩ := dec_of h1
  obtain ⟨b1, b2, _⟩ := dec_of h2
  rw [h] at a1 a2
  exact ⟨a1.symm.trans b1, a2.symm.trans b2⟩
theorem decR_uniq {b p q r s : List Int} {e f : Int} (h : decR b p q e) (k : decR b r s f) : r = p ∧ s = q ∧ f = e := by
  rcases h with ⟨rfl, h1, h2⟩ | ⟨rfl, rfl, rfl, h3⟩
  · rcases k with ⟨rfl, k1, k2⟩ | ⟨rfl, rfl, rfl, k3⟩
    · obtain ⟨rfl, rfl⟩ := encL_inj h1 k1 (h2.trans k2.symm)
      exact ⟨rfl, rfl, rfl⟩
    · exact absurd h2 (k3 _ _ h1)
  · rcases k with ⟨rfl, k1, k2⟩ | ⟨rfl, rfl, rfl, k3⟩
    · exact absurd k2 (h3 _ _ k1)
    · exact ⟨rfl, rfl, rfl⟩
theorem decR_enc {v l p q : List Int} {e : Int} (hk : checkB v l = true) (h : decR (encL v l) p q e) : p = v ∧ q = l ∧ e = 0 := by
  have k : decR (encL v l) v l 0 := .inl ⟨rfl, hk, rfl⟩
  exact decR_uniq k h
theorem decR_len {b p q : List Int} {e : Int} (h : decR b p q e) : p.length < 2 ^ 60 ∧ q.length < 2 ^ 60 := by
  rcases h with ⟨rfl, h1, h2⟩ | ⟨rfl, rfl, rfl, h3⟩
  · obtain ⟨_, a1, a2, _⟩ := check_parts h1
    have := (rises_small a1).1
    have := (rises_small a2).1
    omega
  · simp
theorem encL_len {v l : List Int} (h : checkB v l = true) : (encL v l).length < 2 ^ 40 := by
  obtain ⟨_, a1, a2, _⟩ := check_parts h
  have := (rises_small a1).1
  have := (rises_small a2).1
  simp [encL]
  omega
theorem ints_some {w : World} {A : Option Addr} {C : Nat} {l : List Int} (h : Ints w .u8 A l) (hl : l ≠ []) : A = none → l = [] ∧ C = 0 := by
  intro e
  have h0 : 0 < l.length := by cases l with | nil => exact absurd rfl hl | cons _ _ => simp
  obtain ⟨b, o, hA, _⟩ := h.open h0
  rw [e] at hA
  cases hA
theorem conv_of {w : World} {A : Option Addr} {l : List Int} (h : Ints w .u8 A l) (C : Nat) : (convert 54 9 (.slice A l.length C)).run Try.prog w = .ok (.string (strOfNums l)) w :=
  (BytesIn_ints h).convert rfl C _ 5 _ (by kernel_rfl) (by kernel_rfl) (by kernel_rfl)
theorem conv_nil (w : World) : (convert 54 9 (.slice none 0 0)).run Try.prog w = .ok (.string (strOfNums [])) w := conv_of (l := []) (Ints.nil w _ none) 0

theorem u8_bounds {n : Int} (h : (Lit.int .u8 n).wf = true) : 0 ≤ n ∧ n < 256 := by
  simp [Lit.wf, IntKind.min, IntKind.max, IntKind.signed, IntKind.bits] at h
  omega
theorem nil_row {w : World} {A : Option Addr} {C : Nat} {l : List Int} (hc : A = none → C = 0) (h : Ints w .u8 A l) : A = none → l = [] ∧ C = 0 := fun e => by
  refine ⟨?_, hc e⟩
  rcases Nat.eq_zero_or_pos l.length with h0 | h0
  · exact List.length_eq_zero_iff.1 h0
  · obtain ⟨b, o, hA, _⟩ := h.open h0
    rw [e] at hA
    cases hA


set_option maxRecDepth 100000 in
set_option maxHeartbeats 2000000 in
theorem Codes_calls (v l b : List Int) (a b0 A : Option Addr) (c d C : Nat) (w : World) (h : Ints w .i64 a v) (hvl : v.length ≤ 1048576) (h2 : Ints w .i64 b0 l) (hll : l.length ≤ 1048576) (hbb : Ints w .u8 A b) (hn : A = none → b = [] ∧ C = 0) (hbl : b.length < 2^40) (hby : ∀ x ∈ b, 0 ≤ x ∧ x < 256) :
    Calls Try.prog 10 #[.agg #[.slice a v.length c, .slice b0 l.length d], .slice A b.length C] w fun e w' => e = .returned (.bool true) ∧ Below w.heap.size w w' := by
  have hb := bAlloc (Below.refl w.heap.size w) (.cells #[.slice a v.length c, .slice b0 l.length d] 39)
  have k0 : (w.alloc (.cells #[.slice a v.length c, .slice b0 l.length d] 39)).cell? ⟨w.heap.size, 0, none⟩ = some (.slice a v.length c) := by rw [cell_at (heap_alloc_new w _)]; rfl
  have k1 : (w.alloc (.cells #[.slice a v.length c, .slice b0 l.length d] 39)).cell? ⟨w.heap.size, 1, none⟩ = some (.slice b0 l.length d) := by rw [cell_at (heap_alloc_new w _)]; rfl
  have hx1 : w.heap.size < (w.alloc (.cells #[.slice a v.length c, .slice b0 l.length d] 39)).heap.size := by simp
  (replace h := Ints.below h hb; replace h2 := Ints.below h2 hb; replace hbb := Ints.below hbb hb)
  cases hk : checkB v l with
  | true =>
    go_enter Try.func10, Try.ntmps10
    go_wp2_with fail
    generalize w.alloc (.cells #[.slice a v.length c, .slice b0 l.length d] 39) = w0 at *
    refine (Encode_yes v l a b0 c d w0 h h2 hk).mono ?_
    rintro e w1 ⟨A1, C1, rfl, i1, hb1⟩
    (replace h := Ints.below h hb1; replace h2 := Ints.below h2 hb1; replace hbb := Ints.below hbb hb1; replace k0 := keepC hb1 k0; replace k1 := keepC hb1 k1; replace hb := bTrans hb hb1)
    go_wp2_with fail
    refine (rEncode_yes v l a b0 c d w1 h h2 hk).mono ?_
    rintro e w2 ⟨A2, C2, rfl, i2, hb2⟩
    (replace h := Ints.below h hb2; replace h2 := Ints.below h2 hb2; replace hbb := Ints.below hbb hb2; replace i1 := Ints.below i1 hb2; replace k0 := keepC hb2 k0; replace k1 := keepC hb2 k1; replace hb := bTrans hb hb2)
    clear hb1 hb2
    go_wp2_with fail
    refine (Decode_calls b A C w2 hbb hn hbl hby).mono ?_
    rintro e w3 ⟨p, q, x, y, c3, d3, er, rfl, p1, q1, hb3, hd⟩
    (replace h := Ints.below h hb3; replace h2 := Ints.below h2 hb3; replace hbb := Ints.below hbb hb3; replace i1 := Ints.below i1 hb3; replace i2 := Ints.below i2 hb3; replace k0 := keepC hb3 k0; replace k1 := keepC hb3 k1; replace hb := bTrans hb hb3)
    clear hb3
    have hx := bAlloc (Below.refl _ w3) (.cells #[.slice x p.length c3, .slice y q.length d3] 39)
    have m0 : (w3.alloc (.cells #[.slice x p.length c3, .slice y q.length d3] 39)).cell? ⟨w3.heap.size, 0, none⟩ = some (.slice x p.length c3) := by rw [cell_at (heap_alloc_new w3 _)]; rfl
    have m1 : (w3.alloc (.cells #[.slice x p.length c3, .slice y q.length d3] 39)).cell? ⟨w3.heap.size, 1, none⟩ = some (.slice y q.length d3) := by rw [cell_at (heap_alloc_new w3 _)]; rfl
    (replace h := Ints.below h hx; replace h2 := Ints.below h2 hx; replace hbb := Ints.below hbb hx; replace i1 := Ints.below i1 hx; replace i2 := Ints.below i2 hx; replace p1 := Ints.below p1 hx; replace q1 := Ints.below q1 hx; replace k0 := keepC hx k0; replace k1 := keepC hx k1; replace hb := bTrans hb hx)
    clear hx
    go_wp2_with fail
    generalize w3.alloc (.cells #[.slice x p.length c3, .slice y q.length d3] 39) = w4 at *
    refine (rDecode_calls b A C w4 hbb hbl hby).mono ?_
    rintro e w5 ⟨p', q', x', y', c5, d5, er', rfl, p2, q2, hb5, hd'⟩
    obtain ⟨rfl, rfl, rfl⟩ := decR_uniq hd' hd
    (replace h := Ints.below h hb5; replace h2 := Ints.below h2 hb5; replace hbb := Ints.below hbb hb5; replace i1 := Ints.below i1 hb5; replace i2 := Ints.below i2 hb5; replace p1 := Ints.below p1 hb5; replace q1 := Ints.below q1 hb5; replace k0 := keepC hb5 k0; replace k1 := keepC hb5 k1; replace m0 := keepC hb5 m0; replace m1 := keepC hb5 m1; replace hb := bTrans hb hb5)
    clear hb5 hd'
    have hx := bAlloc (Below.refl _ w5) (.cells #[.slice x' p.length c5, .slice y' q.length d5] 39)
    have n0 : (w5.alloc (.cells #[.slice x' p.length c5, .slice y' q.length d5] 39)).cell? ⟨w5.heap.size, 0, none⟩ = some (.slice x' p.length c5) := by rw [cell_at (heap_alloc_new w5 _)]; rfl
    have n1 : (w5.alloc (.cells #[.slice x' p.length c5, .slice y' q.length d5] 39)).cell? ⟨w5.heap.size, 1, none⟩ = some (.slice y' q.length d5) := by rw [cell_at (heap_alloc_new w5 _)]; rfl
    (replace h := Ints.below h hx; replace h2 := Ints.below h2 hx; replace hbb := Ints.below hbb hx; replace i1 := Ints.below i1 hx; replace i2 := Ints.below i2 hx; replace p1 := Ints.below p1 hx; replace q1 := Ints.below q1 hx; replace p2 := Ints.below p2 hx; replace q2 := Ints.below q2 hx; replace k0 := keepC hx k0; replace k1 := keepC hx k1; replace m0 := keepC hx m0; replace m1 := keepC hx m1; replace hb := bTrans hb hx)
    clear hx
    obtain ⟨pl, ql⟩ := decR_len hd
    go_wp2_with fail
    generalize w5.alloc (.cells #[.slice x' p.length c5, .slice y' q.length d5] 39) = w6 at *
    refine (alive14_calls w6).mono ?_
    rintro e w7 ⟨rfl, hb7⟩
    (replace h := Ints.below h hb7; replace h2 := Ints.below h2 hb7; replace hbb := Ints.below hbb hb7; replace i1 := Ints.below i1 hb7; replace i2 := Ints.below i2 hb7; replace p1 := Ints.below p1 hb7; replace q1 := Ints.below q1 hb7; replace p2 := Ints.below p2 hb7; replace q2 := Ints.below q2 hb7; replace k0 := keepC hb7 k0; replace k1 := keepC hb7 k1; replace m0 := keepC hb7 m0; replace m1 := keepC hb7 m1; replace n0 := keepC hb7 n0; replace n1 := keepC hb7 n1; replace hb := bTrans hb hb7)
    clear hb7
    have v1 := conv_of i1 C1
    have v2 := conv_of i2 C2
    go_wp2_with fail
    refine (Same_calls p q x y x' y' c3 d3 c5 d5 w7 p1 pl q1 ql p2 q2).mono ?_
    rintro e w8 ⟨rfl, hb8⟩
    (replace h := Ints.below h hb8; replace h2 := Ints.below h2 hb8; replace hbb := Ints.below hbb hb8; replace i1 := Ints.below i1 hb8; replace i2 := Ints.below i2 hb8; replace p1 := Ints.below p1 hb8; replace q1 := Ints.below q1 hb8; replace p2 := Ints.below p2 hb8; replace q2 := Ints.below q2 hb8; replace k0 := keepC hb8 k0; replace k1 := keepC hb8 k1; replace m0 := keepC hb8 m0; replace m1 := keepC hb8 m1; replace n0 := keepC hb8 n0; replace n1 := keepC hb8 n1; replace hb := bTrans hb hb8)
    clear hb8 v1 v2
    go_wp2_with fail
    refine (Decode_calls (encL v l) A1 C1 w8 i1 (ints_some i1 (by simp [encL])) (encL_len hk) (encL_in hk)).mono ?_
    rintro e w9 ⟨p9, q9, x9, y9, c9, d9, e9, rfl, p3, q3, hb9, hd9⟩
    obtain ⟨rfl, rfl, rfl⟩ := decR_enc hk hd9
    (replace h := Ints.below h hb9; replace h2 := Ints.below h2 hb9; replace hbb := Ints.below hbb hb9; replace i1 := Ints.below i1 hb9; replace i2 := Ints.below i2 hb9; replace p1 := Ints.below p1 hb9; replace q1 := Ints.below q1 hb9; replace p2 := Ints.below p2 hb9; replace q2 := Ints.below q2 hb9; replace k0 := keepC hb9 k0; replace k1 := keepC hb9 k1; replace m0 := keepC hb9 m0; replace m1 := keepC hb9 m1; replace hb := bTrans hb hb9)
    clear hb9 hd9 n0 n1
    have hx := bAlloc (Below.refl _ w9) (.cells #[.slice x9 p9.length c9, .slice y9 q9.length d9] 39)
    have o0 : (w9.alloc (.cells #[.slice x9 p9.length c9, .slice y9 q9.length d9] 39)).cell? ⟨w9.heap.size, 0, none⟩ = some (.slice x9 p9.length c9) := by rw [cell_at (heap_alloc_new w9 _)]; rfl
    have o1 : (w9.alloc (.cells #[.slice x9 p9.length c9, .slice y9 q9.length d9] 39)).cell? ⟨w9.heap.size, 1, none⟩ = some (.slice y9 q9.length d9) := by rw [cell_at (heap_alloc_new w9 _)]; rfl
    (replace h := Ints.below h hx; replace h2 := Ints.below h2 hx; replace hbb := Ints.below hbb hx; replace i1 := Ints.below i1 hx; replace i2 := Ints.below i2 hx; replace p1 := Ints.below p1 hx; replace q1 := Ints.below q1 hx; replace p2 := Ints.below p2 hx; replace q2 := Ints.below q2 hx; replace p3 := Ints.below p3 hx; replace q3 := Ints.below q3 hx; replace k0 := keepC hx k0; replace k1 := keepC hx k1; replace m0 := keepC hx m0; replace m1 := keepC hx m1; replace hb := bTrans hb hx)
    clear hx
    go_wp2_with fail
    generalize w9.alloc (.cells #[.slice x9 p9.length c9, .slice y9 q9.length d9] 39) = w10 at *
    refine (Same_calls p9 q9 a b0 x9 y9 c d c9 d9 w10 h (by omega) h2 (by omega) p3 q3).mono ?_
    rintro e w11 ⟨rfl, hb11⟩
    (replace h := Ints.below h hb11; replace h2 := Ints.below h2 hb11; replace hbb := Ints.below hbb hb11; replace i1 := Ints.below i1 hb11; replace i2 := Ints.below i2 hb11; replace p1 := Ints.below p1 hb11; replace q1 := Ints.below q1 hb11; replace p2 := Ints.below p2 hb11; replace q2 := Ints.below q2 hb11; replace m0 := keepC hb11 m0; replace m1 := keepC hb11 m1; replace hb := bTrans hb hb11)
    clear hb11 k0 k1 o0 o1 p3 q3
    by_cases her : er = 0
    · subst her
      rcases hd with ⟨_, hc, rfl⟩ | ⟨h0, _⟩
      · go_wp2_with fail
        refine (Encode_yes p q x y c3 d3 _ p1 q1 hc).mono ?_
        rintro e w12 ⟨A3, C3, rfl, i3, hb12⟩
        (replace hbb := Ints.below hbb hb12; replace hb := bTrans hb hb12)
        have v3 := conv_of i3 C3
        have v4 := conv_of hbb C
        go_wp2
        go_ret
        exact ⟨rfl, hb⟩
      · cases h0
    · have her' : (er != 0) = true := by simpa using her
      clear her
      go_wp2
      go_ret
      exact ⟨rfl, hb⟩
  | false =>
    go_enter Try.func10, Try.ntmps10
    go_wp2_with fail
    generalize w.alloc (.cells #[.slice a v.length c, .slice b0 l.length d] 39) = w0 at *
    refine (Encode_no v l a b0 c d w0 h (by omega) h2 (by omega) hk).mono ?_
    rintro e w1 ⟨rfl, hb1⟩
    (replace h := Ints.below h hb1; replace h2 := Ints.below h2 hb1; replace hbb := Ints.below hbb hb1; replace k0 := keepC hb1 k0; replace k1 := keepC hb1 k1; replace hb := bTrans hb hb1)
    go_wp2_with fail
    refine (rEncode_no v l a b0 c d w1 h (by omega) h2 (by omega) hk).mono ?_
    rintro e w2 ⟨rfl, hb2⟩
    (replace h := Ints.below h hb2; replace h2 := Ints.below h2 hb2; replace hbb := Ints.below hbb hb2; replace k0 := keepC hb2 k0; replace k1 := keepC hb2 k1; replace hb := bTrans hb hb2)
    clear hb1 hb2
    go_wp2_with fail
    refine (Decode_calls b A C w2 hbb hn hbl hby).mono ?_
    rintro e w3 ⟨p, q, x, y, c3, d3, er, rfl, p1, q1, hb3, hd⟩
    (replace h := Ints.below h hb3; replace h2 := Ints.below h2 hb3; replace hbb := Ints.below hbb hb3; replace k0 := keepC hb3 k0; replace k1 := keepC hb3 k1; replace hb := bTrans hb hb3)
    clear hb3
    have hx := bAlloc (Below.refl _ w3) (.cells #[.slice x p.length c3, .slice y q.length d3] 39)
    have m0 : (w3.alloc (.cells #[.slice x p.length c3, .slice y q.length d3] 39)).cell? ⟨w3.heap.size, 0, none⟩ = some (.slice x p.length c3) := by rw [cell_at (heap_alloc_new w3 _)]; rfl
    have m1 : (w3.alloc (.cells #[.slice x p.length c3, .slice y q.length d3] 39)).cell? ⟨w3.heap.size, 1, none⟩ = some (.slice y q.length d3) := by rw [cell_at (heap_alloc_new w3 _)]; rfl
    (replace h := Ints.below h hx; replace h2 := Ints.below h2 hx; replace hbb := Ints.below hbb hx; replace p1 := Ints.below p1 hx; replace q1 := Ints.below q1 hx; replace k0 := keepC hx k0; replace k1 := keepC hx k1; replace hb := bTrans hb hx)
    clear hx
    go_wp2_with fail
    generalize w3.alloc (.cells #[.slice x p.length c3, .slice y q.length d3] 39) = w4 at *
    refine (rDecode_calls b A C w4 hbb hbl hby).mono ?_
    rintro e w5 ⟨p', q', x', y', c5, d5, er', rfl, p2, q2, hb5, hd'⟩
    obtain ⟨rfl, rfl, rfl⟩ := decR_uniq hd' hd
    (replace h := Ints.below h hb5; replace h2 := Ints.below h2 hb5; replace hbb := Ints.below hbb hb5; replace p1 := Ints.below p1 hb5; replace q1 := Ints.below q1 hb5; replace k0 := keepC hb5 k0; replace k1 := keepC hb5 k1; replace m0 := keepC hb5 m0; replace m1 := keepC hb5 m1; replace hb := bTrans hb hb5)
    clear hb5 hd'
    have hx := bAlloc (Below.refl _ w5) (.cells #[.slice x' p.length c5, .slice y' q.length d5] 39)
    have n0 : (w5.alloc (.cells #[.slice x' p.length c5, .slice y' q.length d5] 39)).cell? ⟨w5.heap.size, 0, none⟩ = some (.slice x' p.length c5) := by rw [cell_at (heap_alloc_new w5 _)]; rfl
    have n1 : (w5.alloc (.cells #[.slice x' p.length c5, .slice y' q.length d5] 39)).cell? ⟨w5.heap.size, 1, none⟩ = some (.slice y' q.length d5) := by rw [cell_at (heap_alloc_new w5 _)]; rfl
    (replace h := Ints.below h hx; replace h2 := Ints.below h2 hx; replace hbb := Ints.below hbb hx; replace p1 := Ints.below p1 hx; replace q1 := Ints.below q1 hx; replace p2 := Ints.below p2 hx; replace q2 := Ints.below q2 hx; replace k0 := keepC hx k0; replace k1 := keepC hx k1; replace m0 := keepC hx m0; replace m1 := keepC hx m1; replace hb := bTrans hb hx)
    clear hx
    obtain ⟨pl, ql⟩ := decR_len hd
    go_wp2_with fail
    generalize w5.alloc (.cells #[.slice x' p.length c5, .slice y' q.length d5] 39) = w6 at *
    refine (alive14_calls w6).mono ?_
    rintro e w7 ⟨rfl, hb7⟩
    (replace h := Ints.below h hb7; replace h2 := Ints.below h2 hb7; replace hbb := Ints.below hbb hb7; replace p1 := Ints.below p1 hb7; replace q1 := Ints.below q1 hb7; replace p2 := Ints.below p2 hb7; replace q2 := Ints.below q2 hb7; replace k0 := keepC hb7 k0; replace k1 := keepC hb7 k1; replace m0 := keepC hb7 m0; replace m1 := keepC hb7 m1; replace n0 := keepC hb7 n0; replace n1 := keepC hb7 n1; replace hb := bTrans hb hb7)
    clear hb7
    have v1 := conv_nil w7
    go_wp2_with fail
    refine (Same_calls p q x y x' y' c3 d3 c5 d5 w7 p1 pl q1 ql p2 q2).mono ?_
    rintro e w8 ⟨rfl, hb8⟩
    (replace h := Ints.below h hb8; replace h2 := Ints.below h2 hb8; replace hbb := Ints.below hbb hb8; replace p1 := Ints.below p1 hb8; replace q1 := Ints.below q1 hb8; replace p2 := Ints.below p2 hb8; replace q2 := Ints.below q2 hb8; replace k0 := keepC hb8 k0; replace k1 := keepC hb8 k1; replace m0 := keepC hb8 m0; replace m1 := keepC hb8 m1; replace n0 := keepC hb8 n0; replace n1 := keepC hb8 n1; replace hb := bTrans hb hb8)
    clear hb8 v1
    by_cases her : er = 0
    · subst her
      rcases hd with ⟨_, hc, rfl⟩ | ⟨h0, _⟩
      · go_wp2_with fail
        refine (Encode_yes p q x y c3 d3 _ p1 q1 hc).mono ?_
        rintro e w12 ⟨A3, C3, rfl, i3, hb12⟩
        (replace hbb := Ints.below hbb hb12; replace hb := bTrans hb hb12)
        have v3 := conv_of i3 C3
        have v4 := conv_of hbb C
        go_wp2
        go_ret
        exact ⟨rfl, hb⟩
      · cases h0
    · have her' : (er != 0) = true := by simpa using her
      clear her
      go_wp2
      go_ret
      exact ⟨rfl, hb⟩
end Go.Proofs.Ytinkbiinbfbjgaa

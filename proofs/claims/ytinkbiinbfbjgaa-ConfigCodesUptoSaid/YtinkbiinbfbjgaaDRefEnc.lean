/- Contract of the reference's Encode. -/
import Derived.Test.YtinkbiinbfbjgaaDConfC
import Derived.Test.YtinkbiinbfbjgaaDApply
namespace Go.Proofs.Ytinkbiinbfbjgaa
open Go.RowKit
set_option linter.unusedVariables false
set_option linter.unusedSimpArgs false

set_option maxHeartbeats 1000000 in
theorem rEncode_no (l m : List Int) (a b : Option Addr) (c d : Nat) (w : World) (h : Ints w .i64 a l) (hl : l.length < 2^60) (h2 : Ints w .i64 b m) (hm : m.length < 2^60) (hk : checkB l m = false) :
    Calls Try.prog 32 #[.agg #[.slice a l.length c, .slice b m.length d]] w fun e w' => e = .returned (.tuple #[.slice none 0 0, .int .i64 140]) ∧ Below w.heap.size w w' := by
  have hb := bAlloc (Below.refl w.heap.size w) (.cells #[.slice a l.length c, .slice b m.length d] 39)
  have k0 : (w.alloc (.cells #[.slice a l.length c, .slice b m.length d] 39)).cell? ⟨w.heap.size, 0, none⟩ = some (.slice a l.length c) := by rw [cell_at (heap_alloc_new w _)]; rfl
  have k1 : (w.alloc (.cells #[.slice a l.length c, .slice b m.length d] 39)).cell? ⟨w.heap.size, 1, none⟩ = some (.slice b m.length d) := by rw [cell_at (heap_alloc_new w _)]; rfl
  have K := rCheck_calls l m a b c d (w.alloc (.cells #[.slice a l.length c, .slice b m.length d] 39)) (h.below hb) hl (h2.below hb) hm
  rw [show checkE l m = 140 by simp [checkE, hk]] at K
  go_enter Try.func32, Try.ntmps32
  go_wp2_with fail
  refine K.mono ?_
  rintro e w1 ⟨rfl, hb1⟩
  clear K
  go_wp2
  go_ret2
  exact ⟨rfl, bTrans hb hb1⟩

set_option maxHeartbeats 1000000 in
theorem rEncode_yes (l m : List Int) (a b : Option Addr) (c d : Nat) (w : World) (h : Ints w .i64 a l) (h2 : Ints w .i64 b m) (hk : checkB l m = true) :
    Calls Try.prog 32 #[.agg #[.slice a l.length c, .slice b m.length d]] w fun e w' => ∃ A C, e = .returned (.tuple #[.slice A (encL l m).length C, .int .i64 0]) ∧ Ints w' .u8 A (encL l m) ∧ Below w.heap.size w w' := by
  have hb := bAlloc (Below.refl w.heap.size w) (.cells #[.slice a l.length c, .slice b m.length d] 39)
  obtain ⟨hne, hr1, hr2, _⟩ := check_parts hk
  have s1 := rises_small hr1
  have s2 := rises_small hr2
  have l1 := s1.1
  have l2 := s2.1
  have k0 : (w.alloc (.cells #[.slice a l.length c, .slice b m.length d] 39)).cell? ⟨w.heap.size, 0, none⟩ = some (.slice a l.length c) := by rw [cell_at (heap_alloc_new w _)]; rfl
  have k1 : (w.alloc (.cells #[.slice a l.length c, .slice b m.length d] 39)).cell? ⟨w.heap.size, 1, none⟩ = some (.slice b m.length d) := by rw [cell_at (heap_alloc_new w _)]; rfl
  have hx1 : w.heap.size < (w.alloc (.cells #[.slice a l.length c, .slice b m.length d] 39)).heap.size := by simp
  have K := rCheck_calls l m a b c d (w.alloc (.cells #[.slice a l.length c, .slice b m.length d] 39)) (h.below hb) (by omega) (h2.below hb) (by omega)
  rw [show checkE l m = 0 by simp [checkE, hk]] at K
  (replace h := Ints.below h hb; replace h2 := Ints.below h2 hb)
  go_enter Try.func32, Try.ntmps32
  go_wp2_with fail
  generalize w.alloc (.cells #[.slice a l.length c, .slice b m.length d] 39) = w0 at *
  refine K.mono ?_
  rintro e w1 ⟨rfl, hb1⟩
  (replace h := Ints.below h hb1; replace h2 := Ints.below h2 hb1; replace k0 := keepC hb1 k0; replace k1 := keepC hb1 k1; replace hb := bTrans hb hb1)
  have hz : w.heap.size < w1.heap.size := by have := hb1.size; omega
  clear K hb1
  have wl := wrap_u8 (x := l.length) (by omega)
  have wm := wrap_u8 (x := m.length) (by omega)
  have h0 : (w1.alloc (.cells #[.int .u8 (l.length : Nat)] 5)).ownsRow w1.heap.size 5 1 (.slice (some ⟨w1.heap.size, 0, none⟩) 1 1) 1 [.int .u8 (l.length : Nat)] := World.ownsRow_lit (base := w1.heap.size) w1 #[.int .u8 (l.length : Nat)] 1 (Nat.le_refl _) (by decide) rfl
  have hb2 := bAlloc (Below.refl _ w1) (.cells #[.int .u8 (l.length : Nat)] 5)
  go_wp2_with fail
  go_loopw [5, 6] (fun s5 i wr => ∃ (k : Nat) (A : Option Addr) (C : Nat), k ≤ l.length ∧ i = .int .i64 k ∧ s5 = .slice A (1 + k) C ∧ wr.ownsRow w1.heap.size 5 1 (.slice A (1 + k) C) (1 + k) (((l.length : Int) :: l.take k).map (Value.int .u8)) ∧ Below w1.heap.size w1 wr) (fun _ i _ => l.length - (intOf i).toNat)
  case atStart => exact ⟨0, _, _, by omega, rfl, rfl, h0, hb2⟩
  case round =>
    obtain ⟨w2, rfl⟩ : ∃ w2 : World, w2 = wr := ⟨_, rfl⟩
    obtain ⟨k, A, C, hk2, rfl, rfl, hown, hbr⟩ := hrel
    clear h0 hb2
    have q0 := keepC hbr k0
    have q1 := keepC hbr k1
    have hsz := hbr.size
    by_cases hlt : k < l.length
    · obtain ⟨b1, o, rfl, hbl, hc⟩ := h.open (by omega)
      have hcell := keepC hbr (hc k hlt)
      have h2' : l.getD k 0 = l[k] := by simp [List.getD, hlt]
      rw [h2'] at hcell
      have wx := wrap_u8 (x := l[k]) (by have := s1.2 k hlt; omega)
      have ht : l.take (k + 1) = l.take k ++ [l[k]] := take_snoc l k hlt
      generalize l[k] = y at *
      have HT := Lib.hid ht
      clear ht hc h2'
      go_wp2_with (at_builtin; refine wpList_app elU8 w1.heap.size rfl _ _ rfl _ _ _ rfl (hown.alloc _) _ 1 _ [.int .u8 y] rfl rfl (Row.one _ _ _) (by simp [Value.oneCell']) (by omega) (by simp; omega) ?_; intro A6 C6 w6 hown6 hgrow6 hb6)
      go_light
      refine ⟨⟨k + 1, A6, C6, by omega, by go_num, rfl, ?_, hbr.trans ((Below.refl _ _).alloc hsz _ |>.trans hb6)⟩, by simp [intOf]; omega⟩
      rw [HT.out]
      simpa [Nat.add_assoc] using hown6
    · have ek : k = l.length := by omega
      subst ek
      rw [List.take_of_length_le (Nat.le_refl _)] at hown
      clear hlt hk2
      have hlen : (((l.length : Int) :: l).map (Value.int .u8)).length = 1 + l.length := by simp; omega
      generalize hrow : ((l.length : Int) :: l).map (Value.int .u8) = row at *
      have HRW := Lib.hid hrow
      clear hrow
      go_wp2_with (at_builtin; refine wpList_app elU8 w1.heap.size rfl _ _ rfl _ _ _ rfl (hown.alloc _) _ 1 _ [.int .u8 (m.length : Nat)] rfl rfl (Row.one _ _ _) (by simp [Value.oneCell']) (by omega) (by simp; omega) ?_; intro A6 C6 w6 hown6 hgrow6 hb6)
      have hb7 := hbr.trans ((Below.refl _ w2).alloc hsz (.cells #[.int .u8 (m.length : Nat)] 5) |>.trans hb6)
      clear q0 q1 hown hbr hgrow6 hb6
      go_loopw [5, 7] (fun s5 i wr => ∃ (k : Nat) (A : Option Addr) (C : Nat), k ≤ m.length ∧ i = .int .i64 k ∧ s5 = .slice A (1 + l.length + 1 + k) C ∧ wr.ownsRow w1.heap.size 5 1 (.slice A (1 + l.length + 1 + k) C) (1 + l.length + 1 + k) (row ++ ((m.length : Int) :: m.take k).map (Value.int .u8)) ∧ Below w1.heap.size w1 wr) (fun _ i _ => m.length - (intOf i).toNat)
      case atStart => exact ⟨0, _, _, by omega, rfl, rfl, hown6, hb7⟩
      case round =>
        obtain ⟨w3, rfl⟩ : ∃ w3 : World, w3 = wr := ⟨_, rfl⟩
        obtain ⟨k, A, C, hk2, rfl, rfl, hown, hbr⟩ := hrel
        clear hown6 hb7
        have q1 := keepC hbr k1
        have hsz := hbr.size
        by_cases hlt : k < m.length
        · obtain ⟨b1, o, rfl, hbl, hc⟩ := h2.open (by omega)
          have hcell := keepC hbr (hc k hlt)
          have h2' : m.getD k 0 = m[k] := by simp [List.getD, hlt]
          rw [h2'] at hcell
          have wx := wrap_u8 (x := m[k]) (by have := s2.2 k hlt; omega)
          have ht : m.take (k + 1) = m.take k ++ [m[k]] := take_snoc m k hlt
          generalize m[k] = y at *
          have HT := Lib.hid ht
          have hlr : (row ++ ((m.length : Int) :: m.take k).map (Value.int .u8)).length = 1 + l.length + 1 + k := by simp; omega
          generalize hR : row ++ ((m.length : Int) :: m.take k).map (Value.int .u8) = R at *
          have HR := Lib.hid hR
          clear ht hc h2' hR
          go_wp2_with (at_builtin; refine wpList_app elU8 w1.heap.size rfl _ _ rfl _ _ _ rfl (hown.alloc _) _ 1 _ [.int .u8 y] rfl rfl (Row.one _ _ _) (by simp [Value.oneCell']) (by omega) (by simp; omega) ?_; intro A6 C6 w6 hown6 hgrow6 hb6)
          go_light
          refine ⟨⟨k + 1, A6, C6, by omega, by go_num, rfl, ?_, hbr.trans ((Below.refl _ _).alloc hsz _ |>.trans hb6)⟩, by simp [intOf]; omega⟩
          rw [HT.out]
          rw [← HR.out] at hown6
          simpa [Nat.add_assoc] using hown6
        · have ek : k = m.length := by omega
          subst ek
          rw [List.take_of_length_le (Nat.le_refl _)] at hown
          clear hlt hk2
          go_wp2
          go_ret2
          go_light
          have e : (row ++ ((m.length : Int) :: m).map (Value.int .u8)) = (encL l m).map (Value.int .u8) := by
            rw [← HRW.out]; simp [encL]
          rw [e] at hown
          have e2 : (encL l m).length = 1 + l.length + 1 + m.length := by simp [encL]; omega
          exact ⟨A, C, by rw [e2]; rfl, Row.of_own hown, bTrans hb hbr⟩
end Go.Proofs.Ytinkbiinbfbjgaa

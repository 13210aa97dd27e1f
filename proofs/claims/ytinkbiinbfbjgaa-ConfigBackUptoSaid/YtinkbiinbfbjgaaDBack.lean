/- Contract of the law ConfigBack. -/
import Derived.Test.YtinkbiinbfbjgaaDSets
import Derived.Test.YtinkbiinbfbjgaaDSame
import Derived.Test.YtinkbiinbfbjgaaDConfC
namespace Go.Proofs.Ytinkbiinbfbjgaa
open Go.RowKit
set_option linter.unusedVariables false
set_option linter.unusedSimpArgs false

theorem Apply_none {v l : List Int} {kind n : Int} (ha : applyR v l kind n = none) (a b : Option Addr) (c d : Nat) (w : World) (h : Ints w .i64 a v) (h2 : Ints w .i64 b l) (hk : checkB v l = true) :
    Calls Try.prog 26 #[.agg #[.slice a v.length c, .slice b l.length d], .agg #[.int .i64 kind, .int .i64 n]] w fun e w' => e = .returned (.tuple #[.agg #[.slice none 0 0, .slice none 0 0], .int .i64 141]) ∧ Below w.heap.size w w' :=
  (Apply_go v l a b c d kind n w h h2 hk).mono fun e w' h => ⟨h.2.1 ha, h.1⟩
theorem Apply_some {v l v' l' : List Int} {kind n : Int} (ha : applyR v l kind n = some (v', l')) (a b : Option Addr) (c d : Nat) (w : World) (h : Ints w .i64 a v) (h2 : Ints w .i64 b l) (hk : checkB v l = true) :
    Calls Try.prog 26 #[.agg #[.slice a v.length c, .slice b l.length d], .agg #[.int .i64 kind, .int .i64 n]] w fun e w' => ∃ A C B D, e = .returned (.tuple #[.agg #[.slice A v'.length C, .slice B l'.length D], .int .i64 0]) ∧ Ints w' .i64 A v' ∧ Ints w' .i64 B l' ∧ Below w.heap.size w w' :=
  (Apply_go v l a b c d kind n w h h2 hk).mono fun e w' h =>
    let ⟨A, C, B, D, h1, h2, h3⟩ := h.2.2 v' l' ha
    ⟨A, C, B, D, h1, h2, h3, h.1⟩

theorem len8 {l : List Int} (h : risesB l = true) : l.length ≤ 8 := by
  have := setTo_len (memF l) 8
  have e : setTo (memF l) 8 = l := setList_memF h
  rw [e] at this
  exact this

set_option maxRecDepth 100000 in
set_option maxHeartbeats 8000000 in
theorem Back_calls (v l : List Int) (a b : Option Addr) (c d : Nat) (n : Int) (w : World) (h : Ints w .i64 a v) (hl : v.length ≤ 1048576) (h2 : Ints w .i64 b l) (hm : l.length ≤ 1048576) :
    Calls Try.prog 9 #[.agg #[.slice a v.length c, .slice b l.length d], .int .i64 n] w fun e w' => e = .returned (.bool true) ∧ Below w.heap.size w w' := by
  have hb := bAlloc (Below.refl w.heap.size w) (.cells #[.slice a v.length c, .slice b l.length d] 39)
  have k0 : (w.alloc (.cells #[.slice a v.length c, .slice b l.length d] 39)).cell? ⟨w.heap.size, 0, none⟩ = some (.slice a v.length c) := by rw [cell_at (heap_alloc_new w _)]; rfl
  have k1 : (w.alloc (.cells #[.slice a v.length c, .slice b l.length d] 39)).cell? ⟨w.heap.size, 1, none⟩ = some (.slice b l.length d) := by rw [cell_at (heap_alloc_new w _)]; rfl
  replace h := Ints.below h hb
  replace h2 := Ints.below h2 hb
  by_cases hk : checkB v l = true
  · cases ha : applyR v l 1 n with
    | none =>
      have CC := Apply_none ha a b c d _ h h2 hk
      go_enter Try.func9, Try.ntmps9
      go_wp2_with fail
      refine (CC).mono ?_
      rintro e w1 ⟨rfl, hb1⟩
      clear CC
      go_wp2_with fail
      refine (alive14_calls _).mono ?_
      rintro e w2 ⟨rfl, hb2⟩
      go_wp2
      go_ret
      exact ⟨rfl, bTrans (bTrans (bTrans hb hb1) (bAlloc (Below.refl _ _) _)) hb2⟩
    | some r =>
      obtain ⟨v', l'⟩ := r
      obtain ⟨n0, n8, nv, nl, ev, nl', ml', hk', ha3, u, ha2, mu, lu⟩ := back_of hk ha
      replace ev := ev.symm
      subst ev
      have LU := Lib.hid lu
      have lu8 : u.length ≤ 9 := by have := len8 (check_iff.1 hk).2.1; omega
      clear lu
      have CC := Apply_some ha a b c d _ h h2 hk
      go_enter Try.func9, Try.ntmps9
      go_wp2_with fail
      refine (CC).mono ?_
      rintro e w1 ⟨A, C, B, D, rfl, hd1, hd2, hb1⟩
      clear CC
      replace h := Ints.below h hb1
      replace h2 := Ints.below h2 hb1
      replace k0 := keepC hb1 k0
      replace k1 := keepC hb1 k1
      replace hb := bTrans hb hb1
      clear hb1
      have hx1 := bAlloc (Below.refl _ w1) (.cells #[.slice A v.length C, .slice B l'.length D] 39)
      have j0 : (w1.alloc (.cells #[.slice A v.length C, .slice B l'.length D] 39)).cell? ⟨w1.heap.size, 0, none⟩ = some (.slice A v.length C) := by rw [cell_at (heap_alloc_new w1 _)]; rfl
      have j1 : (w1.alloc (.cells #[.slice A v.length C, .slice B l'.length D] 39)).cell? ⟨w1.heap.size, 1, none⟩ = some (.slice B l'.length D) := by rw [cell_at (heap_alloc_new w1 _)]; rfl
      replace h := Ints.below h hx1
      replace h2 := Ints.below h2 hx1
      replace hd1 := Ints.below hd1 hx1
      replace hd2 := Ints.below hd2 hx1
      replace k0 := keepC hx1 k0
      replace k1 := keepC hx1 k1
      replace hb := bTrans hb hx1
      clear hx1
      have CC := Apply_some ha3 A B C D _ hd1 hd2 hk'
      go_wp2_with fail
      refine (CC).mono ?_
      rintro e w2 ⟨A2, C2, B2, D2, rfl, he1, he2, hb2⟩
      clear CC
      replace h := Ints.below h hb2
      replace h2 := Ints.below h2 hb2
      replace hd1 := Ints.below hd1 hb2
      replace hd2 := Ints.below hd2 hb2
      replace k0 := keepC hb2 k0
      replace k1 := keepC hb2 k1
      replace j0 := keepC hb2 j0
      replace j1 := keepC hb2 j1
      replace hb := bTrans hb hb2
      clear hb2
      have hx2 := bAlloc (Below.refl _ w2) (.cells #[.slice A2 v.length C2, .slice B2 l.length D2] 39)
      have m0 : (w2.alloc (.cells #[.slice A2 v.length C2, .slice B2 l.length D2] 39)).cell? ⟨w2.heap.size, 0, none⟩ = some (.slice A2 v.length C2) := by rw [cell_at (heap_alloc_new w2 _)]; rfl
      have m1 : (w2.alloc (.cells #[.slice A2 v.length C2, .slice B2 l.length D2] 39)).cell? ⟨w2.heap.size, 1, none⟩ = some (.slice B2 l.length D2) := by rw [cell_at (heap_alloc_new w2 _)]; rfl
      replace h := Ints.below h hx2
      replace h2 := Ints.below h2 hx2
      replace hd1 := Ints.below hd1 hx2
      replace hd2 := Ints.below hd2 hx2
      replace he1 := Ints.below he1 hx2
      replace he2 := Ints.below he2 hx2
      replace k0 := keepC hx2 k0
      replace k1 := keepC hx2 k1
      replace j0 := keepC hx2 j0
      replace j1 := keepC hx2 j1
      replace hb := bTrans hb hx2
      clear hx2
      have CC := Apply_some ha2 A B C D _ hd1 hd2 hk'
      go_wp2_with fail
      refine (CC).mono ?_
      rintro e w3 ⟨A3, C3, B3, D3, rfl, hf1, hf2, hb3⟩
      clear CC
      replace h := Ints.below h hb3
      replace h2 := Ints.below h2 hb3
      replace hd1 := Ints.below hd1 hb3
      replace hd2 := Ints.below hd2 hb3
      replace he1 := Ints.below he1 hb3
      replace he2 := Ints.below he2 hb3
      replace k0 := keepC hb3 k0
      replace k1 := keepC hb3 k1
      replace j0 := keepC hb3 j0
      replace j1 := keepC hb3 j1
      replace m0 := keepC hb3 m0
      replace m1 := keepC hb3 m1
      replace hb := bTrans hb hb3
      clear hb3
      have hx3 := bAlloc (Below.refl _ w3) (.cells #[.slice A3 u.length C3, .slice B3 l.length D3] 39)
      have o0 : (w3.alloc (.cells #[.slice A3 u.length C3, .slice B3 l.length D3] 39)).cell? ⟨w3.heap.size, 0, none⟩ = some (.slice A3 u.length C3) := by rw [cell_at (heap_alloc_new w3 _)]; rfl
      have o1 : (w3.alloc (.cells #[.slice A3 u.length C3, .slice B3 l.length D3] 39)).cell? ⟨w3.heap.size, 1, none⟩ = some (.slice B3 l.length D3) := by rw [cell_at (heap_alloc_new w3 _)]; rfl
      replace h := Ints.below h hx3
      replace h2 := Ints.below h2 hx3
      replace hd1 := Ints.below hd1 hx3
      replace hd2 := Ints.below hd2 hx3
      replace he1 := Ints.below he1 hx3
      replace he2 := Ints.below he2 hx3
      replace hf1 := Ints.below hf1 hx3
      replace hf2 := Ints.below hf2 hx3
      replace k0 := keepC hx3 k0
      replace k1 := keepC hx3 k1
      replace j0 := keepC hx3 j0
      replace j1 := keepC hx3 j1
      replace m0 := keepC hx3 m0
      replace m1 := keepC hx3 m1
      replace hb := bTrans hb hx3
      clear hx3
      have lv := len8 (check_iff.1 hk).2.1
      have ll' := len8 (check_iff.1 hk').2.2.1
      have SS := fun w' h' h'' h3' h4' => Same_calls v l A2 B2 a b C2 D2 c d w' h' (by omega) h'' (by omega) h3' h4'
      have V1 := fun (k : Int) w' h' => Votes_calls u l A3 B3 C3 D3 k w' h' (by omega)
      have V2 := fun w' h' => Votes_calls v l' A B C D n w' h' (by omega)
      have H2 := fun w' h' h'' => Has_calls v l' A B C D n w' h' (by omega) h'' (by omega)
      have V3 := fun (k : Int) w' h' => Votes_calls v l a b c d k w' h' (by omega)
      have H1 := fun (k : Int) w' h' h'' => Has_calls u l A3 B3 C3 D3 k w' h' (by omega) h'' (by omega)
      have H3 := fun (k : Int) w' h' h'' => Has_calls v l a b c d k w' h' (by omega) h'' (by omega)
      have V1n := V1 n
      simp only [show decide (n ∈ u) = true by simp [mu]] at V1n
      simp only [show decide (n ∈ v) = false by simp [nv]] at V2
      simp only [show decide (n ∈ l') = true by simp [nl'], Bool.or_true] at H2
      have same : ∀ k : Int, k ≠ n → decide (k ∈ u) = decide (k ∈ v) := fun k hk => by simp [mu, hk]
      clear ha ha2 ha3 hk hk' mu ml' nv nl nl'
      go_wp2_with fail
      refine (SS _ he1 he2 h h2).mono ?_
      rintro e w4 ⟨rfl, hb4⟩
      replace h := Ints.below h hb4
      replace h2 := Ints.below h2 hb4
      replace hd1 := Ints.below hd1 hb4
      replace hd2 := Ints.below hd2 hb4
      replace he1 := Ints.below he1 hb4
      replace he2 := Ints.below he2 hb4
      replace hf1 := Ints.below hf1 hb4
      replace hf2 := Ints.below hf2 hb4
      replace k0 := keepC hb4 k0
      replace k1 := keepC hb4 k1
      replace j0 := keepC hb4 j0
      replace j1 := keepC hb4 j1
      replace m0 := keepC hb4 m0
      replace m1 := keepC hb4 m1
      replace o0 := keepC hb4 o0
      replace o1 := keepC hb4 o1
      replace hb := bTrans hb hb4
      clear hb4
      clear SS
      go_wp2_with fail
      refine (V1n _ hf1).mono ?_
      rintro e w5 ⟨rfl, hb5⟩
      replace h := Ints.below h hb5
      replace h2 := Ints.below h2 hb5
      replace hd1 := Ints.below hd1 hb5
      replace hd2 := Ints.below hd2 hb5
      replace he1 := Ints.below he1 hb5
      replace he2 := Ints.below he2 hb5
      replace hf1 := Ints.below hf1 hb5
      replace hf2 := Ints.below hf2 hb5
      replace k0 := keepC hb5 k0
      replace k1 := keepC hb5 k1
      replace j0 := keepC hb5 j0
      replace j1 := keepC hb5 j1
      replace m0 := keepC hb5 m0
      replace m1 := keepC hb5 m1
      replace o0 := keepC hb5 o0
      replace o1 := keepC hb5 o1
      replace hb := bTrans hb hb5
      clear hb5
      clear V1n
      go_wp2_with fail
      refine (V2 _ hd1).mono ?_
      rintro e w6 ⟨rfl, hb6⟩
      replace h := Ints.below h hb6
      replace h2 := Ints.below h2 hb6
      replace hd1 := Ints.below hd1 hb6
      replace hd2 := Ints.below hd2 hb6
      replace he1 := Ints.below he1 hb6
      replace he2 := Ints.below he2 hb6
      replace hf1 := Ints.below hf1 hb6
      replace hf2 := Ints.below hf2 hb6
      replace k0 := keepC hb6 k0
      replace k1 := keepC hb6 k1
      replace j0 := keepC hb6 j0
      replace j1 := keepC hb6 j1
      replace m0 := keepC hb6 m0
      replace m1 := keepC hb6 m1
      replace o0 := keepC hb6 o0
      replace o1 := keepC hb6 o1
      replace hb := bTrans hb hb6
      clear hb6
      clear V2
      go_wp2_with fail
      refine (H2 _ hd1 hd2).mono ?_
      rintro e w7 ⟨rfl, hb7⟩
      replace h := Ints.below h hb7
      replace h2 := Ints.below h2 hb7
      replace hd1 := Ints.below hd1 hb7
      replace hd2 := Ints.below hd2 hb7
      replace he1 := Ints.below he1 hb7
      replace he2 := Ints.below he2 hb7
      replace hf1 := Ints.below hf1 hb7
      replace hf2 := Ints.below hf2 hb7
      replace k0 := keepC hb7 k0
      replace k1 := keepC hb7 k1
      replace j0 := keepC hb7 j0
      replace j1 := keepC hb7 j1
      replace m0 := keepC hb7 m0
      replace m1 := keepC hb7 m1
      replace o0 := keepC hb7 o0
      replace o1 := keepC hb7 o1
      replace hb := bTrans hb hb7
      clear hb7
      clear H2
      clear hd1 hd2 he1 he2 j0 j1 m0 m1
      go_wp2_with fail
      go_loopw [65, 11] (fun i _ wr => ∃ k : Nat, k ≤ 8 ∧ i = .int .i64 k ∧ Below w7.heap.size w7 wr) (fun i _ _ => 8 - (intOf i).toNat)
      case atStart => exact ⟨0, by omega, rfl, Below.refl _ _⟩
      case round =>
        obtain ⟨k, hk, rfl, hbr⟩ := hrel
        replace h := Ints.below h hbr
        replace h2 := Ints.below h2 hbr
        replace hf1 := Ints.below hf1 hbr
        replace hf2 := Ints.below hf2 hbr
        replace k0 := keepC hbr k0
        replace k1 := keepC hbr k1
        replace o0 := keepC hbr o0
        replace o1 := keepC hbr o1
        replace hb := bTrans hb hbr
        by_cases hlt : k < 8
        · by_cases e : (k : Int) = n
          · have e0 : ((k : Int) != n) = false := by simp [e]
            clear e V1 V3 H1 H3 same h h2 hf1 hf2
            go_wp2
            first | go_region | (go_quiet (fail))
            all_goals
              go_wp2
              go_light
              exact ⟨⟨k + 1, by omega, by go_num, (by first | exact hbr | exact bDrew hbr | exact bDrewN hbr _)⟩, by simp [intOf]; omega⟩
          · have e1 : ((k : Int) != n) = true := by simpa using e
            have V1k := V1 k
            have V3k := V3 k
            have H1k := H1 k
            have H3k := H3 k
            rw [same k e] at V1k H1k
            clear V1 V3 H1 H3 same
            generalize decide ((k : Int) ∈ v) = p at *
            generalize decide ((k : Int) ∈ l) = q at *
            have tok1 : True := trivial
            have tok2 : True := trivial
            go_wp2
            go_region_with (first | (go_at_call 29; have _t := tok1; refine (V1k _ (hf1.below (bDrew (Below.refl _ _)))).mono ?_; rintro e w8 ⟨rfl, hb8⟩; (try (replace hb8 := bUndrew hb8)); replace h := Ints.below h hb8; replace h2 := Ints.below h2 hb8; replace hf1 := Ints.below hf1 hb8; replace hf2 := Ints.below hf2 hb8; replace k0 := keepC hb8 k0; replace k1 := keepC hb8 k1; replace o0 := keepC hb8 o0; replace o1 := keepC hb8 o1; replace hb := bTrans hb hb8; replace hbr := bTrans hbr hb8; clear tok1 _t V1k) | (go_at_call 29; refine (V3k _ h).mono ?_; rintro e w9 ⟨rfl, hb9⟩; (try (replace hb9 := bUndrew hb9)); replace h := Ints.below h hb9; replace h2 := Ints.below h2 hb9; replace hf1 := Ints.below hf1 hb9; replace hf2 := Ints.below hf2 hb9; replace k0 := keepC hb9 k0; replace k1 := keepC hb9 k1; replace o0 := keepC hb9 o0; replace o1 := keepC hb9 o1; replace hb := bTrans hb hb9; replace hbr := bTrans hbr hb9; clear V3k) | (go_at_call 30; have _t := tok2; refine (H1k _ hf1 hf2).mono ?_; rintro e w10 ⟨rfl, hb10⟩; (try (replace hb10 := bUndrew hb10)); replace h := Ints.below h hb10; replace h2 := Ints.below h2 hb10; replace hf1 := Ints.below hf1 hb10; replace hf2 := Ints.below hf2 hb10; replace k0 := keepC hb10 k0; replace k1 := keepC hb10 k1; replace o0 := keepC hb10 o0; replace o1 := keepC hb10 o1; replace hb := bTrans hb hb10; replace hbr := bTrans hbr hb10; clear tok2 _t H1k) | (go_at_call 30; refine (H3k _ h h2).mono ?_; rintro e w11 ⟨rfl, hb11⟩; (try (replace hb11 := bUndrew hb11)); replace h := Ints.below h hb11; replace h2 := Ints.below h2 hb11; replace hf1 := Ints.below hf1 hb11; replace hf2 := Ints.below hf2 hb11; replace k0 := keepC hb11 k0; replace k1 := keepC hb11 k1; replace o0 := keepC hb11 o0; replace o1 := keepC hb11 o1; replace hb := bTrans hb hb11; replace hbr := bTrans hbr hb11; clear H3k))
            all_goals
              go_wp2
              go_light
              exact ⟨⟨k + 1, by omega, by go_num, (by first | exact hbr | exact bDrew hbr | exact bDrewN hbr _)⟩, by simp [intOf]; omega⟩
        · have hL := LU.out
          go_wp2_with fail
          refine (alive14_calls _).mono ?_
          rintro e w8 ⟨rfl, hb8⟩
          replace h := Ints.below h hb8
          replace h2 := Ints.below h2 hb8
          replace hf1 := Ints.below hf1 hb8
          replace hf2 := Ints.below hf2 hb8
          replace k0 := keepC hb8 k0
          replace k1 := keepC hb8 k1
          replace o0 := keepC hb8 o0
          replace o1 := keepC hb8 o1
          replace hb := bTrans hb hb8
          replace hbr := bTrans hbr hb8
          clear hb8
          go_wp2
          go_ret
          exact ⟨rfl, hb⟩
  · have CC := Apply_bad v l a b c d 1 n _ h (by omega) h2 (by omega) (by simpa using hk)
    go_enter Try.func9, Try.ntmps9
    go_wp2_with fail
    refine (CC).mono ?_
    rintro e w1 ⟨rfl, hb1⟩
    clear CC
    go_wp2_with fail
    refine (alive14_calls _).mono ?_
    rintro e w2 ⟨rfl, hb2⟩
    go_wp2
    go_ret
    exact ⟨rfl, bTrans (bTrans (bTrans hb hb1) (bAlloc (Below.refl _ _) _)) hb2⟩
end Go.Proofs.Ytinkbiinbfbjgaa

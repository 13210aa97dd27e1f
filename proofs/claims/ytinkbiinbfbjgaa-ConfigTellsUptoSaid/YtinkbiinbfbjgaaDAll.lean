/- Contract of config.All. -/
import Derived.Test.YtinkbiinbfbjgaaDShelf
import Derived.Test.YtinkbiinbfbjgaaDShelf2
import Derived.Test.YtinkbiinbfbjgaaDCompact
import Derived.Test.YtinkbiinbfbjgaaDRefAll
namespace Go.Proofs.Ytinkbiinbfbjgaa
open Go.RowKit
set_option linter.unusedVariables false
set_option linter.unusedSimpArgs false

theorem Grow_nil_calls (n : Nat) (w : World) (hn : n ≤ 4194304) :
    Calls Try.prog 84 #[.slice none 0 0, .int .i64 n] w fun e w' => ∃ A C, e = .returned (.slice A 0 C) ∧ w'.ownsRow w.heap.size 3 1 (.slice A 0 C) 0 [] ∧ Below w.heap.size w w' := by
  rcases Nat.eq_zero_or_pos n with h0 | h0
  · subst h0
    exact (Any8.slices_Grow_room Try.growLays none 0 0 0 w (by omega) (by omega) (by omega) (by omega)).mono fun e w' ⟨he, hw⟩ => ⟨none, 0, he, by rw [hw]; exact World.ownsRow_nil _ _ _ _, by rw [hw]; exact Below.refl _ _⟩
  · obtain ⟨i, hi, hz, hsize, hby⟩ := elInt.info
    have hg := Any8.slices_Grow_grow Try.growLays i (.int .i64 0) hi hz (by omega) none 0 0 n [] w (by omega) (by omega) (by rw [hby]; omega) (by omega) (by simp) (fun _ => rfl) (fun a h => by cases h)
    refine hg.mono fun e w' ⟨he, hw⟩ => ?_
    have hge := grownCap_ge w (0 + n) 0 3
    have hcm := grownCap_le_maxLen w (0 + n) 0 3 (by unfold maxLen; omega)
    refine ⟨_, _, he, ?_, ?_⟩
    · rw [hw]
      refine ⟨rfl, .inr ⟨w.heap.size, _, _, rfl, Nat.le_refl _, heap_alloc_new w.drew _, Nat.zero_le _, hcm, ?_, rfl⟩⟩
      simp [Builtin.zeroCells]
      rw [show (Value.int IntKind.i64 0).cells.size = 1 from rfl, show Try.growLays_ren.t 25 = 3 from rfl]
      rw [Nat.zero_add] at hge
      omega
    · rw [hw]
      exact bAlloc (bDrew (Below.refl _ _)) _

/-- What was gathered of two, up to the k-th. -/
def catTo (p q : List Int) : Nat → List Int
  | 0 => []
  | 1 => p
  | _ => p ++ q
def sizeTo (p q : List Int) : Nat → Nat
  | 0 => 0
  | 1 => p.length
  | _ => p.length + q.length
theorem catTo_len (p q : List Int) (k : Nat) : (catTo p q k).length = sizeTo p q k := by
  match k with
  | 0 => rfl
  | 1 => rfl
  | k + 2 => simp [catTo, sizeTo]
theorem sizeTo_le (p q : List Int) (k : Nat) : sizeTo p q k ≤ p.length + q.length := by
  match k with
  | 0 => simp [sizeTo]
  | 1 => simp [sizeTo]
  | k + 2 => simp [sizeTo]

set_option maxRecDepth 100000 in
set_option maxHeartbeats 1000000 in
theorem Concat_calls (p q : List Int) (a b : Option Addr) (cx cy gs : Nat) (w : World) (h0 : w.cell? ⟨gs, 0, none⟩ = some (.slice a p.length cx)) (h1 : w.cell? ⟨gs, 1, none⟩ = some (.slice b q.length cy)) (hp : Ints w .i64 a p) (hq : Ints w .i64 b q) (lp : p.length ≤ 1048576) (lq : q.length ≤ 1048576) :
    Calls Try.prog 72 #[.slice (some ⟨gs, 0, none⟩) 2 2] w fun e w' => ∃ A C, e = .returned (.slice A (p ++ q).length C) ∧ w'.ownsRow w.heap.size 3 1 (.slice A (p ++ q).length C) (p ++ q).length ((p ++ q).map (Value.int .i64)) ∧ Below w.heap.size w w' := by
  have pick : ∀ k, k < 2 → ∃ x ax c, w.cell? ⟨gs, k, none⟩ = some (.slice ax (List.length x) c) ∧ Ints w .i64 ax x ∧ x.length ≤ 1048576 ∧ catTo p q (k + 1) = catTo p q k ++ x ∧ sizeTo p q (k + 1) = sizeTo p q k + x.length := by
    intro k hk
    have : k = 0 ∨ k = 1 := by omega
    rcases this with rfl | rfl
    · exact ⟨p, a, cx, h0, hp, lp, by simp [catTo], by simp [sizeTo]⟩
    · exact ⟨q, b, cy, h1, hq, lq, rfl, rfl⟩
  have PK := Lib.hid pick
  clear pick h0 h1 hp hq
  go_enter Try.func72, Try.ntmps72
  go_wp2
  go_loop [3, 11] (fun s3 i => ∃ k : Nat, k ≤ 2 ∧ i = .int .i64 k ∧ s3 = .int .i64 (sizeTo p q k : Nat)) (fun _ i => 2 - (intOf i).toNat)
  case atStart => exact ⟨0, by omega, rfl, rfl⟩
  case round =>
    obtain ⟨k, hk, rfl, rfl⟩ := hrel
    by_cases hlt : k < 2
    · obtain ⟨x, ax, c, hc, hi, hx, hcat, hsz⟩ := PK.out k hlt
      have hle := sizeTo_le p q k
      have HS := Lib.hid hsz
      generalize sizeTo p q k = m at *
      clear hcat hsz hi
      go_wp2
      go_light
      exact ⟨⟨k + 1, by omega, by go_num, int_of (by rw [HS.out]; simp)⟩, by simp [intOf]; omega⟩
    · have e2 : k = 2 := by omega
      subst e2
      rw [show sizeTo p q 2 = p.length + q.length from rfl]
      obtain ⟨m, hm⟩ : ∃ m, m = p.length + q.length := ⟨_, rfl⟩
      rw [← hm]
      have hm2 : m ≤ 4194304 := by omega
      clear hm
      go_wp2_with fail
      refine (Grow_nil_calls m _ hm2).mono ?_
      rintro e w1 ⟨A, C, rfl, hown, hb1⟩
      go_wp2_with fail
      go_loopw [6, 27] (fun s6 i wr => ∃ (k : Nat) (A : Option Addr) (C : Nat), k ≤ 2 ∧ i = .int .i64 k ∧ s6 = .slice A (sizeTo p q k) C ∧ wr.ownsRow w.heap.size 3 1 (.slice A (sizeTo p q k) C) (sizeTo p q k) ((catTo p q k).map (Value.int .i64)) ∧ Below w.heap.size w wr) (fun _ i _ => 2 - (intOf i).toNat)
      case atStart => exact ⟨0, A, C, by omega, rfl, rfl, hown, hb1⟩
      case round =>
        obtain ⟨k, A, C, hk, rfl, rfl, hown, hbr⟩ := hrel
        clear hb1
        by_cases hlt : k < 2
        · obtain ⟨x, ax, c, hc, hi, hx, hcat, hsz⟩ := PK.out k hlt
          have hle := sizeTo_le p q k
          replace hc := keepC hbr hc
          replace hi := Ints.below hi hbr
          have HS := Lib.hid (And.intro hcat hsz)
          generalize sizeTo p q k = m at *
          generalize catTo p q k = L at *
          clear hcat hsz
          have hwB := hbr.size
          go_wp2_with (at_builtin; refine wpList_app elInt w.heap.size rfl _ _ rfl _ _ _ rfl hown _ x.length c (x.map (.int .i64)) rfl (by simp) hi (oneCell_ints _ _) (by omega) hwB ?_; intro A6 C6 w6 hown6 hgrow6 hb6)
          go_light
          obtain ⟨e1, e2⟩ := HS.out
          refine ⟨⟨k + 1, A6, C6, by omega, by go_num, by rw [e2], by rw [e1, e2, List.map_append]; exact hown6, hbr.trans hb6⟩, by simp [intOf]; omega⟩
        · have e2 : k = 2 := by omega
          subst e2
          rw [show sizeTo p q 2 = (p ++ q).length by simp [sizeTo], show catTo p q 2 = p ++ q from rfl] at *
          clear PK
          have HO := Lib.hid (And.intro hown hbr)
          clear hown hbr
          go_wp2
          go_ret
          exact ⟨A, C, rfl, HO.out.1, HO.out.2⟩

theorem holds_ownI {w : World} {base : Nat} {e : TypeId} {g n C : Nat} {zs : List Int} (h : w.ownsRow base e 1 (.slice (some ⟨g, 0, none⟩) n C) n (zs.map (Value.int .i64))) (hn : zs.length = n) : Go.Sort.Holds (Value.int .i64) w g 0 zs.toArray ∧ g < w.heap.size ∧ base ≤ g ∧ n ≤ C := by
  rcases h.2 with ⟨hv, _⟩ | ⟨g', cap, cur, hv, hb, hh, hc, _, _, htake⟩
  · cases hv
  · cases hv
    refine ⟨fun j hj => ⟨?_, frozen_at hh _⟩, heap_lt hh, hb, hc⟩
    have hj' : j < zs.length := by simpa using hj
    rw [Nat.zero_add, h.cellAt j (by omega)]
    simp [hj']
theorem heap_putRowI {w : World} {blk off k : Nat} {d : Array Int} (h : k ≠ blk) : (Go.Sort.putRow (Value.int .i64) w blk off d).heap[k]? = w.heap[k]? := by
  unfold Go.Sort.putRow Go.Sort.mapBlock
  simp only [Array.getElem?_modify, if_neg (Ne.symm h)]
theorem size_putRowI {w : World} {blk off : Nat} {d : Array Int} : (Go.Sort.putRow (Value.int .i64) w blk off d).heap.size = w.heap.size := by
  unfold Go.Sort.putRow Go.Sort.mapBlock
  simp
theorem below_putI {w : World} {base blk off n : Nat} {d : Array Int} (hb : base ≤ blk) : Below base w (Go.Sort.putRow (Value.int .i64) (Go.Sort.ahead w n) blk off d) :=
  ⟨rfl, rfl, rfl, by rw [size_putRowI]; exact Nat.le_refl _, fun k hk => by rw [heap_putRowI (by omega)]; rfl⟩
theorem below_growI {w : World} {base : Nat} {os : Array Obj} (hw : base ≤ w.heap.size) : Below base w (Go.Sort.grow w os) :=
  ⟨rfl, rfl, rfl, by simp [Go.Sort.grow], fun k hk => Go.Sort.heap_grow_old w os (by omega)⟩

/-- What the sort and the compacting make of a slice of the call itself. -/
theorem sortI (base : Nat) (A : Option Addr) (C : Nat) (zs : List Int) (w : World) (h : w.ownsRow base 3 1 (.slice A zs.length C) zs.length (zs.map (Value.int .i64))) (hl : zs.length < 4611686018427387904) (hbase : base ≤ w.heap.size) :
    Calls Try.prog 73 #[.slice A zs.length C] w fun e w' => e = .returned (.tuple #[]) ∧ Below base w w' ∧ (A = none ∧ zs = [] ∨ ∃ g, A = some ⟨g, 0, none⟩ ∧ base ≤ g ∧ zs.length ≤ C ∧ Go.Sort.Holds (Value.int .i64) w' g 0 (zs.mergeSort fun x y => decide (x ≤ y)).toArray) := by
  rcases h.2 with ⟨hv, hn⟩ | ⟨g', cap, cur, hv, hb, hh, _⟩
  · have h0 : zs = [] := List.length_eq_zero_iff.1 hn
    subst h0
    cases hv
    exact (Try.slices_Sort_int_none none _ w).mono fun e w' ⟨he, hw⟩ => ⟨he, by rw [hw]; exact Below.refl _ _, .inl ⟨rfl, rfl⟩⟩
  · cases hv
    obtain ⟨hH, hg, hb, hcap⟩ := holds_ownI h rfl
    refine (Try.slices_Sort_int g' 0 _ zs w hH hg hl).mono fun e w' ⟨he, n, os, hw⟩ => ⟨he, ?_, .inr ⟨g', rfl, hb, hcap, ?_⟩⟩
    · rw [hw]
      exact (below_putI hb).trans (below_growI (by rw [size_putRowI]; exact hbase))
    · rw [hw]
      exact Go.Sort.holds_grow _ _ _ _ _ _ (by rw [size_putRowI]; exact hg) (Go.Sort.holds_putRow _ _ _ _ zs.toArray _ (Go.Sort.holds_ahead _ _ _ _ _ _ hH) (by simp))
theorem compactI (base : Nat) (A : Option Addr) (C : Nat) (zs : List Int) (w : World) (h : A = none ∧ zs = [] ∨ ∃ g, A = some ⟨g, 0, none⟩ ∧ base ≤ g ∧ zs.length ≤ C ∧ Go.Sort.Holds (Value.int .i64) w g 0 (zs.mergeSort fun x y => decide (x ≤ y)).toArray) (hl : zs.length < 4611686018427387904) :
    Calls Try.prog 74 #[.slice A zs.length C] w fun e w' => ∃ acc, e = .returned (.slice A (List.length acc) C) ∧ UpOf zs acc ∧ Ints w' .i64 A acc ∧ Below base w w' := by
  rcases h with ⟨rfl, rfl⟩ | ⟨g, rfl, hb, hC, hH⟩
  · exact (Try.slices_Compact_int_empty none C w).mono fun e w' ⟨he, hw⟩ => ⟨[], he, ⟨List.Pairwise.nil, fun _ => Iff.rfl, Nat.le_refl _⟩, Ints.nil _ _ _, by rw [hw]; exact Below.refl _ _⟩
  · have hc := compact_sort zs
    have hK := Try.slices_Compact_int g 0 C (zs.mergeSort fun x y => decide (x ≤ y)) w hH (by simp; omega) (by simpa using hC)
    rw [List.length_mergeSort] at hK
    refine hK.mono fun e w' ⟨he, n, hw⟩ => ⟨_, he, hc, ?_, ?_⟩
    · rw [hw]
      have hH2 := Go.Sort.holds_putRow (Value.int .i64) (Go.Sort.ahead w n) g 0 _ (Go.Lib.compact (zs.mergeSort fun x y => decide (x ≤ y)) ++ List.replicate (zs.length - (Go.Lib.compact (zs.mergeSort fun x y => decide (x ≤ y))).length) 0).toArray (Go.Sort.holds_ahead _ _ _ _ _ _ hH) (by have := hc.2.2; simp; omega)
      refine .inr ⟨g, 0, rfl, fun i hi => ?_⟩
      have hi' : i < (Go.Lib.compact (zs.mergeSort fun x y => decide (x ≤ y))).length := by simpa using hi
      rw [(hH2 i (by simp; omega)).1]
      simp [List.getD, hi', List.getElem?_append_left, List.getElem_append_left]
    · rw [hw]
      exact below_putI hb

set_option maxRecDepth 100000 in
set_option maxHeartbeats 1000000 in
theorem All_calls (p q : List Int) (x0 y0 : Option Addr) (cx cy : Nat) (w : World) (h : Ints w .i64 x0 p) (hp : p.length ≤ 1048576) (h2 : Ints w .i64 y0 q) (hq : q.length ≤ 1048576) :
    Calls Try.prog 45 #[.agg #[.slice x0 p.length cx, .slice y0 q.length cy]] w fun e w' => ∃ A C acc, e = .returned (.slice A (List.length acc) C) ∧ UpOf (p ++ q) acc ∧ Ints w' .i64 A acc ∧ Below w.heap.size w w' := by
  have hb := bAlloc (Below.refl w.heap.size w) (.cells #[.slice x0 p.length cx, .slice y0 q.length cy] 39)
  have k0 : (w.alloc (.cells #[.slice x0 p.length cx, .slice y0 q.length cy] 39)).cell? ⟨w.heap.size, 0, none⟩ = some (.slice x0 p.length cx) := by rw [cell_at (heap_alloc_new w _)]; rfl
  have k1 : (w.alloc (.cells #[.slice x0 p.length cx, .slice y0 q.length cy] 39)).cell? ⟨w.heap.size, 1, none⟩ = some (.slice y0 q.length cy) := by rw [cell_at (heap_alloc_new w _)]; rfl
  have hb2 := bAlloc hb (.cells #[.slice x0 p.length cx, .slice y0 q.length cy] 37)
  have hn := heap_alloc_new (w.alloc (.cells #[.slice x0 p.length cx, .slice y0 q.length cy] 39)) (.cells #[.slice x0 p.length cx, .slice y0 q.length cy] 37)
  rw [World.size_alloc] at hn
  have c0 : ((w.alloc (.cells #[.slice x0 p.length cx, .slice y0 q.length cy] 39)).alloc (.cells #[.slice x0 p.length cx, .slice y0 q.length cy] 37)).cell? ⟨w.heap.size + 1, 0, none⟩ = some (.slice x0 p.length cx) := by rw [cell_at hn]; rfl
  have c1 : ((w.alloc (.cells #[.slice x0 p.length cx, .slice y0 q.length cy] 39)).alloc (.cells #[.slice x0 p.length cx, .slice y0 q.length cy] 37)).cell? ⟨w.heap.size + 1, 1, none⟩ = some (.slice y0 q.length cy) := by rw [cell_at hn]; rfl
  have CC := Concat_calls p q x0 y0 cx cy (w.heap.size + 1) _ c0 c1 (h.below hb2) (h2.below hb2) hp hq
  clear hn c0 c1
  have hlen : (p ++ q).length ≤ 2097152 := by simp; omega
  go_enter Try.func45, Try.ntmps45
  go_wp2_with fail
  refine CC.mono ?_
  rintro e w1 ⟨A, C, rfl, hown, hb1⟩
  clear CC k0 k1
  obtain ⟨zs, hzs⟩ : ∃ zs, zs = p ++ q := ⟨_, rfl⟩
  rw [← hzs] at hown hlen ⊢
  have HZ := Lib.hid hzs
  clear hzs
  have hb3 := bTrans hb2 hb1
  have hwB := hb1.size
  have hBw := hb2.size
  generalize ((w.alloc (.cells #[.slice x0 p.length cx, .slice y0 q.length cy] 39)).alloc (.cells #[.slice x0 p.length cx, .slice y0 q.length cy] 37)).heap.size = B at *
  have S := sortI B A C zs w1 hown (by omega) hwB
  go_wp2_with fail
  refine S.mono ?_
  rintro e w2 ⟨rfl, hb4, hH⟩
  have K := compactI B A C zs w2 hH (by omega)
  clear S hH hown
  go_wp2_with fail
  refine K.mono ?_
  rintro e w3 ⟨acc, rfl, hU, hi, hb5⟩
  go_wp2
  go_ret
  exact ⟨A, C, acc, rfl, (by rw [← HZ.out]; exact hU), hi, hb3.trans ((hb4.trans hb5).mono hBw)⟩
end Go.Proofs.Ytinkbiinbfbjgaa

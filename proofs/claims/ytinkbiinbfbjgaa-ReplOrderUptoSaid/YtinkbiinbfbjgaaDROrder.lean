/- Contract of the law ReplOrder: the loops. -/
import Derived.Test.YtinkbiinbfbjgaaDRMajority
import Derived.Test.YtinkbiinbfbjgaaDResG
import Derived.Test.YtinkbiinbfbjgaaDApp
import Derived.Test.YtinkbiinbfbjgaaDApply
import Derived.IntWalk
namespace Go.Proofs.Ytinkbiinbfbjgaa
open Go.RowKit
set_option linter.unusedVariables false
set_option linter.unusedSimpArgs false

theorem comV_rev (f : Nat → Int) (v : List Int) : comV f v.reverse = comV f v := med_rev f v
/-- What nodes have, those that vote as another one has it. -/
def mix (f h : Nat → Int) (v : List Int) (k : Nat) : Nat → Int := fun i => if i < k ∧ (i : Int) ∈ v then f i else h i
theorem mix_zero (f h : Nat → Int) (v : List Int) : mix f h v 0 = h := by funext i; unfold mix; rw [if_neg (by omega)]
theorem mix_hit {f h : Nat → Int} {v : List Int} {k : Nat} (hk : (k : Int) ∈ v) : mix f h v (k + 1) = fun i => if i = k then f k else mix f h v k i := by
  funext i
  unfold mix
  by_cases e : i = k
  · subst e; rw [if_pos ⟨by omega, hk⟩, if_pos rfl]
  · rw [if_neg e]
    by_cases h1 : i < k ∧ (i : Int) ∈ v
    · rw [if_pos h1, if_pos ⟨by omega, h1.2⟩]
    · rw [if_neg h1, if_neg (fun h => h1 ⟨by omega, h.2⟩)]
theorem mix_miss {f h : Nat → Int} {v : List Int} {k : Nat} (hk : (k : Int) ∉ v) : mix f h v (k + 1) = mix f h v k := by
  funext i
  unfold mix
  by_cases e : i = k
  · subst e; rw [if_neg (fun h => hk h.2), if_neg (fun h => hk h.2)]
  · by_cases h1 : i < k ∧ (i : Int) ∈ v
    · rw [if_pos h1, if_pos ⟨by omega, h1.2⟩]
    · rw [if_neg h1, if_neg (fun h => h1 ⟨by omega, h.2⟩)]
theorem comV_mix (f h : Nat → Int) (v : List Int) : comV (mix f h v 8) v = comV f v := by
  unfold comV
  have : vals (mix f h v 8) v = vals f v := by
    unfold vals
    refine List.map_congr_left fun n hn => ?_
    unfold valOf
    by_cases h8 : 0 ≤ n ∧ n < 8
    · rw [if_pos h8, if_pos h8]
      unfold mix
      rw [if_pos ⟨by omega, by rw [Int.toNat_of_nonneg h8.1]; exact hn⟩]
    · rw [if_neg h8, if_neg h8]
  rw [this]

/-- The world of the region that copies one voter. -/
def roG (B g : Nat) (A : Option Addr) (k C : Nat) (rows : List Value) (wr : World) (D : Nat → Bool) (W : World) : Prop :=
  BelowX B g wr W ∧ g < B ∧ B ≤ W.heap.size ∧ (∃ p n0 c0, W.heap[g]? = some (.cells #[.slice p n0 c0, .slice none 0 0] 39 (0, 0))) ∧
    (D 15 = false → W.heap[g]? = some (.cells #[.slice A k C, .slice none 0 0] 39 (0, 0))) ∧ (D 13 = false → W.ownsRow B 3 1 (.slice A k C) k rows)
def roR (s g B b o : Nat) (v : List Int) (a : Option Addr) (c : Nat) (A : Option Addr) (k C j : Nat) (y : Int) (rows : List Value) : Nat → (Nat → Value) → World → Prop
  | 0, u, _ => u 0 = .pointer (some ⟨g, 0, none⟩)
  | 1, u, _ => u 1 = .slice A k C
  | 2, u, _ => u 2 = .pointer (some ⟨s, 0, none⟩)
  | 3, u, _ => u 3 = .slice a v.length c
  | 4, u, _ => u 4 = .pointer (some ⟨s, 0, none⟩)
  | 5, u, _ => u 5 = .slice a v.length c
  | 6, u, _ => u 6 = .int .i64 (v.length : Nat)
  | 7, u, _ => u 7 = .int .i64 ((v.length : Int) - 1)
  | 8, u, _ => u 8 = .int .i64 (k : Nat)
  | 9, u, _ => u 9 = .int .i64 (j : Nat)
  | 10, u, _ => u 10 = .pointer (some ⟨b, o + j, none⟩)
  | 11, u, _ => u 11 = .int .i64 y
  | 12, u, W => ∃ q, u 12 = .slice (some ⟨q, 0, none⟩) 1 1 ∧ W.heap[q]? = some (.cells #[.int .i64 y] 3 (0, 0))
  | 13, u, W => ∃ A' C', u 13 = .slice A' (k + 1) C' ∧ W.ownsRow B 3 1 (.slice A' (k + 1) C') (k + 1) (rows ++ [Value.int .i64 y])
  | 14, u, _ => u 14 = .pointer (some ⟨g, 0, none⟩)
  | 15, _, W => ∃ A' C', W.heap[g]? = some (.cells #[.slice A' (k + 1) C', .slice none 0 0] 39 (0, 0)) ∧ W.ownsRow B 3 1 (.slice A' (k + 1) C') (k + 1) (rows ++ [Value.int .i64 y])
  | _, _, _ => True
theorem roR_upd {s g B b o : Nat} {v : List Int} {a : Option Addr} {c : Nat} {A : Option Addr} {k C j : Nat} {y : Int} {rows : List Value} (m i : Nat) (u : Nat → Value) (x : Value) {W : World} (hm : m ≠ i) (h : roR s g B b o v a c A k C j y rows m u W) : roR s g B b o v a c A k C j y rows m (updV u i x) W := by
  have e : updV u i x m = u m := updV_ne hm
  match m, h with
  | 0, h => exact e.trans h
  | 1, h => exact e.trans h
  | 2, h => exact e.trans h
  | 3, h => exact e.trans h
  | 4, h => exact e.trans h
  | 5, h => exact e.trans h
  | 6, h => exact e.trans h
  | 7, h => exact e.trans h
  | 8, h => exact e.trans h
  | 9, h => exact e.trans h
  | 10, h => exact e.trans h
  | 11, h => exact e.trans h
  | 12, ⟨q, h, i⟩ => exact ⟨q, e.trans h, i⟩
  | 13, ⟨A', C', h, i⟩ => exact ⟨A', C', e.trans h, i⟩
  | 14, h => exact e.trans h
  | 15, h => exact h
  | _ + 16, _ => trivial
theorem roR_below {s g B b o : Nat} {v : List Int} {a : Option Addr} {c : Nat} {A : Option Addr} {k C j : Nat} {y : Int} {rows : List Value} (m : Nat) (u : Nat → Value) {W W' : World} (hb : Below W.heap.size W W') (h : roR s g B b o v a c A k C j y rows m u W) : roR s g B b o v a c A k C j y rows m u W' := by
  match m, h with
  | 0, h => exact h
  | 1, h => exact h
  | 2, h => exact h
  | 3, h => exact h
  | 4, h => exact h
  | 5, h => exact h
  | 6, h => exact h
  | 7, h => exact h
  | 8, h => exact h
  | 9, h => exact h
  | 10, h => exact h
  | 11, h => exact h
  | 12, ⟨q, h, i⟩ => exact ⟨q, h, keepH hb i⟩
  | 13, ⟨A', C', h, i⟩ => exact ⟨A', C', h, own_below i hb⟩
  | 14, h => exact h
  | 15, ⟨A', C', h, i⟩ => exact ⟨A', C', keepH hb h, own_below i hb⟩
  | _ + 16, _ => trivial
def roF : Nat → Option Nat
  | 12 => some 13
  | _ => none

theorem rev_snoc (v : List Int) (k : Nat) (hk : k < v.length) : v.reverse.take (k + 1) = v.reverse.take k ++ [v[v.length - 1 - k]] := by
  rw [take_snoc _ k (by simpa using hk)]
  congr 2
  rw [List.getElem_reverse]
theorem belX {B g : Nat} {w w' : World} (h : BelowX B g w w') {k : Nat} (hk : k < B) (hne : k ≠ g) {o : Obj} (ho : w.heap[k]? = some o) : w'.heap[k]? = some o := by
  rw [h.block k hk hne]; exact ho
theorem more_no {D : Nat → Bool} {i j : Nat} (h : more D i j = false) : D j = false := by
  unfold more at h
  simp only [Bool.or_eq_false_iff] at h
  exact h.1
theorem roG_below {B g : Nat} {A : Option Addr} {k C : Nat} {rows : List Value} {wr : World} {D : Nat → Bool} {W W' : World} (i : Nat) (h : roG B g A k C rows wr D W) (hb : Below W.heap.size W W') : roG B g A k C rows wr (more D i) W' := by
  obtain ⟨h1, h2, h3, ⟨p, n0, c0, h4⟩, h5, h6⟩ := h
  exact ⟨h1.trans (BelowX.of (hb.mono h3)), h2, Nat.le_trans h3 hb.size, ⟨p, n0, c0, keepH hb h4⟩, fun hd => keepH hb (h5 (more_no hd)), fun hd => own_below (h6 (more_no hd)) hb⟩
theorem roG_app {B g : Nat} {A : Option Addr} {k C : Nat} {rows : List Value} {wr : World} {D : Nat → Bool} {W W' : World} (h : roG B g A k C rows wr D W) (hb : Below B W W') : roG B g A k C rows wr (more D 13) W' := by
  obtain ⟨h1, h2, h3, ⟨p, n0, c0, h4⟩, h5, h6⟩ := h
  refine ⟨h1.trans (BelowX.of hb), h2, Nat.le_trans h3 hb.size, ⟨p, n0, c0, by rw [hb.block g h2]; exact h4⟩, fun hd => by rw [hb.block g h2]; exact h5 (more_no hd), fun hd => ?_⟩
  rw [more_self] at hd
  cases hd
theorem roG_set {B g : Nat} {A : Option Addr} {k C : Nat} {rows : List Value} {wr : World} {D : Nat → Bool} {W : World} (h : roG B g A k C rows wr D W) (p : Option Addr) (n c : Nat) : roG B g A k C rows wr (more D 15) (W.setCell ⟨g, 0, none⟩ (.slice p n c)) := by
  obtain ⟨h1, h2, h3, ⟨_, _, _, h4⟩, h5, h6⟩ := h
  refine ⟨h1.set 0 _, h2, by simpa using h3, ⟨p, n, c, by rw [setCell_at h4]; rfl⟩, fun hd => ?_, fun hd => ownsRow_setCell_below (h6 (more_no hd)) h2 _⟩
  rw [more_self] at hd
  cases hd
theorem ints_belX {B g : Nat} {w w' : World} {k : IntKind} {a : Option Addr} {l : List Int} (hb : BelowX B g w w') (h : Ints w k a l) (hB : ∀ x, a = some x → x.block ≠ g) (hlt : w.heap.size ≤ B) : Ints w' k a l := by
  rcases h with h | ⟨b, o, rfl, hc⟩
  · exact .inl h
  · refine .inr ⟨b, o, rfl, fun i hi => ?_⟩
    have h1 := hc i hi
    have h2 := World.block_lt_of_cell? _ _ h1
    have h3 : w'.heap[b]? = w.heap[b]? := hb.block b (by simp at h2; omega) (hB _ rfl)
    rw [← h1]
    simp only [World.cell?, h3]
theorem belX_of {B g : Nat} {w w1 w2 : World} (h : BelowX B g w w1) (hs : B ≤ w1.heap.size) (hb : Below w1.heap.size w1 w2) : BelowX B g w w2 := h.trans (BelowX.of (hb.mono hs))

def roL (v l : List Int) (a b0 A : Option Addr) (c d C : Nat) (f g2 : Nat → Int) (y : Int) : Nat → Value → World → Prop
  | 0, x, _ => x = .bool true
  | 1, x, _ => x = .bool true
  | 2, x, _ => x = .agg #[.slice A v.length C, .slice none 0 0]
  | 3, x, _ => x = .agg (u8s f)
  | 4, x, _ => x = .int .u64 y
  | 5, x, _ => x = .agg #[.slice a v.length c, .slice b0 l.length d]
  | 6, x, _ => x = .agg (u8s f)
  | 7, x, _ => x = .int .u64 y
  | 8, x, _ => x = .bool true
  | 9, x, _ => x = .bool true
  | 10, x, _ => x = .bool true
  | 11, x, _ => x = .agg #[.slice a v.length c, .slice b0 l.length d]
  | 12, x, _ => x = .agg (u8s g2)
  | 13, x, _ => x = .int .u64 y
  | 14, x, _ => x = .agg #[.slice a v.length c, .slice b0 l.length d]
  | 15, x, _ => x = .agg (u8s f)
  | 16, x, _ => x = .int .u64 y
  | 17, x, _ => x = .bool true
  | 18, x, _ => x = .bool true
  | 19, x, _ => x = .bool true
  | _, _, _ => True
theorem roL_pure {v l : List Int} {a b0 A : Option Addr} {c d C : Nat} {f g2 : Nat → Int} {y : Int} (j : Nat) (x : Value) {W W' : World} (h : roL v l a b0 A c d C f g2 y j x W) : roL v l a b0 A c d C f g2 y j x W' := by
  match j, h with
  | 0, h => exact h
  | 1, h => exact h
  | 2, h => exact h
  | 3, h => exact h
  | 4, h => exact h
  | 5, h => exact h
  | 6, h => exact h
  | 7, h => exact h
  | 8, h => exact h
  | 9, h => exact h
  | 10, h => exact h
  | 11, h => exact h
  | 12, h => exact h
  | 13, h => exact h
  | 14, h => exact h
  | 15, h => exact h
  | 16, h => exact h
  | 17, h => exact h
  | 18, h => exact h
  | 19, h => exact h
  | _ + 20, _ => trivial
set_option maxRecDepth 100000 in
set_option maxHeartbeats 1000000 in
theorem ROrder_calls (v l : List Int) (a b0 : Option Addr) (c d : Nat) (f hh : Nat → Int) (w : World) (h : Ints w .i64 a v) (hl : v.length ≤ 1048576) :
    Calls Try.prog 11 #[.agg #[.slice a v.length c, .slice b0 l.length d], .agg (u8s f), .agg (u8s hh)] w fun e w' => e = .returned (.bool true) ∧ Below w.heap.size w w' := by
  have hb := bAlloc (bAlloc (bAlloc (bAlloc (Below.refl w.heap.size w) (.cells #[.slice a v.length c, .slice b0 l.length d] 39)) (.cells (u8s f) 59)) (.cells (u8s hh) 59)) (.cells #[.slice none 0 0, .slice none 0 0] 39)
  have x0 := keepH (bAlloc (Below.refl _ _) (.cells #[.slice none 0 0, .slice none 0 0] 39)) (heap3_0u w (.cells #[.slice a v.length c, .slice b0 l.length d] 39) (.cells (u8s f) 59) (.cells (u8s hh) 59))
  have x1 := keepH (bAlloc (Below.refl _ _) (.cells #[.slice none 0 0, .slice none 0 0] 39)) (heap3_1u w (.cells #[.slice a v.length c, .slice b0 l.length d] 39) (.cells (u8s f) 59) (.cells (u8s hh) 59))
  have x2 := keepH (bAlloc (Below.refl _ _) (.cells #[.slice none 0 0, .slice none 0 0] 39)) (heap3_2u w (.cells #[.slice a v.length c, .slice b0 l.length d] 39) (.cells (u8s f) 59) (.cells (u8s hh) 59))
  have x3 := heap_alloc_new (((w.alloc (.cells #[.slice a v.length c, .slice b0 l.length d] 39)).alloc (.cells (u8s f) 59)).alloc (.cells (u8s hh) 59)) (.cells #[.slice none 0 0, .slice none 0 0] 39)
  simp only [World.size_alloc] at x3
  have k0 : ((((w.alloc (.cells #[.slice a v.length c, .slice b0 l.length d] 39)).alloc (.cells (u8s f) 59)).alloc (.cells (u8s hh) 59)).alloc (.cells #[.slice none 0 0, .slice none 0 0] 39)).cell? ⟨w.heap.size, 0, none⟩ = some (.slice a v.length c) := by rw [cell_at x0]; rfl
  have hsz : ((((w.alloc (.cells #[.slice a v.length c, .slice b0 l.length d] 39)).alloc (.cells (u8s f) 59)).alloc (.cells (u8s hh) 59)).alloc (.cells #[.slice none 0 0, .slice none 0 0] 39)).heap.size = w.heap.size + 4 := by simp
  go_enter Try.func11, Try.ntmps11
  go_wp2_with fail
  generalize ((((w.alloc (.cells #[.slice a v.length c, .slice b0 l.length d] 39)).alloc (.cells (u8s f) 59)).alloc (.cells (u8s hh) 59)).alloc (.cells #[.slice none 0 0, .slice none 0 0] 39)) = w4 at *
  have HS := Lib.hid hsz
  have X := Lib.hid (And.intro x0 (And.intro x1 (And.intro x2 x3)))
  clear x0 x1 x2 x3 hsz k0
  go_loopw [16] (fun i wr => ∃ (k : Nat) (A : Option Addr) (C : Nat), k ≤ v.length ∧ i = .int .i64 k ∧ BelowX (w.heap.size + 4) (w.heap.size + 3) w4 wr ∧ w.heap.size + 4 ≤ wr.heap.size ∧ wr.heap[w.heap.size + 3]? = some (.cells #[.slice A k C, .slice none 0 0] 39 (0, 0)) ∧ wr.ownsRow (w.heap.size + 4) 3 1 (.slice A k C) k ((v.reverse.take k).map (Value.int .i64))) (fun i _ => v.length - (intOf i).toNat)
  case atStart => exact ⟨0, none, 0, by omega, rfl, BelowX.refl _ _ _, by rw [HS.out]; exact Nat.le_refl _, X.out.2.2.2, World.ownsRow_nil _ _ _ _⟩
  case round =>
    obtain ⟨k, A, C, hk, rfl, hbx, hB, hg, hown⟩ := hrel
    have hbw : Below w.heap.size w wr := hb.trans ((hbx.below (by omega)).mono (by omega))
    obtain ⟨x0, x1, x2, _⟩ := X.out
    have y0 := belX hbx (k := w.heap.size) (by omega) (by omega) x0
    have y1 := belX hbx (k := w.heap.size + 1) (by omega) (by omega) x1
    have y2 := belX hbx (k := w.heap.size + 2) (by omega) (by omega) x2
    clear x0 x1 x2
    by_cases hlt : k < v.length
    · have hj : v.length - 1 - k < v.length := by omega
      have hrs := rev_snoc v k hlt
      obtain ⟨b, o, rfl, hbb, hc⟩ := h.open (by omega)
      have hcell := hc _ hj
      have e1 : v.getD (v.length - 1 - k) 0 = v[v.length - 1 - k] := by simp [List.getD, hj]
      rw [e1] at hcell
      have hcr : ∀ W, BelowX (w.heap.size + 4) (w.heap.size + 3) wr W → W.cell? ⟨b, o + (v.length - 1 - k), none⟩ = some (.int .i64 v[v.length - 1 - k]) := fun W hW => keepC (hbw.trans ((hW.below (by omega)).mono (by omega))) hcell
      have hk0 : ∀ W, BelowX (w.heap.size + 4) (w.heap.size + 3) wr W → W.cell? ⟨w.heap.size, 0, none⟩ = some (.slice (some ⟨b, o, none⟩) v.length c) := fun W hW => by rw [cell_at (belX hW (by omega) (by omega) y0)]; rfl
      obtain ⟨j, hjj⟩ : ∃ j, j = v.length - 1 - k := ⟨_, rfl⟩
      have eJ : (v.length : Int) - 1 - (k : Int) = (j : Int) := by omega
      have hjl : j < v.length := by omega
      have ejl : (j : Int) < (v.length : Int) := by omega
      generalize hy : v[v.length - 1 - k] = y at *
      rw [← hjj] at hcr
      have hrl : (v.reverse.take k).length = k := by simp; omega
      have HR := Lib.hid hrs
      have HW := Lib.hid (And.intro hbw (And.intro y0 (And.intro y1 y2)))
      clear hy hjj hc hcell e1 hj hrs hbw y0 y1 y2
      generalize hrows : (v.reverse.take k).map (Value.int .i64) = rows at *
      have HRW := Lib.hid hrows
      clear hrows
      have HG := Lib.hid (And.intro hg hown)
      go_wp2_with fail
      refine wp_region_resG (by kernel_rfl) (roG (w.heap.size + 4) (w.heap.size + 3) A k C rows wr) (roR w.heap.size (w.heap.size + 3) (w.heap.size + 4) b o v (some ⟨b, o, none⟩) c A k C j y rows) roF (by decide) (by decide) ⟨BelowX.of (bDrew (Below.refl _ _) |>.mono hB), by omega, hB, ⟨_, _, _, hg⟩, fun _ => hg, fun _ => hown⟩ ?hst ?hend
      case hst =>
        clear hg hown
        iterate 16 (with_reducible refine resStepsG_cons ?_ ?_; rotate_left)
        · exact resStepsG_nil
        · intro D u W hG hDi hw hd K hK
          have HK := Lib.hid hK
          clear hK hd
          refine ⟨?_⟩
          simp only [slotsOf_some, slotsOf_none, slotsOf_nil, puts_cons, puts_nil, Nat.zero_add, Nat.reduceAdd]
          go_simp
          exact HK.out _ _ _ (by simp [slotsOf_some, slotsOf_none, slotsOf_nil, puts_cons, puts_nil, Act.put, -Function.const_apply]) (roG_below 0 hG (Below.refl _ _)) updV_self (fun m hm _ _ _ h => roR_upd m 0 u _ hm h)
        · intro D u W hG hDi hw hd K hK
          have r0 : u 0 = .pointer (some ⟨w.heap.size + 3, 0, none⟩) := hd 0 (by decide) (.inl rfl)
          have hx := hG.2.2.2.2.1 (hw 15 (by decide))
          have hc : W.cell? ⟨w.heap.size + 3, 0, none⟩ = some (.slice A k C) := by rw [cell_at hx]; rfl
          clear hx
          have HK := Lib.hid hK
          clear hK hd
          refine ⟨?_⟩
          simp only [slotsOf_some, slotsOf_none, slotsOf_nil, puts_cons, puts_nil, Nat.zero_add, Nat.reduceAdd]
          go_simp
          exact HK.out _ _ _ (by simp [slotsOf_some, slotsOf_none, slotsOf_nil, puts_cons, puts_nil, Act.put, r0]) (roG_below 1 hG (Below.refl _ _)) updV_self (fun m hm _ _ _ h => roR_upd m 1 u _ hm h)
        · intro D u W hG hDi hw hd K hK
          have HK := Lib.hid hK
          clear hK hd
          refine ⟨?_⟩
          simp only [slotsOf_some, slotsOf_none, slotsOf_nil, puts_cons, puts_nil, Nat.zero_add, Nat.reduceAdd]
          go_simp
          exact HK.out _ _ _ (by simp [slotsOf_some, slotsOf_none, slotsOf_nil, puts_cons, puts_nil, Act.put, -Function.const_apply]) (roG_below 2 hG (Below.refl _ _)) updV_self (fun m hm _ _ _ h => roR_upd m 2 u _ hm h)
        · intro D u W hG hDi hw hd K hK
          have r2 : u 2 = .pointer (some ⟨w.heap.size, 0, none⟩) := hd 2 (by decide) (.inl rfl)
          have hc := hk0 W hG.1
          have HK := Lib.hid hK
          clear hK hd
          refine ⟨?_⟩
          simp only [slotsOf_some, slotsOf_none, slotsOf_nil, puts_cons, puts_nil, Nat.zero_add, Nat.reduceAdd]
          go_simp
          exact HK.out _ _ _ (by simp [slotsOf_some, slotsOf_none, slotsOf_nil, puts_cons, puts_nil, Act.put, r2]) (roG_below 3 hG (Below.refl _ _)) updV_self (fun m hm _ _ _ h => roR_upd m 3 u _ hm h)
        · intro D u W hG hDi hw hd K hK
          have HK := Lib.hid hK
          clear hK hd
          refine ⟨?_⟩
          simp only [slotsOf_some, slotsOf_none, slotsOf_nil, puts_cons, puts_nil, Nat.zero_add, Nat.reduceAdd]
          go_simp
          exact HK.out _ _ _ (by simp [slotsOf_some, slotsOf_none, slotsOf_nil, puts_cons, puts_nil, Act.put, -Function.const_apply]) (roG_below 4 hG (Below.refl _ _)) updV_self (fun m hm _ _ _ h => roR_upd m 4 u _ hm h)
        · intro D u W hG hDi hw hd K hK
          have r4 : u 4 = .pointer (some ⟨w.heap.size, 0, none⟩) := hd 4 (by decide) (.inl rfl)
          have hc := hk0 W hG.1
          have HK := Lib.hid hK
          clear hK hd
          refine ⟨?_⟩
          simp only [slotsOf_some, slotsOf_none, slotsOf_nil, puts_cons, puts_nil, Nat.zero_add, Nat.reduceAdd]
          go_simp
          exact HK.out _ _ _ (by simp [slotsOf_some, slotsOf_none, slotsOf_nil, puts_cons, puts_nil, Act.put, r4]) (roG_below 5 hG (Below.refl _ _)) updV_self (fun m hm _ _ _ h => roR_upd m 5 u _ hm h)
        · intro D u W hG hDi hw hd K hK
          have r5 : u 5 = .slice (some ⟨b, o, none⟩) v.length c := hd 5 (by decide) (.inl rfl)
          have HK := Lib.hid hK
          clear hK hd
          refine ⟨?_⟩
          simp only [slotsOf_some, slotsOf_none, slotsOf_nil, puts_cons, puts_nil, Nat.zero_add, Nat.reduceAdd]
          go_simp
          exact HK.out _ _ _ (by simp [slotsOf_some, slotsOf_none, slotsOf_nil, puts_cons, puts_nil, Act.put, r5]) (roG_below 6 hG (Below.refl _ _)) updV_self (fun m hm _ _ _ h => roR_upd m 6 u _ hm h)
        · intro D u W hG hDi hw hd K hK
          have r6 : u 6 = .int .i64 (v.length : Nat) := hd 6 (by decide) (.inl rfl)
          have hw7 : IntKind.i64.wrap ((v.length : Int) - 1) = (v.length : Int) - 1 := IntWalk.i64_in _ (by omega)
          have HK := Lib.hid hK
          clear hK hd
          refine ⟨?_⟩
          simp only [slotsOf_some, slotsOf_none, slotsOf_nil, puts_cons, puts_nil, Nat.zero_add, Nat.reduceAdd]
          go_simp
          exact HK.out _ _ _ (by simp [slotsOf_some, slotsOf_none, slotsOf_nil, puts_cons, puts_nil, Act.put, r6, hw7]) (roG_below 7 hG (Below.refl _ _)) updV_self (fun m hm _ _ _ h => roR_upd m 7 u _ hm h)
        · intro D u W hG hDi hw hd K hK
          have HK := Lib.hid hK
          clear hK hd
          refine ⟨?_⟩
          simp only [slotsOf_some, slotsOf_none, slotsOf_nil, puts_cons, puts_nil, Nat.zero_add, Nat.reduceAdd]
          go_simp
          exact HK.out _ _ _ (by simp [slotsOf_some, slotsOf_none, slotsOf_nil, puts_cons, puts_nil, Act.put, -Function.const_apply]) (roG_below 8 hG (Below.refl _ _)) updV_self (fun m hm _ _ _ h => roR_upd m 8 u _ hm h)
        · intro D u W hG hDi hw hd K hK
          have r7 : u 7 = .int .i64 ((v.length : Int) - 1) := hd 7 (by decide) (.inl rfl)
          have r8 : u 8 = .int .i64 (k : Nat) := hd 8 (by decide) (.inl rfl)
          have hw9 : IntKind.i64.wrap (j : Int) = (j : Int) := IntWalk.i64_in _ (by omega)
          have HK := Lib.hid hK
          clear hK hd
          refine ⟨?_⟩
          simp only [slotsOf_some, slotsOf_none, slotsOf_nil, puts_cons, puts_nil, Nat.zero_add, Nat.reduceAdd]
          go_simp
          exact HK.out _ _ _ (by simp [slotsOf_some, slotsOf_none, slotsOf_nil, puts_cons, puts_nil, Act.put, r7, r8, eJ, hw9]) (roG_below 9 hG (Below.refl _ _)) updV_self (fun m hm _ _ _ h => roR_upd m 9 u _ hm h)
        · intro D u W hG hDi hw hd K hK
          have r3 : u 3 = .slice (some ⟨b, o, none⟩) v.length c := hd 3 (by decide) (.inl rfl)
          have r9 : u 9 = .int .i64 (j : Nat) := hd 9 (by decide) (.inl rfl)
          have HK := Lib.hid hK
          clear hK hd
          refine ⟨?_⟩
          simp only [slotsOf_some, slotsOf_none, slotsOf_nil, puts_cons, puts_nil, Nat.zero_add, Nat.reduceAdd]
          go_simp
          exact HK.out _ _ _ (by simp [slotsOf_some, slotsOf_none, slotsOf_nil, puts_cons, puts_nil, Act.put, r3, r9]) (roG_below 10 hG (Below.refl _ _)) updV_self (fun m hm _ _ _ h => roR_upd m 10 u _ hm h)
        · intro D u W hG hDi hw hd K hK
          have r10 : u 10 = .pointer (some ⟨b, o + j, none⟩) := hd 10 (by decide) (.inl rfl)
          have hc := hcr W hG.1
          have HK := Lib.hid hK
          clear hK hd
          refine ⟨?_⟩
          simp only [slotsOf_some, slotsOf_none, slotsOf_nil, puts_cons, puts_nil, Nat.zero_add, Nat.reduceAdd]
          go_simp
          exact HK.out _ _ _ (by simp [slotsOf_some, slotsOf_none, slotsOf_nil, puts_cons, puts_nil, Act.put, r10]) (roG_below 11 hG (Below.refl _ _)) updV_self (fun m hm _ _ _ h => roR_upd m 11 u _ hm h)
        · intro D u W hG hDi hw hd K hK
          have r11 : u 11 = .int .i64 y := hd 11 (by decide) (.inl rfl)
          have HK := Lib.hid hK
          clear hK hd
          refine ⟨?_⟩
          simp only [slotsOf_some, slotsOf_none, slotsOf_nil, puts_cons, puts_nil, Nat.zero_add, Nat.reduceAdd]
          go_simp
          exact HK.out (.slice (some ⟨W.heap.size, 0, none⟩) 1 1) _ _ (by simp [slotsOf_some, slotsOf_none, slotsOf_nil, puts_cons, puts_nil, Act.put, r11]) (roG_below 12 hG (bAlloc (Below.refl _ _) _)) ⟨W.heap.size, updV_self, heap_alloc_new W _⟩ (fun m hm _ _ _ h => roR_below m _ (bAlloc (Below.refl _ _) _) (roR_upd m 12 u _ hm h))
        · intro D u W hG hDi hw hd K hK
          have r1 : u 1 = .slice A k C := hd 1 (by decide) (.inl rfl)
          obtain ⟨q, r12, hq⟩ : ∃ q, u 12 = .slice (some ⟨q, 0, none⟩) 1 1 ∧ W.heap[q]? = some (.cells #[.int .i64 y] 3 (0, 0)) := hd 12 (by decide) (.inr rfl)
          have hown := hG.2.2.2.2.2 hDi
          clear hd
          refine ⟨?_⟩
          simp only [slotsOf_some, slotsOf_none, slotsOf_nil, puts_cons, puts_nil, Nat.zero_add, Nat.reduceAdd]
          refine step_app elInt (w.heap.size + 4) rfl (.tmp 20) (.tmp 31) rfl (.slice A k C) k rows (by simp [Act.eval, Act.put, r1]) hown (some ⟨q, 0, none⟩) 1 1 [.int .i64 y] (by simp [Act.eval, Act.put, r12]) rfl (.inr ⟨q, 0, rfl, fun i hi => by have : i = 0 := (by simpa using hi); subst this; rw [cell_at hq]; rfl⟩) (by simp [Value.oneCell']) (by omega) hG.2.2.1 ?_
          intro A' C' w' hown' hgrow hb'
          refine hK _ _ _ (by simp [slotsOf_some, slotsOf_none, slotsOf_nil, puts_cons, puts_nil, Act.put, -Function.const_apply]) (roG_app hG hb') ⟨A', C', updV_self, hown'⟩ (fun m hm hf hwm hmm hr => ?_)
          rcases m with _|_|_|_|_|_|_|_|_|_|_|_|_|_|_|_|m
          all_goals first | exact absurd rfl hm | exact absurd rfl hf | exact absurd hwm (by decide) | (exact roR_upd _ 13 u _ hm hr)
        · intro D u W hG hDi hw hd K hK
          have HK := Lib.hid hK
          clear hK hd
          refine ⟨?_⟩
          simp only [slotsOf_some, slotsOf_none, slotsOf_nil, puts_cons, puts_nil, Nat.zero_add, Nat.reduceAdd]
          go_simp
          exact HK.out _ _ _ (by simp [slotsOf_some, slotsOf_none, slotsOf_nil, puts_cons, puts_nil, Act.put, -Function.const_apply]) (roG_below 14 hG (Below.refl _ _)) updV_self (fun m hm _ _ _ h => roR_upd m 14 u _ hm h)
        · intro D u W hG hDi hw hd K hK
          have r14 : u 14 = .pointer (some ⟨w.heap.size + 3, 0, none⟩) := hd 14 (by decide) (.inl rfl)
          obtain ⟨A', C', r13, hown'⟩ : ∃ A' C', u 13 = .slice A' (k + 1) C' ∧ W.ownsRow (w.heap.size + 4) 3 1 (.slice A' (k + 1) C') (k + 1) (rows ++ [Value.int .i64 y]) := hd 13 (by decide) (.inl rfl)
          obtain ⟨p0, n0, c0, hx⟩ := hG.2.2.2.1
          have t0 : W.cell? ⟨w.heap.size + 3, 0, none⟩ = some (.slice p0 n0 c0) := by rw [cell_at hx]; rfl
          have tf := frozen_at hx 0
          have HX := Lib.hid hx
          clear hx
          have HK := Lib.hid hK
          clear hK hd
          refine ⟨?_⟩
          simp only [slotsOf_some, slotsOf_none, slotsOf_nil, puts_cons, puts_nil, Nat.zero_add, Nat.reduceAdd]
          go_simp
          have hx := HX.out
          refine HK.out undef _ _ (by simp [slotsOf_some, slotsOf_none, slotsOf_nil, puts_cons, puts_nil, Act.put, r13, r14]) (roG_set hG _ _ _) ⟨A', C', by rw [setCell_at hx]; rfl, ownsRow_setCell_below hown' hG.2.1 _⟩ (fun m hm hf hwm hmm hr => ?_)
          have hr := roR_upd m 15 u undef hm hr
          rcases m with _|_|_|_|_|_|_|_|_|_|_|_|_|_|_|_|m
          all_goals first | exact hr | exact absurd rfl hm | (obtain ⟨A2, C2, h1, h2⟩ := hr; exact ⟨A2, C2, h1, ownsRow_setCell_below h2 hG.2.1 _⟩) | exact absurd (hmm _ rfl) (by decide)
      case hend =>
        clear hg hown
        intro D u W hall hG hR'
        obtain ⟨A', C', hx, hown'⟩ : ∃ A' C', W.heap[w.heap.size + 3]? = some (.cells #[.slice A' (k + 1) C', .slice none 0 0] 39 (0, 0)) ∧ W.ownsRow (w.heap.size + 4) 3 1 (.slice A' (k + 1) C') (k + 1) (rows ++ [Value.int .i64 y]) := hR' 15 (by decide) rfl
        have hbx2 := hbx.trans hG.1
        have hB2 := hG.2.2.1
        clear hR' hG hbx hcr hk0
        have HX := Lib.hid (And.intro hx hown')
        clear hx hown'
        simp only [slotsOf_some, slotsOf_none, slotsOf_nil, puts_cons, puts_nil, Nat.zero_add, Nat.reduceAdd]
        simp [Act.put]
        go_wp2
        go_light
        refine ⟨⟨k + 1, A', C', by omega, by go_num, hbx2, hB2, HX.out.1, ?_⟩, by simp [intOf]; omega⟩
        rw [HR.out, List.map_append, HRW.out]
        exact HX.out.2
    · have ek : k = v.length := by omega
      subst ek
      rw [List.take_of_length_le (by simp)] at hown
      have hi : Ints wr .i64 A v.reverse := Row.of_own hown
      have hAb : ∀ x, A = some x → w.heap.size + 4 ≤ x.block := fun x hx => (hown.lt x.block (by rw [hx]; rfl)).1
      have hwB : w.heap.size + 4 ≤ wr.heap.size := hB
      have HH := Lib.hid (And.intro y0 (And.intro y1 (And.intro y2 hg)))
      have k0 : wr.cell? ⟨w.heap.size, 0, none⟩ = some (.slice a v.length c) := by rw [cell_at y0]; rfl
      clear hown hbx hB hg y0 y1 y2 X HS
      obtain ⟨w5, rfl⟩ : ∃ w5 : World, w5 = wr := ⟨_, rfl⟩
      go_wp2_with fail
      go_loopw [35] (fun i wr => ∃ k : Nat, k ≤ 8 ∧ i = .int .i64 k ∧ BelowX w5.heap.size (w.heap.size + 2) w5 wr ∧ w5.heap.size ≤ wr.heap.size ∧ wr.heap[w.heap.size + 2]? = some (.cells (u8s (mix f hh v k)) 59 (0, 0))) (fun i _ => 8 - (intOf i).toNat)
      case atStart => exact ⟨0, by omega, rfl, BelowX.refl _ _ _, Nat.le_refl _, by rw [mix_zero]; exact HH.out.2.2.1⟩
      case round =>
        obtain ⟨k, hk, rfl, hbq, hBq, hq⟩ := hrel
        clear k0
        have hbz : Below w.heap.size w wr := hbw.trans ((hbq.below (by omega)).mono (by omega))
        have h' := h
        have y0 := belX hbq (k := w.heap.size) (by omega) (by omega) HH.out.1
        have y1 := belX hbq (k := w.heap.size + 1) (by omega) (by omega) HH.out.2.1
        have k0 : wr.cell? ⟨w.heap.size, 0, none⟩ = some (.slice a v.length c) := by rw [cell_at y0]; rfl
        by_cases hlt8 : k < 8
        · have fm := u8s_cell y1 k hlt8
          have qm := u8s_cell hq k hlt8
          have qf := frozen_at hq k
          have hset := setCell_at hq k (.int .u64 (f k))
          rw [u8s_set _ k hlt8] at hset
          have HQ := Lib.hid (And.intro hq hset)
          clear y0 y1 hq hset
          go_wp2_with fail
          go_loop [10, 41] (fun s10 i => ∃ j : Nat, j ≤ v.length ∧ i = .int .i64 j ∧ s10 = .bool (decide ((k : Int) ∈ v.take j))) (fun _ i => v.length - (intOf i).toNat)
          case atStart => exact ⟨0, by omega, rfl, by simp⟩
          case round =>
            obtain ⟨j, hj, rfl, rfl⟩ := hrel
            by_cases hjl : j < v.length
            · obtain ⟨b, o, rfl, hbb, hc⟩ := h.open (by omega)
              have hcell := keepC hbz (hc j hjl)
              have e1 : v.getD j 0 = v[j] := by simp [List.getD, hjl]
              rw [e1] at hcell
              have hm := mem_take_succ hjl (k : Int)
              generalize v[j] = y at *
              by_cases hin : (k : Int) ∈ v.take j
              · have e2 : decide ((k : Int) ∈ v.take j) = true := decide_eq_true hin
                have e3 : decide ((k : Int) ∈ v.take (j + 1)) = true := decide_eq_true (hm.2 (.inl hin))
                rw [e2]
                have E3 := Lib.hid e3
                clear e2 e3 hm hin hc e1
                go_wp2
                go_light
                exact ⟨⟨j + 1, by omega, by go_num, bool_of E3.out.symm⟩, by simp [intOf]; omega⟩
              · have e2 : decide ((k : Int) ∈ v.take j) = false := decide_eq_false hin
                rw [e2]
                by_cases hy : y = (k : Int)
                · have e3 : decide ((k : Int) ∈ v.take (j + 1)) = true := decide_eq_true (hm.2 (.inr hy.symm))
                  subst hy
                  have E3 := Lib.hid e3
                  clear e2 e3 hm hin hc e1
                  go_wp2
                  go_light
                  exact ⟨⟨j + 1, by omega, by go_num, bool_of E3.out.symm⟩, by simp [intOf]; omega⟩
                · have e3 : decide ((k : Int) ∈ v.take (j + 1)) = false := decide_eq_false fun hx => by
                    rcases hm.1 hx with h | h
                    · exact hin h
                    · exact hy h.symm
                  have hy' : (y == (k : Int)) = false := by simpa using hy
                  have E3 := Lib.hid e3
                  clear e2 e3 hm hin hc e1 hy
                  go_wp2
                  go_light
                  exact ⟨⟨j + 1, by omega, by go_num, bool_of E3.out.symm⟩, by simp [intOf]; omega⟩
            · rw [List.take_of_length_le (by omega)]
              by_cases hin : (k : Int) ∈ v
              · rw [decide_eq_true hin]
                have HM := Lib.hid (mix_hit (f := f) (h := hh) hin)
                clear hin
                go_wp2
                go_light
                exact ⟨⟨k + 1, by omega, by go_num, hbq.set _ _, by simpa using hBq, by rw [HM.out]; exact HQ.out.2⟩, by simp [intOf]; omega⟩
              · rw [decide_eq_false hin]
                have HM := Lib.hid (mix_miss (f := f) (h := hh) hin)
                clear hin
                go_wp2
                go_light
                exact ⟨⟨k + 1, by omega, by go_num, hbq, hBq, by rw [HM.out]; exact HQ.out.1⟩, by simp [intOf]; omega⟩
        · have e8 : k = 8 := by omega
          subst e8
          have y3 := belX hbq (k := w.heap.size + 3) (by omega) (by omega) HH.out.2.2.2
          have k1 : wr.cell? ⟨w.heap.size, 1, none⟩ = some (.slice b0 l.length d) := by rw [cell_at y0]; rfl
          have d0 : wr.cell? ⟨w.heap.size + 3, 0, none⟩ = some (.slice A v.length C) := by rw [cell_at y3]; rfl
          have d1 : wr.cell? ⟨w.heap.size + 3, 1, none⟩ = some (.slice none 0 0) := by rw [cell_at y3]; rfl
          have hcs : ∀ k, k < 8 → wr.cell? ⟨w.heap.size + 1, k, none⟩ = some (.int .u64 (f k)) := fun k hk => u8s_cell y1 k hk
          have hcs2 : ∀ k, k < 8 → wr.cell? ⟨w.heap.size + 2, k, none⟩ = some (.int .u64 (mix f hh v 8 k)) := fun k hk => u8s_cell hq k hk
          have hi : Ints wr .i64 A v.reverse := ints_belX hbq hi (fun x hx => by have := hAb x hx; omega) (Nat.le_refl _)
          have h : Ints wr .i64 a v := Row.below h (hbz.mono (Nat.le_refl _))
          have AL := fun w' => alive18_calls w'
          have CO := fun w' h' => Committed_calls v l a b0 c d f w' h' hl
          have CM := fun w' h' => Committed_calls v l a b0 c d (mix f hh v 8) w' h' hl
          have CD := fun w' h' => Committed_calls v.reverse [] A none C 0 f w' h' (by simpa using hl)
          rw [comV_mix] at CM
          rw [comV_rev, List.length_reverse] at CD
          simp only [List.length_nil] at CD
          generalize comV f v = y at *
          generalize mix f hh v 8 = g2 at *
          clear hq y0 y1 y3 HH hAb hbq
          obtain ⟨w6, hw6⟩ : ∃ w6 : World, w6 = wr := ⟨_, rfl⟩
          subst hw6
          go_wp2_with fail
          refine wp_region_res (by kernel_rfl) (fun W => Below w6.heap.size w6 W) (roL v l a b0 A c d C f g2 y) (fun _ => none) (by decide) (by decide) ((bDrew (Below.refl _ _))) ?hst ?hend
          case hst =>
            iterate 20 (with_reducible refine resSteps_cons ?_ ?_; rotate_left)
            · exact resSteps_nil
            · intro u W hG hd K hK
              have HK := Lib.hid hK
              clear hK hd
              refine ⟨?_⟩
              simp only [slotsOf_some, slotsOf_none, slotsOf_nil, puts_cons, puts_nil, Nat.zero_add, Nat.reduceAdd]
              go_simp
              refine (AL W).mono ?_
              rintro e w' ⟨rfl, hb'⟩
              exact HK.out _ _ _ (by simp [slotsOf_some, slotsOf_none, slotsOf_nil, puts_cons, puts_nil, Act.put, -Function.const_apply]) (bTrans hG hb') rfl (fun j _ _ _ _ h => roL_pure j _ h)
            · intro u W hG hd K hK
              have r0 : u 0 = .bool true := hd 0 (by decide) (.inl rfl)
              have HK := Lib.hid hK
              clear hK hd
              refine ⟨?_⟩
              simp only [slotsOf_some, slotsOf_none, slotsOf_nil, puts_cons, puts_nil, Nat.zero_add, Nat.reduceAdd]
              go_simp
              exact HK.out _ _ _ (by simp [slotsOf_some, slotsOf_none, slotsOf_nil, puts_cons, puts_nil, Act.put, r0]) hG rfl (fun j _ _ _ _ h => h)
            · intro u W hG hd K hK
              have r1 : u 1 = .bool true := hd 1 (by decide) (.inl rfl)
              have hc := keepC hG d0
              have hc2 := keepC hG d1
              have HK := Lib.hid hK
              clear hK hd
              refine ⟨?_⟩
              simp only [slotsOf_some, slotsOf_none, slotsOf_nil, puts_cons, puts_nil, Nat.zero_add, Nat.reduceAdd]
              go_simp
              exact HK.out _ _ _ (by simp [slotsOf_some, slotsOf_none, slotsOf_nil, puts_cons, puts_nil, Act.put, r1]) hG rfl (fun j _ _ _ _ h => h)
            · intro u W hG hd K hK
              have r1 : u 1 = .bool true := hd 1 (by decide) (.inl rfl)
              have q0 := keepC hG (hcs 0 (by decide))
              have q1 := keepC hG (hcs 1 (by decide))
              have q2 := keepC hG (hcs 2 (by decide))
              have q3 := keepC hG (hcs 3 (by decide))
              have q4 := keepC hG (hcs 4 (by decide))
              have q5 := keepC hG (hcs 5 (by decide))
              have q6 := keepC hG (hcs 6 (by decide))
              have q7 := keepC hG (hcs 7 (by decide))
              have HK := Lib.hid hK
              clear hK hd
              refine ⟨?_⟩
              simp only [slotsOf_some, slotsOf_none, slotsOf_nil, puts_cons, puts_nil, Nat.zero_add, Nat.reduceAdd]
              go_simp
              exact HK.out _ _ _ (by simp [slotsOf_some, slotsOf_none, slotsOf_nil, puts_cons, puts_nil, Act.put, r1, u8s]) hG rfl (fun j _ _ _ _ h => h)
            · intro u W hG hd K hK
              have r1 : u 1 = .bool true := hd 1 (by decide) (.inl rfl)
              have r2 : u 2 = .agg #[.slice A v.length C, .slice none 0 0] := hd 2 (by decide) (.inl rfl)
              have r3 : u 3 = .agg (u8s f) := hd 3 (by decide) (.inl rfl)
              have HK := Lib.hid hK
              clear hK hd
              refine ⟨?_⟩
              simp only [slotsOf_some, slotsOf_none, slotsOf_nil, puts_cons, puts_nil, Nat.zero_add, Nat.reduceAdd]
              go_simp
              refine (CD W (hi.below hG)).mono ?_
              rintro e w' ⟨rfl, hb'⟩
              exact HK.out _ _ _ (by simp [slotsOf_some, slotsOf_none, slotsOf_nil, puts_cons, puts_nil, Act.put, r1, r2, r3]) (bTrans hG hb') rfl (fun j _ _ _ _ h => roL_pure j _ h)
            · intro u W hG hd K hK
              have r1 : u 1 = .bool true := hd 1 (by decide) (.inl rfl)
              have hc := keepC hG k0
              have hc2 := keepC hG k1
              have HK := Lib.hid hK
              clear hK hd
              refine ⟨?_⟩
              simp only [slotsOf_some, slotsOf_none, slotsOf_nil, puts_cons, puts_nil, Nat.zero_add, Nat.reduceAdd]
              go_simp
              exact HK.out _ _ _ (by simp [slotsOf_some, slotsOf_none, slotsOf_nil, puts_cons, puts_nil, Act.put, r1]) hG rfl (fun j _ _ _ _ h => h)
            · intro u W hG hd K hK
              have r1 : u 1 = .bool true := hd 1 (by decide) (.inl rfl)
              have q0 := keepC hG (hcs 0 (by decide))
              have q1 := keepC hG (hcs 1 (by decide))
              have q2 := keepC hG (hcs 2 (by decide))
              have q3 := keepC hG (hcs 3 (by decide))
              have q4 := keepC hG (hcs 4 (by decide))
              have q5 := keepC hG (hcs 5 (by decide))
              have q6 := keepC hG (hcs 6 (by decide))
              have q7 := keepC hG (hcs 7 (by decide))
              have HK := Lib.hid hK
              clear hK hd
              refine ⟨?_⟩
              simp only [slotsOf_some, slotsOf_none, slotsOf_nil, puts_cons, puts_nil, Nat.zero_add, Nat.reduceAdd]
              go_simp
              exact HK.out _ _ _ (by simp [slotsOf_some, slotsOf_none, slotsOf_nil, puts_cons, puts_nil, Act.put, r1, u8s]) hG rfl (fun j _ _ _ _ h => h)
            · intro u W hG hd K hK
              have r1 : u 1 = .bool true := hd 1 (by decide) (.inl rfl)
              have r5 : u 5 = .agg #[.slice a v.length c, .slice b0 l.length d] := hd 5 (by decide) (.inl rfl)
              have r6 : u 6 = .agg (u8s f) := hd 6 (by decide) (.inl rfl)
              have HK := Lib.hid hK
              clear hK hd
              refine ⟨?_⟩
              simp only [slotsOf_some, slotsOf_none, slotsOf_nil, puts_cons, puts_nil, Nat.zero_add, Nat.reduceAdd]
              go_simp
              refine (CO W (h.below hG)).mono ?_
              rintro e w' ⟨rfl, hb'⟩
              exact HK.out _ _ _ (by simp [slotsOf_some, slotsOf_none, slotsOf_nil, puts_cons, puts_nil, Act.put, r1, r5, r6]) (bTrans hG hb') rfl (fun j _ _ _ _ h => roL_pure j _ h)
            · intro u W hG hd K hK
              have r1 : u 1 = .bool true := hd 1 (by decide) (.inl rfl)
              have r4 : u 4 = .int .u64 y := hd 4 (by decide) (.inl rfl)
              have r7 : u 7 = .int .u64 y := hd 7 (by decide) (.inl rfl)
              have HK := Lib.hid hK
              clear hK hd
              refine ⟨?_⟩
              simp only [slotsOf_some, slotsOf_none, slotsOf_nil, puts_cons, puts_nil, Nat.zero_add, Nat.reduceAdd]
              go_simp
              exact HK.out _ _ _ (by simp [slotsOf_some, slotsOf_none, slotsOf_nil, puts_cons, puts_nil, Act.put, r1, r4, r7]) hG rfl (fun j _ _ _ _ h => h)
            · intro u W hG hd K hK
              have r1 : u 1 = .bool true := hd 1 (by decide) (.inl rfl)
              have r8 : u 8 = .bool true := hd 8 (by decide) (.inl rfl)
              have HK := Lib.hid hK
              clear hK hd
              refine ⟨?_⟩
              simp only [slotsOf_some, slotsOf_none, slotsOf_nil, puts_cons, puts_nil, Nat.zero_add, Nat.reduceAdd]
              go_simp
              exact HK.out _ _ _ (by simp [slotsOf_some, slotsOf_none, slotsOf_nil, puts_cons, puts_nil, Act.put, r1, r8]) hG rfl (fun j _ _ _ _ h => h)
            · intro u W hG hd K hK
              have r9 : u 9 = .bool true := hd 9 (by decide) (.inl rfl)
              have HK := Lib.hid hK
              clear hK hd
              refine ⟨?_⟩
              simp only [slotsOf_some, slotsOf_none, slotsOf_nil, puts_cons, puts_nil, Nat.zero_add, Nat.reduceAdd]
              go_simp
              exact HK.out _ _ _ (by simp [slotsOf_some, slotsOf_none, slotsOf_nil, puts_cons, puts_nil, Act.put, r9]) hG rfl (fun j _ _ _ _ h => h)
            · intro u W hG hd K hK
              have r10 : u 10 = .bool true := hd 10 (by decide) (.inl rfl)
              have hc := keepC hG k0
              have hc2 := keepC hG k1
              have HK := Lib.hid hK
              clear hK hd
              refine ⟨?_⟩
              simp only [slotsOf_some, slotsOf_none, slotsOf_nil, puts_cons, puts_nil, Nat.zero_add, Nat.reduceAdd]
              go_simp
              exact HK.out _ _ _ (by simp [slotsOf_some, slotsOf_none, slotsOf_nil, puts_cons, puts_nil, Act.put, r10]) hG rfl (fun j _ _ _ _ h => h)
            · intro u W hG hd K hK
              have r10 : u 10 = .bool true := hd 10 (by decide) (.inl rfl)
              have q0 := keepC hG (hcs2 0 (by decide))
              have q1 := keepC hG (hcs2 1 (by decide))
              have q2 := keepC hG (hcs2 2 (by decide))
              have q3 := keepC hG (hcs2 3 (by decide))
              have q4 := keepC hG (hcs2 4 (by decide))
              have q5 := keepC hG (hcs2 5 (by decide))
              have q6 := keepC hG (hcs2 6 (by decide))
              have q7 := keepC hG (hcs2 7 (by decide))
              have HK := Lib.hid hK
              clear hK hd
              refine ⟨?_⟩
              simp only [slotsOf_some, slotsOf_none, slotsOf_nil, puts_cons, puts_nil, Nat.zero_add, Nat.reduceAdd]
              go_simp
              exact HK.out _ _ _ (by simp [slotsOf_some, slotsOf_none, slotsOf_nil, puts_cons, puts_nil, Act.put, r10, u8s]) hG rfl (fun j _ _ _ _ h => h)
            · intro u W hG hd K hK
              have r10 : u 10 = .bool true := hd 10 (by decide) (.inl rfl)
              have r11 : u 11 = .agg #[.slice a v.length c, .slice b0 l.length d] := hd 11 (by decide) (.inl rfl)
              have r12 : u 12 = .agg (u8s g2) := hd 12 (by decide) (.inl rfl)
              have HK := Lib.hid hK
              clear hK hd
              refine ⟨?_⟩
              simp only [slotsOf_some, slotsOf_none, slotsOf_nil, puts_cons, puts_nil, Nat.zero_add, Nat.reduceAdd]
              go_simp
              refine (CM W (h.below hG)).mono ?_
              rintro e w' ⟨rfl, hb'⟩
              exact HK.out _ _ _ (by simp [slotsOf_some, slotsOf_none, slotsOf_nil, puts_cons, puts_nil, Act.put, r10, r11, r12]) (bTrans hG hb') rfl (fun j _ _ _ _ h => roL_pure j _ h)
            · intro u W hG hd K hK
              have r10 : u 10 = .bool true := hd 10 (by decide) (.inl rfl)
              have hc := keepC hG k0
              have hc2 := keepC hG k1
              have HK := Lib.hid hK
              clear hK hd
              refine ⟨?_⟩
              simp only [slotsOf_some, slotsOf_none, slotsOf_nil, puts_cons, puts_nil, Nat.zero_add, Nat.reduceAdd]
              go_simp
              exact HK.out _ _ _ (by simp [slotsOf_some, slotsOf_none, slotsOf_nil, puts_cons, puts_nil, Act.put, r10]) hG rfl (fun j _ _ _ _ h => h)
            · intro u W hG hd K hK
              have r10 : u 10 = .bool true := hd 10 (by decide) (.inl rfl)
              have q0 := keepC hG (hcs 0 (by decide))
              have q1 := keepC hG (hcs 1 (by decide))
              have q2 := keepC hG (hcs 2 (by decide))
              have q3 := keepC hG (hcs 3 (by decide))
              have q4 := keepC hG (hcs 4 (by decide))
              have q5 := keepC hG (hcs 5 (by decide))
              have q6 := keepC hG (hcs 6 (by decide))
              have q7 := keepC hG (hcs 7 (by decide))
              have HK := Lib.hid hK
              clear hK hd
              refine ⟨?_⟩
              simp only [slotsOf_some, slotsOf_none, slotsOf_nil, puts_cons, puts_nil, Nat.zero_add, Nat.reduceAdd]
              go_simp
              exact HK.out _ _ _ (by simp [slotsOf_some, slotsOf_none, slotsOf_nil, puts_cons, puts_nil, Act.put, r10, u8s]) hG rfl (fun j _ _ _ _ h => h)
            · intro u W hG hd K hK
              have r10 : u 10 = .bool true := hd 10 (by decide) (.inl rfl)
              have r14 : u 14 = .agg #[.slice a v.length c, .slice b0 l.length d] := hd 14 (by decide) (.inl rfl)
              have r15 : u 15 = .agg (u8s f) := hd 15 (by decide) (.inl rfl)
              have HK := Lib.hid hK
              clear hK hd
              refine ⟨?_⟩
              simp only [slotsOf_some, slotsOf_none, slotsOf_nil, puts_cons, puts_nil, Nat.zero_add, Nat.reduceAdd]
              go_simp
              refine (CO W (h.below hG)).mono ?_
              rintro e w' ⟨rfl, hb'⟩
              exact HK.out _ _ _ (by simp [slotsOf_some, slotsOf_none, slotsOf_nil, puts_cons, puts_nil, Act.put, r10, r14, r15]) (bTrans hG hb') rfl (fun j _ _ _ _ h => roL_pure j _ h)
            · intro u W hG hd K hK
              have r10 : u 10 = .bool true := hd 10 (by decide) (.inl rfl)
              have r13 : u 13 = .int .u64 y := hd 13 (by decide) (.inl rfl)
              have r16 : u 16 = .int .u64 y := hd 16 (by decide) (.inl rfl)
              have HK := Lib.hid hK
              clear hK hd
              refine ⟨?_⟩
              simp only [slotsOf_some, slotsOf_none, slotsOf_nil, puts_cons, puts_nil, Nat.zero_add, Nat.reduceAdd]
              go_simp
              exact HK.out _ _ _ (by simp [slotsOf_some, slotsOf_none, slotsOf_nil, puts_cons, puts_nil, Act.put, r10, r13, r16]) hG rfl (fun j _ _ _ _ h => h)
            · intro u W hG hd K hK
              have r10 : u 10 = .bool true := hd 10 (by decide) (.inl rfl)
              have r17 : u 17 = .bool true := hd 17 (by decide) (.inl rfl)
              have HK := Lib.hid hK
              clear hK hd
              refine ⟨?_⟩
              simp only [slotsOf_some, slotsOf_none, slotsOf_nil, puts_cons, puts_nil, Nat.zero_add, Nat.reduceAdd]
              go_simp
              exact HK.out _ _ _ (by simp [slotsOf_some, slotsOf_none, slotsOf_nil, puts_cons, puts_nil, Act.put, r10, r17]) hG rfl (fun j _ _ _ _ h => h)
            · intro u W hG hd K hK
              have r18 : u 18 = .bool true := hd 18 (by decide) (.inl rfl)
              have HK := Lib.hid hK
              clear hK hd
              refine ⟨?_⟩
              simp only [slotsOf_some, slotsOf_none, slotsOf_nil, puts_cons, puts_nil, Nat.zero_add, Nat.reduceAdd]
              go_simp
              exact HK.out _ _ _ (by simp [slotsOf_some, slotsOf_none, slotsOf_nil, puts_cons, puts_nil, Act.put, r18]) hG rfl (fun j _ _ _ _ h => h)
          case hend =>
            intro u W hG hR
            have r19 : u 19 = .bool true := hR 19 (by decide) rfl
            clear hR
            have hbr2 := bTrans hbz hG
            clear hcs hcs2 k0 k1 d0 d1 h hi hG AL CO CD CM
            simp only [slotsOf_some, slotsOf_none, slotsOf_nil, puts_cons, puts_nil, Nat.zero_add, Nat.reduceAdd]
            simp [Act.put, r19]
            go_wp2
            go_ret
            exact ⟨rfl, hbr2⟩
end Go.Proofs.Ytinkbiinbfbjgaa

/- Contract of the reference's Decode. -/
import Derived.Test.YtinkbiinbfbjgaaDDecode
namespace Go.Proofs.Ytinkbiinbfbjgaa
open Go.RowKit
set_option linter.unusedVariables false
set_option linter.unusedSimpArgs false

/-- The world of a region that appends one byte's number to a field. -/
def reG (B a : Nat) (f : Nat → Value) (k : Nat) (A : Option Addr) (C j : Nat) (rows : List Value) (wr : World) (D : Nat → Bool) (W : World) : Prop :=
  BelowX B a wr W ∧ a < B ∧ B ≤ W.heap.size ∧ (D 10 = false → W.heap[a]? = some (.cells (s2 (updV f k (.slice A j C))) 39 (0, 0))) ∧ (D 8 = false → W.ownsRow B 3 1 (.slice A j C) j rows)
def reR (B a k : Nat) (f : Nat → Value) (A : Option Addr) (C j b0 o n c i : Nat) (y : Int) (rows : List Value) : Nat → (Nat → Value) → World → Prop
  | 0, u, _ => u 0 = .pointer (some ⟨a, k, none⟩)
  | 1, u, _ => u 1 = .slice A j C
  | 2, u, _ => u 2 = .slice (some ⟨b0, o, none⟩) n c
  | 3, u, _ => u 3 = .int .i64 (i : Nat)
  | 4, u, _ => u 4 = .pointer (some ⟨b0, o + i, none⟩)
  | 5, u, _ => u 5 = .int .u8 y
  | 6, u, _ => u 6 = .int .i64 y
  | 7, u, W => ∃ q, u 7 = .slice (some ⟨q, 0, none⟩) 1 1 ∧ W.heap[q]? = some (.cells #[.int .i64 y] 3 (0, 0))
  | 8, u, W => ∃ A' C', u 8 = .slice A' (j + 1) C' ∧ W.ownsRow B 3 1 (.slice A' (j + 1) C') (j + 1) (rows ++ [Value.int .i64 y])
  | 9, u, _ => u 9 = .pointer (some ⟨a, k, none⟩)
  | 10, _, W => ∃ A' C', W.heap[a]? = some (.cells (s2 (updV f k (.slice A' (j + 1) C'))) 39 (0, 0)) ∧ W.ownsRow B 3 1 (.slice A' (j + 1) C') (j + 1) (rows ++ [Value.int .i64 y])
  | _, _, _ => True
theorem reR_upd {B a k : Nat} {f : Nat → Value} {A : Option Addr} {C j b0 o n c i : Nat} {y : Int} {rows : List Value} (m t : Nat) (u : Nat → Value) (x : Value) {W : World} (hm : m ≠ t) (h : reR B a k f A C j b0 o n c i y rows m u W) : reR B a k f A C j b0 o n c i y rows m (updV u t x) W := by
  have e : updV u t x m = u m := updV_ne hm
  match m, h with
  | 0, h => exact e.trans h
  | 1, h => exact e.trans h
  | 2, h => exact e.trans h
  | 3, h => exact e.trans h
  | 4, h => exact e.trans h
  | 5, h => exact e.trans h
  | 6, h => exact e.trans h
  | 7, ⟨q, h, i⟩ => exact ⟨q, e.trans h, i⟩
  | 8, ⟨A', C', h, i⟩ => exact ⟨A', C', e.trans h, i⟩
  | 9, h => exact e.trans h
  | 10, h => exact h
  | _ + 11, _ => trivial
theorem reR_below {B a k : Nat} {f : Nat → Value} {A : Option Addr} {C j b0 o n c i : Nat} {y : Int} {rows : List Value} (m : Nat) (u : Nat → Value) {W W' : World} (hb : Below W.heap.size W W') (h : reR B a k f A C j b0 o n c i y rows m u W) : reR B a k f A C j b0 o n c i y rows m u W' := by
  match m, h with
  | 0, h => exact h
  | 1, h => exact h
  | 2, h => exact h
  | 3, h => exact h
  | 4, h => exact h
  | 5, h => exact h
  | 6, h => exact h
  | 7, ⟨q, h, i⟩ => exact ⟨q, h, keepH hb i⟩
  | 8, ⟨A', C', h, i⟩ => exact ⟨A', C', h, own_below i hb⟩
  | 9, h => exact h
  | 10, ⟨A', C', h, i⟩ => exact ⟨A', C', keepH hb h, own_below i hb⟩
  | _ + 11, _ => trivial
theorem reG_below {B a : Nat} {f : Nat → Value} {k : Nat} {A : Option Addr} {C j : Nat} {rows : List Value} {wr : World} {D : Nat → Bool} {W W' : World} (i : Nat) (h : reG B a f k A C j rows wr D W) (hb : Below W.heap.size W W') : reG B a f k A C j rows wr (more D i) W' := by
  obtain ⟨h1, h2, h3, h6, h7⟩ := h
  exact ⟨h1.trans (BelowX.of (hb.mono h3)), h2, Nat.le_trans h3 hb.size, fun hd => keepH hb (h6 (dc_more_no hd)), fun hd => own_below (h7 (dc_more_no hd)) hb⟩
theorem reG_app {B a : Nat} {f : Nat → Value} {k : Nat} {A : Option Addr} {C j : Nat} {rows : List Value} {wr : World} {D : Nat → Bool} {W W' : World} (h : reG B a f k A C j rows wr D W) (hb : Below B W W') : reG B a f k A C j rows wr (more D 8) W' := by
  obtain ⟨h1, h2, h3, h6, h7⟩ := h
  refine ⟨h1.trans (BelowX.of hb), h2, Nat.le_trans h3 hb.size, fun hd => by rw [hb.block a h2]; exact h6 (dc_more_no hd), fun hd => ?_⟩
  rw [more_self] at hd
  cases hd
theorem reG_set {B a : Nat} {f : Nat → Value} {k : Nat} {A : Option Addr} {C j : Nat} {rows : List Value} {wr : World} {D : Nat → Bool} {W : World} (h : reG B a f k A C j rows wr D W) (o : Nat) (v : Value) : reG B a f k A C j rows wr (more D 10) (W.setCell ⟨a, o, none⟩ v) := by
  obtain ⟨h1, h2, h3, h6, h7⟩ := h
  refine ⟨h1.set _ _, h2, by simpa using h3, fun hd => ?_, fun hd => ownsRow_setCell_below (h7 (dc_more_no hd)) h2 _⟩
  rw [more_self] at hd
  cases hd
theorem belXo {B g : Nat} {w w' : World} (h : BelowX B g w w') {k : Nat} (hk : k < B) (hne : k ≠ g) {o : Obj} (ho : w.heap[k]? = some o) : w'.heap[k]? = some o := by
  rw [h.block k hk hne]; exact ho
theorem Ints.belX {B g : Nat} {w w' : World} {k : IntKind} {a : Option Addr} {l : List Int} (h : Ints w k a l) (hb : BelowX B g w w') (hB : ∀ x, a = some x → x.block ≠ g) (hlt : w.heap.size ≤ B) : Ints w' k a l := by
  rcases h with h | ⟨b, o, rfl, hc⟩
  · exact .inl h
  · refine .inr ⟨b, o, rfl, fun i hi => ?_⟩
    have h1 := hc i hi
    have h2 := World.block_lt_of_cell? _ _ h1
    have h3 : w'.heap[b]? = w.heap[b]? := hb.block b (by simp at h2; omega) (hB _ rfl)
    rw [← h1]
    simp only [World.cell?, h3]

/-- A configuration's bytes, taken apart. -/
theorem enc_parts {v l : List Int} {n : Nat} {r : List Int} (h : encL v l = (n : Int) :: r) : n = v.length ∧ r = v ++ (l.length : Int) :: l := by
  unfold encL at h
  simp only [List.cons_append, List.cons.injEq] at h
  exact ⟨by omega, h.2.symm⟩
theorem enc_of {n : Nat} {r : List Int} {z : Int} (hn : n < r.length) (hz : r[n] = z) (hq : z = ((r.drop (n + 1)).length : Int)) : encL (r.take n) (r.drop (n + 1)) = (n : Int) :: r := by
  unfold encL
  have e1 : (r.take n).length = n := by simp; omega
  have e2 : r.drop n = r[n] :: r.drop (n + 1) := List.drop_eq_getElem_cons hn
  rw [e1, ← hq, ← hz, List.cons_append, ← e2, List.take_append_drop]
theorem enc_no {n : Nat} {r : List Int} {z : Int} (hn : n < r.length) (hz : r[n] = z) (hno : ¬(z = ((r.drop (n + 1)).length : Int) ∧ checkB (r.take n) (r.drop (n + 1)) = true)) : ∀ v l, checkB v l = true → encL v l ≠ (n : Int) :: r := by
  intro v l hc he
  obtain ⟨rfl, rfl⟩ := enc_parts he
  refine hno ⟨?_, ?_⟩
  · rw [← hz]
    simp
  · simpa using hc

def rdA (b0 o n C jn i2 a lq : Nat) (A5 A6 : Option Addr) (C5 C6 : Nat) (z : Int) : Nat → Value → World → Prop
  | 0, x_, _ => x_ = .slice (some ⟨b0, o, none⟩) n C
  | 1, x_, _ => x_ = .int .i64 (jn : Nat)
  | 2, x_, _ => x_ = .int .i64 (i2 : Nat)
  | 3, x_, _ => x_ = .pointer (some ⟨b0, o + i2, none⟩)
  | 4, x_, _ => x_ = .int .u8 z
  | 5, x_, _ => x_ = .int .i64 z
  | 6, x_, _ => x_ = .pointer (some ⟨a, 1, none⟩)
  | 7, x_, _ => x_ = .slice A6 lq C6
  | 8, x_, _ => x_ = .int .i64 (lq : Nat)
  | 9, x_, _ => x_ = .bool true
  | 10, x_, _ => x_ = .bool true
  | 11, x_, _ => x_ = undef
  | 12, x_, _ => x_ = undef
  | 13, x_, _ => x_ = undef
  | 14, x_, _ => x_ = .bool true
  | _, _, _ => True
theorem rdA_pure {b0 o n C jn i2 a lq : Nat} {A5 A6 : Option Addr} {C5 C6 : Nat} {z : Int} (j : Nat) (x_ : Value) {W W' : World} (h : rdA b0 o n C jn i2 a lq A5 A6 C5 C6 z j x_ W) : rdA b0 o n C jn i2 a lq A5 A6 C5 C6 z j x_ W' := by
  match j, h with
  | 0, h => exact h
  | 1, h => exact h
  | 2, h => exact h
  | 3, h => exact h
  | 4, h => exact h
  | 5, h => exact h
  | 6, h => exact h
  | 7, h => exact h
  | 8, h => exact h
  | 9, h => exact h
  | 10, h => exact h
  | 11, h => exact h
  | 12, h => exact h
  | 13, h => exact h
  | 14, h => exact h
  | _ + 15, _ => trivial
def rdB1 (b0 o n C jn i2 a lq : Nat) (A5 A6 : Option Addr) (C5 C6 : Nat) (z : Int) : Nat → Value → World → Prop
  | 0, x_, _ => x_ = .slice (some ⟨b0, o, none⟩) n C
  | 1, x_, _ => x_ = .int .i64 (jn : Nat)
  | 2, x_, _ => x_ = .int .i64 (i2 : Nat)
  | 3, x_, _ => x_ = .pointer (some ⟨b0, o + i2, none⟩)
  | 4, x_, _ => x_ = .int .u8 z
  | 5, x_, _ => x_ = .int .i64 z
  | 6, x_, _ => x_ = .pointer (some ⟨a, 1, none⟩)
  | 7, x_, _ => x_ = .slice A6 lq C6
  | 8, x_, _ => x_ = .int .i64 (lq : Nat)
  | 9, x_, _ => x_ = .bool false
  | 10, x_, _ => x_ = .bool false
  | 11, x_, _ => x_ = .agg #[.slice A5 jn C5, .slice A6 lq C6]
  | 12, x_, _ => x_ = .int .i64 0
  | 13, x_, _ => x_ = .bool false
  | 14, x_, _ => x_ = .bool false
  | _, _, _ => True
theorem rdB1_pure {b0 o n C jn i2 a lq : Nat} {A5 A6 : Option Addr} {C5 C6 : Nat} {z : Int} (j : Nat) (x_ : Value) {W W' : World} (h : rdB1 b0 o n C jn i2 a lq A5 A6 C5 C6 z j x_ W) : rdB1 b0 o n C jn i2 a lq A5 A6 C5 C6 z j x_ W' := by
  match j, h with
  | 0, h => exact h
  | 1, h => exact h
  | 2, h => exact h
  | 3, h => exact h
  | 4, h => exact h
  | 5, h => exact h
  | 6, h => exact h
  | 7, h => exact h
  | 8, h => exact h
  | 9, h => exact h
  | 10, h => exact h
  | 11, h => exact h
  | 12, h => exact h
  | 13, h => exact h
  | 14, h => exact h
  | _ + 15, _ => trivial
def rdB2 (b0 o n C jn i2 a lq : Nat) (A5 A6 : Option Addr) (C5 C6 : Nat) (z : Int) : Nat → Value → World → Prop
  | 0, x_, _ => x_ = .slice (some ⟨b0, o, none⟩) n C
  | 1, x_, _ => x_ = .int .i64 (jn : Nat)
  | 2, x_, _ => x_ = .int .i64 (i2 : Nat)
  | 3, x_, _ => x_ = .pointer (some ⟨b0, o + i2, none⟩)
  | 4, x_, _ => x_ = .int .u8 z
  | 5, x_, _ => x_ = .int .i64 z
  | 6, x_, _ => x_ = .pointer (some ⟨a, 1, none⟩)
  | 7, x_, _ => x_ = .slice A6 lq C6
  | 8, x_, _ => x_ = .int .i64 (lq : Nat)
  | 9, x_, _ => x_ = .bool false
  | 10, x_, _ => x_ = .bool false
  | 11, x_, _ => x_ = .agg #[.slice A5 jn C5, .slice A6 lq C6]
  | 12, x_, _ => x_ = .int .i64 140
  | 13, x_, _ => x_ = .bool true
  | 14, x_, _ => x_ = .bool true
  | _, _, _ => True
theorem rdB2_pure {b0 o n C jn i2 a lq : Nat} {A5 A6 : Option Addr} {C5 C6 : Nat} {z : Int} (j : Nat) (x_ : Value) {W W' : World} (h : rdB2 b0 o n C jn i2 a lq A5 A6 C5 C6 z j x_ W) : rdB2 b0 o n C jn i2 a lq A5 A6 C5 C6 z j x_ W' := by
  match j, h with
  | 0, h => exact h
  | 1, h => exact h
  | 2, h => exact h
  | 3, h => exact h
  | 4, h => exact h
  | 5, h => exact h
  | 6, h => exact h
  | 7, h => exact h
  | 8, h => exact h
  | 9, h => exact h
  | 10, h => exact h
  | 11, h => exact h
  | 12, h => exact h
  | 13, h => exact h
  | 14, h => exact h
  | _ + 15, _ => trivial

set_option maxRecDepth 100000 in
set_option maxHeartbeats 4000000 in
theorem rDecode_calls (b : List Int) (A : Option Addr) (C : Nat) (w : World) (h : Ints w .u8 A b) (hl : b.length < 2^40) (hby : ∀ x ∈ b, 0 ≤ x ∧ x < 256) :
    Calls Try.prog 34 #[.slice A b.length C] w fun e w' => ∃ p q x y c d er, e = .returned (.tuple #[.agg #[.slice x p.length c, .slice y q.length d], .int .i64 er]) ∧ Ints w' .i64 x p ∧ Ints w' .i64 y q ∧ Below w.heap.size w w' ∧ decR b p q er := by
  have hb0 := bAlloc (bAlloc (Below.refl w.heap.size w) (.cells #[.slice none 0 0, .slice none 0 0] 39)) (.cells #[.slice none 0 0, .slice none 0 0] 39)
  have hr2 := keepH (bAlloc (Below.refl _ _) (.cells #[.slice none 0 0, .slice none 0 0] 39)) (heap_alloc_new w (.cells #[.slice none 0 0, .slice none 0 0] 39))
  have ha := heap_alloc_new (w.alloc (.cells #[.slice none 0 0, .slice none 0 0] 39)) (.cells #[.slice none 0 0, .slice none 0 0] 39)
  simp only [World.size_alloc] at ha
  have hz : ((w.alloc (.cells #[.slice none 0 0, .slice none 0 0] 39)).alloc (.cells #[.slice none 0 0, .slice none 0 0] 39)).heap.size = w.heap.size + 2 := by simp
  by_cases hb : b = []
  · subst hb
    go_enter Try.func34, Try.ntmps34
    go_wp2_with fail
    generalize (w.alloc (.cells #[.slice none 0 0, .slice none 0 0] 39)).alloc (.cells #[.slice none 0 0, .slice none 0 0] 39) = w2 at *
    have z0 : w2.cell? ⟨w.heap.size, 0, none⟩ = some (.slice none 0 0) := by rw [cell_at hr2]; rfl
    have z1 : w2.cell? ⟨w.heap.size, 1, none⟩ = some (.slice none 0 0) := by rw [cell_at hr2]; rfl
    have zf := fun o => frozen_at hr2 o
    refine bodyPost_ret (v := .tuple #[.agg #[.slice none 0 0, .slice none 0 0], .int .i64 140]) ?_ rfl ?_
    · simp [results, Try.results34, go_sem, z0, z1, zf]
    · exact ⟨[], [], none, none, 0, 0, 140, rfl, Ints.nil _ _ _, Ints.nil _ _ _, hb0, .inr ⟨rfl, rfl, rfl, fun v l hc he => by simp [encL] at he⟩⟩
  · obtain ⟨x, r, rfl⟩ := List.exists_cons_of_ne_nil hb
    clear hb
    have hx := hby x (List.mem_cons_self ..)
    obtain ⟨n, rfl⟩ : ∃ n : Nat, x = n := ⟨x.toNat, by omega⟩
    have hnw : IntKind.i64.wrap (n : Int) = n := IntWalk.i64_in _ (by omega)
    have h' := h.below hb0
    obtain ⟨b0, o, rfl, hbl, hc⟩ := h.open (by simp)
    have hn2 : n < 256 := by omega
    simp only [List.length_cons] at hl
    have hcx := keepC hb0 (hc 0 (by simp))
    simp only [Nat.add_zero, List.getD_cons_zero] at hcx
    by_cases hs : (r.length : Int) + 1 < 2 + n
    · have hs' : decide ((r.length : Int) + 1 < 2 + n) = true := decide_eq_true hs
      clear hc h' h
      go_enter Try.func34, Try.ntmps34
      go_wp2_with fail
      generalize (w.alloc (.cells #[.slice none 0 0, .slice none 0 0] 39)).alloc (.cells #[.slice none 0 0, .slice none 0 0] 39) = w2 at *
      have z0 : w2.cell? ⟨w.heap.size, 0, none⟩ = some (.slice none 0 0) := by rw [cell_at hr2]; rfl
      have z1 : w2.cell? ⟨w.heap.size, 1, none⟩ = some (.slice none 0 0) := by rw [cell_at hr2]; rfl
      have zf := fun o => frozen_at hr2 o
      trace_state
      refine bodyPost_ret (v := .tuple #[.agg #[.slice none 0 0, .slice none 0 0], .int .i64 140]) ?_ rfl ?_
      · simp [results, Try.results34, go_sem, z0, z1, zf]
      · exact ⟨[], [], none, none, 0, 0, 140, rfl, Ints.nil _ _ _, Ints.nil _ _ _, hb0, .inr ⟨rfl, rfl, rfl, fun v l hc he => by obtain ⟨rfl, rfl⟩ := enc_parts he; simp at hs; omega⟩⟩
    · have hs' : decide ((r.length : Int) + 1 < 2 + n) = false := decide_eq_false hs
      have hnr : n < r.length := by omega
      have hne0 : ((r.length : Int) + 1 == 0) = false := by rw [beq_eq_false_iff_ne]; omega
      clear hs
      go_enter Try.func34, Try.ntmps34
      go_wp2_with fail
      generalize (w.alloc (.cells #[.slice none 0 0, .slice none 0 0] 39)).alloc (.cells #[.slice none 0 0, .slice none 0 0] 39) = w2 at *
      generalize haa : w.heap.size + 1 = a at *
      obtain ⟨B1, hB1⟩ : ∃ B1, B1 = w.heap.size + 2 := ⟨_, rfl⟩
      have haB : a < B1 := by omega
      obtain ⟨f, hf⟩ : ∃ f : Nat → Value, f = fun _ => .slice none 0 0 := ⟨_, rfl⟩
      have ha2 : w2.heap[a]? = some (.cells (s2 (updV f 0 (.slice none 0 0))) 39 (0, 0)) := by rw [updV_same f 0 (by rw [hf]), hf]; exact ha
      clear ha hcx h' hs'
      have HC := Lib.hid hc
      clear hc
      go_loopw [6] (fun s6 wr => ∃ (j i : Nat) (A5 : Option Addr) (C5 : Nat), i = j + 1 ∧ j ≤ n ∧ s6 = .int .i64 i ∧ BelowX B1 a w2 wr ∧ B1 ≤ wr.heap.size ∧ wr.heap[a]? = some (.cells (s2 (updV f 0 (.slice A5 j C5))) 39 (0, 0)) ∧ wr.ownsRow B1 3 1 (.slice A5 j C5) j ((r.take j).map (Value.int .i64))) (fun s6 _ => n + 1 - (intOf s6).toNat)
      case atStart => exact ⟨0, 1, none, 0, rfl, by omega, rfl, BelowX.refl _ _ _, by omega, ha2, World.ownsRow_nil _ _ _ _⟩
      case round =>
        obtain ⟨w5, rfl⟩ : ∃ w5 : World, w5 = wr := ⟨_, rfl⟩
        obtain ⟨j, i, A5, C5, hij, hjn, rfl, hb5, hs5, ha5, hown⟩ := hrel
        clear ha2
        have hbw5 : Below w.heap.size w w5 := hb0.trans ((hb5.below (by omega)).mono (by omega))
        by_cases hlj : j < n
        · have hin : (i : Int) ≤ (n : Int) := by omega
          have hir : (i : Int) < (r.length : Int) + 1 := by omega
          have hjr : j < r.length := by omega
          have hcell := HC.out i (by simp; omega)
          have e1 : ((n : Int) :: r).getD i 0 = r[j] := by rw [hij]; simp [List.getD, hjr]
          rw [e1] at hcell
          have hy := hby r[j] (List.mem_cons_of_mem _ (List.getElem_mem hjr))
          have ht : r.take (j + 1) = r.take j ++ [r[j]] := take_snoc r j hjr
          have hrows : ((r.take j).map (Value.int .i64)).length = j := by simp; omega
          generalize r[j] = y at *
          generalize hrw : (r.take j).map (Value.int .i64) = rows at *
          have hyw : IntKind.i64.wrap y = y := IntWalk.i64_in _ (by omega)
          have hcr : ∀ W, BelowX B1 a w5 W → W.cell? ⟨b0, o + i, none⟩ = some (.int .u8 y) := fun W hW => keepC (hbw5.trans ((hW.below (by omega)).mono (by omega))) hcell
          have HT := Lib.hid (And.intro ht hrw)
          have HIJ := Lib.hid hij
          clear ht hrw hcell e1 hij
          go_wp2_with fail
          refine wp_region_resG (by kernel_rfl) (reG B1 a f 0 A5 C5 j rows w5) (reR B1 a 0 f A5 C5 j b0 o (r.length + 1) C i y rows) dcF (by decide) (by decide) ⟨BelowX.of (bDrew (Below.refl _ _) |>.mono hs5), haB, hs5, fun _ => ha5, fun _ => hown⟩ ?hst ?hend
          case hst =>
            clear ha5 hown
            iterate 11 (with_reducible refine resStepsG_cons ?_ ?_; rotate_left)
            · exact resStepsG_nil
            · intro D u W hG hDi hw hd K hK
              have HK := Lib.hid hK
              clear hK hd
              refine ⟨?_⟩
              simp only [slotsOf_some, slotsOf_none, slotsOf_nil, puts_cons, puts_nil, Nat.zero_add, Nat.reduceAdd]
              go_simp
              exact HK.out _ _ _ (by simp [slotsOf_some, slotsOf_none, slotsOf_nil, puts_cons, puts_nil, Act.put, -Function.const_apply]) (reG_below 0 hG (Below.refl _ _)) updV_self (fun m hm _ _ _ h => reR_upd m 0 u _ hm h)
            · intro D u W hG hDi hw hd K hK
              have r0 : u 0 = .pointer (some ⟨a, 0, none⟩) := hd 0 (by decide) (.inl rfl)
              have hc := s2_cell (hG.2.2.2.1 (hw 10 (by decide))) 0 (by decide)
              rw [updV_self] at hc
              have HK := Lib.hid hK
              clear hK hd
              refine ⟨?_⟩
              simp only [slotsOf_some, slotsOf_none, slotsOf_nil, puts_cons, puts_nil, Nat.zero_add, Nat.reduceAdd]
              go_simp
              exact HK.out _ _ _ (by simp [slotsOf_some, slotsOf_none, slotsOf_nil, puts_cons, puts_nil, Act.put, r0]) (reG_below 1 hG (Below.refl _ _)) updV_self (fun m hm _ _ _ h => reR_upd m 1 u _ hm h)
            · intro D u W hG hDi hw hd K hK
              have HK := Lib.hid hK
              clear hK hd
              refine ⟨?_⟩
              simp only [slotsOf_some, slotsOf_none, slotsOf_nil, puts_cons, puts_nil, Nat.zero_add, Nat.reduceAdd]
              go_simp
              exact HK.out _ _ _ (by simp [slotsOf_some, slotsOf_none, slotsOf_nil, puts_cons, puts_nil, Act.put, -Function.const_apply]) (reG_below 2 hG (Below.refl _ _)) updV_self (fun m hm _ _ _ h => reR_upd m 2 u _ hm h)
            · intro D u W hG hDi hw hd K hK
              have HK := Lib.hid hK
              clear hK hd
              refine ⟨?_⟩
              simp only [slotsOf_some, slotsOf_none, slotsOf_nil, puts_cons, puts_nil, Nat.zero_add, Nat.reduceAdd]
              go_simp
              exact HK.out _ _ _ (by simp [slotsOf_some, slotsOf_none, slotsOf_nil, puts_cons, puts_nil, Act.put, -Function.const_apply]) (reG_below 3 hG (Below.refl _ _)) updV_self (fun m hm _ _ _ h => reR_upd m 3 u _ hm h)
            · intro D u W hG hDi hw hd K hK
              have r2 : u 2 = .slice (some ⟨b0, o, none⟩) (r.length + 1) C := hd 2 (by decide) (.inl rfl)
              have r3 : u 3 = .int .i64 (i : Nat) := hd 3 (by decide) (.inl rfl)
              have HK := Lib.hid hK
              clear hK hd
              refine ⟨?_⟩
              simp only [slotsOf_some, slotsOf_none, slotsOf_nil, puts_cons, puts_nil, Nat.zero_add, Nat.reduceAdd]
              go_simp
              exact HK.out _ _ _ (by simp [slotsOf_some, slotsOf_none, slotsOf_nil, puts_cons, puts_nil, Act.put, r2, r3]) (reG_below 4 hG (Below.refl _ _)) updV_self (fun m hm _ _ _ h => reR_upd m 4 u _ hm h)
            · intro D u W hG hDi hw hd K hK
              have r4 : u 4 = .pointer (some ⟨b0, o + i, none⟩) := hd 4 (by decide) (.inl rfl)
              have hc := hcr W hG.1
              have HK := Lib.hid hK
              clear hK hd
              refine ⟨?_⟩
              simp only [slotsOf_some, slotsOf_none, slotsOf_nil, puts_cons, puts_nil, Nat.zero_add, Nat.reduceAdd]
              go_simp
              exact HK.out _ _ _ (by simp [slotsOf_some, slotsOf_none, slotsOf_nil, puts_cons, puts_nil, Act.put, r4]) (reG_below 5 hG (Below.refl _ _)) updV_self (fun m hm _ _ _ h => reR_upd m 5 u _ hm h)
            · intro D u W hG hDi hw hd K hK
              have r5 : u 5 = .int .u8 y := hd 5 (by decide) (.inl rfl)
              have HK := Lib.hid hK
              clear hK hd
              refine ⟨?_⟩
              simp only [slotsOf_some, slotsOf_none, slotsOf_nil, puts_cons, puts_nil, Nat.zero_add, Nat.reduceAdd]
              go_simp
              exact HK.out _ _ _ (by simp [slotsOf_some, slotsOf_none, slotsOf_nil, puts_cons, puts_nil, Act.put, r5, hyw]) (reG_below 6 hG (Below.refl _ _)) updV_self (fun m hm _ _ _ h => reR_upd m 6 u _ hm h)
            · intro D u W hG hDi hw hd K hK
              have r6 : u 6 = .int .i64 y := hd 6 (by decide) (.inl rfl)
              have HK := Lib.hid hK
              clear hK hd
              refine ⟨?_⟩
              simp only [slotsOf_some, slotsOf_none, slotsOf_nil, puts_cons, puts_nil, Nat.zero_add, Nat.reduceAdd]
              go_simp
              exact HK.out (.slice (some ⟨W.heap.size, 0, none⟩) 1 1) _ _ (by simp [slotsOf_some, slotsOf_none, slotsOf_nil, puts_cons, puts_nil, Act.put, r6]) (reG_below 7 hG (bAlloc (Below.refl _ _) _)) ⟨W.heap.size, updV_self, heap_alloc_new W _⟩ (fun m hm _ _ _ h => reR_below m _ (bAlloc (Below.refl _ _) _) (reR_upd m 7 u _ hm h))
            · intro D u W hG hDi hw hd K hK
              have r1 : u 1 = .slice A5 j C5 := hd 1 (by decide) (.inl rfl)
              obtain ⟨q, r7, hq⟩ : ∃ q, u 7 = .slice (some ⟨q, 0, none⟩) 1 1 ∧ W.heap[q]? = some (.cells #[.int .i64 y] 3 (0, 0)) := hd 7 (by decide) (.inr rfl)
              have hown := hG.2.2.2.2 hDi
              clear hd
              refine ⟨?_⟩
              simp only [slotsOf_some, slotsOf_none, slotsOf_nil, puts_cons, puts_nil, Nat.zero_add, Nat.reduceAdd]
              refine step_app elInt B1 rfl (.tmp 33) (.tmp 39) rfl (.slice A5 j C5) j rows (by simp [Act.eval, Act.put, r1]) hown (some ⟨q, 0, none⟩) 1 1 [.int .i64 y] (by simp [Act.eval, Act.put, r7]) rfl (.inr ⟨q, 0, rfl, fun i hi => by have : i = 0 := (by simpa using hi); subst this; rw [cell_at hq]; rfl⟩) (by simp [Value.oneCell']) (by omega) hG.2.2.1 ?_
              intro A' C' w' hown' hgrow hb'
              refine hK _ _ _ (by simp [slotsOf_some, slotsOf_none, slotsOf_nil, puts_cons, puts_nil, Act.put, -Function.const_apply]) (reG_app hG hb') ⟨A', C', updV_self, hown'⟩ (fun m hm hf hwm hmm hr => ?_)
              rcases m with _|_|_|_|_|_|_|_|_|_|_|m
              all_goals first | exact absurd rfl hm | exact absurd rfl hf | exact absurd hwm (by decide) | (exact reR_upd _ 8 u _ hm hr)
            · intro D u W hG hDi hw hd K hK
              have HK := Lib.hid hK
              clear hK hd
              refine ⟨?_⟩
              simp only [slotsOf_some, slotsOf_none, slotsOf_nil, puts_cons, puts_nil, Nat.zero_add, Nat.reduceAdd]
              go_simp
              exact HK.out _ _ _ (by simp [slotsOf_some, slotsOf_none, slotsOf_nil, puts_cons, puts_nil, Act.put, -Function.const_apply]) (reG_below 9 hG (Below.refl _ _)) updV_self (fun m hm _ _ _ h => reR_upd m 9 u _ hm h)
            · intro D u W hG hDi hw hd K hK
              have r9 : u 9 = .pointer (some ⟨a, 0, none⟩) := hd 9 (by decide) (.inl rfl)
              obtain ⟨A', C', r8, hown'⟩ : ∃ A' C', u 8 = .slice A' (j + 1) C' ∧ W.ownsRow B1 3 1 (.slice A' (j + 1) C') (j + 1) (rows ++ [Value.int .i64 y]) := hd 8 (by decide) (.inl rfl)
              have hx := hG.2.2.2.1 hDi
              have t0 := s2_cell hx 0 (by decide)
              rw [updV_self] at t0
              have tf := frozen_at hx 0
              have HX := Lib.hid hx
              clear hx
              have HK := Lib.hid hK
              clear hK hd
              refine ⟨?_⟩
              simp only [slotsOf_some, slotsOf_none, slotsOf_nil, puts_cons, puts_nil, Nat.zero_add, Nat.reduceAdd]
              go_simp
              have hx := HX.out
              refine HK.out undef _ _ (by simp [slotsOf_some, slotsOf_none, slotsOf_nil, puts_cons, puts_nil, Act.put, r8, r9]) (reG_set hG _ _) ⟨A', C', by rw [setCell_at hx, s2_set _ 0 (by decide), updV_upd], ownsRow_setCell_below hown' haB _⟩ (fun m hm hf hwm hmm hr => ?_)
              have hr := reR_upd m 10 u undef hm hr
              rcases m with _|_|_|_|_|_|_|_|_|_|_|m
              all_goals first | exact hr | exact absurd rfl hm | (obtain ⟨A2, C2, h1, h2⟩ := hr; exact ⟨A2, C2, h1, ownsRow_setCell_below h2 haB _⟩) | exact absurd (hmm _ rfl) (by decide)
          case hend =>
            clear ha5 hown
            intro D u W hall hG hR'
            obtain ⟨A', C', hx, hown'⟩ : ∃ A' C', W.heap[a]? = some (.cells (s2 (updV f 0 (.slice A' (j + 1) C'))) 39 (0, 0)) ∧ W.ownsRow B1 3 1 (.slice A' (j + 1) C') (j + 1) (rows ++ [Value.int .i64 y]) := hR' 10 (by decide) rfl
            have hbW := hb5.trans hG.1
            have hBW := hG.2.2.1
            clear hR' hG
            simp only [slotsOf_some, slotsOf_none, slotsOf_nil, puts_cons, puts_nil, Nat.zero_add, Nat.reduceAdd]
            simp [Act.put]
            go_wp2
            go_light
            have hij := HIJ.out
            rw [← HT.out.2] at hown'
            exact ⟨⟨j + 1, i + 1, A', C', by omega, by omega, by go_num, hbW, hBW, hx, by rw [HT.out.1]; simpa using hown'⟩, by simp [intOf]; omega⟩
        · have ej : j = n := by omega
          subst ej
          have hin : ¬ ((i : Int) ≤ (j : Int)) := by omega
          have hi0 : Ints w5 .i64 A5 (r.take j) := Row.of_own hown
          have hA5 : ∀ x, A5 = some x → B1 ≤ x.block := fun x hx => (hown.lt x.block (by rw [hx]; rfl)).1
          clear hlj hjn hown hij
          obtain ⟨B2, hB2⟩ : ∃ B2, B2 = w5.heap.size := ⟨_, rfl⟩
          have haB2 : a < B2 := by omega
          have hll : (r.drop (j + 1)).length = r.length - (j + 1) := by simp
          obtain ⟨f2, hf2⟩ : ∃ f2, f2 = updV f 0 (.slice A5 j C5) := ⟨_, rfl⟩
          have ha6 : w5.heap[a]? = some (.cells (s2 (updV f2 1 (.slice none 0 0))) 39 (0, 0)) := by rw [updV_same f2 1 (by rw [hf2, updV_ne (by decide), hf]), hf2]; exact ha5
          clear ha5
          go_wp2_with fail
          go_loopw [7] (fun s7 wr => ∃ (k i : Nat) (A6 : Option Addr) (C6 : Nat), i = j + 2 + k ∧ k ≤ (r.drop (j + 1)).length ∧ s7 = .int .i64 i ∧ BelowX B2 a w5 wr ∧ B2 ≤ wr.heap.size ∧ wr.heap[a]? = some (.cells (s2 (updV f2 1 (.slice A6 k C6))) 39 (0, 0)) ∧ wr.ownsRow B2 3 1 (.slice A6 k C6) k (((r.drop (j + 1)).take k).map (Value.int .i64))) (fun s7 _ => r.length + 1 - (intOf s7).toNat)
          case atStart => exact ⟨0, j + 2, none, 0, rfl, by omega, by go_num, BelowX.refl _ _ _, by omega, ha6, World.ownsRow_nil _ _ _ _⟩
          case round =>
            obtain ⟨w7, rfl⟩ : ∃ w7 : World, w7 = wr := ⟨_, rfl⟩
            obtain ⟨k, i7, A6, C6, hij, hkm, rfl, hb7, hs7, ha7, hown7⟩ := hrel
            clear ha6
            have hbw7 : Below w.heap.size w w7 := hbw5.trans ((hb7.below (by omega)).mono (by omega))
            by_cases hlk : k < (r.drop (j + 1)).length
            · have hir : (i7 : Int) < (r.length : Int) + 1 := by omega
              have hcell := HC.out i7 (by simp; omega)
              have e1 : ((j : Int) :: r).getD i7 0 = (r.drop (j + 1))[k] := by
                rw [hij, show j + 2 + k = (j + 1 + k) + 1 by omega, List.getD_cons_succ, List.getElem_drop]
                simp [List.getD, show j + 1 + k < r.length by omega]
              rw [e1] at hcell
              have hy := hby (r.drop (j + 1))[k] (List.mem_cons_of_mem _ (List.mem_of_mem_drop (List.getElem_mem hlk)))
              have ht : (r.drop (j + 1)).take (k + 1) = (r.drop (j + 1)).take k ++ [(r.drop (j + 1))[k]] := take_snoc _ k hlk
              have hrows : (((r.drop (j + 1)).take k).map (Value.int .i64)).length = k := by rw [List.length_map, List.length_take]; omega
              generalize (r.drop (j + 1))[k] = y7 at *
              generalize hrw : ((r.drop (j + 1)).take k).map (Value.int .i64) = rows7 at *
              have hyw7 : IntKind.i64.wrap y7 = y7 := IntWalk.i64_in _ (by omega)
              have hcr7 : ∀ W, BelowX B2 a w7 W → W.cell? ⟨b0, o + i7, none⟩ = some (.int .u8 y7) := fun W hW => keepC (hbw7.trans ((hW.below (by omega)).mono (by omega))) hcell
              have HT := Lib.hid (And.intro ht hrw)
              have hkr : k < r.length := by omega
              have HIJ := Lib.hid (And.intro hij hll)
              clear ht hrw hcell e1 hij hll
              go_wp2_with fail
              refine wp_region_resG (by kernel_rfl) (reG B2 a f2 1 A6 C6 k rows7 w7) (reR B2 a 1 f2 A6 C6 k b0 o (r.length + 1) C i7 y7 rows7) dcF (by decide) (by decide) ⟨BelowX.of (bDrew (Below.refl _ _) |>.mono hs7), haB2, hs7, fun _ => ha7, fun _ => hown7⟩ ?hst ?hend
              case hst =>
                clear ha7 hown7
                iterate 11 (with_reducible refine resStepsG_cons ?_ ?_; rotate_left)
                · exact resStepsG_nil
                · intro D u W hG hDi hw hd K hK
                  have HK := Lib.hid hK
                  clear hK hd
                  refine ⟨?_⟩
                  simp only [slotsOf_some, slotsOf_none, slotsOf_nil, puts_cons, puts_nil, Nat.zero_add, Nat.reduceAdd]
                  go_simp
                  exact HK.out _ _ _ (by simp [slotsOf_some, slotsOf_none, slotsOf_nil, puts_cons, puts_nil, Act.put, -Function.const_apply]) (reG_below 0 hG (Below.refl _ _)) updV_self (fun m hm _ _ _ h => reR_upd m 0 u _ hm h)
                · intro D u W hG hDi hw hd K hK
                  have r0 : u 0 = .pointer (some ⟨a, 1, none⟩) := hd 0 (by decide) (.inl rfl)
                  have hc := s2_cell (hG.2.2.2.1 (hw 10 (by decide))) 1 (by decide)
                  rw [updV_self] at hc
                  have HK := Lib.hid hK
                  clear hK hd
                  refine ⟨?_⟩
                  simp only [slotsOf_some, slotsOf_none, slotsOf_nil, puts_cons, puts_nil, Nat.zero_add, Nat.reduceAdd]
                  go_simp
                  exact HK.out _ _ _ (by simp [slotsOf_some, slotsOf_none, slotsOf_nil, puts_cons, puts_nil, Act.put, r0]) (reG_below 1 hG (Below.refl _ _)) updV_self (fun m hm _ _ _ h => reR_upd m 1 u _ hm h)
                · intro D u W hG hDi hw hd K hK
                  have HK := Lib.hid hK
                  clear hK hd
                  refine ⟨?_⟩
                  simp only [slotsOf_some, slotsOf_none, slotsOf_nil, puts_cons, puts_nil, Nat.zero_add, Nat.reduceAdd]
                  go_simp
                  exact HK.out _ _ _ (by simp [slotsOf_some, slotsOf_none, slotsOf_nil, puts_cons, puts_nil, Act.put, -Function.const_apply]) (reG_below 2 hG (Below.refl _ _)) updV_self (fun m hm _ _ _ h => reR_upd m 2 u _ hm h)
                · intro D u W hG hDi hw hd K hK
                  have HK := Lib.hid hK
                  clear hK hd
                  refine ⟨?_⟩
                  simp only [slotsOf_some, slotsOf_none, slotsOf_nil, puts_cons, puts_nil, Nat.zero_add, Nat.reduceAdd]
                  go_simp
                  exact HK.out _ _ _ (by simp [slotsOf_some, slotsOf_none, slotsOf_nil, puts_cons, puts_nil, Act.put, -Function.const_apply]) (reG_below 3 hG (Below.refl _ _)) updV_self (fun m hm _ _ _ h => reR_upd m 3 u _ hm h)
                · intro D u W hG hDi hw hd K hK
                  have r2 : u 2 = .slice (some ⟨b0, o, none⟩) (r.length + 1) C := hd 2 (by decide) (.inl rfl)
                  have r3 : u 3 = .int .i64 (i7 : Nat) := hd 3 (by decide) (.inl rfl)
                  have HK := Lib.hid hK
                  clear hK hd
                  refine ⟨?_⟩
                  simp only [slotsOf_some, slotsOf_none, slotsOf_nil, puts_cons, puts_nil, Nat.zero_add, Nat.reduceAdd]
                  go_simp
                  exact HK.out _ _ _ (by simp [slotsOf_some, slotsOf_none, slotsOf_nil, puts_cons, puts_nil, Act.put, r2, r3]) (reG_below 4 hG (Below.refl _ _)) updV_self (fun m hm _ _ _ h => reR_upd m 4 u _ hm h)
                · intro D u W hG hDi hw hd K hK
                  have r4 : u 4 = .pointer (some ⟨b0, o + i7, none⟩) := hd 4 (by decide) (.inl rfl)
                  have hc := hcr7 W hG.1
                  have HK := Lib.hid hK
                  clear hK hd
                  refine ⟨?_⟩
                  simp only [slotsOf_some, slotsOf_none, slotsOf_nil, puts_cons, puts_nil, Nat.zero_add, Nat.reduceAdd]
                  go_simp
                  exact HK.out _ _ _ (by simp [slotsOf_some, slotsOf_none, slotsOf_nil, puts_cons, puts_nil, Act.put, r4]) (reG_below 5 hG (Below.refl _ _)) updV_self (fun m hm _ _ _ h => reR_upd m 5 u _ hm h)
                · intro D u W hG hDi hw hd K hK
                  have r5 : u 5 = .int .u8 y7 := hd 5 (by decide) (.inl rfl)
                  have HK := Lib.hid hK
                  clear hK hd
                  refine ⟨?_⟩
                  simp only [slotsOf_some, slotsOf_none, slotsOf_nil, puts_cons, puts_nil, Nat.zero_add, Nat.reduceAdd]
                  go_simp
                  exact HK.out _ _ _ (by simp [slotsOf_some, slotsOf_none, slotsOf_nil, puts_cons, puts_nil, Act.put, r5, hyw7]) (reG_below 6 hG (Below.refl _ _)) updV_self (fun m hm _ _ _ h => reR_upd m 6 u _ hm h)
                · intro D u W hG hDi hw hd K hK
                  have r6 : u 6 = .int .i64 y7 := hd 6 (by decide) (.inl rfl)
                  have HK := Lib.hid hK
                  clear hK hd
                  refine ⟨?_⟩
                  simp only [slotsOf_some, slotsOf_none, slotsOf_nil, puts_cons, puts_nil, Nat.zero_add, Nat.reduceAdd]
                  go_simp
                  exact HK.out (.slice (some ⟨W.heap.size, 0, none⟩) 1 1) _ _ (by simp [slotsOf_some, slotsOf_none, slotsOf_nil, puts_cons, puts_nil, Act.put, r6]) (reG_below 7 hG (bAlloc (Below.refl _ _) _)) ⟨W.heap.size, updV_self, heap_alloc_new W _⟩ (fun m hm _ _ _ h => reR_below m _ (bAlloc (Below.refl _ _) _) (reR_upd m 7 u _ hm h))
                · intro D u W hG hDi hw hd K hK
                  have r1 : u 1 = .slice A6 k C6 := hd 1 (by decide) (.inl rfl)
                  obtain ⟨q, r7, hq⟩ : ∃ q, u 7 = .slice (some ⟨q, 0, none⟩) 1 1 ∧ W.heap[q]? = some (.cells #[.int .i64 y7] 3 (0, 0)) := hd 7 (by decide) (.inr rfl)
                  have hown7 := hG.2.2.2.2 hDi
                  clear hd
                  refine ⟨?_⟩
                  simp only [slotsOf_some, slotsOf_none, slotsOf_nil, puts_cons, puts_nil, Nat.zero_add, Nat.reduceAdd]
                  refine step_app elInt B2 rfl (.tmp 51) (.tmp 57) rfl (.slice A6 k C6) k rows7 (by simp [Act.eval, Act.put, r1]) hown7 (some ⟨q, 0, none⟩) 1 1 [.int .i64 y7] (by simp [Act.eval, Act.put, r7]) rfl (.inr ⟨q, 0, rfl, fun i7 hi => by have : i7 = 0 := (by simpa using hi); subst this; rw [cell_at hq]; rfl⟩) (by simp [Value.oneCell']) (by omega) hG.2.2.1 ?_
                  intro A' C' w' hown7' hgrow hb'
                  refine hK _ _ _ (by simp [slotsOf_some, slotsOf_none, slotsOf_nil, puts_cons, puts_nil, Act.put, -Function.const_apply]) (reG_app hG hb') ⟨A', C', updV_self, hown7'⟩ (fun m hm hf hwm hmm hr => ?_)
                  rcases m with _|_|_|_|_|_|_|_|_|_|_|m
                  all_goals first | exact absurd rfl hm | exact absurd rfl hf | exact absurd hwm (by decide) | (exact reR_upd _ 8 u _ hm hr)
                · intro D u W hG hDi hw hd K hK
                  have HK := Lib.hid hK
                  clear hK hd
                  refine ⟨?_⟩
                  simp only [slotsOf_some, slotsOf_none, slotsOf_nil, puts_cons, puts_nil, Nat.zero_add, Nat.reduceAdd]
                  go_simp
                  exact HK.out _ _ _ (by simp [slotsOf_some, slotsOf_none, slotsOf_nil, puts_cons, puts_nil, Act.put, -Function.const_apply]) (reG_below 9 hG (Below.refl _ _)) updV_self (fun m hm _ _ _ h => reR_upd m 9 u _ hm h)
                · intro D u W hG hDi hw hd K hK
                  have r9 : u 9 = .pointer (some ⟨a, 1, none⟩) := hd 9 (by decide) (.inl rfl)
                  obtain ⟨A', C', r8, hown7'⟩ : ∃ A' C', u 8 = .slice A' (k + 1) C' ∧ W.ownsRow B2 3 1 (.slice A' (k + 1) C') (k + 1) (rows7 ++ [Value.int .i64 y7]) := hd 8 (by decide) (.inl rfl)
                  have hx := hG.2.2.2.1 hDi
                  have t0 := s2_cell hx 1 (by decide)
                  rw [updV_self] at t0
                  have tf := frozen_at hx 1
                  have HX := Lib.hid hx
                  clear hx
                  have HK := Lib.hid hK
                  clear hK hd
                  refine ⟨?_⟩
                  simp only [slotsOf_some, slotsOf_none, slotsOf_nil, puts_cons, puts_nil, Nat.zero_add, Nat.reduceAdd]
                  go_simp
                  have hx := HX.out
                  refine HK.out undef _ _ (by simp [slotsOf_some, slotsOf_none, slotsOf_nil, puts_cons, puts_nil, Act.put, r8, r9]) (reG_set hG _ _) ⟨A', C', by rw [setCell_at hx, s2_set _ 1 (by decide), updV_upd], ownsRow_setCell_below hown7' haB2 _⟩ (fun m hm hf hwm hmm hr => ?_)
                  have hr := reR_upd m 10 u undef hm hr
                  rcases m with _|_|_|_|_|_|_|_|_|_|_|m
                  all_goals first | exact hr | exact absurd rfl hm | (obtain ⟨A2, C2, h1, h2⟩ := hr; exact ⟨A2, C2, h1, ownsRow_setCell_below h2 haB2 _⟩) | exact absurd (hmm _ rfl) (by decide)
              case hend =>
                clear ha7 hown7
                intro D u W hall hG hR'
                obtain ⟨A', C', hx, hown7'⟩ : ∃ A' C', W.heap[a]? = some (.cells (s2 (updV f2 1 (.slice A' (k + 1) C'))) 39 (0, 0)) ∧ W.ownsRow B2 3 1 (.slice A' (k + 1) C') (k + 1) (rows7 ++ [Value.int .i64 y7]) := hR' 10 (by decide) rfl
                have hbW := hb7.trans hG.1
                have hBW := hG.2.2.1
                clear hR' hG
                simp only [slotsOf_some, slotsOf_none, slotsOf_nil, puts_cons, puts_nil, Nat.zero_add, Nat.reduceAdd]
                simp [Act.put]
                go_wp2
                go_light
                have hij := HIJ.out.1
                have hll := HIJ.out.2
                rw [← HT.out.2] at hown7'
                exact ⟨⟨k + 1, i7 + 1, A', C', by omega, by omega, by go_num, hbW, hBW, hx, by rw [HT.out.1]; simpa using hown7'⟩, by simp [intOf]; omega⟩
            · have ek : k = (r.drop (j + 1)).length := by omega
              subst ek
              rw [List.take_of_length_le (Nat.le_refl _)] at hown7
              have hir : ¬ ((i7 : Int) < (r.length : Int) + 1) := by omega
              have hi1 : Ints w7 .i64 A6 (r.drop (j + 1)) := Row.of_own hown7
              have hi0' := hi0.belX hb7 (fun x hx => by have := hA5 x hx; omega) (by omega)
              have hr2' : w7.heap[w.heap.size]? = some (.cells #[.slice none 0 0, .slice none 0 0] 39 (0, 0)) := by
                rw [hb7.block _ (by omega) (by omega), hb5.block _ (by omega) (by omega)]; exact hr2
              have hz1 : j < r.length := hnr
              have hcell := HC.out (j + 1) (by simp; omega)
              have e1 : ((j : Int) :: r).getD (j + 1) 0 = r[j] := by simp [List.getD, hz1]
              rw [e1] at hcell
              have hy := hby r[j] (List.mem_cons_of_mem _ (List.getElem_mem hz1))
              have hno := fun z hz => enc_no (z := z) hz1 hz
              have hyes := fun z hz => enc_of (z := z) hz1 hz
              generalize hzz : r[j] = z at *
              have hzw : IntKind.i64.wrap z = z := IntWalk.i64_in _ (by omega)
              obtain ⟨i2, hi2⟩ : ∃ i2 : Nat, i2 = j + 1 := ⟨_, rfl⟩
              have hi2' : (j : Int) + 1 = (i2 : Int) := by omega
              have hi2l : (i2 : Int) < (r.length : Int) + 1 := by omega
              have hi2w : IntKind.i64.wrap (i2 : Int) = (i2 : Int) := IntWalk.i64_in _ (by omega)
              rw [← hi2] at hcell
              have qz := keepC hbw7 hcell
              have d0 := s2_cell ha7 0 (by decide)
              have d1 := s2_cell ha7 1 (by decide)
              rw [updV_self] at d1
              rw [updV_ne (by decide), hf2, updV_self] at d0
              have ep : (r.take j).length = j := by rw [List.length_take]; omega
              have hNO := Lib.hid (hno z rfl)
              have hYES := Lib.hid (hyes z rfl)
              generalize hp : r.take j = p at *
              generalize hq : r.drop (j + 1) = q at *
              have hplen : p.length < 2 ^ 60 := by omega
              have hqlen : q.length < 2 ^ 60 := by omega
              have RC := fun W h1 h2 => rCheck_calls p q A5 A6 C5 C6 W h1 hplen h2 hqlen
              rw [ep] at RC
              clear hll hown7 hi0 hr2 hno hyes hcell e1 hb5 hb7 hs5 ha7 hzz hi2 hp hq hf2 hf HC hby h hb0
              have hz9 : w.heap.size < w7.heap.size := by omega
              go_wp2_with fail
              by_cases hzm : z = (q.length : Int)
              · have hzb : (z != (q.length : Int)) = false := by simpa using hzm
                have HZ := Lib.hid hzm
                clear hzm
                cases hk : checkB p q with
                | true =>
                  rw [show checkE p q = 0 by simp [checkE, hk]] at RC
                  have HKC := Lib.hid hk
                  clear hk
                  refine wp_region_res (by kernel_rfl) (fun W => Below w7.heap.size w7 W) (rdB1 b0 o (r.length + 1) C j i2 a q.length A5 A6 C5 C6 z) (fun _ => none) (by decide) (by decide) ((bDrew (Below.refl _ _))) ?hst ?hend
                  case hst =>
                    iterate 15 (with_reducible refine resSteps_cons ?_ ?_; rotate_left)
                    · exact resSteps_nil
                    · intro u W hG hd K hK
                      have HK := Lib.hid hK
                      clear hK hd
                      refine ⟨?_⟩
                      simp only [slotsOf_some, slotsOf_none, slotsOf_nil, puts_cons, puts_nil, Nat.zero_add, Nat.reduceAdd]
                      go_simp
                      exact HK.out _ _ _ (by simp [slotsOf_some, slotsOf_none, slotsOf_nil, puts_cons, puts_nil, Act.put, -Function.const_apply]) hG rfl (fun j _ _ _ _ h => h)
                    · intro u W hG hd K hK
                      have HK := Lib.hid hK
                      clear hK hd
                      refine ⟨?_⟩
                      simp only [slotsOf_some, slotsOf_none, slotsOf_nil, puts_cons, puts_nil, Nat.zero_add, Nat.reduceAdd]
                      go_simp
                      exact HK.out _ _ _ (by simp [slotsOf_some, slotsOf_none, slotsOf_nil, puts_cons, puts_nil, Act.put, -Function.const_apply]) hG rfl (fun j _ _ _ _ h => h)
                    · intro u W hG hd K hK
                      have r1 : u 1 = .int .i64 (j : Nat) := hd 1 (by decide) (.inl rfl)
                      have HK := Lib.hid hK
                      clear hK hd
                      refine ⟨?_⟩
                      simp only [slotsOf_some, slotsOf_none, slotsOf_nil, puts_cons, puts_nil, Nat.zero_add, Nat.reduceAdd]
                      go_simp
                      exact HK.out _ _ _ (by simp [slotsOf_some, slotsOf_none, slotsOf_nil, puts_cons, puts_nil, Act.put, r1, hi2', hi2w]) hG rfl (fun j _ _ _ _ h => h)
                    · intro u W hG hd K hK
                      have r0 : u 0 = .slice (some ⟨b0, o, none⟩) (r.length + 1) C := hd 0 (by decide) (.inl rfl)
                      have r2 : u 2 = .int .i64 (i2 : Nat) := hd 2 (by decide) (.inl rfl)
                      have HK := Lib.hid hK
                      clear hK hd
                      refine ⟨?_⟩
                      simp only [slotsOf_some, slotsOf_none, slotsOf_nil, puts_cons, puts_nil, Nat.zero_add, Nat.reduceAdd]
                      go_simp
                      exact HK.out _ _ _ (by simp [slotsOf_some, slotsOf_none, slotsOf_nil, puts_cons, puts_nil, Act.put, r0, r2]) hG rfl (fun j _ _ _ _ h => h)
                    · intro u W hG hd K hK
                      have r3 : u 3 = .pointer (some ⟨b0, o + i2, none⟩) := hd 3 (by decide) (.inl rfl)
                      have hc := keepC hG qz
                      have HK := Lib.hid hK
                      clear hK hd
                      refine ⟨?_⟩
                      simp only [slotsOf_some, slotsOf_none, slotsOf_nil, puts_cons, puts_nil, Nat.zero_add, Nat.reduceAdd]
                      go_simp
                      exact HK.out _ _ _ (by simp [slotsOf_some, slotsOf_none, slotsOf_nil, puts_cons, puts_nil, Act.put, r3]) hG rfl (fun j _ _ _ _ h => h)
                    · intro u W hG hd K hK
                      have r4 : u 4 = .int .u8 z := hd 4 (by decide) (.inl rfl)
                      have HK := Lib.hid hK
                      clear hK hd
                      refine ⟨?_⟩
                      simp only [slotsOf_some, slotsOf_none, slotsOf_nil, puts_cons, puts_nil, Nat.zero_add, Nat.reduceAdd]
                      go_simp
                      exact HK.out _ _ _ (by simp [slotsOf_some, slotsOf_none, slotsOf_nil, puts_cons, puts_nil, Act.put, r4, hzw]) hG rfl (fun j _ _ _ _ h => h)
                    · intro u W hG hd K hK
                      have HK := Lib.hid hK
                      clear hK hd
                      refine ⟨?_⟩
                      simp only [slotsOf_some, slotsOf_none, slotsOf_nil, puts_cons, puts_nil, Nat.zero_add, Nat.reduceAdd]
                      go_simp
                      exact HK.out _ _ _ (by simp [slotsOf_some, slotsOf_none, slotsOf_nil, puts_cons, puts_nil, Act.put, -Function.const_apply]) hG rfl (fun j _ _ _ _ h => h)
                    · intro u W hG hd K hK
                      have r6 : u 6 = .pointer (some ⟨a, 1, none⟩) := hd 6 (by decide) (.inl rfl)
                      have hc := keepC hG d1
                      have HK := Lib.hid hK
                      clear hK hd
                      refine ⟨?_⟩
                      simp only [slotsOf_some, slotsOf_none, slotsOf_nil, puts_cons, puts_nil, Nat.zero_add, Nat.reduceAdd]
                      go_simp
                      exact HK.out _ _ _ (by simp [slotsOf_some, slotsOf_none, slotsOf_nil, puts_cons, puts_nil, Act.put, r6]) hG rfl (fun j _ _ _ _ h => h)
                    · intro u W hG hd K hK
                      have r7 : u 7 = .slice A6 q.length C6 := hd 7 (by decide) (.inl rfl)
                      have HK := Lib.hid hK
                      clear hK hd
                      refine ⟨?_⟩
                      simp only [slotsOf_some, slotsOf_none, slotsOf_nil, puts_cons, puts_nil, Nat.zero_add, Nat.reduceAdd]
                      go_simp
                      exact HK.out _ _ _ (by simp [slotsOf_some, slotsOf_none, slotsOf_nil, puts_cons, puts_nil, Act.put, r7]) hG rfl (fun j _ _ _ _ h => h)
                    · intro u W hG hd K hK
                      have r5 : u 5 = .int .i64 z := hd 5 (by decide) (.inl rfl)
                      have r8 : u 8 = .int .i64 (q.length : Nat) := hd 8 (by decide) (.inl rfl)
                      have HK := Lib.hid hK
                      clear hK hd
                      refine ⟨?_⟩
                      simp only [slotsOf_some, slotsOf_none, slotsOf_nil, puts_cons, puts_nil, Nat.zero_add, Nat.reduceAdd]
                      go_simp
                      exact HK.out _ _ _ (by simp [slotsOf_some, slotsOf_none, slotsOf_nil, puts_cons, puts_nil, Act.put, r5, r8, hzb]) hG rfl (fun j _ _ _ _ h => h)
                    · intro u W hG hd K hK
                      have r9 : u 9 = .bool false := hd 9 (by decide) (.inl rfl)
                      have HK := Lib.hid hK
                      clear hK hd
                      refine ⟨?_⟩
                      simp only [slotsOf_some, slotsOf_none, slotsOf_nil, puts_cons, puts_nil, Nat.zero_add, Nat.reduceAdd]
                      go_simp
                      exact HK.out _ _ _ (by simp [slotsOf_some, slotsOf_none, slotsOf_nil, puts_cons, puts_nil, Act.put, r9]) hG rfl (fun j _ _ _ _ h => h)
                    · intro u W hG hd K hK
                      have r10 : u 10 = .bool false := hd 10 (by decide) (.inl rfl)
                      have hc := keepC hG d0
                      have hc2 := keepC hG d1
                      have HK := Lib.hid hK
                      clear hK hd
                      refine ⟨?_⟩
                      simp only [slotsOf_some, slotsOf_none, slotsOf_nil, puts_cons, puts_nil, Nat.zero_add, Nat.reduceAdd]
                      go_simp
                      exact HK.out _ _ _ (by simp [slotsOf_some, slotsOf_none, slotsOf_nil, puts_cons, puts_nil, Act.put, r10]) hG rfl (fun j _ _ _ _ h => h)
                    · intro u W hG hd K hK
                      have r10 : u 10 = .bool false := hd 10 (by decide) (.inl rfl)
                      have r11 : u 11 = .agg #[.slice A5 j C5, .slice A6 q.length C6] := hd 11 (by decide) (.inl rfl)
                      have HK := Lib.hid hK
                      clear hK hd
                      refine ⟨?_⟩
                      simp only [slotsOf_some, slotsOf_none, slotsOf_nil, puts_cons, puts_nil, Nat.zero_add, Nat.reduceAdd]
                      go_simp
                      refine (RC W (hi0'.below hG) (hi1.below hG)).mono ?_
                      rintro e w' ⟨rfl, hb'⟩
                      exact HK.out _ _ _ (by simp [slotsOf_some, slotsOf_none, slotsOf_nil, puts_cons, puts_nil, Act.put, r10, r11]) (bTrans hG hb') rfl (fun j _ _ _ _ h => rdB1_pure j _ h)
                    · intro u W hG hd K hK
                      have r10 : u 10 = .bool false := hd 10 (by decide) (.inl rfl)
                      have r12 : u 12 = .int .i64 0 := hd 12 (by decide) (.inl rfl)
                      have HK := Lib.hid hK
                      clear hK hd
                      refine ⟨?_⟩
                      simp only [slotsOf_some, slotsOf_none, slotsOf_nil, puts_cons, puts_nil, Nat.zero_add, Nat.reduceAdd]
                      go_simp
                      exact HK.out _ _ _ (by simp [slotsOf_some, slotsOf_none, slotsOf_nil, puts_cons, puts_nil, Act.put, r10, r12]) hG rfl (fun j _ _ _ _ h => h)
                    · intro u W hG hd K hK
                      have r10 : u 10 = .bool false := hd 10 (by decide) (.inl rfl)
                      have r13 : u 13 = .bool false := hd 13 (by decide) (.inl rfl)
                      have HK := Lib.hid hK
                      clear hK hd
                      refine ⟨?_⟩
                      simp only [slotsOf_some, slotsOf_none, slotsOf_nil, puts_cons, puts_nil, Nat.zero_add, Nat.reduceAdd]
                      go_simp
                      exact HK.out _ _ _ (by simp [slotsOf_some, slotsOf_none, slotsOf_nil, puts_cons, puts_nil, Act.put, r10, r13]) hG rfl (fun j _ _ _ _ h => h)
                  case hend =>
                    intro u W hG hR
                    have r14 : u 14 = .bool false := hR 14 (by decide) rfl
                    clear hR
                    have hr2 := keepH hG hr2'
                    have hc0 := keepC hG d0
                    have hc1 := keepC hG d1
                    replace hi0' := hi0'.below hG
                    replace hi1 := hi1.below hG
                    have hbW := bTrans hbw7 hG
                    have z0 : W.cell? ⟨w.heap.size, 0, none⟩ = some (.slice none 0 0) := by rw [cell_at hr2]; rfl
                    have z1 : W.cell? ⟨w.heap.size, 1, none⟩ = some (.slice none 0 0) := by rw [cell_at hr2]; rfl
                    have zf := fun o => frozen_at hr2 o
                    clear RC qz d0 d1 hG hbw7
                    simp only [slotsOf_some, slotsOf_none, slotsOf_nil, puts_cons, puts_nil, Nat.zero_add, Nat.reduceAdd]
                    simp [Act.put, r14]
                    go_wp2
                    refine bodyPost_ret (v := .tuple #[.agg #[.slice A5 j C5, .slice A6 q.length C6], .int .i64 0]) ?_ rfl ?_
                    · simp [results, Try.results34, go_sem, z0, z1, zf]
                    · have hs := set_conf_at hr2 0 (.slice A5 j C5)
                      exact ⟨p, q, A5, A6, C5, C6, 0, by rw [ep], (hi0'.set_c hr2 0 _).set_c hs 1 _, (hi1.set_c hr2 0 _).set_c hs 1 _, Below.setCell (Below.setCell hbW (by simp) _) (by simp) _, .inl ⟨rfl, HKC.out, hYES.out HZ.out⟩⟩
                | false =>
                  rw [show checkE p q = 140 by simp [checkE, hk]] at RC
                  have HKC := Lib.hid hk
                  clear hk
                  refine wp_region_res (by kernel_rfl) (fun W => Below w7.heap.size w7 W) (rdB2 b0 o (r.length + 1) C j i2 a q.length A5 A6 C5 C6 z) (fun _ => none) (by decide) (by decide) ((bDrew (Below.refl _ _))) ?hst ?hend
                  case hst =>
                    iterate 15 (with_reducible refine resSteps_cons ?_ ?_; rotate_left)
                    · exact resSteps_nil
                    · intro u W hG hd K hK
                      have HK := Lib.hid hK
                      clear hK hd
                      refine ⟨?_⟩
                      simp only [slotsOf_some, slotsOf_none, slotsOf_nil, puts_cons, puts_nil, Nat.zero_add, Nat.reduceAdd]
                      go_simp
                      exact HK.out _ _ _ (by simp [slotsOf_some, slotsOf_none, slotsOf_nil, puts_cons, puts_nil, Act.put, -Function.const_apply]) hG rfl (fun j _ _ _ _ h => h)
                    · intro u W hG hd K hK
                      have HK := Lib.hid hK
                      clear hK hd
                      refine ⟨?_⟩
                      simp only [slotsOf_some, slotsOf_none, slotsOf_nil, puts_cons, puts_nil, Nat.zero_add, Nat.reduceAdd]
                      go_simp
                      exact HK.out _ _ _ (by simp [slotsOf_some, slotsOf_none, slotsOf_nil, puts_cons, puts_nil, Act.put, -Function.const_apply]) hG rfl (fun j _ _ _ _ h => h)
                    · intro u W hG hd K hK
                      have r1 : u 1 = .int .i64 (j : Nat) := hd 1 (by decide) (.inl rfl)
                      have HK := Lib.hid hK
                      clear hK hd
                      refine ⟨?_⟩
                      simp only [slotsOf_some, slotsOf_none, slotsOf_nil, puts_cons, puts_nil, Nat.zero_add, Nat.reduceAdd]
                      go_simp
                      exact HK.out _ _ _ (by simp [slotsOf_some, slotsOf_none, slotsOf_nil, puts_cons, puts_nil, Act.put, r1, hi2', hi2w]) hG rfl (fun j _ _ _ _ h => h)
                    · intro u W hG hd K hK
                      have r0 : u 0 = .slice (some ⟨b0, o, none⟩) (r.length + 1) C := hd 0 (by decide) (.inl rfl)
                      have r2 : u 2 = .int .i64 (i2 : Nat) := hd 2 (by decide) (.inl rfl)
                      have HK := Lib.hid hK
                      clear hK hd
                      refine ⟨?_⟩
                      simp only [slotsOf_some, slotsOf_none, slotsOf_nil, puts_cons, puts_nil, Nat.zero_add, Nat.reduceAdd]
                      go_simp
                      exact HK.out _ _ _ (by simp [slotsOf_some, slotsOf_none, slotsOf_nil, puts_cons, puts_nil, Act.put, r0, r2]) hG rfl (fun j _ _ _ _ h => h)
                    · intro u W hG hd K hK
                      have r3 : u 3 = .pointer (some ⟨b0, o + i2, none⟩) := hd 3 (by decide) (.inl rfl)
                      have hc := keepC hG qz
                      have HK := Lib.hid hK
                      clear hK hd
                      refine ⟨?_⟩
                      simp only [slotsOf_some, slotsOf_none, slotsOf_nil, puts_cons, puts_nil, Nat.zero_add, Nat.reduceAdd]
                      go_simp
                      exact HK.out _ _ _ (by simp [slotsOf_some, slotsOf_none, slotsOf_nil, puts_cons, puts_nil, Act.put, r3]) hG rfl (fun j _ _ _ _ h => h)
                    · intro u W hG hd K hK
                      have r4 : u 4 = .int .u8 z := hd 4 (by decide) (.inl rfl)
                      have HK := Lib.hid hK
                      clear hK hd
                      refine ⟨?_⟩
                      simp only [slotsOf_some, slotsOf_none, slotsOf_nil, puts_cons, puts_nil, Nat.zero_add, Nat.reduceAdd]
                      go_simp
                      exact HK.out _ _ _ (by simp [slotsOf_some, slotsOf_none, slotsOf_nil, puts_cons, puts_nil, Act.put, r4, hzw]) hG rfl (fun j _ _ _ _ h => h)
                    · intro u W hG hd K hK
                      have HK := Lib.hid hK
                      clear hK hd
                      refine ⟨?_⟩
                      simp only [slotsOf_some, slotsOf_none, slotsOf_nil, puts_cons, puts_nil, Nat.zero_add, Nat.reduceAdd]
                      go_simp
                      exact HK.out _ _ _ (by simp [slotsOf_some, slotsOf_none, slotsOf_nil, puts_cons, puts_nil, Act.put, -Function.const_apply]) hG rfl (fun j _ _ _ _ h => h)
                    · intro u W hG hd K hK
                      have r6 : u 6 = .pointer (some ⟨a, 1, none⟩) := hd 6 (by decide) (.inl rfl)
                      have hc := keepC hG d1
                      have HK := Lib.hid hK
                      clear hK hd
                      refine ⟨?_⟩
                      simp only [slotsOf_some, slotsOf_none, slotsOf_nil, puts_cons, puts_nil, Nat.zero_add, Nat.reduceAdd]
                      go_simp
                      exact HK.out _ _ _ (by simp [slotsOf_some, slotsOf_none, slotsOf_nil, puts_cons, puts_nil, Act.put, r6]) hG rfl (fun j _ _ _ _ h => h)
                    · intro u W hG hd K hK
                      have r7 : u 7 = .slice A6 q.length C6 := hd 7 (by decide) (.inl rfl)
                      have HK := Lib.hid hK
                      clear hK hd
                      refine ⟨?_⟩
                      simp only [slotsOf_some, slotsOf_none, slotsOf_nil, puts_cons, puts_nil, Nat.zero_add, Nat.reduceAdd]
                      go_simp
                      exact HK.out _ _ _ (by simp [slotsOf_some, slotsOf_none, slotsOf_nil, puts_cons, puts_nil, Act.put, r7]) hG rfl (fun j _ _ _ _ h => h)
                    · intro u W hG hd K hK
                      have r5 : u 5 = .int .i64 z := hd 5 (by decide) (.inl rfl)
                      have r8 : u 8 = .int .i64 (q.length : Nat) := hd 8 (by decide) (.inl rfl)
                      have HK := Lib.hid hK
                      clear hK hd
                      refine ⟨?_⟩
                      simp only [slotsOf_some, slotsOf_none, slotsOf_nil, puts_cons, puts_nil, Nat.zero_add, Nat.reduceAdd]
                      go_simp
                      exact HK.out _ _ _ (by simp [slotsOf_some, slotsOf_none, slotsOf_nil, puts_cons, puts_nil, Act.put, r5, r8, hzb]) hG rfl (fun j _ _ _ _ h => h)
                    · intro u W hG hd K hK
                      have r9 : u 9 = .bool false := hd 9 (by decide) (.inl rfl)
                      have HK := Lib.hid hK
                      clear hK hd
                      refine ⟨?_⟩
                      simp only [slotsOf_some, slotsOf_none, slotsOf_nil, puts_cons, puts_nil, Nat.zero_add, Nat.reduceAdd]
                      go_simp
                      exact HK.out _ _ _ (by simp [slotsOf_some, slotsOf_none, slotsOf_nil, puts_cons, puts_nil, Act.put, r9]) hG rfl (fun j _ _ _ _ h => h)
                    · intro u W hG hd K hK
                      have r10 : u 10 = .bool false := hd 10 (by decide) (.inl rfl)
                      have hc := keepC hG d0
                      have hc2 := keepC hG d1
                      have HK := Lib.hid hK
                      clear hK hd
                      refine ⟨?_⟩
                      simp only [slotsOf_some, slotsOf_none, slotsOf_nil, puts_cons, puts_nil, Nat.zero_add, Nat.reduceAdd]
                      go_simp
                      exact HK.out _ _ _ (by simp [slotsOf_some, slotsOf_none, slotsOf_nil, puts_cons, puts_nil, Act.put, r10]) hG rfl (fun j _ _ _ _ h => h)
                    · intro u W hG hd K hK
                      have r10 : u 10 = .bool false := hd 10 (by decide) (.inl rfl)
                      have r11 : u 11 = .agg #[.slice A5 j C5, .slice A6 q.length C6] := hd 11 (by decide) (.inl rfl)
                      have HK := Lib.hid hK
                      clear hK hd
                      refine ⟨?_⟩
                      simp only [slotsOf_some, slotsOf_none, slotsOf_nil, puts_cons, puts_nil, Nat.zero_add, Nat.reduceAdd]
                      go_simp
                      refine (RC W (hi0'.below hG) (hi1.below hG)).mono ?_
                      rintro e w' ⟨rfl, hb'⟩
                      exact HK.out _ _ _ (by simp [slotsOf_some, slotsOf_none, slotsOf_nil, puts_cons, puts_nil, Act.put, r10, r11]) (bTrans hG hb') rfl (fun j _ _ _ _ h => rdB2_pure j _ h)
                    · intro u W hG hd K hK
                      have r10 : u 10 = .bool false := hd 10 (by decide) (.inl rfl)
                      have r12 : u 12 = .int .i64 140 := hd 12 (by decide) (.inl rfl)
                      have HK := Lib.hid hK
                      clear hK hd
                      refine ⟨?_⟩
                      simp only [slotsOf_some, slotsOf_none, slotsOf_nil, puts_cons, puts_nil, Nat.zero_add, Nat.reduceAdd]
                      go_simp
                      exact HK.out _ _ _ (by simp [slotsOf_some, slotsOf_none, slotsOf_nil, puts_cons, puts_nil, Act.put, r10, r12]) hG rfl (fun j _ _ _ _ h => h)
                    · intro u W hG hd K hK
                      have r10 : u 10 = .bool false := hd 10 (by decide) (.inl rfl)
                      have r13 : u 13 = .bool true := hd 13 (by decide) (.inl rfl)
                      have HK := Lib.hid hK
                      clear hK hd
                      refine ⟨?_⟩
                      simp only [slotsOf_some, slotsOf_none, slotsOf_nil, puts_cons, puts_nil, Nat.zero_add, Nat.reduceAdd]
                      go_simp
                      exact HK.out _ _ _ (by simp [slotsOf_some, slotsOf_none, slotsOf_nil, puts_cons, puts_nil, Act.put, r10, r13]) hG rfl (fun j _ _ _ _ h => h)
                  case hend =>
                    intro u W hG hR
                    have r14 : u 14 = .bool true := hR 14 (by decide) rfl
                    clear hR
                    have hr2 := keepH hG hr2'
                    have hc0 := keepC hG d0
                    have hc1 := keepC hG d1
                    replace hi0' := hi0'.below hG
                    replace hi1 := hi1.below hG
                    have hbW := bTrans hbw7 hG
                    have z0 : W.cell? ⟨w.heap.size, 0, none⟩ = some (.slice none 0 0) := by rw [cell_at hr2]; rfl
                    have z1 : W.cell? ⟨w.heap.size, 1, none⟩ = some (.slice none 0 0) := by rw [cell_at hr2]; rfl
                    have zf := fun o => frozen_at hr2 o
                    clear RC qz d0 d1 hG hbw7
                    simp only [slotsOf_some, slotsOf_none, slotsOf_nil, puts_cons, puts_nil, Nat.zero_add, Nat.reduceAdd]
                    simp [Act.put, r14]
                    go_wp2
                    refine bodyPost_ret (v := .tuple #[.agg #[.slice none 0 0, .slice none 0 0], .int .i64 140]) ?_ rfl ?_
                    · simp [results, Try.results34, go_sem, z0, z1, zf]
                    · exact ⟨[], [], none, none, 0, 0, 140, rfl, Ints.nil _ _ _, Ints.nil _ _ _, Below.setCell (Below.setCell hbW (by simp) _) (by simp) _, .inr ⟨rfl, rfl, rfl, hNO.out (fun hh => by rw [HKC.out] at hh; cases hh.2)⟩⟩
              · have hzb : (z != (q.length : Int)) = true := by simpa using hzm
                have HZ := Lib.hid hzm
                clear hzm
                refine wp_region_res (by kernel_rfl) (fun W => Below w7.heap.size w7 W) (rdA b0 o (r.length + 1) C j i2 a q.length A5 A6 C5 C6 z) (fun _ => none) (by decide) (by decide) ((bDrew (Below.refl _ _))) ?hst ?hend
                case hst =>
                  iterate 15 (with_reducible refine resSteps_cons ?_ ?_; rotate_left)
                  · exact resSteps_nil
                  · intro u W hG hd K hK
                    have HK := Lib.hid hK
                    clear hK hd
                    refine ⟨?_⟩
                    simp only [slotsOf_some, slotsOf_none, slotsOf_nil, puts_cons, puts_nil, Nat.zero_add, Nat.reduceAdd]
                    go_simp
                    exact HK.out _ _ _ (by simp [slotsOf_some, slotsOf_none, slotsOf_nil, puts_cons, puts_nil, Act.put, -Function.const_apply]) hG rfl (fun j _ _ _ _ h => h)
                  · intro u W hG hd K hK
                    have HK := Lib.hid hK
                    clear hK hd
                    refine ⟨?_⟩
                    simp only [slotsOf_some, slotsOf_none, slotsOf_nil, puts_cons, puts_nil, Nat.zero_add, Nat.reduceAdd]
                    go_simp
                    exact HK.out _ _ _ (by simp [slotsOf_some, slotsOf_none, slotsOf_nil, puts_cons, puts_nil, Act.put, -Function.const_apply]) hG rfl (fun j _ _ _ _ h => h)
                  · intro u W hG hd K hK
                    have r1 : u 1 = .int .i64 (j : Nat) := hd 1 (by decide) (.inl rfl)
                    have HK := Lib.hid hK
                    clear hK hd
                    refine ⟨?_⟩
                    simp only [slotsOf_some, slotsOf_none, slotsOf_nil, puts_cons, puts_nil, Nat.zero_add, Nat.reduceAdd]
                    go_simp
                    exact HK.out _ _ _ (by simp [slotsOf_some, slotsOf_none, slotsOf_nil, puts_cons, puts_nil, Act.put, r1, hi2', hi2w]) hG rfl (fun j _ _ _ _ h => h)
                  · intro u W hG hd K hK
                    have r0 : u 0 = .slice (some ⟨b0, o, none⟩) (r.length + 1) C := hd 0 (by decide) (.inl rfl)
                    have r2 : u 2 = .int .i64 (i2 : Nat) := hd 2 (by decide) (.inl rfl)
                    have HK := Lib.hid hK
                    clear hK hd
                    refine ⟨?_⟩
                    simp only [slotsOf_some, slotsOf_none, slotsOf_nil, puts_cons, puts_nil, Nat.zero_add, Nat.reduceAdd]
                    go_simp
                    exact HK.out _ _ _ (by simp [slotsOf_some, slotsOf_none, slotsOf_nil, puts_cons, puts_nil, Act.put, r0, r2]) hG rfl (fun j _ _ _ _ h => h)
                  · intro u W hG hd K hK
                    have r3 : u 3 = .pointer (some ⟨b0, o + i2, none⟩) := hd 3 (by decide) (.inl rfl)
                    have hc := keepC hG qz
                    have HK := Lib.hid hK
                    clear hK hd
                    refine ⟨?_⟩
                    simp only [slotsOf_some, slotsOf_none, slotsOf_nil, puts_cons, puts_nil, Nat.zero_add, Nat.reduceAdd]
                    go_simp
                    exact HK.out _ _ _ (by simp [slotsOf_some, slotsOf_none, slotsOf_nil, puts_cons, puts_nil, Act.put, r3]) hG rfl (fun j _ _ _ _ h => h)
                  · intro u W hG hd K hK
                    have r4 : u 4 = .int .u8 z := hd 4 (by decide) (.inl rfl)
                    have HK := Lib.hid hK
                    clear hK hd
                    refine ⟨?_⟩
                    simp only [slotsOf_some, slotsOf_none, slotsOf_nil, puts_cons, puts_nil, Nat.zero_add, Nat.reduceAdd]
                    go_simp
                    exact HK.out _ _ _ (by simp [slotsOf_some, slotsOf_none, slotsOf_nil, puts_cons, puts_nil, Act.put, r4, hzw]) hG rfl (fun j _ _ _ _ h => h)
                  · intro u W hG hd K hK
                    have HK := Lib.hid hK
                    clear hK hd
                    refine ⟨?_⟩
                    simp only [slotsOf_some, slotsOf_none, slotsOf_nil, puts_cons, puts_nil, Nat.zero_add, Nat.reduceAdd]
                    go_simp
                    exact HK.out _ _ _ (by simp [slotsOf_some, slotsOf_none, slotsOf_nil, puts_cons, puts_nil, Act.put, -Function.const_apply]) hG rfl (fun j _ _ _ _ h => h)
                  · intro u W hG hd K hK
                    have r6 : u 6 = .pointer (some ⟨a, 1, none⟩) := hd 6 (by decide) (.inl rfl)
                    have hc := keepC hG d1
                    have HK := Lib.hid hK
                    clear hK hd
                    refine ⟨?_⟩
                    simp only [slotsOf_some, slotsOf_none, slotsOf_nil, puts_cons, puts_nil, Nat.zero_add, Nat.reduceAdd]
                    go_simp
                    exact HK.out _ _ _ (by simp [slotsOf_some, slotsOf_none, slotsOf_nil, puts_cons, puts_nil, Act.put, r6]) hG rfl (fun j _ _ _ _ h => h)
                  · intro u W hG hd K hK
                    have r7 : u 7 = .slice A6 q.length C6 := hd 7 (by decide) (.inl rfl)
                    have HK := Lib.hid hK
                    clear hK hd
                    refine ⟨?_⟩
                    simp only [slotsOf_some, slotsOf_none, slotsOf_nil, puts_cons, puts_nil, Nat.zero_add, Nat.reduceAdd]
                    go_simp
                    exact HK.out _ _ _ (by simp [slotsOf_some, slotsOf_none, slotsOf_nil, puts_cons, puts_nil, Act.put, r7]) hG rfl (fun j _ _ _ _ h => h)
                  · intro u W hG hd K hK
                    have r5 : u 5 = .int .i64 z := hd 5 (by decide) (.inl rfl)
                    have r8 : u 8 = .int .i64 (q.length : Nat) := hd 8 (by decide) (.inl rfl)
                    have HK := Lib.hid hK
                    clear hK hd
                    refine ⟨?_⟩
                    simp only [slotsOf_some, slotsOf_none, slotsOf_nil, puts_cons, puts_nil, Nat.zero_add, Nat.reduceAdd]
                    go_simp
                    exact HK.out _ _ _ (by simp [slotsOf_some, slotsOf_none, slotsOf_nil, puts_cons, puts_nil, Act.put, r5, r8, hzb]) hG rfl (fun j _ _ _ _ h => h)
                  · intro u W hG hd K hK
                    have r9 : u 9 = .bool true := hd 9 (by decide) (.inl rfl)
                    have HK := Lib.hid hK
                    clear hK hd
                    refine ⟨?_⟩
                    simp only [slotsOf_some, slotsOf_none, slotsOf_nil, puts_cons, puts_nil, Nat.zero_add, Nat.reduceAdd]
                    go_simp
                    exact HK.out _ _ _ (by simp [slotsOf_some, slotsOf_none, slotsOf_nil, puts_cons, puts_nil, Act.put, r9]) hG rfl (fun j _ _ _ _ h => h)
                  · intro u W hG hd K hK
                    have r10 : u 10 = .bool true := hd 10 (by decide) (.inl rfl)
                    have HK := Lib.hid hK
                    clear hK hd
                    refine ⟨?_⟩
                    simp only [slotsOf_some, slotsOf_none, slotsOf_nil, puts_cons, puts_nil, Nat.zero_add, Nat.reduceAdd]
                    go_simp
                    exact HK.out _ _ _ (by simp [slotsOf_some, slotsOf_none, slotsOf_nil, puts_cons, puts_nil, Act.put, r10]) hG rfl (fun j _ _ _ _ h => h)
                  · intro u W hG hd K hK
                    have r10 : u 10 = .bool true := hd 10 (by decide) (.inl rfl)
                    have HK := Lib.hid hK
                    clear hK hd
                    refine ⟨?_⟩
                    simp only [slotsOf_some, slotsOf_none, slotsOf_nil, puts_cons, puts_nil, Nat.zero_add, Nat.reduceAdd]
                    go_simp
                    exact HK.out _ _ _ (by simp [slotsOf_some, slotsOf_none, slotsOf_nil, puts_cons, puts_nil, Act.put, r10]) hG rfl (fun j _ _ _ _ h => h)
                  · intro u W hG hd K hK
                    have r10 : u 10 = .bool true := hd 10 (by decide) (.inl rfl)
                    have HK := Lib.hid hK
                    clear hK hd
                    refine ⟨?_⟩
                    simp only [slotsOf_some, slotsOf_none, slotsOf_nil, puts_cons, puts_nil, Nat.zero_add, Nat.reduceAdd]
                    go_simp
                    exact HK.out _ _ _ (by simp [slotsOf_some, slotsOf_none, slotsOf_nil, puts_cons, puts_nil, Act.put, r10]) hG rfl (fun j _ _ _ _ h => h)
                  · intro u W hG hd K hK
                    have r10 : u 10 = .bool true := hd 10 (by decide) (.inl rfl)
                    have HK := Lib.hid hK
                    clear hK hd
                    refine ⟨?_⟩
                    simp only [slotsOf_some, slotsOf_none, slotsOf_nil, puts_cons, puts_nil, Nat.zero_add, Nat.reduceAdd]
                    go_simp
                    exact HK.out _ _ _ (by simp [slotsOf_some, slotsOf_none, slotsOf_nil, puts_cons, puts_nil, Act.put, r10]) hG rfl (fun j _ _ _ _ h => h)
                case hend =>
                  intro u W hG hR
                  have r14 : u 14 = .bool true := hR 14 (by decide) rfl
                  clear hR
                  have hr2 := keepH hG hr2'
                  have hc0 := keepC hG d0
                  have hc1 := keepC hG d1
                  replace hi0' := hi0'.below hG
                  replace hi1 := hi1.below hG
                  have hbW := bTrans hbw7 hG
                  have z0 : W.cell? ⟨w.heap.size, 0, none⟩ = some (.slice none 0 0) := by rw [cell_at hr2]; rfl
                  have z1 : W.cell? ⟨w.heap.size, 1, none⟩ = some (.slice none 0 0) := by rw [cell_at hr2]; rfl
                  have zf := fun o => frozen_at hr2 o
                  clear RC qz d0 d1 hG hbw7
                  simp only [slotsOf_some, slotsOf_none, slotsOf_nil, puts_cons, puts_nil, Nat.zero_add, Nat.reduceAdd]
                  simp [Act.put, r14]
                  go_wp2
                  refine bodyPost_ret (v := .tuple #[.agg #[.slice none 0 0, .slice none 0 0], .int .i64 140]) ?_ rfl ?_
                  · simp [results, Try.results34, go_sem, z0, z1, zf]
                  · exact ⟨[], [], none, none, 0, 0, 140, rfl, Ints.nil _ _ _, Ints.nil _ _ _, Below.setCell (Below.setCell hbW (by simp) _) (by simp) _, .inr ⟨rfl, rfl, rfl, hNO.out (fun hh => HZ.out hh.1)⟩⟩
end Go.Proofs.Ytinkbiinbfbjgaa

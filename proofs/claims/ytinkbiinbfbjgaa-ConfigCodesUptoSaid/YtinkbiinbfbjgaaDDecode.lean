/- Contract of config.Decode. -/
import Derived.Test.YtinkbiinbfbjgaaDReader
import Derived.Test.YtinkbiinbfbjgaaDResG
import Derived.Test.YtinkbiinbfbjgaaDShelf
import Derived.Test.YtinkbiinbfbjgaaDApply
import Derived.IntWalk
namespace Go.Proofs.Ytinkbiinbfbjgaa
open Go.RowKit
set_option linter.unusedVariables false
set_option linter.unusedSimpArgs false

theorem dc_more_no {D : Nat → Bool} {i j : Nat} (h : more D i j = false) : D j = false := by
  unfold more at h
  simp only [Bool.or_eq_false_iff] at h
  exact h.1
theorem dc_more_ne {D : Nat → Bool} {i j : Nat} (h : j ≠ i) : more D i j = D j := by
  unfold more
  simp [h]

/-- k bytes read. -/
def rdK (bs : List Int) (e : Int) : Nat → List Int × List Int × Int
  | 0 => ([], bs, e)
  | k + 1 => ((rdK bs e k).1 ++ [(rdB (rdK bs e k).2.1 (rdK bs e k).2.2).1], (rdB (rdK bs e k).2.1 (rdK bs e k).2.2).2.1, (rdB (rdK bs e k).2.1 (rdK bs e k).2.2).2.2)
theorem rdK_len (bs : List Int) (e : Int) : ∀ k, (rdK bs e k).1.length = k
  | 0 => rfl
  | k + 1 => by simp [rdK, rdK_len bs e k]
/-- One list read. -/
def rdL (bs : List Int) (e : Int) : List Int × List Int × Int := rdK (rdB bs e).2.1 (rdB bs e).2.2 (min (rdB bs e).1 9).toNat
/-- The reader's state behind some lists, and the lists. -/
def rdS (b : List Int) : Nat → List Int × Int
  | 0 => (b, 0)
  | k + 1 => ((rdL (rdS b k).1 (rdS b k).2).2.1, (rdL (rdS b k).1 (rdS b k).2).2.2)
def rdM (b : List Int) (m : Nat) : List Int := (rdL (rdS b m).1 (rdS b m).2).1
theorem rdB_in {bs : List Int} {e : Int} (h : ∀ x ∈ bs, 0 ≤ x ∧ x < 256) : (0 ≤ (rdB bs e).1 ∧ (rdB bs e).1 < 256) ∧ ∀ x ∈ (rdB bs e).2.1, 0 ≤ x ∧ x < 256 := by
  unfold rdB
  split
  · split
    · simp
    · rename_i x r
      exact ⟨h x (List.mem_cons_self ..), fun y hy => h y (List.mem_cons_of_mem _ hy)⟩
  · exact ⟨by simp, h⟩
theorem RAt.bytes {w : World} {g : Nat} {bs : List Int} {e : Int} (h : RAt w g bs e) : ∀ x ∈ bs, 0 ≤ x ∧ x < 256 := by
  obtain ⟨A, C, hh, hi, hA, hC, hx⟩ := h
  exact hx
theorem RAt.lt {w : World} {g : Nat} {bs : List Int} {e : Int} (h : RAt w g bs e) : g < w.heap.size := by
  obtain ⟨A, C, hh, hi, hA, hC, hx⟩ := h
  exact heap_lt hh

theorem rdM_le (b : List Int) (m : Nat) : (rdM b m).length ≤ 9 := by
  unfold rdM rdL
  rw [rdK_len]
  omega

theorem rdK_app (v r : List Int) : ∀ k, k ≤ v.length → rdK (v ++ r) 0 k = (v.take k, v.drop k ++ r, 0)
  | 0, _ => by simp [rdK]
  | k + 1, h => by
    have ih := rdK_app v r k (by omega)
    have hk : k < v.length := by omega
    unfold rdK
    rw [ih]
    have hd : v.drop k = v[k] :: v.drop (k + 1) := List.drop_eq_getElem_cons hk
    simp only [hd, List.cons_append, rdB, if_true, take_snoc v k hk]
theorem rdL_app (v r : List Int) (h : v.length ≤ 9) : rdL ((v.length : Int) :: (v ++ r)) 0 = (v, r, 0) := by
  unfold rdL
  have e : rdB ((v.length : Int) :: (v ++ r)) 0 = ((v.length : Int), v ++ r, 0) := by simp [rdB]
  rw [e]
  simp only
  rw [show (min (v.length : Int) 9).toNat = v.length by omega, rdK_app v r v.length (Nat.le_refl _)]
  simp
/-- What Decode answers. -/
def decR (b p q : List Int) (er : Int) : Prop := (er = 0 ∧ checkB p q = true ∧ encL p q = b) ∨ (er = 140 ∧ p = [] ∧ q = [] ∧ ∀ v l, checkB v l = true → encL v l ≠ b)
theorem dec_of {v l : List Int} (h : checkB v l = true) : rdM (encL v l) 0 = v ∧ rdM (encL v l) 1 = l ∧ endE (rdS (encL v l) 2).1 (rdS (encL v l) 2).2 = 0 := by
  obtain ⟨_, h1, h2, _⟩ := check_parts h
  have l1 := (rises_small h1).1
  have l2 := (rises_small h2).1
  have e0 : rdL (rdS (encL v l) 0).1 (rdS (encL v l) 0).2 = (v, (l.length : Int) :: l, 0) := rdL_app v _ (by omega)
  have s1 : rdS (encL v l) 1 = ((l.length : Int) :: l, 0) := by
    show (_, _) = _
    rw [e0]
  have e1 : rdL (rdS (encL v l) 1).1 (rdS (encL v l) 1).2 = (l, [], 0) := by
    rw [s1]
    have := rdL_app l [] (by omega)
    rw [List.append_nil] at this
    exact this
  have s2 : rdS (encL v l) 2 = ([], 0) := by
    show (_, _) = _
    rw [e1]
  refine ⟨?_, ?_, ?_⟩
  · unfold rdM; rw [e0]
  · unfold rdM; rw [e1]
  · rw [s2]; rfl

/-- An array of two rows. -/
def s2 (f : Nat → Value) : Array Value := #[f 0, f 1]
theorem s2_cell {w : World} {g : Nat} {f : Nat → Value} {T : TypeId} {fr : Nat × Nat} (h : w.heap[g]? = some (.cells (s2 f) T fr)) (k : Nat) (hk : k < 2) : w.cell? ⟨g, k, none⟩ = some (f k) := by
  rw [cell_at h]
  have : k = 0 ∨ k = 1 := by omega
  rcases this with rfl | rfl <;> rfl
theorem s2_set (f : Nat → Value) (k : Nat) (hk : k < 2) (x : Value) : (s2 f).setIfInBounds k x = s2 (updV f k x) := by
  have : k = 0 ∨ k = 1 := by omega
  rcases this with rfl | rfl <;> simp [s2, updV]
theorem updV_upd (f : Nat → Value) (k : Nat) (x y : Value) : updV (updV f k x) k y = updV f k y := by
  funext i
  unfold updV
  split <;> rfl
theorem updV_same (f : Nat → Value) (k : Nat) {x : Value} (h : f k = x) : updV f k x = f := by
  funext i
  unfold updV
  split
  · rename_i e; rw [e, h]
  · rfl

/-- Below block B nothing has turned but the blocks g and a. -/
structure But (B g a : Nat) (w w' : World) : Prop where
  os : w'.os = w.os
  tape : w'.tape = w.tape
  output : w'.output = w.output
  size : w.heap.size ≤ w'.heap.size
  block : ∀ k, k < B → k ≠ g → k ≠ a → w'.heap[k]? = w.heap[k]?
theorem But.refl (B g a : Nat) (w : World) : But B g a w w := ⟨rfl, rfl, rfl, Nat.le_refl _, fun _ _ _ _ => rfl⟩
theorem But.trans {B g a : Nat} {x y z : World} (h : But B g a x y) (k : But B g a y z) : But B g a x z :=
  ⟨k.os.trans h.os, k.tape.trans h.tape, k.output.trans h.output, Nat.le_trans h.size k.size, fun i hi h1 h2 => (k.block i hi h1 h2).trans (h.block i hi h1 h2)⟩
theorem But.mono {B B' g a : Nat} {w w' : World} (h : But B g a w w') (hB : B' ≤ B) : But B' g a w w' := ⟨h.os, h.tape, h.output, h.size, fun k hk => h.block k (by omega)⟩
theorem But.of {B g a : Nat} {w w' : World} (h : Below B w w') : But B g a w w' := ⟨h.os, h.tape, h.output, h.size, fun k hk _ _ => h.block k hk⟩
theorem But.only {B g a : Nat} {w w' : World} (h : Only g w w') : But B g a w w' := ⟨h.os, h.tape, h.output, by rw [h.size]; exact Nat.le_refl _, fun k _ h1 _ => h.block k h1⟩
theorem But.set {B g a : Nat} {w w' : World} (h : But B g a w w') (o : Nat) (v : Value) : But B g a w (w'.setCell ⟨a, o, none⟩ v) :=
  ⟨h.os, h.tape, h.output, by simpa using h.size, fun k hk h1 h2 => by rw [Below.heap_setCell _ _ _ _ h2]; exact h.block k hk h1 h2⟩
theorem But.below {B g a : Nat} {w w' : World} (h : But B g a w w') (hg : g ≤ B) (ha : g ≤ a) : Below g w w' := ⟨h.os, h.tape, h.output, h.size, fun k hk => h.block k (by omega) (by omega) (by omega)⟩
theorem Ints.but {B g a : Nat} {w w' : World} {k : IntKind} {A : Option Addr} {l : List Int} (h : Ints w k A l) (hb : But B g a w w') (hga : g < a) (hA : ∀ x, A = some x → a < x.block) (hlt : w.heap.size ≤ B) : Ints w' k A l := by
  rcases h with h | ⟨b, o, rfl, hc⟩
  · exact .inl h
  · refine .inr ⟨b, o, rfl, fun i hi => ?_⟩
    have h1 := hc i hi
    have h2 := World.block_lt_of_cell? _ _ h1
    have h4 := hA _ rfl
    simp only at h2 h4
    have h3 : w'.heap[b]? = w.heap[b]? := hb.block b (by omega) (by omega) (by omega)
    rw [← h1]
    simp only [World.cell?, h3]
theorem own_only {w w' : World} {g base : Nat} {e : TypeId} {size : Nat} {v : Value} {n : Nat} {xs : List Value} (h : w.ownsRow base e size v n xs) (ho : Only g w w') (hg : g < base) : w'.ownsRow base e size v n xs := by
  refine h.kept (row := some g) ⟨ho.os, ho.tape, ho.output, by rw [ho.size]; exact Nat.le_refl _, fun k hk hne => ?_⟩ ?_
  · exact ho.block k (fun e => hne (by rw [e]))
  · refine .inr fun hv => ?_
    have := (h.lt g hv).1
    omega

theorem BytesIn_ints {w : World} {A : Option Addr} {l : List Int} (h : Ints w .u8 A l) : Lib.BytesIn w A l.length l := fun hn => by
  obtain ⟨b, o, rfl, _, hc⟩ := h.open hn
  exact ⟨b, o, rfl, fun i hi => hc i hi⟩
theorem byte_inj {x y : Int} (hx : 0 ≤ x ∧ x < 256) (hy : 0 ≤ y ∧ y < 256) (h : UInt8.ofNat x.toNat = UInt8.ofNat y.toNat) : x = y := by
  have := congrArg UInt8.toNat h
  simp only [UInt8.toNat_ofNat'] at this
  omega
theorem bytesOf_inj : ∀ {a b : List Int}, (∀ x ∈ a, 0 ≤ x ∧ x < 256) → (∀ x ∈ b, 0 ≤ x ∧ x < 256) → Lib.bytesOf a = Lib.bytesOf b → a = b
  | [], [], _, _, _ => rfl
  | [], y :: b, _, _, h => by simp [Lib.bytesOf] at h
  | x :: a, [], _, _, h => by simp [Lib.bytesOf] at h
  | x :: a, y :: b, ha, hb, h => by
    simp only [Lib.bytesOf, List.map_cons, List.cons.injEq] at h
    rw [byte_inj (ha x (List.mem_cons_self ..)) (hb y (List.mem_cons_self ..)) h.1, bytesOf_inj (fun z hz => ha z (List.mem_cons_of_mem _ hz)) (fun z hz => hb z (List.mem_cons_of_mem _ hz)) h.2]
theorem bytesOf_eq {a b : List Int} (ha : ∀ x ∈ a, 0 ≤ x ∧ x < 256) (hb : ∀ x ∈ b, 0 ≤ x ∧ x < 256) : (Lib.bytesOf a == Lib.bytesOf b) = decide (a = b) := by
  by_cases h : a = b
  · subst h; simp
  · rw [decide_eq_false h, beq_eq_false_iff_ne]
    exact fun e => h (bytesOf_inj ha hb e)
theorem encL_in {p q : List Int} (h : checkB p q = true) : ∀ x ∈ encL p q, 0 ≤ x ∧ x < 256 := by
  obtain ⟨_, h1, h2, _⟩ := check_parts h
  have s1 := rises_small h1
  have s2 := rises_small h2
  have l1 := s1.1
  have l2 := s2.1
  intro x hx
  unfold encL at hx
  simp only [List.cons_append, List.mem_cons, List.mem_append] at hx
  rcases hx with rfl | hx | rfl | hx
  · omega
  · obtain ⟨i, hi, rfl⟩ := List.getElem_of_mem hx
    have := s1.2 i hi
    omega
  · omega
  · obtain ⟨i, hi, rfl⟩ := List.getElem_of_mem hx
    have := s2.2 i hi
    omega

theorem set_conf_at {w : World} {g : Nat} {a b : Value} {T : TypeId} (h : w.heap[g]? = some (.cells #[a, b] T (0, 0))) (o : Nat) (v : Value) : (w.setCell ⟨g, o, none⟩ v).heap[g]? = some (.cells (#[a, b].setIfInBounds o v) T (0, 0)) := setCell_at h o v
theorem Ints.set_c {w : World} {A : Option Addr} {l : List Int} (h : Ints w .i64 A l) {g : Nat} {p q : Option Addr} {n m c d : Nat} {T : TypeId} (hg : w.heap[g]? = some (.cells #[.slice p n c, .slice q m d] T (0, 0))) (o : Nat) (v : Value) : Ints (w.setCell ⟨g, o, none⟩ v) .i64 A l := by
  by_cases h0 : 0 < l.length
  · refine Row.other h (fun x hx e => ?_) v
    obtain ⟨b, o', hA, _, hc⟩ := h.open h0
    rw [hA] at hx
    cases hx
    have := hc 0 h0
    simp only at e
    rw [e, cell_at hg] at this
    rcases o' with _ | _ | o' <;> simp at this
  · have hl0 : l = [] := by cases l with | nil => rfl | cons _ _ => simp at h0
    rw [hl0]
    exact Row.nil _ _

/-- The world of the region that reads one number. -/
def dcG (B g a : Nat) (bs : List Int) (e : Int) (f : Nat → Value) (k : Nat) (A : Option Addr) (C j : Nat) (rows : List Value) (wr : World) (D : Nat → Bool) (W : World) : Prop :=
  But B g a wr W ∧ (g < a ∧ a < B) ∧ B ≤ W.heap.size ∧ (D 5 = false → RAt W g bs e) ∧ (D 5 = true → RAt W g (rdB bs e).2.1 (rdB bs e).2.2) ∧
    (D 10 = false → W.heap[a]? = some (.cells (s2 (updV f k (.slice A j C))) 51 (0, 0))) ∧ (D 8 = false → W.ownsRow B 3 1 (.slice A j C) j rows)
def dcR (B g a k : Nat) (f : Nat → Value) (A : Option Addr) (C j : Nat) (y : Int) (rows : List Value) : Nat → (Nat → Value) → World → Prop
  | 0, u, _ => u 0 = .int .i64 (k : Nat)
  | 1, u, _ => u 1 = .int .i64 (k : Nat)
  | 2, u, _ => u 2 = .pointer (some ⟨a, k, none⟩)
  | 3, u, _ => u 3 = .slice A j C
  | 4, u, _ => u 4 = .pointer (some ⟨g, 0, none⟩)
  | 5, u, _ => u 5 = .int .u8 y
  | 6, u, _ => u 6 = .int .i64 y
  | 7, u, W => ∃ q, u 7 = .slice (some ⟨q, 0, none⟩) 1 1 ∧ B ≤ q ∧ W.heap[q]? = some (.cells #[.int .i64 y] 3 (0, 0))
  | 8, u, W => ∃ A' C', u 8 = .slice A' (j + 1) C' ∧ W.ownsRow B 3 1 (.slice A' (j + 1) C') (j + 1) (rows ++ [Value.int .i64 y])
  | 9, u, _ => u 9 = .pointer (some ⟨a, k, none⟩)
  | 10, _, W => ∃ A' C', W.heap[a]? = some (.cells (s2 (updV f k (.slice A' (j + 1) C'))) 51 (0, 0)) ∧ W.ownsRow B 3 1 (.slice A' (j + 1) C') (j + 1) (rows ++ [Value.int .i64 y])
  | _, _, _ => True
theorem dcR_upd {B g a k : Nat} {f : Nat → Value} {A : Option Addr} {C j : Nat} {y : Int} {rows : List Value} (m i : Nat) (u : Nat → Value) (x : Value) {W : World} (hm : m ≠ i) (h : dcR B g a k f A C j y rows m u W) : dcR B g a k f A C j y rows m (updV u i x) W := by
  have e : updV u i x m = u m := updV_ne hm
  match m, h with
  | 0, h => exact e.trans h
  | 1, h => exact e.trans h
  | 2, h => exact e.trans h
  | 3, h => exact e.trans h
  | 4, h => exact e.trans h
  | 5, h => exact e.trans h
  | 6, h => exact e.trans h
  | 7, ⟨q, h, i⟩ => exact ⟨q, e.trans h, i⟩
  | 8, ⟨A', C', h, i⟩ => exact ⟨A', C', e.trans h, i⟩
  | 9, h => exact e.trans h
  | 10, h => exact h
  | _ + 11, _ => trivial
theorem dcR_below {B g a k : Nat} {f : Nat → Value} {A : Option Addr} {C j : Nat} {y : Int} {rows : List Value} (m : Nat) (u : Nat → Value) {W W' : World} (hb : Below W.heap.size W W') (h : dcR B g a k f A C j y rows m u W) : dcR B g a k f A C j y rows m u W' := by
  match m, h with
  | 0, h => exact h
  | 1, h => exact h
  | 2, h => exact h
  | 3, h => exact h
  | 4, h => exact h
  | 5, h => exact h
  | 6, h => exact h
  | 7, ⟨q, h, l, i⟩ => exact ⟨q, h, l, keepH hb i⟩
  | 8, ⟨A', C', h, i⟩ => exact ⟨A', C', h, own_below i hb⟩
  | 9, h => exact h
  | 10, ⟨A', C', h, i⟩ => exact ⟨A', C', keepH hb h, own_below i hb⟩
  | _ + 11, _ => trivial
theorem dcR_only {B g a k : Nat} {f : Nat → Value} {A : Option Addr} {C j : Nat} {y : Int} {rows : List Value} (hga : g < a) (haB : a < B) (m : Nat) (u : Nat → Value) {W W' : World} (ho : Only g W W') (h : dcR B g a k f A C j y rows m u W) : dcR B g a k f A C j y rows m u W' := by
  match m, h with
  | 0, h => exact h
  | 1, h => exact h
  | 2, h => exact h
  | 3, h => exact h
  | 4, h => exact h
  | 5, h => exact h
  | 6, h => exact h
  | 7, ⟨q, h, l, i⟩ => exact ⟨q, h, l, (ho.block q (by omega)).trans i⟩
  | 8, ⟨A', C', h, i⟩ => exact ⟨A', C', h, own_only i ho (by omega)⟩
  | 9, h => exact h
  | 10, ⟨A', C', h, i⟩ => exact ⟨A', C', (ho.block a (by omega)).trans h, own_only i ho (by omega)⟩
  | _ + 11, _ => trivial
def dcF : Nat → Option Nat
  | 7 => some 8
  | _ => none
theorem dcG_below {B g a : Nat} {bs : List Int} {e : Int} {f : Nat → Value} {k : Nat} {A : Option Addr} {C j : Nat} {rows : List Value} {wr : World} {D : Nat → Bool} {W W' : World} (i : Nat) (h5 : i ≠ 5) (h : dcG B g a bs e f k A C j rows wr D W) (hb : Below W.heap.size W W') : dcG B g a bs e f k A C j rows wr (more D i) W' := by
  obtain ⟨h1, h2, h3, h4, h5', h6, h7⟩ := h
  have hb1 : Below (g + 1) W W' := hb.mono (by omega)
  exact ⟨h1.trans (But.of (hb.mono h3)), h2, Nat.le_trans h3 hb.size, fun hd => (h4 (dc_more_no hd)).below hb1, fun hd => (h5' (by rw [dc_more_ne (Ne.symm h5)] at hd; exact hd)).below hb1, fun hd => keepH hb (h6 (dc_more_no hd)), fun hd => own_below (h7 (dc_more_no hd)) hb⟩
theorem dcG_app {B g a : Nat} {bs : List Int} {e : Int} {f : Nat → Value} {k : Nat} {A : Option Addr} {C j : Nat} {rows : List Value} {wr : World} {D : Nat → Bool} {W W' : World} (h : dcG B g a bs e f k A C j rows wr D W) (hb : Below B W W') : dcG B g a bs e f k A C j rows wr (more D 8) W' := by
  obtain ⟨h1, h2, h3, h4, h5', h6, h7⟩ := h
  have hb1 : Below (g + 1) W W' := hb.mono (by omega)
  refine ⟨h1.trans (But.of hb), h2, Nat.le_trans h3 hb.size, fun hd => (h4 (dc_more_no hd)).below hb1, fun hd => (h5' (by rw [dc_more_ne (by decide)] at hd; exact hd)).below hb1, fun hd => by rw [hb.block a h2.2]; exact h6 (dc_more_no hd), fun hd => ?_⟩
  rw [more_self] at hd
  cases hd
theorem dcG_read {B g a : Nat} {bs : List Int} {e : Int} {f : Nat → Value} {k : Nat} {A : Option Addr} {C j : Nat} {rows : List Value} {wr : World} {D : Nat → Bool} {W W' : World} (h : dcG B g a bs e f k A C j rows wr D W) (ho : Only g W W') (hr : RAt W' g (rdB bs e).2.1 (rdB bs e).2.2) : dcG B g a bs e f k A C j rows wr (more D 5) W' := by
  obtain ⟨h1, h2, h3, h4, h5', h6, h7⟩ := h
  refine ⟨h1.trans (But.only ho), h2, by rw [ho.size]; exact h3, fun hd => ?_, fun _ => hr, fun hd => (ho.block a (by omega)).trans (h6 (dc_more_no hd)), fun hd => own_only (h7 (dc_more_no hd)) ho (by omega)⟩
  rw [more_self] at hd
  cases hd
theorem dcG_set {B g a : Nat} {bs : List Int} {e : Int} {f : Nat → Value} {k : Nat} {A : Option Addr} {C j : Nat} {rows : List Value} {wr : World} {D : Nat → Bool} {W : World} (h : dcG B g a bs e f k A C j rows wr D W) (o : Nat) (v : Value) : dcG B g a bs e f k A C j rows wr (more D 10) (W.setCell ⟨a, o, none⟩ v) := by
  obtain ⟨h1, h2, h3, h4, h5', h6, h7⟩ := h
  have hb1 : Below (g + 1) W (W.setCell ⟨a, o, none⟩ v) := ⟨rfl, rfl, rfl, by simp, fun k hk => Below.heap_setCell _ _ _ _ (by show k ≠ a; omega)⟩
  refine ⟨h1.set _ _, h2, by simpa using h3, fun hd => (h4 (dc_more_no hd)).below hb1, fun hd => (h5' (by rw [dc_more_ne (by decide)] at hd; exact hd)).below hb1, fun hd => ?_, fun hd => ownsRow_setCell_below (h7 (dc_more_no hd)) h2.2 _⟩
  rw [more_self] at hd
  cases hd


set_option maxRecDepth 100000 in
set_option maxHeartbeats 1000000 in
theorem Decode_calls (b : List Int) (A : Option Addr) (C : Nat) (w : World) (h : Ints w .u8 A b) (hn : A = none → b = [] ∧ C = 0) (hl : b.length < 2^40) (hby : ∀ x ∈ b, 0 ≤ x ∧ x < 256) :
    Calls Try.prog 33 #[.slice A b.length C] w fun e w' => ∃ p q x y c d er, e = .returned (.tuple #[.agg #[.slice x p.length c, .slice y q.length d], .int .i64 er]) ∧ Ints w' .i64 x p ∧ Ints w' .i64 y q ∧ Below w.heap.size w w' ∧ decR b p q er := by
  have hb0 := bAlloc (Below.refl w.heap.size w) (.cells #[.slice none 0 0, .slice none 0 0] 39)
  have hr2 := heap_alloc_new w (.cells #[.slice none 0 0, .slice none 0 0] 39)
  have hz : w.heap.size < (w.alloc (.cells #[.slice none 0 0, .slice none 0 0] 39)).heap.size := by simp
  have h0 := h.below hb0
  go_enter Try.func33, Try.ntmps33
  go_wp2_with fail
  generalize w.alloc (.cells #[.slice none 0 0, .slice none 0 0] 39) = w0 at *
  refine (rRead_calls b A C w0 h0 hn hl hby).mono ?_
  rintro e w1 ⟨g, rfl, hR, hg, hb1⟩
  replace hr2 := keepH hb1 hr2
  have hgl := hR.lt
  have hba := bAlloc (Below.refl _ w1) (.cells #[.slice none 0 0, .slice none 0 0] 51)
  have hR1 := hR.below (hba.mono hgl)
  have ha := heap_alloc_new w1 (.cells #[.slice none 0 0, .slice none 0 0] 51)
  have hr3 := keepH hba hr2
  have hbw := bTrans (bTrans hb0 hb1) (hba.mono (by have := hb1.size; omega))
  have hsz : w1.heap.size < (w1.alloc (.cells #[.slice none 0 0, .slice none 0 0] 51)).heap.size := by simp
  clear hR hr2 hba hb1 hb0 h0
  go_wp2_with fail
  generalize w1.alloc (.cells #[.slice none 0 0, .slice none 0 0] 51) = w2 at *
  generalize ha' : w1.heap.size = a at *
  clear ha'
  have HA := Lib.hid (And.intro hbw hr3)
  clear hbw hr3
  go_loopw [12] (fun i wr => ∃ (k : Nat) (f : Nat → Value), k ≤ 2 ∧ i = .int .i64 k ∧ But (a + 1) g a w2 wr ∧ a < wr.heap.size ∧ RAt wr g (rdS b k).1 (rdS b k).2 ∧ wr.heap[a]? = some (.cells (s2 f) 51 (0, 0)) ∧ (∀ m, m < k → ∃ A C, f m = .slice A (rdM b m).length C ∧ Ints wr .i64 A (rdM b m) ∧ ∀ x, A = some x → a < x.block) ∧ (∀ m, k ≤ m → m < 2 → f m = .slice none 0 0)) (fun i _ => 2 - (intOf i).toNat)
  case atStart => exact ⟨0, fun _ => .slice none 0 0, by omega, rfl, But.refl _ _ _ _, hsz, hR1, ha, fun m hm => by omega, fun _ _ _ => rfl⟩
  case round =>
    obtain ⟨w3, rfl⟩ : ∃ w3 : World, w3 = wr := ⟨_, rfl⟩
    obtain ⟨k, f, hk2, rfl, hbt, hs3, hR3, ha3, hrows, hnil⟩ := hrel
    clear hR1 ha hsz
    by_cases hlt : k < 2
    · have hw2 := hnil k (Nat.le_refl _) hlt
      have hin := rdB_in (e := (rdS b k).2) hR3.bytes
      have hrM : rdM b k = (rdL (rdS b k).1 (rdS b k).2).1 := rfl
      have hrS : rdS b (k + 1) = ((rdL (rdS b k).1 (rdS b k).2).2.1, (rdL (rdS b k).1 (rdS b k).2).2.2) := rfl
      unfold rdL at hrM hrS
      generalize rdS b k = st at *
      obtain ⟨bs, e0⟩ := st
      simp only at hR3 hin hrM hrS
      have HM := Lib.hid (And.intro hrM hrS)
      clear hrM hrS
      have HR := Lib.hid (And.intro hrows hnil)
      clear hrows hnil
      go_wp2_with fail
      refine (rByte_calls g bs e0 _ hR3).mono ?_
      rintro e w4 ⟨rfl, hR4, ho4⟩
      obtain ⟨⟨hy0, hy1⟩, _⟩ := hin
      clear hR3
      generalize hy : rdB bs e0 = q at *
      obtain ⟨y, bs1, e1⟩ := q
      simp only at hR4 hy0 hy1 HM
      have hyw : IntKind.i64.wrap y = y := IntWalk.i64_in _ (by omega)
      obtain ⟨n, hn0⟩ : ∃ n : Nat, (min y 9) = (n : Int) := ⟨(min y 9).toNat, by omega⟩
      have hn9 : n ≤ 9 := by omega
      have HY := Lib.hid hy
      have HN := Lib.hid hn0
      have ha4 : w4.heap[a]? = some (.cells (s2 (updV f k (.slice none 0 0))) 51 (0, 0)) := by
        rw [updV_same f k hw2, ho4.block a (by omega)]; exact ha3
      have hs4 : a < w4.heap.size := by rw [ho4.size]; exact hs3
      have hga : g < a := hgl
      go_wp2_with fail
      clear hn0 hy0 hy1 hy ha3 hw2
      obtain ⟨B1, hB1⟩ : ∃ B1, B1 = w4.heap.size := ⟨_, rfl⟩
      go_loopw [19] (fun i wr => ∃ (j : Nat) (A : Option Addr) (C : Nat), j ≤ n ∧ i = .int .i64 j ∧ But B1 g a w4 wr ∧ B1 ≤ wr.heap.size ∧ RAt wr g (rdK bs1 e1 j).2.1 (rdK bs1 e1 j).2.2 ∧ wr.heap[a]? = some (.cells (s2 (updV f k (.slice A j C))) 51 (0, 0)) ∧ wr.ownsRow B1 3 1 (.slice A j C) j ((rdK bs1 e1 j).1.map (Value.int .i64))) (fun i _ => n - (intOf i).toNat)
      case atStart => exact ⟨0, none, 0, by omega, rfl, But.refl _ _ _ _, by omega, hR4, ha4, World.ownsRow_nil _ _ _ _⟩
      case round =>
        obtain ⟨j, A5, C5, hjn, rfl, hb5, hs5, hR5, ha5, hown⟩ := hrel
        clear hR4 ha4
        obtain ⟨w5, rfl⟩ : ∃ w5 : World, w5 = wr := ⟨_, rfl⟩
        have haB : a < B1 := by omega
        by_cases hlj : j < n
        · have hin := (rdB_in (e := (rdK bs1 e1 j).2.2) hR5.bytes).1
          have hrK : rdK bs1 e1 (j + 1) = ((rdK bs1 e1 j).1 ++ [(rdB (rdK bs1 e1 j).2.1 (rdK bs1 e1 j).2.2).1], (rdB (rdK bs1 e1 j).2.1 (rdK bs1 e1 j).2.2).2.1, (rdB (rdK bs1 e1 j).2.1 (rdK bs1 e1 j).2.2).2.2) := rfl
          have hlen := rdK_len bs1 e1 j
          generalize rdK bs1 e1 j = t at *
          obtain ⟨l5, bs5, e5⟩ := t
          simp only at hR5 hown hin hrK hlen
          have hrows : (l5.map (Value.int .i64)).length = j := by simpa using hlen
          generalize hx : (rdB bs5 e5).1 = x at *
          have hxw : IntKind.i64.wrap x = x := IntWalk.i64_in _ (by omega)
          have HKK := Lib.hid (And.intro hrK (And.intro hx hrows))
          clear hrK hx hrows hlen
          generalize hrw : l5.map (Value.int .i64) = rows at *
          go_wp2_with fail
          refine wp_region_resG (by kernel_rfl) (dcG B1 g a bs5 e5 f k A5 C5 j rows w5) (dcR B1 g a k f A5 C5 j x rows) dcF (by decide) (by decide) ⟨But.of (bDrew (Below.refl _ _) |>.mono hs5), ⟨hga, haB⟩, hs5, fun _ => hR5.below (bDrew (Below.refl _ _) |>.mono (by omega)), fun h => absurd h (by decide), fun _ => ha5, fun _ => hown⟩ ?hst ?hend
          case hst =>
            clear ha5 hown hR5
            iterate 11 (with_reducible refine resStepsG_cons ?_ ?_; rotate_left)
            · exact resStepsG_nil
            · intro D u W hG hDi hw hd K hK
              have HK := Lib.hid hK
              clear hK hd
              refine ⟨?_⟩
              simp only [slotsOf_some, slotsOf_none, slotsOf_nil, puts_cons, puts_nil, Nat.zero_add, Nat.reduceAdd]
              go_simp
              exact HK.out _ _ _ (by simp [slotsOf_some, slotsOf_none, slotsOf_nil, puts_cons, puts_nil, Act.put, -Function.const_apply]) (dcG_below 0 (by decide) hG (Below.refl _ _)) updV_self (fun m hm _ _ _ h => dcR_upd m 0 u _ hm h)
            · intro D u W hG hDi hw hd K hK
              have HK := Lib.hid hK
              clear hK hd
              refine ⟨?_⟩
              simp only [slotsOf_some, slotsOf_none, slotsOf_nil, puts_cons, puts_nil, Nat.zero_add, Nat.reduceAdd]
              go_simp
              exact HK.out _ _ _ (by simp [slotsOf_some, slotsOf_none, slotsOf_nil, puts_cons, puts_nil, Act.put, -Function.const_apply]) (dcG_below 1 (by decide) hG (Below.refl _ _)) updV_self (fun m hm _ _ _ h => dcR_upd m 1 u _ hm h)
            · intro D u W hG hDi hw hd K hK
              have r1 : u 1 = .int .i64 (k : Nat) := hd 1 (by decide) (.inl rfl)
              have HK := Lib.hid hK
              clear hK hd
              refine ⟨?_⟩
              simp only [slotsOf_some, slotsOf_none, slotsOf_nil, puts_cons, puts_nil, Nat.zero_add, Nat.reduceAdd]
              go_simp
              exact HK.out _ _ _ (by simp [slotsOf_some, slotsOf_none, slotsOf_nil, puts_cons, puts_nil, Act.put, r1]) (dcG_below 2 (by decide) hG (Below.refl _ _)) updV_self (fun m hm _ _ _ h => dcR_upd m 2 u _ hm h)
            · intro D u W hG hDi hw hd K hK
              have r2 : u 2 = .pointer (some ⟨a, k, none⟩) := hd 2 (by decide) (.inl rfl)
              have hc := s2_cell (hG.2.2.2.2.2.1 (hw 10 (by decide))) k hlt
              rw [updV_self] at hc
              have HK := Lib.hid hK
              clear hK hd
              refine ⟨?_⟩
              simp only [slotsOf_some, slotsOf_none, slotsOf_nil, puts_cons, puts_nil, Nat.zero_add, Nat.reduceAdd]
              go_simp
              exact HK.out _ _ _ (by simp [slotsOf_some, slotsOf_none, slotsOf_nil, puts_cons, puts_nil, Act.put, r2]) (dcG_below 3 (by decide) hG (Below.refl _ _)) updV_self (fun m hm _ _ _ h => dcR_upd m 3 u _ hm h)
            · intro D u W hG hDi hw hd K hK
              have HK := Lib.hid hK
              clear hK hd
              refine ⟨?_⟩
              simp only [slotsOf_some, slotsOf_none, slotsOf_nil, puts_cons, puts_nil, Nat.zero_add, Nat.reduceAdd]
              go_simp
              exact HK.out _ _ _ (by simp [slotsOf_some, slotsOf_none, slotsOf_nil, puts_cons, puts_nil, Act.put, -Function.const_apply]) (dcG_below 4 (by decide) hG (Below.refl _ _)) updV_self (fun m hm _ _ _ h => dcR_upd m 4 u _ hm h)
            · intro D u W hG hDi hw hd K hK
              have r4 : u 4 = .pointer (some ⟨g, 0, none⟩) := hd 4 (by decide) (.inl rfl)
              have hRW := hG.2.2.2.1 hDi
              have hx := HKK.out.2.1
              have HX := Lib.hid hx
              clear hx
              have HK := Lib.hid hK
              clear hK hd
              refine ⟨?_⟩
              simp only [slotsOf_some, slotsOf_none, slotsOf_nil, puts_cons, puts_nil, Nat.zero_add, Nat.reduceAdd]
              go_simp
              refine (rByte_calls g bs5 e5 W hRW).mono ?_
              rintro e w' ⟨rfl, hr', ho'⟩
              rw [HX.out]
              exact HK.out _ _ _ (by simp [slotsOf_some, slotsOf_none, slotsOf_nil, puts_cons, puts_nil, Act.put, r4]) (dcG_read hG ho' hr') updV_self (fun m hm _ _ _ h => dcR_only hga haB m _ ho' (dcR_upd m 5 u _ hm h))
            · intro D u W hG hDi hw hd K hK
              have r5 : u 5 = .int .u8 x := hd 5 (by decide) (.inl rfl)
              have HK := Lib.hid hK
              clear hK hd
              refine ⟨?_⟩
              simp only [slotsOf_some, slotsOf_none, slotsOf_nil, puts_cons, puts_nil, Nat.zero_add, Nat.reduceAdd]
              go_simp
              exact HK.out _ _ _ (by simp [slotsOf_some, slotsOf_none, slotsOf_nil, puts_cons, puts_nil, Act.put, r5, hxw]) (dcG_below 6 (by decide) hG (Below.refl _ _)) updV_self (fun m hm _ _ _ h => dcR_upd m 6 u _ hm h)
            · intro D u W hG hDi hw hd K hK
              have r6 : u 6 = .int .i64 x := hd 6 (by decide) (.inl rfl)
              have HK := Lib.hid hK
              clear hK hd
              refine ⟨?_⟩
              simp only [slotsOf_some, slotsOf_none, slotsOf_nil, puts_cons, puts_nil, Nat.zero_add, Nat.reduceAdd]
              go_simp
              exact HK.out (.slice (some ⟨W.heap.size, 0, none⟩) 1 1) _ _ (by simp [slotsOf_some, slotsOf_none, slotsOf_nil, puts_cons, puts_nil, Act.put, r6]) (dcG_below 7 (by decide) hG (bAlloc (Below.refl _ _) _)) ⟨W.heap.size, updV_self, hG.2.2.1, heap_alloc_new W _⟩ (fun m hm _ _ _ h => dcR_below m _ (bAlloc (Below.refl _ _) _) (dcR_upd m 7 u _ hm h))
            · intro D u W hG hDi hw hd K hK
              have r3 : u 3 = .slice A5 j C5 := hd 3 (by decide) (.inl rfl)
              obtain ⟨q, r7, _, hq⟩ : ∃ q, u 7 = .slice (some ⟨q, 0, none⟩) 1 1 ∧ B1 ≤ q ∧ W.heap[q]? = some (.cells #[.int .i64 x] 3 (0, 0)) := hd 7 (by decide) (.inr rfl)
              have hown := hG.2.2.2.2.2.2 hDi
              clear hd
              refine ⟨?_⟩
              simp only [slotsOf_some, slotsOf_none, slotsOf_nil, puts_cons, puts_nil, Nat.zero_add, Nat.reduceAdd]
              refine step_app elInt B1 rfl (.tmp 24) (.tmp 28) rfl (.slice A5 j C5) j rows (by simp [Act.eval, Act.put, r3]) hown (some ⟨q, 0, none⟩) 1 1 [.int .i64 x] (by simp [Act.eval, Act.put, r7]) rfl (.inr ⟨q, 0, rfl, fun i hi => by have : i = 0 := (by simpa using hi); subst this; rw [cell_at hq]; rfl⟩) (by simp [Value.oneCell']) (by omega) hG.2.2.1 ?_
              intro A' C' w' hown' hgrow hb'
              refine hK _ _ _ (by simp [slotsOf_some, slotsOf_none, slotsOf_nil, puts_cons, puts_nil, Act.put, -Function.const_apply]) (dcG_app hG hb') ⟨A', C', updV_self, hown'⟩ (fun m hm hf hwm hmm hr => ?_)
              rcases m with _|_|_|_|_|_|_|_|_|_|_|m
              all_goals first | exact absurd rfl hm | exact absurd rfl hf | exact absurd hwm (by decide) | (exact dcR_upd _ 8 u _ hm hr)
            · intro D u W hG hDi hw hd K hK
              have r0 : u 0 = .int .i64 (k : Nat) := hd 0 (by decide) (.inl rfl)
              have HK := Lib.hid hK
              clear hK hd
              refine ⟨?_⟩
              simp only [slotsOf_some, slotsOf_none, slotsOf_nil, puts_cons, puts_nil, Nat.zero_add, Nat.reduceAdd]
              go_simp
              exact HK.out _ _ _ (by simp [slotsOf_some, slotsOf_none, slotsOf_nil, puts_cons, puts_nil, Act.put, r0]) (dcG_below 9 (by decide) hG (Below.refl _ _)) updV_self (fun m hm _ _ _ h => dcR_upd m 9 u _ hm h)
            · intro D u W hG hDi hw hd K hK
              have r9 : u 9 = .pointer (some ⟨a, k, none⟩) := hd 9 (by decide) (.inl rfl)
              obtain ⟨A', C', r8, hown'⟩ : ∃ A' C', u 8 = .slice A' (j + 1) C' ∧ W.ownsRow B1 3 1 (.slice A' (j + 1) C') (j + 1) (rows ++ [Value.int .i64 x]) := hd 8 (by decide) (.inl rfl)
              have hx := hG.2.2.2.2.2.1 hDi
              have t0 := s2_cell hx k hlt
              rw [updV_self] at t0
              have tf := frozen_at hx k
              have HX := Lib.hid hx
              clear hx
              have HK := Lib.hid hK
              clear hK hd
              refine ⟨?_⟩
              simp only [slotsOf_some, slotsOf_none, slotsOf_nil, puts_cons, puts_nil, Nat.zero_add, Nat.reduceAdd]
              go_simp
              have hx := HX.out
              refine HK.out undef _ _ (by simp [slotsOf_some, slotsOf_none, slotsOf_nil, puts_cons, puts_nil, Act.put, r8, r9]) (dcG_set hG _ _) ⟨A', C', by rw [setCell_at hx, s2_set _ k hlt, updV_upd], ownsRow_setCell_below hown' haB _⟩ (fun m hm hf hwm hmm hr => ?_)
              have hr := dcR_upd m 10 u undef hm hr
              rcases m with _|_|_|_|_|_|_|_|_|_|_|m
              all_goals first | exact hr | exact absurd rfl hm | (obtain ⟨A2, C2, h1, h2⟩ := hr; exact ⟨A2, C2, h1, ownsRow_setCell_below h2 haB _⟩) | exact absurd (hmm _ rfl) (by decide)
          case hend =>
            clear ha5 hown hR5
            intro D u W hall hG hR'
            obtain ⟨A', C', hx, hown'⟩ : ∃ A' C', W.heap[a]? = some (.cells (s2 (updV f k (.slice A' (j + 1) C'))) 51 (0, 0)) ∧ W.ownsRow B1 3 1 (.slice A' (j + 1) C') (j + 1) (rows ++ [Value.int .i64 x]) := hR' 10 (by decide) rfl
            have hRW := hG.2.2.2.2.1 (hall 5 (by decide))
            have hbW := hb5.trans hG.1
            have hBW := hG.2.2.1
            clear hR' hG
            simp only [slotsOf_some, slotsOf_none, slotsOf_nil, puts_cons, puts_nil, Nat.zero_add, Nat.reduceAdd]
            simp [Act.put]
            go_wp2
            go_light
            rw [← hrw] at hown'
            exact ⟨⟨j + 1, A', C', by omega, by go_num, hbW, hBW, by rw [HKK.out.1]; exact hRW, hx, by rw [HKK.out.1]; simpa using hown'⟩, by simp [intOf]; omega⟩
        · have ej : j = n := by omega
          subst ej
          clear hlj hjn
          go_wp2
          go_light
          have hm := HM.out
          rw [HN.out, Int.toNat_natCast] at hm
          refine ⟨⟨k + 1, updV f k (.slice A5 j C5), by omega, by go_num, (hbt.trans (But.only ho4)).trans (hb5.mono (by omega)), by omega, by rw [hm.2]; exact hR5, ha5, fun m hmk => ?_, fun m h1 h2 => ?_⟩, by simp [intOf]; omega⟩
          · by_cases e : m = k
            · subst e
              refine ⟨A5, C5, ?_, ?_, fun x hx => ?_⟩
              · rw [updV_self, hm.1, rdK_len]
              · rw [hm.1]; exact Row.of_own hown
              · have := (hown.lt x.block (by rw [hx]; rfl)).1
                omega
            · obtain ⟨A6, C6, h6, hi6, hl6⟩ := HR.out.1 m (by omega)
              exact ⟨A6, C6, by rw [updV_ne e]; exact h6, (hi6.but (But.only (B := B1) (a := a) ho4) hga hl6 (by rw [hB1, ho4.size]; exact Nat.le_refl _)).but hb5 hga hl6 (by omega), hl6⟩
          · rw [updV_ne (by omega)]
            exact HR.out.2 m (by omega) h2
    · have ek : k = 2 := by omega
      subst ek
      clear hlt hk2
      obtain ⟨A0, C0, f0, hi0, _⟩ := hrows 0 (by omega)
      obtain ⟨A1, C1, f1, hi1, _⟩ := hrows 1 (by omega)
      have c0 := s2_cell ha3 0 (by omega)
      have c1 := s2_cell ha3 1 (by omega)
      rw [f0] at c0
      rw [f1] at c1
      have hbr := (hbt.below (by omega) (by omega)).mono (show w.heap.size + 1 ≤ g by omega)
      have hr2 : w3.heap[w.heap.size]? = some (.cells #[.slice none 0 0, .slice none 0 0] 39 (0, 0)) := by
        rw [hbr.block w.heap.size (by omega)]; exact HA.out.2
      have hbw := HA.out.1.trans (hbr.mono (by omega))
      generalize hst : rdS b 2 = st at *
      obtain ⟨bs, e0⟩ := st
      simp only at hR3
      have HS := Lib.hid hst
      clear hst hrows hnil ha3 hbt hbr HA
      generalize hp : rdM b 0 = p at *
      generalize hq : rdM b 1 = q at *
      have hpl : p.length ≤ 9 := by rw [← hp]; exact rdM_le b 0
      have hql : q.length ≤ 9 := by rw [← hq]; exact rdM_le b 1
      have HP := Lib.hid (And.intro hp hq)
      clear hp hq f0 f1
      have hbx := bAlloc (Below.refl w3.heap.size w3) (.cells #[.slice A0 p.length C0, .slice A1 q.length C1] 39)
      have k0 : (w3.alloc (.cells #[.slice A0 p.length C0, .slice A1 q.length C1] 39)).cell? ⟨w3.heap.size, 0, none⟩ = some (.slice A0 p.length C0) := by rw [cell_at (heap_alloc_new w3 _)]; rfl
      have k1 : (w3.alloc (.cells #[.slice A0 p.length C0, .slice A1 q.length C1] 39)).cell? ⟨w3.heap.size, 1, none⟩ = some (.slice A1 q.length C1) := by rw [cell_at (heap_alloc_new w3 _)]; rfl
      have hw3 : w.heap.size < w3.heap.size := by omega
      have e0' := hi0.below hbx
      have e1' := hi1.below hbx
      replace hR3 := hR3.below (hbx.mono (by omega))
      replace hr2 := keepH hbx hr2
      replace hbw := bTrans hbw (hbx.mono (by omega))
      have hb := h.below hbw
      clear hi0 hi1 hbx
      go_wp2_with fail
      generalize w3.alloc (.cells #[.slice A0 p.length C0, .slice A1 q.length C1] 39) = w4 at *
      by_cases hk : checkB p q = true
      · refine (Encode_yes p q A0 A1 C0 C1 w4 e0' e1' hk).mono ?_
        rintro e w5 ⟨A2, C2, rfl, hi2, hb5⟩
        replace hR3 := hR3.below (hb5.mono (by have := hR3.lt; omega))
        (replace e0' := Ints.below e0' hb5; replace e1' := Ints.below e1' hb5; replace hb := Ints.below hb hb5; replace k0 := keepC hb5 k0; replace k1 := keepC hb5 k1; replace hr2 := keepH hb5 hr2; replace hbw := bTrans hbw hb5)
        clear hb5
        have z0 : w5.cell? ⟨w.heap.size, 0, none⟩ = some (.slice none 0 0) := by rw [cell_at hr2]; rfl
        have z1 : w5.cell? ⟨w.heap.size, 1, none⟩ = some (.slice none 0 0) := by rw [cell_at hr2]; rfl
        have zf := fun o => frozen_at hr2 o
        have B1 := BytesIn_ints hi2
        have B2 := BytesIn_ints hb
        have EQ := fun w' h1 h2 => Try.bytes_Equal_all A2 A _ C2 _ C (encL p q) b w' rfl rfl h1 h2
        have he : (Lib.bytesOf (encL p q) == Lib.bytesOf b) = decide (encL p q = b) := bytesOf_eq (encL_in hk) hby
        simp only [he] at EQ
        have EN := fun w' h => rEnd_calls g bs e0 w' h
        have hen : endE bs e0 = 0 ∨ endE bs e0 ≠ 0 := by omega
        have hno : ∀ v l, checkB v l = true → encL v l = b → v = p ∧ l = q ∧ endE bs e0 = 0 := fun v l hc hvl => by
          obtain ⟨d1, d2, d3⟩ := dec_of hc
          rw [hvl, HP.out.1] at d1
          rw [hvl, HP.out.2] at d2
          rw [hvl, HS.out] at d3
          exact ⟨d1.symm, d2.symm, d3⟩
        have HNO := Lib.hid hno
        clear hno
        generalize endE bs e0 = en at *
        rcases hen with rfl | hen
        · by_cases hq : encL p q = b
          · rw [decide_eq_true hq] at EQ
            have HQ := Lib.hid hq
            clear he hq
            go_wp2_with fail
            refine (EN _ hR3).mono ?_
            rintro e w6 ⟨rfl, rfl⟩
            go_wp2_with fail
            refine (EQ _ B1 B2).mono ?_
            rintro e w7 ⟨rfl, rfl⟩
            go_wp2
            refine bodyPost_ret (v := .tuple #[.agg #[.slice A0 p.length C0, .slice A1 q.length C1], .int .i64 0]) ?_ rfl ?_
            · simp [results, Try.results33, go_sem, z0, z1, zf]
            · have hs := set_conf_at hr2 0 (.slice A0 p.length C0)
              exact ⟨p, q, A0, A1, C0, C1, 0, rfl, (e0'.set_c hr2 0 _).set_c hs 1 _, (e1'.set_c hr2 0 _).set_c hs 1 _, Below.setCell (Below.setCell hbw (by simp) _) (by simp) _, .inl ⟨rfl, hk, HQ.out⟩⟩
          · rw [decide_eq_false hq] at EQ
            have HQ := Lib.hid hq
            clear he hq
            go_wp2_with fail
            refine (EN _ hR3).mono ?_
            rintro e w6 ⟨rfl, rfl⟩
            go_wp2_with fail
            refine (EQ _ B1 B2).mono ?_
            rintro e w7 ⟨rfl, rfl⟩
            go_wp2
            refine bodyPost_ret (v := .tuple #[.agg #[.slice none 0 0, .slice none 0 0], .int .i64 140]) ?_ rfl ?_
            · simp [results, Try.results33, go_sem, z0, z1, zf]
            · exact ⟨[], [], none, none, 0, 0, 140, rfl, Ints.nil _ _ _, Ints.nil _ _ _, Below.setCell (Below.setCell hbw (by simp) _) (by simp) _, .inr ⟨rfl, rfl, rfl, fun v l hc hvl => by obtain ⟨rfl, rfl, _⟩ := HNO.out v l hc hvl; exact HQ.out hvl⟩⟩
        · have hen' : (en != 0) = true := by simpa using hen
          have HE := Lib.hid hen
          clear he hen
          go_wp2_with fail
          refine (EN _ hR3).mono ?_
          rintro e w6 ⟨rfl, rfl⟩
          go_wp2
          refine bodyPost_ret (v := .tuple #[.agg #[.slice none 0 0, .slice none 0 0], .int .i64 140]) ?_ rfl ?_
          · simp [results, Try.results33, go_sem, z0, z1, zf]
          · exact ⟨[], [], none, none, 0, 0, 140, rfl, Ints.nil _ _ _, Ints.nil _ _ _, Below.setCell (Below.setCell hbw (by simp) _) (by simp) _, .inr ⟨rfl, rfl, rfl, fun v l hc hvl => HE.out (HNO.out v l hc hvl).2.2⟩⟩
      · have hkf : checkB p q = false := by simpa using hk
        have hno : ∀ v l, checkB v l = true → encL v l = b → False := fun v l hc hvl => by
          obtain ⟨d1, d2, d3⟩ := dec_of hc
          rw [hvl, HP.out.1] at d1
          rw [hvl, HP.out.2] at d2
          rw [← d1, ← d2, hkf] at hc
          cases hc
        have HNO := Lib.hid hno
        clear hno hk
        refine (Encode_no p q A0 A1 C0 C1 w4 e0' (by omega) e1' (by omega) hkf).mono ?_
        rintro e w5 ⟨rfl, hb5⟩
        replace hR3 := hR3.below (hb5.mono (by have := hR3.lt; omega))
        (replace e0' := Ints.below e0' hb5; replace e1' := Ints.below e1' hb5; replace hb := Ints.below hb hb5; replace k0 := keepC hb5 k0; replace k1 := keepC hb5 k1; replace hr2 := keepH hb5 hr2; replace hbw := bTrans hbw hb5)
        clear hb5
        have z0 : w5.cell? ⟨w.heap.size, 0, none⟩ = some (.slice none 0 0) := by rw [cell_at hr2]; rfl
        have z1 : w5.cell? ⟨w.heap.size, 1, none⟩ = some (.slice none 0 0) := by rw [cell_at hr2]; rfl
        have zf := fun o => frozen_at hr2 o
        have EN := fun w' h => rEnd_calls g bs e0 w' h
        have hen : endE bs e0 = 0 ∨ endE bs e0 ≠ 0 := by omega
        generalize endE bs e0 = en at *
        rcases hen with rfl | hen
        · go_wp2_with fail
          refine (EN _ hR3).mono ?_
          rintro e w6 ⟨rfl, rfl⟩
          go_wp2
          refine bodyPost_ret (v := .tuple #[.agg #[.slice none 0 0, .slice none 0 0], .int .i64 140]) ?_ rfl ?_
          · simp [results, Try.results33, go_sem, z0, z1, zf]
          · exact ⟨[], [], none, none, 0, 0, 140, rfl, Ints.nil _ _ _, Ints.nil _ _ _, Below.setCell (Below.setCell hbw (by simp) _) (by simp) _, .inr ⟨rfl, rfl, rfl, fun v l hc hvl => HNO.out v l hc hvl⟩⟩
        · have hen' : (en != 0) = true := by simpa using hen
          clear hen
          go_wp2_with fail
          refine (EN _ hR3).mono ?_
          rintro e w6 ⟨rfl, rfl⟩
          go_wp2
          refine bodyPost_ret (v := .tuple #[.agg #[.slice none 0 0, .slice none 0 0], .int .i64 140]) ?_ rfl ?_
          · simp [results, Try.results33, go_sem, z0, z1, zf]
          · exact ⟨[], [], none, none, 0, 0, 140, rfl, Ints.nil _ _ _, Ints.nil _ _ _, Below.setCell (Below.setCell hbw (by simp) _) (by simp) _, .inr ⟨rfl, rfl, rfl, fun v l hc hvl => HNO.out v l hc hvl⟩⟩
end Go.Proofs.Ytinkbiinbfbjgaa

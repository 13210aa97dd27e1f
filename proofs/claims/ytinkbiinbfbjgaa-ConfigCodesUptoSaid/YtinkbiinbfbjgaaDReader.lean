/- Contracts of codec's Reader: Read, Byte, End. -/
import Derived.Test.YtinkbiinbfbjgaaDConfC
import Derived.Test.YtinkbiinbfbjgaaDApp
namespace Go.Proofs.Ytinkbiinbfbjgaa
open Go.RowKit
set_option linter.unusedVariables false
set_option linter.unusedSimpArgs false

/-- Nothing has turned but block g. -/
structure Only (g : Nat) (w w' : World) : Prop where
  os : w'.os = w.os
  tape : w'.tape = w.tape
  output : w'.output = w.output
  size : w'.heap.size = w.heap.size
  block : ∀ k, k ≠ g → w'.heap[k]? = w.heap[k]?
theorem Only.refl (g : Nat) (w : World) : Only g w w := ⟨rfl, rfl, rfl, rfl, fun _ _ => rfl⟩
theorem Only.trans {g : Nat} {a b c : World} (h : Only g a b) (k : Only g b c) : Only g a c := ⟨k.os.trans h.os, k.tape.trans h.tape, k.output.trans h.output, k.size.trans h.size, fun i hi => (k.block i hi).trans (h.block i hi)⟩
theorem Only.set {g : Nat} {w w' : World} (h : Only g w w') (o : Nat) (v : Value) : Only g w (w'.setCell ⟨g, o, none⟩ v) :=
  ⟨h.os, h.tape, h.output, by simpa using h.size, fun k hk => by rw [Below.heap_setCell _ _ _ _ hk]; exact h.block k hk⟩
theorem Only.ints {g : Nat} {w w' : World} (h : Only g w w') {k : IntKind} {a : Option Addr} {l : List Int} (hi : Ints w k a l) (hg : ∀ x, a = some x → x.block ≠ g) : Ints w' k a l := by
  rcases hi with hi | ⟨b, o, rfl, hc⟩
  · exact .inl hi
  · refine .inr ⟨b, o, rfl, fun i hi => ?_⟩
    rw [← hc i hi]
    simp only [World.cell?, h.block b (hg _ rfl)]
theorem Only.belowX {g B : Nat} {w w' : World} (h : Only g w w') : BelowX B g w w' := ⟨h.os, h.tape, h.output, by rw [h.size]; exact Nat.le_refl _, fun k _ hk => h.block k hk⟩

/-- A reader in block g: what is left, and its error. -/
def RAt (w : World) (g : Nat) (bs : List Int) (e : Int) : Prop :=
  ∃ A C, w.heap[g]? = some (.cells #[.slice A bs.length C, .int .i64 e] 117 (0, 0)) ∧ Ints w .u8 A bs ∧ (∀ x, A = some x → x.block < g) ∧ bs.length ≤ C ∧ ∀ x ∈ bs, 0 ≤ x ∧ x < 256

theorem RAt.below {w w' : World} {g : Nat} {bs : List Int} {e : Int} (h : RAt w g bs e) (hb : Below (g + 1) w w') : RAt w' g bs e := by
  obtain ⟨A, C, hh, hi, hA, hC, hx⟩ := h
  refine ⟨A, C, (hb.block g (by omega)).trans hh, ?_, hA, hC, hx⟩
  rcases hi with hi | ⟨b, o, rfl, hc⟩
  · exact .inl hi
  · refine .inr ⟨b, o, rfl, fun i hi => ?_⟩
    have hbg := hA _ rfl
    simp only at hbg
    rw [← hc i hi]
    simp only [World.cell?, hb.block b (by omega)]

theorem set2_at {w : World} {g : Nat} {a b : Value} {T : TypeId} (h : w.heap[g]? = some (.cells #[a, b] T (0, 0))) (x : Value) : (w.setCell ⟨g, 0, none⟩ x).heap[g]? = some (.cells #[x, b] T (0, 0)) := by rw [setCell_at h]; rfl
theorem set2_at1 {w : World} {g : Nat} {a b : Value} {T : TypeId} (h : w.heap[g]? = some (.cells #[a, b] T (0, 0))) (x : Value) : (w.setCell ⟨g, 1, none⟩ x).heap[g]? = some (.cells #[a, x] T (0, 0)) := by rw [setCell_at h]; rfl

theorem other_cell {w : World} {g b o : Nat} (hne : b ≠ g) (o' : Nat) (v : Value) : (w.setCell ⟨g, o', none⟩ v).cell? ⟨b, o, none⟩ = w.cell? ⟨b, o, none⟩ :=
  World.cell?_setCell_other _ _ _ _ (fun e => hne (congrArg Addr.block e).symm)
theorem ints_tail {w : World} {k : IntKind} {b o : Nat} {x : Int} {r : List Int} (h : Ints w k (some ⟨b, o, none⟩) (x :: r)) : Ints w k (some ⟨b, o + 1, none⟩) r := by
  by_cases hr : r = []
  · subst hr; exact Ints.nil _ _ _
  obtain ⟨b', o', e, hbl, hc⟩ := h.open (by simp)
  cases e
  refine .inr ⟨b, o + 1, rfl, fun i hi => ?_⟩
  have hi' : i < r.length := by simpa using hi
  have := hc (i + 1) (by simp; omega)
  rw [show o + 1 + i = o + (i + 1) by omega, this]
  simp [List.getD, hi']

set_option maxHeartbeats 1000000 in
theorem take_ok (g : Nat) (x : Int) (r : List Int) (w : World) (h : RAt w g (x :: r) 0) :
    Calls Try.prog 87 #[.pointer (some ⟨g, 0, none⟩), .int .i64 1] w fun e w' => ∃ b o c, e = .returned (.tuple #[.slice (some ⟨b, o, none⟩) 1 c, .bool true]) ∧ w'.cell? ⟨b, o, none⟩ = some (.int .u8 x) ∧ b < w'.heap.size ∧ RAt w' g r 0 ∧ Only g w w' := by
  obtain ⟨A, C, hh, hi, hA, hC, hb⟩ := h
  obtain ⟨b, o, rfl, hbl, hc⟩ := hi.open (by simp)
  have hlt := hA _ rfl
  simp only at hlt
  have hne : b ≠ g := by omega
  have c0 : w.cell? ⟨g, 0, none⟩ = some (.slice (some ⟨b, o, none⟩) (x :: r).length C) := by rw [cell_at hh]; rfl
  have c1 : w.cell? ⟨g, 1, none⟩ = some (.int .i64 0) := by rw [cell_at hh]; rfl
  have cf : ∀ o, w.frozen? ⟨g, o, none⟩ = false := fun o => frozen_at hh o
  have hx : w.cell? ⟨b, o, none⟩ = some (.int .u8 x) := by have := hc 0 (by simp); simpa using this
  have hgl := heap_lt hh
  simp only [List.length_cons] at c0 hC
  have HH := Lib.hid (And.intro hh (And.intro hi hb))
  clear hh hi hA hb hc
  by_cases h1 : C = 1
  · subst h1
    have hr : r = [] := List.length_eq_zero_iff.1 (by omega)
    subst hr
    go_enter Try.func87, Try.ntmps87
    go_wp2
    go_ret2
    go_light
    refine ⟨b, o, 1, rfl, ?_, by simpa using hbl, ⟨_, _, set2_at HH.out.1 _, Ints.nil _ _ _, fun y hy => by cases hy; exact hlt, Nat.zero_le _, fun y hy => by cases hy⟩, (Only.refl _ _).set _ _⟩
    rw [other_cell hne]
    exact hx
  · have h1' : ¬ ((C : Int) = 1) := by omega
    have h : decide ((r.length : Int) + 1 < 1) = false := by rw [decide_eq_false_iff_not]; omega
    go_enter Try.func87, Try.ntmps87
    go_wp2
    go_ret2
    go_light
    refine ⟨b, o, _, rfl, ?_, by simpa using hbl, ⟨_, _, set2_at HH.out.1 _, ?_, ?_, ?_, ?_⟩, (Only.refl _ _).set _ _⟩
    · rw [other_cell hne]
      exact hx
    · exact ((Only.refl _ _).set _ _).ints (ints_tail HH.out.2.1) (fun y hy => by cases hy; exact hne)
    · intro y hy; cases hy; exact hlt
    · omega
    · exact fun y hy => HH.out.2.2 y (List.mem_cons_of_mem _ hy)

set_option maxHeartbeats 1000000 in
theorem take_short (g : Nat) (w : World) (h : RAt w g [] 0) :
    Calls Try.prog 87 #[.pointer (some ⟨g, 0, none⟩), .int .i64 1] w fun e w' => e = .returned (.tuple #[.slice none 0 0, .bool false]) ∧ RAt w' g [] 10 ∧ Only g w w' := by
  obtain ⟨A, C, hh, hi, hA, hC, hb⟩ := h
  have c0 : w.cell? ⟨g, 0, none⟩ = some (.slice A 0 C) := by rw [cell_at hh]; rfl
  have c1 : w.cell? ⟨g, 1, none⟩ = some (.int .i64 0) := by rw [cell_at hh]; rfl
  have cf : ∀ o, w.frozen? ⟨g, o, none⟩ = false := fun o => frozen_at hh o
  have hgl := heap_lt hh
  have HH := Lib.hid (And.intro hh (And.intro hi hA))
  clear hh hi hA hb
  go_enter Try.func87, Try.ntmps87
  go_wp2
  go_ret2
  go_light
  refine ⟨rfl, ⟨_, _, set2_at1 HH.out.1 _, Ints.nil _ _ _, HH.out.2.2, hC, fun y hy => by cases hy⟩, (Only.refl _ _).set _ _⟩

set_option maxHeartbeats 1000000 in
theorem take_err (g : Nat) (bs : List Int) (e : Int) (he : e ≠ 0) (w : World) (h : RAt w g bs e) :
    Calls Try.prog 87 #[.pointer (some ⟨g, 0, none⟩), .int .i64 1] w fun r w' => r = .returned (.tuple #[.slice none 0 0, .bool false]) ∧ RAt w' g bs e ∧ Only g w w' := by
  have HH := Lib.hid h
  obtain ⟨A, C, hh, hi, hA, hC, hb⟩ := h
  have c1 : w.cell? ⟨g, 1, none⟩ = some (.int .i64 e) := by rw [cell_at hh]; rfl
  have hgl := heap_lt hh
  have he' : (e == 0) = false := by simpa using he
  have he2 : (e != 0) = true := by simpa using he
  clear hh hi hA hb
  go_enter Try.func87, Try.ntmps87
  go_wp2
  go_ret2
  go_light
  exact ⟨rfl, HH.out, Only.refl _ _⟩

/-- One byte read: the byte, what is left, the error. -/
def rdB (bs : List Int) (e : Int) : Int × List Int × Int := if e = 0 then match bs with | [] => (0, [], 10) | x :: r => (x, r, 0) else (0, bs, e)

theorem or_zero {x : Int} (h : 0 ≤ x ∧ x < 256) : bits .or .u64 0 x = x := by
  unfold bits
  simp only [show BitVec.ofInt IntKind.u64.bits 0 = 0#_ from rfl, BitVec.zero_or, BitVec.toNat_ofInt]
  simp [IntKind.wrap, IntKind.signed, IntKind.bits]
  omega

set_option maxHeartbeats 1000000 in
theorem high_calls (g : Nat) (bs : List Int) (e : Int) (w : World) (h : RAt w g bs e) :
    Calls Try.prog 81 #[.pointer (some ⟨g, 0, none⟩), .int .i64 1] w fun en w' => en = .returned (.int .u64 (rdB bs e).1) ∧ RAt w' g (rdB bs e).2.1 (rdB bs e).2.2 ∧ Only g w w' := by
  by_cases he : e = 0
  · subst he
    cases bs with
    | nil =>
      go_enter Try.func81, Try.ntmps81
      go_wp2_with fail
      refine (take_short g w h).mono ?_
      rintro e w1 ⟨rfl, h1, o1⟩
      go_wp2_with fail
      go_loopw [18, 7] (fun i v wr => (i = .int .i64 0 ∧ v = .int .u64 0) ∧ wr = w1) (fun i _ _ => 0)
      case atStart => exact ⟨⟨rfl, rfl⟩, rfl⟩
      case round =>
        obtain ⟨⟨rfl, rfl⟩, rfl⟩ := hrel
        go_wp2
        go_ret
        go_light
        exact ⟨rfl, h1, o1⟩
    | cons x r =>
      have hx : 0 ≤ x ∧ x < 256 := by
        obtain ⟨A, C, hh, hi, hA, hC, hb⟩ := h
        exact hb x (List.mem_cons_self ..)
      go_enter Try.func81, Try.ntmps81
      go_wp2_with fail
      refine (take_ok g x r w h).mono ?_
      rintro e w1 ⟨b, o, c, rfl, hc, hbl, h1, o1⟩
      go_wp2_with fail
      go_loopw [18, 7] (fun i v wr => wr = w1 ∧ ((i = .int .i64 0 ∧ v = .int .u64 0) ∨ (i = .int .i64 1 ∧ v = .int .u64 x))) (fun i _ _ => 1 - (intOf i).toNat)
      case atStart => exact ⟨rfl, .inl ⟨rfl, rfl⟩⟩
      case round =>
        obtain ⟨rfl, ⟨rfl, rfl⟩ | ⟨rfl, rfl⟩⟩ := hrel
        · go_wp2
          go_light
          exact ⟨⟨trivial, .inr ⟨rfl, by rw [or_zero hx]⟩⟩, by simp [intOf]⟩
        · go_wp2
          go_ret
          go_light
          exact ⟨rfl, h1, o1⟩
  · have he' : rdB bs e = (0, bs, e) := by simp [rdB, he]
    rw [he']
    go_enter Try.func81, Try.ntmps81
    go_wp2_with fail
    refine (take_err g bs e he w h).mono ?_
    rintro e w1 ⟨rfl, h1, o1⟩
    go_wp2_with fail
    go_loopw [18, 7] (fun i v wr => (i = .int .i64 0 ∧ v = .int .u64 0) ∧ wr = w1) (fun i _ _ => 0)
    case atStart => exact ⟨⟨rfl, rfl⟩, rfl⟩
    case round =>
      obtain ⟨⟨rfl, rfl⟩, rfl⟩ := hrel
      go_wp2
      go_ret
      go_light
      exact ⟨rfl, h1, o1⟩

set_option maxHeartbeats 1000000 in
theorem rByte_calls (g : Nat) (bs : List Int) (e : Int) (w : World) (h : RAt w g bs e) :
    Calls Try.prog 67 #[.pointer (some ⟨g, 0, none⟩)] w fun en w' => en = .returned (.int .u8 (rdB bs e).1) ∧ RAt w' g (rdB bs e).2.1 (rdB bs e).2.2 ∧ Only g w w' := by
  have hx : 0 ≤ (rdB bs e).1 ∧ (rdB bs e).1 < 256 := by
    obtain ⟨A, C, hh, hi, hA, hC, hb⟩ := h
    unfold rdB
    split
    · split
      · simp
      · rename_i x r; exact hb x (List.mem_cons_self ..)
    · simp
  have hw := wrap_u8 hx
  go_enter Try.func67, Try.ntmps67
  go_wp2_with fail
  refine (high_calls g bs e w h).mono ?_
  rintro e w1 ⟨rfl, h1, o1⟩
  go_wp2
  go_ret
  go_light
  exact ⟨rfl, h1, o1⟩

/-- Is anything left, or is there an error? -/
def endE (bs : List Int) (e : Int) : Int := if e = 0 ∧ bs ≠ [] then 13 else e

set_option maxHeartbeats 1000000 in
theorem rEnd_calls (g : Nat) (bs : List Int) (e : Int) (w : World) (h : RAt w g bs e) :
    Calls Try.prog 68 #[.pointer (some ⟨g, 0, none⟩)] w fun en w' => en = .returned (.int .i64 (endE bs e)) ∧ w' = w := by
  obtain ⟨A, C, hh, hi, hA, hC, hb⟩ := h
  have c0 : w.cell? ⟨g, 0, none⟩ = some (.slice A bs.length C) := by rw [cell_at hh]; rfl
  have c1 : w.cell? ⟨g, 1, none⟩ = some (.int .i64 e) := by rw [cell_at hh]; rfl
  have hgl := heap_lt hh
  clear hh hi hA hb
  by_cases he : e = 0
  · subst he
    by_cases hb : bs.length = 0
    · have hbs : bs = [] := List.length_eq_zero_iff.1 hb
      subst hbs
      go_enter Try.func68, Try.ntmps68
      go_wp2
      go_ret
      exact ⟨rfl, rfl⟩
    · have hne : bs ≠ [] := fun e => hb (by simp [e])
      have hpos : 0 < bs.length := by omega
      go_enter Try.func68, Try.ntmps68
      go_wp2
      go_ret
      exact ⟨by simp [endE, hne], rfl⟩
  · have he' : (e == 0) = false := by simpa using he
    go_enter Try.func68, Try.ntmps68
    go_wp2
    go_ret
    exact ⟨by simp [endE, he], rfl⟩

set_option maxHeartbeats 1000000 in
theorem rRead_calls (bs : List Int) (A : Option Addr) (C : Nat) (w : World) (h : Ints w .u8 A bs) (hn : A = none → bs = [] ∧ C = 0) (hl : bs.length < 2^40) (hb : ∀ x ∈ bs, 0 ≤ x ∧ x < 256) :
    Calls Try.prog 66 #[.slice A bs.length C] w fun e w' => ∃ g, e = .returned (.pointer (some ⟨g, 0, none⟩)) ∧ RAt w' g bs 0 ∧ w.heap.size ≤ g ∧ Below w.heap.size w w' := by
  go_enter Try.func66, Try.ntmps66
  go_wp2_with fail
  refine (bClone_calls bs A C w h hn hl).mono ?_
  rintro e w1 ⟨A', C', rfl, ho, hb1⟩
  go_wp2
  go_ret
  go_light
  obtain ⟨A1, C1, e1, hn1, hC1, hlt1⟩ := own_slice ho
  cases e1
  have hnew := heap_alloc_new w1 (.cells #[.slice A' bs.length C', .int .i64 0] 117)
  have hi : Ints w1 .u8 A' bs := Row.of_own ho
  refine ⟨w1.heap.size, rfl, ⟨A', C', hnew, hi.below (bAlloc (Below.refl _ _) _), fun x hx => (hlt1 x hx).2, hC1, hb⟩, hb1.size, bAlloc hb1 _⟩
end Go.Proofs.Ytinkbiinbfbjgaa

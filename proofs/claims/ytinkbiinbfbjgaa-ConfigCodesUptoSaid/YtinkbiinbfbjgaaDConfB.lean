/- Contracts of config.rises, config.Check (with the library's ContainsFunc), and the reference's In, rises, Votes, Has, Check, Majority. -/
import Derived.Test.YtinkbiinbfbjgaaDConfA
namespace Go.Proofs.Ytinkbiinbfbjgaa
open Go.RowKit
set_option linter.unusedVariables false

def okAt (l : List Int) (i : Nat) : Bool := decide (0 ≤ l.getD i 0) && (decide (l.getD i 0 < 8) && (decide (i = 0) || decide (l.getD (i - 1) 0 < l.getD i 0)))
def risesB (l : List Int) : Bool := (List.range l.length).all (okAt l)
theorem rises_false {l : List Int} {k : Nat} (hk : k < l.length) (h : okAt l k = false) : risesB l = false := by
  unfold risesB
  rw [List.all_eq_false]
  exact ⟨k, by simpa using hk, by simp [h]⟩
theorem rises_true {l : List Int} (h : ∀ i, i < l.length → okAt l i = true) : risesB l = true := by
  unfold risesB
  rw [List.all_eq_true]
  intro i hi
  exact h i (by simpa using hi)
theorem rises_at {l : List Int} (h : risesB l = true) (i : Nat) (hi : i < l.length) : okAt l i = true := by
  unfold risesB at h
  rw [List.all_eq_true] at h
  exact h i (by simpa using hi)

set_option maxHeartbeats 1000000 in
theorem rises_calls (l : List Int) (a : Option Addr) (c : Nat) (w : World) (h : Ints w .i64 a l) (hl : l.length < 2^60) :
    Calls Try.prog 57 #[.slice a l.length c] w fun e w' => e = .returned (.bool (risesB l)) ∧ w = w' := by
  by_cases h0 : 0 < l.length
  · obtain ⟨b, o, rfl, hb, hc⟩ := h.open h0
    clear h h0
    go_enter Try.func57, Try.ntmps57
    go_wp2
    go_loop [7] (fun i => ∃ k : Nat, k ≤ l.length ∧ i = .int .i64 k ∧ ∀ j, j < k → okAt l j = true) (fun i => l.length - (intOf i).toNat)
    case atStart => exact ⟨0, by omega, rfl, fun j hj => by omega⟩
    case round =>
      obtain ⟨k, hk, rfl, hp⟩ := hrel
      by_cases hlt : k < l.length
      · have hcell := hc k hlt
        have hF := @rises_false l k hlt
        have hT : okAt l k = true → ∀ j, j < k + 1 → okAt l j = true := fun h j hj => by
          by_cases e : j = k
          · rw [e]; exact h
          · exact hp j (by omega)
        clear hp
        by_cases hk0 : k = 0
        · subst hk0
          rw [Nat.add_zero] at hcell
          clear hc
          unfold okAt at hF hT
          generalize l.getD 0 0 = x at *
          go_wp2
          all_goals first
            | (go_ret; go_light; exact ⟨ret_of (bool_of (hF (by grind)).symm), rfl⟩)
            | (go_light; exact ⟨⟨1, by omega, by go_num, hT (by grind)⟩, by simp [intOf]; omega⟩) | (go_ret; exact ⟨rfl, rfl⟩)
        · obtain ⟨m, rfl⟩ : ∃ m, k = m + 1 := ⟨k - 1, by omega⟩
          have hcell' := hc m (by omega)
          clear hc
          unfold okAt at hF hT
          simp only [Nat.add_sub_cancel] at hF hT
          generalize l.getD (m + 1) 0 = x at *
          generalize l.getD m 0 = y at *
          go_wp2
          all_goals first
            | (go_ret; go_light; exact ⟨ret_of (bool_of (hF (by grind)).symm), rfl⟩)
            | (go_light; exact ⟨⟨m + 1 + 1, by omega, by go_num, hT (by grind)⟩, by simp [intOf]; omega⟩) | (go_ret; exact ⟨rfl, rfl⟩)
      · have hkl : k = l.length := by omega
        clear hc
        go_wp2
        go_ret
        go_light
        exact ⟨ret_of (bool_of (rises_true fun i hi => hp i (by omega)).symm), rfl⟩
  · have hl0 : l = [] := by cases l with | nil => rfl | cons _ _ => simp at h0
    subst hl0
    go_enter Try.func57, Try.ntmps57
    go_wp2
    go_loop [7] (fun i => i = .int .i64 0) (fun _ => 0)
    case atStart => rfl
    case round =>
      subst hrel
      go_wp2
      go_ret
      exact ⟨rfl, rfl⟩


set_option maxHeartbeats 400000 in
theorem Check1_calls (l m : List Int) (a b : Option Addr) (c d : Nat) (g : Nat) (x : Int) (w : World) (h : Ints w .i64 a l) (hl : l.length < 2^60)
    (hg : w.heap[g]? = some (.cells #[.slice a l.length c, .slice b m.length d] 39)) :
    Calls Try.prog 56 #[.int .i64 x, .pointer (some ⟨g, 0, none⟩)] w fun e w' => e = .returned (.bool (decide (x ∈ l))) ∧ Below w.heap.size w w' := by
  have hc0 : w.cell? ⟨g, 0, none⟩ = some (.slice a l.length c) := by rw [cell_at hg]; rfl
  have hc1 : w.cell? ⟨g, 1, none⟩ = some (.slice b m.length d) := by rw [cell_at hg]; rfl
  go_enter Try.func56, Try.ntmps56
  go_wp2_with (go_at_call 29; refine (Votes_calls l m _ _ _ _ _ _ h hl).mono ?_; rintro e w1 ⟨rfl, hb1⟩)
  go_ret
  exact ⟨rfl, hb1⟩

def idxP (p : Int → Bool) (l : List Int) : Int := if l.any p then (l.findIdx p : Int) else -1
theorem idxP_hit {p : Int → Bool} {l : List Int} {k : Nat} (hk : k < l.length) (hx : ∀ j (h : j < l.length), j < k → p l[j] = false) (h : p l[k] = true) : idxP p l = k := by
  have h1 : l.any p = true := List.any_eq_true.2 ⟨l[k], List.getElem_mem hk, h⟩
  have h2 : l.findIdx p = k := by
    rw [List.findIdx_eq hk]
    exact ⟨h, fun j hj => hx j (by omega) hj⟩
  simp [idxP, h1, h2]
theorem idxP_miss {p : Int → Bool} {l : List Int} (hx : ∀ j (h : j < l.length), p l[j] = false) : idxP p l = -1 := by
  have h1 : l.any p = false := by
    rw [List.any_eq_false]
    intro x hm
    obtain ⟨j, hj, rfl⟩ := List.mem_iff_getElem.1 hm
    simp [hx j hj]
  simp [idxP, h1]
theorem idxP_nonneg (p : Int → Bool) (l : List Int) : decide (0 ≤ idxP p l) = l.any p := by
  unfold idxP
  cases l.any p <;> simp

/-- The library's IndexFunc at the literal of Check. -/
theorem IndexFunc_calls (l m n : List Int) (a b x : Option Addr) (c d y : Nat) (g : Nat) (w : World) (h : Ints w .i64 a l) (hl : l.length < 2^60) (hn : Ints w .i64 x n) (hnl : n.length < 2^60)
    (hg : w.heap[g]? = some (.cells #[.slice a l.length c, .slice b m.length d] 39)) :
    Calls Try.prog 78 #[.slice x n.length y, .func (.func 56) #[] #[.pointer (some ⟨g, 0, none⟩)]] w fun e w' => e = .returned (.int .i64 (idxP (fun z => decide (z ∈ l)) n)) ∧ Below w.heap.size w w' := by
  by_cases h0 : 0 < n.length
  · obtain ⟨q, o, rfl, hq, hc⟩ := hn.open h0
    clear hn h0
    go_enter Try.func78, Try.ntmps78
    go_wp2
    go_loopw [8] (fun i wr => ∃ k : Nat, k ≤ n.length ∧ i = .int .i64 k ∧ Below w.heap.size w wr ∧ ∀ j (h : j < n.length), j < k → decide (n[j] ∈ l) = false) (fun i _ => n.length - (intOf i).toNat)
    case atStart => exact ⟨0, by omega, rfl, Below.refl _ _, fun j _ hj => by omega⟩
    case round =>
      obtain ⟨k, hk, rfl, hbr, hp⟩ := hrel
      by_cases hlt : k < n.length
      · have hcell : wr.cell? ⟨q, o + k, none⟩ = some (.int .i64 n[k]) := by
          rw [hbr.cell hq, hc k hlt]; simp [List.getD, hlt]
        have HP := Lib.hid hp
        clear hp hc
        go_wp2_with fail
        refine (Check1_calls l m a b c d g n[k] _ (h.below hbr) hl (by rw [hbr.block g (heap_lt hg)]; exact hg)).mono ?_
        rintro e w1 ⟨rfl, hb1⟩
        by_cases hin : n[k] ∈ l
        · simp only [hin, decide_true]
          go_wp2
          go_ret
          go_light
          exact ⟨ret_of (int_of (idxP_hit hlt HP.out (by simpa using hin)).symm), bTrans hbr hb1⟩
        · simp only [hin, decide_false]
          go_wp2
          go_light
          refine ⟨⟨k + 1, by omega, by go_num, bTrans hbr hb1, fun j hj hjk => ?_⟩, by simp [intOf]; omega⟩
          by_cases e : j = k
          · subst e; simpa using hin
          · exact HP.out j hj (by omega)
      · go_wp2
        go_ret
        go_light
        exact ⟨ret_of (int_of (idxP_miss fun j hj => hp j hj (by omega)).symm), hbr⟩
  · have hl0 : n = [] := by cases n with | nil => rfl | cons _ _ => simp at h0
    subst hl0
    go_enter Try.func78, Try.ntmps78
    go_wp2
    go_loop [8] (fun i => i = .int .i64 0) (fun _ => 0)
    case atStart => rfl
    case round =>
      subst hrel
      go_wp2
      go_ret
      exact ⟨rfl, Below.refl _ _⟩

set_option maxHeartbeats 400000 in
theorem ContainsFunc_calls (l m n : List Int) (a b x : Option Addr) (c d y : Nat) (g : Nat) (w : World) (h : Ints w .i64 a l) (hl : l.length < 2^60) (hn : Ints w .i64 x n) (hnl : n.length < 2^60)
    (hg : w.heap[g]? = some (.cells #[.slice a l.length c, .slice b m.length d] 39)) :
    Calls Try.prog 55 #[.slice x n.length y, .func (.func 56) #[] #[.pointer (some ⟨g, 0, none⟩)]] w fun e w' => e = .returned (.bool (n.any fun z => decide (z ∈ l))) ∧ Below w.heap.size w w' := by
  go_enter Try.func55, Try.ntmps55
  go_wp2_with (go_at_call 78; refine (IndexFunc_calls l m n a b x c d y g w h hl hn hnl hg).mono ?_; rintro e w1 ⟨rfl, hb1⟩)
  go_ret
  exact ⟨ret_of (bool_of (idxP_nonneg _ n)), hb1⟩

/-- The code that Check gives. -/
def checkB (v l : List Int) : Bool := !v.isEmpty && (risesB v && (risesB l && !(l.any fun z => decide (z ∈ v))))
def checkE (v l : List Int) : Int := if checkB v l then 0 else 140

set_option maxHeartbeats 1000000 in
theorem Check_calls (l m : List Int) (a b : Option Addr) (c d : Nat) (w : World) (h : Ints w .i64 a l) (hl : l.length < 2^60) (h2 : Ints w .i64 b m) (hm : m.length < 2^60) :
    Calls Try.prog 22 #[.agg #[.slice a l.length c, .slice b m.length d]] w fun e w' => e = .returned (.int .i64 (checkE l m)) ∧ Below w.heap.size w w' := by
  have hb := bAlloc (Below.refl w.heap.size w) (.cells #[.slice a l.length c, .slice b m.length d] 39)
  have hg : (w.alloc (.cells #[.slice a l.length c, .slice b m.length d] 39)).heap[w.heap.size]? = some (.cells #[.slice a l.length c, .slice b m.length d] 39) := heap_alloc_new w _
  have CF := ContainsFunc_calls l m m a b b c d d w.heap.size (w.alloc (.cells #[.slice a l.length c, .slice b m.length d] 39)) (h.below hb) hl (h2.below hb) hm hg
  have R1 := fun w' h' => rises_calls l a c w' h' hl
  have R2 := fun w' h' => rises_calls m b d w' h' hm
  unfold checkE checkB
  generalize (m.any fun z => decide (z ∈ l)) = any at *
  generalize risesB l = r1 at *
  generalize risesB m = r2 at *
  by_cases h0 : l = []
  · subst h0
    go_enter Try.func22, Try.ntmps22
    go_wp2_with fail
    refine CF.mono ?_
    rintro e w1 ⟨rfl, hb1⟩
    obtain ⟨hc, hf⟩ := bcell hb1
    clear CF R1 R2
    go_wp2
    go_ret
    exact ⟨rfl, bTrans hb hb1⟩
  · have he : l.isEmpty = false := by cases l with | nil => simp at h0 | cons _ _ => rfl
    have h0' : ((l.length : Int) == 0) = false := by
      cases l with | nil => simp at h0 | cons _ _ => simp; omega
    rw [he]
    clear he h0
    go_enter Try.func22, Try.ntmps22
    go_wp2_with fail
    refine CF.mono ?_
    rintro e w1 ⟨rfl, hb1⟩
    obtain ⟨hc, hf⟩ := bcell hb1
    have H1 := h.below (bTrans hb hb1)
    have H2 := h2.below (bTrans hb hb1)
    have R1 := R1 w1 H1
    have R2 := R2 w1 H2
    clear CF H1 H2
    go_wp2_with fail
    refine R1.mono ?_
    rintro e w' ⟨rfl, rfl⟩
    cases r1
    · clear R1 R2
      go_wp2
      go_ret
      exact ⟨rfl, bTrans hb hb1⟩
    · clear R1
      go_wp2_with fail
      refine R2.mono ?_
      rintro e w' ⟨rfl, rfl⟩
      clear R2
      cases r2
      · go_wp2
        go_ret
        exact ⟨rfl, bTrans hb hb1⟩
      · cases any
        · go_wp2
          go_ret
          exact ⟨rfl, bTrans hb hb1⟩
        · go_wp2
          go_ret
          exact ⟨rfl, bTrans hb hb1⟩


/-! ### The reference -/
theorem mem_take_succ {l : List Int} {k : Nat} (hk : k < l.length) (x : Int) : x ∈ l.take (k + 1) ↔ x ∈ l.take k ∨ x = l[k] := by
  rw [take_snoc l k hk, List.mem_append, List.mem_singleton]

set_option maxHeartbeats 400000 in
theorem In_calls (l : List Int) (a : Option Addr) (c : Nat) (x : Int) (w : World) (h : Ints w .i64 a l) (hl : l.length < 2^60) :
    Calls Try.prog 25 #[.slice a l.length c, .int .i64 x] w fun e w' => e = .returned (.bool (decide (x ∈ l))) ∧ w = w' := by
  by_cases h0 : 0 < l.length
  · obtain ⟨b, o, rfl, _, hc⟩ := h.open h0
    clear h h0
    have hm : ∀ k, k < l.length → l[k]! = x → x ∈ l := fun k hk e => by
      rw [← e, getElem!_pos l k hk]; exact List.getElem_mem hk
    go_enter Try.func25, Try.ntmps25
    go_wp2
    go_loop [5] (fun i => ∃ k : Nat, k ≤ l.length ∧ i = .int .i64 k ∧ x ∉ l.take k) (fun i => l.length - (intOf i).toNat)
    case atStart => exact ⟨0, by omega, rfl, by simp⟩
    case round =>
      obtain ⟨k, hk, rfl, hx⟩ := hrel
      by_cases hlt : k < l.length
      · have hcell := hc k hlt
        have h1 := mem_take_succ hlt x
        have h2 : l.getD k 0 = l[k] := by simp [List.getD, hlt]
        rw [h2] at hcell
        have h3 : l[k] ∈ l := List.getElem_mem hlt
        generalize l[k] = y at *
        by_cases e : y = x
        · subst e
          clear hc h1 h2 hx hm
          have H3 := Lib.hid h3
          clear h3
          go_wp2
          go_ret
          exact ⟨ret_of (bool_of (decide_eq_true H3.out).symm), rfl⟩
        · have hx2 : x ∉ l.take (k + 1) := fun h => by
            rcases h1.1 h with h | h
            · exact hx h
            · exact e h.symm
          have e' : (y == x) = false := by simpa using e
          clear hc h1 h2 h3 hx hm e
          go_wp2
          go_light
          exact ⟨⟨k + 1, by omega, by go_num, hx2⟩, by simp [intOf]; omega⟩
      · rw [List.take_of_length_le (by omega)] at hx
        have H3 := Lib.hid hx
        clear hc hm hx
        go_wp2
        go_ret
        exact ⟨ret_of (bool_of (decide_eq_false H3.out).symm), rfl⟩
  · have hl0 : l = [] := by cases l with | nil => rfl | cons _ _ => simp at h0
    subst hl0
    go_enter Try.func25, Try.ntmps25
    go_wp2
    go_loop [5] (fun i => i = .int .i64 0) (fun _ => 0)
    case atStart => rfl
    case round =>
      subst hrel
      go_wp2
      go_ret
      exact ⟨rfl, rfl⟩

set_option maxHeartbeats 400000 in
theorem rVotes_calls (l m : List Int) (a b : Option Addr) (c d : Nat) (x : Int) (w : World) (h : Ints w .i64 a l) (hl : l.length < 2^60) :
    Calls Try.prog 48 #[.agg #[.slice a l.length c, .slice b m.length d], .int .i64 x] w fun e w' => e = .returned (.bool (decide (x ∈ l))) ∧ Below w.heap.size w w' := by
  have hb := bAlloc (Below.refl w.heap.size w) (.cells #[.slice a l.length c, .slice b m.length d] 39)
  go_enter Try.func48, Try.ntmps48
  go_wp2_with (go_at_call 25; refine (In_calls l _ _ _ _ (h.below hb) hl).mono ?_; rintro e w' ⟨rfl, rfl⟩)
  go_ret
  exact ⟨rfl, hb⟩

set_option maxHeartbeats 400000 in
theorem rHas_calls (l m : List Int) (a b : Option Addr) (c d : Nat) (x : Int) (w : World) (h : Ints w .i64 a l) (hl : l.length < 2^60) (h2 : Ints w .i64 b m) (hm : m.length < 2^60) :
    Calls Try.prog 49 #[.agg #[.slice a l.length c, .slice b m.length d], .int .i64 x] w fun e w' => e = .returned (.bool (decide (x ∈ l) || decide (x ∈ m))) ∧ Below w.heap.size w w' := by
  have hb := bAlloc (Below.refl w.heap.size w) (.cells #[.slice a l.length c, .slice b m.length d] 39)
  have V := rVotes_calls l m a b c d x (w.alloc (.cells #[.slice a l.length c, .slice b m.length d] 39)) (h.below hb) hl
  have V2 := fun w' h' => In_calls m b d x w' h' hm
  generalize decide (x ∈ l) = p at *
  generalize decide (x ∈ m) = q at *
  go_enter Try.func49, Try.ntmps49
  go_wp2_with fail
  refine V.mono ?_
  rintro e w1 ⟨rfl, hb1⟩
  obtain ⟨hc, hf⟩ := bcell hb1
  have V2 := V2 w1 (h2.below (bTrans hb hb1))
  clear V
  go_wp2_with fail
  refine V2.mono ?_
  rintro e w' ⟨rfl, rfl⟩
  clear V2
  cases p
  · go_wp2
    go_ret
    exact ⟨ret_of (bool_of (by simp)), bTrans hb hb1⟩
  · go_wp2
    go_ret
    exact ⟨ret_of (bool_of (by simp)), bTrans hb hb1⟩

set_option maxHeartbeats 2000000 in
theorem rRises_calls (l : List Int) (a : Option Addr) (c : Nat) (w : World) (h : Ints w .i64 a l) (hl : l.length < 2^60) :
    Calls Try.prog 76 #[.slice a l.length c] w fun e w' => e = .returned (.bool (risesB l)) ∧ Below w.heap.size w w' := by
  by_cases h0 : 0 < l.length
  · obtain ⟨b, o, rfl, hb, hc⟩ := h.open h0
    clear h h0
    go_enter Try.func76, Try.ntmps76
    go_wp2
    go_loopw [3] (fun i wr => ∃ k : Nat, k ≤ l.length ∧ i = .int .i64 k ∧ (∃ n, wr = w.drewN n) ∧ ∀ j, j < k → okAt l j = true) (fun i _ => l.length - (intOf i).toNat)
    case atStart => exact ⟨0, by omega, rfl, ⟨0, rfl⟩, fun j hj => by omega⟩
    case round =>
      obtain ⟨k, hk, rfl, ⟨n, rfl⟩, hp⟩ := hrel
      by_cases hlt : k < l.length
      · have hcell := hc k hlt
        have hF := Lib.hid (@rises_false l k hlt)
        have hT : okAt l k = true → ∀ j, j < k + 1 → okAt l j = true := fun h j hj => by
          by_cases e : j = k
          · rw [e]; exact h
          · exact hp j (by omega)
        have hT := Lib.hid hT
        have hlt' : (k : Int) < (l.length : Int) := by omega
        have hk0' : (0 : Int) ≤ (k : Int) := by omega
        clear hp
        by_cases hk0 : k = 0
        · subst hk0
          rw [Nat.add_zero] at hcell
          have hokv : okAt l 0 = (decide (0 ≤ l.getD 0 0) && decide (l.getD 0 0 < 8)) := by simp [okAt]
          rw [hokv] at hF hT
          clear hc hokv
          generalize l.getD 0 0 = x at *
          by_cases h1 : x < 0
          · go_wp2
            go_quiet (fail)
            go_wp2
            go_ret
            go_light
            exact ⟨ret_of (bool_of (hF.out (by grind)).symm), bDrewN (bDrewN (Below.refl _ _) _) _⟩
          · have h1' : decide (x < 0) = false := by simpa using h1
            by_cases h2 : 7 < x
            · go_wp2
              go_quiet (fail)
              go_wp2
              go_ret
              go_light
              exact ⟨ret_of (bool_of (hF.out (by grind)).symm), bDrewN (bDrewN (Below.refl _ _) _) _⟩
            · have h2' : decide (7 < x) = false := by simpa using h2
              go_wp2
              go_quiet (fail)
              go_wp2
              go_light
              exact ⟨⟨1, by omega, by go_num, ⟨_, rfl⟩, hT.out (by grind)⟩, by simp [intOf]; omega⟩
        · obtain ⟨m, rfl⟩ : ∃ m, k = m + 1 := ⟨k - 1, by omega⟩
          have hcell' := hc m (by omega)
          have hokv : okAt l (m + 1) = (decide (0 ≤ l.getD (m + 1) 0) && (decide (l.getD (m + 1) 0 < 8) && decide (l.getD m 0 < l.getD (m + 1) 0))) := by simp [okAt]
          rw [hokv] at hF hT
          have hm1 : (0 : Int) < (m : Int) + 1 := by omega
          clear hc hokv hk0
          generalize l.getD (m + 1) 0 = x at *
          generalize l.getD m 0 = y at *
          by_cases h1 : x < 0
          · go_wp2
            go_quiet (fail)
            go_wp2
            go_ret
            go_light
            exact ⟨ret_of (bool_of (hF.out (by grind)).symm), bDrewN (bDrewN (Below.refl _ _) _) _⟩
          · have h1' : decide (x < 0) = false := by simpa using h1
            by_cases h2 : 7 < x
            · go_wp2
              go_quiet (fail)
              go_wp2
              go_ret
              go_light
              exact ⟨ret_of (bool_of (hF.out (by grind)).symm), bDrewN (bDrewN (Below.refl _ _) _) _⟩
            · have h2' : decide (7 < x) = false := by simpa using h2
              by_cases h3 : x ≤ y
              · go_wp2
                go_quiet (fail)
                go_wp2
                go_ret
                go_light
                exact ⟨ret_of (bool_of (hF.out (by grind)).symm), bDrewN (bDrewN (Below.refl _ _) _) _⟩
              · have h3' : decide (x ≤ y) = false := by simpa using h3
                go_wp2
                go_quiet (fail)
                go_wp2
                go_light
                exact ⟨⟨m + 1 + 1, by omega, by go_num, ⟨_, rfl⟩, hT.out (by grind)⟩, by simp [intOf]; omega⟩
      · have hkl : k = l.length := by omega
        have ht := Lib.hid (rises_true (l := l) fun i hi => hp i (by omega))
        clear hc hp
        go_wp2
        go_ret
        exact ⟨ret_of (bool_of ht.out.symm), bDrewN (Below.refl _ _) _⟩
  · have hl0 : l = [] := by cases l with | nil => rfl | cons _ _ => simp at h0
    subst hl0
    go_enter Try.func76, Try.ntmps76
    go_wp2
    go_loop [3] (fun i => i = .int .i64 0) (fun _ => 0)
    case atStart => rfl
    case round =>
      subst hrel
      go_wp2
      go_ret
      exact ⟨rfl, Below.refl _ _⟩


set_option maxHeartbeats 1000000 in
theorem rCheck_calls (l m : List Int) (a b : Option Addr) (c d : Nat) (w : World) (h : Ints w .i64 a l) (hl : l.length < 2^60) (h2 : Ints w .i64 b m) (hm : m.length < 2^60) :
    Calls Try.prog 47 #[.agg #[.slice a l.length c, .slice b m.length d]] w fun e w' => e = .returned (.int .i64 (checkE l m)) ∧ Below w.heap.size w w' := by
  have hb := bAlloc (Below.refl w.heap.size w) (.cells #[.slice a l.length c, .slice b m.length d] 39)
  have R1 := rRises_calls l a c (w.alloc (.cells #[.slice a l.length c, .slice b m.length d] 39)) (h.below hb) hl
  have hE := Lib.hid (show checkE l m = if checkB l m then 0 else 140 from rfl)
  have hB := Lib.hid (show checkB l m = (!l.isEmpty && (risesB l && (risesB m && !(m.any fun z => decide (z ∈ l))))) from rfl)
  generalize hr1 : risesB l = r1 at *
  clear hr1
  go_enter Try.func47, Try.ntmps47
  go_wp2_with fail
  refine R1.mono ?_
  rintro e w1 ⟨rfl, hb1⟩
  obtain ⟨hc, hf⟩ := bcell hb1
  have hb2 := bTrans hb hb1
  have R2 := rRises_calls m b d w1 (h2.below hb2) hm
  generalize hr2 : risesB m = r2 at *
  clear hr2 R1
  go_wp2_with fail
  refine R2.mono ?_
  rintro e w2 ⟨rfl, hb3⟩
  clear R2
  have hb4 := bTrans hb2 hb3
  have hbox : (w.alloc (.cells #[.slice a l.length c, .slice b m.length d] 39)).heap[w.heap.size]? = some (.cells #[.slice a l.length c, .slice b m.length d] 39) := heap_alloc_new w _
  have hbox2 := keepH hb3 (keepH hb1 hbox)
  have c0 : w2.cell? ⟨w.heap.size, 0, none⟩ = some (.slice a l.length c) := by rw [cell_at hbox2]; rfl
  have c1 : w2.cell? ⟨w.heap.size, 1, none⟩ = some (.slice b m.length d) := by rw [cell_at hbox2]; rfl
  clear hbox hbox2
  have hz : w.heap.size < w2.heap.size := by have h1 := hb1.size; have h3 := hb3.size; simp at h1; omega
  clear hc hf hb hb1 hb2 hb3
  by_cases h0 : l = []
  · subst h0
    go_wp2
    go_ret
    exact ⟨ret_of (int_of (by rw [hE.out, hB.out]; simp)), hb4⟩
  · have he : l.isEmpty = false := by cases l with | nil => simp at h0 | cons _ _ => rfl
    have h0' : ((l.length : Int) == 0) = false := by
      cases l with | nil => simp at h0 | cons _ _ => simp; omega
    have HE := Lib.hid he
    clear he h0
    cases r1
    · go_wp2
      go_ret
      exact ⟨ret_of (int_of (by rw [hE.out, hB.out]; simp)), hb4⟩
    · cases r2
      · go_wp2
        go_ret
        exact ⟨ret_of (int_of (by rw [hE.out, hB.out]; simp)), hb4⟩
      · go_wp2
        by_cases hm0 : 0 < m.length
        · obtain ⟨g, o, rfl, hg, hcm⟩ := (h2.below hb4).open hm0
          clear hm0 h2
          go_loopw [5] (fun i wr => ∃ k : Nat, k ≤ m.length ∧ i = .int .i64 k ∧ Below w2.heap.size w2 wr ∧ ∀ j (h : j < m.length), j < k → decide (m[j] ∈ l) = false) (fun i _ => m.length - (intOf i).toNat)
          case atStart => exact ⟨0, by omega, rfl, Below.refl _ _, fun j _ hj => by omega⟩
          case round =>
            obtain ⟨k, hk, rfl, hbr, hp⟩ := hrel
            obtain ⟨hc, hf⟩ := bcell hbr
            have HP := Lib.hid hp
            clear hp
            by_cases hlt : k < m.length
            · have hcell : w2.cell? ⟨g, o + k, none⟩ = some (.int .i64 m[k]) := by
                rw [hcm k hlt]; simp [List.getD, hlt]
              have V := rVotes_calls l m a (some ⟨g, o, none⟩) c d m[k]
              have hI := (h.below hb4).below hbr
              have hlt' : (k : Int) < (m.length : Int) := by omega
              have hk0' : (0 : Int) ≤ (k : Int) := by omega
              generalize hin : decide (m[k] ∈ l) = p at V
              have hin := Lib.hid hin
              clear hcm
              go_wp2
              go_region_with (go_at_call 48; refine (V _ (hI.below (bDrew (Below.refl _ _))) hl).mono ?_; rintro e w3 ⟨rfl, hb5⟩)
              all_goals
                cases p
                · go_wp2
                  go_light
                  refine ⟨⟨k + 1, by omega, by go_num, bTrans hbr (bTrans (bDrew (Below.refl _ _)) hb5), fun j hj hjk => ?_⟩, by simp [intOf]; omega⟩
                  by_cases e : j = k
                  · subst e; exact hin.out
                  · exact HP.out j hj (by omega)
                · go_wp2
                  go_ret
                  go_light
                  refine ⟨ret_of (int_of ?_), bTrans hb4 (bTrans hbr (bTrans (bDrew (Below.refl _ _)) hb5))⟩
                  have ha : (m.any fun z => decide (z ∈ l)) = true := List.any_eq_true.2 ⟨m[k], List.getElem_mem hlt, hin.out⟩
                  rw [hE.out, hB.out, ha]
                  simp
            · go_wp2
              go_ret
              go_light
              refine ⟨ret_of (int_of ?_), bTrans hb4 hbr⟩
              have ha : (m.any fun z => decide (z ∈ l)) = false := by
                rw [List.any_eq_false]
                intro x hm
                obtain ⟨j, hj, rfl⟩ := List.mem_iff_getElem.1 hm
                simp [HP.out j hj (by omega)]
              rw [hE.out, hB.out, ha, HE.out]
              simp
        · have hl0 : m = [] := by cases m with | nil => rfl | cons _ _ => simp at hm0
          subst hl0
          go_loop [5] (fun i => i = .int .i64 0) (fun _ => 0)
          case atStart => rfl
          case round =>
            subst hrel
            go_wp2
            go_ret
            go_light
            refine ⟨ret_of (int_of ?_), hb4⟩
            rw [hE.out, hB.out, HE.out]
            simp

set_option maxHeartbeats 1000000 in
theorem rMajority_calls (l m n : List Int) (a b x : Option Addr) (c d y : Nat) (w : World) (h : Ints w .i64 a l) (hl : l.length < 2^60) (h2 : Ints w .i64 x n) (hm : n.length < 2^60) :
    Calls Try.prog 50 #[.agg #[.slice a l.length c, .slice b m.length d], .slice x n.length y] w fun e w' => e = .returned (.bool (decide ((l.length : Int) < 2 * countIn l n))) ∧ Below w.heap.size w w' := by
  have hb := bAlloc (Below.refl w.heap.size w) (.cells #[.slice a l.length c, .slice b m.length d] 39)
  by_cases h0 : 0 < l.length
  · obtain ⟨g, o, rfl, hg, hc⟩ := h.open h0
    clear h h0
    go_enter Try.func50, Try.ntmps50
    go_wp2
    go_loop [5, 6] (fun s i => ∃ k : Nat, k ≤ l.length ∧ i = .int .i64 k ∧ s = .int .i64 (countIn (l.take k) n)) (fun _ i => l.length - (intOf i).toNat)
    case atStart => exact ⟨0, by omega, rfl, rfl⟩
    case round =>
      obtain ⟨k, hk, rfl, rfl⟩ := hrel
      have hck := countIn_le (l.take k) n
      have hlk : (l.take k).length ≤ k := List.length_take_le _ _
      by_cases hlt : k < l.length
      · have hcell := hc k hlt
        have hI := fun w' h' => In_calls n x y l[k] w' h' hm
        have hs : countIn (l.take (k + 1)) n = countIn (l.take k) n + (if l[k] ∈ n then 1 else 0) := by rw [take_snoc l k hlt, countIn_snoc]
        have e1 : l.getD k 0 = l[k] := by simp [List.getD, hlt]
        rw [e1] at hcell
        have hne : g ≠ w.heap.size := by omega
        have hI := hI _ (h2.below hb)
        have hs : countIn (l.take (k + 1)) n = countIn (l.take k) n + (if decide (l[k] ∈ n) = true then 1 else 0) := by rw [hs]; simp
        generalize decide (l[k] ∈ n) = p at *
        have HS := Lib.hid hs
        clear hc hs e1
        go_wp2_with fail
        refine hI.mono ?_
        rintro e w' ⟨rfl, rfl⟩
        clear hI
        cases p
        · go_wp2
          go_light
          exact ⟨⟨k + 1, by omega, by go_num, int_of (by rw [HS.out]; simp)⟩, by simp [intOf]; omega⟩
        · go_wp2
          go_light
          exact ⟨⟨k + 1, by omega, by go_num, int_of (by rw [HS.out]; simp)⟩, by simp [intOf]; omega⟩
      · have e : l.take k = l := List.take_of_length_le (by omega)
        rw [e] at hck ⊢
        clear hc e
        go_wp2
        go_ret
        exact ⟨rfl, hb⟩
  · have hl0 : l = [] := by cases l with | nil => rfl | cons _ _ => simp at h0
    subst hl0
    go_enter Try.func50, Try.ntmps50
    go_wp2
    go_loop [5, 6] (fun s i => s = .int .i64 0 ∧ i = .int .i64 0) (fun _ _ => 0)
    case atStart => exact ⟨rfl, rfl⟩
    case round =>
      obtain ⟨rfl, rfl⟩ := hrel
      go_wp2
      go_ret
      exact ⟨rfl, hb⟩

end Go.Proofs.Ytinkbiinbfbjgaa

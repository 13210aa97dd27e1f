/- Contract of the law ReplProgress. -/
import Derived.Test.YtinkbiinbfbjgaaDProg
import Derived.Test.YtinkbiinbfbjgaaDUpto
namespace Go.Proofs.Ytinkbiinbfbjgaa
open Go.RowKit
set_option linter.unusedVariables false
set_option linter.unusedSimpArgs false

structure EvD where
  kd : Int
  n : Int
def EvD.enc (a : EvD) : List Value := [.int .i64 a.kd, .int .u64 a.n]
def EvD.ok (a : EvD) : Prop := 0 ≤ a.n ∧ a.n < 18446744073709551616
theorem ev_dec {H : Type} {enc : TypeId × Value → H} {W : World} {N : Nat} : ∀ cs', HasB N enc Try.prog W 71 cs' → ∃ y : EvD, cs' = y.enc ∧ y.ok := by
  intro cs h
  obtain ⟨hl, he⟩ := h.has.struct Try.underlying71
  rw [show Try.prog.cellsOf 71 = 2 by kernel_rfl] at hl
  obtain ⟨x, y, rfl⟩ := list2 hl
  have e0 := he 0 _ rfl
  have e1 := he 1 _ rfl
  obtain ⟨a, ea, _⟩ := Has.int Try.underlying3 e0
  obtain ⟨b, eb, hb⟩ := Has.int Try.underlying22 e1
  simp [show Try.prog.cellsOf 22 = 1 by kernel_rfl, show Try.prog.cellsOf 3 = 1 by kernel_rfl] at ea eb
  subst ea
  subst eb
  exact ⟨⟨a, b⟩, rfl, u64_bounds hb⟩

theorem store3 {w : World} {g : Nat} {a b c : Value} {T : TypeId} (h : w.heap[g]? = some (.cells #[a, b, c] T (0, 0))) (x y z : Value) :
    (((w.setCell ⟨g, 0, none⟩ x).setCell ⟨g, 1, none⟩ y).setCell ⟨g, 2, none⟩ z).heap[g]? = some (.cells #[x, y, z] T (0, 0)) := by
  rw [setCell_at (setCell_at (setCell_at h 0 x) 1 y) 2 z]
  rfl
theorem store3_other {w : World} {g k : Nat} (h : k ≠ g) (x y z : Value) : (((w.setCell ⟨g, 0, none⟩ x).setCell ⟨g, 1, none⟩ y).setCell ⟨g, 2, none⟩ z).heap[k]? = w.heap[k]? := by
  rw [Below.heap_setCell _ _ _ _ (fun e => h e), Below.heap_setCell _ _ _ _ (fun e => h e), Below.heap_setCell _ _ _ _ (fun e => h e)]

set_option maxRecDepth 100000 in
set_option maxHeartbeats 1000000 in
theorem RProgress_calls (last : Int) (h0 : 0 ≤ last) (l : List EvD) (a : Option Addr) (C : Nat) (w : World) (hr : RowOf 2 EvD.enc w a l) (hl : l.length ≤ 1048576) (hok : ∀ y ∈ l, y.ok) :
    Calls Try.prog 14 #[.int .u64 last, .slice a l.length C] w fun e w' => e = .returned (.bool true) ∧ Below w.heap.size w w' := by
  by_cases hbig : 4611686018427387904 < last
  · go_enter Try.func14, Try.ntmps14
    go_wp2_with fail
    refine (alive18_calls _).mono ?_
    rintro e w1 ⟨rfl, hb1⟩
    go_wp2
    go_ret
    exact ⟨rfl, hb1⟩
  · have F := Fresh_calls last h0 (by omega) w
    unfold prog at F
    have hbig' : decide (4611686018427387904 < last) = false := decide_eq_false hbig
    go_enter Try.func14, Try.ntmps14
    go_wp2_with fail
    refine (F).mono ?_
    rintro e w1 ⟨rfl, hb1⟩
    clear F
    go_wp2_with fail
    have hn := heap_alloc_new w1 (.cells #[.int .u64 (last + 1), .int .u64 0, .bool false] 68)
    have hb2 := bTrans hb1 (bAlloc (Below.refl _ w1) (.cells #[.int .u64 (last + 1), .int .u64 0, .bool false] 68))
    have hgp := hb1.size
    obtain ⟨g, hg⟩ : ∃ g, g = w1.heap.size := ⟨_, rfl⟩
    rw [← hg] at hn hgp ⊢
    generalize w1.alloc (.cells #[.int .u64 (last + 1), .int .u64 0, .bool false] 68) = w2 at *
    clear hg hb1
    go_loopw [30] (fun i wr => ∃ (k : Nat) (n m : Int) (p : Bool), k ≤ l.length ∧ i = .int .i64 k ∧ Below w.heap.size w wr ∧ wr.heap[g]? = some (.cells #[.int .u64 n, .int .u64 m, .bool p] 68 (0, 0)) ∧ 0 ≤ m ∧ m ≤ 4611686018427387904 ∧ m < n ∧ n ≤ 4611686018427387905) (fun i _ => l.length - (intOf i).toNat)
    case atStart => exact ⟨0, _, _, _, by omega, rfl, hb2, hn, by omega, by omega, by omega, by omega⟩
    case round =>
      obtain ⟨k, n, m, p, hk, rfl, hbr, hp, hm0, hm1, hmn, hn1⟩ := hrel
      clear hn hb2
      by_cases hlt : k < l.length
      · obtain ⟨b, o, rfl, hc⟩ := hr.resolve_left (by intro h; rw [h] at hlt; simp at hlt)
        have hbl : b < w.heap.size := World.block_lt_of_cell? _ _ (hc k hlt 0 (by decide))
        obtain ⟨⟨kd, N⟩, hx⟩ : ∃ x, l[k] = x := ⟨_, rfl⟩
        have hN := hok _ (List.getElem_mem hlt)
        rw [hx] at hN
        obtain ⟨hN0, hN1⟩ := hN
        simp only at hN0 hN1
        have e0 : wr.cell? ⟨b, o + k * 2, none⟩ = some (.int .i64 kd) := by rw [hbr.cell hbl, ← Nat.add_zero (o + k * 2), hc k hlt 0 (by decide), hx]; rfl
        have e1 : wr.cell? ⟨b, o + k * 2 + 1, none⟩ = some (.int .u64 N) := by rw [hbr.cell hbl, hc k hlt 1 (by decide), hx]; rfl
        have p0 : wr.cell? ⟨g, 0, none⟩ = some (.int .u64 n) := by rw [cell_at hp]; rfl
        have p1 : wr.cell? ⟨g, 1, none⟩ = some (.int .u64 m) := by rw [cell_at hp]; rfl
        have p2 : wr.cell? ⟨g, 2, none⟩ = some (.bool p) := by rw [cell_at hp]; rfl
        have pf : ∀ o, wr.frozen? ⟨g, o, none⟩ = false := fun o => frozen_at hp o
        have hgw : g < wr.heap.size := heap_lt hp
        have HP := Lib.hid hp
        clear hx hc hr hok hp
        by_cases hbig2 : 4611686018427387904 < N
        · go_wp2
          go_light
          exact ⟨⟨k + 1, n, m, p, by omega, by go_num, bAlloc hbr _, by rw [heap_alloc_old _ _ _ hgw]; exact HP.out, hm0, hm1, hmn, hn1⟩, by simp [intOf]; omega⟩
        · have hbig2' : decide (4611686018427387904 < N) = false := decide_eq_false hbig2
          have hgx := keepH (bAlloc (bAlloc (Below.refl _ wr) (.cells #[.int .i64 kd, .int .u64 N] 71)) (.cells #[.int .u64 n, .int .u64 m, .bool p] 68)) HP.out
          have hev := keepH (bAlloc (Below.refl _ _) (.cells #[.int .u64 n, .int .u64 m, .bool p] 68)) (heap_alloc_new wr (.cells #[.int .i64 kd, .int .u64 N] 71))
          have hqx := heap_alloc_new (wr.alloc (.cells #[.int .i64 kd, .int .u64 N] 71)) (.cells #[.int .u64 n, .int .u64 m, .bool p] 68)
          rw [World.size_alloc] at hqx
          have hbx := bAlloc (bAlloc hbr (.cells #[.int .i64 kd, .int .u64 N] 71)) (.cells #[.int .u64 n, .int .u64 m, .bool p] 68)
          have HX := Lib.hid (And.intro hgx (And.intro hev (And.intro hqx hbx)))
          clear hgx hev hqx hbx
          by_cases k1 : kd = 1
          · subst k1
            have A := fun w' => Acked_calls n m N p (by omega) hn1 hm0 hm1 hN0 (by omega) w'
            unfold prog at A
            obtain ⟨m2, hm2⟩ : ∃ m2, m2 = max m N := ⟨_, rfl⟩
            rw [← hm2] at A
            obtain ⟨n2, hn2⟩ : ∃ n2, n2 = max n (m2 + 1) := ⟨_, rfl⟩
            rw [← hn2] at A
            go_wp2_with fail
            refine (A _).mono ?_
            rintro e w3 ⟨rfl, hb3⟩
            clear A
            have d1 : max m N = m2 := hm2.symm
            have d2 : max n (m2 + 1) = n2 := hn2.symm
            have d3 : m ≤ m2 := by omega
            have d4 : m2 < n2 := by omega
            have d5 : m2 ≤ 4611686018427387904 := by omega
            have d6 : n2 ≤ 4611686018427387905 := by omega
            clear hm2 hn2
            obtain ⟨hgx, hev, hqx, hbx⟩ := HX.out
            replace hgx := keepH hb3 hgx
            replace hev := keepH hb3 hev
            replace hqx := keepH hb3 hqx
            replace hbx := bTrans hbx hb3
            have z5 : g ≠ wr.heap.size + 1 := by omega
            have z6 : wr.heap.size ≠ wr.heap.size + 1 := by omega
            have t0 : w3.cell? ⟨wr.heap.size + 1, 0, none⟩ = some (.int .u64 n) := by rw [cell_at hqx]; rfl
            have t1 : w3.cell? ⟨wr.heap.size + 1, 1, none⟩ = some (.int .u64 m) := by rw [cell_at hqx]; rfl
            have t2 : w3.cell? ⟨wr.heap.size + 1, 2, none⟩ = some (.bool p) := by rw [cell_at hqx]; rfl
            have tf : ∀ o, w3.frozen? ⟨wr.heap.size + 1, o, none⟩ = false := fun o => frozen_at hqx o
            have H3 := Lib.hid (And.intro hgx (And.intro hev (And.intro hqx hbx)))
            have hgs := hbr.size
            clear hgx hev hqx hbx hb3
            go_upto_region 18 with (fail)
            obtain ⟨hgx, hev, hqx, hbx⟩ := H3.out
            have hg4 := (store3_other z5 (.int .u64 n2) (.int .u64 m2) (.bool false) (w := w3)).trans hgx
            have he4 := (store3_other z6 (.int .u64 n2) (.int .u64 m2) (.bool false) (w := w3)).trans hev
            have hq4 := store3 hqx (.int .u64 n2) (.int .u64 m2) (.bool false)
            have hb4 : Below w.heap.size w (((w3.setCell ⟨wr.heap.size + 1, 0, none⟩ (.int .u64 n2)).setCell ⟨wr.heap.size + 1, 1, none⟩ (.int .u64 m2)).setCell ⟨wr.heap.size + 1, 2, none⟩ (.bool false)) := ((hbx.setCell (by simp; omega) _).setCell (by simp; omega) _).setCell (by simp; omega) _
            clear hgx hev hqx hbx t0 t1 t2 tf H3 HX e0 e1 p0 p1 p2 pf
            generalize (((w3.setCell ⟨wr.heap.size + 1, 0, none⟩ (.int .u64 n2)).setCell ⟨wr.heap.size + 1, 1, none⟩ (.int .u64 m2)).setCell ⟨wr.heap.size + 1, 2, none⟩ (.bool false)) = w4 at *
            have p0 : w4.cell? ⟨g, 0, none⟩ = some (.int .u64 n) := by rw [cell_at hg4]; rfl
            have p1 : w4.cell? ⟨g, 1, none⟩ = some (.int .u64 m) := by rw [cell_at hg4]; rfl
            have p2 : w4.cell? ⟨g, 2, none⟩ = some (.bool p) := by rw [cell_at hg4]; rfl
            have pf : ∀ o, w4.frozen? ⟨g, o, none⟩ = false := fun o => frozen_at hg4 o
            have v0 : w4.cell? ⟨wr.heap.size, 0, none⟩ = some (.int .i64 1) := by rw [cell_at he4]; rfl
            have v1 : w4.cell? ⟨wr.heap.size, 1, none⟩ = some (.int .u64 N) := by rw [cell_at he4]; rfl
            have r0 : w4.cell? ⟨wr.heap.size + 1, 0, none⟩ = some (.int .u64 n2) := by rw [cell_at hq4]; rfl
            have r1 : w4.cell? ⟨wr.heap.size + 1, 1, none⟩ = some (.int .u64 m2) := by rw [cell_at hq4]; rfl
            have r2 : w4.cell? ⟨wr.heap.size + 1, 2, none⟩ = some (.bool false) := by rw [cell_at hq4]; rfl
            have H4 := Lib.hid hg4
            clear hg4 he4 hq4
            go_wp2
            go_light
            exact ⟨⟨k + 1, n2, m2, false, by omega, by go_num, ((hb4.setCell hgp _).setCell hgp _).setCell hgp _, store3 H4.out _ _ _, by omega, by omega, by omega, by omega⟩, by simp [intOf]; omega⟩
          · by_cases k2 : kd = 2
            · subst k2
              have A := fun w' => Refused_calls n m N p (by omega) hn1 hm0 hm1 hN0 (by omega) w'
              unfold prog at A
              obtain ⟨n2, hn2⟩ : ∃ n2, n2 = max (min n (N + 1)) (m + 1) := ⟨_, rfl⟩
              rw [← hn2] at A
              go_wp2_with fail
              refine (A _).mono ?_
              rintro e w3 ⟨rfl, hb3⟩
              clear A
              have d2 : max (min n (N + 1)) (m + 1) = n2 := hn2.symm
              have d4 : m < n2 := by omega
              have d6 : n2 ≤ 4611686018427387905 := by omega
              clear hn2
              obtain ⟨hgx, hev, hqx, hbx⟩ := HX.out
              replace hgx := keepH hb3 hgx
              replace hev := keepH hb3 hev
              replace hqx := keepH hb3 hqx
              replace hbx := bTrans hbx hb3
              have z5 : g ≠ wr.heap.size + 1 := by omega
              have z6 : wr.heap.size ≠ wr.heap.size + 1 := by omega
              have t0 : w3.cell? ⟨wr.heap.size + 1, 0, none⟩ = some (.int .u64 n) := by rw [cell_at hqx]; rfl
              have t1 : w3.cell? ⟨wr.heap.size + 1, 1, none⟩ = some (.int .u64 m) := by rw [cell_at hqx]; rfl
              have t2 : w3.cell? ⟨wr.heap.size + 1, 2, none⟩ = some (.bool p) := by rw [cell_at hqx]; rfl
              have tf : ∀ o, w3.frozen? ⟨wr.heap.size + 1, o, none⟩ = false := fun o => frozen_at hqx o
              have H3 := Lib.hid (And.intro hgx (And.intro hev (And.intro hqx hbx)))
              have hgs := hbr.size
              clear hgx hev hqx hbx hb3
              go_upto_region 22 with (fail)
              obtain ⟨hgx, hev, hqx, hbx⟩ := H3.out
              have hg4 := (store3_other z5 (.int .u64 n2) (.int .u64 m) (.bool false) (w := w3)).trans hgx
              have he4 := (store3_other z6 (.int .u64 n2) (.int .u64 m) (.bool false) (w := w3)).trans hev
              have hq4 := store3 hqx (.int .u64 n2) (.int .u64 m) (.bool false)
              have hb4 : Below w.heap.size w (((w3.setCell ⟨wr.heap.size + 1, 0, none⟩ (.int .u64 n2)).setCell ⟨wr.heap.size + 1, 1, none⟩ (.int .u64 m)).setCell ⟨wr.heap.size + 1, 2, none⟩ (.bool false)) := ((hbx.setCell (by simp; omega) _).setCell (by simp; omega) _).setCell (by simp; omega) _
              clear hgx hev hqx hbx t0 t1 t2 tf H3 HX e0 e1 p0 p1 p2 pf
              generalize (((w3.setCell ⟨wr.heap.size + 1, 0, none⟩ (.int .u64 n2)).setCell ⟨wr.heap.size + 1, 1, none⟩ (.int .u64 m)).setCell ⟨wr.heap.size + 1, 2, none⟩ (.bool false)) = w4 at *
              have p0 : w4.cell? ⟨g, 0, none⟩ = some (.int .u64 n) := by rw [cell_at hg4]; rfl
              have p1 : w4.cell? ⟨g, 1, none⟩ = some (.int .u64 m) := by rw [cell_at hg4]; rfl
              have p2 : w4.cell? ⟨g, 2, none⟩ = some (.bool p) := by rw [cell_at hg4]; rfl
              have pf : ∀ o, w4.frozen? ⟨g, o, none⟩ = false := fun o => frozen_at hg4 o
              have v0 : w4.cell? ⟨wr.heap.size, 0, none⟩ = some (.int .i64 2) := by rw [cell_at he4]; rfl
              have v1 : w4.cell? ⟨wr.heap.size, 1, none⟩ = some (.int .u64 N) := by rw [cell_at he4]; rfl
              have r0 : w4.cell? ⟨wr.heap.size + 1, 0, none⟩ = some (.int .u64 n2) := by rw [cell_at hq4]; rfl
              have r1 : w4.cell? ⟨wr.heap.size + 1, 1, none⟩ = some (.int .u64 m) := by rw [cell_at hq4]; rfl
              have r2 : w4.cell? ⟨wr.heap.size + 1, 2, none⟩ = some (.bool false) := by rw [cell_at hq4]; rfl
              have H4 := Lib.hid hg4
              clear hg4 he4 hq4
              go_wp2
              go_light
              exact ⟨⟨k + 1, n2, m, false, by omega, by go_num, ((hb4.setCell hgp _).setCell hgp _).setCell hgp _, store3 H4.out _ _ _, by omega, by omega, by omega, by omega⟩, by simp [intOf]; omega⟩
            · by_cases k3 : kd = 3
              · subst k3
                have A := fun w' => Beat_calls n m p w'
                unfold prog at A
                go_wp2_with fail
                refine (A _).mono ?_
                rintro e w3 ⟨rfl, hb3⟩
                clear A
                obtain ⟨hgx, hev, hqx, hbx⟩ := HX.out
                replace hgx := keepH hb3 hgx
                replace hev := keepH hb3 hev
                replace hqx := keepH hb3 hqx
                replace hbx := bTrans hbx hb3
                have z5 : g ≠ wr.heap.size + 1 := by omega
                have z6 : wr.heap.size ≠ wr.heap.size + 1 := by omega
                have t0 : w3.cell? ⟨wr.heap.size + 1, 0, none⟩ = some (.int .u64 n) := by rw [cell_at hqx]; rfl
                have t1 : w3.cell? ⟨wr.heap.size + 1, 1, none⟩ = some (.int .u64 m) := by rw [cell_at hqx]; rfl
                have t2 : w3.cell? ⟨wr.heap.size + 1, 2, none⟩ = some (.bool p) := by rw [cell_at hqx]; rfl
                have tf : ∀ o, w3.frozen? ⟨wr.heap.size + 1, o, none⟩ = false := fun o => frozen_at hqx o
                have H3 := Lib.hid (And.intro hgx (And.intro hev (And.intro hqx hbx)))
                have hgs := hbr.size
                clear hgx hev hqx hbx hb3
                go_upto_region 26 with (fail)
                obtain ⟨hgx, hev, hqx, hbx⟩ := H3.out
                have hg4 := (store3_other z5 (.int .u64 n) (.int .u64 m) (.bool false) (w := w3)).trans hgx
                have he4 := (store3_other z6 (.int .u64 n) (.int .u64 m) (.bool false) (w := w3)).trans hev
                have hq4 := store3 hqx (.int .u64 n) (.int .u64 m) (.bool false)
                have hb4 : Below w.heap.size w (((w3.setCell ⟨wr.heap.size + 1, 0, none⟩ (.int .u64 n)).setCell ⟨wr.heap.size + 1, 1, none⟩ (.int .u64 m)).setCell ⟨wr.heap.size + 1, 2, none⟩ (.bool false)) := ((hbx.setCell (by simp; omega) _).setCell (by simp; omega) _).setCell (by simp; omega) _
                clear hgx hev hqx hbx t0 t1 t2 tf H3 HX e0 e1 p0 p1 p2 pf
                generalize (((w3.setCell ⟨wr.heap.size + 1, 0, none⟩ (.int .u64 n)).setCell ⟨wr.heap.size + 1, 1, none⟩ (.int .u64 m)).setCell ⟨wr.heap.size + 1, 2, none⟩ (.bool false)) = w4 at *
                have p0 : w4.cell? ⟨g, 0, none⟩ = some (.int .u64 n) := by rw [cell_at hg4]; rfl
                have p1 : w4.cell? ⟨g, 1, none⟩ = some (.int .u64 m) := by rw [cell_at hg4]; rfl
                have p2 : w4.cell? ⟨g, 2, none⟩ = some (.bool p) := by rw [cell_at hg4]; rfl
                have pf : ∀ o, w4.frozen? ⟨g, o, none⟩ = false := fun o => frozen_at hg4 o
                have v0 : w4.cell? ⟨wr.heap.size, 0, none⟩ = some (.int .i64 3) := by rw [cell_at he4]; rfl
                have v1 : w4.cell? ⟨wr.heap.size, 1, none⟩ = some (.int .u64 N) := by rw [cell_at he4]; rfl
                have r0 : w4.cell? ⟨wr.heap.size + 1, 0, none⟩ = some (.int .u64 n) := by rw [cell_at hq4]; rfl
                have r1 : w4.cell? ⟨wr.heap.size + 1, 1, none⟩ = some (.int .u64 m) := by rw [cell_at hq4]; rfl
                have r2 : w4.cell? ⟨wr.heap.size + 1, 2, none⟩ = some (.bool false) := by rw [cell_at hq4]; rfl
                have H4 := Lib.hid hg4
                clear hg4 he4 hq4
                go_wp2
                go_light
                exact ⟨⟨k + 1, n, m, false, by omega, by go_num, ((hb4.setCell hgp _).setCell hgp _).setCell hgp _, store3 H4.out _ _ _, by omega, by omega, by omega, by omega⟩, by simp [intOf]; omega⟩
              · by_cases k0 : kd = 0
                · subst k0
                  have A := fun w' => Sent_calls n m p N w'
                  unfold prog at A
                  obtain ⟨z, hz⟩ : ∃ z, z = decide (0 < N) := ⟨_, rfl⟩
                  rw [← hz] at A
                  have hz' : decide (0 < N) = z := hz.symm
                  clear hz
                  cases p
                  · simp only [Bool.false_or] at A
                    go_wp2_with fail
                    refine (A _).mono ?_
                    rintro e w3 ⟨rfl, hb3⟩
                    clear A
                    obtain ⟨hgx, hev, hqx, hbx⟩ := HX.out
                    replace hgx := keepH hb3 hgx
                    replace hev := keepH hb3 hev
                    replace hqx := keepH hb3 hqx
                    replace hbx := bTrans hbx hb3
                    have z5 : g ≠ wr.heap.size + 1 := by omega
                    have z6 : wr.heap.size ≠ wr.heap.size + 1 := by omega
                    have t0 : w3.cell? ⟨wr.heap.size + 1, 0, none⟩ = some (.int .u64 n) := by rw [cell_at hqx]; rfl
                    have t1 : w3.cell? ⟨wr.heap.size + 1, 1, none⟩ = some (.int .u64 m) := by rw [cell_at hqx]; rfl
                    have t2 : w3.cell? ⟨wr.heap.size + 1, 2, none⟩ = some (.bool false) := by rw [cell_at hqx]; rfl
                    have tf : ∀ o, w3.frozen? ⟨wr.heap.size + 1, o, none⟩ = false := fun o => frozen_at hqx o
                    have H3 := Lib.hid (And.intro hgx (And.intro hev (And.intro hqx hbx)))
                    have hgs := hbr.size
                    clear hgx hev hqx hbx hb3
                    go_upto_region 14 with (fail)
                    obtain ⟨hgx, hev, hqx, hbx⟩ := H3.out
                    have hg4 := (store3_other z5 (.int .u64 n) (.int .u64 m) (.bool z) (w := w3)).trans hgx
                    have he4 := (store3_other z6 (.int .u64 n) (.int .u64 m) (.bool z) (w := w3)).trans hev
                    have hq4 := store3 hqx (.int .u64 n) (.int .u64 m) (.bool z)
                    have hb4 : Below w.heap.size w (((w3.setCell ⟨wr.heap.size + 1, 0, none⟩ (.int .u64 n)).setCell ⟨wr.heap.size + 1, 1, none⟩ (.int .u64 m)).setCell ⟨wr.heap.size + 1, 2, none⟩ (.bool z)) := ((hbx.setCell (by simp; omega) _).setCell (by simp; omega) _).setCell (by simp; omega) _
                    clear hgx hev hqx hbx t0 t1 t2 tf H3 HX e0 e1 p0 p1 p2 pf
                    generalize (((w3.setCell ⟨wr.heap.size + 1, 0, none⟩ (.int .u64 n)).setCell ⟨wr.heap.size + 1, 1, none⟩ (.int .u64 m)).setCell ⟨wr.heap.size + 1, 2, none⟩ (.bool z)) = w4 at *
                    have p0 : w4.cell? ⟨g, 0, none⟩ = some (.int .u64 n) := by rw [cell_at hg4]; rfl
                    have p1 : w4.cell? ⟨g, 1, none⟩ = some (.int .u64 m) := by rw [cell_at hg4]; rfl
                    have p2 : w4.cell? ⟨g, 2, none⟩ = some (.bool false) := by rw [cell_at hg4]; rfl
                    have pf : ∀ o, w4.frozen? ⟨g, o, none⟩ = false := fun o => frozen_at hg4 o
                    have v0 : w4.cell? ⟨wr.heap.size, 0, none⟩ = some (.int .i64 0) := by rw [cell_at he4]; rfl
                    have v1 : w4.cell? ⟨wr.heap.size, 1, none⟩ = some (.int .u64 N) := by rw [cell_at he4]; rfl
                    have r0 : w4.cell? ⟨wr.heap.size + 1, 0, none⟩ = some (.int .u64 n) := by rw [cell_at hq4]; rfl
                    have r1 : w4.cell? ⟨wr.heap.size + 1, 1, none⟩ = some (.int .u64 m) := by rw [cell_at hq4]; rfl
                    have r2 : w4.cell? ⟨wr.heap.size + 1, 2, none⟩ = some (.bool z) := by rw [cell_at hq4]; rfl
                    have H4 := Lib.hid hg4
                    clear hg4 he4 hq4
                    go_wp2
                    go_light
                    exact ⟨⟨k + 1, n, m, z, by omega, by go_num, ((hb4.setCell hgp _).setCell hgp _).setCell hgp _, store3 H4.out _ _ _, by omega, by omega, by omega, by omega⟩, by simp [intOf]; omega⟩
                  · simp only [Bool.true_or] at A
                    go_wp2_with fail
                    refine (A _).mono ?_
                    rintro e w3 ⟨rfl, hb3⟩
                    clear A
                    obtain ⟨hgx, hev, hqx, hbx⟩ := HX.out
                    replace hgx := keepH hb3 hgx
                    replace hev := keepH hb3 hev
                    replace hqx := keepH hb3 hqx
                    replace hbx := bTrans hbx hb3
                    have z5 : g ≠ wr.heap.size + 1 := by omega
                    have z6 : wr.heap.size ≠ wr.heap.size + 1 := by omega
                    have t0 : w3.cell? ⟨wr.heap.size + 1, 0, none⟩ = some (.int .u64 n) := by rw [cell_at hqx]; rfl
                    have t1 : w3.cell? ⟨wr.heap.size + 1, 1, none⟩ = some (.int .u64 m) := by rw [cell_at hqx]; rfl
                    have t2 : w3.cell? ⟨wr.heap.size + 1, 2, none⟩ = some (.bool true) := by rw [cell_at hqx]; rfl
                    have tf : ∀ o, w3.frozen? ⟨wr.heap.size + 1, o, none⟩ = false := fun o => frozen_at hqx o
                    have H3 := Lib.hid (And.intro hgx (And.intro hev (And.intro hqx hbx)))
                    have hgs := hbr.size
                    clear hgx hev hqx hbx hb3
                    go_upto_region 14 with (fail)
                    obtain ⟨hgx, hev, hqx, hbx⟩ := H3.out
                    have hg4 := (store3_other z5 (.int .u64 n) (.int .u64 m) (.bool true) (w := w3)).trans hgx
                    have he4 := (store3_other z6 (.int .u64 n) (.int .u64 m) (.bool true) (w := w3)).trans hev
                    have hq4 := store3 hqx (.int .u64 n) (.int .u64 m) (.bool true)
                    have hb4 : Below w.heap.size w (((w3.setCell ⟨wr.heap.size + 1, 0, none⟩ (.int .u64 n)).setCell ⟨wr.heap.size + 1, 1, none⟩ (.int .u64 m)).setCell ⟨wr.heap.size + 1, 2, none⟩ (.bool true)) := ((hbx.setCell (by simp; omega) _).setCell (by simp; omega) _).setCell (by simp; omega) _
                    clear hgx hev hqx hbx t0 t1 t2 tf H3 HX e0 e1 p0 p1 p2 pf
                    generalize (((w3.setCell ⟨wr.heap.size + 1, 0, none⟩ (.int .u64 n)).setCell ⟨wr.heap.size + 1, 1, none⟩ (.int .u64 m)).setCell ⟨wr.heap.size + 1, 2, none⟩ (.bool true)) = w4 at *
                    have p0 : w4.cell? ⟨g, 0, none⟩ = some (.int .u64 n) := by rw [cell_at hg4]; rfl
                    have p1 : w4.cell? ⟨g, 1, none⟩ = some (.int .u64 m) := by rw [cell_at hg4]; rfl
                    have p2 : w4.cell? ⟨g, 2, none⟩ = some (.bool true) := by rw [cell_at hg4]; rfl
                    have pf : ∀ o, w4.frozen? ⟨g, o, none⟩ = false := fun o => frozen_at hg4 o
                    have v0 : w4.cell? ⟨wr.heap.size, 0, none⟩ = some (.int .i64 0) := by rw [cell_at he4]; rfl
                    have v1 : w4.cell? ⟨wr.heap.size, 1, none⟩ = some (.int .u64 N) := by rw [cell_at he4]; rfl
                    have r0 : w4.cell? ⟨wr.heap.size + 1, 0, none⟩ = some (.int .u64 n) := by rw [cell_at hq4]; rfl
                    have r1 : w4.cell? ⟨wr.heap.size + 1, 1, none⟩ = some (.int .u64 m) := by rw [cell_at hq4]; rfl
                    have r2 : w4.cell? ⟨wr.heap.size + 1, 2, none⟩ = some (.bool true) := by rw [cell_at hq4]; rfl
                    have H4 := Lib.hid hg4
                    clear hg4 he4 hq4
                    go_wp2
                    go_light
                    exact ⟨⟨k + 1, n, m, true, by omega, by go_num, ((hb4.setCell hgp _).setCell hgp _).setCell hgp _, store3 H4.out _ _ _, by omega, by omega, by omega, by omega⟩, by simp [intOf]; omega⟩
                · go_upto_region 28 with (fail)
                  obtain ⟨hg4, he4, hq4, hb4⟩ := HX.out
                  clear HX e0 e1 p0 p1 p2 pf
                  generalize (wr.alloc (.cells #[.int .i64 kd, .int .u64 N] 71)).alloc (.cells #[.int .u64 n, .int .u64 m, .bool p] 68) = w4 at *
                  have p0 : w4.cell? ⟨g, 0, none⟩ = some (.int .u64 n) := by rw [cell_at hg4]; rfl
                  have p1 : w4.cell? ⟨g, 1, none⟩ = some (.int .u64 m) := by rw [cell_at hg4]; rfl
                  have p2 : w4.cell? ⟨g, 2, none⟩ = some (.bool p) := by rw [cell_at hg4]; rfl
                  have pf : ∀ o, w4.frozen? ⟨g, o, none⟩ = false := fun o => frozen_at hg4 o
                  have v0 : w4.cell? ⟨wr.heap.size, 0, none⟩ = some (.int .i64 kd) := by rw [cell_at he4]; rfl
                  have v1 : w4.cell? ⟨wr.heap.size, 1, none⟩ = some (.int .u64 N) := by rw [cell_at he4]; rfl
                  have r0 : w4.cell? ⟨wr.heap.size + 1, 0, none⟩ = some (.int .u64 n) := by rw [cell_at hq4]; rfl
                  have r1 : w4.cell? ⟨wr.heap.size + 1, 1, none⟩ = some (.int .u64 m) := by rw [cell_at hq4]; rfl
                  have r2 : w4.cell? ⟨wr.heap.size + 1, 2, none⟩ = some (.bool p) := by rw [cell_at hq4]; rfl
                  have H4 := Lib.hid hg4
                  clear hg4 he4 hq4
                  go_wp2
                  go_light
                  exact ⟨⟨k + 1, n, m, p, by omega, by go_num, ((hb4.setCell hgp _).setCell hgp _).setCell hgp _, store3 H4.out _ _ _, by omega, by omega, by omega, by omega⟩, by simp [intOf]; omega⟩
      · clear hr
        go_wp2_with fail
        refine (alive18_calls _).mono ?_
        rintro e w3 ⟨rfl, hb3⟩
        go_wp2
        go_ret
        exact ⟨rfl, bTrans hbr hb3⟩
end Go.Proofs.Ytinkbiinbfbjgaa

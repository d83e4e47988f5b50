/- Contracts: periods of fields (printed by mk_period.py). -/
import Derived.Test.YtmianlihdiccjaaStepH
import Derived.Test.YtmianlihdiccjaaStepF
import Derived.Test.YtmianlihdiccjaaFieldM
namespace Go.Proofs.Ytmianlihdiccjaa
open Go.RowKit
set_option linter.unusedVariables false

theorem it_succ (s : Int) (zs : List Bool) (h : Bool) (k : Nat) : itF s zs h (k + 1) = (fsL s (itF s zs h k).2 (itF s zs h k).1, !(itF s zs h k).2) := rfl
theorem it_len {s : Int} {zs : List Bool} {h : Bool} (hv : fvB s zs = true) (k : Nat) : (itF s zs h k).1.length = zs.length := by
  induction k with
  | zero => rfl
  | succ k ih => rw [it_succ, fs_len (it_valid hv k), ih]
set_option maxHeartbeats 8000000 in
theorem fieldPeriodS (s : Int) (A : Option Addr) (n : Nat) (zs : List Bool) (c : Nat) (h : Bool) (w : World) (hr : RL w w.heap.size A n zs) (hl : n ≤ 1048576) :
    Calls Try.prog 39 #[.agg #[.int .i64 s, .slice A n c, .bool h]] w (GivesN w (perI s zs h)) := by
  obtain ⟨W, hW⟩ : ∃ W, w.alloc (.cells #[.int .i64 s, .slice A n c, .bool h] 27) = W := ⟨_, rfl⟩
  have hb : Below w.heap.size w W := by rw [← hW]; exact (Below.refl _ _).alloc (Nat.le_refl _) _
  obtain ⟨g, hg⟩ : ∃ g, w.heap.size = g := ⟨_, rfl⟩
  have r0 : Row3 W g 27 (.int .i64 s) (.slice A n c) (.bool h) := by rw [← hW, ← hg]; exact Row3.new w _ _ _ _
  have R0 := Lib.hid r0
  obtain ⟨a0, a1, a2, a3, a4, a5⟩ := r0.at_
  have hgW : g < W.heap.size := r0.lt
  have hwg : w.heap.size ≤ g := by omega
  clear r0
  obtain ⟨w1, hw1⟩ : ∃ w1, W.alloc (.cells #[.int .i64 s, .slice A n c, .bool h] 27) = w1 := ⟨_, rfl⟩
  obtain ⟨gx, hgx⟩ : ∃ gx, W.heap.size = gx := ⟨_, rfl⟩
  have hB1 : Below W.heap.size W w1 := by rw [← hw1]; exact (Below.refl _ _).alloc (Nat.le_refl _) _
  have RX := Lib.hid (show Row3 w1 gx 27 (.int .i64 s) (.slice A n c) (.bool h) by rw [← hw1, ← hgx]; exact Row3.new W _ _ _ _)
  have R01 := Lib.hid (R0.out.below hB1 R0.out.lt)
  have hT1 := hb.trans (hB1.mono hb.size)
  have hggx : g < gx := by omega
  have hwgx : w.heap.size ≤ gx := by omega
  have HW1 := Lib.hid hw1
  have HGX := Lib.hid hgx
  clear hw1 hgx hB1
  go_enter Try.func39, Try.ntmps39
  go_wp2
  rw [HW1.out, HGX.out]
  have HW := Lib.hid hW
  have HG := Lib.hid hg
  clear a0 a1 a2 a3 a4 a5 hW hg R0
  cases hv : fvB s zs
  · have HP := Lib.hid (per_f (h := h) hv)
    have hFV := fun w' hr' => fieldValidS s A n zs c h w' hr' (by omega)
    rw [hv] at hFV
    have HFV := Lib.hid (hFV w1 (hr.arg (Nat.le_refl _) hT1))
    obtain ⟨a0, a1, a2, a3, a4, a5⟩ := R01.out.at_
    clear hv hFV
    refine wp_loop_rounds 1 ?_
    rw [rounds_succ]
    go_wp2_with (go_at_call 16; refine HFV.out.mono ?_; rintro e w2 ⟨rfl, hB2⟩)
    go_ret
    exact ⟨ret_int HP.out.symm, hT1.trans (hB2.mono hT1.size)⟩
  · have hFV : ∀ w' : World, RL w' w'.heap.size A n zs → Calls Try.prog 16 #[.agg #[.int .i64 s, .slice A n c, .bool h]] w' (GivesT w' true) := fun w' hr' => by
      have := fieldValidS s A n zs c h w' hr' (by omega)
      rw [hv] at this
      exact this
    have HFV := Lib.hid hFV
    clear hFV
    have hSt : ∀ j A' n' c' w', RL w' w'.heap.size A' n' (itF s zs h j).1 → n' ≤ 1048576 → Calls Try.prog 36 #[.agg #[.int .i64 s, .slice A' n' c', .bool (itF s zs h j).2]] w' (GivesF w' s (itF s zs h (j + 1)).1 (itF s zs h (j + 1)).2) := fun j A' n' c' w' h1 h2 => by
      have := fieldStepS s A' n' (itF s zs h j).1 c' (itF s zs h j).2 w' h1 h2
      rw [it_valid hv j] at this
      exact this
    have hSm : ∀ j A' n' c' w', RL w' w'.heap.size A' n' (itF s zs h j).1 → n' ≤ 1048576 → RL w' w'.heap.size A n zs → Calls Try.prog 24 #[.agg #[.int .i64 s, .slice A' n' c', .bool (itF s zs h j).2], .agg #[.int .i64 s, .slice A n c, .bool h]] w' (GivesT w' (atB s zs h j)) := fun j A' n' c' w' h1 h2 h3 => by
      have := sameFieldS s A' n' (itF s zs h j).1 c' (itF s zs h j).2 s A n zs c h w' h1 (by omega) h3 (by omega)
      rw [at_sf hv j] at this
      exact this
    have HSt := Lib.hid hSt
    have HSm := Lib.hid hSm
    have HP := Lib.hid (per_t (h := h) hv)
    have HIL := Lib.hid (fun k => (it_len (h := h) hv k).trans hr.len)
    have hr1 := hr.arg (Nat.le_refl _) hT1
    clear hSt hSm hv
    go_loopw [4] (fun i wr => ∃ (j K : Nat) (A' : Option Addr) (n' c' : Nat), j ≤ 200 ∧ K ≤ j + 1 ∧ j + 1 ≤ K ∧ i = .int .i64 K ∧ n' ≤ 1048576 ∧ Hid (Row3 wr gx 27 (.int .i64 s) (.slice A' n' c') (.bool (itF s zs h j).2)) ∧ Hid (RL wr wr.heap.size A' n' (itF s zs h j).1) ∧ Hid (Row3 wr g 27 (.int .i64 s) (.slice A n c) (.bool h)) ∧ Hid (perF s zs h (200 - j) (j + 1) = perI s zs h) ∧ Below w.heap.size w wr)
      (fun i _ => 202 - (intOf i).toNat)
    case atStart => exact ⟨0, 1, A, n, c, by omega, by omega, by omega, rfl, hl, RX.out, hr1, R01.out, HP.out.symm, hT1⟩
    case round =>
      clear RX R01 hT1 hr1 HP
      obtain ⟨j, K, A', n', c', hj, hK1, hK2, rfl, hn', RX, HRL, R0, HP, hT⟩ := hrel
      obtain ⟨a0, a1, a2, a3, a4, a5⟩ := R0.out.at_
      obtain ⟨x0, x1, x2, x3, x4, x5⟩ := RX.out.at_
      by_cases hlt : j < 200
      · have hk200 : K ≤ 200 := by omega
        have hc1 := fun w' h1 => HSt.out j A' n' c' w' h1 hn'
        have HC1 := Lib.hid hc1
        clear hc1
        go_wp2_with fail
        refine (HFV.out wr (hr.arg (Nat.le_refl _) hT)).mono ?_
        rintro e w3 ⟨rfl, hB3⟩
        have hT3 := hT.trans (hB3.mono hT.size)
        have RX3 := Lib.hid (RX.out.below hB3 RX.out.lt)
        have R03 := Lib.hid (R0.out.below hB3 R0.out.lt)
        have HRL3 := Lib.hid (HRL.out.up (Nat.le_refl _) hB3 (Nat.le_refl _))
        have hgx3 : gx < w3.heap.size := RX3.out.lt
        clear a0 a1 a2 a3 a4 a5 x0 x1 x2 x3 x4 x5 hB3 RX R0 HRL
        obtain ⟨x0, x1, x2, x3, x4, x5⟩ := RX3.out.at_
        go_wp2_with fail
        refine (HC1.out w3 HRL3.out).mono ?_
        rintro e w4 ⟨A4, n4, c4, rfl, hO4, hB4⟩
        have hT4 := hT3.trans (hB4.mono hT3.size)
        have RX4 := Lib.hid (RX3.out.below hB4 RX3.out.lt)
        have R04 := Lib.hid (R03.out.below hB4 R03.out.lt)
        have hn4 : n4 ≤ 1048576 := by rw [← hO4.len, HIL.out]; exact hl
        have HO4 := Lib.hid (((hO4.apart (grown_set _ ⟨gx, 0, none⟩ (.int .i64 s)) (.inl hgx3)).apart (grown_set _ ⟨gx, 1, none⟩ (.slice A4 n4 c4)) (.inl hgx3)).apart (grown_set _ ⟨gx, 2, none⟩ (.bool (itF s zs h (j + 1)).2)) (.inl hgx3))
        have RX5 := Lib.hid (((RX4.out.set0 (.int .i64 s)).set1 (.slice A4 n4 c4)).set2 (.bool (itF s zs h (j + 1)).2))
        have R05 := Lib.hid (R04.out.other3 (k := gx) (by omega) (.int .i64 s) (.slice A4 n4 c4) (.bool (itF s zs h (j + 1)).2))
        have hT5 := below_set3 hT4 (k := gx) hwgx (.int .i64 s) (.slice A4 n4 c4) (.bool (itF s zs h (j + 1)).2)
        obtain ⟨h5, hh5⟩ : ∃ b, (itF s zs h (j + 1)).2 = b := ⟨_, rfl⟩
        have hc2 := fun w' h1 h2 => HSm.out (j + 1) A4 n4 c4 w' h1 hn4 h2
        rw [hh5] at hc2 RX5 HO4 R05 hT5 ⊢
        obtain ⟨w5, hw5⟩ : ∃ w5, ((w4.setCell ⟨gx, 0, none⟩ (.int .i64 s)).setCell ⟨gx, 1, none⟩ (.slice A4 n4 c4)).setCell ⟨gx, 2, none⟩ (.bool h5) = w5 := ⟨_, rfl⟩
        rw [hw5] at HO4 RX5 R05 hT5
        have HC2 := Lib.hid hc2
        have HW5 := Lib.hid hw5
        have HH5 := Lib.hid hh5
        clear x0 x1 x2 x3 x4 x5 hO4 hB4 hc2 hw5 hh5
        obtain ⟨x0, x1, x2, x3, x4, x5⟩ := RX4.out.at_
        obtain ⟨a0, a1, a2, a3, a4, a5⟩ := R04.out.at_
        go_wp2_with fail
        rw [HW5.out]
        refine (HC2.out w5 HO4.out.reads (hr.arg (Nat.le_refl _) hT5)).mono ?_
        rintro e w6 ⟨rfl, hB6⟩
        have hT6 := hT5.trans (hB6.mono hT5.size)
        have RX6 := Lib.hid (RX5.out.below hB6 RX5.out.lt)
        have R06 := Lib.hid (R05.out.below hB6 R05.out.lt)
        have HO6 := Lib.hid (HO4.out.below hB6 (Nat.le_refl _)).reads
        clear x0 x1 x2 x3 x4 x5 a0 a1 a2 a3 a4 a5 hB6
        have hPP := HP.out
        rw [show 200 - j = (200 - (j + 1)) + 1 by omega] at hPP
        cases hat : atB s zs h (j + 1)
        · rw [perF_no hat] at hPP
          have HPP := Lib.hid hPP
          clear hPP hat
          go_wp2
          go_roundw
          case rel => exact ⟨j + 1, K + 1, A4, n4, c4, by omega, by omega, by omega, by go_num, hn4, by rw [HH5.out]; exact RX6.out, HO6.out, R06.out, HPP.out, hT6⟩
          case measure => simp [intOf]; omega
        · rw [perF_yes hat] at hPP
          have HPP := Lib.hid hPP
          have hKe : ((j + 1 : Nat) : Int) = (K : Int) := by omega
          have HKE := Lib.hid hKe
          clear hPP hat hKe
          go_wp2
          go_ret
          exact ⟨ret_int (by rw [← HPP.out, HKE.out]), hT6⟩
      · obtain rfl : j = 200 := by omega
        have hk201 : ¬ K ≤ 200 := by omega
        have HM := Lib.hid (show perI s zs h = -1 by rw [← HP.out]; rfl)
        go_wp2
        go_ret
        exact ⟨ret_int HM.out.symm, hT⟩
set_option maxHeartbeats 8000000 in
theorem fieldPeriod (s : Int) (A : Option Addr) (n : Nat) (zs : List Bool) (c : Nat) (h : Bool) (w : World) (hr : RL w w.heap.size A n zs) (hl : n ≤ 1048576) :
    Calls Try.prog 40 #[.agg #[.int .i64 s, .slice A n c, .bool h]] w (GivesN w (perI s zs h)) := by
  obtain ⟨W, hW⟩ : ∃ W, w.alloc (.cells #[.int .i64 s, .slice A n c, .bool h] 27) = W := ⟨_, rfl⟩
  have hb : Below w.heap.size w W := by rw [← hW]; exact (Below.refl _ _).alloc (Nat.le_refl _) _
  obtain ⟨g, hg⟩ : ∃ g, w.heap.size = g := ⟨_, rfl⟩
  have r0 : Row3 W g 27 (.int .i64 s) (.slice A n c) (.bool h) := by rw [← hW, ← hg]; exact Row3.new w _ _ _ _
  have R0 := Lib.hid r0
  obtain ⟨a0, a1, a2, a3, a4, a5⟩ := r0.at_
  have hgW : g < W.heap.size := r0.lt
  have hwg : w.heap.size ≤ g := by omega
  clear r0
  go_enter Try.func40, Try.ntmps40
  go_wp2_with fail
  refine (fieldValid s A n zs c h W (hr.arg (Nat.le_refl _) hb) (by omega)).mono ?_
  rintro e w2 ⟨rfl, hB2⟩
  have hT2 := hb.trans (hB2.mono hb.size)
  have R02 := Lib.hid (R0.out.below hB2 R0.out.lt)
  have hW2 := hB2.size
  have HW := Lib.hid hW
  have HG := Lib.hid hg
  clear a0 a1 a2 a3 a4 a5 hB2 hW hg
  cases hv : fvB s zs
  · have HP := Lib.hid (per_f (h := h) hv)
    clear hv
    go_wp2
    go_ret
    exact ⟨ret_int HP.out.symm, hT2⟩
  · obtain ⟨w1, hw1⟩ : ∃ w1, w2.alloc (.cells #[.int .i64 s, .slice A n c, .bool h] 27) = w1 := ⟨_, rfl⟩
    obtain ⟨gx, hgx⟩ : ∃ gx, w2.heap.size = gx := ⟨_, rfl⟩
    have hB1 : Below w2.heap.size w2 w1 := by rw [← hw1]; exact (Below.refl _ _).alloc (Nat.le_refl _) _
    have RX := Lib.hid (show Row3 w1 gx 27 (.int .i64 s) (.slice A n c) (.bool h) by rw [← hw1, ← hgx]; exact Row3.new w2 _ _ _ _)
    have R01 := Lib.hid (R02.out.below hB1 R02.out.lt)
    have hT1 := hT2.trans (hB1.mono hT2.size)
    have hggx : g < gx := by omega
    have hwgx : w.heap.size ≤ gx := by omega
    have HW1 := Lib.hid hw1
    have HGX := Lib.hid hgx
    obtain ⟨a0, a1, a2, a3, a4, a5⟩ := R02.out.at_
    have HVV := Lib.hid hv
    clear hw1 hgx hB1
    clear hv
    go_wp2
    rw [HW1.out, HGX.out]
    clear a0 a1 a2 a3 a4 a5
    have hv := HVV.out
    have hSt : ∀ j A' n' c' w', RL w' w'.heap.size A' n' (itF s zs h j).1 → n' ≤ 1048576 → Calls Try.prog 60 #[.agg #[.int .i64 s, .slice A' n' c', .bool (itF s zs h j).2]] w' (GivesF w' s (itF s zs h (j + 1)).1 (itF s zs h (j + 1)).2) := fun j A' n' c' w' h1 h2 => by
      exact step s A' n' (itF s zs h j).1 c' (itF s zs h j).2 w' h1 h2 (it_valid hv j)
    have hSm : ∀ j A' n' c' w', RL w' w'.heap.size A' n' (itF s zs h j).1 → n' ≤ 1048576 → RL w' w'.heap.size A n zs → Calls Try.prog 52 #[.agg #[.int .i64 s, .slice A' n' c', .bool (itF s zs h j).2], .agg #[.int .i64 s, .slice A n c, .bool h]] w' (GivesT w' (atB s zs h j)) := fun j A' n' c' w' h1 h2 h3 => by
      have := same s A' n' (itF s zs h j).1 c' (itF s zs h j).2 s A n zs c h w' h1 (by omega) h3 (by omega)
      rw [at_same j] at this
      exact this
    have HSt := Lib.hid hSt
    have HSm := Lib.hid hSm
    have HP := Lib.hid (per_t (h := h) hv)
    have HIL := Lib.hid (fun k => (it_len (h := h) hv k).trans hr.len)
    have hr1 := hr.arg (Nat.le_refl _) hT1
    clear hSt hSm hv
    go_loopw [4] (fun i wr => ∃ (j K : Nat) (A' : Option Addr) (n' c' : Nat), j ≤ 200 ∧ K ≤ j + 1 ∧ j + 1 ≤ K ∧ i = .int .i64 K ∧ n' ≤ 1048576 ∧ Hid (Row3 wr gx 27 (.int .i64 s) (.slice A' n' c') (.bool (itF s zs h j).2)) ∧ Hid (RL wr wr.heap.size A' n' (itF s zs h j).1) ∧ Hid (Row3 wr g 27 (.int .i64 s) (.slice A n c) (.bool h)) ∧ Hid (perF s zs h (200 - j) (j + 1) = perI s zs h) ∧ Below w.heap.size w wr)
      (fun i _ => 202 - (intOf i).toNat)
    case atStart => exact ⟨0, 1, A, n, c, by omega, by omega, by omega, rfl, hl, RX.out, hr1, R01.out, HP.out.symm, hT1⟩
    case round =>
      clear RX R01 hT1 hr1 HP
      obtain ⟨j, K, A', n', c', hj, hK1, hK2, rfl, hn', RX, HRL, R0, HP, hT⟩ := hrel
      obtain ⟨a0, a1, a2, a3, a4, a5⟩ := R0.out.at_
      obtain ⟨x0, x1, x2, x3, x4, x5⟩ := RX.out.at_
      by_cases hlt : j < 200
      · have hk200 : K ≤ 200 := by omega
        have hc1 := fun w' h1 => HSt.out j A' n' c' w' h1 hn'
        have HC1 := Lib.hid hc1
        clear hc1
        have RX3 := RX
        have R03 := R0
        have HRL3 := HRL
        have hT3 := hT
        have hgx3 : gx < wr.heap.size := RX3.out.lt
        obtain ⟨w3, hw3⟩ : ∃ w3 : World, w3 = wr := ⟨_, rfl⟩
        rw [← hw3] at RX3 R03 HRL3 hT3 hgx3 a0 a1 a2 a3 a4 a5 x0 x1 x2 x3 x4 x5 ⊢
        clear RX R0 HRL hT hw3
        go_wp2_with fail
        refine (HC1.out w3 HRL3.out).mono ?_
        rintro e w4 ⟨A4, n4, c4, rfl, hO4, hB4⟩
        have hT4 := hT3.trans (hB4.mono hT3.size)
        have RX4 := Lib.hid (RX3.out.below hB4 RX3.out.lt)
        have R04 := Lib.hid (R03.out.below hB4 R03.out.lt)
        have hn4 : n4 ≤ 1048576 := by rw [← hO4.len, HIL.out]; exact hl
        have HO4 := Lib.hid (((hO4.apart (grown_set _ ⟨gx, 0, none⟩ (.int .i64 s)) (.inl hgx3)).apart (grown_set _ ⟨gx, 1, none⟩ (.slice A4 n4 c4)) (.inl hgx3)).apart (grown_set _ ⟨gx, 2, none⟩ (.bool (itF s zs h (j + 1)).2)) (.inl hgx3))
        have RX5 := Lib.hid (((RX4.out.set0 (.int .i64 s)).set1 (.slice A4 n4 c4)).set2 (.bool (itF s zs h (j + 1)).2))
        have R05 := Lib.hid (R04.out.other3 (k := gx) (by omega) (.int .i64 s) (.slice A4 n4 c4) (.bool (itF s zs h (j + 1)).2))
        have hT5 := below_set3 hT4 (k := gx) hwgx (.int .i64 s) (.slice A4 n4 c4) (.bool (itF s zs h (j + 1)).2)
        obtain ⟨h5, hh5⟩ : ∃ b, (itF s zs h (j + 1)).2 = b := ⟨_, rfl⟩
        have hc2 := fun w' h1 h2 => HSm.out (j + 1) A4 n4 c4 w' h1 hn4 h2
        rw [hh5] at hc2 RX5 HO4 R05 hT5 ⊢
        obtain ⟨w5, hw5⟩ : ∃ w5, ((w4.setCell ⟨gx, 0, none⟩ (.int .i64 s)).setCell ⟨gx, 1, none⟩ (.slice A4 n4 c4)).setCell ⟨gx, 2, none⟩ (.bool h5) = w5 := ⟨_, rfl⟩
        rw [hw5] at HO4 RX5 R05 hT5
        have HC2 := Lib.hid hc2
        have HW5 := Lib.hid hw5
        have HH5 := Lib.hid hh5
        clear a0 a1 a2 a3 a4 a5 x0 x1 x2 x3 x4 x5 hO4 hB4 hc2 hw5 hh5
        obtain ⟨x0, x1, x2, x3, x4, x5⟩ := RX4.out.at_
        obtain ⟨a0, a1, a2, a3, a4, a5⟩ := R04.out.at_
        go_wp2_with fail
        rw [HW5.out]
        refine (HC2.out w5 HO4.out.reads (hr.arg (Nat.le_refl _) hT5)).mono ?_
        rintro e w6 ⟨rfl, hB6⟩
        have hT6 := hT5.trans (hB6.mono hT5.size)
        have RX6 := Lib.hid (RX5.out.below hB6 RX5.out.lt)
        have R06 := Lib.hid (R05.out.below hB6 R05.out.lt)
        have HO6 := Lib.hid (HO4.out.below hB6 (Nat.le_refl _)).reads
        clear x0 x1 x2 x3 x4 x5 a0 a1 a2 a3 a4 a5 hB6
        have hPP := HP.out
        rw [show 200 - j = (200 - (j + 1)) + 1 by omega] at hPP
        cases hat : atB s zs h (j + 1)
        · rw [perF_no hat] at hPP
          have HPP := Lib.hid hPP
          clear hPP hat
          go_wp2
          go_roundw
          case rel => exact ⟨j + 1, K + 1, A4, n4, c4, by omega, by omega, by omega, by go_num, hn4, by rw [HH5.out]; exact RX6.out, HO6.out, R06.out, HPP.out, hT6⟩
          case measure => simp [intOf]; omega
        · rw [perF_yes hat] at hPP
          have HPP := Lib.hid hPP
          have hKe : ((j + 1 : Nat) : Int) = (K : Int) := by omega
          have HKE := Lib.hid hKe
          clear hPP hat hKe
          go_wp2
          go_ret
          exact ⟨ret_int (by rw [← HPP.out, HKE.out]), hT6⟩
      · obtain rfl : j = 200 := by omega
        have hk201 : ¬ K ≤ 200 := by omega
        have HM := Lib.hid (show perI s zs h = -1 by rw [← HP.out]; rfl)
        go_wp2
        go_ret
        exact ⟨ret_int HM.out.symm, hT⟩
end Go.Proofs.Ytmianlihdiccjaa

/- Contracts: valid fields; how many balls; the same fields. -/
import Derived.Test.YtmianlihdiccjaaField
import Derived.Test.YtmianlihdiccjaaGuard
namespace Go.Proofs.Ytmianlihdiccjaa
open Go.RowKit
set_option linter.unusedVariables false

set_option maxHeartbeats 1000000 in
theorem sEqualB (A B : Option Addr) (m1 m2 : Nat) (xs ys : List Bool) (c d : Nat) (w : World) (hx : RL w w.heap.size A m1 xs) (hy : RL w w.heap.size B m2 ys) (hl : m1 ≤ 1125899906842624) (hm : m2 ≤ 1125899906842624) :
    Calls Try.prog 63 #[.slice A m1 c, .slice B m2 d] w (EqPostB w (eqB xs ys)) := by
  obtain rfl := hx.len
  obtain rfl := hy.len
  by_cases hlen : xs.length = ys.length
  · have hne : ((xs.length : Int) != (ys.length : Int)) = false := by simp [hlen]
    have HL := Lib.hid hlen
    clear hlen
    go_enter Try.func63, Try.ntmps63
    go_wp2
    go_loopw [13] (fun i wr => ∃ (k n : Nat), k ≤ xs.length ∧ i = .int .i64 k ∧ wr = w.drewN n ∧ (∀ j, j < k → xs[j]? = ys[j]?)) (fun i _ => xs.length - (intOf i).toNat)
    case atStart => exact ⟨0, 0, Nat.zero_le _, rfl, rfl, fun j hj => absurd hj (by omega)⟩
    case round =>
      obtain ⟨k, n, hk, rfl, rfl, hj⟩ := hrel
      have HJ := Lib.hid hj
      clear hj
      by_cases hlt : k < xs.length
      · obtain ⟨ad, x, rfl, hb, hxx, hc⟩ := hx.at_ hlt
        obtain ⟨bd, y, rfl, hb', hyy, hd⟩ := hy.at_ (k := k) (by rw [← HL.out]; exact hlt)
        have hlt' : k < ys.length := by rw [← HL.out]; exact hlt
        have HX := Lib.hid hxx
        have HY := Lib.hid hyy
        clear hxx hyy
        cases x <;> cases y
        case true.true | false.false =>
          have hcw : ∀ m, (w.drewN m).cell? (ad.add k) = _ := fun _ => hc
          have hdw : ∀ m, (w.drewN m).cell? (bd.add k) = _ := fun _ => hd
          go_wp2
          go_quiet (fail)
          go_wp2
          go_roundw
          case rel =>
            refine ⟨k + 1, _, by omega, by go_num, rfl, fun j hj => ?_⟩
            by_cases e : j = k
            · rw [e, HX.out, HY.out]
            · exact HJ.out j (by omega)
          case measure => simp [intOf]; omega
        all_goals
          have hcw : ∀ m, (w.drewN m).cell? (ad.add k) = _ := fun _ => hc
          have hdw : ∀ m, (w.drewN m).cell? (bd.add k) = _ := fun _ => hd
          go_wp2
          go_quiet (fail)
          go_wp2
          go_ret
          refine ⟨ret_bool ?_, n + nq, by first | rfl | exact World.drewN_drewN _ _ _⟩
          symm
          simp only [eqB, decide_eq_false_iff_not]
          intro e
          have := HX.out
          rw [e, HY.out] at this
          cases this
      · obtain rfl : k = xs.length := by omega
        go_wp2
        go_ret
        refine ⟨ret_bool ?_, _, rfl⟩
        symm
        simp only [eqB, decide_eq_true_iff]
        apply List.ext_getElem?
        intro j
        by_cases hj : j < xs.length
        · exact HJ.out j hj
        · rw [List.getElem?_eq_none (by omega), List.getElem?_eq_none (by rw [← HL.out]; omega)]
  · have hne : ((xs.length : Int) != (ys.length : Int)) = true := by simp; omega
    have HL := Lib.hid hlen
    clear hlen
    go_enter Try.func63, Try.ntmps63
    go_wp2
    go_ret
    refine ⟨ret_bool ?_, 0, rfl⟩
    symm
    simp only [eqB, decide_eq_false_iff_not]
    intro e
    exact HL.out (by rw [e])
set_option maxHeartbeats 1000000 in
theorem sameBools (A B : Option Addr) (m1 m2 : Nat) (xs ys : List Bool) (c d : Nat) (w : World) (hx : RL w w.heap.size A m1 xs) (hy : RL w w.heap.size B m2 ys) (hl : m1 ≤ 1125899906842624) (hm : m2 ≤ 1125899906842624) :
    Calls Try.prog 59 #[.slice A m1 c, .slice B m2 d] w (EqPostB w (eqB xs ys)) := by
  obtain rfl := hx.len
  obtain rfl := hy.len
  by_cases hlen : xs.length = ys.length
  · have hne : ((xs.length : Int) != (ys.length : Int)) = false := by simp [hlen]
    have HL := Lib.hid hlen
    clear hlen
    go_enter Try.func59, Try.ntmps59
    go_wp2
    go_loopw [5] (fun i wr => ∃ (k n : Nat), k ≤ xs.length ∧ i = .int .i64 k ∧ wr = w.drewN n ∧ (∀ j, j < k → xs[j]? = ys[j]?)) (fun i _ => xs.length - (intOf i).toNat)
    case atStart => exact ⟨0, 0, Nat.zero_le _, rfl, rfl, fun j hj => absurd hj (by omega)⟩
    case round =>
      obtain ⟨k, n, hk, rfl, rfl, hj⟩ := hrel
      have HJ := Lib.hid hj
      clear hj
      by_cases hlt : k < xs.length
      · obtain ⟨ad, x, rfl, hb, hxx, hc⟩ := hx.at_ hlt
        obtain ⟨bd, y, rfl, hb', hyy, hd⟩ := hy.at_ (k := k) (by rw [← HL.out]; exact hlt)
        have hlt' : k < ys.length := by rw [← HL.out]; exact hlt
        have HX := Lib.hid hxx
        have HY := Lib.hid hyy
        clear hxx hyy
        cases x <;> cases y
        case true.true | false.false =>
          have hcw : ∀ m, (w.drewN m).cell? (ad.add k) = _ := fun _ => hc
          have hdw : ∀ m, (w.drewN m).cell? (bd.add k) = _ := fun _ => hd
          go_wp2
          go_quiet (fail)
          go_wp2
          go_roundw
          case rel =>
            refine ⟨k + 1, _, by omega, by go_num, rfl, fun j hj => ?_⟩
            by_cases e : j = k
            · rw [e, HX.out, HY.out]
            · exact HJ.out j (by omega)
          case measure => simp [intOf]; omega
        all_goals
          have hcw : ∀ m, (w.drewN m).cell? (ad.add k) = _ := fun _ => hc
          have hdw : ∀ m, (w.drewN m).cell? (bd.add k) = _ := fun _ => hd
          go_wp2
          go_quiet (fail)
          go_wp2
          go_ret
          refine ⟨ret_bool ?_, n + nq, by first | rfl | exact World.drewN_drewN _ _ _⟩
          symm
          simp only [eqB, decide_eq_false_iff_not]
          intro e
          have := HX.out
          rw [e, HY.out] at this
          cases this
      · obtain rfl : k = xs.length := by omega
        go_wp2
        go_ret
        refine ⟨ret_bool ?_, _, rfl⟩
        symm
        simp only [eqB, decide_eq_true_iff]
        apply List.ext_getElem?
        intro j
        by_cases hj : j < xs.length
        · exact HJ.out j hj
        · rw [List.getElem?_eq_none (by omega), List.getElem?_eq_none (by rw [← HL.out]; omega)]
  · have hne : ((xs.length : Int) != (ys.length : Int)) = true := by simp; omega
    have HL := Lib.hid hlen
    clear hlen
    go_enter Try.func59, Try.ntmps59
    go_wp2
    go_ret
    refine ⟨ret_bool ?_, 0, rfl⟩
    symm
    simp only [eqB, decide_eq_false_iff_not]
    intro e
    exact HL.out (by rw [e])
theorem fv_no1 {s : Int} {bs : List Bool} (h : inB s 2 8 = false) : fvB s bs = false := by
  cases hf : fvB s bs with
  | false => rfl
  | true => have := fv_iff.1 hf; rw [inB_t this.1 this.2.1] at h; cases h
theorem fv_no2 {s : Int} {bs : List Bool} (h : s % 2 = 1) : fvB s bs = false := by
  cases hf : fvB s bs with
  | false => rfl
  | true => have := fv_iff.1 hf; omega
theorem fv_no3 {s : Int} {bs : List Bool} (h : ¬ (bs.length : Int) = s * s) : fvB s bs = false := by
  cases hf : fvB s bs with
  | false => rfl
  | true => exact absurd (fv_iff.1 hf).2.2.2.1 h
theorem fv_eq {s : Int} {bs : List Bool} (h : inB s 2 8 = true) (h2 : ¬ s % 2 = 1) (h3 : (bs.length : Int) = s * s) : fvB s bs = decide ((cnt bs : Int) ≤ 12) := by
  have := inB_iff.1 h
  rw [Bool.eq_iff_iff, fv_iff]
  simp
  constructor
  · rintro ⟨_, _, _, _, h5⟩; omega
  · intro h5; exact ⟨by omega, by omega, by omega, h3, by omega⟩
theorem sq_bd {s : Int} (h0 : 2 ≤ s) (h1 : s ≤ 8) : 4 ≤ s * s ∧ s * s ≤ 64 := by
  have h : s = 2 ∨ s = 3 ∨ s = 4 ∨ s = 5 ∨ s = 6 ∨ s = 7 ∨ s = 8 := by omega
  rcases h with rfl | rfl | rfl | rfl | rfl | rfl | rfl <;> decide
set_option maxHeartbeats 1000000 in
theorem fieldValid (s : Int) (A : Option Addr) (n : Nat) (zs : List Bool) (c : Nat) (h : Bool) (w : World) (hr : RL w w.heap.size A n zs) (hl : n ≤ 1048577) :
    Calls Try.prog 18 #[.agg #[.int .i64 s, .slice A n c, .bool h]] w (GivesT w (fvB s zs)) := by
  have hb := (Below.refl w.heap.size w).alloc (Nat.le_refl _) (.cells #[.int .i64 s, .slice A n c, .bool h] 27)
  have HL := Lib.hid hr.len
  cases hs : inB s 2 8
  · rw [fv_no1 hs]
    go_enter Try.func18, Try.ntmps18
    go_wp2_with (go_at_call 46; refine (within _ _ _ _).mono ?_; rintro e w' ⟨rfl, rfl⟩)
    go_ret
    exact ⟨rfl, hb⟩
  · obtain ⟨hs0, hs1⟩ := inB_iff.1 hs
    obtain ⟨q0, q1⟩ := sq_bd hs0 hs1
    obtain ⟨N, hN⟩ : ∃ N, s * s = N := ⟨_, rfl⟩
    rw [hN] at q0 q1
    by_cases h2 : s % 2 = 1
    · rw [fv_no2 h2]
      have hq : (s % 2 == 1) = true := by simp [h2]
      clear h2
      go_enter Try.func18, Try.ntmps18
      go_wp2_with (go_at_call 46; refine (within _ _ _ _).mono ?_; rintro e w' ⟨rfl, rfl⟩)
      go_ret
      exact ⟨rfl, hb⟩
    · have hq : (s % 2 == 1) = false := by simp [h2]
      by_cases hn : (n : Int) = N
      · rw [fv_eq hs h2 (by rw [HL.out, hn, hN])]
        have hne : ((n : Int) != N) = false := by simp [hn]
        have HN := Lib.hid hn
        have hc64 : cnt zs ≤ 64 := by have := cnt_le zs; have := HL.out; omega
        have hrb := hr.arg (Nat.le_refl _) hb
        clear h2 hn
        go_enter Try.func18, Try.ntmps18
        go_wp2_with (first | (go_at_call 46; refine (within _ _ _ _).mono ?_; rintro e w' ⟨rfl, rfl⟩) | (go_at_call 47; refine (many s A n zs c h _ hrb hl).mono ?_; rintro e w2 ⟨rfl, hb2⟩))
        go_ret
        exact ⟨rfl, hb.trans (hb2.mono hb.size)⟩
      · rw [fv_no3 (by rw [HL.out, hN]; exact hn)]
        have hne : ((n : Int) != N) = true := by simp [hn]
        clear h2 hn
        go_enter Try.func18, Try.ntmps18
        go_wp2_with (go_at_call 46; refine (within _ _ _ _).mono ?_; rintro e w' ⟨rfl, rfl⟩)
        go_ret
        exact ⟨rfl, hb⟩
set_option maxHeartbeats 1000000 in
theorem fieldValidS (s : Int) (A : Option Addr) (n : Nat) (zs : List Bool) (c : Nat) (h : Bool) (w : World) (hr : RL w w.heap.size A n zs) (hl : n ≤ 1048577) :
    Calls Try.prog 16 #[.agg #[.int .i64 s, .slice A n c, .bool h]] w (GivesT w (fvB s zs)) := by
  have hb := (Below.refl w.heap.size w).alloc (Nat.le_refl _) (.cells #[.int .i64 s, .slice A n c, .bool h] 27)
  have hr1 := hr.arg (Nat.le_refl _) hb
  have HL := Lib.hid hr.len
  go_enter Try.func16, Try.ntmps16
  go_wp2
  go_loop [3, 4] (fun m i => ∃ k : Nat, k ≤ n ∧ i = .int .i64 k ∧ m = .int .i64 (cnt (zs.take k) : Int)) (fun _ i => n - (intOf i).toNat)
  case atStart => exact ⟨0, by omega, rfl, rfl⟩
  case round =>
    obtain ⟨k, hk, rfl, rfl⟩ := hrel
    have hct := cnt_take_le zs k
    by_cases hlt : k < n
    · obtain ⟨ad, x, rfl, hbx, hx, hcx⟩ := hr1.at_ (k := k) hlt
      cases x
      · have HX := Lib.hid (cnt_f hx)
        clear hx
        go_wp2
        go_round
        case rel => exact ⟨k + 1, by omega, by go_num, by rw [HX.out]⟩
        case measure => simp [intOf]; omega
      · have HX := Lib.hid (cnt_t hx)
        clear hx
        go_wp2
        go_round
        case rel => exact ⟨k + 1, by omega, by go_num, by rw [HX.out]; go_num⟩
        case measure => simp [intOf]; omega
    · obtain rfl : k = n := by omega
      rw [List.take_of_length_le (by rw [HL.out]; exact Nat.le_refl _)] at hct ⊢
      cases hs : inB s 2 8
      · go_wp2_with (go_at_call 44; refine (l1In _ _ _ _).mono ?_; rintro e w' ⟨rfl, rfl⟩)
        go_ret
        exact ⟨ret_bool (fv_no1 hs).symm, hb⟩
      · obtain ⟨hs0, hs1⟩ := inB_iff.1 hs
        obtain ⟨q0, q1⟩ := sq_bd hs0 hs1
        obtain ⟨N, hN⟩ : ∃ N, s * s = N := ⟨_, rfl⟩
        rw [hN] at q0 q1
        by_cases h2 : s % 2 = 1
        · have hf := fv_no2 (bs := zs) h2
          have hq : (s % 2 == 0) = false := by simp [h2]
          have HF := Lib.hid hf
          clear h2 hf
          go_wp2_with (go_at_call 44; refine (l1In _ _ _ _).mono ?_; rintro e w' ⟨rfl, rfl⟩)
          go_ret
          exact ⟨ret_bool HF.out.symm, hb⟩
        · have hq : (s % 2 == 0) = true := by simp; omega
          by_cases hn : (k : Int) = N
          · have hf := fv_eq hs h2 (by rw [HL.out, hn, hN])
            have HF := Lib.hid hf
            clear hf
            have hne : ((k : Int) == N) = true := by simp [hn]
            clear h2 hn
            go_wp2_with (go_at_call 44; refine (l1In _ _ _ _).mono ?_; rintro e w' ⟨rfl, rfl⟩)
            go_ret
            exact ⟨ret_bool HF.out.symm, hb⟩
          · have hf := fv_no3 (s := s) (bs := zs) (by rw [HL.out, hN]; exact hn)
            have HF := Lib.hid hf
            clear hf
            have hne : ((k : Int) == N) = false := by simp [hn]
            clear h2 hn
            go_wp2_with (go_at_call 44; refine (l1In _ _ _ _).mono ?_; rintro e w' ⟨rfl, rfl⟩)
            go_ret
            exact ⟨ret_bool HF.out.symm, hb⟩
theorem ballsMany (s : Int) (A : Option Addr) (n : Nat) (zs : List Bool) (c : Nat) (h : Bool) (w : World) (hr : RL w w.heap.size A n zs) (hl : n ≤ 1048577) :
    Calls Try.prog 23 #[.agg #[.int .i64 s, .slice A n c, .bool h]] w (GivesN w (bmI s zs)) := by
  have hb := (Below.refl w.heap.size w).alloc (Nat.le_refl _) (.cells #[.int .i64 s, .slice A n c, .bool h] 27)
  have hr1 := hr.arg (Nat.le_refl _) hb
  have r0 := Row3.new w 27 (.int .i64 s) (.slice A n c) (.bool h)
  have HR := Lib.hid r0
  clear r0
  cases hv : fvB s zs
  · have hm : bmI s zs = -1 := by simp [bmI, hv]
    rw [hm]
    go_enter Try.func23, Try.ntmps23
    go_wp2_with fail
    refine (fieldValid s A n zs c h _ hr1 hl).mono ?_
    rintro e w2 ⟨rfl, hb2⟩
    go_wp2
    go_ret
    exact ⟨rfl, hb.trans (hb2.mono hb.size)⟩
  · have hm : bmI s zs = (cnt zs : Int) := by simp [bmI, hv]
    rw [hm]
    go_enter Try.func23, Try.ntmps23
    go_wp2_with fail
    refine (fieldValid s A n zs c h _ hr1 hl).mono ?_
    rintro e w2 ⟨rfl, hb2⟩
    obtain ⟨a0, a1, a2, _, _, _⟩ := (HR.out.below hb2 (by simp)).at_
    have hb3 := hb.trans (hb2.mono hb.size)
    go_wp2_with fail
    refine (many s A n zs c h _ (hr.arg (Nat.le_refl _) hb3) hl).mono ?_
    rintro e w4 ⟨rfl, hb4⟩
    go_wp2
    go_ret
    exact ⟨rfl, hb3.trans (hb4.mono hb3.size)⟩
set_option maxHeartbeats 1000000 in
theorem ballsManyS (s : Int) (A : Option Addr) (n : Nat) (zs : List Bool) (c : Nat) (h : Bool) (w : World) (hr : RL w w.heap.size A n zs) (hl : n ≤ 1048577) :
    Calls Try.prog 22 #[.agg #[.int .i64 s, .slice A n c, .bool h]] w (GivesN w (bmI s zs)) := by
  have hb := (Below.refl w.heap.size w).alloc (Nat.le_refl _) (.cells #[.int .i64 s, .slice A n c, .bool h] 27)
  have hr1 := hr.arg (Nat.le_refl _) hb
  have r0 := Row3.new w 27 (.int .i64 s) (.slice A n c) (.bool h)
  have HR := Lib.hid r0
  have HL := Lib.hid hr.len
  clear r0
  cases hv : fvB s zs
  · have hm : bmI s zs = -1 := by simp [bmI, hv]
    rw [hm]
    go_enter Try.func22, Try.ntmps22
    go_wp2_with fail
    refine (fieldValidS s A n zs c h _ hr1 hl).mono ?_
    rintro e w2 ⟨rfl, hb2⟩
    go_wp2
    go_ret
    exact ⟨rfl, hb.trans (hb2.mono hb.size)⟩
  · have hm : bmI s zs = (cnt zs : Int) := by simp [bmI, hv]
    rw [hm]
    go_enter Try.func22, Try.ntmps22
    go_wp2_with fail
    refine (fieldValidS s A n zs c h _ hr1 hl).mono ?_
    rintro e w2 ⟨rfl, hb2⟩
    obtain ⟨a0, a1, a2, _, _, _⟩ := (HR.out.below hb2 (by simp)).at_
    have hb3 := hb.trans (hb2.mono hb.size)
    have hr2 := hr.arg (Nat.le_refl _) hb3
    go_wp2
    go_loop [3, 4] (fun m i => ∃ k : Nat, k ≤ n ∧ i = .int .i64 k ∧ m = .int .i64 (cnt (zs.take k) : Int)) (fun _ i => n - (intOf i).toNat)
    case atStart => exact ⟨0, by omega, rfl, rfl⟩
    case round =>
      obtain ⟨k, hk, rfl, rfl⟩ := hrel
      have hct := cnt_take_le zs k
      by_cases hlt : k < n
      · obtain ⟨ad, x, rfl, hbx, hx, hcx⟩ := hr2.at_ (k := k) hlt
        cases x
        · have HX := Lib.hid (cnt_f hx)
          clear hx
          go_wp2
          go_round
          case rel => exact ⟨k + 1, by omega, by go_num, by rw [HX.out]⟩
          case measure => simp [intOf]; omega
        · have HX := Lib.hid (cnt_t hx)
          clear hx
          go_wp2
          go_round
          case rel => exact ⟨k + 1, by omega, by go_num, by rw [HX.out]; go_num⟩
          case measure => simp [intOf]; omega
      · obtain rfl : k = n := by omega
        go_wp2
        go_ret
        exact ⟨ret_int (by rw [List.take_of_length_le (by rw [HL.out]; exact Nat.le_refl _)]), hb3⟩
end Go.Proofs.Ytmianlihdiccjaa

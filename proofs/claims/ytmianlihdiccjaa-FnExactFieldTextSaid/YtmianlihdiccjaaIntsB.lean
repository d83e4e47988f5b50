/- Contracts of the helpers on slices of bools: copy, compare, mark, held, size. -/
import Derived.Test.YtmianlihdiccjaaBase
import Derived.Test.YtmianlihdiccjaaPushB
import Derived.Test.YtmianlihdiccjaaPlBall
namespace Go.Proofs.Ytmianlihdiccjaa
open Go.RowKit
set_option linter.unusedVariables false

set_option maxHeartbeats 400000 in
theorem toBoolS (A : Option Addr) (n : Nat) (zs : List Bool) (c : Nat) (w : World) (hr : RL w w.heap.size A n zs) (hl : n ≤ 1048576) :
    Calls Try.prog 45 #[.slice A n c] w (GivesB w zs) := by
  obtain rfl := hr.len
  obtain ⟨i0, hi, hz0, hz1, hz2⟩ := info_parts infoBool
  go_enter Try.func45, Try.ntmps45
  go_wp2_with (at_make; refine wpList_make_full _ rfl _ _ 22 rfl w.heap.size 4 i0 (.bool false) 1 Try.underlying22 hi hz0 hz1 .i64 .i64 _ _ zs.length rfl rfl rfl rfl (by rw [hz2]; omega) (by unfold maxLen; omega) (Nat.le_refl _) ?_; intro w1 hown1 hg1)
  have hb1 : Below w.heap.size w w1 := grown_below hg1
  go_loopw [4] (fun i wr => ∃ (k : Nat) (ys : List Bool), k ≤ zs.length ∧ i = .int .i64 k ∧ ys.length = zs.length ∧ (∀ j, j < k → ys[j]? = zs[j]?) ∧ wr.ownsRow w.heap.size 4 1 (.slice (some ⟨w.heap.size, 0, none⟩) zs.length zs.length) zs.length (ys.map .bool) ∧ Below w.heap.size w wr)
    (fun i _ => zs.length - (intOf i).toNat)
  case atStart =>
    refine ⟨0, List.replicate zs.length false, Nat.zero_le _, rfl, by simp, fun j hj => absurd hj (by omega), ?_, hb1⟩
    have e : (madeCells (Value.bool false).cells (zs.length * 1)).toList = (List.replicate zs.length false).map .bool := by
      rw [Nat.mul_one, List.map_replicate]; exact toList_madeCells_one _ _
    rw [← e]; exact hown1
  case round =>
    obtain ⟨k, ys, hk, rfl, hyl, hyj, hown, hbw⟩ := hrel
    have HJ := Lib.hid hyj
    have HY := Lib.hid hyl
    clear hyj hyl
    by_cases hlt : k < zs.length
    · obtain ⟨ad, x, rfl, hb, hx, hc⟩ := (hr.below hbw).at_ hlt
      obtain ⟨u, hu⟩ : ∃ u, wr.cell? ⟨w.heap.size, k, none⟩ = some u := by
        rw [hown.cellAt k (by omega)]; exact ⟨_, List.getElem?_eq_getElem (by simp [HY.out]; omega)⟩
      have hf := hown.frozenAt k
      have hst := hown.stored k (.bool x)
      have HX := Lib.hid hx
      clear hx
      go_wp2
      go_roundw
      case rel =>
        refine ⟨k + 1, ys.set k x, by omega, by go_num, by simp [HY.out], fun j hj => ?_, by rw [List.map_set]; exact hst.1, hbw.grown hst.2 hbw.size (fun j e => by cases e; exact Nat.le_refl _)⟩
        rw [List.getElem?_set]
        split
        · rename_i e; subst e; rw [if_pos (by rw [HY.out]; omega)]; exact HX.out.symm
        · exact HJ.out j (by omega)
      case measure => simp [intOf]; omega
    · obtain rfl : k = zs.length := by omega
      go_wp2
      go_ret
      have e : ys = zs := by
        apply List.ext_getElem?
        intro j
        by_cases hj : j < zs.length
        · exact HJ.out j hj
        · rw [List.getElem?_eq_none (by rw [HY.out]; omega), List.getElem?_eq_none (by omega)]
      subst e
      exact ⟨_, _, _, rfl, OSb.toI hown, hbw⟩
/-- what comparing leaves -/
def EqPostB (w : World) (b : Bool) (e : Ending) (w' : World) : Prop := e = .returned (.bool b) ∧ ∃ n, w' = w.drewN n
set_option maxHeartbeats 1000000 in
theorem eqBoolS (A B : Option Addr) (m1 m2 : Nat) (xs ys : List Bool) (c d : Nat) (w : World) (hx : RL w w.heap.size A m1 xs) (hy : RL w w.heap.size B m2 ys) (hl : m1 ≤ 1125899906842624) (hm : m2 ≤ 1125899906842624) :
    Calls Try.prog 48 #[.slice A m1 c, .slice B m2 d] w (EqPostB w (eqB xs ys)) := by
  obtain rfl := hx.len
  obtain rfl := hy.len
  by_cases hlen : xs.length = ys.length
  · have hne : ((xs.length : Int) != (ys.length : Int)) = false := by simp [hlen]
    have HL := Lib.hid hlen
    clear hlen
    go_enter Try.func48, Try.ntmps48
    go_wp2
    go_loopw [5] (fun i wr => ∃ (k n : Nat), k ≤ xs.length ∧ i = .int .i64 k ∧ wr = w.drewN n ∧ (∀ j, j < k → xs[j]? = ys[j]?)) (fun i _ => xs.length - (intOf i).toNat)
    case atStart => exact ⟨0, 0, Nat.zero_le _, rfl, rfl, fun j hj => absurd hj (by omega)⟩
    case round =>
      obtain ⟨k, n, hk, rfl, rfl, hj⟩ := hrel
      have HJ := Lib.hid hj
      clear hj
      by_cases hlt : k < xs.length
      · obtain ⟨ad, x, rfl, hb, hxx, hc⟩ := hx.at_ hlt
        obtain ⟨bd, y, rfl, hb', hyy, hd⟩ := hy.at_ (k := k) (by rw [← HL.out]; exact hlt)
        have hlt' : k < ys.length := by rw [← HL.out]; exact hlt
        have HX := Lib.hid hxx
        have HY := Lib.hid hyy
        clear hxx hyy
        cases x <;> cases y
        case true.true | false.false =>
          have hcw : ∀ m, (w.drewN m).cell? (ad.add k) = _ := fun _ => hc
          have hdw : ∀ m, (w.drewN m).cell? (bd.add k) = _ := fun _ => hd
          go_wp2
          go_quiet (fail)
          go_wp2
          go_roundw
          case rel =>
            refine ⟨k + 1, _, by omega, by go_num, rfl, fun j hj => ?_⟩
            by_cases e : j = k
            · rw [e, HX.out, HY.out]
            · exact HJ.out j (by omega)
          case measure => simp [intOf]; omega
        all_goals
          have hcw : ∀ m, (w.drewN m).cell? (ad.add k) = _ := fun _ => hc
          have hdw : ∀ m, (w.drewN m).cell? (bd.add k) = _ := fun _ => hd
          go_wp2
          go_quiet (fail)
          go_wp2
          go_ret
          refine ⟨ret_bool ?_, n + nq, by first | rfl | exact World.drewN_drewN _ _ _⟩
          symm
          simp only [eqB, decide_eq_false_iff_not]
          intro e
          have := HX.out
          rw [e, HY.out] at this
          cases this
      · obtain rfl : k = xs.length := by omega
        go_wp2
        go_ret
        refine ⟨ret_bool ?_, _, rfl⟩
        symm
        simp only [eqB, decide_eq_true_iff]
        apply List.ext_getElem?
        intro j
        by_cases hj : j < xs.length
        · exact HJ.out j hj
        · rw [List.getElem?_eq_none (by omega), List.getElem?_eq_none (by rw [← HL.out]; omega)]
  · have hne : ((xs.length : Int) != (ys.length : Int)) = true := by simp; omega
    have HL := Lib.hid hlen
    clear hlen
    go_enter Try.func48, Try.ntmps48
    go_wp2
    go_ret
    refine ⟨ret_bool ?_, 0, rfl⟩
    symm
    simp only [eqB, decide_eq_false_iff_not]
    intro e
    exact HL.out (by rw [e])
/-- every third is true -/
def upB (k : Int) (n : Nat) : List Bool := (List.range n).map fun (j : Nat) => ((k + (j : Int)) % 3 == 0)
theorem upB_len (k : Int) (n : Nat) : (upB k n).length = n := by simp [upB]
theorem upB_at {k : Int} {n j : Nat} (h : j < n) : (upB k n)[j]? = some ((k + (j : Int)) % 3 == 0) := by simp [upB, h]
set_option maxHeartbeats 400000 in
theorem markBoolS (A : Option Addr) (n : Nat) (zs : List Bool) (c base : Nat) (k : Int) (w : World) (ho : OIb w base A n c zs) (hl : n ≤ 1125899906842624) (h0 : 0 ≤ k) (h1 : k ≤ 1125899906842624) :
    Calls Try.prog 55 #[.slice A n c, .int .i64 k] w fun e w' => e = .returned (.int .i64 (k + n)) ∧ OIb w' base A n c (upB k n) ∧ w.grownBy w' (Value.slice A n c).ownBlock := by
  obtain rfl := ho.len
  go_enter Try.func55, Try.ntmps55
  go_wp2
  go_loopw [1, 5] (fun q i wr => ∃ (j : Nat) (ys : List Bool), j ≤ zs.length ∧ i = .int .i64 j ∧ q = .int .i64 (k + j) ∧ (∀ m, m < j → ys[m]? = some ((k + m) % 3 == 0)) ∧ OIb wr base A zs.length c ys ∧ w.grownBy wr (Value.slice A zs.length c).ownBlock)
    (fun _ i _ => zs.length - (intOf i).toNat)
  case atStart => exact ⟨0, zs, Nat.zero_le _, rfl, by simp, fun m hm => absurd hm (by omega), ho, World.grownBy.refl _ _⟩
  case round =>
    obtain ⟨j, ys, hj, rfl, rfl, hym, hown, hg⟩ := hrel
    have HM := Lib.hid hym
    have HO := Lib.hid hown
    have HY := Lib.hid hown.len
    clear hym hown
    by_cases hlt : j < zs.length
    · obtain ⟨g, rfl, hb, hgl⟩ := HO.out.addr (by omega)
      obtain ⟨u, hu⟩ : ∃ u, wr.cell? ⟨g, j, none⟩ = some u := by
        rw [HO.out.cellAt hlt]; exact ⟨_, List.getElem?_eq_getElem (by simp [HY.out]; omega)⟩
      have hf := HO.out.frozenAt j
      have hst := Lib.hid (HO.out.stored hlt ((k + j) % 3 == 0))
      go_wp2
      go_roundw
      case rel =>
        refine ⟨j + 1, ys.set j ((k + j) % 3 == 0), by omega, by go_num, by congr 1; push_cast; omega, fun m hm => ?_, hst.out.1, hg.trans hst.out.2⟩
        rw [List.getElem?_set]
        split
        · rename_i e; subst e; rw [if_pos (by rw [HY.out]; omega)]
        · exact HM.out m (by omega)
      case measure => simp [intOf]; omega
    · obtain rfl : j = zs.length := by omega
      go_wp2
      go_ret
      refine ⟨rfl, ?_, hg⟩
      have e : ys = upB k zs.length := ?_
      · rw [← e]; exact HO.out
      apply List.ext_getElem?
      intro m
      by_cases hm : m < zs.length
      · rw [HM.out m hm, upB_at hm]
      · rw [List.getElem?_eq_none (by rw [HY.out]; omega), List.getElem?_eq_none (by rw [upB_len]; omega)]
set_option maxHeartbeats 400000 in
theorem heldBoolS (A : Option Addr) (n c : Nat) (k : Int) (w : World) (hr : RL w w.heap.size A n (upB k n)) (hl : n ≤ 1125899906842624) (h0 : 0 ≤ k) (h1 : k ≤ 1125899906842624) :
    Calls Try.prog 56 #[.slice A n c, .int .i64 k] w fun e w' => e = .returned (.int .i64 (k + n)) ∧ ∃ nd, w' = w.drewN nd := by
  go_enter Try.func56, Try.ntmps56
  go_wp2
  go_loopw [1, 5] (fun q i wr => ∃ (j nd : Nat), j ≤ n ∧ i = .int .i64 j ∧ q = .int .i64 (k + j) ∧ wr = w.drewN nd) (fun _ i _ => n - (intOf i).toNat)
  case atStart => exact ⟨0, 0, Nat.zero_le _, rfl, by simp, rfl⟩
  case round =>
    obtain ⟨j, nd, hj, rfl, rfl, rfl⟩ := hrel
    by_cases hlt : j < n
    · obtain ⟨ad, u, rfl, hb, hx, hc⟩ := hr.at_ hlt
      have hu : ((k + (j : Int)) % 3 == 0) = u := by rw [upB_at hlt] at hx; exact Option.some.inj hx
      have hm : (k + (j : Int)).tmod 3 = (k + (j : Int)) % 3 := Int.tmod_eq_emod_of_nonneg (by omega)
      have hcw : ∀ m, (w.drewN m).cell? (ad.add j) = some (.bool u) := fun _ => hc
      clear hx
      cases u
      all_goals
        go_wp2
        try go_quiet (fail)
        go_wp2
        go_roundw
        case rel => exact ⟨j + 1, _, by omega, by go_num, by congr 1; push_cast; omega, rfl⟩
        case measure => simp [intOf]; omega
    · obtain rfl : j = n := by omega
      go_wp2
      go_ret
      exact ⟨rfl, _, rfl⟩
theorem szBoolS (A : Option Addr) (n c : Nat) (k : Int) (w : World) (hc : n ≤ c) (hcm : c ≤ maxLen) (h0 : 0 ≤ k) (h1 : k ≤ 1048576) :
    Calls Try.prog 43 #[.slice A n c, .int .i64 k] w fun e w' => e = .returned (.int .i64 (if k < n then -1 else k - n)) ∧ w = w' := by
  unfold maxLen at hcm
  by_cases h : k < (n : Int)
  · rw [if_pos h]
    have h2 : k - (n : Int) < 0 := by omega
    go_enter Try.func43, Try.ntmps43
    go_wp2
    go_ret
    exact ⟨rfl, rfl⟩
  · rw [if_neg h]
    have h2 : 0 ≤ k - (n : Int) := by omega
    go_enter Try.func43, Try.ntmps43
    go_wp2
    go_ret
    exact ⟨rfl, rfl⟩
end Go.Proofs.Ytmianlihdiccjaa

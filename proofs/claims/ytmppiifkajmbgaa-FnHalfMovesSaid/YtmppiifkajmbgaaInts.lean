/- Contracts of the helpers on slices of integers: copy, compare, mark, held. -/
import Derived.Test.YtmppiifkajmbgaaBase
import Derived.Test.YtmppiifkajmbgaaMem
namespace Go.Proofs.Ytmppiifkajmbgaa
open Go.RowKit
set_option linter.unusedVariables false

theorem infoInt : (Try.prog.info? 3).map (fun i => (i.zero, i.size, i.bytes)) = some (some (.int .i64 0), 1, 8) := by kernel_rfl

set_option maxHeartbeats 400000 in
theorem eqIntS (A B : Option Addr) (m1 m2 : Nat) (xs ys : List Int) (c d : Nat) (w : World) (hx : RI w w.heap.size A m1 xs) (hy : RI w w.heap.size B m2 ys) (hl : m1 ≤ 1125899906842624) (hm : m2 ≤ 1125899906842624) :
    Calls Try.prog 17 #[.slice A m1 c, .slice B m2 d] w fun e w' => e = .returned (.bool (eqL xs ys)) ∧ ∃ n, w' = w.drewN n := by
  obtain rfl := hx.len
  obtain rfl := hy.len
  by_cases hlen : xs.length = ys.length
  · have hne : ((xs.length : Int) != (ys.length : Int)) = false := by simp [hlen]
    have HL := Lib.hid hlen
    clear hlen
    go_enter Try.func17, Try.ntmps17
    go_wp2
    go_loopw [5] (fun i wr => ∃ (k n : Nat), k ≤ xs.length ∧ i = .int .i64 k ∧ wr = w.drewN n ∧ (∀ j, j < k → xs[j]? = ys[j]?)) (fun i _ => xs.length - (intOf i).toNat)
    case atStart => exact ⟨0, 0, Nat.zero_le _, rfl, rfl, fun j hj => absurd hj (by omega)⟩
    case round =>
      obtain ⟨k, n, hk, rfl, rfl, hj⟩ := hrel
      have HJ := Lib.hid hj
      clear hj
      by_cases hlt : k < xs.length
      · obtain ⟨ad, x, rfl, hb, hxx, hc⟩ := hx.at_ hlt
        obtain ⟨bd, y, rfl, hb', hyy, hd⟩ := hy.at_ (k := k) (by rw [← HL.out]; exact hlt)
        have hlt' : k < ys.length := by rw [← HL.out]; exact hlt
        have HX := Lib.hid hxx
        have HY := Lib.hid hyy
        clear hxx hyy
        have hcw : ∀ m, (w.drewN m).cell? (ad.add k) = some (.int .i64 x) := fun _ => hc
        have hdw : ∀ m, (w.drewN m).cell? (bd.add k) = some (.int .i64 y) := fun _ => hd
        by_cases hxy : x = y
        · have hq : (x != y) = false := by simp [hxy]
          have HQ := Lib.hid hxy
          clear hxy
          go_wp2
          go_quiet (fail)
          go_wp2
          go_roundw
          case rel =>
            refine ⟨k + 1, _, by omega, by go_num, rfl, fun j hj => ?_⟩
            by_cases e : j = k
            · rw [e, HX.out, HY.out, HQ.out]
            · exact HJ.out j (by omega)
          case measure => simp [intOf]; omega
        · have hq : (x != y) = true := by simp [hxy]
          have HQ := Lib.hid hxy
          clear hxy
          go_wp2
          go_quiet (fail)
          go_wp2
          go_ret
          refine ⟨ret_bool ?_, n + nq, World.drewN_drewN _ _ _⟩
          symm
          simp only [eqL, decide_eq_false_iff_not]
          intro e
          have := HX.out
          rw [e, HY.out] at this
          exact HQ.out (by simpa using this.symm)
      · obtain rfl : k = xs.length := by omega
        go_wp2
        go_ret
        refine ⟨ret_bool ?_, _, rfl⟩
        symm
        simp only [eqL, decide_eq_true_iff]
        apply List.ext_getElem?
        intro j
        by_cases hj : j < xs.length
        · exact HJ.out j hj
        · rw [List.getElem?_eq_none (by omega), List.getElem?_eq_none (by rw [← HL.out]; omega)]
  · have hne : ((xs.length : Int) != (ys.length : Int)) = true := by simp; omega
    have HL := Lib.hid hlen
    clear hlen
    go_enter Try.func17, Try.ntmps17
    go_wp2
    go_ret
    refine ⟨ret_bool ?_, 0, rfl⟩
    symm
    simp only [eqL, decide_eq_false_iff_not]
    intro e
    exact HL.out (by rw [e])
set_option maxHeartbeats 400000 in
theorem sameInts (A B : Option Addr) (m1 m2 : Nat) (xs ys : List Int) (c d : Nat) (w : World) (hx : RI w w.heap.size A m1 xs) (hy : RI w w.heap.size B m2 ys) (hl : m1 ≤ 1125899906842624) (hm : m2 ≤ 1125899906842624) :
    Calls Try.prog 23 #[.slice A m1 c, .slice B m2 d] w fun e w' => e = .returned (.bool (eqL xs ys)) ∧ ∃ n, w' = w.drewN n := by
  obtain rfl := hx.len
  obtain rfl := hy.len
  by_cases hlen : xs.length = ys.length
  · have hne : ((xs.length : Int) != (ys.length : Int)) = false := by simp [hlen]
    have HL := Lib.hid hlen
    clear hlen
    go_enter Try.func23, Try.ntmps23
    go_wp2
    go_loopw [5] (fun i wr => ∃ (k n : Nat), k ≤ xs.length ∧ i = .int .i64 k ∧ wr = w.drewN n ∧ (∀ j, j < k → xs[j]? = ys[j]?)) (fun i _ => xs.length - (intOf i).toNat)
    case atStart => exact ⟨0, 0, Nat.zero_le _, rfl, rfl, fun j hj => absurd hj (by omega)⟩
    case round =>
      obtain ⟨k, n, hk, rfl, rfl, hj⟩ := hrel
      have HJ := Lib.hid hj
      clear hj
      by_cases hlt : k < xs.length
      · obtain ⟨ad, x, rfl, hb, hxx, hc⟩ := hx.at_ hlt
        obtain ⟨bd, y, rfl, hb', hyy, hd⟩ := hy.at_ (k := k) (by rw [← HL.out]; exact hlt)
        have hlt' : k < ys.length := by rw [← HL.out]; exact hlt
        have HX := Lib.hid hxx
        have HY := Lib.hid hyy
        clear hxx hyy
        have hcw : ∀ m, (w.drewN m).cell? (ad.add k) = some (.int .i64 x) := fun _ => hc
        have hdw : ∀ m, (w.drewN m).cell? (bd.add k) = some (.int .i64 y) := fun _ => hd
        by_cases hxy : x = y
        · have hq : (x != y) = false := by simp [hxy]
          have HQ := Lib.hid hxy
          clear hxy
          go_wp2
          go_quiet (fail)
          go_wp2
          go_roundw
          case rel =>
            refine ⟨k + 1, _, by omega, by go_num, rfl, fun j hj => ?_⟩
            by_cases e : j = k
            · rw [e, HX.out, HY.out, HQ.out]
            · exact HJ.out j (by omega)
          case measure => simp [intOf]; omega
        · have hq : (x != y) = true := by simp [hxy]
          have HQ := Lib.hid hxy
          clear hxy
          go_wp2
          go_quiet (fail)
          go_wp2
          go_ret
          refine ⟨ret_bool ?_, n + nq, World.drewN_drewN _ _ _⟩
          symm
          simp only [eqL, decide_eq_false_iff_not]
          intro e
          have := HX.out
          rw [e, HY.out] at this
          exact HQ.out (by simpa using this.symm)
      · obtain rfl : k = xs.length := by omega
        go_wp2
        go_ret
        refine ⟨ret_bool ?_, _, rfl⟩
        symm
        simp only [eqL, decide_eq_true_iff]
        apply List.ext_getElem?
        intro j
        by_cases hj : j < xs.length
        · exact HJ.out j hj
        · rw [List.getElem?_eq_none (by omega), List.getElem?_eq_none (by rw [← HL.out]; omega)]
  · have hne : ((xs.length : Int) != (ys.length : Int)) = true := by simp; omega
    have HL := Lib.hid hlen
    clear hlen
    go_enter Try.func23, Try.ntmps23
    go_wp2
    go_ret
    refine ⟨ret_bool ?_, 0, rfl⟩
    symm
    simp only [eqL, decide_eq_false_iff_not]
    intro e
    exact HL.out (by rw [e])
/-- k, k + 1, .. -/
def upI (k : Int) (n : Nat) : List Int := (List.range n).map fun (j : Nat) => k + (j : Int)
theorem upI_len (k : Int) (n : Nat) : (upI k n).length = n := by simp [upI]
set_option maxHeartbeats 400000 in
theorem markIntS (A : Option Addr) (n : Nat) (zs : List Int) (c base : Nat) (k : Int) (w : World) (ho : OI w base A n c zs) (hl : n ≤ 1125899906842624) (h0 : 0 ≤ k) (h1 : k ≤ 1125899906842624) :
    Calls Try.prog 18 #[.slice A n c, .int .i64 k] w fun e w' => e = .returned (.int .i64 (k + n)) ∧ OI w' base A n c (upI k n) ∧ w.grownBy w' (Value.slice A n c).ownBlock := by
  obtain rfl := ho.len
  go_enter Try.func18, Try.ntmps18
  go_wp2
  go_loopw [1, 5] (fun q i wr => ∃ (j : Nat) (ys : List Int), j ≤ zs.length ∧ i = .int .i64 j ∧ q = .int .i64 (k + j) ∧ (∀ m, m < j → ys[m]? = some (k + m)) ∧ OI wr base A zs.length c ys ∧ w.grownBy wr (Value.slice A zs.length c).ownBlock)
    (fun _ i _ => zs.length - (intOf i).toNat)
  case atStart => exact ⟨0, zs, Nat.zero_le _, rfl, by simp, fun m hm => absurd hm (by omega), ho, World.grownBy.refl _ _⟩
  case round =>
    obtain ⟨j, ys, hj, rfl, rfl, hym, hown, hg⟩ := hrel
    have HM := Lib.hid hym
    have HO := Lib.hid hown
    have HY := Lib.hid hown.len
    clear hym hown
    by_cases hlt : j < zs.length
    · obtain ⟨g, rfl, hb, hgl⟩ := HO.out.addr (by omega)
      obtain ⟨u, hu⟩ : ∃ u, wr.cell? ⟨g, j, none⟩ = some u := by
        rw [HO.out.cellAt hlt]; exact ⟨_, List.getElem?_eq_getElem (by simp [HY.out]; omega)⟩
      have hf := HO.out.frozenAt j
      have hst := Lib.hid (HO.out.stored hlt (k + j))
      go_wp2
      go_roundw
      case rel =>
        refine ⟨j + 1, ys.set j (k + j), by omega, by go_num, by congr 1; push_cast; omega, fun m hm => ?_, hst.out.1, hg.trans hst.out.2⟩
        rw [List.getElem?_set]
        split
        · rename_i e; subst e; rw [if_pos (by rw [HY.out]; omega)]
        · exact HM.out m (by omega)
      case measure => simp [intOf]; omega
    · obtain rfl : j = zs.length := by omega
      go_wp2
      go_ret
      refine ⟨rfl, ?_, hg⟩
      have e : ys = upI k zs.length := ?_
      · rw [← e]; exact HO.out
      apply List.ext_getElem?
      intro m
      by_cases hm : m < zs.length
      · rw [HM.out m hm]; simp [upI, hm]
      · rw [List.getElem?_eq_none (by rw [HY.out]; omega), List.getElem?_eq_none (by rw [upI_len]; omega)]
set_option maxHeartbeats 400000 in
theorem heldIntS (A : Option Addr) (n c : Nat) (k : Int) (w : World) (hr : RI w w.heap.size A n (upI k n)) (hl : n ≤ 1125899906842624) (h0 : 0 ≤ k) (h1 : k ≤ 1125899906842624) :
    Calls Try.prog 19 #[.slice A n c, .int .i64 k] w fun e w' => e = .returned (.int .i64 (k + n)) ∧ w = w' := by
  go_enter Try.func19, Try.ntmps19
  go_wp2
  go_loop [1, 5] (fun q i => ∃ (j : Nat), j ≤ n ∧ i = .int .i64 j ∧ q = .int .i64 (k + j)) (fun _ i => n - (intOf i).toNat)
  case atStart => exact ⟨0, Nat.zero_le _, rfl, by simp⟩
  case round =>
    obtain ⟨j, hj, rfl, rfl⟩ := hrel
    by_cases hlt : j < n
    · obtain ⟨ad, u, rfl, hb, hx, hc⟩ := hr.at_ hlt
      have hu : u = k + j := by simp [upI, hlt] at hx; exact hx.symm
      subst hu
      clear hx
      go_wp2
      go_round
      case rel => exact ⟨j + 1, by omega, by go_num, by congr 1; push_cast; omega⟩
      case measure => simp [intOf]; omega
    · obtain rfl : j = n := by omega
      go_wp2
      go_ret
      exact ⟨rfl, rfl⟩
/-- what comparing leaves -/
def EqPost (w : World) (b : Bool) (e : Ending) (w' : World) : Prop := e = .returned (.bool b) ∧ Below w.heap.size w w'
theorem eqIntS' (A B : Option Addr) (m1 m2 : Nat) (xs ys : List Int) (c d : Nat) (w : World) (hx : RI w w.heap.size A m1 xs) (hy : RI w w.heap.size B m2 ys) (hl : m1 ≤ 1125899906842624) (hm : m2 ≤ 1125899906842624) :
    Calls Try.prog 17 #[.slice A m1 c, .slice B m2 d] w (EqPost w (eqL xs ys)) :=
  (eqIntS A B m1 m2 xs ys c d w hx hy hl hm).mono fun _ _ ⟨he, n, hw⟩ => ⟨he, by rw [hw]; exact below_drewN (Below.refl _ _) n⟩
def SamePost (w : World) (b : Bool) (e : Ending) (w' : World) : Prop := e = .returned (.bool b) ∧ Below w.heap.size w w'
theorem sameInts' (A B : Option Addr) (m1 m2 : Nat) (xs ys : List Int) (c d : Nat) (w : World) (hx : RI w w.heap.size A m1 xs) (hy : RI w w.heap.size B m2 ys) (hl : m1 ≤ 1125899906842624) (hm : m2 ≤ 1125899906842624) :
    Calls Try.prog 23 #[.slice A m1 c, .slice B m2 d] w (SamePost w (eqL xs ys)) :=
  (sameInts A B m1 m2 xs ys c d w hx hy hl hm).mono fun _ _ ⟨he, n, hw⟩ => ⟨he, by rw [hw]; exact below_drewN (Below.refl _ _) n⟩
end Go.Proofs.Ytmppiifkajmbgaa

/- Contracts of the helpers on slices of steps and gates: compare, mark, held. -/
import Derived.Test.YtkpjlkahebeljaaDoorStepsA
import Derived.Deep.RegionWith
import Derived.LoopTactic
namespace Go.Proofs.YtkpjlkahebeljaaDoor
open Go.RowKit
set_option linter.unusedVariables false

/-- k, k + 1, .. -/
def upF (k : Int) (n : Nat) : List Int := (List.range n).map fun (j : Nat) => k + (j : Int)
theorem upF_len (k : Int) (n : Nat) : (upF k n).length = n := by simp [upF]
theorem upF_val {k x v : Int} {n m : Nat} (h : (upF k n)[m]? = some x) (hv : k + (m : Int) = v) : x = v := by
  obtain ⟨hm, e⟩ := List.getElem?_eq_some_iff.1 h
  rw [← e, ← hv]; simp [upF]
theorem upF_of {k : Int} {n : Nat} {ys : List Int} (hl : ys.length = n) (h : ∀ m, m < n → ys[m]? = some (k + m)) : ys = upF k n := by
  apply List.ext_getElem?
  intro m
  by_cases hm : m < n
  · rw [h m hm]; simp [upF, hm]
  · rw [List.getElem?_eq_none (by omega), List.getElem?_eq_none (by rw [upF_len]; omega)]
theorem below_of_drew {B : Nat} {w w' : World} (h : Below w.drew.heap.size w.drew w') (hB : B ≤ w.heap.size) : Below B w w' :=
  (⟨h.os, h.tape, h.output, h.size, h.block⟩ : Below w.heap.size w w').mono hB
theorem mark3 {k : Int} {j : Nat} {ys : List Int} (hl : j * 3 + 3 ≤ ys.length) (h : ∀ m, m < j * 3 → ys[m]? = some (k + m)) :
    ∀ m, m < (j + 1) * 3 → (((ys.set (j * 3) (k + 3 * j)).set (j * 3 + 1) (k + 3 * j + 1)).set (j * 3 + 2) (k + 3 * j + 1 + 1))[m]? = some (k + m) := by
  intro m hm
  simp only [List.getElem?_set, List.length_set]
  by_cases e2 : j * 3 + 2 = m
  · rw [if_pos e2, if_pos (by omega)]; congr 1; omega
  rw [if_neg e2]
  by_cases e1 : j * 3 + 1 = m
  · rw [if_pos e1, if_pos (by omega)]; congr 1; omega
  rw [if_neg e1]
  by_cases e0 : j * 3 = m
  · rw [if_pos e0, if_pos (by omega)]; congr 1; omega
  rw [if_neg e0]
  exact h m (by omega)
theorem mark4 {k : Int} {j : Nat} {ys : List Int} (hl : j * 4 + 4 ≤ ys.length) (h : ∀ m, m < j * 4 → ys[m]? = some (k + m)) :
    ∀ m, m < (j + 1) * 4 → ((((ys.set (j * 4) (k + 4 * j)).set (j * 4 + 1) (k + 4 * j + 1)).set (j * 4 + 2) (k + 4 * j + 1 + 1)).set (j * 4 + 3) (k + 4 * j + 1 + 1 + 1))[m]? = some (k + m) := by
  intro m hm
  simp only [List.getElem?_set, List.length_set]
  by_cases e3 : j * 4 + 3 = m
  · rw [if_pos e3, if_pos (by omega)]; congr 1; omega
  rw [if_neg e3]
  by_cases e2 : j * 4 + 2 = m
  · rw [if_pos e2, if_pos (by omega)]; congr 1; omega
  rw [if_neg e2]
  by_cases e1 : j * 4 + 1 = m
  · rw [if_pos e1, if_pos (by omega)]; congr 1; omega
  rw [if_neg e1]
  by_cases e0 : j * 4 = m
  · rw [if_pos e0, if_pos (by omega)]; congr 1; omega
  rw [if_neg e0]
  exact h m (by omega)
theorem eqStep (x y z : Int) (w : World) : Calls Tryd.prog 37 #[.agg #[.int .i64 x, .int .i64 y, .int .i64 z], .agg #[.int .i64 x, .int .i64 y, .int .i64 z]] w fun e w' =>
    e = .returned (.bool true) ∧ Below w.heap.size w w' := by
  go_enter Tryd.func37, Tryd.ntmps37
  go_wp2
  go_ret
  exact ⟨rfl, ((Below.refl _ _).alloc (Nat.le_refl _) _).alloc (by simp) _⟩
set_option maxHeartbeats 1000000 in
theorem eqStepS (A B : Option Addr) (n : Nat) (zs : List Int) (c d : Nat) (w : World) (hx : RI w w.heap.size A (n * 3) zs) (hy : RI w w.heap.size B (n * 3) zs) (hl : n ≤ 1048576) :
    Calls Tryd.prog 15 #[.slice A n c, .slice B n d] w fun e w' => e = .returned (.bool true) ∧ Below w.heap.size w w' := by
  go_enter Tryd.func15, Tryd.ntmps15
  go_wp2
  go_loopw [5] (fun i wr => ∃ (k : Nat), k ≤ n ∧ i = .int .i64 k ∧ Below w.heap.size w wr) (fun i _ => n - (intOf i).toNat)
  case atStart => exact ⟨0, Nat.zero_le _, rfl, Below.refl _ _⟩
  case round =>
    obtain ⟨k, hk, rfl, hB⟩ := hrel
    have hs := hB.size
    by_cases hlt : k < n
    · obtain ⟨ad, x, y, z, rfl, hb, g0, g1, g2, c0, c1, c2⟩ := (hx.below hB).three hlt
      obtain ⟨bd, x', y', z', rfl, hb', e0, e1, e2, d0, d1, d2⟩ := (hy.below hB).three hlt
      obtain rfl : x = x' := Option.some.inj (g0.symm.trans e0)
      obtain rfl : y = y' := Option.some.inj (g1.symm.trans e1)
      obtain rfl : z = z' := Option.some.inj (g2.symm.trans e2)
      clear g0 e0 g1 e1 g2 e2
      go_wp2
      go_region_with (go_at_call 37; refine (eqStep x y z _).mono ?_; rintro e w2 ⟨rfl, hB2⟩)
      all_goals
        go_wp2
        go_roundw
        case rel => exact ⟨k + 1, by omega, by go_num, hB.trans (below_of_drew hB2 hs)⟩
        case measure => simp [intOf]; omega
    · obtain rfl : k = n := by omega
      go_wp2
      go_ret
      exact ⟨rfl, hB⟩
set_option maxHeartbeats 2000000 in
theorem markStepS (A : Option Addr) (n : Nat) (zs : List Int) (c base : Nat) (k : Int) (w : World) (ho : OFI 46 3 w base A n c zs) (hl : n ≤ 1048576) (h0 : 0 ≤ k) (h1 : k ≤ 1125899906842624) :
    Calls Tryd.prog 16 #[.slice A n c, .int .i64 k] w fun e w' => e = .returned (.int .i64 (k + 3 * n)) ∧ OFI 46 3 w' base A n c (upF k (n * 3)) ∧ w.grownBy w' (Value.slice A n c).ownBlock := by
  have HZ := Lib.hid ho.len
  go_enter Tryd.func16, Tryd.ntmps16
  go_wp2
  go_loopw [1, 5] (fun q i wr => ∃ (j : Nat) (ys : List Int), j ≤ n ∧ i = .int .i64 j ∧ q = .int .i64 (k + 3 * j) ∧ (∀ m, m < j * 3 → ys[m]? = some (k + m)) ∧ OFI 46 3 wr base A n c ys ∧ w.grownBy wr (Value.slice A n c).ownBlock)
    (fun _ i _ => n - (intOf i).toNat)
  case atStart => exact ⟨0, zs, Nat.zero_le _, rfl, by simp, fun m hm => absurd hm (by omega), ho, World.grownBy.refl _ _⟩
  case round =>
    obtain ⟨j, ys, hj, rfl, rfl, hym, hown, hg⟩ := hrel
    have HM := Lib.hid hym
    have HO := Lib.hid hown
    have HY := Lib.hid hown.len
    clear hym hown
    by_cases hlt : j < n
    · obtain ⟨g, rfl, hb, hgl⟩ := HO.out.addr (by omega)
      obtain ⟨u0, hu0⟩ := HO.out.cellSome (j := j * 3) (by omega)
      have f0 := HO.out.frozenAt (j * 3)
      obtain ⟨u1, hu1⟩ := HO.out.cellSome (j := j * 3 + 1) (by omega)
      have f1 := HO.out.frozenAt (j * 3 + 1)
      obtain ⟨u2, hu2⟩ := HO.out.cellSome (j := j * 3 + 2) (by omega)
      have f2 := HO.out.frozenAt (j * 3 + 2)
      have s0 := HO.out.stored (j := j * 3) (k + 3 * j)
      have s1 := s0.1.stored (j := j * 3 + 1) (k + 3 * j + 1)
      have s2 := s1.1.stored (j := j * 3 + 2) (k + 3 * j + 1 + 1)
      have HS := Lib.hid (show _ ∧ _ from ⟨s2.1, (((s0.2.trans s1.2).trans s2.2))⟩)
      clear s0 s1 s2
      go_wp2
      go_roundw
      case rel =>
        refine ⟨j + 1, (((ys.set (j * 3) (k + 3 * j)).set (j * 3 + 1) (k + 3 * j + 1)).set (j * 3 + 2) (k + 3 * j + 1 + 1)), by omega, by go_num, by congr 1; push_cast; omega, ?_, HS.out.1, hg.trans HS.out.2⟩
        exact mark3 (by rw [HY.out]; omega) HM.out
      case measure => simp [intOf]; omega
    · obtain rfl : j = n := by omega
      go_wp2
      go_ret
      refine ⟨rfl, ?_, hg⟩
      rw [← upF_of (by rw [HY.out]) HM.out]
      exact HO.out
set_option maxHeartbeats 1000000 in
theorem heldStepS (A : Option Addr) (n c : Nat) (k : Int) (w : World) (hr : RI w w.heap.size A (n * 3) (upF k (n * 3))) (hl : n ≤ 1048576) (h0 : 0 ≤ k) (h1 : k ≤ 1125899906842624) :
    Calls Tryd.prog 17 #[.slice A n c, .int .i64 k] w fun e w' => e = .returned (.int .i64 (k + 3 * n)) ∧ w = w' := by
  go_enter Tryd.func17, Tryd.ntmps17
  go_wp2
  go_loop [1, 5] (fun q i => ∃ (j : Nat), j ≤ n ∧ i = .int .i64 j ∧ q = .int .i64 (k + 3 * j)) (fun _ i => n - (intOf i).toNat)
  case atStart => exact ⟨0, Nat.zero_le _, rfl, by simp⟩
  case round =>
    obtain ⟨j, hj, rfl, rfl⟩ := hrel
    by_cases hlt : j < n
    · obtain ⟨ad, x, y, z, rfl, hb, g0, g1, g2, c0, c1, c2⟩ := hr.three hlt
      have v0 : x = (k + 3 * j) := upF_val g0 (by push_cast; omega)
      subst v0
      have v1 : y = (k + 3 * j + 1) := upF_val g1 (by push_cast; omega)
      subst v1
      have v2 : z = (k + 3 * j + 1 + 1) := upF_val g2 (by push_cast; omega)
      subst v2
      clear g0 g1 g2
      go_wp2
      go_round
      case rel => exact ⟨j + 1, by omega, by go_num, by congr 1; push_cast; omega⟩
      case measure => simp [intOf]; omega
    · obtain rfl : j = n := by omega
      go_wp2
      go_ret
      exact ⟨rfl, rfl⟩
end Go.Proofs.YtkpjlkahebeljaaDoor

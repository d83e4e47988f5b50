/- Contracts of the drawing of moves. -/
import Derived.Test.YtkphaioommhkcaaDrawPeb
import Derived.RangeFuncBox
namespace Go.Proofs.Ytkphaioommhkcaa
open Go.RowKit
set_option linter.unusedVariables false

def MovesPost (w : World) (g : Nat) (e : Ending) (w' : World) : Prop := ∃ A n c zs, e = .returned (.slice A n c) ∧ OI w' w.heap.size A n c zs ∧ n ≤ 13 ∧ Below g w w'

theorem RdLe.app {w w' : World} {g P base : Nat} {v : Value} {n : Nat} {xs : List Value} {e : TypeId} {size : Nat} {o : Obj} (h : RdLe w g P) (ho : w.ownsRow base e size v n xs) (hg : (w.alloc o).grownBy w' v.ownBlock) (hb : g < base) : RdLe w' g P := by
  refine h.keep fun k hk => ?_
  have hlt := h.lt
  refine (hg.block k (by simp; omega) (fun e => ?_)).trans (Below.heap_alloc _ _ _ (by omega))
  have := (ho.lt k e.symm).1
  omega

set_option maxHeartbeats 4000000 in
theorem l20Moves (g P : Nat) (p s : Int) (w : World) (hR : RdLe w g P) (hP : P ≤ 999000) (hp : -1 ≤ p) (hp' : p ≤ 9) :
    Calls Try.prog 50 #[.pointer (some ⟨g, 0, none⟩), .int .i64 p, .int .i64 s] w (MovesPost w g) := by
  obtain ⟨i0, hi, hz0, hz1, hz2⟩ := info_parts infoInt
  have hgw : g < w.heap.size := hR.lt
  obtain ⟨M, hM, hM1, hM9⟩ : ∃ M : Int, (if p < 1 then 1 else p) = M ∧ 1 ≤ M ∧ M ≤ 9 := ⟨_, rfl, by split <;> omega, by split <;> omega⟩
  have hEmp := OI.empty w
  have hR0 : RdLe (w.alloc (.cells #[] 3)) g P := hR.keep fun k hk => Below.heap_alloc _ _ _ (by omega)
  by_cases hp1 : p < 1
  all_goals
    first
      | (rw [if_pos hp1] at hM)
      | (rw [if_neg hp1] at hM)
    subst hM
    go_enter Try.func50, Try.ntmps50
    go_wp2_with fail
    refine (pick g P 14 _ hR0 (by omega)).mono ?_
    rintro e w1 ⟨q, rfl, hq0, hq1, hq2, hR1, hg1⟩
    have hq3 := hq2 (by omega)
    clear hq1 hq2
    have hO1 := hEmp.apart hg1 (.inl hgw)
    have hB1 : Below g w w1 := ((Below.refl g w).alloc (by omega) _).grown hg1 (by simp; omega) (fun k e => by cases e; exact Nat.le_refl _)
    obtain ⟨q', rfl⟩ := Int.eq_ofNat_of_zero_le hq0
    clear hR0 hEmp hg1 hq0
    go_wp2_with fail
    go_loopw [2, 7, 8] (fun t v i wr => ∃ (k m : Nat) (S : Int) (A' : Option Addr) (c' : Nat) (ys : List Int), i = .int .i64 k ∧ t = .int .i64 S ∧ v = .slice A' m c' ∧ OI wr w.heap.size A' m c' ys ∧ m + k ≤ 13 ∧ RdLe wr g (P + 1 + 2 * m) ∧ Below g w wr ∧ w.heap.size ≤ wr.heap.size)
      (fun _ _ i _ => (intOf i).toNat)
    case atStart => exact ⟨q', 0, s, _, _, _, rfl, rfl, rfl, hO1, by omega, hR1, hB1, hB1.size⟩
    case round =>
      obtain ⟨k, m, S, A', c', ys, rfl, rfl, rfl, hO, hmk, hR', hB, hsz⟩ := hrel
      have HO := Lib.hid hO
      have HR := Lib.hid hR'
      have HB := Lib.hid hB
      clear hO hR' hB hR1 hO1 hB1
      cases k with
      | zero =>
        go_wp2
        go_ret
        exact ⟨_, _, _, _, rfl, HO.out, by omega, HB.out⟩
      | succ k =>
        go_wp2_with fail
        refine (pick g _ _ _ HR.out (by omega)).mono ?_
        rintro e w2 ⟨x, rfl, hx0, hx1, hx2, hR2, hg2⟩
        have hx3 := hx2 (by omega)
        clear hx1 hx2
        have hO2 := HO.out.apart hg2 (.inl hgw)
        have hB2 : Below g w w2 := HB.out.grown hg2 (by have := HB.out.size; omega) (fun k e => by cases e; exact Nat.le_refl _)
        have hs2 : w.heap.size ≤ w2.heap.size := hB2.size
        have HO2 := Lib.hid hO2
        have HR2 := Lib.hid hR2
        have HB2 := Lib.hid hB2
        clear hO2 hR2 hB2 hg2
        go_wp2_with fail
        go_loop [9, 10] (fun t i => ∃ (j : Nat) (y : Int), j ≤ 6 ∧ i = .int .i64 j ∧ t = .int .i64 y ∧ 0 ≤ y ∧ y ≤ 9) (fun _ i => 6 - (intOf i).toNat)
        case atStart => exact ⟨0, x, by omega, rfl, rfl, hx0, by omega⟩
        case round =>
          obtain ⟨j, y, hj, rfl, rfl, hy0, hy9⟩ := hrel
          by_cases hgo : j < 6 ∧ mmB p S y = false
          · obtain ⟨hj6, hmf⟩ := hgo
            have he0 : 0 ≤ (y + 1) % 1 := by omega
            have hmod : 1 ≤ p → 0 ≤ (y + 1) % p ∧ (y + 1) % p ≤ 9 := fun h => ⟨Int.emod_nonneg _ (by omega), by have := Int.emod_lt_of_pos (y + 1) (show 0 < p by omega); omega⟩
            have HMOD := Lib.hid hmod
            clear hmod
            go_wp2_with (go_at_call 17; refine (moveMayS _ _ _ _).mono ?_; rintro e w' ⟨rfl, rfl⟩)
            go_round
            case rel => first | exact ⟨j + 1, _, by omega, by go_num, rfl, by omega, by omega⟩ | exact ⟨j + 1, _, by omega, by go_num, rfl, (HMOD.out (by omega)).1, (HMOD.out (by omega)).2⟩
            case measure => simp [intOf]; omega
          · have hex : j < 6 → mmB p S y = true := fun h => by
              cases hb : mmB p S y with
              | true => rfl
              | false => exact absurd ⟨h, hb⟩ hgo
            clear hgo
            by_cases hj6 : j < 6
            · have hmt := hex hj6
              clear hex
              go_wp2_with (go_at_call 17; refine (moveMayS _ _ _ _).mono ?_; rintro e w' ⟨rfl, rfl⟩)
              refine (odd g _ 40 w2 HR2.out (by omega) (by omega)).mono ?_
              rintro e w3 ⟨b, rfl, hR3, hg3⟩
              have hO3 := HO2.out.apart hg3 (.inl hgw)
              have hB3 : Below g w w3 := HB2.out.grown hg3 (by have := HB2.out.size; omega) (fun k e => by cases e; exact Nat.le_refl _)
              have hs3 : w.heap.size ≤ w3.heap.size := hB3.size
              have HO3 := Lib.hid hO3
              have HR3 := Lib.hid hR3
              have HB3 := Lib.hid hB3
              clear hO3 hR3 hB3 hg3
              cases b
              · go_wp2_with (first | (at_builtin; refine wpList_append_own _ rfl _ _ 30 rfl w.heap.size 3 i0 (.int .i64 0) 1 8 Try.underlying30 hi hz0 hz1 hz2 rfl (by decide) _ _ _ rfl (HO3.out.alloc _) ⟨w3.heap.size, 0, none⟩ 1 1 [.int .i64 y] rfl rfl (cell_one_new _ _ _) (by simp [Value.oneCell']) (by unfold maxLen; omega) (by omega) (by simp; omega) ?_; intro v' w4 hown' hgrow _; obtain ⟨g', cap', rfl⟩ := ownsRow_succ hown') | (go_at_call 19; refine (moveDoS _ _ _ _).mono ?_; rintro e w' ⟨rfl, rfl⟩))
                all_goals
                  go_roundw
                  case rel =>
                    refine ⟨k, m + 1, _, _, _, ys ++ [y], by first | rfl | go_num, rfl, rfl, by unfold OI; simpa using hown', by omega, (HR3.out.app HO3.out hgrow hgw).more (by omega), (HB3.out.alloc (by omega) _).grown hgrow (by simp; omega) (fun q e => by have := (HO3.out.lt q e).1; omega), by have := hgrow.size; simp at this; omega⟩
                  case measure => simp [intOf]; try omega
              · go_wp2_with (first | (at_builtin; refine wpList_append_own _ rfl _ _ 30 rfl w.heap.size 3 i0 (.int .i64 0) 1 8 Try.underlying30 hi hz0 hz1 hz2 rfl (by decide) _ _ _ rfl (HO3.out.alloc _) ⟨w3.heap.size, 0, none⟩ 1 1 [.int .i64 (y + 3)] rfl rfl (cell_one_new _ _ _) (by simp [Value.oneCell']) (by unfold maxLen; omega) (by omega) (by simp; omega) ?_; intro v' w4 hown' hgrow _; obtain ⟨g', cap', rfl⟩ := ownsRow_succ hown') | (go_at_call 19; refine (moveDoS _ _ _ _).mono ?_; rintro e w' ⟨rfl, rfl⟩))
                all_goals
                  go_roundw
                  case rel =>
                    refine ⟨k, m + 1, _, _, _, ys ++ [(y + 3)], by first | rfl | go_num, rfl, rfl, by unfold OI; simpa using hown', by omega, (HR3.out.app HO3.out hgrow hgw).more (by omega), (HB3.out.alloc (by omega) _).grown hgrow (by simp; omega) (fun q e => by have := (HO3.out.lt q e).1; omega), by have := hgrow.size; simp at this; omega⟩
                  case measure => simp [intOf]; try omega
            · clear hex
              go_wp2_with fail
              refine (odd g _ 40 w2 HR2.out (by omega) (by omega)).mono ?_
              rintro e w3 ⟨b, rfl, hR3, hg3⟩
              have hO3 := HO2.out.apart hg3 (.inl hgw)
              have hB3 : Below g w w3 := HB2.out.grown hg3 (by have := HB2.out.size; omega) (fun k e => by cases e; exact Nat.le_refl _)
              have hs3 : w.heap.size ≤ w3.heap.size := hB3.size
              have HO3 := Lib.hid hO3
              have HR3 := Lib.hid hR3
              have HB3 := Lib.hid hB3
              clear hO3 hR3 hB3 hg3
              cases b
              · go_wp2_with (first | (at_builtin; refine wpList_append_own _ rfl _ _ 30 rfl w.heap.size 3 i0 (.int .i64 0) 1 8 Try.underlying30 hi hz0 hz1 hz2 rfl (by decide) _ _ _ rfl (HO3.out.alloc _) ⟨w3.heap.size, 0, none⟩ 1 1 [.int .i64 y] rfl rfl (cell_one_new _ _ _) (by simp [Value.oneCell']) (by unfold maxLen; omega) (by omega) (by simp; omega) ?_; intro v' w4 hown' hgrow _; obtain ⟨g', cap', rfl⟩ := ownsRow_succ hown') | (go_at_call 19; refine (moveDoS _ _ _ _).mono ?_; rintro e w' ⟨rfl, rfl⟩))
                all_goals
                  go_roundw
                  case rel =>
                    refine ⟨k, m + 1, _, _, _, ys ++ [y], by first | rfl | go_num, rfl, rfl, by unfold OI; simpa using hown', by omega, (HR3.out.app HO3.out hgrow hgw).more (by omega), (HB3.out.alloc (by omega) _).grown hgrow (by simp; omega) (fun q e => by have := (HO3.out.lt q e).1; omega), by have := hgrow.size; simp at this; omega⟩
                  case measure => simp [intOf]; try omega
              · go_wp2_with (first | (at_builtin; refine wpList_append_own _ rfl _ _ 30 rfl w.heap.size 3 i0 (.int .i64 0) 1 8 Try.underlying30 hi hz0 hz1 hz2 rfl (by decide) _ _ _ rfl (HO3.out.alloc _) ⟨w3.heap.size, 0, none⟩ 1 1 [.int .i64 (y + 3)] rfl rfl (cell_one_new _ _ _) (by simp [Value.oneCell']) (by unfold maxLen; omega) (by omega) (by simp; omega) ?_; intro v' w4 hown' hgrow _; obtain ⟨g', cap', rfl⟩ := ownsRow_succ hown') | (go_at_call 19; refine (moveDoS _ _ _ _).mono ?_; rintro e w' ⟨rfl, rfl⟩))
                all_goals
                  go_roundw
                  case rel =>
                    refine ⟨k, m + 1, _, _, _, ys ++ [(y + 3)], by first | rfl | go_num, rfl, rfl, by unfold OI; simpa using hown', by omega, (HR3.out.app HO3.out hgrow hgw).more (by omega), (HB3.out.alloc (by omega) _).grown hgrow (by simp; omega) (fun q e => by have := (HO3.out.lt q e).1; omega), by have := hgrow.size; simp at this; omega⟩
                  case measure => simp [intOf]; try omega

def DMovesPost (w : World) (e : Ending) (w' : World) : Prop := ∃ A n c zs, e = .returned (.slice A n c) ∧ OI w' w.heap.size A n c zs ∧ n ≤ 13 ∧ Below w.heap.size w w'
theorem drawMovesBack (A : Option Addr) (zs : List Int) (c : Nat) (w : World) (h : RB w w.heap.size A zs) (hc : zs.length ≤ c) (hcm : c ≤ maxLen) :
    Calls Try.prog 34 #[.slice A zs.length c] w (DMovesPost w) := by
  go_enter Try.func34, Try.ntmps34
  go_wp2_with fail
  refine (l20Open A zs c w h hc hcm).mono ?_
  rintro e w1 ⟨rfl, hR1, hb1⟩
  go_wp2_with fail
  refine (l20Put _ 0 _ w1 hR1 (by omega) (by omega)).mono ?_
  rintro e w2 ⟨x, y, rfl, hx0, hx1, hy0, hy1, hR2, hg2⟩
  have hb2 := below_grown hb1 hg2 (Nat.le_refl _)
  go_wp2_with fail
  refine (l20Moves _ 5 x y w2 hR2 (by omega) hx0 hx1).mono ?_
  rintro e w3 ⟨A3, n3, c3, z3, rfl, hO3, hn3, hb3⟩
  go_wp2
  go_ret
  exact ⟨A3, n3, c3, z3, rfl, hO3.mono hb2.size, hn3, hb2.trans hb3⟩
def DMovesRunPost (w : World) (e : Ending) (w' : World) : Prop := ∃ (x y : Int) (A : Option Addr) (n c : Nat) (zs : List Int), e = .returned (.tuple #[.int .i64 x, .int .i64 y, .slice A n c]) ∧ OI w' w.heap.size A n c zs ∧ n ≤ 13 ∧ Below w.heap.size w w'
theorem drawMovesRun (A : Option Addr) (zs : List Int) (c : Nat) (w : World) (h : RB w w.heap.size A zs) (hc : zs.length ≤ c) (hcm : c ≤ maxLen) :
    Calls Try.prog 38 #[.slice A zs.length c] w (DMovesRunPost w) := by
  go_enter Try.func38, Try.ntmps38
  go_wp2_with fail
  refine (l20Open A zs c w h hc hcm).mono ?_
  rintro e w1 ⟨rfl, hR1, hb1⟩
  go_wp2_with fail
  refine (l20Put _ 0 _ w1 hR1 (by omega) (by omega)).mono ?_
  rintro e w2 ⟨x, y, rfl, hx0, hx1, hy0, hy1, hR2, hg2⟩
  have hb2 := below_grown hb1 hg2 (Nat.le_refl _)
  go_wp2_with fail
  refine (l20Moves _ 5 x y w2 hR2 (by omega) hx0 hx1).mono ?_
  rintro e w3 ⟨A3, n3, c3, z3, rfl, hO3, hn3, hb3⟩
  go_wp2
  go_ret3
  exact ⟨x, y, A3, n3, c3, z3, rfl, hO3.mono hb2.size, hn3, hb2.trans hb3⟩
end Go.Proofs.Ytkphaioommhkcaa

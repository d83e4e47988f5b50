/- Contracts of the drawing of places, sets and moves. -/
import Derived.Test.YtkphaioommhkcaaDraw
import Derived.Test.YtkphaioommhkcaaInts
import Derived.Test.YtkphaioommhkcaaPeb
namespace Go.Proofs.Ytkphaioommhkcaa
open Go.RowKit
set_option linter.unusedVariables false

/-- what drawing a number of places and a set leaves -/
def PutPost (w : World) (e : Ending) (w' : World) : Prop := ∃ x y : Int, e = .returned (.tuple #[.int .i64 x, .int .i64 y]) ∧ -1 ≤ x ∧ x ≤ 9 ∧ -1000 ≤ y ∧ y ≤ 1000 ∧ Below w.heap.size w w'
def Put3Post (w : World) (e : Ending) (w' : World) : Prop := ∃ x y z : Int, e = .returned (.tuple #[.int .i64 x, .int .i64 y, .int .i64 z]) ∧ -1 ≤ x ∧ x ≤ 9 ∧ -1000 ≤ y ∧ y ≤ 1000 ∧ -10 ≤ z ∧ z ≤ 10 ∧ Below w.heap.size w w'

theorem below_grown {w w1 w2 : World} {g : Nat} (hb : Below w.heap.size w w1) (hg : w1.grownBy w2 (some g)) (hgs : w.heap.size ≤ g) : Below w.heap.size w w2 :=
  hb.grown hg hb.size (fun k e => by cases e; exact hgs)

theorem drawPlacesValid (A : Option Addr) (zs : List Int) (c : Nat) (w : World) (h : RB w w.heap.size A zs) (hc : zs.length ≤ c) (hcm : c ≤ maxLen) :
    Calls Try.prog 21 #[.slice A zs.length c] w (PutPost w) := by
  go_enter Try.func21, Try.ntmps21
  go_wp2_with fail
  refine (l20Open A zs c w h hc hcm).mono ?_
  rintro e w1 ⟨rfl, hR1, hb1⟩
  go_wp2_with fail
  refine (l20Put _ 0 _ w1 hR1 (by omega) (by omega)).mono ?_
  rintro e w2 ⟨x, y, rfl, hx0, hx1, hy0, hy1, hR2, hg2⟩
  go_wp2
  go_ret2
  exact ⟨x, y, rfl, hx0, hx1, hy0, hy1, below_grown hb1 hg2 (Nat.le_refl _)⟩
theorem drawPebblesOn (A : Option Addr) (zs : List Int) (c : Nat) (w : World) (h : RB w w.heap.size A zs) (hc : zs.length ≤ c) (hcm : c ≤ maxLen) :
    Calls Try.prog 33 #[.slice A zs.length c] w (PutPost w) := by
  go_enter Try.func33, Try.ntmps33
  go_wp2_with fail
  refine (l20Open A zs c w h hc hcm).mono ?_
  rintro e w1 ⟨rfl, hR1, hb1⟩
  go_wp2_with fail
  refine (l20Put _ 0 _ w1 hR1 (by omega) (by omega)).mono ?_
  rintro e w2 ⟨x, y, rfl, hx0, hx1, hy0, hy1, hR2, hg2⟩
  go_wp2
  go_ret2
  exact ⟨x, y, rfl, hx0, hx1, hy0, hy1, below_grown hb1 hg2 (Nat.le_refl _)⟩
theorem drawMoveMay (A : Option Addr) (zs : List Int) (c : Nat) (w : World) (h : RB w w.heap.size A zs) (hc : zs.length ≤ c) (hcm : c ≤ maxLen) :
    Calls Try.prog 29 #[.slice A zs.length c] w (Put3Post w) := by
  go_enter Try.func29, Try.ntmps29
  go_wp2_with fail
  refine (l20Open A zs c w h hc hcm).mono ?_
  rintro e w1 ⟨rfl, hR1, hb1⟩
  go_wp2_with fail
  refine (l20Put _ 0 _ w1 hR1 (by omega) (by omega)).mono ?_
  rintro e w2 ⟨x, y, rfl, hx0, hx1, hy0, hy1, hR2, hg2⟩
  have hx9 : x = -1 ∨ x = 0 ∨ x = 1 ∨ x = 2 ∨ x = 3 ∨ x = 4 ∨ x = 5 ∨ x = 6 ∨ x = 7 ∨ x = 8 ∨ x = 9 := by omega
  rcases hx9 with rfl | rfl | rfl | rfl | rfl | rfl | rfl | rfl | rfl | rfl | rfl
  all_goals
    go_wp2_with fail
    refine (pick _ 5 _ w2 hR2 (by omega)).mono ?_
    rintro e w3 ⟨k, rfl, hk0, hk1, hk2, hR3, hg3⟩
    have hk3 := hk2 (by omega)
    clear hk1 hk2
    go_wp2_with fail
    refine (pick _ 6 _ w3 hR3 (by omega)).mono ?_
    rintro e w4 ⟨j, rfl, hj0, hj1, hj2, hR4, hg4⟩
    have hj3 := hj2 (by omega)
    clear hj1 hj2
    go_wp2
    go_ret3
    exact ⟨_, y, _, rfl, hx0, hx1, hy0, hy1, by omega, by omega, below_grown hb1 ((hg2.trans hg3).trans hg4) (Nat.le_refl _)⟩
theorem drawMoveDo (A : Option Addr) (zs : List Int) (c : Nat) (w : World) (h : RB w w.heap.size A zs) (hc : zs.length ≤ c) (hcm : c ≤ maxLen) :
    Calls Try.prog 32 #[.slice A zs.length c] w (Put3Post w) := by
  go_enter Try.func32, Try.ntmps32
  go_wp2_with fail
  refine (drawMoveMay A zs c w h hc hcm).mono ?_
  rintro e w1 ⟨x, y, z, rfl, hp⟩
  go_wp2
  go_ret3
  exact ⟨x, y, z, rfl, hp⟩
end Go.Proofs.Ytkphaioommhkcaa

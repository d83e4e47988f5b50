/- Contracts of the drawing of numbers of places and of pebbles. -/
import Derived.Test.YtmppiifkajmbgaaDraw
import Derived.Test.YtmppiifkajmbgaaPush
namespace Go.Proofs.Ytmppiifkajmbgaa
open Go.RowKit
set_option linter.unusedVariables false

/-- an integer in lo..hi is returned; nothing that lay has turned -/
def DrewNum (w : World) (lo hi : Int) (e : Ending) (w' : World) : Prop := ∃ x : Int, e = .returned (.int .i64 x) ∧ lo ≤ x ∧ x ≤ hi ∧ Below w.heap.size w w'
def DrewNums (w : World) (lo hi lo2 hi2 : Int) (e : Ending) (w' : World) : Prop := ∃ x y : Int, e = .returned (.tuple #[.int .i64 x, .int .i64 y]) ∧ lo ≤ x ∧ x ≤ hi ∧ lo2 ≤ y ∧ y ≤ hi2 ∧ Below w.heap.size w w'
theorem drawSetsWith (A : Option Addr) (zs : List Int) (c : Nat) (w : World) (h : RB w w.heap.size A zs) (hc : zs.length ≤ c) (hcm : c ≤ maxLen) :
    Calls Try.prog 33 #[.slice A zs.length c] w (DrewNums w (-1) 9 (-6) 9) := by
  go_enter Try.func33, Try.ntmps33
  go_wp2_with fail
  refine (l20Open A zs c w h hc hcm).mono ?_
  rintro e w1 ⟨rfl, hR1, hb1⟩
  go_wp2_with fail
  refine (l20Places _ 0 9 w1 hR1 (by omega) (by omega)).mono ?_
  rintro e w2 ⟨x, rfl, hx0, hx1, hR2, hg2⟩
  have hb2 := below_grown hb1 hg2 (Nat.le_refl _)
  clear hg2 hR1
  go_wp2_with fail
  refine (pick _ _ 5 w2 hR2 (by omega)).mono ?_
  rintro e w3 ⟨y, rfl, hy0, hy1, hy2, hR3, hg3⟩
  have hy3 := hy2 (by omega)
  have hb3 := hb2.grown hg3 hb2.size (fun k e => by cases e; exact Nat.le_refl _)
  clear hg3 hR2 hy1 hy2
  go_wp2_with fail
  refine (pick _ _ 20 w3 hR3 (by omega)).mono ?_
  rintro e w4 ⟨z, rfl, hz0, hz1, hz2, hR4, hg4⟩
  have hz3 := hz2 (by omega)
  have hb4 := hb3.grown hg4 hb3.size (fun k e => by cases e; exact Nat.le_refl _)
  clear hg4 hR3 hz1 hz2
  go_wp2_with fail
  refine (pick _ _ 20 w4 hR4 (by omega)).mono ?_
  rintro e w5 ⟨t, rfl, ht0, ht1, ht2, hR5, hg5⟩
  have ht3 := ht2 (by omega)
  have hb5 := hb4.grown hg5 hb4.size (fun k e => by cases e; exact Nat.le_refl _)
  clear hg5 hR4 ht1 ht2
  go_wp2
  go_ret2
  exact ⟨x, _, rfl, hx0, hx1, by omega, by omega, hb5⟩
theorem drawLeastMoves (A : Option Addr) (zs : List Int) (c : Nat) (w : World) (h : RB w w.heap.size A zs) (hc : zs.length ≤ c) (hcm : c ≤ maxLen) :
    Calls Try.prog 38 #[.slice A zs.length c] w (DrewNums w (-1) 9 (-6) 9) := by
  go_enter Try.func38, Try.ntmps38
  go_wp2_with fail
  refine (drawSetsWith A zs c w h hc hcm).mono ?_
  rintro e w1 ⟨x, y, rfl, hx0, hx1, hy0, hy1, hb1⟩
  go_wp2
  go_ret2
  exact ⟨x, y, rfl, hx0, hx1, hy0, hy1, hb1⟩
theorem drawPlainMoves (A : Option Addr) (zs : List Int) (c : Nat) (w : World) (h : RB w w.heap.size A zs) (hc : zs.length ≤ c) (hcm : c ≤ maxLen) :
    Calls Try.prog 30 #[.slice A zs.length c] w (DrewNum w (-1) 9) := by
  go_enter Try.func30, Try.ntmps30
  go_wp2_with fail
  refine (l20Open A zs c w h hc hcm).mono ?_
  rintro e w1 ⟨rfl, hR1, hb1⟩
  go_wp2_with fail
  refine (l20Places _ 0 5 w1 hR1 (by omega) (by omega)).mono ?_
  rintro e w2 ⟨x, rfl, hx0, hx1, hR2, hg2⟩
  go_wp2
  go_ret
  exact ⟨x, rfl, hx0, hx1, below_grown hb1 hg2 (Nat.le_refl _)⟩
theorem drawFarWith (A : Option Addr) (zs : List Int) (c : Nat) (w : World) (h : RB w w.heap.size A zs) (hc : zs.length ≤ c) (hcm : c ≤ maxLen) :
    Calls Try.prog 37 #[.slice A zs.length c] w (DrewNum w (-1) 5) := by
  go_enter Try.func37, Try.ntmps37
  go_wp2_with fail
  refine (l20Open A zs c w h hc hcm).mono ?_
  rintro e w1 ⟨rfl, hR1, hb1⟩
  go_wp2_with fail
  refine (pick _ 0 7 w1 hR1 (by omega)).mono ?_
  rintro e w2 ⟨x, rfl, hx0, hx1, hx2, hR2, hg2⟩
  have hx3 := hx2 (by omega)
  clear hx1 hx2
  go_wp2
  go_ret
  exact ⟨_, rfl, by omega, by omega, below_grown hb1 hg2 (Nat.le_refl _)⟩
theorem drawPebblesFor (A : Option Addr) (zs : List Int) (c : Nat) (w : World) (h : RB w w.heap.size A zs) (hc : zs.length ≤ c) (hcm : c ≤ maxLen) :
    Calls Try.prog 39 #[.slice A zs.length c] w (DrewNum w 0 10) := by
  go_enter Try.func39, Try.ntmps39
  go_wp2_with fail
  refine (l20Open A zs c w h hc hcm).mono ?_
  rintro e w1 ⟨rfl, hR1, hb1⟩
  go_wp2_with fail
  refine (pick _ 0 11 w1 hR1 (by omega)).mono ?_
  rintro e w2 ⟨x, rfl, hx0, hx1, hx2, hR2, hg2⟩
  have hx3 := hx2 (by omega)
  clear hx1 hx2
  go_wp2
  go_ret
  exact ⟨_, rfl, by omega, by omega, below_grown hb1 hg2 (Nat.le_refl _)⟩
theorem drawHalfMoves (A : Option Addr) (zs : List Int) (c : Nat) (w : World) (h : RB w w.heap.size A zs) (hc : zs.length ≤ c) (hcm : c ≤ maxLen) :
    Calls Try.prog 22 #[.slice A zs.length c] w (DrewNum w (-1) 4) := by
  go_enter Try.func22, Try.ntmps22
  go_wp2_with fail
  refine (l20Open A zs c w h hc hcm).mono ?_
  rintro e w1 ⟨rfl, hR1, hb1⟩
  go_wp2_with fail
  refine (pick _ 0 6 w1 hR1 (by omega)).mono ?_
  rintro e w2 ⟨x, rfl, hx0, hx1, hx2, hR2, hg2⟩
  have hx3 := hx2 (by omega)
  clear hx1 hx2
  go_wp2
  go_ret
  exact ⟨_, rfl, by omega, by omega, below_grown hb1 hg2 (Nat.le_refl _)⟩
end Go.Proofs.Ytmppiifkajmbgaa

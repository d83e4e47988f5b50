/- Contracts of the drawing of two rings. -/
import Derived.Test.YtmbcolkhmleibaaDrawRing
namespace Go.Proofs.Ytmbcolkhmleibaa
open Go.RowKit
set_option linter.unusedVariables false

/-- a rule and two new slices of at most 13 integers are returned; the reader has gone on; nothing else that lay has turned -/
def DrewRings (w : World) (g P : Nat) (e : Ending) (w' : World) : Prop := ∃ (x : Int) (A : Option Addr) (n c : Nat) (zs : List Int) (B : Option Addr) (m d : Nat) (ys : List Int),
  e = .returned (.tuple #[.int .i64 x, .slice A n c, .slice B m d]) ∧ OI w' w.heap.size A n c zs ∧ n ≤ 13 ∧ OI w' w.heap.size B m d ys ∧ m ≤ 13 ∧ RdLe w' g (P + 50) ∧ w.grownBy w' (some g)
set_option maxHeartbeats 1000000 in
theorem l20Rings (g P : Nat) (w : World) (hR : RdLe w g P) (hP : P ≤ 900000) :
    Calls Try.prog 50 #[.pointer (some ⟨g, 0, none⟩)] w (DrewRings w g P) := by
  have hgw : g < w.heap.size := hR.lt
  go_enter Try.func50, Try.ntmps50
  go_wp2_with fail
  refine (pick g P 10 w hR (by omega)).mono ?_
  rintro e w1 ⟨q, rfl, hq0, hq1, hq2, hR1, hg1⟩
  have hq3 := hq2 (by omega)
  have hs1 := hg1.size
  clear hq1 hq2
  go_wp2_with fail
  refine (l20Rule g (P + 1) w1 hR1 (by omega)).mono ?_
  rintro e w2 ⟨x, rfl, hx0, hx1, hR2, hg2⟩
  have hG2 := hg1.trans hg2
  have hs2 := hG2.size
  clear hg2 hg1
  go_wp2_with fail
  refine (l20Ring g _ (3 + q) 14 w2 hR2 (by omega) (by omega) (by omega) (by omega)).mono ?_
  rintro e w3 ⟨A3, n3, c3, z3, rfl, hO3, hn3, hR3, hg3⟩
  have hG3 := hG2.trans hg3
  have hs3 := hG3.size
  replace hO3 := hO3.mono hs2
  clear hg3 hG2
  go_wp2_with fail
  refine (l20Ring g _ (3 + q) 14 w3 hR3 (by omega) (by omega) (by omega) (by omega)).mono ?_
  rintro e w4 ⟨A4, n4, c4, z4, rfl, hO4, hn4, hR4, hg4⟩
  have hG4 := hG3.trans hg4
  replace hO3 := hO3.apart hg4 (.inl hgw)
  replace hO4 := hO4.mono hs3
  go_wp2
  go_ret3
  exact ⟨x, A3, n3, c3, z3, A4, n4, c4, z4, rfl, hO3, hn3, hO4, hn4, hR4.more (by omega), hG4⟩
/-- a rule and two new slices of at most 13 integers are returned -/
def DrewTwo (w : World) (e : Ending) (w' : World) : Prop := ∃ (x : Int) (A : Option Addr) (n c : Nat) (zs : List Int) (B : Option Addr) (m d : Nat) (ys : List Int),
  e = .returned (.tuple #[.int .i64 x, .slice A n c, .slice B m d]) ∧ OI w' w.heap.size A n c zs ∧ n ≤ 13 ∧ OI w' w.heap.size B m d ys ∧ m ≤ 13 ∧ Below w.heap.size w w'
theorem drawRingNext (A : Option Addr) (zs : List Int) (c : Nat) (w : World) (h : RB w w.heap.size A zs) (hc : zs.length ≤ c) (hcm : c ≤ maxLen) :
    Calls Try.prog 31 #[.slice A zs.length c] w (DrewTwo w) := by
  go_enter Try.func31, Try.ntmps31
  go_wp2_with fail
  refine (l20Open A zs c w h hc hcm).mono ?_
  rintro e w1 ⟨rfl, hR1, hb1⟩
  go_wp2_with fail
  refine (l20Rings _ 0 w1 hR1 (by omega)).mono ?_
  rintro e w2 ⟨x, A3, n3, c3, z3, A4, n4, c4, z4, rfl, hO3, hn3, hO4, hn4, hR4, hg4⟩
  have hb2 := below_grown hb1 hg4 (Nat.le_refl _)
  go_wp2
  go_ret3
  exact ⟨x, A3, n3, c3, z3, A4, n4, c4, z4, rfl, hO3.mono hb1.size, hn3, hO4.mono hb1.size, hn4, hb2⟩
theorem drawRingBefore (A : Option Addr) (zs : List Int) (c : Nat) (w : World) (h : RB w w.heap.size A zs) (hc : zs.length ≤ c) (hcm : c ≤ maxLen) :
    Calls Try.prog 30 #[.slice A zs.length c] w (DrewTwo w) := by
  go_enter Try.func30, Try.ntmps30
  go_wp2_with fail
  refine (l20Open A zs c w h hc hcm).mono ?_
  rintro e w1 ⟨rfl, hR1, hb1⟩
  go_wp2_with fail
  refine (l20Rings _ 0 w1 hR1 (by omega)).mono ?_
  rintro e w2 ⟨x, A3, n3, c3, z3, A4, n4, c4, z4, rfl, hO3, hn3, hO4, hn4, hR4, hg4⟩
  have hb2 := below_grown hb1 hg4 (Nat.le_refl _)
  go_wp2
  go_ret3
  exact ⟨x, A3, n3, c3, z3, A4, n4, c4, z4, rfl, hO3.mono hb1.size, hn3, hO4.mono hb1.size, hn4, hb2⟩
theorem drawRingAdd (A : Option Addr) (zs : List Int) (c : Nat) (w : World) (h : RB w w.heap.size A zs) (hc : zs.length ≤ c) (hcm : c ≤ maxLen) :
    Calls Try.prog 25 #[.slice A zs.length c] w fun e w' => ∃ (A : Option Addr) (n c : Nat) (zs : List Int) (B : Option Addr) (m d : Nat) (ys : List Int), e = .returned (.tuple #[.slice A n c, .slice B m d]) ∧ OI w' w.heap.size A n c zs ∧ n ≤ 13 ∧ OI w' w.heap.size B m d ys ∧ m ≤ 13 ∧ Below w.heap.size w w' := by
  go_enter Try.func25, Try.ntmps25
  go_wp2_with fail
  refine (l20Open A zs c w h hc hcm).mono ?_
  rintro e w1 ⟨rfl, hR1, hb1⟩
  go_wp2_with fail
  refine (l20Rings _ 0 w1 hR1 (by omega)).mono ?_
  rintro e w2 ⟨x, A3, n3, c3, z3, A4, n4, c4, z4, rfl, hO3, hn3, hO4, hn4, hR4, hg4⟩
  have hb2 := below_grown hb1 hg4 (Nat.le_refl _)
  go_wp2
  go_ret2
  exact ⟨A3, n3, c3, z3, A4, n4, c4, z4, rfl, hO3.mono hb1.size, hn3, hO4.mono hb1.size, hn4, hb2⟩
/-- one new slice of at most 13 integers -/
def DrewOneR (w : World) (e : Ending) (w' : World) : Prop := ∃ A n c zs, e = .returned (.slice A n c) ∧ OI w' w.heap.size A n c zs ∧ n ≤ 13 ∧ Below w.heap.size w w'
theorem drawRingFlip (A : Option Addr) (zs : List Int) (c : Nat) (w : World) (h : RB w w.heap.size A zs) (hc : zs.length ≤ c) (hcm : c ≤ maxLen) :
    Calls Try.prog 19 #[.slice A zs.length c] w (DrewOneR w) := by
  go_enter Try.func19, Try.ntmps19
  go_wp2_with fail
  refine (l20Open A zs c w h hc hcm).mono ?_
  rintro e w1 ⟨rfl, hR1, hb1⟩
  go_wp2_with fail
  refine (l20Long _ 0 w1 hR1 (by omega)).mono ?_
  rintro e w2 ⟨x, rfl, hx0, hx1, hR2, hg2⟩
  have hb2 := below_grown hb1 hg2 (Nat.le_refl _)
  go_wp2_with fail
  refine (l20Ring _ _ x 6 w2 hR2 (by omega) (by omega) hx1 (by omega)).mono ?_
  rintro e w3 ⟨A3, n3, c3, z3, rfl, hO3, hn3, hR3, hg3⟩
  have hb3 := hb2.grown hg3 hb2.size (fun k e => by cases e; exact Nat.le_refl _)
  go_wp2
  go_ret
  exact ⟨A3, n3, c3, z3, rfl, hO3.mono hb2.size, hn3, hb3⟩
end Go.Proofs.Ytmbcolkhmleibaa

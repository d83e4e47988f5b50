/- Plain words of moves by halves. -/
import Derived.Test.YtmppiifkajmbgaaPl
namespace Go.Proofs.Ytmppiifkajmbgaa
open Go.RowKit
set_option linter.unusedVariables false

/-- moves by halves, from a place on -/
def farL : Nat → Int → List Int
  | 0, f => [f]
  | L + 1, f => farL L f ++ farL L (f + 2 ^ L) ++ (farL L f).reverse
/-- in order, or in the other one -/
def hmB (L : Nat) (f : Int) (b : Bool) : List Int := if b then (farL L f).reverse else farL L f
theorem hmB_zero (f : Int) (b : Bool) : hmB 0 f b = [f] := by cases b <;> rfl
theorem hmB_succ (L : Nat) (f : Int) (b : Bool) : hmB (L + 1) f b = hmB L f false ++ hmB L (f + 2 ^ L) b ++ hmB L f true := by
  cases b <;> simp [hmB, farL]
theorem farL_len (L : Nat) (f : Int) : (farL L f).length = 3 ^ L := by
  induction L generalizing f with
  | zero => rfl
  | succ L ih => simp only [farL, List.length_append, List.length_reverse, ih, Nat.pow_succ]; omega
theorem hmB_len (L : Nat) (f : Int) (b : Bool) : (hmB L f b).length = 3 ^ L := by cases b <;> simp [hmB, farL_len]
/-- what HalfMoves returns -/
def hvL (L : Int) : List Int := if inB L 0 3 = true then farL L.toNat 0 else []
theorem hv_len (L : Int) : (hvL L).length ≤ 27 := by
  unfold hvL
  split
  · rename_i h
    have hb : 0 ≤ L ∧ L ≤ 3 := by simpa [inB] using h
    rw [farL_len]
    obtain rfl | rfl | rfl | rfl : L = 0 ∨ L = 1 ∨ L = 2 ∨ L = 3 := by omega
    all_goals decide
  · simp
end Go.Proofs.Ytmppiifkajmbgaa

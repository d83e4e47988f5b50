/- Plain words of texts of fields. -/
import Derived.Test.YtmianlihdiccjaaPlBall
import Derived.Lib.Join
namespace Go.Proofs.Ytmianlihdiccjaa
open Go.RowKit
set_option linter.unusedVariables false

/-- the sign of a square -/
def cbT (b : Bool) : UInt8 := if b then 111 else 46
/-- the text of row y -/
def rowT (S : Nat) (bs : List Bool) (y : Nat) : List UInt8 := ((bs.drop (y * S)).take S).map cbT
/-- the text of the rows below k, the topmost first -/
def txL (S : Nat) (bs : List Bool) : Nat → List UInt8
  | 0 => []
  | k + 1 => rowT S bs k ++ (if k = 0 then [] else 47 :: txL S bs k)
/-- the text of a field -/
def txF (s : Int) (bs : List Bool) (h : Bool) : List UInt8 := if fvB s bs = true then (if h = true then [33] else []) ++ txL s.toNat bs s.toNat else []
theorem row_le (S : Nat) (bs : List Bool) (y : Nat) : (rowT S bs y).length ≤ S := by simp [rowT]; omega
theorem row_len {S : Nat} {bs : List Bool} {y : Nat} (h : y * S + S ≤ bs.length) : (rowT S bs y).length = S := by simp [rowT]; omega
theorem row_at {S : Nat} {bs : List Bool} {y j : Nat} {b : Bool} (hj : j < S) (h : bs[y * S + j]? = some b) : (rowT S bs y).take (j + 1) = (rowT S bs y).take j ++ [cbT b] := by
  rw [List.take_add_one]
  congr 1
  simp [rowT, hj, h]
theorem tx_le (S : Nat) (bs : List Bool) (k : Nat) : (txL S bs k).length ≤ k * (S + 1) := by
  induction k with
  | zero => simp [txL]
  | succ k ih =>
    have := row_le S bs k
    rw [Nat.succ_mul]
    simp only [txL, List.length_append]
    split
    · simp; omega
    · simp only [List.length_cons]; omega
theorem tx_succ (S : Nat) (bs : List Bool) (k : Nat) : txL S bs (k + 1) = rowT S bs k ++ (if k = 0 then [] else 47 :: txL S bs k) := rfl
theorem tail_rev (S : Nat) (bs : List Bool) (k : Nat) : Lib.joinTail [47] ((List.range k).map (rowT S bs)).reverse = if k = 0 then [] else 47 :: txL S bs k := by
  induction k with
  | zero => rfl
  | succ k ih =>
    rw [List.range_succ, List.map_append, List.reverse_append]
    simp only [List.map_cons, List.map_nil, List.reverse_cons, List.reverse_nil, List.nil_append, List.cons_append, Lib.joinTail, List.flatten_cons]
    have ih' := ih
    simp only [Lib.joinTail, List.cons_append, List.nil_append] at ih'
    rw [ih', if_neg (show ¬ (k + 1 = 0) from Nat.succ_ne_zero k), tx_succ]
theorem join_rev (S : Nat) (bs : List Bool) (k : Nat) : Lib.join ((List.range k).map (rowT S bs)).reverse [47] = txL S bs k := by
  cases k with
  | zero => rfl
  | succ k =>
    rw [List.range_succ, List.map_append, List.reverse_append]
    simp only [List.map_cons, List.map_nil, List.reverse_cons, List.reverse_nil, List.nil_append, List.cons_append]
    rw [Lib.join_cons, tail_rev, tx_succ]
theorem txF_f {s : Int} {bs : List Bool} {h : Bool} (hv : fvB s bs = false) : txF s bs h = [] := by rw [txF, hv]; rfl
theorem txF_t {S : Nat} {bs : List Bool} {h : Bool} (hv : fvB (S : Int) bs = true) : txF (S : Int) bs h = (if h = true then [33] else []) ++ txL S bs S := by rw [txF, if_pos hv, Int.toNat_natCast]
theorem fv_empty : fvB 0 [] = false := by decide
end Go.Proofs.Ytmianlihdiccjaa

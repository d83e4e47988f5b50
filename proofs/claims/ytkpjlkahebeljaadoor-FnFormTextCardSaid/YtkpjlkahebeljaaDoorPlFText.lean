/- Plain words of texts of formulas. -/
import Derived.Test.YtkpjlkahebeljaaDoorPlForm
import Derived.Lib.Join
namespace Go.Proofs.YtkpjlkahebeljaaDoor
open Go.RowKit
set_option linter.unusedVariables false

/-- the digit of a small number -/
def dgB (x : Int) : UInt8 := UInt8.ofNat (48 + x.toNat)
def dgL (x : Int) : List UInt8 := [dgB x]
/-- the name of an operation -/
def nmL (o : Int) : List UInt8 := if o = 0 then [97, 110, 100] else if o = 1 then [111, 114] else if o = 2 then [120, 111, 114] else [110, 111, 116]
/-- the words of a step -/
def wdL (o x y : Int) : List (List UInt8) := if o = 3 then [dgL x] else [dgL x, dgL y]
/-- the text of a step -/
def tsL (o x y : Int) : List UInt8 := nmL o ++ [32] ++ dgL x ++ (if o = 3 then [] else 32 :: dgL y)
theorem tsL_join (o x y : Int) : nmL o ++ [32] ++ Lib.join (wdL o x y) [32] = tsL o x y := by
  unfold wdL tsL
  split
  · simp [Lib.join]
  · simp [Lib.join]
theorem nmL_le (o : Int) : (nmL o).length ≤ 3 := by unfold nmL; split <;> (try split) <;> (try split) <;> simp
theorem tsL_le (o x y : Int) : (tsL o x y).length ≤ 7 := by
  have := nmL_le o
  unfold tsL dgL
  split <;> simp <;> omega
/-- step k of a formula as text -/
def tsK (zs : List Int) (k : Nat) : List UInt8 := tsL (zs.getD (k * 3) 0) (zs.getD (k * 3 + 1) 0) (zs.getD (k * 3 + 2) 0)
/-- the text of the first k steps -/
def fxL (zs : List Int) : Nat → List UInt8
  | 0 => []
  | k + 1 => fxL zs k ++ (if k = 0 then [] else [59]) ++ tsK zs k
theorem fxL_le (zs : List Int) (k : Nat) : (fxL zs k).length ≤ 8 * k := by
  induction k with
  | zero => simp [fxL]
  | succ k ih =>
    have h7 : (tsK zs k).length ≤ 7 := tsL_le _ _ _
    rw [fxL, List.length_append, List.length_append]
    split
    · rw [List.length_nil]; omega
    · rw [List.length_singleton]; omega
theorem getD_ofT {zs : List Int} {k : Nat} {x : Int} (h : zs[k]? = some x) : zs.getD k 0 = x := by simp [List.getD, h]
theorem tsK_of {zs : List Int} {k : Nat} {o x y : Int} (h0 : zs[k * 3]? = some o) (h1 : zs[k * 3 + 1]? = some x) (h2 : zs[k * 3 + 2]? = some y) : tsK zs k = tsL o x y := by
  rw [tsK, getD_ofT h0, getD_ofT h1, getD_ofT h2]
/-- the text of a formula -/
def fxF (I : Int) (n : Nat) (zs : List Int) : List UInt8 := if fmB I n zs = true then fxL zs n else []
theorem fxF_le (I : Int) (n : Nat) (zs : List Int) : (fxF I n zs).length ≤ 24 := by
  unfold fxF
  split
  · rename_i h
    have := fmB_iff h
    have := fxL_le zs n
    omega
  · simp
theorem joinTail_map (zs : List Int) : ∀ k, Lib.joinTail [59] ((List.range k).map fun j => tsK zs (j + 1)) = (fxL zs (k + 1)).drop (tsK zs 0).length := by
  intro k
  induction k with
  | zero => simp [Lib.joinTail, fxL]
  | succ k ih =>
    rw [List.range_succ, List.map_append]
    have hj : ∀ (a b : List (List UInt8)), Lib.joinTail [59] (a ++ b) = Lib.joinTail [59] a ++ Lib.joinTail [59] b := by
      intro a b; simp [Lib.joinTail]
    have hl : ∀ k, (tsK zs 0).length ≤ (fxL zs (k + 1)).length := by
      intro k
      induction k with
      | zero => simp [fxL]
      | succ k ih => rw [fxL, List.length_append, List.length_append]; omega
    rw [hj, ih, show fxL zs (k + 1 + 1) = fxL zs (k + 1) ++ (if k + 1 = 0 then [] else [59]) ++ tsK zs (k + 1) from rfl, List.append_assoc, List.drop_append_of_le_length (hl k)]
    congr 1
    simp [Lib.joinTail]
theorem fxL_join (zs : List Int) (k : Nat) : Lib.join ((List.range k).map (tsK zs)) [59] = fxL zs k := by
  cases k with
  | zero => rfl
  | succ k =>
    rw [List.range_succ_eq_map, List.map_cons, Lib.join_cons, List.map_map]
    have := joinTail_map zs k
    rw [show (tsK zs ∘ Nat.succ) = fun j => tsK zs (j + 1) from rfl, this]
    have h0 : ∀ k, (fxL zs (k + 1)).take (tsK zs 0).length = tsK zs 0 := by
      intro k
      induction k with
      | zero => simp [fxL]
      | succ k ih =>
        rw [fxL, List.append_assoc, List.take_append_of_le_length, ih]
        have := congrArg List.length ih
        rw [List.length_take] at this
        omega
    have h1 := List.take_append_drop (tsK zs 0).length (fxL zs (k + 1))
    rw [h0 k] at h1
    exact h1
theorem okS_of {I : Int} {n : Nat} {zs : List Int} (h : fmB I n zs = true) {k : Nat} (hk : k < n) {o x y : Int} (h0 : zs[k * 3]? = some o) (h1 : zs[k * 3 + 1]? = some x) (h2 : zs[k * 3 + 2]? = some y) : (o = 0 ∨ o = 1 ∨ o = 2 ∨ o = 3) ∧ 0 ≤ x ∧ x ≤ 9 ∧ 0 ≤ y ∧ y ≤ 9 := by
  obtain ⟨a1, a2, a3, a4, a5⟩ := fmB_iff h
  have := a5 k hk
  rw [okS_eq h0 h1 h2] at this
  obtain ⟨b1, b2, b3, b4, b5, b6⟩ := stB_t this
  refine ⟨by omega, b3, by omega, ?_, ?_⟩
  · by_cases ho : o = 3
    · have := b5 ho; omega
    · exact (b6 ho).1
  · by_cases ho : o = 3
    · have := b5 ho; omega
    · have := (b6 ho).2.1; omega
end Go.Proofs.YtkpjlkahebeljaaDoor

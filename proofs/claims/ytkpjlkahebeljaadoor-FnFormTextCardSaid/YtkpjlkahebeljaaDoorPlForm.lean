/- Plain words of formulas: steps as the flat list of their fields. -/
import Derived.Test.YtkpjlkahebeljaaDoorPl
namespace Go.Proofs.YtkpjlkahebeljaaDoor
open Go.RowKit
set_option linter.unusedVariables false

/-- a step that may stand at place k behind I inputs -/
def stB (I : Int) (k : Nat) (o x y : Int) : Bool := decide (0 ≤ o ∧ o ≤ 3 ∧ 0 ≤ x ∧ x ≤ I + k - 1 ∧ (o = 3 → y = 0) ∧ (o ≠ 3 → 0 ≤ y ∧ y ≤ I + k - 1 ∧ x ≠ y))
def okS (I : Int) (zs : List Int) (k : Nat) : Bool := stB I k (zs.getD (k * 3) 0) (zs.getD (k * 3 + 1) 0) (zs.getD (k * 3 + 2) 0)
/-- a valid formula of n steps -/
def fmB (I : Int) (n : Nat) (zs : List Int) : Bool := inB I 1 3 && inB n 1 3 && (List.range n).all (okS I zs)
theorem okS_eq {I : Int} {zs : List Int} {k : Nat} {o x y : Int} (ho : zs[k * 3]? = some o) (hx : zs[k * 3 + 1]? = some x) (hy : zs[k * 3 + 2]? = some y) : okS I zs k = stB I k o x y := by
  simp [okS, List.getD, ho, hx, hy]
theorem fmB_f {I : Int} {n : Nat} {zs : List Int} {k : Nat} (hk : k < n) (h : okS I zs k = false) : fmB I n zs = false := by
  unfold fmB
  have : (List.range n).all (okS I zs) = false := by
    rw [List.all_eq_false]
    exact ⟨k, by simpa using hk, by simp [h]⟩
  rw [this]; simp
theorem fmB_t {I : Int} {n : Nat} {zs : List Int} (h1 : inB I 1 3 = true) (h2 : inB n 1 3 = true) (h : ∀ k, k < n → okS I zs k = true) : fmB I n zs = true := by
  unfold fmB
  rw [h1, h2]
  simp only [Bool.true_and, Bool.and_self]
  rw [List.all_eq_true]
  intro k hk
  exact h k (by simpa using hk)
theorem fmB_iff {I : Int} {n : Nat} {zs : List Int} (h : fmB I n zs = true) : 1 ≤ I ∧ I ≤ 3 ∧ 1 ≤ n ∧ n ≤ 3 ∧ ∀ k, k < n → okS I zs k = true := by
  unfold fmB at h
  simp only [Bool.and_eq_true, List.all_eq_true, List.mem_range] at h
  obtain ⟨⟨h1, h2⟩, h3⟩ := h
  simp [inB] at h1 h2
  exact ⟨h1.1, h1.2, by omega, by omega, h3⟩
theorem fmB_in {I : Int} {n : Nat} {zs : List Int} (h1 : inB I 1 3 = false) : fmB I n zs = false := by simp [fmB, h1]
theorem fmB_n {I : Int} {n : Nat} {zs : List Int} (h1 : inB n 1 3 = false) : fmB I n zs = false := by simp [fmB, h1]
theorem stB_t {I : Int} {k : Nat} {o x y : Int} (h : stB I k o x y = true) : 0 ≤ o ∧ o ≤ 3 ∧ 0 ≤ x ∧ x ≤ I + k - 1 ∧ (o = 3 → y = 0) ∧ (o ≠ 3 → 0 ≤ y ∧ y ≤ I + k - 1 ∧ x ≠ y) := by
  exact of_decide_eq_true h
end Go.Proofs.YtkpjlkahebeljaaDoor

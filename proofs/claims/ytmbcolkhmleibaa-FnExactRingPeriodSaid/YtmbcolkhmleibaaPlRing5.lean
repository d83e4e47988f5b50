/- Plain words of runs of rings and of their period. -/
import Derived.Test.YtmbcolkhmleibaaPlRing4
namespace Go.Proofs.Ytmbcolkhmleibaa
open Go.RowKit
set_option linter.unusedVariables false

/-- two rings so many steps on -/
def itR (rule : Int) (a b : List Int) : Nat → List Int × List Int
  | 0 => (a, b)
  | n + 1 => ((itR rule a b n).2, rnL rule (itR rule a b n).1 (itR rule a b n).2)
/-- the first step from k + 1 on behind which the rings are as before, with fuel -/
def perF (rule : Int) (a b : List Int) : Nat → Nat → Int
  | 0, _ => -1
  | f + 1, k => if (itR rule a b (k + 1)).1 = a ∧ (itR rule a b (k + 1)).2 = b then ((k + 1 : Nat) : Int) else perF rule a b f (k + 1)
def perI (rule : Int) (a b : List Int) : Int := if (inB rule 0 255 && pairB a b) = true then perF rule a b 99 0 else -1
theorem rn_pair {rule : Int} {a b : List Int} (hr : inB rule 0 255 = true) (h : pairB a b = true) : rnL rule a b = sumL (ruledL rule b) a ∧ pairB b (rnL rule a b) = true ∧ (rnL rule a b).length = a.length := by
  have e : rnL rule a b = sumL (ruledL rule b) a := by rw [rnL, if_pos (by simp [hr, h])]
  have hpr := pair_ruled hr h
  obtain ⟨h0, h1, h2⟩ := pair_iff.1 h
  have hl : (sumL (ruledL rule b) a).length = a.length := by rw [sum_len (pair_iff.1 hpr).2.2, ruled_len, h2]
  refine ⟨e, ?_, by rw [e, hl]⟩
  rw [e]
  exact pair_iff.2 ⟨h1, rv_sum hpr, by rw [hl, h2]⟩
theorem it_pair {rule : Int} {a b : List Int} (hr : inB rule 0 255 = true) (h : pairB a b = true) (n : Nat) : pairB (itR rule a b n).1 (itR rule a b n).2 = true ∧ (itR rule a b n).1.length = a.length := by
  induction n with
  | zero => exact ⟨h, rfl⟩
  | succ n ih =>
    refine ⟨(rn_pair hr ih.1).2.1, ?_⟩
    have := (pair_iff.1 ih.1).2.2
    rw [← ih.2, this]; rfl
theorem perF_bd (rule : Int) (a b : List Int) (f k : Nat) : -1 ≤ perF rule a b f k ∧ perF rule a b f k ≤ f + k := by
  induction f generalizing k with
  | zero => simp [perF]
  | succ f ih =>
    simp only [perF]
    split
    · omega
    · have := ih (k + 1); omega
end Go.Proofs.Ytmbcolkhmleibaa

/- Plain words of rings that follow each other. -/
import Derived.Test.YtmbcolkhmleibaaPlRing3
namespace Go.Proofs.Ytmbcolkhmleibaa
open Go.RowKit
set_option linter.unusedVariables false

/-- what a rule tells for cell i of a ring -/
def rcI (rule : Int) (zs : List Int) (i : Nat) : Int := rbI rule (zs.getD ((i + zs.length - 1) % zs.length) 0) (zs.getD i 0) (zs.getD ((i + 1) % zs.length) 0)
def ruledL (rule : Int) (zs : List Int) : List Int := (List.range zs.length).map (rcI rule zs)
/-- what a rule tells for all cells, or nothing -/
def rrL (rule : Int) (zs : List Int) : List Int := if (inB rule 0 255 && rvB zs) = true then ruledL rule zs else []
/-- the ring behind two rings, or nothing -/
def rnL (rule : Int) (a b : List Int) : List Int := if (inB rule 0 255 && pairB a b) = true then sumL (ruledL rule b) a else []

theorem ruled_len (rule : Int) (zs : List Int) : (ruledL rule zs).length = zs.length := by simp [ruledL]
theorem rr_len (rule : Int) (zs : List Int) : (rrL rule zs).length ≤ 12 := by
  unfold rrL; split
  · rename_i h; simp at h; rw [ruled_len]; exact (rv_len h.2).2
  · simp
theorem rv_getD {zs : List Int} (h : rvB zs = true) (k : Nat) : inB (zs.getD k 0) 0 1 = true := by
  rw [List.getD_eq_getElem?_getD]
  cases hx : zs[k]? with
  | none => decide
  | some x => exact (rv_iff.1 h).2 x (List.mem_of_getElem? hx)
theorem rc_01 {rule : Int} {zs : List Int} (hr : inB rule 0 255 = true) (h : rvB zs = true) (i : Nat) : 0 ≤ rcI rule zs i ∧ rcI rule zs i ≤ 1 :=
  rb_01 hr (rv_getD h _) (rv_getD h _) (rv_getD h _)
theorem rv_ruled {rule : Int} {zs : List Int} (hr : inB rule 0 255 = true) (h : rvB zs = true) : rvB (ruledL rule zs) = true := by
  refine rv_iff.2 ⟨by rw [ruled_len]; exact rv_len h, fun n hn => ?_⟩
  simp only [ruledL, List.mem_map] at hn
  obtain ⟨i, _, rfl⟩ := hn
  have := rc_01 hr h i
  exact inB_t this.1 this.2
theorem ruled_take (rule : Int) (zs : List Int) {k : Nat} (hk : k < zs.length) : (ruledL rule zs).take (k + 1) = (ruledL rule zs).take k ++ [rcI rule zs k] := by
  have e : (ruledL rule zs)[k]? = some (rcI rule zs k) := by simp [ruledL, hk]
  rw [List.take_add_one, e]; rfl
theorem pair_ruled {rule : Int} {a b : List Int} (hr : inB rule 0 255 = true) (h : pairB a b = true) : pairB (ruledL rule b) a = true := by
  obtain ⟨h0, h1, h2⟩ := pair_iff.1 h
  exact pair_iff.2 ⟨rv_ruled hr h1, h0, by rw [ruled_len, h2]⟩
/-- the reference's own words -/
theorem rn_ra (rule : Int) (a b : List Int) : raL (rrL rule b) a = rnL rule a b := by
  unfold rnL
  by_cases hr : inB rule 0 255 = true
  · by_cases hb : rvB b = true
    · have e : rrL rule b = ruledL rule b := by simp [rrL, hr, hb]
      rw [e]
      by_cases hp : pairB a b = true
      · rw [if_pos (by simp [hr, hp]), raL, if_pos (pair_ruled hr hp)]
      · rw [if_neg (by simp [hp]), raL, if_neg]
        intro h
        obtain ⟨h0, h1, h2⟩ := pair_iff.1 h
        rw [ruled_len] at h2
        exact hp (pair_iff.2 ⟨h1, hb, h2.symm⟩)
    · have e : rrL rule b = [] := by simp [rrL, hb]
      have e2 : pairB a b = false := by simp [pairB, hb]
      have e3 : raL [] a = [] := by simp [raL, pairB, rvB]
      rw [e, if_neg (by simp [e2]), e3]
  · have e : rrL rule b = [] := by simp [rrL, hr]
    have e3 : raL [] a = [] := by simp [raL, pairB, rvB]
    rw [e, if_neg (by simp [hr]), e3]
theorem rn_len (rule : Int) (a b : List Int) : (rnL rule a b).length ≤ 12 := by rw [← rn_ra]; exact ra_len _ _
/-- what going on gives: nothing, or what the laws say -/
theorem rn_cases (rule : Int) (a b : List Int) : rnL rule a b = [] ∨ (inB rule 0 255 = true ∧ pairB a b = true ∧ rnL rule (rnL rule a b) b = a ∧ rvB (rnL rule a b) = true ∧ 0 < (rnL rule a b).length ∧ (rnL rule a b).length = a.length) := by
  by_cases h : (inB rule 0 255 && pairB a b) = true
  · right
    have hr : inB rule 0 255 = true := by simp at h; exact h.1
    have hp : pairB a b = true := by simp at h; exact h.2
    have hpr := pair_ruled hr hp
    have e : rnL rule a b = sumL (ruledL rule b) a := by rw [rnL, if_pos h]
    obtain ⟨h0, h1, h2⟩ := pair_iff.1 hp
    have hl : (sumL (ruledL rule b) a).length = a.length := by rw [sum_len (pair_iff.1 hpr).2.2, ruled_len, h2]
    refine ⟨hr, hp, ?_, by rw [e]; exact rv_sum hpr, by rw [e, hl]; have := rv_len h0; omega, by rw [e, hl]⟩
    rw [e, rnL, if_pos (by
      rw [hr, Bool.true_and]
      exact pair_iff.2 ⟨rv_sum hpr, h1, by rw [hl, h2]⟩)]
    rw [sum_comm (ruledL rule b) a, sum_comm (ruledL rule b)]
    rw [pair_comm] at hpr
    exact sum_sum hpr
  · left; rw [rnL, if_neg h]
end Go.Proofs.Ytmbcolkhmleibaa

/- Plain laws of rules and rings. -/
import Derived.Test.YtmbcolkhmleibaaPlRing2
namespace Go.Proofs.Ytmbcolkhmleibaa
open Go.RowKit
set_option linter.unusedVariables false

theorem of_rule {Q : Int → Prop} (h : ∀ x : Int, 0 ≤ x → x < 256 → Q x) {rule : Int} (hr : inB rule 0 255 = true) : Q rule := h rule (r256 hr).1 (r256 hr).2
theorem rf_rf {rule : Int} (h : inB rule 0 255 = true) : 0 ≤ rfI rule ∧ rfI rule ≤ 255 ∧ rfI (rfI rule) = rule ∧ linB (rfI rule) = linB rule := by
  obtain ⟨h0, h1⟩ := r256 h
  clear h
  obtain ⟨x, hx⟩ : ∃ x : Int, x = rule := ⟨_, rfl⟩
  rw [← hx] at h0 h1 ⊢
  clear hx
  revert h1
  revert h0
  revert x
  refine all256 ?_
  decide +kernel
theorem rb_sum {rule : Int} (h : inB rule 0 255 = true) : rbI rule 0 0 0 + rbI rule 0 0 1 * 2 + rbI rule 0 1 0 * 4 + rbI rule 0 1 1 * 8 + rbI rule 1 0 0 * 16 + rbI rule 1 0 1 * 32 + rbI rule 1 1 0 * 64 + rbI rule 1 1 1 * 128 = rule := by
  obtain ⟨h0, h1⟩ := r256 h
  clear h
  obtain ⟨x, hx⟩ : ∃ x : Int, x = rule := ⟨_, rfl⟩
  rw [← hx] at h0 h1 ⊢
  clear hx
  revert h1
  revert h0
  revert x
  refine all256 ?_
  decide +kernel
theorem rb_01 {rule l o r : Int} (h : inB rule 0 255 = true) (hl : inB l 0 1 = true) (ho : inB o 0 1 = true) (hr : inB r 0 1 = true) : 0 ≤ rbI rule l o r ∧ rbI rule l o r ≤ 1 := by
  rw [rb_ok h hl ho hr]; exact bitI_01 _ _
theorem rv_zero {zs : List Int} (h : rvB zs = true) : rvB (List.replicate zs.length 0) = true := by
  refine rv_iff.2 ⟨by simpa using rv_len h, fun n hn => ?_⟩
  rw [List.eq_of_mem_replicate hn]; decide
theorem rv_two (zs : List Int) : rvB (2 :: zs) = false := by
  cases h : rvB (2 :: zs) with
  | false => rfl
  | true => have := (rv_iff.1 h).2 2 (by simp); revert this; decide
theorem rv_rot {zs : List Int} (h : rvB zs = true) (b : Nat) : rvB (rotL zs b) = true := by
  refine rv_iff.2 ⟨by rw [rot_len]; exact rv_len h, fun n hn => (rv_iff.1 h).2 n ?_⟩
  rcases List.mem_append.1 hn with h | h
  · exact List.mem_of_mem_drop h
  · exact List.mem_of_mem_take h
theorem rot_sum (zs : List Int) (b : Nat) : (rotL zs b).sum = zs.sum := by
  have h : zs = zs.take (zs.length - b % zs.length) ++ zs.drop (zs.length - b % zs.length) := (List.take_append_drop _ _).symm
  conv => rhs; rw [h]
  rw [rotL, List.sum_append, List.sum_append, Int.add_comm]
theorem rot_self (zs : List Int) : rotL zs zs.length = zs := by
  rw [rotL, Nat.mod_self, Nat.sub_zero, List.drop_length, List.take_length, List.nil_append]
theorem sh_self {zs : List Int} (h : rvB zs = true) : shL zs zs.length = zs := by
  have := rv_len h
  have hb : inB (zs.length : Int) 0 12 = true := inB_t (by omega) (by omega)
  simp [shL, h, hb, rot_self]
theorem sum_succ {zs : List Int} {k : Nat} {x : Int} (h : zs[k]? = some x) : (zs.take (k + 1)).sum = (zs.take k).sum + x := by
  rw [List.take_add_one, h]; simp
theorem sum_bd {zs : List Int} (h : rvB zs = true) (k : Nat) : 0 ≤ (zs.take k).sum ∧ (zs.take k).sum ≤ k := by
  induction k with
  | zero => simp
  | succ k ih =>
    cases hx : zs[k]? with
    | none => rw [List.take_add_one, hx]; simp; omega
    | some x => rw [sum_succ hx]; have := rv_at h hx; omega
/-- what shifting gives: nothing, or a valid ring of as many cells with as many ones -/
theorem sh_cases (zs : List Int) (by_ : Int) : shL zs by_ = [] ∨ (rvB zs = true ∧ rvB (shL zs by_) = true ∧ (shL zs by_).length = zs.length ∧ (shL zs by_).sum = zs.sum) := by
  by_cases h : (rvB zs && inB by_ 0 12) = true
  · right
    have hv : rvB zs = true := by simp at h; exact h.1
    rw [shL, if_pos h]
    exact ⟨hv, rv_rot hv _, rot_len _ _, rot_sum _ _⟩
  · left; simp [shL, h]
/-! rings added -/
theorem rv_sum {a b : List Int} (h : pairB a b = true) : rvB (sumL a b) = true := by
  obtain ⟨h0, h1, h2⟩ := pair_iff.1 h
  refine rv_iff.2 ⟨by rw [sum_len h2]; exact rv_len h0, fun n hn => ?_⟩
  obtain ⟨k, hk⟩ := List.getElem?_of_mem hn
  simp only [sumL, List.getElem?_zipWith] at hk
  cases hx : a[k]? <;> cases hy : b[k]? <;> rw [hx, hy] at hk <;> simp at hk
  subst hk
  exact inB_t (by omega) (by omega)
theorem sum_comm (a b : List Int) : sumL a b = sumL b a := by
  rw [sumL, sumL, List.zipWith_comm]
  congr 1
  funext x y
  rw [Int.add_comm]
theorem sum_sum {a b : List Int} (h : pairB a b = true) : sumL (sumL a b) b = a := by
  obtain ⟨h0, h1, h2⟩ := pair_iff.1 h
  apply List.ext_getElem?
  intro k
  simp only [sumL, List.getElem?_zipWith]
  cases hx : a[k]? with
  | none => simp
  | some x =>
    have hk := (List.getElem?_eq_some_iff.1 hx).1
    cases hy : b[k]? with
    | none => exact absurd (List.getElem?_eq_none_iff.1 hy) (by omega)
    | some y =>
      have h3 := rv_at h0 hx
      have h4 := rv_at h1 hy
      simp
      omega
theorem pair_sum {a b : List Int} (h : pairB a b = true) : pairB (sumL a b) b = true := by
  obtain ⟨h0, h1, h2⟩ := pair_iff.1 h
  exact pair_iff.2 ⟨rv_sum h, h1, by rw [sum_len h2, h2]⟩
theorem pair_comm {a b : List Int} : pairB a b = pairB b a := by
  rw [Bool.eq_iff_iff, pair_iff, pair_iff]
  constructor <;> rintro ⟨h0, h1, h2⟩ <;> exact ⟨h1, h0, h2.symm⟩
theorem ra_comm (a b : List Int) : raL a b = raL b a := by rw [raL, raL, pair_comm, sum_comm]
/-- what adding gives: nothing, or what the law says -/
theorem ra_cases (a b : List Int) : raL a b = [] ∨ (raL (raL a b) b = a ∧ raL b a = raL a b ∧ rvB (raL a b) = true ∧ 0 < (raL a b).length) := by
  cases h : pairB a b with
  | false => left; simp [raL, h]
  | true =>
    right
    have e : raL a b = sumL a b := by simp [raL, h]
    rw [e]
    refine ⟨?_, by rw [ra_comm, e], rv_sum h, ?_⟩
    · rw [raL, if_pos (pair_sum h), sum_sum h]
    · rw [sum_len (pair_iff.1 h).2.2]; have := rv_len (pair_iff.1 h).1; omega
theorem rfl_cases (zs : List Int) : (rflL zs = [] ∧ rvB zs = false) ∨ (rvB zs = true ∧ rflL (rflL zs) = zs ∧ 0 < (rflL zs).length) := by
  cases h : rvB zs with
  | false => left; simp [rflL, h]
  | true =>
    right
    have hr : rvB zs.reverse = true := rv_iff.2 ⟨by simpa using rv_len h, fun n hn => (rv_iff.1 h).2 n (by simpa using hn)⟩
    have e : rflL zs = zs.reverse := by simp [rflL, h]
    refine ⟨rfl, by rw [e, rflL, if_pos hr, List.reverse_reverse], by rw [e]; have := rv_len h; simp; omega⟩
end Go.Proofs.Ytmbcolkhmleibaa

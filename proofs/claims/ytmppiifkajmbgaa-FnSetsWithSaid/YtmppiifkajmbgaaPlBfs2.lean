/- The plain search over sets of places: what holds in every round. -/
import Derived.Test.YtmppiifkajmbgaaPlBfs
namespace Go.Proofs.Ytmppiifkajmbgaa
open Go.RowKit
set_option linter.unusedVariables false

theorem md_lt {p s k : Int} (h : 0 ≤ mdI p s k) : mdI p s k < 2 ^ p.toNat ∧ mmB p s k = true := by
  by_cases hm : mmB p s k = true
  · exact ⟨(pvB_iff.1 (md_yes hm).1).2.2.2, hm⟩
  · rw [md_no hm] at h; omega
/-- the place of the next set is tried -/
def bOk (p b at' : Int) (st : List Int × List Int) (k : Nat) : Bool := decide (0 ≤ mdI p at' k ∧ st.1.getD (mdI p at' k).toNat 0 < 0 ∧ popI (mdI p at' k) 8 ≤ b)
theorem bStep_yes {p b at' : Int} {st : List Int × List Int} {k : Nat} (h : bOk p b at' st k = true) : bStep p b at' st k = (st.1.set (mdI p at' k).toNat (st.1.getD at'.toNat 0 + 1), st.2 ++ [mdI p at' k]) := by
  unfold bStep; rw [if_pos (by simpa [bOk] using h)]
theorem bStep_no {p b at' : Int} {st : List Int × List Int} {k : Nat} (h : bOk p b at' st k = false) : bStep p b at' st k = st := by
  unfold bStep; rw [if_neg (by simpa [bOk] using h)]

structure BInv (N : Nat) (far q : List Int) : Prop where
  len : far.length = N
  q_bd : ∀ x ∈ q, 0 ≤ x ∧ x < N
  cnt : far.countP (fun v => decide (v < 0)) + q.length = N
  val : ∀ v ∈ far, -1 ≤ v ∧ v ≤ q.length
theorem BInv.at_far {N : Nat} {far q : List Int} (h : BInv N far q) {i : Nat} (hi : i < N) : ∃ v, far[i]? = some v ∧ far.getD i 0 = v ∧ -1 ≤ v ∧ v ≤ q.length := by
  have hl : i < far.length := by rw [h.len]; exact hi
  exact ⟨far[i], List.getElem?_eq_getElem hl, by simp [List.getD, hl], h.val _ (List.getElem_mem hl)⟩
theorem BInv.at_q {N : Nat} {far q : List Int} (h : BInv N far q) {k : Nat} (hk : k < q.length) : ∃ i : Nat, q[k]? = some (i : Int) ∧ q.getD k 0 = (i : Int) ∧ i < N := by
  obtain ⟨h0, h1⟩ := h.q_bd _ (List.getElem_mem hk)
  obtain ⟨i, hi⟩ := Int.eq_ofNat_of_zero_le h0
  exact ⟨i, by rw [List.getElem?_eq_getElem hk, hi], by simp [List.getD, hk, hi], by omega⟩
theorem BInv.step {N : Nat} {far q : List Int} (h : BInv N far q) {i a : Nat} (hi : i < N) (ha : a < N) (hv : far.getD i 0 < 0) : BInv N (far.set i (far.getD a 0 + 1)) (q ++ [(i : Int)]) := by
  obtain ⟨u, hu, hu', hu0, hu1⟩ := h.at_far ha
  obtain ⟨x, hx, hx', _, _⟩ := h.at_far hi
  have hl : i < far.length := by rw [h.len]; exact hi
  refine ⟨by simpa using h.len, ?_, ?_, ?_⟩
  · intro y hy
    rcases List.mem_append.1 hy with hy | hy
    · exact h.q_bd y hy
    · simp at hy; subst hy; omega
  · have e := List.countP_set (p := fun v : Int => decide (v < 0)) (l := far) (a := far.getD a 0 + 1) hl
    have e1 : decide (far[i] < 0) = true := by rw [List.getElem?_eq_getElem hl] at hx; simp at hx; rw [hx, ← hx']; simpa using hv
    have e2 : decide (far.getD a 0 + 1 < 0) = false := by rw [hu']; simp; omega
    have e3 : 0 < far.countP (fun v => decide (v < 0)) := List.countP_pos_iff.2 ⟨far[i], List.getElem_mem hl, e1⟩
    simp only [e1, e2, if_true, Bool.false_eq_true, if_false] at e
    have := h.cnt
    simp only [List.length_append, List.length_singleton]
    omega
  · intro y hy
    rcases List.mem_or_eq_of_mem_set hy with hy | hy
    · have := h.val y hy; simp; omega
    · subst hy; rw [hu']; simp; omega
theorem BInv.q_len {N : Nat} {far q : List Int} (h : BInv N far q) : q.length ≤ N := by have := h.cnt; omega
theorem binv_start {np N : Nat} (hN : 2 ^ np = N) (h1 : 1 ≤ N) : BInv N (bStart np).1 (bStart np).2 := by
  subst hN
  refine ⟨by simp [bStart], by intro x hx; simp [bStart] at hx; subst hx; omega, ?_, ?_⟩
  · have hl : 0 < (List.replicate (2 ^ np) (-1 : Int)).length := by rw [List.length_replicate]; exact h1
    have e := List.countP_set (p := fun v : Int => decide (v < 0)) (l := List.replicate (2 ^ np) (-1 : Int)) (a := 0) hl
    have e1 : (List.replicate (2 ^ np) (-1 : Int)).countP (fun v => decide (v < 0)) = 2 ^ np := by
      rw [List.countP_replicate]; simp
    simp [e1] at e
    simp only [bStart, List.length_singleton]
    rw [e]; omega
  · intro v hv
    rcases List.mem_or_eq_of_mem_set hv with h | h
    · rw [List.eq_of_mem_replicate h]; simp [bStart]
    · subst h; simp [bStart]
/-- one round of the search -/
theorem bRun_succ {p b : Int} {np f k : Nat} {far q : List Int} (hk : k < q.length) : bRun p b np (f + 1) k (far, q) = bRun p b np f (k + 1) (bPl p b (q.getD k 0) (far, q) np) := by
  simp only [bRun, if_pos hk]
theorem bRun_end {p b : Int} {np f k : Nat} {far q : List Int} (hk : ¬ k < q.length) : bRun p b np f k (far, q) = far := by
  cases f with
  | zero => rfl
  | succ f => simp only [bRun, if_neg hk]
/-- the queue grows at its end -/
theorem getD_app {q t : List Int} {k : Nat} {x : Int} (h : q[k]? = some x) : (q ++ t)[k]? = some x := by
  rw [List.getElem?_append_left (List.getElem?_eq_some_iff.1 h).1]; exact h
end Go.Proofs.Ytmppiifkajmbgaa

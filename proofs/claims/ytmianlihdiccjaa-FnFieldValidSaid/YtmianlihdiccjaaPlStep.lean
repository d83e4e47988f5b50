/- Plain: which cells of a square have a ball behind a step, told by the balls that there are. -/
import Derived.Test.YtmianlihdiccjaaPlBall2
namespace Go.Proofs.Ytmianlihdiccjaa
open Go.RowKit
set_option linter.unusedVariables false

/-- true is put into the cells is -/
def setT (out : List Bool) (is : List Nat) : List Bool := is.foldl (fun o i => o.set i true) out
theorem setT_len (is : List Nat) : ∀ out : List Bool, (setT out is).length = out.length := by
  induction is with
  | nil => intro out; rfl
  | cons i r ih => intro out; show (setT (out.set i true) r).length = _; rw [ih]; simp
theorem setT_getD (is : List Nat) : ∀ (out : List Bool), (∀ i ∈ is, i < out.length) → ∀ i, (setT out is).getD i false = (out.getD i false || decide (i ∈ is)) := by
  induction is with
  | nil => intro out _ i; simp [setT]
  | cons j r ih =>
    intro out hl i
    show (setT (out.set j true) r).getD i false = _
    rw [ih _ (fun k hk => by have := hl k (List.mem_cons_of_mem _ hk); simpa using this)]
    have hj := hl j (List.mem_cons_self ..)
    by_cases e : i = j
    · subst e
      simp [List.getD, hj]
    · have : (out.set j true).getD i false = out.getD i false := by
        simp only [List.getD_eq_getElem?_getD]
        rw [List.getElem?_set_ne (fun h => e h.symm)]
      rw [this]
      simp [e]
theorem setT_app (out : List Bool) (is : List Nat) (i : Nat) : setT out (is ++ [i]) = (setT out is).set i true := by simp [setT]
/-- the corners of a square that have a ball -/
def dsOf (b0 b1 b2 b3 : Bool) : List Nat := (List.range 4).filter fun d => [b0, b1, b2, b3].getD d false
/-- the other column -/
def flipX (d : Nat) : Nat := d / 2 * 2 + (1 - d % 2)
def newD (b0 b1 b2 b3 : Bool) (d : Nat) : Bool := [new4 b0 b1 b2 b3, new4 b1 b0 b3 b2, new4 b2 b3 b0 b1, new4 b3 b2 b1 b0].getD d false
def okR (b0 b1 b2 b3 : Bool) (res : List Nat) : Bool := ((List.range 4).all fun d => (decide (d ∈ res) == newD b0 b1 b2 b3 d)) && res.all fun d => decide (d < 4)
theorem cls : ∀ b0 b1 b2 b3 : Bool,
    (∃ d ∈ [0, 1, 2, 3], dsOf b0 b1 b2 b3 = [d] ∧ okR b0 b1 b2 b3 [3 - d] = true) ∨
    (∃ d ∈ [0, 1, 2, 3], dsOf b0 b1 b2 b3 = [d, 3 - d] ∧ okR b0 b1 b2 b3 ((dsOf b0 b1 b2 b3).map flipX) = true) ∨
    (∃ d ∈ [0, 1, 2, 3], ∃ e ∈ [0, 1, 2, 3], dsOf b0 b1 b2 b3 = [d, e] ∧ e ≠ 3 - d ∧ okR b0 b1 b2 b3 (dsOf b0 b1 b2 b3) = true) ∨
    ((dsOf b0 b1 b2 b3).length ≠ 1 ∧ (dsOf b0 b1 b2 b3).length ≠ 2 ∧ okR b0 b1 b2 b3 (dsOf b0 b1 b2 b3) = true) := by decide +kernel
theorem ds_mem {b0 b1 b2 b3 : Bool} {d : Nat} (h : d ∈ dsOf b0 b1 b2 b3) : d < 4 := by
  have := (List.mem_filter.1 h).1
  simpa using this
theorem ds_len (b0 b1 b2 b3 : Bool) : (dsOf b0 b1 b2 b3).length ≤ 4 := by revert b0 b1 b2 b3; decide
/-- the first j corners that have a ball -/
def dsT (b0 b1 b2 b3 : Bool) (j : Nat) : List Nat := (List.range j).filter fun d => [b0, b1, b2, b3].getD d false
theorem dsT_succ_t {b0 b1 b2 b3 : Bool} {j : Nat} (h : [b0, b1, b2, b3].getD j false = true) : dsT b0 b1 b2 b3 (j + 1) = dsT b0 b1 b2 b3 j ++ [j] := by
  unfold dsT; rw [List.range_succ, List.filter_append]; simp only [List.filter_cons, h]; simp
theorem dsT_succ_f {b0 b1 b2 b3 : Bool} {j : Nat} (h : [b0, b1, b2, b3].getD j false = false) : dsT b0 b1 b2 b3 (j + 1) = dsT b0 b1 b2 b3 j := by
  unfold dsT; rw [List.range_succ, List.filter_append]; simp only [List.filter_cons, h]; simp
theorem dsT_len (b0 b1 b2 b3 : Bool) (j : Nat) : (dsT b0 b1 b2 b3 j).length ≤ j := by
  have := List.length_filter_le (fun d => [b0, b1, b2, b3].getD d false) (List.range j)
  simpa [dsT] using this
/-- the index of corner d of the square at (x, y) -/
def clD (s x y d : Nat) : Nat := (y + d / 2) % s * s + (x + d % 2) % s
theorem clD_lt {s x y d : Nat} (hs : 0 < s) : clD s x y d < s * s := by
  have h1 : (y + d / 2) % s < s := Nat.mod_lt _ hs
  have h2 : (x + d % 2) % s < s := Nat.mod_lt _ hs
  unfold clD
  calc (y + d / 2) % s * s + (x + d % 2) % s < (y + d / 2) % s * s + s := by omega
    _ = ((y + d / 2) % s + 1) * s := by rw [Nat.add_mul, Nat.one_mul]
    _ ≤ s * s := Nat.mul_le_mul_right _ h1
theorem clD_c {s h p q : Nat} (hs : s = 2 ∨ s = 4 ∨ s = 6 ∨ s = 8) (hh : h < 2) (hp : p < s / 2) (hq : q < s / 2) :
    clD s (2 * p + h) (2 * q + h) 0 = c0 s h p q ∧ clD s (2 * p + h) (2 * q + h) 1 = c1 s h p q ∧ clD s (2 * p + h) (2 * q + h) 2 = c2 s h p q ∧ clD s (2 * p + h) (2 * q + h) 3 = c3 s h p q := by
  have h1 : (2 * p + h) % s = 2 * p + h := Nat.mod_eq_of_lt (by omega)
  have h2 : (2 * q + h) % s = 2 * q + h := Nat.mod_eq_of_lt (by omega)
  refine ⟨?_, ?_, ?_, ?_⟩
  · unfold clD c0; simp only [Nat.zero_div, Nat.add_zero, Nat.zero_mod, h1, h2]
  · unfold clD c1; simp only [show (1 : Nat) / 2 = 0 from rfl, show (1 : Nat) % 2 = 1 from rfl, Nat.add_zero, h2]
  · unfold clD c2; simp only [show (2 : Nat) / 2 = 1 from rfl, show (2 : Nat) % 2 = 0 from rfl, Nat.add_zero, h1]
  · unfold clD c3; simp only [show (3 : Nat) / 2 = 1 from rfl, show (3 : Nat) % 2 = 1 from rfl]
/-- one square of the program's step -/
theorem StI.sq {s h p q : Nat} {bs out : List Bool} {res : List Nat} (hs : s = 2 ∨ s = 4 ∨ s = 6 ∨ s = 8) (hh : h < 2) (hp : p < s / 2) (hq : q < s / 2) (H : StI s h bs (q * (s / 2) + p) out)
    (hr : okR (bs.getD (clD s (2 * p + h) (2 * q + h) 0) false) (bs.getD (clD s (2 * p + h) (2 * q + h) 1) false) (bs.getD (clD s (2 * p + h) (2 * q + h) 2) false) (bs.getD (clD s (2 * p + h) (2 * q + h) 3) false) res = true) :
    StI s h bs (q * (s / 2) + (p + 1)) (setT out (res.map (clD s (2 * p + h) (2 * q + h)))) := by
  obtain ⟨⟨l0, l1, l2, l3, n1, n2, n3, n4, n5, n6⟩, hst, _⟩ := sq_facts hs hh hp hq
  obtain ⟨e0, e1, e2, e3⟩ := hst bs
  obtain ⟨k0, k1, k2, k3⟩ := clD_c hs hh hp hq
  rw [k0, k1, k2, k3] at hr
  simp only [okR, Bool.and_eq_true, List.all_eq_true, List.mem_range, beq_iff_eq, decide_eq_true_eq] at hr
  obtain ⟨hr, hb⟩ := hr
  refine StI.succ hs hh hp hq H (setT_len _ _) fun i => ?_
  have hlt : ∀ j ∈ res.map (clD s (2 * p + h) (2 * q + h)), j < out.length := by
    intro j hj
    obtain ⟨d, _, rfl⟩ := List.mem_map.1 hj
    rw [H.1]; exact clD_lt (by omega)
  rw [setT_getD _ _ hlt]
  have hm : ∀ d, d < 4 → ∀ i, i = clD s (2 * p + h) (2 * q + h) d → decide (i ∈ res.map (clD s (2 * p + h) (2 * q + h))) = decide (d ∈ res) := by
    intro d hd i hi
    rw [decide_eq_decide]
    constructor
    · intro hm
      obtain ⟨d', hd', e⟩ := List.mem_map.1 hm
      have hd4 := hb d' hd'
      rw [hi] at e
      have h4 : d = 0 ∨ d = 1 ∨ d = 2 ∨ d = 3 := by omega
      have h4' : d' = 0 ∨ d' = 1 ∨ d' = 2 ∨ d' = 3 := by omega
      rcases h4 with rfl | rfl | rfl | rfl <;> rcases h4' with rfl | rfl | rfl | rfl <;> first
        | exact hd'
        | (exfalso; rw [k0, k1] at e; exact n1 e.symm) | (exfalso; rw [k0, k1] at e; exact n1 e)
        | (exfalso; rw [k0, k2] at e; exact n2 e.symm) | (exfalso; rw [k0, k2] at e; exact n2 e)
        | (exfalso; rw [k0, k3] at e; exact n3 e.symm) | (exfalso; rw [k0, k3] at e; exact n3 e)
        | (exfalso; rw [k1, k2] at e; exact n4 e.symm) | (exfalso; rw [k1, k2] at e; exact n4 e)
        | (exfalso; rw [k1, k3] at e; exact n5 e.symm) | (exfalso; rw [k1, k3] at e; exact n5 e)
        | (exfalso; rw [k2, k3] at e; exact n6 e.symm) | (exfalso; rw [k2, k3] at e; exact n6 e)
    · intro hd'
      exact List.mem_map.2 ⟨d, hd', hi.symm⟩
  by_cases i0 : i = c0 s h p q
  · rw [if_pos i0, hm 0 (by omega) i (by rw [k0]; exact i0), hr 0 (by omega), i0, e0]; rfl
  rw [if_neg i0]
  by_cases i1 : i = c1 s h p q
  · rw [if_pos i1, hm 1 (by omega) i (by rw [k1]; exact i1), hr 1 (by omega), i1, e1]; rfl
  rw [if_neg i1]
  by_cases i2 : i = c2 s h p q
  · rw [if_pos i2, hm 2 (by omega) i (by rw [k2]; exact i2), hr 2 (by omega), i2, e2]; rfl
  rw [if_neg i2]
  by_cases i3 : i = c3 s h p q
  · rw [if_pos i3, hm 3 (by omega) i (by rw [k3]; exact i3), hr 3 (by omega), i3, e3]; rfl
  rw [if_neg i3]
  have : ¬ i ∈ res.map (clD s (2 * p + h) (2 * q + h)) := by
    intro hm
    obtain ⟨d', hd', e⟩ := List.mem_map.1 hm
    have hd4 := hb d' hd'
    have h4' : d' = 0 ∨ d' = 1 ∨ d' = 2 ∨ d' = 3 := by omega
    rcases h4' with rfl | rfl | rfl | rfl
    · exact i0 (by rw [← e]; exact k0)
    · exact i1 (by rw [← e]; exact k1)
    · exact i2 (by rw [← e]; exact k2)
    · exact i3 (by rw [← e]; exact k3)
  simp [this]
end Go.Proofs.Ytmianlihdiccjaa

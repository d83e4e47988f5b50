/- Plain words of the gates of a formula. -/
import Derived.Test.YtkpjlkahebeljaaPlGate
namespace Go.Proofs.Ytkpjlkahebeljaa
open Go.RowKit
set_option linter.unusedVariables false

/-- how many gates compute the first k steps, and these gates -/
def gsN (zs : List Int) : Nat → Nat
  | 0 => 0
  | k + 1 => gsN zs k + sgN (zs.getD (k * 3) 0)
def gsL (I : Int) (zs : List Int) : Nat → List Int
  | 0 => []
  | k + 1 => gsL I zs k ++ sgL (zs.getD (k * 3) 0) (zs.getD (k * 3 + 1) 0) (zs.getD (k * 3 + 2) 0) (I + k)
theorem gsL_len (I : Int) (zs : List Int) (k : Nat) : (gsL I zs k).length = gsN zs k * 4 := by
  induction k with
  | zero => rfl
  | succ k ih => rw [gsL, List.length_append, ih, sgL_len, gsN]; omega
theorem gsN_le (zs : List Int) (k : Nat) : gsN zs k ≤ 3 * k := by
  induction k with
  | zero => exact Nat.le_refl _
  | succ k ih => have := sgN_le (zs.getD (k * 3) 0); rw [gsN]; omega
theorem sgN_pos (o : Int) : 0 < sgN o := by
  unfold sgN
  split
  · omega
  · split <;> omega
theorem getD_of {zs : List Int} {k : Nat} {x : Int} (h : zs[k]? = some x) : zs.getD k 0 = x := by simp [List.getD, h]
theorem gsN_succ {zs : List Int} {k : Nat} {o : Int} (h : zs[k * 3]? = some o) : gsN zs (k + 1) = gsN zs k + sgN o := by rw [gsN, getD_of h]
theorem gsL_succ {I : Int} {zs : List Int} {k : Nat} {o x y : Int} (h0 : zs[k * 3]? = some o) (h1 : zs[k * 3 + 1]? = some x) (h2 : zs[k * 3 + 2]? = some y) : gsL I zs (k + 1) = gsL I zs k ++ sgL o x y (I + k) := by
  rw [gsL, getD_of h0, getD_of h1, getD_of h2]
/-- the gates of a valid formula, none of others -/
def cgN (I : Int) (n : Nat) (zs : List Int) : Nat := if fmB I n zs = true then gsN zs n else 0
def cgL (I : Int) (n : Nat) (zs : List Int) : List Int := if fmB I n zs = true then gsL I zs n else []
theorem cgL_len (I : Int) (n : Nat) (zs : List Int) : (cgL I n zs).length = cgN I n zs * 4 := by
  unfold cgL cgN
  split
  · exact gsL_len I zs n
  · rfl
theorem cgN_le (I : Int) (n : Nat) (zs : List Int) : cgN I n zs ≤ 9 := by
  unfold cgN
  split
  · rename_i h
    have := fmB_iff h
    have := gsN_le zs n
    omega
  · omega
/-- a step of a valid formula -/
theorem stL_of {I : Int} {n : Nat} {zs : List Int} (h : fmB I n zs = true) {k : Nat} (hk : k < n) {o x y : Int} (h0 : zs[k * 3]? = some o) (h1 : zs[k * 3 + 1]? = some x) (h2 : zs[k * 3 + 2]? = some y) : stL o x y (I + k) := by
  obtain ⟨a1, a2, a3, a4, a5⟩ := fmB_iff h
  have := a5 k hk
  rw [okS_eq h0 h1 h2] at this
  obtain ⟨b1, b2, b3, b4, b5, b6⟩ := stB_t this
  exact ⟨b1, b2, b3, by omega, by omega, fun ho => by obtain ⟨c1, c2, c3⟩ := b6 ho; exact ⟨c1, by omega, c3⟩⟩
/-- gate k of a flat list -/
def g4 (zs : List Int) (k : Nat) : List Int := [zs.getD (k * 4) 0, zs.getD (k * 4 + 1) 0, zs.getD (k * 4 + 2) 0, zs.getD (k * 4 + 3) 0]
theorem g4_eq {zs : List Int} {k : Nat} {x y z u : Int} (h0 : zs[k * 4]? = some x) (h1 : zs[k * 4 + 1]? = some y) (h2 : zs[k * 4 + 2]? = some z) (h3 : zs[k * 4 + 3]? = some u) : g4 zs k = [x, y, z, u] := by
  rw [g4, getD_of h0, getD_of h1, getD_of h2, getD_of h3]
/-- the gates from place k on, in the other order -/
def rvL (zs : List Int) (m k : Nat) : List Int := ((List.range m).drop k).reverse.flatMap (g4 zs)
theorem rvL_last (zs : List Int) (m : Nat) : rvL zs m m = [] := by
  unfold rvL; rw [List.drop_eq_nil_of_le (by simp)]; rfl
theorem rvL_pred (zs : List Int) {m k : Nat} (h : k < m) : rvL zs m k = rvL zs m (k + 1) ++ g4 zs k := by
  unfold rvL
  have hd : (List.range m).drop k = k :: (List.range m).drop (k + 1) := by
    rw [List.drop_eq_getElem_cons (by simpa using h)]; simp
  rw [hd, List.reverse_cons, List.flatMap_append]
  simp
theorem rvL_len (zs : List Int) (m : Nat) : ∀ j, j ≤ m → (rvL zs m (m - j)).length = j * 4 := by
  intro j
  induction j with
  | zero => intro _; rw [Nat.sub_zero, rvL_last]; rfl
  | succ j ih =>
    intro hj
    rw [rvL_pred zs (show m - (j + 1) < m by omega), List.length_append, show m - (j + 1) + 1 = m - j by omega, ih (by omega)]
    simp [g4]; omega
theorem rvL_len0 (zs : List Int) (m : Nat) : (rvL zs m 0).length = m * 4 := by
  have := rvL_len zs m m (Nat.le_refl _)
  rwa [Nat.sub_self] at this
/-- the gates that leave nothing over -/
def clL (I : Int) (n : Nat) (zs : List Int) : List Int := if fmB I n zs = true then gsL I zs n ++ [1, I + n - 1, I + n, 0] ++ rvL (gsL I zs n) (gsN zs n) 0 else []
def clN (I : Int) (n : Nat) (zs : List Int) : Nat := if fmB I n zs = true then gsN zs n + 1 + gsN zs n else 0
theorem clL_len (I : Int) (n : Nat) (zs : List Int) : (clL I n zs).length = clN I n zs * 4 := by
  unfold clL clN
  split
  · rw [List.length_append, List.length_append, gsL_len, rvL_len0]; simp; omega
  · rfl
theorem clN_le (I : Int) (n : Nat) (zs : List Int) : clN I n zs ≤ 19 := by
  unfold clN
  split
  · rename_i h
    have := fmB_iff h
    have := gsN_le zs n
    omega
  · omega
theorem allGV_append {n m : Nat} {zs ys : List Int} (hl : zs.length = n * 4) (h : AllGV n zs) (k : AllGV m ys) : AllGV (n + m) (zs ++ ys) := by
  intro j hj K a b c h0 h1 h2 h3
  by_cases hn : j < n
  · rw [List.getElem?_append_left (by omega)] at h0 h1 h2 h3
    exact h j hn K a b c h0 h1 h2 h3
  · rw [List.getElem?_append_right (by omega)] at h0 h1 h2 h3
    rw [hl] at h0 h1 h2 h3
    have e : j = (j - n) + n := by omega
    refine k (j - n) (by omega) K a b c ?_ ?_ ?_ ?_
    · rw [← h0]; congr 1; omega
    · rw [← h1]; congr 1; omega
    · rw [← h2]; congr 1; omega
    · rw [← h3]; congr 1; omega
theorem gsL_gv {I : Int} {n : Nat} {zs : List Int} (hl : zs.length = n * 3) (h : fmB I n zs = true) : ∀ k, k ≤ n → AllGV (gsN zs k) (gsL I zs k) := by
  intro k
  induction k with
  | zero => intro _ j hj; exact absurd hj (by simp [gsN])
  | succ k ih =>
    intro hk
    rw [gsN, gsL]
    have g : ∀ j, j < n * 3 → zs[j]? = some (zs.getD j 0) := fun j hj => by
      rw [List.getD, List.getElem?_eq_getElem (by omega)]; rfl
    exact allGV_append (gsL_len I zs k) (ih (by omega)) (sgL_gv (stL_of h (show k < n by omega) (g _ (by omega)) (g _ (by omega)) (g _ (by omega))))
end Go.Proofs.Ytkpjlkahebeljaa

/- Plain words of the gates of a step. -/
import Derived.Test.YtkpjlkahebeljaaPlForm
namespace Go.Proofs.Ytkpjlkahebeljaa
open Go.RowKit
set_option linter.unusedVariables false

/-- a gate of one of the three kinds that compute, on lines from 0 to 7 -/
def GV (K a b c : Int) : Prop :=
  (K = 0 ∧ b = 0 ∧ c = 0 ∧ 0 ≤ a ∧ a ≤ 7) ∨ (K = 1 ∧ c = 0 ∧ 0 ≤ a ∧ a ≤ 7 ∧ 0 ≤ b ∧ b ≤ 7 ∧ a ≠ b) ∨
  (K = 2 ∧ 0 ≤ a ∧ a ≤ 7 ∧ 0 ≤ b ∧ b ≤ 7 ∧ 0 ≤ c ∧ c ≤ 7 ∧ a ≠ b ∧ a ≠ c ∧ b ≠ c)
/-- every gate of a flat list is one of these -/
def AllGV (n : Nat) (zs : List Int) : Prop := ∀ k, k < n → ∀ K a b c, zs[k * 4]? = some K → zs[k * 4 + 1]? = some a → zs[k * 4 + 2]? = some b → zs[k * 4 + 3]? = some c → GV K a b c
/-- how many gates compute a step -/
def sgN (o : Int) : Nat := if o = 0 then 1 else if o = 1 then 3 else 2
/-- the gates that compute a step onto line l -/
def sgL (o x y l : Int) : List Int :=
  if o = 0 then [2, x, y, l] else if o = 1 then [1, x, l, 0, 1, y, l, 0, 2, x, y, l] else if o = 2 then [1, x, l, 0, 1, y, l, 0] else [1, x, l, 0, 0, l, 0, 0]
theorem sgL_len (o x y l : Int) : (sgL o x y l).length = sgN o * 4 := by
  unfold sgL sgN
  split
  · rfl
  · split
    · rfl
    · split <;> rfl
theorem sgN_le (o : Int) : sgN o ≤ 3 := by
  unfold sgN
  split
  · omega
  · split <;> omega
/-- a step whose places lie ahead of line l -/
def stL (o x y l : Int) : Prop := 0 ≤ o ∧ o ≤ 3 ∧ 0 ≤ x ∧ x < l ∧ l ≤ 7 ∧ (o ≠ 3 → 0 ≤ y ∧ y < l ∧ x ≠ y)
theorem allGV0 {x y l : Int} (hx : 0 ≤ x ∧ x < l) (hl : l ≤ 7) (hy : 0 ≤ y ∧ y < l) (hn : x ≠ y) : AllGV 1 [2, x, y, l] := by
  intro k hk K a b c h0 h1 h2 h3
  obtain rfl : k = 0 := by omega
  simp at h0 h1 h2 h3
  subst h0; subst h1; subst h2; subst h3
  exact .inr (.inr ⟨rfl, by omega, by omega, by omega, by omega, by omega, by omega, hn, by omega, by omega⟩)
theorem allGV1 {x y l : Int} (hx : 0 ≤ x ∧ x < l) (hl : l ≤ 7) (hy : 0 ≤ y ∧ y < l) (hn : x ≠ y) : AllGV 3 [1, x, l, 0, 1, y, l, 0, 2, x, y, l] := by
  intro k hk K a b c h0 h1 h2 h3
  have hk3 : k = 0 ∨ k = 1 ∨ k = 2 := by omega
  rcases hk3 with rfl | rfl | rfl
  · simp at h0 h1 h2 h3
    subst h0; subst h1; subst h2; subst h3
    exact .inr (.inl ⟨rfl, rfl, by omega, by omega, by omega, by omega, by omega⟩)
  · simp at h0 h1 h2 h3
    subst h0; subst h1; subst h2; subst h3
    exact .inr (.inl ⟨rfl, rfl, by omega, by omega, by omega, by omega, by omega⟩)
  · simp at h0 h1 h2 h3
    subst h0; subst h1; subst h2; subst h3
    exact .inr (.inr ⟨rfl, by omega, by omega, by omega, by omega, by omega, by omega, hn, by omega, by omega⟩)
theorem allGV2 {x y l : Int} (hx : 0 ≤ x ∧ x < l) (hl : l ≤ 7) (hy : 0 ≤ y ∧ y < l) : AllGV 2 [1, x, l, 0, 1, y, l, 0] := by
  intro k hk K a b c h0 h1 h2 h3
  have hk3 : k = 0 ∨ k = 1 := by omega
  rcases hk3 with rfl | rfl
  · simp at h0 h1 h2 h3
    subst h0; subst h1; subst h2; subst h3
    exact .inr (.inl ⟨rfl, rfl, by omega, by omega, by omega, by omega, by omega⟩)
  · simp at h0 h1 h2 h3
    subst h0; subst h1; subst h2; subst h3
    exact .inr (.inl ⟨rfl, rfl, by omega, by omega, by omega, by omega, by omega⟩)
theorem allGV3 {x l : Int} (hx : 0 ≤ x ∧ x < l) (hl : l ≤ 7) : AllGV 2 [1, x, l, 0, 0, l, 0, 0] := by
  intro k hk K a b c h0 h1 h2 h3
  have hk3 : k = 0 ∨ k = 1 := by omega
  rcases hk3 with rfl | rfl
  · simp at h0 h1 h2 h3
    subst h0; subst h1; subst h2; subst h3
    exact .inr (.inl ⟨rfl, rfl, by omega, by omega, by omega, by omega, by omega⟩)
  · simp at h0 h1 h2 h3
    subst h0; subst h1; subst h2; subst h3
    exact .inl ⟨rfl, rfl, rfl, by omega, by omega⟩
theorem sgL_gv {o x y l : Int} (h : stL o x y l) : AllGV (sgN o) (sgL o x y l) := by
  obtain ⟨h1, h2, h3, h4, h5, h6⟩ := h
  have ho : o = 0 ∨ o = 1 ∨ o = 2 ∨ o = 3 := by omega
  rcases ho with rfl | rfl | rfl | rfl
  · obtain ⟨a, b, c⟩ := h6 (by decide); exact allGV0 ⟨h3, h4⟩ h5 ⟨a, b⟩ c
  · obtain ⟨a, b, c⟩ := h6 (by decide); exact allGV1 ⟨h3, h4⟩ h5 ⟨a, b⟩ c
  · obtain ⟨a, b, c⟩ := h6 (by decide); exact allGV2 ⟨h3, h4⟩ h5 ⟨a, b⟩
  · exact allGV3 ⟨h3, h4⟩ h5
end Go.Proofs.Ytkpjlkahebeljaa

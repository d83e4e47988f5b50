/- Contract: the balls of a square behind a step (the program): the balls are gathered. -/
import Derived.Test.YtmianlihdiccjaaPlStep
import Derived.Test.YtmianlihdiccjaaStepF
import Derived.Maps.AppendAt
namespace Go.Proofs.Ytmianlihdiccjaa
open Go.RowKit
set_option linter.unusedVariables false
attribute [local go_sem ↓] Go.wp_at_zero Go.wp_at_succ

theorem infoBall : (Try.prog.info? 92).map (fun i => (i.zero, i.size, i.bytes)) = some (some (.agg #[.int .i64 0, .int .i64 0, .int .i64 0, .int .i64 0]), 4, 32) := by kernel_rfl
/-- the cells of a ball in corner d of the square at (x, y) -/
def ballV (x y d : Nat) : List Value := [.int .i64 ((x + d % 2 : Nat) : Int), .int .i64 ((y + d / 2 : Nat) : Int), .int .i64 (1 - 2 * ((d % 2 : Nat) : Int)), .int .i64 (1 - 2 * ((d / 2 : Nat) : Int))]
theorem ballV_len (x y d : Nat) : (ballV x y d).length = 4 := rfl
def ballsV (x y : Nat) (ds : List Nat) : List Value := ds.flatMap (ballV x y)
theorem ballsV_len (x y : Nat) (ds : List Nat) : (ballsV x y ds).length = ds.length * 4 := by
  induction ds with
  | nil => rfl
  | cons d r ih => simp only [ballsV, List.flatMap_cons, List.length_append, ballV_len, List.length_cons] at ih ⊢; omega
theorem ballsV_at {x y : Nat} {ds : List Nat} {k d t : Nat} (hk : ds[k]? = some d) (ht : t < 4) : (ballsV x y ds)[k * 4 + t]? = (ballV x y d)[t]? := by
  induction ds generalizing k with
  | nil => simp at hk
  | cons e r ih =>
    cases k with
    | zero =>
      simp at hk
      subst hk
      simp only [ballsV, List.flatMap_cons, Nat.zero_mul, Nat.zero_add]
      rw [List.getElem?_append_left (by rw [ballV_len]; exact ht)]
    | succ k =>
      simp at hk
      have := ih hk
      simp only [ballsV, List.flatMap_cons] at this ⊢
      rw [List.getElem?_append_right (by rw [ballV_len]; omega), ballV_len]
      rw [show (k + 1) * 4 + t - 4 = k * 4 + t by omega]
      exact this
/-- a slice of balls that the call owns -/
def OB (w : World) (base : Nat) (A : Option Addr) (n c : Nat) (x y : Nat) (ds : List Nat) : Prop := w.ownsRow base 92 4 (.slice A n c) n (ballsV x y ds)
section
variable {w w' : World} {base : Nat} {A : Option Addr} {n c x y : Nat} {ds : List Nat}
theorem OB.len (h : OB w base A n c x y ds) : n = ds.length := by have := h.1; rw [ballsV_len] at this; omega
theorem OB.below {K : Nat} (h : OB w base A n c x y ds) (hb : Below K w w') (hK : w.heap.size ≤ K) : OB w' base A n c x y ds := by
  have hg : w.grownBy w' none := ⟨hb.os, hb.tape, hb.output, hb.size, fun k hk _ => hb.block k (by omega)⟩
  exact World.ownsRow.kept h hg (by cases (Value.slice A n c).ownBlock <;> simp)
theorem OB.kept {row : Option Nat} (h : OB w base A n c x y ds) (hg : w.grownBy w' row) (hne : (Value.slice A n c).ownBlock = none ∨ (Value.slice A n c).ownBlock ≠ row) : OB w' base A n c x y ds := World.ownsRow.kept h hg hne
theorem OB.lt (h : OB w base A n c x y ds) : ∀ k, (Value.slice A n c).ownBlock = some k → base ≤ k ∧ k < w.heap.size := World.ownsRow.lt h
/-- the four cells of ball k -/
theorem OB.at_ {k d : Nat} (h : OB w base A n c x y ds) (hk : ds[k]? = some d) : ∃ g, A = some ⟨g, 0, none⟩ ∧ base ≤ g ∧ g < w.heap.size ∧
    w.cell? ⟨g, k * 4, none⟩ = some (.int .i64 ((x + d % 2 : Nat) : Int)) ∧ w.cell? ⟨g, k * 4 + 1, none⟩ = some (.int .i64 ((y + d / 2 : Nat) : Int)) ∧
    w.cell? ⟨g, k * 4 + 2, none⟩ = some (.int .i64 (1 - 2 * ((d % 2 : Nat) : Int))) ∧ w.cell? ⟨g, k * 4 + 3, none⟩ = some (.int .i64 (1 - 2 * ((d / 2 : Nat) : Int))) := by
  have hl := h.len
  have hkl := (List.getElem?_eq_some_iff.1 hk).1
  obtain ⟨g, cap, hv, hb, hlt⟩ := World.ownsRow.form h (by omega)
  injection hv with hA _ _
  subst hA
  have hc := World.ownsRow.cells (g := g) h rfl
  have hcell : ∀ t u, t < 4 → (ballV x y d)[t]? = some u → w.cell? ⟨g, k * 4 + t, none⟩ = some u := by
    intro t u ht hu
    have := hc (k * 4 + t) u (by rw [ballsV_at hk ht]; exact hu)
    rwa [lit_add, Nat.zero_add] at this
  exact ⟨g, rfl, hb, hlt, hcell 0 _ (by omega) rfl, hcell 1 _ (by omega) rfl, hcell 2 _ (by omega) rfl, hcell 3 _ (by omega) rfl⟩
end
theorem ballsV_snoc (x y : Nat) (ds : List Nat) (d : Nat) : ballsV x y (ds ++ [d]) = ballsV x y ds ++ ballV x y d := by simp [ballsV]
/-- append(balls, b): the new ball lies in a block of its own -/
theorem wpList_pushBall {ops : Array Oper} {rest : List Oper} {o : Oper} {a : Act} {Q : Exit → Act → World → Prop} (w0 : World) (x y d : Nat) (hgd : o.guard = none) (s e : Operand)
    (ho : o.op = .call { callee := .builtin .append, args := #[s, e], argTypes := #[89, 89] })
    (base : Nat) (A : Option Addr) (n c : Nat) (ds : List Nat) (hs : a.eval s = .slice A n c) (hx : a.eval e = .slice (some ⟨w0.heap.size, 0, none⟩) 1 1) (hO : OB w0 base A n c x y ds)
    (hn : n ≤ 64) (hb : base ≤ w0.heap.size) (C : Array Value) (hC : C.toList = ballV x y d)
    (h : ∀ A' c' w', OB w' base A' (n + 1) c' x y (ds ++ [d]) → w0.grownBy w' (Value.slice A n c).ownBlock → wpList Try.prog ops Q rest (a.put o.dst (.slice A' (n + 1) c')) w') :
    wpList Try.prog ops Q (o :: rest) a (w0.alloc (.cells C 92)) := by
  obtain ⟨i0, hi, hz0, hz1, hz2⟩ := info_parts infoBall
  have hCs : C = #[.int .i64 ((x + d % 2 : Nat) : Int), .int .i64 ((y + d / 2 : Nat) : Int), .int .i64 (1 - 2 * ((d % 2 : Nat) : Int)), .int .i64 (1 - 2 * ((d / 2 : Nat) : Int))] := by
    apply Array.toList_inj.1; rw [hC]; rfl
  subst hCs
  refine wpList_append_own _ hgd s e 89 ho base 92 i0 _ 4 32 Try.underlying89 hi hz0 hz1 hz2 rfl (by decide) _ n _ hs (World.ownsRow.alloc hO _) ⟨w0.heap.size, 0, none⟩ 1 1 (ballV x y d) hx rfl ?_ ?_ (by unfold maxLen; omega) (by omega) (by simp; omega) ?_
  · intro j u hu
    rw [lit_add, Nat.zero_add, cell_of_row _ _ j _ _ _ (heap_alloc_new w0 _)]
    rw [← hu, ← hC]
    simp
  · intro u hu
    simp only [ballV, List.mem_cons, List.not_mem_nil, or_false] at hu
    rcases hu with rfl | rfl | rfl | rfl <;> rfl
  · intro v' w' hown' hg _
    obtain ⟨g, c', rfl⟩ := ownsRow_succ hown'
    refine h _ c' w' ?_ ((World.grownBy_alloc w0 _ _).trans hg)
    unfold OB
    rw [ballsV_snoc]
    exact hown'
/-- an empty new slice of balls -/
theorem OB.empty (w : World) (x y : Nat) : OB (w.alloc (.cells #[] 92)) w.heap.size (some ⟨w.heap.size, 0, none⟩) 0 0 x y [] := by
  have h := World.ownsRow_made (size := 4) (e := 92) w #[] 0 (Nat.le_refl _) (by simp [maxLen]) rfl
  exact h
set_option maxHeartbeats 1000000 in
/-- the closure of square: the place in the opposite corner -/
theorem opposite (P R X Y : Nat) (U V : Int) (w : World) (h1 : (P : Int) + U = (X : Int)) (h2 : (R : Int) + V = (Y : Int)) (p1 : P ≤ 20) (r1 : R ≤ 20) (x1 : X ≤ 20) (y1 : Y ≤ 20) :
    Calls Try.prog 80 #[.agg #[.int .i64 (P : Int), .int .i64 (R : Int), .int .i64 U, .int .i64 V]] w (GivesP w X Y) := by
  have hr := Row2.new (w.alloc (.cells #[.int .i64 (P : Int), .int .i64 (R : Int), .int .i64 U, .int .i64 V] 92)) 57 (.int .i64 (X : Int)) (.int .i64 (Y : Int))
  rw [World.size_alloc] at hr
  have HR := Lib.hid hr
  have u1 : -20 ≤ U := by omega
  have u2 : U ≤ 20 := by omega
  have v1 : -20 ≤ V := by omega
  have v2 : V ≤ 20 := by omega
  clear hr
  go_enter Try.func80, Try.ntmps80
  go_wp2
  exact bodyPost_ret (results_place rfl _ _ (w.heap.size + 1) rfl HR.out) rfl ⟨rfl, ((Below.refl _ _).alloc (Nat.le_refl _) _).alloc (by simp) _⟩
/-- ball k by its numbers -/
theorem OB.ball {w : World} {base : Nat} {A : Option Addr} {n c x y : Nat} {ds : List Nat} (h : OB w base A n c x y ds) {k d : Nat} (hk : ds[k]? = some d) (hd : d < 4) (hx : x ≤ 8) (hy : y ≤ 8) :
    ∃ (g P R X Y : Nat) (U V : Int), A = some ⟨g, 0, none⟩ ∧ base ≤ g ∧ g < w.heap.size ∧ w.cell? ⟨g, k * 4, none⟩ = some (.int .i64 (P : Int)) ∧ w.cell? ⟨g, k * 4 + 1, none⟩ = some (.int .i64 (R : Int)) ∧
      w.cell? ⟨g, k * 4 + 2, none⟩ = some (.int .i64 U) ∧ w.cell? ⟨g, k * 4 + 3, none⟩ = some (.int .i64 V) ∧ P ≤ 20 ∧ R ≤ 20 ∧ X ≤ 20 ∧ Y ≤ 20 ∧ -1 ≤ U ∧ U ≤ 1 ∧ -1 ≤ V ∧ V ≤ 1 ∧ (P : Int) + U = (X : Int) ∧ (R : Int) + V = (Y : Int) ∧
      P = x + d % 2 ∧ R = y + d / 2 ∧ X = x + (3 - d) % 2 ∧ Y = y + (3 - d) / 2 := by
  obtain ⟨g, hA, hb, hl, c0, c1, c2, c3⟩ := h.at_ hk
  refine ⟨g, x + d % 2, y + d / 2, x + (3 - d) % 2, y + (3 - d) / 2, 1 - 2 * ((d % 2 : Nat) : Int), 1 - 2 * ((d / 2 : Nat) : Int), hA, hb, hl, c0, c1, c2, c3, ?_⟩
  have h4 : d = 0 ∨ d = 1 ∨ d = 2 ∨ d = 3 := by omega
  rcases h4 with rfl | rfl | rfl | rfl <;> simp <;> omega
theorem inI_cl (S x y d : Nat) : inI S (x + d % 2) (y + d / 2) = clD S x y d := rfl
theorem inI_opp {S x y d : Nat} (hd : d < 4) : inI S (x + (3 - d) % 2) (y + (3 - d) / 2) = clD S x y (3 - d) := rfl
theorem inI_flip {S x y d : Nat} (hd : d < 4) : inI S (x + (3 - d) % 2) (y + d / 2) = clD S x y (flipX d) := by
  have h4 : d = 0 ∨ d = 1 ∨ d = 2 ∨ d = 3 := by omega
  rcases h4 with rfl | rfl | rfl | rfl <;> rfl
theorem grownOf {w w' : World} (hb : Below w.heap.size w w') (row : Option Nat) : w.grownBy w' row := ⟨hb.os, hb.tape, hb.output, hb.size, fun k hk _ => hb.block k hk⟩
end Go.Proofs.Ytmianlihdiccjaa

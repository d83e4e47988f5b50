/- Words for memory: a struct of three cells in a block of the call's own. -/
import Derived.Test.YtmianlihdiccjaaMemB
namespace Go.Proofs.Ytmianlihdiccjaa
open Go.RowKit
set_option linter.unusedVariables false

/-- block g holds the cells a, b, c -/
def Row3 (w : World) (g : Nat) (T : TypeId) (a b c : Value) : Prop := w.heap[g]? = some (.cells #[a, b, c] T (0, 0))
section
variable {w w' : World} {g : Nat} {T : TypeId} {a b c : Value}
theorem Row3.at_ (h : Row3 w g T a b c) :
    w.cell? ⟨g, 0, none⟩ = some a ∧ w.cell? ⟨g, 1, none⟩ = some b ∧ w.cell? ⟨g, 2, none⟩ = some c ∧ w.frozen? ⟨g, 0, none⟩ = false ∧ w.frozen? ⟨g, 1, none⟩ = false ∧ w.frozen? ⟨g, 2, none⟩ = false := by
  refine ⟨?_, ?_, ?_, frozen_of_row w g 0 _ _ h, frozen_of_row w g 1 _ _ h, frozen_of_row w g 2 _ _ h⟩
  · rw [cell_of_row w g 0 _ _ _ h]; rfl
  · rw [cell_of_row w g 1 _ _ _ h]; rfl
  · rw [cell_of_row w g 2 _ _ _ h]; rfl
theorem Row3.six {w : World} {g g' : Nat} {T T' : TypeId} {a b c a' b' c' : Value} (h : Row3 w g T a b c) (k : Row3 w g' T' a' b' c') :
    w.cell? ⟨g, 0, none⟩ = some a ∧ w.cell? ⟨g, 1, none⟩ = some b ∧ w.cell? ⟨g, 2, none⟩ = some c ∧ w.cell? ⟨g', 0, none⟩ = some a' ∧ w.cell? ⟨g', 1, none⟩ = some b' ∧ w.cell? ⟨g', 2, none⟩ = some c' :=
  ⟨h.at_.1, h.at_.2.1, h.at_.2.2.1, k.at_.1, k.at_.2.1, k.at_.2.2.1⟩
theorem Row3.lt (h : Row3 w g T a b c) : g < w.heap.size := (Array.getElem?_eq_some_iff.1 h).1
theorem Row3.new (w : World) (T : TypeId) (a b c : Value) : Row3 (w.alloc (.cells #[a, b, c] T)) w.heap.size T a b c := heap_alloc_new w _
theorem Row3.alloc (h : Row3 w g T a b c) (o : Obj) : Row3 (w.alloc o) g T a b c := (Below.heap_alloc _ _ _ h.lt).trans h
theorem Row3.below {K : Nat} (h : Row3 w g T a b c) (hb : Below K w w') (hK : g < K) : Row3 w' g T a b c := (hb.block g hK).trans h
theorem Row3.drewN (h : Row3 w g T a b c) (n : Nat) : Row3 (w.drewN n) g T a b c := h
theorem Row3.drew (h : Row3 w g T a b c) : Row3 w.drew g T a b c := h
theorem Row3.kept {row : Option Nat} (h : Row3 w g T a b c) (hg : w.grownBy w' row) (hne : some g ≠ row) : Row3 w' g T a b c := (hg.block g h.lt hne).trans h
theorem Row3.other (h : Row3 w g T a b c) {p : Addr} (hne : g ≠ p.block) (u : Value) : Row3 (w.setCell p u) g T a b c := (Below.heap_setCell _ _ _ _ hne).trans h
theorem Row3.set0 (h : Row3 w g T a b c) (u : Value) : Row3 (w.setCell ⟨g, 0, none⟩ u) g T u b c := by unfold Row3; rw [heap_setCell_same w g 0 _ _ u h]; rfl
theorem Row3.set1 (h : Row3 w g T a b c) (u : Value) : Row3 (w.setCell ⟨g, 1, none⟩ u) g T a u c := by unfold Row3; rw [heap_setCell_same w g 1 _ _ u h]; rfl
theorem Row3.set2 (h : Row3 w g T a b c) (u : Value) : Row3 (w.setCell ⟨g, 2, none⟩ u) g T a b u := by unfold Row3; rw [heap_setCell_same w g 2 _ _ u h]; rfl
end
theorem grown_set (w : World) (p : Addr) (u : Value) : w.grownBy (w.setCell p u) (some p.block) := ⟨rfl, rfl, rfl, by simp, fun k _ hk => Below.heap_setCell _ _ _ k (fun e => hk (by rw [e]))⟩
theorem below_drew (w : World) : Below w.heap.size w w.drew := below_drewN (Below.refl _ w) 1
/-- a new field: side, balls (a new slice), shifted -/
def GivesF (w : World) (s : Int) (zs : List Bool) (h : Bool) (e : Ending) (w' : World) : Prop := ∃ A n c, e = .returned (.agg #[.int .i64 s, .slice A n c, .bool h]) ∧ OIb w' w.heap.size A n c zs ∧ Below w.heap.size w w'
/-- a bool, an integer is returned; nothing that lay has turned -/
def GivesT (w : World) (b : Bool) (e : Ending) (w' : World) : Prop := e = .returned (.bool b) ∧ Below w.heap.size w w'
def GivesN (w : World) (x : Int) (e : Ending) (w' : World) : Prop := e = .returned (.int .i64 x) ∧ Below w.heap.size w w'
theorem RL.arg {W w : World} {B n : Nat} {A : Option Addr} {zs : List Bool} (h : RL W B A n zs) (hB : B ≤ W.heap.size) (hb : Below W.heap.size W w) : RL w w.heap.size A n zs := h.up hB hb (Nat.le_refl _)
end Go.Proofs.Ytmianlihdiccjaa

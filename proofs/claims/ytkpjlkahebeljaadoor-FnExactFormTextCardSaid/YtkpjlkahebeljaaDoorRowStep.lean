/- What a law's argument that is a slice of steps gives: three ints a step. -/
import Derived.Test.YtkpjlkahebeljaaDoorProg
import Derived.Test.YtkpjlkahebeljaaDoorMem
import Derived.Deep.Slices
import Derived.Deep.Fields
import Derived.ChangeSame
namespace Go.Proofs.YtkpjlkahebeljaaDoor
open Go.ChangeShapes Go.WideShapes Go.Deep Go.RowKit
set_option linter.unusedVariables false

theorem list_of_cells {P : Nat → Int → Prop} : ∀ N : Nat, (∀ j, j < N → ∃ x, P j x) → ∃ zs : List Int, zs.length = N ∧ ∀ j x, zs[j]? = some x → P j x := by
  intro N
  induction N with
  | zero => intro _; exact ⟨[], rfl, fun j x h => by simp at h⟩
  | succ N ih =>
    intro h
    obtain ⟨zs, hl, hz⟩ := ih (fun j hj => h j (by omega))
    obtain ⟨x, hx⟩ := h N (by omega)
    refine ⟨zs ++ [x], by simp [hl], fun j y hy => ?_⟩
    by_cases hj : j < N
    · rw [List.getElem?_append_left (by omega)] at hy
      exact hz j y hy
    · rw [List.getElem?_append_right (by omega)] at hy
      obtain ⟨h1, h2⟩ := List.getElem?_eq_some_iff.1 hy
      have e : j = N := by simp at h1; omega
      subst e
      simp at h2
      rw [← h2]; exact hx
section
variable {H : Type} {enc : TypeId × Value → H} {w : World} {base : Nat} {spare : Nat → Bool} {held : Bool}
set_option maxRecDepth 100000 in
theorem step_cells {fuel : Nat} {cs : List Value} {x : DataW H × List MemPlace} (h : DataW.trod enc Tryd.prog w base spare held fuel 69 cs = some x) : ∃ a b c : Int, cs = [.int .i64 a, .int .i64 b, .int .i64 c] := by
  obtain ⟨ys, n, _, _, hl, hlen, hf⟩ := DataW.trod_struct Tryd.underlying69 h
  have hl3 : cs.length = 3 := hl.trans (by kernel_rfl)
  match cs, hl3, ys, hlen with
  | [c0, c1, c2], _, [y0, y1, y2], _ =>
    have h0 : _ = some y0 := hf 0 _ rfl
    have h1 : _ = some y1 := hf 1 _ rfl
    have h2 : _ = some y2 := hf 2 _ rfl
    obtain ⟨a, ha, _⟩ := DataW.trod_int Tryd.underlying3 h0
    obtain ⟨b, hb, _⟩ := DataW.trod_int Tryd.underlying3 h1
    obtain ⟨c, hc, _⟩ := DataW.trod_int Tryd.underlying3 h2
    have hC : Tryd.prog.cellsOf 3 = 1 := by kernel_rfl
    simp [hC] at ha hb hc
    exact ⟨a, b, c, by rw [ha, hb, hc]⟩
set_option maxRecDepth 100000 in
/-- every cell of the steps is an int -/
theorem open_steps {fuel : Nat} {cs : List Value} {x : DataW H × List MemPlace} (h : DataW.trod enc Tryd.prog w base spare held fuel 37 cs = some x) :
    cs = [.slice none 0 0] ∨ ∃ (a : Addr) (len cap : Nat), cs = [.slice (some a) len cap] ∧ len ≤ cap ∧ cap ≤ maxLen ∧ ∀ j, j < len * 3 → ∃ z : Int, w.cell? (a.add j) = some (.int .i64 z) := by
  rcases open_slice Tryd.underlying37 h with ⟨h0, _⟩ | ⟨a, len, cap, m, n, D, Pl, hcs, hb, hl, hm, hmm, hx, hi⟩
  · exact .inl h0
  · refine .inr ⟨a, len, cap, hcs, hl, hm, fun j hj => ?_⟩
    have hlm : len ≤ m := by rw [hmm]; split <;> omega
    have hC : Tryd.prog.cellsOf 69 = 3 := by kernel_rfl
    obtain ⟨cs', hc, ht'⟩ := hi (j / 3) (by omega)
    rw [hC] at hc
    obtain ⟨p, q, r, rfl⟩ := step_cells ht'
    obtain ⟨_, _, hat⟩ := World.cells?_some hc
    have hj3 : j % 3 = 0 ∨ j % 3 = 1 ∨ j % 3 = 2 := by omega
    have e : j = j / 3 * 3 + j % 3 := by omega
    have hadd : a.add j = (a.add (j / 3 * 3)).add (j % 3) := by
      conv => lhs; rw [e]
      unfold Addr.add
      by_cases h1 : j / 3 * 3 = 0 <;> by_cases h2 : j % 3 = 0 <;> simp [h1, h2, Nat.add_assoc]
    rw [hadd, hat (j % 3) (by omega)]
    rcases hj3 with h | h | h
    · rw [h]; exact ⟨p, rfl⟩
    · rw [h]; exact ⟨q, rfl⟩
    · rw [h]; exact ⟨r, rfl⟩
end
/-- a slice of steps of a law reads as a flat list -/
theorem steps_read {W : World} {a : Addr} {len : Nat} (hc : ∀ j, j < len * 3 → ∃ z : Int, W.cell? (a.add j) = some (.int .i64 z)) : ∃ zs : List Int, RI W W.heap.size (some a) (len * 3) zs := by
  obtain ⟨zs, hl, hz⟩ := list_of_cells (len * 3) hc
  refine ⟨zs, by simpa using hl, fun hn => ⟨a, rfl, ?_, fun j u hu => ?_⟩⟩
  · obtain ⟨z, h0⟩ := hc 0 hn
    have h := World.block_lt_of_cell? W (a.add 0) h0
    rw [blk_add] at h; exact h
  · rw [List.getElem?_map] at hu
    cases hj : zs[j]? with
    | none => rw [hj] at hu; cases hu
    | some x => rw [hj] at hu; simp at hu; rw [← hu]; exact hz j x hj
end Go.Proofs.YtkpjlkahebeljaaDoor

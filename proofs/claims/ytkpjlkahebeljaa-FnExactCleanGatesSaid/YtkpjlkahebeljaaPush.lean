/- The walk's laws for append onto a slice of integers that the call owns: one element; a whole slice; make. -/
import Derived.Test.YtkpjlkahebeljaaInts
import Derived.RangeFuncBox
import Derived.Deep.RegionLaw
namespace Go.Proofs.Ytkpjlkahebeljaa
open Go.RowKit
set_option linter.unusedVariables false

theorem OS.succ {w : World} {base : Nat} {v : Value} {n : Nat} {xs : List Value} {zs : List Int} (h : w.ownsRow base 3 1 v (n + 1) xs) (hx : xs = zs.map (.int .i64)) : ∃ g c, v = .slice (some ⟨g, 0, none⟩) (n + 1) c ∧ OS w base (some ⟨g, 0, none⟩) (n + 1) c zs := by
  obtain ⟨g, c, rfl⟩ := ownsRow_succ h
  exact ⟨g, c, rfl, by unfold OS; rw [← hx]; exact h⟩

theorem GivesI.nil (w : World) : GivesI w [] (.returned (.slice none 0 0)) w := ⟨none, 0, 0, rfl, ⟨rfl, Nat.le_refl _, by simp [maxLen], .inl ⟨rfl, rfl⟩⟩, Below.refl _ _⟩

/-- append(s, z) -/
theorem wpList_push {ops : Array Oper} {rest : List Oper} {o : Oper} {a : Act} {Q : Exit → Act → World → Prop} (w0 : World) (z : Int) (hgd : o.guard = none) (s x : Operand)
    (ho : o.op = .call { callee := .builtin .append, args := #[s, x], argTypes := #[67, 67] })
    (base : Nat) (A : Option Addr) (n c : Nat) (zs : List Int) (hs : a.eval s = .slice A n c) (hx : a.eval x = .slice (some ⟨w0.heap.size, 0, none⟩) 1 1) (hO : OS w0 base A n c zs)
    (hn : n ≤ 1099511627776) (hb : base ≤ w0.heap.size)
    (h : ∀ g c' w', OS w' base (some ⟨g, 0, none⟩) (n + 1) c' (zs ++ [z]) → w0.grownBy w' (Value.slice A n c).ownBlock → wpList Try.prog ops Q rest (a.put o.dst (.slice (some ⟨g, 0, none⟩) (n + 1) c')) w') :
    wpList Try.prog ops Q (o :: rest) a (w0.alloc (.cells #[.int .i64 z] 3)) := by
  obtain ⟨i0, hi, hz0, hz1, hz2⟩ := info_parts infoInt
  refine wpList_append_own _ hgd s x 67 ho base 3 i0 (.int .i64 0) 1 8 Try.underlying67 hi hz0 hz1 hz2 rfl (by decide) _ n _ hs (World.ownsRow.alloc hO _) ⟨w0.heap.size, 0, none⟩ 1 1 [.int .i64 z] hx rfl (cell_one_new _ _ _) (by simp [Value.oneCell']) (by unfold maxLen; omega) (by omega) (by simp; omega) ?_
  intro v' w' hown' hg _
  obtain ⟨g, c', rfl, hO'⟩ := OS.succ (zs := zs ++ [z]) hown' (by simp)
  exact h g c' w' hO' ((World.grownBy_alloc w0 _ _).trans hg)

/-- append(s, z) at a step of a region that draws its order: the new element lies in a block of its own, at H -/
theorem step_push {ops : Array Oper} {o : Oper} {a : Act} {K : Act → World → Prop} {Q : Exit → Act → World → Prop} {E : Prop} {w : World} (w0 : World) (z : Int) (hgd : o.guard = none) (s x : Operand)
    (ho : o.op = .call { callee := .builtin .append, args := #[s, x], argTypes := #[67, 67] })
    (base : Nat) (A : Option Addr) (n c : Nat) (zs : List Int) (hs : a.eval s = .slice A n c) (hx : a.eval x = .slice (some ⟨w0.heap.size, 0, none⟩) 1 1) (hO : OS w0 base A n c zs)
    (hn : n ≤ 1099511627776) (hb : base ≤ w0.heap.size) (hw : ∃ k, w = (w0.alloc (.cells #[.int .i64 z] 3)).drewN k)
    (h : ∀ g c' w', OS w' base (some ⟨g, 0, none⟩) (n + 1) c' (zs ++ [z]) → w0.grownBy w' (Value.slice A n c).ownBlock → K (a.put o.dst (.slice (some ⟨g, 0, none⟩) (n + 1) c')) w') :
    if Region.wanted o (yielded ops a.tmps) = true then Oper.wp Try.prog o a w K Q else E := by
  obtain ⟨k, rfl⟩ := hw
  have hw : Region.wanted o (yielded ops a.tmps) = true := by simp [Region.wanted, hgd]
  rw [if_pos hw]
  obtain ⟨i0, hi, hz0, hz1, hz2⟩ := info_parts infoInt
  refine wp_append_own _ s x 67 ho base 3 i0 (.int .i64 0) 1 8 Try.underlying67 hi hz0 hz1 hz2 rfl (by decide) _ n _ hs (World.ownsRow.alloc hO _) ⟨w0.heap.size, 0, none⟩ 1 1 [.int .i64 z] hx rfl (cell_one_new _ _ _) (by simp [Value.oneCell']) (by unfold maxLen; omega) (by omega) (by show base ≤ (w0.alloc _).heap.size; simp; omega) ?_
  intro v' w' hown' hg _
  obtain ⟨g, c', rfl, hO'⟩ := OS.succ (zs := zs ++ [z]) hown' (by simp)
  have hg0 : (w0.alloc (.cells #[.int .i64 z] 3)).grownBy w' (Value.slice A n c).ownBlock := ⟨hg.os, hg.tape, hg.output, hg.size, hg.block⟩
  exact h g c' w' hO' ((World.grownBy_alloc w0 _ _).trans hg0)

/-- append(s, xs...) -/
theorem wpList_pushAll {ops : Array Oper} {rest : List Oper} {o : Oper} {a : Act} {Q : Exit → Act → World → Prop} (w : World) (hgd : o.guard = none) (s x : Operand)
    (ho : o.op = .call { callee := .builtin .append, args := #[s, x], argTypes := #[67, 67] })
    (base : Nat) (A : Option Addr) (n c : Nat) (zs : List Int) (hs : a.eval s = .slice A n c) (B : Nat) (A2 : Option Addr) (m c2 : Nat) (ys : List Int) (hx : a.eval x = .slice A2 m c2) (hO : OS w base A n c zs) (hR : RI w B A2 m ys)
    (hn : n + m ≤ 1099511627776) (hb : base ≤ w.heap.size)
    (h : ∀ A' c' w', OS w' base A' (n + m) c' (zs ++ ys) → w.grownBy w' (Value.slice A n c).ownBlock → wpList Try.prog ops Q rest (a.put o.dst (.slice A' (n + m) c')) w') :
    wpList Try.prog ops Q (o :: rest) a w := by
  obtain ⟨i0, hi, hz0, hz1, hz2⟩ := info_parts infoInt
  rcases Nat.eq_zero_or_pos m with h0 | h0
  · subst h0
    have hy : ys = [] := List.eq_nil_of_length_eq_zero hR.len
    subst hy
    refine wpList_plain hgd fun K hK => ?_
    have hrun : (Builtin.append_ #[67, 67] o.type #[.slice A n c, .slice A2 0 c2]).run Try.prog w = .ok (.slice A n c) w := by
      cases A2 with
      | none =>
        rcases hO.2 with ⟨hv, hn0⟩ | ⟨g, cap, cur, hv, _, _, hnc, _⟩
        · rw [hv]; simp [Builtin.append_, run_underlying Try.underlying67, sizeOf, typeInfo, hi, Builtin.lenOf, Builtin.firstCells]
        · rw [hv]; simp [Builtin.append_, run_underlying Try.underlying67, sizeOf, typeInfo, hi, Builtin.lenOf, Builtin.firstCells, hnc, storeCells]
      | some ad =>
        rcases hO.2 with ⟨hv, hn0⟩ | ⟨g, cap, cur, hv, _, _, hnc, _⟩
        · rw [hv]; simp [Builtin.append_, run_underlying Try.underlying67, sizeOf, typeInfo, hi, Builtin.lenOf, Builtin.firstCells, loadCells, loadCellsFrom]
        · rw [hv]; simp [Builtin.append_, run_underlying Try.underlying67, sizeOf, typeInfo, hi, Builtin.lenOf, Builtin.firstCells, hnc, storeCells, loadCells, loadCellsFrom]
    unfold Oper.wp
    simp only [execOp, ho, resolve, invoke, builtin, Sem.run_bind, Sem.run_pure, Result.andThen_ok, List.map_toArray, List.map_cons, List.map_nil, hs, hx, hrun]
    exact hK _ _ (h A c w (by simpa using hO) (World.grownBy.refl _ _))
  · obtain ⟨ad, rfl, hbb, hc⟩ := hR.2 h0
    refine wpList_append_own _ hgd s x 67 ho base 3 i0 (.int .i64 0) 1 8 Try.underlying67 hi hz0 hz1 hz2 rfl (by decide) _ n _ hs hO ad m c2 (ys.map (.int .i64)) hx (by simpa using hR.len) hc (ints_oneCell .i64 ys) (by unfold maxLen; omega) (by omega) hb ?_
    intro v' w' hown' hg _
    obtain ⟨A', c', rfl, hO'⟩ := OS.of (zs := zs ++ ys) hown' (by simp)
    exact h A' c' w' hO' hg

/-- make([]int, 0, n) -/
theorem wpList_mk0 {ops : Array Oper} {rest : List Oper} {o : Oper} {a : Act} {Q : Exit → Act → World → Prop} (w : World) (hg : o.guard = none) (l c : Operand) (hop : o.op = Op.makeSlice 67 l c)
    (n : Nat) (C : Int) (hl : a.eval l = .int .i64 0) (hc : a.eval c = .int .i64 C) (hC : C = (n : Int)) (hn : n ≤ 1099511627776)
    (h : ∀ w', OS w' w.heap.size (some ⟨w.heap.size, 0, none⟩) 0 n [] → w.grownBy w' none → wpList Try.prog ops Q rest (a.put o.dst (.slice (some ⟨w.heap.size, 0, none⟩) 0 n)) w') :
    wpList Try.prog ops Q (o :: rest) a w := by
  obtain ⟨i0, hi, hz0, hz1, hz2⟩ := info_parts infoInt
  exact wpList_make_own _ hg l c 67 hop w.heap.size 3 i0 (.int .i64 0) 1 Try.underlying67 hi hz0 hz1 .i64 .i64 C n hl hc hC (by rw [hz2]; omega) (by unfold maxLen; omega) (Nat.le_refl _) h
/-- make([]int, n) -/
theorem wpList_mk {ops : Array Oper} {rest : List Oper} {o : Oper} {a : Act} {Q : Exit → Act → World → Prop} (w : World) (hg : o.guard = none) (l c : Operand) (hop : o.op = Op.makeSlice 67 l c)
    (n : Nat) (L C : Int) (hl : a.eval l = .int .i64 L) (hc : a.eval c = .int .i64 C) (hL : L = (n : Int)) (hC : C = (n : Int)) (hn : n ≤ 1099511627776)
    (h : ∀ w', OS w' w.heap.size (some ⟨w.heap.size, 0, none⟩) n n (List.replicate n 0) → w.grownBy w' none → wpList Try.prog ops Q rest (a.put o.dst (.slice (some ⟨w.heap.size, 0, none⟩) n n)) w') :
    wpList Try.prog ops Q (o :: rest) a w := by
  obtain ⟨i0, hi, hz0, hz1, hz2⟩ := info_parts infoInt
  refine wpList_make_full _ hg l c 67 hop w.heap.size 3 i0 (.int .i64 0) 1 Try.underlying67 hi hz0 hz1 .i64 .i64 L C n hl hc hL hC (by rw [hz2]; omega) (by unfold maxLen; omega) (Nat.le_refl _) ?_
  intro w' hown hg'
  refine h w' ?_ hg'
  have e : (madeCells (Value.int .i64 0).cells (n * 1)).toList = (List.replicate n (0 : Int)).map (.int .i64) := by
    rw [Nat.mul_one, List.map_replicate]; exact toList_madeCells_one _ _
  unfold OS
  rw [← e]; exact hown
end Go.Proofs.Ytkpjlkahebeljaa

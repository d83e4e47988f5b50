/- The walk's laws for append onto a slice of bools that the call owns; make. -/
import Derived.Test.YtmianlihdiccjaaProg
import Derived.Test.YtmianlihdiccjaaMemB
import Derived.RangeFuncBox
import Derived.Deep.RegionLaw
import Derived.Deep.QuietTactic
import Derived.BigQuiet
namespace Go.Proofs.Ytmianlihdiccjaa
open Go.RowKit
set_option linter.unusedVariables false

theorem infoBool : (Try.prog.info? 4).map (fun i => (i.zero, i.size, i.bytes)) = some (some (.bool false), 1, 1) := by kernel_rfl
theorem bools_oneCell (zs : List Bool) : ∀ v ∈ zs.map Value.bool, v.oneCell' = true := by
  intro v hv
  obtain ⟨b, _, rfl⟩ := List.mem_map.1 hv
  rfl
theorem OSb.succ {w : World} {base : Nat} {v : Value} {n : Nat} {xs : List Value} {zs : List Bool} (h : w.ownsRow base 4 1 v (n + 1) xs) (hx : xs = zs.map (.bool)) : ∃ g c, v = .slice (some ⟨g, 0, none⟩) (n + 1) c ∧ OSb w base (some ⟨g, 0, none⟩) (n + 1) c zs := by
  obtain ⟨g, c, rfl⟩ := ownsRow_succ h
  exact ⟨g, c, rfl, by unfold OSb; rw [← hx]; exact h⟩

theorem GivesB.nil (w : World) : GivesB w [] (.returned (.slice none 0 0)) w := ⟨none, 0, 0, rfl, ⟨rfl, Nat.le_refl _, by simp [maxLen], .inl ⟨rfl, rfl⟩⟩, Below.refl _ _⟩

/-- append(s, z) -/
theorem wpList_pushB {ops : Array Oper} {rest : List Oper} {o : Oper} {a : Act} {Q : Exit → Act → World → Prop} (w0 : World) (z : Bool) (hgd : o.guard = none) (s x : Operand)
    (ho : o.op = .call { callee := .builtin .append, args := #[s, x], argTypes := #[22, 22] })
    (base : Nat) (A : Option Addr) (n c : Nat) (zs : List Bool) (hs : a.eval s = .slice A n c) (hx : a.eval x = .slice (some ⟨w0.heap.size, 0, none⟩) 1 1) (hO : OSb w0 base A n c zs)
    (hn : n ≤ 1099511627776) (hb : base ≤ w0.heap.size)
    (h : ∀ g c' w', OSb w' base (some ⟨g, 0, none⟩) (n + 1) c' (zs ++ [z]) → w0.grownBy w' (Value.slice A n c).ownBlock → wpList Try.prog ops Q rest (a.put o.dst (.slice (some ⟨g, 0, none⟩) (n + 1) c')) w') :
    wpList Try.prog ops Q (o :: rest) a (w0.alloc (.cells #[.bool z] 4)) := by
  obtain ⟨i0, hi, hz0, hz1, hz2⟩ := info_parts infoBool
  refine wpList_append_own _ hgd s x 22 ho base 4 i0 (.bool false) 1 1 Try.underlying22 hi hz0 hz1 hz2 rfl (by decide) _ n _ hs (World.ownsRow.alloc hO _) ⟨w0.heap.size, 0, none⟩ 1 1 [.bool z] hx rfl (cell_one_new _ _ _) (by simp [Value.oneCell']) (by unfold maxLen; omega) (by omega) (by simp; omega) ?_
  intro v' w' hown' hg _
  obtain ⟨g, c', rfl, hO'⟩ := OSb.succ (zs := zs ++ [z]) hown' (by simp)
  exact h g c' w' hO' ((World.grownBy_alloc w0 _ _).trans hg)

/-- append(s, z) at a step of a region that draws its order: the new element lies in a block of its own, at H -/
theorem step_pushB {ops : Array Oper} {o : Oper} {a : Act} {K : Act → World → Prop} {Q : Exit → Act → World → Prop} {E : Prop} {w : World} (w0 : World) (z : Bool) (hgd : o.guard = none) (s x : Operand)
    (ho : o.op = .call { callee := .builtin .append, args := #[s, x], argTypes := #[22, 22] })
    (base : Nat) (A : Option Addr) (n c : Nat) (zs : List Bool) (hs : a.eval s = .slice A n c) (hx : a.eval x = .slice (some ⟨w0.heap.size, 0, none⟩) 1 1) (hO : OSb w0 base A n c zs)
    (hn : n ≤ 1099511627776) (hb : base ≤ w0.heap.size) (hw : ∃ k, w = (w0.alloc (.cells #[.bool z] 4)).drewN k)
    (h : ∀ g c' w', OSb w' base (some ⟨g, 0, none⟩) (n + 1) c' (zs ++ [z]) → w0.grownBy w' (Value.slice A n c).ownBlock → K (a.put o.dst (.slice (some ⟨g, 0, none⟩) (n + 1) c')) w') :
    if Region.wanted o (yielded ops a.tmps) = true then Oper.wp Try.prog o a w K Q else E := by
  obtain ⟨k, rfl⟩ := hw
  have hw : Region.wanted o (yielded ops a.tmps) = true := by simp [Region.wanted, hgd]
  rw [if_pos hw]
  obtain ⟨i0, hi, hz0, hz1, hz2⟩ := info_parts infoBool
  refine wp_append_own _ s x 22 ho base 4 i0 (.bool false) 1 1 Try.underlying22 hi hz0 hz1 hz2 rfl (by decide) _ n _ hs (World.ownsRow.alloc hO _) ⟨w0.heap.size, 0, none⟩ 1 1 [.bool z] hx rfl (cell_one_new _ _ _) (by simp [Value.oneCell']) (by unfold maxLen; omega) (by omega) (by show base ≤ (w0.alloc _).heap.size; simp; omega) ?_
  intro v' w' hown' hg _
  obtain ⟨g, c', rfl, hO'⟩ := OSb.succ (zs := zs ++ [z]) hown' (by simp)
  have hg0 : (w0.alloc (.cells #[.bool z] 4)).grownBy w' (Value.slice A n c).ownBlock := ⟨hg.os, hg.tape, hg.output, hg.size, hg.block⟩
  exact h g c' w' hO' ((World.grownBy_alloc w0 _ _).trans hg0)

/-- append(s, xs...) -/
theorem wpList_pushAllB {ops : Array Oper} {rest : List Oper} {o : Oper} {a : Act} {Q : Exit → Act → World → Prop} (w : World) (hgd : o.guard = none) (s x : Operand)
    (ho : o.op = .call { callee := .builtin .append, args := #[s, x], argTypes := #[22, 22] })
    (base : Nat) (A : Option Addr) (n c : Nat) (zs : List Bool) (hs : a.eval s = .slice A n c) (B : Nat) (A2 : Option Addr) (m c2 : Nat) (ys : List Bool) (hx : a.eval x = .slice A2 m c2) (hO : OSb w base A n c zs) (hR : RL w B A2 m ys)
    (hn : n + m ≤ 1099511627776) (hb : base ≤ w.heap.size)
    (h : ∀ A' c' w', OSb w' base A' (n + m) c' (zs ++ ys) → w.grownBy w' (Value.slice A n c).ownBlock → wpList Try.prog ops Q rest (a.put o.dst (.slice A' (n + m) c')) w') :
    wpList Try.prog ops Q (o :: rest) a w := by
  obtain ⟨i0, hi, hz0, hz1, hz2⟩ := info_parts infoBool
  rcases Nat.eq_zero_or_pos m with h0 | h0
  · subst h0
    have hy : ys = [] := List.eq_nil_of_length_eq_zero hR.len
    subst hy
    refine wpList_plain hgd fun K hK => ?_
    have hrun : (Builtin.append_ #[22, 22] o.type #[.slice A n c, .slice A2 0 c2]).run Try.prog w = .ok (.slice A n c) w := by
      cases A2 with
      | none =>
        rcases hO.2 with ⟨hv, hn0⟩ | ⟨g, cap, cur, hv, _, _, hnc, _⟩
        · rw [hv]; simp [Builtin.append_, run_underlying Try.underlying22, sizeOf, typeInfo, hi, Builtin.lenOf, Builtin.firstCells]
        · rw [hv]; simp [Builtin.append_, run_underlying Try.underlying22, sizeOf, typeInfo, hi, Builtin.lenOf, Builtin.firstCells, hnc, storeCells]
      | some ad =>
        rcases hO.2 with ⟨hv, hn0⟩ | ⟨g, cap, cur, hv, _, _, hnc, _⟩
        · rw [hv]; simp [Builtin.append_, run_underlying Try.underlying22, sizeOf, typeInfo, hi, Builtin.lenOf, Builtin.firstCells, loadCells, loadCellsFrom]
        · rw [hv]; simp [Builtin.append_, run_underlying Try.underlying22, sizeOf, typeInfo, hi, Builtin.lenOf, Builtin.firstCells, hnc, storeCells, loadCells, loadCellsFrom]
    unfold Oper.wp
    simp only [execOp, ho, resolve, invoke, builtin, Sem.run_bind, Sem.run_pure, Result.andThen_ok, List.map_toArray, List.map_cons, List.map_nil, hs, hx, hrun]
    exact hK _ _ (h A c w (by simpa using hO) (World.grownBy.refl _ _))
  · obtain ⟨ad, rfl, hbb, hc⟩ := hR.2 h0
    refine wpList_append_own _ hgd s x 22 ho base 4 i0 (.bool false) 1 1 Try.underlying22 hi hz0 hz1 hz2 rfl (by decide) _ n _ hs hO ad m c2 (ys.map (.bool)) hx (by simpa using hR.len) hc (bools_oneCell ys) (by unfold maxLen; omega) (by omega) hb ?_
    intro v' w' hown' hg _
    obtain ⟨A', c', rfl, hO'⟩ := OSb.of (zs := zs ++ ys) hown' (by simp)
    exact h A' c' w' hO' hg

/-- make([]int, 0, n) -/
theorem wpList_mk0B {ops : Array Oper} {rest : List Oper} {o : Oper} {a : Act} {Q : Exit → Act → World → Prop} (w : World) (hg : o.guard = none) (l c : Operand) (hop : o.op = Op.makeSlice 22 l c)
    (n : Nat) (C : Int) (hl : a.eval l = .int .i64 0) (hc : a.eval c = .int .i64 C) (hC : C = (n : Int)) (hn : n ≤ 1099511627776)
    (h : ∀ w', OSb w' w.heap.size (some ⟨w.heap.size, 0, none⟩) 0 n [] → w.grownBy w' none → wpList Try.prog ops Q rest (a.put o.dst (.slice (some ⟨w.heap.size, 0, none⟩) 0 n)) w') :
    wpList Try.prog ops Q (o :: rest) a w := by
  obtain ⟨i0, hi, hz0, hz1, hz2⟩ := info_parts infoBool
  exact wpList_make_own _ hg l c 22 hop w.heap.size 4 i0 (.bool false) 1 Try.underlying22 hi hz0 hz1 .i64 .i64 C n hl hc hC (by rw [hz2]; omega) (by unfold maxLen; omega) (Nat.le_refl _) h
/-- make([]int, n) -/
theorem wpList_mkB {ops : Array Oper} {rest : List Oper} {o : Oper} {a : Act} {Q : Exit → Act → World → Prop} (w : World) (hg : o.guard = none) (l c : Operand) (hop : o.op = Op.makeSlice 22 l c)
    (n : Nat) (L C : Int) (hl : a.eval l = .int .i64 L) (hc : a.eval c = .int .i64 C) (hL : L = (n : Int)) (hC : C = (n : Int)) (hn : n ≤ 1099511627776)
    (h : ∀ w', OSb w' w.heap.size (some ⟨w.heap.size, 0, none⟩) n n (List.replicate n false) → w.grownBy w' none → wpList Try.prog ops Q rest (a.put o.dst (.slice (some ⟨w.heap.size, 0, none⟩) n n)) w') :
    wpList Try.prog ops Q (o :: rest) a w := by
  obtain ⟨i0, hi, hz0, hz1, hz2⟩ := info_parts infoBool
  refine wpList_make_full _ hg l c 22 hop w.heap.size 4 i0 (.bool false) 1 Try.underlying22 hi hz0 hz1 .i64 .i64 L C n hl hc hL hC (by rw [hz2]; omega) (by unfold maxLen; omega) (Nat.le_refl _) ?_
  intro w' hown hg'
  refine h w' ?_ hg'
  have e : (madeCells (Value.bool false).cells (n * 1)).toList = (List.replicate n false).map (.bool) := by
    rw [Nat.mul_one, List.map_replicate]; exact toList_madeCells_one _ _
  unfold OSb
  rw [← e]; exact hown
end Go.Proofs.Ytmianlihdiccjaa

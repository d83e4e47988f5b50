/- The walk's laws for append onto a slice of structs of ints that the call owns. -/
import Derived.Test.YtkpjlkahebeljaaMemF
import Derived.Test.YtkpjlkahebeljaaStepsA
import Derived.RangeFuncBox
import Derived.Deep.RegionLaw
namespace Go.Proofs.Ytkpjlkahebeljaa
open Go.RowKit
set_option linter.unusedVariables false

theorem ints_one (xs : List Int) : ∀ u ∈ xs.map (Value.int .i64), u.oneCell' = true := by
  intro u hu
  simp only [List.mem_map] at hu
  obtain ⟨x, _, rfl⟩ := hu
  rfl
theorem cells_new (w : World) (cs : List Value) (t : TypeId) (j : Nat) (u : Value) (h : cs[j]? = some u) : (w.alloc (.cells cs.toArray t)).cell? ((⟨w.heap.size, 0, none⟩ : Addr).add j) = some u := by
  rw [lit_add, Nat.zero_add, cell_of_row _ w.heap.size j cs.toArray t (0, 0) (World.alloc_heap_new w _)]
  simpa using h
theorem infoGate : (Try.prog.info? 41).map (fun i => (i.zero, i.size, i.bytes)) = some (some (.agg #[.int .i64 0, .int .i64 0, .int .i64 0, .int .i64 0]), 4, 32) := by kernel_rfl

/-- append of m gates that stand in a block of their own -/
theorem wpList_pushG {ops : Array Oper} {rest : List Oper} {o : Oper} {a : Act} {Q : Exit → Act → World → Prop} (w0 : World) (cells : Array Value) (cs : List Int) (m : Nat) (hcs : cells = (cs.map (.int .i64)).toArray) (hm : cs.length = m * 4) (hgd : o.guard = none) (s x : Operand)
    (ho : o.op = .call { callee := .builtin .append, args := #[s, x], argTypes := #[24, 24] })
    (base : Nat) (A : Option Addr) (n c : Nat) (zs : List Int) (hs : a.eval s = .slice A n c) (g : Nat) (hx : a.eval x = .slice (some ⟨g, 0, none⟩) m m) (hgs : w0.heap.size = g) (hO : OF 41 4 w0 base A n c zs)
    (hn : n + m ≤ 1099511627776) (hb : base ≤ w0.heap.size)
    (h : ∀ A' c' w', OF 41 4 w' base A' (n + m) c' (zs ++ cs) → w0.grownBy w' (Value.slice A n c).ownBlock → wpList Try.prog ops Q rest (a.put o.dst (.slice A' (n + m) c')) w') :
    wpList Try.prog ops Q (o :: rest) a (w0.alloc (.cells cells 41)) := by
  subst hcs; subst hgs
  obtain ⟨i0, hi, hz0, hz1, hz2⟩ := info_parts infoGate
  refine wpList_append_own _ hgd s x 24 ho base 41 i0 _ 4 32 Try.underlying24 hi hz0 hz1 hz2 rfl (by decide) _ n _ hs (World.ownsRow.alloc hO _) ⟨w0.heap.size, 0, none⟩ m m (cs.map (.int .i64)) hx (by simpa using hm) (fun j u hu => cells_new w0 _ _ j u hu) (ints_one cs) (by unfold maxLen; omega) (by omega) (by simp; omega) ?_
  intro v' w' hown' hg _
  obtain ⟨A', c', rfl, hO'⟩ := OF.of (zs := zs ++ cs) hown' (by simp)
  exact h A' c' w' hO' ((World.grownBy_alloc w0 _ _).trans hg)
/-- append(s, xs...) at gates -/
theorem wpList_pushAllG {ops : Array Oper} {rest : List Oper} {o : Oper} {a : Act} {Q : Exit → Act → World → Prop} (w : World) (hgd : o.guard = none) (s x : Operand)
    (ho : o.op = .call { callee := .builtin .append, args := #[s, x], argTypes := #[24, 24] })
    (base : Nat) (A : Option Addr) (n c : Nat) (zs : List Int) (hs : a.eval s = .slice A n c) (B : Nat) (A2 : Option Addr) (m c2 : Nat) (ys : List Int) (hx : a.eval x = .slice A2 m c2) (hO : OF 41 4 w base A n c zs) (hR : RI w B A2 (m * 4) ys)
    (hm0 : 0 < m) (hn : n + m ≤ 1099511627776) (hb : base ≤ w.heap.size)
    (h : ∀ A' c' w', OF 41 4 w' base A' (n + m) c' (zs ++ ys) → w.grownBy w' (Value.slice A n c).ownBlock → wpList Try.prog ops Q rest (a.put o.dst (.slice A' (n + m) c')) w') :
    wpList Try.prog ops Q (o :: rest) a w := by
  obtain ⟨i0, hi, hz0, hz1, hz2⟩ := info_parts infoGate
  obtain ⟨ad, rfl, hbb, hc⟩ := hR.2 (by omega)
  refine wpList_append_own _ hgd s x 24 ho base 41 i0 _ 4 32 Try.underlying24 hi hz0 hz1 hz2 rfl (by decide) _ n _ hs hO ad m c2 (ys.map (.int .i64)) hx (by simpa using hR.len) hc (ints_one ys) (by unfold maxLen; omega) (by omega) hb ?_
  intro v' w' hown' hg _
  obtain ⟨A', c', rfl, hO'⟩ := OF.of (zs := zs ++ ys) hown' (by simp)
  exact h A' c' w' hO' hg
end Go.Proofs.Ytkpjlkahebeljaa

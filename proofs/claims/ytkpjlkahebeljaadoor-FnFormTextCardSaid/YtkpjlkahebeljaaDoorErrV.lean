/- What the rows' condition on listed variables gives the walks: the two sentinels of strconv are interface values. -/
import Derived.Test.YtkpjlkahebeljaaDoorRows
import Derived.Test.YtkpjlkahebeljaaDoorMem
import Derived.Test.YtkpjlkahebeljaaDoorBase
import Derived.Stop.LaidErr
import Derived.LaidHandle
import Derived.Lay
import Derived.MakeChecks
import Derived.ProofKit
import Derived.Lib.LaidTab
import Derived.Lib.ItoaNum
namespace Go.Proofs.YtkpjlkahebeljaaDoor
open Go.RowKit Go.ChangeShapes Go.WideShapes Go.ChangeAt
set_option linter.unusedVariables false
/-- the two sentinels hold interface values; the table of powers of ten is laid -/
def ErrV (W : World) : Prop := (∃ tp p, W.var? Tryd.prog "strconv.ErrSyntax" = some #[.iface tp p]) ∧ (∃ tp p, W.var? Tryd.prog "strconv.ErrRange" = some #[.iface tp p]) ∧ Lib.TabIs Tryd.prog W "internal/strconv.uint64pow10" .u64 Lib.pow10Tab
theorem var_kept {W W' : World} {B : Nat} {nm : String} {cs : Array Value} (h : W.var? Tryd.prog nm = some cs) (hB : W.heap.size ≤ B) (hb : Below B W W') : W'.var? Tryd.prog nm = some cs := by
  unfold World.var? at h ⊢
  cases hg : Tryd.prog.globalNamed nm with
  | none => rw [hg] at h; cases h
  | some g =>
    rw [hg] at h
    simp only [Option.bind_some] at h ⊢
    have hlt : g < W.heap.size := by
      by_cases hl : g < W.heap.size
      · exact hl
      · rw [Array.getElem?_eq_none (by omega)] at h; cases h
    rw [hb.block g (by omega)]
    exact h
theorem ErrV.up {W W' : World} {B : Nat} (h : ErrV W) (hB : W.heap.size ≤ B) (hb : Below B W W') : ErrV W' := by
  obtain ⟨⟨t1, p1, h1⟩, ⟨t2, p2, h2⟩, h3⟩ := h
  exact ⟨⟨t1, p1, var_kept h1 hB hb⟩, ⟨t2, p2, var_kept h2 hB hb⟩, var_kept h3 hB hb⟩
theorem cellsES : Tryd.prog.cellsOf 130 = 1 := by kernel_rfl
theorem cellsStr : Tryd.prog.cellsOf 9 = 1 := by kernel_rfl
theorem starES : "*" ++ "errors.errorString" = "*errors.errorString" := by decide
theorem rowES (u : TypeId) (h : Tryd.prog.typeName? 3 u = some "*errors.errorString") : u = 128 :=
  typeName_ptr_named (nm := "errors.errorString") (by rw [starES]; kernel_rfl) (by kernel_rfl) (by decide) u (by rw [starES]; exact h)
theorem errV_of {W : World} (h : laidMetH Tryd.prog Rows.fnExactReadFormRow.laid W) : ErrV W := by
  rw [MakeChecks.laidMetH_plain _ _ _ (by kernel_rfl)] at h
  have h2 := Lib.tabIs_of_head (name := "internal/strconv.uint64pow10") (k := .u64) (zs := Lib.pow10Tab) (g := 5) (t := 124) (e := 105) (n := 20) (by kernel_rfl) (by kernel_rfl) (by kernel_rfl) (by kernel_rfl) (by kernel_rfl) (by kernel_rfl) (laidMet.tail (laidMet.tail h))
  have h4 := laidMet.tail (laidMet.tail (laidMet.tail (laidMet.tail h)))
  obtain ⟨a0, s0, hv0, _⟩ := laid_sentinel h4 (g := 4) (by kernel_rfl) (by kernel_rfl) Tryd.underlying79 rowES Tryd.underlying128 Tryd.underlying130 rfl rfl Tryd.underlying9 cellsES cellsStr
  obtain ⟨a1, s1, hv1, _⟩ := laid_sentinel (laidMet.tail h4) (g := 3) (by kernel_rfl) (by kernel_rfl) Tryd.underlying79 rowES Tryd.underlying128 Tryd.underlying130 rfl rfl Tryd.underlying9 cellsES cellsStr
  exact ⟨⟨_, _, hv1⟩, ⟨_, _, hv0⟩, h2⟩
end Go.Proofs.YtkpjlkahebeljaaDoor

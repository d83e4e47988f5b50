/- Contracts of the program: what is known of kinds, the lines of a gate, valid gates. -/
import Derived.Test.YtkpjlkahebeljaaGateS
import Derived.Test.YtkpjlkahebeljaaPush
import Derived.Test.YtkpjlkahebeljaaStoreRow
import Derived.Deep.RegionHeld3
import Derived.Outline
namespace Go.Proofs.Ytkpjlkahebeljaa
open Go.RowKit
set_option linter.unusedVariables false

/-- what is known of all kinds, as cells -/
def natC : Array Value := #[.string ⟨#[110, 111, 116]⟩, .int .i64 1, .int .i64 1, .int .i64 1, .string ⟨#[99, 111, 112, 121]⟩, .int .i64 3, .int .i64 2, .int .i64 1, .string ⟨#[98, 111, 116, 104]⟩, .int .i64 7, .int .i64 4, .int .i64 5, .string ⟨#[115, 119, 97, 112]⟩, .int .i64 3, .int .i64 3, .int .i64 3, .string ⟨#[105, 102]⟩, .int .i64 7, .int .i64 6, .int .i64 7]
theorem natures (w : World) : Calls Try.prog 47 #[] w fun e w' => e = .returned (.agg natC) ∧ Below w.heap.size w w' := by
  go_enter Try.func47, Try.ntmps47
  go_wp2_with (refine wpList_store_row (o := ⟨none, _, _, _, _, _⟩) rfl 77 _ _ rfl w.heap.size rfl natC rfl _ 77 (World.alloc_heap_new _ _) (by kernel_rfl) rfl (by simp [natC, Value.oneCell']) ?_; intro w2 hg2 hgr hsz)
  refine bodyPost_ret (results_cell_row rfl _ _ w.heap.size 77 natC (0, 0) _ rfl hg2 Try.underlying77 rfl (by kernel_rfl)) rfl ⟨rfl, ?_⟩
  exact ((Below.refl _ _).alloc (Nat.le_refl _) _).grown hgr (by simp) (fun k e => by cases e; exact Nat.le_refl _)
theorem set4 {w : World} {g : Nat} {T : TypeId} {a b c d : Value} (h : w.heap[g]? = some (.cells #[a, b, c, d] T (0, 0))) (a' b' c' d' : Value) :
    ((((w.setCell ⟨g, 0, none⟩ a').setCell ⟨g, 1, none⟩ b').setCell ⟨g, 2, none⟩ c').setCell ⟨g, 3, none⟩ d').heap[g]? = some (.cells #[a', b', c', d'] T (0, 0)) := by
  have h0 := heap_setCell_same w g 0 _ _ a' h
  have h1 := heap_setCell_same _ g 1 _ _ b' h0
  have h2 := heap_setCell_same _ g 2 _ _ c' h1
  have h3 := heap_setCell_same _ g 3 _ _ d' h2
  rw [h3]; rfl
set_option maxHeartbeats 2000000 in
theorem nature0 (a : Int) (w : World) : Calls Try.prog 43 #[.agg #[.int .i64 0, .int .i64 a, .int .i64 0, .int .i64 0]] w fun e w' =>
    e = .returned (.tuple #[.agg #[.string ⟨#[110, 111, 116]⟩, .int .i64 1, .int .i64 1, .int .i64 1], .bool true]) ∧ Below w.heap.size w w' := by
  obtain ⟨W, hW⟩ : ∃ W, (w.alloc (.cells #[.int .i64 0, .int .i64 a, .int .i64 0, .int .i64 0] 41)).alloc (.cells #[.string ⟨#[]⟩, .int .i64 0, .int .i64 0, .int .i64 0] 71) = W := ⟨_, rfl⟩
  obtain ⟨g, hg⟩ : ∃ g, w.heap.size = g := ⟨_, rfl⟩
  have hsz : W.heap.size = g + 2 := by rw [← hW, ← hg]; simp
  have r0 : W.heap[g]? = some (.cells #[.int .i64 0, .int .i64 a, .int .i64 0, .int .i64 0] 41 (0, 0)) := by rw [← hW, ← hg]; exact (Below.heap_alloc _ _ _ (by simp)).trans (World.alloc_heap_new _ _)
  have r1 : W.heap[g + 1]? = some (.cells #[.string ⟨#[]⟩, .int .i64 0, .int .i64 0, .int .i64 0] 71 (0, 0)) := by
    have h := World.alloc_heap_new (w.alloc (.cells #[.int .i64 0, .int .i64 a, .int .i64 0, .int .i64 0] 41)) (.cells #[.string ⟨#[]⟩, .int .i64 0, .int .i64 0, .int .i64 0] 71)
    rw [World.size_alloc, hg] at h; rw [← hW]; exact h
  have hb : Below w.heap.size w W := by rw [← hW]; exact ((Below.refl _ _).alloc (Nat.le_refl _) _).alloc (by simp) _
  obtain ⟨c0, c1, c2, c3⟩ := cells4 r0
  have i4 : inB 0 0 4 = true := by decide
  have hidx : ∀ w, (Instr.index 77 (.agg natC) (.int .i64 0)).run Try.prog w = .ok (.agg #[.string ⟨#[110, 111, 116]⟩, .int .i64 1, .int .i64 1, .int .i64 1]) w := fun _ => by kernel_rfl
  have HW := Lib.hid hW
  have HG := Lib.hid hg
  have HS := Lib.hid hsz
  have HR0 := Lib.hid r0
  have HR1 := Lib.hid r1
  clear r0 r1 hsz
  go_enter Try.func43, Try.ntmps43
  go_wp2_with (go_at_call 29; refine (within _ _ _ _).mono ?_; rintro e w' ⟨rfl, rfl⟩)
  have hd : Below w.heap.size w W.drew := below_drewN hb 1
  go_region_with (go_at_call 47; refine (natures _).mono ?_; rintro e w2 ⟨rfl, hB2⟩; have k0 := (hB2.block g (by show g < W.heap.size; rw [HS.out]; omega)).trans HR0.out; have k1 := (hB2.block (g + 1) (by show g + 1 < W.heap.size; rw [HS.out]; omega)).trans HR1.out; have K1 := Lib.hid k1; obtain ⟨d0, d1, d2, d3⟩ := cells4 k0; obtain ⟨e0, e1, e2, e3⟩ := cells4 k1; have f0 := frozen_of_row w2 (g + 1) 0 _ _ k1; have f1 := frozen_of_row w2 (g + 1) 1 _ _ k1; have f2 := frozen_of_row w2 (g + 1) 2 _ _ k1; have f3 := frozen_of_row w2 (g + 1) 3 _ _ k1; have hb2 := hd.trans (hB2.mono hd.size); clear k0 k1)
  all_goals
    clear hW
    go_wp2
    have hrow := set4 K1.out (.string ⟨#[110, 111, 116]⟩) (.int .i64 1) (.int .i64 1) (.int .i64 1)
    obtain ⟨x0, x1, x2, x3⟩ := cells4 hrow
    have hgw : w.heap.size ≤ g + 1 := by rw [HG.out]; omega
    exact bodyPost_ret (v := .tuple #[.agg #[.string ⟨#[110, 111, 116]⟩, .int .i64 1, .int .i64 1, .int .i64 1], .bool true]) (by simp [results, Try.results43, x0, x1, x2, x3, go_sem]) rfl ⟨rfl, (((hb2.setCell (p := ⟨g + 1, 0, none⟩) hgw _).setCell (p := ⟨g + 1, 1, none⟩) hgw _).setCell (p := ⟨g + 1, 2, none⟩) hgw _).setCell (p := ⟨g + 1, 3, none⟩) hgw _⟩
set_option maxHeartbeats 2000000 in
theorem nature1 (a b : Int) (w : World) : Calls Try.prog 43 #[.agg #[.int .i64 1, .int .i64 a, .int .i64 b, .int .i64 0]] w fun e w' =>
    e = .returned (.tuple #[.agg #[.string ⟨#[99, 111, 112, 121]⟩, .int .i64 3, .int .i64 2, .int .i64 1], .bool true]) ∧ Below w.heap.size w w' := by
  obtain ⟨W, hW⟩ : ∃ W, (w.alloc (.cells #[.int .i64 1, .int .i64 a, .int .i64 b, .int .i64 0] 41)).alloc (.cells #[.string ⟨#[]⟩, .int .i64 0, .int .i64 0, .int .i64 0] 71) = W := ⟨_, rfl⟩
  obtain ⟨g, hg⟩ : ∃ g, w.heap.size = g := ⟨_, rfl⟩
  have hsz : W.heap.size = g + 2 := by rw [← hW, ← hg]; simp
  have r0 : W.heap[g]? = some (.cells #[.int .i64 1, .int .i64 a, .int .i64 b, .int .i64 0] 41 (0, 0)) := by rw [← hW, ← hg]; exact (Below.heap_alloc _ _ _ (by simp)).trans (World.alloc_heap_new _ _)
  have r1 : W.heap[g + 1]? = some (.cells #[.string ⟨#[]⟩, .int .i64 0, .int .i64 0, .int .i64 0] 71 (0, 0)) := by
    have h := World.alloc_heap_new (w.alloc (.cells #[.int .i64 1, .int .i64 a, .int .i64 b, .int .i64 0] 41)) (.cells #[.string ⟨#[]⟩, .int .i64 0, .int .i64 0, .int .i64 0] 71)
    rw [World.size_alloc, hg] at h; rw [← hW]; exact h
  have hb : Below w.heap.size w W := by rw [← hW]; exact ((Below.refl _ _).alloc (Nat.le_refl _) _).alloc (by simp) _
  obtain ⟨c0, c1, c2, c3⟩ := cells4 r0
  have i4 : inB 1 0 4 = true := by decide
  have hidx : ∀ w, (Instr.index 77 (.agg natC) (.int .i64 1)).run Try.prog w = .ok (.agg #[.string ⟨#[99, 111, 112, 121]⟩, .int .i64 3, .int .i64 2, .int .i64 1]) w := fun _ => by kernel_rfl
  have HW := Lib.hid hW
  have HG := Lib.hid hg
  have HS := Lib.hid hsz
  have HR0 := Lib.hid r0
  have HR1 := Lib.hid r1
  clear r0 r1 hsz
  go_enter Try.func43, Try.ntmps43
  go_wp2_with (go_at_call 29; refine (within _ _ _ _).mono ?_; rintro e w' ⟨rfl, rfl⟩)
  have hd : Below w.heap.size w W.drew := below_drewN hb 1
  go_region_with (go_at_call 47; refine (natures _).mono ?_; rintro e w2 ⟨rfl, hB2⟩; have k0 := (hB2.block g (by show g < W.heap.size; rw [HS.out]; omega)).trans HR0.out; have k1 := (hB2.block (g + 1) (by show g + 1 < W.heap.size; rw [HS.out]; omega)).trans HR1.out; have K1 := Lib.hid k1; obtain ⟨d0, d1, d2, d3⟩ := cells4 k0; obtain ⟨e0, e1, e2, e3⟩ := cells4 k1; have f0 := frozen_of_row w2 (g + 1) 0 _ _ k1; have f1 := frozen_of_row w2 (g + 1) 1 _ _ k1; have f2 := frozen_of_row w2 (g + 1) 2 _ _ k1; have f3 := frozen_of_row w2 (g + 1) 3 _ _ k1; have hb2 := hd.trans (hB2.mono hd.size); clear k0 k1)
  all_goals
    clear hW
    go_wp2
    have hrow := set4 K1.out (.string ⟨#[99, 111, 112, 121]⟩) (.int .i64 3) (.int .i64 2) (.int .i64 1)
    obtain ⟨x0, x1, x2, x3⟩ := cells4 hrow
    have hgw : w.heap.size ≤ g + 1 := by rw [HG.out]; omega
    exact bodyPost_ret (v := .tuple #[.agg #[.string ⟨#[99, 111, 112, 121]⟩, .int .i64 3, .int .i64 2, .int .i64 1], .bool true]) (by simp [results, Try.results43, x0, x1, x2, x3, go_sem]) rfl ⟨rfl, (((hb2.setCell (p := ⟨g + 1, 0, none⟩) hgw _).setCell (p := ⟨g + 1, 1, none⟩) hgw _).setCell (p := ⟨g + 1, 2, none⟩) hgw _).setCell (p := ⟨g + 1, 3, none⟩) hgw _⟩
set_option maxHeartbeats 2000000 in
theorem nature2 (a b c : Int) (w : World) : Calls Try.prog 43 #[.agg #[.int .i64 2, .int .i64 a, .int .i64 b, .int .i64 c]] w fun e w' =>
    e = .returned (.tuple #[.agg #[.string ⟨#[98, 111, 116, 104]⟩, .int .i64 7, .int .i64 4, .int .i64 5], .bool true]) ∧ Below w.heap.size w w' := by
  obtain ⟨W, hW⟩ : ∃ W, (w.alloc (.cells #[.int .i64 2, .int .i64 a, .int .i64 b, .int .i64 c] 41)).alloc (.cells #[.string ⟨#[]⟩, .int .i64 0, .int .i64 0, .int .i64 0] 71) = W := ⟨_, rfl⟩
  obtain ⟨g, hg⟩ : ∃ g, w.heap.size = g := ⟨_, rfl⟩
  have hsz : W.heap.size = g + 2 := by rw [← hW, ← hg]; simp
  have r0 : W.heap[g]? = some (.cells #[.int .i64 2, .int .i64 a, .int .i64 b, .int .i64 c] 41 (0, 0)) := by rw [← hW, ← hg]; exact (Below.heap_alloc _ _ _ (by simp)).trans (World.alloc_heap_new _ _)
  have r1 : W.heap[g + 1]? = some (.cells #[.string ⟨#[]⟩, .int .i64 0, .int .i64 0, .int .i64 0] 71 (0, 0)) := by
    have h := World.alloc_heap_new (w.alloc (.cells #[.int .i64 2, .int .i64 a, .int .i64 b, .int .i64 c] 41)) (.cells #[.string ⟨#[]⟩, .int .i64 0, .int .i64 0, .int .i64 0] 71)
    rw [World.size_alloc, hg] at h; rw [← hW]; exact h
  have hb : Below w.heap.size w W := by rw [← hW]; exact ((Below.refl _ _).alloc (Nat.le_refl _) _).alloc (by simp) _
  obtain ⟨c0, c1, c2, c3⟩ := cells4 r0
  have i4 : inB 2 0 4 = true := by decide
  have hidx : ∀ w, (Instr.index 77 (.agg natC) (.int .i64 2)).run Try.prog w = .ok (.agg #[.string ⟨#[98, 111, 116, 104]⟩, .int .i64 7, .int .i64 4, .int .i64 5]) w := fun _ => by kernel_rfl
  have HW := Lib.hid hW
  have HG := Lib.hid hg
  have HS := Lib.hid hsz
  have HR0 := Lib.hid r0
  have HR1 := Lib.hid r1
  clear r0 r1 hsz
  go_enter Try.func43, Try.ntmps43
  go_wp2_with (go_at_call 29; refine (within _ _ _ _).mono ?_; rintro e w' ⟨rfl, rfl⟩)
  have hd : Below w.heap.size w W.drew := below_drewN hb 1
  go_region_with (go_at_call 47; refine (natures _).mono ?_; rintro e w2 ⟨rfl, hB2⟩; have k0 := (hB2.block g (by show g < W.heap.size; rw [HS.out]; omega)).trans HR0.out; have k1 := (hB2.block (g + 1) (by show g + 1 < W.heap.size; rw [HS.out]; omega)).trans HR1.out; have K1 := Lib.hid k1; obtain ⟨d0, d1, d2, d3⟩ := cells4 k0; obtain ⟨e0, e1, e2, e3⟩ := cells4 k1; have f0 := frozen_of_row w2 (g + 1) 0 _ _ k1; have f1 := frozen_of_row w2 (g + 1) 1 _ _ k1; have f2 := frozen_of_row w2 (g + 1) 2 _ _ k1; have f3 := frozen_of_row w2 (g + 1) 3 _ _ k1; have hb2 := hd.trans (hB2.mono hd.size); clear k0 k1)
  all_goals
    clear hW
    go_wp2
    have hrow := set4 K1.out (.string ⟨#[98, 111, 116, 104]⟩) (.int .i64 7) (.int .i64 4) (.int .i64 5)
    obtain ⟨x0, x1, x2, x3⟩ := cells4 hrow
    have hgw : w.heap.size ≤ g + 1 := by rw [HG.out]; omega
    exact bodyPost_ret (v := .tuple #[.agg #[.string ⟨#[98, 111, 116, 104]⟩, .int .i64 7, .int .i64 4, .int .i64 5], .bool true]) (by simp [results, Try.results43, x0, x1, x2, x3, go_sem]) rfl ⟨rfl, (((hb2.setCell (p := ⟨g + 1, 0, none⟩) hgw _).setCell (p := ⟨g + 1, 1, none⟩) hgw _).setCell (p := ⟨g + 1, 2, none⟩) hgw _).setCell (p := ⟨g + 1, 3, none⟩) hgw _⟩
end Go.Proofs.Ytkpjlkahebeljaa

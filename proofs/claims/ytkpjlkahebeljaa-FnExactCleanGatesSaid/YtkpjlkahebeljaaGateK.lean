/- Contracts of the program: valid gates. -/
import Derived.Test.YtkpjlkahebeljaaGateJ
import Derived.Test.YtkpjlkahebeljaaPlGate
namespace Go.Proofs.Ytkpjlkahebeljaa
open Go.RowKit
set_option linter.unusedVariables false
theorem bit0 : (bits BinOp.and IntKind.i64 0 1 == 1) = false := by decide
theorem bit1 {a b : Int} (ha0 : 0 ≤ a) (ha7 : a ≤ 7) (hb0 : 0 ≤ b) (hb7 : b ≤ 7) (hab : a ≠ b) : (bits BinOp.and IntKind.i64 (bits BinOp.or IntKind.i64 0 (wrap64 (2 ^ a.toNat)) / 2 ^ b.toNat) 1 == 1) = false := by
  have h : ∀ x y : Fin 8, x ≠ y → (bits BinOp.and IntKind.i64 (bits BinOp.or IntKind.i64 0 (wrap64 (2 ^ x.1)) / 2 ^ y.1) 1 == 1) = false := by decide +kernel
  exact h ⟨a.toNat, by omega⟩ ⟨b.toNat, by omega⟩ (fun e => hab (by have := congrArg Fin.val e; simp at this; omega))
theorem bit2 {a b c : Int} (ha0 : 0 ≤ a) (ha7 : a ≤ 7) (hb0 : 0 ≤ b) (hb7 : b ≤ 7) (hc0 : 0 ≤ c) (hc7 : c ≤ 7) (hac : a ≠ c) (hbc : b ≠ c) :
    (bits BinOp.and IntKind.i64 (bits BinOp.or IntKind.i64 (bits BinOp.or IntKind.i64 0 (wrap64 (2 ^ a.toNat))) (wrap64 (2 ^ b.toNat)) / 2 ^ c.toNat) 1 == 1) = false := by
  have h : ∀ x y z : Fin 8, x ≠ z → y ≠ z → (bits BinOp.and IntKind.i64 (bits BinOp.or IntKind.i64 (bits BinOp.or IntKind.i64 0 (wrap64 (2 ^ x.1))) (wrap64 (2 ^ y.1)) / 2 ^ z.1) 1 == 1) = false := by decide +kernel
  exact h ⟨a.toNat, by omega⟩ ⟨b.toNat, by omega⟩ ⟨c.toNat, by omega⟩ (fun e => hac (by have := congrArg Fin.val e; simp at this; omega)) (fun e => hbc (by have := congrArg Fin.val e; simp at this; omega))
set_option maxHeartbeats 4000000 in
theorem gateValidI0 (a : Int) (w : World) (ha0 : 0 ≤ a) (ha7 : a ≤ 7) : Calls Try.prog 37 #[.int .i64 8, .agg #[.int .i64 0, .int .i64 a, .int .i64 0, .int .i64 0]] w (GivesT w true) := by
  have ia : inB a 0 7 = true := inB_t ha0 ha7
  have i8 : inB 8 1 8 = true := by decide
  have t0 := bit0
  obtain ⟨W, hW⟩ : ∃ W, w.alloc (.cells #[.int .i64 0, .int .i64 a, .int .i64 0, .int .i64 0] 41) = W := ⟨_, rfl⟩
  obtain ⟨g, hg⟩ : ∃ g, w.heap.size = g := ⟨_, rfl⟩
  have hrow : W.heap[g]? = some (.cells #[.int .i64 0, .int .i64 a, .int .i64 0, .int .i64 0] 41 (0, 0)) := by rw [← hW, ← hg]; exact World.alloc_heap_new _ _
  have hB0 : Below w.heap.size w W := by rw [← hW]; exact (Below.refl _ _).alloc (Nat.le_refl _) _
  have hlt : g < W.heap.size := (Array.getElem?_eq_some_iff.1 hrow).1
  obtain ⟨c0, c1, c2, c3⟩ := cells4 hrow
  have HROW := Lib.hid hrow
  clear hrow
  go_enter Try.func37, Try.ntmps37
  go_wp2_with fail
  refine (nature0 a _).mono ?_
  rintro e w1 ⟨rfl, hB1⟩
  have HW := Lib.hid hW
  have HG := Lib.hid hg
  have hB := hB0.trans (hB1.mono hB0.size)
  have HR1 := Lib.hid ((hB1.block _ hlt).trans HROW.out)
  clear hW hg c0 c1 c2 c3 HROW
  obtain ⟨W2, hW2⟩ : ∃ W2, w1.alloc (.cells #[.string ⟨#[110, 111, 116]⟩, .int .i64 1, .int .i64 1, .int .i64 1] 71) = W2 := ⟨_, rfl⟩
  obtain ⟨gn, hgn⟩ : ∃ g, w1.heap.size = g := ⟨_, rfl⟩
  have hlt1 : g < w1.heap.size := Nat.lt_of_lt_of_le hlt hB1.size
  have r0 : W2.heap[g]? = some (.cells #[.int .i64 0, .int .i64 a, .int .i64 0, .int .i64 0] 41 (0, 0)) := by rw [← hW2]; exact (Below.heap_alloc _ _ _ hlt1).trans HR1.out
  have r1 : W2.heap[gn]? = some (.cells #[.string ⟨#[110, 111, 116]⟩, .int .i64 1, .int .i64 1, .int .i64 1] 71 (0, 0)) := by rw [← hW2, ← hgn]; exact World.alloc_heap_new _ _
  have hB2 : Below w.heap.size w W2 := by rw [← hW2]; exact hB.alloc hB.size _
  obtain ⟨c0, c1, c2, c3⟩ := cells4 HR1.out
  obtain ⟨d0, d1, d2, d3⟩ := cells4 r0
  obtain ⟨e0, e1, e2, e3⟩ := cells4 r1
  go_wp2_with (go_at_call 44; refine (linesOk _ _).mono ?_; rintro e w' ⟨rfl, rfl⟩)
  refine (some0L a _).mono ?_
  rintro e w3 ⟨A3, n3, c3', rfl, hO3, hB3⟩
  have hn3 : n3 = 1 := hO3.len.symm
  subst hn3
  try rw [hW2] at hB3
  have HR2 := Lib.hid ((hB3.block g (Array.getElem?_eq_some_iff.1 r0).1).trans r0)
  have HN2 := Lib.hid ((hB3.block gn (Array.getElem?_eq_some_iff.1 r1).1).trans r1)
  have hB4 := hB2.trans (hB3.mono hB2.size)
  have HO3 := Lib.hid hO3
  clear c0 c1 c2 c3 d0 d1 d2 d3 e0 e1 e2 e3 r0 r1 hW2 hgn hO3
  obtain ⟨g3, rfl, _, _⟩ := HO3.out.toI.addr (by omega)
  have k0 : w3.cell? ⟨g3, 0, none⟩ = some (.int .i64 a) := HO3.out.toI.cellAt (j := 0) (by omega)
  go_wp2
  refine wp_loop_rounds 2 ?_
  rw [rounds_succ]
  go_wp2_with (go_at_call 29; refine (within _ _ _ _).mono ?_; rintro e w' ⟨rfl, rfl⟩)
  clear k0
  obtain ⟨c0, c1, c2, c3⟩ := cells4 HR2.out
  obtain ⟨e0, e1, e2, e3⟩ := cells4 HN2.out
  rw [rounds_succ]
  go_wp2_with fail
  refine (some0R a _).mono ?_
  rintro e w5 ⟨A5, n5, c5, rfl, hO5, hB5⟩
  have hn5 : n5 = 2 := hO5.len.symm
  subst hn5
  have hB6 := hB4.trans (hB5.mono hB4.size)
  have HO5 := Lib.hid hO5
  clear hO5 c0 c1 c2 c3 e0 e1 e2 e3
  obtain ⟨g5, rfl, _, _⟩ := HO5.out.toI.addr (by omega)
  have k0 : w5.cell? ⟨g5, 0, none⟩ = some (.int .i64 0) := HO5.out.toI.cellAt (j := 0) (by omega)
  have k1 : w5.cell? ⟨g5, 1, none⟩ = some (.int .i64 0) := HO5.out.toI.cellAt (j := 1) (by omega)
  go_wp2
  refine wp_loop_rounds 3 ?_
  rw [rounds_succ]
  go_wp2
  rw [rounds_succ]
  go_wp2
  rw [rounds_succ]
  go_wp2
  go_ret
  exact ⟨rfl, hB6⟩
set_option maxHeartbeats 4000000 in
theorem gateValidI1 (a b : Int) (w : World) (ha0 : 0 ≤ a) (ha7 : a ≤ 7) (hb0 : 0 ≤ b) (hb7 : b ≤ 7) (hab : a ≠ b) : Calls Try.prog 37 #[.int .i64 8, .agg #[.int .i64 1, .int .i64 a, .int .i64 b, .int .i64 0]] w (GivesT w true) := by
  have ia : inB a 0 7 = true := inB_t ha0 ha7
  have ib : inB b 0 7 = true := inB_t hb0 hb7
  have i8 : inB 8 1 8 = true := by decide
  have t0 := bit0
  have t1 := bit1 ha0 ha7 hb0 hb7 hab
  clear hab
  obtain ⟨W, hW⟩ : ∃ W, w.alloc (.cells #[.int .i64 1, .int .i64 a, .int .i64 b, .int .i64 0] 41) = W := ⟨_, rfl⟩
  obtain ⟨g, hg⟩ : ∃ g, w.heap.size = g := ⟨_, rfl⟩
  have hrow : W.heap[g]? = some (.cells #[.int .i64 1, .int .i64 a, .int .i64 b, .int .i64 0] 41 (0, 0)) := by rw [← hW, ← hg]; exact World.alloc_heap_new _ _
  have hB0 : Below w.heap.size w W := by rw [← hW]; exact (Below.refl _ _).alloc (Nat.le_refl _) _
  have hlt : g < W.heap.size := (Array.getElem?_eq_some_iff.1 hrow).1
  obtain ⟨c0, c1, c2, c3⟩ := cells4 hrow
  have HROW := Lib.hid hrow
  clear hrow
  go_enter Try.func37, Try.ntmps37
  go_wp2_with fail
  refine (nature1 a b _).mono ?_
  rintro e w1 ⟨rfl, hB1⟩
  have HW := Lib.hid hW
  have HG := Lib.hid hg
  have hB := hB0.trans (hB1.mono hB0.size)
  have HR1 := Lib.hid ((hB1.block _ hlt).trans HROW.out)
  clear hW hg c0 c1 c2 c3 HROW
  obtain ⟨W2, hW2⟩ : ∃ W2, w1.alloc (.cells #[.string ⟨#[99, 111, 112, 121]⟩, .int .i64 3, .int .i64 2, .int .i64 1] 71) = W2 := ⟨_, rfl⟩
  obtain ⟨gn, hgn⟩ : ∃ g, w1.heap.size = g := ⟨_, rfl⟩
  have hlt1 : g < w1.heap.size := Nat.lt_of_lt_of_le hlt hB1.size
  have r0 : W2.heap[g]? = some (.cells #[.int .i64 1, .int .i64 a, .int .i64 b, .int .i64 0] 41 (0, 0)) := by rw [← hW2]; exact (Below.heap_alloc _ _ _ hlt1).trans HR1.out
  have r1 : W2.heap[gn]? = some (.cells #[.string ⟨#[99, 111, 112, 121]⟩, .int .i64 3, .int .i64 2, .int .i64 1] 71 (0, 0)) := by rw [← hW2, ← hgn]; exact World.alloc_heap_new _ _
  have hB2 : Below w.heap.size w W2 := by rw [← hW2]; exact hB.alloc hB.size _
  obtain ⟨c0, c1, c2, c3⟩ := cells4 HR1.out
  obtain ⟨d0, d1, d2, d3⟩ := cells4 r0
  obtain ⟨e0, e1, e2, e3⟩ := cells4 r1
  go_wp2_with (go_at_call 44; refine (linesOk _ _).mono ?_; rintro e w' ⟨rfl, rfl⟩)
  refine (some1L a b _).mono ?_
  rintro e w3 ⟨A3, n3, c3', rfl, hO3, hB3⟩
  have hn3 : n3 = 2 := hO3.len.symm
  subst hn3
  try rw [hW2] at hB3
  have HR2 := Lib.hid ((hB3.block g (Array.getElem?_eq_some_iff.1 r0).1).trans r0)
  have HN2 := Lib.hid ((hB3.block gn (Array.getElem?_eq_some_iff.1 r1).1).trans r1)
  have hB4 := hB2.trans (hB3.mono hB2.size)
  have HO3 := Lib.hid hO3
  clear c0 c1 c2 c3 d0 d1 d2 d3 e0 e1 e2 e3 r0 r1 hW2 hgn hO3
  obtain ⟨g3, rfl, _, _⟩ := HO3.out.toI.addr (by omega)
  have k0 : w3.cell? ⟨g3, 0, none⟩ = some (.int .i64 a) := HO3.out.toI.cellAt (j := 0) (by omega)
  have k1 : w3.cell? ⟨g3, 1, none⟩ = some (.int .i64 b) := HO3.out.toI.cellAt (j := 1) (by omega)
  go_wp2
  refine wp_loop_rounds 3 ?_
  rw [rounds_succ]
  go_wp2_with (go_at_call 29; refine (within _ _ _ _).mono ?_; rintro e w' ⟨rfl, rfl⟩)
  rw [rounds_succ]
  go_wp2_with (go_at_call 29; refine (within _ _ _ _).mono ?_; rintro e w' ⟨rfl, rfl⟩)
  clear k0 k1
  obtain ⟨c0, c1, c2, c3⟩ := cells4 HR2.out
  obtain ⟨e0, e1, e2, e3⟩ := cells4 HN2.out
  rw [rounds_succ]
  go_wp2_with fail
  refine (some1R a b _).mono ?_
  rintro e w5 ⟨A5, n5, c5, rfl, hO5, hB5⟩
  have hn5 : n5 = 1 := hO5.len.symm
  subst hn5
  have hB6 := hB4.trans (hB5.mono hB4.size)
  have HO5 := Lib.hid hO5
  clear hO5 c0 c1 c2 c3 e0 e1 e2 e3
  obtain ⟨g5, rfl, _, _⟩ := HO5.out.toI.addr (by omega)
  have k0 : w5.cell? ⟨g5, 0, none⟩ = some (.int .i64 0) := HO5.out.toI.cellAt (j := 0) (by omega)
  go_wp2
  refine wp_loop_rounds 2 ?_
  rw [rounds_succ]
  go_wp2
  rw [rounds_succ]
  go_wp2
  go_ret
  exact ⟨rfl, hB6⟩
set_option maxHeartbeats 4000000 in
theorem gateValidI2 (a b c : Int) (w : World) (ha0 : 0 ≤ a) (ha7 : a ≤ 7) (hb0 : 0 ≤ b) (hb7 : b ≤ 7) (hc0 : 0 ≤ c) (hc7 : c ≤ 7) (hab : a ≠ b) (hac : a ≠ c) (hbc : b ≠ c) : Calls Try.prog 37 #[.int .i64 8, .agg #[.int .i64 2, .int .i64 a, .int .i64 b, .int .i64 c]] w (GivesT w true) := by
  have ia : inB a 0 7 = true := inB_t ha0 ha7
  have ib : inB b 0 7 = true := inB_t hb0 hb7
  have ic : inB c 0 7 = true := inB_t hc0 hc7
  have i8 : inB 8 1 8 = true := by decide
  have t0 := bit0
  have t1 := bit1 ha0 ha7 hb0 hb7 hab
  have t2 := bit2 ha0 ha7 hb0 hb7 hc0 hc7 hac hbc
  clear hab hac hbc
  obtain ⟨W, hW⟩ : ∃ W, w.alloc (.cells #[.int .i64 2, .int .i64 a, .int .i64 b, .int .i64 c] 41) = W := ⟨_, rfl⟩
  obtain ⟨g, hg⟩ : ∃ g, w.heap.size = g := ⟨_, rfl⟩
  have hrow : W.heap[g]? = some (.cells #[.int .i64 2, .int .i64 a, .int .i64 b, .int .i64 c] 41 (0, 0)) := by rw [← hW, ← hg]; exact World.alloc_heap_new _ _
  have hB0 : Below w.heap.size w W := by rw [← hW]; exact (Below.refl _ _).alloc (Nat.le_refl _) _
  have hlt : g < W.heap.size := (Array.getElem?_eq_some_iff.1 hrow).1
  obtain ⟨c0, c1, c2, c3⟩ := cells4 hrow
  have HROW := Lib.hid hrow
  clear hrow
  go_enter Try.func37, Try.ntmps37
  go_wp2_with fail
  refine (nature2 a b c _).mono ?_
  rintro e w1 ⟨rfl, hB1⟩
  have HW := Lib.hid hW
  have HG := Lib.hid hg
  have hB := hB0.trans (hB1.mono hB0.size)
  have HR1 := Lib.hid ((hB1.block _ hlt).trans HROW.out)
  clear hW hg c0 c1 c2 c3 HROW
  obtain ⟨W2, hW2⟩ : ∃ W2, w1.alloc (.cells #[.string ⟨#[98, 111, 116, 104]⟩, .int .i64 7, .int .i64 4, .int .i64 5] 71) = W2 := ⟨_, rfl⟩
  obtain ⟨gn, hgn⟩ : ∃ g, w1.heap.size = g := ⟨_, rfl⟩
  have hlt1 : g < w1.heap.size := Nat.lt_of_lt_of_le hlt hB1.size
  have r0 : W2.heap[g]? = some (.cells #[.int .i64 2, .int .i64 a, .int .i64 b, .int .i64 c] 41 (0, 0)) := by rw [← hW2]; exact (Below.heap_alloc _ _ _ hlt1).trans HR1.out
  have r1 : W2.heap[gn]? = some (.cells #[.string ⟨#[98, 111, 116, 104]⟩, .int .i64 7, .int .i64 4, .int .i64 5] 71 (0, 0)) := by rw [← hW2, ← hgn]; exact World.alloc_heap_new _ _
  have hB2 : Below w.heap.size w W2 := by rw [← hW2]; exact hB.alloc hB.size _
  obtain ⟨c0, c1, c2, c3⟩ := cells4 HR1.out
  obtain ⟨d0, d1, d2, d3⟩ := cells4 r0
  obtain ⟨e0, e1, e2, e3⟩ := cells4 r1
  go_wp2_with (go_at_call 44; refine (linesOk _ _).mono ?_; rintro e w' ⟨rfl, rfl⟩)
  refine (some2L a b c _).mono ?_
  rintro e w3 ⟨A3, n3, c3', rfl, hO3, hB3⟩
  have hn3 : n3 = 3 := hO3.len.symm
  subst hn3
  try rw [hW2] at hB3
  have HR2 := Lib.hid ((hB3.block g (Array.getElem?_eq_some_iff.1 r0).1).trans r0)
  have HN2 := Lib.hid ((hB3.block gn (Array.getElem?_eq_some_iff.1 r1).1).trans r1)
  have hB4 := hB2.trans (hB3.mono hB2.size)
  have HO3 := Lib.hid hO3
  clear c0 c1 c2 c3 d0 d1 d2 d3 e0 e1 e2 e3 r0 r1 hW2 hgn hO3
  obtain ⟨g3, rfl, _, _⟩ := HO3.out.toI.addr (by omega)
  have k0 : w3.cell? ⟨g3, 0, none⟩ = some (.int .i64 a) := HO3.out.toI.cellAt (j := 0) (by omega)
  have k1 : w3.cell? ⟨g3, 1, none⟩ = some (.int .i64 b) := HO3.out.toI.cellAt (j := 1) (by omega)
  have k2 : w3.cell? ⟨g3, 2, none⟩ = some (.int .i64 c) := HO3.out.toI.cellAt (j := 2) (by omega)
  go_wp2
  refine wp_loop_rounds 4 ?_
  rw [rounds_succ]
  go_wp2_with (go_at_call 29; refine (within _ _ _ _).mono ?_; rintro e w' ⟨rfl, rfl⟩)
  rw [rounds_succ]
  go_wp2_with (go_at_call 29; refine (within _ _ _ _).mono ?_; rintro e w' ⟨rfl, rfl⟩)
  rw [rounds_succ]
  go_wp2_with (go_at_call 29; refine (within _ _ _ _).mono ?_; rintro e w' ⟨rfl, rfl⟩)
  clear k0 k1 k2
  obtain ⟨c0, c1, c2, c3⟩ := cells4 HR2.out
  obtain ⟨e0, e1, e2, e3⟩ := cells4 HN2.out
  rw [rounds_succ]
  go_wp2_with fail
  refine (some2R a b c _).mono ?_
  rintro e w5 ⟨A5, n5, c5, rfl, hO5, hB5⟩
  have hn5 : n5 = 0 := hO5.len.symm
  subst hn5
  have hB6 := hB4.trans (hB5.mono hB4.size)
  have HO5 := Lib.hid hO5
  clear hO5 c0 c1 c2 c3 e0 e1 e2 e3
  go_wp2
  refine wp_loop_rounds 1 ?_
  rw [rounds_succ]
  go_wp2
  go_ret
  exact ⟨rfl, hB6⟩
theorem gateValidI (K a b c : Int) (h : GV K a b c) (w : World) : Calls Try.prog 37 #[.int .i64 8, .agg #[.int .i64 K, .int .i64 a, .int .i64 b, .int .i64 c]] w (GivesT w true) := by
  rcases h with ⟨rfl, rfl, rfl, h1, h2⟩ | ⟨rfl, rfl, h1, h2, h3, h4, h5⟩ | ⟨rfl, h1, h2, h3, h4, h5, h6, h7, h8, h9⟩
  · exact gateValidI0 a w h1 h2
  · exact gateValidI1 a b w h1 h2 h3 h4 h5
  · exact gateValidI2 a b c w h1 h2 h3 h4 h5 h6 h7 h8 h9
end Go.Proofs.Ytkpjlkahebeljaa

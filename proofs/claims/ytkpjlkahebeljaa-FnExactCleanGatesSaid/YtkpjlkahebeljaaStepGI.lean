/- Contracts of the program: the gates of a step. -/
import Derived.Test.YtkpjlkahebeljaaGateL
import Derived.Test.YtkpjlkahebeljaaGateT
import Derived.Deep.RegionHeld3
import Derived.Outline
namespace Go.Proofs.Ytkpjlkahebeljaa
open Go.RowKit
set_option linter.unusedVariables false
theorem below_held {w w' : World} {B : Nat} (h : Below w.heap.size w w') (hB : B ≤ w.heap.size) {p : Addr} {v : Value} (hp : p.block < B) (hc : w.cell? p = some v) : w'.cell? p = some v :=
  (h.cell (p := p) (by omega)).trans hc
theorem held3 {w w' : World} (h : Below w.heap.size w w') {g1 g2 n : Nat} {v1 v2 v3 : Value} (h1 : g1 < n) (h2 : g2 < n)
    (hS : w.cell? ⟨g1, 0, none⟩ = some v1 ∧ w.cell? ⟨g1, 1, none⟩ = some v2 ∧ w.cell? ⟨g2, 0, none⟩ = some v3 ∧ n ≤ w.heap.size) :
    w'.cell? ⟨g1, 0, none⟩ = some v1 ∧ w'.cell? ⟨g1, 1, none⟩ = some v2 ∧ w'.cell? ⟨g2, 0, none⟩ = some v3 ∧ n ≤ w'.heap.size := by
  obtain ⟨a1, a2, a3, a4⟩ := hS
  have hs := h.size
  exact ⟨below_held h a4 (p := ⟨g1, 0, none⟩) h1 a1, below_held h a4 (p := ⟨g1, 1, none⟩) h1 a2, below_held h a4 (p := ⟨g2, 0, none⟩) h2 a3, by omega⟩
theorem held2 {w w' : World} (h : Below w.heap.size w w') {g1 g2 n : Nat} {v1 v3 : Value} (h1 : g1 < n) (h2 : g2 < n)
    (hS : w.cell? ⟨g1, 0, none⟩ = some v1 ∧ w.cell? ⟨g2, 0, none⟩ = some v3 ∧ n ≤ w.heap.size) :
    w'.cell? ⟨g1, 0, none⟩ = some v1 ∧ w'.cell? ⟨g2, 0, none⟩ = some v3 ∧ n ≤ w'.heap.size := by
  obtain ⟨a1, a3, a4⟩ := hS
  have hs := h.size
  exact ⟨below_held h a4 (p := ⟨g1, 0, none⟩) h1 a1, below_held h a4 (p := ⟨g2, 0, none⟩) h2 a3, by omega⟩
theorem below_alloc (w : World) (o : Obj) : Below w.heap.size w (w.alloc o) := (Below.refl _ _).alloc (Nat.le_refl _) o
theorem below_dr {w w' : World} (h : Below w.drew.heap.size w.drew w') : Below w.heap.size w w' := ⟨h.os, h.tape, h.output, h.size, h.block⟩
set_option maxHeartbeats 4000000 in
theorem stepGatesI0 (x y l : Int) (w : World) (h : stL 0 x y l) :
    Calls Try.prog 30 #[.agg #[.int .i64 0, .int .i64 x, .int .i64 y], .int .i64 l] w (fun e w' => ∃ A c, e = .returned (.slice A 1 c) ∧ OFI 41 4 w' w.heap.size A 1 c [2, x, y, l] ∧ Below w.heap.size w w') := by
  have HGV := Lib.hid (show AllGV 1 [2, x, y, l] from sgL_gv h)
  obtain ⟨h1, h2, h3, h4, h5, h6⟩ := h
  obtain ⟨y0, y1, hxy⟩ := h6 (by decide)
  have HV1 := Lib.hid (show GV 2 x y l from .inr (.inr ⟨rfl, h3, by omega, y0, by omega, by omega, h5, hxy, by omega, by omega⟩))
  clear h6 hxy
  have taandNode : ∀ w, (Instr.typeAssert (.iface 60 (.agg #[.int .i64 x, .int .i64 y])) 57 60 true).run Try.prog w = .ok (.tuple #[.agg #[.int .i64 x, .int .i64 y], .bool true]) w := fun _ => by kernel_rfl
  obtain ⟨W, hW⟩ : ∃ W, (w.alloc (.cells #[.int .i64 0, .int .i64 x, .int .i64 y] 36)).alloc (.cells #[.int .i64 l] 3) = W := ⟨_, rfl⟩
  obtain ⟨g, hg⟩ : ∃ g, w.heap.size = g := ⟨_, rfl⟩
  have hsz : W.heap.size = g + 2 := by rw [← hW, ← hg]; simp
  have r0 : W.heap[g]? = some (.cells #[.int .i64 0, .int .i64 x, .int .i64 y] 36 (0, 0)) := by rw [← hW, ← hg]; exact (Below.heap_alloc _ _ _ (by simp)).trans (World.alloc_heap_new _ _)
  have r1 : Boxed W (g + 1) 3 (.int .i64 l) := by
    have h := Boxed.new (w.alloc (.cells #[.int .i64 0, .int .i64 x, .int .i64 y] 36)) 3 (.int .i64 l)
    rw [World.size_alloc, hg] at h; rw [← hW]; exact h
  have hB0 : Below w.heap.size w W := by rw [← hW]; exact ((Below.refl _ _).alloc (Nat.le_refl _) _).alloc (by simp) _
  obtain ⟨c0, c1, c2⟩ := cells3 r0
  have HR0 := Lib.hid r0
  have HR1 := Lib.hid r1
  have HS := Lib.hid hsz
  clear r0 r1 hsz
  go_enter Try.func30, Try.ntmps30
  go_wp2_with fail
  refine (node0 x y _).mono ?_
  rintro e w2 ⟨rfl, hB2⟩
  have HW := Lib.hid hW
  have HG := Lib.hid hg
  have hB := hB0.trans (hB2.mono hB0.size)
  have hs2 : g + 2 ≤ w2.heap.size := by rw [← HS.out]; exact hB2.size
  have HR0' := Lib.hid ((hB2.block g (by rw [HS.out]; omega)).trans HR0.out)
  have HR1' := Lib.hid (show Boxed w2 (g + 1) 3 (.int .i64 l) from (hB2.block (g + 1) (by rw [HS.out]; omega)).trans HR1.out)
  obtain ⟨W4, hW4⟩ : ∃ W4, w2.alloc (.cells #[.int .i64 x, .int .i64 y] 60) = W4 := ⟨_, rfl⟩
  obtain ⟨gn, hgn⟩ : ∃ g, w2.heap.size = g := ⟨_, rfl⟩
  have hgl : g + 1 < w2.heap.size := by omega
  have s0 : W4.heap[g]? = some (.cells #[.int .i64 0, .int .i64 x, .int .i64 y] 36 (0, 0)) := by rw [← hW4]; exact (Below.heap_alloc _ _ _ (by omega)).trans HR0'.out
  have s1 : Boxed W4 (g + 1) 3 (.int .i64 l) := by rw [← hW4]; exact HR1'.out.alloc _
  have s2 : W4.heap[gn]? = some (.cells #[.int .i64 x, .int .i64 y] 60 (0, 0)) := by rw [← hW4, ← hgn]; exact World.alloc_heap_new _ _
  have hB4 : Below w.heap.size w W4 := by rw [← hW4]; exact hB.alloc hB.size _
  have hsz4 : W4.heap.size = gn + 1 := by rw [← hW4, ← hgn]; simp
  have d0 := s1.cell
  have f0 : W4.cell? ⟨gn, 0, none⟩ = some (.int .i64 x) := by rw [cell_of_row W4 gn 0 _ _ _ s2]; rfl
  have f1 : W4.cell? ⟨gn, 1, none⟩ = some (.int .i64 y) := by rw [cell_of_row W4 gn 1 _ _ _ s2]; rfl
  have S0 := Lib.hid s0
  have S1 := Lib.hid s1
  have HS4 := Lib.hid hsz4
  have hgn4 : gn < W4.heap.size := by omega
  have hgl4 : g + 1 < W4.heap.size := by omega
  have hg4 : g < W4.heap.size := by omega
  clear hW hg c0 c1 c2 s0 s1 s2 hsz4
  go_wp2_with fail
  refine (bothI x y l (g + 1) _ (by first | exact d0 | (rw [hW4]; exact d0)) (by first | exact hgl4 | (rw [hW4]; exact hgl4))).mono ?_
  rintro e w5 ⟨rfl, hB5⟩
  try rw [hW4] at hB5
  clear hW4 hgn
  have hs5 : W4.heap.size ≤ w5.heap.size := hB5.size
  have hb5 : Below w.heap.size w w5 := hB4.trans (hB5.mono hB4.size)
  obtain ⟨W6, hW6⟩ : ∃ W6, w5.alloc (.cells #[.int .i64 2, .int .i64 x, .int .i64 y, .int .i64 l] 41) = W6 := ⟨_, rfl⟩
  obtain ⟨g6, hg6⟩ : ∃ g, w5.heap.size = g := ⟨_, rfl⟩
  have u0 : W6.heap[g]? = some (.cells #[.int .i64 0, .int .i64 x, .int .i64 y] 36 (0, 0)) := by rw [← hW6]; exact (Below.heap_alloc _ _ _ (by omega)).trans ((hB5.block g hg4).trans S0.out)
  have u1 : Boxed W6 (g + 1) 3 (.int .i64 l) := by rw [← hW6]; exact (show Boxed w5 (g + 1) 3 (.int .i64 l) from (hB5.block (g + 1) hgl4).trans S1.out).alloc _
  have u2 : OFI 41 4 W6 w.heap.size (some ⟨g6, 0, none⟩) 1 1 [2, x, y, l] := by
    refine ⟨rfl, Nat.le_refl _, by simp [maxLen], .inr ⟨g6, _, rfl, by have := hb5.size; omega, by rw [← hW6, ← hg6]; exact World.alloc_heap_new _ _, by simp, rfl⟩⟩
  have hb6 : Below w.heap.size w W6 := by rw [← hW6]; exact hb5.alloc hb5.size _
  have hs6 : W6.heap.size = g6 + 1 := by rw [← hW6, ← hg6]; simp
  subst hg6
  have hgl6 : g + 1 < W6.heap.size := by omega
  obtain ⟨c0, c1, c2⟩ := cells3 u0
  have b0 := u1.cell
  have O6 := Lib.hid u2
  have HS6 := Lib.hid hs6
  clear d0 f0 f1 u0 u1 u2 hs6
  go_wp2_with fail
  refine (bothI x y l (g + 1) W6 b0 hgl6).mono ?_
  rintro e w7 ⟨rfl, hB7⟩
  clear hW6
  have O7 := Lib.hid (O6.out.below hB7 (Nat.le_refl _))
  have hb7 := hb6.trans (hB7.mono hb6.size)
  clear c0 c1 c2 b0
  go_wp2_with fail
  refine (gateValidI 2 x y l HV1.out w7).mono ?_
  rintro e w8 ⟨rfl, hB8⟩
  have O8 := Lib.hid (O7.out.below hB8 (Nat.le_refl _))
  have hb8 := hb7.trans (hB8.mono hb7.size)
  go_wp2_with fail
  refine (containsFuncI _ 1 1 _ w8 O8.out.reads (by omega) HGV.out).mono ?_
  rintro e w9 ⟨rfl, hB9⟩
  go_wp2
  go_ret
  exact ⟨_, _, rfl, O8.out.below hB9 (Nat.le_refl _), hb8.trans (hB9.mono hb8.size)⟩
set_option maxHeartbeats 4000000 in
theorem stepGatesI1 (x y l : Int) (w : World) (h : stL 1 x y l) :
    Calls Try.prog 30 #[.agg #[.int .i64 1, .int .i64 x, .int .i64 y], .int .i64 l] w (fun e w' => ∃ A c, e = .returned (.slice A 3 c) ∧ OFI 41 4 w' w.heap.size A 3 c [1, x, l, 0, 1, y, l, 0, 2, x, y, l] ∧ Below w.heap.size w w') := by
  have HGV := Lib.hid (show AllGV 3 [1, x, l, 0, 1, y, l, 0, 2, x, y, l] from sgL_gv h)
  obtain ⟨h1, h2, h3, h4, h5, h6⟩ := h
  obtain ⟨y0, y1, hxy⟩ := h6 (by decide)
  have HV1 := Lib.hid (show GV 2 x y l from .inr (.inr ⟨rfl, h3, by omega, y0, by omega, by omega, h5, hxy, by omega, by omega⟩))
  clear h6 hxy
  have taandNode : ∀ w, (Instr.typeAssert (.iface 62 (.agg #[.int .i64 x, .int .i64 y])) 57 60 true).run Try.prog w = .ok (.tuple #[.agg #[.int .i64 0, .int .i64 0], .bool false]) w := fun _ => by kernel_rfl
  have taxorNode : ∀ w, (Instr.typeAssert (.iface 62 (.agg #[.int .i64 x, .int .i64 y])) 57 61 true).run Try.prog w = .ok (.tuple #[.agg #[.int .i64 0, .int .i64 0], .bool false]) w := fun _ => by kernel_rfl
  have taorNode : ∀ w, (Instr.typeAssert (.iface 62 (.agg #[.int .i64 x, .int .i64 y])) 57 62 true).run Try.prog w = .ok (.tuple #[.agg #[.int .i64 x, .int .i64 y], .bool true]) w := fun _ => by kernel_rfl
  obtain ⟨W, hW⟩ : ∃ W, (w.alloc (.cells #[.int .i64 1, .int .i64 x, .int .i64 y] 36)).alloc (.cells #[.int .i64 l] 3) = W := ⟨_, rfl⟩
  obtain ⟨g, hg⟩ : ∃ g, w.heap.size = g := ⟨_, rfl⟩
  have hsz : W.heap.size = g + 2 := by rw [← hW, ← hg]; simp
  have r0 : W.heap[g]? = some (.cells #[.int .i64 1, .int .i64 x, .int .i64 y] 36 (0, 0)) := by rw [← hW, ← hg]; exact (Below.heap_alloc _ _ _ (by simp)).trans (World.alloc_heap_new _ _)
  have r1 : Boxed W (g + 1) 3 (.int .i64 l) := by
    have h := Boxed.new (w.alloc (.cells #[.int .i64 1, .int .i64 x, .int .i64 y] 36)) 3 (.int .i64 l)
    rw [World.size_alloc, hg] at h; rw [← hW]; exact h
  have hB0 : Below w.heap.size w W := by rw [← hW]; exact ((Below.refl _ _).alloc (Nat.le_refl _) _).alloc (by simp) _
  obtain ⟨c0, c1, c2⟩ := cells3 r0
  have HR0 := Lib.hid r0
  have HR1 := Lib.hid r1
  have HS := Lib.hid hsz
  clear r0 r1 hsz
  go_enter Try.func30, Try.ntmps30
  go_wp2_with fail
  refine (node1 x y _).mono ?_
  rintro e w2 ⟨rfl, hB2⟩
  have HW := Lib.hid hW
  have HG := Lib.hid hg
  have hB := hB0.trans (hB2.mono hB0.size)
  have hs2 : g + 2 ≤ w2.heap.size := by rw [← HS.out]; exact hB2.size
  have HR0' := Lib.hid ((hB2.block g (by rw [HS.out]; omega)).trans HR0.out)
  have HR1' := Lib.hid (show Boxed w2 (g + 1) 3 (.int .i64 l) from (hB2.block (g + 1) (by rw [HS.out]; omega)).trans HR1.out)
  obtain ⟨W4, hW4⟩ : ∃ W4, w2.alloc (.cells #[.int .i64 x, .int .i64 y] 62) = W4 := ⟨_, rfl⟩
  obtain ⟨gn, hgn⟩ : ∃ g, w2.heap.size = g := ⟨_, rfl⟩
  have hgl : g + 1 < w2.heap.size := by omega
  have s0 : W4.heap[g]? = some (.cells #[.int .i64 1, .int .i64 x, .int .i64 y] 36 (0, 0)) := by rw [← hW4]; exact (Below.heap_alloc _ _ _ (by omega)).trans HR0'.out
  have s1 : Boxed W4 (g + 1) 3 (.int .i64 l) := by rw [← hW4]; exact HR1'.out.alloc _
  have s2 : W4.heap[gn]? = some (.cells #[.int .i64 x, .int .i64 y] 62 (0, 0)) := by rw [← hW4, ← hgn]; exact World.alloc_heap_new _ _
  have hB4 : Below w.heap.size w W4 := by rw [← hW4]; exact hB.alloc hB.size _
  have hsz4 : W4.heap.size = gn + 1 := by rw [← hW4, ← hgn]; simp
  have d0 := s1.cell
  have f0 : W4.cell? ⟨gn, 0, none⟩ = some (.int .i64 x) := by rw [cell_of_row W4 gn 0 _ _ _ s2]; rfl
  have f1 : W4.cell? ⟨gn, 1, none⟩ = some (.int .i64 y) := by rw [cell_of_row W4 gn 1 _ _ _ s2]; rfl
  have S0 := Lib.hid s0
  have S1 := Lib.hid s1
  have HS4 := Lib.hid hsz4
  have hgn4 : gn < W4.heap.size := by omega
  have hgl4 : g + 1 < W4.heap.size := by omega
  have hg4 : g < W4.heap.size := by omega
  clear hW hg c0 c1 c2 s0 s1 s2 hsz4
  go_wp2
  refine wp_region_noPanic ?_
  go_region_held3 (fun w' => w'.cell? ⟨gn, 0, none⟩ = some (.int .i64 x) ∧ w'.cell? ⟨gn, 1, none⟩ = some (.int .i64 y) ∧ w'.cell? ⟨g + 1, 0, none⟩ = some (.int .i64 l) ∧ W4.heap.size ≤ w'.heap.size) (first | exact ⟨f0, f1, d0, Nat.le_refl _⟩ | exact held3 (by assumption) hgn4 hgl4 (by assumption) | exact held3 (below_alloc _ _) hgn4 hgl4 (by assumption) | exact held3 (below_dr (by assumption)) hgn4 hgl4 (by assumption) | go_keep) (first | (go_at_call 34; refine (copyOfI _ l (g + 1) _ (by first | assumption | exact (‹_ ∧ _ ∧ _ ∧ _›).2.2.1) (by first | omega | (have hh := (‹_ ∧ _ ∧ _ ∧ _›).2.2.2; omega))).mono ?_; rintro e w' ⟨rfl, hBx⟩) | (go_at_call 35; refine (bothI _ _ l (g + 1) _ (by first | assumption | exact (‹_ ∧ _ ∧ _ ∧ _›).2.2.1) (by first | omega | (have hh := (‹_ ∧ _ ∧ _ ∧ _›).2.2.2; omega))).mono ?_; rintro e w' ⟨rfl, hBx⟩))
  refine NoPanic.normal ?_
  rename_i wa hBa wb hBb hH
  obtain ⟨w5, rfl⟩ : ∃ w5, w5 = w' := ⟨_, rfl⟩
  have hB5 : Below W4.heap.size W4 w5 := ((below_dr hBa).trans (hBb.mono hBa.size)).trans (hBx.mono (Nat.le_trans hBa.size hBb.size))
  clear hH hW4 hgn
  have hs5 : W4.heap.size ≤ w5.heap.size := hB5.size
  have hb5 : Below w.heap.size w w5 := hB4.trans (hB5.mono hB4.size)
  obtain ⟨W6, hW6⟩ : ∃ W6, w5.alloc (.cells #[.int .i64 1, .int .i64 x, .int .i64 l, .int .i64 0, .int .i64 1, .int .i64 y, .int .i64 l, .int .i64 0, .int .i64 2, .int .i64 x, .int .i64 y, .int .i64 l] 41) = W6 := ⟨_, rfl⟩
  obtain ⟨g6, hg6⟩ : ∃ g, w5.heap.size = g := ⟨_, rfl⟩
  have u0 : W6.heap[g]? = some (.cells #[.int .i64 1, .int .i64 x, .int .i64 y] 36 (0, 0)) := by rw [← hW6]; exact (Below.heap_alloc _ _ _ (by omega)).trans ((hB5.block g hg4).trans S0.out)
  have u1 : Boxed W6 (g + 1) 3 (.int .i64 l) := by rw [← hW6]; exact (show Boxed w5 (g + 1) 3 (.int .i64 l) from (hB5.block (g + 1) hgl4).trans S1.out).alloc _
  have u2 : OFI 41 4 W6 w.heap.size (some ⟨g6, 0, none⟩) 3 3 [1, x, l, 0, 1, y, l, 0, 2, x, y, l] := by
    refine ⟨rfl, Nat.le_refl _, by simp [maxLen], .inr ⟨g6, _, rfl, by have := hb5.size; omega, by rw [← hW6, ← hg6]; exact World.alloc_heap_new _ _, by simp, rfl⟩⟩
  have hb6 : Below w.heap.size w W6 := by rw [← hW6]; exact hb5.alloc hb5.size _
  have hs6 : W6.heap.size = g6 + 1 := by rw [← hW6, ← hg6]; simp
  subst hg6
  have hgl6 : g + 1 < W6.heap.size := by omega
  obtain ⟨c0, c1, c2⟩ := cells3 u0
  have b0 := u1.cell
  have O6 := Lib.hid u2
  have HS6 := Lib.hid hs6
  clear d0 f0 f1 u0 u1 u2 hs6
  go_wp2_with fail
  refine (bothI x y l (g + 1) W6 b0 hgl6).mono ?_
  rintro e w7 ⟨rfl, hB7⟩
  clear hW6
  have O7 := Lib.hid (O6.out.below hB7 (Nat.le_refl _))
  have hb7 := hb6.trans (hB7.mono hb6.size)
  clear c0 c1 c2 b0
  go_wp2_with fail
  refine (gateValidI 2 x y l HV1.out w7).mono ?_
  rintro e w8 ⟨rfl, hB8⟩
  have O8 := Lib.hid (O7.out.below hB8 (Nat.le_refl _))
  have hb8 := hb7.trans (hB8.mono hb7.size)
  go_wp2_with fail
  refine (containsFuncI _ 3 3 _ w8 O8.out.reads (by omega) HGV.out).mono ?_
  rintro e w9 ⟨rfl, hB9⟩
  go_wp2
  go_ret
  exact ⟨_, _, rfl, O8.out.below hB9 (Nat.le_refl _), hb8.trans (hB9.mono hb8.size)⟩
set_option maxHeartbeats 4000000 in
theorem stepGatesI2 (x y l : Int) (w : World) (h : stL 2 x y l) :
    Calls Try.prog 30 #[.agg #[.int .i64 2, .int .i64 x, .int .i64 y], .int .i64 l] w (fun e w' => ∃ A c, e = .returned (.slice A 2 c) ∧ OFI 41 4 w' w.heap.size A 2 c [1, x, l, 0, 1, y, l, 0] ∧ Below w.heap.size w w') := by
  have HGV := Lib.hid (show AllGV 2 [1, x, l, 0, 1, y, l, 0] from sgL_gv h)
  obtain ⟨h1, h2, h3, h4, h5, h6⟩ := h
  obtain ⟨y0, y1, hxy⟩ := h6 (by decide)
  have HV1 := Lib.hid (show GV 2 x y l from .inr (.inr ⟨rfl, h3, by omega, y0, by omega, by omega, h5, hxy, by omega, by omega⟩))
  clear h6 hxy
  have taandNode : ∀ w, (Instr.typeAssert (.iface 61 (.agg #[.int .i64 x, .int .i64 y])) 57 60 true).run Try.prog w = .ok (.tuple #[.agg #[.int .i64 0, .int .i64 0], .bool false]) w := fun _ => by kernel_rfl
  have taxorNode : ∀ w, (Instr.typeAssert (.iface 61 (.agg #[.int .i64 x, .int .i64 y])) 57 61 true).run Try.prog w = .ok (.tuple #[.agg #[.int .i64 x, .int .i64 y], .bool true]) w := fun _ => by kernel_rfl
  obtain ⟨W, hW⟩ : ∃ W, (w.alloc (.cells #[.int .i64 2, .int .i64 x, .int .i64 y] 36)).alloc (.cells #[.int .i64 l] 3) = W := ⟨_, rfl⟩
  obtain ⟨g, hg⟩ : ∃ g, w.heap.size = g := ⟨_, rfl⟩
  have hsz : W.heap.size = g + 2 := by rw [← hW, ← hg]; simp
  have r0 : W.heap[g]? = some (.cells #[.int .i64 2, .int .i64 x, .int .i64 y] 36 (0, 0)) := by rw [← hW, ← hg]; exact (Below.heap_alloc _ _ _ (by simp)).trans (World.alloc_heap_new _ _)
  have r1 : Boxed W (g + 1) 3 (.int .i64 l) := by
    have h := Boxed.new (w.alloc (.cells #[.int .i64 2, .int .i64 x, .int .i64 y] 36)) 3 (.int .i64 l)
    rw [World.size_alloc, hg] at h; rw [← hW]; exact h
  have hB0 : Below w.heap.size w W := by rw [← hW]; exact ((Below.refl _ _).alloc (Nat.le_refl _) _).alloc (by simp) _
  obtain ⟨c0, c1, c2⟩ := cells3 r0
  have HR0 := Lib.hid r0
  have HR1 := Lib.hid r1
  have HS := Lib.hid hsz
  clear r0 r1 hsz
  go_enter Try.func30, Try.ntmps30
  go_wp2_with fail
  refine (node2 x y _).mono ?_
  rintro e w2 ⟨rfl, hB2⟩
  have HW := Lib.hid hW
  have HG := Lib.hid hg
  have hB := hB0.trans (hB2.mono hB0.size)
  have hs2 : g + 2 ≤ w2.heap.size := by rw [← HS.out]; exact hB2.size
  have HR0' := Lib.hid ((hB2.block g (by rw [HS.out]; omega)).trans HR0.out)
  have HR1' := Lib.hid (show Boxed w2 (g + 1) 3 (.int .i64 l) from (hB2.block (g + 1) (by rw [HS.out]; omega)).trans HR1.out)
  obtain ⟨W4, hW4⟩ : ∃ W4, w2.alloc (.cells #[.int .i64 x, .int .i64 y] 61) = W4 := ⟨_, rfl⟩
  obtain ⟨gn, hgn⟩ : ∃ g, w2.heap.size = g := ⟨_, rfl⟩
  have hgl : g + 1 < w2.heap.size := by omega
  have s0 : W4.heap[g]? = some (.cells #[.int .i64 2, .int .i64 x, .int .i64 y] 36 (0, 0)) := by rw [← hW4]; exact (Below.heap_alloc _ _ _ (by omega)).trans HR0'.out
  have s1 : Boxed W4 (g + 1) 3 (.int .i64 l) := by rw [← hW4]; exact HR1'.out.alloc _
  have s2 : W4.heap[gn]? = some (.cells #[.int .i64 x, .int .i64 y] 61 (0, 0)) := by rw [← hW4, ← hgn]; exact World.alloc_heap_new _ _
  have hB4 : Below w.heap.size w W4 := by rw [← hW4]; exact hB.alloc hB.size _
  have hsz4 : W4.heap.size = gn + 1 := by rw [← hW4, ← hgn]; simp
  have d0 := s1.cell
  have f0 : W4.cell? ⟨gn, 0, none⟩ = some (.int .i64 x) := by rw [cell_of_row W4 gn 0 _ _ _ s2]; rfl
  have f1 : W4.cell? ⟨gn, 1, none⟩ = some (.int .i64 y) := by rw [cell_of_row W4 gn 1 _ _ _ s2]; rfl
  have S0 := Lib.hid s0
  have S1 := Lib.hid s1
  have HS4 := Lib.hid hsz4
  have hgn4 : gn < W4.heap.size := by omega
  have hgl4 : g + 1 < W4.heap.size := by omega
  have hg4 : g < W4.heap.size := by omega
  clear hW hg c0 c1 c2 s0 s1 s2 hsz4
  go_wp2
  refine wp_region_noPanic ?_
  go_region_held3 (fun w' => w'.cell? ⟨gn, 0, none⟩ = some (.int .i64 x) ∧ w'.cell? ⟨gn, 1, none⟩ = some (.int .i64 y) ∧ w'.cell? ⟨g + 1, 0, none⟩ = some (.int .i64 l) ∧ W4.heap.size ≤ w'.heap.size) (first | exact ⟨f0, f1, d0, Nat.le_refl _⟩ | exact held3 (by assumption) hgn4 hgl4 (by assumption) | exact held3 (below_alloc _ _) hgn4 hgl4 (by assumption) | exact held3 (below_dr (by assumption)) hgn4 hgl4 (by assumption) | go_keep) (first | (go_at_call 34; refine (copyOfI _ l (g + 1) _ (by first | assumption | exact (‹_ ∧ _ ∧ _ ∧ _›).2.2.1) (by first | omega | (have hh := (‹_ ∧ _ ∧ _ ∧ _›).2.2.2; omega))).mono ?_; rintro e w' ⟨rfl, hBx⟩) | (go_at_call 35; refine (bothI _ _ l (g + 1) _ (by first | assumption | exact (‹_ ∧ _ ∧ _ ∧ _›).2.2.1) (by first | omega | (have hh := (‹_ ∧ _ ∧ _ ∧ _›).2.2.2; omega))).mono ?_; rintro e w' ⟨rfl, hBx⟩))
  refine NoPanic.normal ?_
  rename_i wa hBa hH
  obtain ⟨w5, rfl⟩ : ∃ w5, w5 = w' := ⟨_, rfl⟩
  have hB5 : Below W4.heap.size W4 w5 := (below_dr hBa).trans (hBx.mono hBa.size)
  clear hH hW4 hgn
  have hs5 : W4.heap.size ≤ w5.heap.size := hB5.size
  have hb5 : Below w.heap.size w w5 := hB4.trans (hB5.mono hB4.size)
  obtain ⟨W6, hW6⟩ : ∃ W6, w5.alloc (.cells #[.int .i64 1, .int .i64 x, .int .i64 l, .int .i64 0, .int .i64 1, .int .i64 y, .int .i64 l, .int .i64 0] 41) = W6 := ⟨_, rfl⟩
  obtain ⟨g6, hg6⟩ : ∃ g, w5.heap.size = g := ⟨_, rfl⟩
  have u0 : W6.heap[g]? = some (.cells #[.int .i64 2, .int .i64 x, .int .i64 y] 36 (0, 0)) := by rw [← hW6]; exact (Below.heap_alloc _ _ _ (by omega)).trans ((hB5.block g hg4).trans S0.out)
  have u1 : Boxed W6 (g + 1) 3 (.int .i64 l) := by rw [← hW6]; exact (show Boxed w5 (g + 1) 3 (.int .i64 l) from (hB5.block (g + 1) hgl4).trans S1.out).alloc _
  have u2 : OFI 41 4 W6 w.heap.size (some ⟨g6, 0, none⟩) 2 2 [1, x, l, 0, 1, y, l, 0] := by
    refine ⟨rfl, Nat.le_refl _, by simp [maxLen], .inr ⟨g6, _, rfl, by have := hb5.size; omega, by rw [← hW6, ← hg6]; exact World.alloc_heap_new _ _, by simp, rfl⟩⟩
  have hb6 : Below w.heap.size w W6 := by rw [← hW6]; exact hb5.alloc hb5.size _
  have hs6 : W6.heap.size = g6 + 1 := by rw [← hW6, ← hg6]; simp
  subst hg6
  have hgl6 : g + 1 < W6.heap.size := by omega
  obtain ⟨c0, c1, c2⟩ := cells3 u0
  have b0 := u1.cell
  have O6 := Lib.hid u2
  have HS6 := Lib.hid hs6
  clear d0 f0 f1 u0 u1 u2 hs6
  go_wp2_with fail
  refine (bothI x y l (g + 1) W6 b0 hgl6).mono ?_
  rintro e w7 ⟨rfl, hB7⟩
  clear hW6
  have O7 := Lib.hid (O6.out.below hB7 (Nat.le_refl _))
  have hb7 := hb6.trans (hB7.mono hb6.size)
  clear c0 c1 c2 b0
  go_wp2_with fail
  refine (gateValidI 2 x y l HV1.out w7).mono ?_
  rintro e w8 ⟨rfl, hB8⟩
  have O8 := Lib.hid (O7.out.below hB8 (Nat.le_refl _))
  have hb8 := hb7.trans (hB8.mono hb7.size)
  go_wp2_with fail
  refine (containsFuncI _ 2 2 _ w8 O8.out.reads (by omega) HGV.out).mono ?_
  rintro e w9 ⟨rfl, hB9⟩
  go_wp2
  go_ret
  exact ⟨_, _, rfl, O8.out.below hB9 (Nat.le_refl _), hb8.trans (hB9.mono hb8.size)⟩
set_option maxHeartbeats 4000000 in
theorem stepGatesI3 (x y l : Int) (w : World) (h : stL 3 x y l) :
    Calls Try.prog 30 #[.agg #[.int .i64 3, .int .i64 x, .int .i64 y], .int .i64 l] w (fun e w' => ∃ A c, e = .returned (.slice A 2 c) ∧ OFI 41 4 w' w.heap.size A 2 c [1, x, l, 0, 0, l, 0, 0] ∧ Below w.heap.size w w') := by
  have HGV := Lib.hid (show AllGV 2 [1, x, l, 0, 0, l, 0, 0] from sgL_gv h)
  obtain ⟨h1, h2, h3, h4, h5, h6⟩ := h
  clear h6
  have taandNode : ∀ w, (Instr.typeAssert (.iface 64 (.agg #[.int .i64 x])) 57 60 true).run Try.prog w = .ok (.tuple #[.agg #[.int .i64 0, .int .i64 0], .bool false]) w := fun _ => by kernel_rfl
  have taxorNode : ∀ w, (Instr.typeAssert (.iface 64 (.agg #[.int .i64 x])) 57 61 true).run Try.prog w = .ok (.tuple #[.agg #[.int .i64 0, .int .i64 0], .bool false]) w := fun _ => by kernel_rfl
  have taorNode : ∀ w, (Instr.typeAssert (.iface 64 (.agg #[.int .i64 x])) 57 62 true).run Try.prog w = .ok (.tuple #[.agg #[.int .i64 0, .int .i64 0], .bool false]) w := fun _ => by kernel_rfl
  have tanotNode : ∀ w, (Instr.typeAssert (.iface 64 (.agg #[.int .i64 x])) 57 64 true).run Try.prog w = .ok (.tuple #[.agg #[.int .i64 x], .bool true]) w := fun _ => by kernel_rfl
  obtain ⟨W, hW⟩ : ∃ W, (w.alloc (.cells #[.int .i64 3, .int .i64 x, .int .i64 y] 36)).alloc (.cells #[.int .i64 l] 3) = W := ⟨_, rfl⟩
  obtain ⟨g, hg⟩ : ∃ g, w.heap.size = g := ⟨_, rfl⟩
  have hsz : W.heap.size = g + 2 := by rw [← hW, ← hg]; simp
  have r0 : W.heap[g]? = some (.cells #[.int .i64 3, .int .i64 x, .int .i64 y] 36 (0, 0)) := by rw [← hW, ← hg]; exact (Below.heap_alloc _ _ _ (by simp)).trans (World.alloc_heap_new _ _)
  have r1 : Boxed W (g + 1) 3 (.int .i64 l) := by
    have h := Boxed.new (w.alloc (.cells #[.int .i64 3, .int .i64 x, .int .i64 y] 36)) 3 (.int .i64 l)
    rw [World.size_alloc, hg] at h; rw [← hW]; exact h
  have hB0 : Below w.heap.size w W := by rw [← hW]; exact ((Below.refl _ _).alloc (Nat.le_refl _) _).alloc (by simp) _
  obtain ⟨c0, c1, c2⟩ := cells3 r0
  have HR0 := Lib.hid r0
  have HR1 := Lib.hid r1
  have HS := Lib.hid hsz
  clear r0 r1 hsz
  go_enter Try.func30, Try.ntmps30
  go_wp2_with fail
  refine (node3 x y _).mono ?_
  rintro e w2 ⟨rfl, hB2⟩
  have HW := Lib.hid hW
  have HG := Lib.hid hg
  have hB := hB0.trans (hB2.mono hB0.size)
  have hs2 : g + 2 ≤ w2.heap.size := by rw [← HS.out]; exact hB2.size
  have HR0' := Lib.hid ((hB2.block g (by rw [HS.out]; omega)).trans HR0.out)
  have HR1' := Lib.hid (show Boxed w2 (g + 1) 3 (.int .i64 l) from (hB2.block (g + 1) (by rw [HS.out]; omega)).trans HR1.out)
  obtain ⟨W4, hW4⟩ : ∃ W4, w2.alloc (.cells #[.int .i64 x] 64) = W4 := ⟨_, rfl⟩
  obtain ⟨gn, hgn⟩ : ∃ g, w2.heap.size = g := ⟨_, rfl⟩
  have hgl : g + 1 < w2.heap.size := by omega
  have s0 : W4.heap[g]? = some (.cells #[.int .i64 3, .int .i64 x, .int .i64 y] 36 (0, 0)) := by rw [← hW4]; exact (Below.heap_alloc _ _ _ (by omega)).trans HR0'.out
  have s1 : Boxed W4 (g + 1) 3 (.int .i64 l) := by rw [← hW4]; exact HR1'.out.alloc _
  have s2 : W4.heap[gn]? = some (.cells #[.int .i64 x] 64 (0, 0)) := by rw [← hW4, ← hgn]; exact World.alloc_heap_new _ _
  have hB4 : Below w.heap.size w W4 := by rw [← hW4]; exact hB.alloc hB.size _
  have hsz4 : W4.heap.size = gn + 1 := by rw [← hW4, ← hgn]; simp
  have d0 := s1.cell
  have f0 : W4.cell? ⟨gn, 0, none⟩ = some (.int .i64 x) := by rw [cell_of_row W4 gn 0 _ _ _ s2]; rfl
  have S0 := Lib.hid s0
  have S1 := Lib.hid s1
  have HS4 := Lib.hid hsz4
  have hgn4 : gn < W4.heap.size := by omega
  have hgl4 : g + 1 < W4.heap.size := by omega
  have hg4 : g < W4.heap.size := by omega
  clear hW hg c0 c1 c2 s0 s1 s2 hsz4
  go_wp2
  refine wp_region_noPanic ?_
  go_region_held3 (fun w' => w'.cell? ⟨gn, 0, none⟩ = some (.int .i64 x) ∧ w'.cell? ⟨g + 1, 0, none⟩ = some (.int .i64 l) ∧ W4.heap.size ≤ w'.heap.size) (first | exact ⟨f0, d0, Nat.le_refl _⟩ | exact held2 (by assumption) hgn4 hgl4 (by assumption) | exact held2 (below_alloc _ _) hgn4 hgl4 (by assumption) | exact held2 (below_dr (by assumption)) hgn4 hgl4 (by assumption) | go_keep) (first | (go_at_call 34; refine (copyOfI _ l (g + 1) _ (by first | assumption | exact (‹_ ∧ _ ∧ _›).2.1) (by first | omega | (have hh := (‹_ ∧ _ ∧ _›).2.2; omega))).mono ?_; rintro e w' ⟨rfl, hBx⟩) | (go_at_call 35; refine (bothI _ _ l (g + 1) _ (by first | assumption | exact (‹_ ∧ _ ∧ _›).2.1) (by first | omega | (have hh := (‹_ ∧ _ ∧ _›).2.2; omega))).mono ?_; rintro e w' ⟨rfl, hBx⟩))
  refine NoPanic.normal ?_
  rename_i hH
  obtain ⟨w5, rfl⟩ : ∃ w5, w5 = w' := ⟨_, rfl⟩
  have hB5 : Below W4.heap.size W4 w5 := below_dr hBx
  clear hH hW4 hgn
  have hs5 : W4.heap.size ≤ w5.heap.size := hB5.size
  have hb5 : Below w.heap.size w w5 := hB4.trans (hB5.mono hB4.size)
  obtain ⟨W6, hW6⟩ : ∃ W6, w5.alloc (.cells #[.int .i64 1, .int .i64 x, .int .i64 l, .int .i64 0, .int .i64 0, .int .i64 l, .int .i64 0, .int .i64 0] 41) = W6 := ⟨_, rfl⟩
  obtain ⟨g6, hg6⟩ : ∃ g, w5.heap.size = g := ⟨_, rfl⟩
  have u0 : W6.heap[g]? = some (.cells #[.int .i64 3, .int .i64 x, .int .i64 y] 36 (0, 0)) := by rw [← hW6]; exact (Below.heap_alloc _ _ _ (by omega)).trans ((hB5.block g hg4).trans S0.out)
  have u1 : Boxed W6 (g + 1) 3 (.int .i64 l) := by rw [← hW6]; exact (show Boxed w5 (g + 1) 3 (.int .i64 l) from (hB5.block (g + 1) hgl4).trans S1.out).alloc _
  have u2 : OFI 41 4 W6 w.heap.size (some ⟨g6, 0, none⟩) 2 2 [1, x, l, 0, 0, l, 0, 0] := by
    refine ⟨rfl, Nat.le_refl _, by simp [maxLen], .inr ⟨g6, _, rfl, by have := hb5.size; omega, by rw [← hW6, ← hg6]; exact World.alloc_heap_new _ _, by simp, rfl⟩⟩
  have hb6 : Below w.heap.size w W6 := by rw [← hW6]; exact hb5.alloc hb5.size _
  have hs6 : W6.heap.size = g6 + 1 := by rw [← hW6, ← hg6]; simp
  subst hg6
  have hgl6 : g + 1 < W6.heap.size := by omega
  obtain ⟨c0, c1, c2⟩ := cells3 u0
  have b0 := u1.cell
  have O6 := Lib.hid u2
  have HS6 := Lib.hid hs6
  clear d0 f0 u0 u1 u2 hs6
  go_wp2_with fail
  refine (containsFuncI _ 2 2 _ W6 O6.out.reads (by omega) HGV.out).mono ?_
  rintro e w9 ⟨rfl, hB9⟩
  clear hW6
  clear c0 c1 c2 b0
  go_wp2
  go_ret
  exact ⟨_, _, rfl, O6.out.below hB9 (Nat.le_refl _), hb6.trans (hB9.mono hb6.size)⟩
end Go.Proofs.Ytkpjlkahebeljaa

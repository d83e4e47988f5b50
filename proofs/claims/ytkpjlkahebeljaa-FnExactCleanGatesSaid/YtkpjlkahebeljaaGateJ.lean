/- Contracts of the program: the lines of a gate. -/
import Derived.Test.YtkpjlkahebeljaaGateI
namespace Go.Proofs.Ytkpjlkahebeljaa
open Go.RowKit
set_option linter.unusedVariables false

/-- a new slice of ints that the call may append to -/
def GivesOS (w : World) (zs : List Int) (e : Ending) (w' : World) : Prop := ∃ A n c, e = .returned (.slice A n c) ∧ OS w' w.heap.size A n c zs ∧ Below w.heap.size w w'
set_option maxHeartbeats 2000000 in
theorem some0L (a : Int) (w : World) : Calls Try.prog 45 #[.agg #[.int .i64 0, .int .i64 a, .int .i64 0, .int .i64 0], .int .i64 (1)] w (GivesOS w [a]) := by
  have x0 : ∀ w, (Instr.index 79 (.agg #[.int .i64 a, .int .i64 0, .int .i64 0]) (.int .i64 0)).run Try.prog w = .ok (.int .i64 a) w := fun _ => by kernel_rfl
  have x1 : ∀ w, (Instr.index 79 (.agg #[.int .i64 a, .int .i64 0, .int .i64 0]) (.int .i64 1)).run Try.prog w = .ok (.int .i64 0) w := fun _ => by kernel_rfl
  have x2 : ∀ w, (Instr.index 79 (.agg #[.int .i64 a, .int .i64 0, .int .i64 0]) (.int .i64 2)).run Try.prog w = .ok (.int .i64 0) w := fun _ => by kernel_rfl
  go_enter Try.func45, Try.ntmps45
  go_wp2_with (at_make; refine wpList_mk0 _ rfl _ _ rfl 3 _ rfl rfl rfl (by omega) ?_; intro w1 hO1 hg1; have hrow := (hg1.block w.heap.size (by simp) (by simp)).trans (World.alloc_heap_new w (.cells #[.int .i64 0, .int .i64 a, .int .i64 0, .int .i64 0] 41)); obtain ⟨c0, c1, c2, c3⟩ := cells4 hrow; clear hrow)
  have hb1 : Below w.heap.size w w1 := ((Below.refl _ _).alloc (Nat.le_refl _) _).grown hg1 (by simp) (fun q e => by cases e)
  rw [World.size_alloc] at hO1
  have HO := Lib.hid (show OS w1 w.heap.size (some ⟨w.heap.size + 1, 0, none⟩) 0 3 [] from ⟨hO1.1, hO1.2.imp id (fun ⟨g, cap, cur, h1, h2, h3⟩ => ⟨g, cap, cur, h1, by omega, h3⟩)⟩)
  clear hO1 hg1
  refine wp_loop_rounds 4 ?_
  rw [rounds_succ]
  have hs0 := hb1.size
  go_wp2_with (at_builtin; refine wpList_push _ a rfl _ _ rfl w.heap.size _ 0 _ [] rfl rfl HO.out (by omega) hs0 ?_; intro g0 d0 w2 hO0 hg0)
  have hb2 : Below w.heap.size w w2 := hb1.grown hg0 hs0 (fun q e => (HO.out.lt q e).1)
  have HO0 := Lib.hid hO0
  clear hO0 hg0
  rw [rounds_succ]
  go_wp2
  rw [rounds_succ]
  go_wp2
  rw [rounds_succ]
  go_wp2
  go_ret
  exact ⟨_, _, _, rfl, HO0.out, hb2⟩
set_option maxHeartbeats 2000000 in
theorem some0R (a : Int) (w : World) : Calls Try.prog 45 #[.agg #[.int .i64 0, .int .i64 a, .int .i64 0, .int .i64 0], .int .i64 (-2)] w (GivesOS w [0, 0]) := by
  have x0 : ∀ w, (Instr.index 79 (.agg #[.int .i64 a, .int .i64 0, .int .i64 0]) (.int .i64 0)).run Try.prog w = .ok (.int .i64 a) w := fun _ => by kernel_rfl
  have x1 : ∀ w, (Instr.index 79 (.agg #[.int .i64 a, .int .i64 0, .int .i64 0]) (.int .i64 1)).run Try.prog w = .ok (.int .i64 0) w := fun _ => by kernel_rfl
  have x2 : ∀ w, (Instr.index 79 (.agg #[.int .i64 a, .int .i64 0, .int .i64 0]) (.int .i64 2)).run Try.prog w = .ok (.int .i64 0) w := fun _ => by kernel_rfl
  go_enter Try.func45, Try.ntmps45
  go_wp2_with (at_make; refine wpList_mk0 _ rfl _ _ rfl 3 _ rfl rfl rfl (by omega) ?_; intro w1 hO1 hg1; have hrow := (hg1.block w.heap.size (by simp) (by simp)).trans (World.alloc_heap_new w (.cells #[.int .i64 0, .int .i64 a, .int .i64 0, .int .i64 0] 41)); obtain ⟨c0, c1, c2, c3⟩ := cells4 hrow; clear hrow)
  have hb1 : Below w.heap.size w w1 := ((Below.refl _ _).alloc (Nat.le_refl _) _).grown hg1 (by simp) (fun q e => by cases e)
  rw [World.size_alloc] at hO1
  have HO := Lib.hid (show OS w1 w.heap.size (some ⟨w.heap.size + 1, 0, none⟩) 0 3 [] from ⟨hO1.1, hO1.2.imp id (fun ⟨g, cap, cur, h1, h2, h3⟩ => ⟨g, cap, cur, h1, by omega, h3⟩)⟩)
  clear hO1 hg1
  refine wp_loop_rounds 4 ?_
  rw [rounds_succ]
  go_wp2
  rw [rounds_succ]
  have hs1 := hb1.size
  go_wp2_with (at_builtin; refine wpList_push _ 0 rfl _ _ rfl w.heap.size _ 0 _ [] rfl rfl HO.out (by omega) hs1 ?_; intro g1 d1 w3 hO1 hg1)
  have hb3 : Below w.heap.size w w3 := hb1.grown hg1 hs1 (fun q e => (HO.out.lt q e).1)
  have HO1 := Lib.hid hO1
  clear hO1 hg1
  rw [rounds_succ]
  have hs2 := hb3.size
  go_wp2_with (at_builtin; refine wpList_push _ 0 rfl _ _ rfl w.heap.size _ 1 _ [0] rfl rfl HO1.out (by omega) hs2 ?_; intro g2 d2 w4 hO2 hg2)
  have hb4 : Below w.heap.size w w4 := hb3.grown hg2 hs2 (fun q e => (HO1.out.lt q e).1)
  have HO2 := Lib.hid hO2
  clear hO2 hg2
  rw [rounds_succ]
  go_wp2
  go_ret
  exact ⟨_, _, _, rfl, HO2.out, hb4⟩
set_option maxHeartbeats 2000000 in
theorem some1L (a b : Int) (w : World) : Calls Try.prog 45 #[.agg #[.int .i64 1, .int .i64 a, .int .i64 b, .int .i64 0], .int .i64 (3)] w (GivesOS w [a, b]) := by
  have x0 : ∀ w, (Instr.index 79 (.agg #[.int .i64 a, .int .i64 b, .int .i64 0]) (.int .i64 0)).run Try.prog w = .ok (.int .i64 a) w := fun _ => by kernel_rfl
  have x1 : ∀ w, (Instr.index 79 (.agg #[.int .i64 a, .int .i64 b, .int .i64 0]) (.int .i64 1)).run Try.prog w = .ok (.int .i64 b) w := fun _ => by kernel_rfl
  have x2 : ∀ w, (Instr.index 79 (.agg #[.int .i64 a, .int .i64 b, .int .i64 0]) (.int .i64 2)).run Try.prog w = .ok (.int .i64 0) w := fun _ => by kernel_rfl
  go_enter Try.func45, Try.ntmps45
  go_wp2_with (at_make; refine wpList_mk0 _ rfl _ _ rfl 3 _ rfl rfl rfl (by omega) ?_; intro w1 hO1 hg1; have hrow := (hg1.block w.heap.size (by simp) (by simp)).trans (World.alloc_heap_new w (.cells #[.int .i64 1, .int .i64 a, .int .i64 b, .int .i64 0] 41)); obtain ⟨c0, c1, c2, c3⟩ := cells4 hrow; clear hrow)
  have hb1 : Below w.heap.size w w1 := ((Below.refl _ _).alloc (Nat.le_refl _) _).grown hg1 (by simp) (fun q e => by cases e)
  rw [World.size_alloc] at hO1
  have HO := Lib.hid (show OS w1 w.heap.size (some ⟨w.heap.size + 1, 0, none⟩) 0 3 [] from ⟨hO1.1, hO1.2.imp id (fun ⟨g, cap, cur, h1, h2, h3⟩ => ⟨g, cap, cur, h1, by omega, h3⟩)⟩)
  clear hO1 hg1
  refine wp_loop_rounds 4 ?_
  rw [rounds_succ]
  have hs0 := hb1.size
  go_wp2_with (at_builtin; refine wpList_push _ a rfl _ _ rfl w.heap.size _ 0 _ [] rfl rfl HO.out (by omega) hs0 ?_; intro g0 d0 w2 hO0 hg0)
  have hb2 : Below w.heap.size w w2 := hb1.grown hg0 hs0 (fun q e => (HO.out.lt q e).1)
  have HO0 := Lib.hid hO0
  clear hO0 hg0
  rw [rounds_succ]
  have hs1 := hb2.size
  go_wp2_with (at_builtin; refine wpList_push _ b rfl _ _ rfl w.heap.size _ 1 _ [a] rfl rfl HO0.out (by omega) hs1 ?_; intro g1 d1 w3 hO1 hg1)
  have hb3 : Below w.heap.size w w3 := hb2.grown hg1 hs1 (fun q e => (HO0.out.lt q e).1)
  have HO1 := Lib.hid hO1
  clear hO1 hg1
  rw [rounds_succ]
  go_wp2
  rw [rounds_succ]
  go_wp2
  go_ret
  exact ⟨_, _, _, rfl, HO1.out, hb3⟩
set_option maxHeartbeats 2000000 in
theorem some1R (a b : Int) (w : World) : Calls Try.prog 45 #[.agg #[.int .i64 1, .int .i64 a, .int .i64 b, .int .i64 0], .int .i64 (-4)] w (GivesOS w [0]) := by
  have x0 : ∀ w, (Instr.index 79 (.agg #[.int .i64 a, .int .i64 b, .int .i64 0]) (.int .i64 0)).run Try.prog w = .ok (.int .i64 a) w := fun _ => by kernel_rfl
  have x1 : ∀ w, (Instr.index 79 (.agg #[.int .i64 a, .int .i64 b, .int .i64 0]) (.int .i64 1)).run Try.prog w = .ok (.int .i64 b) w := fun _ => by kernel_rfl
  have x2 : ∀ w, (Instr.index 79 (.agg #[.int .i64 a, .int .i64 b, .int .i64 0]) (.int .i64 2)).run Try.prog w = .ok (.int .i64 0) w := fun _ => by kernel_rfl
  go_enter Try.func45, Try.ntmps45
  go_wp2_with (at_make; refine wpList_mk0 _ rfl _ _ rfl 3 _ rfl rfl rfl (by omega) ?_; intro w1 hO1 hg1; have hrow := (hg1.block w.heap.size (by simp) (by simp)).trans (World.alloc_heap_new w (.cells #[.int .i64 1, .int .i64 a, .int .i64 b, .int .i64 0] 41)); obtain ⟨c0, c1, c2, c3⟩ := cells4 hrow; clear hrow)
  have hb1 : Below w.heap.size w w1 := ((Below.refl _ _).alloc (Nat.le_refl _) _).grown hg1 (by simp) (fun q e => by cases e)
  rw [World.size_alloc] at hO1
  have HO := Lib.hid (show OS w1 w.heap.size (some ⟨w.heap.size + 1, 0, none⟩) 0 3 [] from ⟨hO1.1, hO1.2.imp id (fun ⟨g, cap, cur, h1, h2, h3⟩ => ⟨g, cap, cur, h1, by omega, h3⟩)⟩)
  clear hO1 hg1
  refine wp_loop_rounds 4 ?_
  rw [rounds_succ]
  go_wp2
  rw [rounds_succ]
  go_wp2
  rw [rounds_succ]
  have hs2 := hb1.size
  go_wp2_with (at_builtin; refine wpList_push _ 0 rfl _ _ rfl w.heap.size _ 0 _ [] rfl rfl HO.out (by omega) hs2 ?_; intro g2 d2 w4 hO2 hg2)
  have hb4 : Below w.heap.size w w4 := hb1.grown hg2 hs2 (fun q e => (HO.out.lt q e).1)
  have HO2 := Lib.hid hO2
  clear hO2 hg2
  rw [rounds_succ]
  go_wp2
  go_ret
  exact ⟨_, _, _, rfl, HO2.out, hb4⟩
set_option maxHeartbeats 2000000 in
theorem some2L (a b c : Int) (w : World) : Calls Try.prog 45 #[.agg #[.int .i64 2, .int .i64 a, .int .i64 b, .int .i64 c], .int .i64 (7)] w (GivesOS w [a, b, c]) := by
  have x0 : ∀ w, (Instr.index 79 (.agg #[.int .i64 a, .int .i64 b, .int .i64 c]) (.int .i64 0)).run Try.prog w = .ok (.int .i64 a) w := fun _ => by kernel_rfl
  have x1 : ∀ w, (Instr.index 79 (.agg #[.int .i64 a, .int .i64 b, .int .i64 c]) (.int .i64 1)).run Try.prog w = .ok (.int .i64 b) w := fun _ => by kernel_rfl
  have x2 : ∀ w, (Instr.index 79 (.agg #[.int .i64 a, .int .i64 b, .int .i64 c]) (.int .i64 2)).run Try.prog w = .ok (.int .i64 c) w := fun _ => by kernel_rfl
  go_enter Try.func45, Try.ntmps45
  go_wp2_with (at_make; refine wpList_mk0 _ rfl _ _ rfl 3 _ rfl rfl rfl (by omega) ?_; intro w1 hO1 hg1; have hrow := (hg1.block w.heap.size (by simp) (by simp)).trans (World.alloc_heap_new w (.cells #[.int .i64 2, .int .i64 a, .int .i64 b, .int .i64 c] 41)); obtain ⟨c0, c1, c2, c3⟩ := cells4 hrow; clear hrow)
  have hb1 : Below w.heap.size w w1 := ((Below.refl _ _).alloc (Nat.le_refl _) _).grown hg1 (by simp) (fun q e => by cases e)
  rw [World.size_alloc] at hO1
  have HO := Lib.hid (show OS w1 w.heap.size (some ⟨w.heap.size + 1, 0, none⟩) 0 3 [] from ⟨hO1.1, hO1.2.imp id (fun ⟨g, cap, cur, h1, h2, h3⟩ => ⟨g, cap, cur, h1, by omega, h3⟩)⟩)
  clear hO1 hg1
  refine wp_loop_rounds 4 ?_
  rw [rounds_succ]
  have hs0 := hb1.size
  go_wp2_with (at_builtin; refine wpList_push _ a rfl _ _ rfl w.heap.size _ 0 _ [] rfl rfl HO.out (by omega) hs0 ?_; intro g0 d0 w2 hO0 hg0)
  have hb2 : Below w.heap.size w w2 := hb1.grown hg0 hs0 (fun q e => (HO.out.lt q e).1)
  have HO0 := Lib.hid hO0
  clear hO0 hg0
  rw [rounds_succ]
  have hs1 := hb2.size
  go_wp2_with (at_builtin; refine wpList_push _ b rfl _ _ rfl w.heap.size _ 1 _ [a] rfl rfl HO0.out (by omega) hs1 ?_; intro g1 d1 w3 hO1 hg1)
  have hb3 : Below w.heap.size w w3 := hb2.grown hg1 hs1 (fun q e => (HO0.out.lt q e).1)
  have HO1 := Lib.hid hO1
  clear hO1 hg1
  rw [rounds_succ]
  have hs2 := hb3.size
  go_wp2_with (at_builtin; refine wpList_push _ c rfl _ _ rfl w.heap.size _ 2 _ [a, b] rfl rfl HO1.out (by omega) hs2 ?_; intro g2 d2 w4 hO2 hg2)
  have hb4 : Below w.heap.size w w4 := hb3.grown hg2 hs2 (fun q e => (HO1.out.lt q e).1)
  have HO2 := Lib.hid hO2
  clear hO2 hg2
  rw [rounds_succ]
  go_wp2
  go_ret
  exact ⟨_, _, _, rfl, HO2.out, hb4⟩
set_option maxHeartbeats 2000000 in
theorem some2R (a b c : Int) (w : World) : Calls Try.prog 45 #[.agg #[.int .i64 2, .int .i64 a, .int .i64 b, .int .i64 c], .int .i64 (-8)] w (GivesOS w []) := by
  have x0 : ∀ w, (Instr.index 79 (.agg #[.int .i64 a, .int .i64 b, .int .i64 c]) (.int .i64 0)).run Try.prog w = .ok (.int .i64 a) w := fun _ => by kernel_rfl
  have x1 : ∀ w, (Instr.index 79 (.agg #[.int .i64 a, .int .i64 b, .int .i64 c]) (.int .i64 1)).run Try.prog w = .ok (.int .i64 b) w := fun _ => by kernel_rfl
  have x2 : ∀ w, (Instr.index 79 (.agg #[.int .i64 a, .int .i64 b, .int .i64 c]) (.int .i64 2)).run Try.prog w = .ok (.int .i64 c) w := fun _ => by kernel_rfl
  go_enter Try.func45, Try.ntmps45
  go_wp2_with (at_make; refine wpList_mk0 _ rfl _ _ rfl 3 _ rfl rfl rfl (by omega) ?_; intro w1 hO1 hg1; have hrow := (hg1.block w.heap.size (by simp) (by simp)).trans (World.alloc_heap_new w (.cells #[.int .i64 2, .int .i64 a, .int .i64 b, .int .i64 c] 41)); obtain ⟨c0, c1, c2, c3⟩ := cells4 hrow; clear hrow)
  have hb1 : Below w.heap.size w w1 := ((Below.refl _ _).alloc (Nat.le_refl _) _).grown hg1 (by simp) (fun q e => by cases e)
  rw [World.size_alloc] at hO1
  have HO := Lib.hid (show OS w1 w.heap.size (some ⟨w.heap.size + 1, 0, none⟩) 0 3 [] from ⟨hO1.1, hO1.2.imp id (fun ⟨g, cap, cur, h1, h2, h3⟩ => ⟨g, cap, cur, h1, by omega, h3⟩)⟩)
  clear hO1 hg1
  refine wp_loop_rounds 4 ?_
  rw [rounds_succ]
  go_wp2
  rw [rounds_succ]
  go_wp2
  rw [rounds_succ]
  go_wp2
  rw [rounds_succ]
  go_wp2
  go_ret
  exact ⟨_, _, _, rfl, HO.out, hb1⟩
end Go.Proofs.Ytkpjlkahebeljaa

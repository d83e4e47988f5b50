/- Contracts of the reference: valid gates, gates of a step. -/
import Derived.Test.YtkpjlkahebeljaaForm
import Derived.Test.YtkpjlkahebeljaaPlGate
import Derived.Test.YtkpjlkahebeljaaStepsA
import Derived.Deep.RegionWith
import Derived.LoopN
import Derived.BigQuiet
import Derived.Deep.QuietTactic
import Derived.Outline
namespace Go.Proofs.Ytkpjlkahebeljaa
open Go.RowKit
set_option linter.unusedVariables false

theorem quiet_of_eq {P : Program} {f : FuncId} {args : Array Value} {w : World} {n : Nat} {v : Value}
    (h : Calls P f args (w.drewN n) fun e w' => e = .returned v ∧ w.drewN n = w') : Calls P f args (w.drewN n) fun e w'' => e = .returned v ∧ ∃ m, w'' = w.drewN m :=
  h.mono fun _ _ ⟨he, hm⟩ => ⟨he, n, hm.symm⟩
theorem cells4 {w : World} {g : Nat} {T : TypeId} {a b c d : Value} (h : w.heap[g]? = some (.cells #[a, b, c, d] T (0, 0))) :
    w.cell? ⟨g, 0, none⟩ = some a ∧ w.cell? ⟨g, 1, none⟩ = some b ∧ w.cell? ⟨g, 2, none⟩ = some c ∧ w.cell? ⟨g, 3, none⟩ = some d := by
  refine ⟨?_, ?_, ?_, ?_⟩
  · rw [cell_of_row w g 0 _ _ _ h]; rfl
  · rw [cell_of_row w g 1 _ _ _ h]; rfl
  · rw [cell_of_row w g 2 _ _ _ h]; rfl
  · rw [cell_of_row w g 3 _ _ _ h]; rfl
theorem l1Has_f (A : Option Addr) (n c : Nat) (zs : List Int) (x : Int) (w : World) (hr : RI w w.heap.size A n zs) (hn : n ≤ 10) (hx : ∀ z ∈ zs, (z == x) = false) :
    Calls Try.prog 42 #[.slice A n c, .int .i64 x] w fun e w' => e = .returned (.bool false) ∧ w = w' := by
  have HX := Lib.hid hx
  clear hx
  go_enter Try.func42, Try.ntmps42
  go_wp2
  go_loop [5] (fun i => ∃ (k : Nat), k ≤ n ∧ i = .int .i64 k) (fun i => n - (intOf i).toNat)
  case atStart => exact ⟨0, Nat.zero_le _, rfl⟩
  case round =>
    obtain ⟨k, hk, rfl⟩ := hrel
    by_cases hlt : k < n
    · obtain ⟨ad, z, rfl, hb, hz, hc⟩ := hr.at_ hlt
      have hq := HX.out z (List.mem_of_getElem? hz)
      clear hz
      go_wp2
      go_round
      case rel => exact ⟨k + 1, by omega, by go_num⟩
      case measure => simp [intOf]; omega
    · obtain rfl : k = n := by omega
      go_wp2
      go_ret
      exact ⟨rfl, rfl⟩
theorem linesOf0 (a : Int) (w : World) : Calls Try.prog 41 #[.agg #[.int .i64 0, .int .i64 a, .int .i64 0, .int .i64 0]] w fun e w' =>
    ∃ g, e = .returned (.slice (some ⟨g, 0, none⟩) 1 1) ∧ OI w' w.heap.size (some ⟨g, 0, none⟩) 1 1 [a] ∧ Below w.heap.size w w' := by
  go_enter Try.func41, Try.ntmps41
  go_wp2
  go_ret
  have h := World.alloc_heap_new (w.alloc (.cells #[.int .i64 0, .int .i64 a, .int .i64 0, .int .i64 0] 41)) (.cells #[.int .i64 a] 3)
  rw [World.size_alloc] at h
  exact ⟨_, rfl, ⟨rfl, Nat.le_refl _, by simp [maxLen], .inr ⟨_, _, rfl, by omega, h, by simp, rfl⟩⟩, ((Below.refl _ _).alloc (Nat.le_refl _) _).alloc (by simp) _⟩
theorem linesOf1 (a b : Int) (w : World) : Calls Try.prog 41 #[.agg #[.int .i64 1, .int .i64 a, .int .i64 b, .int .i64 0]] w fun e w' =>
    ∃ g, e = .returned (.slice (some ⟨g, 0, none⟩) 2 2) ∧ OI w' w.heap.size (some ⟨g, 0, none⟩) 2 2 [a, b] ∧ Below w.heap.size w w' := by
  go_enter Try.func41, Try.ntmps41
  go_wp2
  go_ret
  have h := World.alloc_heap_new (w.alloc (.cells #[.int .i64 1, .int .i64 a, .int .i64 b, .int .i64 0] 41)) (.cells #[.int .i64 a, .int .i64 b] 3)
  rw [World.size_alloc] at h
  exact ⟨_, rfl, ⟨rfl, Nat.le_refl _, by simp [maxLen], .inr ⟨_, _, rfl, by omega, h, by simp, rfl⟩⟩, ((Below.refl _ _).alloc (Nat.le_refl _) _).alloc (by simp) _⟩
theorem linesOf2 (a b c : Int) (w : World) : Calls Try.prog 41 #[.agg #[.int .i64 2, .int .i64 a, .int .i64 b, .int .i64 c]] w fun e w' =>
    ∃ g, e = .returned (.slice (some ⟨g, 0, none⟩) 3 3) ∧ OI w' w.heap.size (some ⟨g, 0, none⟩) 3 3 [a, b, c] ∧ Below w.heap.size w w' := by
  go_enter Try.func41, Try.ntmps41
  go_wp2
  go_ret
  have h := World.alloc_heap_new (w.alloc (.cells #[.int .i64 2, .int .i64 a, .int .i64 b, .int .i64 c] 41)) (.cells #[.int .i64 a, .int .i64 b, .int .i64 c] 3)
  rw [World.size_alloc] at h
  exact ⟨_, rfl, ⟨rfl, Nat.le_refl _, by simp [maxLen], .inr ⟨_, _, rfl, by omega, h, by simp, rfl⟩⟩, ((Below.refl _ _).alloc (Nat.le_refl _) _).alloc (by simp) _⟩
set_option maxHeartbeats 4000000 in
theorem gateValidS0 (a : Int) (w : World) (ha0 : 0 ≤ a) (ha7 : a ≤ 7) : Calls Try.prog 33 #[.int .i64 8, .agg #[.int .i64 0, .int .i64 a, .int .i64 0, .int .i64 0]] w (GivesT w true) := by
  have ia : inB a 0 7 = true := inB_t ha0 ha7
  have i8 : inB 8 1 8 = true := by decide
  have hcl : True := trivial
  obtain ⟨W, hW⟩ : ∃ W, w.alloc (.cells #[.int .i64 0, .int .i64 a, .int .i64 0, .int .i64 0] 41) = W := ⟨_, rfl⟩
  obtain ⟨g, hg⟩ : ∃ g, w.heap.size = g := ⟨_, rfl⟩
  have hrow : W.heap[g]? = some (.cells #[.int .i64 0, .int .i64 a, .int .i64 0, .int .i64 0] 41 (0, 0)) := by rw [← hW, ← hg]; exact World.alloc_heap_new _ _
  have hB0 : Below w.heap.size w W := by rw [← hW]; exact (Below.refl _ _).alloc (Nat.le_refl _) _
  obtain ⟨c0, c1, c2, c3⟩ := cells4 hrow
  go_enter Try.func33, Try.ntmps33
  go_wp2_with fail
  refine (linesOf0 a _).mono ?_
  rintro e w1 ⟨g1, rfl, hO, hB1⟩
  have HW := Lib.hid hW
  have HG := Lib.hid hg
  have hB := hB0.trans (hB1.mono hB0.size)
  have hlt : g < W.heap.size := (Array.getElem?_eq_some_iff.1 hrow).1
  have hrow1 : w1.heap[g]? = some (.cells #[.int .i64 0, .int .i64 a, .int .i64 0, .int .i64 0] 41 (0, 0)) := (hB1.block _ hlt).trans hrow
  have HX := Lib.hid hrow1
  have HC := Lib.hid hO
  clear hW hg c0 c1 c2 c3 hrow hrow1 hO
  go_wp2
  refine wp_loop_rounds 2 ?_
  have k0 : w1.cell? ⟨g1, 0, none⟩ = some (.int .i64 a) := HC.out.cellAt (by omega)
  have hh := fun w' (h : ∃ n', w' = w1.drewN n') => l1Has_f (some ⟨g1, 0, none⟩) 0 1 [] a w' (by obtain ⟨n', rfl⟩ := h; exact HC.out.reads.take (j := 0) (by omega)) (by omega) (by simp)
  have HH := Lib.hid hh
  clear hh
  rw [rounds_succ]
  go_wp2
  go_quiet ((first | (go_at_call 27; exact quiet_of_eq (l1In _ _ _ _)) | (go_at_call 42; exact quiet_of_eq (HH.out _ ⟨_, rfl⟩))))
  go_wp2
  obtain ⟨w2, hw⟩ : ∃ x, w1.drewN nq = x := ⟨_, rfl⟩
  have HC2 : Hid (OI w2 W.heap.size (some ⟨g1, 0, none⟩) 1 1 [a]) := by rw [← hw]; exact HC.out.drewN _
  have HB2 : Below w.heap.size w w2 := by rw [← hw]; exact below_drewN hB _
  have HR2 : Hid (w2.heap[g]? = some (.cells #[.int .i64 0, .int .i64 a, .int .i64 0, .int .i64 0] 41 (0, 0))) := by rw [← hw]; exact HX.out
  rw [hw]
  clear hw HC hB HX HH k0
  obtain ⟨HC, hB, HX⟩ := And.intro HC2 (And.intro HB2 HR2)
  clear HC2 HB2 HR2
  obtain ⟨c0, c1, c2, c3⟩ := cells4 HX.out
  rw [rounds_succ]
  go_wp2_with (go_at_call 27; refine (l1In _ _ _ _).mono ?_; rintro e w' ⟨rfl, rfl⟩)
  go_ret
  exact ⟨rfl, hB⟩
set_option maxHeartbeats 4000000 in
theorem gateValidS1 (a b : Int) (w : World) (ha0 : 0 ≤ a) (ha7 : a ≤ 7) (hb0 : 0 ≤ b) (hb7 : b ≤ 7) (hab : a ≠ b) : Calls Try.prog 33 #[.int .i64 8, .agg #[.int .i64 1, .int .i64 a, .int .i64 b, .int .i64 0]] w (GivesT w true) := by
  have ia : inB a 0 7 = true := inB_t ha0 ha7
  have ib : inB b 0 7 = true := inB_t hb0 hb7
  have i8 : inB 8 1 8 = true := by decide
  have qab : (a == b) = false := by simpa using hab
  have hcl : True := trivial
  clear hab
  obtain ⟨W, hW⟩ : ∃ W, w.alloc (.cells #[.int .i64 1, .int .i64 a, .int .i64 b, .int .i64 0] 41) = W := ⟨_, rfl⟩
  obtain ⟨g, hg⟩ : ∃ g, w.heap.size = g := ⟨_, rfl⟩
  have hrow : W.heap[g]? = some (.cells #[.int .i64 1, .int .i64 a, .int .i64 b, .int .i64 0] 41 (0, 0)) := by rw [← hW, ← hg]; exact World.alloc_heap_new _ _
  have hB0 : Below w.heap.size w W := by rw [← hW]; exact (Below.refl _ _).alloc (Nat.le_refl _) _
  obtain ⟨c0, c1, c2, c3⟩ := cells4 hrow
  go_enter Try.func33, Try.ntmps33
  go_wp2_with fail
  refine (linesOf1 a b _).mono ?_
  rintro e w1 ⟨g1, rfl, hO, hB1⟩
  have HW := Lib.hid hW
  have HG := Lib.hid hg
  have hB := hB0.trans (hB1.mono hB0.size)
  have hlt : g < W.heap.size := (Array.getElem?_eq_some_iff.1 hrow).1
  have hrow1 : w1.heap[g]? = some (.cells #[.int .i64 1, .int .i64 a, .int .i64 b, .int .i64 0] 41 (0, 0)) := (hB1.block _ hlt).trans hrow
  have HX := Lib.hid hrow1
  have HC := Lib.hid hO
  clear hW hg c0 c1 c2 c3 hrow hrow1 hO
  go_wp2
  refine wp_loop_rounds 3 ?_
  have k0 : w1.cell? ⟨g1, 0, none⟩ = some (.int .i64 a) := HC.out.cellAt (by omega)
  have hh := fun w' (h : ∃ n', w' = w1.drewN n') => l1Has_f (some ⟨g1, 0, none⟩) 0 2 [] a w' (by obtain ⟨n', rfl⟩ := h; exact HC.out.reads.take (j := 0) (by omega)) (by omega) (by simp)
  have HH := Lib.hid hh
  clear hh
  rw [rounds_succ]
  go_wp2
  go_quiet ((first | (go_at_call 27; exact quiet_of_eq (l1In _ _ _ _)) | (go_at_call 42; exact quiet_of_eq (HH.out _ ⟨_, rfl⟩))))
  go_wp2
  obtain ⟨w2, hw⟩ : ∃ x, w1.drewN nq = x := ⟨_, rfl⟩
  have HC2 : Hid (OI w2 W.heap.size (some ⟨g1, 0, none⟩) 2 2 [a, b]) := by rw [← hw]; exact HC.out.drewN _
  have HB2 : Below w.heap.size w w2 := by rw [← hw]; exact below_drewN hB _
  have HR2 : Hid (w2.heap[g]? = some (.cells #[.int .i64 1, .int .i64 a, .int .i64 b, .int .i64 0] 41 (0, 0))) := by rw [← hw]; exact HX.out
  rw [hw]
  clear hw HC hB HX HH k0
  obtain ⟨HC, hB, HX⟩ := And.intro HC2 (And.intro HB2 HR2)
  clear HC2 HB2 HR2
  have k1 : w2.cell? ⟨g1, 1, none⟩ = some (.int .i64 b) := HC.out.cellAt (by omega)
  have hh := fun w' (h : ∃ n', w' = w2.drewN n') => l1Has_f (some ⟨g1, 0, none⟩) 1 2 [a] b w' (by obtain ⟨n', rfl⟩ := h; exact HC.out.reads.take (j := 1) (by omega)) (by omega) (by intro z hz; simp at hz; subst hz; assumption)
  have HH := Lib.hid hh
  clear hh
  rw [rounds_succ]
  go_wp2
  go_quiet ((first | (go_at_call 27; exact quiet_of_eq (l1In _ _ _ _)) | (go_at_call 42; exact quiet_of_eq (HH.out _ ⟨_, rfl⟩))))
  go_wp2
  obtain ⟨w3, hw⟩ : ∃ x, w2.drewN nq = x := ⟨_, rfl⟩
  have HC2 : Hid (OI w3 W.heap.size (some ⟨g1, 0, none⟩) 2 2 [a, b]) := by rw [← hw]; exact HC.out.drewN _
  have HB2 : Below w.heap.size w w3 := by rw [← hw]; exact below_drewN hB _
  have HR2 : Hid (w3.heap[g]? = some (.cells #[.int .i64 1, .int .i64 a, .int .i64 b, .int .i64 0] 41 (0, 0))) := by rw [← hw]; exact HX.out
  rw [hw]
  clear hw HC hB HX HH k1
  obtain ⟨HC, hB, HX⟩ := And.intro HC2 (And.intro HB2 HR2)
  clear HC2 HB2 HR2
  obtain ⟨c0, c1, c2, c3⟩ := cells4 HX.out
  rw [rounds_succ]
  go_wp2_with (go_at_call 27; refine (l1In _ _ _ _).mono ?_; rintro e w' ⟨rfl, rfl⟩)
  go_ret
  exact ⟨rfl, hB⟩
set_option maxHeartbeats 4000000 in
theorem gateValidS2 (a b c : Int) (w : World) (ha0 : 0 ≤ a) (ha7 : a ≤ 7) (hb0 : 0 ≤ b) (hb7 : b ≤ 7) (hc0 : 0 ≤ c) (hc7 : c ≤ 7) (hab : a ≠ b) (hac : a ≠ c) (hbc : b ≠ c) : Calls Try.prog 33 #[.int .i64 8, .agg #[.int .i64 2, .int .i64 a, .int .i64 b, .int .i64 c]] w (GivesT w true) := by
  have ia : inB a 0 7 = true := inB_t ha0 ha7
  have ib : inB b 0 7 = true := inB_t hb0 hb7
  have ic : inB c 0 7 = true := inB_t hc0 hc7
  have i8 : inB 8 1 8 = true := by decide
  have qab : (a == b) = false := by simpa using hab
  have qac : (a == c) = false := by simpa using hac
  have qbc : (b == c) = false := by simpa using hbc
  have hcl : True := trivial
  clear hab hac hbc
  obtain ⟨W, hW⟩ : ∃ W, w.alloc (.cells #[.int .i64 2, .int .i64 a, .int .i64 b, .int .i64 c] 41) = W := ⟨_, rfl⟩
  obtain ⟨g, hg⟩ : ∃ g, w.heap.size = g := ⟨_, rfl⟩
  have hrow : W.heap[g]? = some (.cells #[.int .i64 2, .int .i64 a, .int .i64 b, .int .i64 c] 41 (0, 0)) := by rw [← hW, ← hg]; exact World.alloc_heap_new _ _
  have hB0 : Below w.heap.size w W := by rw [← hW]; exact (Below.refl _ _).alloc (Nat.le_refl _) _
  obtain ⟨c0, c1, c2, c3⟩ := cells4 hrow
  go_enter Try.func33, Try.ntmps33
  go_wp2_with fail
  refine (linesOf2 a b c _).mono ?_
  rintro e w1 ⟨g1, rfl, hO, hB1⟩
  have HW := Lib.hid hW
  have HG := Lib.hid hg
  have hB := hB0.trans (hB1.mono hB0.size)
  have hlt : g < W.heap.size := (Array.getElem?_eq_some_iff.1 hrow).1
  have hrow1 : w1.heap[g]? = some (.cells #[.int .i64 2, .int .i64 a, .int .i64 b, .int .i64 c] 41 (0, 0)) := (hB1.block _ hlt).trans hrow
  have HX := Lib.hid hrow1
  have HC := Lib.hid hO
  clear hW hg c0 c1 c2 c3 hrow hrow1 hO
  go_wp2
  refine wp_loop_rounds 4 ?_
  have k0 : w1.cell? ⟨g1, 0, none⟩ = some (.int .i64 a) := HC.out.cellAt (by omega)
  have hh := fun w' (h : ∃ n', w' = w1.drewN n') => l1Has_f (some ⟨g1, 0, none⟩) 0 3 [] a w' (by obtain ⟨n', rfl⟩ := h; exact HC.out.reads.take (j := 0) (by omega)) (by omega) (by simp)
  have HH := Lib.hid hh
  clear hh
  rw [rounds_succ]
  go_wp2
  go_quiet ((first | (go_at_call 27; exact quiet_of_eq (l1In _ _ _ _)) | (go_at_call 42; exact quiet_of_eq (HH.out _ ⟨_, rfl⟩))))
  go_wp2
  obtain ⟨w2, hw⟩ : ∃ x, w1.drewN nq = x := ⟨_, rfl⟩
  have HC2 : Hid (OI w2 W.heap.size (some ⟨g1, 0, none⟩) 3 3 [a, b, c]) := by rw [← hw]; exact HC.out.drewN _
  have HB2 : Below w.heap.size w w2 := by rw [← hw]; exact below_drewN hB _
  have HR2 : Hid (w2.heap[g]? = some (.cells #[.int .i64 2, .int .i64 a, .int .i64 b, .int .i64 c] 41 (0, 0))) := by rw [← hw]; exact HX.out
  rw [hw]
  clear hw HC hB HX HH k0
  obtain ⟨HC, hB, HX⟩ := And.intro HC2 (And.intro HB2 HR2)
  clear HC2 HB2 HR2
  have k1 : w2.cell? ⟨g1, 1, none⟩ = some (.int .i64 b) := HC.out.cellAt (by omega)
  have hh := fun w' (h : ∃ n', w' = w2.drewN n') => l1Has_f (some ⟨g1, 0, none⟩) 1 3 [a] b w' (by obtain ⟨n', rfl⟩ := h; exact HC.out.reads.take (j := 1) (by omega)) (by omega) (by intro z hz; simp at hz; subst hz; assumption)
  have HH := Lib.hid hh
  clear hh
  rw [rounds_succ]
  go_wp2
  go_quiet ((first | (go_at_call 27; exact quiet_of_eq (l1In _ _ _ _)) | (go_at_call 42; exact quiet_of_eq (HH.out _ ⟨_, rfl⟩))))
  go_wp2
  obtain ⟨w3, hw⟩ : ∃ x, w2.drewN nq = x := ⟨_, rfl⟩
  have HC2 : Hid (OI w3 W.heap.size (some ⟨g1, 0, none⟩) 3 3 [a, b, c]) := by rw [← hw]; exact HC.out.drewN _
  have HB2 : Below w.heap.size w w3 := by rw [← hw]; exact below_drewN hB _
  have HR2 : Hid (w3.heap[g]? = some (.cells #[.int .i64 2, .int .i64 a, .int .i64 b, .int .i64 c] 41 (0, 0))) := by rw [← hw]; exact HX.out
  rw [hw]
  clear hw HC hB HX HH k1
  obtain ⟨HC, hB, HX⟩ := And.intro HC2 (And.intro HB2 HR2)
  clear HC2 HB2 HR2
  have k2 : w3.cell? ⟨g1, 2, none⟩ = some (.int .i64 c) := HC.out.cellAt (by omega)
  have hh := fun w' (h : ∃ n', w' = w3.drewN n') => l1Has_f (some ⟨g1, 0, none⟩) 2 3 [a, b] c w' (by obtain ⟨n', rfl⟩ := h; exact HC.out.reads.take (j := 2) (by omega)) (by omega) (by intro z hz; simp at hz; rcases hz with rfl | rfl <;> assumption)
  have HH := Lib.hid hh
  clear hh
  rw [rounds_succ]
  go_wp2
  go_quiet ((first | (go_at_call 27; exact quiet_of_eq (l1In _ _ _ _)) | (go_at_call 42; exact quiet_of_eq (HH.out _ ⟨_, rfl⟩))))
  go_wp2
  obtain ⟨w4, hw⟩ : ∃ x, w3.drewN nq = x := ⟨_, rfl⟩
  have HC2 : Hid (OI w4 W.heap.size (some ⟨g1, 0, none⟩) 3 3 [a, b, c]) := by rw [← hw]; exact HC.out.drewN _
  have HB2 : Below w.heap.size w w4 := by rw [← hw]; exact below_drewN hB _
  have HR2 : Hid (w4.heap[g]? = some (.cells #[.int .i64 2, .int .i64 a, .int .i64 b, .int .i64 c] 41 (0, 0))) := by rw [← hw]; exact HX.out
  rw [hw]
  clear hw HC hB HX HH k2
  obtain ⟨HC, hB, HX⟩ := And.intro HC2 (And.intro HB2 HR2)
  clear HC2 HB2 HR2
  obtain ⟨c0, c1, c2, c3⟩ := cells4 HX.out
  rw [rounds_succ]
  go_wp2_with (go_at_call 27; refine (l1In _ _ _ _).mono ?_; rintro e w' ⟨rfl, rfl⟩)
  go_ret
  exact ⟨rfl, hB⟩
end Go.Proofs.Ytkpjlkahebeljaa

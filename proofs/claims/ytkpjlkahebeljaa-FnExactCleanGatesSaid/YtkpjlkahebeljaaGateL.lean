/- Contracts of the program: a step as what it computes; the two makers of gates; a test over gates. -/
import Derived.Test.YtkpjlkahebeljaaGateK
import Derived.Test.YtkpjlkahebeljaaPushF
import Derived.Outline
namespace Go.Proofs.Ytkpjlkahebeljaa
open Go.RowKit
set_option linter.unusedVariables false
theorem node0 (x y : Int) (w : World) : Calls Try.prog 36 #[.agg #[.int .i64 0, .int .i64 x, .int .i64 y]] w fun e w' => e = .returned (.iface 60 (.agg #[.int .i64 x, .int .i64 y])) ∧ Below w.heap.size w w' := by
  go_enter Try.func36, Try.ntmps36
  go_wp2
  go_ret
  exact ⟨rfl, (Below.refl _ _).alloc (Nat.le_refl _) _⟩
theorem node1 (x y : Int) (w : World) : Calls Try.prog 36 #[.agg #[.int .i64 1, .int .i64 x, .int .i64 y]] w fun e w' => e = .returned (.iface 62 (.agg #[.int .i64 x, .int .i64 y])) ∧ Below w.heap.size w w' := by
  go_enter Try.func36, Try.ntmps36
  go_wp2
  go_ret
  exact ⟨rfl, (Below.refl _ _).alloc (Nat.le_refl _) _⟩
theorem node2 (x y : Int) (w : World) : Calls Try.prog 36 #[.agg #[.int .i64 2, .int .i64 x, .int .i64 y]] w fun e w' => e = .returned (.iface 61 (.agg #[.int .i64 x, .int .i64 y])) ∧ Below w.heap.size w w' := by
  go_enter Try.func36, Try.ntmps36
  go_wp2
  go_ret
  exact ⟨rfl, (Below.refl _ _).alloc (Nat.le_refl _) _⟩
theorem node3 (x y : Int) (w : World) : Calls Try.prog 36 #[.agg #[.int .i64 3, .int .i64 x, .int .i64 y]] w fun e w' => e = .returned (.iface 64 (.agg #[.int .i64 x])) ∧ Below w.heap.size w w' := by
  go_enter Try.func36, Try.ntmps36
  go_wp2
  go_ret
  exact ⟨rfl, (Below.refl _ _).alloc (Nat.le_refl _) _⟩
theorem copyOfI (x l : Int) (g : Nat) (w : World) (hc : w.cell? ⟨g, 0, none⟩ = some (.int .i64 l)) (hg : g < w.heap.size) : Calls Try.prog 34 #[.int .i64 x, .pointer (some ⟨g, 0, none⟩)] w fun e w' =>
    e = .returned (.agg #[.int .i64 1, .int .i64 x, .int .i64 l, .int .i64 0]) ∧ Below w.heap.size w w' := by
  go_enter Try.func34, Try.ntmps34
  go_wp2
  exact bodyPost_ret (v := .agg #[.int .i64 1, .int .i64 x, .int .i64 l, .int .i64 0]) (by simp [results, Try.results34, go_sem]) rfl ⟨rfl, (Below.refl _ _).alloc (Nat.le_refl _) _⟩
theorem bothI (x y l : Int) (g : Nat) (w : World) (hc : w.cell? ⟨g, 0, none⟩ = some (.int .i64 l)) (hg : g < w.heap.size) : Calls Try.prog 35 #[.int .i64 x, .int .i64 y, .pointer (some ⟨g, 0, none⟩)] w fun e w' =>
    e = .returned (.agg #[.int .i64 2, .int .i64 x, .int .i64 y, .int .i64 l]) ∧ Below w.heap.size w w' := by
  go_enter Try.func35, Try.ntmps35
  go_wp2
  exact bodyPost_ret (v := .agg #[.int .i64 2, .int .i64 x, .int .i64 y, .int .i64 l]) (by simp [results, Try.results35, go_sem]) rfl ⟨rfl, (Below.refl _ _).alloc (Nat.le_refl _) _⟩
theorem badGate (K a b c : Int) (h : GV K a b c) (w : World) : Calls Try.prog 39 #[.agg #[.int .i64 K, .int .i64 a, .int .i64 b, .int .i64 c]] w (GivesT w false) := by
  have HV := Lib.hid h
  clear h
  go_enter Try.func39, Try.ntmps39
  go_wp2_with (go_at_call 37; refine (gateValidI K a b c HV.out _).mono ?_; rintro e w2 ⟨rfl, hB2⟩)
  go_ret
  exact ⟨rfl, ((Below.refl _ _).alloc (Nat.le_refl _) _).trans (hB2.mono (by simp))⟩
set_option maxHeartbeats 1000000 in
theorem indexFuncI (A : Option Addr) (n c : Nat) (zs : List Int) (w : World) (hr : RI w w.heap.size A (n * 4) zs) (hn : n ≤ 24) (hg : AllGV n zs) :
    Calls Try.prog 46 #[.slice A n c, .func (.func 39) #[] #[]] w (fun e w' => e = .returned (.int .i64 (-1)) ∧ Below w.heap.size w w') := by
  have HGV := Lib.hid hg
  clear hg
  go_enter Try.func46, Try.ntmps46
  go_wp2
  go_loopw [8] (fun i wr => ∃ (k : Nat), k ≤ n ∧ i = .int .i64 k ∧ Below w.heap.size w wr) (fun i _ => n - (intOf i).toNat)
  case atStart => exact ⟨0, Nat.zero_le _, rfl, Below.refl _ _⟩
  case round =>
    obtain ⟨k, hk, rfl, hB⟩ := hrel
    have hs := hB.size
    by_cases hlt : k < n
    · obtain ⟨ad, K, a, b, d, rfl, hb, g0, g1, g2, g3, c0, c1, c2, c3⟩ := (hr.below hB).four hlt
      have HV := Lib.hid (HGV.out k hlt K a b d g0 g1 g2 g3)
      clear g0 g1 g2 g3
      go_wp2_with (go_at_call 39; refine (badGate K a b d HV.out _).mono ?_; rintro e w2 ⟨rfl, hB2⟩)
      go_roundw
      case rel => exact ⟨k + 1, by omega, by go_num, hB.trans (hB2.mono hs)⟩
      case measure => simp [intOf]; omega
    · obtain rfl : k = n := by omega
      go_wp2
      go_ret
      exact ⟨rfl, hB⟩
theorem containsFuncI (A : Option Addr) (n c : Nat) (zs : List Int) (w : World) (hr : RI w w.heap.size A (n * 4) zs) (hn : n ≤ 24) (hg : AllGV n zs) :
    Calls Try.prog 38 #[.slice A n c, .func (.func 39) #[] #[]] w (GivesT w false) := by
  have HI := Lib.hid (indexFuncI A n c zs w hr hn hg)
  clear hr hg
  go_enter Try.func38, Try.ntmps38
  go_wp2_with fail
  refine HI.out.mono ?_
  rintro e w2 ⟨rfl, hB2⟩
  go_wp2
  go_ret
  exact ⟨rfl, hB2⟩
end Go.Proofs.Ytkpjlkahebeljaa

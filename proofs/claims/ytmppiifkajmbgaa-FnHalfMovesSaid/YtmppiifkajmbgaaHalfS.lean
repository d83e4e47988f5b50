/- Contracts of the reference's moves by halves. -/
import Derived.Test.YtmppiifkajmbgaaHalfC
import Derived.Test.YtmppiifkajmbgaaBack
import Derived.Outline
namespace Go.Proofs.Ytmppiifkajmbgaa
open Go.RowKit
set_option linter.unusedVariables false

theorem farL_le (L : Nat) (h : L ≤ 3) (f : Int) : (farL L f).length ≤ 27 := by
  rw [farL_len]
  obtain rfl | rfl | rfl | rfl : L = 0 ∨ L = 1 ∨ L = 2 ∨ L = 3 := by omega
  all_goals decide
/-- a new slice that the call may append to -/
def GivesOS (w : World) (zs : List Int) (e : Ending) (w' : World) : Prop := ∃ A n c, e = .returned (.slice A n c) ∧ OS w' w.heap.size A n c zs ∧ Below w.heap.size w w'
set_option maxHeartbeats 1000000 in
theorem l5far0 (f : Int) (w : World) : Calls Try.prog 43 #[.int .i64 f, .int .i64 0] w (GivesOS w [f]) := by
  go_enter Try.func43, Try.ntmps43
  go_wp2_with fail
  go_ret
  refine ⟨_, 1, 1, rfl, ⟨by simp, .inr ⟨w.heap.size, 1, _, rfl, Nat.le_refl _, World.alloc_heap_new _ _, Nat.le_refl _, by simp [maxLen], by simp, by simp⟩⟩, (Below.refl _ _).alloc (Nat.le_refl _) _⟩
set_option maxHeartbeats 4000000 in
theorem l5farS (L : Nat) (hL : L ≤ 2) (ih : ∀ (f : Int) (w : World), 0 ≤ f → f + 2 ^ L ≤ 8 → Calls Try.prog 43 #[.int .i64 f, .int .i64 L] w (GivesOS w (farL L f)))
    (f : Int) (w : World) (hf0 : 0 ≤ f) (hf1 : f + 2 ^ (L + 1) ≤ 8) : Calls Try.prog 43 #[.int .i64 f, .int .i64 ((L : Int) + 1)] w (GivesOS w (farL (L + 1) f)) := by
  obtain ⟨p, hp⟩ : ∃ p : Int, (2 : Int) ^ L = p := ⟨_, rfl⟩
  have hp0 : 1 ≤ p ∧ p ≤ 4 := by
    obtain rfl | rfl | rfl : L = 0 ∨ L = 1 ∨ L = 2 := by omega
    all_goals (simp at hp; omega)
  obtain ⟨hp1, hp4⟩ := hp0
  have hp2 : (2 : Int) ^ (L + 1) = 2 * p := by rw [Int.pow_succ, hp]; omega
  rw [hp2] at hf1
  rw [hp] at ih
  clear hp2
  have hL0 : (0 : Int) ≤ (L : Int) := by omega
  have hL2 : (L : Int) ≤ 2 := by omega
  have hne : ((L : Int) + 1 == 0) = false := by simp; omega
  have IH1 := Lib.hid (fun w => ih f w hf0 (by omega))
  have IH2 := Lib.hid (fun w => ih (f + p) w (by omega) (by omega))
  obtain ⟨xs, hxs⟩ : ∃ xs, farL L f = xs := ⟨_, rfl⟩
  obtain ⟨ys, hys⟩ : ∃ ys, farL L (f + p) = ys := ⟨_, rfl⟩
  have hres : farL (L + 1) f = xs ++ ys ++ xs.reverse := by rw [farL, hp, hxs, hys]
  have hx9 := farL_le L (by omega) f
  have hy9 := farL_le L (by omega) (f + p)
  rw [hxs] at hx9 IH1
  rw [hys] at hy9 IH2
  have HR := Lib.hid hres
  clear hres hxs hys ih
  go_enter Try.func43, Try.ntmps43
  go_wp2_with fail
  have hne2 : True := trivial
  refine (IH1.out _).mono ?_
  rintro e w1 ⟨A1, n1, c1, rfl, hO1, hB1⟩
  have hs1 := hB1.size
  have hE : OS (w1.alloc (.cells #[] 3)) w1.heap.size (some ⟨w1.heap.size, 0, none⟩) 0 0 [] := OS.empty w1
  have hR1 := hO1.reads
  have hR1' := (hO1.alloc (.cells #[] 3)).reads
  have HN1 := Lib.hid hO1.len
  have hn1 : n1 ≤ 27 := by have := hO1.len; omega
  have hbE : Below w1.heap.size w1 (w1.alloc (.cells #[] 3)) := (Below.refl _ _).alloc (Nat.le_refl _) _
  clear hO1
  go_wp2_with (at_builtin; refine wpList_pushAll _ rfl _ _ rfl w1.heap.size _ 0 0 [] rfl _ A1 n1 c1 xs rfl hE hR1' (by omega) (by simp) ?_; intro A2 c2 w2 hO2 hg2)
  simp only [Nat.zero_add, List.nil_append] at hO2
  have hb2 : Below w1.heap.size w1 w2 := hbE.grown hg2 (by simp) (fun q e => (hE.lt q e).1)
  have hs2 := hb2.size
  have HO2 := Lib.hid hO2
  clear hO2 hE hR1' hbE hg2
  go_wp2_with fail
  refine (IH2.out _).mono ?_
  rintro e w3 ⟨A3, n3, c3, rfl, hO3, hB3⟩
  have hb3 := hb2.trans (hB3.mono hs2)
  have hs3 := hb3.size
  have hn3 : n3 ≤ 27 := by have := hO3.len; omega
  have HO23 := Lib.hid (HO2.out.below hB3 (Nat.le_refl _))
  have hR3 := hO3.reads
  clear hO3
  go_wp2_with (at_builtin; refine wpList_pushAll w3 rfl _ _ rfl w1.heap.size A2 n1 c2 xs rfl w3.heap.size A3 n3 c3 ys rfl HO23.out hR3 (by omega) hs3 ?_; intro A4 c4 w4 hO4 hg4)
  have hb4 : Below w1.heap.size w1 w4 := hb3.grown hg4 hs3 (fun q e => (HO23.out.lt q e).1)
  have HO4 := Lib.hid hO4
  clear hO4 hg4 hR3 HO23 HO2
  go_loopw [6, 7] (fun v i wr => ∃ (k m : Nat) (A' : Option Addr) (c' : Nat), k ≤ n1 ∧ m + k = n1 + n3 + n1 ∧ i = .int .i64 ((k : Int) - 1) ∧ v = .slice A' m c' ∧ OS wr w1.heap.size A' m c' (xs ++ ys ++ (xs.drop k).reverse) ∧ Below w1.heap.size w1 wr)
    (fun _ i _ => (intOf i + 1).toNat)
  case atStart =>
    refine ⟨n1, n1 + n3, A4, c4, Nat.le_refl _, by omega, by first | rfl | (congr 1), rfl, ?_, hb4⟩
    rw [List.drop_eq_nil_of_le (by rw [HN1.out]; exact Nat.le_refl _)]
    simpa using HO4.out
  case round =>
    obtain ⟨k, m, A', c', hk, hmk, rfl, rfl, hO, hB⟩ := hrel
    have HO := Lib.hid hO
    have hs := hB.size
    have hm : m ≤ 100 := by omega
    clear hO hb4 hb3 hb2 HO4 hB3
    cases k with
    | zero =>
      go_wp2
      go_ret
      have hx := HO.out
      rw [List.drop_zero] at hx
      refine ⟨_, _, _, rfl, ?_, hB1.trans (hB.mono hs1)⟩
      rw [HR.out]
      exact ⟨hx.1, hx.2.imp id (fun ⟨g, cap, cur, h1, h2, h3⟩ => ⟨g, cap, cur, h1, by omega, h3⟩)⟩
    | succ j =>
      have e1 : (((j + 1 : Nat) : Int) - 1) = (j : Int) := by omega
      rw [e1]
      clear e1
      have hjn : j < n1 := by omega
      obtain ⟨ad, x, rfl, hbb, hx, hcx⟩ := (hR1.below hB).at_ hjn
      have hd : xs.drop j = x :: xs.drop (j + 1) := by
        obtain ⟨h1, h2⟩ := List.getElem?_eq_some_iff.1 hx
        rw [List.drop_eq_getElem_cons h1, h2]
      have HD := Lib.hid hd
      have HMK := Lib.hid hmk
      clear hx hd hmk
      go_wp2_with (at_builtin; refine wpList_push _ x rfl _ _ rfl w1.heap.size A' m c' _ rfl rfl HO.out (by omega) hs ?_; intro g c3 w5 hO5 hg5)
      have hB5 : Below w1.heap.size w1 w5 := hB.grown hg5 hs (fun q e => (HO.out.lt q e).1)
      go_roundw
      case rel =>
        refine ⟨j, m + 1, _, _, by omega, by have := HMK.out; omega, by first | rfl | (congr 1), rfl, ?_, hB5⟩
        rw [HD.out]
        simpa using hO5
      case measure => simp [intOf]
theorem l5far (L : Nat) : L ≤ 3 → ∀ (f : Int) (w : World), 0 ≤ f → f + 2 ^ L ≤ 8 → Calls Try.prog 43 #[.int .i64 f, .int .i64 L] w (GivesOS w (farL L f)) := by
  induction L with
  | zero => intro _ f w _ _; exact l5far0 f w
  | succ L ih =>
    intro hL f w hf0 hf1
    exact l5farS L (by omega) (ih (by omega)) f w hf0 hf1
set_option maxHeartbeats 1000000 in
theorem halfMovesS (L : Int) (w : World) : Calls Try.prog 20 #[.int .i64 L] w (GivesI w (hvL L)) := by
  unfold hvL
  obtain ⟨V, hV⟩ : ∃ V, inB L 0 3 = V := ⟨_, rfl⟩
  have hw := fun w => l1In L 0 3 w
  rw [hV] at hw ⊢
  have HW := Lib.hid hw
  clear hw
  cases V with
  | false =>
    clear hV
    go_enter Try.func20, Try.ntmps20
    go_wp2_with (go_at_call 40; refine (HW.out _).mono ?_; rintro e w' ⟨rfl, rfl⟩)
    go_ret
    exact ⟨_, _, _, rfl, (OS.empty w).toI, (Below.refl _ _).alloc (Nat.le_refl _) _⟩
  | true =>
    have hb : 0 ≤ L ∧ L ≤ 3 := by simpa [inB] using hV
    clear hV
    obtain ⟨n, rfl⟩ : ∃ n : Nat, L = (n : Int) := ⟨L.toNat, by omega⟩
    have hn : n ≤ 3 := by omega
    rw [if_pos rfl, Int.toNat_natCast]
    have h8 : (0 : Int) + 2 ^ n ≤ 8 := by
      obtain rfl | rfl | rfl | rfl : n = 0 ∨ n = 1 ∨ n = 2 ∨ n = 3 := by omega
      all_goals decide
    have HF := Lib.hid (fun w => l5far n hn 0 w (Int.le_refl _) h8)
    clear hb h8
    go_enter Try.func20, Try.ntmps20
    go_wp2_with (first | (go_at_call 40; refine (HW.out _).mono ?_; rintro e w' ⟨rfl, rfl⟩) | (go_at_call 43; refine (HF.out _).mono ?_; rintro e w1 ⟨A, k, c, rfl, hO, hB⟩))
    go_ret
    exact ⟨A, k, c, rfl, hO.toI, hB⟩
end Go.Proofs.Ytmppiifkajmbgaa

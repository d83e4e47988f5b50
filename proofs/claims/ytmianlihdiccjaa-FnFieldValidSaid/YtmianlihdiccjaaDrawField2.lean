/- Contracts: the drawing of fields for the laws. -/
import Derived.Test.YtmianlihdiccjaaDrawField
namespace Go.Proofs.Ytmianlihdiccjaa
open Go.RowKit
set_option linter.unusedVariables false
attribute [local go_sem ↓] Go.wp_at_zero Go.wp_at_succ

theorem RB.up {w w' : World} {A : Option Addr} {zs : List Int} (h : RB w w.heap.size A zs) (hb : Below w.heap.size w w') : RB w' w'.heap.size A zs := ⟨(h.1.below hb).more hb.size, h.2⟩
/-- a drawn field -/
def DrewF (w : World) (e : Ending) (w' : World) : Prop := ∃ (s : Int) (A : Option Addr) (n c : Nat) (h : Bool) (zs : List Bool), e = .returned (.agg #[.int .i64 s, .slice A n c, .bool h]) ∧ n ≤ 100 ∧ OIb w' w.heap.size A n c zs ∧ Below w.heap.size w w'
/-- two drawn fields -/
def DrewF2 (w : World) (e : Ending) (w' : World) : Prop := ∃ (s : Int) (A : Option Addr) (n c : Nat) (h : Bool) (zs : List Bool) (s' : Int) (A' : Option Addr) (n' c' : Nat) (h' : Bool) (zs' : List Bool),
  e = .returned (.tuple #[.agg #[.int .i64 s, .slice A n c, .bool h], .agg #[.int .i64 s', .slice A' n' c', .bool h']]) ∧ n ≤ 100 ∧ n' ≤ 1048576 ∧ OIb w' w.heap.size A n c zs ∧ OIb w' w.heap.size A' n' c' zs' ∧ Below w.heap.size w w'
/-- a drawn field and two numbers -/
def DrewFII (w : World) (e : Ending) (w' : World) : Prop := ∃ (s : Int) (A : Option Addr) (n c : Nat) (h : Bool) (zs : List Bool) (x y : Int), e = .returned (.tuple #[.agg #[.int .i64 s, .slice A n c, .bool h], .int .i64 x, .int .i64 y]) ∧ n ≤ 100 ∧ OIb w' w.heap.size A n c zs ∧ Below w.heap.size w w'
theorem results_field2 {fn : Func} {t t' : Tmp} (h : fn.results = #[.cell t 27, .cell t' 27]) (tmps : Array Value) (w : World) (g g' : Nat) (ht : tmps.getD t undef = .pointer (some ⟨g, 0, none⟩)) (ht' : tmps.getD t' undef = .pointer (some ⟨g', 0, none⟩)) {T T' : TypeId} {a b c a' b' c' : Value} (hr : Row3 w g T a b c) (hr' : Row3 w g' T' a' b' c') :
    (results fn tmps).run Try.prog w = .ok (.tuple #[.agg #[a, b, c], .agg #[a', b', c']]) w := by
  obtain ⟨e0, e1, e2, _, _, _⟩ := hr.at_
  obtain ⟨f0, f1, f2, _, _, _⟩ := hr'.at_
  rw [Array.getD_eq_getD_getElem?] at ht ht'
  simp [results, h, ht, ht', e0, e1, e2, f0, f1, f2, go_sem]
theorem results_fieldII {fn : Func} {t t' t'' : Tmp} (h : fn.results = #[.cell t 27, .tmp t', .tmp t'']) (tmps : Array Value) (w : World) (g : Nat) (ht : tmps.getD t undef = .pointer (some ⟨g, 0, none⟩)) {T : TypeId} {a b c : Value} (hr : Row3 w g T a b c) :
    (results fn tmps).run Try.prog w = .ok (.tuple #[.agg #[a, b, c], tmps.getD t' undef, tmps.getD t'' undef]) w := by
  obtain ⟨e0, e1, e2, _, _, _⟩ := hr.at_
  rw [Array.getD_eq_getD_getElem?] at ht
  simp [results, h, ht, e0, e1, e2, go_sem]
set_option maxHeartbeats 2000000 in
theorem drawFieldValid (A : Option Addr) (zs : List Int) (c : Nat) (w : World) (h : RB w w.heap.size A zs) (hc : zs.length ≤ c) (hcm : c ≤ maxLen) :
    Calls Try.prog 20 #[.slice A zs.length c] w (DrewF w) := by
  obtain ⟨W, hW⟩ : ∃ W, w.alloc (.cells #[.int .i64 0, .slice none 0 0, .bool false] 27) = W := ⟨_, rfl⟩
  obtain ⟨r, hr⟩ : ∃ r, w.heap.size = r := ⟨_, rfl⟩
  have hb : Below w.heap.size w W := by rw [← hW]; exact (Below.refl _ _).alloc (Nat.le_refl _) _
  have R4 := Lib.hid (show Row3 W r 27 (.int .i64 0) (.slice none 0 0) (.bool false) by rw [← hW, ← hr]; exact Row3.new w _ _ _ _)
  have hwr : w.heap.size ≤ r := by omega
  have hrW : r < W.heap.size := R4.out.lt
  go_enter Try.func20, Try.ntmps20
  go_wp2_with fail
  refine (l20Open A zs c W (h.up hb) hc hcm).mono ?_
  rintro e w1 ⟨rfl, hR1, hb1⟩
  replace R4 := Lib.hid (R4.out.below hb1 R4.out.lt)
  have hT1 := hb.trans (hb1.mono hb.size)
  have HW := Lib.hid hW
  have HR := Lib.hid hr
  have hs1 := hb1.size
  clear hW hr
  go_wp2_with fail
  refine (l20Field W.heap.size 0 2 w1 hR1 (by omega) (by omega)).mono ?_
  rintro e w2 ⟨s2, A2, n2, c2, h2, z2, rfl, hn2, hO2, _, hg2⟩
  replace R4 := Lib.hid (R4.out.kept hg2 (by simp; omega))
  have hT2 : Below w.heap.size w w2 := hT1.grown hg2 hT1.size (fun k e => by cases e; exact hb.size)
  have HO2 := Lib.hid hO2
  have hne : (Value.slice A2 n2 c2).ownBlock ≠ some r := fun e => by have := (hO2.lt r e).1; omega
  obtain ⟨c0, c1, c2', c3, c4, c5⟩ := R4.out.at_
  clear hR1 hg2 hO2 hb1
  go_wp2
  refine bodyPost_ret (results_field rfl _ _ r rfl (((R4.out.set0 _).set1 _).set2 _)) rfl ?_
  exact ⟨_, _, _, _, _, _, rfl, hn2, (HO2.out.other3 hne _ _ _).mono hT1.size, below_set3 hT2 hwr _ _ _⟩
set_option maxHeartbeats 4000000 in
theorem drawFieldMove (A : Option Addr) (zs : List Int) (c : Nat) (w : World) (h : RB w w.heap.size A zs) (hc : zs.length ≤ c) (hcm : c ≤ maxLen) :
    Calls Try.prog 32 #[.slice A zs.length c] w (DrewFII w) := by
  obtain ⟨W, hW⟩ : ∃ W, w.alloc (.cells #[.int .i64 0, .slice none 0 0, .bool false] 27) = W := ⟨_, rfl⟩
  obtain ⟨r, hr⟩ : ∃ r, w.heap.size = r := ⟨_, rfl⟩
  have hb : Below w.heap.size w W := by rw [← hW]; exact (Below.refl _ _).alloc (Nat.le_refl _) _
  have R4 := Lib.hid (show Row3 W r 27 (.int .i64 0) (.slice none 0 0) (.bool false) by rw [← hW, ← hr]; exact Row3.new w _ _ _ _)
  have hwr : w.heap.size ≤ r := by omega
  have hrW : r < W.heap.size := R4.out.lt
  go_enter Try.func32, Try.ntmps32
  go_wp2_with fail
  refine (l20Open A zs c W (h.up hb) hc hcm).mono ?_
  rintro e w1 ⟨rfl, hR1, hb1⟩
  replace R4 := Lib.hid (R4.out.below hb1 R4.out.lt)
  have hT1 := hb.trans (hb1.mono hb.size)
  have HW := Lib.hid hW
  have HR := Lib.hid hr
  have hs1 := hb1.size
  clear hW hr
  go_wp2_with fail
  refine (l20Field W.heap.size 0 9 w1 hR1 (by omega) (by omega)).mono ?_
  rintro e w2 ⟨s2, A2, n2, c2, h2, z2, rfl, hn2, hO2, hR2, hg2⟩
  replace R4 := Lib.hid (R4.out.kept hg2 (by simp; omega))
  have hG2 := hg2
  have hlt := hO2.lt
  have HLT := Lib.hid hlt
  have hne : (Value.slice A2 n2 c2).ownBlock ≠ some r := fun e => by have := (hlt r e).1; omega
  have hnW : (Value.slice A2 n2 c2).ownBlock ≠ some W.heap.size := fun e => by have := (hlt _ e).1; have := hR1.lt; omega
  have HO2 := Lib.hid hO2
  have hs2 := hg2.size
  clear hR1 hO2 hb1 hlt hg2
  go_wp2_with fail
  refine (pick W.heap.size (0 + 20) 5 w2 hR2 (by omega)).mono ?_
  rintro e w3 ⟨x1, rfl, _, _, hx1, hR3, hg3⟩
  have hx1' := hx1 (by omega)
  replace R4 := Lib.hid (R4.out.kept hg3 (by simp; omega))
  replace HO2 := Lib.hid (HO2.out.kept hg3 (.inr hnW))
  replace hG2 := hG2.trans hg3
  clear hR2 hg3 hx1
  go_wp2_with fail
  refine (pick W.heap.size (0 + 20 + 1) 20 w3 hR3 (by omega)).mono ?_
  rintro e w4 ⟨x2, rfl, _, _, hx2, hR4, hg4⟩
  have hx2' := hx2 (by omega)
  replace R4 := Lib.hid (R4.out.kept hg4 (by simp; omega))
  replace HO2 := Lib.hid (HO2.out.kept hg4 (.inr hnW))
  replace hG2 := hG2.trans hg4
  clear hR3 hg4 hx2
  go_wp2_with fail
  refine (pick W.heap.size (0 + 20 + 1 + 1) 5 w4 hR4 (by omega)).mono ?_
  rintro e w5 ⟨x3, rfl, _, _, hx3, hR5, hg5⟩
  have hx3' := hx3 (by omega)
  replace R4 := Lib.hid (R4.out.kept hg5 (by simp; omega))
  replace HO2 := Lib.hid (HO2.out.kept hg5 (.inr hnW))
  replace hG2 := hG2.trans hg5
  clear hR4 hg5 hx3
  go_wp2_with fail
  refine (pick W.heap.size (0 + 20 + 1 + 1 + 1) 20 w5 hR5 (by omega)).mono ?_
  rintro e w6 ⟨x4, rfl, _, _, hx4, hR6, hg6⟩
  have hx4' := hx4 (by omega)
  replace R4 := Lib.hid (R4.out.kept hg6 (by simp; omega))
  replace HO2 := Lib.hid (HO2.out.kept hg6 (.inr hnW))
  replace hG2 := hG2.trans hg6
  have hT2 : Below w.heap.size w w6 := hT1.grown hG2 hT1.size (fun k e => by cases e; exact hb.size)
  obtain ⟨c0, c1, c2', c3, c4, c5⟩ := R4.out.at_
  clear hR5 hg6 hx4 hR6 hG2
  go_wp2
  refine bodyPost_ret (results_fieldII rfl _ _ r rfl (((R4.out.set0 _).set1 _).set2 _)) rfl ?_
  exact ⟨_, _, _, _, _, _, _, _, rfl, hn2, (HO2.out.other3 hne _ _ _).mono hT1.size, below_set3 hT2 hwr _ _ _⟩
end Go.Proofs.Ytmianlihdiccjaa

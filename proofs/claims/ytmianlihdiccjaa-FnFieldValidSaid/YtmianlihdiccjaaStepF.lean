/- Contracts: a field behind a step, and before it (the reference; printed by mk_stepf.py). -/
import Derived.Test.YtmianlihdiccjaaStepS2
import Derived.Test.YtmianlihdiccjaaPlStep2
import Derived.Test.YtmianlihdiccjaaFieldV
namespace Go.Proofs.Ytmianlihdiccjaa
open Go.RowKit
set_option linter.unusedVariables false

set_option maxHeartbeats 8000000 in
theorem fieldStepS (s : Int) (A : Option Addr) (n : Nat) (zs : List Bool) (c : Nat) (h : Bool) (w : World) (hr : RL w w.heap.size A n zs) (hl : n ≤ 1048576) :
    Calls Try.prog 36 #[.agg #[.int .i64 s, .slice A n c, .bool h]] w (GivesF w (vI (fvB s zs) s) (vL (fvB s zs) (fsL s h zs)) (vH (fvB s zs) (!h))) := by
  obtain ⟨W, hW⟩ : ∃ W, ((w.alloc (.cells #[.int .i64 s, .slice A n c, .bool h] 27)).alloc (.cells #[.int .i64 0, .slice none 0 0, .bool false] 27)) = W := ⟨_, rfl⟩
  have hb : Below w.heap.size w W := by rw [← hW]; exact ((Below.refl _ _).alloc (Nat.le_refl _) _).alloc (by simp) _
  obtain ⟨g, hg⟩ : ∃ g, w.heap.size = g := ⟨_, rfl⟩
  have hsz : W.heap.size = g + 2 := by rw [← hW, ← hg]; simp
  have r0 : Row3 W g 27 (.int .i64 s) (.slice A n c) (.bool h) := by rw [← hW, ← hg]; exact (Row3.new w _ _ _ _).alloc _
  have r1 : Row3 W (g + 1) 27 (.int .i64 0) (.slice none 0 0) (.bool false) := by
    have := Row3.new (w.alloc (.cells #[.int .i64 s, .slice A n c, .bool h] 27)) 27 (.int .i64 0) (.slice none 0 0) (.bool false)
    rw [hW] at this; rw [← hg]; simpa using this
  have R0 := Lib.hid r0
  have R1 := Lib.hid r1
  obtain ⟨a0, a1, a2, a3, a4, a5⟩ := r0.at_
  have hgw : g + 1 < W.heap.size := by omega
  have hwg : w.heap.size ≤ g + 1 := by omega
  clear hsz r0 r1
  go_enter Try.func36, Try.ntmps36
  go_wp2_with fail
  refine (fieldValidS s A n zs c h W (hr.arg (Nat.le_refl _) hb) (by omega)).mono ?_
  rintro e w2 ⟨rfl, hb2⟩
  have hB2 := hb.trans (hb2.mono hb.size)
  replace R0 := Lib.hid (R0.out.below hb2 R0.out.lt)
  replace R1 := Lib.hid (R1.out.below hb2 R1.out.lt)
  have hs2 := hb2.size
  have HW := Lib.hid hW
  have HG := Lib.hid hg
  clear a0 a1 a2 a3 a4 a5 hb2 hW hg
  cases hv : fvB s zs
  · have HQ := Lib.hid hv
    obtain ⟨b0, b1, b2, b3, b4, b5⟩ := R1.out.at_
    have HR := Lib.hid (((R1.out.set0 (.int .i64 0)).set1 (.slice none 0 0)).set2 (.bool false))
    clear hv
    go_wp2_with fail
    refine bodyPost_ret (results_field rfl _ _ (g + 1) rfl HR.out) rfl ?_
    exact ⟨none, 0, 0, by rw [HQ.out]; rfl, by rw [HQ.out]; exact ⟨rfl, Nat.le_refl _, by simp [maxLen], .inl ⟨rfl, rfl⟩⟩, below_set3 hB2 hwg _ _ _⟩
  · have hfv := fv_iff.1 hv
    obtain ⟨S, rfl⟩ : ∃ S : Nat, s = (S : Int) := ⟨s.toNat, by omega⟩
    have hSS : S = 2 ∨ S = 4 ∨ S = 6 ∨ S = 8 := by omega
    have hnn : n = S * S := by rw [← hr.len]; have := hfv.2.2.2.1; exact_mod_cast this
    have hst := fun sh hsh => l6Step S A n zs c h sh w2 (hr.arg (Nat.le_refl _) hB2) hSS hnn hsh
    have HST := Lib.hid hst
    have HQ := Lib.hid hv
    obtain ⟨a0, a1, a2, a3, a4, a5⟩ := R0.out.at_
    clear hfv hSS hnn hst hv
    cases h
    all_goals
      go_wp2_with fail
      refine (HST.out _ (by first | exact (by decide : 0 < 2) | exact (by decide : 1 < 2))).mono ?_
      rintro e w3 ⟨A3, n3, c3, rfl, hO3, hB3⟩
      have hgw3 : g + 1 < w3.heap.size := by have := hB3.size; omega
      have hg3 : g < w3.heap.size := by omega
      replace R0 := Lib.hid (R0.out.below hB3 R0.out.lt)
      replace R1 := Lib.hid (R1.out.below hB3 R1.out.lt)
      have hB4 := hB2.trans (hB3.mono hB2.size)
      have HOF := Lib.hid hO3
      have hgw2 : g + 1 < w2.heap.size := by omega
      clear a0 a1 a2 a3 a4 a5 hO3
      obtain ⟨a0, a1, a2, a3, a4, a5⟩ := R0.out.at_
      obtain ⟨b0, b1, b2, b3, b4, b5⟩ := R1.out.at_
      go_wp2
      refine bodyPost_ret (results_field rfl _ _ (g + 1) rfl ((((R1.out.set0 _).set1 _).set2 _).alloc _)) rfl ?_
      exact ⟨A3, n3, c3, by rw [HQ.out]; rfl, by rw [HQ.out]; exact ((((HOF.out.apart (grown_set _ ⟨g + 1, 0, none⟩ _) (.inl hgw2)).apart (grown_set _ ⟨g + 1, 1, none⟩ _) (.inl hgw2)).apart (grown_set _ ⟨g + 1, 2, none⟩ _) (.inl hgw2)).alloc _).mono hB2.size, (below_set3 hB4 hwg _ _ _).alloc (below_set3 hB4 hwg _ _ _).size _⟩
set_option maxHeartbeats 8000000 in
theorem fieldBackS (s : Int) (A : Option Addr) (n : Nat) (zs : List Bool) (c : Nat) (h : Bool) (w : World) (hr : RL w w.heap.size A n zs) (hl : n ≤ 1048576) :
    Calls Try.prog 61 #[.agg #[.int .i64 s, .slice A n c, .bool h]] w (GivesF w (vI (fvB s zs) s) (vL (fvB s zs) (fsL s (!h) zs)) (vH (fvB s zs) (!h))) := by
  obtain ⟨W, hW⟩ : ∃ W, ((w.alloc (.cells #[.int .i64 s, .slice A n c, .bool h] 27)).alloc (.cells #[.int .i64 0, .slice none 0 0, .bool false] 27)) = W := ⟨_, rfl⟩
  have hb : Below w.heap.size w W := by rw [← hW]; exact ((Below.refl _ _).alloc (Nat.le_refl _) _).alloc (by simp) _
  obtain ⟨g, hg⟩ : ∃ g, w.heap.size = g := ⟨_, rfl⟩
  have hsz : W.heap.size = g + 2 := by rw [← hW, ← hg]; simp
  have r0 : Row3 W g 27 (.int .i64 s) (.slice A n c) (.bool h) := by rw [← hW, ← hg]; exact (Row3.new w _ _ _ _).alloc _
  have r1 : Row3 W (g + 1) 27 (.int .i64 0) (.slice none 0 0) (.bool false) := by
    have := Row3.new (w.alloc (.cells #[.int .i64 s, .slice A n c, .bool h] 27)) 27 (.int .i64 0) (.slice none 0 0) (.bool false)
    rw [hW] at this; rw [← hg]; simpa using this
  have R0 := Lib.hid r0
  have R1 := Lib.hid r1
  obtain ⟨a0, a1, a2, a3, a4, a5⟩ := r0.at_
  have hgw : g + 1 < W.heap.size := by omega
  have hwg : w.heap.size ≤ g + 1 := by omega
  clear hsz r0 r1
  go_enter Try.func61, Try.ntmps61
  go_wp2_with fail
  refine (fieldValidS s A n zs c h W (hr.arg (Nat.le_refl _) hb) (by omega)).mono ?_
  rintro e w2 ⟨rfl, hb2⟩
  have hB2 := hb.trans (hb2.mono hb.size)
  replace R0 := Lib.hid (R0.out.below hb2 R0.out.lt)
  replace R1 := Lib.hid (R1.out.below hb2 R1.out.lt)
  have hs2 := hb2.size
  have HW := Lib.hid hW
  have HG := Lib.hid hg
  clear a0 a1 a2 a3 a4 a5 hb2 hW hg
  cases hv : fvB s zs
  · have HQ := Lib.hid hv
    obtain ⟨b0, b1, b2, b3, b4, b5⟩ := R1.out.at_
    have HR := Lib.hid (((R1.out.set0 (.int .i64 0)).set1 (.slice none 0 0)).set2 (.bool false))
    clear hv
    go_wp2_with fail
    refine bodyPost_ret (results_field rfl _ _ (g + 1) rfl HR.out) rfl ?_
    exact ⟨none, 0, 0, by rw [HQ.out]; rfl, by rw [HQ.out]; exact ⟨rfl, Nat.le_refl _, by simp [maxLen], .inl ⟨rfl, rfl⟩⟩, below_set3 hB2 hwg _ _ _⟩
  · have hfv := fv_iff.1 hv
    obtain ⟨S, rfl⟩ : ∃ S : Nat, s = (S : Int) := ⟨s.toNat, by omega⟩
    have hSS : S = 2 ∨ S = 4 ∨ S = 6 ∨ S = 8 := by omega
    have hnn : n = S * S := by rw [← hr.len]; have := hfv.2.2.2.1; exact_mod_cast this
    have hst := fun sh hsh => l6Step S A n zs c h sh w2 (hr.arg (Nat.le_refl _) hB2) hSS hnn hsh
    have HST := Lib.hid hst
    have HQ := Lib.hid hv
    obtain ⟨a0, a1, a2, a3, a4, a5⟩ := R0.out.at_
    clear hfv hSS hnn hst hv
    cases h
    all_goals
      go_wp2_with fail
      refine (HST.out _ (by first | exact (by decide : 0 < 2) | exact (by decide : 1 < 2))).mono ?_
      rintro e w3 ⟨A3, n3, c3, rfl, hO3, hB3⟩
      have hgw3 : g + 1 < w3.heap.size := by have := hB3.size; omega
      have hg3 : g < w3.heap.size := by omega
      replace R0 := Lib.hid (R0.out.below hB3 R0.out.lt)
      replace R1 := Lib.hid (R1.out.below hB3 R1.out.lt)
      have hB4 := hB2.trans (hB3.mono hB2.size)
      have HOF := Lib.hid hO3
      have hgw2 : g + 1 < w2.heap.size := by omega
      clear a0 a1 a2 a3 a4 a5 hO3
      obtain ⟨a0, a1, a2, a3, a4, a5⟩ := R0.out.at_
      obtain ⟨b0, b1, b2, b3, b4, b5⟩ := R1.out.at_
      go_wp2
      refine bodyPost_ret (results_field rfl _ _ (g + 1) rfl ((((R1.out.set0 _).set1 _).set2 _).alloc _)) rfl ?_
      exact ⟨A3, n3, c3, by rw [HQ.out]; rfl, by rw [HQ.out]; exact ((((HOF.out.apart (grown_set _ ⟨g + 1, 0, none⟩ _) (.inl hgw2)).apart (grown_set _ ⟨g + 1, 1, none⟩ _) (.inl hgw2)).apart (grown_set _ ⟨g + 1, 2, none⟩ _) (.inl hgw2)).alloc _).mono hB2.size, (below_set3 hB4 hwg _ _ _).alloc (below_set3 hB4 hwg _ _ _).size _⟩
end Go.Proofs.Ytmianlihdiccjaa

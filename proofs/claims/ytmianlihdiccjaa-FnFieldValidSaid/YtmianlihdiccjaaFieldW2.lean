/- Contract: the program moves a field (printed by mk_fieldw.py). -/
import Derived.Test.YtmianlihdiccjaaFieldU2
import Derived.Test.YtmianlihdiccjaaFieldT2
namespace Go.Proofs.Ytmianlihdiccjaa
open Go.RowKit
set_option linter.unusedVariables false

set_option maxHeartbeats 8000000 in
theorem fieldMove (s : Int) (A : Option Addr) (n : Nat) (zs : List Bool) (c : Nat) (h : Bool) (ea no : Int) (w : World) (hr : RL w w.heap.size A n zs) (hl : n ≤ 1048576) :
    Calls Try.prog 31 #[.agg #[.int .i64 s, .slice A n c, .bool h], .int .i64 ea, .int .i64 no] w (GivesF w (vI (fvB s zs && moveOk ea no) s) (vL (fvB s zs && moveOk ea no) (fmL s ea no zs)) (vH (fvB s zs && moveOk ea no) h)) := by
  obtain ⟨W, hW⟩ : ∃ W, ((((w.alloc (.cells #[.int .i64 s, .slice A n c, .bool h] 27)).alloc (.cells #[.int .i64 ea] 3)).alloc (.cells #[.int .i64 no] 3)).alloc (.cells #[.int .i64 0, .slice none 0 0, .bool false] 27)) = W := ⟨_, rfl⟩
  have hb : Below w.heap.size w W := by rw [← hW]; exact ((((Below.refl _ _).alloc (Nat.le_refl _) _).alloc (by simp) _).alloc (by simp; omega) _).alloc (by simp; omega) _
  obtain ⟨g, hg⟩ : ∃ g, w.heap.size = g := ⟨_, rfl⟩
  have hsz : W.heap.size = g + 4 := by rw [← hW, ← hg]; simp
  have r0 : Row3 W g 27 (.int .i64 s) (.slice A n c) (.bool h) := by rw [← hW, ← hg]; exact (((Row3.new w _ _ _ _).alloc _).alloc _).alloc _
  have r1 : Row3 W (g + 1 + 1 + 1) 27 (.int .i64 0) (.slice none 0 0) (.bool false) := by
    have := Row3.new (((w.alloc (.cells #[.int .i64 s, .slice A n c, .bool h] 27)).alloc (.cells #[.int .i64 ea] 3)).alloc (.cells #[.int .i64 no] 3)) 27 (.int .i64 0) (.slice none 0 0) (.bool false)
    rw [hW] at this; rw [← hg]; simpa using this
  have i1 : W.cell? ⟨g + 1, 0, none⟩ = some (.int .i64 ea) := by
    have hh : W.heap[g + 1]? = some (.cells #[.int .i64 ea] 3 (0, 0)) := by
      have h1 := heap_alloc_new (w.alloc (.cells #[.int .i64 s, .slice A n c, .bool h] 27)) (.cells #[.int .i64 ea] 3)
      rw [← hW, Below.heap_alloc _ _ _ (by simp; omega), Below.heap_alloc _ _ _ (by simp; omega), ← hg]
      simpa using h1
    rw [cell_of_row W (g + 1) 0 _ _ _ hh]; rfl
  have i2 : W.cell? ⟨g + 1 + 1, 0, none⟩ = some (.int .i64 no) := by
    have hh : W.heap[g + 1 + 1]? = some (.cells #[.int .i64 no] 3 (0, 0)) := by
      have h1 := heap_alloc_new ((w.alloc (.cells #[.int .i64 s, .slice A n c, .bool h] 27)).alloc (.cells #[.int .i64 ea] 3)) (.cells #[.int .i64 no] 3)
      rw [← hW, Below.heap_alloc _ _ _ (by simp; omega), ← hg]
      simpa using h1
    rw [cell_of_row W (g + 1 + 1) 0 _ _ _ hh]; rfl
  have R0 := Lib.hid r0
  have R1 := Lib.hid r1
  obtain ⟨a0, a1, a2, a3, a4, a5⟩ := r0.at_
  have hwg : w.heap.size ≤ g + 1 + 1 + 1 := by omega
  have hl1' : g + 1 < W.heap.size := by omega
  have hl2' : g + 1 + 1 < W.heap.size := by omega
  clear hsz r0 r1
  go_enter Try.func31, Try.ntmps31
  go_wp2_with fail
  refine (fieldValid s A n zs c h W (hr.arg (Nat.le_refl _) hb) (by omega)).mono ?_
  rintro e w2 ⟨rfl, hb2⟩
  have hB2 := hb.trans (hb2.mono hb.size)
  replace R0 := Lib.hid (R0.out.below hb2 R0.out.lt)
  replace R1 := Lib.hid (R1.out.below hb2 R1.out.lt)
  replace i1 := (hb2.cell (p := ⟨g + 1, 0, none⟩) hl1').trans i1
  replace i2 := (hb2.cell (p := ⟨g + 1 + 1, 0, none⟩) hl2').trans i2
  have hs2 := hb2.size
  have HW := Lib.hid hW
  have HG := Lib.hid hg
  clear a0 a1 a2 a3 a4 a5 hb2 hW hg
  cases hv : fvB s zs
  · have HQ := Lib.hid (show (fvB s zs && moveOk ea no) = false by rw [hv]; rfl)
    obtain ⟨b0, b1, b2, b3, b4, b5⟩ := R1.out.at_
    have HR := Lib.hid (((R1.out.set0 (.int .i64 0)).set1 (.slice none 0 0)).set2 (.bool false))
    go_wp2_with (go_at_call 46; refine (within _ _ _ _).mono ?_; rintro e w' ⟨rfl, rfl⟩)
    refine bodyPost_ret (results_field rfl _ _ (g + 1 + 1 + 1) rfl HR.out) rfl ?_
    refine ⟨none, 0, 0, by rw [HQ.out]; rfl, by rw [HQ.out]; exact ⟨rfl, Nat.le_refl _, by simp [maxLen], .inl ⟨rfl, rfl⟩⟩, ((hB2.setCell (p := ⟨g + 1 + 1 + 1, 0, none⟩) hwg _).setCell (p := ⟨g + 1 + 1 + 1, 1, none⟩) hwg _).setCell (p := ⟨g + 1 + 1 + 1, 2, none⟩) hwg _⟩
  cases he : inB ea 0 8
  · have HQ := Lib.hid (show (fvB s zs && moveOk ea no) = false by rw [mo_no1 he, Bool.and_false])
    obtain ⟨b0, b1, b2, b3, b4, b5⟩ := R1.out.at_
    have HR := Lib.hid (((R1.out.set0 (.int .i64 0)).set1 (.slice none 0 0)).set2 (.bool false))
    go_wp2_with (go_at_call 46; refine (within _ _ _ _).mono ?_; rintro e w' ⟨rfl, rfl⟩)
    refine bodyPost_ret (results_field rfl _ _ (g + 1 + 1 + 1) rfl HR.out) rfl ?_
    refine ⟨none, 0, 0, by rw [HQ.out]; rfl, by rw [HQ.out]; exact ⟨rfl, Nat.le_refl _, by simp [maxLen], .inl ⟨rfl, rfl⟩⟩, ((hB2.setCell (p := ⟨g + 1 + 1 + 1, 0, none⟩) hwg _).setCell (p := ⟨g + 1 + 1 + 1, 1, none⟩) hwg _).setCell (p := ⟨g + 1 + 1 + 1, 2, none⟩) hwg _⟩
  cases hn : inB no 0 8
  · have HQ := Lib.hid (show (fvB s zs && moveOk ea no) = false by rw [mo_no2 hn, Bool.and_false])
    obtain ⟨b0, b1, b2, b3, b4, b5⟩ := R1.out.at_
    have HR := Lib.hid (((R1.out.set0 (.int .i64 0)).set1 (.slice none 0 0)).set2 (.bool false))
    go_wp2_with (go_at_call 46; refine (within _ _ _ _).mono ?_; rintro e w' ⟨rfl, rfl⟩)
    refine bodyPost_ret (results_field rfl _ _ (g + 1 + 1 + 1) rfl HR.out) rfl ?_
    refine ⟨none, 0, 0, by rw [HQ.out]; rfl, by rw [HQ.out]; exact ⟨rfl, Nat.le_refl _, by simp [maxLen], .inl ⟨rfl, rfl⟩⟩, ((hB2.setCell (p := ⟨g + 1 + 1 + 1, 0, none⟩) hwg _).setCell (p := ⟨g + 1 + 1 + 1, 1, none⟩) hwg _).setCell (p := ⟨g + 1 + 1 + 1, 2, none⟩) hwg _⟩
  obtain ⟨he0, he1⟩ := inB_iff.1 he
  obtain ⟨hn0, hn1⟩ := inB_iff.1 hn
  by_cases he2 : ea % 2 = 1
  · have HQ := Lib.hid (show (fvB s zs && moveOk ea no) = false by rw [mo_no3 (.inl he2), Bool.and_false])
    have hq : (ea % 2 == 1) = true := by simp [he2]
    clear he2
    obtain ⟨b0, b1, b2, b3, b4, b5⟩ := R1.out.at_
    have HR := Lib.hid (((R1.out.set0 (.int .i64 0)).set1 (.slice none 0 0)).set2 (.bool false))
    go_wp2_with (go_at_call 46; refine (within _ _ _ _).mono ?_; rintro e w' ⟨rfl, rfl⟩)
    refine bodyPost_ret (results_field rfl _ _ (g + 1 + 1 + 1) rfl HR.out) rfl ?_
    refine ⟨none, 0, 0, by rw [HQ.out]; rfl, by rw [HQ.out]; exact ⟨rfl, Nat.le_refl _, by simp [maxLen], .inl ⟨rfl, rfl⟩⟩, ((hB2.setCell (p := ⟨g + 1 + 1 + 1, 0, none⟩) hwg _).setCell (p := ⟨g + 1 + 1 + 1, 1, none⟩) hwg _).setCell (p := ⟨g + 1 + 1 + 1, 2, none⟩) hwg _⟩
  have hq1 : (ea % 2 == 1) = false := by simp [he2]
  by_cases hn2 : no % 2 = 1
  · have HQ := Lib.hid (show (fvB s zs && moveOk ea no) = false by rw [mo_no3 (.inr hn2), Bool.and_false])
    have hq : (no % 2 == 1) = true := by simp [hn2]
    clear he2 hn2
    obtain ⟨b0, b1, b2, b3, b4, b5⟩ := R1.out.at_
    have HR := Lib.hid (((R1.out.set0 (.int .i64 0)).set1 (.slice none 0 0)).set2 (.bool false))
    go_wp2_with (go_at_call 46; refine (within _ _ _ _).mono ?_; rintro e w' ⟨rfl, rfl⟩)
    refine bodyPost_ret (results_field rfl _ _ (g + 1 + 1 + 1) rfl HR.out) rfl ?_
    refine ⟨none, 0, 0, by rw [HQ.out]; rfl, by rw [HQ.out]; exact ⟨rfl, Nat.le_refl _, by simp [maxLen], .inl ⟨rfl, rfl⟩⟩, ((hB2.setCell (p := ⟨g + 1 + 1 + 1, 0, none⟩) hwg _).setCell (p := ⟨g + 1 + 1 + 1, 1, none⟩) hwg _).setCell (p := ⟨g + 1 + 1 + 1, 2, none⟩) hwg _⟩
  · have hq2 : (no % 2 == 1) = false := by simp [hn2]
    have HQ := Lib.hid (show (fvB s zs && moveOk ea no) = true by rw [hv, Bool.true_and]; exact mo_yes he hn he2 hn2)
    have HV := Lib.hid hv
    obtain ⟨E, rfl⟩ : ∃ E : Nat, ea = (E : Int) := ⟨ea.toNat, by omega⟩
    obtain ⟨O, rfl⟩ : ∃ O : Nat, no = (O : Int) := ⟨no.toNat, by omega⟩
    have hE8 : E ≤ 8 := by omega
    have hO8 : O ≤ 8 := by omega
    obtain ⟨a0, a1, a2, a3, a4, a5⟩ := R0.out.at_
    have hM := movedM s A n zs c h (g + 1) g (g + 1 + 1) E O (.slice A n c) (.bool h) 27 w2 (hr.arg (Nat.le_refl _) hB2) hl HV.out R0.out hE8 hO8 i1 i2 (by omega) (by omega)
    have HM := Lib.hid hM
    clear he2 hn2 hM
    go_wp2_with (go_at_call 46; refine (within _ _ _ _).mono ?_; rintro e w' ⟨rfl, rfl⟩)
    refine HM.out.mono ?_
    rintro e w3 ⟨A3, n3, c3, rfl, hO3, hB3⟩
    have hl1 := R1.out.lt
    replace R1 := Lib.hid (R1.out.below hB3 R1.out.lt)
    have HR := Lib.hid (((R1.out.set0 (.int .i64 s)).set1 (.slice A3 n3 c3)).set2 (.bool h))
    have HOF := Lib.hid (((hO3.apart (grown_set _ ⟨g + 1 + 1 + 1, 0, none⟩ (.int .i64 s)) (.inl hl1)).apart (grown_set _ ⟨g + 1 + 1 + 1, 1, none⟩ (.slice A3 n3 c3)) (.inl hl1)).apart (grown_set _ ⟨g + 1 + 1 + 1, 2, none⟩ (.bool h)) (.inl hl1))
    have hB4 := hB2.trans (hB3.mono hB2.size)
    clear a0 a1 a2 a3 a4 a5 hO3 i1 i2
    obtain ⟨b0, b1, b2, b3, b4, b5⟩ := R1.out.at_
    go_wp2
    refine bodyPost_ret (results_field rfl _ _ (g + 1 + 1 + 1) rfl HR.out) rfl ?_
    refine ⟨_, _, _, by rw [HQ.out]; rfl, by rw [HQ.out]; exact HOF.out.mono hB2.size, ((hB4.setCell (p := ⟨g + 1 + 1 + 1, 0, none⟩) hwg _).setCell (p := ⟨g + 1 + 1 + 1, 1, none⟩) hwg _).setCell (p := ⟨g + 1 + 1 + 1, 2, none⟩) hwg _⟩
end Go.Proofs.Ytmianlihdiccjaa

/- Contract: two drawn fields. -/
import Derived.Test.YtmianlihdiccjaaDrawField2
import Derived.Test.YtmianlihdiccjaaStill
namespace Go.Proofs.Ytmianlihdiccjaa
open Go.RowKit
set_option linter.unusedVariables false
attribute [local go_sem ↓] Go.wp_at_zero Go.wp_at_succ

theorem Row3.three' {w : World} {g : Nat} {T : TypeId} {a b c : Value} (h : Row3 w g T a b c) : w.cell? ⟨g, 0, none⟩ = some a ∧ w.cell? ⟨g, 1, none⟩ = some b ∧ w.cell? ⟨g, 2, none⟩ = some c := ⟨h.at_.1, h.at_.2.1, h.at_.2.2.1⟩
set_option maxRecDepth 100000 in
set_option maxHeartbeats 8000000 in
theorem drawSameField (A : Option Addr) (zb : List Int) (c : Nat) (w : World) (h : RB w w.heap.size A zb) (hc : zb.length ≤ c) (hcm : c ≤ maxLen) :
    Calls Try.prog 35 #[.slice A zb.length c] w (DrewF2 w) := by
  obtain ⟨W, hW⟩ : ∃ W, (w.alloc (.cells #[.int .i64 0, .slice none 0 0, .bool false] 27)).alloc (.cells #[.int .i64 0, .slice none 0 0, .bool false] 27) = W := ⟨_, rfl⟩
  obtain ⟨r, hr⟩ : ∃ r, w.heap.size = r := ⟨_, rfl⟩
  have hb : Below w.heap.size w W := by rw [← hW]; exact ((Below.refl _ _).alloc (Nat.le_refl _) _).alloc (by simp) _
  have R2 := Lib.hid (show Row3 W r 27 (.int .i64 0) (.slice none 0 0) (.bool false) by rw [← hW, ← hr]; exact (Row3.new w _ _ _ _).alloc _)
  have hR3 : Row3 W (r + 1) 27 (.int .i64 0) (.slice none 0 0) (.bool false) := by
    have := Row3.new (w.alloc (.cells #[.int .i64 0, .slice none 0 0, .bool false] 27)) 27 (.int .i64 0) (.slice none 0 0) (.bool false)
    rw [hW] at this; rw [← hr]; simpa using this
  have R3 := Lib.hid hR3
  have hwr : w.heap.size ≤ r := by omega
  have hrW : r + 1 < W.heap.size := R3.out.lt
  clear hR3
  go_enter Try.func35, Try.ntmps35
  go_wp2_with fail
  refine (l20Open A zb c W (h.up hb) hc hcm).mono ?_
  rintro e w1 ⟨rfl, hR1, hb1⟩
  replace R2 := Lib.hid (R2.out.below hb1 R2.out.lt)
  replace R3 := Lib.hid (R3.out.below hb1 R3.out.lt)
  have hT1 := hb.trans (hb1.mono hb.size)
  have HW := Lib.hid hW
  have HR := Lib.hid hr
  have hs1 := hb1.size
  have hG1 := hR1.lt
  obtain ⟨G, hGe⟩ : ∃ G, W.heap.size = G := ⟨_, rfl⟩
  rw [hGe] at hR1 hG1 hrW hs1
  have HGE := Lib.hid hGe
  clear hW hr hb1
  go_wp2_with fail
  try rw [hGe]
  clear hGe
  refine (l20Field G 0 9 w1 hR1 (by omega) (by omega)).mono ?_
  rintro e w2 ⟨s2, A2, n2, c2, h2, z2, rfl, hn2, hO2, hR2, hg2⟩
  replace R2 := Lib.hid (R2.out.kept hg2 (by simp; omega))
  replace R3 := Lib.hid (R3.out.kept hg2 (by simp; omega))
  have hs2 := hg2.size
  have hlt2 := hO2.lt
  have HLT2 := Lib.hid hlt2
  have hnG : (Value.slice A2 n2 c2).ownBlock ≠ some G := fun e => by have := (hlt2 G e).1; omega
  have hnr : (Value.slice A2 n2 c2).ownBlock ≠ some r := fun e => by have := (hlt2 r e).1; omega
  have hnr1 : (Value.slice A2 n2 c2).ownBlock ≠ some (r + 1) := fun e => by have := (hlt2 (r + 1) e).1; omega
  have HNE := Lib.hid (And.intro hnG (And.intro hnr hnr1))
  have hT2 : Below w.heap.size w w2 := hT1.grown hg2 hT1.size (fun k e => by cases e; omega)
  obtain ⟨g5, hg5⟩ : ∃ g5, w2.heap.size = g5 := ⟨_, rfl⟩
  obtain ⟨w3, hw3⟩ : ∃ w3, w2.alloc (.cells #[.int .i64 s2, .slice A2 n2 c2, .bool h2] 27) = w3 := ⟨_, rfl⟩
  have R5 := Lib.hid (show Row3 w3 g5 27 (.int .i64 s2) (.slice A2 n2 c2) (.bool h2) by rw [← hw3, ← hg5]; exact Row3.new w2 _ _ _ _)
  have R23 := Lib.hid (show Row3 w3 r 27 (.int .i64 0) (.slice none 0 0) (.bool false) by rw [← hw3]; exact R2.out.alloc _)
  have R33 := Lib.hid (show Row3 w3 (r + 1) 27 (.int .i64 0) (.slice none 0 0) (.bool false) by rw [← hw3]; exact R3.out.alloc _)
  have HO3 := Lib.hid (show OIb w3 w1.heap.size A2 n2 c2 z2 by rw [← hw3]; exact hO2.alloc _)
  have hT3 : Below w.heap.size w w3 := by rw [← hw3]; exact hT2.alloc hT2.size _
  have HR3 := Lib.hid (show RdLe w3 G (0 + 20) by rw [← hw3]; exact hR2.keep fun k hk => Below.heap_alloc _ _ _ (by omega))
  have hGg5 : G < g5 := by omega
  have HW3 := Lib.hid hw3
  have HG5 := Lib.hid hg5
  clear hw3 hg5 hO2 hR2 hg2 R2 R3 hlt2 hnG hnr hnr1 hT2 hR1
  go_wp2_with fail
  rw [HW3.out, HG5.out]
  refine (pick G (0 + 20) 2 w3 HR3.out (by omega)).mono ?_
  rintro e w4 ⟨x, rfl, hx0, _, hx2, hR4, hg4⟩
  have R54 := Lib.hid (R5.out.kept hg4 (by simp; omega))
  have R24 := Lib.hid (R23.out.kept hg4 (by simp; omega))
  have R34 := Lib.hid (R33.out.kept hg4 (by simp; omega))
  have HO4 := Lib.hid (HO3.out.kept hg4 (.inr HNE.out.1))
  have hT4 : Below w.heap.size w w4 := hT3.grown hg4 hT3.size (fun k e => by cases e; omega)
  have HR4 := Lib.hid hR4
  have hs4 := hg4.size
  have hrf : r + 1 < g5 := by omega
  obtain ⟨b0, b1, b2, _, _, _⟩ := R54.out.at_
  have hTd := hT4.drew
  have HOd := Lib.hid (show OIb w4.drew w1.heap.size A2 n2 c2 z2 from HO4.out)
  have R5d := Lib.hid (show Row3 w4.drew g5 27 (.int .i64 s2) (.slice A2 n2 c2) (.bool h2) from R54.out)
  have R2d := Lib.hid (show Row3 w4.drew r 27 (.int .i64 0) (.slice none 0 0) (.bool false) from R24.out)
  have R3d := Lib.hid (show Row3 w4.drew (r + 1) 27 (.int .i64 0) (.slice none 0 0) (.bool false) from R34.out)
  have HRd := Lib.hid (show RdLe w4.drew G (0 + 20 + 1) from HR4.out)
  clear hR4 hg4 R5 R23 R33 HO3 HR3 hx2 hT3 R54 R24 R34 HO4 HR4
  by_cases hx : x = 0
  · subst hx
    have hl5 : (vL (fvB s2 z2) (fsL s2 h2 z2)).length ≤ 1048576 := vfs_len' rfl (by rw [HOd.out.len]; omega)
    have hF1 := fun w' h1 => fieldStepS s2 A2 n2 z2 c2 h2 w' h1 (by omega)
    obtain ⟨s5, hs5⟩ : ∃ x, vI (fvB s2 z2) s2 = x := ⟨_, rfl⟩
    obtain ⟨z5, hz5⟩ : ∃ x, vL (fvB s2 z2) (fsL s2 h2 z2) = x := ⟨_, rfl⟩
    obtain ⟨h5, hh5⟩ : ∃ x, vH (fvB s2 z2) (!h2) = x := ⟨_, rfl⟩
    rw [hs5, hz5, hh5] at hF1
    rw [hz5] at hl5
    have hl6 : (vL (fvB s5 z5) (fsL s5 (!h5) z5)).length ≤ 1048576 := vfs_len' rfl hl5
    have hF2 := fun A' n' c' w' h1 h2 => fieldBackS s5 A' n' z5 c' h5 w' h1 h2
    obtain ⟨s6, hs6⟩ : ∃ x, vI (fvB s5 z5) s5 = x := ⟨_, rfl⟩
    obtain ⟨z6, hz6⟩ : ∃ x, vL (fvB s5 z5) (fsL s5 (!h5) z5) = x := ⟨_, rfl⟩
    obtain ⟨h6, hh6⟩ : ∃ x, vH (fvB s5 z5) (!h5) = x := ⟨_, rfl⟩
    rw [hs6, hz6, hh6] at hF2
    rw [hz6] at hl6
    have HF1 := Lib.hid hF1
    have HF2 := Lib.hid hF2
    clear hF1 hF2 hs5 hz5 hh5 hs6 hz6 hh6
    go_wp2
    go_region_with
      (first
        | (go_at_call 36; (with_reducible refine (HF1.out _ HOd.out.reads).mono ?_); rintro e w6 ⟨A6, n6, c6, rfl, hO6, hB6⟩; (have hn6 : n6 ≤ 1048576 := (by rw [← hO6.len]; exact hl5)); (have R56 := Lib.hid (R5d.out.below hB6 R5d.out.lt)); (have R26 := Lib.hid (R2d.out.below hB6 R2d.out.lt)); (have R36 := Lib.hid (R3d.out.below hB6 R3d.out.lt)); (have HO6 := Lib.hid (HOd.out.below hB6 (Nat.le_refl _))); (have hT6 := hTd.trans (hB6.mono hTd.size)); (have HQ6 := Lib.hid hO6); (obtain ⟨p0, p1, p2, _, _, _⟩ := R56.out.at_); (have hs6 := hB6.size); (clear hO6))
        | (go_at_call 61; (with_reducible refine (HF2.out A6 n6 c6 _ HQ6.out.reads hn6).mono ?_); rintro e w7 ⟨A7, n7, c7, rfl, hO7, hB7⟩; (have hn7 : n7 ≤ 1048576 := (by rw [← hO7.len]; exact hl6)); (have R57 := Lib.hid (R56.out.below hB7 R56.out.lt)); (have R27 := Lib.hid (R26.out.below hB7 R26.out.lt)); (have R37 := Lib.hid (R36.out.below hB7 R36.out.lt)); (have HO7 := Lib.hid (HO6.out.below hB7 (Nat.le_refl _))); (have hT7 := hT6.trans (hB7.mono hT6.size)); (have HQ7 := Lib.hid hO7); (obtain ⟨q0, q1, q2, _, _, _⟩ := R57.out.at_); (obtain ⟨d0, d1, d2, d3, d4, d5⟩ := R27.out.at_); (obtain ⟨f0, f1, f2, f3, f4, f5⟩ := R37.out.at_); (have hne7 : (Value.slice A7 n7 c7).ownBlock ≠ some r := (fun e => by have := (hO7.lt r e).1; have := R26.out.lt; omega)); (have hne7' : (Value.slice A7 n7 c7).ownBlock ≠ some (r + 1) := (fun e => by have := (hO7.lt (r + 1) e).1; have := R36.out.lt; omega)); (have HNE7 := Lib.hid (And.intro hne7 hne7')); (clear hO7 hne7 hne7')))
    all_goals go_wp2
    all_goals refine bodyPost_ret (results_field2 rfl _ _ r (r + 1) rfl rfl ((((R27.out.set0 _).set1 _).set2 _).other3 (by omega) _ _ _) (((((R37.out.other3 (k := r) (by omega) _ _ _).set0 _).set1 _).set2 _))) rfl ?_
    all_goals exact ⟨_, _, _, _, _, _, _, _, _, _, _, _, rfl, hn2, hn7, ((HO7.out.other3 HNE.out.2.1 _ _ _).other3 HNE.out.2.2 _ _ _).mono (by omega), ((HQ7.out.other3 HNE7.out.1 _ _ _).other3 HNE7.out.2 _ _ _).mono hT6.size, below_set3 (below_set3 hT7 hwr _ _ _) (by omega) _ _ _⟩
  · have hxx : (x == 0) = false := by simp [hx]
    clear hx
    go_wp2
    go_region_with
      (first
        | (go_at_call 49; (with_reducible refine (l20Field G (0 + 20 + 1) 9 _ HRd.out (by omega) (by omega)).mono ?_); rintro e w7 ⟨s6, A7, n7, c7, h6, z7, rfl, hn7, hO7, _, hg7⟩; (have R57 := Lib.hid (R5d.out.kept hg7 (by simp; omega))); (have R27 := Lib.hid (R2d.out.kept hg7 (by simp; omega))); (have R37 := Lib.hid (R3d.out.kept hg7 (by simp; omega))); (have HO7 := Lib.hid (HOd.out.kept hg7 (.inr HNE.out.1))); (have hT7 : Below w.heap.size w w7 := hTd.grown hg7 hTd.size (fun k e => by cases e; omega)); (have HQ7 := Lib.hid hO7); (obtain ⟨q0, q1, q2, _, _, _⟩ := R57.out.at_); (obtain ⟨d0, d1, d2, d3, d4, d5⟩ := R27.out.at_); (obtain ⟨f0, f1, f2, f3, f4, f5⟩ := R37.out.at_); (have hne7 : (Value.slice A7 n7 c7).ownBlock ≠ some r := (fun e => by have := (hO7.lt r e).1; have := R2d.out.lt; omega)); (have hne7' : (Value.slice A7 n7 c7).ownBlock ≠ some (r + 1) := (fun e => by have := (hO7.lt (r + 1) e).1; have := R3d.out.lt; omega)); (have HNE7 := Lib.hid (And.intro hne7 hne7')); (clear hO7 hne7 hne7')))
    all_goals go_wp2
    all_goals refine bodyPost_ret (results_field2 rfl _ _ r (r + 1) rfl rfl ((((R27.out.set0 _).set1 _).set2 _).other3 (by omega) _ _ _) (((((R37.out.other3 (k := r) (by omega) _ _ _).set0 _).set1 _).set2 _))) rfl ?_
    all_goals exact ⟨_, _, _, _, _, _, _, _, _, _, _, _, rfl, hn2, by omega, ((HO7.out.other3 HNE.out.2.1 _ _ _).other3 HNE.out.2.2 _ _ _).mono (by omega), ((HQ7.out.other3 HNE7.out.1 _ _ _).other3 HNE7.out.2 _ _ _).mono hTd.size, below_set3 (below_set3 hT7 hwr _ _ _) (by omega) _ _ _⟩
end Go.Proofs.Ytmianlihdiccjaa

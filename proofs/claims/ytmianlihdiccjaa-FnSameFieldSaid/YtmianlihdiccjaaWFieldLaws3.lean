/- The walk of the drawn law on the same fields (printed by mk_samef.py). -/
import Derived.Test.YtmianlihdiccjaaWFieldLaws
import Derived.Test.YtmianlihdiccjaaDrawField3
namespace Go.Proofs.Ytmianlihdiccjaa
open Go.RowKit
set_option linter.unusedVariables false
attribute [local go_sem ↓] Go.wp_at_zero Go.wp_at_succ

theorem sf_comm (s : Int) (xs : List Bool) (h : Bool) (s' : Int) (ys : List Bool) (h' : Bool) : sfB s' ys h' s xs h = sfB s xs h s' ys h' := by
  unfold sfB
  rw [eqB_comm ys xs, Bool.and_comm (fvB s' ys) (fvB s xs), show (s' == s) = (s == s') from BEq.comm, show (h' == h) = (h == h') from BEq.comm]
theorem sf_self (s : Int) (xs : List Bool) (h : Bool) : sfB s xs h s xs h = fvB s xs := by simp [sfB, eqB_self]
theorem sf_true {s : Int} {xs : List Bool} {h : Bool} {s' : Int} {ys : List Bool} {h' : Bool} (hs : sfB s xs h s' ys h' = true) : s = s' ∧ xs = ys := by
  simp only [sfB, Bool.and_eq_true, beq_iff_eq, eqB, decide_eq_true_eq] at hs
  exact ⟨hs.1.1.2, hs.2⟩
set_option maxRecDepth 100000 in
set_option maxHeartbeats 64000000 in
theorem walkFnSameField (w : World) (A : Option Addr) (zb : List Int) (c : Nat) (hc : zb.length ≤ c ∧ c ≤ maxLen) (h : RB w w.heap.size A zb) :
    Calls Try.prog 10 #[.slice A zb.length c] w fun e w' => e = .returned (.bool true) ∧ Below w.heap.size w w' := by
  have hcm := hc.2
  unfold maxLen at hcm
  by_cases hl : 1048576 < zb.length
  · go_enter Try.func10, Try.ntmps10
    go_wp2
    go_ret
    exact ⟨rfl, Below.refl _ _⟩
  go_enter Try.func10, Try.ntmps10
  go_wp2_with fail
  refine (drawSameField A zb c w h hc.1 hc.2).mono ?_
  rintro e w1 ⟨s, A1, n1, c1, h1, z1, s2, A2, n2, c2, h2, z2, rfl, hn1, hn2, hO1, hO2, hB1⟩
  obtain ⟨ga, hga⟩ : ∃ ga, w1.heap.size = ga := ⟨_, rfl⟩
  obtain ⟨gb, hgb⟩ : ∃ gb, w1.heap.size + 1 = gb := ⟨_, rfl⟩
  obtain ⟨w2, hw2⟩ : ∃ w2, (w1.alloc (.cells #[.int .i64 s, .slice A1 n1 c1, .bool h1] 27)).alloc (.cells #[.int .i64 s2, .slice A2 n2 c2, .bool h2] 27) = w2 := ⟨_, rfl⟩
  have RA := Lib.hid (show Row3 w2 ga 27 (.int .i64 s) (.slice A1 n1 c1) (.bool h1) by rw [← hw2, ← hga]; exact (Row3.new w1 _ _ _ _).alloc _)
  have hRB : Row3 w2 gb 27 (.int .i64 s2) (.slice A2 n2 c2) (.bool h2) := by
    have := Row3.new (w1.alloc (.cells #[.int .i64 s, .slice A1 n1 c1, .bool h1] 27)) 27 (.int .i64 s2) (.slice A2 n2 c2) (.bool h2)
    rw [World.size_alloc, hgb, hw2] at this; exact this
  have RB := Lib.hid hRB
  have HA := Lib.hid (show OIb w2 w.heap.size A1 n1 c1 z1 by rw [← hw2]; exact (hO1.alloc _).alloc _)
  have HB := Lib.hid (show OIb w2 w.heap.size A2 n2 c2 z2 by rw [← hw2]; exact (hO2.alloc _).alloc _)
  have hT : Below w.heap.size w w2 := by rw [← hw2]; exact (hB1.alloc hB1.size _).alloc (by have := hB1.size; simp; omega) _
  obtain ⟨V, hV⟩ : ∃ V, sfB s z1 h1 s2 z2 h2 = V := ⟨_, rfl⟩
  obtain ⟨F, hF⟩ : ∃ F, fvB s z1 = F := ⟨_, rfl⟩
  have hm1 := fun w' ha hb => sameField s A1 n1 z1 c1 h1 s2 A2 n2 z2 c2 h2 w' ha (by omega) hb (by omega)
  have hm2 := fun w' ha hb => sameFieldS s A1 n1 z1 c1 h1 s2 A2 n2 z2 c2 h2 w' ha (by omega) hb (by omega)
  have hC1 := fun w' hb ha => sameField s2 A2 n2 z2 c2 h2 s A1 n1 z1 c1 h1 w' hb (by omega) ha (by omega)
  have hC2 := fun w' ha => sameField s A1 n1 z1 c1 h1 s A1 n1 z1 c1 h1 w' ha (by omega) ha (by omega)
  have hC3 := fun w' ha => fieldValid s A1 n1 z1 c1 h1 w' ha (by omega)
  rw [hV] at hm1 hm2
  rw [sf_comm, hV] at hC1
  rw [sf_self, hF] at hC2
  rw [hF] at hC3
  have HM1 := Lib.hid hm1
  have HM2 := Lib.hid hm2
  have HC1 := Lib.hid hC1
  have HC2 := Lib.hid hC2
  have HC3 := Lib.hid hC3
  have HV := Lib.hid hV
  have HW2 := Lib.hid hw2
  have HGA := Lib.hid hga
  have HGB := Lib.hid hgb
  clear hm1 hm2 hC1 hC2 hC3 hV hF hw2 hga hgb hO1 hO2 h hc hcm hl hRB
  go_wp2_with fail
  rw [HW2.out, HGB.out, HGA.out]
  refine (HM1.out w2 HA.out.reads HB.out.reads).mono ?_
  rintro e w3 ⟨rfl, hB⟩
  replace RA := Lib.hid (RA.out.below hB RA.out.lt)
  replace RB := Lib.hid (RB.out.below hB RB.out.lt)
  replace HA := Lib.hid (HA.out.below hB (Nat.le_refl _))
  replace HB := Lib.hid (HB.out.below hB (Nat.le_refl _))
  replace hT := hT.trans (hB.mono hT.size)
  obtain ⟨v0, v1, v2, u0, u1, u2⟩ := RA.out.six RB.out
  clear hB
  go_wp2_with fail
  refine (HM2.out w3 HA.out.reads HB.out.reads).mono ?_
  rintro e w4 ⟨rfl, hB⟩
  clear v0 v1 v2 u0 u1 u2
  replace RA := Lib.hid (RA.out.below hB RA.out.lt)
  replace RB := Lib.hid (RB.out.below hB RB.out.lt)
  replace HA := Lib.hid (HA.out.below hB (Nat.le_refl _))
  replace HB := Lib.hid (HB.out.below hB (Nat.le_refl _))
  replace hT := hT.trans (hB.mono hT.size)
  obtain ⟨v0, v1, v2, u0, u1, u2⟩ := RA.out.six RB.out
  clear hB
  cases V
  · go_wp2
    replace RA := Lib.hid (show Row3 w4.drew ga 27 (.int .i64 s) (.slice A1 n1 c1) (.bool h1) from RA.out)
    replace RB := Lib.hid (show Row3 w4.drew gb 27 (.int .i64 s2) (.slice A2 n2 c2) (.bool h2) from RB.out)
    replace HA := Lib.hid (show OIb w4.drew w.heap.size A1 n1 c1 z1 from HA.out)
    replace HB := Lib.hid (show OIb w4.drew w.heap.size A2 n2 c2 z2 from HB.out)
    replace hT := hT.drew
    go_region_with (first
      | (go_at_call 25; (with_reducible refine (HC1.out _ HB.out.reads HA.out.reads).mono ?_); rintro e wn ⟨rfl, hB⟩; (have hcs := hB.size); (replace RA := Lib.hid (RA.out.below hB RA.out.lt)); (replace RB := Lib.hid (RB.out.below hB RB.out.lt)); (replace HA := Lib.hid (HA.out.below hB (Nat.le_refl _))); (replace HB := Lib.hid (HB.out.below hB (Nat.le_refl _))); (replace hT := hT.trans (hB.mono hT.size)); (have HS := Lib.hid (RA.out.six RB.out)); (clear hB); (clear v0 v1 v2 u0 u1 u2); (obtain ⟨v0, v1, v2, u0, u1, u2⟩ := HS.out))
      | (go_at_call 25; (with_reducible refine (HC2.out _ HA.out.reads).mono ?_); rintro e wn ⟨rfl, hB⟩; (have hcs := hB.size); (replace RA := Lib.hid (RA.out.below hB RA.out.lt)); (replace RB := Lib.hid (RB.out.below hB RB.out.lt)); (replace HA := Lib.hid (HA.out.below hB (Nat.le_refl _))); (replace HB := Lib.hid (HB.out.below hB (Nat.le_refl _))); (replace hT := hT.trans (hB.mono hT.size)); (have HS := Lib.hid (RA.out.six RB.out)); (clear hB); (clear v0 v1 v2 u0 u1 u2); (obtain ⟨v0, v1, v2, u0, u1, u2⟩ := HS.out))
      | (go_at_call 18; (with_reducible refine (HC3.out _ HA.out.reads).mono ?_); rintro e wn ⟨rfl, hB⟩; (have hcs := hB.size); (replace RA := Lib.hid (RA.out.below hB RA.out.lt)); (replace RB := Lib.hid (RB.out.below hB RB.out.lt)); (replace HA := Lib.hid (HA.out.below hB (Nat.le_refl _))); (replace HB := Lib.hid (HB.out.below hB (Nat.le_refl _))); (replace hT := hT.trans (hB.mono hT.size)); (have HS := Lib.hid (RA.out.six RB.out)); (clear hB); (clear v0 v1 v2 u0 u1 u2); (obtain ⟨v0, v1, v2, u0, u1, u2⟩ := HS.out))
      | (go_at_call 21; refine (alive _).mono ?_; rintro e wn ⟨rfl, rfl⟩))
    all_goals go_wp2
    all_goals go_ret
    all_goals exact ⟨rfl, hT⟩
  · obtain ⟨hss, hzz⟩ := sf_true HV.out
    have hC4 : ∀ w', RL w' w'.heap.size A1 n1 z1 → RL w' w'.heap.size A2 n2 z2 → Calls Try.prog 33 #[.agg #[.int .i64 s, .slice A1 n1 c1, .bool h1], .agg #[.int .i64 s2, .slice A2 n2 c2, .bool h2]] w' (GivesT w' true) := fun w' ha hb => by
      have := sameBalls s A1 n1 z1 c1 h1 A2 n2 z2 c2 h2 w' hzz ha hb (by omega) (by omega)
      rw [← hss]; exact this
    have HC4 := Lib.hid hC4
    clear hC4 hss hzz
    go_wp2
    replace RA := Lib.hid (show Row3 w4.drew ga 27 (.int .i64 s) (.slice A1 n1 c1) (.bool h1) from RA.out)
    replace RB := Lib.hid (show Row3 w4.drew gb 27 (.int .i64 s2) (.slice A2 n2 c2) (.bool h2) from RB.out)
    replace HA := Lib.hid (show OIb w4.drew w.heap.size A1 n1 c1 z1 from HA.out)
    replace HB := Lib.hid (show OIb w4.drew w.heap.size A2 n2 c2 z2 from HB.out)
    replace hT := hT.drew
    have HS := Lib.hid (RA.out.six RB.out)
    go_region_held3 (fun w' => w'.cell? ⟨ga, 0, none⟩ = some (.int .i64 s) ∧ w'.cell? ⟨ga, 1, none⟩ = some (.slice A1 n1 c1) ∧ w'.cell? ⟨ga, 2, none⟩ = some (.bool h1) ∧ w'.cell? ⟨gb, 0, none⟩ = some (.int .i64 s2) ∧ w'.cell? ⟨gb, 1, none⟩ = some (.slice A2 n2 c2) ∧ w'.cell? ⟨gb, 2, none⟩ = some (.bool h2)) (first | exact HS.out | go_keep)
      (first
        | (go_at_call 25; (with_reducible refine (HC1.out _ HB.out.reads HA.out.reads).mono ?_); rintro e wn ⟨rfl, hB⟩; (have hcs := hB.size); (replace RA := Lib.hid (RA.out.below hB RA.out.lt)); (replace RB := Lib.hid (RB.out.below hB RB.out.lt)); (replace HA := Lib.hid (HA.out.below hB (Nat.le_refl _))); (replace HB := Lib.hid (HB.out.below hB (Nat.le_refl _))); (replace hT := hT.trans (hB.mono hT.size)); (have HS := Lib.hid (RA.out.six RB.out)); (clear hB))
        | (go_at_call 25; (with_reducible refine (HC2.out _ HA.out.reads).mono ?_); rintro e wn ⟨rfl, hB⟩; (have hcs := hB.size); (replace RA := Lib.hid (RA.out.below hB RA.out.lt)); (replace RB := Lib.hid (RB.out.below hB RB.out.lt)); (replace HA := Lib.hid (HA.out.below hB (Nat.le_refl _))); (replace HB := Lib.hid (HB.out.below hB (Nat.le_refl _))); (replace hT := hT.trans (hB.mono hT.size)); (have HS := Lib.hid (RA.out.six RB.out)); (clear hB))
        | (go_at_call 18; (with_reducible refine (HC3.out _ HA.out.reads).mono ?_); rintro e wn ⟨rfl, hB⟩; (have hcs := hB.size); (replace RA := Lib.hid (RA.out.below hB RA.out.lt)); (replace RB := Lib.hid (RB.out.below hB RB.out.lt)); (replace HA := Lib.hid (HA.out.below hB (Nat.le_refl _))); (replace HB := Lib.hid (HB.out.below hB (Nat.le_refl _))); (replace hT := hT.trans (hB.mono hT.size)); (have HS := Lib.hid (RA.out.six RB.out)); (clear hB))
        | (go_at_call 33; (with_reducible refine (HC4.out _ HA.out.reads HB.out.reads).mono ?_); rintro e wn ⟨rfl, hB⟩; (have hcs := hB.size); (replace RA := Lib.hid (RA.out.below hB RA.out.lt)); (replace RB := Lib.hid (RB.out.below hB RB.out.lt)); (replace HA := Lib.hid (HA.out.below hB (Nat.le_refl _))); (replace HB := Lib.hid (HB.out.below hB (Nat.le_refl _))); (replace hT := hT.trans (hB.mono hT.size)); (have HS := Lib.hid (RA.out.six RB.out)); (clear hB))
        | (go_at_call 21; refine (alive _).mono ?_; rintro e wn ⟨rfl, rfl⟩))
    all_goals go_wp2
    all_goals go_ret
    all_goals exact ⟨rfl, hT⟩
end Go.Proofs.Ytmianlihdiccjaa

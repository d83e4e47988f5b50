/- Contracts: the same fields. -/
import Derived.Test.YtmianlihdiccjaaFieldV
namespace Go.Proofs.Ytmianlihdiccjaa
open Go.RowKit
set_option linter.unusedVariables false

theorem sEqualB' (A B : Option Addr) (m1 m2 : Nat) (xs ys : List Bool) (c d : Nat) (w : World) (hx : RL w w.heap.size A m1 xs) (hy : RL w w.heap.size B m2 ys) (hl : m1 ≤ 1125899906842624) (hm : m2 ≤ 1125899906842624) :
    Calls Try.prog 63 #[.slice A m1 c, .slice B m2 d] w (GivesT w (eqB xs ys)) :=
  (sEqualB A B m1 m2 xs ys c d w hx hy hl hm).mono fun _ _ ⟨he, n, hw⟩ => ⟨he, by rw [hw]; exact below_drewN (Below.refl _ _) n⟩
set_option maxHeartbeats 1000000 in
theorem same (s : Int) (A : Option Addr) (n : Nat) (xs : List Bool) (c : Nat) (h : Bool) (s' : Int) (B : Option Addr) (m : Nat) (ys : List Bool) (d : Nat) (h' : Bool) (w : World) (hr : RL w w.heap.size A n xs) (hl : n ≤ 1048577) (hr' : RL w w.heap.size B m ys) (hl' : m ≤ 1048577) :
    Calls Try.prog 52 #[.agg #[.int .i64 s, .slice A n c, .bool h], .agg #[.int .i64 s', .slice B m d, .bool h']] w (GivesT w ((s == s') && (h == h') && eqB xs ys)) := by
  obtain ⟨W, hW⟩ : ∃ W, ((w.alloc (.cells #[.int .i64 s, .slice A n c, .bool h] 27)).alloc (.cells #[.int .i64 s', .slice B m d, .bool h'] 27)) = W := ⟨_, rfl⟩
  have hb : Below w.heap.size w W := by rw [← hW]; exact ((Below.refl _ _).alloc (Nat.le_refl _) _).alloc (by simp) _
  obtain ⟨g, hg⟩ : ∃ g, w.heap.size = g := ⟨_, rfl⟩
  have hsz : W.heap.size = g + 2 := by rw [← hW, ← hg]; simp
  have r0 : Row3 W g 27 (.int .i64 s) (.slice A n c) (.bool h) := by rw [← hW, ← hg]; exact (Row3.new w _ _ _ _).alloc _
  have r1 : Row3 W (g + 1) 27 (.int .i64 s') (.slice B m d) (.bool h') := by
    have := Row3.new (w.alloc (.cells #[.int .i64 s, .slice A n c, .bool h] 27)) 27 (.int .i64 s') (.slice B m d) (.bool h')
    rw [hW] at this; rw [← hg]; simpa using this
  obtain ⟨a0, a1, a2, _, _, _⟩ := r0.at_
  obtain ⟨b0, b1, b2, _, _, _⟩ := r1.at_
  have HS := Lib.hid hsz
  clear hsz r0 r1
  cases hs : (s == s')
  · go_enter Try.func52, Try.ntmps52
    go_wp2
    go_ret
    exact ⟨rfl, hb⟩
  · cases h <;> cases h'
    case true.true | false.false =>
      go_enter Try.func52, Try.ntmps52
      go_wp2_with fail
      refine (sEqualB' A B n m xs ys c d W (hr.arg (Nat.le_refl _) hb) (hr'.arg (Nat.le_refl _) hb) (by omega) (by omega)).mono ?_
      rintro e w2 ⟨rfl, hb2⟩
      go_wp2
      go_ret
      exact ⟨ret_bool (by simp), hb.trans (hb2.mono hb.size)⟩
    all_goals
      go_enter Try.func52, Try.ntmps52
      go_wp2
      go_ret
      exact ⟨rfl, hb⟩
set_option maxHeartbeats 2000000 in
theorem sameField (s : Int) (A : Option Addr) (n : Nat) (xs : List Bool) (c : Nat) (h : Bool) (s' : Int) (B : Option Addr) (m : Nat) (ys : List Bool) (d : Nat) (h' : Bool) (w : World) (hr : RL w w.heap.size A n xs) (hl : n ≤ 1048577) (hr' : RL w w.heap.size B m ys) (hl' : m ≤ 1048577) :
    Calls Try.prog 25 #[.agg #[.int .i64 s, .slice A n c, .bool h], .agg #[.int .i64 s', .slice B m d, .bool h']] w (GivesT w (sfB s xs h s' ys h')) := by
  obtain ⟨W, hW⟩ : ∃ W, ((w.alloc (.cells #[.int .i64 s, .slice A n c, .bool h] 27)).alloc (.cells #[.int .i64 s', .slice B m d, .bool h'] 27)) = W := ⟨_, rfl⟩
  have hb : Below w.heap.size w W := by rw [← hW]; exact ((Below.refl _ _).alloc (Nat.le_refl _) _).alloc (by simp) _
  obtain ⟨g, hg⟩ : ∃ g, w.heap.size = g := ⟨_, rfl⟩
  have hsz : W.heap.size = g + 2 := by rw [← hW, ← hg]; simp
  have r0 : Row3 W g 27 (.int .i64 s) (.slice A n c) (.bool h) := by rw [← hW, ← hg]; exact (Row3.new w _ _ _ _).alloc _
  have r1 : Row3 W (g + 1) 27 (.int .i64 s') (.slice B m d) (.bool h') := by
    have := Row3.new (w.alloc (.cells #[.int .i64 s, .slice A n c, .bool h] 27)) 27 (.int .i64 s') (.slice B m d) (.bool h')
    rw [hW] at this; rw [← hg]; simpa using this
  have R0 := Lib.hid r0
  have R1 := Lib.hid r1
  obtain ⟨a0, a1, a2, a3, a4, a5⟩ := r0.at_
  have HS := Lib.hid hsz
  clear hsz r0 r1
  go_enter Try.func25, Try.ntmps25
  go_wp2_with fail
  refine (fieldValid s A n xs c h W (hr.arg (Nat.le_refl _) hb) hl).mono ?_
  rintro e w2 ⟨rfl, hb2⟩
  have hB2 := hb.trans (hb2.mono hb.size)
  replace R0 := Lib.hid (R0.out.below hb2 R0.out.lt)
  replace R1 := Lib.hid (R1.out.below hb2 R1.out.lt)
  clear a0 a1 a2 a3 a4 a5 hb2
  cases hv : fvB s xs
  · have HQ := Lib.hid (show sfB s xs h s' ys h' = false by simp [sfB, hv])
    go_wp2
    go_ret
    exact ⟨ret_bool HQ.out.symm, hB2⟩
  · obtain ⟨b0, b1, b2, b3, b4, b5⟩ := R1.out.at_
    go_wp2_with fail
    refine (fieldValid s' B m ys d h' _ (hr'.arg (Nat.le_refl _) hB2) hl').mono ?_
    rintro e w3 ⟨rfl, hb3⟩
    have hB3 := hB2.trans (hb3.mono hB2.size)
    replace R0 := Lib.hid (R0.out.below hb3 R0.out.lt)
    replace R1 := Lib.hid (R1.out.below hb3 R1.out.lt)
    clear b0 b1 b2 b3 b4 b5 hb3
    cases hv' : fvB s' ys
    · have HQ := Lib.hid (show sfB s xs h s' ys h' = false by simp [sfB, hv'])
      go_wp2
      go_ret
      exact ⟨ret_bool HQ.out.symm, hB3⟩
    · have hq : sfB s xs h s' ys h' = ((s == s') && (h == h') && eqB xs ys) := by simp [sfB, hv, hv']
      have HQ := Lib.hid hq
      clear hq
      obtain ⟨a0, a1, a2, a3, a4, a5⟩ := R0.out.at_
      obtain ⟨b0, b1, b2, b3, b4, b5⟩ := R1.out.at_
      have hS := same s A n xs c h s' B m ys d h' w3 (hr.arg (Nat.le_refl _) hB3) hl (hr'.arg (Nat.le_refl _) hB3) hl'
      rw [← HQ.out] at hS
      have HSS := Lib.hid hS
      clear hS
      go_wp2_with fail
      refine HSS.out.mono ?_
      rintro e w4 ⟨rfl, hb4⟩
      go_wp2
      go_ret
      exact ⟨rfl, hB3.trans (hb4.mono hB3.size)⟩
theorem sf_no {s s' : Int} {xs ys : List Bool} {h h' : Bool} (hn : (fvB s xs && fvB s' ys && (s == s') && (h == h')) = false) : sfB s xs h s' ys h' = false := by unfold sfB; rw [hn]; rfl
set_option maxHeartbeats 4000000 in
theorem sameFieldS (s : Int) (A : Option Addr) (n : Nat) (xs : List Bool) (c : Nat) (h : Bool) (s' : Int) (B : Option Addr) (m : Nat) (ys : List Bool) (d : Nat) (h' : Bool) (w : World) (hr : RL w w.heap.size A n xs) (hl : n ≤ 1048577) (hr' : RL w w.heap.size B m ys) (hl' : m ≤ 1048577) :
    Calls Try.prog 24 #[.agg #[.int .i64 s, .slice A n c, .bool h], .agg #[.int .i64 s', .slice B m d, .bool h']] w (GivesT w (sfB s xs h s' ys h')) := by
  obtain ⟨W, hW⟩ : ∃ W, ((w.alloc (.cells #[.int .i64 s, .slice A n c, .bool h] 27)).alloc (.cells #[.int .i64 s', .slice B m d, .bool h'] 27)) = W := ⟨_, rfl⟩
  have hb : Below w.heap.size w W := by rw [← hW]; exact ((Below.refl _ _).alloc (Nat.le_refl _) _).alloc (by simp) _
  obtain ⟨g, hg⟩ : ∃ g, w.heap.size = g := ⟨_, rfl⟩
  have hsz : W.heap.size = g + 2 := by rw [← hW, ← hg]; simp
  have r0 : Row3 W g 27 (.int .i64 s) (.slice A n c) (.bool h) := by rw [← hW, ← hg]; exact (Row3.new w _ _ _ _).alloc _
  have r1 : Row3 W (g + 1) 27 (.int .i64 s') (.slice B m d) (.bool h') := by
    have := Row3.new (w.alloc (.cells #[.int .i64 s, .slice A n c, .bool h] 27)) 27 (.int .i64 s') (.slice B m d) (.bool h')
    rw [hW] at this; rw [← hg]; simpa using this
  have R0 := Lib.hid r0
  have R1 := Lib.hid r1
  obtain ⟨a0, a1, a2, a3, a4, a5⟩ := r0.at_
  have HS := Lib.hid hsz
  have HLX := Lib.hid hr.len
  have HLY := Lib.hid hr'.len
  clear hsz r0 r1
  go_enter Try.func24, Try.ntmps24
  go_wp2_with fail
  refine (fieldValidS s A n xs c h W (hr.arg (Nat.le_refl _) hb) hl).mono ?_
  rintro e w2 ⟨rfl, hb2⟩
  have hB2 := hb.trans (hb2.mono hb.size)
  replace R0 := Lib.hid (R0.out.below hb2 R0.out.lt)
  replace R1 := Lib.hid (R1.out.below hb2 R1.out.lt)
  clear a0 a1 a2 a3 a4 a5 hb2
  cases hv : fvB s xs
  · have HQ := Lib.hid (sf_no (s := s) (s' := s') (xs := xs) (ys := ys) (h := h) (h' := h') (by simp [hv]))
    go_wp2
    go_ret
    exact ⟨ret_bool HQ.out.symm, hB2⟩
  · obtain ⟨b0, b1, b2, b3, b4, b5⟩ := R1.out.at_
    go_wp2_with fail
    refine (fieldValidS s' B m ys d h' _ (hr'.arg (Nat.le_refl _) hB2) hl').mono ?_
    rintro e w3 ⟨rfl, hb3⟩
    have hB3 := hB2.trans (hb3.mono hB2.size)
    replace R0 := Lib.hid (R0.out.below hb3 R0.out.lt)
    replace R1 := Lib.hid (R1.out.below hb3 R1.out.lt)
    clear b0 b1 b2 b3 b4 b5 hb3
    obtain ⟨a0, a1, a2, a3, a4, a5⟩ := R0.out.at_
    obtain ⟨b0, b1, b2, b3, b4, b5⟩ := R1.out.at_
    cases hv' : fvB s' ys
    · have HQ := Lib.hid (sf_no (s := s) (s' := s') (xs := xs) (ys := ys) (h := h) (h' := h') (by simp [hv']))
      go_wp2
      go_ret
      exact ⟨ret_bool HQ.out.symm, hB3⟩
    · by_cases hss : s = s'
      · have hse : (s != s') = false := by simp [hss]
        have hlxy : n = m := by
          have h1 := (fv_iff.1 hv).2.2.2.1
          have h2 := (fv_iff.1 hv').2.2.2.1
          rw [HLX.out] at h1
          rw [HLY.out] at h2
          rw [hss] at h1
          omega
        have HQQ := Lib.hid (show h = h' → sfB s xs h s' ys h' = eqB xs ys from fun e => by unfold sfB; rw [hv, hv', hss, e]; simp)
        have HQN := Lib.hid (show h ≠ h' → sfB s xs h s' ys h' = false from fun e => sf_no (by simp [e]))
        cases h <;> cases h'
        case true.true | false.false =>
          have HQ := Lib.hid (HQQ.out rfl)
          have hx := hr.arg (Nat.le_refl _) hB3
          have hy := hr'.arg (Nat.le_refl _) hB3
          subst hlxy
          clear hss
          go_wp2
          go_loopw [5] (fun i wr => ∃ (k nd : Nat), k ≤ n ∧ i = .int .i64 k ∧ wr = w3.drewN nd ∧ Hid (∀ j, j < k → xs[j]? = ys[j]?)) (fun i _ => n - (intOf i).toNat)
          case atStart => exact ⟨0, 0, Nat.zero_le _, rfl, rfl, fun j hj => absurd hj (by omega)⟩
          case round =>
            obtain ⟨k, nd, hk, rfl, rfl, HJ⟩ := hrel
            have c0 : ∀ p, (w3.drewN nd).cell? p = w3.cell? p := fun _ => rfl
            by_cases hlt : k < n
            · obtain ⟨ad, x, rfl, _, hxx, hcx⟩ := hx.at_ hlt
              obtain ⟨bd, y, rfl, _, hyy, hcy⟩ := hy.at_ hlt
              have HX := Lib.hid hxx
              have HY := Lib.hid hyy
              have e0 : ∀ nq, (w3.drewN nq).cell? ⟨g, 1, none⟩ = some (.slice (some ad) n c) := fun _ => a1
              have e1 : ∀ nq, (w3.drewN nq).cell? ⟨g + 1, 1, none⟩ = some (.slice (some bd) n d) := fun _ => b1
              clear hxx hyy
              cases x <;> cases y
              case true.true | false.false =>
                have hcw : ∀ m, (w3.drewN m).cell? (ad.add k) = _ := fun _ => hcx
                have hdw : ∀ m, (w3.drewN m).cell? (bd.add k) = _ := fun _ => hcy
                go_wp2
                go_quiet (fail)
                go_wp2
                go_roundw
                case rel =>
                  refine ⟨k + 1, _, by omega, by go_num, rfl, fun j hj => ?_⟩
                  by_cases e : j = k
                  · rw [e, HX.out, HY.out]
                  · exact HJ.out j (by omega)
                case measure => simp [intOf]; omega
              all_goals
                have hcw : ∀ m, (w3.drewN m).cell? (ad.add k) = _ := fun _ => hcx
                have hdw : ∀ m, (w3.drewN m).cell? (bd.add k) = _ := fun _ => hcy
                go_wp2
                go_quiet (fail)
                go_wp2
                go_ret
                refine ⟨ret_bool ?_, by first | exact below_drewN hB3 (nd + nq) | exact below_drewN (below_drewN hB3 nd) nq⟩
                rw [HQ.out]
                symm
                simp only [eqB, decide_eq_false_iff_not]
                intro e
                have := HX.out
                rw [e, HY.out] at this
                cases this
            · obtain rfl : k = n := by omega
              go_wp2
              go_ret
              refine ⟨ret_bool ?_, below_drewN hB3 nd⟩
              rw [HQ.out]
              symm
              simp only [eqB, decide_eq_true_iff]
              apply List.ext_getElem?
              intro j
              by_cases hj : j < k
              · exact HJ.out j hj
              · rw [List.getElem?_eq_none (by rw [HLX.out]; omega), List.getElem?_eq_none (by rw [HLY.out]; omega)]
        all_goals
          have HQ := Lib.hid (HQN.out (by decide))
          clear hss
          go_wp2
          go_ret
          exact ⟨ret_bool HQ.out.symm, hB3⟩
      · have hse : (s != s') = true := by simp [hss]
        have HQ := Lib.hid (sf_no (s := s) (s' := s') (xs := xs) (ys := ys) (h := h) (h' := h') (by simp [hss]))
        clear hss
        go_wp2
        go_ret
        exact ⟨ret_bool HQ.out.symm, hB3⟩
end Go.Proofs.Ytmianlihdiccjaa

/- Contracts: fields that are still. -/
import Derived.Test.YtmianlihdiccjaaStepH
import Derived.Test.YtmianlihdiccjaaStepF
import Derived.Test.YtmianlihdiccjaaFieldM
namespace Go.Proofs.Ytmianlihdiccjaa
open Go.RowKit
set_option linter.unusedVariables false
attribute [local go_sem ↓] Go.wp_at_zero Go.wp_at_succ

theorem sf_not {s s' : Int} {xs ys : List Bool} {h h' : Bool} (hv : fvB s' ys = false) : sfB s xs h s' ys h' = false := by simp [sfB, hv]
/-- what the reference asks is that no ball moves -/
theorem still_S (s : Int) (h : Bool) (zs : List Bool) :
    (sfB (vI (fvB s zs) s) (vL (fvB s zs) (fsL s h zs)) h s zs h && sfB (vI (fvB (vI (fvB s zs) s) (vL (fvB s zs) (fsL s h zs))) (vI (fvB s zs) s)) (vL (fvB (vI (fvB s zs) s) (vL (fvB s zs) (fsL s h zs))) (fsL (vI (fvB s zs) s) (vH (fvB s zs) (!h)) (vL (fvB s zs) (fsL s h zs)))) h s zs h) = stillB s h zs := by
  cases hv : fvB s zs
  · rw [sf_not hv, still_f hv]; rfl
  · have h1 : vI true s = s := rfl
    have h2 : vL true (fsL s h zs) = fsL s h zs := rfl
    have h3 : vH true (!h) = !h := rfl
    rw [h1, h2, h3, fs_valid hv, still_t hv, h1, sf_valid (fs_valid hv) hv]
    show (_ && sfB s (fsL s (!h) (fsL s h zs)) h s zs h) = _
    rw [sf_valid (fs_valid (fs_valid hv)) hv]
theorem vfs_len' {b : Bool} {s : Int} {h : Bool} {zs : List Bool} (hb : b = fvB s zs) (hz : zs.length ≤ 1048576) : (vL b (fsL s h zs)).length ≤ 1048576 := by
  subst hb
  exact vL_len fun hv => by rw [fs_len hv]; exact hz
set_option maxHeartbeats 4000000 in
theorem stillS (s : Int) (A : Option Addr) (n : Nat) (zs : List Bool) (c : Nat) (h : Bool) (w : World) (hr : RL w w.heap.size A n zs) (hl : n ≤ 1048576) :
    Calls Try.prog 37 #[.agg #[.int .i64 s, .slice A n c, .bool h]] w (GivesT w (stillB s h zs)) := by
  have hst := still_S s h zs
  have hle1 : (vL (fvB s zs) (fsL s h zs)).length ≤ 1048576 := vfs_len' rfl (by rw [hr.len]; exact hl)
  have hC1 := fun w h1 h2 => fieldStepS s A n zs c h w h1 h2
  obtain ⟨s1, hs1⟩ : ∃ x, vI (fvB s zs) s = x := ⟨_, rfl⟩
  obtain ⟨z1, hz1⟩ : ∃ x, vL (fvB s zs) (fsL s h zs) = x := ⟨_, rfl⟩
  obtain ⟨h1, hh1⟩ : ∃ x, vH (fvB s zs) (!h) = x := ⟨_, rfl⟩
  rw [hs1, hz1, hh1] at hst hC1
  rw [hz1] at hle1
  have hle2 : (vL (fvB s1 z1) (fsL s1 h1 z1)).length ≤ 1048576 := vfs_len' rfl hle1
  have hC2 := fun A n c w h1' h2' => fieldStepS s1 A n z1 c h1 w h1' h2'
  obtain ⟨s2, hs2⟩ : ∃ x, vI (fvB s1 z1) s1 = x := ⟨_, rfl⟩
  obtain ⟨z2, hz2⟩ : ∃ x, vL (fvB s1 z1) (fsL s1 h1 z1) = x := ⟨_, rfl⟩
  obtain ⟨h2, hh2⟩ : ∃ x, vH (fvB s1 z1) (!h1) = x := ⟨_, rfl⟩
  rw [hs2, hz2, hh2] at hC2
  rw [hs2, hz2] at hst
  rw [hz2] at hle2
  obtain ⟨b1, hb1⟩ : ∃ b, sfB s1 z1 h s zs h = b := ⟨_, rfl⟩
  obtain ⟨b2, hb2⟩ : ∃ b, sfB s2 z2 h s zs h = b := ⟨_, rfl⟩
  have hD1 := fun B m d w hx hy hx' hy' => sameFieldS s1 B m z1 d h s A n zs c h w hx hy hx' hy'
  have hD2 := fun B m d w hx hy hx' hy' => sameFieldS s2 B m z2 d h s A n zs c h w hx hy hx' hy'
  rw [hb1] at hD1 hst
  rw [hb2] at hD2 hst
  obtain ⟨W, hW⟩ : ∃ W, w.alloc (.cells #[.int .i64 s, .slice A n c, .bool h] 27) = W := ⟨_, rfl⟩
  have hb : Below w.heap.size w W := by rw [← hW]; exact (Below.refl _ _).alloc (Nat.le_refl _) _
  obtain ⟨g, hg⟩ : ∃ g, w.heap.size = g := ⟨_, rfl⟩
  have r0 : Row3 W g 27 (.int .i64 s) (.slice A n c) (.bool h) := by rw [← hW, ← hg]; exact Row3.new w _ _ _ _
  have R0 := Lib.hid r0
  have HST := Lib.hid hst
  have HC1 := Lib.hid hC1
  have HC2 := Lib.hid hC2
  have HD1 := Lib.hid hD1
  have HD2 := Lib.hid hD2
  obtain ⟨a0, a1, a2, a3, a4, a5⟩ := r0.at_
  have hgW : g < W.heap.size := r0.lt
  have hwg : w.heap.size ≤ g := by omega
  clear hst hC1 hC2 hD1 hD2 hs1 hz1 hh1 hs2 hz2 hh2 hb1 hb2 r0
  rw [← HST.out]
  go_enter Try.func37, Try.ntmps37
  go_wp2_with fail
  refine (HC1.out W (hr.arg (Nat.le_refl _) hb) hl).mono ?_
  rintro e w2 ⟨A2, n2, c2, rfl, hO2, hB2⟩
  have hn2 : n2 ≤ 1048576 := by rw [← hO2.len]; exact hle1
  have hW2 := hB2.size
  have hT2 := hb.trans (hB2.mono hb.size)
  replace R0 := Lib.hid (R0.out.below hB2 R0.out.lt)
  have HO2 := Lib.hid hO2
  have HW := Lib.hid hW
  have HG := Lib.hid hg
  obtain ⟨gx, hgx⟩ : ∃ gx, w2.heap.size = gx := ⟨_, rfl⟩
  have hne2 : (Value.slice A2 n2 c2).ownBlock ≠ some gx := fun e => by have := (hO2.lt gx e).2; omega
  have HNE := Lib.hid hne2
  clear hne2
  obtain ⟨w3, hw3⟩ : ∃ w3, w2.alloc (.cells #[.int .i64 s1, .slice A2 n2 c2, .bool h1] 27) = w3 := ⟨_, rfl⟩
  have hB3 : Below w2.heap.size w2 w3 := by rw [← hw3]; exact (Below.refl _ _).alloc (Nat.le_refl _) _
  have RX := Lib.hid (show Row3 w3 gx 27 (.int .i64 s1) (.slice A2 n2 c2) (.bool h1) by rw [← hw3, ← hgx]; exact Row3.new w2 _ _ _ _)
  replace R0 := Lib.hid (R0.out.below hB3 R0.out.lt)
  have HO3 := Lib.hid (HO2.out.below hB3 (Nat.le_refl _))
  have hT3 := hT2.trans (hB3.mono hT2.size)
  have hsz3 : w3.heap.size = gx + 1 := by rw [← hw3, ← hgx]; simp
  have hgxW : W.heap.size ≤ gx := by omega
  have HW3 := Lib.hid hw3
  have HGX := Lib.hid hgx
  have HS3 := Lib.hid hsz3
  clear a0 a1 a2 a3 a4 a5 hO2 hB2 hB3 hW hg hw3 hgx HO2 hsz3
  go_wp2_with fail
  rw [HW3.out, HGX.out]
  refine (HC2.out A2 n2 c2 w3 HO3.out.reads hn2).mono ?_
  rintro e w4 ⟨A4, n4, c4, rfl, hO4, hB4⟩
  have hn4 : n4 ≤ 1048576 := by rw [← hO4.len]; exact hle2
  have hs34 := hB4.size
  replace R0 := Lib.hid (R0.out.below hB4 R0.out.lt)
  replace RX := Lib.hid (RX.out.below hB4 RX.out.lt)
  have HO4 := Lib.hid hO4
  replace HO3 := Lib.hid (HO3.out.below hB4 (Nat.le_refl _))
  have hT4 := hT3.trans (hB4.mono hT3.size)
  have hgx3 : gx < w3.heap.size := by rw [HS3.out]; omega
  have hgx4 : gx < w4.heap.size := by omega
  obtain ⟨gy, hgy⟩ : ∃ gy, w4.heap.size = gy := ⟨_, rfl⟩
  obtain ⟨w5, hw5⟩ : ∃ w5, (w4.setCell ⟨gx, 2, none⟩ (.bool h)).alloc (.cells #[.int .i64 s2, .slice A4 n4 c4, .bool h] 27) = w5 := ⟨_, rfl⟩
  have hT5 : Below w.heap.size w w5 := by rw [← hw5]; exact (hT4.setCell (p := ⟨gx, 2, none⟩) (show w.heap.size ≤ gx by omega) _).alloc (by simpa using hT4.size) _
  have RX5 := Lib.hid (show Row3 w5 gx 27 (.int .i64 s1) (.slice A2 n2 c2) (.bool h) by rw [← hw5]; exact (RX.out.set2 _).alloc _)
  have R05 := Lib.hid (show Row3 w5 g 27 (.int .i64 s) (.slice A n c) (.bool h) by rw [← hw5]; exact (R0.out.other (p := ⟨gx, 2, none⟩) (show g ≠ gx by omega) _).alloc _)
  have RY5 := Lib.hid (show Row3 w5 gy 27 (.int .i64 s2) (.slice A4 n4 c4) (.bool h) by
    have := Row3.new (w4.setCell ⟨gx, 2, none⟩ (.bool h)) 27 (.int .i64 s2) (.slice A4 n4 c4) (.bool h)
    rw [hw5] at this; rw [← hgy]; simpa using this)
  have HO35 := Lib.hid (show OIb w5 W.heap.size A2 n2 c2 z1 by rw [← hw5]; exact ((HO3.out.kept (grown_set _ ⟨gx, 2, none⟩ _) (.inr HNE.out)).alloc _))
  have HO45 := Lib.hid (show OIb w5 w3.heap.size A4 n4 c4 z2 by rw [← hw5]; exact ((HO4.out.apart (grown_set _ ⟨gx, 2, none⟩ _) (.inl hgx3)).alloc _))
  have HW5 := Lib.hid hw5
  have HGY := Lib.hid hgy
  obtain ⟨a0, a1, a2, a3, a4, a5⟩ := R0.out.at_
  obtain ⟨x0, x1, x2, x3, x4, x5⟩ := RX.out.at_
  have hg4 : g < w4.heap.size := by omega
  clear hO4 hB4 hw5 hgy
  go_wp2_with fail
  rw [HW5.out]
  refine (HD1.out A2 n2 c2 w5 HO35.out.reads (by omega) (hr.arg (Nat.le_refl _) hT5) (by omega)).mono ?_
  rintro e w6 ⟨rfl, hB6⟩
  have hT6 := hT5.trans (hB6.mono hT5.size)
  have R06 := Lib.hid (R05.out.below hB6 R05.out.lt)
  have RY6 := Lib.hid (RY5.out.below hB6 RY5.out.lt)
  have HO46 := Lib.hid (HO45.out.below hB6 (Nat.le_refl _))
  clear a0 a1 a2 a3 a4 a5 x0 x1 x2 x3 x4 x5 hB6
  rw [HGY.out]
  cases b1
  · go_wp2
    go_ret
    exact ⟨rfl, hT6⟩
  · obtain ⟨a0, a1, a2, a3, a4, a5⟩ := R06.out.at_
    obtain ⟨y0, y1, y2, y3, y4, y5⟩ := RY6.out.at_
    go_wp2_with fail
    refine (HD2.out A4 n4 c4 w6 HO46.out.reads (by omega) (hr.arg (Nat.le_refl _) hT6) (by omega)).mono ?_
    rintro e w7 ⟨rfl, hB7⟩
    have hT7 := hT6.trans (hB7.mono hT6.size)
    clear a0 a1 a2 a3 a4 a5 y0 y1 y2 y3 y4 y5 hB7
    go_wp2
    go_ret
    exact ⟨rfl, hT7⟩
set_option maxHeartbeats 4000000 in
theorem still (s : Int) (A : Option Addr) (n : Nat) (zs : List Bool) (c : Nat) (h : Bool) (w : World) (hr : RL w w.heap.size A n zs) (hl : n ≤ 1048576) :
    Calls Try.prog 38 #[.agg #[.int .i64 s, .slice A n c, .bool h]] w (GivesT w (stillB s h zs)) := by
  obtain ⟨W, hW⟩ : ∃ W, w.alloc (.cells #[.int .i64 s, .slice A n c, .bool h] 27) = W := ⟨_, rfl⟩
  have hb : Below w.heap.size w W := by rw [← hW]; exact (Below.refl _ _).alloc (Nat.le_refl _) _
  obtain ⟨g, hg⟩ : ∃ g, w.heap.size = g := ⟨_, rfl⟩
  have r0 : Row3 W g 27 (.int .i64 s) (.slice A n c) (.bool h) := by rw [← hW, ← hg]; exact Row3.new w _ _ _ _
  have R0 := Lib.hid r0
  obtain ⟨a0, a1, a2, a3, a4, a5⟩ := r0.at_
  have hgW : g < W.heap.size := r0.lt
  have hwg : w.heap.size ≤ g := by omega
  clear r0
  go_enter Try.func38, Try.ntmps38
  go_wp2_with fail
  refine (fieldValid s A n zs c h W (hr.arg (Nat.le_refl _) hb) (by omega)).mono ?_
  rintro e w2 ⟨rfl, hB2⟩
  have hT2 := hb.trans (hB2.mono hb.size)
  replace R0 := Lib.hid (R0.out.below hB2 R0.out.lt)
  have hW2 := hB2.size
  have HW := Lib.hid hW
  have HG := Lib.hid hg
  clear a0 a1 a2 a3 a4 a5 hB2 hW hg
  cases hv : fvB s zs
  · have HS := Lib.hid (still_f (h := h) hv)
    clear hv
    go_wp2
    go_ret
    exact ⟨ret_bool HS.out.symm, hT2⟩
  · have hst := still_t (h := h) hv
    have hlen1 : (fsL s h zs).length = n := by rw [fs_len hv, hr.len]
    have hlen2 : (fsL s (!h) (fsL s h zs)).length = n := by rw [fs_len (fs_valid hv), hlen1]
    obtain ⟨z1, hz1⟩ : ∃ z, fsL s h zs = z := ⟨_, rfl⟩
    have hC1 := step s A n zs c h w2 (hr.arg (Nat.le_refl _) hT2) hl hv
    have hv1 := fs_valid (h := h) hv
    rw [hz1] at hC1 hst hlen1 hlen2 hv1
    obtain ⟨z2, hz2⟩ : ∃ z, fsL s (!h) z1 = z := ⟨_, rfl⟩
    rw [hz2] at hst hlen2
    have hC2 : ∀ A2 n2 c2 w', RL w' w'.heap.size A2 n2 z1 → n2 ≤ 1048576 → Calls Try.prog 60 #[.agg #[.int .i64 s, .slice A2 n2 c2, .bool (!h)]] w' (GivesF w' s z2 (!!h)) := fun A2 n2 c2 w' h1 h2 => by
      have := step s A2 n2 z1 c2 (!h) w' h1 h2 hv1
      rw [hz2] at this; exact this
    obtain ⟨hh, hhe⟩ : ∃ hh, (!h) = hh := ⟨_, rfl⟩
    obtain ⟨b1, hb1⟩ : ∃ b, eqB z1 zs = b := ⟨_, rfl⟩
    obtain ⟨b2, hb2⟩ : ∃ b, eqB z2 zs = b := ⟨_, rfl⟩
    have hD1 := fun B m d w hx hy hx' hy' => sEqualB' B A m n z1 zs d c w hx hy hx' hy'
    have hD2 := fun B m d w hx hy hx' hy' => sEqualB' B A m n z2 zs d c w hx hy hx' hy'
    rw [hb1] at hD1 hst
    rw [hb2] at hD2 hst
    rw [hhe] at hC1 hC2
    have HB1 := Lib.hid hb1
    have HC1 := Lib.hid hC1
    have HC2 := Lib.hid hC2
    have HD1 := Lib.hid hD1
    have HD2 := Lib.hid hD2
    have HST := Lib.hid hst
    rw [hst]
    obtain ⟨a0, a1, a2, a3, a4, a5⟩ := R0.out.at_
    clear hst hC1 hC2 hD1 hD2 hz1 hz2 hb1 hb2 hhe hv hv1
    go_wp2_with fail
    refine HC1.out.mono ?_
    rintro e w4 ⟨A4, n4, c4, rfl, hO4, hB4⟩
    have hn4 : n4 ≤ 1048576 := by rw [← hO4.len, hlen1]; exact hl
    have hs34 := hB4.size
    replace R0 := Lib.hid (R0.out.below hB4 R0.out.lt)
    have hT4 := hT2.trans (hB4.mono hT2.size)
    obtain ⟨gx, hgx⟩ : ∃ gx, w4.heap.size = gx := ⟨_, rfl⟩
    obtain ⟨w5, hw5⟩ : ∃ w5, w4.alloc (.cells #[.int .i64 s, .slice A4 n4 c4, .bool hh] 27) = w5 := ⟨_, rfl⟩
    have hB5 : Below w4.heap.size w4 w5 := by rw [← hw5]; exact (Below.refl _ _).alloc (Nat.le_refl _) _
    have RX := Lib.hid (show Row3 w5 gx 27 (.int .i64 s) (.slice A4 n4 c4) (.bool hh) by rw [← hw5, ← hgx]; exact Row3.new w4 _ _ _ _)
    replace R0 := Lib.hid (R0.out.below hB5 R0.out.lt)
    have HO5 := Lib.hid (hO4.below hB5 (Nat.le_refl _))
    have hT5 := hT4.trans (hB5.mono hT4.size)
    have HW5 := Lib.hid hw5
    have HGX := Lib.hid hgx
    clear a0 a1 a2 a3 a4 a5 hO4 hB4 hB5 hw5 hgx
    go_wp2
    rw [HW5.out, HGX.out]
    have HS0 := Lib.hid (RX.out.six R0.out)
    obtain ⟨x0, x1, x2, y0, y1, y2⟩ := RX.out.six R0.out
    have hTd := hT5.drew
    have HOd := Lib.hid (show OIb w5.drew w2.heap.size A4 n4 c4 z1 from HO5.out)
    cases b1
    · have hq : ∀ nd, Calls Try.prog 63 #[.slice A4 n4 c4, .slice A n c] (w5.drewN nd) fun e w' => e = .returned (.bool false) ∧ ∃ m, w' = (w5.drewN nd).drewN m := fun nd => by
        have := sEqualB A4 A n4 n z1 zs c4 c (w5.drewN nd) HO5.out.reads (hr.arg (Nat.le_refl _) (below_drewN hT5 nd)) (by omega) (by omega)
        rw [HB1.out] at this
        exact this
      have HQ := Lib.hid hq
      clear hq
      go_quiet ((go_at_call 63; exact Calls.quiet_of (HQ.out _)))
      go_wp2
      go_ret
      exact ⟨ret_bool (by rw [HST.out]; rfl), below_drewN hT5 _⟩
    · have hfd : ∀ (a : Int) (b : Option Addr) (n7' c' : Nat) (d : Bool) (w' : World), (Instr.field 27 (.agg #[.int .i64 a, .slice b n7' c', .bool d]) 1).run Try.prog w' = .ok (.slice b n7' c') w' := fun a b n7' c' d w' => by kernel_rfl
      go_region_held3 (fun w' => w'.cell? ⟨gx, 0, none⟩ = some (.int .i64 s) ∧ w'.cell? ⟨gx, 1, none⟩ = some (.slice A4 n4 c4) ∧ w'.cell? ⟨gx, 2, none⟩ = some (.bool hh) ∧ w'.cell? ⟨g, 0, none⟩ = some (.int .i64 s) ∧ w'.cell? ⟨g, 1, none⟩ = some (.slice A n c) ∧ w'.cell? ⟨g, 2, none⟩ = some (.bool h)) (first | exact HS0.out | exact HS1.out | exact HS2.out | exact HS3.out | go_keep)
        (first
          | (go_at_call 63; (with_reducible refine (HD1.out A4 n4 c4 _ HOd.out.reads (hr.arg (Nat.le_refl _) hTd) (by omega) (by omega)).mono ?_); rintro e w6 ⟨rfl, hB6⟩; (have R06 := Lib.hid ((R0.out.drew).below hB6 R0.out.lt)); (have RX6 := Lib.hid ((RX.out.drew).below hB6 RX.out.lt)); (have HS1 := Lib.hid (RX6.out.six R06.out)); (have hT6 := hTd.trans (hB6.mono hTd.size)); (have HO6 := Lib.hid (HOd.out.below hB6 (Nat.le_refl _))))
          | (go_at_call 60; refine (HC2.out A4 n4 c4 _ HO6.out.reads hn4).mono ?_; rintro e w7 ⟨A7, n7, c7, rfl, hO7, hB7⟩; (have hn7 : n7 ≤ 1048576 := (by rw [← hO7.len, hlen2]; exact hl)); (have R07 := Lib.hid (R06.out.below hB7 R06.out.lt)); (have RX7 := Lib.hid (RX6.out.below hB7 RX6.out.lt)); (have HS2 := Lib.hid (RX7.out.six R07.out)); (have hT7 := hT6.trans (hB7.mono hT6.size)); (have HO7 := Lib.hid hO7))
          | (go_at_call 63; (with_reducible refine (HD2.out A7 n7 c7 _ HO7.out.reads (hr.arg (Nat.le_refl _) hT7) (by omega) (by omega)).mono ?_); rintro e w8 ⟨rfl, hB8⟩; (have hT8 := hT7.trans (hB8.mono hT7.size)); (have HS3 := Lib.hid ((RX7.out.below hB8 RX7.out.lt).six (R07.out.below hB8 R07.out.lt)))))
      go_wp2
      go_ret
      exact ⟨ret_bool (by rw [HST.out]; simp), hT8⟩
end Go.Proofs.Ytmianlihdiccjaa

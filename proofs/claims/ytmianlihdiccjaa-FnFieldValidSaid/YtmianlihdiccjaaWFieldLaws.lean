/- The walk of the drawn law on moved fields. -/
import Derived.Test.YtmianlihdiccjaaDrawField2
import Derived.Test.YtmianlihdiccjaaStepH
import Derived.Test.YtmianlihdiccjaaFieldM
import Derived.Test.YtmianlihdiccjaaFieldW2
namespace Go.Proofs.Ytmianlihdiccjaa
open Go.RowKit
set_option linter.unusedVariables false
attribute [local go_sem ↓] Go.wp_at_zero Go.wp_at_succ

set_option maxHeartbeats 1000000 in
/-- used where the two are the same -/
theorem sameBalls (s : Int) (A : Option Addr) (n : Nat) (xs : List Bool) (c : Nat) (h : Bool) (B : Option Addr) (m : Nat) (ys : List Bool) (d : Nat) (h' : Bool) (w : World) (hxy : xs = ys) (hr : RL w w.heap.size A n xs) (hr' : RL w w.heap.size B m ys) (hl : n ≤ 1048576) (hl' : m ≤ 1048576) :
    Calls Try.prog 33 #[.agg #[.int .i64 s, .slice A n c, .bool h], .agg #[.int .i64 s, .slice B m d, .bool h']] w (GivesT w true) := by
  have e1 : eqB xs ys = true := eqB_t hxy
  obtain ⟨W, hW⟩ : ∃ W, ((w.alloc (.cells #[.int .i64 s, .slice A n c, .bool h] 27)).alloc (.cells #[.int .i64 s, .slice B m d, .bool h'] 27)) = W := ⟨_, rfl⟩
  have hb : Below w.heap.size w W := by rw [← hW]; exact ((Below.refl _ _).alloc (Nat.le_refl _) _).alloc (by simp) _
  obtain ⟨g, hg⟩ : ∃ g, w.heap.size = g := ⟨_, rfl⟩
  have hsz : W.heap.size = g + 2 := by rw [← hW, ← hg]; simp
  have r0 : Row3 W g 27 (.int .i64 s) (.slice A n c) (.bool h) := by rw [← hW, ← hg]; exact (Row3.new w _ _ _ _).alloc _
  have r1 : Row3 W (g + 1) 27 (.int .i64 s) (.slice B m d) (.bool h') := by
    have := Row3.new (w.alloc (.cells #[.int .i64 s, .slice A n c, .bool h] 27)) 27 (.int .i64 s) (.slice B m d) (.bool h')
    rw [hW] at this; rw [← hg]; simpa using this
  obtain ⟨a0, a1, a2, _, _, _⟩ := r0.at_
  obtain ⟨b0, b1, b2, _, _, _⟩ := r1.at_
  have HS := Lib.hid hsz
  have HX := Lib.hid hxy
  clear hsz hxy r0 r1
  go_enter Try.func33, Try.ntmps33
  go_wp2_with fail
  refine (sameBools A B n m xs ys c d W (hr.arg (Nat.le_refl _) hb) (hr'.arg (Nat.le_refl _) hb) (by omega) (by omega)).mono ?_
  rintro e w2 ⟨rfl, nd, rfl⟩
  go_wp2
  go_ret
  exact ⟨rfl, below_drewN hb nd⟩
theorem vI_le {b : Bool} {s : Int} : b = false → vI b s = 0 := fun h => by rw [h]; rfl
theorem mv_side {s : Int} {zs : List Bool} (hv : fvB s zs = true) : moveOk s 0 = true := by
  rcases fv_s hv with rfl | rfl | rfl | rfl <;> rfl
theorem RL.nilOf {w w' : World} {B : Nat} {A : Option Addr} {n : Nat} (h : RL w B A n []) : n = 0 := by have := h.len; simpa using this.symm
set_option maxRecDepth 100000 in
set_option maxHeartbeats 16000000 in
theorem walkFnFieldMove (w : World) (A : Option Addr) (zb : List Int) (c : Nat) (hc : zb.length ≤ c ∧ c ≤ maxLen) (h : RB w w.heap.size A zb) :
    Calls Try.prog 9 #[.slice A zb.length c] w fun e w' => e = .returned (.bool true) ∧ Below w.heap.size w w' := by
  have hcm := hc.2
  unfold maxLen at hcm
  by_cases hl : 1048576 < zb.length
  · go_enter Try.func9, Try.ntmps9
    go_wp2
    go_ret
    exact ⟨rfl, Below.refl _ _⟩
  go_enter Try.func9, Try.ntmps9
  go_wp2_with fail
  refine (drawFieldMove A zb c w h hc.1 hc.2).mono ?_
  rintro e w1 ⟨s, A1, n1, c1, h1, zs, ex, ny, rfl, hn1, hO1, hB1⟩
  have hZ : zs.length = n1 := hO1.len
  obtain ⟨gf, hgf⟩ : ∃ gf, w1.heap.size = gf := ⟨_, rfl⟩
  obtain ⟨w2, hw2⟩ : ∃ w2, w1.alloc (.cells #[.int .i64 s, .slice A1 n1 c1, .bool h1] 27) = w2 := ⟨_, rfl⟩
  have RF := Lib.hid (show Row3 w2 gf 27 (.int .i64 s) (.slice A1 n1 c1) (.bool h1) by rw [← hw2, ← hgf]; exact Row3.new w1 _ _ _ _)
  have HF := Lib.hid (show OIb w2 w.heap.size A1 n1 c1 zs by rw [← hw2]; exact hO1.alloc _)
  have hT2 : Below w.heap.size w w2 := by rw [← hw2]; exact hB1.alloc hB1.size _
  obtain ⟨V, hV⟩ : ∃ V, (fvB s zs && moveOk ex ny) = V := ⟨_, rfl⟩
  have hm1 := fun w' hr => fieldMove s A1 n1 zs c1 h1 ex ny w' hr (by omega)
  have hm2 := fun w' hr => fieldMoveS s A1 n1 zs c1 h1 ex ny w' hr (by omega)
  rw [hV] at hm1 hm2
  have hzl : (vL V (fmL s ex ny zs)).length ≤ 100 := vL_len fun _ => by rw [show (fmL s ex ny zs).length = zs.length from pm_len _ _ _, hZ]; exact hn1
  obtain ⟨sx, hsx⟩ : ∃ x, vI V s = x := ⟨_, rfl⟩
  obtain ⟨zx, hzx⟩ : ∃ x, vL V (fmL s ex ny zs) = x := ⟨_, rfl⟩
  obtain ⟨hx, hhx⟩ : ∃ x, vH V h1 = x := ⟨_, rfl⟩
  rw [hsx, hzx, hhx] at hm1 hm2
  rw [hzx] at hzl
  have HM1 := Lib.hid hm1
  have HM2 := Lib.hid hm2
  have HV := Lib.hid hV
  have HSX := Lib.hid hsx
  have HZX := Lib.hid hzx
  have HHX := Lib.hid hhx
  have HZ := Lib.hid hZ
  have HW2 := Lib.hid hw2
  have HGF := Lib.hid hgf
  clear hm1 hm2 hV hsx hzx hhx hw2 hgf hO1 h hc hcm hl hZ
  go_wp2_with fail
  rw [HW2.out, HGF.out]
  refine (HM1.out w2 HF.out.reads).mono ?_
  rintro e w3 ⟨A3, n3, c3, rfl, hO3, hB3⟩
  replace RF := Lib.hid (RF.out.below hB3 RF.out.lt)
  replace HF := Lib.hid (HF.out.below hB3 (Nat.le_refl _))
  have hT3 := hT2.trans (hB3.mono hT2.size)
  have hn3 : n3 ≤ 100 := by rw [← hO3.len]; exact hzl
  obtain ⟨gx, hgx⟩ : ∃ gx, w3.heap.size = gx := ⟨_, rfl⟩
  obtain ⟨w4, hw4⟩ : ∃ w4, w3.alloc (.cells #[.int .i64 sx, .slice A3 n3 c3, .bool hx] 27) = w4 := ⟨_, rfl⟩
  have RX := Lib.hid (show Row3 w4 gx 27 (.int .i64 sx) (.slice A3 n3 c3) (.bool hx) by rw [← hw4, ← hgx]; exact Row3.new w3 _ _ _ _)
  have HX := Lib.hid (show OIb w4 w.heap.size A3 n3 c3 zx by rw [← hw4]; exact (hO3.alloc _).mono hT2.size)
  have RF4 := Lib.hid (show Row3 w4 gf 27 (.int .i64 s) (.slice A1 n1 c1) (.bool h1) by rw [← hw4]; exact RF.out.alloc _)
  have HF4 := Lib.hid (show OIb w4 w.heap.size A1 n1 c1 zs by rw [← hw4]; exact HF.out.alloc _)
  have hT4 : Below w.heap.size w w4 := by rw [← hw4]; exact hT3.alloc hT3.size _
  have HW4 := Lib.hid hw4
  have HGX := Lib.hid hgx
  obtain ⟨a0, a1, a2, a3, a4, a5⟩ := RF.out.at_
  have hgf3 : gf < w3.heap.size := RF.out.lt
  clear hw4 hgx hO3 hB3
  go_wp2_with fail
  rw [HW4.out, HGX.out]
  refine (HM2.out w4 HF4.out.reads).mono ?_
  rintro e w5 ⟨A5, n5, c5, rfl, hO5, hB5⟩
  have hn5 : n5 ≤ 100 := by rw [← hO5.len]; exact hzl
  clear a0 a1 a2 a3 a4 a5 RF HF
  have RF := Lib.hid (RF4.out.below hB5 RF4.out.lt)
  have HF := Lib.hid (HF4.out.below hB5 (Nat.le_refl _))
  have RX5 := Lib.hid (RX.out.below hB5 RX.out.lt)
  have HX5 := Lib.hid (HX.out.below hB5 (Nat.le_refl _))
  have hT5 := hT4.trans (hB5.mono hT4.size)
  obtain ⟨gy, hgy⟩ : ∃ gy, w5.heap.size = gy := ⟨_, rfl⟩
  obtain ⟨w6, hw6⟩ : ∃ w6, w5.alloc (.cells #[.int .i64 sx, .slice A5 n5 c5, .bool hx] 27) = w6 := ⟨_, rfl⟩
  have RY6 := Lib.hid (show Row3 w6 gy 27 (.int .i64 sx) (.slice A5 n5 c5) (.bool hx) by rw [← hw6, ← hgy]; exact Row3.new w5 _ _ _ _)
  have HY6 := Lib.hid (show OIb w6 w.heap.size A5 n5 c5 zx by rw [← hw6]; exact (hO5.alloc _).mono hT4.size)
  have RF6 := Lib.hid (show Row3 w6 gf 27 (.int .i64 s) (.slice A1 n1 c1) (.bool h1) by rw [← hw6]; exact RF.out.alloc _)
  have HF6 := Lib.hid (show OIb w6 w.heap.size A1 n1 c1 zs by rw [← hw6]; exact HF.out.alloc _)
  have RX6 := Lib.hid (show Row3 w6 gx 27 (.int .i64 sx) (.slice A3 n3 c3) (.bool hx) by rw [← hw6]; exact RX5.out.alloc _)
  have HX6 := Lib.hid (show OIb w6 w.heap.size A3 n3 c3 zx by rw [← hw6]; exact HX5.out.alloc _)
  have hT6 : Below w.heap.size w w6 := by rw [← hw6]; exact hT5.alloc hT5.size _
  obtain ⟨a0, a1, a2, a3, a4, a5⟩ := RX5.out.at_
  have hgx5 : gx < w5.heap.size := RX5.out.lt
  have HW6 := Lib.hid hw6
  have HGY := Lib.hid hgy
  clear hw6 hgy hO5 hB5 RX HX RF4 HF4 RF HF
  go_wp2_with fail
  rw [HW6.out, HGY.out]
  refine (sameBalls sx A3 n3 zx c3 hx A5 n5 zx c5 hx w6 rfl HX6.out.reads HY6.out.reads (by omega) (by omega)).mono ?_
  rintro e w7 ⟨rfl, hB7⟩
  clear a0 a1 a2 a3 a4 a5 RX5 HX5
  have RF := Lib.hid (RF6.out.below hB7 RF6.out.lt)
  have HF := Lib.hid (HF6.out.below hB7 (Nat.le_refl _))
  have RX := Lib.hid (RX6.out.below hB7 RX6.out.lt)
  have HX := Lib.hid (HX6.out.below hB7 (Nat.le_refl _))
  have RY := Lib.hid (RY6.out.below hB7 RY6.out.lt)
  have hT := hT6.trans (hB7.mono hT6.size)
  obtain ⟨x0, x1, x2, x3, x4, x5⟩ := RX.out.at_
  obtain ⟨y0, y1, y2, y3, y4, y5⟩ := RY.out.at_
  clear hB7 RF6 HF6 RX6 HX6 RY6 HY6
  cases V
  · obtain rfl : sx = 0 := HSX.out.symm
    have hn0 : n3 = 0 := by have := HX.out.len; rw [← HZX.out] at this; simpa [vL] using this.symm
    subst hn0
    go_wp2_with (go_at_call 21; refine (alive _).mono ?_; rintro e w' ⟨rfl, rfl⟩)
    go_ret
    exact ⟨rfl, hT⟩
  · have hvm : fvB s zs = true ∧ moveOk ex ny = true := by have := HV.out; simpa using this
    obtain ⟨hv, hm⟩ := hvm
    obtain rfl : s = sx := HSX.out
    obtain rfl : h1 = hx := HHX.out
    have hzx : fmL s ex ny zs = zx := HZX.out
    have hvx : fvB s zx = true := by rw [← hzx]; exact fm_valid hv
    have hs0 : (s == 0) = false := by have := (fv_iff.1 hv).1; simp; omega
    obtain ⟨za, hza⟩ : ∃ z, fsL s h1 zx = z := ⟨_, rfl⟩
    obtain ⟨zc, hzc⟩ : ∃ z, fsL s h1 zs = z := ⟨_, rfl⟩
    have hvc : fvB s zc = true := by rw [← hzc]; exact fs_valid hv
    have hva : fvB s za = true := by rw [← hza]; exact fs_valid hvx
    have hmc : fmL s ex ny zc = za := by rw [← hza, ← hzx, st_move hv hm, hzc]
    have hla : za.length = n1 := by rw [← hza, fs_len hvx, ← hzx, show (fmL s ex ny zs).length = zs.length from pm_len _ _ _, HZ.out]
    have hlc : zc.length = n1 := by rw [← hzc, fs_len hv, HZ.out]
    have hC1 : ∀ A n c w', RL w' w'.heap.size A n zx → n ≤ 1048576 → Calls Try.prog 34 #[.agg #[.int .i64 s, .slice A n c, .bool h1]] w' (GivesF w' s za (!h1)) := fun A n c w' h2 h3 => by
      have := fieldStep s A n zx c h1 w' h2 h3
      rw [hvx, hza] at this; exact this
    have hC2 : ∀ A n c w', RL w' w'.heap.size A n zs → n ≤ 1048576 → Calls Try.prog 34 #[.agg #[.int .i64 s, .slice A n c, .bool h1]] w' (GivesF w' s zc (!h1)) := fun A n c w' h2 h3 => by
      have := fieldStep s A n zs c h1 w' h2 h3
      rw [hv, hzc] at this; exact this
    have hC3 : ∀ A n c b w', RL w' w'.heap.size A n zc → n ≤ 1048576 → Calls Try.prog 31 #[.agg #[.int .i64 s, .slice A n c, .bool b], .int .i64 ex, .int .i64 ny] w' (GivesF w' s za b) := fun A n c b w' h2 h3 => by
      have := fieldMove s A n zc c b ex ny w' h2 h3
      rw [hvc, hm, hmc] at this; exact this
    have hC4 : ∀ A n c A' n' c' b w', RL w' w'.heap.size A n za → n ≤ 1048577 → RL w' w'.heap.size A' n' za → n' ≤ 1048577 → Calls Try.prog 25 #[.agg #[.int .i64 s, .slice A n c, .bool b], .agg #[.int .i64 s, .slice A' n' c', .bool b]] w' (GivesT w' true) := fun A n c A' n' c' b w' h2 h3 h4 h5 => by
      have := sameField s A n za c b s A' n' za c' b w' h2 h3 h4 h5
      rw [sf_valid hva hva, eqB_self] at this; exact this
    have hC5 : ∀ A n c b w', RL w' w'.heap.size A n zs → n ≤ 1048576 → Calls Try.prog 31 #[.agg #[.int .i64 s, .slice A n c, .bool b], .int .i64 s, .int .i64 0] w' (GivesF w' s zs b) := fun A n c b w' h2 h3 => by
      have := fieldMove s A n zs c b s 0 w' h2 h3
      rw [hv, mv_side hv, fm_side hv] at this; exact this
    have hC6 : ∀ A n c A' n' c' b w', RL w' w'.heap.size A n zs → n ≤ 1048577 → RL w' w'.heap.size A' n' zs → n' ≤ 1048577 → Calls Try.prog 25 #[.agg #[.int .i64 s, .slice A n c, .bool b], .agg #[.int .i64 s, .slice A' n' c', .bool b]] w' (GivesT w' true) := fun A n c A' n' c' b w' h2 h3 h4 h5 => by
      have := sameField s A n zs c b s A' n' zs c' b w' h2 h3 h4 h5
      rw [sf_valid hv hv, eqB_self] at this; exact this
    have HC1 := Lib.hid hC1
    have HC2 := Lib.hid hC2
    have HC3 := Lib.hid hC3
    have HC4 := Lib.hid hC4
    have HC5 := Lib.hid hC5
    have HC6 := Lib.hid hC6
    clear hC1 hC2 hC3 hC4 hC5 hC6 hza hzc hvc hva hmc hzx hvx hv hm HSX HHX HZX HV
    go_wp2
    clear x0 x1 x2 x3 x4 x5 y0 y1 y2 y3 y4 y5
    obtain ⟨v0, v1, v2, u0, u1, u2⟩ := RX.out.six RF.out
    have hTd := hT.drew
    have HXd := Lib.hid (show OIb w7.drew w.heap.size A3 n3 c3 zx from HX.out)
    have HFd := Lib.hid (show OIb w7.drew w.heap.size A1 n1 c1 zs from HF.out)
    have RXd := Lib.hid (show Row3 w7.drew gx 27 (.int .i64 s) (.slice A3 n3 c3) (.bool h1) from RX.out)
    have RFd := Lib.hid (show Row3 w7.drew gf 27 (.int .i64 s) (.slice A1 n1 c1) (.bool h1) from RF.out)
    clear RX RF HX HF RY hT hT2 hT3 hT4 hT5 hT6
    have HS := Lib.hid (RXd.out.six RFd.out)
    go_region_held3 (fun w' => w'.cell? ⟨gx, 0, none⟩ = some (.int .i64 s) ∧ w'.cell? ⟨gx, 1, none⟩ = some (.slice A3 n3 c3) ∧ w'.cell? ⟨gx, 2, none⟩ = some (.bool h1) ∧ w'.cell? ⟨gf, 0, none⟩ = some (.int .i64 s) ∧ w'.cell? ⟨gf, 1, none⟩ = some (.slice A1 n1 c1) ∧ w'.cell? ⟨gf, 2, none⟩ = some (.bool h1)) (first | exact HS.out | go_keep)
      (first
        | (go_at_call 34; (with_reducible refine (HC1.out A3 n3 c3 _ HXd.out.reads (by omega)).mono ?_); rintro e wn ⟨Aa, na, ca, rfl, hO, hB⟩; (have hna : na ≤ 1048576 := (by rw [← hO.len, hla]; omega)); (have hcs := hB.size); (replace RXd := Lib.hid (RXd.out.below hB RXd.out.lt)); (replace RFd := Lib.hid (RFd.out.below hB RFd.out.lt)); (replace HXd := Lib.hid (HXd.out.below hB (Nat.le_refl _))); (replace HFd := Lib.hid (HFd.out.below hB (Nat.le_refl _))); (replace hTd := hTd.trans (hB.mono hTd.size)); (try (replace HA := Lib.hid (HA.out.below hB (Nat.le_refl _)))); (try (replace HCc := Lib.hid (HCc.out.below hB (Nat.le_refl _)))); (try (replace HM := Lib.hid (HM.out.below hB (Nat.le_refl _)))); (try (replace HPp := Lib.hid (HPp.out.below hB (Nat.le_refl _)))); (have HS := Lib.hid (RXd.out.six RFd.out)); (clear hB); (have HA := Lib.hid hO); (clear hO))
        | (go_at_call 34; (with_reducible refine (HC2.out A1 n1 c1 _ HFd.out.reads (by omega)).mono ?_); rintro e wn ⟨Ab, nb, cb, rfl, hO, hB⟩; (have hnb : nb ≤ 1048576 := (by rw [← hO.len, hlc]; omega)); (have hcs := hB.size); (replace RXd := Lib.hid (RXd.out.below hB RXd.out.lt)); (replace RFd := Lib.hid (RFd.out.below hB RFd.out.lt)); (replace HXd := Lib.hid (HXd.out.below hB (Nat.le_refl _))); (replace HFd := Lib.hid (HFd.out.below hB (Nat.le_refl _))); (replace hTd := hTd.trans (hB.mono hTd.size)); (try (replace HA := Lib.hid (HA.out.below hB (Nat.le_refl _)))); (try (replace HCc := Lib.hid (HCc.out.below hB (Nat.le_refl _)))); (try (replace HM := Lib.hid (HM.out.below hB (Nat.le_refl _)))); (try (replace HPp := Lib.hid (HPp.out.below hB (Nat.le_refl _)))); (have HS := Lib.hid (RXd.out.six RFd.out)); (clear hB); (have HCc := Lib.hid hO); (clear hO))
        | (go_at_call 31; (with_reducible refine (HC3.out Ab nb cb (!h1) _ HCc.out.reads hnb).mono ?_); rintro e wn ⟨Am, nm, cm, rfl, hO, hB⟩; (have hnm : nm ≤ 1048576 := (by rw [← hO.len, hla]; omega)); (have hcs := hB.size); (replace RXd := Lib.hid (RXd.out.below hB RXd.out.lt)); (replace RFd := Lib.hid (RFd.out.below hB RFd.out.lt)); (replace HXd := Lib.hid (HXd.out.below hB (Nat.le_refl _))); (replace HFd := Lib.hid (HFd.out.below hB (Nat.le_refl _))); (replace hTd := hTd.trans (hB.mono hTd.size)); (try (replace HA := Lib.hid (HA.out.below hB (Nat.le_refl _)))); (try (replace HCc := Lib.hid (HCc.out.below hB (Nat.le_refl _)))); (try (replace HM := Lib.hid (HM.out.below hB (Nat.le_refl _)))); (try (replace HPp := Lib.hid (HPp.out.below hB (Nat.le_refl _)))); (have HS := Lib.hid (RXd.out.six RFd.out)); (clear hB); (have HM := Lib.hid hO); (clear hO))
        | (go_at_call 25; (with_reducible refine (HC4.out Aa na ca Am nm cm (!h1) _ HA.out.reads (by omega) HM.out.reads (by omega)).mono ?_); rintro e wn ⟨rfl, hB⟩; (have hcs := hB.size); (replace RXd := Lib.hid (RXd.out.below hB RXd.out.lt)); (replace RFd := Lib.hid (RFd.out.below hB RFd.out.lt)); (replace HXd := Lib.hid (HXd.out.below hB (Nat.le_refl _))); (replace HFd := Lib.hid (HFd.out.below hB (Nat.le_refl _))); (replace hTd := hTd.trans (hB.mono hTd.size)); (try (replace HA := Lib.hid (HA.out.below hB (Nat.le_refl _)))); (try (replace HCc := Lib.hid (HCc.out.below hB (Nat.le_refl _)))); (try (replace HM := Lib.hid (HM.out.below hB (Nat.le_refl _)))); (try (replace HPp := Lib.hid (HPp.out.below hB (Nat.le_refl _)))); (have HS := Lib.hid (RXd.out.six RFd.out)); (clear hB))
        | (go_at_call 31; (with_reducible refine (HC5.out A1 n1 c1 h1 _ HFd.out.reads (by omega)).mono ?_); rintro e wn ⟨Ap, np, cp, rfl, hO, hB⟩; (have hnp : np ≤ 1048576 := (by rw [← hO.len, HZ.out]; omega)); (have hcs := hB.size); (replace RXd := Lib.hid (RXd.out.below hB RXd.out.lt)); (replace RFd := Lib.hid (RFd.out.below hB RFd.out.lt)); (replace HXd := Lib.hid (HXd.out.below hB (Nat.le_refl _))); (replace HFd := Lib.hid (HFd.out.below hB (Nat.le_refl _))); (replace hTd := hTd.trans (hB.mono hTd.size)); (try (replace HA := Lib.hid (HA.out.below hB (Nat.le_refl _)))); (try (replace HCc := Lib.hid (HCc.out.below hB (Nat.le_refl _)))); (try (replace HM := Lib.hid (HM.out.below hB (Nat.le_refl _)))); (try (replace HPp := Lib.hid (HPp.out.below hB (Nat.le_refl _)))); (have HS := Lib.hid (RXd.out.six RFd.out)); (clear hB); (have HPp := Lib.hid hO); (clear hO))
        | (go_at_call 25; (with_reducible refine (HC6.out Ap np cp A1 n1 c1 h1 _ HPp.out.reads (by omega) HFd.out.reads (by omega)).mono ?_); rintro e wn ⟨rfl, hB⟩; (have hcs := hB.size); (replace RXd := Lib.hid (RXd.out.below hB RXd.out.lt)); (replace RFd := Lib.hid (RFd.out.below hB RFd.out.lt)); (replace HXd := Lib.hid (HXd.out.below hB (Nat.le_refl _))); (replace HFd := Lib.hid (HFd.out.below hB (Nat.le_refl _))); (replace hTd := hTd.trans (hB.mono hTd.size)); (try (replace HA := Lib.hid (HA.out.below hB (Nat.le_refl _)))); (try (replace HCc := Lib.hid (HCc.out.below hB (Nat.le_refl _)))); (try (replace HM := Lib.hid (HM.out.below hB (Nat.le_refl _)))); (try (replace HPp := Lib.hid (HPp.out.below hB (Nat.le_refl _)))); (have HS := Lib.hid (RXd.out.six RFd.out)); (clear hB)))
    all_goals go_wp2
    all_goals go_ret
    all_goals exact ⟨rfl, hTd⟩
end Go.Proofs.Ytmianlihdiccjaa

/- Contract: a valid field behind a step (the program). -/
import Derived.Test.YtmianlihdiccjaaStepQ2
namespace Go.Proofs.Ytmianlihdiccjaa
open Go.RowKit
set_option linter.unusedVariables false

set_option maxRecDepth 100000 in
set_option maxHeartbeats 8000000 in
theorem step (s : Int) (A : Option Addr) (n : Nat) (zs : List Bool) (c : Nat) (h : Bool) (w : World) (hr : RL w w.heap.size A n zs) (hl : n ≤ 1048576) (hv : fvB s zs = true) :
    Calls Try.prog 60 #[.agg #[.int .i64 s, .slice A n c, .bool h]] w (GivesF w s (fsL s h zs) (!h)) := by
  obtain ⟨W, hW⟩ : ∃ W, ((w.alloc (.cells #[.int .i64 s, .slice A n c, .bool h] 27)).alloc (.cells #[.int .i64 0, .slice none 0 0, .bool false] 27)) = W := ⟨_, rfl⟩
  have hb : Below w.heap.size w W := by rw [← hW]; exact ((Below.refl _ _).alloc (Nat.le_refl _) _).alloc (by simp) _
  obtain ⟨g, hg⟩ : ∃ g, w.heap.size = g := ⟨_, rfl⟩
  have hsz : W.heap.size = g + 2 := by rw [← hW, ← hg]; simp
  have r0 : Row3 W g 27 (.int .i64 s) (.slice A n c) (.bool h) := by rw [← hW, ← hg]; exact (Row3.new w _ _ _ _).alloc _
  have r1 : Row3 W (g + 1) 27 (.int .i64 0) (.slice none 0 0) (.bool false) := by
    have := Row3.new (w.alloc (.cells #[.int .i64 s, .slice A n c, .bool h] 27)) 27 (.int .i64 0) (.slice none 0 0) (.bool false)
    rw [hW] at this; rw [← hg]; simpa using this
  have R0 := Lib.hid r0
  have R1 := Lib.hid r1
  obtain ⟨a0, a1, a2, a3, a4, a5⟩ := r0.at_
  have hgw : g + 1 < W.heap.size := by omega
  have hwg : w.heap.size ≤ g + 1 := by omega
  have hwg0 : w.heap.size ≤ g := by omega
  clear hsz r0 r1
  have hfv := fv_iff.1 hv
  obtain ⟨S, rfl⟩ : ∃ S : Nat, s = (S : Int) := ⟨s.toNat, by omega⟩
  have hSS : S = 2 ∨ S = 4 ∨ S = 6 ∨ S = 8 := by omega
  have hS2 : 2 ≤ S := by omega
  have hS8 : S ≤ 8 := by omega
  have hnS : zs.length = S * S := by have := hfv.2.2.2.1; exact_mod_cast this
  have hnn : n = S * S := by rw [← hr.len]; exact hnS
  have hn64 : n ≤ 64 := by rw [hnn]; exact mul_bd hS8 hS8
  have hn4 : 4 ≤ n := by rw [hnn]; exact Nat.mul_le_mul hS2 hS2
  obtain ⟨H, hH⟩ : ∃ H, S / 2 = H := ⟨_, rfl⟩
  have hH1 : S ≤ 2 * H := by omega
  have hH2 : 2 * H ≤ S := by omega
  have HNN := Lib.hid hnn
  have HSS := Lib.hid hSS
  have HHH := Lib.hid hH
  have hrW := Lib.hid (hr.arg (Nat.le_refl _) hb)
  obtain ⟨ad, rfl, hadb, _⟩ := hr.2 (by omega)
  have hadW : ad.block < W.heap.size := Nat.lt_of_lt_of_le hadb hb.size
  clear hfv hnS hnn hSS hH hv
  have HR : ∀ w' : World, Below w.heap.size w w' → RL w' w'.heap.size (some ad) n zs := fun w' hb' => hr.arg (Nat.le_refl _) hb'
  have HRR := Lib.hid HR
  clear HR
  obtain ⟨gB, hgB⟩ : ∃ gB, W.heap.size = gB := ⟨_, rfl⟩
  have hgBw : w.heap.size ≤ gB := by rw [← hgB]; exact hb.size
  have hadB : ad.block ≠ gB := by omega
  have hgg : g + 1 < gB := by omega
  obtain ⟨sh, hsh⟩ : ∃ sh, shN h = sh := ⟨_, rfl⟩
  have hsh2 : sh < 2 := by rw [← hsh]; exact shN_lt h
  have HSH := Lib.hid hsh
  have hshI : h = false ∧ sh = 0 ∨ h = true ∧ sh = 1 := by cases h <;> simp [shN] at hsh <;> simp [hsh]
  clear hsh
  rcases hshI with ⟨rfl, hs0⟩ | ⟨rfl, hs0⟩
  · have HS0 := Lib.hid hs0
    clear hs0
    go_enter Try.func60, Try.ntmps60
    go_wp2_with (refine wpList_mkB W rfl _ _ rfl n _ _ rfl rfl rfl rfl (by omega) ?_; intro w2 hO2 hg2; (have hb2 : Below W.heap.size W w2 := grown_below hg2); (have R02 := Lib.hid (R0.out.below hb2 R0.out.lt)); (obtain ⟨b0, b1, b2, b3, b4, b5⟩ := R02.out.at_))
    rw [hgB] at hO2
    have hbs : gB ≤ w2.heap.size := by rw [← hgB]; exact hb2.size
    have HO2 := Lib.hid hO2
    have HI2 := Lib.hid (StI.zero S sh zs)
    rw [← HNN.out] at HI2
    have hB2 := hb.trans (hb2.mono hb.size)
    have R12 := Lib.hid (R1.out.below hb2 R1.out.lt)
    have HW := Lib.hid hW
    have HG := Lib.hid hg
    have HGB := Lib.hid hgB
    clear a0 a1 a2 a3 a4 a5 b0 b1 b2 b3 b4 b5 hO2 hg2 hb2 hW hg hgB
    go_wp2
    go_loopw [5] (fun i wr => ∃ (q Y : Nat) (out : List Bool), q ≤ H ∧ Y ≤ 2 * q + sh ∧ 2 * q + sh ≤ Y ∧ i = .int .i64 Y ∧ Hid (OSb wr gB (some ⟨gB, 0, none⟩) n n out) ∧ Hid (StI S sh zs (q * H) out) ∧ Hid (Row3 wr g 27 (.int .i64 (S : Int)) (.slice (some ad) n c) (.bool false)) ∧ Hid (Row3 wr (g + 1) 27 (.int .i64 0) (.slice none 0 0) (.bool false)) ∧ gB ≤ wr.heap.size ∧ Below w.heap.size w wr)
      (fun i _ => 20 - (intOf i).toNat)
    case atStart => exact ⟨0, sh, _, by omega, by omega, by omega, by rw [HS0.out]; rfl, HO2.out, by rw [Nat.zero_mul]; exact HI2.out, R02.out, R12.out, hbs, hB2⟩
    case round =>
      clear HO2 HI2 R02 R12 hbs hB2
      obtain ⟨q, Y, out, hq, hY1, hY2, rfl, HO, HST, HR0, HR1, hBw, hB⟩ := hrel
      obtain ⟨e0, e1, e2, e3, e4, e5⟩ := HR0.out.at_
      by_cases hqH : q < H
      · have hYS : Y < S := by omega
        have hdY : decide ((Y : Int) < (S : Int)) = true := by simp; omega
        obtain ⟨wo, hwo⟩ : ∃ wo : World, wo = wr := ⟨_, rfl⟩
        go_wp2
        go_loopw [6] (fun i wr => ∃ (p X : Nat) (out : List Bool), p ≤ H ∧ X ≤ 2 * p + sh ∧ 2 * p + sh ≤ X ∧ i = .int .i64 X ∧ Hid (OSb wr gB (some ⟨gB, 0, none⟩) n n out) ∧ Hid (StI S sh zs (q * H + p) out) ∧ Hid (Row3 wr g 27 (.int .i64 (S : Int)) (.slice (some ad) n c) (.bool false)) ∧ Hid (Row3 wr (g + 1) 27 (.int .i64 0) (.slice none 0 0) (.bool false)) ∧ gB ≤ wr.heap.size ∧ Below w.heap.size w wr)
          (fun i _ => 20 - (intOf i).toNat)
        case atStart => exact ⟨0, sh, out, by omega, by omega, by omega, by rw [HS0.out]; rfl, HO.out, HST.out, HR0.out, HR1.out, hBw, hB⟩
        case round =>
          clear e0 e1 e2 e3 e4 e5 HR0 HR1 HO HST hBw hB hwo
          obtain ⟨p, X, out, hp, hX1, hX2, rfl, HO, HST, HR0, HR1, hBw, hB⟩ := hrel
          obtain ⟨e0, e1, e2, e3, e4, e5⟩ := HR0.out.at_
          by_cases hpH : p < H
          · have hXS : X < S := by omega
            have hdX : decide ((X : Int) < (S : Int)) = true := by simp; omega
            have hpS : p < S / 2 := by rw [HHH.out]; exact hpH
            have hqS : q < S / 2 := by rw [HHH.out]; exact hqH
            have HSQ := fun res hok => StI.sq (bs := zs) (out := out) (res := res) HSS.out hsh2 hpS hqS (by rw [HHH.out]; exact HST.out) hok
            rw [HHH.out, show 2 * p + sh = X by omega, show 2 * q + sh = Y by omega] at HSQ
            replace HSQ := Lib.hid HSQ
            have hcall := square S (some ad) n zs c false X Y gB n out wr (HRR.out wr hB) (fun a e => by cases e; exact hadB) hS2 hS8 HNN.out hXS hYS HO.out
            have HCALL := Lib.hid hcall
            clear hcall hpS hqS
            go_wp2_with fail
            refine HCALL.out.mono ?_
            rintro e w5 ⟨⟨v, rfl⟩, res, hO5, hok, hg5⟩
            have HO5 := Lib.hid hO5
            have HST5 := Lib.hid (HSQ.out res hok)
            have HR05 := Lib.hid (HR0.out.kept hg5 (by simp; omega))
            have HR15 := Lib.hid (HR1.out.kept hg5 (by simp; omega))
            have hB5 : Below w.heap.size w w5 := hB.grown hg5 hB.size (fun k e => by cases e; exact hgBw)
            have hBw5 : gB ≤ w5.heap.size := Nat.le_trans hBw hg5.size
            clear hO5 hok hg5
            go_wp2
            go_roundw
            case rel => exact ⟨p + 1, X + 2, _, by omega, by omega, by omega, by go_num, HO5.out, HST5.out, HR05.out, HR15.out, hBw5, hB5⟩
            case measure => simp [intOf]; omega
          · obtain rfl : p = H := by omega
            have hdX : ¬ X < S := by omega
            go_wp2
            go_roundw
            case rel => exact ⟨q + 1, Y + 2, out, by omega, by omega, by omega, by go_num, HO.out, by rw [Nat.succ_mul]; exact HST.out, HR0.out, HR1.out, hBw, hB⟩
            case measure => simp [intOf]; omega
      · obtain rfl : q = H := by omega
        have hdY : ¬ Y < S := by omega
        obtain ⟨d0, d1, d2, d3, d4, d5⟩ := HR1.out.at_
        have hdone := StI.done HSS.out hsh2 (by rw [HHH.out]) HST.out
        rw [hdone] at HO
        have HO3 := Lib.hid (HO.out.other3 (k := g + 1) (by omega) (.int .i64 (S : Int)) (.slice (some ⟨gB, 0, none⟩) n n) (.bool true))
        have HR3 := Lib.hid (((HR1.out.set0 (.int .i64 (S : Int))).set1 (.slice (some ⟨gB, 0, none⟩) n n)).set2 (.bool true))
        clear hdone
        go_wp2
        refine bodyPost_ret (results_field rfl _ _ (g + 1) rfl HR3.out) rfl ?_
        exact ⟨_, _, _, rfl, by unfold fsL; rw [HSH.out]; exact HO3.out.toI.mono hgBw, below_set3 hB hwg _ _ _⟩
  · have HS0 := Lib.hid hs0
    clear hs0
    go_enter Try.func60, Try.ntmps60
    go_wp2_with (refine wpList_mkB W rfl _ _ rfl n _ _ rfl rfl rfl rfl (by omega) ?_; intro w2 hO2 hg2; (have hb2 : Below W.heap.size W w2 := grown_below hg2); (have R02 := Lib.hid (R0.out.below hb2 R0.out.lt)); (obtain ⟨b0, b1, b2, b3, b4, b5⟩ := R02.out.at_))
    rw [hgB] at hO2
    have hbs : gB ≤ w2.heap.size := by rw [← hgB]; exact hb2.size
    have HO2 := Lib.hid hO2
    have HI2 := Lib.hid (StI.zero S sh zs)
    rw [← HNN.out] at HI2
    have hB2 := hb.trans (hb2.mono hb.size)
    have R12 := Lib.hid (R1.out.below hb2 R1.out.lt)
    have HW := Lib.hid hW
    have HG := Lib.hid hg
    have HGB := Lib.hid hgB
    clear a0 a1 a2 a3 a4 a5 b0 b1 b2 b3 b4 b5 hO2 hg2 hb2 hW hg hgB
    go_wp2
    go_loopw [5] (fun i wr => ∃ (q Y : Nat) (out : List Bool), q ≤ H ∧ Y ≤ 2 * q + sh ∧ 2 * q + sh ≤ Y ∧ i = .int .i64 Y ∧ Hid (OSb wr gB (some ⟨gB, 0, none⟩) n n out) ∧ Hid (StI S sh zs (q * H) out) ∧ Hid (Row3 wr g 27 (.int .i64 (S : Int)) (.slice (some ad) n c) (.bool true)) ∧ Hid (Row3 wr (g + 1) 27 (.int .i64 0) (.slice none 0 0) (.bool false)) ∧ gB ≤ wr.heap.size ∧ Below w.heap.size w wr)
      (fun i _ => 20 - (intOf i).toNat)
    case atStart => exact ⟨0, sh, _, by omega, by omega, by omega, by rw [HS0.out]; rfl, HO2.out, by rw [Nat.zero_mul]; exact HI2.out, R02.out, R12.out, hbs, hB2⟩
    case round =>
      clear HO2 HI2 R02 R12 hbs hB2
      obtain ⟨q, Y, out, hq, hY1, hY2, rfl, HO, HST, HR0, HR1, hBw, hB⟩ := hrel
      obtain ⟨e0, e1, e2, e3, e4, e5⟩ := HR0.out.at_
      by_cases hqH : q < H
      · have hYS : Y < S := by omega
        have hdY : decide ((Y : Int) < (S : Int)) = true := by simp; omega
        obtain ⟨wo, hwo⟩ : ∃ wo : World, wo = wr := ⟨_, rfl⟩
        go_wp2
        go_loopw [6] (fun i wr => ∃ (p X : Nat) (out : List Bool), p ≤ H ∧ X ≤ 2 * p + sh ∧ 2 * p + sh ≤ X ∧ i = .int .i64 X ∧ Hid (OSb wr gB (some ⟨gB, 0, none⟩) n n out) ∧ Hid (StI S sh zs (q * H + p) out) ∧ Hid (Row3 wr g 27 (.int .i64 (S : Int)) (.slice (some ad) n c) (.bool true)) ∧ Hid (Row3 wr (g + 1) 27 (.int .i64 0) (.slice none 0 0) (.bool false)) ∧ gB ≤ wr.heap.size ∧ Below w.heap.size w wr)
          (fun i _ => 20 - (intOf i).toNat)
        case atStart => exact ⟨0, sh, out, by omega, by omega, by omega, by rw [HS0.out]; rfl, HO.out, HST.out, HR0.out, HR1.out, hBw, hB⟩
        case round =>
          clear e0 e1 e2 e3 e4 e5 HR0 HR1 HO HST hBw hB hwo
          obtain ⟨p, X, out, hp, hX1, hX2, rfl, HO, HST, HR0, HR1, hBw, hB⟩ := hrel
          obtain ⟨e0, e1, e2, e3, e4, e5⟩ := HR0.out.at_
          by_cases hpH : p < H
          · have hXS : X < S := by omega
            have hdX : decide ((X : Int) < (S : Int)) = true := by simp; omega
            have hpS : p < S / 2 := by rw [HHH.out]; exact hpH
            have hqS : q < S / 2 := by rw [HHH.out]; exact hqH
            have HSQ := fun res hok => StI.sq (bs := zs) (out := out) (res := res) HSS.out hsh2 hpS hqS (by rw [HHH.out]; exact HST.out) hok
            rw [HHH.out, show 2 * p + sh = X by omega, show 2 * q + sh = Y by omega] at HSQ
            replace HSQ := Lib.hid HSQ
            have hcall := square S (some ad) n zs c true X Y gB n out wr (HRR.out wr hB) (fun a e => by cases e; exact hadB) hS2 hS8 HNN.out hXS hYS HO.out
            have HCALL := Lib.hid hcall
            clear hcall hpS hqS
            go_wp2_with fail
            refine HCALL.out.mono ?_
            rintro e w5 ⟨⟨v, rfl⟩, res, hO5, hok, hg5⟩
            have HO5 := Lib.hid hO5
            have HST5 := Lib.hid (HSQ.out res hok)
            have HR05 := Lib.hid (HR0.out.kept hg5 (by simp; omega))
            have HR15 := Lib.hid (HR1.out.kept hg5 (by simp; omega))
            have hB5 : Below w.heap.size w w5 := hB.grown hg5 hB.size (fun k e => by cases e; exact hgBw)
            have hBw5 : gB ≤ w5.heap.size := Nat.le_trans hBw hg5.size
            clear hO5 hok hg5
            go_wp2
            go_roundw
            case rel => exact ⟨p + 1, X + 2, _, by omega, by omega, by omega, by go_num, HO5.out, HST5.out, HR05.out, HR15.out, hBw5, hB5⟩
            case measure => simp [intOf]; omega
          · obtain rfl : p = H := by omega
            have hdX : ¬ X < S := by omega
            go_wp2
            go_roundw
            case rel => exact ⟨q + 1, Y + 2, out, by omega, by omega, by omega, by go_num, HO.out, by rw [Nat.succ_mul]; exact HST.out, HR0.out, HR1.out, hBw, hB⟩
            case measure => simp [intOf]; omega
      · obtain rfl : q = H := by omega
        have hdY : ¬ Y < S := by omega
        obtain ⟨d0, d1, d2, d3, d4, d5⟩ := HR1.out.at_
        have hdone := StI.done HSS.out hsh2 (by rw [HHH.out]) HST.out
        rw [hdone] at HO
        have HO3 := Lib.hid (HO.out.other3 (k := g + 1) (by omega) (.int .i64 (S : Int)) (.slice (some ⟨gB, 0, none⟩) n n) (.bool false))
        have HR3 := Lib.hid (((HR1.out.set0 (.int .i64 (S : Int))).set1 (.slice (some ⟨gB, 0, none⟩) n n)).set2 (.bool false))
        clear hdone
        go_wp2
        refine bodyPost_ret (results_field rfl _ _ (g + 1) rfl HR3.out) rfl ?_
        exact ⟨_, _, _, rfl, by unfold fsL; rw [HSH.out]; exact HO3.out.toI.mono hgBw, below_set3 hB hwg _ _ _⟩
end Go.Proofs.Ytmianlihdiccjaa

/- The walks of the laws FnReadForm and FnFormText. -/
import Derived.Test.YtkpjlkahebeljaaDoorWReadForm
import Derived.Test.YtkpjlkahebeljaaDoorDrawForm
namespace Go.Proofs.YtkpjlkahebeljaaDoor
open Go.RowKit
set_option linter.unusedVariables false
set_option maxHeartbeats 1000000 in
theorem sameForms (A B : Option Addr) (n : Nat) (zs : List Int) (c d : Nat) (w : World) (hx : RI w w.heap.size A (n * 3) zs) (hy : RI w w.heap.size B (n * 3) zs) (hl : n ≤ 1048576) :
    Calls Tryd.prog 13 #[.slice A n c, .slice B n d] w fun e w' => e = .returned (.bool true) ∧ Below w.heap.size w w' := by
  go_enter Tryd.func13, Tryd.ntmps13
  go_wp2
  go_loopw [5] (fun i wr => ∃ (k : Nat), k ≤ n ∧ i = .int .i64 k ∧ Below w.heap.size w wr) (fun i _ => n - (intOf i).toNat)
  case atStart => exact ⟨0, Nat.zero_le _, rfl, Below.refl _ _⟩
  case round =>
    obtain ⟨k, hk, rfl, hB⟩ := hrel
    have hs := hB.size
    by_cases hlt : k < n
    · obtain ⟨ad, x, y, z, rfl, hb, g0, g1, g2, c0, c1, c2⟩ := (hx.below hB).three hlt
      obtain ⟨bd, x', y', z', rfl, hb', e0, e1, e2, d0, d1, d2⟩ := (hy.below hB).three hlt
      obtain rfl : x = x' := Option.some.inj (g0.symm.trans e0)
      obtain rfl : y = y' := Option.some.inj (g1.symm.trans e1)
      obtain rfl : z = z' := Option.some.inj (g2.symm.trans e2)
      clear g0 e0 g1 e1 g2 e2
      go_wp2
      go_quiet (fail)
      go_wp2
      go_roundw
      case rel => exact ⟨k + 1, by omega, by go_num, ⟨hB.os, hB.tape, hB.output, hB.size, hB.block⟩⟩
      case measure => simp [intOf]; omega
    · obtain rfl : k = n := by omega
      go_wp2
      go_ret
      exact ⟨rfl, hB⟩
theorem vd_semi {I : Int} {l : List UInt8} {m : Nat} {us : List Int} : ¬ Vd I (l ++ [59]) m us := by
  intro h
  have h1 := (vd_rd h).2.1
  rw [spl_snoc_eq] at h1
  have h2 : ([] : List UInt8) ∈ (List.range m).map (tsK us) := by rw [← h1]; simp
  obtain ⟨k, _, hk⟩ := List.mem_map.1 h2
  have := congrArg List.length hk
  simp [tsK, tsL, dgL] at this
set_option maxHeartbeats 8000000 in
theorem walkFnReadForm (w : World) (hE : ErrV w) (A : Option Addr) (zs : List Int) (c : Nat) (hc : zs.length ≤ c ∧ c ≤ maxLen) (h : RB w w.heap.size A zs) :
    Calls Tryd.prog 5 #[.slice A zs.length c] w fun e w' => e = .returned (.bool true) ∧ Below w.heap.size w w' := by
  have hcm := hc.2
  unfold maxLen at hcm
  by_cases hl : 1048576 < zs.length
  · have hlI : (1048576 : Int) < (zs.length : Int) := by omega
    go_enter Tryd.func5, Tryd.ntmps5
    go_wp2
    go_ret
    exact ⟨rfl, Below.refl _ _⟩
  have hlI : ¬ (1048576 : Int) < (zs.length : Int) := by omega
  have HE := Lib.hid hE
  clear hE hl
  go_enter Tryd.func5, Tryd.ntmps5
  go_wp2_with fail
  refine (drawReadForm A zs c w h hc.1 hc.2).mono ?_
  rintro e w1 ⟨q, s, rfl, hsz, hT⟩
  obtain ⟨N, ys, b, hN, hS, hI, hV, hF⟩ := readBoth q s (by omega)
  have HS := Lib.hid hS
  have HI := Lib.hid hI
  have HV := Lib.hid hV
  have HF := Lib.hid hF
  clear hS hI hV hF
  have hs1 := hT.size
  go_wp2_with fail
  refine (HI.out _ (HE.out.up (Nat.le_refl _) hT)).mono ?_
  rintro e w2 ⟨Ag, rfl, hO, hB⟩
  have HO := Lib.hid hO
  replace hT := hT.trans (hB.mono hs1)
  have hs2 := hT.size
  clear hO hB hs1
  go_wp2_with fail
  refine (HS.out _).mono ?_
  rintro e w3 ⟨Aw, cw, rfl, hR, hB⟩
  replace HO := Lib.hid (HO.out.below hB (Nat.le_refl _))
  have HR := Lib.hid hR
  replace hT := hT.trans (hB.mono hs2)
  have hs3 := hT.size
  clear hR hB hs2
  go_wp2_with fail
  refine (sameForms Ag Aw N ys N cw _ HO.out.reads HR.out (by omega)).mono ?_
  rintro e w4 ⟨rfl, hB⟩
  replace HO := Lib.hid (HO.out.below hB (Nat.le_refl _))
  replace hT := hT.trans (hB.mono hs3)
  have hs4 := hT.size
  clear hB hs3
  cases b with
  | false =>
    obtain ⟨rfl, rfl, hno⟩ := HF.out rfl
    clear hno
    go_wp2_with (go_at_call 11; refine (alive _).mono ?_; rintro e w' ⟨rfl, rfl⟩)
    go_ret
    exact ⟨rfl, hT⟩
  | true =>
    have hvd := HV.out rfl
    have hfx : (⟨(fxF q N ys).toArray⟩ : ByteArray) = s := by rw [hvd.2.2]
    clear hvd
    obtain ⟨sT, addT, lT, zT⟩ := app_ok s ⟨#[59]⟩ 1 hsz rfl (by omega)
    obtain ⟨N2, ys2, b2, hN2, _, hI2, hV2, _⟩ := readBoth q sT (by omega)
    have hb2 : b2 = false := by
      cases b2 with
      | false => rfl
      | true =>
        have hv := hV2 rfl
        rw [show bL sT = bL s ++ [59] from lT] at hv
        exact absurd hv vd_semi
    subst hb2
    have HI2 := Lib.hid hI2
    have HFT := Lib.hid (fun W hr => formTextI q Ag N ys N W hr (by omega))
    unfold GivesS at HFT
    rw [hfx] at HFT
    clear hI2 hV2 lT hfx
    go_wp2_with fail
    refine (HI2.out _ (HE.out.up (Nat.le_refl _) hT)).mono ?_
    rintro e w5 ⟨A2, rfl, hO2, hB⟩
    replace HO := Lib.hid (HO.out.below hB (Nat.le_refl _))
    replace hT := hT.trans (hB.mono hs4)
    have hs5 := hT.size
    clear hO2 hB hs4
    go_wp2_with fail
    refine (HFT.out _ HO.out.reads).mono ?_
    rintro e w6 ⟨rfl, hB⟩
    replace hT := hT.trans (hB.mono hs5)
    clear hB
    go_wp2
    go_ret
    exact ⟨rfl, hT⟩
set_option maxHeartbeats 8000000 in
theorem walkFnFormText (w : World) (hE : ErrV w) (A : Option Addr) (zs : List Int) (c : Nat) (hc : zs.length ≤ c ∧ c ≤ maxLen) (h : RB w w.heap.size A zs) :
    Calls Tryd.prog 3 #[.slice A zs.length c] w fun e w' => e = .returned (.bool true) ∧ Below w.heap.size w w' := by
  have hcm := hc.2
  unfold maxLen at hcm
  by_cases hl : 1048576 < zs.length
  · have hlI : (1048576 : Int) < (zs.length : Int) := by omega
    go_enter Tryd.func3, Tryd.ntmps3
    go_wp2
    go_ret
    exact ⟨rfl, Below.refl _ _⟩
  have hlI : ¬ (1048576 : Int) < (zs.length : Int) := by omega
  have HE := Lib.hid hE
  clear hE hl
  go_enter Tryd.func3, Tryd.ntmps3
  go_wp2_with fail
  refine (drawFormText A zs c w h hc.1 hc.2).mono ?_
  rintro e w1 ⟨q, A', k, c', ys, rfl, hR, hk, hT⟩
  have hyl := hR.len
  have HR := Lib.hid hR
  have hs1 := hT.size
  clear hR
  obtain ⟨s, hsx⟩ : ∃ s : ByteArray, (⟨(fxF q k ys).toArray⟩ : ByteArray) = s := ⟨_, rfl⟩
  have HSX := Lib.hid (show fxF q k ys = bL s by rw [← hsx])
  have hsz : s.size ≤ 24 := by rw [← hsx, str_size]; exact fxF_le q k ys
  have HFI := Lib.hid (fun W hr => formTextI q A' k ys c' W hr (by omega))
  have HFS := Lib.hid (fun W hr => formTextS q A' k ys c' W hr (by omega))
  unfold GivesS at HFI HFS
  rw [hsx] at HFI HFS
  clear hsx
  go_wp2_with fail
  refine (HFI.out _ HR.out).mono ?_
  rintro e w2 ⟨rfl, hB⟩
  replace HR := Lib.hid (HR.out.up (Nat.le_refl _) hB (Nat.le_refl _))
  replace hT := hT.trans (hB.mono hs1)
  have hs2 := hT.size
  clear hB hs1
  go_wp2_with fail
  refine (HFS.out _ HR.out).mono ?_
  rintro e w3 ⟨rfl, hB⟩
  replace HR := Lib.hid (HR.out.up (Nat.le_refl _) hB (Nat.le_refl _))
  replace hT := hT.trans (hB.mono hs2)
  have hs3 := hT.size
  clear hB hs2
  by_cases hV : fmB q k ys = true
  · have hvd : Vd q (bL s) k ys := ⟨hyl, hV, HSX.out⟩
    have hse : (s.toList == []) = false := by rw [ByteArray.toList_eq]; exact beq_eq_false_iff_ne.2 (vd_rd hvd).2.2
    obtain ⟨N, us, b, hN, _, hI, hV', hF'⟩ := readBoth q s (by omega)
    have hb : b = true := by
      cases b with
      | true => rfl
      | false => exact absurd hvd ((hF' rfl).2.2 k ys)
    subst hb
    obtain ⟨rfl, rfl⟩ := vd_one hvd (hV' rfl)
    have HI := Lib.hid hI
    clear hI hV' hF' hvd hV
    go_wp2_with fail
    refine (HI.out _ (HE.out.up (Nat.le_refl _) hT)).mono ?_
    rintro e w4 ⟨Ax, rfl, hO, hB⟩
    replace HR := Lib.hid (HR.out.up (Nat.le_refl _) hB (Nat.le_refl _))
    have HO := Lib.hid hO
    replace hT := hT.trans (hB.mono hs3)
    have hs4 := hT.size
    clear hO hB hs3
    go_wp2_with fail
    refine (sameForms Ax A' k ys k c' _ HO.out.reads HR.out (by omega)).mono ?_
    rintro e w5 ⟨rfl, hB⟩
    replace hT := hT.trans (hB.mono hs4)
    clear hB
    go_wp2
    go_ret
    exact ⟨rfl, hT⟩
  · have hV' : fmB q k ys = false := by simpa using hV
    have hse : (s.toList == []) = true := by
      rw [ByteArray.toList_eq]
      have e := HSX.out
      rw [fxF, if_neg hV] at e
      exact beq_iff_eq.2 e.symm
    have HF := Lib.hid (fun W hr => formValid q A' k ys c' W hr (by omega))
    rw [hV'] at HF
    unfold GivesT at HF
    clear hV hV'
    go_wp2_with fail
    refine (HF.out _ HR.out).mono ?_
    rintro e w4 ⟨rfl, hB⟩
    replace hT := hT.trans (hB.mono hs3)
    clear hB
    go_wp2_with (go_at_call 11; refine (alive _).mono ?_; rintro e w' ⟨rfl, rfl⟩)
    go_ret
    exact ⟨rfl, hT⟩
end Go.Proofs.YtkpjlkahebeljaaDoor

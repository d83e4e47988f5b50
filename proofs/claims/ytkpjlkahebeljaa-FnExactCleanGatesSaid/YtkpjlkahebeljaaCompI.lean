/- Contracts of the program: the gates of a formula. -/
import Derived.Test.YtkpjlkahebeljaaStepGI
import Derived.Test.YtkpjlkahebeljaaCompS
namespace Go.Proofs.Ytkpjlkahebeljaa
open Go.RowKit
set_option linter.unusedVariables false
theorem stepGatesI (o x y l : Int) (w : World) (h : stL o x y l) :
    Calls Try.prog 30 #[.agg #[.int .i64 o, .int .i64 x, .int .i64 y], .int .i64 l] w (fun e w' => ∃ A c, e = .returned (.slice A (sgN o) c) ∧ OFI 41 4 w' w.heap.size A (sgN o) c (sgL o x y l) ∧ Below w.heap.size w w') := by
  have ho : o = 0 ∨ o = 1 ∨ o = 2 ∨ o = 3 := by obtain ⟨h1, h2, _⟩ := h; omega
  rcases ho with rfl | rfl | rfl | rfl
  · exact stepGatesI0 x y l w h
  · exact stepGatesI1 x y l w h
  · exact stepGatesI2 x y l w h
  · exact stepGatesI3 x y l w h
theorem clipG (A : Option Addr) (n c : Nat) (w : World) (hc : n ≤ c) (hcm : c ≤ maxLen) :
    Calls Try.prog 24 #[.slice A n c] w fun e w' => e = .returned (.slice A n n) ∧ w = w' := by
  unfold maxLen at hcm
  go_enter Try.func24, Try.ntmps24
  go_wp2
  go_ret
  exact ⟨rfl, rfl⟩
/-- a new slice of n gates -/
def GivesFN (w : World) (n : Nat) (zs : List Int) (e : Ending) (w' : World) : Prop := ∃ A c, e = .returned (.slice A n c) ∧ OFI 41 4 w' w.heap.size A n c zs ∧ Below w.heap.size w w'
set_option maxHeartbeats 2000000 in
theorem computeI (I : Int) (A : Option Addr) (n : Nat) (zs : List Int) (c : Nat) (w : World) (hr : RI w w.heap.size A (n * 3) zs) (hV : fmB I n zs = true) :
    Calls Try.prog 20 #[.int .i64 I, .slice A n c] w (GivesFN w (gsN zs n) (gsL I zs n)) := by
  have HE := Lib.hid (show OF 41 4 (w.alloc (.cells #[] 41)) w.heap.size (some ⟨w.heap.size, 0, none⟩) 0 0 [] from OF.empty w)
  have hB0 : Below w.heap.size w (w.alloc (.cells #[] 41)) := (Below.refl _ _).alloc (Nat.le_refl _) _
  have HV := Lib.hid hV
  obtain ⟨a1, a2, a3, a4, _⟩ := fmB_iff hV
  clear hV
  go_enter Try.func20, Try.ntmps20
  go_wp2
  go_loopw [5, 11] (fun v i wr => ∃ (k m : Nat) (A' : Option Addr) (c' : Nat), k ≤ n ∧ i = .int .i64 k ∧ v = .slice A' m c' ∧ Hid (m = gsN zs k) ∧ OF 41 4 wr w.heap.size A' m c' (gsL I zs k) ∧ Below w.heap.size w wr)
    (fun _ i _ => n - (intOf i).toNat)
  case atStart => exact ⟨0, 0, _, _, Nat.zero_le _, rfl, rfl, Lib.hid rfl, HE.out, hB0⟩
  case round =>
    obtain ⟨k, m, A', c', hk, rfl, rfl, HM, hO, hB⟩ := hrel
    have hs := hB.size
    have HO := Lib.hid hO
    have hm9 : m ≤ 9 := by have := gsN_le zs k; rw [HM.out]; omega
    clear hO
    by_cases hlt : k < n
    rotate_left
    · obtain rfl : k = n := by omega
      go_wp2_with (go_at_call 24; refine (clipG A' m c' wr HO.out.cap.1 HO.out.cap.2).mono ?_; rintro e w3 ⟨rfl, rfl⟩)
      go_ret
      exact ⟨A', m, by rw [← HM.out]; rfl, by rw [← HM.out]; exact HO.out.toI.clip, hB⟩
    have hki : (k : Int) < (n : Int) := by omega
    have hk2 : (k : Int) ≤ 2 := by omega
    have hr1 := hr.up (Nat.le_refl _) hB (Nat.le_refl _)
    obtain ⟨ad, o, x, y, rfl, hb, g0, g1, g2, c0, c1, c2⟩ := hr1.three hlt
    have HS := Lib.hid (stL_of HV.out hlt g0 g1 g2)
    have HN := Lib.hid (show gsN zs (k + 1) = gsN zs k + sgN o ∧ gsL I zs (k + 1) = gsL I zs k ++ sgL o x y (I + k) from ⟨gsN_succ g0, gsL_succ g0 g1 g2⟩)
    have hsg := sgN_pos o
    have hsg3 := sgN_le o
    clear g0 g1 g2 hr1
    obtain ⟨wa, hwa⟩ : ∃ wa, wr.alloc (.cells #[.int .i64 o, .int .i64 x, .int .i64 y] 36) = wa := ⟨_, rfl⟩
    have hBa : Below wr.heap.size wr wa := by rw [← hwa]; exact (Below.refl _ _).alloc (Nat.le_refl _) _
    have HBA := Lib.hid hBa
    have HWA := Lib.hid hwa
    clear hBa hwa
    go_wp2_with fail
    refine (stepGatesI o x y (I + k) _ HS.out).mono ?_
    rintro e w3 ⟨A3, c3, rfl, hO3, hB3⟩
    rw [HWA.out] at hB3 hO3
    have hs2 := HBA.out.size
    have HO2 := Lib.hid ((HO.out.below HBA.out (Nat.le_refl _)).below hB3 (Nat.le_refl _))
    have hs3 := hB3.size
    have hR3 := hO3.reads
    obtain ⟨s, hsge⟩ : ∃ s, sgN o = s := ⟨_, rfl⟩
    rw [hsge] at hsg hsg3 hR3 ⊢
    have HSG := Lib.hid hsge
    clear hO3 hsge c0 c1 c2
    go_wp2_with (at_builtin; refine wpList_pushAllG w3 rfl _ _ rfl w.heap.size A' m c' (gsL I zs k) rfl w3.heap.size A3 s c3 (sgL o x y (I + k)) rfl HO2.out hR3 hsg (by omega) (by omega) ?_; intro A4 c4 w4 hO4 hg4)
    have hB4 : Below w.heap.size w w4 := (hB.trans ((HBA.out.mono hs).trans (hB3.mono (by omega)))).grown hg4 (by omega) (fun q e => (HO2.out.lt q e).1)
    go_roundw
    case rel => exact ⟨k + 1, m + s, _, _, by omega, by go_num, rfl, Lib.hid (by rw [HN.out.1, HSG.out, HM.out]), by rw [HN.out.2]; exact hO4, hB4⟩
    case measure => simp [intOf]; omega
theorem formValidI_V (I : Int) (A : Option Addr) (n : Nat) (zs : List Int) (c : Nat) (w : World) (hr : RI w w.heap.size A (n * 3) zs) (hl : n ≤ 1048577) (V : Bool) (hV : fmB I n zs = V) :
    Calls Try.prog 19 #[.int .i64 I, .slice A n c] w (GivesT w V) := by
  have := formValid I A n zs c w hr hl
  rwa [hV] at this
theorem computeGatesI (I : Int) (A : Option Addr) (n : Nat) (zs : List Int) (c : Nat) (w : World) (hr : RI w w.heap.size A (n * 3) zs) (hl : n ≤ 1048577) :
    Calls Try.prog 8 #[.int .i64 I, .slice A n c] w (GivesFN w (cgN I n zs) (cgL I n zs)) := by
  by_cases hV : fmB I n zs = true
  rotate_left
  · have hV' : fmB I n zs = false := by simpa using hV
    have HL := Lib.hid (show cgN I n zs = 0 ∧ cgL I n zs = [] from ⟨by rw [cgN, if_neg hV], by rw [cgL, if_neg hV]⟩)
    have HF := Lib.hid (formValidI_V I A n zs c w hr hl false hV')
    clear hV hV'
    go_enter Try.func8, Try.ntmps8
    go_wp2_with (go_at_call 19; refine HF.out.mono ?_; rintro e w2 ⟨rfl, hB2⟩)
    go_ret
    exact ⟨_, _, by rw [HL.out.1]; rfl, by rw [HL.out.1, HL.out.2]; exact OFI.nil _ _, hB2⟩
  have HL := Lib.hid (show cgN I n zs = gsN zs n ∧ cgL I n zs = gsL I zs n from ⟨by rw [cgN, if_pos hV], by rw [cgL, if_pos hV]⟩)
  have HF := Lib.hid (formValidI_V I A n zs c w hr hl true hV)
  have HV := Lib.hid hV
  have HR := Lib.hid hr
  clear hV hr
  go_enter Try.func8, Try.ntmps8
  go_wp2_with (first | (go_at_call 19; refine HF.out.mono ?_; rintro e w2 ⟨rfl, hB2⟩) | (go_at_call 20; refine (computeI I A n zs c w2 (HR.out.up (Nat.le_refl _) hB2 (Nat.le_refl _)) HV.out).mono ?_; rintro e w3 ⟨A3, c3, rfl, hO3, hB3⟩))
  go_ret
  exact ⟨A3, c3, by rw [HL.out.1]; rfl, by rw [HL.out.1, HL.out.2]; exact hO3.mono hB2.size, hB2.trans (hB3.mono hB2.size)⟩
end Go.Proofs.Ytkpjlkahebeljaa

/- Contracts of the reference: the gates of a formula, the clean ones. -/
import Derived.Test.YtkpjlkahebeljaaGateT
import Derived.Test.YtkpjlkahebeljaaPlComp
namespace Go.Proofs.Ytkpjlkahebeljaa
open Go.RowKit
set_option linter.unusedVariables false

/-- a new slice of gates that the call may append to -/
def GivesOF (w : World) (n : Nat) (zs : List Int) (e : Ending) (w' : World) : Prop := ∃ A c, e = .returned (.slice A n c) ∧ OF 41 4 w' w.heap.size A n c zs ∧ Below w.heap.size w w'
theorem formValidS_t (I : Int) (A : Option Addr) (n : Nat) (zs : List Int) (c : Nat) (w : World) (hr : RI w w.heap.size A (n * 3) zs) (hl : n ≤ 1048577) (V : Bool) (hV : fmB I n zs = V) :
    Calls Try.prog 16 #[.int .i64 I, .slice A n c] w (GivesT w V) := by
  have := formValidS I A n zs c w hr hl
  rwa [hV] at this
set_option maxHeartbeats 2000000 in
theorem computeGatesS (I : Int) (A : Option Addr) (n : Nat) (zs : List Int) (c : Nat) (w : World) (hr : RI w w.heap.size A (n * 3) zs) (hl : n ≤ 1048577) :
    Calls Try.prog 6 #[.int .i64 I, .slice A n c] w (GivesOF w (cgN I n zs) (cgL I n zs)) := by
  have hE : OF 41 4 (w.alloc (.cells #[] 41)) w.heap.size (some ⟨w.heap.size, 0, none⟩) 0 0 [] := OF.empty w
  have hB0 : Below w.heap.size w (w.alloc (.cells #[] 41)) := (Below.refl _ _).alloc (Nat.le_refl _) _
  have HE := Lib.hid hE
  clear hE
  by_cases hV : fmB I n zs = true
  rotate_left
  · have hV' : fmB I n zs = false := by simpa using hV
    have HL := Lib.hid (show cgN I n zs = 0 ∧ cgL I n zs = [] from ⟨by rw [cgN, if_neg hV], by rw [cgL, if_neg hV]⟩)
    have hF := formValidS_t I A n zs c (w.alloc (.cells #[] 41)) (hr.up (Nat.le_refl _) hB0 (Nat.le_refl _)) hl false hV'
    have HF := Lib.hid hF
    clear hV hV' hF
    by_cases hn : n = 0
    · subst hn
      go_enter Try.func6, Try.ntmps6
      go_wp2
      refine wp_loop_rounds 1 ?_
      rw [rounds_succ]
      go_wp2
      go_ret
      exact ⟨_, _, by rw [HL.out.1]; rfl, by rw [HL.out.1, HL.out.2]; exact HE.out, hB0⟩
    · have hn0 : 0 < n := by omega
      have hn1 : (0 : Int) < (n : Int) := by omega
      go_enter Try.func6, Try.ntmps6
      go_wp2
      refine wp_loop_rounds 1 ?_
      rw [rounds_succ]
      go_wp2_with (go_at_call 16; refine HF.out.mono ?_; rintro e w2 ⟨rfl, hB2⟩)
      go_ret
      exact ⟨_, _, by rw [HL.out.1]; rfl, by rw [HL.out.1, HL.out.2]; exact HE.out.below hB2 (Nat.le_refl _), hB0.trans (hB2.mono hB0.size)⟩
  have HL := Lib.hid (show cgN I n zs = gsN zs n ∧ cgL I n zs = gsL I zs n from ⟨by rw [cgN, if_pos hV], by rw [cgL, if_pos hV]⟩)
  have HV := Lib.hid hV
  obtain ⟨a1, a2, a3, a4, _⟩ := fmB_iff hV
  clear hV
  go_enter Try.func6, Try.ntmps6
  go_wp2
  go_loopw [5, 6] (fun v i wr => ∃ (k m : Nat) (A' : Option Addr) (c' : Nat), k ≤ n ∧ i = .int .i64 k ∧ v = .slice A' m c' ∧ Hid (m = gsN zs k) ∧ OF 41 4 wr w.heap.size A' m c' (gsL I zs k) ∧ Below w.heap.size w wr)
    (fun _ i _ => n - (intOf i).toNat)
  case atStart => exact ⟨0, 0, _, _, Nat.zero_le _, rfl, rfl, Lib.hid rfl, HE.out, hB0⟩
  case round =>
    obtain ⟨k, m, A', c', hk, rfl, rfl, HM, hO, hB⟩ := hrel
    have hs := hB.size
    have HO := Lib.hid hO
    have hm9 : m ≤ 9 := by have := gsN_le zs k; rw [HM.out]; omega
    clear hO
    by_cases hlt : k < n
    rotate_left
    · obtain rfl : k = n := by omega
      go_wp2
      go_ret
      exact ⟨_, _, by rw [HL.out.1, ← HM.out]; rfl, by rw [HL.out.1, HL.out.2, ← HM.out]; exact HO.out, hB⟩
    have hki : (k : Int) < (n : Int) := by omega
    have hk2 : (k : Int) ≤ 2 := by omega
    have hr1 := hr.up (Nat.le_refl _) hB (Nat.le_refl _)
    have hF := formValidS_t I A n zs c wr hr1 hl true HV.out
    have HF := Lib.hid hF
    clear hF
    have HR := Lib.hid hr1
    clear hr1
    obtain ⟨ad, o, x, y, rfl, hb, g0, g1, g2, _, _, _⟩ := HR.out.three hlt
    have HS := Lib.hid (stL_of HV.out hlt g0 g1 g2)
    have HN := Lib.hid (show gsN zs (k + 1) = gsN zs k + sgN o ∧ gsL I zs (k + 1) = gsL I zs k ++ sgL o x y (I + k) from ⟨gsN_succ g0, gsL_succ g0 g1 g2⟩)
    have hsg := sgN_pos o
    have hsg3 := sgN_le o
    go_wp2_with (go_at_call 16; refine HF.out.mono ?_; rintro e w2 ⟨rfl, hB2⟩; obtain ⟨ad2, o2, x2, y2, e2, hb2, k0, k1, k2, c0, c1, c2⟩ := (HR.out.below hB2).three hlt; cases e2; obtain rfl := Option.some.inj (g0.symm.trans k0); obtain rfl := Option.some.inj (g1.symm.trans k1); obtain rfl := Option.some.inj (g2.symm.trans k2); clear k0 k1 k2)
    clear g0 g1 g2
    refine (stepGatesS o x y (I + k) w2 HS.out).mono ?_
    rintro e w3 ⟨A3, c3, rfl, hO3, hB3⟩
    have hs2 := hB2.size
    have HO2 := Lib.hid ((HO.out.below hB2 (Nat.le_refl _)).below hB3 (Nat.le_refl _))
    have hs3 := hB3.size
    have hR3 := hO3.reads
    obtain ⟨s, hsge⟩ : ∃ s, sgN o = s := ⟨_, rfl⟩
    rw [hsge] at hsg hsg3 hR3 ⊢
    have HSG := Lib.hid hsge
    clear hO3 hsge
    go_wp2_with (at_builtin; refine wpList_pushAllG w3 rfl _ _ rfl w.heap.size A' m c' (gsL I zs k) rfl w3.heap.size A3 s c3 (sgL o x y (I + k)) rfl HO2.out hR3 hsg (by omega) (by omega) ?_; intro A4 c4 w4 hO4 hg4)
    have hB4 : Below w.heap.size w w4 := (hB.trans ((hB2.mono hs).trans (hB3.mono (by omega)))).grown hg4 (by omega) (fun q e => (HO2.out.lt q e).1)
    go_roundw
    case rel => exact ⟨k + 1, m + s, _, _, by omega, by go_num, rfl, Lib.hid (by rw [HN.out.1, HSG.out, HM.out]), by rw [HN.out.2]; exact hO4, hB4⟩
    case measure => simp [intOf]; omega
set_option maxHeartbeats 1000000 in
theorem circuitBackS (A : Option Addr) (n : Nat) (zs : List Int) (c : Nat) (w : World) (hr : RI w w.heap.size A (n * 4) zs) (hn : n ≤ 24) (hg : AllGV n zs) :
    Calls Try.prog 23 #[.int .i64 8, .slice A n c] w (GivesOF w n (rvL zs n 0)) := by
  have hE : OF 41 4 (w.alloc (.cells #[] 41)) w.heap.size (some ⟨w.heap.size, 0, none⟩) 0 0 [] := OF.empty w
  have hB0 : Below w.heap.size w (w.alloc (.cells #[] 41)) := (Below.refl _ _).alloc (Nat.le_refl _) _
  have HE := Lib.hid hE
  have HGV := Lib.hid hg
  clear hE hg
  go_enter Try.func23, Try.ntmps23
  go_wp2
  go_loopw [5, 6] (fun v i wr => ∃ (k m : Nat) (A' : Option Addr) (c' : Nat), k ≤ n ∧ m + k = n ∧ i = .int .i64 ((k : Int) - 1) ∧ v = .slice A' m c' ∧ OF 41 4 wr w.heap.size A' m c' (rvL zs n k) ∧ Below w.heap.size w wr)
    (fun _ i _ => (intOf i + 1).toNat)
  case atStart => exact ⟨n, 0, _, _, Nat.le_refl _, by omega, by first | rfl | (congr 1), rfl, by rw [rvL_last]; exact HE.out, hB0⟩
  case round =>
    obtain ⟨k, m, A', c', hk, hmk, rfl, rfl, hO, hB⟩ := hrel
    have hs := hB.size
    have HO := Lib.hid hO
    have HMK := Lib.hid hmk
    have hm24 : m ≤ 24 := by omega
    clear hO
    cases k with
    | zero =>
      have hmn : m = n := by omega
      clear hmk
      go_wp2
      go_ret
      subst hmn
      exact ⟨_, _, rfl, HO.out, hB⟩
    | succ j =>
      have e1 : (((j + 1 : Nat) : Int) - 1) = (j : Int) := by omega
      rw [e1]
      clear e1 hmk
      have hjn : j < n := by omega
      have hj0 : (0 : Int) ≤ (j : Int) := by omega
      have hr1 := hr.up (Nat.le_refl _) hB (Nat.le_refl _)
      have HR := Lib.hid hr1
      clear hr1
      obtain ⟨ad, x, y, z, u, rfl, hb, g0, g1, g2, g3, _, _, _, _⟩ := HR.out.four hjn
      have HP := Lib.hid ((rvL_pred zs hjn).trans (by rw [g4_eq g0 g1 g2 g3]))
      go_wp2_with (first | (go_at_call 28; refine (circuitValidS _ n _ zs _ HR.out hn HGV.out).mono ?_; rintro e w2 ⟨rfl, hB2⟩; have HO2 := Lib.hid (HO.out.below hB2 (Nat.le_refl _)); have hb2 := hB.trans (hB2.mono hs); have hs2 := hb2.size; obtain ⟨ad2, x2, y2, z2, u2, e2, hb2', k0, k1, k2, k3, c0, c1, c2, c3⟩ := (HR.out.below hB2).four hjn; cases e2; obtain rfl := Option.some.inj (g0.symm.trans k0); obtain rfl := Option.some.inj (g1.symm.trans k1); obtain rfl := Option.some.inj (g2.symm.trans k2); obtain rfl := Option.some.inj (g3.symm.trans k3); clear k0 k1 k2 k3 g0 g1 g2 g3) | (at_builtin; refine wpList_pushG _ _ [x, y, z, u] 1 (by rfl) (by rfl) rfl _ _ rfl w.heap.size A' m c' (rvL zs n (j + 1)) rfl _ rfl rfl HO2.out (by omega) hs2 ?_; intro A4 c4 w4 hO4 hg4))
      have hB4 : Below w.heap.size w w4 := hb2.grown hg4 hs2 (fun q e => (HO2.out.lt q e).1)
      go_roundw
      case rel => exact ⟨j, m + 1, _, _, by omega, by have := HMK.out; omega, by first | rfl | (congr 1), rfl, by rw [HP.out]; exact hO4, hB4⟩
      case measure => simp [intOf]
set_option maxHeartbeats 2000000 in
theorem cleanGatesS (I : Int) (A : Option Addr) (n : Nat) (zs : List Int) (c : Nat) (w : World) (hr : RI w w.heap.size A (n * 3) zs) (hl : n ≤ 1048577) :
    Calls Try.prog 14 #[.int .i64 I, .slice A n c] w (GivesOF w (clN I n zs) (clL I n zs)) := by
  by_cases hV : fmB I n zs = true
  rotate_left
  · have hV' : fmB I n zs = false := by simpa using hV
    have HL := Lib.hid (show clN I n zs = 0 ∧ clL I n zs = [] from ⟨by rw [clN, if_neg hV], by rw [clL, if_neg hV]⟩)
    have HF := Lib.hid (formValidS_t I A n zs c w hr hl false hV')
    clear hV hV'
    go_enter Try.func14, Try.ntmps14
    go_wp2_with (go_at_call 16; refine HF.out.mono ?_; rintro e w2 ⟨rfl, hB2⟩)
    go_ret
    exact ⟨_, _, by rw [HL.out.1]; rfl, by rw [HL.out.1, HL.out.2]; exact World.ownsRow_made w2 #[] 0 hB2.size (by simp [maxLen]) (by simp), hB2.alloc hB2.size _⟩
  have HL := Lib.hid (show clN I n zs = gsN zs n + 1 + gsN zs n ∧ clL I n zs = gsL I zs n ++ [1, I + n - 1, I + n, 0] ++ rvL (gsL I zs n) (gsN zs n) 0 ∧ cgN I n zs = gsN zs n ∧ cgL I n zs = gsL I zs n from ⟨by rw [clN, if_pos hV], by rw [clL, if_pos hV], by rw [cgN, if_pos hV], by rw [cgL, if_pos hV]⟩)
  have HF := Lib.hid (formValidS_t I A n zs c w hr hl true hV)
  have HGV := Lib.hid (gsL_gv hr.len hV n (Nat.le_refl _))
  have hm9 := gsN_le zs n
  obtain ⟨a1, a2, a3, a4, _⟩ := fmB_iff hV
  obtain ⟨m, hm⟩ : ∃ m, gsN zs n = m := ⟨_, rfl⟩
  have hm0 : 0 < m := by
    rw [← hm]
    obtain ⟨k, rfl⟩ : ∃ k, n = k + 1 := ⟨n - 1, by omega⟩
    rw [gsN]; have := sgN_pos (zs.getD (k * 3) 0); omega
  rw [hm] at HL HGV hm9
  have HMM := Lib.hid hm
  have HR := Lib.hid hr
  clear hV hm hr
  have hni : (n : Int) ≤ 3 := by omega
  have hni1 : 1 ≤ (n : Int) := by omega
  go_enter Try.func14, Try.ntmps14
  go_wp2_with (go_at_call 16; refine HF.out.mono ?_; rintro e w2 ⟨rfl, hB2⟩)
  refine (computeGatesS I A n zs c w2 (HR.out.up (Nat.le_refl _) hB2 (Nat.le_refl _)) hl).mono ?_
  rintro e w3 ⟨A3, c3, rfl, hO3, hB3⟩
  rw [HL.out.2.2.1] at hO3 ⊢
  rw [HL.out.2.2.2] at hO3
  have hb3 := hB2.trans (hB3.mono hB2.size)
  have hs3 := hb3.size
  have HO3 := Lib.hid hO3
  clear hO3
  go_wp2_with (first | (go_at_call 23; refine (circuitBackS A3 m (gsL I zs n) c3 w3 HO3.out.reads (by omega) HGV.out).mono ?_; rintro e w4 ⟨A4, c4, rfl, hO4, hB4⟩; have HO4 := Lib.hid hO4; clear hO4; have hb4 := hb3.trans (hB4.mono hs3); have HO34 := Lib.hid (HO3.out.below hB4 (Nat.le_refl _)); have hs4 := hB4.size; have hs2 := hB3.size; have hL3 := Lib.hid HO3.out.lt) | (at_builtin; refine wpList_pushG _ _ [1, I + n - 1, I + n, 0] 1 (by rfl) (by rfl) rfl _ _ rfl w2.heap.size A3 m c3 (gsL I zs n) rfl _ rfl rfl HO34.out (by omega) (by omega) ?_; intro A5 c5 w5 hO5 hg5; have HO5 := Lib.hid hO5; clear hO5; have HO45 := Lib.hid (HO4.out.sepV hg5 (fun j i hj hi => by have h1 := HO4.out.lt j hj; have h2 := hL3.out i hi; omega)); have hs5 := hg5.size; have hb5 : Below w.heap.size w w5 := hb4.grown hg5 (by omega) (fun q e => Nat.le_trans hB2.size (hL3.out q e).1)) | (at_builtin; refine wpList_pushAllG w5 rfl _ _ rfl w2.heap.size A5 (m + 1) c5 _ rfl w5.heap.size A4 m c4 (rvL (gsL I zs n) m 0) rfl HO5.out HO45.out.reads hm0 (by omega) (by omega) ?_; intro A6 c6 w6 hO6 hg6))
  have hb6 : Below w.heap.size w w6 := hb5.grown hg6 (by omega) (fun q e => Nat.le_trans hB2.size (HO5.out.lt q e).1)
  go_ret
  exact ⟨_, _, by rw [HL.out.1]; rfl, by rw [HL.out.1, HL.out.2.1]; exact hO6.mono hB2.size, hb6⟩
end Go.Proofs.Ytkpjlkahebeljaa

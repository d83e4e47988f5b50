/- Contract: the period of two rings (the program's). -/
import Derived.Test.YtmbcolkhmleibaaRing7
namespace Go.Proofs.Ytmbcolkhmleibaa
open Go.RowKit
set_option linter.unusedVariables false

theorem RI.set {w : World} {B n g i : Nat} {A : Option Addr} {zs : List Int} (h : RI w B A n zs) (hne : ∀ ad, A = some ad → ad.block ≠ g) (u : Value) : RI (w.setCell ⟨g, i, none⟩ u) B A n zs := by
  refine ⟨h.1, fun hn => ?_⟩
  obtain ⟨ad, e, hb, hc⟩ := h.2 hn
  refine ⟨ad, e, hb, fun j v hv => (World.cell?_setCell_other _ _ _ _ (fun e2 => ?_)).trans (hc j v hv)⟩
  have h1 := hne ad e
  have h2 : (ad.add j).block = g := by first | rw [e2] | rw [← e2]
  rw [blk_add] at h2
  exact h1 h2
theorem row3_set {w : World} {g : Nat} {a b c a' b' c' : Value} {T : TypeId} (h : w.heap[g]? = some (.cells #[a, b, c] T (0, 0))) :
    (((w.setCell ⟨g, 0, none⟩ a').setCell ⟨g, 1, none⟩ b').setCell ⟨g, 2, none⟩ c').heap[g]? = some (.cells #[a', b', c'] T (0, 0)) := by
  have h1 := heap_setCell_same w g 0 _ _ a' h
  have h2 := heap_setCell_same _ g 1 _ _ b' h1
  have h3 := heap_setCell_same _ g 2 _ _ c' h2
  rw [h3]; rfl
theorem row3_at {w : World} {g : Nat} {a b c : Value} {T : TypeId} (h : w.heap[g]? = some (.cells #[a, b, c] T (0, 0))) :
    w.cell? ⟨g, 0, none⟩ = some a ∧ w.cell? ⟨g, 1, none⟩ = some b ∧ w.cell? ⟨g, 2, none⟩ = some c ∧ w.frozen? ⟨g, 0, none⟩ = false ∧ w.frozen? ⟨g, 1, none⟩ = false ∧ w.frozen? ⟨g, 2, none⟩ = false := by
  refine ⟨?_, ?_, ?_, frozen_of_row w g 0 _ _ h, frozen_of_row w g 1 _ _ h, frozen_of_row w g 2 _ _ h⟩
  · rw [cell_of_row w g 0 _ _ _ h]; rfl
  · rw [cell_of_row w g 1 _ _ _ h]; rfl
  · rw [cell_of_row w g 2 _ _ _ h]; rfl
/-- what the comparison leaves -/
theorem sEqual' (A B : Option Addr) (m1 m2 : Nat) (xs ys : List Int) (c d : Nat) (w : World) (hx : RI w w.heap.size A m1 xs) (hy : RI w w.heap.size B m2 ys) (hl : m1 ≤ 1125899906842624) (hm : m2 ≤ 1125899906842624) :
    Calls Try.prog 53 #[.slice A m1 c, .slice B m2 d] w (EqPost w (eqL xs ys)) :=
  (sEqual A B m1 m2 xs ys c d w hx hy hl hm).mono fun _ _ ⟨he, n, hw⟩ => ⟨he, by rw [hw]; exact below_drewN (Below.refl _ _) n⟩
set_option maxHeartbeats 4000000 in
theorem ringPeriod (rule : Int) (A : Option Addr) (n : Nat) (xs : List Int) (c : Nat) (B : Option Addr) (m : Nat) (ys : List Int) (d : Nat) (w : World) (hr : RI w w.heap.size A n xs) (hl : n ≤ 1048576) (hr' : RI w w.heap.size B m ys) (hl' : m ≤ 1048576) :
    Calls Try.prog 33 #[.int .i64 rule, .slice A n c, .slice B m d] w (IntPostR w (perI rule xs ys)) := by
  cases hu : inB rule 0 255 <;> cases hp : pairB xs ys
  case true.true =>
    have hv : perI rule xs ys = perF rule xs ys (99 - 0) 0 := by rw [perI, if_pos (by rw [hu, hp]; rfl)]
    obtain ⟨hv0, hv1, hle⟩ := pair_iff.1 hp
    have hnx := rv_len hv0
    have hxl := hr.len
    have hn3 : 3 ≤ n ∧ n ≤ 12 := by omega
    obtain ⟨hn0, hn1⟩ := hn3
    obtain rfl : n = m := by rw [← hr.len, ← hr'.len]; exact hle
    have HI := Lib.hid (it_pair hu hp)
    have HXL := Lib.hid hxl
    have HV := Lib.hid hv
    obtain ⟨a0, hA, ha0, _⟩ := hr.2 (by omega)
    obtain ⟨b0, hB, hb0, _⟩ := hr'.2 (by omega)
    subst hA
    subst hB
    clear hxl hnx hle hv0 hv1 hv
    go_enter Try.func33, Try.ntmps33
    go_wp2_with (first | (go_at_call 37; refine (ruleOk _ _).mono ?_; rintro e w' ⟨rfl, rfl⟩) | (go_at_call 39; refine (pairOk _ n xs _ _ n ys _ _ hr (by omega) hr' (by omega)).mono ?_; rintro e w' ⟨rfl, rfl⟩))
    obtain ⟨g, hg⟩ : ∃ g, w.heap.size = g := ⟨_, rfl⟩
    have hb1 : Below w.heap.size w (w.alloc (.cells #[.int .i64 rule, .slice (some a0) n c, .slice (some b0) n d] 53)) := (Below.refl _ _).alloc (Nat.le_refl _) _
    have hrow : (w.alloc (.cells #[.int .i64 rule, .slice (some a0) n c, .slice (some b0) n d] 53)).heap[g]? = some (.cells #[.int .i64 rule, .slice (some a0) n c, .slice (some b0) n d] 53 (0, 0)) := by rw [← hg]; exact heap_alloc_new w _
    have hx0 : RI (w.alloc (.cells #[.int .i64 rule, .slice (some a0) n c, .slice (some b0) n d] 53)) (w.alloc (.cells #[.int .i64 rule, .slice (some a0) n c, .slice (some b0) n d] 53)).heap.size (some a0) n xs := hr.up (Nat.le_refl _) hb1 (Nat.le_refl _)
    have hy0 : RI (w.alloc (.cells #[.int .i64 rule, .slice (some a0) n c, .slice (some b0) n d] 53)) (w.alloc (.cells #[.int .i64 rule, .slice (some a0) n c, .slice (some b0) n d] 53)).heap.size (some b0) n ys := hr'.up (Nat.le_refl _) hb1 (Nat.le_refl _)
    have hsz0 : g < (w.alloc (.cells #[.int .i64 rule, .slice (some a0) n c, .slice (some b0) n d] 53)).heap.size := by rw [World.size_alloc]; omega
    have HROW := Lib.hid hrow
    have HG := Lib.hid hg
    rw [hg]
    have hag : a0.block ≠ g := by omega
    have hbg : b0.block ≠ g := by omega
    have HAG := Lib.hid hag
    have HBG := Lib.hid hbg
    clear hrow hg hag hbg
    go_loopw [8] (fun i wr => ∃ (k : Nat) (A' : Addr) (c' : Nat) (B' : Addr) (d' : Nat), k ≤ 99 ∧ i = .int .i64 ((k : Int) + 1) ∧ Hid (perI rule xs ys = perF rule xs ys (99 - k) k) ∧ Hid (wr.heap[g]? = some (.cells #[.int .i64 rule, .slice (some A') n c', .slice (some B') n d'] 53 (0, 0))) ∧ RI wr wr.heap.size (some A') n (itR rule xs ys k).1 ∧ RI wr wr.heap.size (some B') n (itR rule xs ys k).2 ∧ Hid (A'.block ≠ g) ∧ Hid (B'.block ≠ g) ∧ g < wr.heap.size ∧ Below w.heap.size w wr) (fun i _ => 100 - (intOf i).toNat)
    case atStart => exact ⟨0, a0, c, b0, d, by omega, rfl, HV.out, HROW.out, hx0, hy0, HAG.out, HBG.out, hsz0, hb1⟩
    case round =>
      obtain ⟨k, A', c', B', d', hk, rfl, hper, hrow, hx, hy, hag, hbg, hgs, hB⟩ := hrel
      have hs := hB.size
      have HX := Lib.hid hx
      have HY := Lib.hid hy
      clear hx hy hx0 hy0 hsz0 hb1 HROW
      by_cases hlt : k < 99
      · obtain ⟨c0, c1, c2, f0, f1, f2⟩ := row3_at hrow.out
        have hI := HI.out k
        have hI1 := HI.out (k + 1)
        have hl1 : (itR rule xs ys (k + 1)).1.length = n := by rw [hI1.2, HXL.out]
        have hl2 : (itR rule xs ys (k + 1)).2.length = n := by rw [← (pair_iff.1 hI1.1).2.2, hl1]
        have hst : (itR rule xs ys (k + 1)).2 = sumL (ruledL rule (itR rule xs ys k).2) (itR rule xs ys k).1 := (rn_pair hu hI.1).1
        have hst1 : (itR rule xs ys (k + 1)).1 = (itR rule xs ys k).2 := rfl
        have hpy : eqL (itR rule xs ys (k + 1)).1 xs = true → eqL (itR rule xs ys (k + 1)).2 ys = true → perI rule xs ys = ((k + 1 : Nat) : Int) := fun h1 h2 => by
          simp only [eqL, decide_eq_true_eq] at h1 h2
          have := hper.out; rw [show 99 - k = (98 - k) + 1 from by omega, per_yes ⟨h1, h2⟩] at this; exact this
        have hpn : ¬ (eqL (itR rule xs ys (k + 1)).1 xs = true ∧ eqL (itR rule xs ys (k + 1)).2 ys = true) → perI rule xs ys = perF rule xs ys (99 - (k + 1)) (k + 1) := fun h => by
          have h' : ¬ ((itR rule xs ys (k + 1)).1 = xs ∧ (itR rule xs ys (k + 1)).2 = ys) := fun h2 => h (by simp only [eqL, decide_eq_true_eq]; exact h2)
          have := hper.out; rw [show 99 - k = (98 - k) + 1 from by omega, per_no h'] at this; rw [this]; congr 1; omega
        have HF := Lib.hid (forward rule (some A') n (itR rule xs ys k).1 c' (some B') (itR rule xs ys k).2 d' wr hu hI.1 HX.out HY.out)
        rw [← hst] at HF
        rw [← hst1] at HY
        obtain ⟨P, hP⟩ : ∃ P, (itR rule xs ys (k + 1)).1 = P := ⟨_, rfl⟩
        obtain ⟨Q, hQ⟩ : ∃ Q, (itR rule xs ys (k + 1)).2 = Q := ⟨_, rfl⟩
        have HPP := Lib.hid hP
        have HQQ := Lib.hid hQ
        rw [hP] at hl1 hpy hpn HY
        rw [hQ] at hl2 hpy hpn HF
        have HPY := Lib.hid hpy
        have HPN := Lib.hid hpn
        have HL1 := Lib.hid hl1
        have HL2 := Lib.hid hl2
        clear hI hI1 hpy hpn hP hQ hl1 hl2 hst hst1
        go_wp2_with fail
        refine HF.out.mono ?_
        rintro e w2 ⟨A2, n2, c2', rfl, hO2, hB2⟩
        obtain rfl : n = n2 := by rw [← hO2.len, HL2.out]
        have HR2 := Lib.hid ((hB2.block g hgs).trans hrow.out)
        obtain ⟨g2, rfl, hg2, _⟩ := hO2.addr (by omega)
        obtain ⟨d0, d1, d2, k0, k1, k2⟩ := row3_at HR2.out
        have HO2 := Lib.hid hO2
        have hR3 := row3_set (a' := .int .i64 rule) (b' := .slice (some B') n d') (c' := .slice (some ⟨g2, 0, none⟩) n c2') HR2.out
        have hB3 : Below wr.heap.size wr w2 := hB2
        have hg2g : g2 ≠ g := by omega
        have hx3 := (((hO2.reads.set (g := g) (i := 0) (fun ad e => by injection e with e; rw [← e]; exact hg2g) (.int .i64 rule)).set (g := g) (i := 1) (fun ad e => by injection e with e; rw [← e]; exact hg2g) (.slice (some B') n d')).set (g := g) (i := 2) (fun ad e => by injection e with e; rw [← e]; exact hg2g) (.slice (some ⟨g2, 0, none⟩) n c2'))
        have hy3 := ((((HY.out.up (Nat.le_refl _) hB2 (Nat.le_refl _)).set (g := g) (i := 0) (fun ad e => by injection e with e; rw [← e]; exact hbg.out) (.int .i64 rule)).set (g := g) (i := 1) (fun ad e => by injection e with e; rw [← e]; exact hbg.out) (.slice (some B') n d')).set (g := g) (i := 2) (fun ad e => by injection e with e; rw [← e]; exact hbg.out) (.slice (some ⟨g2, 0, none⟩) n c2'))
        have hgw : w.heap.size ≤ g := by rw [HG.out]; exact Nat.le_refl _
        have hBB := (((hB.trans (hB2.mono hs)).setCell (p := ⟨g, 0, none⟩) hgw (.int .i64 rule)).setCell (p := ⟨g, 1, none⟩) hgw (.slice (some B') n d')).setCell (p := ⟨g, 2, none⟩) hgw (.slice (some ⟨g2, 0, none⟩) n c2')
        obtain ⟨m0, m1, m2, _, _, _⟩ := row3_at hR3
        have hs2 := hB2.size
        clear hO2 c0 c1 c2 f0 f1 f2 HO2
        obtain ⟨W3, hW3⟩ : ∃ W3, ((w2.setCell ⟨g, 0, none⟩ (.int .i64 rule)).setCell ⟨g, 1, none⟩ (.slice (some B') n d')).setCell ⟨g, 2, none⟩ (.slice (some ⟨g2, 0, none⟩) n c2') = W3 := ⟨_, rfl⟩
        have hsz : W3.heap.size = w2.heap.size := by rw [← hW3]; simp
        rw [hW3] at hR3 hx3 hy3 hBB m0 m1 m2
        rw [← hsz] at hx3 hy3
        have hgs3 : g < W3.heap.size := by rw [hsz]; omega
        have HR3 := Lib.hid hR3
        have HX3 := Lib.hid hx3
        have HY3 := Lib.hid hy3
        have HW3 := Lib.hid hW3
        clear hR3 hx3 hy3 hW3 hsz HR2
        go_wp2_with fail
        rw [HW3.out]
        have za : RI W3 W3.heap.size (some a0) n xs := hr.up (Nat.le_refl _) hBB (Nat.le_refl _)
        have zb : RI W3 W3.heap.size (some b0) n ys := hr'.up (Nat.le_refl _) hBB (Nat.le_refl _)
        refine (sEqual' _ _ n n P xs _ _ W3 HY3.out za (by omega) (by omega)).mono ?_
        rintro e w4 ⟨rfl, hB4⟩
        have hs3 := hBB.size
        have hBB4 := hBB.trans (hB4.mono hs3)
        have hs4 := hB4.size
        have HX4 := Lib.hid (HX3.out.up (Nat.le_refl _) hB4 (Nat.le_refl _))
        have HY4 := Lib.hid (HY3.out.up (Nat.le_refl _) hB4 (Nat.le_refl _))
        have zb4 : RI w4 w4.heap.size (some b0) n ys := hr'.up (Nat.le_refl _) hBB4 (Nat.le_refl _)
        have HR4 := Lib.hid ((hB4.block g hgs3).trans HR3.out)
        obtain ⟨c0, c1, c2, _, _, _⟩ := row3_at HR4.out
        have hgs4 : g < w4.heap.size := by omega
        clear za zb HX3 HY3 HR3
        cases he : eqL P xs
        · have HN := Lib.hid (HPN.out (fun h => by rw [he] at h; cases h.1))
          clear he
          go_wp2
          go_roundw
          case rel => exact ⟨k + 1, B', d', ⟨g2, 0, none⟩, c2', by omega, by congr 1, HN.out, HR4.out, by rw [HPP.out]; exact HY4.out, by rw [HQQ.out]; exact HX4.out, hbg.out, hg2g, hgs4, hBB4⟩
          case measure => simp [intOf]; omega
        · cases he2 : eqL Q ys
          · have HN := Lib.hid (HPN.out (fun h => by rw [he2] at h; cases h.2))
            clear he
            go_wp2_with fail
            refine (sEqual' _ _ n n Q ys _ _ w4 HX4.out zb4 (by omega) (by omega)).mono ?_
            rintro e w5 ⟨rfl, hB5⟩
            have hs4' := hBB4.size
            have hBB5 := hBB4.trans (hB5.mono hs4')
            have hs5 := hB5.size
            have HX5 := Lib.hid (HX4.out.up (Nat.le_refl _) hB5 (Nat.le_refl _))
            have HY5 := Lib.hid (HY4.out.up (Nat.le_refl _) hB5 (Nat.le_refl _))
            have HR5 := Lib.hid ((hB5.block g hgs4).trans HR4.out)
            have hgs5 : g < w5.heap.size := by omega
            clear c0 c1 c2
            go_wp2
            go_roundw
            case rel => exact ⟨k + 1, B', d', ⟨g2, 0, none⟩, c2', by omega, by congr 1, HN.out, HR5.out, by rw [HPP.out]; exact HY5.out, by rw [HQQ.out]; exact HX5.out, hbg.out, hg2g, hgs5, hBB5⟩
            case measure => simp [intOf]; omega
          · have HY := Lib.hid (HPY.out he he2)
            clear he
            go_wp2_with fail
            refine (sEqual' _ _ n n Q ys _ _ w4 HX4.out zb4 (by omega) (by omega)).mono ?_
            rintro e w5 ⟨rfl, hB5⟩
            have hs4' := hBB4.size
            have hBB5 := hBB4.trans (hB5.mono hs4')
            clear c0 c1 c2
            go_wp2
            go_ret
            exact ⟨ret_int (by rw [HY.out]; push_cast; rfl), hBB5⟩
      · obtain rfl : k = 99 := by omega
        go_wp2
        go_ret
        exact ⟨ret_int (by have := hper.out; rw [this]; rfl), hB⟩
  all_goals
    have hv : perI rule xs ys = -1 := by rw [perI, if_neg (by rw [hu, hp]; decide)]
    rw [hv]
    clear hv
    go_enter Try.func33, Try.ntmps33
    go_wp2_with (first | (go_at_call 37; refine (ruleOk _ _).mono ?_; rintro e w' ⟨rfl, rfl⟩) | (go_at_call 39; refine (pairOk _ n xs _ _ m ys _ _ hr (by omega) hr' (by omega)).mono ?_; rintro e w' ⟨rfl, rfl⟩))
    go_ret
    exact ⟨rfl, Below.refl _ _⟩
end Go.Proofs.Ytmbcolkhmleibaa

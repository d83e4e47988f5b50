/- Contract: fields moved, the reference (printed by mk_fieldt.py). -/
import Derived.Test.YtmianlihdiccjaaFieldT
namespace Go.Proofs.Ytmianlihdiccjaa
open Go.RowKit
set_option linter.unusedVariables false

theorem mo_no1 {e n : Int} (h : inB e 0 8 = false) : moveOk e n = false := by
  have : ¬ (0 ≤ e ∧ e ≤ 8) := fun hh => by rw [inB_t hh.1 hh.2] at h; cases h
  simp only [moveOk, Bool.and_eq_false_iff, decide_eq_false_iff_not]; left; omega
theorem mo_no2 {e n : Int} (h : inB n 0 8 = false) : moveOk e n = false := by
  have : ¬ (0 ≤ n ∧ n ≤ 8) := fun hh => by rw [inB_t hh.1 hh.2] at h; cases h
  simp only [moveOk, Bool.and_eq_false_iff, decide_eq_false_iff_not]; right; omega
theorem mo_no3 {e n : Int} (h : e % 2 = 1 ∨ n % 2 = 1) : moveOk e n = false := by
  simp only [moveOk, Bool.and_eq_false_iff, decide_eq_false_iff_not]; omega
theorem mo_yes {e n : Int} (he : inB e 0 8 = true) (hn : inB n 0 8 = true) (h2 : ¬ e % 2 = 1) (h3 : ¬ n % 2 = 1) : moveOk e n = true := by
  have := inB_iff.1 he
  have := inB_iff.1 hn
  simp only [moveOk, Bool.and_eq_true, decide_eq_true_eq]; omega
set_option maxHeartbeats 8000000 in
theorem fieldMoveS (s : Int) (A : Option Addr) (n : Nat) (zs : List Bool) (c : Nat) (h : Bool) (ea no : Int) (w : World) (hr : RL w w.heap.size A n zs) (hl : n ≤ 1048576) :
    Calls Try.prog 30 #[.agg #[.int .i64 s, .slice A n c, .bool h], .int .i64 ea, .int .i64 no] w (GivesF w (vI (fvB s zs && moveOk ea no) s) (vL (fvB s zs && moveOk ea no) (fmL s ea no zs)) (vH (fvB s zs && moveOk ea no) h)) := by
  obtain ⟨W, hW⟩ : ∃ W, ((w.alloc (.cells #[.int .i64 s, .slice A n c, .bool h] 27)).alloc (.cells #[.int .i64 0, .slice none 0 0, .bool false] 27)) = W := ⟨_, rfl⟩
  have hb : Below w.heap.size w W := by rw [← hW]; exact ((Below.refl _ _).alloc (Nat.le_refl _) _).alloc (by simp) _
  obtain ⟨g, hg⟩ : ∃ g, w.heap.size = g := ⟨_, rfl⟩
  have hsz : W.heap.size = g + 2 := by rw [← hW, ← hg]; simp
  have r0 : Row3 W g 27 (.int .i64 s) (.slice A n c) (.bool h) := by rw [← hW, ← hg]; exact (Row3.new w _ _ _ _).alloc _
  have r1 : Row3 W (g + 1) 27 (.int .i64 0) (.slice none 0 0) (.bool false) := by
    have := Row3.new (w.alloc (.cells #[.int .i64 s, .slice A n c, .bool h] 27)) 27 (.int .i64 0) (.slice none 0 0) (.bool false)
    rw [hW] at this; rw [← hg]; simpa using this
  have R0 := Lib.hid r0
  have R1 := Lib.hid r1
  obtain ⟨a0, a1, a2, a3, a4, a5⟩ := r0.at_
  have hgw : g + 1 < W.heap.size := by omega
  have hwg : w.heap.size ≤ g + 1 := by omega
  have hwg0 : w.heap.size ≤ g := by omega
  clear hsz r0 r1
  go_enter Try.func30, Try.ntmps30
  go_wp2_with fail
  refine (fieldValidS s A n zs c h W (hr.arg (Nat.le_refl _) hb) (by omega)).mono ?_
  rintro e w2 ⟨rfl, hb2⟩
  have hB2 := hb.trans (hb2.mono hb.size)
  replace R0 := Lib.hid (R0.out.below hb2 R0.out.lt)
  replace R1 := Lib.hid (R1.out.below hb2 R1.out.lt)
  have hs2 := hb2.size
  have HW := Lib.hid hW
  have HG := Lib.hid hg
  clear a0 a1 a2 a3 a4 a5 hb2 hW hg
  cases hv : fvB s zs
  · have HQ := Lib.hid (show (fvB s zs && moveOk ea no) = false by rw [hv]; rfl)
    obtain ⟨b0, b1, b2, b3, b4, b5⟩ := R1.out.at_
    have HR := Lib.hid (((R1.out.set0 (.int .i64 0)).set1 (.slice none 0 0)).set2 (.bool false))
    go_wp2_with (fail)
    refine bodyPost_ret (results_field rfl _ _ (g + 1) rfl HR.out) rfl ?_
    refine ⟨none, 0, 0, by rw [HQ.out]; rfl, by rw [HQ.out]; exact ⟨rfl, Nat.le_refl _, by simp [maxLen], .inl ⟨rfl, rfl⟩⟩, ((hB2.setCell (p := ⟨g + 1, 0, none⟩) hwg _).setCell (p := ⟨g + 1, 1, none⟩) hwg _).setCell (p := ⟨g + 1, 2, none⟩) hwg _⟩
  cases he : inB ea 0 8
  · have HQ := Lib.hid (show (fvB s zs && moveOk ea no) = false by rw [mo_no1 he, Bool.and_false])
    obtain ⟨b0, b1, b2, b3, b4, b5⟩ := R1.out.at_
    have HR := Lib.hid (((R1.out.set0 (.int .i64 0)).set1 (.slice none 0 0)).set2 (.bool false))
    go_wp2_with (go_at_call 44; refine (l1In _ _ _ _).mono ?_; rintro e w' ⟨rfl, rfl⟩)
    refine bodyPost_ret (results_field rfl _ _ (g + 1) rfl HR.out) rfl ?_
    refine ⟨none, 0, 0, by rw [HQ.out]; rfl, by rw [HQ.out]; exact ⟨rfl, Nat.le_refl _, by simp [maxLen], .inl ⟨rfl, rfl⟩⟩, ((hB2.setCell (p := ⟨g + 1, 0, none⟩) hwg _).setCell (p := ⟨g + 1, 1, none⟩) hwg _).setCell (p := ⟨g + 1, 2, none⟩) hwg _⟩
  cases hn : inB no 0 8
  · have HQ := Lib.hid (show (fvB s zs && moveOk ea no) = false by rw [mo_no2 hn, Bool.and_false])
    obtain ⟨b0, b1, b2, b3, b4, b5⟩ := R1.out.at_
    have HR := Lib.hid (((R1.out.set0 (.int .i64 0)).set1 (.slice none 0 0)).set2 (.bool false))
    go_wp2_with (go_at_call 44; refine (l1In _ _ _ _).mono ?_; rintro e w' ⟨rfl, rfl⟩)
    refine bodyPost_ret (results_field rfl _ _ (g + 1) rfl HR.out) rfl ?_
    refine ⟨none, 0, 0, by rw [HQ.out]; rfl, by rw [HQ.out]; exact ⟨rfl, Nat.le_refl _, by simp [maxLen], .inl ⟨rfl, rfl⟩⟩, ((hB2.setCell (p := ⟨g + 1, 0, none⟩) hwg _).setCell (p := ⟨g + 1, 1, none⟩) hwg _).setCell (p := ⟨g + 1, 2, none⟩) hwg _⟩
  obtain ⟨he0, he1⟩ := inB_iff.1 he
  obtain ⟨hn0, hn1⟩ := inB_iff.1 hn
  by_cases he2 : ea % 2 = 1
  · have HQ := Lib.hid (show (fvB s zs && moveOk ea no) = false by rw [mo_no3 (.inl he2), Bool.and_false])
    have hq : (ea % 2 == 1) = true := by simp [he2]
    clear he2
    obtain ⟨b0, b1, b2, b3, b4, b5⟩ := R1.out.at_
    have HR := Lib.hid (((R1.out.set0 (.int .i64 0)).set1 (.slice none 0 0)).set2 (.bool false))
    go_wp2_with (go_at_call 44; refine (l1In _ _ _ _).mono ?_; rintro e w' ⟨rfl, rfl⟩)
    refine bodyPost_ret (results_field rfl _ _ (g + 1) rfl HR.out) rfl ?_
    refine ⟨none, 0, 0, by rw [HQ.out]; rfl, by rw [HQ.out]; exact ⟨rfl, Nat.le_refl _, by simp [maxLen], .inl ⟨rfl, rfl⟩⟩, ((hB2.setCell (p := ⟨g + 1, 0, none⟩) hwg _).setCell (p := ⟨g + 1, 1, none⟩) hwg _).setCell (p := ⟨g + 1, 2, none⟩) hwg _⟩
  have hq1 : (ea % 2 == 1) = false := by simp [he2]
  by_cases hn2 : no % 2 = 1
  · have HQ := Lib.hid (show (fvB s zs && moveOk ea no) = false by rw [mo_no3 (.inr hn2), Bool.and_false])
    have hq : (no % 2 == 1) = true := by simp [hn2]
    clear he2 hn2
    obtain ⟨b0, b1, b2, b3, b4, b5⟩ := R1.out.at_
    have HR := Lib.hid (((R1.out.set0 (.int .i64 0)).set1 (.slice none 0 0)).set2 (.bool false))
    go_wp2_with (go_at_call 44; refine (l1In _ _ _ _).mono ?_; rintro e w' ⟨rfl, rfl⟩)
    refine bodyPost_ret (results_field rfl _ _ (g + 1) rfl HR.out) rfl ?_
    refine ⟨none, 0, 0, by rw [HQ.out]; rfl, by rw [HQ.out]; exact ⟨rfl, Nat.le_refl _, by simp [maxLen], .inl ⟨rfl, rfl⟩⟩, ((hB2.setCell (p := ⟨g + 1, 0, none⟩) hwg _).setCell (p := ⟨g + 1, 1, none⟩) hwg _).setCell (p := ⟨g + 1, 2, none⟩) hwg _⟩
  · have hq2 : (no % 2 == 1) = false := by simp [hn2]
    have hok : (fvB s zs && moveOk ea no) = true := by rw [hv, Bool.true_and]; exact mo_yes he hn he2 hn2
    obtain ⟨E, rfl⟩ : ∃ E : Nat, ea = (E : Int) := ⟨ea.toNat, by omega⟩
    obtain ⟨O, rfl⟩ : ∃ O : Nat, no = (O : Int) := ⟨no.toNat, by omega⟩
    have hE8 : E ≤ 8 := by omega
    have hO8 : O ≤ 8 := by omega
    have HOKK := Lib.hid hok
    clear he2 hn2 hok
    have hfv := fv_iff.1 hv
    obtain ⟨S, rfl⟩ : ∃ S : Nat, s = (S : Int) := ⟨s.toNat, by omega⟩
    have hSS : S = 2 ∨ S = 4 ∨ S = 6 ∨ S = 8 := by omega
    have hS2 : 2 ≤ S := by omega
    have hS8 : S ≤ 8 := by omega
    have hnS : zs.length = S * S := by have := hfv.2.2.2.1; exact_mod_cast this
    have hnn : n = S * S := by rw [← hr.len]; exact hnS
    have hn64 : n ≤ 64 := by rw [hnn]; rcases hSS with rfl | rfl | rfl | rfl <;> decide
    have hn4 : 4 ≤ n := by rw [hnn]; rcases hSS with rfl | rfl | rfl | rfl <;> decide
    have HN := Lib.hid hnn
    have HNZ := Lib.hid hnS
    have HSS := Lib.hid hSS
    have hS0 : ¬ S = 0 := by omega
    have hS0' : ¬ (S : Int) = 0 := by omega
    clear hfv hnn hnS hSS
    obtain ⟨a0, a1, a2, a3, a4, a5⟩ := R0.out.at_
    obtain ⟨FC, hmk, hFC⟩ := mkB n hl
    have HF := Lib.hid hFC
    clear hFC
    go_wp2_with (go_at_call 44; refine (l1In _ _ _ _).mono ?_; rintro e w' ⟨rfl, rfl⟩)
    go_region_held3 (fun w' => w'.cell? ⟨g, 0, none⟩ = some (.int .i64 (S : Int)) ∧ w'.cell? ⟨g, 1, none⟩ = some (.slice A n c) ∧ w'.cell? ⟨g, 2, none⟩ = some (.bool h)) (go_keep) (fail)
    · obtain ⟨W3, hW3⟩ : ∃ W3, ((w2.alloc (.cells FC 4)).alloc (.cells #[.int .i64 (S : Int), .slice (some ⟨w2.heap.size, 0, none⟩) n n, .bool h] 27)).drew = W3 := ⟨_, rfl⟩
      obtain ⟨gO, hgO⟩ : ∃ gO, w2.heap.size + 1 = gO := ⟨_, rfl⟩
      obtain ⟨gB, hgB⟩ : ∃ gB, w2.heap.size = gB := ⟨_, rfl⟩
      have hB3 : Below w2.heap.size w2 W3 := by rw [← hW3]; exact (((Below.refl _ _).alloc (Nat.le_refl _) _).alloc (by simp) _).drew
      have hsz3 : W3.heap.size = w2.heap.size + 2 := by rw [← hW3]; show ((_ : World).alloc _).heap.size = _; simp
      have hO : OSb W3 w.heap.size (some ⟨gB, 0, none⟩) n n (List.replicate n false) := by
        rw [← hW3, ← hgB]
        exact (HF.out w2 w.heap.size hB2.size).alloc _
      have hRO : Row3 W3 gO 27 (.int .i64 (S : Int)) (.slice (some ⟨gB, 0, none⟩) n n) (.bool h) := by
        have := Row3.new (w2.alloc (.cells FC 4)) 27 (.int .i64 (S : Int)) (.slice (some ⟨w2.heap.size, 0, none⟩) n n) (.bool h)
        rw [← hW3, ← hgO, ← hgB]
        simpa using this.drew
      rw [hW3, hgO, hgB]

      have hOB : gO ≠ gB := by omega
      have hgB2 : w2.heap.size ≤ gB := by omega
      have hgO2 : w2.heap.size ≤ gO := by omega
      have hBw : w2.heap.size ≤ W3.heap.size := hB3.size
      have HR0 := Lib.hid (R0.out.below hB3 R0.out.lt)
      have HR1 := Lib.hid (R1.out.below hB3 R1.out.lt)
      have HRO := Lib.hid hRO
      have hl1 := R1.out.lt
      have hB4 := hB2.trans (hB3.mono hB2.size)
      rw [show List.replicate n false = pmT (moveP S E O) zs 0 by simp only [pmT]; rw [hr.len]] at hO
      have HO := Lib.hid hO
      have HONE := Lib.hid (by rw [HNZ.out]; exact move_one E O (by omega) : OneOne (moveP S E O) zs.length)
      clear hW3 hgO hgB hsz3 hRO hO hB3 a0 a1 a2 a3 a4 a5 hmk
      go_wp2
      go_loopw [8] (fun i wr => ∃ k : Nat, k ≤ n ∧ i = .int .i64 k ∧ Hid (OSb wr w.heap.size (some ⟨gB, 0, none⟩) n n (pmT (moveP S E O) zs k)) ∧ Hid (Row3 wr gO 27 (.int .i64 (S : Int)) (.slice (some ⟨gB, 0, none⟩) n n) (.bool h)) ∧ Hid (Row3 wr g 27 (.int .i64 (S : Int)) (.slice A n c) (.bool h)) ∧ Hid (Row3 wr (g + 1) 27 (.int .i64 0) (.slice none 0 0) (.bool false)) ∧ w2.heap.size ≤ wr.heap.size ∧ Below w.heap.size w wr)
        (fun i _ => n - (intOf i).toNat)
      case atStart => exact ⟨0, Nat.zero_le _, rfl, HO.out, HRO.out, HR0.out, HR1.out, hBw, hB4⟩
      case round =>
        obtain ⟨k, hk, rfl, HO, HRO, HR0, HR1, hBw, hB4⟩ := hrel
        by_cases hlt : k < n
        · obtain ⟨ad, x, rfl, hbx, hx, hcx0⟩ := hr.at_ (k := k) hlt
          have hcx : wr.cell? (ad.add k) = some (.bool x) := (hB4.cell (p := ad.add k) (by rw [blk_add]; exact hbx)).trans hcx0
          have hadB : (ad.add k).block ≠ gB := by rw [blk_add]; have := hB2.size; omega
          have hkS : k < S * S := by rw [← HN.out]; exact hlt
          have ha8 : k % S < S := Nat.mod_lt _ (by omega)
          have hb8 : k / S < S := Nat.div_lt_of_lt_mul hkS
          have hp : moveP S E O k < n := by have := HONE.out.1 k (by rw [HNZ.out]; exact hkS); rw [HNZ.out, ← HN.out] at this; exact this
          obtain ⟨a, hae⟩ : ∃ a, k % S = a := ⟨_, rfl⟩
          obtain ⟨b, hbe⟩ : ∃ b, k / S = b := ⟨_, rfl⟩
          obtain ⟨p, hpe⟩ : ∃ p, moveP S E O k = p := ⟨_, rfl⟩
          rw [hae] at ha8
          rw [hbe] at hb8
          rw [hpe] at hp
          have ht1 : (k : Int).tmod (S : Int) = (a : Int) := by rw [Int.tmod_eq_emod_of_nonneg (by omega), ← hae]; push_cast; rfl
          have ht2 : (k : Int).tdiv (S : Int) = (b : Int) := by rw [Int.tdiv_eq_ediv_of_nonneg (by omega), ← hbe]; push_cast; rfl
          have ht1' : (k : Int) % (S : Int) = (a : Int) := by rw [← hae]; push_cast; rfl
          have ht2' : (k : Int) / (S : Int) = (b : Int) := by rw [← hbe]; push_cast; rfl
          have hpi0 : (0 : Int) ≤ (p : Int) := by omega
          have hpi1 : (p : Int) < (n : Int) := by omega
          have hki0 : (0 : Int) ≤ (k : Int) := by omega
          have hki1 : (k : Int) < (n : Int) := by omega
          have HPE := Lib.hid hpe
          have HAE := Lib.hid hae
          have HBE := Lib.hid hbe
          clear hae hbe hpe hkS
          have hcp : wr.cell? ⟨gB, p, none⟩ = some (.bool ((pmT (moveP S E O) zs k).getD p false)) := by
            rw [HO.out.toI.cellAt hp]
            have : p < (pmT (moveP S E O) zs k).length := by rw [pm_len, hr.len]; exact hp
            simp [List.getD, this]
          have hfp : wr.frozen? ⟨gB, p, none⟩ = false := HO.out.toI.frozenAt p
          have hu8 : (a + E) % S < S := Nat.mod_lt _ (by omega)
          have hv8 : (b + O) % S < S := Nat.mod_lt _ (by omega)
          obtain ⟨u, hue⟩ : ∃ u, (a + E) % S = u := ⟨_, rfl⟩
          obtain ⟨v, hve⟩ : ∃ v, (b + O) % S = v := ⟨_, rfl⟩
          rw [hue] at hu8
          rw [hve] at hv8
          have hu1 : ((a : Int) + (E : Int)).tmod (S : Int) = (u : Int) := by rw [Int.tmod_eq_emod_of_nonneg (by omega), ← hue]; push_cast; rfl
          have hv1 : ((b : Int) + (O : Int)).tmod (S : Int) = (v : Int) := by rw [Int.tmod_eq_emod_of_nonneg (by omega), ← hve]; push_cast; rfl
          have hms : v * S ≤ 64 := Nat.le_trans (Nat.mul_le_mul (show v ≤ 8 by omega) hS8) (by decide)
          obtain ⟨M, hM⟩ : ∃ M, v * S = M := ⟨_, rfl⟩
          rw [hM] at hms
          have hMI : (v : Int) * (S : Int) = (M : Int) := by rw [← hM]; push_cast; rfl
          have hpM : (M : Int) + (u : Int) = (p : Int) := by have := HPE.out; unfold moveP at this; rw [HAE.out, HBE.out, hue, hve, hM] at this; omega
          have hw1 : IntKind.i64.wrap ((v : Int) * (S : Int)) = (M : Int) := by rw [hMI, IntKind.wrap_i64]; omega
          have hw2 : IntKind.i64.wrap ((M : Int) + (u : Int)) = (p : Int) := by rw [hpM, IntKind.wrap_i64]; omega
          have hw3 : IntKind.i64.wrap ((a : Int) + (E : Int)) = (a : Int) + (E : Int) := by rw [IntKind.wrap_i64]; omega
          have hw4 : IntKind.i64.wrap ((b : Int) + (O : Int)) = (b : Int) + (O : Int) := by rw [IntKind.wrap_i64]; omega
          have hw5 : IntKind.i64.wrap (p : Int) = (p : Int) := by rw [IntKind.wrap_i64]; omega
          have hw6 : IntKind.i64.wrap (b : Int) = (b : Int) := by rw [IntKind.wrap_i64]; omega
          obtain ⟨c0, c1, c2, c3, c4, c5⟩ := HRO.out.at_
          obtain ⟨e0, e1, e2, e3, e4, e5⟩ := HR0.out.at_
          have m1 : ¬ gO = gB := hOB
          have m2 : ¬ g = gB := by omega
          have m3 : ¬ g + 1 = gB := by omega
          have hst := HO.out.stored (k := p) x
          have HOS := Lib.hid (show OSb (wr.setCell ⟨gB, p, none⟩ (.bool x)).drew w.heap.size (some ⟨gB, 0, none⟩) n n (pmT (moveP S E O) zs (k + 1)) by rw [pm_yes hx, HPE.out]; exact hst.1)
          have HROs := Lib.hid ((HRO.out.other (p := ⟨gB, p, none⟩) hOB (.bool x)).drew)
          have HR0s := Lib.hid ((HR0.out.other (p := ⟨gB, p, none⟩) m2 (.bool x)).drew)
          have HR1s := Lib.hid ((HR1.out.other (p := ⟨gB, p, none⟩) m3 (.bool x)).drew)
          have hBs : Below w.heap.size w (wr.setCell ⟨gB, p, none⟩ (.bool x)).drew := (hB4.setCell (p := ⟨gB, p, none⟩) (show w.heap.size ≤ gB by have := hB2.size; omega) (.bool x)).drew
          have hBws : w2.heap.size ≤ (wr.setCell ⟨gB, p, none⟩ (.bool x)).drew.heap.size := by show _ ≤ (wr.setCell _ _).heap.size; simpa using hBw
          have HK := Lib.hid (show (wr.setCell ⟨gB, p, none⟩ (.bool x)).drew.cell? ⟨gO, 1, none⟩ = some (.slice (some ⟨gB, 0, none⟩) n n) ∧ (wr.setCell ⟨gB, p, none⟩ (.bool x)).drew.cell? ⟨g, 0, none⟩ = some (.int .i64 (S : Int)) ∧ (wr.setCell ⟨gB, p, none⟩ (.bool x)).drew.cell? ⟨g, 1, none⟩ = some (.slice (some ad) n c) ∧ (wr.setCell ⟨gB, p, none⟩ (.bool x)).drew.cell? (ad.add k) = some (.bool x) from ⟨keep1 c1 m1, keep1 e0 m2, keep1 e1 m2, keep1 hcx hadB⟩)
          clear hst hx hM hMI hue hve
          go_wp2
          go_region_held3 (fun w' => w'.cell? ⟨g, 0, none⟩ = some (.int .i64 (S : Int))) (go_keep) (fail)
          all_goals go_wp2
          all_goals go_region_held3 (fun w' => w'.cell? ⟨g, 0, none⟩ = some (.int .i64 (S : Int))) (go_keep) (fail)
          all_goals go_wp2
          all_goals go_region_held3 (fun w' => w'.cell? ⟨gO, 1, none⟩ = some (.slice (some ⟨gB, 0, none⟩) n n) ∧ w'.cell? ⟨g, 0, none⟩ = some (.int .i64 (S : Int)) ∧ w'.cell? ⟨g, 1, none⟩ = some (.slice (some ad) n c) ∧ w'.cell? (ad.add k) = some (.bool x)) (first | exact HK.out | go_keep) (fail)
          all_goals go_wp2
          all_goals
            go_roundw
            case rel => exact ⟨k + 1, by omega, by go_num, HOS.out, HROs.out, HR0s.out, HR1s.out, hBws, by first | exact hBs | exact hBs.drew.drew⟩
            case measure => simp [intOf]; omega
        · obtain rfl : k = n := by omega
          obtain ⟨c0, c1, c2, c3, c4, c5⟩ := HRO.out.at_
          obtain ⟨d0, d1, d2, d3, d4, d5⟩ := HR1.out.at_
          obtain ⟨e0, e1, e2, e3, e4, e5⟩ := HR0.out.at_
          have HR := Lib.hid (((HR1.out.set0 (.int .i64 (S : Int))).set1 (.slice (some ⟨gB, 0, none⟩) k k)).set2 (.bool h))
          have hne : gB ≠ g + 1 := by omega
          have HOF := Lib.hid (((HO.out.toI.kept (grown_set _ ⟨g + 1, 0, none⟩ (.int .i64 (S : Int))) (.inr (by simp [Value.ownBlock]; omega))).kept (grown_set _ ⟨g + 1, 1, none⟩ (.slice (some ⟨gB, 0, none⟩) k k)) (.inr (by simp [Value.ownBlock]; omega))).kept (grown_set _ ⟨g + 1, 2, none⟩ (.bool h)) (.inr (by simp [Value.ownBlock]; omega)))
          go_wp2
          refine bodyPost_ret (results_field rfl _ _ (g + 1) rfl HR.out) rfl ?_
          have e : pmT (moveP S E O) zs k = fmL (S : Int) (E : Int) (O : Int) zs := by unfold fmL pmL; rw [hr.len]; simp
          have HOF2 := HOF.out
          rw [e] at HOF2
          refine ⟨_, _, _, by rw [HOKK.out]; rfl, by rw [HOKK.out]; exact HOF2, ((hB4.setCell (p := ⟨g + 1, 0, none⟩) hwg _).setCell (p := ⟨g + 1, 1, none⟩) hwg _).setCell (p := ⟨g + 1, 2, none⟩) hwg _⟩
    · obtain ⟨W3, hW3⟩ : ∃ W3, ((w2.alloc (.cells #[.int .i64 (S : Int), .slice (some ⟨w2.heap.size + 1, 0, none⟩) n n, .bool h] 27)).alloc (.cells FC 4)).drew = W3 := ⟨_, rfl⟩
      obtain ⟨gO, hgO⟩ : ∃ gO, w2.heap.size = gO := ⟨_, rfl⟩
      obtain ⟨gB, hgB⟩ : ∃ gB, w2.heap.size + 1 = gB := ⟨_, rfl⟩
      have hB3 : Below w2.heap.size w2 W3 := by rw [← hW3]; exact (((Below.refl _ _).alloc (Nat.le_refl _) _).alloc (by simp) _).drew
      have hsz3 : W3.heap.size = w2.heap.size + 2 := by rw [← hW3]; show ((_ : World).alloc _).heap.size = _; simp
      have hO : OSb W3 w.heap.size (some ⟨gB, 0, none⟩) n n (List.replicate n false) := by
        have := HF.out (w2.alloc (.cells #[.int .i64 (S : Int), .slice (some ⟨w2.heap.size + 1, 0, none⟩) n n, .bool h] 27)) w.heap.size (by simp; have := hB2.size; omega)
        rw [show (w2.alloc (.cells #[.int .i64 (S : Int), .slice (some ⟨w2.heap.size + 1, 0, none⟩) n n, .bool h] 27)).heap.size = w2.heap.size + 1 by simp] at this
        rw [← hW3, ← hgB]
        exact this
      have hRO : Row3 W3 gO 27 (.int .i64 (S : Int)) (.slice (some ⟨gB, 0, none⟩) n n) (.bool h) := by
        rw [← hW3, ← hgO, ← hgB]
        exact ((Row3.new w2 _ _ _ _).alloc _).drew
      rw [hW3, hgB, hgO]

      have hOB : gO ≠ gB := by omega
      have hgB2 : w2.heap.size ≤ gB := by omega
      have hgO2 : w2.heap.size ≤ gO := by omega
      have hBw : w2.heap.size ≤ W3.heap.size := hB3.size
      have HR0 := Lib.hid (R0.out.below hB3 R0.out.lt)
      have HR1 := Lib.hid (R1.out.below hB3 R1.out.lt)
      have HRO := Lib.hid hRO
      have hl1 := R1.out.lt
      have hB4 := hB2.trans (hB3.mono hB2.size)
      rw [show List.replicate n false = pmT (moveP S E O) zs 0 by simp only [pmT]; rw [hr.len]] at hO
      have HO := Lib.hid hO
      have HONE := Lib.hid (by rw [HNZ.out]; exact move_one E O (by omega) : OneOne (moveP S E O) zs.length)
      clear hW3 hgO hgB hsz3 hRO hO hB3 a0 a1 a2 a3 a4 a5 hmk
      go_wp2
      go_loopw [8] (fun i wr => ∃ k : Nat, k ≤ n ∧ i = .int .i64 k ∧ Hid (OSb wr w.heap.size (some ⟨gB, 0, none⟩) n n (pmT (moveP S E O) zs k)) ∧ Hid (Row3 wr gO 27 (.int .i64 (S : Int)) (.slice (some ⟨gB, 0, none⟩) n n) (.bool h)) ∧ Hid (Row3 wr g 27 (.int .i64 (S : Int)) (.slice A n c) (.bool h)) ∧ Hid (Row3 wr (g + 1) 27 (.int .i64 0) (.slice none 0 0) (.bool false)) ∧ w2.heap.size ≤ wr.heap.size ∧ Below w.heap.size w wr)
        (fun i _ => n - (intOf i).toNat)
      case atStart => exact ⟨0, Nat.zero_le _, rfl, HO.out, HRO.out, HR0.out, HR1.out, hBw, hB4⟩
      case round =>
        obtain ⟨k, hk, rfl, HO, HRO, HR0, HR1, hBw, hB4⟩ := hrel
        by_cases hlt : k < n
        · obtain ⟨ad, x, rfl, hbx, hx, hcx0⟩ := hr.at_ (k := k) hlt
          have hcx : wr.cell? (ad.add k) = some (.bool x) := (hB4.cell (p := ad.add k) (by rw [blk_add]; exact hbx)).trans hcx0
          have hadB : (ad.add k).block ≠ gB := by rw [blk_add]; have := hB2.size; omega
          have hkS : k < S * S := by rw [← HN.out]; exact hlt
          have ha8 : k % S < S := Nat.mod_lt _ (by omega)
          have hb8 : k / S < S := Nat.div_lt_of_lt_mul hkS
          have hp : moveP S E O k < n := by have := HONE.out.1 k (by rw [HNZ.out]; exact hkS); rw [HNZ.out, ← HN.out] at this; exact this
          obtain ⟨a, hae⟩ : ∃ a, k % S = a := ⟨_, rfl⟩
          obtain ⟨b, hbe⟩ : ∃ b, k / S = b := ⟨_, rfl⟩
          obtain ⟨p, hpe⟩ : ∃ p, moveP S E O k = p := ⟨_, rfl⟩
          rw [hae] at ha8
          rw [hbe] at hb8
          rw [hpe] at hp
          have ht1 : (k : Int).tmod (S : Int) = (a : Int) := by rw [Int.tmod_eq_emod_of_nonneg (by omega), ← hae]; push_cast; rfl
          have ht2 : (k : Int).tdiv (S : Int) = (b : Int) := by rw [Int.tdiv_eq_ediv_of_nonneg (by omega), ← hbe]; push_cast; rfl
          have ht1' : (k : Int) % (S : Int) = (a : Int) := by rw [← hae]; push_cast; rfl
          have ht2' : (k : Int) / (S : Int) = (b : Int) := by rw [← hbe]; push_cast; rfl
          have hpi0 : (0 : Int) ≤ (p : Int) := by omega
          have hpi1 : (p : Int) < (n : Int) := by omega
          have hki0 : (0 : Int) ≤ (k : Int) := by omega
          have hki1 : (k : Int) < (n : Int) := by omega
          have HPE := Lib.hid hpe
          have HAE := Lib.hid hae
          have HBE := Lib.hid hbe
          clear hae hbe hpe hkS
          have hcp : wr.cell? ⟨gB, p, none⟩ = some (.bool ((pmT (moveP S E O) zs k).getD p false)) := by
            rw [HO.out.toI.cellAt hp]
            have : p < (pmT (moveP S E O) zs k).length := by rw [pm_len, hr.len]; exact hp
            simp [List.getD, this]
          have hfp : wr.frozen? ⟨gB, p, none⟩ = false := HO.out.toI.frozenAt p
          have hu8 : (a + E) % S < S := Nat.mod_lt _ (by omega)
          have hv8 : (b + O) % S < S := Nat.mod_lt _ (by omega)
          obtain ⟨u, hue⟩ : ∃ u, (a + E) % S = u := ⟨_, rfl⟩
          obtain ⟨v, hve⟩ : ∃ v, (b + O) % S = v := ⟨_, rfl⟩
          rw [hue] at hu8
          rw [hve] at hv8
          have hu1 : ((a : Int) + (E : Int)).tmod (S : Int) = (u : Int) := by rw [Int.tmod_eq_emod_of_nonneg (by omega), ← hue]; push_cast; rfl
          have hv1 : ((b : Int) + (O : Int)).tmod (S : Int) = (v : Int) := by rw [Int.tmod_eq_emod_of_nonneg (by omega), ← hve]; push_cast; rfl
          have hms : v * S ≤ 64 := Nat.le_trans (Nat.mul_le_mul (show v ≤ 8 by omega) hS8) (by decide)
          obtain ⟨M, hM⟩ : ∃ M, v * S = M := ⟨_, rfl⟩
          rw [hM] at hms
          have hMI : (v : Int) * (S : Int) = (M : Int) := by rw [← hM]; push_cast; rfl
          have hpM : (M : Int) + (u : Int) = (p : Int) := by have := HPE.out; unfold moveP at this; rw [HAE.out, HBE.out, hue, hve, hM] at this; omega
          have hw1 : IntKind.i64.wrap ((v : Int) * (S : Int)) = (M : Int) := by rw [hMI, IntKind.wrap_i64]; omega
          have hw2 : IntKind.i64.wrap ((M : Int) + (u : Int)) = (p : Int) := by rw [hpM, IntKind.wrap_i64]; omega
          have hw3 : IntKind.i64.wrap ((a : Int) + (E : Int)) = (a : Int) + (E : Int) := by rw [IntKind.wrap_i64]; omega
          have hw4 : IntKind.i64.wrap ((b : Int) + (O : Int)) = (b : Int) + (O : Int) := by rw [IntKind.wrap_i64]; omega
          have hw5 : IntKind.i64.wrap (p : Int) = (p : Int) := by rw [IntKind.wrap_i64]; omega
          have hw6 : IntKind.i64.wrap (b : Int) = (b : Int) := by rw [IntKind.wrap_i64]; omega
          obtain ⟨c0, c1, c2, c3, c4, c5⟩ := HRO.out.at_
          obtain ⟨e0, e1, e2, e3, e4, e5⟩ := HR0.out.at_
          have m1 : ¬ gO = gB := hOB
          have m2 : ¬ g = gB := by omega
          have m3 : ¬ g + 1 = gB := by omega
          have hst := HO.out.stored (k := p) x
          have HOS := Lib.hid (show OSb (wr.setCell ⟨gB, p, none⟩ (.bool x)).drew w.heap.size (some ⟨gB, 0, none⟩) n n (pmT (moveP S E O) zs (k + 1)) by rw [pm_yes hx, HPE.out]; exact hst.1)
          have HROs := Lib.hid ((HRO.out.other (p := ⟨gB, p, none⟩) hOB (.bool x)).drew)
          have HR0s := Lib.hid ((HR0.out.other (p := ⟨gB, p, none⟩) m2 (.bool x)).drew)
          have HR1s := Lib.hid ((HR1.out.other (p := ⟨gB, p, none⟩) m3 (.bool x)).drew)
          have hBs : Below w.heap.size w (wr.setCell ⟨gB, p, none⟩ (.bool x)).drew := (hB4.setCell (p := ⟨gB, p, none⟩) (show w.heap.size ≤ gB by have := hB2.size; omega) (.bool x)).drew
          have hBws : w2.heap.size ≤ (wr.setCell ⟨gB, p, none⟩ (.bool x)).drew.heap.size := by show _ ≤ (wr.setCell _ _).heap.size; simpa using hBw
          have HK := Lib.hid (show (wr.setCell ⟨gB, p, none⟩ (.bool x)).drew.cell? ⟨gO, 1, none⟩ = some (.slice (some ⟨gB, 0, none⟩) n n) ∧ (wr.setCell ⟨gB, p, none⟩ (.bool x)).drew.cell? ⟨g, 0, none⟩ = some (.int .i64 (S : Int)) ∧ (wr.setCell ⟨gB, p, none⟩ (.bool x)).drew.cell? ⟨g, 1, none⟩ = some (.slice (some ad) n c) ∧ (wr.setCell ⟨gB, p, none⟩ (.bool x)).drew.cell? (ad.add k) = some (.bool x) from ⟨keep1 c1 m1, keep1 e0 m2, keep1 e1 m2, keep1 hcx hadB⟩)
          clear hst hx hM hMI hue hve
          go_wp2
          go_region_held3 (fun w' => w'.cell? ⟨g, 0, none⟩ = some (.int .i64 (S : Int))) (go_keep) (fail)
          all_goals go_wp2
          all_goals go_region_held3 (fun w' => w'.cell? ⟨g, 0, none⟩ = some (.int .i64 (S : Int))) (go_keep) (fail)
          all_goals go_wp2
          all_goals go_region_held3 (fun w' => w'.cell? ⟨gO, 1, none⟩ = some (.slice (some ⟨gB, 0, none⟩) n n) ∧ w'.cell? ⟨g, 0, none⟩ = some (.int .i64 (S : Int)) ∧ w'.cell? ⟨g, 1, none⟩ = some (.slice (some ad) n c) ∧ w'.cell? (ad.add k) = some (.bool x)) (first | exact HK.out | go_keep) (fail)
          all_goals go_wp2
          all_goals
            go_roundw
            case rel => exact ⟨k + 1, by omega, by go_num, HOS.out, HROs.out, HR0s.out, HR1s.out, hBws, by first | exact hBs | exact hBs.drew.drew⟩
            case measure => simp [intOf]; omega
        · obtain rfl : k = n := by omega
          obtain ⟨c0, c1, c2, c3, c4, c5⟩ := HRO.out.at_
          obtain ⟨d0, d1, d2, d3, d4, d5⟩ := HR1.out.at_
          obtain ⟨e0, e1, e2, e3, e4, e5⟩ := HR0.out.at_
          have HR := Lib.hid (((HR1.out.set0 (.int .i64 (S : Int))).set1 (.slice (some ⟨gB, 0, none⟩) k k)).set2 (.bool h))
          have hne : gB ≠ g + 1 := by omega
          have HOF := Lib.hid (((HO.out.toI.kept (grown_set _ ⟨g + 1, 0, none⟩ (.int .i64 (S : Int))) (.inr (by simp [Value.ownBlock]; omega))).kept (grown_set _ ⟨g + 1, 1, none⟩ (.slice (some ⟨gB, 0, none⟩) k k)) (.inr (by simp [Value.ownBlock]; omega))).kept (grown_set _ ⟨g + 1, 2, none⟩ (.bool h)) (.inr (by simp [Value.ownBlock]; omega)))
          go_wp2
          refine bodyPost_ret (results_field rfl _ _ (g + 1) rfl HR.out) rfl ?_
          have e : pmT (moveP S E O) zs k = fmL (S : Int) (E : Int) (O : Int) zs := by unfold fmL pmL; rw [hr.len]; simp
          have HOF2 := HOF.out
          rw [e] at HOF2
          refine ⟨_, _, _, by rw [HOKK.out]; rfl, by rw [HOKK.out]; exact HOF2, ((hB4.setCell (p := ⟨g + 1, 0, none⟩) hwg _).setCell (p := ⟨g + 1, 1, none⟩) hwg _).setCell (p := ⟨g + 1, 2, none⟩) hwg _⟩
end Go.Proofs.Ytmianlihdiccjaa

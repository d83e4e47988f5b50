/- Contracts: fields turned and moved (printed by mk_fieldt.py). -/
import Derived.Test.YtmianlihdiccjaaPlace
import Derived.Deep.RegionHeld3
namespace Go.Proofs.Ytmianlihdiccjaa
open Go.RowKit
set_option linter.unusedVariables false

/-- one thing or nothing -/
def vI (b : Bool) (s : Int) : Int := if b = true then s else 0
def vL (b : Bool) (l : List Bool) : List Bool := if b = true then l else []
def vH (b : Bool) (h : Bool) : Bool := b && h
theorem vL_len {b : Bool} {l : List Bool} {k : Nat} (h : b = true → l.length ≤ k) : (vL b l).length ≤ k := by unfold vL; split <;> rename_i hb <;> first | exact h hb | simp
/-- make([]bool, n) -/
theorem mkB (n : Nat) (hn : n ≤ 1048576) : ∃ FC : Array Value, (∀ W : World, (Instr.makeSlice 22 (.int .i64 (n : Int)) (.int .i64 (n : Int))).run Try.prog W = .ok (.slice (some ⟨W.heap.size, 0, none⟩) n n) (W.alloc (.cells FC 4))) ∧
    ∀ (W : World) (base : Nat), base ≤ W.heap.size → OSb (W.alloc (.cells FC 4)) base (some ⟨W.heap.size, 0, none⟩) n n (List.replicate n false) := by
  obtain ⟨i0, hi, hz0, hz1, hz2⟩ := info_parts infoBool
  refine ⟨madeCells (Value.bool false).cells (n * 1), fun W => ?_, fun W base hb => ?_⟩
  · have hr := run_make (P := Try.prog) W 22 4 i0 (.bool false) Try.underlying22 hi hz0 .i64 .i64 n n (by omega) (Int.le_refl _) (by rw [hz2]; omega) (by omega)
    simp only [Int.toNat_natCast, hz1] at hr
    exact hr
  · have h := World.ownsRow_lit (base := base) (e := 4) (size := 1) W (madeCells (Value.bool false).cells (n * 1)) n hb (by unfold maxLen; omega) (by rw [size_madeCells])
    have e : (madeCells (Value.bool false).cells (n * 1)).toList = (List.replicate n false).map .bool := by
      rw [Nat.mul_one, List.map_replicate]; exact toList_madeCells_one _ _
    rw [e] at h
    exact h
theorem keep1 {w : World} {p : Addr} {g i : Nat} {u x : Value} (h : w.cell? p = some x) (hne : p.block ≠ g) : (w.setCell ⟨g, i, none⟩ u).drew.cell? p = some x :=
  (World.cell?_setCell_other _ _ _ _ (fun e => hne (by rw [← e]))).trans h
set_option maxHeartbeats 8000000 in
theorem fieldTurnS (s : Int) (A : Option Addr) (n : Nat) (zs : List Bool) (c : Nat) (h : Bool) (w : World) (hr : RL w w.heap.size A n zs) (hl : n ≤ 1048576) :
    Calls Try.prog 26 #[.agg #[.int .i64 s, .slice A n c, .bool h]] w (GivesF w (vI (fvB s zs) s) (vL (fvB s zs) (ftL s zs)) (vH (fvB s zs) h)) := by
  obtain ⟨W, hW⟩ : ∃ W, ((w.alloc (.cells #[.int .i64 s, .slice A n c, .bool h] 27)).alloc (.cells #[.int .i64 0, .slice none 0 0, .bool false] 27)) = W := ⟨_, rfl⟩
  have hb : Below w.heap.size w W := by rw [← hW]; exact ((Below.refl _ _).alloc (Nat.le_refl _) _).alloc (by simp) _
  obtain ⟨g, hg⟩ : ∃ g, w.heap.size = g := ⟨_, rfl⟩
  have hsz : W.heap.size = g + 2 := by rw [← hW, ← hg]; simp
  have r0 : Row3 W g 27 (.int .i64 s) (.slice A n c) (.bool h) := by rw [← hW, ← hg]; exact (Row3.new w _ _ _ _).alloc _
  have r1 : Row3 W (g + 1) 27 (.int .i64 0) (.slice none 0 0) (.bool false) := by
    have := Row3.new (w.alloc (.cells #[.int .i64 s, .slice A n c, .bool h] 27)) 27 (.int .i64 0) (.slice none 0 0) (.bool false)
    rw [hW] at this; rw [← hg]; simpa using this
  have R0 := Lib.hid r0
  have R1 := Lib.hid r1
  obtain ⟨a0, a1, a2, a3, a4, a5⟩ := r0.at_
  have hgw : g + 1 < W.heap.size := by omega
  have hwg : w.heap.size ≤ g + 1 := by omega
  have hwg0 : w.heap.size ≤ g := by omega
  clear hsz r0 r1
  go_enter Try.func26, Try.ntmps26
  go_wp2_with fail
  refine (fieldValidS s A n zs c h W (hr.arg (Nat.le_refl _) hb) (by omega)).mono ?_
  rintro e w2 ⟨rfl, hb2⟩
  have hB2 := hb.trans (hb2.mono hb.size)
  replace R0 := Lib.hid (R0.out.below hb2 R0.out.lt)
  replace R1 := Lib.hid (R1.out.below hb2 R1.out.lt)
  have hs2 := hb2.size
  have HW := Lib.hid hW
  have HG := Lib.hid hg
  clear a0 a1 a2 a3 a4 a5 hb2 hW hg
  cases hv : fvB s zs
  · have hq1 : vI false s = 0 := rfl
    have hq2 : vL false (ftL s zs) = [] := rfl
    have hq3 : vH false h = false := rfl
    obtain ⟨b0, b1, b2, b3, b4, b5⟩ := R1.out.at_
    have HR := Lib.hid (((R1.out.set0 (.int .i64 0)).set1 (.slice none 0 0)).set2 (.bool false))
    go_wp2
    refine bodyPost_ret (results_field rfl _ _ (g + 1) rfl HR.out) rfl ?_
    refine ⟨none, 0, 0, by rw [hv]; rfl, by rw [hv]; exact ⟨rfl, Nat.le_refl _, by simp [maxLen], .inl ⟨rfl, rfl⟩⟩, ((hB2.setCell (p := ⟨g + 1, 0, none⟩) hwg _).setCell (p := ⟨g + 1, 1, none⟩) hwg _).setCell (p := ⟨g + 1, 2, none⟩) hwg _⟩
  · have hfv := fv_iff.1 hv
    obtain ⟨S, rfl⟩ : ∃ S : Nat, s = (S : Int) := ⟨s.toNat, by omega⟩
    have hSS : S = 2 ∨ S = 4 ∨ S = 6 ∨ S = 8 := by omega
    have hS2 : 2 ≤ S := by omega
    have hS8 : S ≤ 8 := by omega
    have hnS : zs.length = S * S := by have := hfv.2.2.2.1; exact_mod_cast this
    have hnn : n = S * S := by rw [← hr.len]; exact hnS
    have hn64 : n ≤ 64 := by rw [hnn]; rcases hSS with rfl | rfl | rfl | rfl <;> decide
    have hn4 : 4 ≤ n := by rw [hnn]; rcases hSS with rfl | rfl | rfl | rfl <;> decide
    have HN := Lib.hid hnn
    have HNZ := Lib.hid hnS
    have HSS := Lib.hid hSS
    have hS0 : ¬ S = 0 := by omega
    have hS0' : ¬ (S : Int) = 0 := by omega
    clear hfv hnn hnS hSS
    obtain ⟨a0, a1, a2, a3, a4, a5⟩ := R0.out.at_
    obtain ⟨FC, hmk, hFC⟩ := mkB n hl
    have HF := Lib.hid hFC
    clear hFC
    go_wp2
    go_region_held3 (fun w' => w'.cell? ⟨g, 0, none⟩ = some (.int .i64 (S : Int)) ∧ w'.cell? ⟨g, 1, none⟩ = some (.slice A n c) ∧ w'.cell? ⟨g, 2, none⟩ = some (.bool h)) (go_keep) (fail)
    · obtain ⟨W3, hW3⟩ : ∃ W3, ((w2.alloc (.cells FC 4)).alloc (.cells #[.int .i64 (S : Int), .slice (some ⟨w2.heap.size, 0, none⟩) n n, .bool h] 27)).drew = W3 := ⟨_, rfl⟩
      obtain ⟨gO, hgO⟩ : ∃ gO, w2.heap.size + 1 = gO := ⟨_, rfl⟩
      obtain ⟨gB, hgB⟩ : ∃ gB, w2.heap.size = gB := ⟨_, rfl⟩
      have hB3 : Below w2.heap.size w2 W3 := by rw [← hW3]; exact (((Below.refl _ _).alloc (Nat.le_refl _) _).alloc (by simp) _).drew
      have hsz3 : W3.heap.size = w2.heap.size + 2 := by rw [← hW3]; show ((_ : World).alloc _).heap.size = _; simp
      have hO : OSb W3 w.heap.size (some ⟨gB, 0, none⟩) n n (List.replicate n false) := by
        rw [← hW3, ← hgB]
        exact (HF.out w2 w.heap.size hB2.size).alloc _
      have hRO : Row3 W3 gO 27 (.int .i64 (S : Int)) (.slice (some ⟨gB, 0, none⟩) n n) (.bool h) := by
        have := Row3.new (w2.alloc (.cells FC 4)) 27 (.int .i64 (S : Int)) (.slice (some ⟨w2.heap.size, 0, none⟩) n n) (.bool h)
        rw [← hW3, ← hgO, ← hgB]
        simpa using this.drew
      rw [hW3, hgO, hgB]

      have hOB : gO ≠ gB := by omega
      have hgB2 : w2.heap.size ≤ gB := by omega
      have hgO2 : w2.heap.size ≤ gO := by omega
      have hBw : w2.heap.size ≤ W3.heap.size := hB3.size
      have HR0 := Lib.hid (R0.out.below hB3 R0.out.lt)
      have HR1 := Lib.hid (R1.out.below hB3 R1.out.lt)
      have HRO := Lib.hid hRO
      have hl1 := R1.out.lt
      have hB4 := hB2.trans (hB3.mono hB2.size)
      rw [show List.replicate n false = pmT (turnP S) zs 0 by simp only [pmT]; rw [hr.len]] at hO
      have HO := Lib.hid hO
      have HONE := Lib.hid (by rw [HNZ.out]; exact turn_one S HSS.out : OneOne (turnP S) zs.length)
      clear hW3 hgO hgB hsz3 hRO hO hB3 a0 a1 a2 a3 a4 a5 hmk
      go_wp2
      go_loopw [4] (fun i wr => ∃ k : Nat, k ≤ n ∧ i = .int .i64 k ∧ Hid (OSb wr w.heap.size (some ⟨gB, 0, none⟩) n n (pmT (turnP S) zs k)) ∧ Hid (Row3 wr gO 27 (.int .i64 (S : Int)) (.slice (some ⟨gB, 0, none⟩) n n) (.bool h)) ∧ Hid (Row3 wr g 27 (.int .i64 (S : Int)) (.slice A n c) (.bool h)) ∧ Hid (Row3 wr (g + 1) 27 (.int .i64 0) (.slice none 0 0) (.bool false)) ∧ w2.heap.size ≤ wr.heap.size ∧ Below w.heap.size w wr)
        (fun i _ => n - (intOf i).toNat)
      case atStart => exact ⟨0, Nat.zero_le _, rfl, HO.out, HRO.out, HR0.out, HR1.out, hBw, hB4⟩
      case round =>
        obtain ⟨k, hk, rfl, HO, HRO, HR0, HR1, hBw, hB4⟩ := hrel
        by_cases hlt : k < n
        · obtain ⟨ad, x, rfl, hbx, hx, hcx0⟩ := hr.at_ (k := k) hlt
          have hcx : wr.cell? (ad.add k) = some (.bool x) := (hB4.cell (p := ad.add k) (by rw [blk_add]; exact hbx)).trans hcx0
          have hadB : (ad.add k).block ≠ gB := by rw [blk_add]; have := hB2.size; omega
          have hkS : k < S * S := by rw [← HN.out]; exact hlt
          have ha8 : k % S < S := Nat.mod_lt _ (by omega)
          have hb8 : k / S < S := Nat.div_lt_of_lt_mul hkS
          have hp : turnP S k < n := by have := HONE.out.1 k (by rw [HNZ.out]; exact hkS); rw [HNZ.out, ← HN.out] at this; exact this
          obtain ⟨a, hae⟩ : ∃ a, k % S = a := ⟨_, rfl⟩
          obtain ⟨b, hbe⟩ : ∃ b, k / S = b := ⟨_, rfl⟩
          obtain ⟨p, hpe⟩ : ∃ p, turnP S k = p := ⟨_, rfl⟩
          rw [hae] at ha8
          rw [hbe] at hb8
          rw [hpe] at hp
          have ht1 : (k : Int).tmod (S : Int) = (a : Int) := by rw [Int.tmod_eq_emod_of_nonneg (by omega), ← hae]; push_cast; rfl
          have ht2 : (k : Int).tdiv (S : Int) = (b : Int) := by rw [Int.tdiv_eq_ediv_of_nonneg (by omega), ← hbe]; push_cast; rfl
          have ht1' : (k : Int) % (S : Int) = (a : Int) := by rw [← hae]; push_cast; rfl
          have ht2' : (k : Int) / (S : Int) = (b : Int) := by rw [← hbe]; push_cast; rfl
          have hpi0 : (0 : Int) ≤ (p : Int) := by omega
          have hpi1 : (p : Int) < (n : Int) := by omega
          have hki0 : (0 : Int) ≤ (k : Int) := by omega
          have hki1 : (k : Int) < (n : Int) := by omega
          have HPE := Lib.hid hpe
          have HAE := Lib.hid hae
          have HBE := Lib.hid hbe
          clear hae hbe hpe hkS
          have hcp : wr.cell? ⟨gB, p, none⟩ = some (.bool ((pmT (turnP S) zs k).getD p false)) := by
            rw [HO.out.toI.cellAt hp]
            have : p < (pmT (turnP S) zs k).length := by rw [pm_len, hr.len]; exact hp
            simp [List.getD, this]
          have hfp : wr.frozen? ⟨gB, p, none⟩ = false := HO.out.toI.frozenAt p
          have hms : a * S ≤ 64 := Nat.le_trans (Nat.mul_le_mul (show a ≤ 8 by omega) hS8) (by decide)
          obtain ⟨M, hM⟩ : ∃ M, a * S = M := ⟨_, rfl⟩
          rw [hM] at hms
          have hMI : (a : Int) * (S : Int) = (M : Int) := by rw [← hM]; push_cast; rfl
          have hpM : (M : Int) + (S : Int) - 1 - (b : Int) = (p : Int) := by have := HPE.out; unfold turnP at this; rw [HAE.out, HBE.out, hM] at this; omega
          have hw1 : IntKind.i64.wrap ((a : Int) * (S : Int)) = (M : Int) := by rw [hMI, IntKind.wrap_i64]; omega
          have hw2 : IntKind.i64.wrap ((M : Int) + (S : Int)) = (M : Int) + (S : Int) := by rw [IntKind.wrap_i64]; omega
          have hw3 : IntKind.i64.wrap ((M : Int) + (S : Int) - 1) = (M : Int) + (S : Int) - 1 := by rw [IntKind.wrap_i64]; omega
          have hw4 : IntKind.i64.wrap ((M : Int) + (S : Int) - 1 - (b : Int)) = (p : Int) := by rw [hpM, IntKind.wrap_i64]; omega
          obtain ⟨c0, c1, c2, c3, c4, c5⟩ := HRO.out.at_
          obtain ⟨e0, e1, e2, e3, e4, e5⟩ := HR0.out.at_
          have m1 : ¬ gO = gB := hOB
          have m2 : ¬ g = gB := by omega
          have m3 : ¬ g + 1 = gB := by omega
          have hst := HO.out.stored (k := p) x
          have HOS := Lib.hid (show OSb (wr.setCell ⟨gB, p, none⟩ (.bool x)).drew w.heap.size (some ⟨gB, 0, none⟩) n n (pmT (turnP S) zs (k + 1)) by rw [pm_yes hx, HPE.out]; exact hst.1)
          have HROs := Lib.hid ((HRO.out.other (p := ⟨gB, p, none⟩) hOB (.bool x)).drew)
          have HR0s := Lib.hid ((HR0.out.other (p := ⟨gB, p, none⟩) m2 (.bool x)).drew)
          have HR1s := Lib.hid ((HR1.out.other (p := ⟨gB, p, none⟩) m3 (.bool x)).drew)
          have hBs : Below w.heap.size w (wr.setCell ⟨gB, p, none⟩ (.bool x)).drew := (hB4.setCell (p := ⟨gB, p, none⟩) (show w.heap.size ≤ gB by have := hB2.size; omega) (.bool x)).drew
          have hBws : w2.heap.size ≤ (wr.setCell ⟨gB, p, none⟩ (.bool x)).drew.heap.size := by show _ ≤ (wr.setCell _ _).heap.size; simpa using hBw
          have HK := Lib.hid (show (wr.setCell ⟨gB, p, none⟩ (.bool x)).drew.cell? ⟨gO, 1, none⟩ = some (.slice (some ⟨gB, 0, none⟩) n n) ∧ (wr.setCell ⟨gB, p, none⟩ (.bool x)).drew.cell? ⟨g, 0, none⟩ = some (.int .i64 (S : Int)) ∧ (wr.setCell ⟨gB, p, none⟩ (.bool x)).drew.cell? ⟨g, 1, none⟩ = some (.slice (some ad) n c) ∧ (wr.setCell ⟨gB, p, none⟩ (.bool x)).drew.cell? (ad.add k) = some (.bool x) from ⟨keep1 c1 m1, keep1 e0 m2, keep1 e1 m2, keep1 hcx hadB⟩)
          have hwb : IntKind.i64.wrap (b : Int) = (b : Int) := by rw [IntKind.wrap_i64]; omega
          have hw5 : IntKind.i64.wrap (p : Int) = (p : Int) := by rw [IntKind.wrap_i64]; omega
          clear hst hx hM hMI
          go_wp2
          go_region_held3 (fun w' => w'.cell? ⟨gO, 1, none⟩ = some (.slice (some ⟨gB, 0, none⟩) n n) ∧ w'.cell? ⟨g, 0, none⟩ = some (.int .i64 (S : Int)) ∧ w'.cell? ⟨g, 1, none⟩ = some (.slice (some ad) n c) ∧ w'.cell? (ad.add k) = some (.bool x)) (first | exact HK.out | go_keep) (fail)
          all_goals go_wp2
          all_goals
            go_roundw
            case rel => exact ⟨k + 1, by omega, by go_num, HOS.out, HROs.out, HR0s.out, HR1s.out, hBws, by first | exact hBs | exact hBs.drew.drew⟩
            case measure => simp [intOf]; omega
        · obtain rfl : k = n := by omega
          obtain ⟨c0, c1, c2, c3, c4, c5⟩ := HRO.out.at_
          obtain ⟨d0, d1, d2, d3, d4, d5⟩ := HR1.out.at_
          obtain ⟨e0, e1, e2, e3, e4, e5⟩ := HR0.out.at_
          have HR := Lib.hid (((HR1.out.set0 (.int .i64 (S : Int))).set1 (.slice (some ⟨gB, 0, none⟩) k k)).set2 (.bool h))
          have hne : gB ≠ g + 1 := by omega
          have HOF := Lib.hid (((HO.out.toI.kept (grown_set _ ⟨g + 1, 0, none⟩ (.int .i64 (S : Int))) (.inr (by simp [Value.ownBlock]; omega))).kept (grown_set _ ⟨g + 1, 1, none⟩ (.slice (some ⟨gB, 0, none⟩) k k)) (.inr (by simp [Value.ownBlock]; omega))).kept (grown_set _ ⟨g + 1, 2, none⟩ (.bool h)) (.inr (by simp [Value.ownBlock]; omega)))
          go_wp2
          refine bodyPost_ret (results_field rfl _ _ (g + 1) rfl HR.out) rfl ?_
          have e : pmT (turnP S) zs k = ftL (S : Int) zs := by unfold ftL pmL; rw [hr.len]; simp
          have HOF2 := HOF.out
          rw [e] at HOF2
          refine ⟨_, _, _, by rw [hv]; rfl, by rw [hv]; exact HOF2, ((hB4.setCell (p := ⟨g + 1, 0, none⟩) hwg _).setCell (p := ⟨g + 1, 1, none⟩) hwg _).setCell (p := ⟨g + 1, 2, none⟩) hwg _⟩
    · obtain ⟨W3, hW3⟩ : ∃ W3, ((w2.alloc (.cells #[.int .i64 (S : Int), .slice (some ⟨w2.heap.size + 1, 0, none⟩) n n, .bool h] 27)).alloc (.cells FC 4)).drew = W3 := ⟨_, rfl⟩
      obtain ⟨gO, hgO⟩ : ∃ gO, w2.heap.size = gO := ⟨_, rfl⟩
      obtain ⟨gB, hgB⟩ : ∃ gB, w2.heap.size + 1 = gB := ⟨_, rfl⟩
      have hB3 : Below w2.heap.size w2 W3 := by rw [← hW3]; exact (((Below.refl _ _).alloc (Nat.le_refl _) _).alloc (by simp) _).drew
      have hsz3 : W3.heap.size = w2.heap.size + 2 := by rw [← hW3]; show ((_ : World).alloc _).heap.size = _; simp
      have hO : OSb W3 w.heap.size (some ⟨gB, 0, none⟩) n n (List.replicate n false) := by
        have := HF.out (w2.alloc (.cells #[.int .i64 (S : Int), .slice (some ⟨w2.heap.size + 1, 0, none⟩) n n, .bool h] 27)) w.heap.size (by simp; have := hB2.size; omega)
        rw [show (w2.alloc (.cells #[.int .i64 (S : Int), .slice (some ⟨w2.heap.size + 1, 0, none⟩) n n, .bool h] 27)).heap.size = w2.heap.size + 1 by simp] at this
        rw [← hW3, ← hgB]
        exact this
      have hRO : Row3 W3 gO 27 (.int .i64 (S : Int)) (.slice (some ⟨gB, 0, none⟩) n n) (.bool h) := by
        rw [← hW3, ← hgO, ← hgB]
        exact ((Row3.new w2 _ _ _ _).alloc _).drew
      rw [hW3, hgB, hgO]

      have hOB : gO ≠ gB := by omega
      have hgB2 : w2.heap.size ≤ gB := by omega
      have hgO2 : w2.heap.size ≤ gO := by omega
      have hBw : w2.heap.size ≤ W3.heap.size := hB3.size
      have HR0 := Lib.hid (R0.out.below hB3 R0.out.lt)
      have HR1 := Lib.hid (R1.out.below hB3 R1.out.lt)
      have HRO := Lib.hid hRO
      have hl1 := R1.out.lt
      have hB4 := hB2.trans (hB3.mono hB2.size)
      rw [show List.replicate n false = pmT (turnP S) zs 0 by simp only [pmT]; rw [hr.len]] at hO
      have HO := Lib.hid hO
      have HONE := Lib.hid (by rw [HNZ.out]; exact turn_one S HSS.out : OneOne (turnP S) zs.length)
      clear hW3 hgO hgB hsz3 hRO hO hB3 a0 a1 a2 a3 a4 a5 hmk
      go_wp2
      go_loopw [4] (fun i wr => ∃ k : Nat, k ≤ n ∧ i = .int .i64 k ∧ Hid (OSb wr w.heap.size (some ⟨gB, 0, none⟩) n n (pmT (turnP S) zs k)) ∧ Hid (Row3 wr gO 27 (.int .i64 (S : Int)) (.slice (some ⟨gB, 0, none⟩) n n) (.bool h)) ∧ Hid (Row3 wr g 27 (.int .i64 (S : Int)) (.slice A n c) (.bool h)) ∧ Hid (Row3 wr (g + 1) 27 (.int .i64 0) (.slice none 0 0) (.bool false)) ∧ w2.heap.size ≤ wr.heap.size ∧ Below w.heap.size w wr)
        (fun i _ => n - (intOf i).toNat)
      case atStart => exact ⟨0, Nat.zero_le _, rfl, HO.out, HRO.out, HR0.out, HR1.out, hBw, hB4⟩
      case round =>
        obtain ⟨k, hk, rfl, HO, HRO, HR0, HR1, hBw, hB4⟩ := hrel
        by_cases hlt : k < n
        · obtain ⟨ad, x, rfl, hbx, hx, hcx0⟩ := hr.at_ (k := k) hlt
          have hcx : wr.cell? (ad.add k) = some (.bool x) := (hB4.cell (p := ad.add k) (by rw [blk_add]; exact hbx)).trans hcx0
          have hadB : (ad.add k).block ≠ gB := by rw [blk_add]; have := hB2.size; omega
          have hkS : k < S * S := by rw [← HN.out]; exact hlt
          have ha8 : k % S < S := Nat.mod_lt _ (by omega)
          have hb8 : k / S < S := Nat.div_lt_of_lt_mul hkS
          have hp : turnP S k < n := by have := HONE.out.1 k (by rw [HNZ.out]; exact hkS); rw [HNZ.out, ← HN.out] at this; exact this
          obtain ⟨a, hae⟩ : ∃ a, k % S = a := ⟨_, rfl⟩
          obtain ⟨b, hbe⟩ : ∃ b, k / S = b := ⟨_, rfl⟩
          obtain ⟨p, hpe⟩ : ∃ p, turnP S k = p := ⟨_, rfl⟩
          rw [hae] at ha8
          rw [hbe] at hb8
          rw [hpe] at hp
          have ht1 : (k : Int).tmod (S : Int) = (a : Int) := by rw [Int.tmod_eq_emod_of_nonneg (by omega), ← hae]; push_cast; rfl
          have ht2 : (k : Int).tdiv (S : Int) = (b : Int) := by rw [Int.tdiv_eq_ediv_of_nonneg (by omega), ← hbe]; push_cast; rfl
          have ht1' : (k : Int) % (S : Int) = (a : Int) := by rw [← hae]; push_cast; rfl
          have ht2' : (k : Int) / (S : Int) = (b : Int) := by rw [← hbe]; push_cast; rfl
          have hpi0 : (0 : Int) ≤ (p : Int) := by omega
          have hpi1 : (p : Int) < (n : Int) := by omega
          have hki0 : (0 : Int) ≤ (k : Int) := by omega
          have hki1 : (k : Int) < (n : Int) := by omega
          have HPE := Lib.hid hpe
          have HAE := Lib.hid hae
          have HBE := Lib.hid hbe
          clear hae hbe hpe hkS
          have hcp : wr.cell? ⟨gB, p, none⟩ = some (.bool ((pmT (turnP S) zs k).getD p false)) := by
            rw [HO.out.toI.cellAt hp]
            have : p < (pmT (turnP S) zs k).length := by rw [pm_len, hr.len]; exact hp
            simp [List.getD, this]
          have hfp : wr.frozen? ⟨gB, p, none⟩ = false := HO.out.toI.frozenAt p
          have hms : a * S ≤ 64 := Nat.le_trans (Nat.mul_le_mul (show a ≤ 8 by omega) hS8) (by decide)
          obtain ⟨M, hM⟩ : ∃ M, a * S = M := ⟨_, rfl⟩
          rw [hM] at hms
          have hMI : (a : Int) * (S : Int) = (M : Int) := by rw [← hM]; push_cast; rfl
          have hpM : (M : Int) + (S : Int) - 1 - (b : Int) = (p : Int) := by have := HPE.out; unfold turnP at this; rw [HAE.out, HBE.out, hM] at this; omega
          have hw1 : IntKind.i64.wrap ((a : Int) * (S : Int)) = (M : Int) := by rw [hMI, IntKind.wrap_i64]; omega
          have hw2 : IntKind.i64.wrap ((M : Int) + (S : Int)) = (M : Int) + (S : Int) := by rw [IntKind.wrap_i64]; omega
          have hw3 : IntKind.i64.wrap ((M : Int) + (S : Int) - 1) = (M : Int) + (S : Int) - 1 := by rw [IntKind.wrap_i64]; omega
          have hw4 : IntKind.i64.wrap ((M : Int) + (S : Int) - 1 - (b : Int)) = (p : Int) := by rw [hpM, IntKind.wrap_i64]; omega
          obtain ⟨c0, c1, c2, c3, c4, c5⟩ := HRO.out.at_
          obtain ⟨e0, e1, e2, e3, e4, e5⟩ := HR0.out.at_
          have m1 : ¬ gO = gB := hOB
          have m2 : ¬ g = gB := by omega
          have m3 : ¬ g + 1 = gB := by omega
          have hst := HO.out.stored (k := p) x
          have HOS := Lib.hid (show OSb (wr.setCell ⟨gB, p, none⟩ (.bool x)).drew w.heap.size (some ⟨gB, 0, none⟩) n n (pmT (turnP S) zs (k + 1)) by rw [pm_yes hx, HPE.out]; exact hst.1)
          have HROs := Lib.hid ((HRO.out.other (p := ⟨gB, p, none⟩) hOB (.bool x)).drew)
          have HR0s := Lib.hid ((HR0.out.other (p := ⟨gB, p, none⟩) m2 (.bool x)).drew)
          have HR1s := Lib.hid ((HR1.out.other (p := ⟨gB, p, none⟩) m3 (.bool x)).drew)
          have hBs : Below w.heap.size w (wr.setCell ⟨gB, p, none⟩ (.bool x)).drew := (hB4.setCell (p := ⟨gB, p, none⟩) (show w.heap.size ≤ gB by have := hB2.size; omega) (.bool x)).drew
          have hBws : w2.heap.size ≤ (wr.setCell ⟨gB, p, none⟩ (.bool x)).drew.heap.size := by show _ ≤ (wr.setCell _ _).heap.size; simpa using hBw
          have HK := Lib.hid (show (wr.setCell ⟨gB, p, none⟩ (.bool x)).drew.cell? ⟨gO, 1, none⟩ = some (.slice (some ⟨gB, 0, none⟩) n n) ∧ (wr.setCell ⟨gB, p, none⟩ (.bool x)).drew.cell? ⟨g, 0, none⟩ = some (.int .i64 (S : Int)) ∧ (wr.setCell ⟨gB, p, none⟩ (.bool x)).drew.cell? ⟨g, 1, none⟩ = some (.slice (some ad) n c) ∧ (wr.setCell ⟨gB, p, none⟩ (.bool x)).drew.cell? (ad.add k) = some (.bool x) from ⟨keep1 c1 m1, keep1 e0 m2, keep1 e1 m2, keep1 hcx hadB⟩)
          have hwb : IntKind.i64.wrap (b : Int) = (b : Int) := by rw [IntKind.wrap_i64]; omega
          have hw5 : IntKind.i64.wrap (p : Int) = (p : Int) := by rw [IntKind.wrap_i64]; omega
          clear hst hx hM hMI
          go_wp2
          go_region_held3 (fun w' => w'.cell? ⟨gO, 1, none⟩ = some (.slice (some ⟨gB, 0, none⟩) n n) ∧ w'.cell? ⟨g, 0, none⟩ = some (.int .i64 (S : Int)) ∧ w'.cell? ⟨g, 1, none⟩ = some (.slice (some ad) n c) ∧ w'.cell? (ad.add k) = some (.bool x)) (first | exact HK.out | go_keep) (fail)
          all_goals go_wp2
          all_goals
            go_roundw
            case rel => exact ⟨k + 1, by omega, by go_num, HOS.out, HROs.out, HR0s.out, HR1s.out, hBws, by first | exact hBs | exact hBs.drew.drew⟩
            case measure => simp [intOf]; omega
        · obtain rfl : k = n := by omega
          obtain ⟨c0, c1, c2, c3, c4, c5⟩ := HRO.out.at_
          obtain ⟨d0, d1, d2, d3, d4, d5⟩ := HR1.out.at_
          obtain ⟨e0, e1, e2, e3, e4, e5⟩ := HR0.out.at_
          have HR := Lib.hid (((HR1.out.set0 (.int .i64 (S : Int))).set1 (.slice (some ⟨gB, 0, none⟩) k k)).set2 (.bool h))
          have hne : gB ≠ g + 1 := by omega
          have HOF := Lib.hid (((HO.out.toI.kept (grown_set _ ⟨g + 1, 0, none⟩ (.int .i64 (S : Int))) (.inr (by simp [Value.ownBlock]; omega))).kept (grown_set _ ⟨g + 1, 1, none⟩ (.slice (some ⟨gB, 0, none⟩) k k)) (.inr (by simp [Value.ownBlock]; omega))).kept (grown_set _ ⟨g + 1, 2, none⟩ (.bool h)) (.inr (by simp [Value.ownBlock]; omega)))
          go_wp2
          refine bodyPost_ret (results_field rfl _ _ (g + 1) rfl HR.out) rfl ?_
          have e : pmT (turnP S) zs k = ftL (S : Int) zs := by unfold ftL pmL; rw [hr.len]; simp
          have HOF2 := HOF.out
          rw [e] at HOF2
          refine ⟨_, _, _, by rw [hv]; rfl, by rw [hv]; exact HOF2, ((hB4.setCell (p := ⟨g + 1, 0, none⟩) hwg _).setCell (p := ⟨g + 1, 1, none⟩) hwg _).setCell (p := ⟨g + 1, 2, none⟩) hwg _⟩
end Go.Proofs.Ytmianlihdiccjaa

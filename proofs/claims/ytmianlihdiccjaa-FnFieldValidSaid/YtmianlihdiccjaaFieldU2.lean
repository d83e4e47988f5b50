/- Contract: cells that are elsewhere (printed by mk_fieldt.py). -/
import Derived.Test.YtmianlihdiccjaaFieldT
import Derived.Test.YtmianlihdiccjaaPlaceL
namespace Go.Proofs.Ytmianlihdiccjaa
open Go.RowKit
set_option linter.unusedVariables false

set_option maxHeartbeats 8000000 in
theorem movedM (s : Int) (A : Option Addr) (n : Nat) (zs : List Bool) (c : Nat) (h : Bool) (g1 gb g3 E O : Nat) (X Y : Value) (T : TypeId) (w : World) (hr : RL w w.heap.size A n zs) (hl : n ≤ 1048576) (hv : fvB s zs = true) (hRb : Row3 w gb T (.int .i64 s) X Y) (hE8 : E ≤ 8) (hO8 : O ≤ 8) (hE : w.cell? ⟨g1, 0, none⟩ = some (.int .i64 (E : Int))) (hN : w.cell? ⟨g3, 0, none⟩ = some (.int .i64 (O : Int))) (h1 : g1 < w.heap.size) (h3 : g3 < w.heap.size) :
    Calls Try.prog 53 #[.agg #[.int .i64 s, .slice A n c, .bool h], .func (.func 57) #[] #[.pointer (some ⟨g1, 0, none⟩), .pointer (some ⟨gb, 0, none⟩), .pointer (some ⟨g3, 0, none⟩)]] w (GivesF w s (fmL s (E : Int) (O : Int) zs) h) := by
  obtain ⟨w2, hW⟩ : ∃ w2, ((w.alloc (.cells #[.int .i64 s, .slice A n c, .bool h] 27)).alloc (.cells #[.int .i64 0, .slice none 0 0, .bool false] 27)) = w2 := ⟨_, rfl⟩
  have hb : Below w.heap.size w w2 := by rw [← hW]; exact ((Below.refl _ _).alloc (Nat.le_refl _) _).alloc (by simp) _
  obtain ⟨g, hg⟩ : ∃ g, w.heap.size = g := ⟨_, rfl⟩
  have hsz : w2.heap.size = g + 2 := by rw [← hW, ← hg]; simp
  have r0 : Row3 w2 g 27 (.int .i64 s) (.slice A n c) (.bool h) := by rw [← hW, ← hg]; exact (Row3.new w _ _ _ _).alloc _
  have r1 : Row3 w2 (g + 1) 27 (.int .i64 0) (.slice none 0 0) (.bool false) := by
    have := Row3.new (w.alloc (.cells #[.int .i64 s, .slice A n c, .bool h] 27)) 27 (.int .i64 0) (.slice none 0 0) (.bool false)
    rw [hW] at this; rw [← hg]; simpa using this
  have R0 := Lib.hid r0
  have R1 := Lib.hid r1
  obtain ⟨a0, a1, a2, a3, a4, a5⟩ := r0.at_
  have hgw : g + 1 < w2.heap.size := by omega
  have hwg : w.heap.size ≤ g + 1 := by omega
  have hwg0 : w.heap.size ≤ g := by omega
  clear hsz r0 r1
  have hB2 := hb
  have hfv := fv_iff.1 hv
  obtain ⟨S, rfl⟩ : ∃ S : Nat, s = (S : Int) := ⟨s.toNat, by omega⟩
  have hSS : S = 2 ∨ S = 4 ∨ S = 6 ∨ S = 8 := by omega
  have hS2 : 2 ≤ S := by omega
  have hS8 : S ≤ 8 := by omega
  have hnS : zs.length = S * S := by have := hfv.2.2.2.1; exact_mod_cast this
  have hnn : n = S * S := by rw [← hr.len]; exact hnS
  have hn64 : n ≤ 64 := by rw [hnn]; rcases hSS with rfl | rfl | rfl | rfl <;> decide
  have hn4 : 4 ≤ n := by rw [hnn]; rcases hSS with rfl | rfl | rfl | rfl <;> decide
  have HN := Lib.hid hnn
  have HNZ := Lib.hid hnS
  have HSS := Lib.hid hSS
  have hS0 : ¬ S = 0 := by omega
  have hS0' : ¬ (S : Int) = 0 := by omega
  clear hfv hnn hnS hSS
  have HRB := Lib.hid hRb
  have HE := Lib.hid hE
  have HNN := Lib.hid hN
  clear hRb hE hN
  obtain ⟨FC, hmk, hFC⟩ := mkB n hl
  have HF := Lib.hid hFC
  clear hFC
  go_enter Try.func53, Try.ntmps53
  go_wp2
  have HW := Lib.hid hW
  have HG := Lib.hid hg
  clear hW hg
  go_region_held3 (fun w' => w'.cell? ⟨g, 0, none⟩ = some (.int .i64 (S : Int)) ∧ w'.cell? ⟨g, 1, none⟩ = some (.slice A n c) ∧ w'.cell? ⟨g, 2, none⟩ = some (.bool h)) (go_keep) (fail)
  · obtain ⟨W3, hW3⟩ : ∃ W3, ((w2.alloc (.cells FC 4)).alloc (.cells #[.int .i64 (S : Int), .slice (some ⟨w2.heap.size, 0, none⟩) n n, .bool h] 27)).drew = W3 := ⟨_, rfl⟩
    obtain ⟨gO, hgO⟩ : ∃ gO, w2.heap.size + 1 = gO := ⟨_, rfl⟩
    obtain ⟨gB, hgB⟩ : ∃ gB, w2.heap.size = gB := ⟨_, rfl⟩
    have hB3 : Below w2.heap.size w2 W3 := by rw [← hW3]; exact (((Below.refl _ _).alloc (Nat.le_refl _) _).alloc (by simp) _).drew
    have hsz3 : W3.heap.size = w2.heap.size + 2 := by rw [← hW3]; show ((_ : World).alloc _).heap.size = _; simp
    have hO : OSb W3 w.heap.size (some ⟨gB, 0, none⟩) n n (List.replicate n false) := by
      rw [← hW3, ← hgB]
      exact (HF.out w2 w.heap.size hB2.size).alloc _
    have hRO : Row3 W3 gO 27 (.int .i64 (S : Int)) (.slice (some ⟨gB, 0, none⟩) n n) (.bool h) := by
      have := Row3.new (w2.alloc (.cells FC 4)) 27 (.int .i64 (S : Int)) (.slice (some ⟨w2.heap.size, 0, none⟩) n n) (.bool h)
      rw [← hW3, ← hgO, ← hgB]
      simpa using this.drew
    rw [hW3, hgO, hgB]

    have hOB : gO ≠ gB := by omega
    have hgB2 : w2.heap.size ≤ gB := by omega
    have hgO2 : w2.heap.size ≤ gO := by omega
    have hBw : w2.heap.size ≤ W3.heap.size := hB3.size
    have HR0 := Lib.hid (R0.out.below hB3 R0.out.lt)
    have HR1 := Lib.hid (R1.out.below hB3 R1.out.lt)
    have HRO := Lib.hid hRO
    have hl1 := R1.out.lt
    have hB4 := hB2.trans (hB3.mono hB2.size)
    rw [show List.replicate n false = pmT (moveP S E O) zs 0 by simp only [pmT]; rw [hr.len]] at hO
    have HO := Lib.hid hO
    have HONE := Lib.hid (by rw [HNZ.out]; exact move_one E O (by omega) : OneOne (moveP S E O) zs.length)
    clear hW3 hgO hgB hsz3 hRO hO hB3 a0 a1 a2 a3 a4 a5 hmk
    obtain ⟨y0, y1, y2, y3, y4, y5⟩ := HR0.out.at_
    go_wp2
    go_loopw [20] (fun i wr => ∃ k : Nat, k ≤ n ∧ i = .int .i64 k ∧ Hid (OSb wr w.heap.size (some ⟨gB, 0, none⟩) n n (pmT (moveP S E O) zs k)) ∧ Hid (Row3 wr gO 27 (.int .i64 (S : Int)) (.slice (some ⟨gB, 0, none⟩) n n) (.bool h)) ∧ Hid (Row3 wr g 27 (.int .i64 (S : Int)) (.slice A n c) (.bool h)) ∧ Hid (Row3 wr (g + 1) 27 (.int .i64 0) (.slice none 0 0) (.bool false)) ∧ w2.heap.size ≤ wr.heap.size ∧ Below w.heap.size w wr)
      (fun i _ => n - (intOf i).toNat)
    case atStart => exact ⟨0, Nat.zero_le _, rfl, HO.out, HRO.out, HR0.out, HR1.out, hBw, hB4⟩
    case round =>
      clear y0 y1 y2 y3 y4 y5
      obtain ⟨k, hk, rfl, HO, HRO, HR0, HR1, hBw, hB4⟩ := hrel
      by_cases hlt : k < n
      · obtain ⟨ad, x, rfl, hbx, hx, hcx0⟩ := hr.at_ (k := k) hlt
        have hcx : wr.cell? (ad.add k) = some (.bool x) := (hB4.cell (p := ad.add k) (by rw [blk_add]; exact hbx)).trans hcx0
        have hadB : (ad.add k).block ≠ gB := by rw [blk_add]; have := hB2.size; omega
        cases x
        · have HX := Lib.hid (pm_no HONE.out hx)
          clear hx
          go_wp2
          go_roundw
          case rel => exact ⟨k + 1, by omega, by go_num, by rw [HX.out]; exact HO.out, HRO.out, HR0.out, HR1.out, hBw, hB4⟩
          case measure => simp [intOf]; omega
        · skip
          have hkS : k < S * S := by rw [← HN.out]; exact hlt
          have ha8 : k % S < S := Nat.mod_lt _ (by omega)
          have hb8 : k / S < S := Nat.div_lt_of_lt_mul hkS
          have hp : moveP S E O k < n := by have := HONE.out.1 k (by rw [HNZ.out]; exact hkS); rw [HNZ.out, ← HN.out] at this; exact this
          obtain ⟨a, hae⟩ : ∃ a, k % S = a := ⟨_, rfl⟩
          obtain ⟨b, hbe⟩ : ∃ b, k / S = b := ⟨_, rfl⟩
          obtain ⟨p, hpe⟩ : ∃ p, moveP S E O k = p := ⟨_, rfl⟩
          rw [hae] at ha8
          rw [hbe] at hb8
          rw [hpe] at hp
          have ht1 : (k : Int).tmod (S : Int) = (a : Int) := by rw [Int.tmod_eq_emod_of_nonneg (by omega), ← hae]; push_cast; rfl
          have ht2 : (k : Int).tdiv (S : Int) = (b : Int) := by rw [Int.tdiv_eq_ediv_of_nonneg (by omega), ← hbe]; push_cast; rfl
          have ht1' : (k : Int) % (S : Int) = (a : Int) := by rw [← hae]; push_cast; rfl
          have ht2' : (k : Int) / (S : Int) = (b : Int) := by rw [← hbe]; push_cast; rfl
          have hpi0 : (0 : Int) ≤ (p : Int) := by omega
          have hpi1 : (p : Int) < (n : Int) := by omega
          have hki0 : (0 : Int) ≤ (k : Int) := by omega
          have hki1 : (k : Int) < (n : Int) := by omega
          have HPE := Lib.hid hpe
          have HAE := Lib.hid hae
          have HBE := Lib.hid hbe
          clear hae hbe hpe hkS
          have HX := Lib.hid hx
          have HIN := Lib.hid ((in_move HAE.out HBE.out).trans HPE.out)
          obtain ⟨c0, c1, c2, c3, c4, c5⟩ := HRO.out.at_
          obtain ⟨e0, e1, e2, e3, e4, e5⟩ := HR0.out.at_
          have m1 : ¬ gO = gB := hOB
          have m2 : ¬ g = gB := by omega
          have m3 : ¬ g + 1 = gB := by omega
          have hBd := hB4.drew
          have hwb : IntKind.i64.wrap (b : Int) = (b : Int) := by rw [IntKind.wrap_i64]; omega
          clear hx
          go_wp2
          go_region_held3 (fun w' => w'.cell? ⟨gO, 1, none⟩ = some (.slice (some ⟨gB, 0, none⟩) n n) ∧ w'.cell? ⟨g, 0, none⟩ = some (.int .i64 (S : Int))) (first | exact HK2.out | exact HK1.out | exact HK0.out | go_keep)
            (first
              | (go_at_call 57; (with_reducible refine (move1 a b S E O g1 gb g3 X Y T _ (by omega) (by omega) hS2 hS8 hE8 hO8 (HRB.out.below hBd HRB.out.lt) ((hBd.cell (p := ⟨g1, 0, none⟩) h1).trans HE.out) ((hBd.cell (p := ⟨g3, 0, none⟩) h3).trans HNN.out) (Nat.lt_of_lt_of_le h1 hBd.size) (Nat.lt_of_lt_of_le h3 hBd.size)).mono ?_); rintro e w4 ⟨rfl, hb4⟩; (have hB5 : Below wr.heap.size wr w4 := (below_drew wr).trans hb4); (have HO6 := Lib.hid (HO.out.below hB5 (Nat.le_refl _))); (have HRO6 := Lib.hid (HRO.out.below hB5 HRO.out.lt)); (have HR06 := Lib.hid (HR0.out.below hB5 HR0.out.lt)); (have HR16 := Lib.hid (HR1.out.below hB5 HR1.out.lt)); (have hB6 := hB4.trans (hB5.mono hB4.size)); (have hBw6 := Nat.le_trans hBw hB5.size); (have HK0 := Lib.hid (And.intro HRO6.out.at_.2.1 HR06.out.at_.1)); (clear hB5 hb4))
              | (go_at_call 71; (have hPI := fun w => placeIn ((a + E) % S) ((b + O) % S) S w (by have := Nat.mod_lt (a + E) (show 0 < S by omega); omega) (by have := Nat.mod_lt (b + O) (show 0 < S by omega); omega) hS2 hS8); (simp only [Int.natCast_emod, Int.natCast_add] at hPI); (with_reducible refine (hPI _).mono ?_); (clear hPI); rintro e w5 ⟨rfl, hb5⟩; rw [HIN.out]; (have HO7 := Lib.hid (HO6.out.below hb5 (Nat.le_refl _))); (have HRO7 := Lib.hid (HRO6.out.below hb5 HRO6.out.lt)); (have HR07 := Lib.hid (HR06.out.below hb5 HR06.out.lt)); (have HR17 := Lib.hid (HR16.out.below hb5 HR16.out.lt)); (have hB7 := hB6.trans (hb5.mono hB6.size)); (have hBw7 := Nat.le_trans hBw6 hb5.size); (have HK1 := Lib.hid (And.intro HRO7.out.at_.2.1 HR07.out.at_.1)); (have hcp : w5.cell? ⟨gB, p, none⟩ = some (.bool ((pmT (moveP S E O) zs k).getD p false)) := (by rw [HO7.out.toI.cellAt hp]; have : p < (pmT (moveP S E O) zs k).length := (by rw [pm_len, hr.len]; exact hp); simp [List.getD, this])); (have hfp : w5.frozen? ⟨gB, p, none⟩ = false := HO7.out.toI.frozenAt p); (have HROs := Lib.hid (HRO7.out.other (p := ⟨gB, p, none⟩) hOB (.bool true))); (have HR0s := Lib.hid (HR07.out.other (p := ⟨gB, p, none⟩) m2 (.bool true))); (have HR1s := Lib.hid (HR17.out.other (p := ⟨gB, p, none⟩) m3 (.bool true))); (have HK2 := Lib.hid (And.intro HROs.out.at_.2.1 HR0s.out.at_.1)); (clear hb5)))
          all_goals go_wp2
          all_goals
            have hst := HO7.out.stored (k := p) true
            have HOS := Lib.hid (show OSb (w5.setCell ⟨gB, p, none⟩ (.bool true)) w.heap.size (some ⟨gB, 0, none⟩) n n (pmT (moveP S E O) zs (k + 1)) by rw [pm_yes HX.out, HPE.out]; exact hst.1)
            have hBs : Below w.heap.size w (w5.setCell ⟨gB, p, none⟩ (.bool true)) := hB7.setCell (p := ⟨gB, p, none⟩) (show w.heap.size ≤ gB by have := hB2.size; omega) (.bool true)
            have hBws : w2.heap.size ≤ (w5.setCell ⟨gB, p, none⟩ (.bool true)).heap.size := by simpa using hBw7
            clear hst
            go_roundw
            case rel => exact ⟨k + 1, by omega, by go_num, HOS.out, HROs.out, HR0s.out, HR1s.out, hBws, hBs⟩
            case measure => simp [intOf]; omega
      · obtain rfl : k = n := by omega
        obtain ⟨c0, c1, c2, c3, c4, c5⟩ := HRO.out.at_
        obtain ⟨d0, d1, d2, d3, d4, d5⟩ := HR1.out.at_
        obtain ⟨e0, e1, e2, e3, e4, e5⟩ := HR0.out.at_
        have HR := Lib.hid (((HR1.out.set0 (.int .i64 (S : Int))).set1 (.slice (some ⟨gB, 0, none⟩) k k)).set2 (.bool h))
        have hne : gB ≠ g + 1 := by omega
        have HOF := Lib.hid (((HO.out.toI.kept (grown_set _ ⟨g + 1, 0, none⟩ (.int .i64 (S : Int))) (.inr (by simp [Value.ownBlock]; omega))).kept (grown_set _ ⟨g + 1, 1, none⟩ (.slice (some ⟨gB, 0, none⟩) k k)) (.inr (by simp [Value.ownBlock]; omega))).kept (grown_set _ ⟨g + 1, 2, none⟩ (.bool h)) (.inr (by simp [Value.ownBlock]; omega)))
        go_wp2
        refine bodyPost_ret (results_field rfl _ _ (g + 1) rfl HR.out) rfl ?_
        have e : pmT (moveP S E O) zs k = fmL (S : Int) (E : Int) (O : Int) zs := by unfold fmL pmL; rw [hr.len]; simp
        have HOF2 := HOF.out
        rw [e] at HOF2
        refine ⟨_, _, _, rfl, HOF2, ((hB4.setCell (p := ⟨g + 1, 0, none⟩) hwg _).setCell (p := ⟨g + 1, 1, none⟩) hwg _).setCell (p := ⟨g + 1, 2, none⟩) hwg _⟩
  · obtain ⟨W3, hW3⟩ : ∃ W3, ((w2.alloc (.cells #[.int .i64 (S : Int), .slice (some ⟨w2.heap.size + 1, 0, none⟩) n n, .bool h] 27)).alloc (.cells FC 4)).drew = W3 := ⟨_, rfl⟩
    obtain ⟨gO, hgO⟩ : ∃ gO, w2.heap.size = gO := ⟨_, rfl⟩
    obtain ⟨gB, hgB⟩ : ∃ gB, w2.heap.size + 1 = gB := ⟨_, rfl⟩
    have hB3 : Below w2.heap.size w2 W3 := by rw [← hW3]; exact (((Below.refl _ _).alloc (Nat.le_refl _) _).alloc (by simp) _).drew
    have hsz3 : W3.heap.size = w2.heap.size + 2 := by rw [← hW3]; show ((_ : World).alloc _).heap.size = _; simp
    have hO : OSb W3 w.heap.size (some ⟨gB, 0, none⟩) n n (List.replicate n false) := by
      have := HF.out (w2.alloc (.cells #[.int .i64 (S : Int), .slice (some ⟨w2.heap.size + 1, 0, none⟩) n n, .bool h] 27)) w.heap.size (by simp; have := hB2.size; omega)
      rw [show (w2.alloc (.cells #[.int .i64 (S : Int), .slice (some ⟨w2.heap.size + 1, 0, none⟩) n n, .bool h] 27)).heap.size = w2.heap.size + 1 by simp] at this
      rw [← hW3, ← hgB]
      exact this
    have hRO : Row3 W3 gO 27 (.int .i64 (S : Int)) (.slice (some ⟨gB, 0, none⟩) n n) (.bool h) := by
      rw [← hW3, ← hgO, ← hgB]
      exact ((Row3.new w2 _ _ _ _).alloc _).drew
    rw [hW3, hgB, hgO]

    have hOB : gO ≠ gB := by omega
    have hgB2 : w2.heap.size ≤ gB := by omega
    have hgO2 : w2.heap.size ≤ gO := by omega
    have hBw : w2.heap.size ≤ W3.heap.size := hB3.size
    have HR0 := Lib.hid (R0.out.below hB3 R0.out.lt)
    have HR1 := Lib.hid (R1.out.below hB3 R1.out.lt)
    have HRO := Lib.hid hRO
    have hl1 := R1.out.lt
    have hB4 := hB2.trans (hB3.mono hB2.size)
    rw [show List.replicate n false = pmT (moveP S E O) zs 0 by simp only [pmT]; rw [hr.len]] at hO
    have HO := Lib.hid hO
    have HONE := Lib.hid (by rw [HNZ.out]; exact move_one E O (by omega) : OneOne (moveP S E O) zs.length)
    clear hW3 hgO hgB hsz3 hRO hO hB3 a0 a1 a2 a3 a4 a5 hmk
    obtain ⟨y0, y1, y2, y3, y4, y5⟩ := HR0.out.at_
    go_wp2
    go_loopw [20] (fun i wr => ∃ k : Nat, k ≤ n ∧ i = .int .i64 k ∧ Hid (OSb wr w.heap.size (some ⟨gB, 0, none⟩) n n (pmT (moveP S E O) zs k)) ∧ Hid (Row3 wr gO 27 (.int .i64 (S : Int)) (.slice (some ⟨gB, 0, none⟩) n n) (.bool h)) ∧ Hid (Row3 wr g 27 (.int .i64 (S : Int)) (.slice A n c) (.bool h)) ∧ Hid (Row3 wr (g + 1) 27 (.int .i64 0) (.slice none 0 0) (.bool false)) ∧ w2.heap.size ≤ wr.heap.size ∧ Below w.heap.size w wr)
      (fun i _ => n - (intOf i).toNat)
    case atStart => exact ⟨0, Nat.zero_le _, rfl, HO.out, HRO.out, HR0.out, HR1.out, hBw, hB4⟩
    case round =>
      clear y0 y1 y2 y3 y4 y5
      obtain ⟨k, hk, rfl, HO, HRO, HR0, HR1, hBw, hB4⟩ := hrel
      by_cases hlt : k < n
      · obtain ⟨ad, x, rfl, hbx, hx, hcx0⟩ := hr.at_ (k := k) hlt
        have hcx : wr.cell? (ad.add k) = some (.bool x) := (hB4.cell (p := ad.add k) (by rw [blk_add]; exact hbx)).trans hcx0
        have hadB : (ad.add k).block ≠ gB := by rw [blk_add]; have := hB2.size; omega
        cases x
        · have HX := Lib.hid (pm_no HONE.out hx)
          clear hx
          go_wp2
          go_roundw
          case rel => exact ⟨k + 1, by omega, by go_num, by rw [HX.out]; exact HO.out, HRO.out, HR0.out, HR1.out, hBw, hB4⟩
          case measure => simp [intOf]; omega
        · skip
          have hkS : k < S * S := by rw [← HN.out]; exact hlt
          have ha8 : k % S < S := Nat.mod_lt _ (by omega)
          have hb8 : k / S < S := Nat.div_lt_of_lt_mul hkS
          have hp : moveP S E O k < n := by have := HONE.out.1 k (by rw [HNZ.out]; exact hkS); rw [HNZ.out, ← HN.out] at this; exact this
          obtain ⟨a, hae⟩ : ∃ a, k % S = a := ⟨_, rfl⟩
          obtain ⟨b, hbe⟩ : ∃ b, k / S = b := ⟨_, rfl⟩
          obtain ⟨p, hpe⟩ : ∃ p, moveP S E O k = p := ⟨_, rfl⟩
          rw [hae] at ha8
          rw [hbe] at hb8
          rw [hpe] at hp
          have ht1 : (k : Int).tmod (S : Int) = (a : Int) := by rw [Int.tmod_eq_emod_of_nonneg (by omega), ← hae]; push_cast; rfl
          have ht2 : (k : Int).tdiv (S : Int) = (b : Int) := by rw [Int.tdiv_eq_ediv_of_nonneg (by omega), ← hbe]; push_cast; rfl
          have ht1' : (k : Int) % (S : Int) = (a : Int) := by rw [← hae]; push_cast; rfl
          have ht2' : (k : Int) / (S : Int) = (b : Int) := by rw [← hbe]; push_cast; rfl
          have hpi0 : (0 : Int) ≤ (p : Int) := by omega
          have hpi1 : (p : Int) < (n : Int) := by omega
          have hki0 : (0 : Int) ≤ (k : Int) := by omega
          have hki1 : (k : Int) < (n : Int) := by omega
          have HPE := Lib.hid hpe
          have HAE := Lib.hid hae
          have HBE := Lib.hid hbe
          clear hae hbe hpe hkS
          have HX := Lib.hid hx
          have HIN := Lib.hid ((in_move HAE.out HBE.out).trans HPE.out)
          obtain ⟨c0, c1, c2, c3, c4, c5⟩ := HRO.out.at_
          obtain ⟨e0, e1, e2, e3, e4, e5⟩ := HR0.out.at_
          have m1 : ¬ gO = gB := hOB
          have m2 : ¬ g = gB := by omega
          have m3 : ¬ g + 1 = gB := by omega
          have hBd := hB4.drew
          have hwb : IntKind.i64.wrap (b : Int) = (b : Int) := by rw [IntKind.wrap_i64]; omega
          clear hx
          go_wp2
          go_region_held3 (fun w' => w'.cell? ⟨gO, 1, none⟩ = some (.slice (some ⟨gB, 0, none⟩) n n) ∧ w'.cell? ⟨g, 0, none⟩ = some (.int .i64 (S : Int))) (first | exact HK2.out | exact HK1.out | exact HK0.out | go_keep)
            (first
              | (go_at_call 57; (with_reducible refine (move1 a b S E O g1 gb g3 X Y T _ (by omega) (by omega) hS2 hS8 hE8 hO8 (HRB.out.below hBd HRB.out.lt) ((hBd.cell (p := ⟨g1, 0, none⟩) h1).trans HE.out) ((hBd.cell (p := ⟨g3, 0, none⟩) h3).trans HNN.out) (Nat.lt_of_lt_of_le h1 hBd.size) (Nat.lt_of_lt_of_le h3 hBd.size)).mono ?_); rintro e w4 ⟨rfl, hb4⟩; (have hB5 : Below wr.heap.size wr w4 := (below_drew wr).trans hb4); (have HO6 := Lib.hid (HO.out.below hB5 (Nat.le_refl _))); (have HRO6 := Lib.hid (HRO.out.below hB5 HRO.out.lt)); (have HR06 := Lib.hid (HR0.out.below hB5 HR0.out.lt)); (have HR16 := Lib.hid (HR1.out.below hB5 HR1.out.lt)); (have hB6 := hB4.trans (hB5.mono hB4.size)); (have hBw6 := Nat.le_trans hBw hB5.size); (have HK0 := Lib.hid (And.intro HRO6.out.at_.2.1 HR06.out.at_.1)); (clear hB5 hb4))
              | (go_at_call 71; (have hPI := fun w => placeIn ((a + E) % S) ((b + O) % S) S w (by have := Nat.mod_lt (a + E) (show 0 < S by omega); omega) (by have := Nat.mod_lt (b + O) (show 0 < S by omega); omega) hS2 hS8); (simp only [Int.natCast_emod, Int.natCast_add] at hPI); (with_reducible refine (hPI _).mono ?_); (clear hPI); rintro e w5 ⟨rfl, hb5⟩; rw [HIN.out]; (have HO7 := Lib.hid (HO6.out.below hb5 (Nat.le_refl _))); (have HRO7 := Lib.hid (HRO6.out.below hb5 HRO6.out.lt)); (have HR07 := Lib.hid (HR06.out.below hb5 HR06.out.lt)); (have HR17 := Lib.hid (HR16.out.below hb5 HR16.out.lt)); (have hB7 := hB6.trans (hb5.mono hB6.size)); (have hBw7 := Nat.le_trans hBw6 hb5.size); (have HK1 := Lib.hid (And.intro HRO7.out.at_.2.1 HR07.out.at_.1)); (have hcp : w5.cell? ⟨gB, p, none⟩ = some (.bool ((pmT (moveP S E O) zs k).getD p false)) := (by rw [HO7.out.toI.cellAt hp]; have : p < (pmT (moveP S E O) zs k).length := (by rw [pm_len, hr.len]; exact hp); simp [List.getD, this])); (have hfp : w5.frozen? ⟨gB, p, none⟩ = false := HO7.out.toI.frozenAt p); (have HROs := Lib.hid (HRO7.out.other (p := ⟨gB, p, none⟩) hOB (.bool true))); (have HR0s := Lib.hid (HR07.out.other (p := ⟨gB, p, none⟩) m2 (.bool true))); (have HR1s := Lib.hid (HR17.out.other (p := ⟨gB, p, none⟩) m3 (.bool true))); (have HK2 := Lib.hid (And.intro HROs.out.at_.2.1 HR0s.out.at_.1)); (clear hb5)))
          all_goals go_wp2
          all_goals
            have hst := HO7.out.stored (k := p) true
            have HOS := Lib.hid (show OSb (w5.setCell ⟨gB, p, none⟩ (.bool true)) w.heap.size (some ⟨gB, 0, none⟩) n n (pmT (moveP S E O) zs (k + 1)) by rw [pm_yes HX.out, HPE.out]; exact hst.1)
            have hBs : Below w.heap.size w (w5.setCell ⟨gB, p, none⟩ (.bool true)) := hB7.setCell (p := ⟨gB, p, none⟩) (show w.heap.size ≤ gB by have := hB2.size; omega) (.bool true)
            have hBws : w2.heap.size ≤ (w5.setCell ⟨gB, p, none⟩ (.bool true)).heap.size := by simpa using hBw7
            clear hst
            go_roundw
            case rel => exact ⟨k + 1, by omega, by go_num, HOS.out, HROs.out, HR0s.out, HR1s.out, hBws, hBs⟩
            case measure => simp [intOf]; omega
      · obtain rfl : k = n := by omega
        obtain ⟨c0, c1, c2, c3, c4, c5⟩ := HRO.out.at_
        obtain ⟨d0, d1, d2, d3, d4, d5⟩ := HR1.out.at_
        obtain ⟨e0, e1, e2, e3, e4, e5⟩ := HR0.out.at_
        have HR := Lib.hid (((HR1.out.set0 (.int .i64 (S : Int))).set1 (.slice (some ⟨gB, 0, none⟩) k k)).set2 (.bool h))
        have hne : gB ≠ g + 1 := by omega
        have HOF := Lib.hid (((HO.out.toI.kept (grown_set _ ⟨g + 1, 0, none⟩ (.int .i64 (S : Int))) (.inr (by simp [Value.ownBlock]; omega))).kept (grown_set _ ⟨g + 1, 1, none⟩ (.slice (some ⟨gB, 0, none⟩) k k)) (.inr (by simp [Value.ownBlock]; omega))).kept (grown_set _ ⟨g + 1, 2, none⟩ (.bool h)) (.inr (by simp [Value.ownBlock]; omega)))
        go_wp2
        refine bodyPost_ret (results_field rfl _ _ (g + 1) rfl HR.out) rfl ?_
        have e : pmT (moveP S E O) zs k = fmL (S : Int) (E : Int) (O : Int) zs := by unfold fmL pmL; rw [hr.len]; simp
        have HOF2 := HOF.out
        rw [e] at HOF2
        refine ⟨_, _, _, rfl, HOF2, ((hB4.setCell (p := ⟨g + 1, 0, none⟩) hwg _).setCell (p := ⟨g + 1, 1, none⟩) hwg _).setCell (p := ⟨g + 1, 2, none⟩) hwg _⟩
end Go.Proofs.Ytmianlihdiccjaa

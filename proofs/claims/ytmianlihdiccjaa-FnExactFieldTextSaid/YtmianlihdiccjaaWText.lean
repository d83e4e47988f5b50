/- The walk of the exact law on texts of fields. -/
import Derived.Test.YtmianlihdiccjaaFieldV
import Derived.Test.YtmianlihdiccjaaTextI
import Derived.Deep.RegionHeld3
namespace Go.Proofs.Ytmianlihdiccjaa
open Go.RowKit
set_option linter.unusedVariables false

set_option maxHeartbeats 8000000 in
theorem walkFnExactFieldText (w : World) (s0 : Int) (A0 : Option Addr) (z0 : List Bool) (c0 : Nat) (h0 : Bool) (hc0 : z0.length ≤ c0 ∧ c0 ≤ maxLen) (hr0 : RL w w.heap.size A0 z0.length z0) :
    Calls Try.prog 14 #[.agg #[.int .i64 s0, .slice A0 z0.length c0, .bool h0]] w fun e w' => e = .returned (.bool true) ∧ Below w.heap.size w w' := by
  have hT : Below w.heap.size w w := Below.refl _ _
  obtain ⟨w1, hwa0⟩ : ∃ W, w.alloc (.cells #[.int .i64 s0, .slice A0 z0.length c0, .bool h0] 24) = W := ⟨_, rfl⟩
  obtain ⟨ga0, hga0⟩ : ∃ g, w.heap.size = g := ⟨_, rfl⟩
  have hB : Below w.heap.size w w1 := by rw [← hwa0]; exact (Below.refl _ _).alloc (Nat.le_refl _) _
  have HRn := Lib.hid (show Row3 w1 ga0 24 (.int .i64 s0) (.slice A0 z0.length c0) (.bool h0) by rw [← hwa0, ← hga0]; exact Row3.new _ _ _ _ _)
  have hgla0 : ga0 < w1.heap.size := HRn.out.lt
  have hgba0 : w.heap.size ≤ ga0 := by omega
  have hs1 : w.heap.size ≤ w1.heap.size := hB.size
  replace hT := hT.trans (hB.mono hT.size)
  clear hB
  have HRa0 := HRn
  clear HRn
  obtain ⟨qa00, qa01, qa02, qa03, qa04, qa05⟩ := HRa0.out.at_
  go_enter Try.func14, Try.ntmps14
  go_wp2_with fail
  refine (szField s0 A0 z0.length c0 h0 (1048576) _ hc0.1 hc0.2 (by omega) (by omega)).mono ?_
  rintro e w2 ⟨rfl, hB⟩
  have HWa0 := Lib.hid hwa0
  have HGa0 := Lib.hid hga0
  clear hwa0 hga0
  clear qa00 qa01 qa02 qa03 qa04 qa05
  have hs2 : w1.heap.size ≤ w2.heap.size := hB.size
  replace HRa0 := Lib.hid (HRa0.out.below hB HRa0.out.lt)
  replace hT := hT.trans (hB.mono hT.size)
  clear hB
  by_cases hl0 : (1048576 : Int) < (z0.length : Int)
  · rw [if_pos hl0]
    go_wp2
    go_ret
    exact ⟨rfl, hT⟩
  rw [if_neg hl0]
  have hn0 : z0.length ≤ 1048576 := by omega
  have hnl0 : ¬ (1048576 - (z0.length : Int) : Int) < 0 := by omega
  obtain ⟨qa00, qa01, qa02, qa03, qa04, qa05⟩ := HRa0.out.at_
  go_wp2_with fail
  refine (toField s0 A0 _ z0 c0 h0 _ (hr0.arg (Nat.le_refl _) hT) hn0).mono ?_
  rintro e w3 ⟨At0, nt0, ct0, rfl, hO, hB⟩
  clear qa00 qa01 qa02 qa03 qa04 qa05
  have hs3 : w2.heap.size ≤ w3.heap.size := hB.size
  replace HRa0 := Lib.hid (HRa0.out.below hB HRa0.out.lt)
  replace hT := hT.trans (hB.mono hT.size)
  clear hB
  have hNt0 : nt0 ≤ 1048576 := by have := hO.len; omega
  have hLt0 := Lib.hid hO.lt
  have HOt0 := Lib.hid hO
  clear hO
  go_wp2_with fail
  refine (fieldTextS s0 At0 _ z0 ct0 h0  _ HOt0.out.reads (by omega)).mono ?_
  rintro e w4 ⟨rfl, hB⟩
  have hs4 : w3.heap.size ≤ w4.heap.size := hB.size
  replace HRa0 := Lib.hid (HRa0.out.below hB HRa0.out.lt)
  replace HOt0 := Lib.hid (HOt0.out.below hB (Nat.le_refl _))
  replace hT := hT.trans (hB.mono hT.size)
  clear hB
  obtain ⟨qa00, qa01, qa02, qa03, qa04, qa05⟩ := HRa0.out.at_
  go_wp2_with fail
  refine (toField s0 A0 _ z0 c0 h0 _ (hr0.arg (Nat.le_refl _) hT) hn0).mono ?_
  rintro e w5 ⟨Ax0, nx0, cx0, rfl, hO, hB⟩
  clear qa00 qa01 qa02 qa03 qa04 qa05
  have hs5 : w4.heap.size ≤ w5.heap.size := hB.size
  replace HRa0 := Lib.hid (HRa0.out.below hB HRa0.out.lt)
  replace hT := hT.trans (hB.mono hT.size)
  clear hB
  have hNx0 : nx0 ≤ 1048576 := by have := hO.len; omega
  have hLx0 := Lib.hid hO.lt
  have HOx0 := Lib.hid hO
  clear hO
  obtain ⟨w6, hwx0⟩ : ∃ W, w5.alloc (.cells #[.int .i64 s0, .slice Ax0 nx0 cx0, .bool h0] 27) = W := ⟨_, rfl⟩
  obtain ⟨gx0, hgx0⟩ : ∃ g, w5.heap.size = g := ⟨_, rfl⟩
  have hB : Below w5.heap.size w5 w6 := by rw [← hwx0]; exact (Below.refl _ _).alloc (Nat.le_refl _) _
  have HRn := Lib.hid (show Row3 w6 gx0 27 (.int .i64 s0) (.slice Ax0 nx0 cx0) (.bool h0) by rw [← hwx0, ← hgx0]; exact Row3.new _ _ _ _ _)
  have hglx0 : gx0 < w6.heap.size := HRn.out.lt
  have hgbx0 : w5.heap.size ≤ gx0 := by omega
  have hs6 : w5.heap.size ≤ w6.heap.size := hB.size
  replace HRa0 := Lib.hid (HRa0.out.below hB HRa0.out.lt)
  replace HOx0 := Lib.hid (HOx0.out.below hB (Nat.le_refl _))
  replace hT := hT.trans (hB.mono hT.size)
  clear hB
  have HRx0 := HRn
  clear HRn
  obtain ⟨qa00, qa01, qa02, qa03, qa04, qa05⟩ := HRa0.out.at_
  obtain ⟨qx00, qx01, qx02, qx03, qx04, qx05⟩ := HRx0.out.at_
  go_wp2_with fail
  refine (fieldTextI s0 Ax0 _ z0 cx0 h0  _ HOx0.out.reads HOx0.out.cap.1 HOx0.out.cap.2 (by omega)).mono ?_
  rintro e w7 ⟨rfl, hB⟩
  have HWx0 := Lib.hid hwx0
  have HGx0 := Lib.hid hgx0
  clear hwx0 hgx0
  clear qa00 qa01 qa02 qa03 qa04 qa05 qx00 qx01 qx02 qx03 qx04 qx05
  have hs7 : w6.heap.size ≤ w7.heap.size := hB.size
  replace HRa0 := Lib.hid (HRa0.out.below hB HRa0.out.lt)
  replace HRx0 := Lib.hid (HRx0.out.below hB HRx0.out.lt)
  replace HOx0 := Lib.hid (HOx0.out.below hB (Nat.le_refl _))
  replace hT := hT.trans (hB.mono hT.size)
  clear hB
  obtain ⟨qx00, qx01, qx02, qx03, qx04, qx05⟩ := HRx0.out.at_
  obtain ⟨qa00, qa01, qa02, qa03, qa04, qa05⟩ := HRa0.out.at_
  go_wp2
  have HS0 := Lib.hid (HRx0.out.six HRa0.out)
  have hTd := hT.drew
  go_region_held3 (fun w' => w'.cell? ⟨gx0, 0, none⟩ = some (.int .i64 s0) ∧ w'.cell? ⟨gx0, 1, none⟩ = some (.slice Ax0 nx0 cx0) ∧ w'.cell? ⟨gx0, 2, none⟩ = some (.bool h0) ∧ w'.cell? ⟨ga0, 0, none⟩ = some (.int .i64 s0) ∧ w'.cell? ⟨ga0, 1, none⟩ = some (.slice A0 z0.length c0) ∧ w'.cell? ⟨ga0, 2, none⟩ = some (.bool h0)) (first | go_keep | exact HS1.out | exact HS2.out)
    (first | (go_at_call 17; (refine (toField s0 A0 _ z0 c0 h0 _ (hr0.arg (Nat.le_refl _) hTd) hn0).mono ?_); rintro e w8 ⟨At, nt, ct, rfl, hO, hB0⟩; (have hB : Below w7.heap.size w7 w8 := (below_drew w7).trans hB0); (clear hB0); (have hs8 : w7.heap.size ≤ w8.heap.size := hB.size); (replace HRa0 := Lib.hid (HRa0.out.below hB HRa0.out.lt)); (replace HRx0 := Lib.hid (HRx0.out.below hB HRx0.out.lt)); (replace HOx0 := Lib.hid (HOx0.out.below hB (Nat.le_refl _))); (replace hT := hT.trans (hB.mono hT.size)); (clear hB); (have hNt : nt ≤ 1048576 := (by have := hO.len; omega)); (have HOt := Lib.hid hO); (clear hO); (have HS1 := Lib.hid (HRx0.out.six HRa0.out))) | (go_at_call 19; (refine (eqField s0 Ax0 _ _ cx0 h0 At _ _ ct _ rfl HOx0.out.reads HOt.out.reads hNx0 hNt).mono ?_); rintro e w9 ⟨rfl, hB⟩; (have hs9 : w8.heap.size ≤ w9.heap.size := hB.size); (replace HRa0 := Lib.hid (HRa0.out.below hB HRa0.out.lt)); (replace HRx0 := Lib.hid (HRx0.out.below hB HRx0.out.lt)); (replace HOx0 := Lib.hid (HOx0.out.below hB (Nat.le_refl _))); (replace hT := hT.trans (hB.mono hT.size)); (clear hB); (have HS2 := Lib.hid (HRx0.out.six HRa0.out))))
  clear HS0 HS1 HS2 HOt
  clear qx00 qx01 qx02 qx03 qx04 qx05 qa00 qa01 qa02 qa03 qa04 qa05
  clear hTd
  go_wp2
  go_ret
  exact ⟨rfl, hT⟩
end Go.Proofs.Ytmianlihdiccjaa

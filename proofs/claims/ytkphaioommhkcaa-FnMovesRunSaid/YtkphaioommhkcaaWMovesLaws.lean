/- The walks of the drawn laws on moves. -/
import Derived.Test.YtkphaioommhkcaaWMovesRun
import Derived.Test.YtkphaioommhkcaaDrawMoves
namespace Go.Proofs.Ytkphaioommhkcaa
open Go.RowKit
set_option linter.unusedVariables false

set_option maxHeartbeats 1000000 in
theorem walkFnMovesBack (w : World) (A : Option Addr) (zs : List Int) (c : Nat) (hc : zs.length ≤ c ∧ c ≤ maxLen) (h : RB w w.heap.size A zs) :
    Calls Try.prog 12 #[.slice A zs.length c] w fun e w' => e = .returned (.bool true) ∧ Below w.heap.size w w' := by
  have hcm := hc.2
  unfold maxLen at hcm
  by_cases hl : 1048576 < zs.length
  · go_enter Try.func12, Try.ntmps12
    go_wp2
    go_ret
    exact ⟨rfl, Below.refl _ _⟩
  · go_enter Try.func12, Try.ntmps12
    go_wp2_with fail
    refine (drawMovesBack A zs c w h hc.1 hc.2).mono ?_
    rintro e w1 ⟨A1, n1, c1, ms, rfl, hO1, hn1, hb1⟩
    have hs1 := hb1.size
    have e1 : eqL ms.reverse ms.reverse = true := eqL_self _
    have e2 : eqL ms ms = true := eqL_self _
    have hlen := hO1.len
    go_wp2_with fail
    refine (movesBack _ _ ms _ _ hO1.reads (by omega)).mono ?_
    rintro e w2 ⟨A2, n2, c2, rfl, hO2, hb2⟩
    obtain rfl : n2 = n1 := by have := hO2.len; simp at this; omega
    replace hO1 := hO1.below hb2 (Nat.le_refl _)
    have hs2 := hb2.size
    go_wp2_with fail
    refine (movesBackS _ _ ms _ _ hO1.reads (by omega)).mono ?_
    rintro e w3 ⟨A3, n3, c3, rfl, hO3, hb3⟩
    replace hO1 := hO1.below hb3 (Nat.le_refl _)
    replace hO2 := hO2.below hb3 (Nat.le_refl _)
    have hn3 : n3 ≤ 13 := by have := hO3.len; simp at this; omega
    have hs3 := hb3.size
    go_wp2_with fail
    refine (sameInts' _ _ _ _ _ _ _ _ _ hO2.reads hO3.reads (by omega) (by omega)).mono ?_
    rintro e w4 ⟨rfl, hb4⟩
    replace hO1 := hO1.below hb4 (Nat.le_refl _)
    replace hO2 := hO2.below hb4 (Nat.le_refl _)
    have hs4 := hb4.size
    go_wp2_with fail
    refine (movesBack _ _ ms.reverse _ _ hO2.reads (by omega)).mono ?_
    rintro e w5 ⟨A5, n5, c5, rfl, hO5, hb5⟩
    have hn5 : n5 ≤ 13 := by have := hO5.len; simp at this; omega
    replace hO1 := hO1.below hb5 (Nat.le_refl _)
    have hs5 := hb5.size
    go_wp2_with fail
    refine (sameInts' _ _ _ _ _ _ _ _ _ hO5.reads hO1.reads (by omega) (by omega)).mono ?_
    rintro e w6 ⟨rfl, hb6⟩
    clear hlen
    go_wp2_with (go_at_call 22; refine (alive _).mono ?_; rintro e w' ⟨rfl, rfl⟩)
    go_ret
    exact ⟨rfl, ((((hb1.trans (hb2.mono hs1)).trans (hb3.mono (by omega))).trans (hb4.mono (by omega))).trans (hb5.mono (by omega))).trans (hb6.mono (by omega))⟩
set_option maxHeartbeats 2000000 in
theorem walkFnMovesRun (w : World) (A : Option Addr) (zs : List Int) (c : Nat) (hc : zs.length ≤ c ∧ c ≤ maxLen) (h : RB w w.heap.size A zs) :
    Calls Try.prog 14 #[.slice A zs.length c] w fun e w' => e = .returned (.bool true) ∧ Below w.heap.size w w' := by
  have hcm := hc.2
  unfold maxLen at hcm
  by_cases hl : 1048576 < zs.length
  · go_enter Try.func14, Try.ntmps14
    go_wp2
    go_ret
    exact ⟨rfl, Below.refl _ _⟩
  · go_enter Try.func14, Try.ntmps14
    go_wp2_with fail
    refine (drawMovesRun A zs c w h hc.1 hc.2).mono ?_
    rintro e w1 ⟨x, y, A1, n1, c1, ms, rfl, hO1, hn1, hb1⟩
    have hs1 := hb1.size
    have hcap := hO1.cap
    have hr1 := hO1.reads
    have hlen := hO1.len
    go_wp2_with fail
    refine (movesRun x y _ _ ms _ _ hr1 (by omega)).mono ?_
    rintro e w' ⟨rfl, rfl⟩
    go_wp2_with fail
    refine (movesRunS x y _ _ ms _ _ hr1 (by omega)).mono ?_
    rintro e w' ⟨rfl, rfl⟩
    by_cases hneg : (mrI x y ms).1 < 0
    · have e0 := mr_neg hneg
      have e1 : (mrI x y ms).1 = -1 := by rw [e0]
      have e2 : (mrI x y ms).2 = -1 := by rw [e0]
      clear hneg e0
      go_wp2_with (go_at_call 22; refine (alive _).mono ?_; rintro e w' ⟨rfl, rfl⟩)
      go_ret
      exact ⟨rfl, hb1⟩
    · have hback := mr_back ms hneg
      obtain ⟨k, hk⟩ : ∃ k : Nat, n1 / 2 = k := ⟨_, rfl⟩
      have hk1 : k ≤ n1 := by omega
      have happ := mr_app (a := ms.take k) (b := ms.drop k) (by rw [List.take_append_drop]; exact hneg)
      rw [List.take_append_drop] at happ
      have hkI : (n1 : Int) / 2 = (k : Int) := by omega
      have hcutA : RI w1 w1.heap.size A1 k (ms.take k) := by
        have := Reads.cut hr1 (k := 0) (m := k) (cap := c1) (Nat.zero_le _) hk1 hcap.1
        unfold RI
        rw [List.map_take]
        by_cases hz : c1 = 0
        · rw [if_pos hz] at this
          simpa using this
        · rw [if_neg hz] at this
          have e : A1.map (fun a => a.add 0) = A1 := by cases A1 <;> simp [Addr.add]
          rw [e] at this
          simpa using this
      have hcutB : RI w1 w1.heap.size (if c1 = k then A1 else A1.map (·.add k)) (n1 - k) (ms.drop k) := by
        have := Reads.cut hr1 (k := k) (m := n1) (cap := c1) hk1 (Nat.le_refl _) hcap.1
        unfold RI
        rw [List.map_drop]
        rwa [List.take_of_length_le (by simp; omega)] at this
      have HBK := Lib.hid hback
      have HAP := Lib.hid happ
      have HA := Lib.hid hcutA
      have HB := Lib.hid hcutB
      have HLN := Lib.hid hlen
      obtain ⟨hc1, hc2⟩ := hcap
      unfold maxLen at hc2
      clear hback happ hcutA hcutB hk hlen
      go_wp2_with fail
      refine (movesBack _ _ ms _ _ hr1 (by omega)).mono ?_
      rintro e w2 ⟨A2, n2, c2, rfl, hO2, hb2⟩
      have hn2 : n2 ≤ 13 := by have := hO2.len; have := HLN.out; simp at *; omega
      have HA2 := Lib.hid ((HA.out.below hb2).more hb2.size)
      have HB2 := Lib.hid ((HB.out.below hb2).more hb2.size)
      go_wp2_with fail
      refine (movesRun _ _ _ _ ms.reverse _ _ hO2.reads (by omega)).mono ?_
      rintro e w' ⟨rfl, rfl⟩
      go_wp2_with fail
      refine (movesRun _ _ _ _ (ms.take k) _ _ HA2.out (by omega)).mono ?_
      rintro e w' ⟨rfl, rfl⟩
      have hkn : k ≤ n1 := hk1
      go_wp2_with fail
      · have hck : c1 = k := by assumption
        have hrB := HB2.out
        rw [if_pos hck] at hrB
        clear hck
        refine (movesRun _ _ _ _ (ms.drop k) _ _ hrB (by omega)).mono ?_
        rintro e w' ⟨rfl, rfl⟩
        have f1 : (mrI x (mrI x y ms).1 ms.reverse).1 = y := by rw [HBK.out]
        have f2 : (mrI x (mrI x y ms).1 ms.reverse).2 = (mrI x y ms).2 := by rw [HBK.out]
        obtain ⟨_, _, _, f3, f4⟩ := HAP.out
        have HF4 := Lib.hid f4
        clear f4
        go_wp2
        all_goals
          go_ret
          have f5 := HF4.out
          refine ⟨?_, hb1.trans (hb2.mono hs1)⟩
          first | rfl | exact ret_bool (by simp; omega)
      · have hck : ¬ c1 = k := by assumption
        have hrB := HB2.out
        rw [if_neg hck] at hrB
        clear hck
        refine (movesRun _ _ _ _ (ms.drop k) _ _ hrB (by omega)).mono ?_
        rintro e w' ⟨rfl, rfl⟩
        have f1 : (mrI x (mrI x y ms).1 ms.reverse).1 = y := by rw [HBK.out]
        have f2 : (mrI x (mrI x y ms).1 ms.reverse).2 = (mrI x y ms).2 := by rw [HBK.out]
        obtain ⟨_, _, _, f3, f4⟩ := HAP.out
        have HF4 := Lib.hid f4
        clear f4
        go_wp2
        all_goals
          go_ret
          have f5 := HF4.out
          refine ⟨?_, hb1.trans (hb2.mono hs1)⟩
          first | rfl | exact ret_bool (by simp; omega)
end Go.Proofs.Ytkphaioommhkcaa

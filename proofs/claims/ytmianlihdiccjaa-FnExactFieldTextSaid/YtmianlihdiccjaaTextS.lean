/- Contract: the text of a field (the reference). -/
import Derived.Test.YtmianlihdiccjaaPlText
import Derived.Test.YtmianlihdiccjaaFieldV
import Derived.Laws.BytesString
import Derived.Laws.Concat
import Derived.Test.YtmianlihdiccjaaStepS2
import Derived.Deep.DeepCutAuto
namespace Go.Proofs.Ytmianlihdiccjaa
open Go.RowKit
set_option linter.unusedVariables false
attribute [local go_sem ↓] Go.wp_at_zero Go.wp_at_succ

/-- a text is returned; nothing that lay has turned -/
def GivesS (w : World) (l : List UInt8) (e : Ending) (w' : World) : Prop := e = .returned (.string ⟨l.toArray⟩) ∧ Below w.heap.size w w'
theorem add_ok {a b c : ByteArray} (h : a ++ b = c) (ha : a.size ≤ 1048576) (hb : b.size ≤ 1048576) (w : World) : (Op.stringOp .add a b).run Try.prog w = .ok (.string c) w := by
  rw [run_string_add_sum w a b (by omega), h]
theorem str_size (l : List UInt8) : (⟨l.toArray⟩ : ByteArray).size = l.length := by show l.toArray.size = _; simp
theorem str_list (a : ByteArray) : a.size = a.data.toList.length := by show a.data.size = _; simp
theorem str_add (a b : ByteArray) : (a ++ b).data.toList = a.data.toList ++ b.data.toList := by simp
set_option maxRecDepth 100000 in
set_option maxHeartbeats 8000000 in
theorem fieldTextS (s : Int) (A : Option Addr) (n : Nat) (zs : List Bool) (c : Nat) (h : Bool) (w : World) (hr : RL w w.heap.size A n zs) (hl : n ≤ 1048577) :
    Calls Try.prog 41 #[.agg #[.int .i64 s, .slice A n c, .bool h]] w (GivesS w (txF s zs h)) := by
  obtain ⟨W, hW⟩ : ∃ W, w.alloc (.cells #[.int .i64 s, .slice A n c, .bool h] 27) = W := ⟨_, rfl⟩
  obtain ⟨g, hg⟩ : ∃ g, w.heap.size = g := ⟨_, rfl⟩
  have hb : Below w.heap.size w W := by rw [← hW]; exact (Below.refl _ _).alloc (Nat.le_refl _) _
  have R0 := Lib.hid (show Row3 W g 27 (.int .i64 s) (.slice A n c) (.bool h) by rw [← hW, ← hg]; exact Row3.new w _ _ _ _)
  have hrW := hr.arg (Nat.le_refl _) hb
  have hC := fieldValidS s A n zs c h W hrW hl
  obtain ⟨V, hV⟩ : ∃ V, fvB s zs = V := ⟨_, rfl⟩
  rw [hV] at hC
  have HC := Lib.hid hC
  obtain ⟨q0, q1, q2, q3, q4, q5⟩ := R0.out.at_
  have hgl : g < W.heap.size := R0.out.lt
  have HRW := Lib.hid hrW
  have HG := Lib.hid hg
  clear hC hrW hr
  go_enter Try.func41, Try.ntmps41
  go_wp2_with fail
  refine HC.out.mono ?_
  rintro e w1 ⟨rfl, hB1⟩
  clear hW hg
  have hT1 := hb.trans (hB1.mono hb.size)
  have R1 := Lib.hid (R0.out.below hB1 hgl)
  have HR1 := Lib.hid (HRW.out.arg (Nat.le_refl _) hB1)
  clear q0 q1 q2 q3 q4 q5 R0 HRW
  obtain ⟨q0, q1, q2, q3, q4, q5⟩ := R1.out.at_
  clear hB1 HC
  cases V
  · have HV := Lib.hid hV
    clear hV
    go_wp2
    go_ret
    exact ⟨by rw [txF_f HV.out]; rfl, hT1⟩
  · have hs8 := fv_iff.1 hV
    obtain ⟨S, rfl⟩ : ∃ S : Nat, s = (S : Int) := ⟨s.toNat, by omega⟩
    have hnn : n = S * S := by rw [← HR1.out.len]; exact_mod_cast hs8.2.2.2.1
    have hS2 : 2 ≤ S := by omega
    have hS8 : S ≤ 8 := by omega
    have HV := Lib.hid (txF_t (h := h) hV)
    have HZL := Lib.hid HR1.out.len
    obtain ⟨T, hT⟩ : ∃ T, (if h = true then [33] else []) ++ txL S zs S = T := ⟨_, rfl⟩
    have hTl : T.length ≤ 1000 := by
      have h1 := tx_le S zs S
      have h2 : S * (S + 1) ≤ 8 * 9 := Nat.mul_le_mul hS8 (by omega)
      rw [← hT, List.length_append]
      cases h <;> simp <;> omega
    have HT := Lib.hid hT
    have HVT := Lib.hid (HV.out.trans hT)
    have HNN := Lib.hid hnn
    have hn64 : n ≤ 64 := by rw [hnn]; exact Nat.mul_le_mul hS8 hS8
    clear hV hs8 hT hnn hl
    obtain ⟨ad, rfl, hadb, hcells⟩ := HR1.out.2 (by have := HNN.out; have := Nat.mul_le_mul hS2 hS2; omega)
    have HCE := Lib.hid hcells
    clear hcells
    have hS0 : (0 : Int) ≤ (S : Int) - 1 := by omega
    cases h
    all_goals (
      go_wp2
      go_loopw [3, 4] (fun v i wr => ∃ (k : Nat) (sK : ByteArray), k ≤ S ∧ i = .int .i64 ((k : Int) - 1) ∧ v = .string sK ∧ Hid (sK.data.toList ++ txL S zs k = T) ∧ w1 = wr)
        (fun _ i _ => (intOf i + 1).toNat)
      case atStart => exact ⟨S, _, Nat.le_refl _, rfl, rfl, by rw [← HT.out]; simp [Hid], rfl⟩
      case round =>
        obtain ⟨k, sK, hk, rfl, rfl, HK, rfl⟩ := hrel
        cases k with
        | zero =>
          have HF := Lib.hid (show sK = ⟨T.toArray⟩ by rw [← HK.out]; simp [txL])
          go_wp2
          go_ret
          exact ⟨by rw [HVT.out, ← HF.out]; rfl, hT1⟩
        | succ m =>
          have e1 : (((m + 1 : Nat) : Int) - 1) = (m : Int) := by omega
          rw [e1]
          clear e1
          obtain ⟨p, hp⟩ : ∃ p, m * S = p := ⟨_, rfl⟩
          have hpS : p + S ≤ n := by
            rw [HNN.out, ← hp]
            have := Nat.mul_le_mul_right S hk
            rw [Nat.succ_mul] at this; exact this
          have hmp : (m : Int) * (S : Int) = (p : Int) := by rw [← hp, Int.natCast_mul]
          have HP := Lib.hid hp
          have hm0 : (0 : Int) ≤ (m : Int) := by omega
          clear hp
          go_wp2
          go_loopw [3, 5] (fun v j wr => ∃ (x : Nat) (sX : ByteArray), x ≤ S ∧ j = .int .i64 (x : Int) ∧ v = .string sX ∧ Hid (sX.data.toList = sK.data.toList ++ (rowT S zs m).take x) ∧ w1 = wr)
            (fun _ j _ => S - (intOf j).toNat)
          case atStart => exact ⟨0, sK, by omega, rfl, rfl, by simp [Hid], rfl⟩
          case round =>
            obtain ⟨x, sX, hx, rfl, rfl, HX, rfl⟩ := hrel
            by_cases hxS : x < S
            · obtain ⟨ad', b, hade, _, hb0, hcb⟩ := HR1.out.at_ (k := p + x) (by omega)
              cases hade
              have hrow := row_at (S := S) (bs := zs) (y := m) hxS (by rw [HP.out]; exact hb0)
              obtain ⟨sN, hsN⟩ : ∃ sN, sX ++ (⟨#[cbT b]⟩ : ByteArray) = sN := ⟨_, rfl⟩
              have hszX : sX.size ≤ 1048576 := by
                have h1 := congrArg List.length HK.out
                have h2 := List.length_take_le x (rowT S zs m)
                rw [str_list, HX.out, List.length_append]
                rw [List.length_append] at h1
                omega
              have hadd := add_ok hsN hszX (by cases b <;> decide)
              have HN := Lib.hid (show sN.data.toList = sK.data.toList ++ (rowT S zs m).take (x + 1) by rw [← hsN, str_add, HX.out, hrow, List.append_assoc])
              have hpx : p + x < n := by omega
              have hpxi : (p : Int) + (x : Int) < (n : Int) := by omega
              clear hsN hszX hrow hb0
              cases b
              · have hadd1 : ∀ w, (Op.stringOp .add sX ⟨#[46]⟩).run Try.prog w = .ok (.string sN) w := hadd
                clear hadd
                go_wp2
                go_roundw
                case rel => exact ⟨x + 1, sN, by omega, by go_num, rfl, HN.out, trivial⟩
                case measure => simp [intOf]; omega
              · have hadd1 : ∀ w, (Op.stringOp .add sX ⟨#[111]⟩).run Try.prog w = .ok (.string sN) w := hadd
                clear hadd
                go_wp2
                go_roundw
                case rel => exact ⟨x + 1, sN, by omega, by go_num, rfl, HN.out, trivial⟩
                case measure => simp [intOf]; omega
            · have hxe : x = S := by omega
              have hRL := row_len (S := S) (bs := zs) (y := m) (by rw [HP.out, HZL.out]; exact hpS)
              have HX2 := Lib.hid (show sX.data.toList = sK.data.toList ++ rowT S zs m by rw [HX.out, List.take_of_length_le (by omega)])
              have hxi : ¬ (x : Int) < (S : Int) := by omega
              clear hxe hRL
              by_cases hm : m = 0
              · have hmz : ¬ (0 : Int) < (m : Int) := by omega
                have HM := Lib.hid hm
                clear hm
                go_wp2
                go_roundw
                case rel => exact ⟨m, sX, by omega, rfl, rfl, by show _ = _; rw [HX2.out, ← HK.out, tx_succ, if_pos HM.out, HM.out]; simp [txL], trivial⟩
                case measure => simp [intOf]
              · have hmz : (0 : Int) < (m : Int) := by omega
                obtain ⟨sN, hsN⟩ : ∃ sN, sX ++ (⟨#[47]⟩ : ByteArray) = sN := ⟨_, rfl⟩
                have hszX : sX.size ≤ 1048576 := by
                  have h1 := congrArg List.length HK.out
                  have h2 := row_le S zs m
                  rw [str_list, HX2.out, List.length_append]
                  rw [List.length_append] at h1
                  omega
                have hadd := add_ok hsN hszX (by decide)
                have HN := Lib.hid (show sN.data.toList ++ txL S zs m = T by rw [← hsN, str_add, HX2.out, ← HK.out, tx_succ, if_neg hm]; simp)
                clear hsN hszX hm
                go_wp2
                go_roundw
                case rel => exact ⟨m, sN, by omega, rfl, rfl, HN.out, trivial⟩
                case measure => simp [intOf])
end Go.Proofs.Ytmianlihdiccjaa

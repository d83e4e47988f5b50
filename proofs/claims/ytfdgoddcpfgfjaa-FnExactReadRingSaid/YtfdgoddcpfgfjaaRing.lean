/- Contracts of the functions on rules and the test of rings. -/
import Derived.Test.YtfdgoddcpfgfjaaBase
import Derived.Test.YtfdgoddcpfgfjaaMem
import Derived.Test.YtfdgoddcpfgfjaaPlRing
namespace Go.Proofs.Ytfdgoddcpfgfjaa
open Go.RowKit
set_option linter.unusedVariables false

theorem bitOk (n : Int) (w : World) : Calls Try.prog 44 #[.int .i64 n] w fun e w' => e = .returned (.bool (inB n 0 1)) ∧ w = w' := by
  by_cases h0 : n = 0
  · subst h0
    go_enter Try.func44, Try.ntmps44
    go_wp2
    go_ret
    exact ⟨rfl, rfl⟩
  · by_cases h1 : n = 1
    · subst h1
      clear h0
      go_enter Try.func44, Try.ntmps44
      go_wp2
      go_ret
      exact ⟨rfl, rfl⟩
    · have e0 : (n == 0) = false := by simp [h0]
      have e1 : (n == 1) = false := by simp [h1]
      have hr : inB n 0 1 = false := inB_f (by omega)
      clear h0 h1
      go_enter Try.func44, Try.ntmps44
      go_wp2
      go_ret
      exact ⟨ret_bool (by first | rfl | rw [hr]), rfl⟩
theorem ruleOk (n : Int) (w : World) : Calls Try.prog 43 #[.int .i64 n] w fun e w' => e = .returned (.bool (inB n 0 255)) ∧ w = w' := by
  go_enter Try.func43, Try.ntmps43
  go_wp2_with (go_at_call 45; refine (within _ _ _ _).mono ?_; rintro e w' ⟨rfl, rfl⟩)
  go_ret
  exact ⟨rfl, rfl⟩
theorem ruleBit (rule l o r : Int) (w : World) : Calls Try.prog 16 #[.int .i64 rule, .int .i64 l, .int .i64 o, .int .i64 r] w fun e w' => e = .returned (.int .i64 (rbI rule l o r)) ∧ w = w' := by
  cases hru : inB rule 0 255 <;> cases hl : inB l 0 1 <;> cases ho : inB o 0 1 <;> cases hr : inB r 0 1
  case true.true.true.true =>
    have hb := r256 hru
    obtain ⟨hb0, hb1⟩ := hb
    have hv := rb_ok hru hl ho hr
    rcases two hl with rfl | rfl <;> rcases two ho with rfl | rfl <;> rcases two hr with rfl | rfl
    all_goals
      go_enter Try.func16, Try.ntmps16
      go_wp2_with (first | (go_at_call 43; refine (ruleOk _ _).mono ?_; rintro e w' ⟨rfl, rfl⟩) | (go_at_call 44; refine (bitOk _ _).mono ?_; rintro e w' ⟨rfl, rfl⟩))
      go_ret
      exact ⟨ret_int (by rw [hv]; rw [and_one _ (by omega) (by omega)]; simp [bitI]), rfl⟩
  all_goals
    have hv : rbI rule l o r = -1 := by simp [rbI, hru, hl, ho, hr]
    go_enter Try.func16, Try.ntmps16
    go_wp2_with (first | (go_at_call 43; refine (ruleOk _ _).mono ?_; rintro e w' ⟨rfl, rfl⟩) | (go_at_call 44; refine (bitOk _ _).mono ?_; rintro e w' ⟨rfl, rfl⟩))
    go_ret
    exact ⟨ret_int (by first | rfl | rw [hv]), rfl⟩
theorem ruleBitS (rule l o r : Int) (w : World) : Calls Try.prog 15 #[.int .i64 rule, .int .i64 l, .int .i64 o, .int .i64 r] w fun e w' => e = .returned (.int .i64 (rbI rule l o r)) ∧ w = w' := by
  cases hru : inB rule 0 255 <;> cases hl : inB l 0 1 <;> cases ho : inB o 0 1 <;> cases hr : inB r 0 1
  case true.true.true.true =>
    have hb := r256 hru
    obtain ⟨hb0, hb1⟩ := hb
    have hv := rb_ok hru hl ho hr
    rcases two hl with rfl | rfl <;> rcases two ho with rfl | rfl <;> rcases two hr with rfl | rfl
    all_goals
      go_enter Try.func15, Try.ntmps15
      go_wp2_with (first | (go_at_call 41; refine (l1In _ _ _ _).mono ?_; rintro e w' ⟨rfl, rfl⟩) | (go_at_call 42; refine (l1Bit _ _ _ hb0 (by omega) (by omega) (by omega)).mono ?_; rintro e w' ⟨rfl, rfl⟩))
      go_ret
      exact ⟨ret_int (by rw [hv]; simp), rfl⟩
  all_goals
    have hv : rbI rule l o r = -1 := by simp [rbI, hru, hl, ho, hr]
    go_enter Try.func15, Try.ntmps15
    go_wp2_with (go_at_call 41; refine (l1In _ _ _ _).mono ?_; rintro e w' ⟨rfl, rfl⟩)
    go_ret
    exact ⟨ret_int (by first | rfl | rw [hv]), rfl⟩
set_option maxHeartbeats 1000000 in
theorem ruleFlip (rule : Int) (w : World) : Calls Try.prog 20 #[.int .i64 rule] w fun e w' => e = .returned (.int .i64 (rfI rule)) ∧ w = w' := by
  cases h : inB rule 0 255
  · have hv : rfI rule = -1 := by simp [rfI, h]
    go_enter Try.func20, Try.ntmps20
    go_wp2_with (go_at_call 43; refine (ruleOk _ _).mono ?_; rintro e w' ⟨rfl, rfl⟩)
    go_ret
    exact ⟨ret_int (by first | rfl | rw [hv]), rfl⟩
  · obtain ⟨h0, h1⟩ := r256 h
    go_enter Try.func20, Try.ntmps20
    go_wp2_with (go_at_call 43; refine (ruleOk _ _).mono ?_; rintro e w' ⟨rfl, rfl⟩)
    refine wp_loop_rounds 9 ?_
    iterate 9 (rw [rounds_succ]; go_wp2_with (go_at_call 16; refine (ruleBit _ _ _ _ _).mono ?_; rintro e w' ⟨rfl, rfl⟩))
    go_ret
    refine ⟨ret_int ?_, rfl⟩
    obtain ⟨x, hx⟩ : ∃ x, x = rule := ⟨_, rfl⟩
    rw [← hx] at h0 h1 ⊢
    clear hx
    revert h1
    revert h0
    revert x
    refine all256 ?_
    decide +kernel
set_option maxHeartbeats 1000000 in
theorem ruleFlipS (rule : Int) (w : World) : Calls Try.prog 19 #[.int .i64 rule] w fun e w' => e = .returned (.int .i64 (rfI rule)) ∧ w = w' := by
  cases h : inB rule 0 255
  · have hv : rfI rule = -1 := by simp [rfI, h]
    go_enter Try.func19, Try.ntmps19
    go_wp2_with (go_at_call 41; refine (l1In _ _ _ _).mono ?_; rintro e w' ⟨rfl, rfl⟩)
    go_ret
    exact ⟨ret_int (by first | rfl | rw [hv]), rfl⟩
  · obtain ⟨h0, h1⟩ := r256 h
    go_enter Try.func19, Try.ntmps19
    go_wp2_with (go_at_call 41; refine (l1In _ _ _ _).mono ?_; rintro e w' ⟨rfl, rfl⟩)
    refine wp_loop_rounds 9 ?_
    iterate 9 (rw [rounds_succ]; go_wp2_with (go_at_call 15; refine (ruleBitS _ _ _ _ _).mono ?_; rintro e w' ⟨rfl, rfl⟩))
    go_ret
    refine ⟨ret_int ?_, rfl⟩
    obtain ⟨x, hx⟩ : ∃ x, x = rule := ⟨_, rfl⟩
    rw [← hx] at h0 h1 ⊢
    clear hx
    revert h1
    revert h0
    revert x
    refine all256 ?_
    decide +kernel
theorem all_step {zs : List Int} {k : Nat} {x : Int} (hx : zs[k]? = some x) (h : ∀ j, j < k → ∀ y, zs[j]? = some y → inB y 0 1 = true) (hb : inB x 0 1 = true) : ∀ j, j < k + 1 → ∀ y, zs[j]? = some y → inB y 0 1 = true := by
  intro j hj y hy
  by_cases e : j = k
  · subst e; rw [hx] at hy; cases hy; exact hb
  · exact h j (by omega) y hy
theorem all_all {zs : List Int} (h : ∀ j, j < zs.length → ∀ y, zs[j]? = some y → inB y 0 1 = true) : (zs.all fun n => inB n 0 1) = true := by
  rw [List.all_eq_true]
  intro x hx
  obtain ⟨j, hj⟩ := List.getElem?_of_mem hx
  exact h j (List.getElem?_eq_some_iff.1 hj).1 x hj
theorem all_bad {zs : List Int} {k : Nat} {x : Int} (hx : zs[k]? = some x) (hb : inB x 0 1 = false) : (zs.all fun n => inB n 0 1) = false := by
  rw [List.all_eq_false]
  exact ⟨x, List.mem_of_getElem? hx, by simp [hb]⟩

theorem badBit (n : Int) (w : World) : Calls Try.prog 47 #[.int .i64 n] w fun e w' => e = .returned (.bool (!inB n 0 1)) ∧ w = w' := by
  go_enter Try.func47, Try.ntmps47
  go_wp2_with (go_at_call 44; refine (bitOk _ _).mono ?_; rintro e w' ⟨rfl, rfl⟩)
  go_ret
  exact ⟨rfl, rfl⟩

def IdxPost (w : World) (b : Bool) (e : Ending) (w' : World) : Prop := ∃ r : Int, e = .returned (.int .i64 r) ∧ decide (0 ≤ r) = b ∧ w = w'
theorem indexBad (A : Option Addr) (n : Nat) (zs : List Int) (c : Nat) (w : World) (hr : RI w w.heap.size A n zs) (hl : n ≤ 1125899906842624) :
    Calls Try.prog 58 #[.slice A n c, .func (.func 47) #[] #[]] w (IdxPost w (!(zs.all fun n => inB n 0 1))) := by
  obtain rfl := hr.len
  go_enter Try.func58, Try.ntmps58
  go_wp2
  go_loop [8] (fun i => ∃ k : Nat, k ≤ zs.length ∧ i = .int .i64 k ∧ ∀ j, j < k → ∀ y, zs[j]? = some y → inB y 0 1 = true) (fun i => zs.length - (intOf i).toNat)
  case atStart => exact ⟨0, Nat.zero_le _, rfl, fun j hj => absurd hj (by omega)⟩
  case round =>
    obtain ⟨k, hk, rfl, hall⟩ := hrel
    have HA := Lib.hid hall
    clear hall
    by_cases hlt : k < zs.length
    · obtain ⟨ad, x, rfl, hb, hx, hc⟩ := hr.at_ hlt
      have HX := Lib.hid hx
      clear hx
      cases hbx : inB x 0 1
      · go_wp2_with (go_at_call 47; refine (badBit _ _).mono ?_; rintro e w' ⟨rfl, rfl⟩)
        go_ret
        exact ⟨k, rfl, by rw [all_bad HX.out hbx]; simp, rfl⟩
      · go_wp2_with (go_at_call 47; refine (badBit _ _).mono ?_; rintro e w' ⟨rfl, rfl⟩)
        go_round
        case rel => exact ⟨k + 1, by omega, by go_num, all_step HX.out HA.out hbx⟩
        case measure => simp [intOf]; omega
    · obtain rfl : k = zs.length := by omega
      go_wp2
      go_ret
      exact ⟨-1, rfl, by rw [all_all HA.out]; rfl, rfl⟩

theorem containsBad (A : Option Addr) (n : Nat) (zs : List Int) (c : Nat) (w : World) (hr : RI w w.heap.size A n zs) (hl : n ≤ 1125899906842624) :
    Calls Try.prog 46 #[.slice A n c, .func (.func 47) #[] #[]] w fun e w' => e = .returned (.bool (!(zs.all fun n => inB n 0 1))) ∧ w = w' := by
  go_enter Try.func46, Try.ntmps46
  go_wp2_with fail
  refine (indexBad A n zs c w hr hl).mono ?_
  rintro e w' ⟨r, rfl, hd, rfl⟩
  have HD := Lib.hid hd
  clear hd
  go_wp2
  go_ret
  exact ⟨ret_bool HD.out, rfl⟩

theorem ringValid (A : Option Addr) (n : Nat) (zs : List Int) (c : Nat) (w : World) (hr : RI w w.heap.size A n zs) (hl : n ≤ 1048577) :
    Calls Try.prog 23 #[.slice A n c] w fun e w' => e = .returned (.bool (rvB zs)) ∧ w = w' := by
  have hlen := hr.len
  by_cases h : 3 ≤ n ∧ n ≤ 12
  · have hb : inB (n : Int) 3 12 = true := inB_t (by omega) (by omega)
    have hv : rvB zs = (zs.all fun n => inB n 0 1) := by simp [rvB, hlen, h]
    have HV := Lib.hid hv
    clear hv hlen h
    go_enter Try.func23, Try.ntmps23
    have hq : n ≤ 1125899906842624 := by omega
    go_wp2_with (first | (go_at_call 45; refine (within _ _ _ _).mono ?_; rintro e w' ⟨rfl, rfl⟩) | (go_at_call 46; refine (containsBad _ _ zs _ _ hr hq).mono ?_; rintro e w' ⟨rfl, rfl⟩))
    go_ret
    exact ⟨ret_bool (by rw [HV.out]; try simp), rfl⟩
  · have hb : inB (n : Int) 3 12 = false := inB_f (by omega)
    have hv : rvB zs = false := by simp only [rvB, hlen, Bool.and_eq_false_iff, decide_eq_false_iff_not]; exact .inl h
    clear hlen h
    go_enter Try.func23, Try.ntmps23
    go_wp2_with (go_at_call 45; refine (within _ _ _ _).mono ?_; rintro e w' ⟨rfl, rfl⟩)
    go_ret
    exact ⟨ret_bool (by first | rfl | rw [hv]), rfl⟩
theorem ringValidS (A : Option Addr) (n : Nat) (zs : List Int) (c : Nat) (w : World) (hr : RI w w.heap.size A n zs) (hl : n ≤ 1048577) :
    Calls Try.prog 21 #[.slice A n c] w fun e w' => e = .returned (.bool (rvB zs)) ∧ w = w' := by
  obtain rfl := hr.len
  go_enter Try.func21, Try.ntmps21
  go_wp2
  go_loop [3] (fun i => ∃ k : Nat, k ≤ zs.length ∧ i = .int .i64 k ∧ ∀ j, j < k → ∀ y, zs[j]? = some y → inB y 0 1 = true) (fun i => zs.length - (intOf i).toNat)
  case atStart => exact ⟨0, Nat.zero_le _, rfl, fun j hj => absurd hj (by omega)⟩
  case round =>
    obtain ⟨k, hk, rfl, hall⟩ := hrel
    have HA := Lib.hid hall
    clear hall
    by_cases hlt : k < zs.length
    · obtain ⟨ad, x, rfl, hb, hx, hc⟩ := hr.at_ hlt
      have HX := Lib.hid hx
      clear hx
      cases hbx : inB x 0 1
      · go_wp2_with (go_at_call 41; refine (l1In _ _ _ _).mono ?_; rintro e w' ⟨rfl, rfl⟩)
        go_ret
        exact ⟨ret_bool (by rw [rvB, all_bad HX.out hbx]; simp), rfl⟩
      · go_wp2_with (go_at_call 41; refine (l1In _ _ _ _).mono ?_; rintro e w' ⟨rfl, rfl⟩)
        go_round
        case rel => exact ⟨k + 1, by omega, by go_num, all_step HX.out HA.out hbx⟩
        case measure => simp [intOf]; omega
    · obtain rfl : k = zs.length := by omega
      go_wp2_with (go_at_call 41; refine (l1In _ _ _ _).mono ?_; rintro e w' ⟨rfl, rfl⟩)
      go_ret
      exact ⟨ret_bool (by rw [rvB, all_all HA.out, Bool.eq_iff_iff]; simp [inB]; omega), rfl⟩
end Go.Proofs.Ytfdgoddcpfgfjaa

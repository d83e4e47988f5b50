/- The walks of the drawn laws on rules and rings. -/
import Derived.Test.YtfdgoddcpfgfjaaRing3
import Derived.Test.YtfdgoddcpfgfjaaPlRing3
import Derived.Test.YtfdgoddcpfgfjaaDrawRing
import Derived.Test.YtfdgoddcpfgfjaaGuard
namespace Go.Proofs.Ytfdgoddcpfgfjaa
open Go.RowKit
set_option linter.unusedVariables false

theorem results_tmp4 {fn : Func} {t u v x : Tmp} (h : fn.results = #[.tmp t, .tmp u, .tmp v, .tmp x]) (tmps : Array Value) (P : Program) (w : World) :
    (results fn tmps).run P w = .ok (.tuple #[tmps.getD t undef, tmps.getD u undef, tmps.getD v undef, tmps.getD x undef]) w := by
  simp [results, h]
theorem drawRuleBit (A : Option Addr) (zs : List Int) (c : Nat) (w : World) (h : RB w w.heap.size A zs) (hc : zs.length ≤ c) (hcm : c ≤ maxLen) :
    Calls Try.prog 25 #[.slice A zs.length c] w fun e w' => ∃ x y z t : Int, e = .returned (.tuple #[.int .i64 x, .int .i64 y, .int .i64 z, .int .i64 t]) ∧ Below w.heap.size w w' := by
  go_enter Try.func25, Try.ntmps25
  go_wp2_with fail
  refine (l20Open A zs c w h hc hcm).mono ?_
  rintro e w1 ⟨rfl, hR1, hb1⟩
  go_wp2_with fail
  refine (l20Rule _ 0 w1 hR1 (by omega)).mono ?_
  rintro e w2 ⟨x, rfl, hx0, hx1, hR2, hg2⟩
  have hb2 := below_grown hb1 hg2 (Nat.le_refl _)
  clear hg2 hR1
  go_wp2_with fail
  refine (pick _ _ 2 w2 hR2 (by omega)).mono ?_
  rintro e w3 ⟨y, rfl, hy0, hy1, hy2, hR3, hg3⟩
  have hy3 := hy2 (by omega)
  have hb3 := hb2.grown hg3 hb2.size (fun k e => by cases e; exact Nat.le_refl _)
  clear hg3 hR2 hy1 hy2
  go_wp2_with fail
  refine (pick _ _ 20 w3 hR3 (by omega)).mono ?_
  rintro e w4 ⟨y1, rfl, hy10, hy1, hy2, hR4, hg4⟩
  have hy4 := hy2 (by omega)
  have hb4 := hb3.grown hg4 hb3.size (fun k e => by cases e; exact Nat.le_refl _)
  clear hg4 hR3 hy1 hy2
  go_wp2_with fail
  refine (pick _ _ 2 w4 hR4 (by omega)).mono ?_
  rintro e w5 ⟨z, rfl, hz0, hz1, hz2, hR5, hg5⟩
  have hz3 := hz2 (by omega)
  have hb5 := hb4.grown hg5 hb4.size (fun k e => by cases e; exact Nat.le_refl _)
  clear hg5 hR4 hz1 hz2
  go_wp2_with fail
  refine (pick _ _ 2 w5 hR5 (by omega)).mono ?_
  rintro e w6 ⟨t, rfl, ht0, ht1, ht2, hR6, hg6⟩
  have ht3 := ht2 (by omega)
  have hb6 := hb5.grown hg6 hb5.size (fun k e => by cases e; exact Nat.le_refl _)
  clear hg6 hR5 ht1 ht2
  go_wp2_with fail
  refine (pick _ _ 20 w6 hR6 (by omega)).mono ?_
  rintro e w7 ⟨u, rfl, hu0, hu1, hu2, hR7, hg7⟩
  have hu3 := hu2 (by omega)
  have hb7 := hb6.grown hg7 hb6.size (fun k e => by cases e; exact Nat.le_refl _)
  clear hg7 hR6 hu1 hu2
  go_wp2
  (try simp only [Exit.inBlock, Exit.then])
  refine bodyPost_ret (results_tmp4 rfl _ _ _) rfl ?_
  exact ⟨_, _, _, _, rfl, hb7⟩
theorem drawRuleFlip (A : Option Addr) (zs : List Int) (c : Nat) (w : World) (h : RB w w.heap.size A zs) (hc : zs.length ≤ c) (hcm : c ≤ maxLen) :
    Calls Try.prog 34 #[.slice A zs.length c] w fun e w' => ∃ x : Int, e = .returned (.int .i64 x) ∧ Below w.heap.size w w' := by
  go_enter Try.func34, Try.ntmps34
  go_wp2_with fail
  refine (l20Open A zs c w h hc hcm).mono ?_
  rintro e w1 ⟨rfl, hR1, hb1⟩
  go_wp2_with fail
  refine (l20Rule _ 0 w1 hR1 (by omega)).mono ?_
  rintro e w2 ⟨x, rfl, hx0, hx1, hR2, hg2⟩
  have hb2 := below_grown hb1 hg2 (Nat.le_refl _)
  go_wp2
  go_ret
  exact ⟨x, rfl, hb2⟩
/-- one new slice of at most 13 integers -/
def DrewOne (w : World) (e : Ending) (w' : World) : Prop := ∃ A n c zs, e = .returned (.slice A n c) ∧ OI w' w.heap.size A n c zs ∧ n ≤ 13 ∧ Below w.heap.size w w'
theorem drawRingValid (A : Option Addr) (zs : List Int) (c : Nat) (w : World) (h : RB w w.heap.size A zs) (hc : zs.length ≤ c) (hcm : c ≤ maxLen) :
    Calls Try.prog 27 #[.slice A zs.length c] w (DrewOne w) := by
  go_enter Try.func27, Try.ntmps27
  go_wp2_with fail
  refine (l20Open A zs c w h hc hcm).mono ?_
  rintro e w1 ⟨rfl, hR1, hb1⟩
  go_wp2_with fail
  refine (l20Long _ 0 w1 hR1 (by omega)).mono ?_
  rintro e w2 ⟨x, rfl, hx0, hx1, hR2, hg2⟩
  have hb2 := below_grown hb1 hg2 (Nat.le_refl _)
  go_wp2_with fail
  refine (l20Ring _ _ x 2 w2 hR2 (by omega) (by omega) hx1 (by omega)).mono ?_
  rintro e w3 ⟨A3, n3, c3, z3, rfl, hO3, hn3, hR3, hg3⟩
  have hb3 := hb2.grown hg3 hb2.size (fun k e => by cases e; exact Nat.le_refl _)
  go_wp2
  go_ret
  exact ⟨A3, n3, c3, z3, rfl, hO3.mono hb2.size, hn3, hb3⟩
theorem drawRingShift (A : Option Addr) (zs : List Int) (c : Nat) (w : World) (h : RB w w.heap.size A zs) (hc : zs.length ≤ c) (hcm : c ≤ maxLen) :
    Calls Try.prog 39 #[.slice A zs.length c] w fun e w' => ∃ (A' : Option Addr) (n' c' : Nat) (xs : List Int) (y : Int), e = .returned (.tuple #[.slice A' n' c', .int .i64 y]) ∧ OI w' w.heap.size A' n' c' xs ∧ n' ≤ 13 ∧ Below w.heap.size w w' := by
  go_enter Try.func39, Try.ntmps39
  go_wp2_with fail
  refine (l20Open A zs c w h hc hcm).mono ?_
  rintro e w1 ⟨rfl, hR1, hb1⟩
  go_wp2_with fail
  refine (l20Long _ 0 w1 hR1 (by omega)).mono ?_
  rintro e w2 ⟨x, rfl, hx0, hx1, hR2, hg2⟩
  have hb2 := below_grown hb1 hg2 (Nat.le_refl _)
  clear hg2 hR1
  go_wp2_with fail
  refine (l20Ring _ _ x 9 w2 hR2 (by omega) (by omega) hx1 (by omega)).mono ?_
  rintro e w3 ⟨A3, n3, c3, z3, rfl, hO3, hn3, hR3, hg3⟩
  have hb3 := hb2.grown hg3 hb2.size (fun k e => by cases e; exact Nat.le_refl _)
  have hgs : w.heap.size < w2.heap.size := hR2.lt
  clear hg3 hR2
  go_wp2_with fail
  refine (pick _ _ 14 w3 hR3 (by omega)).mono ?_
  rintro e w4 ⟨y, rfl, hy0, hy1, hy2, hR4, hg4⟩
  have hy3 := hy2 (by omega)
  have hb4 := hb3.grown hg4 hb3.size (fun k e => by cases e; exact Nat.le_refl _)
  replace hO3 := hO3.apart hg4 (.inl hgs)
  clear hg4 hR3 hy1 hy2
  go_wp2_with fail
  refine (pick _ _ 20 w4 hR4 (by omega)).mono ?_
  rintro e w5 ⟨z, rfl, hz0, hz1, hz2, hR5, hg5⟩
  have hz3 := hz2 (by omega)
  have hb5 := hb4.grown hg5 hb4.size (fun k e => by cases e; exact Nat.le_refl _)
  replace hO3 := hO3.apart hg5 (.inl hgs)
  clear hg5 hR4 hz1 hz2
  go_wp2
  go_ret2
  exact ⟨A3, n3, c3, z3, _, rfl, hO3.mono (by omega), hn3, hb5⟩
set_option maxHeartbeats 2000000 in
theorem walkFnRuleBit (w : World) (A : Option Addr) (zs : List Int) (c : Nat) (hc : zs.length ≤ c ∧ c ≤ maxLen) (h : RB w w.heap.size A zs) :
    Calls Try.prog 7 #[.slice A zs.length c] w fun e w' => e = .returned (.bool true) ∧ Below w.heap.size w w' := by
  have hcm := hc.2
  unfold maxLen at hcm
  by_cases hl : 1048576 < zs.length
  · go_enter Try.func7, Try.ntmps7
    go_wp2
    go_ret
    exact ⟨rfl, Below.refl _ _⟩
  · go_enter Try.func7, Try.ntmps7
    go_wp2_with fail
    refine (drawRuleBit A zs c w h hc.1 hc.2).mono ?_
    rintro e w1 ⟨x, y, z, t, rfl, hb1⟩
    cases hok : (inB x 0 255 && inB y 0 1 && inB z 0 1 && inB t 0 1)
    · have hv : rbI x y z t = -1 := by simp [rbI, hok]
      clear hok
      go_wp2_with (first | (go_at_call 16; refine (ruleBit _ _ _ _ _).mono ?_; rintro e w' ⟨rfl, rfl⟩) | (go_at_call 15; refine (ruleBitS _ _ _ _ _).mono ?_; rintro e w' ⟨rfl, rfl⟩) | (go_at_call 26; refine (alive _).mono ?_; rintro e w' ⟨rfl, rfl⟩))
      go_ret
      exact ⟨rfl, hb1⟩
    · simp only [Bool.and_eq_true] at hok
      obtain ⟨⟨⟨hr, hl0⟩, hl1⟩, hl2⟩ := hok
      obtain ⟨v0, v1⟩ := rb_01 hr hl0 hl1 hl2
      obtain ⟨p0, q0⟩ := rb_01 (l := 0) (o := 0) (r := 0) hr (by decide) (by decide) (by decide)
      obtain ⟨p1, q1⟩ := rb_01 (l := 0) (o := 0) (r := 1) hr (by decide) (by decide) (by decide)
      obtain ⟨p2, q2⟩ := rb_01 (l := 0) (o := 1) (r := 0) hr (by decide) (by decide) (by decide)
      obtain ⟨p3, q3⟩ := rb_01 (l := 0) (o := 1) (r := 1) hr (by decide) (by decide) (by decide)
      obtain ⟨p4, q4⟩ := rb_01 (l := 1) (o := 0) (r := 0) hr (by decide) (by decide) (by decide)
      obtain ⟨p5, q5⟩ := rb_01 (l := 1) (o := 0) (r := 1) hr (by decide) (by decide) (by decide)
      obtain ⟨p6, q6⟩ := rb_01 (l := 1) (o := 1) (r := 0) hr (by decide) (by decide) (by decide)
      obtain ⟨p7, q7⟩ := rb_01 (l := 1) (o := 1) (r := 1) hr (by decide) (by decide) (by decide)
      have hsum := rb_sum hr
      clear hr hl0 hl1 hl2
      go_wp2_with (first | (go_at_call 16; refine (ruleBit _ _ _ _ _).mono ?_; rintro e w' ⟨rfl, rfl⟩) | (go_at_call 15; refine (ruleBitS _ _ _ _ _).mono ?_; rintro e w' ⟨rfl, rfl⟩))
      refine wp_loop_rounds 9 ?_
      iterate 9 (rw [rounds_succ]; go_wp2_with (go_at_call 16; refine (ruleBit _ _ _ _ _).mono ?_; rintro e w' ⟨rfl, rfl⟩))
      go_ret
      exact ⟨rfl, hb1⟩
set_option maxHeartbeats 2000000 in
theorem walkFnRuleFlip (w : World) (A : Option Addr) (zs : List Int) (c : Nat) (hc : zs.length ≤ c ∧ c ≤ maxLen) (h : RB w w.heap.size A zs) :
    Calls Try.prog 11 #[.slice A zs.length c] w fun e w' => e = .returned (.bool true) ∧ Below w.heap.size w w' := by
  have hcm := hc.2
  unfold maxLen at hcm
  by_cases hl : 1048576 < zs.length
  · go_enter Try.func11, Try.ntmps11
    go_wp2
    go_ret
    exact ⟨rfl, Below.refl _ _⟩
  · go_enter Try.func11, Try.ntmps11
    go_wp2_with fail
    refine (drawRuleFlip A zs c w h hc.1 hc.2).mono ?_
    rintro e w1 ⟨x, rfl, hb1⟩
    have hs1 := hb1.size
    cases hok : inB x 0 255
    · have hv : rfI x = -1 := by simp [rfI, hok]
      clear hok
      go_wp2_with (first | (go_at_call 20; refine (ruleFlip _ _).mono ?_; rintro e w' ⟨rfl, rfl⟩) | (go_at_call 19; refine (ruleFlipS _ _).mono ?_; rintro e w' ⟨rfl, rfl⟩) | (go_at_call 26; refine (alive _).mono ?_; rintro e w' ⟨rfl, rfl⟩))
      go_ret
      exact ⟨rfl, hb1⟩
    · obtain ⟨v0, v1, v2, v3⟩ := rf_rf hok
      have HV2 := Lib.hid v2
      have HV3 := Lib.hid v3
      clear hok v2 v3
      go_wp2_with fail
      refine (ruleFlip x _).mono ?_
      rintro e w' ⟨rfl, rfl⟩
      go_wp2_with (go_at_call 19; refine (ruleFlipS _ _).mono ?_; rintro e w' ⟨rfl, rfl⟩)
      refine (ruleFlip (rfI x) _).mono ?_
      rintro e w' ⟨rfl, rfl⟩
      rw [HV2.out]
      go_wp2_with fail
      refine (ruleLinear _ _).mono ?_
      rintro e w2 ⟨rfl, hb2⟩
      rw [HV3.out]
      have hs2 := hb2.size
      go_wp2_with fail
      refine (ruleLinear _ _).mono ?_
      rintro e w3 ⟨rfl, hb3⟩
      go_wp2
      go_ret
      exact ⟨ret_bool (by simp), (hb1.trans (hb2.mono hs1)).trans (hb3.mono (by omega))⟩
theorem OS.one (w : World) (x : Int) : OS (w.alloc (.cells #[.int .i64 x] 3)) w.heap.size (some ⟨w.heap.size, 0, none⟩) 1 1 [x] :=
  ⟨by simp, .inr ⟨w.heap.size, 1, #[.int .i64 x], rfl, Nat.le_refl _, heap_alloc_new _ _, Nat.le_refl _, by simp [maxLen], by simp, by simp⟩⟩
set_option maxHeartbeats 2000000 in
theorem walkFnRingValid (w : World) (A : Option Addr) (zs : List Int) (c : Nat) (hc : zs.length ≤ c ∧ c ≤ maxLen) (h : RB w w.heap.size A zs) :
    Calls Try.prog 8 #[.slice A zs.length c] w fun e w' => e = .returned (.bool true) ∧ Below w.heap.size w w' := by
  have hcm := hc.2
  unfold maxLen at hcm
  by_cases hl : 1048576 < zs.length
  · go_enter Try.func8, Try.ntmps8
    go_wp2
    go_ret
    exact ⟨rfl, Below.refl _ _⟩
  · go_enter Try.func8, Try.ntmps8
    go_wp2_with fail
    refine (drawRingValid A zs c w h hc.1 hc.2).mono ?_
    rintro e w1 ⟨A1, n1, c1, xs, rfl, hO1, hn1, hb1⟩
    have hs1 := hb1.size
    have hlen := hO1.len
    have h2 := rv_two xs
    have HO1 := Lib.hid hO1
    cases hv : rvB xs
    · clear hlen hO1
      go_wp2_with fail
      refine (ringValid A1 n1 xs _ _ HO1.out.reads (by omega)).mono ?_
      rintro e w' ⟨rfl, rfl⟩
      go_wp2_with fail
      refine (ringValidS A1 n1 xs _ _ HO1.out.reads (by omega)).mono ?_
      rintro e w' ⟨rfl, rfl⟩
      have hO2 := OS.one w1 2
      have HO2 := Lib.hid hO2
      have hr2 : RI (w1.alloc (.cells #[.int .i64 2] 3)) w1.heap.size A1 n1 xs := HO1.out.reads.alloc (Nat.le_refl _) _
      have HR2 := Lib.hid hr2
      clear hO2 hr2
      go_wp2_with (at_builtin; refine wpList_unguard rfl ?_; refine wpList_pushAll _ rfl _ _ rfl w1.heap.size _ 1 1 [2] rfl w1.heap.size A1 n1 c1 xs rfl HO2.out HR2.out (by omega) (by simp) ?_; intro A4 c4 w4 hO4 hg4)
      refine (ringValid _ _ ([2] ++ xs) _ _ hO4.reads (by omega)).mono ?_
      rintro e w' ⟨rfl, rfl⟩
      rw [List.singleton_append, h2]
      go_wp2_with (go_at_call 26; refine (alive _).mono ?_; rintro e w' ⟨rfl, rfl⟩)
      go_ret
      exact ⟨rfl, (hb1.alloc hs1 _).grown hg4 (by simp; omega) (fun q e => by have := (HO2.out.lt q e).1; omega)⟩
    · have hz := rv_zero hv
      rw [hlen] at hz
      clear hlen hO1
      go_wp2_with fail
      refine (ringValid A1 n1 xs _ _ HO1.out.reads (by omega)).mono ?_
      rintro e w' ⟨rfl, rfl⟩
      go_wp2_with fail
      refine (ringValidS A1 n1 xs _ _ HO1.out.reads (by omega)).mono ?_
      rintro e w' ⟨rfl, rfl⟩
      go_wp2_with (at_make; refine wpList_unguard rfl ?_; refine wpList_mk _ rfl _ _ rfl n1 _ _ rfl rfl rfl rfl (by omega) ?_; intro w2 hO2 hg2)
      refine (ringValid _ _ _ _ _ hO2.reads (by omega)).mono ?_
      rintro e w' ⟨rfl, rfl⟩
      rw [hz]
      have hb2 : Below w1.heap.size w1 w2 := grown_below hg2
      have hs2 := hb2.size
      have hO3 := OS.one w2 2
      have HO3 := Lib.hid hO3
      have hr3 : RI (w2.alloc (.cells #[.int .i64 2] 3)) w2.heap.size A1 n1 xs := ((HO1.out.reads.below hb2).more hs2).alloc (Nat.le_refl _) _
      have HR3 := Lib.hid hr3
      clear hO3 hr3 hO2 hz
      go_wp2_with (at_builtin; refine wpList_unguard rfl ?_; refine wpList_pushAll _ rfl _ _ rfl w2.heap.size _ 1 1 [2] rfl w2.heap.size A1 n1 c1 xs rfl HO3.out HR3.out (by omega) (by simp) ?_; intro A4 c4 w4 hO4 hg4)
      refine (ringValid _ _ ([2] ++ xs) _ _ hO4.reads (by omega)).mono ?_
      rintro e w' ⟨rfl, rfl⟩
      rw [List.singleton_append, h2]
      go_wp2_with (go_at_call 26; refine (alive _).mono ?_; rintro e w' ⟨rfl, rfl⟩)
      go_ret
      exact ⟨rfl, ((hb1.trans (hb2.mono hs1)).alloc (by omega) _).grown hg4 (by simp; omega) (fun q e => by have := (HO3.out.lt q e).1; omega)⟩
set_option maxHeartbeats 2000000 in
theorem walkFnRingShift (w : World) (A : Option Addr) (zs : List Int) (c : Nat) (hc : zs.length ≤ c ∧ c ≤ maxLen) (h : RB w w.heap.size A zs) :
    Calls Try.prog 14 #[.slice A zs.length c] w fun e w' => e = .returned (.bool true) ∧ Below w.heap.size w w' := by
  have hcm := hc.2
  unfold maxLen at hcm
  by_cases hl : 1048576 < zs.length
  · go_enter Try.func14, Try.ntmps14
    go_wp2
    go_ret
    exact ⟨rfl, Below.refl _ _⟩
  · go_enter Try.func14, Try.ntmps14
    go_wp2_with fail
    refine (drawRingShift A zs c w h hc.1 hc.2).mono ?_
    rintro e w1 ⟨A1, n1, c1, xs, y, rfl, hO1, hn1, hb1⟩
    have hs1 := hb1.size
    have hlen := hO1.len
    have e1 : eqL (shL xs y) (shL xs y) = true := eqL_self _
    have e2 : eqL xs xs = true := eqL_self _
    have hL := sh_len xs y
    go_wp2_with fail
    refine (ringShift A1 n1 xs _ y _ hO1.reads (by omega)).mono ?_
    rintro e w2 ⟨A2, n2, c2, rfl, hO2, hb2⟩
    have hn2 : n2 ≤ 12 := by have := hO2.len; omega
    replace hO1 := hO1.below hb2 (Nat.le_refl _)
    have hs2 := hb2.size
    go_wp2_with fail
    refine (ringShiftS A1 n1 xs _ y _ hO1.reads (by omega)).mono ?_
    rintro e w3 ⟨A3, n3, c3, rfl, hO3, hb3⟩
    have hn3 : n3 ≤ 12 := by have := hO3.len; omega
    replace hO1 := hO1.below hb3 (Nat.le_refl _)
    replace hO2 := hO2.below hb3 (Nat.le_refl _)
    have hs3 := hb3.size
    go_wp2_with fail
    refine (sameInts' _ _ _ _ _ _ _ _ _ hO2.reads hO3.reads (by omega) (by omega)).mono ?_
    rintro e w4 ⟨rfl, hb4⟩
    replace hO1 := hO1.below hb4 (Nat.le_refl _)
    replace hO2 := hO2.below hb4 (Nat.le_refl _)
    have hs4 := hb4.size
    have hB4 := ((hb1.trans (hb2.mono hs1)).trans (hb3.mono (by omega))).trans (hb4.mono (by omega))
    have HL2 := Lib.hid hO2.len
    have HL1 := Lib.hid hlen
    clear hO3 hlen
    rcases sh_cases xs y with hnil | ⟨hv, hvx, hlx, hsx⟩
    · have hz : n2 = 0 := by have := HL2.out; rw [hnil] at this; simpa using this.symm
      subst hz
      clear hO1 hO2
      go_wp2_with (go_at_call 26; refine (alive _).mono ?_; rintro e w' ⟨rfl, rfl⟩)
      go_ret
      exact ⟨rfl, hB4⟩
    · obtain rfl : n1 = n2 := by have := HL1.out; have := HL2.out; omega
      have hv3 := rv_len hv
      have hn1a : 3 ≤ n1 := by have := HL1.out; omega
      have hself : shL xs (n1 : Int) = xs := by have := sh_self hv; rwa [HL1.out] at this
      have HSX := Lib.hid hsx
      have HS1 := Lib.hid (sum_bd hv)
      have HS2 := Lib.hid (sum_bd hvx)
      have HSELF := Lib.hid hself
      have hr1 := hO1.reads
      have hr2 := hO2.reads
      have HO1 := Lib.hid hO1
      have HO2 := Lib.hid hO2
      clear hsx hself hv3 hO1 hO2 hlx
      go_wp2
      go_loop [6, 7, 8] (fun s t i => ∃ k : Nat, k ≤ n1 ∧ i = .int .i64 k ∧ s = .int .i64 (xs.take k).sum ∧ t = .int .i64 ((shL xs y).take k).sum) (fun _ _ i => n1 - (intOf i).toNat)
      case atStart => exact ⟨0, Nat.zero_le _, rfl, rfl, rfl⟩
      case round =>
        obtain ⟨k, hk, rfl, rfl, rfl⟩ := hrel
        obtain ⟨d0, d1⟩ := HS1.out k
        obtain ⟨d2, d3⟩ := HS2.out k
        by_cases hlt : k < n1
        · obtain ⟨ad, x, rfl, hbx, hx, hcx⟩ := hr1.at_ (k := k) hlt
          obtain ⟨bd, z, rfl, hbz, hz, hcz⟩ := hr2.at_ (k := k) hlt
          have hx1 := rv_at hv hx
          have hz1 := rv_at hvx hz
          have HX := Lib.hid (sum_succ hx)
          have HZ := Lib.hid (sum_succ hz)
          have hx2 : 0 ≤ x ∧ x ≤ 1 := by omega
          have hz2 : 0 ≤ z ∧ z ≤ 1 := by omega
          obtain ⟨_, _⟩ := hx2
          obtain ⟨_, _⟩ := hz2
          clear hx hz hx1 hz1
          go_wp2
          go_round
          case rel => exact ⟨k + 1, by omega, by go_num, by rw [HX.out], by rw [HZ.out]⟩
          case measure => simp [intOf]; omega
        · obtain rfl : k = n1 := by omega
          have hE : (xs.take k).sum = ((shL xs y).take k).sum := by
            rw [List.take_of_length_le (by have := HL1.out; omega), List.take_of_length_le (by have := HL2.out; omega)]
            exact HSX.out.symm
          rw [← hE] at d2 d3 ⊢
          clear hE
          go_wp2_with fail
          refine (ringShift A1 k xs _ (k : Int) _ hr1 (by omega)).mono ?_
          rintro e w5 ⟨A5, n5, c5, rfl, hO5, hb5⟩
          rw [HSELF.out] at hO5
          have hn5 : n5 ≤ 13 := by have := hO5.len; have := HL1.out; omega
          have hr15 := (hr1.below hb5).more hb5.size
          have hs5 := hb5.size
          have HO25 := Lib.hid (HO2.out.below hb5 (Nat.le_refl _))
          go_wp2_with fail
          refine (sameInts' _ _ _ _ _ _ _ _ _ hO5.reads hr15 (by omega) (by omega)).mono ?_
          rintro e w6 ⟨rfl, hb6⟩
          have hO26 := HO25.out.below hb6 (Nat.le_refl _)
          clear hO5 hr15
          go_wp2_with fail
          refine (ringValid _ _ _ _ _ hO26.reads (by omega)).mono ?_
          rintro e w' ⟨rfl, rfl⟩
          go_wp2
          go_ret
          exact ⟨rfl, (hB4.trans (hb5.mono (by omega))).trans (hb6.mono (by omega))⟩
end Go.Proofs.Ytfdgoddcpfgfjaa

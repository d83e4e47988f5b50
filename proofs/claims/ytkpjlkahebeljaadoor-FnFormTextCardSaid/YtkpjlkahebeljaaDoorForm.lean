/- Contracts: valid formulas. -/
import Derived.Test.YtkpjlkahebeljaaDoorStepsA
import Derived.Test.YtkpjlkahebeljaaDoorPlForm
namespace Go.Proofs.YtkpjlkahebeljaaDoor
open Go.RowKit
set_option linter.unusedVariables false

/-- a bool is returned; nothing that lay has turned -/
def GivesT (w : World) (b : Bool) (e : Ending) (w' : World) : Prop := e = .returned (.bool b) ∧ Below w.heap.size w w'
set_option maxHeartbeats 4000000 in
theorem formValidS (I : Int) (A : Option Addr) (n : Nat) (zs : List Int) (c : Nat) (w : World) (hr : RI w w.heap.size A (n * 3) zs) (hl : n ≤ 1048577) :
    Calls Tryd.prog 26 #[.int .i64 I, .slice A n c] w (GivesT w (fmB I n zs)) := by
  by_cases hI : inB I 1 3 = true
  rotate_left
  · have i1 : inB I 1 3 = false := by simpa using hI
    have HV := Lib.hid (fmB_in (n := n) (zs := zs) i1)
    clear hI
    go_enter Tryd.func26, Tryd.ntmps26
    go_wp2_with (go_at_call 46; refine (l1In _ _ _ _).mono ?_; rintro e w' ⟨rfl, rfl⟩)
    go_ret
    exact ⟨by rw [HV.out]; rfl, Below.refl _ _⟩
  by_cases hn : inB (n : Int) 1 3 = true
  rotate_left
  · have i2 : inB (n : Int) 1 3 = false := by simpa using hn
    have HV := Lib.hid (fmB_n (I := I) (zs := zs) i2)
    clear hn
    go_enter Tryd.func26, Tryd.ntmps26
    go_wp2_with (go_at_call 46; refine (l1In _ _ _ _).mono ?_; rintro e w' ⟨rfl, rfl⟩)
    go_ret
    exact ⟨by rw [HV.out]; rfl, Below.refl _ _⟩
  have hb1 : 1 ≤ I ∧ I ≤ 3 := by simpa [inB] using hI
  have hb2 : 1 ≤ (n : Int) ∧ (n : Int) ≤ 3 := by simpa [inB] using hn
  obtain ⟨a1, a2⟩ := hb1
  obtain ⟨a3, a4⟩ := hb2
  have HI := Lib.hid hI
  have HN := Lib.hid hn
  go_enter Tryd.func26, Tryd.ntmps26
  go_wp2_with (go_at_call 46; refine (l1In _ _ _ _).mono ?_; rintro e w' ⟨rfl, rfl⟩)
  clear hI hn
  go_loopw [5] (fun i wr => ∃ (k : Nat), k ≤ n ∧ i = .int .i64 k ∧ Hid (∀ j, j < k → okS I zs j = true) ∧ Below w.heap.size w wr) (fun i _ => n - (intOf i).toNat)
  case atStart => exact ⟨0, Nat.zero_le _, rfl, Lib.hid fun j hj => absurd hj (by omega), Below.refl _ _⟩
  case round =>
    obtain ⟨k, hk, rfl, HK, hB⟩ := hrel
    have hs := hB.size
    by_cases hlt : k < n
    rotate_left
    · obtain rfl : k = n := by omega
      go_wp2
      go_ret
      exact ⟨by rw [fmB_t HI.out HN.out HK.out]; rfl, hB⟩
    obtain ⟨ad, o, x, y, rfl, hb, g0, g1, g2, c0, c1, c2⟩ := (hr.below hB).three hlt
    have HE := Lib.hid (okS_eq (I := I) g0 g1 g2)
    clear g0 g1 g2
    have hki : (k : Int) ≤ 2 := by omega
    have hki0 : (0 : Int) ≤ (k : Int) := by omega
    have hb2 : Below w.heap.size w (wr.alloc (.cells #[.int .i64 o, .int .i64 x, .int .i64 y] 46)) := hB.alloc hs _
    by_cases h1 : 0 ≤ o ∧ o ≤ 3
    rotate_left
    · have i1 : inB o 0 3 = false := inB_f h1
      have HV := Lib.hid (fmB_f hlt (HE.out.trans (by simp [stB]; omega)))
      clear h1
      go_wp2_with (go_at_call 46; refine (l1In _ _ _ _).mono ?_; rintro e w' ⟨rfl, rfl⟩)
      go_ret
      exact ⟨by rw [HV.out]; rfl, hb2⟩
    obtain ⟨o0, o3⟩ := h1
    have i1 : inB o 0 3 = true := inB_t o0 o3
    by_cases h2 : 0 ≤ x ∧ x ≤ I + k - 1
    rotate_left
    · have i2 : inB x 0 (I + k - 1) = false := inB_f h2
      have HV := Lib.hid (fmB_f hlt (HE.out.trans (by simp [stB]; omega)))
      clear h2
      go_wp2_with (go_at_call 46; refine (l1In _ _ _ _).mono ?_; rintro e w' ⟨rfl, rfl⟩)
      go_ret
      exact ⟨by rw [HV.out]; rfl, hb2⟩
    obtain ⟨x0, x1⟩ := h2
    have i2 : inB x 0 (I + k - 1) = true := inB_t x0 x1
    by_cases h3 : o = 3
    · subst h3
      by_cases h4 : y = 0
      · subst h4
        have HV := Lib.hid (HE.out.trans (show stB I k 3 x 0 = true by simp [stB]; omega))
        go_wp2_with (go_at_call 46; refine (l1In _ _ _ _).mono ?_; rintro e w' ⟨rfl, rfl⟩)
        go_roundw
        case rel => exact ⟨k + 1, by omega, by go_num, Lib.hid fun j hj => by
          by_cases e : j = k
          · rw [e]; exact HV.out
          · exact HK.out j (by omega), hb2⟩
        case measure => simp [intOf]; omega
      · have HV := Lib.hid (fmB_f hlt (HE.out.trans (by simp [stB]; omega)))
        have hy0 : (y != 0) = true := by simpa using h4
        clear h4
        go_wp2_with (go_at_call 46; refine (l1In _ _ _ _).mono ?_; rintro e w' ⟨rfl, rfl⟩)
        go_ret
        exact ⟨by rw [HV.out]; rfl, hb2⟩
    have q1 : (o == 3) = false := by simpa using h3
    have q2 : (o != 3) = true := by simpa using h3
    by_cases h5 : 0 ≤ y ∧ y ≤ I + k - 1
    rotate_left
    · have i3 : inB y 0 (I + k - 1) = false := inB_f h5
      have HV := Lib.hid (fmB_f hlt (HE.out.trans (by simp [stB]; omega)))
      clear h5 h3
      go_wp2_with (go_at_call 46; refine (l1In _ _ _ _).mono ?_; rintro e w' ⟨rfl, rfl⟩)
      go_ret
      exact ⟨by rw [HV.out]; rfl, hb2⟩
    obtain ⟨y0, y1⟩ := h5
    have i3 : inB y 0 (I + k - 1) = true := inB_t y0 y1
    by_cases h6 : x = y
    · subst h6
      have HV := Lib.hid (fmB_f hlt (HE.out.trans (by simp [stB]; omega)))
      clear h3
      go_wp2_with (go_at_call 46; refine (l1In _ _ _ _).mono ?_; rintro e w' ⟨rfl, rfl⟩)
      go_ret
      exact ⟨by rw [HV.out]; rfl, hb2⟩
    · have HV := Lib.hid (HE.out.trans (show stB I k o x y = true by simp [stB]; omega))
      have q3 : (x == y) = false := by simpa using h6
      have q4 : (y == x) = false := by simp; omega
      clear h3 h6
      go_wp2_with (go_at_call 46; refine (l1In _ _ _ _).mono ?_; rintro e w' ⟨rfl, rfl⟩)
      go_roundw
      case rel => exact ⟨k + 1, by omega, by go_num, Lib.hid fun j hj => by
        by_cases e : j = k
        · rw [e]; exact HV.out
        · exact HK.out j (by omega), hb2⟩
      case measure => simp [intOf]; omega
set_option maxHeartbeats 4000000 in
theorem formValid (I : Int) (A : Option Addr) (n : Nat) (zs : List Int) (c : Nat) (w : World) (hr : RI w w.heap.size A (n * 3) zs) (hl : n ≤ 1048577) :
    Calls Tryd.prog 10 #[.int .i64 I, .slice A n c] w (GivesT w (fmB I n zs)) := by
  by_cases hI : inB I 1 3 = true
  rotate_left
  · have i1 : inB I 1 3 = false := by simpa using hI
    have HV := Lib.hid (fmB_in (n := n) (zs := zs) i1)
    clear hI
    go_enter Tryd.func10, Tryd.ntmps10
    go_wp2_with (go_at_call 28; refine (within _ _ _ _).mono ?_; rintro e w' ⟨rfl, rfl⟩)
    go_ret
    exact ⟨by rw [HV.out]; rfl, Below.refl _ _⟩
  by_cases hn : inB (n : Int) 1 3 = true
  rotate_left
  · have i2 : inB (n : Int) 1 3 = false := by simpa using hn
    have HV := Lib.hid (fmB_n (I := I) (zs := zs) i2)
    clear hn
    go_enter Tryd.func10, Tryd.ntmps10
    go_wp2_with (go_at_call 28; refine (within _ _ _ _).mono ?_; rintro e w' ⟨rfl, rfl⟩)
    go_ret
    exact ⟨by rw [HV.out]; rfl, Below.refl _ _⟩
  have hb1 : 1 ≤ I ∧ I ≤ 3 := by simpa [inB] using hI
  have hb2 : 1 ≤ (n : Int) ∧ (n : Int) ≤ 3 := by simpa [inB] using hn
  obtain ⟨a1, a2⟩ := hb1
  obtain ⟨a3, a4⟩ := hb2
  have HI := Lib.hid hI
  have HN := Lib.hid hn
  go_enter Tryd.func10, Tryd.ntmps10
  go_wp2_with (go_at_call 28; refine (within _ _ _ _).mono ?_; rintro e w' ⟨rfl, rfl⟩)
  clear hI hn
  go_loopw [19] (fun i wr => ∃ (k : Nat), k ≤ n ∧ i = .int .i64 k ∧ Hid (∀ j, j < k → okS I zs j = true) ∧ Below w.heap.size w wr) (fun i _ => n - (intOf i).toNat)
  case atStart => exact ⟨0, Nat.zero_le _, rfl, Lib.hid fun j hj => absurd hj (by omega), Below.refl _ _⟩
  case round =>
    obtain ⟨k, hk, rfl, HK, hB⟩ := hrel
    have hs := hB.size
    by_cases hlt : k < n
    rotate_left
    · obtain rfl : k = n := by omega
      go_wp2
      go_ret
      exact ⟨by rw [fmB_t HI.out HN.out HK.out]; rfl, hB⟩
    obtain ⟨ad, o, x, y, rfl, hb, g0, g1, g2, c0, c1, c2⟩ := (hr.below hB).three hlt
    have HE := Lib.hid (okS_eq (I := I) g0 g1 g2)
    clear g0 g1 g2
    have hki : (k : Int) ≤ 2 := by omega
    have hki0 : (0 : Int) ≤ (k : Int) := by omega
    have hb2 : Below w.heap.size w (wr.alloc (.cells #[.int .i64 o, .int .i64 x, .int .i64 y] 46)) := hB.alloc hs _
    by_cases h1 : 0 ≤ o ∧ o ≤ 3
    rotate_left
    · have i1 : inB o 0 3 = false := inB_f h1
      have HV := Lib.hid (fmB_f hlt (HE.out.trans (by simp [stB]; omega)))
      clear h1
      go_wp2_with (go_at_call 28; refine (within _ _ _ _).mono ?_; rintro e w' ⟨rfl, rfl⟩)
      go_ret
      exact ⟨by rw [HV.out]; rfl, hb2⟩
    obtain ⟨o0, o3⟩ := h1
    have i1 : inB o 0 3 = true := inB_t o0 o3
    by_cases h2 : 0 ≤ x ∧ x ≤ I + k - 1
    rotate_left
    · have i2 : inB x 0 (I + k - 1) = false := inB_f h2
      have HV := Lib.hid (fmB_f hlt (HE.out.trans (by simp [stB]; omega)))
      clear h2
      go_wp2_with (go_at_call 28; refine (within _ _ _ _).mono ?_; rintro e w' ⟨rfl, rfl⟩)
      go_ret
      exact ⟨by rw [HV.out]; rfl, hb2⟩
    obtain ⟨x0, x1⟩ := h2
    have i2 : inB x 0 (I + k - 1) = true := inB_t x0 x1
    by_cases h3 : o = 3
    · subst h3
      by_cases h4 : y = 0
      · subst h4
        have HV := Lib.hid (HE.out.trans (show stB I k 3 x 0 = true by simp [stB]; omega))
        go_wp2_with (go_at_call 28; refine (within _ _ _ _).mono ?_; rintro e w' ⟨rfl, rfl⟩)
        go_roundw
        case rel => exact ⟨k + 1, by omega, by go_num, Lib.hid fun j hj => by
          by_cases e : j = k
          · rw [e]; exact HV.out
          · exact HK.out j (by omega), hb2⟩
        case measure => simp [intOf]; omega
      · have HV := Lib.hid (fmB_f hlt (HE.out.trans (by simp [stB]; omega)))
        have hy0 : (y != 0) = true := by simpa using h4
        clear h4
        go_wp2_with (go_at_call 28; refine (within _ _ _ _).mono ?_; rintro e w' ⟨rfl, rfl⟩)
        go_ret
        exact ⟨by rw [HV.out]; rfl, hb2⟩
    have q1 : (o == 3) = false := by simpa using h3
    have q2 : (o != 3) = true := by simpa using h3
    by_cases h5 : 0 ≤ y ∧ y ≤ I + k - 1
    rotate_left
    · have i3 : inB y 0 (I + k - 1) = false := inB_f h5
      have HV := Lib.hid (fmB_f hlt (HE.out.trans (by simp [stB]; omega)))
      clear h5 h3
      go_wp2_with (go_at_call 28; refine (within _ _ _ _).mono ?_; rintro e w' ⟨rfl, rfl⟩)
      go_ret
      exact ⟨by rw [HV.out]; rfl, hb2⟩
    obtain ⟨y0, y1⟩ := h5
    have i3 : inB y 0 (I + k - 1) = true := inB_t y0 y1
    by_cases h6 : x = y
    · subst h6
      have HV := Lib.hid (fmB_f hlt (HE.out.trans (by simp [stB]; omega)))
      clear h3
      go_wp2_with (go_at_call 28; refine (within _ _ _ _).mono ?_; rintro e w' ⟨rfl, rfl⟩)
      go_ret
      exact ⟨by rw [HV.out]; rfl, hb2⟩
    · have HV := Lib.hid (HE.out.trans (show stB I k o x y = true by simp [stB]; omega))
      have q3 : (x == y) = false := by simpa using h6
      have q4 : (y == x) = false := by simp; omega
      clear h3 h6
      go_wp2_with (go_at_call 28; refine (within _ _ _ _).mono ?_; rintro e w' ⟨rfl, rfl⟩)
      go_roundw
      case rel => exact ⟨k + 1, by omega, by go_num, Lib.hid fun j hj => by
        by_cases e : j = k
        · rw [e]; exact HV.out
        · exact HK.out j (by omega), hb2⟩
      case measure => simp [intOf]; omega
end Go.Proofs.YtkpjlkahebeljaaDoor

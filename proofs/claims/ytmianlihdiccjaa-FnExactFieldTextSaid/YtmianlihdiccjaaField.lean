/- Contracts of the helpers on fields: copy, compare, mark, held, size; valid fields; how many balls. -/
import Derived.Test.YtmianlihdiccjaaIntsB
import Derived.Test.YtmianlihdiccjaaMemS
namespace Go.Proofs.Ytmianlihdiccjaa
open Go.RowKit
set_option linter.unusedVariables false

/-- a result that lies in a block of three cells -/
theorem results_field {fn : Func} {t : Tmp} (h : fn.results = #[.cell t 27]) (tmps : Array Value) (w : World) (g : Nat) (ht : tmps.getD t undef = .pointer (some ⟨g, 0, none⟩)) {T : TypeId} {a b c : Value} (hr : Row3 w g T a b c) :
    (results fn tmps).run Try.prog w = .ok (.agg #[a, b, c]) w := by
  obtain ⟨e0, e1, e2, _, _, _⟩ := hr.at_
  rw [Array.getD_eq_getD_getElem?] at ht
  simp [results, h, ht, e0, e1, e2, go_sem]
set_option maxHeartbeats 1000000 in
theorem toField (s : Int) (A : Option Addr) (n : Nat) (zs : List Bool) (c : Nat) (h : Bool) (w : World) (hr : RL w w.heap.size A n zs) (hl : n ≤ 1048576) :
    Calls Try.prog 17 #[.agg #[.int .i64 s, .slice A n c, .bool h]] w (GivesF w s zs h) := by
  obtain ⟨g, hg⟩ : ∃ g, w.heap.size = g := ⟨_, rfl⟩
  obtain ⟨W, hW⟩ : ∃ W, (((w.alloc (.cells #[.int .i64 s, .slice A n c, .bool h] 24)).alloc (.cells #[.int .i64 0, .slice none 0 0, .bool false] 27)).alloc (.cells #[.int .i64 0, .slice none 0 0, .bool false] 27)) = W := ⟨_, rfl⟩
  have hsz : W.heap.size = g + 3 := by rw [← hW, ← hg]; simp
  have r0 : Row3 W g 24 (.int .i64 s) (.slice A n c) (.bool h) := by
    rw [← hW, ← hg]; exact ((Row3.new w _ _ _ _).alloc _).alloc _
  have r1 : Row3 W (g + 1) 27 (.int .i64 0) (.slice none 0 0) (.bool false) := by
    have := (Row3.new (w.alloc (.cells #[.int .i64 s, .slice A n c, .bool h] 24)) 27 (.int .i64 0) (.slice none 0 0) (.bool false)).alloc (.cells #[.int .i64 0, .slice none 0 0, .bool false] 27)
    rw [hW] at this; rw [← hg]; simpa using this
  have r2 : Row3 W (g + 1 + 1) 27 (.int .i64 0) (.slice none 0 0) (.bool false) := by
    have := Row3.new ((w.alloc (.cells #[.int .i64 s, .slice A n c, .bool h] 24)).alloc (.cells #[.int .i64 0, .slice none 0 0, .bool false] 27)) 27 (.int .i64 0) (.slice none 0 0) (.bool false)
    rw [hW] at this; rw [← hg]; simpa using this
  have hb : Below w.heap.size w W := by
    rw [← hW]; exact (((Below.refl _ _).alloc (Nat.le_refl _) _).alloc (by simp) _).alloc (by simp; omega) _
  have HW := Lib.hid hW
  obtain ⟨a0, a1, a2, _, _, _⟩ := r0.at_
  obtain ⟨b0, b1, b2, b3, b4, b5⟩ := r2.at_
  have R0 := Lib.hid r0
  have R1 := Lib.hid r1
  have R2 := Lib.hid r2
  have HG := Lib.hid hg
  have HS := Lib.hid hsz
  clear r0 r1 r2 hsz
  go_enter Try.func17, Try.ntmps17
  go_wp2_with fail
  have hgw : w.heap.size ≤ g + 1 + 1 := by rw [hg]; omega
  have hb1 := hb.setCell (p := ⟨g + 1 + 1, 0, none⟩) hgw (.int .i64 s)
  refine (toBoolS A n zs c _ (hr.arg (Nat.le_refl _) hb1) hl).mono ?_
  rintro e w4 ⟨A4, n4, c4, rfl, hO4, hB4⟩
  have hsz1 : (W.setCell ⟨g + 1 + 1, 0, none⟩ (.int .i64 s)).heap.size = g + 3 := by rw [← HS.out]; simp
  have HS1 := Lib.hid hsz1
  have R0' := Lib.hid ((R0.out.other (p := ⟨g + 1 + 1, 0, none⟩) (by simp; omega) (.int .i64 s)).below hB4 (by rw [hsz1]; omega))
  have R1' := Lib.hid ((R1.out.other (p := ⟨g + 1 + 1, 0, none⟩) (by simp) (.int .i64 s)).below hB4 (by rw [hsz1]; omega))
  have R2' := Lib.hid ((R2.out.set0 (.int .i64 s)).below hB4 (by rw [hsz1]; omega))
  clear a0 a1 a2 b0 b1 b2 b3 b4 b5 R0 R1 R2 hsz1
  obtain ⟨a0, a1, a2, _, _, _⟩ := R0'.out.at_
  obtain ⟨b0, b1, b2, b3, b4, b5⟩ := R2'.out.at_
  obtain ⟨d0, d1, d2, d3, d4, d5⟩ := R1'.out.at_
  have HO4 := Lib.hid hO4
  clear hO4
  go_wp2
  have hgw2 : w.heap.size ≤ g + 1 := by rw [hg]; omega
  have hg4 : g + 1 + 1 < (W.setCell ⟨g + 1 + 1, 0, none⟩ (.int .i64 s)).heap.size := by rw [HS1.out]; omega
  have hg5 : g + 1 < (W.setCell ⟨g + 1 + 1, 0, none⟩ (.int .i64 s)).heap.size := by omega
  have hrow := ((((R1'.out.other (p := ⟨g + 1 + 1, 1, none⟩) (by simp) (.slice A4 n4 c4)).other (p := ⟨g + 1 + 1, 2, none⟩) (by simp) (.bool h)).set0 (.int .i64 s)).set1 (.slice A4 n4 c4)).set2 (.bool h)
  have hO5 := ((((HO4.out.apart (grown_set _ ⟨g + 1 + 1, 1, none⟩ (.slice A4 n4 c4)) (.inl hg4)).apart (grown_set _ ⟨g + 1 + 1, 2, none⟩ (.bool h)) (.inl hg4)).apart (grown_set _ ⟨g + 1, 0, none⟩ (.int .i64 s)) (.inl hg5)).apart (grown_set _ ⟨g + 1, 1, none⟩ (.slice A4 n4 c4)) (.inl hg5)).apart (grown_set _ ⟨g + 1, 2, none⟩ (.bool h)) (.inl hg5)
  have hb4 := (((((hb1.trans (hB4.mono hb1.size)).setCell (p := ⟨g + 1 + 1, 1, none⟩) hgw (.slice A4 n4 c4)).setCell (p := ⟨g + 1 + 1, 2, none⟩) hgw (.bool h)).setCell (p := ⟨g + 1, 0, none⟩) hgw2 (.int .i64 s)).setCell (p := ⟨g + 1, 1, none⟩) hgw2 (.slice A4 n4 c4)).setCell (p := ⟨g + 1, 2, none⟩) hgw2 (.bool h)
  exact bodyPost_ret (results_field rfl _ _ (g + 1) rfl hrow) rfl ⟨A4, n4, c4, rfl, hO5.mono hb1.size, hb4⟩
theorem szField (s : Int) (A : Option Addr) (n c : Nat) (h : Bool) (k : Int) (w : World) (hc : n ≤ c) (hcm : c ≤ maxLen) (h0 : 0 ≤ k) (h1 : k ≤ 1048576) :
    Calls Try.prog 15 #[.agg #[.int .i64 s, .slice A n c, .bool h], .int .i64 k] w (GivesN w (if k < n then -1 else k - n)) := by
  have hb := (Below.refl w.heap.size w).alloc (Nat.le_refl _) (.cells #[.int .i64 s, .slice A n c, .bool h] 24)
  by_cases hk : k < (n : Int)
  · rw [if_pos hk]
    go_enter Try.func15, Try.ntmps15
    go_wp2_with (go_at_call 43; refine (szBoolS _ _ _ _ _ hc hcm h0 h1).mono ?_; rintro e w' ⟨rfl, rfl⟩; rw [if_pos hk])
    go_ret
    exact ⟨rfl, hb⟩
  · rw [if_neg hk]
    have h2 : 0 ≤ k - (n : Int) := by omega
    go_enter Try.func15, Try.ntmps15
    go_wp2_with (go_at_call 43; refine (szBoolS _ _ _ _ _ hc hcm h0 h1).mono ?_; rintro e w' ⟨rfl, rfl⟩; rw [if_neg hk])
    go_ret
    exact ⟨rfl, hb⟩
/-- two fields read the same -/
def feB (s : Int) (xs : List Bool) (h : Bool) (s' : Int) (ys : List Bool) (h' : Bool) : Bool := decide (s = s') && eqB xs ys && decide (h = h')
theorem fe_self (s : Int) (xs : List Bool) (h : Bool) : feB s xs h s xs h = true := by simp [feB, eqB]
set_option maxHeartbeats 1000000 in
/-- used where the two are the same -/
theorem eqField (s : Int) (A : Option Addr) (n : Nat) (xs : List Bool) (c : Nat) (h : Bool) (B : Option Addr) (m : Nat) (ys : List Bool) (d : Nat) (w : World) (hxy : xs = ys) (hr : RL w w.heap.size A n xs) (hr' : RL w w.heap.size B m ys) (hl : n ≤ 1048576) (hl' : m ≤ 1048576) :
    Calls Try.prog 19 #[.agg #[.int .i64 s, .slice A n c, .bool h], .agg #[.int .i64 s, .slice B m d, .bool h]] w (GivesT w true) := by
  have e1 : eqB xs ys = true := eqB_t hxy
  obtain ⟨W, hW⟩ : ∃ W, ((w.alloc (.cells #[.int .i64 s, .slice A n c, .bool h] 27)).alloc (.cells #[.int .i64 s, .slice B m d, .bool h] 27)) = W := ⟨_, rfl⟩
  have hb : Below w.heap.size w W := by rw [← hW]; exact ((Below.refl _ _).alloc (Nat.le_refl _) _).alloc (by simp) _
  obtain ⟨g, hg⟩ : ∃ g, w.heap.size = g := ⟨_, rfl⟩
  have hsz : W.heap.size = g + 2 := by rw [← hW, ← hg]; simp
  have r0 : Row3 W g 27 (.int .i64 s) (.slice A n c) (.bool h) := by rw [← hW, ← hg]; exact (Row3.new w _ _ _ _).alloc _
  have r1 : Row3 W (g + 1) 27 (.int .i64 s) (.slice B m d) (.bool h) := by
    have := Row3.new (w.alloc (.cells #[.int .i64 s, .slice A n c, .bool h] 27)) 27 (.int .i64 s) (.slice B m d) (.bool h)
    rw [hW] at this; rw [← hg]; simpa using this
  obtain ⟨a0, a1, a2, _, _, _⟩ := r0.at_
  obtain ⟨b0, b1, b2, _, _, _⟩ := r1.at_
  have HS := Lib.hid hsz
  have HX := Lib.hid hxy
  clear hsz hxy r0 r1
  go_enter Try.func19, Try.ntmps19
  go_wp2_with fail
  refine (eqBoolS A B n m xs ys c d W (hr.arg (Nat.le_refl _) hb) (hr'.arg (Nat.le_refl _) hb) (by omega) (by omega)).mono ?_
  rintro e w2 ⟨rfl, nd, rfl⟩
  have k0 : ∀ p, (W.drewN nd).cell? p = W.cell? p := fun _ => rfl
  cases h
  all_goals
    go_wp2
    go_ret
    exact ⟨rfl, below_drewN hb nd⟩
theorem markField (s : Int) (A : Option Addr) (n : Nat) (zs : List Bool) (c base : Nat) (h : Bool) (k : Int) (w : World) (ho : OIb w base A n c zs) (hl : n ≤ 1048576) (h0 : 0 ≤ k) (h1 : k ≤ 1048577) :
    Calls Try.prog 28 #[.agg #[.int .i64 s, .slice A n c, .bool h], .int .i64 k] w fun e w' => e = .returned (.int .i64 (k + n)) ∧ OIb w' base A n c (upB k n) ∧ w.grownBy w' (Value.slice A n c).ownBlock := by
  have hg := World.grownBy_alloc w (.cells #[.int .i64 s, .slice A n c, .bool h] 27) (Value.slice A n c).ownBlock
  go_enter Try.func28, Try.ntmps28
  go_wp2_with fail
  refine (markBoolS A n zs c base k _ (ho.alloc _) (by omega) h0 (by omega)).mono ?_
  rintro e w2 ⟨rfl, hO, hg2⟩
  go_wp2
  go_ret
  exact ⟨rfl, hO, hg.trans hg2⟩
theorem heldField (s : Int) (A : Option Addr) (n c : Nat) (h : Bool) (k : Int) (w : World) (hr : RL w w.heap.size A n (upB k n)) (hl : n ≤ 1048576) (h0 : 0 ≤ k) (h1 : k ≤ 1048577) :
    Calls Try.prog 29 #[.agg #[.int .i64 s, .slice A n c, .bool h], .int .i64 k] w (GivesN w (k + n)) := by
  have hb := (Below.refl w.heap.size w).alloc (Nat.le_refl _) (.cells #[.int .i64 s, .slice A n c, .bool h] 27)
  go_enter Try.func29, Try.ntmps29
  go_wp2_with fail
  refine (heldBoolS A n c k _ (hr.arg (Nat.le_refl _) hb) (by omega) h0 (by omega)).mono ?_
  rintro e w2 ⟨rfl, nd, rfl⟩
  have hk : 0 ≤ k + (n : Int) := by omega
  go_wp2
  go_ret
  exact ⟨rfl, below_drewN hb nd⟩
set_option maxHeartbeats 1000000 in
theorem many (s : Int) (A : Option Addr) (n : Nat) (zs : List Bool) (c : Nat) (h : Bool) (w : World) (hr : RL w w.heap.size A n zs) (hl : n ≤ 1048577) :
    Calls Try.prog 47 #[.agg #[.int .i64 s, .slice A n c, .bool h]] w (GivesN w (cnt zs : Int)) := by
  have hlen := hr.len
  have hb := (Below.refl w.heap.size w).alloc (Nat.le_refl _) (.cells #[.int .i64 s, .slice A n c, .bool h] 27)
  have hr1 := hr.arg (Nat.le_refl _) hb
  have HL := Lib.hid hlen
  clear hlen
  go_enter Try.func47, Try.ntmps47
  go_wp2
  go_loop [3, 9] (fun m i => ∃ k : Nat, k ≤ n ∧ i = .int .i64 k ∧ m = .int .i64 (cnt (zs.take k) : Int)) (fun _ i => n - (intOf i).toNat)
  case atStart => exact ⟨0, by omega, rfl, rfl⟩
  case round =>
    obtain ⟨k, hk, rfl, rfl⟩ := hrel
    have hct := cnt_take_le zs k
    by_cases hlt : k < n
    · obtain ⟨ad, x, rfl, hbx, hx, hcx⟩ := hr1.at_ (k := k) hlt
      cases x
      · have HX := Lib.hid (cnt_f hx)
        clear hx
        go_wp2
        go_round
        case rel => exact ⟨k + 1, by omega, by go_num, by rw [HX.out]⟩
        case measure => simp [intOf]; omega
      · have HX := Lib.hid (cnt_t hx)
        clear hx
        go_wp2
        go_round
        case rel => exact ⟨k + 1, by omega, by go_num, by rw [HX.out]; go_num⟩
        case measure => simp [intOf]; omega
    · obtain rfl : k = n := by omega
      go_wp2
      go_ret
      exact ⟨ret_int (by rw [List.take_of_length_le (by rw [HL.out]; exact Nat.le_refl _)]), hb⟩
end Go.Proofs.Ytmianlihdiccjaa

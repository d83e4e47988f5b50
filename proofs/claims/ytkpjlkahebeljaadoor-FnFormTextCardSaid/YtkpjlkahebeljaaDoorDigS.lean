/- Contract: the number that digits spell (the reference). -/
import Derived.Test.YtkpjlkahebeljaaDoorCutS
namespace Go.Proofs.YtkpjlkahebeljaaDoor
open Go.RowKit
set_option linter.unusedVariables false
theorem get_at (s : ByteArray) (k : Nat) (h : k < s.size) : s.data.toList[k]? = some s[k] := by
  rw [Array.getElem?_toList]; exact Array.getElem?_eq_getElem (h := h)
theorem dgS_len {l : List UInt8} (h : l.length < 1 ∨ 4 < l.length) : dgS l = -1 := by
  unfold dgS; rw [if_pos (by omega)]
theorem dgS_lead {l : List UInt8} (h : 1 < l.length) (h0 : l.head? = some 48) : dgS l = -1 := by
  unfold dgS; rw [if_pos (Or.inr (Or.inr ⟨h, h0⟩))]
theorem dgS_bad {l : List UInt8} {b : UInt8} (hb : b ∈ l) (h : b.toNat < 48 ∨ 57 < b.toNat) : dgS l = -1 := by
  unfold dgS
  split
  · rfl
  · rw [if_neg]
    intro ha
    have := List.all_eq_true.1 ha b hb
    simp at this
    omega
theorem dgS_ok {l : List UInt8} (h1 : 1 ≤ l.length) (h4 : l.length ≤ 4) (h0 : ¬ (1 < l.length ∧ l.head? = some 48)) (ha : ∀ b ∈ l, 48 ≤ b.toNat ∧ b.toNat ≤ 57) : dgS l = l.foldl (fun n b => 10 * n + ((b.toNat : Int) - 48)) 0 := by
  unfold dgS
  rw [if_neg (by intro h; rcases h with h | h | h <;> first | omega | exact h0 h), if_pos]
  rw [List.all_eq_true]
  intro b hb
  have := ha b hb
  simp; omega
set_option maxRecDepth 100000 in
set_option maxHeartbeats 8000000 in
theorem digitsS (s : ByteArray) (w : World) (hl : s.size ≤ 1048577) :
    Calls Tryd.prog 36 #[.string s] w (fun e w' => e = .returned (.int .i64 (dgS s.data.toList)) ∧ Below w.heap.size w w') := by
  have hB : Below w.heap.size w w := Below.refl _ _
  have hsz : s.data.toList.length = s.size := by simp
  by_cases hb : s.size < 1 ∨ 4 < s.size
  · have HD := Lib.hid (dgS_len (l := s.data.toList) (by rw [hsz]; exact hb))
    have hin : inB (s.size : Int) 1 4 = false := by simp [inB]; omega
    clear hb hsz
    go_enter Tryd.func36, Tryd.ntmps36
    go_wp2_with (go_at_call 46; refine (l1In _ _ _ _).mono ?_; rintro e w' ⟨rfl, rfl⟩; rw [hin])
    go_ret
    exact ⟨by rw [HD.out]; rfl, hB⟩
  have hin : inB (s.size : Int) 1 4 = true := by simp [inB]; omega
  have hs0 : 0 < s.size := by omega
  have hs0I : (0 : Int) < (s.size : Int) := by omega
  by_cases h0 : 1 < s.size ∧ s[0] = 48
  · obtain ⟨h1, h48⟩ := h0
    have h1I : (1 : Int) < (s.size : Int) := by omega
    have HD := Lib.hid (dgS_lead (l := s.data.toList) (by rw [hsz]; exact h1) (by rw [List.head?_eq_getElem?, get_at s 0 hs0, h48]))
    have h48I : (s[0].toNat : Int) = 48 := by rw [h48]; rfl
    clear hb hsz h48
    go_enter Tryd.func36, Tryd.ntmps36
    go_wp2_with (go_at_call 46; refine (l1In _ _ _ _).mono ?_; rintro e w' ⟨rfl, rfl⟩; rw [hin])
    go_ret
    exact ⟨by rw [HD.out]; rfl, hB⟩
  have h14 : 1 ≤ s.size ∧ s.size ≤ 4 := by omega
  have hnl : ¬ (1 < s.data.toList.length ∧ s.data.toList.head? = some 48) := by
    rintro ⟨h1, h2⟩
    rw [hsz] at h1
    rw [List.head?_eq_getElem?, get_at s 0 hs0] at h2
    exact h0 ⟨h1, by injection h2⟩
  have HO := Lib.hid (fun ha => dgS_ok (l := s.data.toList) (by rw [hsz]; exact h14.1) (by rw [hsz]; exact h14.2) hnl ha)
  have HBad := Lib.hid (fun (k : Nat) (hk : k < s.size) (h : s[k].toNat < 48 ∨ 57 < s[k].toNat) => dgS_bad (l := s.data.toList) (List.mem_of_getElem? (get_at s k hk)) h)
  obtain ⟨h14a, h14b⟩ := h14
  have hgo : (1 : Int) < (s.size : Int) → ¬ ((s[0].toNat : Int) = 48) := fun h e => h0 ⟨by omega, UInt8.toNat_inj.1 (by show s[0].toNat = 48; omega)⟩
  clear h0 hnl hb hsz
  have HP := Lib.hid (show ∀ k : Nat, k < 4 → ∀ v : Int, v < 10 ^ k → v ≤ 999 from by
    intro k hk v hv
    have : k = 0 ∨ k = 1 ∨ k = 2 ∨ k = 3 := by omega
    rcases this with rfl | rfl | rfl | rfl <;> simp at hv <;> omega)
  by_cases h1 : 1 < s.size
  · have h1I : (1 : Int) < (s.size : Int) := by omega
    have hgo := hgo h1I
    go_enter Tryd.func36, Tryd.ntmps36
    go_wp2_with (go_at_call 46; refine (l1In _ _ _ _).mono ?_; rintro e w' ⟨rfl, rfl⟩; rw [hin])
    go_loopw [3, 4] (fun v i wr => ∃ (k : Nat) (x : Int), k ≤ s.size ∧ i = .int .i64 k ∧ v = .int .i64 x ∧ 0 ≤ x ∧ Hid (x < 10 ^ k) ∧ Hid (x = (s.data.toList.take k).foldl (fun n b => 10 * n + ((b.toNat : Int) - 48)) 0) ∧ Hid (∀ b ∈ s.data.toList.take k, 48 ≤ b.toNat ∧ b.toNat ≤ 57) ∧ w = wr)
      (fun _ i _ => s.size - (intOf i).toNat)
    case atStart => exact ⟨0, 0, Nat.zero_le _, rfl, rfl, Int.le_refl _, Lib.hid (by simp), Lib.hid (by simp), Lib.hid (by simp), rfl⟩
    case round =>
      obtain ⟨k, x, hk, rfl, rfl, hx0, HX, HF, HA, rfl⟩ := hrel
      have hx0 := hx0
      by_cases hlt : k < s.size
      rotate_left
      · obtain rfl : k = s.size := by omega
        have hF := HF.out
        have hA := HA.out
        rw [List.take_of_length_le (by simp)] at hF hA
        have HD := Lib.hid (HO.out hA)
        have HF2 := Lib.hid hF
        clear hF hA
        go_wp2
        go_ret
        exact ⟨by rw [HD.out, ← HF2.out]; rfl, hB⟩
      have hltI : (k : Int) < (s.size : Int) := by omega
      have hx9 := HP.out k (by omega) x HX.out
      have hu8 : s[k].toNat ≤ 255 := by have := UInt8.toNat_lt s[k]; omega
      have HT := Lib.hid (take_snocC s k hlt)
      have HBk := Lib.hid (HBad.out k hlt)
      by_cases hd : 48 ≤ s[k].toNat ∧ s[k].toNat ≤ 57
      · obtain ⟨d1, d2⟩ := hd
        have d1I : ¬ (s[k].toNat : Int) < 48 := by omega
        have d2I : ¬ (57 : Int) < (s[k].toNat : Int) := by omega
        go_wp2
        go_roundw
        case rel => exact ⟨k + 1, 10 * x + ((s[k].toNat : Int) - 48), by omega, by go_num, rfl, by omega, (by have := HX.out; show _ < _; rw [Int.pow_succ]; omega), (by show _ = _; rw [HT.out, List.foldl_append, ← HF.out]; rfl), (by show ∀ b ∈ _, _; rw [HT.out]; intro b hb; rw [List.mem_append] at hb; rcases hb with hb | hb; exact HA.out b hb; simp at hb; subst hb; exact ⟨d1, d2⟩), trivial⟩
        case measure => simp [intOf]; omega
      · have HD := Lib.hid (HBk.out (by omega))
        by_cases d1 : s[k].toNat < 48
        · have d1I : (s[k].toNat : Int) < 48 := by omega
          go_wp2
          go_ret
          exact ⟨by rw [HD.out]; rfl, hB⟩
        · have d1I : ¬ (s[k].toNat : Int) < 48 := by omega
          have d2I : (57 : Int) < (s[k].toNat : Int) := by omega
          go_wp2
          go_ret
          exact ⟨by rw [HD.out]; rfl, hB⟩
  · have h1I : ¬ (1 : Int) < (s.size : Int) := by omega
    clear hgo
    go_enter Tryd.func36, Tryd.ntmps36
    go_wp2_with (go_at_call 46; refine (l1In _ _ _ _).mono ?_; rintro e w' ⟨rfl, rfl⟩; rw [hin])
    go_loopw [3, 4] (fun v i wr => ∃ (k : Nat) (x : Int), k ≤ s.size ∧ i = .int .i64 k ∧ v = .int .i64 x ∧ 0 ≤ x ∧ Hid (x < 10 ^ k) ∧ Hid (x = (s.data.toList.take k).foldl (fun n b => 10 * n + ((b.toNat : Int) - 48)) 0) ∧ Hid (∀ b ∈ s.data.toList.take k, 48 ≤ b.toNat ∧ b.toNat ≤ 57) ∧ w = wr)
      (fun _ i _ => s.size - (intOf i).toNat)
    case atStart => exact ⟨0, 0, Nat.zero_le _, rfl, rfl, Int.le_refl _, Lib.hid (by simp), Lib.hid (by simp), Lib.hid (by simp), rfl⟩
    case round =>
      obtain ⟨k, x, hk, rfl, rfl, hx0, HX, HF, HA, rfl⟩ := hrel
      have hx0 := hx0
      by_cases hlt : k < s.size
      rotate_left
      · obtain rfl : k = s.size := by omega
        have hF := HF.out
        have hA := HA.out
        rw [List.take_of_length_le (by simp)] at hF hA
        have HD := Lib.hid (HO.out hA)
        have HF2 := Lib.hid hF
        clear hF hA
        go_wp2
        go_ret
        exact ⟨by rw [HD.out, ← HF2.out]; rfl, hB⟩
      have hltI : (k : Int) < (s.size : Int) := by omega
      have hx9 := HP.out k (by omega) x HX.out
      have hu8 : s[k].toNat ≤ 255 := by have := UInt8.toNat_lt s[k]; omega
      have HT := Lib.hid (take_snocC s k hlt)
      have HBk := Lib.hid (HBad.out k hlt)
      by_cases hd : 48 ≤ s[k].toNat ∧ s[k].toNat ≤ 57
      · obtain ⟨d1, d2⟩ := hd
        have d1I : ¬ (s[k].toNat : Int) < 48 := by omega
        have d2I : ¬ (57 : Int) < (s[k].toNat : Int) := by omega
        go_wp2
        go_roundw
        case rel => exact ⟨k + 1, 10 * x + ((s[k].toNat : Int) - 48), by omega, by go_num, rfl, by omega, (by have := HX.out; show _ < _; rw [Int.pow_succ]; omega), (by show _ = _; rw [HT.out, List.foldl_append, ← HF.out]; rfl), (by show ∀ b ∈ _, _; rw [HT.out]; intro b hb; rw [List.mem_append] at hb; rcases hb with hb | hb; exact HA.out b hb; simp at hb; subst hb; exact ⟨d1, d2⟩), trivial⟩
        case measure => simp [intOf]; omega
      · have HD := Lib.hid (HBk.out (by omega))
        by_cases d1 : s[k].toNat < 48
        · have d1I : (s[k].toNat : Int) < 48 := by omega
          go_wp2
          go_ret
          exact ⟨by rw [HD.out]; rfl, hB⟩
        · have d1I : ¬ (s[k].toNat : Int) < 48 := by omega
          have d2I : (57 : Int) < (s[k].toNat : Int) := by omega
          go_wp2
          go_ret
          exact ⟨by rw [HD.out]; rfl, hB⟩
end Go.Proofs.YtkpjlkahebeljaaDoor

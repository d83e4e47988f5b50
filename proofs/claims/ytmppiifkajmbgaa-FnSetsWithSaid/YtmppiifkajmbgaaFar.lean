/- Contracts: how far with so many pebbles, how many pebbles for a place, the least number of moves. -/
import Derived.Test.YtmppiifkajmbgaaSetsI
import Derived.Test.YtmppiifkajmbgaaPlFar
import Derived.Deep.RegionWith
namespace Go.Proofs.Ytmppiifkajmbgaa
open Go.RowKit
set_option linter.unusedVariables false

/-- an integer is returned; nothing that lay has turned -/
def IntPost (w : World) (x : Int) (e : Ending) (w' : World) : Prop := e = .returned (.int .i64 x) ∧ Below w.heap.size w w'
theorem max_if (a b : Int) : max a b = if a < b then b else a := by rw [Int.max_def]; split <;> split <;> omega
theorem all256' {P : ∀ x : Int, 0 ≤ x → x < 256 → Prop} (h : ∀ n : Fin 256, P (n.val : Int) (Int.natCast_nonneg _) (by omega)) : ∀ x h0 h1, P x h0 h1 := by
  intro x h0 h1
  obtain ⟨n, rfl⟩ := Int.eq_ofNat_of_zero_le h0
  exact h ⟨n, by omega⟩
set_option maxRecDepth 100000 in
theorem bitsLen (x : Int) (w : World) (h0 : 0 ≤ x) (h1 : x < 256) : Calls Try.prog 58 #[.int .u64 x] w fun e w' => e = .returned (.int .i64 (blen x)) ∧ w = w' := by
  go_enter Try.func58, Try.ntmps58
  go_wp2
  go_ret
  refine ⟨ret_int ?_, rfl⟩
  revert x
  refine all256' ?_
  decide +kernel
theorem reached8 (nb : Nat) (w : World) (hnb : nb ≤ 4) : Calls Try.prog 53 #[.int .i64 8, .int .i64 (nb : Int)] w (GivesI w (bfs 8 nb)) := reached 8 nb w (by omega) (by omega) hnb
theorem farT_yes {ls : List Int} {k : Nat} {x : Int} (hx : ls[k]? = some x) (h : 0 ≤ x) : farT ls (k + 1) = max (farT ls k) (blen k) := by
  have : ls.getD k 0 = x := by rw [List.getD_eq_getElem?_getD, hx]; rfl
  simp only [farT]; rw [this, if_pos h]
theorem farT_no {ls : List Int} {k : Nat} {x : Int} (hx : ls[k]? = some x) (h : x < 0) : farT ls (k + 1) = farT ls k := by
  have : ls.getD k 0 = x := by rw [List.getD_eq_getElem?_getD, hx]; rfl
  simp only [farT]; rw [this, if_neg (by omega)]
set_option maxHeartbeats 1000000 in
theorem farWith (b : Int) (w : World) : Calls Try.prog 32 #[.int .i64 b] w (IntPost w (fwI b)) := by
  cases hb : inB b 0 4
  · have hv : fwI b = -1 := by simp [fwI, hb]
    rw [hv]
    go_enter Try.func32, Try.ntmps32
    go_wp2_with (go_at_call 52; refine (pebblesOk _ _).mono ?_; rintro e w' ⟨rfl, rfl⟩)
    go_ret
    exact ⟨rfl, Below.refl _ _⟩
  · have hb' := inB_iff.1 hb
    have hfar := far_bfs hb
    obtain ⟨nb, rfl⟩ : ∃ n : Nat, b = (n : Int) := ⟨b.toNat, by omega⟩
    have hnb : nb ≤ 4 := by omega
    have hlen : (bfs 8 (nb : Int)).length = 256 := bfs_len (p := 8) (by omega) (by omega) hnb
    have hR := fun w => reached8 nb w hnb
    obtain ⟨ls, hls⟩ : ∃ ls, bfs 8 (nb : Int) = ls := ⟨_, rfl⟩
    rw [hls] at hfar hlen
    simp only [hls] at hR
    have HF := Lib.hid hfar
    have HR := Lib.hid hR
    have HL := Lib.hid hlen
    clear hfar hls hb' hR hlen
    go_enter Try.func32, Try.ntmps32
    go_wp2_with (go_at_call 52; refine (pebblesOk _ _).mono ?_; rintro e w' ⟨rfl, rfl⟩)
    refine (HR.out _).mono ?_
    rintro e w1 ⟨A1, n1, c1, rfl, hO1, hB1⟩
    have hn : n1 = 256 := by rw [← hO1.len]; exact HL.out
    have hr := hO1.reads
    have HN := Lib.hid hn
    have hN : n1 ≤ 256 := by omega
    clear hO1 hn
    go_wp2
    go_loop [3, 12] (fun m i => ∃ k : Nat, k ≤ n1 ∧ i = .int .i64 k ∧ m = .int .i64 (farT ls k)) (fun _ i => n1 - (intOf i).toNat)
    case atStart => exact ⟨0, by omega, rfl, rfl⟩
    case round =>
      obtain ⟨k, hk, rfl, rfl⟩ := hrel
      by_cases hlt : k < n1
      · obtain ⟨ad, x, rfl, hbx, hx, hcx⟩ := hr.at_ (k := k) hlt
        have HX := Lib.hid hx
        obtain ⟨f0, f1⟩ := farT_bd ls k
        obtain ⟨g0, g1⟩ := blen_bd (k : Int)
        clear hx
        by_cases h0 : 0 ≤ x
        · go_wp2_with (go_at_call 58; refine (bitsLen _ _ (by omega) (by omega)).mono ?_; rintro e w' ⟨rfl, rfl⟩)
          go_round
          case rel => exact ⟨k + 1, by omega, by go_num, by rw [farT_yes HX.out h0, max_if]⟩
          case measure => simp [intOf]; omega
        · have h0' : x < 0 := by omega
          go_wp2
          go_round
          case rel => exact ⟨k + 1, by omega, by go_num, by rw [farT_no HX.out h0']⟩
          case measure => simp [intOf]; omega
      · obtain rfl : k = n1 := by omega
        go_wp2
        go_ret
        exact ⟨ret_int (by rw [HN.out]; exact HF.out), hB1⟩
theorem inT_yes {s : Int} {k : Nat} (h : bitI s k = 1) : inT s (k + 1) = k + 1 := by simp only [inT]; rw [if_pos h]
theorem inT_no {s : Int} {k : Nat} (h : ¬ bitI s k = 1) : inT s (k + 1) = inT s k := by simp only [inT]; rw [if_neg h]
set_option maxHeartbeats 2000000 in
theorem farWithS (b : Int) (w : World) : Calls Try.prog 31 #[.int .i64 b] w (IntPost w (fwI b)) := by
  cases hb : inB b 0 4
  · have hv : fwI b = -1 := by simp [fwI, hb]
    have hs : swL 8 b = [] := by simp [swL, hb]
    rw [hv]
    have HS := Lib.hid hs
    clear hs
    go_enter Try.func31, Try.ntmps31
    go_wp2_with fail
    refine (setsWithS 8 b _).mono ?_
    rintro e w1 ⟨A1, n1, c1, rfl, hO1, hB1⟩
    obtain rfl : n1 = 0 := by have := hO1.len; rw [HS.out] at this; exact this.symm
    clear hO1
    go_wp2
    go_ret
    exact ⟨rfl, hB1⟩
  · have hb' := inB_iff.1 hb
    have hfar := far_bfs hb
    have hs : swL 8 b = bfs 8 b := by rw [swL, if_pos (by rw [hb]; rfl)]
    have hlen : (bfs 8 b).length = 256 := by
      obtain ⟨nb, rfl⟩ : ∃ n : Nat, b = (n : Int) := ⟨b.toNat, by omega⟩
      exact bfs_len (p := 8) (by omega) (by omega) (by omega)
    have hR := fun w => setsWithS 8 b w
    obtain ⟨ls, hls⟩ : ∃ ls, bfs 8 b = ls := ⟨_, rfl⟩
    rw [hls] at hfar hlen hs
    simp only [hs] at hR
    have HF := Lib.hid hfar
    have HR := Lib.hid hR
    have HL := Lib.hid hlen
    clear hfar hls hb' hR hlen hs
    go_enter Try.func31, Try.ntmps31
    go_wp2_with fail
    refine (HR.out _).mono ?_
    rintro e w1 ⟨A1, n1, c1, rfl, hO1, hB1⟩
    have hn : n1 = 256 := by rw [← hO1.len]; exact HL.out
    have hr := hO1.reads
    have HN := Lib.hid hn
    have hN : n1 ≤ 256 := by omega
    have hz : ((n1 : Int) == 0) = false := by simp; omega
    clear hO1 hn
    go_wp2
    go_loop [4, 5] (fun m i => ∃ k : Nat, k ≤ n1 ∧ i = .int .i64 k ∧ m = .int .i64 (farT ls k)) (fun _ i => n1 - (intOf i).toNat)
    case atStart => exact ⟨0, by omega, rfl, rfl⟩
    case round =>
      obtain ⟨k, hk, rfl, rfl⟩ := hrel
      by_cases hlt : k < n1
      · obtain ⟨ad, x, rfl, hbx, hx, hcx⟩ := hr.at_ (k := k) hlt
        have HX := Lib.hid hx
        obtain ⟨f0, f1⟩ := farT_bd ls k
        have hib := inT_blen (k : Int) (by omega) (by omega)
        have HI := Lib.hid hib
        clear hx hib
        by_cases h0 : 0 ≤ x
        · go_wp2
          go_loop [4, 6] (fun m i => ∃ j : Nat, j ≤ 8 ∧ i = .int .i64 j ∧ m = .int .i64 (max (farT ls k) (inT (k : Int) j))) (fun _ i => 8 - (intOf i).toNat)
          case atStart => exact ⟨0, by omega, rfl, by congr 1; simp only [inT]; omega⟩
          case round =>
            obtain ⟨j, hj, rfl, rfl⟩ := hrel
            obtain ⟨i0, i1⟩ := inT_bd (k : Int) j
            obtain ⟨M, hM⟩ : ∃ M, max (farT ls k) (inT (k : Int) j) = M := ⟨_, rfl⟩
            have hM0 : 0 ≤ M := by omega
            have hM1 : M ≤ 8 := by omega
            rw [hM]
            have HM := Lib.hid hM
            clear hM
            by_cases hlj : j < 8
            · by_cases hbt : bitI (k : Int) j = 1
              · have hbb : (bitI (k : Int) j == 1) = true := by simp [hbt]
                have HB := Lib.hid hbt
                clear hbt
                go_wp2_with (go_at_call 57; refine (l1Bit _ _ _ (by omega) (by omega) (by omega) (by omega)).mono ?_; rintro e w' ⟨rfl, rfl⟩)
                go_round
                case rel => exact ⟨j + 1, by omega, by go_num, by rw [inT_yes HB.out]; congr 1; first | (rw [← HM.out]; push_cast; omega) | (rw [← HM.out]; split <;> (push_cast; omega))⟩
                case measure => simp [intOf]; omega
              · have hbb : (bitI (k : Int) j == 1) = false := by simp [hbt]
                have HB := Lib.hid hbt
                clear hbt
                go_wp2_with (go_at_call 57; refine (l1Bit _ _ _ (by omega) (by omega) (by omega) (by omega)).mono ?_; rintro e w' ⟨rfl, rfl⟩)
                go_round
                case rel => exact ⟨j + 1, by omega, by go_num, by rw [inT_no HB.out, HM.out]⟩
                case measure => simp [intOf]; omega
            · obtain rfl : j = 8 := by omega
              go_wp2
              go_round
              case rel => exact ⟨k + 1, by omega, by go_num, by rw [farT_yes HX.out h0, ← HI.out, HM.out]⟩
              case measure => simp [intOf]; omega
        · have h0' : x < 0 := by omega
          go_wp2
          go_loop [4, 6] (fun m i => ∃ j : Nat, j ≤ 8 ∧ i = .int .i64 j ∧ m = .int .i64 (farT ls k)) (fun _ i => 8 - (intOf i).toNat)
          case atStart => exact ⟨0, by omega, rfl, rfl⟩
          case round =>
            obtain ⟨j, hj, rfl, rfl⟩ := hrel
            by_cases hlj : j < 8
            · go_wp2
              go_round
              case rel => exact ⟨j + 1, by omega, by go_num, rfl⟩
              case measure => simp [intOf]; omega
            · obtain rfl : j = 8 := by omega
              go_wp2
              go_round
              case rel => exact ⟨k + 1, by omega, by go_num, by rw [farT_no HX.out h0']⟩
              case measure => simp [intOf]; omega
      · obtain rfl : k = n1 := by omega
        go_wp2
        go_ret
        exact ⟨ret_int (by rw [HN.out]; exact HF.out), hB1⟩
theorem fw_t : fwI 0 = 0 ∧ fwI 1 = 1 ∧ fwI 2 = 3 ∧ fwI 3 = 7 ∧ fwI 4 = 8 := by decide
end Go.Proofs.Ytmppiifkajmbgaa

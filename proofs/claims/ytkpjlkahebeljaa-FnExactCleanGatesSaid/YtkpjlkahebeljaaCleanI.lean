/- Contracts of the program: slices.Concat at gates; impl.CleanGates. -/
import Derived.Test.YtkpjlkahebeljaaCompI
import Derived.Test.YtkpjlkahebeljaaBackG
import Derived.Lib.AppendZeros
namespace Go.Proofs.Ytkpjlkahebeljaa
open Go.RowKit
set_option linter.unusedVariables false
set_option maxHeartbeats 2000000 in
theorem growG (m : Nat) (w : World) (h1 : 1 ≤ m) (h2 : m ≤ 1048576) :
    Calls Try.prog 31 #[.slice none 0 0, .int .i64 m] w (fun e w' => ∃ A c, e = .returned (.slice A 0 c) ∧ OF 41 4 w' w.heap.size A 0 c [] ∧ Below w.heap.size w w') := by
  obtain ⟨i0, hi, hz0, hz1, hz2⟩ := info_parts infoGate
  have happ := Lib.run_append_nil_zeros (P := Try.prog) w 24 3 24 41 i0 _ .i64 .i64 Try.underlying24 Try.underlying3 hi hz0 m (by omega) (by omega) (by omega) (by rw [hz2]; omega)
  generalize hcap : grownCap w m 0 41 = cap2 at happ
  have hcapge : m ≤ cap2 := by rw [← hcap]; exact grownCap_ge w _ 0 41
  have hcaple : cap2 ≤ maxLen := by rw [← hcap]; exact grownCap_le_maxLen w _ 0 41 (by unfold maxLen; omega)
  generalize hZ : (Builtin.zeroCells (Value.agg #[.int .i64 0, .int .i64 0, .int .i64 0, .int .i64 0]).cells m ++ Builtin.zeroCells (Value.agg #[.int .i64 0, .int .i64 0, .int .i64 0, .int .i64 0]).cells (cap2 - m)) = Z at happ
  have hZs : Z.size = cap2 * 4 := by rw [← hZ]; simp [size_zeroCells, Value.cells]; omega
  clear hcap hZ
  have HZ := Lib.hid hZs
  have HC := Lib.hid hcaple
  clear hZs
  unfold maxLen at hcaple
  go_enter Try.func31, Try.ntmps31
  go_wp2_with (at_builtin; refine Lib.wpList_append_run _ rfl _ _ _ _ rfl _ _ rfl rfl _ _ happ ?_)
  go_ret
  exact ⟨_, cap2, rfl, ⟨rfl, .inr ⟨w.heap.size, cap2, Z, rfl, Nat.le_refl _, heap_alloc_new w _, Nat.zero_le _, HC.out, HZ.out, rfl⟩⟩, ⟨rfl, rfl, rfl, by simp, fun k hk => Below.heap_alloc w _ k hk⟩⟩

/-- a slice of gates as one names it: where, how many, its capacity, what it reads -/
abbrev PG := Option Addr × Nat × Nat × List Int
def RP (w : World) (B : Nat) (A : Option Addr) (n : Nat) (ps : List PG) : Prop := Reads w B A n (ps.map fun p => .slice p.1 p.2.1 p.2.2.1)
theorem RP.below {w w' : World} {B n : Nat} {A : Option Addr} {ps : List PG} (h : RP w B A n ps) (hb : Below B w w') : RP w' B A n ps := Reads.below h hb
theorem RP.at_ {w : World} {B n : Nat} {A : Option Addr} {ps : List PG} {k : Nat} (h : RP w B A n ps) (hk : k < n) : ∃ ad a m c z, A = some ad ∧ ad.block < B ∧ ps[k]? = some (a, m, c, z) ∧ w.cell? (ad.add k) = some (.slice a m c) := by
  obtain ⟨ad, u, e, hb, hu, hc⟩ := Reads.at_ h hk
  rw [List.getElem?_map] at hu
  obtain ⟨⟨a, m, c, z⟩, hx, rfl⟩ := Option.map_eq_some_iff.1 hu
  exact ⟨ad, a, m, c, z, e, hb, hx, hc⟩
def suN (ps : List PG) (k : Nat) : Nat := ((ps.take k).map (fun p => p.2.1)).sum
def suL (ps : List PG) (k : Nat) : List Int := (ps.take k).flatMap (fun p => p.2.2.2)
theorem suN_succ {ps : List PG} {k : Nat} {a : Option Addr} {m c : Nat} {z : List Int} (h : ps[k]? = some (a, m, c, z)) : suN ps (k + 1) = suN ps k + m := by
  simp [suN, List.take_add_one, h]
theorem suL_succ {ps : List PG} {k : Nat} {a : Option Addr} {m c : Nat} {z : List Int} (h : ps[k]? = some (a, m, c, z)) : suL ps (k + 1) = suL ps k ++ z := by
  simp [suL, List.take_add_one, h]
theorem suN_le {ps : List PG} (hp : ∀ p ∈ ps, p.2.1 ≤ 100) : ∀ k, suN ps k ≤ 100 * k := by
  intro k
  induction k with
  | zero => simp [suN]
  | succ k ih =>
    rcases h : ps[k]? with _ | ⟨a, m, c, z⟩
    · have : suN ps (k + 1) = suN ps k := by simp [suN, List.take_add_one, h]
      omega
    · have := hp _ (List.mem_of_getElem? h)
      rw [suN_succ h]; dsimp at this; omega
set_option maxHeartbeats 4000000 in
theorem concatG (A : Option Addr) (n c : Nat) (ps : List PG) (w : World) (hr : RP w w.heap.size A n ps) (hn : n ≤ 100) (h1 : 1 ≤ suN ps n)
    (hp : ∀ p ∈ ps, RI w w.heap.size p.1 (p.2.1 * 4) p.2.2.2 ∧ 1 ≤ p.2.1 ∧ p.2.1 ≤ 100) :
    Calls Try.prog 25 #[.slice A n c] w (fun e w' => ∃ A' c', e = .returned (.slice A' (suN ps n) c') ∧ OF 41 4 w' w.heap.size A' (suN ps n) c' (suL ps n) ∧ Below w.heap.size w w') := by
  have HR := Lib.hid hr
  have HP := Lib.hid hp
  have HL := Lib.hid (suN_le (fun p h => (hp p h).2.2))
  clear hp hr
  go_enter Try.func25, Try.ntmps25
  go_wp2
  go_loopw [3, 11] (fun s i wr => ∃ (k S : Nat), k ≤ n ∧ i = .int .i64 k ∧ s = .int .i64 S ∧ Hid (S = suN ps k) ∧ w = wr)
    (fun _ i _ => n - (intOf i).toNat)
  case atStart => exact ⟨0, 0, Nat.zero_le _, rfl, rfl, Lib.hid rfl, rfl⟩
  case round =>
    obtain ⟨k, S, hk, rfl, rfl, HS, rfl⟩ := hrel
    have hS : S ≤ 100 * k := by rw [HS.out]; exact HL.out k
    by_cases hlt : k < n
    · obtain ⟨ad, a, m, c1, z, rfl, hb, g0, hc0⟩ := HR.out.at_ hlt
      have hm := (HP.out _ (List.mem_of_getElem? g0)).2
      dsimp only at hm
      obtain ⟨hm1, hm2⟩ := hm
      have HN := Lib.hid (suN_succ g0)
      clear g0
      have hki : (k : Int) < (n : Int) := by omega
      go_wp2
      go_roundw
      case rel => exact ⟨k + 1, S + m, by omega, by go_num, by go_num, Lib.hid (by rw [HN.out, HS.out]), trivial⟩
      case measure => simp [intOf]; omega
    obtain rfl : k = n := by omega
    rw [← HS.out] at h1
    have HG := Lib.hid (growG S w h1 (by omega))
    go_wp2_with (go_at_call 31; refine HG.out.mono ?_; rintro e w2 ⟨A2, c2, rfl, hO2, hB2⟩)
    have HO2 := Lib.hid hO2
    clear hO2
    have HS1 := Lib.hid HS
    go_loopw [6, 27] (fun v i wr => ∃ (j m : Nat) (A' : Option Addr) (c' : Nat), j ≤ k ∧ i = .int .i64 j ∧ v = .slice A' m c' ∧ Hid (m = suN ps j) ∧ OF 41 4 wr w.heap.size A' m c' (suL ps j) ∧ Below w.heap.size w wr)
      (fun _ i _ => k - (intOf i).toNat)
    case atStart => exact ⟨0, 0, _, _, Nat.zero_le _, rfl, rfl, Lib.hid rfl, HO2.out, hB2⟩
    case round =>
      obtain ⟨j, m, A', c', hj, rfl, rfl, HM, hO, hB⟩ := hrel
      have hs := hB.size
      have hm9 : m ≤ 100 * j := by rw [HM.out]; exact HL.out j
      by_cases hlt : j < k
      rotate_left
      · obtain rfl : j = k := by omega
        have HO := Lib.hid hO
        clear hO
        go_wp2
        go_ret
        exact ⟨A', c', by rw [← HM.out]; rfl, by rw [← HM.out]; exact HO.out, hB⟩
      have HO := Lib.hid hO
      clear hO
      obtain ⟨ad, a, m3, c3, z3, rfl, hb, g0, hc0⟩ := (HR.out.below hB).at_ hlt
      have hx := HP.out _ (List.mem_of_getElem? g0)
      dsimp only at hx
      obtain ⟨hr3, hm1, hm2⟩ := hx
      have hr3 := hr3.up (Nat.le_refl _) hB (Nat.le_refl _)
      have HR3 := Lib.hid hr3
      clear hr3
      have HN := Lib.hid (show suN ps (j + 1) = suN ps j + m3 ∧ suL ps (j + 1) = suL ps j ++ z3 from ⟨suN_succ g0, suL_succ g0⟩)
      clear g0
      have hji : (j : Int) < (k : Int) := by omega
      go_wp2_with (at_builtin; refine wpList_pushAllG wr rfl _ _ rfl w.heap.size A' m c' (suL ps j) rfl _ a m3 c3 z3 rfl HO.out HR3.out hm1 (by omega) (by omega) ?_; intro A4 c4 w4 hO4 hg4)
      have hB4 : Below w.heap.size w w4 := hB.grown hg4 (by omega) (fun q e => (HO.out.lt q e).1)
      go_roundw
      case rel => exact ⟨j + 1, m + m3, _, _, by omega, by go_num, rfl, Lib.hid (by rw [HN.out.1, HM.out]), by rw [HN.out.2]; exact hO4, hB4⟩
      case measure => simp [intOf]; omega

set_option maxHeartbeats 4000000 in
theorem cleanGatesI (I : Int) (A : Option Addr) (n : Nat) (zs : List Int) (c : Nat) (w : World) (hr : RI w w.heap.size A (n * 3) zs) (hl : n ≤ 1048577) :
    Calls Try.prog 15 #[.int .i64 I, .slice A n c] w (GivesFN w (clN I n zs) (clL I n zs)) := by
  by_cases hV : fmB I n zs = true
  rotate_left
  · have hV' : fmB I n zs = false := by simpa using hV
    have HL := Lib.hid (show clN I n zs = 0 ∧ clL I n zs = [] from ⟨by rw [clN, if_neg hV], by rw [clL, if_neg hV]⟩)
    have HF := Lib.hid (formValidI_V I A n zs c w hr hl false hV')
    clear hV hV'
    go_enter Try.func15, Try.ntmps15
    go_wp2_with (go_at_call 19; refine HF.out.mono ?_; rintro e w2 ⟨rfl, hB2⟩)
    go_ret
    exact ⟨_, _, by rw [HL.out.1]; rfl, by rw [HL.out.1, HL.out.2]; exact OFI.nil _ _, hB2⟩
  obtain ⟨a1, a2, a3, a4, _⟩ := fmB_iff hV
  obtain ⟨M, hM⟩ : ∃ M, gsN zs n = M := ⟨_, rfl⟩
  obtain ⟨ys, hys⟩ : ∃ ys, gsL I zs n = ys := ⟨_, rfl⟩
  have HL := Lib.hid (show clN I n zs = M + 1 + M ∧ clL I n zs = ys ++ [1, I + n - 1, I + n, 0] ++ rvL ys M 0 from ⟨by rw [clN, if_pos hV, hM], by rw [clL, if_pos hV, hM, hys]⟩)
  have hM9 : M ≤ 9 := by have := gsN_le zs n; omega
  have hM1 : 1 ≤ M := by
    rw [← hM]
    obtain ⟨k, rfl⟩ : ∃ k, n = k + 1 := ⟨n - 1, by omega⟩
    have := sgN_pos (zs.getD (k * 3) 0)
    rw [gsN]; omega
  have HF := Lib.hid (formValidI_V I A n zs c w hr hl true hV)
  have HC := Lib.hid (fun w2 hB2 => computeI I A n zs c w2 (hr.up (Nat.le_refl _) hB2 (Nat.le_refl _)) hV)
  rw [hM, hys] at HC
  clear hV hr hM hys
  go_enter Try.func15, Try.ntmps15
  go_wp2_with (first | (go_at_call 19; refine HF.out.mono ?_; rintro e w2 ⟨rfl, hB2⟩) | (go_at_call 20; refine (HC.out w2 hB2).mono ?_; rintro e w3 ⟨A3, c3, rfl, hO3, hB3⟩; have HO3 := Lib.hid hO3; have hs3 := hB3.size; have hs2 := hB2.size; clear hO3))
  obtain ⟨wa, hwa⟩ : ∃ wa, w3.alloc (.cells #[.int .i64 1, .int .i64 (I + n - 1), .int .i64 (I + n), .int .i64 0] 41) = wa := ⟨_, rfl⟩
  have hBa : Below w3.heap.size w3 wa := by rw [← hwa]; exact (Below.refl _ _).alloc (Nat.le_refl _) _
  have hsa := hBa.size
  have hMid : RI wa wa.heap.size (some ⟨w3.heap.size, 0, none⟩) (1 * 4) [1, I + n - 1, I + n, 0] := by
    rw [← hwa]
    exact ⟨rfl, fun _ => ⟨_, rfl, by simp, fun j u hu => cells_new w3 _ _ j u hu⟩⟩
  rw [hwa]
  have hY := (HO3.out.below hBa (Nat.le_refl _)).reads
  refine (backwardsG A3 M ys c3 (by omega) wa hY).mono ?_
  rintro e w4 ⟨A4, c4, rfl, hO4, hB4⟩
  have hs4 := hB4.size
  obtain ⟨ps, hps⟩ : ∃ ps : List PG, ps = [(A3, M, c3, ys), (some ⟨w3.heap.size, 0, none⟩, 1, 1, [1, I + n - 1, I + n, 0]), (A4, M, c4, rvL ys M 0)] := ⟨_, rfl⟩
  have hPN : suN ps 3 = M + 1 + M ∧ suL ps 3 = ys ++ [1, I + n - 1, I + n, 0] ++ rvL ys M 0 := by subst hps; exact ⟨by simp [suN]; omega, by simp [suL]⟩
  obtain ⟨wb, hwb⟩ : ∃ wb, w4.alloc (.cells #[.slice A3 M c3, .slice (some ⟨w3.heap.size, 0, none⟩) 1 1, .slice A4 M c4] 24) = wb := ⟨_, rfl⟩
  have hBb : Below w4.heap.size w4 wb := by rw [← hwb]; exact (Below.refl _ _).alloc (Nat.le_refl _) _
  have hsb := hBb.size
  have hRP : RP wb wb.heap.size (some ⟨w4.heap.size, 0, none⟩) 3 ps := by
    rw [← hwb, hps]
    exact ⟨rfl, fun _ => ⟨_, rfl, by simp, fun j u hu => cells_new w4 _ _ j u hu⟩⟩
  have hall : ∀ p ∈ ps, RI wb wb.heap.size p.1 (p.2.1 * 4) p.2.2.2 ∧ 1 ≤ p.2.1 ∧ p.2.1 ≤ 100 := by
    intro p hp
    rw [hps] at hp
    simp only [List.mem_cons, List.not_mem_nil, or_false] at hp
    rcases hp with rfl | rfl | rfl
    · exact ⟨(hY.up (Nat.le_refl _) hB4 (Nat.le_refl _)).up (Nat.le_refl _) hBb (Nat.le_refl _), hM1, by show M ≤ 100; omega⟩
    · exact ⟨(hMid.up (Nat.le_refl _) hB4 (Nat.le_refl _)).up (Nat.le_refl _) hBb (Nat.le_refl _), Nat.le_refl _, by show 1 ≤ 100; omega⟩
    · exact ⟨hO4.reads.up (Nat.le_refl _) hBb (Nat.le_refl _), hM1, by show M ≤ 100; omega⟩
  have HCC := Lib.hid (concatG (some ⟨w4.heap.size, 0, none⟩) 3 3 ps wb hRP (by omega) (by rw [hPN.1]; omega) hall)
  have hBw : Below w.heap.size w wb := hB2.trans ((hB3.mono hs2).trans ((hBa.mono (by omega)).trans ((hB4.mono (by omega)).trans (hBb.mono (by omega)))))
  rw [hPN.1, hPN.2] at HCC
  have HWB := Lib.hid hwb
  clear hwb hRP hall hps hPN hMid hY hO4 hwa
  go_wp2_with fail
  rw [HWB.out]
  refine HCC.out.mono ?_
  rintro e w5 ⟨A5, c5, rfl, hO5, hB5⟩
  have HO5 := Lib.hid hO5
  clear hO5
  go_wp2_with (go_at_call 24; refine (clipG A5 (M + 1 + M) c5 w5 HO5.out.cap.1 HO5.out.cap.2).mono ?_; rintro e w6 ⟨rfl, rfl⟩)
  go_ret
  exact ⟨A5, M + 1 + M, by rw [HL.out.1]; rfl, by rw [HL.out.1, HL.out.2]; exact (HO5.out.toI.clip).mono (by omega), hBw.trans (hB5.mono (by omega))⟩
end Go.Proofs.Ytkpjlkahebeljaa

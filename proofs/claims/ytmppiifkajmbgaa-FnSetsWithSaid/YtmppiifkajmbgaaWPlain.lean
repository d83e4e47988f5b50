/- PlainMoves: contracts and the walk of the exact law. -/
import Derived.Test.YtmppiifkajmbgaaPush
import Derived.Test.YtmppiifkajmbgaaBack
namespace Go.Proofs.Ytmppiifkajmbgaa
open Go.RowKit
set_option linter.unusedVariables false

/-- moves from place to place -/
def pmL (p : Int) : List Int := if 1 ≤ p ∧ p ≤ 8 then upI 0 p.toNat ++ (upI 0 (p.toNat - 1)).reverse else []
theorem pmL_len (p : Int) : (pmL p).length ≤ 15 := by
  unfold pmL
  split
  · rename_i h; simp [upI_len]; omega
  · simp

set_option maxHeartbeats 1000000 in
theorem plainMoves (p : Int) (w : World) : Calls Try.prog 16 #[.int .i64 p] w (GivesI w (pmL p)) := by
  by_cases hp : 1 ≤ p ∧ p ≤ 8
  · obtain ⟨m, rfl⟩ : ∃ m : Nat, p = (m : Int) + 1 := ⟨(p - 1).toNat, by omega⟩
    have hL : pmL ((m : Int) + 1) = upI 0 (m + 1) ++ (upI 0 m).reverse := by
      rw [pmL, if_pos hp]
      have e : ((m : Int) + 1).toNat = m + 1 := by omega
      rw [e]; rfl
    have HL := Lib.hid hL
    have hok : inB ((m : Int) + 1) 1 8 = true := inB_t (by omega) (by omega)
    have hm : m ≤ 7 := by omega
    clear hL hp
    go_enter Try.func16, Try.ntmps16
    go_wp2_with (first | (go_at_call 41; refine (placesOk _ _).mono ?_; rintro e w' ⟨rfl, rfl⟩) | (at_make; refine wpList_mk0 _ rfl _ _ rfl (2 * m + 1) _ rfl rfl (by omega) (by omega) ?_; intro w1 hO1 hg1))
    have hb1 : Below w.heap.size w w1 := grown_below hg1
    go_loopw [3, 13] (fun v i wr => ∃ (k : Nat) (A' : Option Addr) (c' : Nat), k ≤ m + 1 ∧ i = .int .i64 k ∧ v = .slice A' k c' ∧ OS wr w.heap.size A' k c' (upI 0 k) ∧ Below w.heap.size w wr)
      (fun _ i _ => m + 1 - (intOf i).toNat)
    case atStart => exact ⟨0, _, _, by omega, rfl, rfl, hO1, hb1⟩
    case round =>
      obtain ⟨k, A', c', hk, rfl, rfl, hO, hB⟩ := hrel
      have HO := Lib.hid hO
      have hs := hB.size
      clear hO
      by_cases hlt : k < m + 1
      · go_wp2_with (at_builtin; refine wpList_push _ (k : Int) rfl _ _ rfl w.heap.size A' k c' (upI 0 k) rfl rfl HO.out (by omega) hs ?_; intro g c2 w2 hO2 hg2)
        have hB2 : Below w.heap.size w w2 := hB.grown hg2 hs (fun q e => (HO.out.lt q e).1)
        go_roundw
        case rel => exact ⟨k + 1, _, _, by omega, by go_num, rfl, by rw [upI_succ]; simpa using hO2, hB2⟩
        case measure => simp [intOf]; omega
      · obtain rfl : k = m + 1 := by omega
        have hcap := HO.out.cap
        obtain ⟨hc1, hc2⟩ := hcap
        unfold maxLen at hc2
        have hmI : IntKind.i64.wrap ((m : Int) + 1 - 1) = (m : Int) := by rw [IntKind.wrap_i64]; omega
        go_wp2_with fail
        refine (backwards A' m (upI 0 m) _ (by omega) wr (by have := HO.out.reads.take (j := m) (by omega); rwa [upI_take 0 (by omega)] at this)).mono ?_
        rintro e w2 ⟨A2, n2, c2, rfl, hO2, hB2⟩
        obtain rfl : m = n2 := by have := hO2.len; simp [upI_len] at this; omega
        have hO3 := HO.out.below hB2 (Nat.le_refl _)
        have hs2 := hB2.size
        go_wp2_with (at_builtin; refine wpList_pushAll w2 rfl _ _ rfl w.heap.size A' (m + 1) c' (upI 0 (m + 1)) rfl w2.heap.size A2 m c2 (upI 0 m).reverse rfl hO3 hO2.reads (by omega) (by omega) ?_; intro A4 c4 w4 hO4 hg4)
        go_ret
        exact ⟨_, _, _, rfl, by rw [HL.out]; exact hO4.toI, (hB.trans (hB2.mono hs)).grown hg4 (by omega) (fun q e => (hO3.lt q e).1)⟩
  · have hok : inB p 1 8 = false := inB_f hp
    have hL : pmL p = [] := by rw [pmL, if_neg hp]
    have HL := Lib.hid hL
    clear hp hL
    go_enter Try.func16, Try.ntmps16
    go_wp2_with (go_at_call 41; refine (placesOk _ _).mono ?_; rintro e w' ⟨rfl, rfl⟩)
    go_ret
    rw [HL.out]
    exact GivesI.nil w
set_option maxHeartbeats 1000000 in
theorem plainMovesS (p : Int) (w : World) : Calls Try.prog 15 #[.int .i64 p] w (GivesI w (pmL p)) := by
  by_cases hp : 1 ≤ p ∧ p ≤ 8
  · obtain ⟨m, rfl⟩ : ∃ m : Nat, p = (m : Int) + 1 := ⟨(p - 1).toNat, by omega⟩
    have hL : pmL ((m : Int) + 1) = upI 0 (m + 1) ++ (upI 0 m).reverse := by
      rw [pmL, if_pos hp]
      have e : ((m : Int) + 1).toNat = m + 1 := by omega
      rw [e]; rfl
    have HL := Lib.hid hL
    have hok : inB ((m : Int) + 1) 1 8 = true := inB_t (by omega) (by omega)
    have hm : m ≤ 7 := by omega
    have hmI : IntKind.i64.wrap ((m : Int) + 1 - 2) = (m : Int) - 1 := by rw [IntKind.wrap_i64]; omega
    clear hL hp
    have hE := OS.empty w
    have hbE : Below w.heap.size w (w.alloc (.cells #[] 3)) := (Below.refl _ _).alloc (Nat.le_refl _) _
    go_enter Try.func15, Try.ntmps15
    go_wp2
    go_loopw [3, 4] (fun v i wr => ∃ (k : Nat) (A' : Option Addr) (c' : Nat), k ≤ m + 1 ∧ i = .int .i64 k ∧ v = .slice A' k c' ∧ OS wr w.heap.size A' k c' (upI 0 k) ∧ Below w.heap.size w wr)
      (fun _ i _ => m + 1 - (intOf i).toNat)
    case atStart => exact ⟨0, _, _, by omega, rfl, rfl, hE, hbE⟩
    case round =>
      obtain ⟨k, A', c', hk, rfl, rfl, hO, hB⟩ := hrel
      have HO := Lib.hid hO
      have hs := hB.size
      clear hO hE hbE
      by_cases hlt : k < m + 1
      · go_wp2_with (first | (go_at_call 40; refine (l1In _ _ _ _).mono ?_; rintro e w' ⟨rfl, rfl⟩) | (at_builtin; refine wpList_push _ (k : Int) rfl _ _ rfl w.heap.size A' k c' (upI 0 k) rfl rfl HO.out (by omega) hs ?_; intro g c2 w2 hO2 hg2))
        have hB2 : Below w.heap.size w w2 := hB.grown hg2 hs (fun q e => (HO.out.lt q e).1)
        go_roundw
        case rel => exact ⟨k + 1, _, _, by omega, by go_num, rfl, by rw [upI_succ]; simpa using hO2, hB2⟩
        case measure => simp [intOf]; omega
      · obtain rfl : k = m + 1 := by omega
        obtain ⟨wo, rfl⟩ : ∃ wo : World, wo = wr := ⟨_, rfl⟩
        clear hlt hk
        rw [show ((m + 1 : Nat) : Int) = (m : Int) + 1 from by omega]
        go_wp2
        go_loopw [3, 5] (fun v i wr => ∃ (k n : Nat) (A' : Option Addr) (c' : Nat), k ≤ m ∧ n + k ≤ 15 ∧ i = .int .i64 ((k : Int) - 1) ∧ v = .slice A' n c' ∧ OS wr w.heap.size A' n c' (upI 0 (m + 1) ++ ((upI 0 m).drop k).reverse) ∧ Below w.heap.size w wr)
          (fun _ i _ => (intOf i + 1).toNat)
        case atStart =>
          refine ⟨m, m + 1, A', c', Nat.le_refl _, by omega, by first | rfl | (congr 1; omega), rfl, ?_, hB⟩
          have e : ((upI 0 m).drop m) = [] := List.drop_eq_nil_of_le (by rw [upI_len]; exact Nat.le_refl _)
          rw [e]; simpa using HO.out
        case round =>
          obtain ⟨k, n, A2, c2, hk, hnk, rfl, rfl, hO, hB2⟩ := hrel
          have HO2 := Lib.hid hO
          have hs2 := hB2.size
          clear hO
          cases k with
          | zero =>
            go_wp2
            go_ret
            exact ⟨_, _, _, rfl, by rw [HL.out]; exact OS.toI (by simpa using HO2.out), hB2⟩
          | succ k =>
            have e1 : (((k + 1 : Nat) : Int) - 1) = (k : Int) := by omega
            rw [e1]
            clear e1
            have hd : (upI 0 m).drop k = (k : Int) :: (upI 0 m).drop (k + 1) := by
              rw [List.drop_eq_getElem_cons (by rw [upI_len]; omega)]
              simp [upI]
            have HD := Lib.hid hd
            clear hd
            go_wp2_with (first | (go_at_call 40; refine (l1In _ _ _ _).mono ?_; rintro e w' ⟨rfl, rfl⟩) | (at_builtin; refine wpList_push _ (k : Int) rfl _ _ rfl w.heap.size A2 n c2 _ rfl rfl HO2.out (by omega) hs2 ?_; intro g c3 w3 hO3 hg3))
            have hB3 : Below w.heap.size w w3 := hB2.grown hg3 hs2 (fun q e => (HO2.out.lt q e).1)
            go_roundw
            case rel =>
              refine ⟨k, n + 1, _, _, by omega, by omega, by first | rfl | (congr 1), rfl, ?_, hB3⟩
              rw [HD.out]
              simpa using hO3
            case measure => simp [intOf]
  · have hL : pmL p = [] := by rw [pmL, if_neg hp]
    have HL := Lib.hid hL
    have hok : inB p 1 8 = false := inB_f hp
    have hE := Lib.hid (OS.empty w)
    have hbE : Below w.heap.size w (w.alloc (.cells #[] 3)) := (Below.refl _ _).alloc (Nat.le_refl _) _
    clear hL hp
    go_enter Try.func15, Try.ntmps15
    go_wp2
    refine wp_loop_rounds 1 ?_
    rw [rounds_succ]
    go_wp2_with (go_at_call 40; refine (l1In _ _ _ _).mono ?_; rintro e w' ⟨rfl, rfl⟩)
    all_goals
      refine wp_loop_rounds 1 ?_
      rw [rounds_succ]
      go_wp2_with (go_at_call 40; refine (l1In _ _ _ _).mono ?_; rintro e w' ⟨rfl, rfl⟩)
      all_goals
        go_ret
        rw [HL.out]
        exact ⟨_, _, _, rfl, hE.out.toI, hbE⟩
set_option maxHeartbeats 2000000 in
theorem walkFnExactPlainMoves (w : World) (a0 : Int) (_w0 : (Lit.int .i64 a0).wf = true) :
    Calls Try.prog 3 #[.int .i64 a0] w fun e w' => e = .returned (.bool true) ∧ Below w.heap.size w w' := by
  clear _w0
  have hE : eqL (pmL a0) (pmL a0) = true := eqL_self _
  have hLn : (pmL a0).length ≤ 1048576 := by have := pmL_len a0; omega
  have HLn := Lib.hid hLn
  clear hLn
  go_enter Try.func3, Try.ntmps3
  have hBt : Below w.heap.size w w := Below.refl _ _
  go_wp2_with fail
  refine (plainMovesS a0 _ ).mono ?_
  rintro e w1 ⟨Aw, nw, cw, rfl, hOw, hB⟩
  have hNw : nw ≤ 1048576 := by have := OI.len hOw; have := HLn.out; omega
  have hs1 : w.heap.size ≤ w1.heap.size := hB.size
  replace hBt := hBt.trans (hB.mono hBt.size)
  clear hB
  have hLw := Lib.hid (OI.lt hOw)
  go_wp2_with fail
  refine (plainMoves a0 _ ).mono ?_
  rintro e w2 ⟨Ag, ng, cg, rfl, hOg, hB⟩
  have hNg : ng ≤ 1048576 := by have := OI.len hOg; have := HLn.out; omega
  have hs2 : w1.heap.size ≤ w2.heap.size := hB.size
  replace hBt := hBt.trans (hB.mono hBt.size)
  replace hOw := hOw.below hB (Nat.le_refl _)
  clear hB
  have hLg := Lib.hid (OI.lt hOg)
  go_wp2_with fail
  refine (eqIntS' _ _ _ _ _ _ _ _ _ hOg.reads hOw.reads (by omega) (by omega)).mono ?_
  rintro e w3 ⟨rfl, hB⟩
  have hs3 : w2.heap.size ≤ w3.heap.size := hB.size
  replace hBt := hBt.trans (hB.mono hBt.size)
  replace hOw := hOw.below hB (Nat.le_refl _)
  replace hOg := hOg.below hB (Nat.le_refl _)
  clear hB
  go_wp2_with fail
  refine (markIntS _ _ _ _ _ _ _ hOg (by omega) (by omega) (by omega)).mono ?_
  rintro e w4 ⟨rfl, hO', hG⟩
  clear hOg
  have hOg := hO'
  clear hO'
  have hs4 : w3.heap.size ≤ w4.heap.size := hG.size
  replace hBt := hBt.grown hG hBt.size (fun k hk => by have := (hLg.out k hk).1; omega)
  replace hOw := hOw.sepV hG (fun j k hj hk => by have := hLw.out j hj; have := hLg.out k hk; omega)
  clear hG
  go_wp2_with fail
  refine (heldIntS _ _ _ _ _ hOg.reads (by omega) (by omega) (by omega)).mono ?_
  rintro e w' ⟨rfl, rfl⟩
  go_wp2_with fail
  refine (plainMoves a0 _ ).mono ?_
  rintro e w5 ⟨Ah, nh, ch, rfl, hOh, hB⟩
  have hNh : nh ≤ 1048576 := by have := OI.len hOh; have := HLn.out; omega
  have hs5 : w4.heap.size ≤ w5.heap.size := hB.size
  replace hBt := hBt.trans (hB.mono hBt.size)
  replace hOw := hOw.below hB (Nat.le_refl _)
  replace hOg := hOg.below hB (Nat.le_refl _)
  clear hB
  have hLh := Lib.hid (OI.lt hOh)
  go_wp2_with fail
  refine (eqIntS' _ _ _ _ _ _ _ _ _ hOh.reads hOw.reads (by omega) (by omega)).mono ?_
  rintro e w6 ⟨rfl, hB⟩
  have hs6 : w5.heap.size ≤ w6.heap.size := hB.size
  replace hBt := hBt.trans (hB.mono hBt.size)
  replace hOw := hOw.below hB (Nat.le_refl _)
  replace hOg := hOg.below hB (Nat.le_refl _)
  replace hOh := hOh.below hB (Nat.le_refl _)
  clear hB
  go_wp2_with fail
  refine (heldIntS _ _ _ _ _ hOg.reads (by omega) (by omega) (by omega)).mono ?_
  rintro e w' ⟨rfl, rfl⟩
  go_wp2
  go_ret
  exact ⟨rfl, hBt⟩
end Go.Proofs.Ytmppiifkajmbgaa

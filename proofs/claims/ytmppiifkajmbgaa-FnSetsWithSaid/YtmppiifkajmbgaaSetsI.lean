/- Contracts of impl.reached, impl.SetsWith: the search, walked. -/
import Derived.Test.YtmppiifkajmbgaaSetsS
import Derived.Test.YtmppiifkajmbgaaBack
import Derived.Test.YtmppiifkajmbgaaQueue
import Derived.Test.YtmppiifkajmbgaaRepeat
import Derived.Deep.LoopGhost
namespace Go.Proofs.Ytmppiifkajmbgaa
open Go.RowKit
set_option linter.unusedVariables false

theorem OI.cellD {w : World} {base g n c : Nat} {zs : List Int} (h : OI w base (some ⟨g, 0, none⟩) n c zs) {j : Nat} (hj : j < n) : w.cell? ⟨g, j, none⟩ = some (.int .i64 (zs.getD j 0)) := by
  rw [h.cellAt hj]
  have : j < zs.length := by rw [h.len]; exact hj
  simp [List.getD, this]
theorem drop_app {q : List Int} {j : Nat} (x : Int) (h : j ≤ q.length) : (q ++ [x]).drop j = q.drop j ++ [x] := List.drop_append_of_le_length h
theorem drop_head {q : List Int} {j : Nat} {x : Int} (h : q[j]? = some x) : q.drop j = x :: q.drop (j + 1) := drop_pred q j x h

set_option maxHeartbeats 4000000 in
theorem reached (np nb : Nat) (w : World) (hp1 : 1 ≤ np) (hp9 : np ≤ 8) (hnb : nb ≤ 4) : Calls Try.prog 53 #[.int .i64 (np : Int), .int .i64 (nb : Int)] w (GivesI w (bfs np nb)) := by
  obtain ⟨N, hN⟩ : ∃ N : Nat, 2 ^ np = N := ⟨_, rfl⟩
  have hNc : N = 2 ∨ N = 4 ∨ N = 8 ∨ N = 16 ∨ N = 32 ∨ N = 64 ∨ N = 128 ∨ N = 256 := by
    rw [← hN]
    have h9 : np = 1 ∨ np = 2 ∨ np = 3 ∨ np = 4 ∨ np = 5 ∨ np = 6 ∨ np = 7 ∨ np = 8 := by omega
    rcases h9 with rfl | rfl | rfl | rfl | rfl | rfl | rfl | rfl <;> decide
  have HNC := Lib.hid hNc
  have hNb : 2 ≤ N ∧ N ≤ 256 := by omega
  obtain ⟨hN2, hN256⟩ := hNb
  have hpow : (2 : Int) ^ np = (N : Int) := by rw [← hN]; push_cast; rfl
  have hwN : wrap64 (N : Int) = (N : Int) := by unfold wrap64; omega
  have HN := Lib.hid hN
  have hr0 : RI (w.alloc (.cells #[.int .i64 (-1)] 3)) (w.alloc (.cells #[.int .i64 (-1)] 3)).heap.size (some ⟨w.heap.size, 0, none⟩) 1 [-1] := (OS.one w (-1)).reads
  have HR0 := Lib.hid hr0
  clear hN hr0 hNc
  go_enter Try.func53, Try.ntmps53
  go_wp2_with fail
  refine (repeat_ _ _ N _ HR0.out HNC.out).mono ?_
  rintro e w1 ⟨A1, n1, c1, rfl, hO1, hB1⟩
  obtain rfl : N = n1 := by have := hO1.len; simpa using this
  have hb0 : Below w.heap.size w (w.alloc (.cells #[.int .i64 (-1)] 3)) := (Below.refl _ _).alloc (Nat.le_refl _) _
  have hb1 := hb0.trans (hB1.mono (by simp))
  obtain ⟨g, rfl, hg0, hg1⟩ := hO1.addr (by omega)
  have hgw : w.heap.size ≤ g := by simp at hg0; omega
  have hO1' := hO1.mono (base' := w.heap.size) (by simp)
  have hc0 := hO1'.cellD (j := 0) (by omega)
  have hf0 : w1.frozen? ⟨g, 0, none⟩ = false := hO1'.frozenAt 0
  have hst := hO1'.stored (k := 0) (by omega) 0
  have hBs : Below w.heap.size w (w1.setCell ⟨g, 0, none⟩ (.int .i64 0)) := hb1.grown hst.2 hb1.size (fun q e => by cases e; exact hgw)
  have hsz : (w1.setCell ⟨g, 0, none⟩ (.int .i64 0)).heap.size = w1.heap.size := by simp
  have hQ := OQ.of_OS (OS.one (w1.setCell ⟨g, 0, none⟩ (.int .i64 0)) 0)
  rw [hsz] at hQ
  have HF := Lib.hid (hst.1.alloc (.cells #[.int .i64 0] 3))
  have HQ := Lib.hid hQ
  have hBq : Below w.heap.size w ((w1.setCell ⟨g, 0, none⟩ (.int .i64 0)).alloc (.cells #[.int .i64 0] 3)) := hBs.alloc (by rw [hsz]; exact hb1.size) _
  have hBsz : w1.heap.size ≤ ((w1.setCell ⟨g, 0, none⟩ (.int .i64 0)).alloc (.cells #[.int .i64 0] 3)).heap.size := by rw [World.size_alloc, hsz]; omega
  have HB0 := Lib.hid (BInv_start' HN.out (by omega : 1 ≤ N))
  have hR0 : bRun (np : Int) (nb : Int) np (300 - 0) 0 ((List.replicate N (-1)).set 0 0, [0]) = bfs np nb := by rw [← HN.out]; exact bfs_start rfl
  have HR1 := Lib.hid hR0
  clear hR0 hst hQ hBs hO1 hO1' hb0 hb1 hB1
  go_wp2
  obtain ⟨B2, hB2⟩ : ∃ B2, w1.heap.size = B2 := ⟨_, rfl⟩
  rw [hB2] at HQ hg1 hBsz ⊢
  clear hc0 hf0
  go_loopg [6] 300 (fun f v wx => ∃ (j n : Nat) (A2 : Option Addr) (c2 : Nat) (far q : List Int), f = 300 - j ∧ j ≤ q.length ∧ v = .slice A2 n c2 ∧ OI wx w.heap.size (some ⟨g, 0, none⟩) N c1 far ∧ OQ wx B2 A2 n c2 (q.drop j) ∧ BInv N far q ∧ bRun (np : Int) (nb : Int) np (300 - j) j (far, q) = bfs np nb ∧ Below w.heap.size w wx ∧ B2 ≤ wx.heap.size)
  case atStart => exact ⟨0, 1, _, _, _, _, rfl, by simp, rfl, HF.out, HQ.out, HB0.out, HR1.out, hBq, hBsz⟩
  case round =>
    obtain ⟨j, n, A2, c2, far, q, hf, hj, rfl, hF, hQ, hI, hR, hB, hs⟩ := hrel
    have hm := hQ.len
    have hqN := hI.q_len
    obtain ⟨hcp0, hcp1⟩ := hQ.cap
    unfold maxLen at hcp1
    have hn256 : n ≤ 256 := by simp at hm; omega
    have hF1 := Lib.hid hF
    have hQ1 := Lib.hid hQ
    have hI1 := Lib.hid hI
    have hR1 := Lib.hid hR
    have hM := Lib.hid hm
    have hj256 : j ≤ 256 := by omega
    have hJ := Lib.hid hj
    clear hF hQ hI hR HF HQ hm hBq hBsz hqN hj
    by_cases h0 : n = 0
    · subst h0
      go_wp2_with fail
      refine (clip _ _ _ _ hF1.out.cap.1 hF1.out.cap.2).mono ?_
      rintro e w' ⟨rfl, rfl⟩
      go_wp2
      go_ret
      refine ⟨_, _, _, rfl, ?_, hB⟩
      have hend : ¬ j < q.length := by have := hM.out; simp at this; omega
      rw [← hR1.out, bRun_end hend]
      exact hF1.out.clip
    · have hjq : j < q.length := by have := hM.out; simp at this; omega
      obtain ⟨at', hq0, hq1, hat⟩ := hI1.out.at_q hjq
      have hR2 := hR1.out
      rw [show 300 - j = (300 - (j + 1)) + 1 from by omega, bRun_succ hjq, hq1] at hR2
      have HR2 := Lib.hid hR2
      have hhd := drop_head hq0
      obtain ⟨gq, oq, rfl, hgq0, hgq1⟩ := hQ1.out.addr
      have hcq := hQ1.out.cellAt (j := 0) (by rw [hhd]; rfl)
      rw [Nat.add_zero] at hcq
      have hQ0 := Lib.hid hq0
      have hn1 : 0 < n := by omega
      clear hq0 hq1 hR2 hR1 hhd hjq
      go_wp2
      go_loopw [6, 26] (fun v i wy => ∃ (l n : Nat) (A2 : Option Addr) (c2 : Nat) (far' q' : List Int), l ≤ np ∧ i = .int .i64 l ∧ v = .slice A2 n c2 ∧ OI wy w.heap.size (some ⟨g, 0, none⟩) N c1 far' ∧ OQ wy B2 A2 n c2 (q'.drop j) ∧ BInv N far' q' ∧ bPl (np : Int) (nb : Int) (at' : Int) (far, q) l = (far', q') ∧ q'[j]? = some (at' : Int) ∧ Below w.heap.size w wy ∧ B2 ≤ wy.heap.size)
        (fun _ i _ => np - (intOf i).toNat)
      case atStart => exact ⟨0, n, _, _, _, _, by omega, rfl, rfl, hF1.out, hQ1.out, hI1.out, rfl, hQ0.out, hB, hs⟩
      case round =>
        obtain ⟨l, n3, A3, c3, far', q', hl, rfl, rfl, hF, hQ, hI, hP, hq, hB', hs'⟩ := hrel
        have hm := hQ.len
        have hjl : j < q'.length := (List.getElem?_eq_some_iff.1 hq).1
        have hqN := hI.q_len
        have hm256 : n3 ≤ 256 := by simp at hm; omega
        have hn31 : 1 ≤ n3 := by simp at hm; omega
        obtain ⟨gq3, oq3, rfl, hgq3, hgq4⟩ := hQ.addr
        obtain ⟨hcp3, hcp4⟩ := hQ.cap
        unfold maxLen at hcp4
        have hF3 := Lib.hid hF
        have hQ3 := Lib.hid hQ
        have hI3 := Lib.hid hI
        have hP3 := Lib.hid hP
        have hq3 := Lib.hid hq
        have hJ3 := Lib.hid hjl
        have hN3 := Lib.hid hqN
        clear hF hQ hI hP hm hq hF1 hQ1 hI1 hM hQ0 hB hs hjl hqN hcq hn256 h0
        by_cases hll : l < np
        · obtain ⟨va, hva, hva', hva0, hva1⟩ := hI3.out.at_far hat
          have hcat := hF3.out.cellD (j := at') hat
          rw [hva'] at hcat
          have hva2 : va ≤ 256 := by have := hN3.out; omega
          obtain ⟨M, hM⟩ : ∃ M, mdI (np : Int) (at' : Int) (l : Int) = M := ⟨_, rfl⟩
          have HX := Lib.hid hva'
          have HM := Lib.hid hM
          clear hva hva' hM hva1
          by_cases hM0 : 0 ≤ M
          · obtain ⟨i, rfl⟩ := Int.eq_ofNat_of_zero_le hM0
            have hmd := md_lt (p := (np : Int)) (s := (at' : Int)) (k := (l : Int)) (by rw [HM.out]; exact hM0)
            rw [HM.out, Int.toNat_natCast, hpow] at hmd
            have hik : i < N := by omega
            obtain ⟨vi, hvi, hvi', hvi0, hvi1⟩ := hI3.out.at_far hik
            have hci := hF3.out.cellD (j := i) hik
            rw [hvi'] at hci
            have hok : bOk (np : Int) (nb : Int) (at' : Int) (far', q') l = decide (popI (i : Int) 8 ≤ (nb : Int) ∧ vi < 0) := by
              rw [bOk, HM.out, Int.toNat_natCast]
              simp only [hvi']
              rw [Bool.eq_iff_iff]; simp
              exact and_comm
            obtain ⟨PB, hPB⟩ : ∃ PB, popI (i : Int) 8 = PB := ⟨_, rfl⟩
            rw [hPB] at hok
            have HOK := Lib.hid hok
            have HVI := Lib.hid hvi'
            have HPB := Lib.hid hPB
            clear hmd hvi hvi' hok hPB hM0 hvi1
            by_cases hgo : PB ≤ (nb : Int) ∧ vi < 0
            · obtain ⟨hgo1, hgo2⟩ := hgo
              have hfi : wr.frozen? ⟨g, i, none⟩ = false := hF3.out.frozenAt i
              have hst := hF3.out.stored (k := i) hik (va + 1)
              have hF4 := Lib.hid hst.1
              have hQ4 := Lib.hid (hQ3.out.kept hst.2 (fun g' o' e => by injection e with e; injection e with e1 e2; intro h; injection h with h; omega))
              have hB4 : Below w.heap.size w (wr.setCell ⟨g, i, none⟩ (.int .i64 (va + 1))) := hB'.grown hst.2 (by omega) (fun q e => by cases e; exact hgw)
              have hs4 : B2 ≤ (wr.setCell ⟨g, i, none⟩ (.int .i64 (va + 1))).heap.size := by simpa using hs'
              have hsz4 : (wr.setCell ⟨g, i, none⟩ (.int .i64 (va + 1))).heap.size = wr.heap.size := by simp
              clear hst
              go_wp2_with (first | (go_at_call 51; refine (moveDo _ _ _ _).mono ?_; rintro e w' ⟨rfl, rfl⟩; rw [HM.out]) | (go_at_call 60; refine (onesCount _ _ (by omega) (by omega)).mono ?_; rintro e w' ⟨rfl, rfl⟩; rw [HPB.out]) | (at_builtin; refine wpList_qpush _ (i : Int) rfl _ _ rfl B2 gq3 oq3 n3 c3 (q'.drop j) rfl (by rw [hsz4]; rfl) hQ4.out (by omega) hs4 ?_; intro A5 c5 w5 hO5 hg5))
              have hF5 := hF4.out.kept hg5 (.inr (by simp [Value.ownBlock]; omega))
              go_roundw
              case rel =>
                refine ⟨l + 1, n3 + 1, _, _, _, q' ++ [(i : Int)], by omega, by go_num, rfl, hF5, by rw [drop_app _ (by have := hJ3.out; omega)]; exact hO5, ?_, ?_, getD_app hq3.out, hB4.grown hg5 (by simp; omega) (fun q e => by cases e; omega), Nat.le_trans hs4 hg5.size⟩
                · have := hI3.out.step (i := i) (a := at') hik hat (by rw [HVI.out]; exact hgo2)
                  rwa [HX.out] at this
                · show bStep _ _ _ (bPl _ _ _ _ l) l = _
                  rw [hP3.out, bStep_yes (by rw [HOK.out]; simp; exact ⟨hgo1, hgo2⟩), HM.out, Int.toNat_natCast, Int.toNat_natCast]
                  simp only [HX.out]
              case measure => simp [intOf]; omega
            · have hno : bOk (np : Int) (nb : Int) (at' : Int) (far', q') l = false := by rw [HOK.out]; simp only [decide_eq_false_iff_not]; exact hgo
              have HNO := Lib.hid hno
              by_cases hgo1 : vi < 0
              · have hgo2 : (nb : Int) < PB := by have : ¬ PB ≤ (nb : Int) := fun h => hgo ⟨h, hgo1⟩; omega
                clear hgo hno
                go_wp2_with (first | (go_at_call 51; refine (moveDo _ _ _ _).mono ?_; rintro e w' ⟨rfl, rfl⟩; rw [HM.out]) | (go_at_call 60; refine (onesCount _ _ (by omega) (by omega)).mono ?_; rintro e w' ⟨rfl, rfl⟩; rw [HPB.out]))
                go_roundw
                case rel => exact ⟨l + 1, n3, _, _, _, _, by omega, by go_num, rfl, hF3.out, hQ3.out, hI3.out, by show bStep _ _ _ (bPl _ _ _ _ l) l = _; rw [hP3.out, bStep_no HNO.out], hq3.out, hB', hs'⟩
                case measure => simp [intOf]; omega
              · clear hgo hno
                go_wp2_with (go_at_call 51; refine (moveDo _ _ _ _).mono ?_; rintro e w' ⟨rfl, rfl⟩; rw [HM.out])
                go_roundw
                case rel => exact ⟨l + 1, n3, _, _, _, _, by omega, by go_num, rfl, hF3.out, hQ3.out, hI3.out, by show bStep _ _ _ (bPl _ _ _ _ l) l = _; rw [hP3.out, bStep_no HNO.out], hq3.out, hB', hs'⟩
                case measure => simp [intOf]; omega
          · have hno : bOk (np : Int) (nb : Int) (at' : Int) (far', q') l = false := by rw [bOk, HM.out]; simp only [decide_eq_false_iff_not]; exact fun h => hM0 h.1
            have HNO := Lib.hid hno
            clear hno
            go_wp2_with (go_at_call 51; refine (moveDo _ _ _ _).mono ?_; rintro e w' ⟨rfl, rfl⟩; rw [HM.out])
            go_roundw
            case rel => exact ⟨l + 1, n3, _, _, _, _, by omega, by go_num, rfl, hF3.out, hQ3.out, hI3.out, by show bStep _ _ _ (bPl _ _ _ _ l) l = _; rw [hP3.out, bStep_no HNO.out], hq3.out, hB', hs'⟩
            case measure => simp [intOf]; omega
        · obtain rfl : l = np := by omega
          have hqd := hQ3.out
          rw [drop_head hq3.out] at hqd
          have hQT := Lib.hid hqd.tail
          have hR9 : bRun (l : Int) (nb : Int) l (300 - (j + 1)) (j + 1) (far', q') = bfs l nb := by rw [← HR2.out, hP3.out]
          have HR9 := Lib.hid hR9
          clear hqd hR9
          have hc31 : 1 ≤ c3 := by omega
          by_cases hc1 : c3 = 1
          · subst hc1
            obtain rfl : n3 = 1 := by omega
            go_wp2
            go_roundg (300 - (j + 1))
            case measure => omega
            case rel => exact ⟨j + 1, 0, _, 0, _, _, rfl, by have := hJ3.out; omega, rfl, hF3.out, by simpa using hQT.out, hI3.out, HR9.out, hB', hs'⟩
          · go_wp2
            go_roundg (300 - (j + 1))
            case measure => omega
            case rel => exact ⟨j + 1, n3 - 1, _, _, _, _, rfl, by have := hJ3.out; omega, rfl, hF3.out, by have := hQT.out; rw [if_neg hc1] at this; exact this, hI3.out, HR9.out, hB', hs'⟩
theorem pebblesOk (n : Int) (w : World) : Calls Try.prog 52 #[.int .i64 n] w fun e w' => e = .returned (.bool (inB n 0 4)) ∧ w = w' := by
  go_enter Try.func52, Try.ntmps52
  go_wp2_with (go_at_call 44; refine (within _ _ _ _).mono ?_; rintro e w' ⟨rfl, rfl⟩)
  go_ret
  exact ⟨rfl, rfl⟩
theorem setsWith (p b : Int) (w : World) : Calls Try.prog 29 #[.int .i64 p, .int .i64 b] w (GivesI w (swL p b)) := by
  cases hp : inB p 1 8 <;> cases hb : inB b 0 4
  case true.true =>
    have hp' := inB_iff.1 hp
    have hb' := inB_iff.1 hb
    obtain ⟨np, rfl⟩ : ∃ n : Nat, p = (n : Int) := ⟨p.toNat, by omega⟩
    obtain ⟨nb, rfl⟩ : ∃ n : Nat, b = (n : Int) := ⟨b.toNat, by omega⟩
    have hL : swL np nb = bfs np nb := by simp [swL, hp, hb]
    rw [hL]
    have h1 : 1 ≤ np := by omega
    have h2 : np ≤ 8 := by omega
    have h3 : nb ≤ 4 := by omega
    clear hL hp' hb'
    go_enter Try.func29, Try.ntmps29
    go_wp2_with (first | (go_at_call 41; refine (placesOk _ _).mono ?_; rintro e w' ⟨rfl, rfl⟩) | (go_at_call 52; refine (pebblesOk _ _).mono ?_; rintro e w' ⟨rfl, rfl⟩) | (go_at_call 53; refine (reached np nb _ h1 h2 h3).mono ?_; rintro e w1 ⟨A1, n1, c1, rfl, hO1, hB1⟩))
    go_ret
    exact ⟨_, _, _, rfl, hO1, hB1⟩
  all_goals
    have hL : swL p b = [] := by simp [swL, hp, hb]
    rw [hL]
    go_enter Try.func29, Try.ntmps29
    go_wp2_with (first | (go_at_call 41; refine (placesOk _ _).mono ?_; rintro e w' ⟨rfl, rfl⟩) | (go_at_call 52; refine (pebblesOk _ _).mono ?_; rintro e w' ⟨rfl, rfl⟩))
    go_ret
    exact GivesI.nil w
end Go.Proofs.Ytmppiifkajmbgaa

/- Contract of spec.SetsWith: the search, walked. -/
import Derived.Test.YtmppiifkajmbgaaPlBfs2
import Derived.Test.YtmppiifkajmbgaaPeb
import Derived.Test.YtmppiifkajmbgaaPush
namespace Go.Proofs.Ytmppiifkajmbgaa
open Go.RowKit
set_option linter.unusedVariables false

theorem OS.one (w : World) (x : Int) : OS (w.alloc (.cells #[.int .i64 x] 3)) w.heap.size (some ⟨w.heap.size, 0, none⟩) 1 1 [x] :=
  ⟨by simp, .inr ⟨w.heap.size, 1, #[.int .i64 x], rfl, Nat.le_refl _, heap_alloc_new _ _, Nat.le_refl _, by simp [maxLen], by simp, by simp⟩⟩
theorem OS.cellD {w : World} {base g n c : Nat} {zs : List Int} (h : OS w base (some ⟨g, 0, none⟩) n c zs) {j : Nat} (hj : j < n) : w.cell? ⟨g, j, none⟩ = some (.int .i64 (zs.getD j 0)) := by
  rw [h.toI.cellAt hj]
  have : j < zs.length := by rw [h.len]; exact hj
  simp [List.getD, this]
theorem bfs_start {p b : Int} {np : Nat} (hp : p = (np : Int)) : bRun p b np (300 - 0) 0 (bStart np) = bfs p b := by subst hp; rfl

theorem BInv_start' {np N : Nat} (hN : 2 ^ np = N) (h1 : 1 ≤ N) : BInv N ((List.replicate N (-1)).set 0 0) [0] := by have := binv_start hN h1; rw [bStart, hN] at this; exact this
set_option maxHeartbeats 4000000 in
theorem setsWithS (p b : Int) (w : World) : Calls Try.prog 28 #[.int .i64 p, .int .i64 b] w (GivesI w (swL p b)) := by
  cases hp : inB p 1 8 <;> cases hb : inB b 0 4
  case true.true =>
    have hp' := inB_iff.1 hp
    have hb' := inB_iff.1 hb
    obtain ⟨np, rfl⟩ : ∃ n : Nat, p = (n : Int) := ⟨p.toNat, by omega⟩
    obtain ⟨nb, rfl⟩ : ∃ n : Nat, b = (n : Int) := ⟨b.toNat, by omega⟩
    have hL : swL np nb = bfs np nb := by simp [swL, hp, hb]
    have HL := Lib.hid hL
    have hp8 : 1 ≤ np ∧ np ≤ 8 := by omega
    obtain ⟨hp1, hp9⟩ := hp8
    obtain ⟨N, hN⟩ : ∃ N : Nat, 2 ^ np = N := ⟨_, rfl⟩
    have hNb : 2 ≤ N ∧ N ≤ 256 := by
      rw [← hN]
      have h9 : np = 1 ∨ np = 2 ∨ np = 3 ∨ np = 4 ∨ np = 5 ∨ np = 6 ∨ np = 7 ∨ np = 8 := by omega
      rcases h9 with rfl | rfl | rfl | rfl | rfl | rfl | rfl | rfl <;> decide
    obtain ⟨hN2, hN256⟩ := hNb
    have hpow : (2 : Int) ^ np = (N : Int) := by rw [← hN]; push_cast; rfl
    have hwN : wrap64 (N : Int) = (N : Int) := by unfold wrap64; omega
    have HN := Lib.hid hN
    clear hL hp' hb' hN
    have hE := OS.empty w
    have hbE : Below w.heap.size w (w.alloc (.cells #[] 3)) := (Below.refl _ _).alloc (Nat.le_refl _) _
    go_enter Try.func28, Try.ntmps28
    go_wp2_with (go_at_call 40; refine (l1In _ _ _ _).mono ?_; rintro e w' ⟨rfl, rfl⟩)
    go_loopw [5, 6] (fun v i wr => ∃ (k : Nat) (A' : Option Addr) (c' : Nat), k ≤ N ∧ i = .int .i64 k ∧ v = .slice A' k c' ∧ OS wr w.heap.size A' k c' (List.replicate k (-1)) ∧ Below w.heap.size w wr)
      (fun _ i _ => N - (intOf i).toNat)
    case atStart => exact ⟨0, _, _, by omega, rfl, rfl, hE, hbE⟩
    case round =>
      obtain ⟨k, A', c', hk, rfl, rfl, hO, hB⟩ := hrel
      have HO := Lib.hid hO
      have hs := hB.size
      clear hO hE hbE
      by_cases hlt : k < N
      · go_wp2_with (at_builtin; refine wpList_push _ (-1) rfl _ _ rfl w.heap.size A' k c' _ rfl rfl HO.out (by omega) hs ?_; intro g c2 w2 hO2 hg2)
        have hB2 : Below w.heap.size w w2 := hB.grown hg2 hs (fun q e => (HO.out.lt q e).1)
        go_roundw
        case rel => exact ⟨k + 1, _, _, by omega, by go_num, rfl, by rw [List.replicate_succ']; exact hO2, hB2⟩
        case measure => simp [intOf]; omega
      · obtain rfl : k = N := by omega
        obtain ⟨g, rfl, hg0, hg1⟩ := HO.out.toI.addr (by omega)
        have hc0 := HO.out.cellD (j := 0) (by omega)
        have hf0 : wr.frozen? ⟨g, 0, none⟩ = false := HO.out.toI.frozenAt 0
        have hst := HO.out.stored (k := 0) 0
        have HST := Lib.hid hst.1
        have hBs : Below w.heap.size w (wr.setCell ⟨g, 0, none⟩ (.int .i64 0)) := hB.grown hst.2 hs (fun q e => by cases e; exact hg0)
        have hQ := OS.one (wr.setCell ⟨g, 0, none⟩ (.int .i64 0)) 0
        have HQ := Lib.hid hQ
        have HF := Lib.hid (HST.out.alloc (.cells #[.int .i64 0] 3))
        have hBq : Below w.heap.size w ((wr.setCell ⟨g, 0, none⟩ (.int .i64 0)).alloc (.cells #[.int .i64 0] 3)) := hBs.alloc (by simpa using hs) _
        have hsz : (wr.setCell ⟨g, 0, none⟩ (.int .i64 0)).heap.size = wr.heap.size := by simp
        have hB0 := BInv_start' HN.out (by omega)
        have hR0 : bRun (np : Int) (nb : Int) np (300 - 0) 0 ((List.replicate k (-1)).set 0 0, [0]) = bfs np nb := by rw [← HN.out]; exact bfs_start rfl
        have HB0 := Lib.hid hB0
        have HR0 := Lib.hid hR0
        have hgq : g < (wr.setCell ⟨g, 0, none⟩ (.int .i64 0)).heap.size := by simpa using hg1
        rw [hsz] at HQ hgq
        have hBsz : wr.heap.size ≤ ((wr.setCell ⟨g, 0, none⟩ (.int .i64 0)).alloc (.cells #[.int .i64 0] 3)).heap.size := by rw [World.size_alloc, hsz]; omega
        clear hB0 hR0 hBs hB hs hst HST HO hQ
        go_wp2
        clear hc0 hf0
        obtain ⟨B2, hB2⟩ : ∃ B2, wr.heap.size = B2 := ⟨_, rfl⟩
        rw [hB2] at HQ hgq hBsz ⊢
        clear hlt hk
        go_loopw [7, 8] (fun v i wx => ∃ (j m : Nat) (A2 : Option Addr) (c2 : Nat) (far q : List Int), j ≤ m ∧ i = .int .i64 j ∧ v = .slice A2 m c2 ∧ OS wx w.heap.size (some ⟨g, 0, none⟩) k c' far ∧ OS wx B2 A2 m c2 q ∧ BInv k far q ∧ bRun (np : Int) (nb : Int) np (300 - j) j (far, q) = bfs np nb ∧ Below w.heap.size w wx ∧ B2 ≤ wx.heap.size)
          (fun _ i _ => 300 - (intOf i).toNat)
        case atStart => exact ⟨0, 1, _, _, _, _, by omega, rfl, rfl, HF.out, HQ.out, HB0.out, HR0.out, hBq, hBsz⟩
        case round =>
          obtain ⟨j, m, A2, c2, far, q, hj, rfl, rfl, hF, hQ, hI, hR, hB, hs⟩ := hrel
          have hm := hQ.len
          have hmk := hI.q_len
          have hm256 : m ≤ 256 := by omega
          have hF1 := Lib.hid hF
          have hQ1 := Lib.hid hQ
          have hI1 := Lib.hid hI
          have hR1 := Lib.hid hR
          have hM := Lib.hid hm
          clear hF hQ hI hR HF HQ hmk hm hBq hBsz
          by_cases hlt : j < m
          · obtain ⟨at', hq0, hq1, hat⟩ := hI1.out.at_q (k := j) (by rw [hM.out]; exact hlt)
            have hQ0 := Lib.hid hq0
            have hR2 := hR1.out
            rw [show 300 - j = (300 - (j + 1)) + 1 from by omega, bRun_succ (by rw [hM.out]; exact hlt), hq1] at hR2
            have HR2 := Lib.hid hR2
            clear hq0 hq1 hR2 hR1
            go_wp2
            go_loopw [7, 9] (fun v i wy => ∃ (l m : Nat) (A2 : Option Addr) (c2 : Nat) (far' q' : List Int), l ≤ np ∧ i = .int .i64 l ∧ v = .slice A2 m c2 ∧ OS wy w.heap.size (some ⟨g, 0, none⟩) k c' far' ∧ OS wy B2 A2 m c2 q' ∧ BInv k far' q' ∧ bPl (np : Int) (nb : Int) (at' : Int) (far, q) l = (far', q') ∧ q'[j]? = some (at' : Int) ∧ Below w.heap.size w wy ∧ B2 ≤ wy.heap.size)
              (fun _ i _ => np - (intOf i).toNat)
            case atStart => exact ⟨0, m, _, _, _, _, by omega, rfl, rfl, hF1.out, hQ1.out, hI1.out, rfl, hQ0.out, hB, hs⟩
            case round =>
              obtain ⟨l, m', A3, c3, far', q', hl, rfl, rfl, hF, hQ, hI, hP, hq, hB', hs'⟩ := hrel
              have hm := hQ.len
              have hjm : j < m' := by rw [← hm]; exact (List.getElem?_eq_some_iff.1 hq).1
              have hmk := hI.q_len
              have hm256 : m' ≤ 256 := by omega
              have hF3 := Lib.hid hF
              have hQ3 := Lib.hid hQ
              have hI3 := Lib.hid hI
              have hP3 := Lib.hid hP
              have hq3 := Lib.hid hq
              have hM3 := Lib.hid hm
              have hjk : j + 1 ≤ 256 := by omega
              clear hF hQ hI hP hmk hm hq hF1 hQ1 hI1 hM hQ0 hB hs hm256
              by_cases hll : l < np
              · obtain ⟨ad, x, rfl, hbx, hx, hcx⟩ := hQ3.out.reads.at_ (k := j) hjm
                have hxa : x = (at' : Int) := by rw [hq3.out] at hx; exact (Option.some.inj hx).symm
                subst hxa
                obtain ⟨va, hva, hva', hva0, hva1⟩ := hI3.out.at_far hat
                have hcat := hF3.out.cellD (j := at') hat
                rw [hva'] at hcat
                rw [hM3.out] at hva1
                have hm256 : m' ≤ 256 := by have := hI3.out.q_len; rw [hM3.out] at this; omega
                obtain ⟨M, hM⟩ : ∃ M, mdI (np : Int) (at' : Int) (l : Int) = M := ⟨_, rfl⟩
                have HX := Lib.hid hva'
                have HM := Lib.hid hM
                clear hx hva hva' hM
                by_cases hM0 : 0 ≤ M
                · obtain ⟨i, rfl⟩ := Int.eq_ofNat_of_zero_le hM0
                  have hmd := md_lt (p := (np : Int)) (s := (at' : Int)) (k := (l : Int)) (by rw [HM.out]; exact hM0)
                  rw [HM.out, Int.toNat_natCast, hpow] at hmd
                  have hik : i < k := by omega
                  have hpeb : pebI (np : Int) (i : Int) = popI (i : Int) 8 := by rw [← HM.out]; exact pebI_8 (md_yes hmd.2).1
                  obtain ⟨vi, hvi, hvi', hvi0, hvi1⟩ := hI3.out.at_far hik
                  have hci := hF3.out.cellD (j := i) hik
                  rw [hvi'] at hci
                  have hok : bOk (np : Int) (nb : Int) (at' : Int) (far', q') l = decide (popI (i : Int) 8 ≤ (nb : Int) ∧ vi < 0) := by
                    rw [bOk, HM.out, Int.toNat_natCast]
                    simp only [hvi']
                    rw [Bool.eq_iff_iff]; simp
                    exact and_comm
                  obtain ⟨PB, hPB⟩ : ∃ PB, popI (i : Int) 8 = PB := ⟨_, rfl⟩
                  rw [hPB] at hok hpeb
                  have HOK := Lib.hid hok
                  have HVI := Lib.hid hvi'
                  clear hmd hvi hvi' hok hPB hM0
                  by_cases hgo : PB ≤ (nb : Int) ∧ vi < 0
                  · obtain ⟨hgo1, hgo2⟩ := hgo
                    have hfi : wr.frozen? ⟨g, i, none⟩ = false := hF3.out.toI.frozenAt i
                    have hst := hF3.out.stored (k := i) (va + 1)
                    have hF4 := Lib.hid hst.1
                    have hQ4 := Lib.hid (hQ3.out.apart hst.2 (.inl hgq))
                    have hB4 : Below w.heap.size w (wr.setCell ⟨g, i, none⟩ (.int .i64 (va + 1))) := hB'.grown hst.2 (by omega) (fun q e => by cases e; exact hg0)
                    have hs4 : B2 ≤ (wr.setCell ⟨g, i, none⟩ (.int .i64 (va + 1))).heap.size := by simpa using hs'
                    have hsz4 : (wr.setCell ⟨g, i, none⟩ (.int .i64 (va + 1))).heap.size = wr.heap.size := by simp
                    clear hst
                    go_wp2_with (first | (go_at_call 54; refine (moveDoS _ _ _ _).mono ?_; rintro e w' ⟨rfl, rfl⟩; rw [HM.out]) | (go_at_call 55; refine (pebblesOnS _ _ _).mono ?_; rintro e w' ⟨rfl, rfl⟩; rw [hpeb]) | (at_builtin; refine wpList_push _ (i : Int) rfl _ _ rfl B2 _ m' c3 q' rfl (by rw [hsz4]; rfl) hQ4.out (by omega) hs4 ?_; intro g5 c5 w5 hO5 hg5))
                    have hF5 := hF4.out.sepV hg5 (fun a b ha hb => by simp [Value.ownBlock] at ha; have := (hQ4.out.lt b hb).1; omega)
                    go_roundw
                    case rel =>
                      refine ⟨l + 1, m' + 1, _, _, _, _, by omega, by go_num, rfl, hF5, hO5, ?_, ?_, getD_app hq3.out, hB4.grown hg5 (by simp; omega) (fun q e => by have := (hQ4.out.lt q e).1; omega), Nat.le_trans hs4 hg5.size⟩
                      · have := hI3.out.step (i := i) (a := at') hik hat (by rw [HVI.out]; exact hgo2)
                        rwa [HX.out] at this
                      · show bStep _ _ _ (bPl _ _ _ _ l) l = _
                        rw [hP3.out, bStep_yes (by rw [HOK.out]; simp; exact ⟨hgo1, hgo2⟩), HM.out, Int.toNat_natCast, Int.toNat_natCast]
                        simp only [HX.out]
                    case measure => simp [intOf]; omega
                  · have hno : bOk (np : Int) (nb : Int) (at' : Int) (far', q') l = false := by rw [HOK.out]; simp only [decide_eq_false_iff_not]; exact hgo
                    have HNO := Lib.hid hno
                    by_cases hgo1 : PB ≤ (nb : Int)
                    · have hgo2 : 0 ≤ vi := by have : ¬ vi < 0 := fun h => hgo ⟨hgo1, h⟩; omega
                      clear hgo hno
                      go_wp2_with (first | (go_at_call 54; refine (moveDoS _ _ _ _).mono ?_; rintro e w' ⟨rfl, rfl⟩; rw [HM.out]) | (go_at_call 55; refine (pebblesOnS _ _ _).mono ?_; rintro e w' ⟨rfl, rfl⟩; rw [hpeb]))
                      go_roundw
                      case rel => exact ⟨l + 1, m', _, _, _, _, by omega, by go_num, rfl, hF3.out, hQ3.out, hI3.out, by show bStep _ _ _ (bPl _ _ _ _ l) l = _; rw [hP3.out, bStep_no HNO.out], hq3.out, hB', hs'⟩
                      case measure => simp [intOf]; omega
                    · clear hgo hno
                      go_wp2_with (first | (go_at_call 54; refine (moveDoS _ _ _ _).mono ?_; rintro e w' ⟨rfl, rfl⟩; rw [HM.out]) | (go_at_call 55; refine (pebblesOnS _ _ _).mono ?_; rintro e w' ⟨rfl, rfl⟩; rw [hpeb]))
                      go_roundw
                      case rel => exact ⟨l + 1, m', _, _, _, _, by omega, by go_num, rfl, hF3.out, hQ3.out, hI3.out, by show bStep _ _ _ (bPl _ _ _ _ l) l = _; rw [hP3.out, bStep_no HNO.out], hq3.out, hB', hs'⟩
                      case measure => simp [intOf]; omega
                · have hno : bOk (np : Int) (nb : Int) (at' : Int) (far', q') l = false := by rw [bOk, HM.out]; simp only [decide_eq_false_iff_not]; exact fun h => hM0 h.1
                  have HNO := Lib.hid hno
                  clear hno
                  go_wp2_with (go_at_call 54; refine (moveDoS _ _ _ _).mono ?_; rintro e w' ⟨rfl, rfl⟩; rw [HM.out])
                  go_roundw
                  case rel => exact ⟨l + 1, m', _, _, _, _, by omega, by go_num, rfl, hF3.out, hQ3.out, hI3.out, by show bStep _ _ _ (bPl _ _ _ _ l) l = _; rw [hP3.out, bStep_no HNO.out], hq3.out, hB', hs'⟩
                  case measure => simp [intOf]; omega
              · obtain rfl : l = np := by omega
                go_wp2
                go_roundw
                case rel => exact ⟨j + 1, m', _, _, _, _, by omega, by go_num, rfl, hF3.out, hQ3.out, hI3.out, by rw [← HR2.out, hP3.out], hB', hs'⟩
                case measure => simp [intOf]; omega
          · obtain rfl : j = m := by omega
            go_wp2
            go_ret
            refine ⟨_, _, _, rfl, ?_, hB⟩
            rw [HL.out, ← hR1.out, bRun_end (by rw [hM.out]; exact hlt)]
            exact hF1.out.toI
  all_goals
    have hE := Lib.hid (OS.empty w)
    have hbE : Below w.heap.size w (w.alloc (.cells #[] 3)) := (Below.refl _ _).alloc (Nat.le_refl _) _
    have hL : swL p b = [] := by simp [swL, hp, hb]
    rw [hL]
    go_enter Try.func28, Try.ntmps28
    go_wp2_with (go_at_call 40; refine (l1In _ _ _ _).mono ?_; rintro e w' ⟨rfl, rfl⟩)
    go_ret
    exact ⟨_, _, _, rfl, hE.out.toI, hbE⟩
end Go.Proofs.Ytmppiifkajmbgaa

/- Contracts of slices.Repeat (one -1, many times) and slices.Clip. -/
import Derived.Test.YtmppiifkajmbgaaPush
import Derived.Laws.CopyOwn
namespace Go.Proofs.Ytmppiifkajmbgaa
open Go.RowKit
set_option linter.unusedVariables false

theorem infoSize : (Try.prog.info? 3).map (·.size) = some 1 := by kernel_rfl
/-- the row as far as it is filled -/
def fillR (N n : Nat) : List Value := (List.replicate n (-1 : Int) ++ List.replicate (N - n) 0).map (.int .i64)
theorem fillR_len {N n : Nat} (h : n ≤ N) : (fillR N n).length = N := by simp [fillR]; omega
theorem fillR_at {N n j : Nat} (hj : j < n) : (fillR N n)[j]? = some (.int .i64 (-1)) := by
  rw [fillR, List.getElem?_map, List.getElem?_append_left (by simpa using hj), List.getElem?_replicate, if_pos hj]; rfl
theorem fillR_more {N n m : Nat} (h : n + m ≤ N) : splice (fillR N n) n (List.replicate m (.int .i64 (-1))) = fillR N (n + m) := by
  have e1 : (List.replicate (N - n) (Value.int .i64 0)).drop m = List.replicate (N - (n + m)) (Value.int .i64 0) := by
    rw [List.drop_replicate]; congr 1; omega
  simp only [splice, fillR, List.map_append, List.map_replicate, List.length_replicate]
  rw [List.take_left' (by simp), ← List.drop_drop, List.drop_left' (by simp), e1, ← List.append_assoc, List.replicate_append_replicate]
theorem fillR_full {N : Nat} : fillR N N = (List.replicate N (-1 : Int)).map (.int .i64) := by simp [fillR]
theorem fillR_zero {N : Nat} : fillR N 0 = (List.replicate N (0 : Int)).map (.int .i64) := by simp [fillR]
/-- a whole row of a block -/
theorem OS.row {w : World} {base g n : Nat} {zs : List Int} (h : OS w base (some ⟨g, 0, none⟩) n n zs) : w.heap[g]? = some (.cells (zs.map (Value.int .i64)).toArray 3 (0, 0)) := by
  rcases h.2 with ⟨hv, _⟩ | ⟨g', cap, cur, hv, hb, hg, hnc, hcm, hcs, ht⟩
  · cases hv
  · injection hv with e1 _ e3
    injection e1 with e1; injection e1 with e1
    subst e1; subst e3
    have hl := h.len
    rw [List.take_of_length_le (by simp; omega)] at ht
    rw [hg, ← ht]
theorem OI.of_row {w : World} {base g n : Nat} {zs : List Int} (h : w.heap[g]? = some (.cells (zs.map (Value.int .i64)).toArray 3 (0, 0))) (hl : zs.length = n) (hn : n ≤ maxLen) (hb : base ≤ g) : OI w base (some ⟨g, 0, none⟩) n n zs :=
  ⟨hl, Nat.le_refl _, hn, .inr ⟨g, _, rfl, hb, h, by simp; omega, by rw [List.take_of_length_le (by simp; omega)]⟩⟩

theorem clip (A : Option Addr) (n c : Nat) (w : World) (hc : n ≤ c) (hcm : c ≤ maxLen) :
    Calls Try.prog 45 #[.slice A n c] w fun e w' => e = .returned (.slice A n n) ∧ w = w' := by
  unfold maxLen at hcm
  go_enter Try.func45, Try.ntmps45
  go_wp2
  go_ret
  exact ⟨rfl, rfl⟩
set_option maxHeartbeats 1000000 in
theorem bitsMul (N : Nat) (hN : N = 2 ∨ N = 4 ∨ N = 8 ∨ N = 16 ∨ N = 32 ∨ N = 64 ∨ N = 128 ∨ N = 256) (w : World) :
    Calls Try.prog 76 #[.int .u64 1, .int .u64 (N : Int)] w fun e w' => e = .returned (.tuple #[.int .u64 0, .int .u64 (N : Int)]) ∧ w = w' := by
  rcases hN with rfl | rfl | rfl | rfl | rfl | rfl | rfl | rfl
  all_goals
    go_enter Try.func76, Try.ntmps76
    go_wp2
    go_ret2
    exact ⟨rfl, rfl⟩
set_option maxHeartbeats 2000000 in
theorem repeat_ (A : Option Addr) (c N : Nat) (w : World) (hr : RI w w.heap.size A 1 [-1]) (hN : N = 2 ∨ N = 4 ∨ N = 8 ∨ N = 16 ∨ N = 32 ∨ N = 64 ∨ N = 128 ∨ N = 256) :
    Calls Try.prog 66 #[.slice A 1 c, .int .i64 (N : Int)] w (GivesI w (List.replicate N (-1))) := by
  have hMul := fun w' => bitsMul N hN w'
  have HM := Lib.hid hMul
  have hNb : 2 ≤ N ∧ N ≤ 256 := by omega
  obtain ⟨hN0, hN1⟩ := hNb
  have HR := Lib.hid hr
  clear hMul hN hr
  go_enter Try.func66, Try.ntmps66
  go_wp2_with (first | (go_at_call 76; refine (HM.out _).mono ?_; rintro e w' ⟨rfl, rfl⟩) | (at_make; refine wpList_mk _ rfl _ _ rfl N _ _ rfl rfl rfl rfl (by omega) ?_; intro w1 hO1 hg1; have hB1 := grown_below hg1; have hrow := hO1.row; rw [← fillR_zero] at hrow; have HROW := Lib.hid hrow; have HR1 := Lib.hid (HR.out.below hB1); clear hrow hO1 hg1) | (refine wpList_copy_splice (o := ⟨some 33, _, _, _, _, _⟩) rfl (.tmp 31) (.tmp 32) 22 22 rfl 3 Try.underlying22 infoSize _ _ _ _ _ _ (by rfl) (by rfl) w.heap.size 0 (fillR N 0) 3 HROW.out [.int .i64 (-1)] (by show 1 = min 1 N; omega) (fun _ => ⟨rfl, by obtain ⟨ad, e, _, hc⟩ := HR1.out.2 (by omega); exact ⟨ad, e, hc⟩⟩) (by rw [fillR_len (by omega)]; simp; omega) (by simp [Value.oneCell']) w.heap.size w hB1 (Nat.le_refl _) ?_; intro w2 hg2 hB2))
  have e0 : splice (fillR N 0) 0 [Value.int .i64 (-1)] = fillR N 1 := fillR_more (N := N) (n := 0) (m := 1) (by omega)
  rw [e0] at hg2
  clear e0
  go_loopw [8] (fun v wr => ∃ k : Nat, 1 ≤ k ∧ k ≤ N ∧ v = .int .i64 k ∧ Hid (wr.heap[w.heap.size]? = some (.cells (fillR N k).toArray 3 (0, 0))) ∧ Below w.heap.size w wr) (fun v _ => N - (intOf v).toNat)
  case atStart => exact ⟨1, Nat.le_refl _, by omega, rfl, hg2, hB2⟩
  case round =>
    obtain ⟨k, hk0, hk, rfl, HG, hB⟩ := hrel
    clear hg2 hB2 HROW HR1 hB1
    by_cases hlt : k < N
    · obtain ⟨m, hm⟩ : ∃ m, min k (N - k) = m := ⟨_, rfl⟩
      have hm1 : 1 ≤ m := by omega
      have hm2 : k + m ≤ N := by omega
      have hm3 : m ≤ k := by omega
      have hNk : ¬ N = k := by omega
      have HM := Lib.hid hm
      have hwk : IntKind.i64.wrap ((k : Int) + (m : Int)) = (k : Int) + (m : Int) := by rw [IntKind.wrap_i64]; omega
      clear hm
      have hc3 : ∀ j v, (List.replicate m (Value.int .i64 (-1)))[j]? = some v → wr.drew.cell? ((⟨w.heap.size, 0, none⟩ : Addr).add j) = some v := by
        intro j v hv
        have hj : j < m := by have := (List.getElem?_eq_some_iff.1 hv).1; simpa using this
        rw [List.getElem?_replicate, if_pos hj] at hv
        rw [lit_add, Nat.zero_add]
        show wr.cell? _ = _
        rw [cell_of_row wr _ j _ _ _ HG.out, ← hv, List.getElem?_toArray]
        exact fillR_at (by omega)
      have HC3 := Lib.hid hc3
      have HD := Lib.hid (show Below w.heap.size w wr.drew from below_drewN hB 1)
      clear hc3
      go_wp2
      go_region_law (refine step_copy_splice rfl (.tmp 41) (.tmp 44) 22 22 rfl 3 Try.underlying22 infoSize (some ⟨w.heap.size, k, none⟩) (some ⟨w.heap.size, 0, none⟩) (N - k) (N - k) k N (by simp [Act.eval, Act.put]) (by simp [Act.eval, Act.put]) w.heap.size k (fillR N k) 3 HG.out (List.replicate m (.int .i64 (-1))) (by rw [List.length_replicate]; exact HM.out.symm) (fun _ => ⟨rfl, _, rfl, HC3.out⟩) (by rw [fillR_len hk, List.length_replicate]; omega) (by intro v hv; rw [List.eq_of_mem_replicate hv]; rfl) w.heap.size w HD.out (Nat.le_refl _) ?_; intro w3 hg3 hB3; rw [List.length_replicate])
      rw [fillR_more hm2] at hg3
      go_simp
      go_roundw
      case rel => exact ⟨_, _, _, _, _, _, _, _, _, _, _, _, _, _, ⟨k + m, by omega, hm2, by go_num, hg3, hB3⟩, rfl⟩
      case measure => simp [intOf]; omega
    · obtain rfl : k = N := by omega
      go_wp2
      go_ret
      exact ⟨_, _, _, rfl, OI.of_row (by rw [HG.out, fillR_full]) (by simp) (by unfold maxLen; omega) (Nat.le_refl _), hB⟩
end Go.Proofs.Ytmppiifkajmbgaa

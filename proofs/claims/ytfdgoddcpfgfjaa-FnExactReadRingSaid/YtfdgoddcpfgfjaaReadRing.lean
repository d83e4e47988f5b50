/- Contracts: digits, texts of rings, the ring with a text. -/
import Derived.Test.YtfdgoddcpfgfjaaPlRead
import Derived.Test.YtfdgoddcpfgfjaaInts
import Derived.Test.YtfdgoddcpfgfjaaRing
import Derived.Test.YtfdgoddcpfgfjaaPush
import Derived.Laws.BytesString
import Derived.Laws.Concat
namespace Go.Proofs.Ytfdgoddcpfgfjaa
open Go.RowKit
set_option linter.unusedVariables false

/-- a text is returned; nothing that lay has turned -/
def GivesS (w : World) (l : List UInt8) (e : Ending) (w' : World) : Prop := e = .returned (.string ⟨l.toArray⟩) ∧ Below w.heap.size w w'
theorem conv1 (W : World) (g : Nat) (z : Nat) (h : W.cell? ⟨g, 0, none⟩ = some (.int .u8 (48 + (z : Int)))) : (convert 30 9 (.slice (some ⟨g, 0, none⟩) 1 1)).run Try.prog W = .ok (.string ⟨#[UInt8.ofNat (z + 48)]⟩) W := by
  rw [run_convert_bytes_string W _ _ _ _ _ _ Try.underlying30 Try.underlying5 Try.underlying9, run_bytesToString W ⟨g, 0, none⟩ 1 1 [48 + (z : Int)] (by simp [loadCells, loadCellsFrom, h, go_sem])]
  simp only [List.foldl_cons, List.foldl_nil]
  rw [show (48 + (z : Int)).toNat = z + 48 by omega]
  rfl
set_option maxHeartbeats 1000000 in
/-- a number of one digit -/
theorem l1Number1 (z : Nat) (w : World) (hz : z < 10) : Calls Try.prog 62 #[.int .i64 (z : Int)] w (GivesS w [UInt8.ofNat (z + 48)]) := by
  have hcc : (convert 30 9 (.slice (some ⟨w.heap.size, 0, none⟩) 1 1)).run Try.prog (w.alloc (.cells #[.int .u8 (48 + (z : Int))] 5)) = .ok (.string ⟨#[UInt8.ofNat (z + 48)]⟩) (w.alloc (.cells #[.int .u8 (48 + (z : Int))] 5)) :=
    conv1 _ w.heap.size z (by rw [cell_of_row (w.alloc (.cells #[.int .u8 (48 + (z : Int))] 5)) w.heap.size 0 _ _ _ (heap_alloc_new w _)]; rfl)
  go_enter Try.func62, Try.ntmps62
  go_wp2
  go_ret
  exact ⟨rfl, (Below.refl _ _).alloc (Nat.le_refl _) _⟩
theorem add_ok {a b c : ByteArray} (h : a ++ b = c) (ha : a.size ≤ 1048576) (hb : b.size ≤ 1048576) (w : World) : (Op.stringOp .add a b).run Try.prog w = .ok (.string c) w := by
  rw [run_string_add_sum w a b (by omega), h]
theorem str_size (l : List UInt8) : (⟨l.toArray⟩ : ByteArray).size = l.length := by show l.toArray.size = _; simp
set_option maxHeartbeats 2000000 in
theorem ringTextS (A : Option Addr) (n : Nat) (zs : List Int) (c : Nat) (w : World) (hr : RI w w.heap.size A n zs) (hl : n ≤ 1048577) :
    Calls Try.prog 57 #[.slice A n c] w (GivesS w (rtL zs)) := by
  have hlen := hr.len
  cases hv : rvB zs
  · rw [rt_f hv]
    by_cases h0 : n = 0
    · subst h0
      clear hlen
      go_enter Try.func57, Try.ntmps57
      go_wp2
      refine wp_loop_rounds 1 ?_
      rw [rounds_succ]
      go_wp2
      go_ret
      exact ⟨rfl, Below.refl _ _⟩
    · have hn0 : (0 : Int) < (n : Int) := by omega
      have hn1 : 0 < n := by omega
      have HC := Lib.hid (ringValidS A n zs c w hr hl)
      have HV := Lib.hid hv
      clear hlen h0 hv
      go_enter Try.func57, Try.ntmps57
      go_wp2
      refine wp_loop_rounds 1 ?_
      rw [rounds_succ]
      go_wp2_with (go_at_call 21; refine HC.out.mono ?_; rintro e w' ⟨rfl, rfl⟩; rw [HV.out])
      go_ret
      exact ⟨rfl, Below.refl _ _⟩
  · rw [rt_t hv]
    have hv12 := (rv_iff.1 hv).1
    have hn3 : 3 ≤ n := by omega
    have hn12 : n ≤ 12 := by omega
    have HR := Lib.hid hr
    have HV := Lib.hid hv
    have HL := Lib.hid hlen
    clear hlen hv hv12 hr
    go_enter Try.func57, Try.ntmps57
    go_wp2
    go_loopw [3, 4] (fun v i wr => ∃ (k : Nat) (sK : ByteArray), k ≤ n ∧ i = .int .i64 k ∧ v = .string sK ∧ Hid (sK = ⟨(dgL (zs.take k)).toArray⟩) ∧ Below w.heap.size w wr)
      (fun _ i _ => n - (intOf i).toNat)
    case atStart => exact ⟨0, _, by omega, rfl, rfl, rfl, Below.refl _ _⟩
    case round =>
      obtain ⟨k, sK, hk, rfl, rfl, HS, hB⟩ := hrel
      by_cases hlt : k < n
      · obtain ⟨ad, x, rfl, hbx, hx, hcx⟩ := (HR.out.up (Nat.le_refl _) hB (Nat.le_refl _)).at_ hlt
        have hx01 := rv_at HV.out hx
        obtain ⟨z, hz, rfl⟩ : ∃ z : Nat, z < 10 ∧ x = (z : Int) := by
          rcases hx01 with rfl | rfl
          · exact ⟨0, by omega, rfl⟩
          · exact ⟨1, by omega, rfl⟩
        have hdt := dg_take hx
        rw [show ((z : Int) + 48).toNat = z + 48 by omega] at hdt
        obtain ⟨sB, hsB⟩ : ∃ sB : ByteArray, (⟨[UInt8.ofNat (z + 48)].toArray⟩ : ByteArray) = sB := ⟨_, rfl⟩
        obtain ⟨sN, hsN⟩ : ∃ sN : ByteArray, (⟨(dgL (zs.take (k + 1))).toArray⟩ : ByteArray) = sN := ⟨_, rfl⟩
        have hcat : sK ++ sB = sN := by rw [← hsB, ← hsN, hdt, HS.out, ByteArray.mk_append_mk]
        have hszK : sK.size ≤ 1048576 := by
          rw [HS.out, str_size, dg_len]
          have := List.length_take_le k zs
          omega
        have hszB : sB.size ≤ 1048576 := by rw [← hsB, str_size]; simp
        have hadd := add_ok hcat hszK hszB
        have hN := fun w => l1Number1 z w hz
        unfold GivesS at hN
        rw [hsB] at hN
        have HN := Lib.hid hN
        have HSN := Lib.hid hsN
        have HCV := Lib.hid (ringValidS (some ad) n zs c wr (HR.out.up (Nat.le_refl _) hB (Nat.le_refl _)) hl)
        clear hx hx01 hdt hsB hsN hcat hN hszK hszB
        go_wp2_with (first | (go_at_call 21; refine HCV.out.mono ?_; rintro e w' ⟨rfl, rfl⟩; rw [HV.out]) | (go_at_call 62; refine (HN.out _).mono ?_; rintro e w5 ⟨rfl, hb5⟩))
        have hB5 := hB.trans (hb5.mono hB.size)
        go_roundw
        case rel => exact ⟨k + 1, sN, by omega, by go_num, rfl, HSN.out.symm, hB5⟩
        case measure => simp [intOf]; omega
      · obtain rfl : k = n := by omega
        have hfin : sK = ⟨(dgL zs).toArray⟩ := by rw [HS.out, List.take_of_length_le (by rw [HL.out]; exact Nat.le_refl _)]
        have HF := Lib.hid hfin
        clear hfin
        go_wp2
        go_ret
        exact ⟨by rw [← HF.out]; rfl, hB⟩
/-- a slice and a bool are returned -/
def GivesIb (w : World) (zs : List Int) (b : Bool) (e : Ending) (w' : World) : Prop := ∃ A n c, e = .returned (.tuple #[.slice A n c, .bool b]) ∧ OI w' w.heap.size A n c zs ∧ Below w.heap.size w w'
theorem GivesIb.none_ (w : World) : GivesIb w [] false (.returned (.tuple #[.slice none 0 0, .bool false])) w := ⟨none, 0, 0, rfl, ⟨rfl, Nat.le_refl _, by simp [maxLen], .inl ⟨rfl, rfl⟩⟩, Below.refl _ _⟩
set_option maxHeartbeats 2000000 in
theorem readRing (s : ByteArray) (w : World) (hl : s.size ≤ 1048576) :
    Calls Try.prog 38 #[.string s] w (GivesIb w (rrL s.data.toList) (rrB s.data.toList)) := by
  go_enter Try.func38, Try.ntmps38
  go_wp2_with (refine wpList_mk0 w rfl _ _ rfl s.size _ rfl rfl rfl (by omega) ?_; intro w2 hO2 hg2)
  have hb2 : Below w.heap.size w w2 := grown_below hg2
  have HO2 := Lib.hid hO2
  clear hO2 hg2
  go_loopw [4, 11] (fun v i wr => ∃ (k : Nat) (A' : Option Addr) (c' : Nat), k ≤ s.size ∧ i = .int .i64 k ∧ v = .slice A' k c' ∧ Hid (OS wr w.heap.size A' k c' (rdL (s.data.toList.take k))) ∧ Below w.heap.size w wr)
    (fun _ i _ => s.size - (intOf i).toNat)
  case atStart => exact ⟨0, _, _, by omega, rfl, rfl, HO2.out, hb2⟩
  case round =>
    clear HO2 hb2
    obtain ⟨k, A', c', hk, rfl, rfl, HO, hB⟩ := hrel
    have hs := hB.size
    by_cases hlt : k < s.size
    · have HT := Lib.hid (take_snoc s k hlt)
      have hu8 : s[k].toNat ≤ 255 := by have := UInt8.toNat_lt s[k]; omega
      go_wp2_with (at_builtin; refine wpList_push _ _ rfl _ _ rfl w.heap.size A' k c' _ rfl rfl HO.out (by omega) hs ?_; intro g c2 w3 hO3 hg3)
      have hB3 : Below w.heap.size w w3 := hB.grown hg3 hs (fun q e => (HO.out.lt q e).1)
      go_roundw
      case rel => exact ⟨k + 1, _, _, by omega, by go_num, rfl, (by show OS _ _ _ _ _ _; rw [HT.out, rd_snoc]; exact hO3), hB3⟩
      case measure => simp [intOf]; omega
    · obtain rfl : k = s.size := by omega
      have hO := HO.out
      rw [List.take_of_length_le (by simp)] at hO
      have HO1 := Lib.hid hO
      have HC := Lib.hid (ringValid A' s.size _ c' wr hO.reads (by omega))
      clear hO HO
      cases hv : rrB s.data.toList
      · have HV := Lib.hid (show rvB (rdL s.data.toList) = false from hv)
        have HRR := Lib.hid (rr_f hv)
        have HVV := Lib.hid hv
        clear hv
        go_wp2_with (go_at_call 23; refine HC.out.mono ?_; rintro e w' ⟨rfl, rfl⟩; rw [HV.out])
        go_ret2
        rw [HRR.out, HVV.out]
        exact ⟨none, 0, 0, rfl, ⟨rfl, Nat.le_refl _, by simp [maxLen], .inl ⟨rfl, rfl⟩⟩, hB⟩
      · have HV := Lib.hid (show rvB (rdL s.data.toList) = true from hv)
        have HRR := Lib.hid (rr_t hv)
        have HVV := Lib.hid hv
        clear hv
        go_wp2_with (go_at_call 23; refine HC.out.mono ?_; rintro e w' ⟨rfl, rfl⟩; rw [HV.out])
        go_ret2
        rw [HRR.out, HVV.out]
        exact ⟨_, _, _, rfl, HO1.out.toI, hB⟩
set_option maxHeartbeats 2000000 in
theorem readRingS (s : ByteArray) (w : World) (hl : s.size ≤ 1048576) :
    Calls Try.prog 37 #[.string s] w (GivesIb w (rrL s.data.toList) (rrB s.data.toList)) := by
  have HE := Lib.hid (OS.empty w)
  have hbE : Below w.heap.size w (w.alloc (.cells #[] 3)) := (Below.refl _ _).alloc (Nat.le_refl _) _
  go_enter Try.func37, Try.ntmps37
  go_wp2
  go_loopw [4, 5] (fun v i wr => ∃ (k : Nat) (A' : Option Addr) (c' : Nat), k ≤ s.size ∧ i = .int .i64 k ∧ v = .slice A' k c' ∧ Hid (OS wr w.heap.size A' k c' (rdL (s.data.toList.take k))) ∧ Below w.heap.size w wr)
    (fun _ i _ => s.size - (intOf i).toNat)
  case atStart => exact ⟨0, _, _, by omega, rfl, rfl, HE.out, hbE⟩
  case round =>
    clear HE hbE
    obtain ⟨k, A', c', hk, rfl, rfl, HO, hB⟩ := hrel
    have hs := hB.size
    by_cases hlt : k < s.size
    · have HT := Lib.hid (take_snoc s k hlt)
      have hu8 : s[k].toNat ≤ 255 := by have := UInt8.toNat_lt s[k]; omega
      go_wp2_with (at_builtin; refine wpList_push _ _ rfl _ _ rfl w.heap.size A' k c' _ rfl rfl HO.out (by omega) hs ?_; intro g c2 w3 hO3 hg3)
      have hB3 : Below w.heap.size w w3 := hB.grown hg3 hs (fun q e => (HO.out.lt q e).1)
      go_roundw
      case rel => exact ⟨k + 1, _, _, by omega, by go_num, rfl, (by show OS _ _ _ _ _ _; rw [HT.out, rd_snoc]; exact hO3), hB3⟩
      case measure => simp [intOf]; omega
    · obtain rfl : k = s.size := by omega
      have hO := HO.out
      rw [List.take_of_length_le (by simp)] at hO
      have HO1 := Lib.hid hO
      have hRT := ringTextS A' s.size _ c' wr hO.reads (by omega)
      clear hO HO
      have HE0 := Lib.hid (fun W => (OS.empty W).toI)
      by_cases h0 : s.size = 0
      · have hL : s.data.toList = [] := by apply List.eq_nil_of_length_eq_zero; simpa using h0
        have hse : (s.toList == []) = true := by rw [ByteArray.toList_eq, hL]; rfl
        have hse' : s.toList = [] := by rw [ByteArray.toList_eq, hL]
        have HL := Lib.hid hL
        clear hL hRT h0
        go_wp2
        go_ret2
        rw [HL.out, rr_f rr_empty, rr_empty]
        exact ⟨_, _, _, rfl, (HE0.out wr).mono hs, hB.alloc hs _⟩
      · have hL : s.data.toList ≠ [] := fun h => h0 (by have := congrArg List.length h; simpa using this)
        have hse : (s.toList == []) = false := by rw [ByteArray.toList_eq]; exact beq_eq_false_iff_ne.2 hL
        have hse' : ¬ s.toList = [] := by rw [ByteArray.toList_eq]; exact hL
        have hse2 : ([] == s.toList) = false := by rw [ByteArray.toList_eq]; simp only [beq_eq_false_iff_ne]; exact fun h => hL h.symm
        cases hv : rrB s.data.toList
        · rw [rt_f (show rvB (rdL s.data.toList) = false from hv)] at hRT
          have HRT := Lib.hid hRT
          have HRR := Lib.hid (rr_f hv)
          have HVV := Lib.hid hv
          clear hRT hv hL h0
          go_wp2_with (go_at_call 57; refine HRT.out.mono ?_; rintro e w5 ⟨rfl, hb5⟩)
          go_ret2
          rw [HRR.out, HVV.out]
          have hB5 := hB.trans (hb5.mono hs)
          exact ⟨_, _, _, rfl, (HE0.out w5).mono hB5.size, hB5.alloc hB5.size _⟩
        · rw [rt_t (show rvB (rdL s.data.toList) = true from hv), dg_rd] at hRT
          unfold GivesS at hRT
          rw [show (⟨s.data.toList.toArray⟩ : ByteArray) = s from rfl] at hRT
          have HRT := Lib.hid hRT
          have HRR := Lib.hid (rr_t hv)
          have HVV := Lib.hid hv
          clear hRT hv hL h0
          go_wp2_with (go_at_call 57; refine HRT.out.mono ?_; rintro e w5 ⟨rfl, hb5⟩)
          go_ret2
          rw [HRR.out, HVV.out]
          have hB5 := hB.trans (hb5.mono hs)
          exact ⟨_, _, _, rfl, (HO1.out.below hb5 (Nat.le_refl _)).toI, hB5⟩
end Go.Proofs.Ytfdgoddcpfgfjaa

/- Contract: the pieces of a text (the reference). -/
import Derived.Test.YtkpjlkahebeljaaDoorPlRForm
import Derived.Test.YtkpjlkahebeljaaDoorFTextI
namespace Go.Proofs.YtkpjlkahebeljaaDoor
open Go.RowKit
set_option linter.unusedVariables false
/-- texts as byte arrays -/
def baL (ls : List (List UInt8)) : List ByteArray := ls.map fun l => (⟨l.toArray⟩ : ByteArray)
theorem baL_snoc (ls : List (List UInt8)) (l : List UInt8) : baL ls ++ [⟨l.toArray⟩] = baL (ls ++ [l]) := by simp [baL]
theorem ext_list (s : ByteArray) (i j : Nat) : s.extract i j = ⟨((s.data.toList.take j).drop i).toArray⟩ := by
  apply ByteArray.ext
  rw [ByteArray.data_extract]
  apply Array.ext'
  rw [Array.toList_extract]
  simp [List.drop_take]
theorem take_snocC (s : ByteArray) (k : Nat) (h : k < s.size) : s.data.toList.take (k + 1) = s.data.toList.take k ++ [s[k]] := by
  rw [List.take_add_one]
  congr 1
  have : s.data.toList[k]? = some s[k] := by
    rw [Array.getElem?_toList]
    exact Array.getElem?_eq_getElem (h := h)
  rw [this]; rfl
set_option maxRecDepth 100000 in
set_option maxHeartbeats 8000000 in
theorem l1CutS (s : ByteArray) (c : UInt8) (w : World) (hl : s.size ≤ 1048577) :
    Calls Tryd.prog 35 #[.string s, .int .u8 c.toNat] w (fun e w' => ∃ A c', e = .returned (.slice A (spl c s.data.toList).length c') ∧ OT w' w.heap.size A (spl c s.data.toList).length c' (baL (spl c s.data.toList)) ∧ Below w.heap.size w w') := by
  have HE := Lib.hid (show OT (w.alloc (.cells #[] 9)) w.heap.size (some ⟨w.heap.size, 0, none⟩) 0 0 [] from OT.empty w)
  have hB0 : Below w.heap.size w (w.alloc (.cells #[] 9)) := (Below.refl _ _).alloc (Nat.le_refl _) _
  go_enter Tryd.func35, Tryd.ntmps35
  go_wp2
  go_loopw [5, 6, 7] (fun v st i wr => ∃ (k a : Nat) (xs : List (List UInt8)) (A' : Option Addr) (c' : Nat), k ≤ s.size ∧ a ≤ k ∧ i = .int .i64 k ∧ st = .int .i64 a ∧ v = .slice A' xs.length c' ∧ Hid (spl c (s.data.toList.take k) = xs ++ [(s.data.toList.take k).drop a]) ∧ xs.length ≤ k ∧ OT wr w.heap.size A' xs.length c' (baL xs) ∧ Below w.heap.size w wr)
    (fun _ _ i _ => s.size - (intOf i).toNat)
  case atStart => exact ⟨0, 0, [], _, _, Nat.zero_le _, Nat.le_refl _, rfl, rfl, rfl, Lib.hid (by simp [spl]), Nat.le_refl _, HE.out, hB0⟩
  case round =>
    obtain ⟨k, a, xs, A', c', hk, ha, rfl, rfl, rfl, HX, hxk, hO, hB⟩ := hrel

    have hs := hB.size
    have HO := Lib.hid hO
    have hxk2 : xs.length ≤ 1048577 := by omega
    have haI : (a : Int) ≤ (k : Int) := by omega
    have hkI : (k : Int) ≤ (s.size : Int) := by omega
    have haS : (a : Int) ≤ (s.size : Int) := by omega
    clear hO
    by_cases hlt : k < s.size
    · have hltI : (k : Int) < (s.size : Int) := by omega
      have HT := Lib.hid (take_snocC s k hlt)
      by_cases hc : s[k] = c
      · have hci : ((s[k].toNat : Int) = (c.toNat : Int)) := by rw [hc]
        have HP := Lib.hid (show spl c (s.data.toList.take (k + 1)) = (xs ++ [(s.data.toList.take k).drop a]) ++ [(s.data.toList.take (k + 1)).drop (k + 1)] by
          rw [HT.out, hc, spl_snoc_eq, HX.out]
          congr 2
          rw [← hc, ← HT.out, List.drop_eq_nil_of_le (by simp; omega)])
        have HXT := Lib.hid (ext_list s a k)
        go_wp2_with (at_builtin; refine wpList_pushT _ _ rfl _ _ rfl w.heap.size A' xs.length c' _ rfl _ rfl rfl HO.out (by omega) (by omega) ?_; intro A4 c4 w4 hO4 hg4)
        have hB4 : Below w.heap.size w w4 := hB.grown hg4 (by omega) (fun q e => (HO.out.lt q e).1)
        go_roundw
        case rel => exact ⟨k + 1, k + 1, xs ++ [(s.data.toList.take k).drop a], A4, c4, by omega, Nat.le_refl _, by go_num, by go_num, by simp, HP.out, by simp; omega, by rw [← baL_snoc, ← HXT.out, List.length_append]; exact hO4, hB4⟩
        case measure => simp [intOf]; omega
      · have hci : ¬ ((s[k].toNat : Int) = (c.toNat : Int)) := fun e => hc (UInt8.toNat_inj.1 (by exact_mod_cast e))
        have HP := Lib.hid (show spl c (s.data.toList.take (k + 1)) = xs ++ [(s.data.toList.take (k + 1)).drop a] by
          rw [HT.out, spl_snoc_ne hc _ _ _ HX.out, List.drop_append_of_le_length (by simp; omega)])
        go_wp2
        go_roundw
        case rel => exact ⟨k + 1, a, xs, A', c', by omega, by omega, by go_num, rfl, rfl, HP.out, by omega, HO.out, hB⟩
        case measure => simp [intOf]; omega
    · obtain rfl : k = s.size := by omega
      have hX := HX.out
      rw [List.take_of_length_le (by simp)] at hX
      have HX2 := Lib.hid hX
      have HXT := Lib.hid (show s.extract a s.size = ⟨(s.data.toList.drop a).toArray⟩ by rw [ext_list, List.take_of_length_le (by simp)])
      clear hX
      go_wp2_with (at_builtin; refine wpList_pushT _ _ rfl _ _ rfl w.heap.size A' xs.length c' _ rfl _ rfl rfl HO.out (by omega) (by omega) ?_; intro A4 c4 w4 hO4 hg4)
      have hB4 : Below w.heap.size w w4 := hB.grown hg4 (by omega) (fun q e => (HO.out.lt q e).1)
      go_ret
      rw [HX2.out, ← baL_snoc, ← HXT.out, List.length_append]
      exact ⟨A4, c4, rfl, hO4, hB4⟩
end Go.Proofs.YtkpjlkahebeljaaDoor

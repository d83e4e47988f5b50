/- Contracts of the program's small parts: strings.Cut at a blank, slices.Index over four names. -/
import Derived.Test.YtkpjlkahebeljaaDoorSplitI
import Derived.Shelf.RegionOpenPlain
namespace Go.Proofs.YtkpjlkahebeljaaDoor
open Go.RowKit Go.Shelf
set_option linter.unusedVariables false
/-- what Cut gives: two texts and a word -/
def CutG (s : ByteArray) (w : World) (e : Ending) (w' : World) : Prop := ∃ (a r : ByteArray) (f : Bool), e = .returned (.tuple #[.string a, .string r, .bool f]) ∧ bL a = cutA (bL s) ∧ bL r = cutR (bL s) ∧ Below w.heap.size w w'
set_option maxRecDepth 100000 in
set_option maxHeartbeats 4000000 in
theorem cut1 (s : ByteArray) (w : World) (hs : s.size ≤ 1048577) : Calls Tryd.prog 49 #[.string s, .string ⟨#[32]⟩] w (CutG s w) := by
  by_cases hx : Lib.indexByte (bL s) 32 = -1
  · have HI := Lib.hid (show Lib.indexByte s.data.toList 32 = -1 from hx)
    have HA := Lib.hid (show cutA (bL s) = bL s by unfold cutA; rw [hx]; rfl)
    have HR := Lib.hid (show cutR (bL s) = [] by unfold cutR; rw [hx]; rfl)
    clear hx
    go_enter Tryd.func49, Tryd.ntmps49
    go_wp2_with (go_at_call 59; refine (slIndex1 s 32 _).mono ?_; rintro e w' ⟨rfl, rfl⟩; rw [HI.out])
    go_ret3
    exact ⟨_, _, _, rfl, HA.out.symm, HR.out.symm, Below.refl _ _⟩
  · obtain ⟨i, hi⟩ : ∃ i : Nat, Lib.indexByte (bL s) 32 = i := ⟨(Lib.indexByte (bL s) 32).toNat, by have := Lib.indexByte_ge (bL s) 32; omega⟩
    clear hx
    obtain ⟨hil, _, _, _⟩ := ix_some hi
    have hil2 : i < s.size := by have : (bL s).length = s.size := by simp [bL]
                                 omega
    have HI := Lib.hid (show Lib.indexByte s.data.toList 32 = (i : Int) from hi)
    have HA := Lib.hid (show bL (s.extract 0 i) = cutA (bL s) by unfold cutA; rw [hi, if_neg (by omega), ext_list]; simp [bL])
    have HR := Lib.hid (show bL (s.extract (i + 1) s.size) = cutR (bL s) by unfold cutR; rw [hi, if_neg (by omega), ext_list]; simp [bL, List.take_of_length_le])
    clear hi hil
    have i0 : (0 : Int) ≤ (i : Int) := by omega
    have i1 : (i : Int) ≤ (s.size : Int) := by omega
    have i2 : (i : Int) + 1 ≤ (s.size : Int) := by omega
    have i3 : (0 : Int) ≤ (i : Int) + 1 := by omega
    have mixed : Tryd.prog.follows Departure.mixedOrders = true := by kernel_rfl
    have hwi : IntKind.i64.wrap ((i : Int) + 1) = (i : Int) + 1 := by rw [IntKind.wrap_i64]; omega
    go_enter Tryd.func49, Tryd.ntmps49
    go_wp2_with (go_at_call 59; refine (slIndex1 s 32 _).mono ?_; rintro e w' ⟨rfl, rfl⟩; rw [HI.out])
    go_region_o
    go_wp2
    go_ret3
    exact ⟨_, _, _, rfl, HA.out, HR.out, (Below.refl _ _).drew⟩
set_option maxHeartbeats 1000000 in
theorem cutI (s : ByteArray) (w : World) (hs : s.size ≤ 1048577) : Calls Tryd.prog 31 #[.string s, .string ⟨#[32]⟩] w (CutG s w) := by
  have H := Lib.hid (fun w => cut1 s w hs)
  unfold CutG at H
  go_enter Tryd.func31, Tryd.ntmps31
  go_wp2_with (go_at_call 49; refine (H.out _).mono ?_; rintro e w' ⟨a, r, f, rfl, ha, hr, hb⟩)
  go_ret3
  exact ⟨_, _, _, rfl, ha, hr, hb⟩
theorem ba_eq {a b : ByteArray} : (bL a = bL b) ↔ a = b := by
  constructor
  · intro h
    apply ByteArray.ext
    exact Array.ext' h
  · rintro rfl; rfl
theorem beq_t (nm : ByteArray) (l : List UInt8) : (nm.toList == l) = decide (nm = ⟨l.toArray⟩) := by
  rw [ByteArray.toList_eq]
  by_cases h : nm = ⟨l.toArray⟩
  · subst h; simp
  · rw [decide_eq_false h, beq_eq_false_iff_ne]
    intro e; exact h (by rw [← ba_eq]; exact e)
theorem opS_ba (nm : ByteArray) : opS (bL nm) = if nm = ⟨#[97, 110, 100]⟩ then 0 else if nm = ⟨#[111, 114]⟩ then 1 else if nm = ⟨#[120, 111, 114]⟩ then 2 else if nm = ⟨#[110, 111, 116]⟩ then 3 else -1 := by
  unfold opS
  rw [show nmL 0 = bL ⟨#[97, 110, 100]⟩ from rfl, show nmL 1 = bL ⟨#[111, 114]⟩ from rfl, show nmL 2 = bL ⟨#[120, 111, 114]⟩ from rfl, show nmL 3 = bL ⟨#[110, 111, 116]⟩ from rfl]
  simp only [ba_eq]
set_option maxRecDepth 100000 in
set_option maxHeartbeats 4000000 in
theorem indexI (nm : ByteArray) (g : Nat) (w : World) (c0 : w.cell? ⟨g, 0, none⟩ = some (.string ⟨#[97, 110, 100]⟩)) (c1 : w.cell? ⟨g, 1, none⟩ = some (.string ⟨#[111, 114]⟩)) (c2 : w.cell? ⟨g, 2, none⟩ = some (.string ⟨#[120, 111, 114]⟩)) (c3 : w.cell? ⟨g, 3, none⟩ = some (.string ⟨#[110, 111, 116]⟩)) :
    Calls Tryd.prog 32 #[.slice (some ⟨g, 0, none⟩) 4 4, .string nm] w fun e w' => e = .returned (.int .i64 (opS (bL nm))) ∧ w = w' := by
  have HO := Lib.hid (opS_ba nm)
  by_cases h0 : nm = ⟨#[97, 110, 100]⟩
  · subst h0
    go_enter Tryd.func32, Tryd.ntmps32
    go_wp2
    refine wp_loop_rounds 1 ?_
    rw [rounds_succ]
    go_wp2
    go_ret
    exact ⟨rfl, rfl⟩
  by_cases h1 : nm = ⟨#[111, 114]⟩
  · subst h1
    clear h0
    go_enter Tryd.func32, Tryd.ntmps32
    go_wp2
    refine wp_loop_rounds 2 ?_
    rw [rounds_succ]
    go_wp2
    rw [rounds_succ]
    go_wp2
    go_ret
    exact ⟨rfl, rfl⟩
  by_cases h2 : nm = ⟨#[120, 111, 114]⟩
  · subst h2
    clear h0 h1
    go_enter Tryd.func32, Tryd.ntmps32
    go_wp2
    refine wp_loop_rounds 3 ?_
    rw [rounds_succ]
    go_wp2
    rw [rounds_succ]
    go_wp2
    rw [rounds_succ]
    go_wp2
    go_ret
    exact ⟨rfl, rfl⟩
  by_cases h3 : nm = ⟨#[110, 111, 116]⟩
  · subst h3
    clear h0 h1 h2
    go_enter Tryd.func32, Tryd.ntmps32
    go_wp2
    refine wp_loop_rounds 4 ?_
    rw [rounds_succ]
    go_wp2
    rw [rounds_succ]
    go_wp2
    rw [rounds_succ]
    go_wp2
    rw [rounds_succ]
    go_wp2
    go_ret
    exact ⟨rfl, rfl⟩
  have q0 : (nm.toList == [97, 110, 100]) = false := by rw [beq_t]; exact decide_eq_false h0
  have q1 : (nm.toList == [111, 114]) = false := by rw [beq_t]; exact decide_eq_false h1
  have q2 : (nm.toList == [120, 111, 114]) = false := by rw [beq_t]; exact decide_eq_false h2
  have q3 : (nm.toList == [110, 111, 116]) = false := by rw [beq_t]; exact decide_eq_false h3
  have e : opS (bL nm) = -1 := by rw [HO.out, if_neg h0, if_neg h1, if_neg h2, if_neg h3]
  have HE := Lib.hid e
  clear e HO h0 h1 h2 h3
  go_enter Tryd.func32, Tryd.ntmps32
  go_wp2
  refine wp_loop_rounds 5 ?_
  rw [rounds_succ]
  go_wp2
  rw [rounds_succ]
  go_wp2
  rw [rounds_succ]
  go_wp2
  rw [rounds_succ]
  go_wp2
  rw [rounds_succ]
  go_wp2
  go_ret
  exact ⟨by rw [HE.out]; rfl, rfl⟩
end Go.Proofs.YtkpjlkahebeljaaDoor

/- Contracts: the digit of a small number (the reference, the program). -/
import Derived.Test.YtkpjlkahebeljaaDoorPlFText
import Derived.Test.YtkpjlkahebeljaaDoorForm
import Derived.Laws.BytesString
import Derived.Laws.Concat
import Derived.Deep.DeepCutAuto
namespace Go.Proofs.YtkpjlkahebeljaaDoor
open Go.RowKit
set_option linter.unusedVariables false
/-- a text is returned; nothing that lay has turned -/
def GivesS (w : World) (l : List UInt8) (e : Ending) (w' : World) : Prop := e = .returned (.string ⟨l.toArray⟩) ∧ Below w.heap.size w w'
theorem ten {x : Int} (h0 : 0 ≤ x) (h9 : x ≤ 9) : x = 0 ∨ x = 1 ∨ x = 2 ∨ x = 3 ∨ x = 4 ∨ x = 5 ∨ x = 6 ∨ x = 7 ∨ x = 8 ∨ x = 9 := by omega
theorem conv1 (W : World) (g : Nat) (z : Nat) (h : W.cell? ⟨g, 0, none⟩ = some (.int .u8 (48 + (z : Int)))) : (convert 22 9 (.slice (some ⟨g, 0, none⟩) 1 1)).run Tryd.prog W = .ok (.string ⟨#[UInt8.ofNat (z + 48)]⟩) W := by
  rw [run_convert_bytes_string W _ _ _ _ _ _ Tryd.underlying22 Tryd.underlying5 Tryd.underlying9, run_bytesToString W ⟨g, 0, none⟩ 1 1 [48 + (z : Int)] (by simp [loadCells, loadCellsFrom, h, go_sem])]
  simp only [List.foldl_cons, List.foldl_nil]
  rw [show (48 + (z : Int)).toNat = z + 48 by omega]
  rfl
set_option maxRecDepth 100000 in
set_option maxHeartbeats 4000000 in
theorem l1Number1 (z : Nat) (w : World) (hz : z < 10) : Calls Tryd.prog 27 #[.int .i64 (z : Int)] w (GivesS w [UInt8.ofNat (z + 48)]) := by
  have hcc : (convert 22 9 (.slice (some ⟨w.heap.size, 0, none⟩) 1 1)).run Tryd.prog (w.alloc (.cells #[.int .u8 (48 + (z : Int))] 5)) = .ok (.string ⟨#[UInt8.ofNat (z + 48)]⟩) (w.alloc (.cells #[.int .u8 (48 + (z : Int))] 5)) :=
    conv1 _ w.heap.size z (by rw [cell_of_row (w.alloc (.cells #[.int .u8 (48 + (z : Int))] 5)) w.heap.size 0 _ _ _ (heap_alloc_new w _)]; rfl)
  go_enter Tryd.func27, Tryd.ntmps27
  go_wp2
  go_ret
  exact ⟨rfl, (Below.refl _ _).alloc (Nat.le_refl _) _⟩
theorem numberS (x : Int) (h0 : 0 ≤ x) (h9 : x ≤ 9) (w : World) : Calls Tryd.prog 27 #[.int .i64 x] w (GivesS w (dgL x)) := by
  obtain ⟨z, rfl⟩ : ∃ z : Nat, x = (z : Int) := ⟨x.toNat, by omega⟩
  have := l1Number1 z w (by omega)
  have e : dgL (z : Int) = [UInt8.ofNat (z + 48)] := by unfold dgL dgB; rw [Int.toNat_natCast, Nat.add_comm]
  rwa [e]
set_option maxRecDepth 100000 in
set_option maxHeartbeats 4000000 in
theorem smallI (x : Int) (h0 : 0 ≤ x) (h9 : x ≤ 9) (w : World) : Calls Tryd.prog 75 #[.int .i64 x] w (fun e w' => e = .returned (.string ⟨(dgL x).toArray⟩) ∧ w = w') := by
  rcases ten h0 h9 with rfl | rfl | rfl | rfl | rfl | rfl | rfl | rfl | rfl | rfl
  all_goals (
    clear h0 h9
    go_enter Tryd.func75, Tryd.ntmps75
    go_wp2
    go_ret
    exact ⟨rfl, rfl⟩)
theorem formatI (x : Int) (h0 : 0 ≤ x) (h9 : x ≤ 9) (w : World) : Calls Tryd.prog 62 #[.int .i64 x, .int .i64 10] w (fun e w' => e = .returned (.string ⟨(dgL x).toArray⟩) ∧ w = w') := by
  have h100 : x < 100 := by omega
  have HS := Lib.hid (smallI x h0 h9 w)
  go_enter Tryd.func62, Tryd.ntmps62
  go_wp2_with (go_at_call 75; refine HS.out.mono ?_; rintro e w2 ⟨rfl, rfl⟩)
  go_ret
  exact ⟨rfl, rfl⟩
theorem itoa1 (x : Int) (h0 : 0 ≤ x) (h9 : x ≤ 9) (w : World) : Calls Tryd.prog 53 #[.int .i64 x] w (fun e w' => e = .returned (.string ⟨(dgL x).toArray⟩) ∧ w = w') := by
  have HS := Lib.hid (formatI x h0 h9 w)
  go_enter Tryd.func53, Tryd.ntmps53
  go_wp2_with (go_at_call 62; refine HS.out.mono ?_; rintro e w2 ⟨rfl, rfl⟩)
  go_ret
  exact ⟨rfl, rfl⟩
theorem itoaI (x : Int) (h0 : 0 ≤ x) (h9 : x ≤ 9) (w : World) : Calls Tryd.prog 42 #[.int .i64 x] w (fun e w' => e = .returned (.string ⟨(dgL x).toArray⟩) ∧ w = w') := by
  have HS := Lib.hid (itoa1 x h0 h9 w)
  go_enter Tryd.func42, Tryd.ntmps42
  go_wp2_with (go_at_call 53; refine HS.out.mono ?_; rintro e w2 ⟨rfl, rfl⟩)
  go_ret
  exact ⟨rfl, rfl⟩
end Go.Proofs.YtkpjlkahebeljaaDoor

/- Contracts: places on a field. -/
import Derived.Test.YtmianlihdiccjaaFieldM
import Derived.Deep.RegionHeld3
namespace Go.Proofs.Ytmianlihdiccjaa
open Go.RowKit
set_option linter.unusedVariables false

/-- the index of a place -/
def inI (s x y : Nat) : Nat := y % s * s + x % s
theorem in_bd {s x y : Nat} (hs : 0 < s) : inI s x y < s * s := by
  have h1 : y % s < s := Nat.mod_lt _ hs
  have h2 : x % s < s := Nat.mod_lt _ hs
  unfold inI
  calc y % s * s + x % s < y % s * s + s := by omega
    _ = (y % s + 1) * s := by rw [Nat.add_mul, Nat.one_mul]
    _ ≤ s * s := Nat.mul_le_mul_right _ h1
/-- two cells in a block -/
def Row2 (w : World) (g : Nat) (T : TypeId) (a b : Value) : Prop := w.heap[g]? = some (.cells #[a, b] T (0, 0))
theorem Row2.at_ {w : World} {g : Nat} {T : TypeId} {a b : Value} (h : Row2 w g T a b) :
    w.cell? ⟨g, 0, none⟩ = some a ∧ w.cell? ⟨g, 1, none⟩ = some b ∧ w.frozen? ⟨g, 0, none⟩ = false ∧ w.frozen? ⟨g, 1, none⟩ = false := by
  refine ⟨?_, ?_, frozen_of_row w g 0 _ _ h, frozen_of_row w g 1 _ _ h⟩
  · rw [cell_of_row w g 0 _ _ _ h]; rfl
  · rw [cell_of_row w g 1 _ _ _ h]; rfl
theorem Row2.new (w : World) (T : TypeId) (a b : Value) : Row2 (w.alloc (.cells #[a, b] T)) w.heap.size T a b := heap_alloc_new w _
theorem Row2.lt {w : World} {g : Nat} {T : TypeId} {a b : Value} (h : Row2 w g T a b) : g < w.heap.size := (Array.getElem?_eq_some_iff.1 h).1
theorem Row2.alloc {w : World} {g : Nat} {T : TypeId} {a b : Value} (h : Row2 w g T a b) (o : Obj) : Row2 (w.alloc o) g T a b := (Below.heap_alloc _ _ _ h.lt).trans h
theorem Row2.set0 {w : World} {g : Nat} {T : TypeId} {a b : Value} (h : Row2 w g T a b) (u : Value) : Row2 (w.setCell ⟨g, 0, none⟩ u) g T u b := by unfold Row2; rw [heap_setCell_same w g 0 _ _ u h]; rfl
theorem Row2.set1 {w : World} {g : Nat} {T : TypeId} {a b : Value} (h : Row2 w g T a b) (u : Value) : Row2 (w.setCell ⟨g, 1, none⟩ u) g T a u := by unfold Row2; rw [heap_setCell_same w g 1 _ _ u h]; rfl
/-- a result that lies in a block of two cells -/
theorem results_place {fn : Func} {t : Tmp} (h : fn.results = #[.cell t 57]) (tmps : Array Value) (w : World) (g : Nat) (ht : tmps.getD t undef = .pointer (some ⟨g, 0, none⟩)) {T : TypeId} {a b : Value} (hr : Row2 w g T a b) :
    (results fn tmps).run Try.prog w = .ok (.agg #[a, b]) w := by
  obtain ⟨e0, e1, _, _⟩ := hr.at_
  rw [Array.getD_eq_getD_getElem?] at ht
  simp [results, h, ht, e0, e1, go_sem]
theorem keep2 {w : World} {p : Addr} {g i j : Nat} {u v x : Value} (h : w.cell? p = some x) (hne : p.block ≠ g) : ((w.setCell ⟨g, i, none⟩ u).setCell ⟨g, j, none⟩ v).drew.cell? p = some x :=
  (World.cell?_setCell_other _ _ _ _ (fun e => hne (by rw [← e]))).trans ((World.cell?_setCell_other _ _ _ _ (fun e => hne (by rw [← e]))).trans h)
/-- a place is returned; nothing that lay has turned -/
def GivesP (w : World) (x y : Nat) (e : Ending) (w' : World) : Prop := e = .returned (.agg #[.int .i64 (x : Int), .int .i64 (y : Int)]) ∧ Below w.heap.size w w'
set_option maxHeartbeats 1000000 in
theorem placeIn (x y s : Nat) (w : World) (hx : x ≤ 20) (hy : y ≤ 20) (h2 : 2 ≤ s) (h8 : s ≤ 8) :
    Calls Try.prog 71 #[.agg #[.int .i64 (x : Int), .int .i64 (y : Int)], .int .i64 (s : Int)] w (GivesN w (inI s x y : Int)) := by
  obtain ⟨W, hW⟩ : ∃ W, w.alloc (.cells #[.int .i64 (x : Int), .int .i64 (y : Int)] 57) = W := ⟨_, rfl⟩
  have hb : Below w.heap.size w W := by rw [← hW]; exact (Below.refl _ _).alloc (Nat.le_refl _) _
  obtain ⟨g, hg⟩ : ∃ g, w.heap.size = g := ⟨_, rfl⟩
  have r0 : Row2 W g 57 (.int .i64 (x : Int)) (.int .i64 (y : Int)) := by rw [← hW, ← hg]; exact Row2.new _ _ _ _
  obtain ⟨c0, c1, _, _⟩ := r0.at_
  have c0' : ∀ nq, (W.drewN nq).cell? ⟨g, 0, none⟩ = some (.int .i64 (x : Int)) := fun _ => c0
  have c1' : ∀ nq, (W.drewN nq).cell? ⟨g, 1, none⟩ = some (.int .i64 (y : Int)) := fun _ => c1
  have hxs : x % s < s := Nat.mod_lt _ (by omega)
  have hys : y % s < s := Nat.mod_lt _ (by omega)
  obtain ⟨a, ha⟩ : ∃ a, x % s = a := ⟨_, rfl⟩
  obtain ⟨b, hbb⟩ : ∃ b, y % s = b := ⟨_, rfl⟩
  rw [ha] at hxs
  rw [hbb] at hys
  have ha' : (((x : Int) + (s : Int)) % (s : Int)) = (a : Int) := by rw [Int.add_emod_right, ← ha]; push_cast; rfl
  have hb' : (((y : Int) + (s : Int)) % (s : Int)) = (b : Int) := by rw [Int.add_emod_right, ← hbb]; push_cast; rfl
  have ht1 : ((x : Int) + (s : Int)).tmod (s : Int) = (a : Int) := by rw [← ha']; exact Int.tmod_eq_emod_of_nonneg (by omega)
  have ht2 : ((y : Int) + (s : Int)).tmod (s : Int) = (b : Int) := by rw [← hb']; exact Int.tmod_eq_emod_of_nonneg (by omega)
  have hms : b * s ≤ 64 := Nat.le_trans (Nat.mul_le_mul (show b ≤ 8 by omega) h8) (by decide)
  obtain ⟨M, hM⟩ : ∃ M, b * s = M := ⟨_, rfl⟩
  rw [hM] at hms
  have hw1 : IntKind.i64.wrap ((x : Int) + (s : Int)) = (x : Int) + (s : Int) := by rw [IntKind.wrap_i64]; omega
  have hw2 : IntKind.i64.wrap ((y : Int) + (s : Int)) = (y : Int) + (s : Int) := by rw [IntKind.wrap_i64]; omega
  have hMI : (b : Int) * (s : Int) = (M : Int) := by rw [← hM]; push_cast; rfl
  have hw3 : IntKind.i64.wrap ((b : Int) * (s : Int)) = (M : Int) := by rw [hMI, IntKind.wrap_i64]; omega
  have hw4 : IntKind.i64.wrap ((M : Int) + (a : Int)) = (M : Int) + (a : Int) := by rw [IntKind.wrap_i64]; omega
  have hs0 : ¬ s = 0 := by omega
  have hs0' : ¬ (s : Int) = 0 := by omega
  have HE := Lib.hid (show ((M : Int) + (a : Int)) = ((inI s x y : Nat) : Int) by unfold inI; rw [ha, hbb, hM]; push_cast; rfl)
  clear ha hbb ha' hb' hM hMI r0
  go_enter Try.func71, Try.ntmps71
  go_wp2
  go_quiet (fail)
  go_wp2
  go_ret
  exact ⟨ret_int HE.out, below_drewN hb _⟩
set_option maxHeartbeats 1000000 in
theorem turn1 (x y s gb : Nat) (A B : Value) (T : TypeId) (w : World) (hx : x ≤ 20) (hy : y < s) (h8 : s ≤ 8) (hR : Row3 w gb T (.int .i64 (s : Int)) A B) :
    Calls Try.prog 54 #[.agg #[.int .i64 (x : Int), .int .i64 (y : Int)], .pointer (some ⟨gb, 0, none⟩)] w (GivesP w (s - 1 - y) x) := by
  obtain ⟨W, hW⟩ : ∃ W, (w.alloc (.cells #[.int .i64 (x : Int), .int .i64 (y : Int)] 57)).alloc (.cells #[.int .i64 0, .int .i64 0] 57) = W := ⟨_, rfl⟩
  have hb : Below w.heap.size w W := by rw [← hW]; exact ((Below.refl _ _).alloc (Nat.le_refl _) _).alloc (by simp) _
  obtain ⟨g, hg⟩ : ∃ g, w.heap.size = g := ⟨_, rfl⟩
  have r0 : Row2 W g 57 (.int .i64 (x : Int)) (.int .i64 (y : Int)) := by rw [← hW, ← hg]; exact (Row2.new _ _ _ _).alloc _
  have r1 : Row2 W (g + 1) 57 (.int .i64 0) (.int .i64 0) := by
    have := Row2.new (w.alloc (.cells #[.int .i64 (x : Int), .int .i64 (y : Int)] 57)) 57 (.int .i64 0) (.int .i64 0)
    rw [hW] at this; rw [← hg]; simpa using this
  obtain ⟨k0, k1, k2, _, _, _⟩ := (hR.below hb hR.lt).at_
  obtain ⟨c0, c1, _, _⟩ := r0.at_
  obtain ⟨d0, d1, d2, d3⟩ := r1.at_
  have hwg : w.heap.size ≤ g + 1 := by omega
  have hrow := (r1.set0 (.int .i64 ((s : Int) - 1 - (y : Int)))).set1 (.int .i64 (x : Int))
  have HR := Lib.hid hrow
  have e1 : (((s - 1 - y : Nat)) : Int) = (s : Int) - 1 - (y : Int) := by omega
  have HE := Lib.hid e1
  clear hrow e1 hR r0 r1
  go_enter Try.func54, Try.ntmps54
  go_wp2
  refine bodyPost_ret (results_place rfl _ _ (g + 1) rfl HR.out) rfl ⟨by rw [HE.out], (hb.setCell (p := ⟨g + 1, 0, none⟩) hwg _).setCell (p := ⟨g + 1, 1, none⟩) hwg _⟩
set_option maxHeartbeats 2000000 in
theorem move1 (x y s ea no g1 g2 g3 : Nat) (A B : Value) (T : TypeId) (w : World) (hx : x ≤ 20) (hy : y ≤ 20) (h2 : 2 ≤ s) (h8 : s ≤ 8) (hea : ea ≤ 8) (hno : no ≤ 8) (hR : Row3 w g2 T (.int .i64 (s : Int)) A B) (hE : w.cell? ⟨g1, 0, none⟩ = some (.int .i64 (ea : Int))) (hN : w.cell? ⟨g3, 0, none⟩ = some (.int .i64 (no : Int))) (hg1 : g1 < w.heap.size) (hg3 : g3 < w.heap.size) :
    Calls Try.prog 57 #[.agg #[.int .i64 (x : Int), .int .i64 (y : Int)], .pointer (some ⟨g1, 0, none⟩), .pointer (some ⟨g2, 0, none⟩), .pointer (some ⟨g3, 0, none⟩)] w (GivesP w ((x + ea) % s) ((y + no) % s)) := by
  obtain ⟨W, hW⟩ : ∃ W, (w.alloc (.cells #[.int .i64 (x : Int), .int .i64 (y : Int)] 57)).alloc (.cells #[.int .i64 0, .int .i64 0] 57) = W := ⟨_, rfl⟩
  have hb : Below w.heap.size w W := by rw [← hW]; exact ((Below.refl _ _).alloc (Nat.le_refl _) _).alloc (by simp) _
  obtain ⟨g, hg⟩ : ∃ g, w.heap.size = g := ⟨_, rfl⟩
  have r0 : Row2 W g 57 (.int .i64 (x : Int)) (.int .i64 (y : Int)) := by rw [← hW, ← hg]; exact (Row2.new _ _ _ _).alloc _
  have r1 : Row2 W (g + 1) 57 (.int .i64 0) (.int .i64 0) := by
    have := Row2.new (w.alloc (.cells #[.int .i64 (x : Int), .int .i64 (y : Int)] 57)) 57 (.int .i64 0) (.int .i64 0)
    rw [hW] at this; rw [← hg]; simpa using this
  obtain ⟨k0, k1, k2, _, _, _⟩ := (hR.below hb hR.lt).at_
  have f1 : W.cell? ⟨g1, 0, none⟩ = some (.int .i64 (ea : Int)) := (hb.cell (p := ⟨g1, 0, none⟩) hg1).trans hE
  have f3 : W.cell? ⟨g3, 0, none⟩ = some (.int .i64 (no : Int)) := (hb.cell (p := ⟨g3, 0, none⟩) hg3).trans hN
  obtain ⟨c0, c1, _, _⟩ := r0.at_
  obtain ⟨d0, d1, d2, d3⟩ := r1.at_
  have hwg : w.heap.size ≤ g + 1 := by omega
  obtain ⟨a, ha⟩ : ∃ a, (x + ea) % s = a := ⟨_, rfl⟩
  obtain ⟨b, hbb⟩ : ∃ b, (y + no) % s = b := ⟨_, rfl⟩
  have ht1 : ((x : Int) + (ea : Int)).tmod (s : Int) = (a : Int) := by rw [Int.tmod_eq_emod_of_nonneg (by omega), ← ha]; push_cast; rfl
  have ht2 : ((y : Int) + (no : Int)).tmod (s : Int) = (b : Int) := by rw [Int.tmod_eq_emod_of_nonneg (by omega), ← hbb]; push_cast; rfl
  have hw1 : IntKind.i64.wrap ((x : Int) + (ea : Int)) = (x : Int) + (ea : Int) := by rw [IntKind.wrap_i64]; omega
  have hw2 : IntKind.i64.wrap ((y : Int) + (no : Int)) = (y : Int) + (no : Int) := by rw [IntKind.wrap_i64]; omega
  have hs0 : ¬ s = 0 := by omega
  have hs0' : ¬ (s : Int) = 0 := by omega
  have hrow := ((Row2.set0 (w := W.drew) r1 (.int .i64 (a : Int))).set1 (.int .i64 (b : Int)))
  have HR := Lib.hid hrow
  rw [ha, hbb]
  have hbd := hb.drew
  have hg2 := hR.lt
  have n1 : ¬ g1 = g + 1 := by omega
  have n2 : ¬ g2 = g + 1 := by omega
  have n3 : ¬ g3 = g + 1 := by omega
  have m0 : ¬ g = g + 1 := by omega
  clear hrow ha hbb hR r0 r1 hE hN hg2
  go_enter Try.func57, Try.ntmps57
  go_wp2
  go_region_held3 (fun w' => w'.cell? ⟨g, 0, none⟩ = some (.int .i64 (x : Int)) ∧ w'.cell? ⟨g, 1, none⟩ = some (.int .i64 (y : Int)) ∧ w'.cell? ⟨g1, 0, none⟩ = some (.int .i64 (ea : Int)) ∧ w'.cell? ⟨g2, 0, none⟩ = some (.int .i64 (s : Int)) ∧ w'.cell? ⟨g3, 0, none⟩ = some (.int .i64 (no : Int))) (first | exact ⟨keep2 c0 m0, keep2 c1 m0, keep2 f1 n1, keep2 k0 n2, keep2 f3 n3⟩ | go_keep) (fail)
  all_goals go_wp2
  all_goals refine bodyPost_ret (results_place rfl _ _ (g + 1) rfl HR.out) rfl ⟨rfl, (hbd.setCell (p := ⟨g + 1, 0, none⟩) hwg _).setCell (p := ⟨g + 1, 1, none⟩) hwg _⟩
end Go.Proofs.Ytmianlihdiccjaa

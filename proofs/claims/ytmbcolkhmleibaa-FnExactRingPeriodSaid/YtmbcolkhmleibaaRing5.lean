/- Contracts: a step forward of two rings. -/
import Derived.Test.YtmbcolkhmleibaaRing4
import Derived.Test.YtmbcolkhmleibaaPlRing5
import Derived.Deep.RegionHeld3
namespace Go.Proofs.Ytmbcolkhmleibaa
open Go.RowKit
set_option linter.unusedVariables false

theorem grown_set (w : World) (p : Addr) (u : Value) : w.grownBy (w.setCell p u) (some p.block) := ⟨rfl, rfl, rfl, by simp, fun k _ hk => Below.heap_setCell _ _ _ k (fun e => hk (by rw [e]))⟩
/-- the struct of two rings a step on; nothing that lay has turned -/
def GivesRings (w : World) (rule : Int) (B : Option Addr) (m d : Nat) (zs : List Int) (e : Ending) (w' : World) : Prop :=
  ∃ A n c, e = .returned (.agg #[.int .i64 rule, .slice B m d, .slice A n c]) ∧ OI w' w.heap.size A n c zs ∧ Below w.heap.size w w'
set_option maxHeartbeats 2000000 in
theorem forward (rule : Int) (A : Option Addr) (n : Nat) (xs : List Int) (c : Nat) (B : Option Addr) (ys : List Int) (d : Nat) (w : World) (hu : inB rule 0 255 = true) (hp : pairB xs ys = true) (hr : RI w w.heap.size A n xs) (hr' : RI w w.heap.size B n ys) :
    Calls Try.prog 52 #[.agg #[.int .i64 rule, .slice A n c, .slice B n d]] w (GivesRings w rule B n d (sumL (ruledL rule ys) xs)) := by
  have hpr := pair_ruled hu hp
  have hv := (pair_iff.1 hp).2.1
  have hny : ys.length = n := hr'.len
  have hb1 : Below w.heap.size w (w.alloc (.cells #[.int .i64 rule, .slice A n c, .slice B n d] 53)) := (Below.refl _ _).alloc (Nat.le_refl _) _
  have hb2 : Below w.heap.size w ((w.alloc (.cells #[.int .i64 rule, .slice A n c, .slice B n d] 53)).alloc (.cells #[.int .i64 0, .slice none 0 0, .slice none 0 0] 53)) := hb1.alloc (by simp) _
  go_enter Try.func52, Try.ntmps52
  go_wp2
  obtain ⟨W, hW⟩ : ∃ W, (w.alloc (.cells #[.int .i64 rule, .slice A n c, .slice B n d] 53)).alloc (.cells #[.int .i64 0, .slice none 0 0, .slice none 0 0] 53) = W := ⟨_, rfl⟩
  rw [hW] at hb2 ⊢
  have hsz : w.heap.size + 2 = W.heap.size := by rw [← hW]; simp
  obtain ⟨g, hg⟩ : ∃ g, w.heap.size = g := ⟨_, rfl⟩
  have hrow1 : W.heap[g]? = some (.cells #[.int .i64 rule, .slice A n c, .slice B n d] 53 (0, 0)) := by
    rw [← hW, Below.heap_alloc _ _ _ (by simp; omega), ← hg]; exact heap_alloc_new w _
  have hrow2 : W.heap[g + 1]? = some (.cells #[.int .i64 0, .slice none 0 0, .slice none 0 0] 53 (0, 0)) := by
    have := heap_alloc_new (w.alloc (.cells #[.int .i64 rule, .slice A n c, .slice B n d] 53)) (.cells #[.int .i64 0, .slice none 0 0, .slice none 0 0] 53)
    rw [hW] at this
    rw [← hg]; simpa using this
  have hR1 := Lib.hid hrow1
  have hR2 := Lib.hid hrow2
  have hc0 : W.cell? ⟨g, 0, none⟩ = some (.int .i64 rule) := by rw [cell_of_row W g 0 _ _ _ hrow1]; rfl
  have hc1 : W.cell? ⟨g, 1, none⟩ = some (.slice A n c) := by rw [cell_of_row W g 1 _ _ _ hrow1]; rfl
  have hc2 : W.cell? ⟨g, 2, none⟩ = some (.slice B n d) := by rw [cell_of_row W g 2 _ _ _ hrow1]; rfl
  have HC := Lib.hid (And.intro hc0 (And.intro hc1 hc2))
  have HS := Lib.hid hsz
  clear hrow1 hrow2 hW hb1 hsz
  have hd0 : W.cell? ⟨g + 1, 0, none⟩ = some (.int .i64 0) := by rw [cell_of_row W (g + 1) 0 _ _ _ hR2.out]; rfl
  have hd1 : W.cell? ⟨g + 1, 1, none⟩ = some (.slice none 0 0) := by rw [cell_of_row W (g + 1) 1 _ _ _ hR2.out]; rfl
  have hd2 : W.cell? ⟨g + 1, 2, none⟩ = some (.slice none 0 0) := by rw [cell_of_row W (g + 1) 2 _ _ _ hR2.out]; rfl
  have hf0 : W.frozen? ⟨g + 1, 0, none⟩ = false := frozen_of_row W (g + 1) 0 _ _ hR2.out
  have hf1 : W.frozen? ⟨g + 1, 1, none⟩ = false := frozen_of_row W (g + 1) 1 _ _ hR2.out
  have hf2 : W.frozen? ⟨g + 1, 2, none⟩ = false := frozen_of_row W (g + 1) 2 _ _ hR2.out
  have HD := Lib.hid (And.intro hd0 (And.intro hd1 (And.intro hd2 (And.intro hf0 (And.intro hf1 hf2)))))
  have HG1 := Lib.hid (show g + 1 < W.drew.heap.size by have := HS.out; show g + 1 < W.heap.size; omega)
  clear hd0 hd1 hd2 hf0 hf1 hf2
  have HG := Lib.hid (show g < W.drew.heap.size by have := HS.out; show g < W.heap.size; omega)
  rw [hg]
  have hbd := below_drewN hb2 1
  go_region_held3 (fun w' => w'.cell? ⟨g, 0, none⟩ = some (.int .i64 rule) ∧ w'.cell? ⟨g, 1, none⟩ = some (.slice A n c) ∧ w'.cell? ⟨g, 2, none⟩ = some (.slice B n d)) (first | go_keep | exact H3.out | exact H4.out)
    (first
      | (go_at_call 38; refine (ruled_ rule B n ys _ _ (hr'.up (Nat.le_refl _) hbd (Nat.le_refl _)) hv).mono ?_; rintro e w3 ⟨A3, n3, c3, rfl, hO3, hB3⟩; obtain rfl : n3 = n := (by rw [← hO3.len, ruled_len, hny]); have hb3 := hbd.trans (hB3.mono hbd.size); have H3 := Lib.hid (And.intro ((hB3.cell (p := ⟨g, 0, none⟩) HG.out).trans hc0) (And.intro ((hB3.cell (p := ⟨g, 1, none⟩) HG.out).trans hc1) ((hB3.cell (p := ⟨g, 2, none⟩) HG.out).trans hc2))))
      | (go_at_call 40; go_loud (refine (ringSum A3 A _ (ruledL rule ys) xs _ _ _ hpr hO3.reads (hr.up (Nat.le_refl _) hb3 (Nat.le_refl _))).mono ?_; rintro e w4 ⟨A4, n4, c4, rfl, hO4, hB4⟩; have H4 := Lib.hid (And.intro ((hB4.cell (p := ⟨g, 0, none⟩) (Nat.lt_of_lt_of_le HG.out hB3.size)).trans H3.out.1) (And.intro ((hB4.cell (p := ⟨g, 1, none⟩) (Nat.lt_of_lt_of_le HG.out hB3.size)).trans H3.out.2.1) ((hB4.cell (p := ⟨g, 2, none⟩) (Nat.lt_of_lt_of_le HG.out hB3.size)).trans H3.out.2.2))); have hba := hB3.trans (hB4.mono hB3.size); have hd0 := (hba.cell (p := ⟨g + 1, 0, none⟩) HG1.out).trans HD.out.1; have hd1 := (hba.cell (p := ⟨g + 1, 1, none⟩) HG1.out).trans HD.out.2.1; have hd2 := (hba.cell (p := ⟨g + 1, 2, none⟩) HG1.out).trans HD.out.2.2.1; have hf0 := (hba.frozen (p := ⟨g + 1, 0, none⟩) HG1.out).trans HD.out.2.2.2.1; have hf1 := (hba.frozen (p := ⟨g + 1, 1, none⟩) HG1.out).trans HD.out.2.2.2.2.1; have hf2 := (hba.frozen (p := ⟨g + 1, 2, none⟩) HG1.out).trans HD.out.2.2.2.2.2)))
  all_goals
    go_wp2
    have hb4 := hb3.trans (hB4.mono hb3.size)
    have hgg : w.heap.size ≤ g + 1 := by rw [hg]; omega
    have hg3 : g + 1 < w3.heap.size := Nat.lt_of_lt_of_le HG1.out hB3.size
    have hO5 := ((hO4.apart (grown_set _ ⟨g + 1, 0, none⟩ (.int .i64 rule)) (.inl hg3)).apart (grown_set _ ⟨g + 1, 1, none⟩ (.slice B n3 d)) (.inl hg3)).apart (grown_set _ ⟨g + 1, 2, none⟩ (.slice A4 n4 c4)) (.inl hg3)
    have e0 : (w4.setCell ⟨g + 1, 0, none⟩ (.int .i64 rule)).cell? ⟨g + 1, 0, none⟩ = some (.int .i64 rule) := World.cell?_setCell_same _ _ _ hd0
    have e1 : ((w4.setCell ⟨g + 1, 0, none⟩ (.int .i64 rule)).setCell ⟨g + 1, 1, none⟩ (.slice B n3 d)).cell? ⟨g + 1, 1, none⟩ = some (.slice B n3 d) := World.cell?_setCell_same _ _ _ ((World.cell?_setCell_other _ _ _ _ (by simp)).trans hd1)
    have e2 : (((w4.setCell ⟨g + 1, 0, none⟩ (.int .i64 rule)).setCell ⟨g + 1, 1, none⟩ (.slice B n3 d)).setCell ⟨g + 1, 2, none⟩ (.slice A4 n4 c4)).cell? ⟨g + 1, 2, none⟩ = some (.slice A4 n4 c4) := World.cell?_setCell_same _ _ _ ((World.cell?_setCell_other _ _ _ _ (by simp)).trans ((World.cell?_setCell_other _ _ _ _ (by simp)).trans hd2))
    refine bodyPost_ret (v := .agg #[.int .i64 rule, .slice B n3 d, .slice A4 n4 c4]) (by simp [e0, e1, e2, results, Try.results52, go_sem]) rfl ?_
    exact ⟨A4, n4, c4, rfl, hO5.mono hb3.size, ((hb4.setCell hgg _).setCell hgg _).setCell hgg _⟩
end Go.Proofs.Ytmbcolkhmleibaa

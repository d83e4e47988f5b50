/- Contracts: the four cells of a square; what is in a square behind a step (the reference). -/
import Derived.Test.YtmianlihdiccjaaFieldT
import Derived.Test.YtmianlihdiccjaaPlBall2
import Derived.Deep.AppendLies
namespace Go.Proofs.Ytmianlihdiccjaa
open Go.RowKit
set_option linter.unusedVariables false

theorem OI.four (w : World) (a b c d : Int) : OI (w.alloc (.cells #[.int .i64 a, .int .i64 b, .int .i64 c, .int .i64 d] 3)) w.heap.size (some ⟨w.heap.size, 0, none⟩) 4 4 [a, b, c, d] :=
  ⟨rfl, Nat.le_refl _, by simp [maxLen], .inr ⟨_, _, rfl, Nat.le_refl _, heap_alloc_new w _, by simp, rfl⟩⟩
theorem OIb.four (w : World) (a b c d : Bool) : OIb (w.alloc (.cells #[.bool a, .bool b, .bool c, .bool d] 4)) w.heap.size (some ⟨w.heap.size, 0, none⟩) 4 4 [a, b, c, d] :=
  ⟨rfl, Nat.le_refl _, by simp [maxLen], .inr ⟨_, _, rfl, Nat.le_refl _, heap_alloc_new w _, by simp, rfl⟩⟩
theorem mul_bd {a b : Nat} (ha : a ≤ 8) (hb : b ≤ 8) : a * b ≤ 64 := Nat.le_trans (Nat.mul_le_mul ha hb) (by decide)
set_option maxHeartbeats 1000000 in
theorem l6Square (S x y : Nat) (w : World) (h2 : 2 ≤ S) (h8 : S ≤ 8) (hx : x < S) (hy : y < S) :
    Calls Try.prog 73 #[.int .i64 (S : Int), .int .i64 (x : Int), .int .i64 (y : Int)] w
      (GivesI w [((y * S + x : Nat) : Int), ((y * S + (x + 1) % S : Nat) : Int), (((y + 1) % S * S + x : Nat) : Int), (((y + 1) % S * S + (x + 1) % S : Nat) : Int)]) := by
  obtain ⟨x', hx'⟩ : ∃ x', (x + 1) % S = x' := ⟨_, rfl⟩
  obtain ⟨y', hy'⟩ : ∃ y', (y + 1) % S = y' := ⟨_, rfl⟩
  have hx8 : x' < S := by rw [← hx']; exact Nat.mod_lt _ (by omega)
  have hy8 : y' < S := by rw [← hy']; exact Nat.mod_lt _ (by omega)
  obtain ⟨M, hM⟩ : ∃ M, y * S = M := ⟨_, rfl⟩
  obtain ⟨M', hM'⟩ : ∃ M', y' * S = M' := ⟨_, rfl⟩
  have hm1 : M ≤ 64 := by rw [← hM]; exact mul_bd (by omega) h8
  have hm2 : M' ≤ 64 := by rw [← hM']; exact mul_bd (by omega) h8
  have ht1 : ((x : Int) + 1).tmod (S : Int) = (x' : Int) := by rw [Int.tmod_eq_emod_of_nonneg (by omega), ← hx']; push_cast; rfl
  have ht2 : ((y : Int) + 1).tmod (S : Int) = (y' : Int) := by rw [Int.tmod_eq_emod_of_nonneg (by omega), ← hy']; push_cast; rfl
  have ht1' : ((x : Int) + 1) % (S : Int) = (x' : Int) := by rw [← hx']; push_cast; rfl
  have ht2' : ((y : Int) + 1) % (S : Int) = (y' : Int) := by rw [← hy']; push_cast; rfl
  have hp1 : (y : Int) * (S : Int) = (M : Int) := by rw [← hM]; push_cast; rfl
  have hp2 : (y' : Int) * (S : Int) = (M' : Int) := by rw [← hM']; push_cast; rfl
  have hs0 : ¬ S = 0 := by omega
  have hs0' : ¬ (S : Int) = 0 := by omega
  rw [hx', hy', hM, hM']
  have HO := Lib.hid (OI.four w ((M + x : Nat) : Int) ((M + x' : Nat) : Int) ((M' + x : Nat) : Int) ((M' + x' : Nat) : Int))
  push_cast at HO ⊢
  have hb := (Below.refl w.heap.size w).alloc (Nat.le_refl _) (.cells #[.int .i64 ((M : Int) + x), .int .i64 ((M : Int) + x'), .int .i64 ((M' : Int) + x), .int .i64 ((M' : Int) + x')] 3)
  clear hx' hy' hM hM'
  go_enter Try.func73, Try.ntmps73
  go_wp2
  go_ret
  exact ⟨_, _, _, rfl, HO.out, hb⟩
/-- what is in a square behind a step -/
def turned4 (a b c d : Bool) : List Bool := [new4 a b c d, new4 b a d c, new4 c d a b, new4 d c b a]
theorem turned4_one : ∀ a b c d : Bool, cnt [a, b, c, d] = 1 → turned4 a b c d = [d, c, b, a] := by decide
theorem turned4_two : ∀ a b c d : Bool, cnt [a, b, c, d] = 2 → a = d → turned4 a b c d = [b, a, d, c] := by decide
theorem turned4_no2 : ∀ a b c d : Bool, cnt [a, b, c, d] = 2 → a ≠ d → turned4 a b c d = [a, b, c, d] := by decide
theorem turned4_no : ∀ a b c d : Bool, cnt [a, b, c, d] ≠ 1 → cnt [a, b, c, d] ≠ 2 → turned4 a b c d = [a, b, c, d] := by decide
/-- four bools in a slice of the call's own -/
def GivesQ (w : World) (base : Nat) (zs : List Bool) (e : Ending) (w' : World) : Prop := ∃ g c, e = .returned (.slice (some ⟨g, 0, none⟩) 4 c) ∧ OIb w' base (some ⟨g, 0, none⟩) 4 c zs ∧ Below w.heap.size w w'
set_option maxHeartbeats 4000000 in
theorem l6Turned (g base c0 : Nat) (a b c d : Bool) (w : World) (hO : OIb w base (some ⟨g, 0, none⟩) 4 c0 [a, b, c, d]) (hbase : base ≤ w.heap.size) :
    Calls Try.prog 74 #[.slice (some ⟨g, 0, none⟩) 4 c0] w (GivesQ w base (turned4 a b c d)) := by
  have q0 : w.cell? ⟨g, 0, none⟩ = some (.bool a) := by rw [hO.cellAt (by omega)]; rfl
  have q1 : w.cell? ⟨g, 1, none⟩ = some (.bool b) := by rw [hO.cellAt (by omega)]; rfl
  have q2 : w.cell? ⟨g, 2, none⟩ = some (.bool c) := by rw [hO.cellAt (by omega)]; rfl
  have q3 : w.cell? ⟨g, 3, none⟩ = some (.bool d) := by rw [hO.cellAt (by omega)]; rfl
  have HO := Lib.hid hO
  have HN1 := fun W : World => Lib.hid (OIb.four W d c b a)
  have HN2 := fun W : World => Lib.hid (OIb.four W b a d c)
  clear hO
  go_enter Try.func74, Try.ntmps74
  go_wp2
  go_loop [3, 4] (fun n i => ∃ k t : Nat, k ≤ 4 ∧ t ≤ k ∧ i = .int .i64 k ∧ n = .int .i64 t ∧ Hid (t = cnt ([a, b, c, d].take k))) (fun _ i => 4 - (intOf i).toNat)
  case atStart => exact ⟨0, 0, by omega, by omega, rfl, rfl, rfl⟩
  case round =>
    obtain ⟨k, t, hk, ht, rfl, rfl, HT⟩ := hrel
    by_cases hlt : k < 4
    · obtain ⟨x, hx, hcx⟩ : ∃ x, [a, b, c, d][k]? = some x ∧ w.cell? ⟨g, k, none⟩ = some (.bool x) := by
        have : k = 0 ∨ k = 1 ∨ k = 2 ∨ k = 3 := by omega
        rcases this with rfl | rfl | rfl | rfl
        · exact ⟨a, rfl, q0⟩
        · exact ⟨b, rfl, q1⟩
        · exact ⟨c, rfl, q2⟩
        · exact ⟨d, rfl, q3⟩
      cases x
      · have HX := Lib.hid (cnt_f hx)
        clear hx
        go_wp2
        go_round
        case rel => exact ⟨k + 1, t, by omega, by omega, by go_num, rfl, by rw [HX.out]; exact HT.out⟩
        case measure => simp [intOf]; omega
      · have HX := Lib.hid (cnt_t hx)
        clear hx
        go_wp2
        go_round
        case rel => exact ⟨k + 1, t + 1, by omega, by omega, by go_num, by go_num, (by show t + 1 = _; rw [HX.out, ← HT.out])⟩
        case measure => simp [intOf]; omega
    · obtain rfl : k = 4 := by omega
      have htc : t = cnt [a, b, c, d] := HT.out
      by_cases h1 : t = 1
      · have HE := Lib.hid (turned4_one a b c d (by omega))
        subst h1
        clear htc
        go_wp2
        go_region_held3 (fun w' => w'.cell? ⟨g, 0, none⟩ = some (.bool a) ∧ w'.cell? ⟨g, 1, none⟩ = some (.bool b) ∧ w'.cell? ⟨g, 2, none⟩ = some (.bool c) ∧ w'.cell? ⟨g, 3, none⟩ = some (.bool d)) (go_keep) (fail)
        go_wp2
        go_ret
        refine ⟨_, _, rfl, by rw [HE.out]; exact (HN1 w).out.mono hbase, ?_⟩
        exact ((Below.refl w.heap.size w).alloc (Nat.le_refl _) _).drew
      · by_cases h2 : t = 2
        · by_cases had : a = d
          · have HE := Lib.hid (turned4_two a b c d (by omega) had)
            subst h2
            subst had
            clear htc
            go_wp2
            go_quiet (fail)
            go_wp2
            go_region_held3 (fun w' => w'.cell? ⟨g, 0, none⟩ = some (.bool a) ∧ w'.cell? ⟨g, 1, none⟩ = some (.bool b) ∧ w'.cell? ⟨g, 2, none⟩ = some (.bool c) ∧ w'.cell? ⟨g, 3, none⟩ = some (.bool a)) (go_keep) (fail)
            go_wp2
            go_ret
            refine ⟨_, _, rfl, by rw [HE.out]; exact (HN2 w).out.mono hbase, ?_⟩
            first | exact ((below_drewN (Below.refl w.heap.size w) _).alloc (Nat.le_refl _) _).drew | exact (below_drewN (Below.refl w.heap.size w) _).alloc (Nat.le_refl _) _
          · have HE := Lib.hid (turned4_no2 a b c d (by omega) had)
            have hade : (a == d) = false := by simp [had]
            subst h2
            clear htc had
            go_wp2
            go_quiet (fail)
            go_wp2
            go_ret
            exact ⟨_, _, rfl, by rw [HE.out]; exact HO.out, below_drewN (Below.refl _ _) _⟩
        · have HE := Lib.hid (turned4_no a b c d (by omega) (by omega))
          have e1 : ((t : Int) == 1) = false := by simp; omega
          have e2 : ((t : Int) == 2) = false := by simp; omega
          clear htc h1 h2
          go_wp2
          go_quiet (fail)
          go_wp2
          go_ret
          exact ⟨_, _, rfl, by rw [HE.out]; exact HO.out, below_drewN (Below.refl _ _) _⟩
end Go.Proofs.Ytmianlihdiccjaa

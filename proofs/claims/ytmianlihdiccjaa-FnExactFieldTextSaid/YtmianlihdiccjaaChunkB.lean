/- Contract of slices.Chunk at bools: a square's rows. -/
import Derived.RangeFuncBox
import Derived.RangeFuncNested
import Derived.RangeFuncLeaves
import Derived.Shelf.Abstract
import Derived.Shelf.RegionOpen
import Derived.WalkKit
import Derived.OwnWalkIn
import Derived.TacticsInMore
import Derived.LoopNIn
import Derived.LoopIn
import Derived.RegionIn
import Derived.Maps.AppendAt
import Derived.Test.YtmianlihdiccjaaBase
import Derived.Test.YtmianlihdiccjaaMem
namespace Go.Proofs.Ytmianlihdiccjaa
open Go.RowKit Go.Shelf
set_option linter.unusedVariables false

attribute [local go_sem] Oper.semAt_some

/-- what the iterator wants kept: what lay below n₀, and its two boxes -/
def KpC (n₀ Bs Bn : Nat) (W W' : World) : Prop := Below n₀ W W' ∧ W'.heap[Bs]? = W.heap[Bs]? ∧ W'.heap[Bn]? = W.heap[Bn]?
theorem KpC.refl (n₀ Bs Bn : Nat) (W : World) : KpC n₀ Bs Bn W W := ⟨Below.refl _ _, rfl, rfl⟩
theorem KpC.trans {n₀ Bs Bn : Nat} {X Y Z : World} (h : KpC n₀ Bs Bn X Y) (k : KpC n₀ Bs Bn Y Z) : KpC n₀ Bs Bn X Z := ⟨h.1.trans k.1, k.2.1.trans h.2.1, k.2.2.trans h.2.2⟩
theorem KpC.put {n₀ Bs Bn : Nat} {w : World} (hn : n₀ ≤ w.heap.size) (hB : Bs < w.heap.size) (hN : Bn < w.heap.size) (W : World) (l : Nat) (o o' : Obj) (hl : w.heap.size ≤ l) (h : W.heap[l]? = some o) (h1 : o.isCells = false) (h2 : o.isWalk = false) : KpC n₀ Bs Bn W (W.putObj l o') :=
  ⟨belowK_b hn W l o o' hl h h1 h2, (grownBy_putObj' W l o').block Bs (by have := (Array.getElem?_eq_some_iff.1 h).1; omega) (by simp; omega), (grownBy_putObj' W l o').block Bn (by have := (Array.getElem?_eq_some_iff.1 h).1; omega) (by simp; omega)⟩

set_option maxRecDepth 100000 in
set_option maxHeartbeats 2000000 in
theorem chk1_in (F : Fence) (n : Nat) (h7 : F.fn 75) (hro : F.round = none) (hn : 1 ≤ n) (l Bs Bn n₀ : Nat) (ad : Addr) (S q c : Nat) (hS : 2 ≤ S) (hS8 : S ≤ 8) (hq : q = S * S) (hqc : q ≤ c) (hcm : c ≤ maxLen) (J Jx : List (Fin S) → World → Prop)
    (hJd : ∀ pre W, J pre W → J pre W.drew)
    (hY : ∀ pre x W, J pre W → pre.length < S → YieldAt F (n - 1) Try.prog l #[.slice (some (ad.add (x.1 * S))) S S] W fun e W' =>
      (e = .returned (.bool true) ∧ J (pre ++ [x]) W' ∧ KpC n₀ Bs Bn W W') ∨ (e = .returned (.bool false) ∧ Jx (pre ++ [x]) W'))
    (W : World) (hBs : W.cell? ⟨Bs, 0, none⟩ = some (.slice (some ad) q c)) (hBn : W.cell? ⟨Bn, 0, none⟩ = some (.int .i64 (S : Int))) (h0 : J [] W) :
    CallsIn F n Try.prog 75 #[.func (.yield l) #[] #[], .pointer (some ⟨Bs, 0, none⟩), .pointer (some ⟨Bn, 0, none⟩)] W fun e W' => (∃ v, e = .returned v) ∧
      ((∃ ys, ys.map (·.1) = List.range S ∧ J ys W') ∨ (∃ pre, Jx pre W')) := by
  refine callsIn_of_wp Try.func75 rfl h7 ?_ hro
  simp only [Try.ntmps75, List.size_toArray, List.length_cons, List.length_nil, Nat.reduceAdd, Nat.reduceSub, Array.replicate_succ, Array.replicate_zero, List.push_toArray, List.append_toArray, List.nil_append, List.cons_append]
  have HK : ∀ W', KpC n₀ Bs Bn W W' → W'.cell? ⟨Bs, 0, none⟩ = some (.slice (some ad) q c) ∧ W'.cell? ⟨Bn, 0, none⟩ = some (.int .i64 (S : Int)) := fun W' hk => ⟨(World.cell?_of_block hk.2.1).trans hBs, (World.cell?_of_block hk.2.2).trans hBn⟩
  have HK := Lib.hid HK
  have HQ := Lib.hid hq
  have hq64 : q ≤ 64 := by rw [hq]; exact Nat.mul_le_mul hS8 hS8
  clear hq
  gi_wp2
  gi_loopw [4] (fun i wr => ∃ (k : Nat) (pre : List (Fin S)), k ≤ S ∧ i = .int .i64 ((k * S : Nat) : Int) ∧ pre.map (·.1) = List.range k ∧ J pre wr ∧ KpC n₀ Bs Bn W wr)
    (fun i _ => q - (intOf i).toNat)
  case atStart => exact ⟨0, [], by omega, by simp, rfl, h0, KpC.refl _ _ _ _⟩
  case round =>
    obtain ⟨k, pre, hk, rfl, hpre, hJs, hnx⟩ := hrel
    have HPR := Lib.hid hpre
    clear hpre
    obtain ⟨hBs', hBn'⟩ := HK.out wr hnx
    obtain ⟨p, hp⟩ : ∃ p, k * S = p := ⟨_, rfl⟩
    rw [hp]
    have HP := Lib.hid hp
    by_cases hkS : k < S
    · have hps : p + S ≤ q := by
        rw [HQ.out, ← hp]
        have := Nat.mul_le_mul_right S hkS
        rw [Nat.succ_mul] at this; exact this
      obtain ⟨fn, tmps, assign, body, hy, hR⟩ := hY pre ⟨k, hkS⟩ wr.drew (hJd _ _ hJs) (by have := congrArg List.length HPR.out; simp at this; omega)
      try dsimp only at hy
      rw [hp] at hy
      clear hp
      have hcm' := hcm
      unfold maxLen at hcm'
      have hpq : p < q := by omega
      have hns : ¬ q - p < S := by omega
      have hnxd : KpC n₀ Bs Bn W wr.drew := ⟨hnx.1.drew, hnx.2⟩
      have hBs2 : wr.drew.cell? ⟨Bs, 0, none⟩ = some (.slice (some ad) q c) := hBs'
      gi_wp2
      gi_region
      all_goals gi_wp2
      all_goals refine hR.mono ?_
      all_goals rintro e W3 (⟨rfl, hJ3, hk3⟩ | ⟨rfl, hJx3⟩)
      all_goals first
        | (obtain ⟨hBs3, hBn3⟩ := HK.out W3 (hnxd.trans hk3)
           gi_wp2
           go_roundw
           case rel => exact ⟨k + 1, pre ++ [⟨k, hkS⟩], by omega, by rw [Nat.succ_mul, HP.out, Int.natCast_add], by rw [List.map_append, HPR.out, List.range_succ]; rfl, hJ3, hnxd.trans hk3⟩
           case measure => simp [intOf]; omega)
        | (gi_wp2
           refine bodyPost_ret (results_none rfl _ _ _) rfl ?_
           exact ⟨⟨_, rfl⟩, .inr ⟨_, hJx3⟩⟩)
    · obtain rfl : k = S := by omega
      have hpq : p = q := by rw [HQ.out, ← hp]
      subst hpq
      clear hp
      gi_wp2
      go_end0
      exact ⟨⟨_, rfl⟩, .inl ⟨_, HPR.out, hJs⟩⟩

set_option maxHeartbeats 1000000 in
/-- slices.Chunk: the slice value and the length are boxed; the function value captures the boxes -/
theorem chk_in (F : Fence) (n : Nat) (h5 : F.fn 64) (hro : F.round = none) (A : Option Addr) (len c S : Nat) (hS : 2 ≤ S) (w : World) :
    CallsIn F n Try.prog 64 #[.slice A len c, .int .i64 (S : Int)] w fun e w' => e = .returned (.func (.func 75) #[] #[.pointer (some ⟨w.heap.size, 0, none⟩), .pointer (some ⟨w.heap.size + 1, 0, none⟩)]) ∧ w' = (w.alloc (.cells #[.slice A len c] 22)).alloc (.cells #[.int .i64 (S : Int)] 3) := by
  have hS1 : ¬ (S : Int) < 1 := by omega
  refine callsIn_of_wp Try.func64 rfl h5 ?_ hro
  simp only [Try.ntmps64, List.size_toArray, List.length_cons, List.length_nil, Nat.reduceAdd, Nat.reduceSub, Array.replicate_succ, Array.replicate_zero, List.push_toArray, List.append_toArray, List.nil_append, List.cons_append]
  gi_wp2
  go_ret
  exact ⟨rfl, rfl⟩
end Go.Proofs.Ytmianlihdiccjaa

/- Contracts of the helpers on steps and gates. -/
import Derived.Test.YtkpjlkahebeljaaDoorBase
import Derived.Test.YtkpjlkahebeljaaDoorMemF
import Derived.Outline
import Derived.Deep.DrawnRows
import Derived.LoopTactic
namespace Go.Proofs.YtkpjlkahebeljaaDoor
open Go.RowKit
set_option linter.unusedVariables false

theorem szStepS (A : Option Addr) (n c : Nat) (w : World) (hc : n ≤ c ∧ c ≤ maxLen) :
    Calls Tryd.prog 19 #[.slice A n c, .int .i64 1048576] w fun e w' => e = .returned (.int .i64 (if (1048576 : Int) < (n : Int) then -1 else 1048576 - (n : Int))) ∧ w = w' := by
  have hcm := hc.2
  unfold maxLen at hcm
  by_cases h : (1048576 : Int) < (n : Int)
  · have h2 : (1048576 : Int) - (n : Int) < 0 := by omega
    rw [if_pos h]
    go_enter Tryd.func19, Tryd.ntmps19
    go_wp2
    go_ret
    exact ⟨rfl, rfl⟩
  · have h2 : ¬ (1048576 : Int) - (n : Int) < 0 := by omega
    rw [if_neg h]
    go_enter Tryd.func19, Tryd.ntmps19
    go_wp2
    go_ret
    exact ⟨rfl, rfl⟩
theorem toStep (o x y : Int) (w : World) : Calls Tryd.prog 39 #[.agg #[.int .i64 o, .int .i64 x, .int .i64 y]] w fun e w' =>
    e = .returned (.agg #[.int .i64 o, .int .i64 x, .int .i64 y]) ∧ Below w.heap.size w w' := by
  go_enter Tryd.func39, Tryd.ntmps39
  go_wp2
  exact bodyPost_ret (v := .agg #[.int .i64 o, .int .i64 x, .int .i64 y]) (by simp [results, Tryd.results39, go_sem]) rfl ⟨rfl, (((Below.refl _ _).alloc (Nat.le_refl _) _).alloc (by simp) _).alloc (by simp; omega) _⟩
theorem infoStep : (Tryd.prog.info? 46).map (fun i => (i.zero, i.size, i.bytes)) = some (some (.agg #[.int .i64 0, .int .i64 0, .int .i64 0]), 3, 24) := by kernel_rfl
theorem mul3_lt {k n : Nat} (h : k < n) : k * 3 + 3 ≤ n * 3 := by omega
theorem add_more (ad : Addr) (k j : Nat) : ad.add (k + (j + 1)) = ⟨(ad.add k).block, (ad.add k).off + (j + 1), none⟩ := by
  unfold Addr.add
  by_cases hk : k = 0 <;> simp [hk, Nat.add_assoc]
theorem RI.three {w : World} {B : Nat} {A : Option Addr} {n : Nat} {zs : List Int} (h : RI w B A (n * 3) zs) {k : Nat} (hk : k < n) :
    ∃ ad x y z, A = some ad ∧ ad.block < B ∧ zs[k * 3]? = some x ∧ zs[k * 3 + 1]? = some y ∧ zs[k * 3 + 2]? = some z ∧
      w.cell? (ad.add (k * 3)) = some (.int .i64 x) ∧ w.cell? ⟨(ad.add (k * 3)).block, (ad.add (k * 3)).off + 1, none⟩ = some (.int .i64 y) ∧ w.cell? ⟨(ad.add (k * 3)).block, (ad.add (k * 3)).off + 2, none⟩ = some (.int .i64 z) := by
  obtain ⟨ad, x, rfl, hb, hx, hcx⟩ := h.at_ (k := k * 3) (by omega)
  obtain ⟨ad1, y, e1, _, hy, hcy⟩ := h.at_ (k := k * 3 + 1) (by omega)
  obtain ⟨ad2, z, e2, _, hz, hcz⟩ := h.at_ (k := k * 3 + 2) (by omega)
  cases e1; cases e2
  exact ⟨ad, x, y, z, rfl, hb, hx, hy, hz, hcx, by rw [← add_more ad (k * 3) 0]; exact hcy, by rw [← add_more ad (k * 3) 1]; exact hcz⟩
theorem RI.four {w : World} {B : Nat} {A : Option Addr} {n : Nat} {zs : List Int} (h : RI w B A (n * 4) zs) {k : Nat} (hk : k < n) :
    ∃ ad x y z u, A = some ad ∧ ad.block < B ∧ zs[k * 4]? = some x ∧ zs[k * 4 + 1]? = some y ∧ zs[k * 4 + 2]? = some z ∧ zs[k * 4 + 3]? = some u ∧
      w.cell? (ad.add (k * 4)) = some (.int .i64 x) ∧ w.cell? ⟨(ad.add (k * 4)).block, (ad.add (k * 4)).off + 1, none⟩ = some (.int .i64 y) ∧ w.cell? ⟨(ad.add (k * 4)).block, (ad.add (k * 4)).off + 2, none⟩ = some (.int .i64 z) ∧ w.cell? ⟨(ad.add (k * 4)).block, (ad.add (k * 4)).off + 3, none⟩ = some (.int .i64 u) := by
  obtain ⟨ad, x, rfl, hb, hx, hcx⟩ := h.at_ (k := k * 4) (by omega)
  obtain ⟨ad1, y, e1, _, hy, hcy⟩ := h.at_ (k := k * 4 + 1) (by omega)
  obtain ⟨ad2, z, e2, _, hz, hcz⟩ := h.at_ (k := k * 4 + 2) (by omega)
  obtain ⟨ad3, u, e3, _, hu, hcu⟩ := h.at_ (k := k * 4 + 3) (by omega)
  cases e1; cases e2; cases e3
  exact ⟨ad, x, y, z, u, rfl, hb, hx, hy, hz, hu, hcx, by rw [← add_more ad (k * 4) 0]; exact hcy, by rw [← add_more ad (k * 4) 1]; exact hcz, by rw [← add_more ad (k * 4) 2]; exact hcu⟩
theorem made3 (n : Nat) : (madeCells (Value.agg #[.int .i64 0, .int .i64 0, .int .i64 0]).cells (n * 3)).toList = (List.replicate (n * 3) (0 : Int)).map (.int .i64) := by
  apply List.ext_getElem?
  intro j
  by_cases hj : j < n * 3
  · have h3 : j % 3 = 0 ∨ j % 3 = 1 ∨ j % 3 = 2 := by omega
    rcases h3 with h | h | h <;> simp [madeCells, hj, h, Value.cells]
  · simp [madeCells, hj]
theorem set3 {k n : Nat} {ys zs : List Int} {x y z : Int} (hl : ys.length = n * 3) (hk : k < n) (hx : zs[k * 3]? = some x) (hy : zs[k * 3 + 1]? = some y) (hz : zs[k * 3 + 2]? = some z)
    (h : ∀ j, j < k * 3 → ys[j]? = zs[j]?) : ∀ j, j < (k + 1) * 3 → (((ys.set (k * 3) x).set (k * 3 + 1) y).set (k * 3 + 2) z)[j]? = zs[j]? := by
  intro j hj
  simp only [List.getElem?_set, List.length_set]
  by_cases e2 : k * 3 + 2 = j
  · rw [if_pos e2, if_pos (by omega), ← e2, hz]
  rw [if_neg e2]
  by_cases e1 : k * 3 + 1 = j
  · rw [if_pos e1, if_pos (by omega), ← e1, hy]
  rw [if_neg e1]
  by_cases e0 : k * 3 = j
  · rw [if_pos e0, if_pos (by omega), ← e0, hx]
  rw [if_neg e0]
  exact h j (by omega)
set_option maxHeartbeats 1000000 in
theorem toStepS (A : Option Addr) (n : Nat) (zs : List Int) (c : Nat) (w : World) (hr : RI w w.heap.size A (n * 3) zs) (hl : n ≤ 1048576) :
    Calls Tryd.prog 20 #[.slice A n c] w (GivesF 46 3 w zs) := by
  obtain ⟨i0, hi, hz0, hz1, hz2⟩ := info_parts infoStep
  have hln := hr.len
  have HLN := Lib.hid hln
  clear hln
  go_enter Tryd.func20, Tryd.ntmps20
  go_wp2_with (at_make; refine wpList_make_full _ rfl _ _ 23 rfl w.heap.size 46 i0 (.agg #[.int .i64 0, .int .i64 0, .int .i64 0]) 3 Tryd.underlying23 hi hz0 hz1 .i64 .i64 _ _ n rfl rfl rfl rfl (by rw [hz2]; omega) (by unfold maxLen; omega) (Nat.le_refl _) ?_; intro w1 hown1 hg1)
  have hb1 : Below w.heap.size w w1 := grown_below hg1
  go_loopw [4] (fun i wr => ∃ (k : Nat) (ys : List Int), k ≤ n ∧ i = .int .i64 k ∧ ys.length = n * 3 ∧ (∀ j, j < k * 3 → ys[j]? = zs[j]?) ∧ OFI 46 3 wr w.heap.size (some ⟨w.heap.size, 0, none⟩) n n ys ∧ Below w.heap.size w wr)
    (fun i _ => n - (intOf i).toNat)
  case atStart =>
    refine ⟨0, List.replicate (n * 3) 0, Nat.zero_le _, rfl, by simp, fun j hj => absurd hj (by omega), ?_, hb1⟩
    have e : (madeCells (Value.agg #[.int .i64 0, .int .i64 0, .int .i64 0]).cells (n * 3)).toList = (List.replicate (n * 3) (0 : Int)).map (.int .i64) := made3 n
    rw [e] at hown1
    exact OF.toI hown1
  case round =>
    obtain ⟨k, ys, hk, rfl, hyl, hyj, hO, hbw⟩ := hrel
    have HJ := Lib.hid hyj
    have HY := Lib.hid hyl
    have HO := Lib.hid hO
    clear hyj hyl hO hown1
    by_cases hlt : k < n
    · obtain ⟨ad, x, y, z, rfl, hb, hx, hy, hz, c0, c1, c2⟩ := (hr.below hbw).three hlt
      have HX := Lib.hid (show _ ∧ _ ∧ _ from ⟨hx, hy, hz⟩)
      clear hx hy hz
      have hs := hbw.size
      have hgl : w.heap.size < wr.heap.size := (HO.out.lt _ rfl).2
      go_wp2_with (go_at_call 39; refine (toStep x y z _).mono ?_; rintro e w2 ⟨rfl, hB2⟩; have HO2 := Lib.hid (HO.out.below hB2 (Nat.le_refl _)); obtain ⟨u0, hu0⟩ := HO2.out.cellSome (j := k * 3) (by omega); obtain ⟨u1, hu1⟩ := HO2.out.cellSome (j := k * 3 + 1) (by omega); obtain ⟨u2, hu2⟩ := HO2.out.cellSome (j := k * 3 + 2) (by omega); have f0 := HO2.out.frozenAt (k * 3); have f1 := HO2.out.frozenAt (k * 3 + 1); have f2 := HO2.out.frozenAt (k * 3 + 2))
      have hb2 := hbw.trans (hB2.mono hs)
      have hgw : w.heap.size ≤ w.heap.size := Nat.le_refl _
      refine ⟨⟨k + 1, ((ys.set (k * 3) x).set (k * 3 + 1) y).set (k * 3 + 2) z, by omega, by go_num, by simp [HY.out], ?_, ((HO2.out.stored x).1.stored y).1.stored z |>.1, ((hb2.setCell (p := ⟨w.heap.size, k * 3, none⟩) hgw _).setCell (p := ⟨w.heap.size, k * 3 + 1, none⟩) hgw _).setCell (p := ⟨w.heap.size, k * 3 + 2, none⟩) hgw _⟩, by simp [intOf]; omega⟩
      obtain ⟨hx, hy, hz⟩ := HX.out
      have hyl := HY.out
      exact set3 hyl (by omega) hx hy hz HJ.out
    · obtain rfl : k = n := by omega
      go_wp2
      go_ret
      have e : ys = zs := List.ext_getElem? fun j => by
        by_cases hj : j < k * 3
        · exact HJ.out j hj
        · rw [List.getElem?_eq_none (by rw [HY.out]; omega), List.getElem?_eq_none (by rw [HLN.out]; omega)]
      exact ⟨_, _, _, rfl, by rw [← e]; exact HO.out, hbw⟩
end Go.Proofs.YtkpjlkahebeljaaDoor

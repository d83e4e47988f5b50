/- Contracts of the drawing of inputs: the reader of bytes. -/
import Derived.Test.YtkpjlkahebeljaaDoorBase
import Derived.Test.YtkpjlkahebeljaaDoorMem
import Derived.IntWalk
namespace Go.Proofs.YtkpjlkahebeljaaDoor
open Go.RowKit
set_option linter.unusedVariables false

/-- block g is a reader at position p: its bytes lie below g -/
def Rd (w : World) (g p : Nat) : Prop := ∃ (A : Option Addr) (zs : List Int) (c : Nat), w.heap[g]? = some (.cells #[.slice A zs.length c, .int .i64 p] 73 (0, 0)) ∧ RB w g A zs ∧ zs.length ≤ 2000
/-- a reader at some position up to P -/
def RdLe (w : World) (g P : Nat) : Prop := ∃ p, p ≤ P ∧ Rd w g p

theorem Rd.lt {w : World} {g p : Nat} (h : Rd w g p) : g < w.heap.size := by
  obtain ⟨A, zs, c, hg, _⟩ := h
  exact (Array.getElem?_eq_some_iff.1 hg).1
theorem Rd.keep {w w' : World} {g p : Nat} (h : Rd w g p) (hk : ∀ k, k ≤ g → w'.heap[k]? = w.heap[k]?) : Rd w' g p := by
  obtain ⟨A, zs, c, hg, hr, hl⟩ := h
  exact ⟨A, zs, c, (hk g (Nat.le_refl _)).trans hg, hr.keep fun q hq => World.cell?_of_block (hk q.block (by omega)), hl⟩
theorem RdLe.lt {w : World} {g P : Nat} (h : RdLe w g P) : g < w.heap.size := by obtain ⟨p, _, h⟩ := h; exact h.lt
theorem RdLe.keep {w w' : World} {g P : Nat} (h : RdLe w g P) (hk : ∀ k, k ≤ g → w'.heap[k]? = w.heap[k]?) : RdLe w' g P := by
  obtain ⟨p, hp, h⟩ := h
  exact ⟨p, hp, h.keep hk⟩
theorem RdLe.below {w w' : World} {g P K : Nat} (h : RdLe w g P) (hb : Below K w w') (hK : g < K) : RdLe w' g P := h.keep fun k hk => hb.block k (by omega)
theorem RdLe.more {w : World} {g P Q : Nat} (h : RdLe w g P) (hq : P ≤ Q) : RdLe w g Q := by
  obtain ⟨p, hp, h⟩ := h
  exact ⟨p, by omega, h⟩
theorem RdLe.drewN {w : World} {g P : Nat} (h : RdLe w g P) (n : Nat) : RdLe (w.drewN n) g P := h

theorem xor_nn (a b : Int) (ha : 0 ≤ a) (ha' : a < 4611686018427387904) (hb : 0 ≤ b) (hb' : b < 4611686018427387904) : 0 ≤ bits BinOp.xor IntKind.i64 a b := by
  obtain ⟨m, rfl⟩ := Int.eq_ofNat_of_zero_le ha
  obtain ⟨n, rfl⟩ := Int.eq_ofNat_of_zero_le hb
  rw [xor_nat _ _ (by omega) (by omega)]
  omega

theorem below_grown {w w1 w2 : World} {g : Nat} (hb : Below w.heap.size w w1) (hg : w1.grownBy w2 (some g)) (hgs : w.heap.size ≤ g) : Below w.heap.size w w2 :=
  hb.grown hg hb.size (fun k e => by cases e; exact hgs)

/-- what pick leaves -/
def PickPost (w : World) (g P : Nat) (n : Int) (e : Ending) (w' : World) : Prop := ∃ x : Int, e = .returned (.int .i64 x) ∧ 0 ≤ x ∧ (n < 1 → x = 0) ∧ (1 ≤ n → x < n) ∧ RdLe w' g (P + 1) ∧ w.grownBy w' (some g)

theorem rd_step {w : World} {g p : Nat} {A : Option Addr} {zs : List Int} {c : Nat} (hg : w.heap[g]? = some (.cells #[.slice A zs.length c, .int .i64 p] 73 (0, 0))) (hr : RB w g A zs) (hl : zs.length ≤ 2000) (n : Nat) :
    Rd ((w.setCell ⟨g, 1, none⟩ (.int .i64 ((p : Int) + 1))).drewN n) g (p + 1) ∧ w.grownBy ((w.setCell ⟨g, 1, none⟩ (.int .i64 ((p : Int) + 1))).drewN n) (some g) := by
  have hgr : w.grownBy (w.setCell ⟨g, 1, none⟩ (.int .i64 ((p : Int) + 1))) (some g) := ⟨rfl, rfl, rfl, by simp [World.setCell], fun k _ hk => Below.heap_setCell _ _ _ k (fun e => hk (by rw [e]))⟩
  refine ⟨⟨A, zs, c, ?_, hr.keep fun q hq => World.cell?_of_block (Below.heap_setCell _ _ _ _ (show q.block ≠ g by omega)), hl⟩, hgr.os, hgr.tape, hgr.output, hgr.size, hgr.block⟩
  show (w.setCell ⟨g, 1, none⟩ (.int .i64 ((p : Int) + 1))).heap[g]? = _
  rw [heap_setCell_same w g 1 _ _ _ hg]
  simp

set_option maxHeartbeats 1000000 in
theorem pick (g P : Nat) (n : Int) (w : World) (hR : RdLe w g P) (hP : P ≤ 1000000) :
    Calls Tryd.prog 38 #[.pointer (some ⟨g, 0, none⟩), .int .i64 n] w (PickPost w g P n) := by
  obtain ⟨p, hp, A, zs, c, hg, hr, hl⟩ := hR
  have hst := rd_step hg hr hl
  have hc0 : w.cell? ⟨g, 0, none⟩ = some (.slice A zs.length c) := by rw [cell_of_row w g 0 _ _ _ hg]; rfl
  have hc1 : w.cell? ⟨g, 1, none⟩ = some (.int .i64 p) := by rw [cell_of_row w g 1 _ _ _ hg]; rfl
  have hf1 : w.frozen? ⟨g, 1, none⟩ = false := frozen_of_row w g 1 _ _ hg
  have hpw : IntKind.i64.wrap ((p : Int) + 1) = (p : Int) + 1 := by rw [IntKind.wrap_i64]; omega
  have hbyte : ∀ k, k < zs.length → ∃ ad x, A = some ad ∧ zs[k]? = some x ∧ (w.setCell ⟨g, 1, none⟩ (.int .i64 ((p : Int) + 1))).cell? (ad.add k) = some (.int .u8 x) ∧ 0 ≤ x ∧ x ≤ 255 := by
    intro k hk
    obtain ⟨ad, x, e, hb, hx, hc, h0, h1⟩ := hr.at_ hk
    refine ⟨ad, x, e, hx, ?_, h0, h1⟩
    refine Eq.trans ?_ hc
    exact World.cell?_of_block (Below.heap_setCell _ _ _ _ (show (ad.add k).block ≠ g by rw [blk_add]; omega))
  have HB := Lib.hid hbyte
  have HS := Lib.hid hst
  have HR := Lib.hid hr
  have HG := Lib.hid hg
  clear hbyte hst hr hg
  by_cases hn : n < 1
  · go_enter Tryd.func38, Tryd.ntmps38
    go_wp2
    go_ret
    exact ⟨0, rfl, Int.le_refl _, fun _ => rfl, fun h => by omega, ⟨p + 1, by omega, (HS.out 0).1⟩, (HS.out 0).2⟩
  · by_cases hz : zs.length = 0
    · have hz0 : ((zs.length : Int) == 0) = true := by simp [hz]
      clear hz
      go_enter Tryd.func38, Tryd.ntmps38
      go_wp2
      go_ret
      exact ⟨0, rfl, Int.le_refl _, fun _ => rfl, fun h => by omega, ⟨p + 1, by omega, (HS.out 0).1⟩, (HS.out 0).2⟩
    · have hz0 : ((zs.length : Int) == 0) = false := by simp [hz]
      by_cases hlt : p < zs.length
      · obtain ⟨ad, x, rfl, hx, hcx, h0, h1⟩ := HB.out p hlt
        have HX := Lib.hid hx
        clear hx hz
        go_enter Tryd.func38, Tryd.ntmps38
        go_wp2
        go_ret
        exact ⟨x % n, rfl, by apply Int.emod_nonneg; omega, fun h => by omega, fun h => Int.emod_lt_of_pos _ (by omega), ⟨p + 1, by omega, (HS.out 0).1⟩, (HS.out 0).2⟩
      · have hL : 0 < zs.length := by omega
        obtain ⟨i1, hi1, hl1⟩ : ∃ i1 : Nat, (p : Int) % (zs.length : Int) = (i1 : Int) ∧ i1 < zs.length := ⟨p % zs.length, by push_cast; rfl, Nat.mod_lt _ hL⟩
        obtain ⟨i2, hi2, hl2⟩ : ∃ i2 : Nat, ((p : Int) * 7 + 3) % (zs.length : Int) = (i2 : Int) ∧ i2 < zs.length := ⟨(p * 7 + 3) % zs.length, by push_cast; rfl, Nat.mod_lt _ hL⟩
        obtain ⟨q, hq, hq0, hq1⟩ : ∃ q : Int, (p : Int) / (zs.length : Int) = q ∧ 0 ≤ q ∧ q ≤ p := ⟨_, rfl, Int.ediv_nonneg (by omega) (by omega), by have := Int.ediv_le_self (a := (p : Int)) (zs.length : Int) (by omega); exact this⟩
        obtain ⟨ad, x, rfl, hx, hcx, h0, h1⟩ := HB.out i1 hl1
        obtain ⟨ad', y, he, hy, hcy, h2, h3⟩ := HB.out i2 hl2
        obtain rfl : ad = ad' := by injection he
        have hx0 : 0 ≤ bits BinOp.xor IntKind.i64 (x * 131 + y * 1117 + (p : Int) * 29 + q * 53) ((x * 131 + y * 1117 + (p : Int) * 29 + q * 53) / 64) := xor_nn _ _ (by omega) (by omega) (by omega) (by omega)
        have hnn : 0 ≤ n := by omega
        clear hx hy hz he
        go_enter Tryd.func38, Tryd.ntmps38
        go_wp2
        go_quiet (fail)
        go_wp2
        go_ret
        exact ⟨_, rfl, by apply Int.emod_nonneg; omega, fun h => by omega, fun h => Int.emod_lt_of_pos _ (by omega), ⟨p + 1, by omega, (HS.out _).1⟩, (HS.out _).2⟩

theorem l20Open (A : Option Addr) (zs : List Int) (c : Nat) (w : World) (h : RB w w.heap.size A zs) (hc : zs.length ≤ c) (hcm : c ≤ maxLen) :
    Calls Tryd.prog 22 #[.slice A zs.length c] w fun e w' => e = .returned (.pointer (some ⟨w.heap.size, 0, none⟩)) ∧ RdLe w' w.heap.size 0 ∧ Below w.heap.size w w' := by
  unfold maxLen at hcm
  by_cases hn : 2000 < zs.length
  · obtain ⟨ad, x, rfl, hb, hx, hcell, _⟩ := h.at_ (k := 0) (by omega)
    have hr : RB w w.heap.size (some ad) (zs.take 2000) := by
      refine ⟨⟨by simp, fun _ => ⟨ad, rfl, hb, fun j u hu => ?_⟩⟩, fun z hz => h.2 z (List.mem_of_mem_take hz)⟩
      obtain ⟨ad', e, _, hc'⟩ := h.1.2 (by omega)
      injection e with e
      subst e
      refine hc' j u ?_
      rw [List.map_take, List.getElem?_take] at hu
      split at hu
      · exact hu
      · cases hu
    have hlen : (zs.take 2000).length = 2000 := by simp; omega
    have HL := Lib.hid hlen
    have HR := Lib.hid hr
    clear hx hr hlen hcell
    go_enter Tryd.func22, Tryd.ntmps22
    go_wp2
    go_ret
    refine ⟨rfl, ⟨0, Nat.le_refl _, some ad, zs.take 2000, c, ?_, HR.out.keep fun q hq => World.cell?_alloc_lt _ _ _ (by omega), by rw [HL.out]; omega⟩, (Below.refl _ _).alloc (Nat.le_refl _) _⟩
    rw [HL.out]
    exact heap_alloc_new w _
  · go_enter Tryd.func22, Tryd.ntmps22
    go_wp2
    go_ret
    exact ⟨rfl, ⟨0, Nat.le_refl _, A, zs, c, heap_alloc_new w _, h.keep fun q hq => World.cell?_alloc_lt _ _ _ (by omega), by omega⟩, (Below.refl _ _).alloc (Nat.le_refl _) _⟩

/-- what odd leaves -/
def OddPost (w : World) (g P : Nat) (e : Ending) (w' : World) : Prop := ∃ b : Bool, e = .returned (.bool b) ∧ RdLe w' g (P + 1) ∧ w.grownBy w' (some g)
theorem odd (g P : Nat) (n : Int) (w : World) (hR : RdLe w g P) (hP : P ≤ 1000000) (hn : n ≤ 1000) :
    Calls Tryd.prog 52 #[.pointer (some ⟨g, 0, none⟩), .int .i64 n] w (OddPost w g P) := by
  by_cases h0 : 0 < n
  · go_enter Tryd.func52, Tryd.ntmps52
    go_wp2_with (go_at_call 38; refine (pick g P n w hR hP).mono ?_; rintro e w' ⟨x, rfl, hx0, hx1, hx2, hR', hg'⟩)
    go_ret
    exact ⟨_, rfl, hR', hg'⟩
  · go_enter Tryd.func52, Tryd.ntmps52
    go_wp2
    go_ret
    exact ⟨_, rfl, hR.more (by omega), World.grownBy.refl _ _⟩
end Go.Proofs.YtkpjlkahebeljaaDoor

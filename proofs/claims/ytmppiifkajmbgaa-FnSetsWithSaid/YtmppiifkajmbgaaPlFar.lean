/- Plain words and laws of sets that are reached: how far, with how many pebbles, by how many moves. -/
import Derived.Test.YtmppiifkajmbgaaPlBfs3
namespace Go.Proofs.Ytmppiifkajmbgaa
open Go.RowKit
set_option linter.unusedVariables false

/-- how many bits a number of at most 8 bits has -/
def blen (s : Int) : Int := if s < 1 then 0 else if s < 2 then 1 else if s < 4 then 2 else if s < 8 then 3 else if s < 16 then 4 else if s < 32 then 5 else if s < 64 then 6 else if s < 128 then 7 else 8
theorem blen_bd (s : Int) : 0 ≤ blen s ∧ blen s ≤ 8 := by unfold blen; repeat (first | (split; omega) | omega)
/-- the farthest place of the first k sets -/
def farT (ls : List Int) : Nat → Int
  | 0 => 0
  | k + 1 => if 0 ≤ ls.getD k 0 then max (farT ls k) (blen k) else farT ls k
theorem farT_bd (ls : List Int) (k : Nat) : 0 ≤ farT ls k ∧ farT ls k ≤ 8 := by
  induction k with
  | zero => simp [farT]
  | succ k ih => have := blen_bd k; simp only [farT]; split <;> omega
/-- the same of the first k bits of a set -/
def inT (s : Int) : Nat → Int
  | 0 => 0
  | k + 1 => if bitI s k = 1 then k + 1 else inT s k
theorem inT_bd (s : Int) (k : Nat) : 0 ≤ inT s k ∧ inT s k ≤ k := by
  induction k with
  | zero => simp [inT]
  | succ k ih => simp only [inT]; split <;> omega
theorem inT_blen : ∀ s : Int, 0 ≤ s → s < 256 → inT s 8 = blen s := by
  refine all256 ?_
  decide +kernel
/-- FarWith -/
def fwI (b : Int) : Int := if inB b 0 4 = true then (if b < 1 then 0 else if b < 2 then 1 else if b < 3 then 3 else if b < 4 then 7 else 8) else -1
theorem five {b : Int} (h : inB b 0 4 = true) : b = 0 ∨ b = 1 ∨ b = 2 ∨ b = 3 ∨ b = 4 := by have := inB_iff.1 h; omega
set_option maxRecDepth 100000 in
theorem far_tab : farT tab80 256 = 0 ∧ farT tab81 256 = 1 ∧ farT tab82 256 = 3 ∧ farT tab83 256 = 7 ∧ farT tab84 256 = 8 := by decide +kernel
theorem far_bfs {b : Int} (h : inB b 0 4 = true) : farT (bfs 8 b) 256 = fwI b := by
  obtain ⟨h0, h1, h2, h3, h4⟩ := far_tab
  rcases five h with rfl | rfl | rfl | rfl | rfl
  · rw [bfs80, h0]; rfl
  · rw [bfs81, h1]; rfl
  · rw [bfs82, h2]; rfl
  · rw [bfs83, h3]; rfl
  · rw [bfs84, h4]; rfl
/-- PebblesFor -/
def pfI (p : Int) : Int := if inB p 1 8 = true then (if p ≤ 1 then 1 else if p ≤ 3 then 2 else if p ≤ 7 then 3 else 4) else -1
/-- LeastMoves -/
def lmI (p b : Int) : Int := if (inB p 1 8 && inB b 0 4) = true then (bfs p b).getD (2 ^ (p.toNat - 1)) 0 else -1
set_option maxRecDepth 100000 in
theorem len_tab : ∀ p : Fin 9, ∀ b : Fin 5, 1 ≤ p.val → (tab p.val b.val).length = 2 ^ p.val := by decide +kernel
theorem bfs_len {p b : Nat} (h1 : 1 ≤ p) (h8 : p ≤ 8) (hb : b ≤ 4) : (bfs (p : Int) (b : Int)).length = 2 ^ p := by
  rw [bfs_tab h1 h8 hb]
  exact len_tab ⟨p, by omega⟩ ⟨b, by omega⟩ h1
theorem pow_le8 {p : Nat} (h8 : p ≤ 8) : 2 ^ p ≤ 256 := Nat.le_trans (Nat.pow_le_pow_right (by decide) h8) (by decide)
theorem sw_len (p b : Int) : (swL p b).length ≤ 256 := by
  unfold swL; split
  · rename_i h
    simp only [Bool.and_eq_true] at h
    have hp := inB_iff.1 h.1
    have hb := inB_iff.1 h.2
    obtain ⟨m, rfl⟩ : ∃ m : Nat, p = (m : Int) := ⟨p.toNat, by omega⟩
    obtain ⟨n, rfl⟩ : ∃ n : Nat, b = (n : Int) := ⟨b.toNat, by omega⟩
    rw [bfs_len (by omega) (by omega) (by omega)]
    exact pow_le8 (by omega)
  · simp
/-- what is true of the numbers of moves, with more pebbles and with fewer -/
def lmOk (p b : Nat) : Bool :=
  let n := (tab p b).getD (2 ^ (p - 1)) 0
  let far := fwI ((b : Int) - 1)
  let more := (tab p (b + 1)).getD (2 ^ (p - 1)) 0
  if n < 0 then n == -1 && decide (far < (p : Int) - 1) else decide (far ≥ (p : Int) - 1) && n % 2 == 1 && (b == 4 || (decide (0 ≤ more) && decide (more ≤ n))) && decide (2 * (p : Int) - 1 ≤ n)
set_option maxRecDepth 100000 in
theorem lm_ok : ∀ p : Fin 9, ∀ b : Fin 5, 1 ≤ p.val → lmOk p.val b.val = true := by decide +kernel
/-- what is true of each set -/
def swOk (p b : Nat) : Bool :=
  (List.range (2 ^ p)).all fun s =>
    let v := (tab p b).getD s 0
    let m := (tab p (b + 1)).getD s 0
    decide (-1 ≤ v) && decide (v ≤ 1000) && decide (-1 ≤ m) && decide (m ≤ 1000) &&
    (decide (v < 0) || (decide (popI (s : Int) p ≤ (b : Int)) && v % 2 == popI (s : Int) p % 2 && (b == 4 || (decide (0 ≤ m) && decide (m ≤ v)))))
set_option maxRecDepth 100000 in
theorem sw_ok : ∀ p : Fin 9, ∀ b : Fin 5, 1 ≤ p.val → (swOk p.val b.val && (tab p.val b.val).getD 0 7 == 0) = true := by decide +kernel
end Go.Proofs.Ytmppiifkajmbgaa

/- Plain words and lemmas on numbers, without any program. -/
import Derived.WalkKit
namespace Go.Proofs.YtkpjlkahebeljaaDoor
open Go.RowKit

/-- n lies in lo..hi -/
def inB (n lo hi : Int) : Bool := decide (lo ≤ n ∧ n ≤ hi)
theorem inB_t {n lo hi : Int} (h : lo ≤ n) (h' : n ≤ hi) : inB n lo hi = true := by simp [inB, h, h']
theorem inB_f {n lo hi : Int} (h : ¬ (lo ≤ n ∧ n ≤ hi)) : inB n lo hi = false := by simpa [inB] using h
theorem inB_iff {n lo hi : Int} : inB n lo hi = true ↔ lo ≤ n ∧ n ≤ hi := by simp [inB]

theorem ret_int {k : IntKind} {a b : Int} (h : a = b) : Ending.returned (.int k a) = .returned (.int k b) := by rw [h]
theorem ret_bool {a b : Bool} (h : a = b) : Ending.returned (.bool a) = .returned (.bool b) := by rw [h]

/-- two lists are equal -/
def eqL (xs ys : List Int) : Bool := decide (xs = ys)
theorem eqL_t {xs ys : List Int} (h : xs = ys) : eqL xs ys = true := by simp [eqL, h]
theorem eqL_self (xs : List Int) : eqL xs xs = true := by simp [eqL]

/-! ### sets of places -/
/-- a valid set of places -/
def pvB (p s : Int) : Bool := decide (1 ≤ p ∧ p ≤ 8 ∧ 0 ≤ s ∧ s < 2 ^ p.toNat)
theorem pvB_iff {p s : Int} : pvB p s = true ↔ 1 ≤ p ∧ p ≤ 8 ∧ 0 ≤ s ∧ s < 2 ^ p.toNat := by simp [pvB]
theorem eight {p : Int} (h : 1 ≤ p) (h' : p ≤ 8) : p = 1 ∨ p = 2 ∨ p = 3 ∨ p = 4 ∨ p = 5 ∨ p = 6 ∨ p = 7 ∨ p = 8 := by omega

theorem pvB_bd {p s : Int} (h : pvB p s = true) : 1 ≤ p ∧ p ≤ 8 ∧ 0 ≤ s ∧ s < 256 := by
  obtain ⟨h1, h2, h3, h4⟩ := pvB_iff.1 h
  refine ⟨h1, h2, h3, ?_⟩
  rcases eight h1 h2 with rfl | rfl | rfl | rfl | rfl | rfl | rfl | rfl <;> simp at h4 <;> omega
theorem pv_neg (x : Int) : pvB x (-1) = false := by
  rw [Bool.eq_false_iff]; intro h
  have := (pvB_iff.1 h).2.2.1
  omega
theorem pv_pow (x : Int) : pvB x (2 ^ x.toNat) = false := by
  rw [Bool.eq_false_iff]; intro h
  have := (pvB_iff.1 h).2.2.2
  omega
theorem pv_succ {x y : Int} (h : pvB x y = true) (h8 : x ≠ 8) : pvB (x + 1) y = true := by
  obtain ⟨h1, h2, h3, h4⟩ := pvB_iff.1 h
  refine pvB_iff.2 ⟨by omega, by omega, h3, ?_⟩
  rcases eight h1 h2 with rfl | rfl | rfl | rfl | rfl | rfl | rfl | rfl <;> simp at h4 ⊢ <;> omega
/-- bit k of a word -/
def bitI (s : Int) (k : Nat) : Int := s / 2 ^ k % 2
/-- a move may be done -/
def mmB (p s k : Int) : Bool := pvB p s && decide (0 ≤ k ∧ k < p ∧ (k = 0 ∨ bitI s (k - 1).toNat = 1))
theorem mmB_iff {p s k : Int} : mmB p s k = true ↔ pvB p s = true ∧ 0 ≤ k ∧ k < p ∧ (k = 0 ∨ bitI s (k - 1).toNat = 1) := by simp [mmB]
/-- the set behind a move, or -1 -/
def turnI (s : Int) (k : Nat) : Int := if bitI s k = 1 then s - 2 ^ k else s + 2 ^ k
def mdI (p s k : Int) : Int := if mmB p s k = true then turnI s k.toNat else -1
theorem and_one (x : Int) (h : 0 ≤ x) (h' : x < 4611686018427387904) : bits BinOp.and IntKind.i64 x 1 = x % 2 := by
  obtain ⟨n, rfl⟩ := Int.eq_ofNat_of_zero_le h
  have e : (BitVec.ofInt 64 ((n : Nat) : Int) &&& BitVec.ofInt 64 1).toNat = n % 2 := by
    rw [BitVec.toNat_and, BitVec.ofInt_natCast, BitVec.toNat_ofNat, Nat.mod_eq_of_lt (by omega)]
    show n &&& 1 = n % 2
    exact Nat.and_one_is_mod n
  show IntKind.i64.wrap ((BitVec.ofInt 64 ((n : Nat) : Int) &&& BitVec.ofInt 64 1).toNat : Int) = _
  rw [e, IntKind.wrap_i64]
  omega
theorem xor_nat (a b : Nat) (ha : a < 4611686018427387904) (hb : b < 4611686018427387904) : bits BinOp.xor IntKind.i64 (a : Int) (b : Int) = ((a ^^^ b : Nat) : Int) := by
  have hx : a ^^^ b < 2 ^ 62 := Nat.xor_lt_two_pow (by omega) (by omega)
  show IntKind.i64.wrap ((BitVec.ofInt 64 (a : Int) ^^^ BitVec.ofInt 64 (b : Int)).toNat : Int) = _
  rw [BitVec.toNat_xor, BitVec.ofInt_natCast, BitVec.toNat_ofNat, BitVec.ofInt_natCast, BitVec.toNat_ofNat, Nat.mod_eq_of_lt (by omega), Nat.mod_eq_of_lt (by omega), IntKind.wrap_i64]
  omega
theorem xor_turn_nat : ∀ k : Fin 8, ∀ s : Fin 256, s.val ^^^ 2 ^ k.val = (if s.val / 2 ^ k.val % 2 = 1 then s.val - 2 ^ k.val else s.val + 2 ^ k.val) ∧ (s.val / 2 ^ k.val % 2 = 1 → 2 ^ k.val ≤ s.val) := by decide +kernel
theorem xor_turn (s : Int) (k : Nat) (h0 : 0 ≤ s) (h1 : s < 256) (hk : k < 8) : bits BinOp.xor IntKind.i64 s ((2 ^ k : Nat) : Int) = turnI s k := by
  obtain ⟨n, rfl⟩ := Int.eq_ofNat_of_zero_le h0
  have h2k : 2 ^ k < 256 := Nat.lt_of_lt_of_le (Nat.pow_lt_pow_right (by decide) hk) (by decide)
  rw [xor_nat _ _ (by omega) (by omega)]
  have := xor_turn_nat ⟨k, hk⟩ ⟨n, by omega⟩
  simp only at this
  rw [this.1]
  unfold turnI bitI
  have e : ((n : Int) / 2 ^ k % 2 = 1) ↔ (n / 2 ^ k % 2 = 1) := by
    have : ((n : Int) / 2 ^ k % 2) = ((n / 2 ^ k % 2 : Nat) : Int) := by push_cast; rfl
    rw [this]; omega
  by_cases h : n / 2 ^ k % 2 = 1
  · rw [if_pos h, if_pos (e.2 h)]
    rw [Int.ofNat_sub (this.2 h)]
    push_cast
    rfl
  · rw [if_neg h, if_neg (fun hh => h (e.1 hh))]
    push_cast
    rfl
theorem xor_turn' (s k v : Int) (h0 : 0 ≤ s) (h1 : s < 256) (hk : 0 ≤ k) (hk8 : k < 8) (hv : v = 2 ^ k.toNat) : bits BinOp.xor IntKind.i64 s v = turnI s k.toNat := by
  rw [← xor_turn s k.toNat h0 h1 (by omega), hv]
  push_cast
  rfl
/-- what holds of the numbers 0 .. 255 -/
theorem all256 {P : Int → Prop} (h : ∀ n : Fin 256, P (n.val : Int)) : ∀ x : Int, 0 ≤ x → x < 256 → P x := by
  intro x h0 h1
  obtain ⟨n, rfl⟩ := Int.eq_ofNat_of_zero_le h0
  exact h ⟨n, by omega⟩
/-- how many of the first n bits are 1 -/
def popI (s : Int) : Nat → Int
  | 0 => 0
  | n + 1 => popI s n + bitI s n
/-- how many places have a pebble, or -1 -/
def pebI (p s : Int) : Int := if pvB p s = true then popI s p.toNat else -1
theorem bitI_01 (s : Int) (k : Nat) : 0 ≤ bitI s k ∧ bitI s k ≤ 1 := by unfold bitI; omega
theorem popI_bd (s : Int) (n : Nat) : 0 ≤ popI s n ∧ popI s n ≤ n := by
  induction n with
  | zero => simp [popI]
  | succ n ih => have := bitI_01 s n; simp only [popI]; omega
theorem bitI_high {s : Int} {p k : Nat} (h0 : 0 ≤ s) (h1 : s < 2 ^ p) (hk : p ≤ k) : bitI s k = 0 := by
  unfold bitI
  have : (2 : Int) ^ p ≤ 2 ^ k := by
    obtain ⟨d, rfl⟩ := Nat.exists_eq_add_of_le hk
    rw [Int.pow_add]
    have h2 : (0 : Int) < 2 ^ d := Int.pow_pos (by decide)
    have h3 : (0 : Int) < 2 ^ p := Int.pow_pos (by decide)
    have := Int.mul_le_mul_of_nonneg_left (show (1 : Int) ≤ 2 ^ d by omega) (show (0 : Int) ≤ 2 ^ p by omega)
    omega
  rw [Int.ediv_eq_zero_of_lt h0 (by omega)]
  rfl
theorem popI_high {s : Int} {p : Nat} (h0 : 0 ≤ s) (h1 : s < 2 ^ p) (d : Nat) : popI s (p + d) = popI s p := by
  induction d with
  | zero => rfl
  | succ d ih => rw [← Nat.add_assoc]; simp only [popI]; rw [ih, bitI_high h0 h1 (by omega)]; omega
theorem mm8 {k : Int} (h : 0 ≤ k) (h' : k < 8) : k = 0 ∨ k = 1 ∨ k = 2 ∨ k = 3 ∨ k = 4 ∨ k = 5 ∨ k = 6 ∨ k = 7 := by omega

end Go.Proofs.YtkpjlkahebeljaaDoor

/- Plain words of rings: sums, turned rings, shifted rings. -/
import Derived.Test.YtmbcolkhmleibaaPlRing
namespace Go.Proofs.Ytmbcolkhmleibaa
open Go.RowKit
set_option linter.unusedVariables false

/-- a ring in the other direction -/
def rflL (zs : List Int) : List Int := if rvB zs = true then zs.reverse else []
/-- two rings may be added -/
def pairB (a b : List Int) : Bool := rvB a && rvB b && (a.length == b.length)
def sumL (a b : List Int) : List Int := List.zipWith (fun x y => (x + y) % 2) a b
/-- the sum of two rings -/
def raL (a b : List Int) : List Int := if pairB a b = true then sumL a b else []
/-- the place of a cell -/
def plc (n b i : Nat) : Nat := (i + b) % n
/-- a list with its cells farther on -/
def rotL (zs : List Int) (b : Nat) : List Int := zs.drop (zs.length - b % zs.length) ++ zs.take (zs.length - b % zs.length)
/-- a ring with its cells farther on -/
def shL (zs : List Int) (by_ : Int) : List Int := if (rvB zs && inB by_ 0 12) = true then rotL zs by_.toNat else []

theorem rv_len {zs : List Int} (h : rvB zs = true) : 3 ≤ zs.length ∧ zs.length ≤ 12 := (rv_iff.1 h).1
theorem rfl_len (zs : List Int) : (rflL zs).length ≤ 12 := by
  unfold rflL; split
  · rename_i h; have := rv_len h; simp; omega
  · simp
theorem pair_iff {a b : List Int} : pairB a b = true ↔ rvB a = true ∧ rvB b = true ∧ a.length = b.length := by simp [pairB, and_assoc]
theorem sum_len {a b : List Int} (h : a.length = b.length) : (sumL a b).length = a.length := by simp [sumL, h]
theorem ra_len (a b : List Int) : (raL a b).length ≤ 12 := by
  unfold raL; split
  · rename_i h; obtain ⟨h0, h1, h2⟩ := pair_iff.1 h; rw [sum_len h2]; exact (rv_len h0).2
  · simp
theorem rot_len (zs : List Int) (b : Nat) : (rotL zs b).length = zs.length := by simp [rotL]
theorem sh_len (zs : List Int) (b : Int) : (shL zs b).length ≤ 12 := by
  unfold shL; split
  · rename_i h; simp at h; rw [rot_len]; exact (rv_len h.1).2
  · simp
theorem plc_eq {n i : Nat} (b : Nat) (h : i < n) : plc n b i = if i + b % n < n then i + b % n else i + b % n - n := by
  have hb : b % n < n := Nat.mod_lt _ (by omega)
  unfold plc
  rw [Nat.add_mod, Nat.mod_eq_of_lt h]
  split
  · rename_i h'; exact Nat.mod_eq_of_lt h'
  · rename_i h'
    rw [Nat.mod_eq_sub_mod (by omega)]
    exact Nat.mod_eq_of_lt (by omega)
theorem plc_lt {n i : Nat} (b : Nat) (h : 0 < n) : plc n b i < n := Nat.mod_lt _ h
theorem plc_inj {n i j b : Nat} (hi : i < n) (hj : j < n) (h : plc n b i = plc n b j) : i = j := by
  rw [plc_eq b hi, plc_eq b hj] at h
  have hb : b % n < n := Nat.mod_lt _ (by omega)
  split at h <;> split at h <;> omega
theorem rot_at {zs : List Int} {b i : Nat} (h : i < zs.length) : (rotL zs b)[plc zs.length b i]? = zs[i]? := by
  have hb : b % zs.length < zs.length := Nat.mod_lt _ (by omega)
  rw [plc_eq b h, rotL]
  split
  · rename_i h'
    rw [List.getElem?_append_right (by simp; omega), List.getElem?_take, if_pos (by simp; omega)]
    congr 1; simp; omega
  · rename_i h'
    rw [List.getElem?_append_left (by simp; omega), List.getElem?_drop]
    congr 1; omega
theorem plc_all {n b p : Nat} (h : p < n) : ∃ i, i < n ∧ plc n b i = p := by
  have hb : b % n < n := Nat.mod_lt _ (by omega)
  by_cases hp : b % n ≤ p
  · exact ⟨p - b % n, by omega, by rw [plc_eq b (by omega), if_pos (by omega)]; omega⟩
  · exact ⟨p + n - b % n, by omega, by rw [plc_eq b (by omega), if_neg (by omega)]; omega⟩
/-- what the loop has laid -/
def Laid (zs : List Int) (b k : Nat) (out : List Int) : Prop := out.length = zs.length ∧ ∀ i, i < k → out[plc zs.length b i]? = zs[i]?
theorem Laid.zero (zs : List Int) (b : Nat) : Laid zs b 0 (List.replicate zs.length 0) := ⟨by simp, fun i hi => absurd hi (by omega)⟩
theorem Laid.succ {zs : List Int} {b k : Nat} {out : List Int} {x : Int} (h : Laid zs b k out) (hx : zs[k]? = some x) : Laid zs b (k + 1) (out.set (plc zs.length b k) x) := by
  have hk := (List.getElem?_eq_some_iff.1 hx).1
  refine ⟨by simpa using h.1, fun i hi => ?_⟩
  by_cases e : i = k
  · subst e
    rw [List.getElem?_set_self (by rw [h.1]; exact plc_lt b (by omega)), hx]
  · rw [List.getElem?_set_ne (fun h' => e (plc_inj hk (by omega) h').symm)]
    exact h.2 i (by omega)
theorem Laid.done {zs : List Int} {b : Nat} {out : List Int} (h : Laid zs b zs.length out) : out = rotL zs b := by
  apply List.ext_getElem?
  intro p
  by_cases hp : p < zs.length
  · obtain ⟨i, hi, rfl⟩ := plc_all (b := b) hp
    rw [h.2 i hi, rot_at hi]
  · rw [List.getElem?_eq_none (by rw [h.1]; omega), List.getElem?_eq_none (by rw [rot_len]; omega)]
theorem zip_take_succ {a b : List Int} {k : Nat} {x y : Int} (hx : a[k]? = some x) (hy : b[k]? = some y) : (sumL a b).take (k + 1) = (sumL a b).take k ++ [(x + y) % 2] := by
  have e : (sumL a b)[k]? = some ((x + y) % 2) := by simp [sumL, List.getElem?_zipWith, hx, hy]
  rw [List.take_add_one, e]; rfl
end Go.Proofs.Ytmbcolkhmleibaa

/- Plain words of texts of rings. -/
import Derived.Test.YtfdgoddcpfgfjaaPlRing
namespace Go.Proofs.Ytfdgoddcpfgfjaa
open Go.RowKit
set_option linter.unusedVariables false

/-- what the bytes of a text are less 48 -/
def rdL (l : List UInt8) : List Int := l.map fun b => (b.toNat : Int) - 48
theorem rd_len (l : List UInt8) : (rdL l).length = l.length := by simp [rdL]
theorem rd_snoc (l : List UInt8) (b : UInt8) : rdL (l ++ [b]) = rdL l ++ [(b.toNat : Int) - 48] := by simp [rdL]
/-- the digits of numbers -/
def dgL (zs : List Int) : List UInt8 := zs.map fun z => UInt8.ofNat (z + 48).toNat
theorem dg_len (zs : List Int) : (dgL zs).length = zs.length := by simp [dgL]
theorem dg_rd (l : List UInt8) : dgL (rdL l) = l := by
  induction l with
  | nil => rfl
  | cons b r ih =>
    simp only [dgL, rdL, List.map_cons, List.map_map] at ih ⊢
    congr 1
    · rw [show ((b.toNat : Int) - 48 + 48) = (b.toNat : Int) by omega, Int.toNat_natCast]
      exact UInt8.ofNat_toNat
theorem dg_take {zs : List Int} {k : Nat} {x : Int} (h : zs[k]? = some x) : dgL (zs.take (k + 1)) = dgL (zs.take k) ++ [UInt8.ofNat (x + 48).toNat] := by
  rw [List.take_add_one, h]; simp [dgL]
/-- the ring with a text, and whether there is one -/
def rrB (l : List UInt8) : Bool := rvB (rdL l)
def rrL (l : List UInt8) : List Int := if rrB l = true then rdL l else []
theorem rr_t {l : List UInt8} (h : rrB l = true) : rrL l = rdL l := by rw [rrL, if_pos h]
theorem rr_f {l : List UInt8} (h : rrB l = false) : rrL l = [] := by rw [rrL, h]; rfl
theorem rr_len (l : List UInt8) : (rrL l).length ≤ l.length := by
  unfold rrL; split
  · rw [rd_len]; exact Nat.le_refl _
  · simp
/-- the text of a ring -/
def rtL (zs : List Int) : List UInt8 := if rvB zs = true then dgL zs else []
theorem rt_t {zs : List Int} (h : rvB zs = true) : rtL zs = dgL zs := by rw [rtL, if_pos h]
theorem rt_f {zs : List Int} (h : rvB zs = false) : rtL zs = [] := by rw [rtL, h]; rfl
theorem rr_empty : rrB [] = false := by decide
theorem take_snoc (s : ByteArray) (k : Nat) (h : k < s.size) : s.data.toList.take (k + 1) = s.data.toList.take k ++ [s[k]] := by
  rw [List.take_succ_eq_append_getElem (by simpa using h)]; rfl
end Go.Proofs.Ytfdgoddcpfgfjaa

/- Plain laws of moves on sets of places. -/
import Derived.Test.YtmppiifkajmbgaaPl
namespace Go.Proofs.Ytmppiifkajmbgaa
open Go.RowKit
set_option linter.unusedVariables false

theorem turn_fin : ∀ k : Fin 8, ∀ s : Fin 256, turnI (turnI (s.val : Int) k.val) k.val = s.val ∧ 0 ≤ turnI (s.val : Int) k.val ∧ turnI (s.val : Int) k.val < 256 ∧
    (∀ p : Fin 9, k.val < p.val → (s.val : Int) < 2 ^ p.val → turnI (s.val : Int) k.val < 2 ^ p.val) ∧ (∀ j : Fin 8, j ≠ k → bitI (turnI (s.val : Int) k.val) j.val = bitI (s.val : Int) j.val) ∧
    (popI (turnI (s.val : Int) k.val) 8 = popI (s.val : Int) 8 - 1 ∨ popI (turnI (s.val : Int) k.val) 8 = popI (s.val : Int) 8 + 1) := by decide +kernel

theorem pebI_8 {p s : Int} (h : pvB p s = true) : pebI p s = popI s 8 := by
  obtain ⟨h1, h2, h3, h4⟩ := pvB_bd h
  rw [pebI, if_pos h]
  have := (pvB_iff.1 h).2.2.2
  have e : p.toNat + (8 - p.toNat) = 8 := by omega
  rw [← e, popI_high h3 this]
theorem pebI_bd {p s : Int} (h : pvB p s = true) : 0 ≤ pebI p s ∧ pebI p s ≤ p := by
  rw [pebI, if_pos h]
  have := popI_bd s p.toNat
  have := pvB_bd h
  omega
theorem pebI_no {p s : Int} (h : ¬ pvB p s = true) : pebI p s = -1 := by rw [pebI, if_neg h]

theorem md_no {p s k : Int} (h : ¬ mmB p s k = true) : mdI p s k = -1 := by rw [mdI, if_neg h]
/-- a move that may be done leads to a valid set, from which the same move leads back -/
theorem md_yes {p s k : Int} (h : mmB p s k = true) : pvB p (mdI p s k) = true ∧ mmB p (mdI p s k) k = true ∧ mdI p (mdI p s k) k = s ∧ 0 ≤ mdI p s k ∧
    (pebI p (mdI p s k) = pebI p s - 1 ∨ pebI p (mdI p s k) = pebI p s + 1) := by
  obtain ⟨hv, hk, hk', hb⟩ := mmB_iff.1 h
  obtain ⟨h1, h2, h3, h4⟩ := pvB_bd hv
  have e : mdI p s k = turnI s k.toNat := by rw [mdI, if_pos h]
  obtain ⟨n, rfl⟩ := Int.eq_ofNat_of_zero_le h3
  obtain ⟨j, rfl⟩ := Int.eq_ofNat_of_zero_le hk
  obtain ⟨q, rfl⟩ := Int.eq_ofNat_of_zero_le (show 0 ≤ p by omega)
  obtain ⟨t1, t2, t3, t4, t5, t6⟩ := turn_fin ⟨j, by omega⟩ ⟨n, by omega⟩
  simp only at t1 t2 t3 t4 t5 t6
  rw [Int.toNat_natCast] at e
  have hv' : pvB q (mdI q n j) = true := by
    rw [e]
    refine pvB_iff.2 ⟨h1, h2, t2, ?_⟩
    have := (pvB_iff.1 hv).2.2.2
    rw [Int.toNat_natCast] at this ⊢
    exact t4 ⟨q, by omega⟩ (by simp only; omega) this
  have hm : mmB q (mdI q n j) j = true := by
    refine mmB_iff.2 ⟨hv', hk, hk', ?_⟩
    rcases hb with h0 | hb
    · exact .inl h0
    · by_cases h0 : j = 0
      · exact .inl (by omega)
      · right
        have e1 : ((j : Int) - 1).toNat = j - 1 := by omega
        rw [e1] at hb ⊢
        rw [e, ← hb]
        exact t5 ⟨j - 1, by omega⟩ (by intro h; simp [Fin.ext_iff] at h; omega)
  refine ⟨hv', hm, ?_, by rw [e]; exact t2, ?_⟩
  · conv => lhs; rw [mdI, if_pos hm]
    rw [Int.toNat_natCast, e]
    exact t1
  · rw [pebI_8 hv, pebI_8 hv', e]
    exact t6
theorem md_neg {p s k : Int} (h : mdI p s k < 0) : ¬ mmB p s k = true := fun hm => by have := (md_yes hm).2.2.2.1; omega
theorem mm_zero {p s : Int} : mmB p s 0 = pvB p s := by
  rw [Bool.eq_iff_iff, mmB_iff]
  constructor
  · exact fun h => h.1
  · intro h
    have := pvB_bd h
    exact ⟨h, by omega, by omega, .inl rfl⟩
end Go.Proofs.Ytmppiifkajmbgaa

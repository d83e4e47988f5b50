/- Plain laws of sets that are reached. -/
import Derived.Test.YtmppiifkajmbgaaPlFar
import Derived.Test.YtmppiifkajmbgaaPlPeb
namespace Go.Proofs.Ytmppiifkajmbgaa
open Go.RowKit
set_option linter.unusedVariables false

theorem sw_tab {p b : Nat} (h1 : 1 ≤ p) (h8 : p ≤ 8) (hb : b ≤ 4) : swL (p : Int) (b : Int) = tab p b := by
  rw [swL, if_pos (by rw [inB_t (by omega) (by omega), inB_t (by omega) (by omega)]; rfl)]
  exact bfs_tab h1 h8 hb
theorem sw_none {p b : Int} (h : ¬ (1 ≤ p ∧ p ≤ 8 ∧ 0 ≤ b ∧ b ≤ 4)) : swL p b = [] := by
  rw [swL, if_neg]
  intro hh
  simp only [Bool.and_eq_true] at hh
  have := inB_iff.1 hh.1
  have := inB_iff.1 hh.2
  omega
theorem lm_tab {p b : Nat} (h1 : 1 ≤ p) (h8 : p ≤ 8) (hb : b ≤ 4) : lmI (p : Int) (b : Int) = (tab p b).getD (2 ^ (p - 1)) 0 := by
  rw [lmI, if_pos (by rw [inB_t (by omega) (by omega), inB_t (by omega) (by omega)]; rfl), bfs_tab h1 h8 hb, Int.toNat_natCast]
theorem lm_none {p b : Int} (h : ¬ (1 ≤ p ∧ p ≤ 8 ∧ 0 ≤ b ∧ b ≤ 4)) : lmI p b = -1 := by
  rw [lmI, if_neg]
  intro hh
  simp only [Bool.and_eq_true] at hh
  have := inB_iff.1 hh.1
  have := inB_iff.1 hh.2
  omega
theorem lm_law {p b : Int} (hp0 : 1 ≤ p) (hp1 : p ≤ 8) (hb0 : 0 ≤ b) (hb1 : b ≤ 4) :
    (lmI p b = -1 ∧ fwI (b - 1) < p - 1) ∨ (0 ≤ lmI p b ∧ lmI p b % 2 = 1 ∧ p - 1 ≤ fwI (b - 1) ∧ ((b = 4 ∧ lmI p (b + 1) = -1) ∨ (b ≠ 4 ∧ 0 ≤ lmI p (b + 1) ∧ lmI p (b + 1) ≤ lmI p b)) ∧ 2 * p - 1 ≤ lmI p b) := by
  obtain ⟨m, rfl⟩ : ∃ m : Nat, p = (m : Int) := ⟨p.toNat, by omega⟩
  obtain ⟨n, rfl⟩ : ∃ n : Nat, b = (n : Int) := ⟨b.toNat, by omega⟩
  have h := lm_ok ⟨m, by omega⟩ ⟨n, by omega⟩ (by simp only; omega)
  have e := lm_tab (p := m) (b := n) (by omega) (by omega) (by omega)
  simp only [lmOk] at h
  rw [← e] at h
  by_cases hn : lmI (m : Int) (n : Int) < 0
  · rw [if_pos hn] at h
    simp only [Bool.and_eq_true, beq_iff_eq, decide_eq_true_eq] at h
    exact .inl h
  · rw [if_neg hn] at h
    simp only [Bool.and_eq_true, Bool.or_eq_true, beq_iff_eq, decide_eq_true_eq] at h
    obtain ⟨⟨⟨h1, h2⟩, h3⟩, h4⟩ := h
    refine .inr ⟨by omega, h2, by omega, ?_, h4⟩
    by_cases hb4 : n = 4
    · exact .inl ⟨by omega, lm_none (by omega)⟩
    · have e2 := lm_tab (p := m) (b := n + 1) (by omega) (by omega) (by omega)
      rcases h3 with h3 | h3
      · exact absurd h3 hb4
      · rw [← e2] at h3
        refine .inr ⟨by omega, ?_, ?_⟩
        · have := h3.1; push_cast at this; exact this
        · have := h3.2; push_cast at this; exact this
/-- each set: what the law says of it -/
theorem sw_law {p b : Int} (hp0 : 1 ≤ p) (hp1 : p ≤ 8) (hb0 : 0 ≤ b) (hb1 : b ≤ 4) {s : Nat} {v : Int} (hv : (swL p b)[s]? = some v) :
    -1 ≤ v ∧ v ≤ 1000 ∧ (v < 0 ∨ (0 ≤ v ∧ pebI p (s : Int) ≤ b ∧ 0 ≤ pebI p (s : Int) ∧ v % 2 = pebI p (s : Int) % 2)) ∧ (b = 4 ∨ ∃ m, (swL p (b + 1))[s]? = some m ∧ -1 ≤ m ∧ m ≤ 1000 ∧ (0 ≤ v → 0 ≤ m ∧ m ≤ v)) := by
  obtain ⟨k, rfl⟩ : ∃ m : Nat, p = (m : Int) := ⟨p.toNat, by omega⟩
  obtain ⟨n, rfl⟩ : ∃ n : Nat, b = (n : Int) := ⟨b.toNat, by omega⟩
  have hk1 : 1 ≤ k := by omega
  have hk8 : k ≤ 8 := by omega
  have h := sw_ok ⟨k, by omega⟩ ⟨n, by omega⟩ (by simp only; omega)
  rw [sw_tab (by omega) (by omega) (by omega)] at hv
  have hlen := len_tab ⟨k, by omega⟩ ⟨n, by omega⟩ (by simp only; omega)
  have hs : s < 2 ^ k := by rw [← hlen]; exact (List.getElem?_eq_some_iff.1 hv).1
  have hpv : pvB (k : Int) (s : Int) = true := by
    refine pvB_iff.2 ⟨by omega, by omega, by omega, ?_⟩
    rw [Int.toNat_natCast]
    have : ((s : Nat) : Int) < ((2 ^ k : Nat) : Int) := Int.ofNat_lt.2 hs
    push_cast at this; exact this
  have hpb : pebI (k : Int) (s : Int) = popI (s : Int) k := by rw [pebI, if_pos hpv, Int.toNat_natCast]
  have hpn := (pebI_bd hpv).1
  simp only [Bool.and_eq_true, swOk, List.all_eq_true, List.mem_range] at h
  have h2 := h.1 s hs
  have hvv : (tab k n).getD s 0 = v := by rw [List.getD_eq_getElem?_getD, hv]; rfl
  rw [hvv, ← hpb] at h2
  simp only [Bool.and_eq_true, Bool.or_eq_true, beq_iff_eq, decide_eq_true_eq] at h2
  obtain ⟨⟨⟨⟨a1, a2⟩, a3⟩, a4⟩, a5⟩ := h2
  refine ⟨a1, a2, ?_, ?_⟩
  · rcases a5 with a5 | a5
    · exact .inl a5
    · by_cases hn : v < 0
      · exact .inl hn
      · exact .inr ⟨by omega, a5.1.1, hpn, a5.1.2⟩
  · by_cases hb4 : n = 4
    · exact .inl (by omega)
    · have hlen2 := len_tab ⟨k, by omega⟩ ⟨n + 1, by omega⟩ (by simp only; omega)
      have hs2 : s < (tab k (n + 1)).length := by rw [hlen2]; exact hs
      have e : ((n : Int) + 1) = ((n + 1 : Nat) : Int) := by push_cast; rfl
      have hm : (tab k (n + 1))[s]? = some ((tab k (n + 1)).getD s 0) := by rw [List.getElem?_eq_getElem hs2]; simp [List.getD, hs2]
      refine .inr ⟨(tab k (n + 1)).getD s 0, by rw [e, sw_tab (by omega) (by omega) (by omega)]; exact hm, a3, a4, fun h0 => ?_⟩
      rcases a5 with a5 | a5
      · omega
      · rcases a5.2 with a5 | a5
        · exact absurd a5 hb4
        · exact a5
theorem sw_zero {p b : Int} (hp0 : 1 ≤ p) (hp1 : p ≤ 8) (hb0 : 0 ≤ b) (hb1 : b ≤ 4) : (swL p b).length = 2 ^ p.toNat ∧ (swL p b)[0]? = some 0 := by
  obtain ⟨k, rfl⟩ : ∃ m : Nat, p = (m : Int) := ⟨p.toNat, by omega⟩
  obtain ⟨n, rfl⟩ : ∃ n : Nat, b = (n : Int) := ⟨b.toNat, by omega⟩
  have h := sw_ok ⟨k, by omega⟩ ⟨n, by omega⟩ (by simp only; omega)
  have hlen := len_tab ⟨k, by omega⟩ ⟨n, by omega⟩ (by simp only; omega)
  rw [sw_tab (by omega) (by omega) (by omega), Int.toNat_natCast]
  refine ⟨hlen, ?_⟩
  have h0 : 0 < (tab k n).length := by rw [hlen]; exact Nat.pos_of_ne_zero (by simp)
  simp only [Bool.and_eq_true, beq_iff_eq] at h
  have h2 := h.2
  rw [List.getD_eq_getElem?_getD, List.getElem?_eq_getElem h0] at h2
  rw [List.getElem?_eq_getElem h0]
  simpa using h2
theorem pf_t : pfI 0 = -1 ∧ pfI 1 = 1 ∧ pfI 2 = 2 ∧ pfI 3 = 2 ∧ pfI 4 = 3 ∧ pfI 5 = 3 ∧ pfI 6 = 3 ∧ pfI 7 = 3 ∧ pfI 8 = 4 ∧ pfI 9 = -1 ∧ pfI 10 = -1 ∧ pfI 11 = -1 ∧ pfI 13 = -1 ∧ pfI 15 = -1 ∧ pfI 17 = -1 := by decide
end Go.Proofs.Ytmppiifkajmbgaa

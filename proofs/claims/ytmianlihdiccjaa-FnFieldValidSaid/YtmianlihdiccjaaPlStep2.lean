/- Plain: steps keep the number of balls; fields that are still; periods; steps of moved fields. -/
import Derived.Test.YtmianlihdiccjaaPlStep
namespace Go.Proofs.Ytmianlihdiccjaa
open Go.RowKit
set_option linter.unusedVariables false

theorem cnt_set (l : List Bool) : ∀ (i : Nat) (v : Bool), i < l.length → cnt (l.set i v) + b2n (l.getD i false) = cnt l + b2n v := by
  induction l with
  | nil => intro i v h; simp at h
  | cons b r ih =>
    intro i v h
    cases i with
    | zero =>
      simp only [List.set_cons_zero, List.getD_cons_zero]
      cases b <;> cases v <;> simp [cnt, b2n]
    | succ i =>
      have := ih i v (by simpa using h)
      simp only [List.set_cons_succ, List.getD_cons_succ]
      cases b <;> simp [cnt] at this ⊢ <;> omega
theorem getD_set_ne {l : List Bool} {i j : Nat} {v : Bool} (h : i ≠ j) : (l.set i v).getD j false = l.getD j false := by
  simp only [List.getD_eq_getElem?_getD]; rw [List.getElem?_set_ne h]
theorem new4_sum : ∀ a b c d : Bool, b2n (new4 a b c d) + b2n (new4 b a d c) + b2n (new4 c d a b) + b2n (new4 d c b a) = b2n a + b2n b + b2n c + b2n d := by decide
theorem cnt_st_go {s h : Nat} {bs : List Bool} (hs : s = 2 ∨ s = 4 ∨ s = 6 ∨ s = 8) (hh : h < 2) (hl : bs.length = s * s) : ∀ Q, Q ≤ s / 2 * (s / 2) → ∃ out, StS s h bs Q out ∧ cnt out = cnt bs := by
  intro Q
  induction Q with
  | zero => intro _; exact ⟨bs, StS.zero hl, rfl⟩
  | succ Q ih =>
    intro hQ
    obtain ⟨out, ho, hc⟩ := ih (by omega)
    have hH : 0 < s / 2 := by omega
    obtain ⟨p, hp⟩ : ∃ p, Q % (s / 2) = p := ⟨_, rfl⟩
    obtain ⟨q, hq⟩ : ∃ q, Q / (s / 2) = q := ⟨_, rfl⟩
    have hpl : p < s / 2 := by rw [← hp]; exact Nat.mod_lt _ hH
    have hql : q < s / 2 := by rw [← hq]; exact Nat.div_lt_of_lt_mul (by omega)
    have hQe : Q = q * (s / 2) + p := by
      have := Nat.div_add_mod Q (s / 2)
      rw [hp, hq, Nat.mul_comm] at this
      exact this.symm
    rw [hQe] at ho
    refine ⟨_, by rw [hQe]; exact StS.succ hs hh hpl hql ho, ?_⟩
    obtain ⟨⟨l0, l1, l2, l3, n1, n2, n3, n4, n5, n6⟩, hst, hi4⟩ := sq_facts hs hh hpl hql
    obtain ⟨e0, e1, e2, e3⟩ := hst bs
    have hv : ∀ i, i < s * s → sqn s h i = q * (s / 2) + p → out.getD i false = bs.getD i false := fun i hi he => by
      have := ho.2 i hi
      rw [he, if_neg (Nat.lt_irrefl _)] at this
      exact this
    have v0 := hv _ l0 ((hi4 _ l0).2 (.inl rfl))
    have v1 := hv _ l1 ((hi4 _ l1).2 (.inr (.inl rfl)))
    have v2 := hv _ l2 ((hi4 _ l2).2 (.inr (.inr (.inl rfl))))
    have v3 := hv _ l3 ((hi4 _ l3).2 (.inr (.inr (.inr rfl))))
    have L := ho.1
    have k0 := cnt_set out (c0 s h p q) (stAt s h bs (c0 s h p q)) (by rw [L]; exact l0)
    have k1 := cnt_set (out.set (c0 s h p q) (stAt s h bs (c0 s h p q))) (c1 s h p q) (stAt s h bs (c1 s h p q)) (by simpa [L] using l1)
    have k2 := cnt_set ((out.set (c0 s h p q) (stAt s h bs (c0 s h p q))).set (c1 s h p q) (stAt s h bs (c1 s h p q))) (c2 s h p q) (stAt s h bs (c2 s h p q)) (by simpa [L] using l2)
    have k3 := cnt_set (((out.set (c0 s h p q) (stAt s h bs (c0 s h p q))).set (c1 s h p q) (stAt s h bs (c1 s h p q))).set (c2 s h p q) (stAt s h bs (c2 s h p q))) (c3 s h p q) (stAt s h bs (c3 s h p q)) (by simpa [L] using l3)
    rw [v0] at k0
    rw [getD_set_ne n1, v1] at k1
    rw [getD_set_ne n4, getD_set_ne n2, v2] at k2
    rw [getD_set_ne n6, getD_set_ne n5, getD_set_ne n3, v3] at k3
    have hsum := new4_sum (bs.getD (c0 s h p q) false) (bs.getD (c1 s h p q) false) (bs.getD (c2 s h p q) false) (bs.getD (c3 s h p q) false)
    rw [← e0, ← e1, ← e2, ← e3] at hsum
    omega
theorem cnt_st {s h : Nat} {bs : List Bool} (hs : s = 2 ∨ s = 4 ∨ s = 6 ∨ s = 8) (hh : h < 2) (hl : bs.length = s * s) : cnt (stL s h bs) = cnt bs := by
  obtain ⟨out, ho, hc⟩ := cnt_st_go hs hh hl _ (Nat.le_refl _)
  rw [← ho.done hs hh rfl, hc]
/-- the way of the squares -/
def shN (h : Bool) : Nat := if h = true then 1 else 0
theorem shN_lt (h : Bool) : shN h < 2 := by cases h <;> decide
/-- all balls of a field behind a step -/
def fsL (s : Int) (h : Bool) (zs : List Bool) : List Bool := stL s.toNat (shN h) zs
theorem fs_len {s : Int} {h : Bool} {zs : List Bool} (hv : fvB s zs = true) : (fsL s h zs).length = zs.length := by
  have h4 := (fv_iff.1 hv).2.2.2.1
  unfold fsL
  rw [st_len]
  rcases fv_s hv with rfl | rfl | rfl | rfl <;> simp <;> omega
theorem fv_nat {s : Int} {zs : List Bool} (hv : fvB s zs = true) : (s.toNat = 2 ∨ s.toNat = 4 ∨ s.toNat = 6 ∨ s.toNat = 8) ∧ zs.length = s.toNat * s.toNat := by
  have h4 := (fv_iff.1 hv).2.2.2.1
  rcases fv_s hv with rfl | rfl | rfl | rfl <;> simp <;> omega
theorem fs_valid {s : Int} {h : Bool} {zs : List Bool} (hv : fvB s zs = true) : fvB s (fsL s h zs) = true := by
  have h1 := fv_iff.1 hv
  have h2 := fv_nat hv
  refine fv_iff.2 ⟨h1.1, h1.2.1, h1.2.2.1, by rw [fs_len hv]; exact h1.2.2.2.1, ?_⟩
  unfold fsL
  rw [cnt_st h2.1 (shN_lt h) h2.2]
  exact h1.2.2.2.2
/-- no ball moves in two steps -/
def stillB (s : Int) (h : Bool) (zs : List Bool) : Bool := fvB s zs && eqB (fsL s h zs) zs && eqB (fsL s (!h) (fsL s h zs)) zs
theorem still_t {s : Int} {h : Bool} {zs : List Bool} (hv : fvB s zs = true) : stillB s h zs = (eqB (fsL s h zs) zs && eqB (fsL s (!h) (fsL s h zs)) zs) := by simp [stillB, hv]
theorem still_f {s : Int} {h : Bool} {zs : List Bool} (hv : fvB s zs = false) : stillB s h zs = false := by simp [stillB, hv]
theorem sf_valid {s : Int} {xs ys : List Bool} {h : Bool} (hx : fvB s xs = true) (hy : fvB s ys = true) : sfB s xs h s ys h = eqB xs ys := by simp [sfB, hx, hy]
/-- a field behind k steps -/
def itF (s : Int) (zs : List Bool) (h : Bool) : Nat → List Bool × Bool
  | 0 => (zs, h)
  | k + 1 => (fsL s (itF s zs h k).2 (itF s zs h k).1, !(itF s zs h k).2)
theorem it_valid {s : Int} {zs : List Bool} {h : Bool} (hv : fvB s zs = true) (k : Nat) : fvB s (itF s zs h k).1 = true := by
  induction k with
  | zero => exact hv
  | succ k ih => exact fs_valid ih
/-- is it as before behind k steps? -/
def atB (s : Int) (zs : List Bool) (h : Bool) (k : Nat) : Bool := ((itF s zs h k).2 == h) && eqB (itF s zs h k).1 zs
theorem at_sf {s : Int} {zs : List Bool} {h : Bool} (hv : fvB s zs = true) (k : Nat) : sfB s (itF s zs h k).1 (itF s zs h k).2 s zs h = atB s zs h k := by simp [sfB, atB, hv, it_valid hv k]
theorem at_same {s : Int} {zs : List Bool} {h : Bool} (k : Nat) : ((s == s) && ((itF s zs h k).2 == h) && eqB (itF s zs h k).1 zs) = atB s zs h k := by simp [atB]
def perF (s : Int) (zs : List Bool) (h : Bool) : Nat → Nat → Int
  | 0, _ => -1
  | f + 1, k => if atB s zs h k = true then (k : Int) else perF s zs h f (k + 1)
/-- the period, or -1 -/
def perI (s : Int) (zs : List Bool) (h : Bool) : Int := if fvB s zs = true then perF s zs h 200 1 else -1
theorem per_t {s : Int} {zs : List Bool} {h : Bool} (hv : fvB s zs = true) : perI s zs h = perF s zs h 200 1 := by rw [perI, if_pos hv]
theorem per_f {s : Int} {zs : List Bool} {h : Bool} (hv : fvB s zs = false) : perI s zs h = -1 := by rw [perI, hv]; rfl
theorem perF_yes {s : Int} {zs : List Bool} {h : Bool} {f k : Nat} (ha : atB s zs h k = true) : perF s zs h (f + 1) k = k := by rw [perF, if_pos ha]
theorem perF_no {s : Int} {zs : List Bool} {h : Bool} {f k : Nat} (ha : atB s zs h k = false) : perF s zs h (f + 1) k = perF s zs h f (k + 1) := by rw [perF, ha]; rfl
/-! ### moved fields -/
theorem cnt_pm {f : Nat → Nat} {bs : List Bool} (hf : OneOne f bs.length) : ∀ k, k ≤ bs.length → cnt (pmT f bs k) = cnt (bs.take k) := by
  intro k
  induction k with
  | zero => intro _; simp only [pmT, List.take_zero]; rw [cnt_rep]; rfl
  | succ k ih =>
    intro hk
    have hl : k < bs.length := by omega
    have h0 := pm_new hf (k := k) (j := k) (by omega) hl (Nat.le_refl _)
    have h1 := cnt_set (pmT f bs k) (f k) (bs.getD k false) (by rw [pm_len]; exact hf.1 k hl)
    have h2 : (pmT f bs k).getD (f k) false = false := by rw [List.getD_eq_getElem?_getD, h0]; rfl
    rw [h2] at h1
    have hx : bs[k]? = some (bs.getD k false) := by rw [List.getD_eq_getElem?_getD, List.getElem?_eq_getElem hl]; rfl
    rw [cnt_succ hx, ← ih (by omega)]
    show cnt ((pmT f bs k).set (f k) (bs.getD k false)) = _
    simp only [b2n, Bool.false_eq_true, if_false, Nat.add_zero] at h1
    exact h1
theorem cnt_fm {s e n : Int} {zs : List Bool} (hv : fvB s zs = true) : cnt (fmL s e n zs) = cnt zs := by
  have h2 := fv_nat hv
  unfold fmL pmL
  rw [cnt_pm (by rw [h2.2]; exact move_one _ _ (by omega)) _ (Nat.le_refl _), List.take_length]
theorem fm_valid {s e n : Int} {zs : List Bool} (hv : fvB s zs = true) : fvB s (fmL s e n zs) = true := by
  have h1 := fv_iff.1 hv
  exact fv_iff.2 ⟨h1.1, h1.2.1, h1.2.2.1, by rw [show (fmL s e n zs).length = zs.length from pm_len _ _ _]; exact h1.2.2.2.1, by rw [cnt_fm hv]; exact h1.2.2.2.2⟩
theorem move_comm : ∀ s ∈ [2, 4, 6, 8], ∀ h ∈ [0, 1], ∀ e ∈ [0, 2, 4, 6, 8], ∀ n ∈ [0, 2, 4, 6, 8], (List.range (s * s)).all (fun i => decide (hCell s h (moveP s e n i) = moveP s e n (hCell s h i) ∧ vCell s h (moveP s e n i) = moveP s e n (vCell s h i) ∧ dCell s h (moveP s e n i) = moveP s e n (dCell s h i) ∧ moveP s e n (moveP s (8 * s - e) (8 * s - n) i) = i ∧ moveP s (8 * s - e) (8 * s - n) i < s * s ∧ hCell s h i < s * s ∧ vCell s h i < s * s ∧ dCell s h i < s * s)) = true := by decide +kernel
theorem move_side : ∀ s ∈ [2, 4, 6, 8], (List.range (s * s)).all (fun i => decide (moveP s s 0 i = i)) = true := by decide +kernel
theorem even8 {e : Int} (h0 : 0 ≤ e) (h8 : e ≤ 8) (h2 : e % 2 = 0) : e.toNat ∈ [0, 2, 4, 6, 8] := by
  have : e = 0 ∨ e = 2 ∨ e = 4 ∨ e = 6 ∨ e = 8 := by omega
  rcases this with rfl | rfl | rfl | rfl | rfl <;> decide
/-- the step of the moved field is the moved step -/
theorem st_move {s e n : Int} {h : Bool} {zs : List Bool} (hv : fvB s zs = true) (hm : moveOk e n = true) : fsL s h (fmL s e n zs) = fmL s e n (fsL s h zs) := by
  obtain ⟨hs, hl⟩ := fv_nat hv
  simp only [moveOk, Bool.and_eq_true, decide_eq_true_eq] at hm
  obtain ⟨⟨e0, e8, e2⟩, n0, n8, n2⟩ := hm
  have hc := move_comm s.toNat (by rcases hs with h | h | h | h <;> simp [h]) (shN h) (by cases h <;> decide) e.toNat (even8 e0 e8 e2) n.toNat (even8 n0 n8 n2)
  simp only [List.all_eq_true, List.mem_range, decide_eq_true_eq] at hc
  have hone := move_one (s := s.toNat) e.toNat n.toNat (by omega)
  have hfm : ∀ (ys : List Bool), ys.length = s.toNat * s.toNat → ∀ i, i < s.toNat * s.toNat → (fmL s e n ys).getD (moveP s.toNat e.toNat n.toNat i) false = ys.getD i false := by
    intro ys hy i hi
    unfold fmL
    rw [List.getD_eq_getElem?_getD, pm_at (by rw [hy]; exact hone) (by rw [hy]; exact hi), List.getD_eq_getElem?_getD]
  have hl1 : (fsL s h zs).length = s.toNat * s.toNat := by unfold fsL; exact st_len _ _ _
  have hl2 : (fmL s e n (fsL s h zs)).length = s.toNat * s.toNat := by rw [show (fmL s e n (fsL s h zs)).length = (fsL s h zs).length from pm_len _ _ _]; exact hl1
  refine ext_getD (by rw [hl2]; unfold fsL; exact st_len _ _ _) fun j hj => ?_
  rw [hl2] at hj
  obtain ⟨_, _, _, hinv, hlt, _, _, _⟩ := hc j hj
  obtain ⟨i, hi⟩ : ∃ i, moveP s.toNat (8 * s.toNat - e.toNat) (8 * s.toNat - n.toNat) j = i := ⟨_, rfl⟩
  rw [hi] at hinv hlt
  obtain ⟨k1, k2, k3, _, _, b1, b2, b3⟩ := hc i hlt
  rw [← hinv, hfm _ hl1 i hlt]
  unfold fsL
  rw [st_getD (by rw [hinv]; exact hj), st_getD hlt]
  unfold stAt
  rw [k1, k2, k3, hfm zs hl i hlt, hfm zs hl _ b1, hfm zs hl _ b2, hfm zs hl _ b3]
/-- moved by the side it is as before -/
theorem fm_side {s : Int} {zs : List Bool} (hv : fvB s zs = true) : fmL s s 0 zs = zs := by
  obtain ⟨hs, hl⟩ := fv_nat hv
  have hc := move_side s.toNat (by rcases hs with h | h | h | h <;> simp [h])
  simp only [List.all_eq_true, List.mem_range, decide_eq_true_eq] at hc
  have hone := move_one (s := s.toNat) s.toNat 0 (by omega)
  have hL : (fmL s s 0 zs).length = zs.length := pm_len _ _ _
  refine ext_getD hL fun i hi => ?_
  have hi' : i < s.toNat * s.toNat := by rw [← hl]; exact hi
  have := pm_at (f := moveP s.toNat s.toNat 0) (bs := zs) (by rw [hl]; exact hone) hi
  rw [hc i hi'] at this
  show (pmL (moveP s.toNat s.toNat (0 : Int).toNat) zs).getD i false = _
  rw [List.getD_eq_getElem?_getD, List.getD_eq_getElem?_getD]
  rw [show (0 : Int).toNat = 0 from rfl, this]
end Go.Proofs.Ytmianlihdiccjaa

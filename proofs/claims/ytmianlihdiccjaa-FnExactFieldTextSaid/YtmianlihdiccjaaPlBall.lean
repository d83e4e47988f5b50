/- Plain words of fields with balls: valid ones, the same ones, cells that are elsewhere. -/
import Derived.Test.YtmianlihdiccjaaPl
namespace Go.Proofs.Ytmianlihdiccjaa
open Go.RowKit
set_option linter.unusedVariables false

/-- how many are true -/
def cnt (bs : List Bool) : Nat := bs.count true
theorem cnt_le (bs : List Bool) : cnt bs ≤ bs.length := List.count_le_length
theorem cnt_app (a b : List Bool) : cnt (a ++ b) = cnt a + cnt b := List.count_append
theorem cnt_succ {bs : List Bool} {k : Nat} {x : Bool} (h : bs[k]? = some x) : cnt (bs.take (k + 1)) = cnt (bs.take k) + (if x = true then 1 else 0) := by
  rw [List.take_add_one, h, cnt_app]
  cases x <;> rfl
theorem cnt_t {bs : List Bool} {k : Nat} (h : bs[k]? = some true) : cnt (bs.take (k + 1)) = cnt (bs.take k) + 1 := by rw [cnt_succ h]; rfl
theorem cnt_f {bs : List Bool} {k : Nat} (h : bs[k]? = some false) : cnt (bs.take (k + 1)) = cnt (bs.take k) := by rw [cnt_succ h]; rfl
theorem cnt_take_le (bs : List Bool) (k : Nat) : cnt (bs.take k) ≤ k := by
  have := cnt_le (bs.take k)
  have := List.length_take_le k bs
  omega
theorem cnt_rep (n : Nat) : cnt (List.replicate n false) = 0 := by simp [cnt, List.count_replicate]
/-- a field is valid -/
def fvB (s : Int) (bs : List Bool) : Bool := decide (2 ≤ s ∧ s ≤ 8 ∧ s % 2 = 0 ∧ (bs.length : Int) = s * s ∧ cnt bs ≤ 12)
theorem fv_iff {s : Int} {bs : List Bool} : fvB s bs = true ↔ 2 ≤ s ∧ s ≤ 8 ∧ s % 2 = 0 ∧ (bs.length : Int) = s * s ∧ cnt bs ≤ 12 := by simp [fvB]
theorem fv_s {s : Int} {bs : List Bool} (h : fvB s bs = true) : s = 2 ∨ s = 4 ∨ s = 6 ∨ s = 8 := by have := fv_iff.1 h; omega
theorem fv_len {s : Int} {bs : List Bool} (h : fvB s bs = true) : bs.length ≤ 64 := by
  have h4 := (fv_iff.1 h).2.2.2.1
  rcases fv_s h with rfl | rfl | rfl | rfl <;> omega
/-- how many balls, or -1 -/
def bmI (s : Int) (bs : List Bool) : Int := if fvB s bs = true then (cnt bs : Int) else -1
/-- two lists are equal -/
def eqB (xs ys : List Bool) : Bool := decide (xs = ys)
theorem eqB_self (xs : List Bool) : eqB xs xs = true := by simp [eqB]
theorem eqB_t {xs ys : List Bool} (h : xs = ys) : eqB xs ys = true := by simp [eqB, h]
theorem eqB_comm (xs ys : List Bool) : eqB xs ys = eqB ys xs := by unfold eqB; rw [Bool.eq_iff_iff]; simp only [decide_eq_true_eq]; exact eq_comm
/-- two valid fields are equal -/
def sfB (s : Int) (bs : List Bool) (h : Bool) (s' : Int) (bs' : List Bool) (h' : Bool) : Bool := fvB s bs && fvB s' bs' && (s == s') && (h == h') && eqB bs bs'
/-- cells that are elsewhere: cell k goes to cell f k -/
def pmT (f : Nat → Nat) (bs : List Bool) : Nat → List Bool
  | 0 => List.replicate bs.length false
  | k + 1 => (pmT f bs k).set (f k) (bs.getD k false)
def pmL (f : Nat → Nat) (bs : List Bool) : List Bool := pmT f bs bs.length
theorem pm_len (f : Nat → Nat) (bs : List Bool) (k : Nat) : (pmT f bs k).length = bs.length := by
  induction k with
  | zero => simp [pmT]
  | succ k ih => simp [pmT, ih]
/-- f is one to one below n -/
def OneOne (f : Nat → Nat) (n : Nat) : Prop := (∀ i, i < n → f i < n) ∧ ∀ i j, i < n → j < n → f i = f j → i = j
theorem pm_new {f : Nat → Nat} {bs : List Bool} (hf : OneOne f bs.length) {k j : Nat} (hk : k ≤ bs.length) (hj : j < bs.length) (hkj : k ≤ j) : (pmT f bs k)[f j]? = some false := by
  induction k with
  | zero => simp only [pmT]; rw [List.getElem?_replicate, if_pos (hf.1 j hj)]
  | succ k ih =>
    simp only [pmT]
    rw [List.getElem?_set_ne (fun e => by have := hf.2 k j (by omega) hj e; omega)]
    exact ih (by omega) (by omega)
theorem pm_old {f : Nat → Nat} {bs : List Bool} (hf : OneOne f bs.length) {k j : Nat} (hk : k ≤ bs.length) (hkj : j < k) : (pmT f bs k)[f j]? = bs[j]? := by
  induction k with
  | zero => omega
  | succ k ih =>
    simp only [pmT]
    by_cases e : j = k
    · subst e
      rw [List.getElem?_set_self (by rw [pm_len]; exact hf.1 j (by omega)), List.getElem?_eq_getElem (by omega)]
      simp [List.getD, show j < bs.length by omega]
    · rw [List.getElem?_set_ne (fun e2 => e (hf.2 k j (by omega) (by omega) e2).symm)]
      exact ih (by omega) (by omega)
/-- where there is no ball nothing turns -/
theorem pm_no {f : Nat → Nat} {bs : List Bool} (hf : OneOne f bs.length) {k : Nat} (hk : bs[k]? = some false) : pmT f bs (k + 1) = pmT f bs k := by
  have hl := (List.getElem?_eq_some_iff.1 hk).1
  have h0 := pm_new hf (k := k) (j := k) (by omega) hl (Nat.le_refl _)
  simp only [pmT]
  have hg : bs.getD k false = false := by rw [List.getD_eq_getElem?_getD, hk]; rfl
  rw [hg]
  have hl2 := (List.getElem?_eq_some_iff.1 h0).1
  have h1 : (pmT f bs k)[f k] = false := by rw [List.getElem?_eq_getElem hl2] at h0; exact Option.some.inj h0
  rw [← h1]
  exact List.set_getElem_self hl2
theorem pm_yes {f : Nat → Nat} {bs : List Bool} {k : Nat} {x : Bool} (hk : bs[k]? = some x) : pmT f bs (k + 1) = (pmT f bs k).set (f k) x := by
  simp only [pmT]; rw [List.getD_eq_getElem?_getD, hk]; rfl
theorem pm_at {f : Nat → Nat} {bs : List Bool} (hf : OneOne f bs.length) {j : Nat} (hj : j < bs.length) : (pmL f bs)[f j]? = bs[j]? := pm_old hf (Nat.le_refl _) hj
/-- where cell k of a field is when it is turned -/
def turnP (s : Nat) (k : Nat) : Nat := k % s * s + (s - 1 - k / s)
/-- .. and when it is moved -/
def moveP (s e n : Nat) (k : Nat) : Nat := (k / s + n) % s * s + (k % s + e) % s
theorem turn_one : ∀ s, s = 2 ∨ s = 4 ∨ s = 6 ∨ s = 8 → OneOne (turnP s) (s * s) := by
  have h : ∀ s, s ∈ [2, 4, 6, 8] → (∀ i, i < s * s → turnP s i < s * s) ∧ ∀ i, i < s * s → ∀ j, j < s * s → turnP s i = turnP s j → i = j := by decide +kernel
  intro s hs
  have := h s (by simp; omega)
  exact ⟨this.1, fun i j hi hj => this.2 i hi j hj⟩
theorem move_one {s : Nat} (e n : Nat) (hs : 0 < s) : OneOne (moveP s e n) (s * s) := by
  have hm : ∀ {a b c : Nat}, a < s → b < s → (a + c) % s = (b + c) % s → a = b := by
    intro a b c ha hb h
    have h1 : (a + c) % s = (a + c % s) % s := by rw [Nat.add_mod_mod]
    have h2 : (b + c) % s = (b + c % s) % s := by rw [Nat.add_mod_mod]
    rw [h1, h2] at h
    have hc : c % s < s := Nat.mod_lt _ hs
    have h3 : ∀ t, t < s → (t + c % s) % s = if t + c % s < s then t + c % s else t + c % s - s := by
      intro t ht
      split
      · rename_i h'; exact Nat.mod_eq_of_lt h'
      · rename_i h'; rw [Nat.mod_eq_sub_mod (by omega)]; exact Nat.mod_eq_of_lt (by omega)
    rw [h3 a ha, h3 b hb] at h
    split at h <;> split at h <;> omega
  have hx : ∀ i j, i % s = j % s → i / s = j / s → i = j := fun i j h1 h2 => by rw [← Nat.div_add_mod i s, ← Nat.div_add_mod j s, h1, h2]
  refine ⟨fun i hi => ?_, fun i j hi hj h => ?_⟩
  · have h1 : (i / s + n) % s < s := Nat.mod_lt _ hs
    have h2 : (i % s + e) % s < s := Nat.mod_lt _ hs
    unfold moveP
    calc (i / s + n) % s * s + (i % s + e) % s < (i / s + n) % s * s + s := by omega
      _ = ((i / s + n) % s + 1) * s := by rw [Nat.add_mul, Nat.one_mul]
      _ ≤ s * s := Nat.mul_le_mul_right _ h1
  · unfold moveP at h
    have h2 : (i % s + e) % s < s := Nat.mod_lt _ hs
    have h3 : (j % s + e) % s < s := Nat.mod_lt _ hs
    have h4 := congrArg (· % s) h
    have h5 := congrArg (· / s) h
    (try simp only at h4 h5)
    rw [Nat.mul_comm, Nat.mul_add_mod, Nat.mul_comm ((j / s + n) % s), Nat.mul_add_mod, Nat.mod_eq_of_lt h2, Nat.mod_eq_of_lt h3] at h4
    rw [Nat.mul_comm, Nat.mul_add_div hs, Nat.mul_comm ((j / s + n) % s), Nat.mul_add_div hs, Nat.div_eq_of_lt h2, Nat.div_eq_of_lt h3, Nat.add_zero, Nat.add_zero] at h5
    have hi' : i / s < s := Nat.div_lt_of_lt_mul hi
    have hj' : j / s < s := Nat.div_lt_of_lt_mul hj
    exact hx i j (hm (Nat.mod_lt _ hs) (Nat.mod_lt _ hs) h4) (hm hi' hj' h5)
/-- a field turned, moved -/
def ftL (s : Int) (bs : List Bool) : List Bool := pmL (turnP s.toNat) bs
def fmL (s e n : Int) (bs : List Bool) : List Bool := pmL (moveP s.toNat e.toNat n.toNat) bs
/-- how far a field may be moved -/
def moveOk (e n : Int) : Bool := decide (0 ≤ e ∧ e ≤ 8 ∧ e % 2 = 0) && decide (0 ≤ n ∧ n ≤ 8 ∧ n % 2 = 0)
end Go.Proofs.Ytmianlihdiccjaa

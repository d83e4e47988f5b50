/- Plain words of a field's step: squares of four cells, turned one by one. -/
import Derived.Test.YtmianlihdiccjaaPlBall
namespace Go.Proofs.Ytmianlihdiccjaa
open Go.RowKit
set_option linter.unusedVariables false

/-- the other column (or row) of a cell's square -/
def nbr (s h x : Nat) : Nat := if (x + h) % 2 = 0 then (x + 1) % s else (x + s - 1) % s
def hCell (s h i : Nat) : Nat := i / s * s + nbr s h (i % s)
def vCell (s h i : Nat) : Nat := nbr s h (i / s) * s + i % s
def dCell (s h i : Nat) : Nat := nbr s h (i / s) * s + nbr s h (i % s)
def b2n (b : Bool) : Nat := if b = true then 1 else 0
/-- what is in a cell behind a step: its own, the one beside, the one above or below, the one opposite -/
def new4 (a b c d : Bool) : Bool := if b2n a + b2n b + b2n c + b2n d = 1 then d else if b2n a + b2n b + b2n c + b2n d = 2 ∧ a = d then b else a
def stAt (s h : Nat) (bs : List Bool) (i : Nat) : Bool := new4 (bs.getD i false) (bs.getD (hCell s h i) false) (bs.getD (vCell s h i) false) (bs.getD (dCell s h i) false)
/-- all balls behind a step -/
def stL (s h : Nat) (bs : List Bool) : List Bool := (List.range (s * s)).map (stAt s h bs)
/-- the number of a cell's square -/
def sqn (s h i : Nat) : Nat :=
  let x := i % s; let y := i / s
  let cx := if (x + h) % 2 = 0 then x else (x + s - 1) % s
  let cy := if (y + h) % 2 = 0 then y else (y + s - 1) % s
  (cy - h) / 2 * (s / 2) + (cx - h) / 2
/-- the four cells of the square in column p and row q -/
def c0 (s h p q : Nat) : Nat := (2 * q + h) * s + (2 * p + h)
def c1 (s h p q : Nat) : Nat := (2 * q + h) * s + (2 * p + h + 1) % s
def c2 (s h p q : Nat) : Nat := (2 * q + h + 1) % s * s + (2 * p + h)
def c3 (s h p q : Nat) : Nat := (2 * q + h + 1) % s * s + (2 * p + h + 1) % s
/-- what is true of every square (of sides 2, 4, 6, 8) -/
def sqOk (s h p q : Nat) : Bool :=
  let a := c0 s h p q; let b := c1 s h p q; let c := c2 s h p q; let d := c3 s h p q
  decide (a < s * s ∧ b < s * s ∧ c < s * s ∧ d < s * s ∧ a ≠ b ∧ a ≠ c ∧ a ≠ d ∧ b ≠ c ∧ b ≠ d ∧ c ≠ d) &&
  decide (hCell s h a = b ∧ vCell s h a = c ∧ dCell s h a = d ∧ hCell s h b = a ∧ vCell s h b = d ∧ dCell s h b = c) &&
  decide (hCell s h c = d ∧ vCell s h c = a ∧ dCell s h c = b ∧ hCell s h d = c ∧ vCell s h d = b ∧ dCell s h d = a) &&
  (List.range (s * s)).all fun i => decide (sqn s h i = q * (s / 2) + p ↔ (i = a ∨ i = b ∨ i = c ∨ i = d)) && decide (sqn s h i < s / 2 * (s / 2))
theorem sq_ok : ∀ s ∈ [2, 4, 6, 8], ∀ h, h < 2 → ∀ p, p < s / 2 → ∀ q, q < s / 2 → sqOk s h p q = true := by decide +kernel

theorem st_len (s h : Nat) (bs : List Bool) : (stL s h bs).length = s * s := by simp [stL]
theorem st_get {s h : Nat} {bs : List Bool} {i : Nat} (hi : i < s * s) : (stL s h bs)[i]? = some (stAt s h bs i) := by simp [stL, hi]
/-- the squares before number Q are turned -/
def StS (s h : Nat) (bs : List Bool) (Q : Nat) (out : List Bool) : Prop := out.length = s * s ∧ ∀ i, i < s * s → out.getD i false = if sqn s h i < Q then stAt s h bs i else bs.getD i false
/-- .. and nothing else is laid -/
def StI (s h : Nat) (bs : List Bool) (Q : Nat) (out : List Bool) : Prop := out.length = s * s ∧ ∀ i, i < s * s → out.getD i false = (decide (sqn s h i < Q) && stAt s h bs i)
theorem StS.zero {s h : Nat} {bs : List Bool} (hl : bs.length = s * s) : StS s h bs 0 bs := ⟨hl, fun i hi => by rw [if_neg (by omega)]⟩
theorem StI.zero (s h : Nat) (bs : List Bool) : StI s h bs 0 (List.replicate (s * s) false) := ⟨by simp, fun i hi => by rw [show decide (sqn s h i < 0) = false from by simp, Bool.false_and, List.getD_eq_getElem?_getD, List.getElem?_replicate]; split <;> rfl⟩
theorem getD_set {out : List Bool} {i j : Nat} {v : Bool} (hj : j < out.length) : (out.set j v).getD i false = if i = j then v else out.getD i false := by
  rw [List.getD_eq_getElem?_getD, List.getD_eq_getElem?_getD]
  by_cases e : i = j
  · subst e; rw [if_pos rfl, List.getElem?_set_self hj]; rfl
  · rw [if_neg e, List.getElem?_set_ne (fun h => e h.symm)]
theorem set4_getD {out : List Bool} {a b c d : Nat} {u v x y : Bool} {i : Nat} (ha : a < out.length) (hb : b < out.length) (hc : c < out.length) (hd : d < out.length) (h1 : a ≠ b) (h2 : a ≠ c) (h3 : a ≠ d) (h4 : b ≠ c) (h5 : b ≠ d) (h6 : c ≠ d) :
    ((((out.set a u).set b v).set c x).set d y).getD i false = if i = a then u else if i = b then v else if i = c then x else if i = d then y else out.getD i false := by
  rw [getD_set (by simpa using hd), getD_set (by simpa using hc), getD_set (by simpa using hb), getD_set ha]
  by_cases e1 : i = a
  · subst e1; rw [if_neg h3, if_neg h2, if_neg h1, if_pos rfl, if_pos rfl]
  · by_cases e2 : i = b
    · subst e2; rw [if_neg h5, if_neg h4, if_pos rfl, if_neg e1, if_pos rfl]
    · by_cases e3 : i = c
      · subst e3; rw [if_neg h6, if_pos rfl, if_neg e1, if_neg e2, if_pos rfl]
      · by_cases e4 : i = d
        · subst e4; rw [if_pos rfl, if_neg e1, if_neg e2, if_neg e3, if_pos rfl]
        · rw [if_neg e4, if_neg e3, if_neg e2, if_neg e1, if_neg e1, if_neg e2, if_neg e3, if_neg e4]
/-- what is true of a square, taken apart -/
theorem sq_facts {s h p q : Nat} (hs : s = 2 ∨ s = 4 ∨ s = 6 ∨ s = 8) (hh : h < 2) (hp : p < s / 2) (hq : q < s / 2) :
    (c0 s h p q < s * s ∧ c1 s h p q < s * s ∧ c2 s h p q < s * s ∧ c3 s h p q < s * s ∧ c0 s h p q ≠ c1 s h p q ∧ c0 s h p q ≠ c2 s h p q ∧ c0 s h p q ≠ c3 s h p q ∧ c1 s h p q ≠ c2 s h p q ∧ c1 s h p q ≠ c3 s h p q ∧ c2 s h p q ≠ c3 s h p q) ∧
    (∀ bs : List Bool, stAt s h bs (c0 s h p q) = new4 (bs.getD (c0 s h p q) false) (bs.getD (c1 s h p q) false) (bs.getD (c2 s h p q) false) (bs.getD (c3 s h p q) false) ∧
      stAt s h bs (c1 s h p q) = new4 (bs.getD (c1 s h p q) false) (bs.getD (c0 s h p q) false) (bs.getD (c3 s h p q) false) (bs.getD (c2 s h p q) false) ∧
      stAt s h bs (c2 s h p q) = new4 (bs.getD (c2 s h p q) false) (bs.getD (c3 s h p q) false) (bs.getD (c0 s h p q) false) (bs.getD (c1 s h p q) false) ∧
      stAt s h bs (c3 s h p q) = new4 (bs.getD (c3 s h p q) false) (bs.getD (c2 s h p q) false) (bs.getD (c1 s h p q) false) (bs.getD (c0 s h p q) false)) ∧
    ∀ i, i < s * s → (sqn s h i = q * (s / 2) + p ↔ (i = c0 s h p q ∨ i = c1 s h p q ∨ i = c2 s h p q ∨ i = c3 s h p q)) := by
  have h := sq_ok s (by simp; omega) h hh p hp q hq
  simp only [sqOk, Bool.and_eq_true, decide_eq_true_eq, List.all_eq_true, List.mem_range] at h
  obtain ⟨⟨⟨h1, h2⟩, h3⟩, h4⟩ := h
  obtain ⟨b1, b2, b3, b4, b5, b6⟩ := h2
  obtain ⟨d1, d2, d3, d4, d5, d6⟩ := h3
  refine ⟨h1, fun bs => ⟨?_, ?_, ?_, ?_⟩, fun i hi => (h4 i hi).1⟩
  · unfold stAt; rw [b1, b2, b3]
  · unfold stAt; rw [b4, b5, b6]
  · unfold stAt; rw [d1, d2, d3]
  · unfold stAt; rw [d4, d5, d6]
theorem sqn_lt {s h i : Nat} (hs : s = 2 ∨ s = 4 ∨ s = 6 ∨ s = 8) (hh : h < 2) (hi : i < s * s) : sqn s h i < s / 2 * (s / 2) := by
  have h := sq_ok s (by simp; omega) h hh 0 (by omega) 0 (by omega)
  simp only [sqOk, Bool.and_eq_true, decide_eq_true_eq, List.all_eq_true, List.mem_range] at h
  exact (h.2 i hi).2
/-- one square more -/
theorem StS.succ {s h p q : Nat} {bs out : List Bool} (hs : s = 2 ∨ s = 4 ∨ s = 6 ∨ s = 8) (hh : h < 2) (hp : p < s / 2) (hq : q < s / 2) (H : StS s h bs (q * (s / 2) + p) out) :
    StS s h bs (q * (s / 2) + (p + 1)) ((((out.set (c0 s h p q) (stAt s h bs (c0 s h p q))).set (c1 s h p q) (stAt s h bs (c1 s h p q))).set (c2 s h p q) (stAt s h bs (c2 s h p q))).set (c3 s h p q) (stAt s h bs (c3 s h p q))) := by
  obtain ⟨⟨l0, l1, l2, l3, n1, n2, n3, n4, n5, n6⟩, _, hi4⟩ := sq_facts hs hh hp hq
  refine ⟨by simpa using H.1, fun i hi => ?_⟩
  rw [set4_getD (by rw [H.1]; exact l0) (by rw [H.1]; exact l1) (by rw [H.1]; exact l2) (by rw [H.1]; exact l3) n1 n2 n3 n4 n5 n6]
  have hk := hi4 i hi
  by_cases e : sqn s h i = q * (s / 2) + p
  · rw [if_pos (show sqn s h i < q * (s / 2) + (p + 1) by omega)]
    rcases hk.1 e with e | e | e | e
    · rw [if_pos e, e]
    · rw [if_neg (by rw [e]; exact fun h => n1 h.symm), if_pos e, e]
    · rw [if_neg (by rw [e]; exact fun h => n2 h.symm), if_neg (by rw [e]; exact fun h => n4 h.symm), if_pos e, e]
    · rw [if_neg (by rw [e]; exact fun h => n3 h.symm), if_neg (by rw [e]; exact fun h => n5 h.symm), if_neg (by rw [e]; exact fun h => n6 h.symm), if_pos e, e]
  · have hno : ¬ (i = c0 s h p q ∨ i = c1 s h p q ∨ i = c2 s h p q ∨ i = c3 s h p q) := fun h => e (hk.2 h)
    rw [if_neg (fun h => hno (.inl h)), if_neg (fun h => hno (.inr (.inl h))), if_neg (fun h => hno (.inr (.inr (.inl h)))), if_neg (fun h => hno (.inr (.inr (.inr h)))), H.2 i hi]
    by_cases e2 : sqn s h i < q * (s / 2) + p
    · rw [if_pos e2, if_pos (by omega)]
    · rw [if_neg e2, if_neg (by omega)]
theorem StI.succ {s h p q : Nat} {bs out out' : List Bool} (hs : s = 2 ∨ s = 4 ∨ s = 6 ∨ s = 8) (hh : h < 2) (hp : p < s / 2) (hq : q < s / 2) (H : StI s h bs (q * (s / 2) + p) out) (hl : out'.length = out.length)
    (ho : ∀ i, out'.getD i false = if i = c0 s h p q then (out.getD i false || stAt s h bs i) else if i = c1 s h p q then (out.getD i false || stAt s h bs i) else if i = c2 s h p q then (out.getD i false || stAt s h bs i) else if i = c3 s h p q then (out.getD i false || stAt s h bs i) else out.getD i false) :
    StI s h bs (q * (s / 2) + (p + 1)) out' := by
  obtain ⟨⟨l0, l1, l2, l3, n1, n2, n3, n4, n5, n6⟩, _, hi4⟩ := sq_facts hs hh hp hq
  refine ⟨by rw [hl]; exact H.1, fun i hi => ?_⟩
  rw [ho i]
  have hk := hi4 i hi
  by_cases e : sqn s h i = q * (s / 2) + p
  · have hof : out.getD i false = false := by rw [H.2 i hi, e]; simp
    rw [show decide (sqn s h i < q * (s / 2) + (p + 1)) = true by simp; omega, hof]
    rcases hk.1 e with e | e | e | e
    · rw [if_pos e]; simp
    · rw [if_neg (by rw [e]; exact fun h => n1 h.symm), if_pos e]; simp
    · rw [if_neg (by rw [e]; exact fun h => n2 h.symm), if_neg (by rw [e]; exact fun h => n4 h.symm), if_pos e]; simp
    · rw [if_neg (by rw [e]; exact fun h => n3 h.symm), if_neg (by rw [e]; exact fun h => n5 h.symm), if_neg (by rw [e]; exact fun h => n6 h.symm), if_pos e]; simp
  · have hno : ¬ (i = c0 s h p q ∨ i = c1 s h p q ∨ i = c2 s h p q ∨ i = c3 s h p q) := fun h => e (hk.2 h)
    rw [if_neg (fun h => hno (.inl h)), if_neg (fun h => hno (.inr (.inl h))), if_neg (fun h => hno (.inr (.inr (.inl h)))), if_neg (fun h => hno (.inr (.inr (.inr h)))), H.2 i hi]
    congr 1
    rw [decide_eq_decide]
    omega
theorem ext_getD {a b : List Bool} (hl : a.length = b.length) (h : ∀ i, i < b.length → a.getD i false = b.getD i false) : a = b := by
  apply List.ext_getElem hl
  intro i h1 h2
  have := h i h2
  simpa [List.getD, h1, h2] using this
theorem st_getD {s h : Nat} {bs : List Bool} {i : Nat} (hi : i < s * s) : (stL s h bs).getD i false = stAt s h bs i := by rw [List.getD_eq_getElem?_getD, st_get hi]; rfl
theorem StS.done {s h Q : Nat} {bs out : List Bool} (hs : s = 2 ∨ s = 4 ∨ s = 6 ∨ s = 8) (hh : h < 2) (hQ : Q = s / 2 * (s / 2)) (H : StS s h bs Q out) : out = stL s h bs := by
  refine ext_getD (by rw [H.1, st_len]) fun i hi => ?_
  rw [st_len] at hi
  rw [H.2 i hi, st_getD hi, if_pos (by have := sqn_lt (h := h) hs hh hi; omega)]
theorem StI.done {s h Q : Nat} {bs out : List Bool} (hs : s = 2 ∨ s = 4 ∨ s = 6 ∨ s = 8) (hh : h < 2) (hQ : Q = s / 2 * (s / 2)) (H : StI s h bs Q out) : out = stL s h bs := by
  refine ext_getD (by rw [H.1, st_len]) fun i hi => ?_
  rw [st_len] at hi
  rw [H.2 i hi, st_getD hi, show decide (sqn s h i < Q) = true by have := sqn_lt (h := h) hs hh hi; simp; omega, Bool.true_and]
end Go.Proofs.Ytmianlihdiccjaa

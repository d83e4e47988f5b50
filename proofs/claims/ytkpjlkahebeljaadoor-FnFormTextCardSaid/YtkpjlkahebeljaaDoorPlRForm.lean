/- Plain words of reading texts of formulas. -/
import Derived.Test.YtkpjlkahebeljaaDoorPlFText
namespace Go.Proofs.YtkpjlkahebeljaaDoor
open Go.RowKit
set_option linter.unusedVariables false

/-- the pieces between the bytes c -/
def spl (c : UInt8) : List UInt8 → List (List UInt8)
  | [] => [[]]
  | b :: l => if b = c then [] :: spl c l else match spl c l with
    | [] => [[b]]
    | p :: ps => (b :: p) :: ps
theorem spl_ne (c : UInt8) (l : List UInt8) : spl c l ≠ [] := by
  cases l with
  | nil => simp [spl]
  | cons b l =>
    rw [spl]
    split
    · simp
    · split <;> simp
theorem spl_none {c : UInt8} : ∀ {l : List UInt8}, (∀ b ∈ l, b ≠ c) → spl c l = [l] := by
  intro l
  induction l with
  | nil => intro _; rfl
  | cons b l ih =>
    intro h
    rw [spl, if_neg (h b (List.mem_cons_self ..)), ih (fun x hx => h x (List.mem_cons_of_mem _ hx))]
theorem spl_app (c : UInt8) (r : List UInt8) : ∀ a : List UInt8, spl c (a ++ c :: r) = spl c a ++ spl c r := by
  intro a
  induction a with
  | nil => simp [spl]
  | cons b a ih =>
    rw [List.cons_append, spl, spl]
    by_cases h : b = c
    · rw [if_pos h, if_pos h, ih]; rfl
    · rw [if_neg h, if_neg h, ih]
      rcases hs : spl c a with _ | ⟨p, ps⟩
      · exact absurd hs (spl_ne c a)
      · rfl
theorem spl_snoc_ne {c b : UInt8} (hb : b ≠ c) : ∀ (l : List UInt8) (xs : List (List UInt8)) (p : List UInt8), spl c l = xs ++ [p] → spl c (l ++ [b]) = xs ++ [p ++ [b]] := by
  intro l
  induction l with
  | nil =>
    intro xs p h
    rw [spl] at h
    rcases xs with _ | ⟨x, xs⟩
    · simp at h; subst h; simp [spl, hb]
    · simp at h
  | cons d l ih =>
    intro xs p h
    rw [spl] at h
    rw [List.cons_append, spl]
    by_cases hd : d = c
    · rw [if_pos hd] at h ⊢
      rcases xs with _ | ⟨x, xs⟩
      · simp at h; exact absurd h.2 (spl_ne c l)
      · simp at h
        rw [ih xs p h.2, ← h.1]; rfl
    · rw [if_neg hd] at h ⊢
      rcases hs : spl c l with _ | ⟨q, qs⟩
      · exact absurd hs (spl_ne c l)
      · rw [hs] at h
        rcases xs with _ | ⟨x, xs⟩
        · simp at h
          rw [ih [] q (by rw [hs, h.2]; rfl), ← h.1]; rfl
        · simp at h
          rw [ih (q :: xs) p (by rw [hs, h.2]; rfl), ← h.1]; rfl
theorem spl_snoc_eq {c : UInt8} {l : List UInt8} : spl c (l ++ [c]) = spl c l ++ [[]] := spl_app c [] l
theorem dgB_ne {x : Int} (h0 : 0 ≤ x) (h9 : x ≤ 9) : dgB x ≠ 59 ∧ dgB x ≠ 32 := by
  have : x = 0 ∨ x = 1 ∨ x = 2 ∨ x = 3 ∨ x = 4 ∨ x = 5 ∨ x = 6 ∨ x = 7 ∨ x = 8 ∨ x = 9 := by omega
  rcases this with rfl | rfl | rfl | rfl | rfl | rfl | rfl | rfl | rfl | rfl <;> decide
theorem nmL_ne (o : Int) : ∀ b ∈ nmL o, b ≠ 59 ∧ b ≠ 32 := by
  intro b hb
  unfold nmL at hb
  split at hb
  · simp at hb; rcases hb with rfl | rfl | rfl <;> decide
  · split at hb
    · simp at hb; rcases hb with rfl | rfl <;> decide
    · split at hb
      · simp at hb; rcases hb with rfl | rfl | rfl <;> decide
      · simp at hb; rcases hb with rfl | rfl | rfl <;> decide
theorem tsL_ne {o x y : Int} (x0 : 0 ≤ x) (x9 : x ≤ 9) (y0 : 0 ≤ y) (y9 : y ≤ 9) : ∀ b ∈ tsL o x y, b ≠ 59 := by
  intro b hb
  unfold tsL dgL at hb
  simp only [List.mem_append, List.mem_singleton] at hb
  rcases hb with ((h | rfl) | rfl) | h
  · exact (nmL_ne o b h).1
  · decide
  · exact (dgB_ne x0 x9).1
  · split at h
    · cases h
    · simp at h
      rcases h with rfl | rfl
      · decide
      · exact (dgB_ne y0 y9).1
/-- the words of a step's text -/
theorem spl_ts {o x y : Int} (x0 : 0 ≤ x) (x9 : x ≤ 9) (y0 : 0 ≤ y) (y9 : y ≤ 9) : spl 32 (tsL o x y) = nmL o :: wdL o x y := by
  have hn : spl 32 (nmL o) = [nmL o] := spl_none (fun b hb => (nmL_ne o b hb).2)
  have hx : spl 32 (dgL x) = [dgL x] := spl_none (fun b hb => by simp [dgL] at hb; rw [hb]; exact (dgB_ne x0 x9).2)
  have hy : spl 32 (dgL y) = [dgL y] := spl_none (fun b hb => by simp [dgL] at hb; rw [hb]; exact (dgB_ne y0 y9).2)
  unfold tsL wdL
  split
  · rw [List.append_nil, List.append_assoc, show ([32] ++ dgL x : List UInt8) = 32 :: dgL x from rfl, spl_app, hn, hx]; rfl
  · rw [List.append_assoc, List.append_assoc, show ([32] ++ (dgL x ++ 32 :: dgL y) : List UInt8) = 32 :: (dgL x ++ 32 :: dgL y) from rfl, spl_app, spl_app, hn, hx, hy]; rfl
/-- the pieces of a formula's text -/
theorem spl_fx {zs : List Int} (h : ∀ k b, b ∈ tsK zs k → b ≠ 59) : ∀ k, spl 59 (fxL zs (k + 1)) = (List.range (k + 1)).map (tsK zs) := by
  intro k
  induction k with
  | zero => rw [fxL]; simp [fxL]; exact spl_none (h 0)
  | succ k ih =>
    rw [show fxL zs (k + 1 + 1) = fxL zs (k + 1) ++ (if k + 1 = 0 then [] else [59]) ++ tsK zs (k + 1) from rfl, if_neg (by omega), List.append_assoc, show ([59] ++ tsK zs (k + 1) : List UInt8) = 59 :: tsK zs (k + 1) from rfl, spl_app, ih, spl_none (h (k + 1)), List.range_succ (n := k + 1), List.map_append]
    rfl
/-- which name it is -/
def opS (q : List UInt8) : Int := if q = nmL 0 then 0 else if q = nmL 1 then 1 else if q = nmL 2 then 2 else if q = nmL 3 then 3 else -1
theorem opS_nm {o : Int} (h : o = 0 ∨ o = 1 ∨ o = 2 ∨ o = 3) : opS (nmL o) = o := by
  rcases h with rfl | rfl | rfl | rfl <;> decide
/-- the number that digits spell -/
def dgS (l : List UInt8) : Int :=
  if l.length < 1 ∨ 4 < l.length ∨ (1 < l.length ∧ l.head? = some 48) then -1
  else if l.all (fun b => decide (48 ≤ b.toNat) && decide (b.toNat ≤ 57)) = true then l.foldl (fun n b => 10 * n + ((b.toNat : Int) - 48)) 0 else -1
theorem dgS_dg {x : Int} (h0 : 0 ≤ x) (h9 : x ≤ 9) : dgS (dgL x) = x := by
  have : x = 0 ∨ x = 1 ∨ x = 2 ∨ x = 3 ∨ x = 4 ∨ x = 5 ∨ x = 6 ∨ x = 7 ∨ x = 8 ∨ x = 9 := by omega
  rcases this with rfl | rfl | rfl | rfl | rfl | rfl | rfl | rfl | rfl | rfl <;> decide
/-- the words' step -/
def wdS : List (List UInt8) → List Int
  | [] => [-1, 0, 0]
  | [q] => [opS q, 0, 0]
  | [q, a] => [opS q, dgS a, 0]
  | q :: a :: b :: _ => [opS q, dgS a, dgS b]
/-- the step that a piece spells -/
def stS (p : List UInt8) : List Int := wdS (spl 32 p)
/-- the steps that a text spells -/
def rdS (s : List UInt8) : List Int := (spl 59 s).flatMap stS
theorem stS_ts {o x y : Int} (ho : o = 0 ∨ o = 1 ∨ o = 2 ∨ o = 3) (x0 : 0 ≤ x) (x9 : x ≤ 9) (y0 : 0 ≤ y) (y9 : y ≤ 9) (h3 : o = 3 → y = 0) : stS (tsL o x y) = [o, x, y] := by
  unfold stS
  rw [spl_ts x0 x9 y0 y9]
  unfold wdL
  by_cases h : o = 3
  · rw [if_pos h, wdS, opS_nm ho, dgS_dg x0 x9, h3 h]
  · rw [if_neg h, wdS, opS_nm ho, dgS_dg x0 x9, dgS_dg y0 y9]
theorem ok_all {I : Int} {n : Nat} {zs : List Int} (hl : zs.length = n * 3) (h : fmB I n zs = true) (k : Nat) (hk : k < n) :
    let o := zs.getD (k * 3) 0; let x := zs.getD (k * 3 + 1) 0; let y := zs.getD (k * 3 + 2) 0
    (o = 0 ∨ o = 1 ∨ o = 2 ∨ o = 3) ∧ (0 ≤ x ∧ x ≤ 9) ∧ (0 ≤ y ∧ y ≤ 9) ∧ (o = 3 → y = 0) := by
  intro o x y
  have g : ∀ j, j < n * 3 → zs[j]? = some (zs.getD j 0) := fun j hj => by
    rw [List.getD, List.getElem?_eq_getElem (by omega)]; rfl
  obtain ⟨h1, h2, h3, h4, h5⟩ := okS_of h hk (g _ (by omega)) (g _ (by omega)) (g _ (by omega))
  refine ⟨h1, ⟨h2, h3⟩, ⟨h4, h5⟩, fun ho => ?_⟩
  obtain ⟨a1, a2, a3, a4, a5⟩ := fmB_iff h
  have := a5 k hk
  rw [okS_eq (g _ (by omega)) (g _ (by omega)) (g _ (by omega))] at this
  exact (stB_t this).2.2.2.2.1 ho
/-- LAW A: the text of a valid formula spells its steps -/
theorem rd_fx {I : Int} {n : Nat} {zs : List Int} (hl : zs.length = n * 3) (h : fmB I n zs = true) : spl 59 (fxF I n zs) = (List.range n).map (tsK zs) ∧ rdS (fxF I n zs) = zs := by
  obtain ⟨a1, a2, a3, a4, _⟩ := fmB_iff h
  have hno : ∀ k b, b ∈ tsK zs k → b ≠ 59 := by
    intro k b hb
    by_cases hk : k < n
    · obtain ⟨_, hx, hy, _⟩ := ok_all hl h k hk
      exact tsL_ne hx.1 hx.2 hy.1 hy.2 b hb
    · have e : ∀ j, n * 3 ≤ j → zs.getD j 0 = 0 := fun j hj => by rw [List.getD, List.getElem?_eq_none (by omega)]; rfl
      rw [tsK, e _ (by omega), e _ (by omega), e _ (by omega)] at hb
      exact tsL_ne (by omega) (by omega) (by omega) (by omega) b hb
  have hF : fxF I n zs = fxL zs n := by rw [fxF, if_pos h]
  obtain ⟨m, rfl⟩ : ∃ m, n = m + 1 := ⟨n - 1, by omega⟩
  have hs := spl_fx hno m
  refine ⟨by rw [hF, hs], ?_⟩
  have hst : ∀ k, k < m + 1 → stS (tsK zs k) = [zs.getD (k * 3) 0, zs.getD (k * 3 + 1) 0, zs.getD (k * 3 + 2) 0] := fun k hk => by
    obtain ⟨ho, hx, hy, h3⟩ := ok_all hl h k hk
    exact stS_ts ho hx.1 hx.2 hy.1 hy.2 h3
  rw [rdS, hF, hs]
  have hm : m = 0 ∨ m = 1 ∨ m = 2 := by omega
  rcases hm with rfl | rfl | rfl
  · match zs, hl with
    | [u0, u1, u2], _ => simpa using hst 0 (by omega)
  · match zs, hl with
    | [u0, u1, u2, u3, u4, u5], _ =>
      have h0 := hst 0 (by omega)
      have h1 := hst 1 (by omega)
      simp [List.range_succ] at h0 h1 ⊢
      rw [h0, h1]; rfl
  · match zs, hl with
    | [u0, u1, u2, u3, u4, u5, u6, u7, u8], _ =>
      have h0 := hst 0 (by omega)
      have h1 := hst 1 (by omega)
      have h2 := hst 2 (by omega)
      simp [List.range_succ] at h0 h1 h2 ⊢
      rw [h0, h1, h2]; rfl
theorem fxF_ne {I : Int} {n : Nat} {zs : List Int} (h : fmB I n zs = true) : fxF I n zs ≠ [] := by
  intro e
  obtain ⟨a1, a2, a3, a4, _⟩ := fmB_iff h
  rw [fxF, if_pos h] at e
  obtain ⟨m, rfl⟩ : ∃ m, n = m + 1 := ⟨n - 1, by omega⟩
  rw [fxL] at e
  have := congrArg List.length e
  simp [tsK, tsL, dgL] at this
end Go.Proofs.YtkpjlkahebeljaaDoor

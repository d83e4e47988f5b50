/- Plain words of the program's reading of formulas. -/
import Derived.Test.YtkpjlkahebeljaaDoorPlRForm
import Derived.Lib.IndexLaws
import Derived.Lib.AtoiAll
import Derived.Lib.ItoaNum
namespace Go.Proofs.YtkpjlkahebeljaaDoor
open Go.RowKit
set_option linter.unusedVariables false

theorem spl_len (c : UInt8) : ∀ l : List UInt8, (spl c l).length ≤ l.length + 1 := by
  intro l
  induction l with
  | nil => simp [spl]
  | cons b l ih =>
    rw [spl]
    split
    · simp; exact ih
    · split
      · simp
      · rename_i h; rw [h] at ih; simp at ih ⊢; omega
theorem spl_mem (c : UInt8) : ∀ (l p : List UInt8), p ∈ spl c l → p.length ≤ l.length := by
  intro l
  induction l with
  | nil => intro p hp; simp [spl] at hp; subst hp; simp
  | cons b l ih =>
    intro p hp
    rw [spl] at hp
    split at hp
    · rcases List.mem_cons.1 hp with rfl | h
      · simp
      · have := ih p h; simp; omega
    · split at hp
      · simp at hp; subst hp; simp
      · rename_i q qs hq
        rcases List.mem_cons.1 hp with rfl | h
        · have := ih q (by rw [hq]; simp); simp; omega
        · have := ih p (by rw [hq]; simp [h]); simp; omega
theorem ix_none {c : UInt8} {l : List UInt8} (h : Lib.indexByte l c = -1) : spl c l = [l] := spl_none (fun b hb e => by
  obtain ⟨k, hk⟩ := List.getElem?_of_mem hb
  exact Lib.indexByte_none h k (by rw [hk, e]))
theorem ix_some {c : UInt8} {l : List UInt8} {i : Nat} (h : Lib.indexByte l c = i) : i < l.length ∧ spl c l = l.take i :: spl c (l.drop (i + 1)) ∧ (∀ b ∈ l.take i, b ≠ c) ∧ l = l.take i ++ c :: l.drop (i + 1) := by
  obtain ⟨h1, h2⟩ := Lib.indexByte_some h
  obtain ⟨hi, hc⟩ := List.getElem?_eq_some_iff.1 h1
  have e : l = l.take i ++ c :: l.drop (i + 1) := by
    conv => lhs; rw [← List.take_append_drop i l, List.drop_eq_getElem_cons hi, hc]
  have hn : ∀ b ∈ l.take i, b ≠ c := fun b hb e => by
    obtain ⟨k, hk⟩ := List.getElem?_of_mem hb
    have hki : k < i := by have := (List.getElem?_eq_some_iff.1 hk).1; rw [List.length_take] at this; omega
    rw [List.getElem?_take, if_pos hki] at hk
    exact h2 k hki (by rw [hk, e])
  refine ⟨hi, ?_, hn, e⟩
  conv => lhs; rw [e]
  rw [spl_app, spl_none hn]; rfl
theorem ix_no {c : UInt8} : ∀ {l : List UInt8}, (∀ b ∈ l, b ≠ c) → Lib.indexByte l c = -1 := by
  intro l
  induction l with
  | nil => intro _; rfl
  | cons b l ih =>
    intro h
    rw [Lib.indexByte, if_neg (by simpa using h b (List.mem_cons_self ..)), ih (fun x hx => h x (List.mem_cons_of_mem _ hx))]
    rfl
theorem ix_app {c : UInt8} (r : List UInt8) : ∀ {a : List UInt8}, (∀ b ∈ a, b ≠ c) → Lib.indexByte (a ++ c :: r) c = a.length := by
  intro a
  induction a with
  | nil => intro _; simp [Lib.indexByte]
  | cons b a ih =>
    intro h
    rw [List.cons_append, Lib.indexByte, if_neg (by simpa using h b (List.mem_cons_self ..)), ih (fun x hx => h x (List.mem_cons_of_mem _ hx)), if_neg (by simp)]
    simp
/-- what stands before the first blank, and what stands behind it -/
def cutA (l : List UInt8) : List UInt8 := if Lib.indexByte l 32 < 0 then l else l.take (Lib.indexByte l 32).toNat
def cutR (l : List UInt8) : List UInt8 := if Lib.indexByte l 32 < 0 then [] else l.drop ((Lib.indexByte l 32).toNat + 1)
theorem cut_app {a r : List UInt8} (h : ∀ b ∈ a, b ≠ 32) : cutA (a ++ 32 :: r) = a ∧ cutR (a ++ 32 :: r) = r := by
  unfold cutA cutR
  rw [ix_app r h, if_neg (by omega), if_neg (by omega)]
  simp
theorem cutR_len (l : List UInt8) : (cutR l).length ≤ l.length := by
  unfold cutR
  split
  · simp
  · simp
theorem atoi_dg {x : Int} (h0 : 0 ≤ x) (h9 : x ≤ 9) : Lib.atoiAll (dgL x) = .ok x := by
  have : x = 0 ∨ x = 1 ∨ x = 2 ∨ x = 3 ∨ x = 4 ∨ x = 5 ∨ x = 6 ∨ x = 7 ∨ x = 8 ∨ x = 9 := by omega
  rcases this with rfl | rfl | rfl | rfl | rfl | rfl | rfl | rfl | rfl | rfl <;> decide
theorem itoa_dg {x : Int} (h0 : 0 ≤ x) (h9 : x ≤ 9) : Lib.itoa x = dgL x := by
  unfold Lib.itoa
  rw [if_neg (by omega), Lib.decDigits_one (by omega)]
  rfl
/-- a text that spells one digit, or two -/
def GoodR (r : List UInt8) (xs : List Int) : Prop := (∃ x, xs = [x] ∧ (0 ≤ x ∧ x ≤ 9) ∧ r = dgL x) ∨ (∃ x y, xs = [x, y] ∧ (0 ≤ x ∧ x ≤ 9) ∧ (0 ≤ y ∧ y ≤ 9) ∧ r = dgL x ++ 32 :: dgL y)
theorem dgL_ne {x : Int} (h0 : 0 ≤ x) (h9 : x ≤ 9) : ∀ b ∈ dgL x, b ≠ 32 := fun b hb => by
  simp [dgL] at hb; rw [hb]; exact (dgB_ne h0 h9).2
theorem good_spl {r : List UInt8} {xs : List Int} (h : GoodR r xs) : spl 32 r = xs.map dgL ∧ (∀ x ∈ xs, 0 ≤ x ∧ x ≤ 9) ∧ Lib.join (xs.map Lib.itoa) [32] = r ∧ 1 ≤ xs.length ∧ xs.length ≤ 2 := by
  rcases h with ⟨x, rfl, hx, rfl⟩ | ⟨x, y, rfl, hx, hy, rfl⟩
  · refine ⟨spl_none (dgL_ne hx.1 hx.2), by simpa using hx, ?_, by simp, by simp⟩
    simp [Lib.join, itoa_dg hx.1 hx.2]
  · refine ⟨?_, by simpa using ⟨hx, hy⟩, ?_, by simp, by simp⟩
    · rw [spl_app, spl_none (dgL_ne hx.1 hx.2), spl_none (dgL_ne hy.1 hy.2)]; rfl
    · simp [Lib.join, itoa_dg hx.1 hx.2, itoa_dg hy.1 hy.2]
/-- the numbers that words spell -/
def Spell (pre : List (List UInt8)) (ns : List Int) : Prop := pre.map Lib.atoiAll = ns.map .ok
theorem Spell.len {pre : List (List UInt8)} {ns : List Int} (h : Spell pre ns) : pre.length = ns.length := by simpa using congrArg List.length h
theorem Spell.snoc {pre : List (List UInt8)} {ns : List Int} (h : Spell pre ns) {l : List UInt8} {v : Int} (hv : Lib.atoiAll l = .ok v) : Spell (pre ++ [l]) (ns ++ [v]) := by
  show (pre ++ [l]).map _ = (ns ++ [v]).map _
  rw [List.map_append, List.map_append, show pre.map Lib.atoiAll = _ from h]; simp [hv]
theorem spell_good {r : List UInt8} {xs ns : List Int} (h : GoodR r xs) (hs : Spell (spl 32 r) ns) : ns = xs := by
  obtain ⟨h1, h2, _⟩ := good_spl h
  unfold Spell at hs
  rw [h1, List.map_map] at hs
  have e : xs.map (Lib.atoiAll ∘ dgL) = xs.map .ok := List.map_congr_left fun x hx => atoi_dg (h2 x hx).1 (h2 x hx).2
  rw [e] at hs
  exact ((List.map_inj_right (fun a b h => by injection h)).1 hs).symm
theorem spell_bad {r : List UInt8} {xs : List Int} (h : GoodR r xs) {pre suf : List (List UInt8)} {l : List UInt8} (hp : spl 32 r = pre ++ l :: suf) : ∃ v, Lib.atoiAll l = .ok v := by
  obtain ⟨h1, h2, _⟩ := good_spl h
  have : l ∈ xs.map dgL := by rw [← h1, hp]; simp
  obtain ⟨x, hx, rfl⟩ := List.mem_map.1 this
  exact ⟨x, atoi_dg (h2 x hx).1 (h2 x hx).2⟩
/-- zs, of n steps, is the valid formula whose text s is -/
def Vd (I : Int) (s : List UInt8) (n : Nat) (zs : List Int) : Prop := zs.length = n * 3 ∧ fmB I n zs = true ∧ fxF I n zs = s
theorem vd_rd {I : Int} {s : List UInt8} {n : Nat} {zs : List Int} (h : Vd I s n zs) : rdS s = zs ∧ spl 59 s = (List.range n).map (tsK zs) ∧ s ≠ [] := by
  obtain ⟨h1, h2, rfl⟩ := h
  obtain ⟨a, b⟩ := rd_fx h1 h2
  exact ⟨b, a, fxF_ne h2⟩
theorem vd_one {I : Int} {s : List UInt8} {n m : Nat} {zs us : List Int} (h : Vd I s n zs) (k : Vd I s m us) : n = m ∧ zs = us := by
  have e := (vd_rd h).1.symm.trans (vd_rd k).1
  refine ⟨?_, e⟩
  have h1 := h.1
  have k1 := k.1
  rw [e] at h1
  omega
theorem vd_of {I : Int} {s : List UInt8} {n : Nat} {zs : List Int} (hl : zs.length = n * 3) (hs : s ≠ []) (h : fxF I n zs = s) : Vd I s n zs := by
  refine ⟨hl, ?_, h⟩
  by_cases hv : fmB I n zs = true
  · exact hv
  · rw [fxF, if_neg hv] at h; exact absurd h.symm hs
/-- what the parts of a piece are, where it is a step's text -/
theorem vd_piece {I : Int} {s : List UInt8} {n : Nat} {zs : List Int} (h : Vd I s n zs) {pre suf : List (List UInt8)} {p : List UInt8} (hp : spl 59 s = pre ++ p :: suf) :
    pre.length < n ∧ n ≤ 3 ∧ ∃ o x y : Int, zs[pre.length * 3]? = some o ∧ zs[pre.length * 3 + 1]? = some x ∧ zs[pre.length * 3 + 2]? = some y ∧ opS (cutA p) = o ∧ 0 ≤ o ∧ ∃ xs, GoodR (cutR p) xs ∧ xs.getD 0 0 = x ∧ (if xs.length = 2 then xs.getD 1 0 else 0) = y := by
  have hs := (vd_rd h).2.1
  obtain ⟨hl, hf, _⟩ := h
  rw [hs] at hp
  have hlen : pre.length < n := by have := congrArg List.length hp; simp at this; omega
  obtain ⟨a1, a2, a3, a4, _⟩ := fmB_iff hf
  refine ⟨hlen, a4, ?_⟩
  have hpe : p = tsK zs pre.length := by
    have h1 := congrArg (fun l => l[pre.length]?) hp
    simp [List.getElem?_range hlen] at h1
    exact h1.symm
  have g : ∀ j, j < n * 3 → zs[j]? = some (zs.getD j 0) := fun j hj => by
    rw [List.getD, List.getElem?_eq_getElem (by omega)]; rfl
  obtain ⟨ho, hx, hy, h3⟩ := ok_all hl hf pre.length hlen
  refine ⟨_, _, _, g _ (by omega), g _ (by omega), g _ (by omega), ?_⟩
  revert hpe ho hx hy h3
  rw [tsK]
  generalize zs.getD (pre.length * 3) 0 = o
  generalize zs.getD (pre.length * 3 + 1) 0 = x
  generalize zs.getD (pre.length * 3 + 2) 0 = y
  intro hpe ho hx hy h3
  have hn : ∀ b ∈ nmL o, b ≠ 32 := fun b hb => (nmL_ne o b hb).2
  by_cases e3 : o = 3
  · obtain ⟨c1, c2⟩ := cut_app (r := dgL x) hn
    have e : p = nmL o ++ 32 :: dgL x := by rw [hpe, tsL, if_pos e3]; simp
    rw [e, c1, c2]
    exact ⟨opS_nm ho, by omega, [x], .inl ⟨x, rfl, hx, rfl⟩, rfl, by simp [h3 e3]⟩
  · obtain ⟨c1, c2⟩ := cut_app (r := dgL x ++ 32 :: dgL y) hn
    have e : p = nmL o ++ 32 :: (dgL x ++ 32 :: dgL y) := by rw [hpe, tsL, if_neg e3]; simp
    rw [e, c1, c2]
    exact ⟨opS_nm ho, by omega, [x, y], .inr ⟨x, y, rfl, hx, hy, rfl⟩, rfl, by simp⟩
theorem take_three {zs : List Int} {k : Nat} {o x y : Int} (h0 : zs[k * 3]? = some o) (h1 : zs[k * 3 + 1]? = some x) (h2 : zs[k * 3 + 2]? = some y) : zs.take ((k + 1) * 3) = zs.take (k * 3) ++ [o, x, y] := by
  rw [show (k + 1) * 3 = k * 3 + 1 + 1 + 1 by omega, List.take_add_one, List.take_add_one, List.take_add_one, h0, h1, h2]
  simp
end Go.Proofs.YtkpjlkahebeljaaDoor

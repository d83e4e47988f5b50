/- A queue of integers: a slice of the call's own that loses its head ('q = q[1:]') and is appended to. -/
import Derived.Test.YtmppiifkajmbgaaPush
import Derived.ArgAppend
namespace Go.Proofs.Ytmppiifkajmbgaa
open Go.RowKit
set_option linter.unusedVariables false

/-- a slice of n ints in a block of the call's own, from some place on -/
def OQ (w : World) (base : Nat) (A : Option Addr) (n c : Nat) (zs : List Int) : Prop :=
  zs.length = n ∧ n ≤ c ∧ c ≤ maxLen ∧ ∃ g o cur, A = some ⟨g, o, none⟩ ∧ base ≤ g ∧ w.heap[g]? = some (.cells cur 3 (0, 0)) ∧ o + c ≤ cur.size ∧ ∀ (j : Nat) (x : Int), zs[j]? = some x → cur[o + j]? = some (Value.int .i64 x)
section
variable {w w' : World} {base : Nat} {A : Option Addr} {n c : Nat} {zs : List Int}
theorem OQ.len (h : OQ w base A n c zs) : zs.length = n := h.1
theorem OQ.cap (h : OQ w base A n c zs) : n ≤ c ∧ c ≤ maxLen := ⟨h.2.1, h.2.2.1⟩
theorem OQ.addr (h : OQ w base A n c zs) : ∃ g o, A = some ⟨g, o, none⟩ ∧ base ≤ g ∧ g < w.heap.size := by
  obtain ⟨_, _, _, g, o, cur, e, hb, hg, _⟩ := h
  exact ⟨g, o, e, hb, (Array.getElem?_eq_some_iff.1 hg).1⟩
theorem OQ.cellAt {g o : Nat} (h : OQ w base (some ⟨g, o, none⟩) n c zs) {j : Nat} {x : Int} (hx : zs[j]? = some x) : w.cell? ⟨g, o + j, none⟩ = some (.int .i64 x) := by
  obtain ⟨_, _, _, g', o', cur, e, hb, hg, hs, hc⟩ := h
  injection e with e; injection e with e1 e2; subst e1; subst e2
  rw [cell_of_row w g (o + j) cur _ (0, 0) hg]
  exact hc j x hx
theorem OQ.of_OS {g : Nat} (h : OS w base (some ⟨g, 0, none⟩) n c zs) : OQ w base (some ⟨g, 0, none⟩) n c zs := by
  refine ⟨h.len, h.cap.1, h.cap.2, ?_⟩
  rcases h.2 with ⟨hv, _⟩ | ⟨g', cap, cur, hv, hb, hg, hnc, hcm, hcs, ht⟩
  · cases hv
  · injection hv with e1 _ e3
    injection e1 with e1; injection e1 with e1
    subst e1; subst e3
    refine ⟨g, 0, cur, rfl, hb, hg, by omega, fun j x hx => ?_⟩
    have hj : j < zs.length := (List.getElem?_eq_some_iff.1 hx).1
    have hl := h.len
    have e : cur.toList[j]? = some (Value.int .i64 x) := by
      have h2 : (cur.toList.take (n * 1))[j]? = some (Value.int .i64 x) := by rw [ht, List.getElem?_map, hx]; rfl
      rw [List.getElem?_take, if_pos (by omega)] at h2
      exact h2
    rw [Nat.zero_add]
    simpa using e
theorem OQ.kept {row : Option Nat} (h : OQ w base A n c zs) (hg : w.grownBy w' row) (hne : ∀ g o, A = some ⟨g, o, none⟩ → some g ≠ row) : OQ w' base A n c zs := by
  obtain ⟨h1, h2, h3, g, o, cur, e, hb, hh, hs, hc⟩ := h
  refine ⟨h1, h2, h3, g, o, cur, e, hb, ?_, hs, hc⟩
  rw [hg.block g (Array.getElem?_eq_some_iff.1 hh).1 (hne g o e)]
  exact hh
theorem OQ.drew (h : OQ w base A n c zs) : OQ w.drew base A n c zs := h
/-- q[1:] -/
theorem OQ.tail {x : Int} (h : OQ w base A n c (x :: zs)) : OQ w base (if c = 1 then A else A.map (·.add 1)) (n - 1) (c - 1) zs := by
  obtain ⟨h1, h2, h3, g, o, cur, rfl, hb, hh, hs, hc⟩ := h
  have hl : zs.length + 1 = n := by simpa using h1
  refine ⟨by omega, by omega, by omega, ?_⟩
  by_cases hc1 : c = 1
  · rw [if_pos hc1]
    have : zs = [] := List.eq_nil_of_length_eq_zero (by omega)
    subst this
    exact ⟨g, o, cur, rfl, hb, hh, by omega, by simp⟩
  · rw [if_neg hc1]
    refine ⟨g, o + 1, cur, by rw [Option.map_some, lit_add], hb, hh, by omega, fun j y hy => ?_⟩
    have := hc (j + 1) y (by simpa using hy)
    rwa [show o + (j + 1) = o + 1 + j from by omega] at this
end

/-- append(q, z) -/
theorem wpList_qpush {ops : Array Oper} {rest : List Oper} {o : Oper} {a : Act} {Q : Exit → Act → World → Prop} (w0 : World) (z : Int) (hgd : o.guard = none) (s x : Operand)
    (ho : o.op = .call { callee := .builtin .append, args := #[s, x], argTypes := #[22, 22] })
    (base g off n c : Nat) (zs : List Int) (hs : a.eval s = .slice (some ⟨g, off, none⟩) n c) (hx : a.eval x = .slice (some ⟨w0.heap.size, 0, none⟩) 1 1) (hO : OQ w0 base (some ⟨g, off, none⟩) n c zs)
    (hn : n ≤ 1099511627776) (hb : base ≤ w0.heap.size)
    (h : ∀ A' c' w', OQ w' base A' (n + 1) c' (zs ++ [z]) → w0.grownBy w' (some g) → wpList Try.prog ops Q rest (a.put o.dst (.slice A' (n + 1) c')) w') :
    wpList Try.prog ops Q (o :: rest) a (w0.alloc (.cells #[.int .i64 z] 3)) := by
  obtain ⟨i0, hi, hz0, hz1, hz2⟩ := info_parts infoInt
  obtain ⟨hl, hnc, hcm, g', o', cur, e, hbg, hh, hsz, hc⟩ := hO
  injection e with e; injection e with e1 e2; subst e1; subst e2
  have hgs : g < w0.heap.size := (Array.getElem?_eq_some_iff.1 hh).1
  have hh' : (w0.alloc (.cells #[.int .i64 z] 3)).heap[g]? = some (.cells cur 3 (0, 0)) := by rw [Below.heap_alloc _ _ _ hgs]; exact hh
  have hG0 := World.grownBy_alloc w0 (.cells #[.int .i64 z] 3) (some g)
  refine wpList_append_arg _ hgd s x 22 ho 3 i0 (.int .i64 0) 1 8 Try.underlying22 hi hz0 hz1 hz2 rfl (by decide) g off n c (zs.map (.int .i64)) hs (by simpa using hl) ?_ ⟨w0.heap.size, 0, none⟩ 1 1 [.int .i64 z] hx rfl (cell_one_new _ _ _) (by simp [Value.oneCell']) ?_ (by unfold maxLen; omega) (by omega) ?_ ?_
  · intro j u hu
    rw [cell_of_row _ g (off + j) cur _ (0, 0) hh']
    rw [List.getElem?_map] at hu
    cases hz : zs[j]? with
    | none => rw [hz] at hu; cases hu
    | some y => rw [hz] at hu; rw [← hu]; exact hc j y hz
  · intro hroom j hj
    have hj0 : j = 0 := by simp at hj; omega
    subst hj0
    refine ⟨?_, frozen_of_row _ g _ cur _ hh'⟩
    rw [cell_of_row _ g _ cur _ (0, 0) hh', Option.isSome_iff_exists]
    exact ⟨_, Array.getElem?_eq_getElem (by omega)⟩
  · intro hroom
    have hG1 : (w0.alloc (.cells #[.int .i64 z] 3)).grownBy ((w0.alloc (.cells #[.int .i64 z] 3)).setCells g (off + n * 1) [.int .i64 z]) (some g) := by
      show World.grownBy _ ((w0.alloc (.cells #[.int .i64 z] 3)).setCell ⟨g, off + n * 1, none⟩ (.int .i64 z)) _
      exact ⟨rfl, rfl, rfl, by simp, fun k _ hk => Below.heap_setCell _ _ _ k (fun e => hk (by rw [e]))⟩
    refine h _ _ _ ⟨by simp; omega, hroom, hcm, g, off, cur.setIfInBounds (off + n) (.int .i64 z), rfl, hbg, ?_, by simpa using hsz, fun j y hy => ?_⟩ (hG0.trans hG1)
    · show ((w0.alloc (.cells #[.int .i64 z] 3)).setCell ⟨g, off + n * 1, none⟩ (.int .i64 z)).heap[g]? = _
      rw [Nat.mul_one]
      exact heap_setCell_same _ g (off + n) cur _ _ hh'
    · by_cases hj : j < n
      · rw [List.getElem?_append_left (by omega)] at hy
        rw [Array.getElem?_setIfInBounds_ne (by omega)]
        exact hc j y hy
      · have hjn : j = n := by
          have := (List.getElem?_eq_some_iff.1 hy).1
          simp at this; omega
        subst hjn
        rw [List.getElem?_append_right (by omega), hl, Nat.sub_self] at hy
        simp at hy
        subst hy
        rw [Array.getElem?_setIfInBounds_self_of_lt (by omega)]
  · intro hfull v' w' hown' hg'
    obtain ⟨g2, c2, rfl, hO2⟩ := OS.succ (zs := zs ++ [z]) hown' (by simp)
    have hO3 := OQ.of_OS hO2
    obtain ⟨r1, r2, r3, g3, o3, cur3, e3, hb3, r4⟩ := hO3
    refine h _ _ _ ⟨r1, r2, r3, g3, o3, cur3, e3, ?_, r4⟩ (hG0.trans ⟨hg'.os, hg'.tape, hg'.output, hg'.size, fun k hk _ => hg'.block k hk (by simp)⟩)
    simp at hb3
    omega
end Go.Proofs.Ytmppiifkajmbgaa

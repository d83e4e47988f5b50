/- Words for memory: slices of structs whose fields are ints, as the flat list of their fields; read: RI at n * k. -/
import Derived.Test.YtkpjlkahebeljaaDoorMem
import Derived.RangeFuncBox
namespace Go.Proofs.YtkpjlkahebeljaaDoor
open Go.RowKit
set_option linter.unusedVariables false

/-- a slice of n structs of type e with k ints each that the call owns and may append to -/
def OF (e k : Nat) (w : World) (base : Nat) (A : Option Addr) (n c : Nat) (zs : List Int) : Prop := w.ownsRow base e k (.slice A n c) n (zs.map (.int .i64))
/-- the same where the capacity may be clipped -/
def OFI (e k : Nat) (w : World) (base : Nat) (A : Option Addr) (n c : Nat) (zs : List Int) : Prop :=
  zs.length = n * k ∧ n ≤ c ∧ c ≤ maxLen ∧ ((A = none ∧ n = 0) ∨ ∃ g cur, A = some ⟨g, 0, none⟩ ∧ base ≤ g ∧ w.heap[g]? = some (.cells cur e (0, 0)) ∧ n * k ≤ cur.size ∧ cur.toList.take (n * k) = zs.map (.int .i64))

section
variable {e k : Nat} {w w' : World} {B base : Nat} {A : Option Addr} {n c : Nat} {zs : List Int}
theorem OF.toI (h : OF e k w base A n c zs) : OFI e k w base A n c zs := by
  have hl : zs.length = n * k := by have := h.1; simpa using this
  rcases h.2 with ⟨hv, hn⟩ | ⟨g, cap, cur, hv, hg, hh, hnc, hcm, hcs, ht⟩
  · injection hv with h0 h1 h2
    exact ⟨hl, by omega, by rw [h2]; simp [maxLen], .inl ⟨h0, hn⟩⟩
  · injection hv with h0 _ h3
    subst h3
    exact ⟨hl, hnc, hcm, .inr ⟨g, cur, h0, hg, hh, by rw [hcs]; exact Nat.mul_le_mul_right _ hnc, ht⟩⟩
theorem OF.len (h : OF e k w base A n c zs) : zs.length = n * k := h.toI.1
theorem OF.kept {row : Option Nat} (h : OF e k w base A n c zs) (hg : w.grownBy w' row) (hne : (Value.slice A n c).ownBlock = none ∨ (Value.slice A n c).ownBlock ≠ row) : OF e k w' base A n c zs := World.ownsRow.kept h hg hne
theorem OF.alloc (h : OF e k w base A n c zs) (o : Obj) : OF e k (w.alloc o) base A n c zs := World.ownsRow.alloc h o
theorem OF.drewN (h : OF e k w base A n c zs) (m : Nat) : OF e k (w.drewN m) base A n c zs := h
theorem OF.lt (h : OF e k w base A n c zs) : ∀ j, (Value.slice A n c).ownBlock = some j → base ≤ j ∧ j < w.heap.size := World.ownsRow.lt h
theorem OF.below {K : Nat} (h : OF e k w base A n c zs) (hb : Below K w w') (hK : w.heap.size ≤ K) : OF e k w' base A n c zs := by
  have hg : w.grownBy w' none := ⟨hb.os, hb.tape, hb.output, hb.size, fun k hk _ => hb.block k (by omega)⟩
  exact h.kept hg (by cases (Value.slice A n c).ownBlock <;> simp)
theorem OF.apart {row : Nat} (h : OF e k w base A n c zs) (hg : w.grownBy w' (some row)) (hne : row < base ∨ w.heap.size ≤ row) : OF e k w' base A n c zs := by
  refine h.kept hg ?_
  cases e : (Value.slice A n c).ownBlock with
  | none => exact .inl rfl
  | some k => exact .inr (fun e' => by have := h.lt k e; injection e' with e'; omega)
theorem OF.sepV {V : Value} (h : OF e k w base A n c zs) (hg : w.grownBy w' V.ownBlock) (hd : ∀ j i, (Value.slice A n c).ownBlock = some j → V.ownBlock = some i → j ≠ i) : OF e k w' base A n c zs := by
  refine h.kept hg ?_
  cases e : (Value.slice A n c).ownBlock with
  | none => exact .inl rfl
  | some j => exact .inr (fun e' => hd j j e e'.symm rfl)
theorem OF.cap (h : OF e k w base A n c zs) : n ≤ c ∧ c ≤ maxLen := ⟨h.toI.2.1, h.toI.2.2.1⟩
theorem OF.of {v : Value} {n : Nat} {xs : List Value} (h : w.ownsRow base e k v n xs) (hx : xs = zs.map (.int .i64)) : ∃ A c, v = .slice A n c ∧ OF e k w base A n c zs := by
  subst hx
  rcases h.2 with ⟨hv, h0⟩ | ⟨g, cap, cur, hv, r⟩
  · refine ⟨none, 0, by rw [hv, h0], ?_⟩
    have : v = .slice none n 0 := by rw [hv, h0]
    rw [this] at h
    exact h
  · refine ⟨_, cap, hv, ?_⟩
    rw [hv] at h
    exact h
theorem OF.mono {base' : Nat} (h : OF e k w base A n c zs) (hb : base' ≤ base) : OF e k w base' A n c zs :=
  ⟨h.1, h.2.imp id (fun ⟨g, cap, cur, h1, h2, h3⟩ => ⟨g, cap, cur, h1, Nat.le_trans hb h2, h3⟩)⟩
theorem OF.empty (w : World) : OF e k (w.alloc (.cells #[] e)) w.heap.size (some ⟨w.heap.size, 0, none⟩) 0 0 [] := World.ownsRow_made w #[] 0 (Nat.le_refl _) (by simp [maxLen]) (by simp)
theorem OF.nil (w : World) (base : Nat) : OF e k w base none 0 0 [] := World.ownsRow_nil w base e k

theorem OFI.len (h : OFI e k w base A n c zs) : zs.length = n * k := h.1
theorem OFI.cap (h : OFI e k w base A n c zs) : n ≤ c ∧ c ≤ maxLen := ⟨h.2.1, h.2.2.1⟩
theorem OFI.nil (w : World) (base : Nat) : OFI e k w base none 0 0 [] := ⟨by simp, Nat.le_refl _, by simp [maxLen], .inl ⟨rfl, rfl⟩⟩
theorem OFI.lt (h : OFI e k w base A n c zs) : ∀ j, (Value.slice A n c).ownBlock = some j → base ≤ j ∧ j < w.heap.size := by
  intro j hj
  rcases h.2.2.2 with ⟨rfl, _⟩ | ⟨g, cur, rfl, hb, hg, _⟩
  · simp [Value.ownBlock] at hj
  · simp [Value.ownBlock] at hj
    subst hj
    exact ⟨hb, (Array.getElem?_eq_some_iff.1 hg).1⟩
theorem OFI.cellAt {g : Nat} (h : OFI e k w base (some ⟨g, 0, none⟩) n c zs) {j : Nat} (hj : j < n * k) : w.cell? ⟨g, j, none⟩ = (zs.map (Value.int .i64))[j]? := by
  rcases h.2.2.2 with ⟨h0, _⟩ | ⟨g', cur, e', hb, hg, _, ht⟩
  · cases h0
  · injection e' with e'; injection e' with e'; subst e'
    rw [cell_of_row w g j cur _ (0, 0) hg, ← ht, List.getElem?_take, if_pos hj]
    simp
theorem OFI.cellVal {g : Nat} (h : OFI e k w base (some ⟨g, 0, none⟩) n c zs) {j : Nat} {x : Int} (hx : zs[j]? = some x) : w.cell? ⟨g, j, none⟩ = some (.int .i64 x) := by
  have hj : j < n * k := by have := (List.getElem?_eq_some_iff.1 hx).1; have := h.len; omega
  rw [h.cellAt hj, List.getElem?_map, hx]; rfl
theorem OFI.cellSome {g : Nat} (h : OFI e k w base (some ⟨g, 0, none⟩) n c zs) {j : Nat} (hj : j < n * k) : ∃ x : Int, w.cell? ⟨g, j, none⟩ = some (.int .i64 x) := by
  have hl : j < zs.length := by rw [h.len]; exact hj
  exact ⟨_, h.cellVal (List.getElem?_eq_getElem hl)⟩
theorem OFI.frozenAt {g : Nat} (h : OFI e k w base (some ⟨g, 0, none⟩) n c zs) (j : Nat) : w.frozen? ⟨g, j, none⟩ = false := by
  rcases h.2.2.2 with ⟨h0, _⟩ | ⟨g', cur, e', hb, hg, _⟩
  · cases h0
  · injection e' with e'; injection e' with e'; subst e'
    exact frozen_of_row w g j cur _ hg
theorem OFI.addr (h : OFI e k w base A n c zs) (hn : 0 < n) : ∃ g, A = some ⟨g, 0, none⟩ ∧ base ≤ g ∧ g < w.heap.size := by
  rcases h.2.2.2 with ⟨_, h0⟩ | ⟨g, cur, e', hb, hg, _⟩
  · omega
  · exact ⟨g, e', hb, (Array.getElem?_eq_some_iff.1 hg).1⟩
theorem OFI.reads (h : OFI e k w base A n c zs) : RI w w.heap.size A (n * k) zs := by
  refine ⟨by simpa using h.1, fun hn => ?_⟩
  obtain ⟨g, rfl, _, hlt⟩ := h.addr (Nat.pos_of_ne_zero (fun e => by rw [e] at hn; simp at hn))
  refine ⟨_, rfl, hlt, fun j u hu => ?_⟩
  have hj : j < n * k := by have := (List.getElem?_eq_some_iff.1 hu).1; simp at this; have := h.1; omega
  rw [lit_add, Nat.zero_add, h.cellAt hj]; exact hu
theorem OF.reads (h : OF e k w base A n c zs) : RI w w.heap.size A (n * k) zs := h.toI.reads
theorem OFI.kept {row : Option Nat} (h : OFI e k w base A n c zs) (hg : w.grownBy w' row) (hne : (Value.slice A n c).ownBlock = none ∨ (Value.slice A n c).ownBlock ≠ row) : OFI e k w' base A n c zs := by
  refine ⟨h.1, h.2.1, h.2.2.1, ?_⟩
  rcases h.2.2.2 with hn | ⟨g, cur, rfl, hb, hh, rest⟩
  · exact .inl hn
  · refine .inr ⟨g, cur, rfl, hb, ?_, rest⟩
    rw [hg.block g (Array.getElem?_eq_some_iff.1 hh).1 (by simpa [Value.ownBlock] using hne)]
    exact hh
theorem OFI.alloc (h : OFI e k w base A n c zs) (o : Obj) : OFI e k (w.alloc o) base A n c zs := h.kept (World.grownBy_alloc w o none) (by cases hv : (Value.slice A n c).ownBlock <;> simp)
theorem OFI.drewN (h : OFI e k w base A n c zs) (m : Nat) : OFI e k (w.drewN m) base A n c zs := h
theorem OFI.below {K : Nat} (h : OFI e k w base A n c zs) (hb : Below K w w') (hK : w.heap.size ≤ K) : OFI e k w' base A n c zs := by
  have hg : w.grownBy w' none := ⟨hb.os, hb.tape, hb.output, hb.size, fun k hk _ => hb.block k (by omega)⟩
  exact h.kept hg (by cases (Value.slice A n c).ownBlock <;> simp)
theorem OFI.apart {row : Nat} (h : OFI e k w base A n c zs) (hg : w.grownBy w' (some row)) (hne : row < base ∨ w.heap.size ≤ row) : OFI e k w' base A n c zs := by
  refine h.kept hg ?_
  cases e : (Value.slice A n c).ownBlock with
  | none => exact .inl rfl
  | some k => exact .inr (fun e' => by have := h.lt k e; injection e' with e'; omega)
theorem OFI.sepV {V : Value} (h : OFI e k w base A n c zs) (hg : w.grownBy w' V.ownBlock) (hd : ∀ j i, (Value.slice A n c).ownBlock = some j → V.ownBlock = some i → j ≠ i) : OFI e k w' base A n c zs := by
  refine h.kept hg ?_
  cases e : (Value.slice A n c).ownBlock with
  | none => exact .inl rfl
  | some j => exact .inr (fun e' => hd j j e e'.symm rfl)
theorem OFI.mono {base' : Nat} (h : OFI e k w base A n c zs) (hb : base' ≤ base) : OFI e k w base' A n c zs := by
  refine ⟨h.1, h.2.1, h.2.2.1, ?_⟩
  rcases h.2.2.2 with hn | ⟨g, cur, hv, hg, rest⟩
  · exact .inl hn
  · exact .inr ⟨g, cur, hv, by omega, rest⟩
theorem OFI.clip (h : OFI e k w base A n c zs) : OFI e k w base A n n zs := ⟨h.1, Nat.le_refl _, Nat.le_trans h.2.1 h.2.2.1, h.2.2.2⟩
theorem OFI.stored {g j : Nat} (h : OFI e k w base (some ⟨g, 0, none⟩) n c zs) (x : Int) : OFI e k (w.setCell ⟨g, j, none⟩ (.int .i64 x)) base (some ⟨g, 0, none⟩) n c (zs.set j x) ∧ w.grownBy (w.setCell ⟨g, j, none⟩ (.int .i64 x)) (some g) := by
  refine ⟨⟨by simpa using h.1, h.2.1, h.2.2.1, .inr ?_⟩, ⟨rfl, rfl, rfl, by simp, fun k' _ hk' => heap_setCell_other w ⟨g, j, none⟩ k' _ (fun e => hk' (by simp [e]))⟩⟩
  rcases h.2.2.2 with ⟨h0, _⟩ | ⟨g', cur, e', hb, hg, hn, ht⟩
  · cases h0
  · injection e' with e'; injection e' with e'; subst e'
    refine ⟨g, cur.setIfInBounds j (.int .i64 x), rfl, hb, heap_setCell_same w g j cur _ _ hg, by simpa using hn, ?_⟩
    rw [Array.toList_setIfInBounds, List.map_set, ← ht, List.take_set]
end

/-- the function returns a new slice of structs that reads zs; nothing that lay has turned -/
def GivesF (ty k : Nat) (w : World) (zs : List Int) (e : Ending) (w' : World) : Prop := ∃ A n c, e = .returned (.slice A n c) ∧ OFI ty k w' w.heap.size A n c zs ∧ Below w.heap.size w w'
theorem GivesF.nil (ty k : Nat) (w : World) : GivesF ty k w [] (.returned (.slice none 0 0)) w := ⟨none, 0, 0, rfl, OFI.nil _ _, Below.refl _ _⟩
end Go.Proofs.YtkpjlkahebeljaaDoor

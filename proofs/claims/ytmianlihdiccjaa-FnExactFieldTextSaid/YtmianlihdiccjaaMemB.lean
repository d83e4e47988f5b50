/- Words for memory: slices of bools that are read, slices of bools that the call owns. -/
import Derived.Test.YtmianlihdiccjaaMem
namespace Go.Proofs.Ytmianlihdiccjaa
open Go.RowKit
set_option linter.unusedVariables false

/-- a slice of n bools that is read -/
def RL (w : World) (B : Nat) (A : Option Addr) (n : Nat) (zs : List Bool) : Prop := Reads w B A n (zs.map (.bool))
/-- a slice of n bools that the call owns and may append to, in a block from base on -/
def OSb (w : World) (base : Nat) (A : Option Addr) (n c : Nat) (zs : List Bool) : Prop := w.ownsRow base 4 1 (.slice A n c) n (zs.map (.bool))
/-- a slice of n bools that the call owns (its capacity may be clipped), in a block from base on -/
def OIb (w : World) (base : Nat) (A : Option Addr) (n c : Nat) (zs : List Bool) : Prop :=
  zs.length = n ∧ n ≤ c ∧ c ≤ maxLen ∧ ((A = none ∧ n = 0) ∨ ∃ g cur, A = some ⟨g, 0, none⟩ ∧ base ≤ g ∧ w.heap[g]? = some (.cells cur 4 (0, 0)) ∧ n ≤ cur.size ∧ cur.toList.take n = zs.map (.bool))

section
variable {w w' : World} {B base : Nat} {A : Option Addr} {n c : Nat} {zs : List Bool}
theorem RL.len (h : RL w B A n zs) : zs.length = n := by simpa using h.1
theorem RL.at_ {k : Nat} (h : RL w B A n zs) (hk : k < n) : ∃ ad x, A = some ad ∧ ad.block < B ∧ zs[k]? = some x ∧ w.cell? (ad.add k) = some (.bool x) := by
  have hk' : k < zs.length := by rw [h.len]; exact hk
  obtain ⟨ad, u, e, hb, hx, hc⟩ := Reads.at_ h hk
  rw [List.getElem?_map, List.getElem?_eq_getElem hk'] at hx
  simp at hx
  exact ⟨ad, zs[k], e, hb, List.getElem?_eq_getElem hk', by rw [hc, ← hx]⟩
theorem RL.nil : RL w B A 0 [] := Reads.none_
theorem RL.keep (h : RL w B A n zs) (hk : ∀ p : Addr, p.block < B → w'.cell? p = w.cell? p) : RL w' B A n zs := Reads.keep h hk
theorem RL.more {B' : Nat} (h : RL w B A n zs) (hB : B ≤ B') : RL w B' A n zs := Reads.more h hB
theorem RL.below (h : RL w B A n zs) (hb : Below B w w') : RL w' B A n zs := Reads.below h hb
theorem RL.drewN (h : RL w B A n zs) (k : Nat) : RL (w.drewN k) B A n zs := h
theorem RL.alloc (h : RL w B A n zs) (hB : B ≤ w.heap.size) (o : Obj) : RL (w.alloc o) B A n zs := Reads.alloc h hB o
theorem RL.grown (h : RL w B A n zs) {row : Option Nat} (hg : w.grownBy w' row) (hB : B ≤ w.heap.size) (hr : ∀ g, row = some g → B ≤ g) : RL w' B A n zs := Reads.grown h hg hB hr
/-- everything that lay is kept: read at the new world's own size -/
theorem RL.up (h : RL w B A n zs) (hB : B ≤ w.heap.size) {K : Nat} (hb : Below K w w') (hK : w.heap.size ≤ K) : RL w' w'.heap.size A n zs := ((h.more hB).below (hb.mono hK)).more hb.size
theorem RL.take (h : RL w B A n zs) {j : Nat} (hj : j ≤ n) : RL w B A j (zs.take j) := by
  have hl := h.len
  refine ⟨by simp; omega, fun hn => ?_⟩
  obtain ⟨ad, e, hb, hc⟩ := h.2 (by omega)
  refine ⟨ad, e, hb, fun i u hu => hc i u ?_⟩
  rw [List.map_take, List.getElem?_take] at hu
  split at hu
  · exact hu
  · cases hu

theorem OSb.toI (h : OSb w base A n c zs) : OIb w base A n c zs := by
  have hl : zs.length = n := by have := h.1; simpa using this
  rcases h.2 with ⟨hv, hn⟩ | ⟨g, cap, cur, hv, hg, hh, hnc, hcm, hcs, ht⟩
  · injection hv with h0 h1 h2
    exact ⟨hl, by omega, by rw [h2]; simp [maxLen], .inl ⟨h0, hn⟩⟩
  · injection hv with h0 _ h3
    subst h3
    exact ⟨hl, hnc, hcm, .inr ⟨g, cur, h0, hg, hh, by omega, by simpa using ht⟩⟩
theorem OSb.len (h : OSb w base A n c zs) : zs.length = n := h.toI.1
theorem OSb.reads (h : OSb w base A n c zs) : RL w w.heap.size A n zs := Reads.of_own h
theorem OSb.kept {row : Option Nat} (h : OSb w base A n c zs) (hg : w.grownBy w' row) (hne : (Value.slice A n c).ownBlock = none ∨ (Value.slice A n c).ownBlock ≠ row) : OSb w' base A n c zs := World.ownsRow.kept h hg hne
theorem OSb.alloc (h : OSb w base A n c zs) (o : Obj) : OSb (w.alloc o) base A n c zs := World.ownsRow.alloc h o
theorem OSb.lt (h : OSb w base A n c zs) : ∀ k, (Value.slice A n c).ownBlock = some k → base ≤ k ∧ k < w.heap.size := World.ownsRow.lt h
theorem OSb.below {K : Nat} (h : OSb w base A n c zs) (hb : Below K w w') (hK : w.heap.size ≤ K) : OSb w' base A n c zs := by
  have hg : w.grownBy w' none := ⟨hb.os, hb.tape, hb.output, hb.size, fun k hk _ => hb.block k (by omega)⟩
  exact h.kept hg (by cases (Value.slice A n c).ownBlock <;> simp)
theorem OSb.apart {row : Nat} (h : OSb w base A n c zs) (hg : w.grownBy w' (some row)) (hne : row < base ∨ w.heap.size ≤ row) : OSb w' base A n c zs := by
  refine h.kept hg ?_
  cases e : (Value.slice A n c).ownBlock with
  | none => exact .inl rfl
  | some k => exact .inr (fun e' => by have := h.lt k e; injection e' with e'; omega)
theorem OSb.sepV {V : Value} (h : OSb w base A n c zs) (hg : w.grownBy w' V.ownBlock) (hd : ∀ j k, (Value.slice A n c).ownBlock = some j → V.ownBlock = some k → j ≠ k) : OSb w' base A n c zs := by
  refine h.kept hg ?_
  cases e : (Value.slice A n c).ownBlock with
  | none => exact .inl rfl
  | some j => exact .inr (fun e' => hd j j e e'.symm rfl)
theorem OSb.cap (h : OSb w base A n c zs) : n ≤ c ∧ c ≤ maxLen := ⟨h.toI.2.1, h.toI.2.2.1⟩
theorem OSb.of {v : Value} {n : Nat} {xs : List Value} (h : w.ownsRow base 4 1 v n xs) (hx : xs = zs.map (.bool)) : ∃ A c, v = .slice A n c ∧ OSb w base A n c zs := by
  subst hx
  rcases h.2 with ⟨hv, h0⟩ | ⟨g, cap, cur, hv, r⟩
  · refine ⟨none, 0, by rw [hv, h0], ?_⟩
    have : v = .slice none n 0 := by rw [hv, h0]
    rw [this] at h
    exact h
  · refine ⟨_, cap, hv, ?_⟩
    rw [hv] at h
    exact h
/-- an empty new slice -/
theorem OSb.empty (w : World) : OSb (w.alloc (.cells #[] 4)) w.heap.size (some ⟨w.heap.size, 0, none⟩) 0 0 [] := World.ownsRow_made w #[] 0 (Nat.le_refl _) (by simp [maxLen]) rfl
theorem OSb.stored {g k : Nat} (h : OSb w base (some ⟨g, 0, none⟩) n c zs) (x : Bool) : OSb (w.setCell ⟨g, k, none⟩ (.bool x)) base (some ⟨g, 0, none⟩) n c (zs.set k x) ∧ w.grownBy (w.setCell ⟨g, k, none⟩ (.bool x)) (some g) := by
  have := World.ownsRow.stored (g := g) h k (.bool x)
  rw [← List.map_set] at this
  exact this

theorem OIb.len (h : OIb w base A n c zs) : zs.length = n := h.1
theorem OIb.cap (h : OIb w base A n c zs) : n ≤ c ∧ c ≤ maxLen := ⟨h.2.1, h.2.2.1⟩
theorem OIb.lt (h : OIb w base A n c zs) : ∀ k, (Value.slice A n c).ownBlock = some k → base ≤ k ∧ k < w.heap.size := by
  intro k hk
  rcases h.2.2.2 with ⟨rfl, _⟩ | ⟨g, cur, rfl, hb, hg, _⟩
  · simp [Value.ownBlock] at hk
  · simp [Value.ownBlock] at hk
    subst hk
    exact ⟨hb, (Array.getElem?_eq_some_iff.1 hg).1⟩
theorem OIb.cellAt {g : Nat} (h : OIb w base (some ⟨g, 0, none⟩) n c zs) {j : Nat} (hj : j < n) : w.cell? ⟨g, j, none⟩ = (zs.map (Value.bool))[j]? := by
  rcases h.2.2.2 with ⟨h0, _⟩ | ⟨g', cur, e, hb, hg, _, ht⟩
  · cases h0
  · injection e with e; injection e with e; subst e
    rw [cell_of_row w g j cur _ (0, 0) hg, ← ht, List.getElem?_take, if_pos hj]
    simp
theorem OIb.frozenAt {g : Nat} (h : OIb w base (some ⟨g, 0, none⟩) n c zs) (j : Nat) : w.frozen? ⟨g, j, none⟩ = false := by
  rcases h.2.2.2 with ⟨h0, _⟩ | ⟨g', cur, e, hb, hg, _⟩
  · cases h0
  · injection e with e; injection e with e; subst e
    exact frozen_of_row w g j cur _ hg
theorem OIb.addr (h : OIb w base A n c zs) (hn : 0 < n) : ∃ g, A = some ⟨g, 0, none⟩ ∧ base ≤ g ∧ g < w.heap.size := by
  rcases h.2.2.2 with ⟨_, h0⟩ | ⟨g, cur, e, hb, hg, _⟩
  · omega
  · exact ⟨g, e, hb, (Array.getElem?_eq_some_iff.1 hg).1⟩
theorem OIb.reads (h : OIb w base A n c zs) : RL w w.heap.size A n zs := by
  refine ⟨by simpa using h.1, fun hn => ?_⟩
  obtain ⟨g, rfl, _, hlt⟩ := h.addr hn
  refine ⟨_, rfl, hlt, fun j u hu => ?_⟩
  have hj : j < n := by have := (List.getElem?_eq_some_iff.1 hu).1; simp at this; have := h.1; omega
  rw [lit_add, Nat.zero_add, h.cellAt hj]; exact hu
theorem OIb.kept {row : Option Nat} (h : OIb w base A n c zs) (hg : w.grownBy w' row) (hne : (Value.slice A n c).ownBlock = none ∨ (Value.slice A n c).ownBlock ≠ row) : OIb w' base A n c zs := by
  refine ⟨h.1, h.2.1, h.2.2.1, ?_⟩
  rcases h.2.2.2 with hn | ⟨g, cur, rfl, hb, hh, rest⟩
  · exact .inl hn
  · refine .inr ⟨g, cur, rfl, hb, ?_, rest⟩
    rw [hg.block g (Array.getElem?_eq_some_iff.1 hh).1 (by simpa [Value.ownBlock] using hne)]
    exact hh
theorem OIb.alloc (h : OIb w base A n c zs) (o : Obj) : OIb (w.alloc o) base A n c zs := h.kept (World.grownBy_alloc w o none) (by cases hv : (Value.slice A n c).ownBlock <;> simp)
theorem OIb.drewN (h : OIb w base A n c zs) (k : Nat) : OIb (w.drewN k) base A n c zs := h
theorem OIb.below {K : Nat} (h : OIb w base A n c zs) (hb : Below K w w') (hK : w.heap.size ≤ K) : OIb w' base A n c zs := by
  have hg : w.grownBy w' none := ⟨hb.os, hb.tape, hb.output, hb.size, fun k hk _ => hb.block k (by omega)⟩
  exact h.kept hg (by cases (Value.slice A n c).ownBlock <;> simp)
/-- a row of the call's own is kept by a step that turns one other row -/
theorem OIb.apart {row : Nat} (h : OIb w base A n c zs) (hg : w.grownBy w' (some row)) (hne : row < base ∨ w.heap.size ≤ row) : OIb w' base A n c zs := by
  refine h.kept hg ?_
  cases e : (Value.slice A n c).ownBlock with
  | none => exact .inl rfl
  | some k => exact .inr (fun e' => by have := h.lt k e; injection e' with e'; omega)
theorem OIb.sepV {V : Value} (h : OIb w base A n c zs) (hg : w.grownBy w' V.ownBlock) (hd : ∀ j k, (Value.slice A n c).ownBlock = some j → V.ownBlock = some k → j ≠ k) : OIb w' base A n c zs := by
  refine h.kept hg ?_
  cases e : (Value.slice A n c).ownBlock with
  | none => exact .inl rfl
  | some j => exact .inr (fun e' => hd j j e e'.symm rfl)
theorem OIb.mono {base' : Nat} (h : OIb w base A n c zs) (hb : base' ≤ base) : OIb w base' A n c zs := by
  refine ⟨h.1, h.2.1, h.2.2.1, ?_⟩
  rcases h.2.2.2 with hn | ⟨g, cur, hv, hg, rest⟩
  · exact .inl hn
  · exact .inr ⟨g, cur, hv, by omega, rest⟩
theorem OIb.clip (h : OIb w base A n c zs) : OIb w base A n n zs := ⟨h.1, Nat.le_refl _, Nat.le_trans h.2.1 h.2.2.1, h.2.2.2⟩
theorem OIb.stored {g k : Nat} (h : OIb w base (some ⟨g, 0, none⟩) n c zs) (hk : k < n) (x : Bool) : OIb (w.setCell ⟨g, k, none⟩ (.bool x)) base (some ⟨g, 0, none⟩) n c (zs.set k x) ∧ w.grownBy (w.setCell ⟨g, k, none⟩ (.bool x)) (some g) := by
  refine ⟨⟨by simpa using h.1, h.2.1, h.2.2.1, .inr ?_⟩, ⟨rfl, rfl, rfl, by simp, fun k' _ hk' => heap_setCell_other w ⟨g, k, none⟩ k' _ (fun e => hk' (by simp [e]))⟩⟩
  rcases h.2.2.2 with ⟨h0, _⟩ | ⟨g', cur, e, hb, hg, hn, ht⟩
  · cases h0
  · injection e with e; injection e with e; subst e
    refine ⟨g, cur.setIfInBounds k (.bool x), rfl, hb, heap_setCell_same w g k cur _ _ hg, by simpa using hn, ?_⟩
    rw [Array.toList_setIfInBounds, List.map_set, ← ht, List.take_set]
end


/-- the function returns a new slice that reads zs; nothing that lay has turned -/
def GivesB (w : World) (zs : List Bool) (e : Ending) (w' : World) : Prop := ∃ A n c, e = .returned (.slice A n c) ∧ OIb w' w.heap.size A n c zs ∧ Below w.heap.size w w'


end Go.Proofs.Ytmianlihdiccjaa

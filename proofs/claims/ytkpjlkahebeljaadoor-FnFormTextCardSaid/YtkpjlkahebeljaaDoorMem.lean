/- Words for memory: slices of integers that are read, slices of integers that the call owns. -/
import Derived.Test.YtkpjlkahebeljaaDoorPl
import Derived.WalkKit
import Derived.WalkLawsBesides
import Derived.WalkSpells
import Derived.Lib.Hide
import Derived.Maps.AppendAt
import Derived.Deep.AppendLies
import Derived.Deep.Draws
namespace Go.Proofs.YtkpjlkahebeljaaDoor
open Go.RowKit
set_option linter.unusedVariables false

theorem blk_add (a : Addr) (n : Nat) : (a.add n).block = a.block := by unfold Addr.add; split <;> rfl
theorem lit_add (g o j : Nat) : (⟨g, o, none⟩ : Addr).add j = ⟨g, o + j, none⟩ := by unfold Addr.add; split <;> simp_all

/-- the slice '.slice A n c' reads as xs (one cell an element), below block B -/
def Reads (w : World) (B : Nat) (A : Option Addr) (n : Nat) (xs : List Value) : Prop :=
  xs.length = n ∧ (0 < n → ∃ ad, A = some ad ∧ ad.block < B ∧ ∀ j u, xs[j]? = some u → w.cell? (ad.add j) = some u)

section
variable {w w' : World} {B B' n : Nat} {A : Option Addr} {xs : List Value}
theorem Reads.none_ : Reads w B A 0 [] := ⟨rfl, fun h => absurd h (by omega)⟩
theorem Reads.at_ {k : Nat} (h : Reads w B A n xs) (hk : k < n) : ∃ ad u, A = some ad ∧ ad.block < B ∧ xs[k]? = some u ∧ w.cell? (ad.add k) = some u := by
  obtain ⟨ad, e, hb, hc⟩ := h.2 (by omega)
  have hl : k < xs.length := by have := h.1; omega
  exact ⟨ad, xs[k], e, hb, List.getElem?_eq_getElem hl, hc k _ (List.getElem?_eq_getElem hl)⟩
theorem Reads.keep (h : Reads w B A n xs) (hk : ∀ p : Addr, p.block < B → w'.cell? p = w.cell? p) : Reads w' B A n xs :=
  ⟨h.1, fun hn => by
    obtain ⟨ad, e, hb, hc⟩ := h.2 hn
    exact ⟨ad, e, hb, fun j u hu => (hk _ (by rw [blk_add]; exact hb)).trans (hc j u hu)⟩⟩
theorem Reads.more (h : Reads w B A n xs) (hB : B ≤ B') : Reads w B' A n xs :=
  ⟨h.1, fun hn => by
    obtain ⟨ad, e, hb, hc⟩ := h.2 hn
    exact ⟨ad, e, by omega, hc⟩⟩
theorem Reads.below (h : Reads w B A n xs) (hb : Below B w w') : Reads w' B A n xs := h.keep fun _ hp => hb.cell hp
theorem Reads.drewN (h : Reads w B A n xs) (k : Nat) : Reads (w.drewN k) B A n xs := h
theorem Reads.alloc (h : Reads w B A n xs) (hB : B ≤ w.heap.size) (o : Obj) : Reads (w.alloc o) B A n xs := h.keep fun p hp => World.cell?_alloc_lt w o p (by omega)
theorem Reads.grown (h : Reads w B A n xs) {row : Option Nat} (hg : w.grownBy w' row) (hB : B ≤ w.heap.size) (hr : ∀ g, row = some g → B ≤ g) : Reads w' B A n xs :=
  h.keep fun p hp => World.cell?_of_block (hg.block p.block (by omega) (fun e => by have := hr _ e.symm; omega))
/-- a cut s[k:m] keeps the model's own address -/
theorem Reads.cut (h : Reads w B A n xs) {k m cap : Nat} (hk : k ≤ m) (hm : m ≤ n) (hc : n ≤ cap) :
    Reads w B (if cap = k then A else A.map (·.add k)) (m - k) ((xs.take m).drop k) := by
  refine ⟨by rw [List.length_drop, List.length_take, h.1]; omega, fun hn => ?_⟩
  obtain ⟨ad, rfl, hb, hcell⟩ := h.2 (by omega)
  rw [if_neg (by omega)]
  refine ⟨ad.add k, rfl, by rw [blk_add]; exact hb, fun j u hu => ?_⟩
  have : (ad.add k).add j = ad.add (k + j) := by
    unfold Addr.add
    by_cases hi : k = 0 <;> by_cases hj : j = 0 <;> simp [hi, hj, Nat.add_assoc]
  rw [this]
  refine hcell _ u ?_
  rw [List.getElem?_drop, List.getElem?_take] at hu
  split at hu
  · exact hu
  · cases hu
theorem Reads.of_own {base : Nat} {e : TypeId} {c : Nat} (h : w.ownsRow base e 1 (.slice A n c) n xs) : Reads w w.heap.size A n xs := by
  refine ⟨by simpa using h.1, fun hn => ?_⟩
  obtain ⟨g, cap, hv, _, hlt⟩ := h.form hn
  have hA : A = some ⟨g, 0, none⟩ := by injection hv
  subst hA
  exact ⟨_, rfl, hlt, h.cells (g := g) rfl⟩
end

/-- a slice of n ints that is read -/
def RI (w : World) (B : Nat) (A : Option Addr) (n : Nat) (zs : List Int) : Prop := Reads w B A n (zs.map (.int .i64))
/-- a slice of n ints that the call owns and may append to, in a block from base on -/
def OS (w : World) (base : Nat) (A : Option Addr) (n c : Nat) (zs : List Int) : Prop := w.ownsRow base 3 1 (.slice A n c) n (zs.map (.int .i64))
/-- a slice of n ints that the call owns (its capacity may be clipped), in a block from base on -/
def OI (w : World) (base : Nat) (A : Option Addr) (n c : Nat) (zs : List Int) : Prop :=
  zs.length = n ∧ n ≤ c ∧ c ≤ maxLen ∧ ((A = none ∧ n = 0) ∨ ∃ g cur, A = some ⟨g, 0, none⟩ ∧ base ≤ g ∧ w.heap[g]? = some (.cells cur 3 (0, 0)) ∧ n ≤ cur.size ∧ cur.toList.take n = zs.map (.int .i64))

section
variable {w w' : World} {B base : Nat} {A : Option Addr} {n c : Nat} {zs : List Int}
theorem RI.len (h : RI w B A n zs) : zs.length = n := by simpa using h.1
theorem RI.at_ {k : Nat} (h : RI w B A n zs) (hk : k < n) : ∃ ad x, A = some ad ∧ ad.block < B ∧ zs[k]? = some x ∧ w.cell? (ad.add k) = some (.int .i64 x) := by
  have hk' : k < zs.length := by rw [h.len]; exact hk
  obtain ⟨ad, u, e, hb, hx, hc⟩ := Reads.at_ h hk
  rw [List.getElem?_map, List.getElem?_eq_getElem hk'] at hx
  simp at hx
  exact ⟨ad, zs[k], e, hb, List.getElem?_eq_getElem hk', by rw [hc, ← hx]⟩
theorem RI.nil : RI w B A 0 [] := Reads.none_
theorem RI.keep (h : RI w B A n zs) (hk : ∀ p : Addr, p.block < B → w'.cell? p = w.cell? p) : RI w' B A n zs := Reads.keep h hk
theorem RI.more {B' : Nat} (h : RI w B A n zs) (hB : B ≤ B') : RI w B' A n zs := Reads.more h hB
theorem RI.below (h : RI w B A n zs) (hb : Below B w w') : RI w' B A n zs := Reads.below h hb
theorem RI.drewN (h : RI w B A n zs) (k : Nat) : RI (w.drewN k) B A n zs := h
theorem RI.alloc (h : RI w B A n zs) (hB : B ≤ w.heap.size) (o : Obj) : RI (w.alloc o) B A n zs := Reads.alloc h hB o
theorem RI.grown (h : RI w B A n zs) {row : Option Nat} (hg : w.grownBy w' row) (hB : B ≤ w.heap.size) (hr : ∀ g, row = some g → B ≤ g) : RI w' B A n zs := Reads.grown h hg hB hr
/-- everything that lay is kept: read at the new world's own size -/
theorem RI.up (h : RI w B A n zs) (hB : B ≤ w.heap.size) {K : Nat} (hb : Below K w w') (hK : w.heap.size ≤ K) : RI w' w'.heap.size A n zs := ((h.more hB).below (hb.mono hK)).more hb.size
theorem RI.take (h : RI w B A n zs) {j : Nat} (hj : j ≤ n) : RI w B A j (zs.take j) := by
  have hl := h.len
  refine ⟨by simp; omega, fun hn => ?_⟩
  obtain ⟨ad, e, hb, hc⟩ := h.2 (by omega)
  refine ⟨ad, e, hb, fun i u hu => hc i u ?_⟩
  rw [List.map_take, List.getElem?_take] at hu
  split at hu
  · exact hu
  · cases hu

theorem OS.toI (h : OS w base A n c zs) : OI w base A n c zs := by
  have hl : zs.length = n := by have := h.1; simpa using this
  rcases h.2 with ⟨hv, hn⟩ | ⟨g, cap, cur, hv, hg, hh, hnc, hcm, hcs, ht⟩
  · injection hv with h0 h1 h2
    exact ⟨hl, by omega, by rw [h2]; simp [maxLen], .inl ⟨h0, hn⟩⟩
  · injection hv with h0 _ h3
    subst h3
    exact ⟨hl, hnc, hcm, .inr ⟨g, cur, h0, hg, hh, by omega, by simpa using ht⟩⟩
theorem OS.len (h : OS w base A n c zs) : zs.length = n := h.toI.1
theorem OS.reads (h : OS w base A n c zs) : RI w w.heap.size A n zs := Reads.of_own h
theorem OS.kept {row : Option Nat} (h : OS w base A n c zs) (hg : w.grownBy w' row) (hne : (Value.slice A n c).ownBlock = none ∨ (Value.slice A n c).ownBlock ≠ row) : OS w' base A n c zs := World.ownsRow.kept h hg hne
theorem OS.alloc (h : OS w base A n c zs) (o : Obj) : OS (w.alloc o) base A n c zs := World.ownsRow.alloc h o
theorem OS.lt (h : OS w base A n c zs) : ∀ k, (Value.slice A n c).ownBlock = some k → base ≤ k ∧ k < w.heap.size := World.ownsRow.lt h
theorem OS.below {K : Nat} (h : OS w base A n c zs) (hb : Below K w w') (hK : w.heap.size ≤ K) : OS w' base A n c zs := by
  have hg : w.grownBy w' none := ⟨hb.os, hb.tape, hb.output, hb.size, fun k hk _ => hb.block k (by omega)⟩
  exact h.kept hg (by cases (Value.slice A n c).ownBlock <;> simp)
theorem OS.apart {row : Nat} (h : OS w base A n c zs) (hg : w.grownBy w' (some row)) (hne : row < base ∨ w.heap.size ≤ row) : OS w' base A n c zs := by
  refine h.kept hg ?_
  cases e : (Value.slice A n c).ownBlock with
  | none => exact .inl rfl
  | some k => exact .inr (fun e' => by have := h.lt k e; injection e' with e'; omega)
theorem OS.sepV {V : Value} (h : OS w base A n c zs) (hg : w.grownBy w' V.ownBlock) (hd : ∀ j k, (Value.slice A n c).ownBlock = some j → V.ownBlock = some k → j ≠ k) : OS w' base A n c zs := by
  refine h.kept hg ?_
  cases e : (Value.slice A n c).ownBlock with
  | none => exact .inl rfl
  | some j => exact .inr (fun e' => hd j j e e'.symm rfl)
theorem OS.cap (h : OS w base A n c zs) : n ≤ c ∧ c ≤ maxLen := ⟨h.toI.2.1, h.toI.2.2.1⟩
theorem OS.of {v : Value} {n : Nat} {xs : List Value} (h : w.ownsRow base 3 1 v n xs) (hx : xs = zs.map (.int .i64)) : ∃ A c, v = .slice A n c ∧ OS w base A n c zs := by
  subst hx
  rcases h.2 with ⟨hv, h0⟩ | ⟨g, cap, cur, hv, r⟩
  · refine ⟨none, 0, by rw [hv, h0], ?_⟩
    have : v = .slice none n 0 := by rw [hv, h0]
    rw [this] at h
    exact h
  · refine ⟨_, cap, hv, ?_⟩
    rw [hv] at h
    exact h
/-- an empty new slice -/
theorem OS.empty (w : World) : OS (w.alloc (.cells #[] 3)) w.heap.size (some ⟨w.heap.size, 0, none⟩) 0 0 [] := World.ownsRow_made w #[] 0 (Nat.le_refl _) (by simp [maxLen]) rfl
theorem OS.stored {g k : Nat} (h : OS w base (some ⟨g, 0, none⟩) n c zs) (x : Int) : OS (w.setCell ⟨g, k, none⟩ (.int .i64 x)) base (some ⟨g, 0, none⟩) n c (zs.set k x) ∧ w.grownBy (w.setCell ⟨g, k, none⟩ (.int .i64 x)) (some g) := by
  have := World.ownsRow.stored (g := g) h k (.int .i64 x)
  rw [← List.map_set] at this
  exact this

theorem OI.len (h : OI w base A n c zs) : zs.length = n := h.1
theorem OI.cap (h : OI w base A n c zs) : n ≤ c ∧ c ≤ maxLen := ⟨h.2.1, h.2.2.1⟩
theorem OI.lt (h : OI w base A n c zs) : ∀ k, (Value.slice A n c).ownBlock = some k → base ≤ k ∧ k < w.heap.size := by
  intro k hk
  rcases h.2.2.2 with ⟨rfl, _⟩ | ⟨g, cur, rfl, hb, hg, _⟩
  · simp [Value.ownBlock] at hk
  · simp [Value.ownBlock] at hk
    subst hk
    exact ⟨hb, (Array.getElem?_eq_some_iff.1 hg).1⟩
theorem OI.cellAt {g : Nat} (h : OI w base (some ⟨g, 0, none⟩) n c zs) {j : Nat} (hj : j < n) : w.cell? ⟨g, j, none⟩ = (zs.map (Value.int .i64))[j]? := by
  rcases h.2.2.2 with ⟨h0, _⟩ | ⟨g', cur, e, hb, hg, _, ht⟩
  · cases h0
  · injection e with e; injection e with e; subst e
    rw [cell_of_row w g j cur _ (0, 0) hg, ← ht, List.getElem?_take, if_pos hj]
    simp
theorem OI.frozenAt {g : Nat} (h : OI w base (some ⟨g, 0, none⟩) n c zs) (j : Nat) : w.frozen? ⟨g, j, none⟩ = false := by
  rcases h.2.2.2 with ⟨h0, _⟩ | ⟨g', cur, e, hb, hg, _⟩
  · cases h0
  · injection e with e; injection e with e; subst e
    exact frozen_of_row w g j cur _ hg
theorem OI.addr (h : OI w base A n c zs) (hn : 0 < n) : ∃ g, A = some ⟨g, 0, none⟩ ∧ base ≤ g ∧ g < w.heap.size := by
  rcases h.2.2.2 with ⟨_, h0⟩ | ⟨g, cur, e, hb, hg, _⟩
  · omega
  · exact ⟨g, e, hb, (Array.getElem?_eq_some_iff.1 hg).1⟩
theorem OI.reads (h : OI w base A n c zs) : RI w w.heap.size A n zs := by
  refine ⟨by simpa using h.1, fun hn => ?_⟩
  obtain ⟨g, rfl, _, hlt⟩ := h.addr hn
  refine ⟨_, rfl, hlt, fun j u hu => ?_⟩
  have hj : j < n := by have := (List.getElem?_eq_some_iff.1 hu).1; simp at this; have := h.1; omega
  rw [lit_add, Nat.zero_add, h.cellAt hj]; exact hu
theorem OI.kept {row : Option Nat} (h : OI w base A n c zs) (hg : w.grownBy w' row) (hne : (Value.slice A n c).ownBlock = none ∨ (Value.slice A n c).ownBlock ≠ row) : OI w' base A n c zs := by
  refine ⟨h.1, h.2.1, h.2.2.1, ?_⟩
  rcases h.2.2.2 with hn | ⟨g, cur, rfl, hb, hh, rest⟩
  · exact .inl hn
  · refine .inr ⟨g, cur, rfl, hb, ?_, rest⟩
    rw [hg.block g (Array.getElem?_eq_some_iff.1 hh).1 (by simpa [Value.ownBlock] using hne)]
    exact hh
theorem OI.alloc (h : OI w base A n c zs) (o : Obj) : OI (w.alloc o) base A n c zs := h.kept (World.grownBy_alloc w o none) (by cases hv : (Value.slice A n c).ownBlock <;> simp)
theorem OI.drewN (h : OI w base A n c zs) (k : Nat) : OI (w.drewN k) base A n c zs := h
theorem OI.below {K : Nat} (h : OI w base A n c zs) (hb : Below K w w') (hK : w.heap.size ≤ K) : OI w' base A n c zs := by
  have hg : w.grownBy w' none := ⟨hb.os, hb.tape, hb.output, hb.size, fun k hk _ => hb.block k (by omega)⟩
  exact h.kept hg (by cases (Value.slice A n c).ownBlock <;> simp)
/-- a row of the call's own is kept by a step that turns one other row -/
theorem OI.apart {row : Nat} (h : OI w base A n c zs) (hg : w.grownBy w' (some row)) (hne : row < base ∨ w.heap.size ≤ row) : OI w' base A n c zs := by
  refine h.kept hg ?_
  cases e : (Value.slice A n c).ownBlock with
  | none => exact .inl rfl
  | some k => exact .inr (fun e' => by have := h.lt k e; injection e' with e'; omega)
theorem OI.sepV {V : Value} (h : OI w base A n c zs) (hg : w.grownBy w' V.ownBlock) (hd : ∀ j k, (Value.slice A n c).ownBlock = some j → V.ownBlock = some k → j ≠ k) : OI w' base A n c zs := by
  refine h.kept hg ?_
  cases e : (Value.slice A n c).ownBlock with
  | none => exact .inl rfl
  | some j => exact .inr (fun e' => hd j j e e'.symm rfl)
theorem OI.mono {base' : Nat} (h : OI w base A n c zs) (hb : base' ≤ base) : OI w base' A n c zs := by
  refine ⟨h.1, h.2.1, h.2.2.1, ?_⟩
  rcases h.2.2.2 with hn | ⟨g, cur, hv, hg, rest⟩
  · exact .inl hn
  · exact .inr ⟨g, cur, hv, by omega, rest⟩
theorem OI.clip (h : OI w base A n c zs) : OI w base A n n zs := ⟨h.1, Nat.le_refl _, Nat.le_trans h.2.1 h.2.2.1, h.2.2.2⟩
theorem OI.stored {g k : Nat} (h : OI w base (some ⟨g, 0, none⟩) n c zs) (hk : k < n) (x : Int) : OI (w.setCell ⟨g, k, none⟩ (.int .i64 x)) base (some ⟨g, 0, none⟩) n c (zs.set k x) ∧ w.grownBy (w.setCell ⟨g, k, none⟩ (.int .i64 x)) (some g) := by
  refine ⟨⟨by simpa using h.1, h.2.1, h.2.2.1, .inr ?_⟩, ⟨rfl, rfl, rfl, by simp, fun k' _ hk' => heap_setCell_other w ⟨g, k, none⟩ k' _ (fun e => hk' (by simp [e]))⟩⟩
  rcases h.2.2.2 with ⟨h0, _⟩ | ⟨g', cur, e, hb, hg, hn, ht⟩
  · cases h0
  · injection e with e; injection e with e; subst e
    refine ⟨g, cur.setIfInBounds k (.int .i64 x), rfl, hb, heap_setCell_same w g k cur _ _ hg, by simpa using hn, ?_⟩
    rw [Array.toList_setIfInBounds, List.map_set, ← ht, List.take_set]
end

/-- a slice of bytes that is read -/
def RB (w : World) (B : Nat) (A : Option Addr) (zs : List Int) : Prop := Reads w B A zs.length (zs.map (.int .u8)) ∧ ∀ z ∈ zs, 0 ≤ z ∧ z ≤ 255
theorem RB.at_ {w : World} {B : Nat} {A : Option Addr} {zs : List Int} {k : Nat} (h : RB w B A zs) (hk : k < zs.length) : ∃ ad x, A = some ad ∧ ad.block < B ∧ zs[k]? = some x ∧ w.cell? (ad.add k) = some (.int .u8 x) ∧ 0 ≤ x ∧ x ≤ 255 := by
  obtain ⟨ad, u, e, hb, hx, hc⟩ := Reads.at_ h.1 hk
  rw [List.getElem?_map, List.getElem?_eq_getElem hk] at hx
  simp at hx
  exact ⟨ad, zs[k], e, hb, List.getElem?_eq_getElem hk, by rw [hc, ← hx], h.2 _ (List.getElem_mem hk)⟩
theorem RB.keep {w w' : World} {B : Nat} {A : Option Addr} {zs : List Int} (h : RB w B A zs) (hk : ∀ p : Addr, p.block < B → w'.cell? p = w.cell? p) : RB w' B A zs := ⟨h.1.keep hk, h.2⟩
theorem RB.below {w w' : World} {B : Nat} {A : Option Addr} {zs : List Int} (h : RB w B A zs) (hb : Below B w w') : RB w' B A zs := ⟨h.1.below hb, h.2⟩

/-! ### what a law's argument that is a slice gives -/
theorem reads_of_row {k : IntKind} {W : World} {a : Option Addr} {len cap : Nat} {zs : List Int} {x : Addr} (ha : a = some x) (hl : len ≤ cap) (hz : zs.length = cap) (hlt : 0 < cap → x.block < W.heap.size)
    (hcell : ∀ i, i < zs.length → W.cell? (x.add i) = some (.int k (zs.getD i 0))) : Reads W W.heap.size a len ((zs.take len).map (.int k)) := by
  refine ⟨by simp; omega, fun hn => ⟨x, ha, hlt (by omega), fun j u hu => ?_⟩⟩
  have hj : j < len := by
    have := (List.getElem?_eq_some_iff.1 hu).1
    simp at this; omega
  rw [hcell j (by omega)]
  rw [List.getElem?_map, List.getElem?_take, if_pos hj, List.getElem?_eq_getElem (by omega)] at hu
  simp at hu
  rw [← hu]
  simp [List.getD, show j < zs.length by omega]

/-- the function returns a new slice that reads zs; nothing that lay has turned -/
def GivesI (w : World) (zs : List Int) (e : Ending) (w' : World) : Prop := ∃ A n c, e = .returned (.slice A n c) ∧ OI w' w.heap.size A n c zs ∧ Below w.heap.size w w'

theorem below_drewN {B : Nat} {a w : World} (h : Below B a w) (n : Nat) : Below B a (w.drewN n) := ⟨h.os, h.tape, h.output, h.size, h.block⟩
theorem grown_below {w w' : World} (h : w.grownBy w' none) : Below w.heap.size w w' := ⟨h.os, h.tape, h.output, h.size, fun k hk => h.block k hk (by simp)⟩
/-- what lay below keeps its cells and marks, in the form that the walk takes -/
theorem bcell {W w1 : World} {B : Nat} (hb : Below B W w1) : (∀ b o, b < B → w1.cell? ⟨b, o, none⟩ = W.cell? ⟨b, o, none⟩) ∧ (∀ b o, b < B → w1.frozen? ⟨b, o, none⟩ = W.frozen? ⟨b, o, none⟩) :=
  ⟨fun b o h => hb.cell (p := ⟨b, o, none⟩) h, fun b o h => hb.frozen (p := ⟨b, o, none⟩) h⟩

end Go.Proofs.YtkpjlkahebeljaaDoor

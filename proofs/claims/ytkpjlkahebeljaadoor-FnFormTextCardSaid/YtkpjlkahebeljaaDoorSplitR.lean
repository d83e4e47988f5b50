/- A range over a function whose iterator writes one box of its own between the rounds; a round may leave early. -/
import Derived.RangeFuncBox
import Derived.RangeFuncNested
import Derived.RangeFuncLeaves
import Derived.Test.YtkpjlkahebeljaaDoorProg
namespace Go.Proofs.YtkpjlkahebeljaaDoor
open Go.RowKit
set_option linter.unusedVariables false

/-- abides a turn of the box Bs, and of a block from B on that holds no cells -/
def OwnS {β : Type} (Bs B : Nat) (I : β → World → Prop) : Prop :=
  ∀ s W W' row, I s W → W.grownBy W' row → (∀ r, row = some r → r = Bs ∨ (B ≤ r ∧ ∃ o : Obj, W.heap[r]? = some o ∧ o.isCells = false)) → I s W'
theorem OwnS.putObj {β : Type} {Bs B : Nat} {I : β → World → Prop} (h : OwnS Bs B I) {s : β} {W : World} {l : Nat} {o : Obj} (o' : Obj) (hs : I s W) (hB : B ≤ l) (hl : W.heap[l]? = some o) (ho : o.isCells = false) : I s (W.putObj l o') :=
  h s W _ (some l) hs (grownBy_putObj' W l o') (fun r e => by cases e; exact .inr ⟨hB, o, hl, ho⟩)
theorem OwnS.alloc {β : Type} {Bs B : Nat} {I : β → World → Prop} (h : OwnS Bs B I) {s : β} {W : World} (o : Obj) (hs : I s W) : I s (W.alloc o) :=
  h s W _ none hs (World.grownBy_alloc W o none) (fun r e => by cases e)
theorem OwnS.set {β : Type} {Bs B : Nat} {I : β → World → Prop} (h : OwnS Bs B I) {s : β} {W : World} (v : Value) (hs : I s W) : I s (W.setCell ⟨Bs, 0, none⟩ v) :=
  h s W _ (some Bs) hs (grownBy_setCell' W Bs v) (fun r e => by cases e; exact .inl rfl)
theorem OwnS.drew {β : Type} {Bs B : Nat} {I : β → World → Prop} (h : OwnS Bs B I) {s : β} {W : World} (hs : I s W) : I s W.drew :=
  h s W _ none hs ⟨rfl, rfl, rfl, Nat.le_refl _, fun _ _ _ => rfl⟩ (fun r e => by cases e)
theorem OwnS.and {β : Type} {Bs B : Nat} {I I' : β → World → Prop} (h : OwnS Bs B I) (h' : OwnS Bs B I') : OwnS Bs B (fun s W => I s W ∧ I' s W) := fun s W W' row hs hg hr => ⟨h s W W' row hs.1 hg hr, h' s W W' row hs.2 hg hr⟩
theorem OwnS.pure {β : Type} (Bs B : Nat) (p : β → Prop) : OwnS Bs B (fun s (_ : World) => p s) := fun _ _ _ _ hs _ _ => hs
/-- what speaks of cells alone, and not of the box -/
theorem boxed_ownS {β : Type} (Bs B p : Nat) (hp : p ≠ Bs) (t : TypeId) (v : β → Value) : OwnS Bs B (fun s W => Boxed W p t (v s)) := fun s X Y row hs hg hr =>
  hs.kept hg (fun e' => by
    rcases hr p e'.symm with e | ⟨_, o, ho, hc⟩
    · exact hp e
    · rw [show X.heap[p]? = _ from hs] at ho; cases ho; cases hc)
theorem below_ownS {β : Type} (Bs B n₀ : Nat) (w : World) (h1 : n₀ ≤ w.heap.size) (hs : n₀ ≤ Bs) (hB : n₀ ≤ B) : OwnS Bs B (fun (_ : β) W => Below n₀ w W) := fun s X Y row h hg hr =>
  h.grown hg (Nat.le_trans h1 h.size) (fun k e => by
    rcases hr k e with e' | ⟨h', _⟩ <;> omega)

theorem ownsRow_up {W W' : World} {base : Nat} {e : TypeId} {size : Nat} {v : Value} {n : Nat} {xs : List Value} (h : W.ownsRow base e size v n xs) (hb : Below W.heap.size W W') : W'.ownsRow base e size v n xs :=
  World.ownsRow.kept (row := none) h ⟨hb.os, hb.tape, hb.output, hb.size, fun k hk _ => hb.block k hk⟩ (by cases v.ownBlock <;> simp)

theorem rangeS {α : Type} {F : Fence} (hd : F.depth = none) {n : Nat} {g : Operand} {ps : Array Tmp} {assign body : Code} {Q : Exit → Act → World → Prop} {a : Act} {w : World}
    (hro : F.round = none) {gf : Nat} {lb : Array Value} (hg : a.eval g = .func (.func gf) #[] lb) (hFg : F.fn gf) (eg : ∀ args w, (callFunc gf args).run Tryd.prog w = .ok (.enter gf args) w)
    (encs : α → Array Value) (hps : ∀ x, (encs x).size = ps.size) (Bs : Nat) (hBs : Bs < w.heap.size)
    (Kp : World → World → Prop) (S : List α → Prop) (Sp : List α → Prop)
    (hKt : ∀ {A B C : World}, Kp A B → Kp B C → Kp A C) (hKb : ∀ (W : World) (l : Nat) (o : Obj), w.heap.size ≤ l → Kp W (W.putObj l o))
    (I : List α → World → Prop) (Ix : Code → List α → World → Prop) (hI : OwnS Bs w.heap.size I) (hIx : ∀ c, OwnS Bs w.heap.size (Ix c)) (h0 : I [] w)
    (hseq : ∀ (l : Nat) (J Jx : List α → World → Prop) (W : World), Below w.heap.size w W → OwnS Bs W.heap.size J → OwnS Bs W.heap.size Jx →
      (∀ pre x W1, J pre W1 → Sp (pre ++ [x]) → YieldAt F (n - 1 - 1) Tryd.prog l (encs x) W1 fun e W' =>
        (e = .returned (.bool true) ∧ J (pre ++ [x]) W' ∧ Kp W1 W') ∨ (e = .returned (.bool false) ∧ Jx (pre ++ [x]) W')) → J [] W →
      CallsIn F (n - 1) Tryd.prog gf (#[.func (.yield l) #[] #[]] ++ lb) W fun e W' => (∃ v, e = .returned v) ∧ ((∃ xs, S xs ∧ J xs W') ∨ (∃ pre, Jx pre W')))
    (a₁ : α → Act)
    (hassign : ∀ (l : Nat) (x : α) (W : World) (K : Act → World → Prop), K (a₁ x) W →
      assign.wpIn (F.inRound l) (n - 1 - 1) Tryd.prog (Exit.then K (fun _ _ _ => False)) { tmps := (ps.zip (encs x)).foldl (fun t (p, v) => t.setIfInBounds p v) a.tmps, defers := [] } W)
    (hbody : ∀ (l : Nat) (pre : List α) (x : α) (W : World), I pre W → Sp (pre ++ [x]) → body.wpIn (F.inRound l) (n - 1 - 1) Tryd.prog (ownPostG w.heap.size Kp I Ix (pre ++ [x]) W) (a₁ x) W)
    (hdone : ∀ (D : Nat) (xs : List α) (W : World), w.heap.size ≤ D → S xs → I xs W → W.heap[D]? = some (.deferred (some [])) → Q .normal { a with defers := { target := .collected D, args := #[] } :: a.defers } W)
    (hstop : ∀ (D : Nat) (c : Code) (pre : List α) (W : World), w.heap.size ≤ D → Ix c pre W → W.heap[D]? = some (.deferred (some [])) → c.wpIn F n Tryd.prog Q { a with defers := { target := .collected D, args := #[] } :: a.defers } W) :
    (Code.rangeFunc g ps assign body).wpIn F n Tryd.prog Q a w := by
  refine wpIn_rangeFunc ?_
  intro fn hfn
  rw [hro]
  obtain ⟨rec, hrec⟩ : ∃ rec : LoopState → Option Code → Loop, rec = fun st pe => { state := st, pending := pe, fn, tmps := a.tmps, params := ps, assign, body, defers := w.heap.size } := ⟨_, rfl⟩
  obtain ⟨l, hl⟩ : ∃ l, w.heap.size + 1 = l := ⟨_, rfl⟩
  obtain ⟨D, hD⟩ : ∃ D, w.heap.size = D := ⟨_, rfl⟩
  obtain ⟨W1, hW1⟩ : ∃ W1, (w.alloc (.deferred (some []))).alloc (.loop (rec .ready none)) = W1 := ⟨_, rfl⟩
  have hs1 : W1.heap.size = w.heap.size + 2 := by rw [← hW1]; simp
  have hL1 : W1.heap[l]? = some (.loop (rec .ready none)) := by
    rw [← hW1, ← hl]; have := World.alloc_heap_new (w.alloc (.deferred (some []))) (.loop (rec .ready none)); rwa [World.size_alloc] at this
  have hK1 : W1.heap[D]? = some (.deferred (some [])) := by
    rw [← hW1, ← hD]; exact (Below.heap_alloc _ _ _ (by simp)).trans (World.alloc_heap_new w _)
  have hI1 : I [] W1 := by rw [← hW1]; exact hI.alloc _ (hI.alloc _ h0)
  have hb1 : Below w.heap.size w W1 := by
    rw [← hW1]; exact ((Below.refl _ w).alloc (Nat.le_refl _) _).alloc (by simp) _
  refine ⟨l, [{ target := .collected D, args := #[] }], W1, { target := .fn (.func gf) lb, args := #[.func (.yield l) #[] #[]] }, W1, gf,
    #[.func (.yield l) #[] #[]] ++ lb, W1, ?_, ?_, ?_, ?_, (fun e => by rw [hd] at e; cases e), ?_⟩
  · rw [← hW1, hrec, ← hl, ← hD]; exact run_enterLoop_outer _ _ _ _ _
  · simp only [resolve, hg]
    simp [go_sem]
  · intro f' hf'; simp [Target.leads] at hf'; subst hf'; exact hFg
  · simp [invoke, go_sem, eg]
  · have keepIt : ∀ (k : Nat) (ob : Obj) (A B : World) (row : Option Nat), w.heap.size ≤ k → k < w.heap.size + 2 → A.heap[k]? = some ob → A.grownBy B row → (∀ r, row = some r → r = Bs ∨ (W1.heap.size ≤ r ∧ ∃ o : Obj, A.heap[r]? = some o ∧ o.isCells = false)) → B.heap[k]? = some ob := fun k ob A B row h1 h2 hk hg' hr =>
      (hg'.block k (Array.getElem?_eq_some_iff.1 hk).1 (fun e => by rcases hr _ e.symm with e' | ⟨e', _⟩ <;> omega)).trans hk
    refine (hseq l (fun pre W => I pre W ∧ W.heap[l]? = some (.loop (rec .ready none)) ∧ W.heap[D]? = some (.deferred (some [])))
      (fun pre W => ∃ c, Ix c pre W ∧ W.heap[l]? = some (.loop (rec .done (some c))) ∧ W.heap[D]? = some (.deferred (some []))) W1 hb1 ?_ ?_ ?_
      ⟨hI1, hL1, hK1⟩).mono ?_
    · rintro s A B row ⟨hi, hl0, hk0⟩ hg' hr
      exact ⟨hI s A B row hi hg' (fun k e => (hr k e).imp id (fun h => ⟨by have := h.1; omega, h.2⟩)), keepIt l _ A B row (by omega) (by omega) hl0 hg' hr, keepIt D _ A B row (by omega) (by omega) hk0 hg' hr⟩
    · rintro s A B row ⟨c, hi, hl0, hk0⟩ hg' hr
      exact ⟨c, hIx c s A B row hi hg' (fun k e => (hr k e).imp id (fun h => ⟨by have := h.1; omega, h.2⟩)), keepIt l _ A B row (by omega) (by omega) hl0 hg' hr, keepIt D _ A B row (by omega) (by omega) hk0 hg' hr⟩
    · rintro pre x W ⟨hi, hl0, hk0⟩ hsp
      have hlt : l < W.heap.size := (Array.getElem?_eq_some_iff.1 hl0).1
      have hy := run_yield (P := Tryd.prog) (args := encs x) hl0 (by rw [hrec]; exact hps x)
      rw [hrec] at hy
      refine ⟨fn, _, assign, body, hy, roundIn_of_wpIn hfn (hassign _ x W _ ⟨_, run_beginRound hl0 (by rw [hrec]), ?_⟩)⟩
      have hl2 : (W.putObj l (.loop { rec .ready none with state := .busy })).heap[l]? = some (.loop { rec .ready none with state := .busy }) := World.putObj_heap_same hlt
      have hk2 : (W.putObj l (.loop { rec .ready none with state := .busy })).heap[D]? = some (.deferred (some [])) := (World.putObj_heap_other (by omega)).trans hk0
      have hw2 : Kp W (W.putObj l (.loop { rec .ready none with state := .busy })) := hKb _ _ _ (by omega)
      refine wpIn_mono (hbody _ pre x _ (hI.putObj _ hi (by omega) hl0 rfl) hsp) ?_
      have fin : ∀ (jump : Option Code) (W3 : World), KeepsFrom w.heap.size (W.putObj l (.loop { rec .ready none with state := .busy })) W3 →
          (Instr.endRound l jump).run Tryd.prog W3 = .ok (.bool jump.isNone) (W3.putObj l (.loop (rec (if jump.isNone then .ready else .done) jump))) ∧
          W3.heap[l]? = some (.loop { rec .ready none with state := .busy }) ∧
          (W3.putObj l (.loop (rec (if jump.isNone then .ready else .done) jump))).heap[l]? = some (.loop (rec (if jump.isNone then .ready else .done) jump)) ∧
          (W3.putObj l (.loop (rec (if jump.isNone then .ready else .done) jump))).heap[D]? = some (.deferred (some [])) := fun jump W3 hk3 => by
        have hl3 := hk3.same _ _ (by omega) hl2 rfl
        have := run_endRound (P := Tryd.prog) jump hl3
        rw [hrec] at this ⊢
        exact ⟨this, by rw [hrec] at hl3; exact hl3, World.putObj_heap_same (Array.getElem?_eq_some_iff.1 hl3).1, (World.putObj_heap_other (by omega)).trans (hk3.same _ _ (by omega) hk2 rfl)⟩
      rintro e a3 W3 hp
      cases e with
      | normal =>
        obtain ⟨hk3, hkp3, hi3⟩ := hp
        obtain ⟨hr, hl3, hl4, hk4⟩ := fin none W3 hk3
        exact ⟨_, _, hr, .inl ⟨rfl, ⟨hI.putObj _ hi3 (by omega) hl3 rfl, hl4, hk4⟩, hKt (hKt hw2 hkp3) (hKb _ _ _ (by omega))⟩⟩
      | ret =>
        obtain ⟨hk3, hi3⟩ := hp
        obtain ⟨hr, hl3, hl4, hk4⟩ := fin (some .ret) W3 hk3
        exact ⟨_, _, hr, .inr ⟨rfl, .ret, (hIx _).putObj _ hi3 (by omega) hl3 rfl, hl4, hk4⟩⟩
      | exit id =>
        obtain ⟨hk3, hi3⟩ := hp
        obtain ⟨hr, hl3, hl4, hk4⟩ := fin (some (.exit id)) W3 hk3
        exact ⟨_, _, hr, .inr ⟨rfl, .exit id, (hIx _).putObj _ hi3 (by omega) hl3 rfl, hl4, hk4⟩⟩
      | goto t =>
        obtain ⟨hk3, hi3⟩ := hp
        obtain ⟨hr, hl3, hl4, hk4⟩ := fin (some (.goto t)) W3 hk3
        exact ⟨_, _, hr, .inr ⟨rfl, .goto t, (hIx _).putObj _ hi3 (by omega) hl3 rfl, hl4, hk4⟩⟩
      | panic ch => exact hp.elim
      | outgrown => exact hp.elim
    · rintro e W2 ⟨⟨v, rfl⟩, (⟨xs, hS, hi, hl0, hk0⟩ | ⟨pre, c, hi, hl0, hk0⟩)⟩
      · exact ⟨none, _, by have := run_endLoop (P := Tryd.prog) hl0 (by rw [hrec]; simp); rw [hrec] at this; exact this, hdone _ xs _ (by omega) hS (hI.putObj _ hi (by omega) hl0 rfl) ((World.putObj_heap_other (by omega)).trans hk0)⟩
      · exact ⟨some c, _, by have := run_endLoop (P := Tryd.prog) hl0 (by rw [hrec]; simp); rw [hrec] at this; exact this, hstop _ c pre _ (by omega) ((hIx c).putObj _ hi (by omega) hl0 rfl) ((World.putObj_heap_other (by omega)).trans hk0)⟩
end Go.Proofs.YtkpjlkahebeljaaDoor

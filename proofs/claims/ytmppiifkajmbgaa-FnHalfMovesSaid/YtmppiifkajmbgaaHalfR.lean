/- A range over a function whose rounds all go on: the caller's invariant is handed to the iterator in a form that it may hand on to a range of its own. -/
import Derived.RangeFuncBox
import Derived.RangeFuncNested
import Derived.RangeFuncLeaves
import Derived.Test.YtmppiifkajmbgaaProg
namespace Go.Proofs.Ytmppiifkajmbgaa
open Go.RowKit
set_option linter.unusedVariables false

/-- what lies as it lay: every block but the box Bs and the row r; the row is the elder one or a new one -/
structure Kq (Bs : Nat) (W : World) (r : Nat) (W' : World) (r' : Nat) : Prop where
  below : Below 0 W W'
  row : r' = r ∨ W.heap.size ≤ r'
  block : ∀ b, b < W.heap.size → b ≠ Bs → b ≠ r → W'.heap[b]? = W.heap[b]?
theorem Kq.refl (Bs : Nat) (W : World) (r : Nat) : Kq Bs W r W r := ⟨Below.refl _ _, .inl rfl, fun _ _ _ _ => rfl⟩
theorem Kq.size {Bs r r' : Nat} {W W' : World} (h : Kq Bs W r W' r') : W.heap.size ≤ W'.heap.size := h.below.size
theorem Kq.trans {Bs r r' r'' : Nat} {W W' W'' : World} (h : Kq Bs W r W' r') (k : Kq Bs W' r' W'' r'') : Kq Bs W r W'' r'' := by
  refine ⟨h.below.trans k.below, ?_, fun b hb hs hr => ?_⟩
  · have := h.size
    rcases k.row with e | e
    · rcases h.row with e' | e'
      · exact .inl (e.trans e')
      · exact .inr (by omega)
    · exact .inr (by omega)
  · have := h.size
    refine (k.block b (by omega) hs ?_).trans (h.block b hb hs hr)
    rcases h.row with e | e <;> omega
theorem below_zero_putObj (W : World) (l : Nat) (o : Obj) : Below 0 W (W.putObj l o) :=
  ⟨rfl, rfl, rfl, by simp, fun k hk => absurd hk (by omega)⟩
theorem Kq.putObj {Bs r r' : Nat} {W W' : World} (h : Kq Bs W r W' r') (l : Nat) (o : Obj) (hl : W.heap.size ≤ l) : Kq Bs W r (W'.putObj l o) r' :=
  ⟨h.below.trans (below_zero_putObj _ _ _), h.row, fun b hb hs hr => (World.putObj_heap_other (by omega)).trans (h.block b hb hs hr)⟩
theorem Kq.alloc {Bs r r' : Nat} {W W' : World} (h : Kq Bs W r W' r') (o : Obj) : Kq Bs W r (W'.alloc o) r' :=
  ⟨h.below.trans ((Below.refl 0 _).alloc (by omega) _), h.row, fun b hb hs hr => (Below.heap_alloc _ _ _ (by have := h.size; omega)).trans (h.block b hb hs hr)⟩
theorem Kq.drew {Bs r r' : Nat} {W W' : World} (h : Kq Bs W r W' r') : Kq Bs W r W'.drew r' :=
  ⟨h.below.drew, h.row, h.block⟩
theorem Kq.boxed {Bs r r' B : Nat} {W W' : World} {t : TypeId} {v : Value} (h : Kq Bs W r W' r') (hB : Boxed W B t v) (h1 : B ≠ Bs) (h2 : B ≠ r) : Boxed W' B t v :=
  (h.block B hB.lt h1 h2).trans hB

/-- the words of a caller of an iterator -/
structure Inv (B : Nat) (J : List Int × Nat → World → Prop) : Prop where
  own : OwnFrom B J
  lt : ∀ p W, J p W → p.2 < W.heap.size
theorem Inv.mono {B B' : Nat} {J : List Int × Nat → World → Prop} (h : Inv B J) (hB : B ≤ B') : Inv B' J :=
  ⟨fun s W W' row hs hg hr => h.own s W W' row hs hg (fun r e => ⟨Nat.le_trans hB (hr r e).1, (hr r e).2⟩), h.lt⟩
/-- one round -/
def RoundY (F : Fence) (m l Bs N : Nat) (J : List Int × Nat → World → Prop) : Prop :=
  ∀ pre x r W, pre.length < N → J (pre, r) W → YieldAt F m Try.prog l #[.int .i64 x] W fun e W' =>
    e = .returned (.bool true) ∧ ∃ r', J (pre ++ [x], r') W' ∧ Kq Bs W r W' r'
theorem roundIn_any {F : Fence} (hd : F.depth = none) {m m' : Nat} {P : Program} {l : Nat} {f : FuncId} {tmps : Array Value} {assign body : Code} {w : World} {R : Ending → World → Prop}
    (h : RoundIn F m P l f tmps assign body w R) : RoundIn F m' P l f tmps assign body w R :=
  ⟨h.1, fun c cs _ => h.2 c cs (fun d e => by rw [hd] at e; cases e)⟩
theorem yieldAt_any {F : Fence} (hd : F.depth = none) {m : Nat} (m' : Nat) {P : Program} {l : Nat} {args : Array Value} {W : World} {R : Ending → World → Prop} (h : YieldAt F m P l args W R) : YieldAt F m' P l args W R := by
  obtain ⟨fn, tmps, assign, body, hy, hR⟩ := h
  exact ⟨fn, tmps, assign, body, hy, roundIn_any hd hR⟩
/-- how a round's body ends -/
def roundQ (Bs : Nat) (I : List Int × Nat → World → Prop) (xs : List Int) (W : World) (r : Nat) : Exit → Act → World → Prop
  | .normal, _, W' => ∃ r', I (xs, r') W' ∧ Kq Bs W r W' r'
  | _, _, _ => False

theorem rangeQ {F : Fence} (hd : F.depth = none) {n : Nat} {g : Operand} {ps : Array Tmp} {assign body : Code} {Q : Exit → Act → World → Prop} {a : Act} {w : World}
    (hro : F.round = none) {gf : Nat} {lb : Array Value} (hg : a.eval g = .func (.func gf) #[] lb) (hFg : F.fn gf) (eg : ∀ args w, (callFunc gf args).run Try.prog w = .ok (.enter gf args) w) (hps : ps.size = 1)
    (Bs r N : Nat) (pre ys : List Int) (hBs : Bs < w.heap.size)
    (I : List Int × Nat → World → Prop) (hI : Inv w.heap.size I) (h0 : I (pre, r) w)
    (hseq : ∀ (l : Nat) (J : List Int × Nat → World → Prop) (W : World), Kq Bs w r W r → w.heap.size ≤ W.heap.size → Inv W.heap.size J → RoundY F (n - 1 - 1) l Bs N J → J (pre, r) W →
      CallsIn F (n - 1) Try.prog gf (#[.func (.yield l) #[] #[]] ++ lb) W fun e W' => (∃ v, e = .returned v) ∧ ∃ r', J (pre ++ ys, r') W' ∧ Kq Bs W r W' r')
    (a₁ : Int → Act)
    (hassign : ∀ (l : Nat) (x : Int) (W : World) (K : Act → World → Prop), K (a₁ x) W →
      assign.wpIn (F.inRound l) (n - 1 - 1) Try.prog (Exit.then K (fun _ _ _ => False)) { tmps := (ps.zip #[Value.int .i64 x]).foldl (fun t (p, v) => t.setIfInBounds p v) a.tmps, defers := [] } W)
    (hbody : ∀ (l : Nat) (pre : List Int) (x : Int) (r : Nat) (W : World), pre.length < N → I (pre, r) W → body.wpIn (F.inRound l) (n - 1 - 1) Try.prog (roundQ Bs I (pre ++ [x]) W r) (a₁ x) W)
    (hdone : ∀ (D r' : Nat) (W : World), w.heap.size ≤ D → D < W.heap.size → D ≠ r' → I (pre ++ ys, r') W → Kq Bs w r W r' → W.heap[D]? = some (.deferred (some [])) → Q .normal { a with defers := { target := .collected D, args := #[] } :: a.defers } W) :
    (Code.rangeFunc g ps assign body).wpIn F n Try.prog Q a w := by
  refine wpIn_rangeFunc ?_
  intro fn hfn
  rw [hro]
  have hrlt : r < w.heap.size := hI.lt _ _ h0
  obtain ⟨rec, hrec⟩ : ∃ rec : LoopState → Loop, rec = fun st => { state := st, pending := none, fn, tmps := a.tmps, params := ps, assign, body, defers := w.heap.size } := ⟨_, rfl⟩
  obtain ⟨l, hl⟩ : ∃ l, w.heap.size + 1 = l := ⟨_, rfl⟩
  obtain ⟨D, hD⟩ : ∃ D, w.heap.size = D := ⟨_, rfl⟩
  obtain ⟨W1, hW1⟩ : ∃ W1, (w.alloc (.deferred (some []))).alloc (.loop (rec .ready)) = W1 := ⟨_, rfl⟩
  have hs1 : W1.heap.size = w.heap.size + 2 := by rw [← hW1]; simp
  have hL1 : W1.heap[l]? = some (.loop (rec .ready)) := by
    rw [← hW1, ← hl]; have := World.alloc_heap_new (w.alloc (.deferred (some []))) (.loop (rec .ready)); rwa [World.size_alloc] at this
  have hK1 : W1.heap[D]? = some (.deferred (some [])) := by
    rw [← hW1, ← hD]; exact (Below.heap_alloc _ _ _ (by simp)).trans (World.alloc_heap_new w _)
  have hI1 : I (pre, r) W1 := by rw [← hW1]; exact hI.own.alloc _ (hI.own.alloc _ h0)
  have hq1 : Kq Bs w r W1 r := by rw [← hW1]; exact ((Kq.refl _ _ _).alloc _).alloc _
  refine ⟨l, [{ target := .collected D, args := #[] }], W1, { target := .fn (.func gf) lb, args := #[.func (.yield l) #[] #[]] }, W1, gf,
    #[.func (.yield l) #[] #[]] ++ lb, W1, ?_, ?_, ?_, ?_, (fun e => by rw [hd] at e; cases e), ?_⟩
  · rw [← hW1, hrec, ← hl, ← hD]; exact run_enterLoop_outer _ _ _ _ _
  · simp only [resolve, hg]
    simp [go_sem]
  · intro f' hf'; simp [Target.leads] at hf'; subst hf'; exact hFg
  · simp [invoke, go_sem, eg]
  · refine (hseq l (fun p W => I p W ∧ W.heap[l]? = some (.loop (rec .ready)) ∧ W.heap[D]? = some (.deferred (some [])) ∧ p.2 ≠ l ∧ p.2 ≠ D) W1 hq1 (by omega) ⟨?_, fun p W h => hI.lt _ _ h.1⟩ ?_
      ⟨hI1, hL1, hK1, by show r ≠ l; omega, by show r ≠ D; omega⟩).mono ?_
    · -- the invariant abides what lies behind W1
      rintro s A B row ⟨hi, hl0, hk0, h1, h2⟩ hg' hr
      refine ⟨hI.own s A B row hi hg' (fun k e => ⟨by have := (hr k e).1; omega, (hr k e).2⟩), ?_, ?_, h1, h2⟩
      · exact (hg'.block l (Array.getElem?_eq_some_iff.1 hl0).1 (fun e => by have := (hr _ e.symm).1; omega)).trans hl0
      · exact (hg'.block D (Array.getElem?_eq_some_iff.1 hk0).1 (fun e => by have := (hr _ e.symm).1; omega)).trans hk0
    · -- one round
      rintro pre' x r1 W hlen ⟨hi, hl0, hk0, h1, h2⟩
      have hlt : l < W.heap.size := (Array.getElem?_eq_some_iff.1 hl0).1
      have hltD : D < W.heap.size := (Array.getElem?_eq_some_iff.1 hk0).1
      have hy := run_yield (P := Try.prog) (args := #[Value.int .i64 x]) hl0 (by rw [hrec]; exact hps.symm)
      rw [hrec] at hy
      refine ⟨fn, _, assign, body, hy, roundIn_of_wpIn hfn (hassign _ x W _ ⟨_, run_beginRound hl0 (by rw [hrec]), ?_⟩)⟩
      obtain ⟨W2, hW2⟩ : ∃ W2, W.putObj l (.loop { rec .ready with state := .busy }) = W2 := ⟨_, rfl⟩
      have hs2 : W2.heap.size = W.heap.size := by rw [← hW2]; simp
      have hl2 : W2.heap[l]? = some (.loop { rec .ready with state := .busy }) := by rw [← hW2]; exact World.putObj_heap_same hlt
      have hk2 : W2.heap[D]? = some (.deferred (some [])) := by rw [← hW2]; exact (World.putObj_heap_other (by omega)).trans hk0
      have hi2 : I (pre', r1) W2 := by rw [← hW2]; exact hI.own.putObj _ hi (by omega) hl0 rfl
      rw [hW2]
      refine wpIn_mono (hbody l pre' x r1 W2 hlen hi2) ?_
      rintro e a3 W3 hp
      cases e with
      | normal =>
        obtain ⟨r', hi3, hq3⟩ := hp
        have hs3 := hq3.size
        have hl3 : W3.heap[l]? = some (.loop { rec .ready with state := .busy }) := (hq3.block l (by omega) (by omega) (by show l ≠ r1; exact fun e => h1 e.symm)).trans hl2
        have hk3 : W3.heap[D]? = some (.deferred (some [])) := (hq3.block D (by omega) (by omega) (fun e => h2 e.symm)).trans hk2
        have hr3 : r' ≠ l ∧ r' ≠ D := by
          rcases hq3.row with e | e
          · rw [e]; exact ⟨h1, h2⟩
          · omega
        have hend := run_endRound (P := Try.prog) none hl3
        refine ⟨_, _, hend, rfl, r', ⟨hI.own.putObj _ hi3 (by omega) hl3 rfl, ?_, (World.putObj_heap_other (by omega)).trans hk3, hr3⟩, ?_⟩
        · rw [World.putObj_heap_same (Array.getElem?_eq_some_iff.1 hl3).1, hrec]; rfl
        · refine ⟨?_, by rw [← hs2]; exact hq3.row, fun b hb hs hr => ?_⟩
          · refine Below.trans (b := W2) ?_ (hq3.below.trans (below_zero_putObj _ _ _))
            rw [← hW2]; exact below_zero_putObj _ _ _
          · by_cases hbl : b = l
            · subst hbl
              rw [World.putObj_heap_same (Array.getElem?_eq_some_iff.1 hl3).1, hl0, hrec]; rfl
            · rw [World.putObj_heap_other hbl, hq3.block b (by omega) hs hr, ← hW2, World.putObj_heap_other hbl]
      | ret => exact hp.elim
      | exit id => exact hp.elim
      | goto t => exact hp.elim
      | panic ch => exact hp.elim
      | outgrown => exact hp.elim
    · -- behind the iterator
      rintro e W2 ⟨⟨v, rfl⟩, r', ⟨hi, hl0, hk0, h1, h2⟩, hq⟩
      have hlt : l < W2.heap.size := (Array.getElem?_eq_some_iff.1 hl0).1
      have hltD : D < W2.heap.size := (Array.getElem?_eq_some_iff.1 hk0).1
      refine ⟨none, _, by have := run_endLoop (P := Try.prog) hl0 (by rw [hrec]; simp); rw [hrec] at this; exact this, ?_⟩
      refine hdone D r' _ (by omega) (by simp; exact hltD) (fun e => h2 e.symm) (hI.own.putObj _ hi (by omega) hl0 rfl) ((hq1.trans hq).putObj _ _ (by omega)) ((World.putObj_heap_other (by omega)).trans hk0)
end Go.Proofs.Ytmppiifkajmbgaa

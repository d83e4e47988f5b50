/- Contracts of the program's moves by halves: a recursive iterator. -/
import Derived.Test.YtmppiifkajmbgaaHalfR
import Derived.Test.YtmppiifkajmbgaaPlHalf
import Derived.Test.YtmppiifkajmbgaaRepeat
import Derived.OwnWalkIn
import Derived.TacticsInMore
import Derived.LoopNIn
import Derived.LoopIn
import Derived.LoopN
import Derived.RegionIn
import Derived.Shelf.RegionOpen
import Derived.Shelf.Abstract
import Derived.Deep.RegionHeld3
import Derived.Outline
namespace Go.Proofs.Ytmppiifkajmbgaa
open Go.RowKit Go.Shelf
set_option linter.unusedVariables false
attribute [local go_sem] Oper.semAt_some

theorem halves_any (L f : Int) (b : Bool) (w : World) : Calls Try.prog 47 #[.int .i64 L, .int .i64 f, .bool b] w fun e w' =>
    e = .returned (.func (.func 63) #[] #[.pointer (some ⟨w.heap.size, 0, none⟩), .pointer (some ⟨w.heap.size + 1, 0, none⟩), .pointer (some ⟨w.heap.size + 2, 0, none⟩)]) ∧
    w' = ((w.alloc (.cells #[.int .i64 L] 3)).alloc (.cells #[.int .i64 f] 3)).alloc (.cells #[.bool b] 4) := by
  go_enter Try.func47, Try.ntmps47
  go_wp2
  go_ret
  exact ⟨rfl, rfl⟩

/-- what a call of halves makes -/
structure Made (w w' : World) (i : Nat) (L f : Int) (b : Bool) : Prop where
  ge : w.heap.size ≤ i
  b1 : Boxed w' i 3 (.int .i64 L)
  b2 : Boxed w' (i + 1) 3 (.int .i64 f)
  b3 : Boxed w' (i + 2) 4 (.bool b)
  below : Below w.heap.size w w'
theorem halves_made (L f : Int) (b : Bool) (w : World) : Calls Try.prog 47 #[.int .i64 L, .int .i64 f, .bool b] w fun e w' =>
    ∃ i, e = .returned (.func (.func 63) #[] #[.pointer (some ⟨i, 0, none⟩), .pointer (some ⟨i + 1, 0, none⟩), .pointer (some ⟨i + 2, 0, none⟩)]) ∧ Made w w' i L f b := by
  refine (halves_any L f b w).mono ?_
  rintro e w' ⟨rfl, rfl⟩
  have x1 := Boxed.new w 3 (.int .i64 L)
  have x2 := Boxed.new (w.alloc (.cells #[.int .i64 L] 3)) 3 (.int .i64 f)
  have x3 := Boxed.new ((w.alloc (.cells #[.int .i64 L] 3)).alloc (.cells #[.int .i64 f] 3)) 4 (.bool b)
  simp only [World.size_alloc, Nat.add_assoc, Nat.reduceAdd] at x2 x3
  exact ⟨_, rfl, Nat.le_refl _, (x1.alloc _).alloc _, x2.alloc _, x3, (((Below.refl _ _).alloc (Nat.le_refl _) _).alloc (by simp) _).alloc (by simp; omega) _⟩
theorem made_keep {w w' : World} {i : Nat} {L f : Int} {b : Bool} (h : Made w w' i L f b) {Bl Bf Bb n : Nat} {v1 v2 v3 : Value} (h1 : Bl < n) (h2 : Bf < n) (h3 : Bb < n)
    (hS : w.cell? ⟨Bl, 0, none⟩ = some v1 ∧ w.cell? ⟨Bf, 0, none⟩ = some v2 ∧ w.cell? ⟨Bb, 0, none⟩ = some v3 ∧ n ≤ w.heap.size) :
    w'.cell? ⟨Bl, 0, none⟩ = some v1 ∧ w'.cell? ⟨Bf, 0, none⟩ = some v2 ∧ w'.cell? ⟨Bb, 0, none⟩ = some v3 ∧ n ≤ w'.heap.size := by
  obtain ⟨a1, a2, a3, a4⟩ := hS
  have hs := h.below.size
  exact ⟨(h.below.cell (p := ⟨Bl, 0, none⟩) (by show Bl < _; omega)).trans a1, (h.below.cell (p := ⟨Bf, 0, none⟩) (by show Bf < _; omega)).trans a2, (h.below.cell (p := ⟨Bb, 0, none⟩) (by show Bb < _; omega)).trans a3, by omega⟩

theorem alloc_keep {w : World} (o : Obj) {Bl Bf Bb n : Nat} {v1 v2 v3 : Value} (h1 : Bl < n) (h2 : Bf < n) (h3 : Bb < n)
    (hS : w.cell? ⟨Bl, 0, none⟩ = some v1 ∧ w.cell? ⟨Bf, 0, none⟩ = some v2 ∧ w.cell? ⟨Bb, 0, none⟩ = some v3 ∧ n ≤ w.heap.size) :
    (w.alloc o).cell? ⟨Bl, 0, none⟩ = some v1 ∧ (w.alloc o).cell? ⟨Bf, 0, none⟩ = some v2 ∧ (w.alloc o).cell? ⟨Bb, 0, none⟩ = some v3 ∧ n ≤ (w.alloc o).heap.size := by
  obtain ⟨a1, a2, a3, a4⟩ := hS
  exact ⟨(World.cell?_alloc_lt w o ⟨Bl, 0, none⟩ (by show Bl < _; omega)).trans a1, (World.cell?_alloc_lt w o ⟨Bf, 0, none⟩ (by show Bf < _; omega)).trans a2, (World.cell?_alloc_lt w o ⟨Bb, 0, none⟩ (by show Bb < _; omega)).trans a3, by simp; omega⟩

set_option maxRecDepth 100000 in
set_option maxHeartbeats 2000000 in
theorem halv0 (f : Int) (b : Bool) (m l Bs N : Nat) (J : List Int × Nat → World → Prop) (pre : List Int) (r : Nat) (W : World) (Bl Bf Bb : Nat)
    (hBl : Boxed W Bl 3 (.int .i64 0)) (hBf : Boxed W Bf 3 (.int .i64 f))
    (hJ : Inv W.heap.size J) (hY : RoundY Fence.wide m l Bs N J) (hN : pre.length < N) (h0 : J (pre, r) W) :
    Calls Try.prog 63 #[.func (.yield l) #[] #[], .pointer (some ⟨Bl, 0, none⟩), .pointer (some ⟨Bf, 0, none⟩), .pointer (some ⟨Bb, 0, none⟩)] W fun e W' =>
      (∃ v, e = .returned v) ∧ ∃ r', J (pre ++ [f], r') W' ∧ Kq Bs W r W' r' := by
  have c1 := hBl.cell
  have c2 := hBf.cell
  have hJ1 : J (pre, r) (W.alloc (.cells #[.func (.yield l) #[] #[]] 26)) := hJ.own.alloc _ h0
  have hlt1 := hBl.lt
  have hlt2 := hBf.lt
  obtain ⟨fn, tmps, assign, body, hy, hR⟩ := yieldAt_any (F := Fence.wide) rfl (1 - 1) (hY pre f r _ hN hJ1)
  refine (callsIn_wide (n := 1)).1 ?_
  refine callsIn_of_wp Try.func63 rfl trivial ?_ rfl
  simp only [Try.ntmps63, List.size_toArray, List.length_cons, List.length_nil, Nat.reduceAdd, Nat.reduceSub, Array.replicate_succ, Array.replicate_zero, List.push_toArray, List.append_toArray, List.nil_append, List.cons_append]
  gi_wp2
  refine hR.mono ?_
  rintro e W3 ⟨rfl, r', hJ3, hq3⟩
  gi_wp2
  refine bodyPost_ret (results_none rfl _ _ _) rfl ?_
  exact ⟨⟨_, rfl⟩, r', hJ3, ((Kq.refl _ _ _).alloc _).trans hq3⟩

/-- a block that no step turns -/
def AtB (Bs : Nat) (X : World) (r : Nat) (q : Nat × Obj) : Prop := X.heap[q.1]? = some q.2 ∧ q.1 ≠ Bs ∧ q.1 ≠ r
theorem Kq.ne {Bs r r' B : Nat} {X X' : World} (h : Kq Bs X r X' r') (hl : B < X.heap.size) (hn : r ≠ B) : r' ≠ B := by
  rcases h.row with e | e <;> omega
theorem Kq.at_ {Bs r r' : Nat} {X X' : World} {q : Nat × Obj} (h : Kq Bs X r X' r') (ha : AtB Bs X r q) : AtB Bs X' r' q := by
  have hl := (Array.getElem?_eq_some_iff.1 ha.1).1
  exact ⟨(h.block _ hl ha.2.1 ha.2.2).trans ha.1, ha.2.1, fun e => h.ne hl (fun e' => ha.2.2 e'.symm) e.symm⟩
def AllB (qs : List (Nat × Obj)) (Bs : Nat) (X : World) (r : Nat) : Prop := ∀ q, q ∈ qs → AtB Bs X r q
theorem AllB.next {qs : List (Nat × Obj)} {Bs r r' : Nat} {X X' : World} (h : AllB qs Bs X r) (k : Kq Bs X r X' r') : AllB qs Bs X' r' := fun q hq => k.at_ (h q hq)
theorem Kq.of_below {Bs r : Nat} {X X' : World} (h : Below X.heap.size X X') : Kq Bs X r X' r := ⟨h.mono (Nat.zero_le _), .inl rfl, fun b hb _ _ => h.block b hb⟩
theorem invBy {B B' : Nat} {J : List Int × Nat → World → Prop} (h : Inv B J) (hB : B ≤ B') (By l : Nat) : Inv B' (fun q X => J q X ∧ Boxed X By 26 (.func (.yield l) #[] #[]) ∧ q.2 ≠ By) := by
  refine ⟨fun s W W' row hs hg hr => ⟨(h.mono hB).own s W W' row hs.1 hg hr, ?_, hs.2.2⟩, fun p W hp => h.lt p W hp.1⟩
  refine (hg.block By hs.2.1.lt (fun e => ?_)).trans hs.2.1
  obtain ⟨o, ho, hc⟩ := (hr _ e.symm).2
  rw [show W.heap[By]? = _ from hs.2.1] at ho; cases ho; cases hc

set_option maxRecDepth 100000 in
set_option maxHeartbeats 8000000 in
theorem halvS (L : Nat) (hL : L ≤ 2) (ih : ∀ (f : Int) (b : Bool) (m l Bs N : Nat) (J : List Int × Nat → World → Prop) (pre : List Int) (r : Nat) (W : World) (Bl Bf Bb : Nat), 0 ≤ f → f + 2 ^ L ≤ 8 →
      Boxed W Bl 3 (.int .i64 L) → Boxed W Bf 3 (.int .i64 f) → Boxed W Bb 4 (.bool b) → Bs < W.heap.size → Bl ≠ Bs → Bf ≠ Bs → Bb ≠ Bs → Bl ≠ r → Bf ≠ r → Bb ≠ r →
      Inv W.heap.size J → RoundY Fence.wide m l Bs N J → pre.length + 3 ^ L ≤ N → J (pre, r) W →
      Calls Try.prog 63 #[.func (.yield l) #[] #[], .pointer (some ⟨Bl, 0, none⟩), .pointer (some ⟨Bf, 0, none⟩), .pointer (some ⟨Bb, 0, none⟩)] W fun e W' =>
        (∃ v, e = .returned v) ∧ ∃ r', J (pre ++ hmB L f b, r') W' ∧ Kq Bs W r W' r')
    (f : Int) (b : Bool) (m l Bs N : Nat) (J : List Int × Nat → World → Prop) (pre : List Int) (r : Nat) (W : World) (Bl Bf Bb : Nat) (hf0 : 0 ≤ f) (hf1 : f + 2 ^ (L + 1) ≤ 8)
    (hBl : Boxed W Bl 3 (.int .i64 ((L + 1 : Nat) : Int))) (hBf : Boxed W Bf 3 (.int .i64 f)) (hBb : Boxed W Bb 4 (.bool b)) (hBs : Bs < W.heap.size)
    (e1 : Bl ≠ Bs) (e2 : Bf ≠ Bs) (e3 : Bb ≠ Bs) (e4 : Bl ≠ r) (e5 : Bf ≠ r) (e6 : Bb ≠ r)
    (hJ : Inv W.heap.size J) (hY : RoundY Fence.wide m l Bs N J) (hN : pre.length + 3 ^ (L + 1) ≤ N) (h0 : J (pre, r) W) :
    Calls Try.prog 63 #[.func (.yield l) #[] #[], .pointer (some ⟨Bl, 0, none⟩), .pointer (some ⟨Bf, 0, none⟩), .pointer (some ⟨Bb, 0, none⟩)] W fun e W' =>
      (∃ v, e = .returned v) ∧ ∃ r', J (pre ++ hmB (L + 1) f b, r') W' ∧ Kq Bs W r W' r' := by
  have c1 := hBl.cell
  have c2 := hBf.cell
  have c3 := hBb.cell
  have hlt1 := hBl.lt
  have hlt2 := hBf.lt
  have hlt3 := hBb.lt
  obtain ⟨p, hp⟩ : ∃ p : Int, (2 : Int) ^ L = p := ⟨_, rfl⟩
  have hp2 : (2 : Int) ^ (L + 1) = 2 * p := by rw [Int.pow_succ, hp]; omega
  have hp0 : 1 ≤ p ∧ p ≤ 4 := by
    obtain rfl | rfl | rfl : L = 0 ∨ L = 1 ∨ L = 2 := by omega
    all_goals (simp at hp; omega)
  obtain ⟨hp1, hp4⟩ := hp0
  have e7 : ((L + 1 : Nat) : Int) = (L : Int) + 1 := by omega
  rw [e7] at c1
  have hsub : (L : Int) + 1 - 1 = (L : Int) := by omega
  have hL0 : (0 : Int) ≤ (L : Int) := by omega
  have hL2 : (L : Int) ≤ 2 := by omega
  clear e7
  have hne : ((L : Int) + 1 == 0) = false := by simp; omega
  refine (callsIn_wide (n := 9)).1 ?_
  refine callsIn_of_wp_marks Try.func63 rfl trivial ?_ rfl
  simp only [Try.ntmps63, List.size_toArray, List.length_cons, List.length_nil, Nat.reduceAdd, Nat.reduceSub, Array.replicate_succ, Array.replicate_zero, List.push_toArray, List.append_toArray, List.nil_append, List.cons_append]
  refine wpIn_wide.2 ?_
  go_wp2
  obtain ⟨W1, hW1⟩ : ∃ W1, W.alloc (.cells #[.func (.yield l) #[] #[]] 26) = W1 := ⟨_, rfl⟩
  have bY : Boxed W1 W.heap.size 26 (.func (.yield l) #[] #[]) := by rw [← hW1]; exact Boxed.new _ _ _
  have bl1 : Boxed W1 Bl 3 (.int .i64 ((L + 1 : Nat) : Int)) := by rw [← hW1]; exact hBl.alloc _
  have bf1 : Boxed W1 Bf 3 (.int .i64 f) := by rw [← hW1]; exact hBf.alloc _
  have bb1 : Boxed W1 Bb 4 (.bool b) := by rw [← hW1]; exact hBb.alloc _
  have hq1 : Kq Bs W r W1 r := by rw [← hW1]; exact (Kq.refl _ _ _).alloc _
  have hJ1 : J (pre, r) W1 := by rw [← hW1]; exact hJ.own.alloc _ h0
  have hs1 : W1.heap.size = W.heap.size + 1 := by rw [← hW1]; simp
  rw [hW1]
  have k1 : W1.cell? ⟨Bl, 0, none⟩ = some (.int .i64 ((L : Int) + 1)) := by have := bl1.cell; rwa [show ((L + 1 : Nat) : Int) = (L : Int) + 1 from by omega] at this
  have k2 := bf1.cell
  have k3 := bb1.cell
  have m1 : Bl < W1.heap.size := by omega
  have m2 : Bf < W1.heap.size := by omega
  have m3 : Bb < W1.heap.size := by omega
  have w1 : IntKind.i64.wrap (L : Int) = (L : Int) := by rw [IntKind.wrap_i64]; omega
  have w2 : IntKind.i64.wrap (f + p) = f + p := by rw [IntKind.wrap_i64]; omega
  clear c1 c2 c3
  have HW1 := Lib.hid hW1
  have HS1 := Lib.hid hs1
  have HP2 := Lib.hid hp2
  have HP := Lib.hid hp
  clear hW1 hs1 hp hp2 hsub hne
  have HS0 := Lib.hid (show W1.cell? ⟨Bl, 0, none⟩ = some (.int .i64 ((L : Int) + 1)) ∧ W1.cell? ⟨Bf, 0, none⟩ = some (.int .i64 f) ∧ W1.cell? ⟨Bb, 0, none⟩ = some (.bool b) ∧ W1.heap.size ≤ W1.heap.size from ⟨k1, k2, k3, Nat.le_refl _⟩)
  refine wp_region_noPanic ?_
  go_region_held3 (fun w' => w'.cell? ⟨Bl, 0, none⟩ = some (.int .i64 ((L : Int) + 1)) ∧ w'.cell? ⟨Bf, 0, none⟩ = some (.int .i64 f) ∧ w'.cell? ⟨Bb, 0, none⟩ = some (.bool b) ∧ W1.heap.size ≤ w'.heap.size) (first | exact ⟨k1, k2, k3, Nat.le_refl _⟩ | exact made_keep (by assumption) m1 m2 m3 (by assumption) | exact made_keep (by assumption) m1 m2 m3 ⟨by assumption, by assumption, by assumption, by assumption⟩ | exact alloc_keep _ m1 m2 m3 (by assumption) | exact alloc_keep _ m1 m2 m3 ⟨by assumption, by assumption, by assumption, by assumption⟩ | go_keep) ((go_at_call 47; refine (halves_made _ _ _ _).mono ?_; rintro e w' ⟨i, rfl, hM⟩))
  refine NoPanic.normal ?_
  go_wp2
  rename_i wa i1 hM1 wb i2 hM2 hH
  obtain ⟨i3, rfl⟩ : ∃ i3, i3 = i := ⟨_, rfl⟩
  clear hH
  obtain ⟨fv1, hfv1⟩ : ∃ v, Value.func (.func 63) #[] #[.pointer (some ⟨i1, 0, none⟩), .pointer (some ⟨i1 + 1, 0, none⟩), .pointer (some ⟨i1 + 2, 0, none⟩)] = v := ⟨_, rfl⟩
  obtain ⟨fv2, hfv2⟩ : ∃ v, Value.func (.func 63) #[] #[.pointer (some ⟨i2, 0, none⟩), .pointer (some ⟨i2 + 1, 0, none⟩), .pointer (some ⟨i2 + 2, 0, none⟩)] = v := ⟨_, rfl⟩
  obtain ⟨fv3, hfv3⟩ : ∃ v, Value.func (.func 63) #[] #[.pointer (some ⟨i3, 0, none⟩), .pointer (some ⟨i3 + 1, 0, none⟩), .pointer (some ⟨i3 + 2, 0, none⟩)] = v := ⟨_, rfl⟩
  rw [hfv1, hfv2, hfv3]
  obtain ⟨G, hGe⟩ : ∃ G, w'.heap.size = G := ⟨_, rfl⟩
  obtain ⟨By, hBy⟩ : ∃ By, W.heap.size = By := ⟨_, rfl⟩
  obtain ⟨X0, hX0⟩ : ∃ X, w'.alloc (.cells #[fv1, fv2, fv3] 42) = X := ⟨_, rfl⟩
  rw [hX0, hGe, hBy]
  rw [hBy] at bY
  have hrW := hJ.lt _ _ h0
  have s1 := hM1.below.size
  have s2 := hM2.below.size
  have s3 := hM.below.size
  have s0 := HS1.out
  have g1 := hM1.ge
  have g2 := hM2.ge
  have g3 := hM.ge
  dsimp only [World.drew] at s1 g1
  have q1 : Kq Bs W1 r wa r := Kq.of_below (X := W1) ⟨hM1.below.os, hM1.below.tape, hM1.below.output, hM1.below.size, hM1.below.block⟩
  have q2 := Kq.of_below (Bs := Bs) (r := r) hM2.below
  have q3 := Kq.of_below (Bs := Bs) (r := r) hM.below
  have q4 : Kq Bs w' r X0 r := by rw [← hX0]; exact (Kq.refl _ _ _).alloc _
  have hg : AtB Bs X0 r (G, .cells #[fv1, fv2, fv3] 42 (0, 0)) := by
    refine ⟨by rw [← hX0, ← hGe]; exact World.alloc_heap_new _ _, ?_, ?_⟩ <;> (show G ≠ _; omega)
  have hyA : AtB Bs W1 r (By, .cells #[.func (.yield l) #[] #[]] 26 (0, 0)) := ⟨bY, by show By ≠ _; omega, by show By ≠ _; omega⟩
  have hy0 := q4.at_ (q3.at_ (q2.at_ (q1.at_ hyA)))
  have n1 : ∀ j, j ≥ W1.heap.size → j ≠ Bs ∧ j ≠ r := fun j hj => by omega
  have h1a := q4.at_ (q3.at_ (q2.at_ (Bs := Bs) (r := r) (q := (i1, _)) ⟨hM1.b1, n1 _ (by show i1 ≥ _; omega)⟩))
  have h1b := q4.at_ (q3.at_ (q2.at_ (Bs := Bs) (r := r) (q := (i1 + 1, _)) ⟨hM1.b2, n1 _ (by show i1 + 1 ≥ _; omega)⟩))
  have h1c := q4.at_ (q3.at_ (q2.at_ (Bs := Bs) (r := r) (q := (i1 + 2, _)) ⟨hM1.b3, n1 _ (by show i1 + 2 ≥ _; omega)⟩))
  have h2a := q4.at_ (q3.at_ (Bs := Bs) (r := r) (q := (i2, _)) ⟨hM2.b1, n1 _ (by show i2 ≥ _; omega)⟩)
  have h2b := q4.at_ (q3.at_ (Bs := Bs) (r := r) (q := (i2 + 1, _)) ⟨hM2.b2, n1 _ (by show i2 + 1 ≥ _; omega)⟩)
  have h2c := q4.at_ (q3.at_ (Bs := Bs) (r := r) (q := (i2 + 2, _)) ⟨hM2.b3, n1 _ (by show i2 + 2 ≥ _; omega)⟩)
  have h3a := q4.at_ (Bs := Bs) (r := r) (q := (i3, _)) ⟨hM.b1, n1 _ (by show i3 ≥ _; omega)⟩
  have h3b := q4.at_ (Bs := Bs) (r := r) (q := (i3 + 1, _)) ⟨hM.b2, n1 _ (by show i3 + 1 ≥ _; omega)⟩
  have h3c := q4.at_ (Bs := Bs) (r := r) (q := (i3 + 2, _)) ⟨hM.b3, n1 _ (by show i3 + 2 ≥ _; omega)⟩
  have hK0 : Kq Bs W r X0 r := (((hq1.trans q1).trans q2).trans q3).trans q4
  have hW1X : Kq Bs W1 r X0 r := ((q1.trans q2).trans q3).trans q4
  have hj0 : J (pre, r) X0 := by
    refine hJ.own _ W1 X0 none hJ1 ⟨hW1X.below.os, hW1X.below.tape, hW1X.below.output, hW1X.below.size, fun k hk _ => ?_⟩ (fun _ e => by cases e)
    by_cases hkb : k < W1.heap.size
    · rw [← hX0]
      refine (Below.heap_alloc _ _ _ (by omega)).trans ((hM.below.block k (by omega)).trans ((hM2.below.block k (by omega)).trans (hM1.below.block k hkb)))
    · exact absurd hk hkb
  have HH := Lib.hid (show AtB Bs X0 r (G, .cells #[fv1, fv2, fv3] 42 (0, 0)) ∧ AtB Bs X0 r (By, .cells #[.func (.yield l) #[] #[]] 26 (0, 0)) ∧ AtB Bs X0 r (i1, _) ∧ AtB Bs X0 r (i1 + 1, _) ∧ AtB Bs X0 r (i1 + 2, _) ∧ AtB Bs X0 r (i2, _) ∧ AtB Bs X0 r (i2 + 1, _) ∧ AtB Bs X0 r (i2 + 2, _) ∧ AtB Bs X0 r (i3, _) ∧ AtB Bs X0 r (i3 + 1, _) ∧ AtB Bs X0 r (i3 + 2, _) from ⟨hg, hy0, h1a, h1b, h1c, h2a, h2b, h2c, h3a, h3b, h3c⟩)
  obtain ⟨r0, rfl⟩ : ∃ r0, r0 = r := ⟨_, rfl⟩
  have HX0 := Lib.hid hX0
  have HF := Lib.hid (show _ ∧ _ ∧ _ from ⟨hfv1, hfv2, hfv3⟩)
  have HBY := Lib.hid hBy
  have HGE := Lib.hid hGe
  clear hX0 hfv1 hfv2 hfv3 hBy hGe hM1 hM2 hM hg hyA hy0 h1a h1b h1c h2a h2b h2c h3a h3b h3c q1 q2 q3 q4 hW1X hJ1 hq1 bY bl1 bf1 bb1 k1 k2 k3 s1 s2 s3 s0 g1 g2 g3 n1
  have hBs0 : Bs < X0.heap.size := Nat.lt_of_lt_of_le hBs hK0.size
  have HN := Lib.hid (show pre.length + 3 * 3 ^ L ≤ N by rw [Nat.pow_succ] at hN; omega)
  refine wp_loop_rounds 4 ?_
  -- part 1
  have kc1 : X0.cell? ⟨G, 0, none⟩ = some fv1 := (cell_of_row X0 G 0 _ _ (0, 0) HH.out.1.1).trans rfl
  have hf1 := HF.out.1
  have HFV1 := Lib.hid hf1
  clear hf1
  rw [rounds_succ]
  go_wp2
  clear kc1
  refine wpIn_wide.1 (rangeQ (F := Fence.wide) rfl (n := 9) rfl (gf := 63) (lb := #[.pointer (some ⟨i1, 0, none⟩), .pointer (some ⟨i1 + 1, 0, none⟩), .pointer (some ⟨i1 + 2, 0, none⟩)]) (by rw [HFV1.out]; rfl) trivial (enters_of Try.func63 (by kernel_rfl) rfl) rfl Bs r0 N pre (hmB L f false) hBs0
    (fun q X => J q X ∧ Boxed X By 26 (.func (.yield l) #[] #[]) ∧ q.2 ≠ By) (invBy hJ hK0.size _ _) ⟨hj0, HH.out.2.1.1, fun e => HH.out.2.1.2.2 e.symm⟩ ?seq1
    (fun x => { tmps := #[.func (.yield l) #[] #[], .pointer (some ⟨Bl, 0, none⟩), .pointer (some ⟨Bf, 0, none⟩), .pointer (some ⟨Bb, 0, none⟩), .pointer (some ⟨By, 0, none⟩), .int .i64 p, .slice (some ⟨G, 0, none⟩) 3 3, undef, fv1, .int .i64 x, .int .i64 ((L : Int) + 1), .bool false, undef, undef, undef, .int .i64 ((L : Int) + 1), .int .i64 (L : Int), .int .i64 p, .int .i64 ((L : Int) + 1), .int .i64 (L : Int), .int .i64 f, fv1, .int .i64 ((L : Int) + 1), .int .i64 (L : Int), .int .i64 f, .int .i64 p, .int .i64 (f + p), .bool b, fv2, .int .i64 ((L : Int) + 1), .int .i64 (L : Int), .int .i64 f, fv3, .slice (some ⟨G, 0, none⟩) 3 3, .slice (some ⟨G, 0, none⟩) 3 3, .int .i64 3, .int .i64 0, .bool true, .pointer (some ⟨G, 0, none⟩), fv1, fv1, .int .i64 x, undef, undef, undef, undef, undef], defers := [] }) ?assign1 ?body1 ?done1)
  case seq1 =>
    intro l' J' W2 hq2 hsz hi hr hj
    obtain ⟨_, _, x1, x2, x3, x4, x5, x6, x7, x8, x9⟩ := HH.out
    have y1 := hq2.at_ x1
    have y2 := hq2.at_ x2
    have y3 := hq2.at_ x3
    exact callsIn_wide.2 (ih f false _ l' Bs N J' pre r0 W2 i1 (i1 + 1) (i1 + 2) (by omega) (by rw [HP.out]; have := HP2.out; omega) y1.1 y2.1 y3.1 (by omega) y1.2.1 y2.2.1 y3.2.1 y1.2.2 y2.2.2 y3.2.2 hi hr (by have := HN.out; omega) hj)
  case assign1 =>
    intro l' x W2 K hK
    gi_wp2
    exact hK
  case body1 =>
    rintro l' pre' x r' W2 hlen ⟨hj, hby, hne⟩
    obtain ⟨fn, tmps, assign, body, hyy, hR⟩ := yieldAt_any (F := Fence.wide) rfl (9 - 1 - 1 - 1) (hY pre' x r' W2 hlen hj)
    have hyc := hby.cell
    gi_wp2
    refine (show RoundIn (Fence.wide.inRound l') _ _ _ _ _ _ _ _ _ from hR).mono ?_
    rintro e W3 ⟨rfl, r'', hJ3, hq3⟩
    gi_wp2
    exact ⟨r'', ⟨hJ3, hq3.boxed hby HH.out.2.1.2.1 hne.symm, hq3.ne hby.lt hne⟩, hq3⟩
  case done1 =>
  rintro D1 r1 X1 hD1 hD1l hD1n ⟨hj1, _, _⟩ hq1 hdf1
  have hK1 := hK0.trans hq1
  have hBs1 : Bs < X1.heap.size := Nat.lt_of_lt_of_le hBs hK1.size
  have HH2 := Lib.hid (show _ ∧ _ ∧ _ ∧ _ ∧ _ ∧ _ ∧ _ ∧ _ ∧ _ ∧ _ ∧ _ from ⟨hq1.at_ HH.out.1, hq1.at_ HH.out.2.1, hq1.at_ HH.out.2.2.1, hq1.at_ HH.out.2.2.2.1, hq1.at_ HH.out.2.2.2.2.1, hq1.at_ HH.out.2.2.2.2.2.1, hq1.at_ HH.out.2.2.2.2.2.2.1, hq1.at_ HH.out.2.2.2.2.2.2.2.1, hq1.at_ HH.out.2.2.2.2.2.2.2.2.1, hq1.at_ HH.out.2.2.2.2.2.2.2.2.2.1, hq1.at_ HH.out.2.2.2.2.2.2.2.2.2.2⟩)
  have HD1 := Lib.hid (show AtB Bs X1 r1 (D1, _) from ⟨hdf1, by show D1 ≠ _; omega, hD1n⟩)
  clear hdf1
  -- part 2
  have kc2 : X1.cell? ⟨G, 1, none⟩ = some fv2 := (cell_of_row X1 G 1 _ _ (0, 0) HH2.out.1.1).trans rfl
  have hf2 := HF.out.2.1
  have HFV2 := Lib.hid hf2
  clear hf2
  go_wp2
  rw [rounds_succ]
  go_wp2
  clear kc2
  refine wpIn_wide.1 (rangeQ (F := Fence.wide) rfl (n := 9) rfl (gf := 63) (lb := #[.pointer (some ⟨i2, 0, none⟩), .pointer (some ⟨i2 + 1, 0, none⟩), .pointer (some ⟨i2 + 2, 0, none⟩)]) (by rw [HFV2.out]; rfl) trivial (enters_of Try.func63 (by kernel_rfl) rfl) rfl Bs r1 N (pre ++ hmB L f false) (hmB L (f + p) b) hBs1
    (fun q X => J q X ∧ Boxed X By 26 (.func (.yield l) #[] #[]) ∧ q.2 ≠ By) (invBy hJ hK1.size _ _) ⟨hj1, HH2.out.2.1.1, fun e => HH2.out.2.1.2.2 e.symm⟩ ?seq2
    (fun x => { tmps := #[.func (.yield l) #[] #[], .pointer (some ⟨Bl, 0, none⟩), .pointer (some ⟨Bf, 0, none⟩), .pointer (some ⟨Bb, 0, none⟩), .pointer (some ⟨By, 0, none⟩), .int .i64 p, .slice (some ⟨G, 0, none⟩) 3 3, undef, fv2, .int .i64 x, .int .i64 ((L : Int) + 1), .bool false, undef, undef, undef, .int .i64 ((L : Int) + 1), .int .i64 (L : Int), .int .i64 p, .int .i64 ((L : Int) + 1), .int .i64 (L : Int), .int .i64 f, fv1, .int .i64 ((L : Int) + 1), .int .i64 (L : Int), .int .i64 f, .int .i64 p, .int .i64 (f + p), .bool b, fv2, .int .i64 ((L : Int) + 1), .int .i64 (L : Int), .int .i64 f, fv3, .slice (some ⟨G, 0, none⟩) 3 3, .slice (some ⟨G, 0, none⟩) 3 3, .int .i64 3, .int .i64 1, .bool true, .pointer (some ⟨G, 1, none⟩), fv2, fv2, .int .i64 x, undef, undef, undef, undef, .int .i64 1], defers := [] }) ?assign2 ?body2 ?done2)
  case seq2 =>
    intro l' J' W2 hq2 hsz hi hr hj
    obtain ⟨_, _, x1, x2, x3, x4, x5, x6, x7, x8, x9⟩ := HH2.out
    have y1 := hq2.at_ x4
    have y2 := hq2.at_ x5
    have y3 := hq2.at_ x6
    exact callsIn_wide.2 (ih (f + p) b _ l' Bs N J' (pre ++ hmB L f false) r1 W2 i2 (i2 + 1) (i2 + 2) (by omega) (by rw [HP.out]; have := HP2.out; omega) y1.1 y2.1 y3.1 (by omega) y1.2.1 y2.2.1 y3.2.1 y1.2.2 y2.2.2 y3.2.2 hi hr (by rw [List.length_append, hmB_len]; have := HN.out; omega) hj)
  case assign2 =>
    intro l' x W2 K hK
    gi_wp2
    exact hK
  case body2 =>
    rintro l' pre' x r' W2 hlen ⟨hj, hby, hne⟩
    obtain ⟨fn, tmps, assign, body, hyy, hR⟩ := yieldAt_any (F := Fence.wide) rfl (9 - 1 - 1 - 1) (hY pre' x r' W2 hlen hj)
    have hyc := hby.cell
    gi_wp2
    refine (show RoundIn (Fence.wide.inRound l') _ _ _ _ _ _ _ _ _ from hR).mono ?_
    rintro e W3 ⟨rfl, r'', hJ3, hq3⟩
    gi_wp2
    exact ⟨r'', ⟨hJ3, hq3.boxed hby HH2.out.2.1.2.1 hne.symm, hq3.ne hby.lt hne⟩, hq3⟩
  case done2 =>
  rintro D2 r2 X2 hD2 hD2l hD2n ⟨hj2, _, _⟩ hq2 hdf2
  have hK2 := hK1.trans hq2
  have hBs2 : Bs < X2.heap.size := Nat.lt_of_lt_of_le hBs hK2.size
  have HH3 := Lib.hid (show _ ∧ _ ∧ _ ∧ _ ∧ _ ∧ _ ∧ _ ∧ _ ∧ _ ∧ _ ∧ _ from ⟨hq2.at_ HH2.out.1, hq2.at_ HH2.out.2.1, hq2.at_ HH2.out.2.2.1, hq2.at_ HH2.out.2.2.2.1, hq2.at_ HH2.out.2.2.2.2.1, hq2.at_ HH2.out.2.2.2.2.2.1, hq2.at_ HH2.out.2.2.2.2.2.2.1, hq2.at_ HH2.out.2.2.2.2.2.2.2.1, hq2.at_ HH2.out.2.2.2.2.2.2.2.2.1, hq2.at_ HH2.out.2.2.2.2.2.2.2.2.2.1, hq2.at_ HH2.out.2.2.2.2.2.2.2.2.2.2⟩)
  have HD2 := Lib.hid (show AtB Bs X2 r2 (D2, _) from ⟨hdf2, by show D2 ≠ _; omega, hD2n⟩)
  clear hdf2
  -- part 3
  have kc3 : X2.cell? ⟨G, 2, none⟩ = some fv3 := (cell_of_row X2 G 2 _ _ (0, 0) HH3.out.1.1).trans rfl
  have hf3 := HF.out.2.2
  have HFV3 := Lib.hid hf3
  clear hf3
  go_wp2
  rw [rounds_succ]
  go_wp2
  clear kc3
  refine wpIn_wide.1 (rangeQ (F := Fence.wide) rfl (n := 9) rfl (gf := 63) (lb := #[.pointer (some ⟨i3, 0, none⟩), .pointer (some ⟨i3 + 1, 0, none⟩), .pointer (some ⟨i3 + 2, 0, none⟩)]) (by rw [HFV3.out]; rfl) trivial (enters_of Try.func63 (by kernel_rfl) rfl) rfl Bs r2 N (pre ++ hmB L f false ++ hmB L (f + p) b) (hmB L f true) hBs2
    (fun q X => J q X ∧ Boxed X By 26 (.func (.yield l) #[] #[]) ∧ q.2 ≠ By) (invBy hJ hK2.size _ _) ⟨hj2, HH3.out.2.1.1, fun e => HH3.out.2.1.2.2 e.symm⟩ ?seq3
    (fun x => { tmps := #[.func (.yield l) #[] #[], .pointer (some ⟨Bl, 0, none⟩), .pointer (some ⟨Bf, 0, none⟩), .pointer (some ⟨Bb, 0, none⟩), .pointer (some ⟨By, 0, none⟩), .int .i64 p, .slice (some ⟨G, 0, none⟩) 3 3, undef, fv3, .int .i64 x, .int .i64 ((L : Int) + 1), .bool false, undef, undef, undef, .int .i64 ((L : Int) + 1), .int .i64 (L : Int), .int .i64 p, .int .i64 ((L : Int) + 1), .int .i64 (L : Int), .int .i64 f, fv1, .int .i64 ((L : Int) + 1), .int .i64 (L : Int), .int .i64 f, .int .i64 p, .int .i64 (f + p), .bool b, fv2, .int .i64 ((L : Int) + 1), .int .i64 (L : Int), .int .i64 f, fv3, .slice (some ⟨G, 0, none⟩) 3 3, .slice (some ⟨G, 0, none⟩) 3 3, .int .i64 3, .int .i64 2, .bool true, .pointer (some ⟨G, 2, none⟩), fv3, fv3, .int .i64 x, undef, undef, undef, undef, .int .i64 2], defers := [] }) ?assign3 ?body3 ?done3)
  case seq3 =>
    intro l' J' W2 hq2 hsz hi hr hj
    obtain ⟨_, _, x1, x2, x3, x4, x5, x6, x7, x8, x9⟩ := HH3.out
    have y1 := hq2.at_ x7
    have y2 := hq2.at_ x8
    have y3 := hq2.at_ x9
    exact callsIn_wide.2 (ih f true _ l' Bs N J' (pre ++ hmB L f false ++ hmB L (f + p) b) r2 W2 i3 (i3 + 1) (i3 + 2) (by omega) (by rw [HP.out]; have := HP2.out; omega) y1.1 y2.1 y3.1 (by omega) y1.2.1 y2.2.1 y3.2.1 y1.2.2 y2.2.2 y3.2.2 hi hr (by rw [List.length_append, List.length_append, hmB_len, hmB_len]; have := HN.out; omega) hj)
  case assign3 =>
    intro l' x W2 K hK
    gi_wp2
    exact hK
  case body3 =>
    rintro l' pre' x r' W2 hlen ⟨hj, hby, hne⟩
    obtain ⟨fn, tmps, assign, body, hyy, hR⟩ := yieldAt_any (F := Fence.wide) rfl (9 - 1 - 1 - 1) (hY pre' x r' W2 hlen hj)
    have hyc := hby.cell
    gi_wp2
    refine (show RoundIn (Fence.wide.inRound l') _ _ _ _ _ _ _ _ _ from hR).mono ?_
    rintro e W3 ⟨rfl, r'', hJ3, hq3⟩
    gi_wp2
    exact ⟨r'', ⟨hJ3, hq3.boxed hby HH3.out.2.1.2.1 hne.symm, hq3.ne hby.lt hne⟩, hq3⟩
  case done3 =>
  rintro D3 r3 X3 hD3 hD3l hD3n ⟨hj3, _, _⟩ hq3 hdf3
  have hK3 := hK2.trans hq3
  have hBs3 : Bs < X3.heap.size := Nat.lt_of_lt_of_le hBs hK3.size
  have HH4 := Lib.hid (show _ ∧ _ ∧ _ ∧ _ ∧ _ ∧ _ ∧ _ ∧ _ ∧ _ ∧ _ ∧ _ from ⟨hq3.at_ HH3.out.1, hq3.at_ HH3.out.2.1, hq3.at_ HH3.out.2.2.1, hq3.at_ HH3.out.2.2.2.1, hq3.at_ HH3.out.2.2.2.2.1, hq3.at_ HH3.out.2.2.2.2.2.1, hq3.at_ HH3.out.2.2.2.2.2.2.1, hq3.at_ HH3.out.2.2.2.2.2.2.2.1, hq3.at_ HH3.out.2.2.2.2.2.2.2.2.1, hq3.at_ HH3.out.2.2.2.2.2.2.2.2.2.1, hq3.at_ HH3.out.2.2.2.2.2.2.2.2.2.2⟩)
  have HD3 := Lib.hid (show AtB Bs X3 r3 (D3, _) from ⟨hdf3, by show D3 ≠ _; omega, hD3n⟩)
  clear hdf3
  go_wp2
  rw [rounds_succ]
  go_wp2
  have d3 := HD3.out.1
  have d2 := (hq3.at_ HD2.out).1
  have d1 := (hq3.at_ (hq2.at_ HD1.out)).1
  have z0 := hK0.size
  have z1 := hq1.size
  have z2 := hq2.size
  have t2 : (X3.putObj D3 (.deferred none)).heap[D2]? = some (.deferred (some [])) := (World.putObj_heap_other (by omega)).trans d2
  have t1 : ((X3.putObj D3 (.deferred none)).putObj D2 (.deferred none)).heap[D1]? = some (.deferred (some [])) := (World.putObj_heap_other (by omega)).trans ((World.putObj_heap_other (by omega)).trans d1)
  refine ⟨by simp, .inl ⟨_, _, rfl, run_takeDeferred d3, ?_⟩⟩
  refine ⟨by simp, .inl ⟨_, _, rfl, run_takeDeferred t2, ?_⟩⟩
  refine ⟨by simp, .inl ⟨_, _, rfl, run_takeDeferred t1, ?_⟩⟩
  refine ⟨_, results_none rfl _ _ _, ⟨_, rfl⟩, r3, ?_, ((hK3.putObj _ _ (by omega)).putObj _ _ (by omega)).putObj _ _ (by omega)⟩
  rw [hmB_succ, HP.out, ← List.append_assoc, ← List.append_assoc]
  exact hJ.own.putObj _ (hJ.own.putObj _ (hJ.own.putObj _ hj3 (by omega) d3 rfl) (by omega) t2 rfl) (by omega) t1 rfl

theorem halv (L : Nat) : L ≤ 3 → ∀ (f : Int) (b : Bool) (m l Bs N : Nat) (J : List Int × Nat → World → Prop) (pre : List Int) (r : Nat) (W : World) (Bl Bf Bb : Nat), 0 ≤ f → f + 2 ^ L ≤ 8 →
      Boxed W Bl 3 (.int .i64 L) → Boxed W Bf 3 (.int .i64 f) → Boxed W Bb 4 (.bool b) → Bs < W.heap.size → Bl ≠ Bs → Bf ≠ Bs → Bb ≠ Bs → Bl ≠ r → Bf ≠ r → Bb ≠ r →
      Inv W.heap.size J → RoundY Fence.wide m l Bs N J → pre.length + 3 ^ L ≤ N → J (pre, r) W →
      Calls Try.prog 63 #[.func (.yield l) #[] #[], .pointer (some ⟨Bl, 0, none⟩), .pointer (some ⟨Bf, 0, none⟩), .pointer (some ⟨Bb, 0, none⟩)] W fun e W' =>
        (∃ v, e = .returned v) ∧ ∃ r', J (pre ++ hmB L f b, r') W' ∧ Kq Bs W r W' r' := by
  induction L with
  | zero =>
    intro _ f b m l Bs N J pre r W Bl Bf Bb _ _ hBl hBf _ _ _ _ _ _ _ _ hJ hY hN h0
    have := halv0 f b m l Bs N J pre r W Bl Bf Bb hBl hBf hJ hY (by omega) h0
    rw [hmB_zero]
    exact this
  | succ L ih =>
    intro hL f b m l Bs N J pre r W Bl Bf Bb hf0 hf1 hBl hBf hBb hBs e1 e2 e3 e4 e5 e6 hJ hY hN h0
    exact halvS L (by omega) (ih (by omega)) f b m l Bs N J pre r W Bl Bf Bb hf0 hf1 hBl hBf hBb hBs e1 e2 e3 e4 e5 e6 hJ hY hN h0
end Go.Proofs.Ytmppiifkajmbgaa

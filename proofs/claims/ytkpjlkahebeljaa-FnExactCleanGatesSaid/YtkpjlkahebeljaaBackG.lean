/- Contract of impl.backwards at gates: a range over slices.Backward, its loop variable in a box of four cells. -/
import Derived.RangeFuncBox
import Derived.RangeFuncNested
import Derived.RangeFuncLeaves
import Derived.Shelf.Abstract
import Derived.WalkKit
import Derived.OwnWalkIn
import Derived.TacticsInMore
import Derived.LoopNIn
import Derived.LoopIn
import Derived.Maps.AppendAt
import Derived.Test.YtkpjlkahebeljaaPushF
import Derived.Test.YtkpjlkahebeljaaPlComp
namespace Go.Proofs.Ytkpjlkahebeljaa
open Go.RowKit Go.Shelf
set_option linter.unusedVariables false

attribute [local go_sem] Oper.semAt_some

/-- a gate that is handed out: its place and its four ints -/
abbrev XG := Int × Int × Int × Int × Int
def fl (x : XG) : List Int := [x.2.1, x.2.2.1, x.2.2.2.1, x.2.2.2.2]
def enc (x : XG) : Array Value := #[.int .i64 x.1, .agg #[.int .i64 x.2.1, .int .i64 x.2.2.1, .int .i64 x.2.2.2.1, .int .i64 x.2.2.2.2]]
theorem flat_len (pre : List XG) : (pre.flatMap fl).length = pre.length * 4 := by
  induction pre with
  | nil => rfl
  | cons x pre ih => rw [List.flatMap_cons, List.length_append, ih]; simp [fl]; omega

/-- what the iterator wants kept: what lay below n₀, and the box Bs -/
def KpB (n₀ Bs : Nat) (W W' : World) : Prop := Below n₀ W W' ∧ W'.heap[Bs]? = W.heap[Bs]?
theorem KpB.refl (n₀ Bs : Nat) (W : World) : KpB n₀ Bs W W := ⟨Below.refl _ _, rfl⟩
theorem KpB.trans {n₀ Bs : Nat} {X Y Z : World} (h : KpB n₀ Bs X Y) (k : KpB n₀ Bs Y Z) : KpB n₀ Bs X Z := ⟨h.1.trans k.1, k.2.trans h.2⟩
theorem KpB.put {n₀ Bs : Nat} {w : World} (hn : n₀ ≤ w.heap.size) (hB : Bs < w.heap.size) (W : World) (l : Nat) (o o' : Obj) (hl : w.heap.size ≤ l) (h : W.heap[l]? = some o) (h1 : o.isCells = false) (h2 : o.isWalk = false) : KpB n₀ Bs W (W.putObj l o') :=
  ⟨belowK_b hn W l o o' hl h h1 h2, (grownBy_putObj' W l o').block Bs (by have := (Array.getElem?_eq_some_iff.1 h).1; omega) (by simp; omega)⟩

set_option maxRecDepth 100000 in
set_option maxHeartbeats 2000000 in
/-- the closure of slices.Backward: for every loop body that keeps what lay below n₀ and the box -/
theorem bwd1_in (F : Fence) (n : Nat) (h7 : F.fn 40) (hro : F.round = none) (hn : 1 ≤ n) (l Bs n₀ : Nat) (A : Option Addr) (m : Nat) (zs : List Int) (c : Nat) (hlen : m ≤ 1048576) (J Jx : List XG → World → Prop)
    (hY : ∀ pre x W, J pre W → pre.length < m → YieldAt F (n - 1) Try.prog l (enc x) W fun e W' =>
      (e = .returned (.bool true) ∧ J (pre ++ [x]) W' ∧ KpB n₀ Bs W W') ∨ (e = .returned (.bool false) ∧ Jx (pre ++ [x]) W'))
    (W : World) (hBs : W.cell? ⟨Bs, 0, none⟩ = some (.slice A m c)) (hr : RI W n₀ A (m * 4) zs) (h0 : J [] W) :
    CallsIn F n Try.prog 40 #[.func (.yield l) #[] #[], .pointer (some ⟨Bs, 0, none⟩)] W fun e W' => (∃ v, e = .returned v) ∧
      ((∃ ys, (ys.flatMap fl = rvL zs m 0 ∧ ys.length = m) ∧ J ys W') ∨ (∃ pre, Jx pre W')) := by
  refine callsIn_of_wp Try.func40 rfl h7 ?_ hro
  simp only [Try.ntmps40, List.size_toArray, List.length_cons, List.length_nil, Nat.reduceAdd, Nat.reduceSub, Array.replicate_succ, Array.replicate_zero, List.push_toArray, List.append_toArray, List.nil_append, List.cons_append]
  have HK : ∀ W', KpB n₀ Bs W W' → W'.cell? ⟨Bs, 0, none⟩ = some (.slice A m c) := fun W' hk => (World.cell?_of_block hk.2).trans hBs
  have HK := Lib.hid HK
  have HR := Lib.hid hr
  clear hr
  gi_wp2
  gi_loopw [3] (fun i wr => ∃ (k : Nat) (pre : List XG), k ≤ m ∧ i = .int .i64 ((k : Int) - 1) ∧ pre.length + k = m ∧ Hid (pre.flatMap fl = rvL zs m k) ∧ J pre wr ∧ KpB n₀ Bs W wr)
    (fun i _ => (intOf i + 1).toNat)
  case atStart => exact ⟨m, [], Nat.le_refl _, by first | rfl | (congr 1), by simp, Lib.hid (by rw [rvL_last]; rfl), h0, KpB.refl _ _ _⟩
  case round =>
    obtain ⟨k, pre, hk, rfl, hpl0, HP, hJs, hnx⟩ := hrel
    have hBs' := HK.out wr hnx
    cases k with
    | zero =>
      gi_wp2
      go_end0
      exact ⟨⟨_, rfl⟩, .inl ⟨pre, ⟨HP.out, by omega⟩, hJs⟩⟩
    | succ j =>
      have e1 : (((j + 1 : Nat) : Int) - 1) = (j : Int) := by omega
      rw [e1]
      obtain ⟨ad, x, y, z, u, rfl, hbb, g0, g1, g2, g3, hc0, hc1, hc2, hc3⟩ := (HR.out.below hnx.1).four (k := j) (by omega)
      have HX := Lib.hid (g4_eq g0 g1 g2 g3)
      clear g0 g1 g2 g3
      have hpl : pre.length < m := by omega
      obtain ⟨fn, tmps, assign, body, hy, hR⟩ := hY pre ((j : Int), x, y, z, u) wr hJs hpl
      dsimp only [enc] at hy
      clear e1
      have hml : j < m := by omega
      gi_wp2
      refine hR.mono ?_
      rintro e W3 (⟨rfl, hJ3, hk3⟩ | ⟨rfl, hJx3⟩)
      · gi_wp2
        go_roundw
        case rel => exact ⟨j, pre ++ [((j : Int), x, y, z, u)], by omega, by first | rfl | (congr 1), by simp; omega, Lib.hid (by rw [List.flatMap_append, HP.out, rvL_pred zs hml, HX.out]; rfl), hJ3, hnx.trans hk3⟩
        case measure => simp [intOf]
      · gi_wp2
        refine bodyPost_ret (results_none rfl _ _ _) rfl ?_
        exact ⟨⟨_, rfl⟩, .inr ⟨_, hJx3⟩⟩

set_option maxHeartbeats 1000000 in
/-- slices.Backward: the slice value is boxed; the function value captures the box -/
theorem bwd_in (F : Fence) (n : Nat) (h5 : F.fn 32) (hro : F.round = none) (A : Option Addr) (len c : Nat) (w : World) :
    CallsIn F n Try.prog 32 #[.slice A len c] w fun e w' => e = .returned (.func (.func 40) #[] #[.pointer (some ⟨w.heap.size, 0, none⟩)]) ∧ w' = w.alloc (.cells #[.slice A len c] 24) := by
  refine callsIn_of_wp Try.func32 rfl h5 ?_ hro
  simp only [Try.ntmps32, List.size_toArray, List.length_cons, List.length_nil, Nat.reduceAdd, Nat.reduceSub, Array.replicate_succ, Array.replicate_zero, List.push_toArray, List.append_toArray, List.nil_append, List.cons_append]
  gi_wp2
  go_ret
  exact ⟨rfl, rfl⟩

theorem bwd_stops (F : Fence) (n : Nat) (h7 : F.fn 40) (hro : F.round = none) (hn : 1 ≤ n) (Bs n₀ : Nat) (A : Option Addr) (m : Nat) (zs : List Int) (c : Nat) (hlen : m ≤ 1048576) (w : World) (hBs : Boxed w Bs 24 (.slice A m c)) (hn₀ : n₀ ≤ w.heap.size) (hI : RI w n₀ A (m * 4) zs) :
    SeqStopsK F n Try.prog 40 #[.pointer (some ⟨Bs, 0, none⟩)] enc (KpB n₀ Bs) (fun ys => ys.flatMap fl = rvL zs m 0 ∧ ys.length = m) (fun _ => True) m w := fun l J Jx W hW _ _ hY h0 => by
  have hlt := hBs.lt
  have hc' := (hW.cell (p := ⟨Bs, 0, none⟩) hlt).trans hBs.cell
  refine (bwd1_in F n h7 hro hn l Bs n₀ A m zs c hlen J Jx hY W hc' (hI.below (hW.mono hn₀)) h0).mono ?_
  rintro e W' ⟨he, ⟨ys, hys, hj⟩ | ⟨pre, hj⟩⟩
  · exact ⟨he, .inl ⟨ys, hys, hj⟩⟩
  · exact ⟨he, .inr ⟨pre, trivial, hj⟩⟩

/-- a block of cells that lies there -/
def RowAt (W : World) (p : Nat) (x : XG) : Prop := W.heap[p]? = some (.cells ((fl x).map (Value.int .i64)).toArray 41 (0, 0))
theorem rowAt_own {β : Type} (p : Nat) (x : XG) : Own (fun (_ : β) W => RowAt W p x) := fun s X Y row hs hg hrow => by
  have hs' : X.heap[p]? = _ := hs
  refine (hg.block p (Array.getElem?_eq_some_iff.1 hs').1 (fun e' => ?_)).trans hs'
  obtain ⟨o, ho, hc⟩ := hrow p e'.symm
  rw [hs'] at ho; cases ho; cases hc

set_option maxRecDepth 100000 in
set_option maxHeartbeats 4000000 in
theorem backwards_in (F : Fence) (n : Nat) (h3 : F.fn 26) (h4 : F.fn 32) (h5 : F.fn 40) (hro : F.round = none) (hn : 3 ≤ n) (A : Option Addr) (m : Nat) (zs : List Int) (c : Nat) (hlen : m ≤ 1048576) (w : World) (hI : RI w w.heap.size A (m * 4) zs) :
    CallsIn F n Try.prog 26 #[.slice A m c] w fun e W' => ∃ v, e = .returned v ∧ W'.ownsRow w.heap.size 41 4 v m ((rvL zs m 0).map (.int .i64)) ∧ Below w.heap.size w W' := by
  have h1 : 1 ≤ n := by omega
  obtain ⟨i0, hi, hz0, hz1, hz2⟩ := info_parts infoGate
  refine callsIn_of_wp_marks Try.func26 rfl h3 ?_ hro
  simp only [Try.ntmps26, List.size_toArray, List.length_cons, List.length_nil, Nat.reduceAdd, Nat.reduceSub, Array.replicate_succ, Array.replicate_zero, List.push_toArray, List.append_toArray, List.nil_append, List.cons_append]
  have hbwd := fun W => bwd_in F (n - 1) h4 hro A m c W
  have HB := Lib.hid hbwd
  have HI := Lib.hid hI
  clear hbwd hI
  gi_wp2_with (first | (gi_at_make; refine wpListIn_make_own _ rfl _ _ 24 rfl w.heap.size 41 i0 (.agg #[.int .i64 0, .int .i64 0, .int .i64 0, .int .i64 0]) 4 Try.underlying24 hi hz0 hz1 .i64 .i64 _ m rfl rfl rfl (by rw [hz2]; omega) (by unfold maxLen; omega) (Nat.le_refl _) ?_; intro w1 hown1 hg1) | (gi_at_call 32; refine (HB.out _).mono ?_; rintro e w' ⟨rfl, rfl⟩))
  have hb1 : Below w.heap.size w w1 := grown_below hg1
  have hsz : w.heap.size ≤ w1.heap.size := hb1.size
  have bO := Boxed.new w1 24 (.slice (some ⟨w.heap.size, 0, none⟩) 0 m)
  have bN := Boxed.new (w1.alloc (.cells #[.slice (some ⟨w.heap.size, 0, none⟩) 0 m] 24)) 24 (.slice A m c)
  rw [World.size_alloc] at bN
  have hB0 : Below w.heap.size w ((w1.alloc (.cells #[.slice (some ⟨w.heap.size, 0, none⟩) 0 m] 24)).alloc (.cells #[.slice A m c] 24)) := (hb1.alloc hsz _).alloc (by simp; omega) _
  obtain ⟨W0, hW0⟩ : ∃ W0, (w1.alloc (.cells #[.slice (some ⟨w.heap.size, 0, none⟩) 0 m] 24)).alloc (.cells #[.slice A m c] 24) = W0 := ⟨_, rfl⟩
  have hown0 : W0.ownsRow w.heap.size 41 4 (.slice (some ⟨w.heap.size, 0, none⟩) 0 m) 0 [] := by rw [← hW0]; exact (hown1.alloc _).alloc _
  have hs0 : W0.heap.size = w1.heap.size + 2 := by rw [← hW0]; simp
  have bO0 : Boxed W0 w1.heap.size 24 (.slice (some ⟨w.heap.size, 0, none⟩) 0 m) := by rw [← hW0]; exact bO.alloc _
  rw [hW0] at bN hB0 ⊢
  clear hown1 bO
  refine wpIn_rangeFunc_ownH hro h1 (gf := 40) (lb := #[.pointer (some ⟨w1.heap.size + 1, 0, none⟩)]) rfl h5 (enters_of Try.func40 (by kernel_rfl) rfl)
    (bwd_stops F (n - 1) h5 hro (by omega) (w1.heap.size + 1) w.heap.size A m zs c (by omega) W0 bN (by omega) (HI.out.below hB0)) (fun h k => h.trans k) (KpB.put (by omega) (by omega)) (Below.refl _ _) (fun _ => rfl)
    (fun pre W => ((∃ v, Boxed W w1.heap.size 24 v ∧ W.ownsRow w.heap.size 41 4 v pre.length ((pre.flatMap fl).map (.int .i64)) ∧ True) ∧ Boxed W (w1.heap.size + 1) 24 (.slice A m c)) ∧ Below w.heap.size w W)
    (fun _ _ _ => False)
    (OwnFrom.and (OwnFrom.and (Own.from (holdsRow_own w.heap.size w1.heap.size 24 41 4 (fun (pre : List XG) => pre.length) (fun pre => (pre.flatMap fl).map (.int .i64)) (fun _ _ => True)) _) (Own.from (boxed_own _ _ _) _)) (ownFrom_below (Nat.le_refl _) (by omega)))
    (fun _ _ _ _ _ hs _ _ => hs)
    ⟨⟨⟨_, bO0, hown0, trivial⟩, bN⟩, hB0⟩
    (fun x a' W => ∃ p, (a' = { tmps := #[.slice A m c, undef, .slice none 0 0, .pointer (some ⟨w1.heap.size, 0, none⟩), undef, .pointer (some ⟨p, 0, none⟩), .slice A m c, .int .i64 m, .slice (some ⟨w.heap.size, 0, none⟩) 0 m, .slice A m c, .func (.func 40) #[] #[.pointer (some ⟨w1.heap.size + 1, 0, none⟩)], .int .i64 x.1, .agg #[.int .i64 x.2.1, .int .i64 x.2.2.1, .int .i64 x.2.2.2.1, .int .i64 x.2.2.2.2], undef, undef, undef, undef, undef], defers := [] } ∧ w1.heap.size + 2 ≤ p) ∧ RowAt W p x)
    (fun x a' s X Y row hs hg hrow => by
      obtain ⟨p, hp, hR⟩ := hs
      exact ⟨p, hp, Own.from (rowAt_own (β := Unit) p x) _ s X Y row hR hg hrow⟩) ?assign ?body ?done ?stop
  case assign =>
    rintro l pre x W K ⟨⟨⟨v, hv, hrow, _⟩, hbs⟩, hB⟩ hK
    have hBs := hB.size
    have hvl := hv.lt
    have hbsl := hbs.lt
    have hsW : w1.heap.size + 2 ≤ W.heap.size := by omega
    have hk : Below W.heap.size W (W.alloc (.cells ((fl x).map (Value.int .i64)).toArray 41)) := (Below.refl _ _).alloc (Nat.le_refl _) _
    have HKK := Lib.hid (hK { tmps := #[.slice A m c, undef, .slice none 0 0, .pointer (some ⟨w1.heap.size, 0, none⟩), undef, .pointer (some ⟨W.heap.size, 0, none⟩), .slice A m c, .int .i64 m, .slice (some ⟨w.heap.size, 0, none⟩) 0 m, .slice A m c, .func (.func 40) #[] #[.pointer (some ⟨w1.heap.size + 1, 0, none⟩)], .int .i64 x.1, .agg #[.int .i64 x.2.1, .int .i64 x.2.2.1, .int .i64 x.2.2.2.1, .int .i64 x.2.2.2.2], undef, undef, undef, undef, undef], defers := [] } (W.alloc (.cells ((fl x).map (Value.int .i64)).toArray 41)) ⟨hk.size, fun k o hk0 h0 ho => (hk.block k (Array.getElem?_eq_some_iff.1 h0).1).trans h0⟩ ⟨hk.mono (by omega), Below.heap_alloc W _ _ hbsl⟩ ⟨⟨⟨v, hv.alloc _, hrow.alloc _, trivial⟩, hbs.alloc _⟩, hB.alloc (by omega) _⟩ ⟨W.heap.size, ⟨rfl, hsW⟩, show RowAt _ _ _ from World.alloc_heap_new W (.cells ((fl x).map (Value.int .i64)).toArray 41)⟩)
    clear hK hv hrow hbs
    simp only [enc]
    gi_wp2
    exact HKK.out
  case body =>
    rintro l pre x a' W _ _ ⟨⟨⟨v, hv, hrow, _⟩, hbs⟩, hB⟩ ⟨p, ⟨rfl, hp⟩, hR⟩ hlt
    have hc := hv.cell
    have HBS := Lib.hid hbs
    have d0 : W.cell? ⟨p, 0, none⟩ = some (.int .i64 x.2.1) := cell_of_row W p 0 _ _ (0, 0) hR
    have d1 : W.cell? ⟨p, 1, none⟩ = some (.int .i64 x.2.2.1) := cell_of_row W p 1 _ _ (0, 0) hR
    have d2 : W.cell? ⟨p, 2, none⟩ = some (.int .i64 x.2.2.2.1) := cell_of_row W p 2 _ _ (0, 0) hR
    have d3 : W.cell? ⟨p, 3, none⟩ = some (.int .i64 x.2.2.2.2) := cell_of_row W p 3 _ _ (0, 0) hR
    have HRow := Lib.hid hrow
    clear hbs hrow
    gi_wp2_with (gi_at_builtin; refine wpListIn_append_own _ rfl _ _ 24 rfl w.heap.size 41 i0 (.agg #[.int .i64 0, .int .i64 0, .int .i64 0, .int .i64 0]) 4 32 Try.underlying24 hi hz0 hz1 hz2 rfl (by decide) _ _ _ rfl (HRow.out.alloc _) ⟨W.heap.size, 0, none⟩ 1 1 ((fl x).map (.int .i64)) rfl rfl (fun j u hu => cells_new W ((fl x).map (.int .i64)) _ j u hu) (ints_one (fl x)) (by unfold maxLen; omega) (by omega) (by have := hB.size; simp; omega) ?_; intro v' w2 hown' hgrow _; have hrow := HRow.out; obtain ⟨g', cap', rfl⟩ := ownsRow_succ hown'; obtain ⟨hv1, hv2, hr2, hk2, hb2⟩ := hv.appended (by decide) hrow hB.size hsz hown' hgrow; have hc1 := hv1.cell; have hf1 := hv1.frozen; clear hrow)
    have hbs2 : Boxed (w2.setCell ⟨w1.heap.size, 0, none⟩ (.slice (some ⟨g', 0, none⟩) (pre.length + 1) cap')) (w1.heap.size + 1) 24 (.slice A m c) :=
      ((HBS.out.alloc _).kept hgrow (HBS.out.not_row (by decide) HRow.out)).kept (grownBy_setCell' _ _ _) (by simp)
    exact ⟨hk2.from _, ⟨hb2, (show _ = _ from hbs2).trans (show _ = _ from HBS.out).symm⟩, ⟨⟨_, hv2, by simpa using hr2, trivial⟩, hbs2⟩, hB.trans hb2⟩
  case done =>
    rintro D ys W hD ⟨hys, hyl⟩ ⟨⟨⟨v, hv, hrow, _⟩, _⟩, hB⟩ hK
    have hc := hv.cell
    have HYS := Lib.hid hys
    clear hys
    gi_wp2
    refine ⟨by simp, .inl ⟨_, _, rfl, run_takeDeferred hK, ?_⟩⟩
    rw [HYS.out, hyl] at hrow
    exact ⟨_, results_tmp rfl _ _ _, v, rfl, ownsRow_putObj hrow _ hK rfl, hB.trans (belowK_b (w := w) (Nat.le_refl _) W D _ _ (by omega) hK rfl rfl)⟩
  case stop =>
    rintro D c pre W _ _ h _
    exact h.elim

/-- impl.backwards at gates -/
theorem backwardsG (A : Option Addr) (m : Nat) (zs : List Int) (c : Nat) (hlen : m ≤ 1048576) (w : World) (hI : RI w w.heap.size A (m * 4) zs) :
    Calls Try.prog 26 #[.slice A m c] w (fun e w' => ∃ A' c', e = .returned (.slice A' m c') ∧ OF 41 4 w' w.heap.size A' m c' (rvL zs m 0) ∧ Below w.heap.size w w') := by
  refine ((callsIn_wide (n := 3)).1 (backwards_in Fence.wide 3 trivial trivial trivial rfl (by omega) A m zs c hlen w hI)).mono ?_
  rintro e w' ⟨v, rfl, hrow, hb⟩
  obtain ⟨A', c', rfl, hO⟩ := OF.of (zs := rvL zs m 0) hrow rfl
  exact ⟨A', c', rfl, hO, hb⟩
end Go.Proofs.Ytkpjlkahebeljaa

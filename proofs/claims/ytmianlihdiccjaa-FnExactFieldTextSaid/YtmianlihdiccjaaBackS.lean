/- Contract of impl.backwards at strings: a range over slices.Backward. -/
import Derived.RangeFuncBox
import Derived.RangeFuncNested
import Derived.RangeFuncLeaves
import Derived.Shelf.Abstract
import Derived.WalkKit
import Derived.OwnWalkIn
import Derived.TacticsInMore
import Derived.LoopNIn
import Derived.LoopIn
import Derived.Maps.AppendAt
import Derived.Test.YtmianlihdiccjaaBase
import Derived.Test.YtmianlihdiccjaaMem
namespace Go.Proofs.Ytmianlihdiccjaa
open Go.RowKit Go.Shelf
set_option linter.unusedVariables false

attribute [local go_sem] Oper.semAt_some

theorem infoStr : (Try.prog.info? 9).map (fun i => (i.zero, i.size, i.bytes)) = some (some (.string ⟨#[]⟩), 1, 16) := by kernel_rfl
/-- a slice of n strings that is read -/
def RT (w : World) (B : Nat) (A : Option Addr) (n : Nat) (zs : List ByteArray) : Prop := Reads w B A n (zs.map (.string))
theorem RT.below {w w' : World} {B n : Nat} {A : Option Addr} {zs : List ByteArray} (h : RT w B A n zs) (hb : Below B w w') : RT w' B A n zs := Reads.below h hb
theorem RT.at_ {w : World} {B n : Nat} {A : Option Addr} {zs : List ByteArray} {k : Nat} (h : RT w B A n zs) (hk : k < n) : ∃ ad x, A = some ad ∧ ad.block < B ∧ zs[k]? = some x ∧ w.cell? (ad.add k) = some (.string x) := by
  obtain ⟨ad, u, e, hb, hu, hc⟩ := Reads.at_ h hk
  rw [List.getElem?_map] at hu
  obtain ⟨x, hx, rfl⟩ := Option.map_eq_some_iff.1 hu
  exact ⟨ad, x, e, hb, hx, hc⟩
theorem drop_pred (zs : List ByteArray) (m : Nat) (x : ByteArray) (h : zs[m]? = some x) : zs.drop m = x :: zs.drop (m + 1) := by
  obtain ⟨hm, rfl⟩ := List.getElem?_eq_some_iff.1 h
  exact List.drop_eq_getElem_cons hm

/-- what the iterator wants kept: what lay below n₀, and the box Bs -/
def KpB (n₀ Bs : Nat) (W W' : World) : Prop := Below n₀ W W' ∧ W'.heap[Bs]? = W.heap[Bs]?
theorem KpB.refl (n₀ Bs : Nat) (W : World) : KpB n₀ Bs W W := ⟨Below.refl _ _, rfl⟩
theorem KpB.trans {n₀ Bs : Nat} {X Y Z : World} (h : KpB n₀ Bs X Y) (k : KpB n₀ Bs Y Z) : KpB n₀ Bs X Z := ⟨h.1.trans k.1, k.2.trans h.2⟩
theorem KpB.put {n₀ Bs : Nat} {w : World} (hn : n₀ ≤ w.heap.size) (hB : Bs < w.heap.size) (W : World) (l : Nat) (o o' : Obj) (hl : w.heap.size ≤ l) (h : W.heap[l]? = some o) (h1 : o.isCells = false) (h2 : o.isWalk = false) : KpB n₀ Bs W (W.putObj l o') :=
  ⟨belowK_b hn W l o o' hl h h1 h2, (grownBy_putObj' W l o').block Bs (by have := (Array.getElem?_eq_some_iff.1 h).1; omega) (by simp; omega)⟩

set_option maxRecDepth 100000 in
set_option maxHeartbeats 2000000 in
/-- the closure of slices.Backward: for every loop body that keeps what lay below n₀ and the box -/
theorem bwd1_in (F : Fence) (n : Nat) (h7 : F.fn 83) (hro : F.round = none) (hn : 1 ≤ n) (l Bs n₀ : Nat) (A : Option Addr) (zs : List ByteArray) (c : Nat) (hlen : zs.length ≤ 1125899906842624) (J Jx : List (Int × ByteArray) → World → Prop)
    (hY : ∀ pre x W, J pre W → pre.length < zs.length → YieldAt F (n - 1) Try.prog l #[.int .i64 x.1, .string x.2] W fun e W' =>
      (e = .returned (.bool true) ∧ J (pre ++ [x]) W' ∧ KpB n₀ Bs W W') ∨ (e = .returned (.bool false) ∧ Jx (pre ++ [x]) W'))
    (W : World) (hBs : W.cell? ⟨Bs, 0, none⟩ = some (.slice A zs.length c)) (hr : RT W n₀ A zs.length zs) (h0 : J [] W) :
    CallsIn F n Try.prog 83 #[.func (.yield l) #[] #[], .pointer (some ⟨Bs, 0, none⟩)] W fun e W' => (∃ v, e = .returned v) ∧
      ((∃ ys, ys.map (·.2) = zs.reverse ∧ J ys W') ∨ (∃ pre, Jx pre W')) := by
  refine callsIn_of_wp Try.func83 rfl h7 ?_ hro
  simp only [Try.ntmps83, List.size_toArray, List.length_cons, List.length_nil, Nat.reduceAdd, Nat.reduceSub, Array.replicate_succ, Array.replicate_zero, List.push_toArray, List.append_toArray, List.nil_append, List.cons_append]
  have HK : ∀ W', KpB n₀ Bs W W' → W'.cell? ⟨Bs, 0, none⟩ = some (.slice A zs.length c) := fun W' hk => (World.cell?_of_block hk.2).trans hBs
  have HK := Lib.hid HK
  have HR := Lib.hid hr
  clear hr
  gi_wp2
  gi_loopw [3] (fun i wr => ∃ (k : Nat) (pre : List (Int × ByteArray)), k ≤ zs.length ∧ i = .int .i64 ((k : Int) - 1) ∧ pre.map (·.2) = (zs.drop k).reverse ∧ J pre wr ∧ KpB n₀ Bs W wr)
    (fun i _ => (intOf i + 1).toNat)
  case atStart => exact ⟨zs.length, [], Nat.le_refl _, by first | rfl | (congr 1), by simp, h0, KpB.refl _ _ _⟩
  case round =>
    obtain ⟨k, pre, hk, rfl, hpre, hJs, hnx⟩ := hrel
    have HP := Lib.hid hpre
    clear hpre
    have hBs' := HK.out wr hnx
    cases k with
    | zero =>
      gi_wp2
      go_end0
      exact ⟨⟨_, rfl⟩, .inl ⟨pre, by simpa using HP.out, hJs⟩⟩
    | succ m =>
      have e1 : (((m + 1 : Nat) : Int) - 1) = (m : Int) := by omega
      rw [e1]
      obtain ⟨ad, x, rfl, hbb, hx, hcx⟩ := (HR.out.below hnx.1).at_ (k := m) (by omega)
      have HX := Lib.hid hx
      clear hx
      have hpl : pre.length < zs.length := by
        have := congrArg List.length HP.out
        simp at this
        omega
      obtain ⟨fn, tmps, assign, body, hy, hR⟩ := hY pre ((m : Int), x) wr hJs hpl
      dsimp only at hy
      clear e1
      have hml : m < zs.length := by omega
      gi_wp2
      refine hR.mono ?_
      rintro e W3 (⟨rfl, hJ3, hk3⟩ | ⟨rfl, hJx3⟩)
      · gi_wp2
        go_roundw
        case rel => exact ⟨m, pre ++ [((m : Int), x)], by omega, by first | rfl | (congr 1), by rw [List.map_append, HP.out, drop_pred zs m x HX.out]; simp, hJ3, hnx.trans hk3⟩
        case measure => simp [intOf]
      · gi_wp2
        refine bodyPost_ret (results_none rfl _ _ _) rfl ?_
        exact ⟨⟨_, rfl⟩, .inr ⟨_, hJx3⟩⟩

set_option maxHeartbeats 1000000 in
/-- slices.Backward: the slice value is boxed; the function value captures the box -/
theorem bwd_in (F : Fence) (n : Nat) (h5 : F.fn 79) (hro : F.round = none) (A : Option Addr) (len c : Nat) (w : World) :
    CallsIn F n Try.prog 79 #[.slice A len c] w fun e w' => e = .returned (.func (.func 83) #[] #[.pointer (some ⟨w.heap.size, 0, none⟩)]) ∧ w' = w.alloc (.cells #[.slice A len c] 62) := by
  refine callsIn_of_wp Try.func79 rfl h5 ?_ hro
  simp only [Try.ntmps79, List.size_toArray, List.length_cons, List.length_nil, Nat.reduceAdd, Nat.reduceSub, Array.replicate_succ, Array.replicate_zero, List.push_toArray, List.append_toArray, List.nil_append, List.cons_append]
  gi_wp2
  go_ret
  exact ⟨rfl, rfl⟩

theorem bwd_stops (F : Fence) (n : Nat) (h7 : F.fn 83) (hro : F.round = none) (hn : 1 ≤ n) (Bs n₀ : Nat) (A : Option Addr) (zs : List ByteArray) (c : Nat) (hlen : zs.length ≤ 1125899906842624) (w : World) (hBs : Boxed w Bs 62 (.slice A zs.length c)) (hn₀ : n₀ ≤ w.heap.size) (hI : RT w n₀ A zs.length zs) :
    SeqStopsK F n Try.prog 83 #[.pointer (some ⟨Bs, 0, none⟩)] (fun x : Int × ByteArray => #[Value.int .i64 x.1, Value.string x.2]) (KpB n₀ Bs) (fun ys => ys.map (·.2) = zs.reverse) (fun _ => True) zs.length w := fun l J Jx W hW _ _ hY h0 => by
  have hlt := hBs.lt
  have hc' := (hW.cell (p := ⟨Bs, 0, none⟩) hlt).trans hBs.cell
  refine (bwd1_in F n h7 hro hn l Bs n₀ A zs c hlen J Jx hY W hc' (hI.below (hW.mono hn₀)) h0).mono ?_
  rintro e W' ⟨he, ⟨ys, hys, hj⟩ | ⟨pre, hj⟩⟩
  · exact ⟨he, .inl ⟨ys, hys, hj⟩⟩
  · exact ⟨he, .inr ⟨pre, trivial, hj⟩⟩

set_option maxRecDepth 100000 in
set_option maxHeartbeats 2000000 in
theorem backwards_in (F : Fence) (n : Nat) (h3 : F.fn 68) (h4 : F.fn 79) (h5 : F.fn 83) (hro : F.round = none) (hn : 3 ≤ n) (A : Option Addr) (zs : List ByteArray) (c : Nat) (hlen : zs.length ≤ 1048576) (w : World) (hI : RT w w.heap.size A zs.length zs) :
    CallsIn F n Try.prog 68 #[.slice A zs.length c] w fun e W' => ∃ v, e = .returned v ∧ W'.ownsRow w.heap.size 9 1 v zs.length (zs.reverse.map .string) ∧ Below w.heap.size w W' := by
  have h1 : 1 ≤ n := by omega
  obtain ⟨i0, hi, hz0, hz1, hz2⟩ := info_parts infoStr
  have hlr : zs.reverse.length = zs.length := by simp
  refine callsIn_of_wp_marks Try.func68 rfl h3 ?_ hro
  simp only [Try.ntmps68, List.size_toArray, List.length_cons, List.length_nil, Nat.reduceAdd, Nat.reduceSub, Array.replicate_succ, Array.replicate_zero, List.push_toArray, List.append_toArray, List.nil_append, List.cons_append]
  have hbwd := fun W => bwd_in F (n - 1) h4 hro A zs.length c W
  have HB := Lib.hid hbwd
  have HI := Lib.hid hI
  clear hbwd hI
  gi_wp2_with (first | (gi_at_make; refine wpListIn_make_own _ rfl _ _ 62 rfl w.heap.size 9 i0 (.string ⟨#[]⟩) 1 Try.underlying62 hi hz0 hz1 .i64 .i64 _ zs.length rfl rfl rfl (by rw [hz2]; omega) (by unfold maxLen; omega) (Nat.le_refl _) ?_; intro w1 hown1 hg1) | (gi_at_call 79; refine (HB.out _).mono ?_; rintro e w' ⟨rfl, rfl⟩))
  have hb1 : Below w.heap.size w w1 := grown_below hg1
  have hsz : w.heap.size ≤ w1.heap.size := hb1.size
  have bO := Boxed.new w1 62 (.slice (some ⟨w.heap.size, 0, none⟩) 0 zs.length)
  have bN := Boxed.new (w1.alloc (.cells #[.slice (some ⟨w.heap.size, 0, none⟩) 0 zs.length] 62)) 62 (.slice A zs.length c)
  rw [World.size_alloc] at bN
  have hB0 : Below w.heap.size w ((w1.alloc (.cells #[.slice (some ⟨w.heap.size, 0, none⟩) 0 zs.length] 62)).alloc (.cells #[.slice A zs.length c] 62)) := (hb1.alloc hsz _).alloc (by simp; omega) _
  obtain ⟨W0, hW0⟩ : ∃ W0, (w1.alloc (.cells #[.slice (some ⟨w.heap.size, 0, none⟩) 0 zs.length] 62)).alloc (.cells #[.slice A zs.length c] 62) = W0 := ⟨_, rfl⟩
  have hown0 : W0.ownsRow w.heap.size 9 1 (.slice (some ⟨w.heap.size, 0, none⟩) 0 zs.length) 0 [] := by rw [← hW0]; exact (hown1.alloc _).alloc _
  have hs0 : W0.heap.size = w1.heap.size + 2 := by rw [← hW0]; simp
  have bO0 : Boxed W0 w1.heap.size 62 (.slice (some ⟨w.heap.size, 0, none⟩) 0 zs.length) := by rw [← hW0]; exact bO.alloc _
  rw [hW0] at bN hB0 ⊢
  clear hown1 bO
  refine wpIn_rangeFunc_ownG hro h1 (gf := 83) (lb := #[.pointer (some ⟨w1.heap.size + 1, 0, none⟩)]) rfl h5 (enters_of Try.func83 (by kernel_rfl) rfl)
    (bwd_stops F (n - 1) h5 hro (by omega) (w1.heap.size + 1) w.heap.size A zs c (by omega) W0 bN (by omega) (HI.out.below hB0)) (fun h k => h.trans k) (KpB.put (by omega) (by omega)) (Below.refl _ _) (fun _ => rfl)
    (fun pre W => ((∃ v, Boxed W w1.heap.size 62 v ∧ W.ownsRow w.heap.size 9 1 v pre.length (pre.map fun x => .string x.2) ∧ True) ∧ Boxed W (w1.heap.size + 1) 62 (.slice A zs.length c)) ∧ Below w.heap.size w W)
    (fun _ _ _ => False)
    (OwnFrom.and (OwnFrom.and (Own.from (holdsRow_own w.heap.size w1.heap.size 62 9 1 (fun (pre : List (Int × ByteArray)) => pre.length) (fun pre => pre.map fun x => .string x.2) (fun _ _ => True)) _) (Own.from (boxed_own _ _ _) _)) (ownFrom_below (Nat.le_refl _) (by omega)))
    (fun _ _ _ _ _ hs _ _ => hs)
    ⟨⟨⟨_, bO0, hown0, trivial⟩, bN⟩, hB0⟩
    (fun x => { tmps := #[.slice A zs.length c, undef, .slice none 0 0, .pointer (some ⟨w1.heap.size, 0, none⟩), undef, .string x.2, .slice A zs.length c, .int .i64 zs.length, .slice (some ⟨w.heap.size, 0, none⟩) 0 zs.length, .slice A zs.length c, .func (.func 83) #[] #[.pointer (some ⟨w1.heap.size + 1, 0, none⟩)], .int .i64 x.1, .string x.2, undef, undef, undef, undef, undef], defers := [] }) ?assign ?body ?done ?stop
  case assign =>
    intro l x W K hK
    gi_wp2
    exact hK
  case body =>
    rintro l pre x W ⟨⟨⟨v, hv, hrow, _⟩, hbs⟩, hB⟩ hlt
    have hc := hv.cell
    have HBS := Lib.hid hbs
    clear hbs
    gi_wp2_with (gi_at_builtin; refine wpListIn_append_own _ rfl _ _ 62 rfl w.heap.size 9 i0 (.string ⟨#[]⟩) 1 16 Try.underlying62 hi hz0 hz1 hz2 rfl (by decide) _ _ _ rfl (hrow.alloc _) ⟨W.heap.size, 0, none⟩ 1 1 [.string x.2] rfl rfl (cell_one_new _ _ _) (by simp [Value.oneCell']) (by unfold maxLen; omega) (by omega) (by have := hB.size; simp; omega) ?_; intro v' w2 hown' hgrow _; obtain ⟨g', cap', rfl⟩ := ownsRow_succ hown'; obtain ⟨hv1, hv2, hr2, hk2, hb2⟩ := hv.appended (by decide) hrow hB.size hsz hown' hgrow; have hc1 := hv1.cell; have hf1 := hv1.frozen)
    have hbs2 : Boxed (w2.setCell ⟨w1.heap.size, 0, none⟩ (.slice (some ⟨g', 0, none⟩) (pre.length + 1) cap')) (w1.heap.size + 1) 62 (.slice A zs.length c) :=
      ((HBS.out.alloc _).kept hgrow (HBS.out.not_row (by decide) hrow)).kept (grownBy_setCell' _ _ _) (by simp)
    exact ⟨hk2.from _, ⟨hb2, (show _ = _ from hbs2).trans (show _ = _ from HBS.out).symm⟩, ⟨⟨_, hv2, by simpa using hr2, trivial⟩, hbs2⟩, hB.trans hb2⟩
  case done =>
    rintro D ys W hD hys ⟨⟨⟨v, hv, hrow, _⟩, _⟩, hB⟩ hK
    have hc := hv.cell
    have HYS := Lib.hid hys
    clear hys
    gi_wp2
    refine ⟨by simp, .inl ⟨_, _, rfl, run_takeDeferred hK, ?_⟩⟩
    have e1 : ys.map (fun x => Value.string x.2) = zs.reverse.map (.string) := by rw [← HYS.out, List.map_map]; rfl
    have e2 : ys.length = zs.length := by have := congrArg List.length HYS.out; simpa using this
    rw [e1, e2] at hrow
    exact ⟨_, results_tmp rfl _ _ _, v, rfl, ownsRow_putObj hrow _ hK rfl, hB.trans (belowK_b (w := w) (Nat.le_refl _) W D _ _ (by omega) hK rfl rfl)⟩
  case stop =>
    rintro D c pre W _ _ h _
    exact h.elim


/-- impl.backwards at strings -/
theorem backwardsS (A : Option Addr) (zs : List ByteArray) (c : Nat) (hlen : zs.length ≤ 1048576) (w : World) (hI : RT w w.heap.size A zs.length zs) :
    Calls Try.prog 68 #[.slice A zs.length c] w fun e W' => ∃ v, e = .returned v ∧ W'.ownsRow w.heap.size 9 1 v zs.length (zs.reverse.map (.string)) ∧ Below w.heap.size w W' :=
  (callsIn_wide (n := 3)).1 (backwards_in Fence.wide 3 trivial trivial trivial rfl (by omega) A zs c hlen w hI)
end Go.Proofs.Ytmianlihdiccjaa

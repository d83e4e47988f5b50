/- Contracts of the drawing of formulas. -/
import Derived.Test.YtkpjlkahebeljaaDoorDraw
import Derived.Test.YtkpjlkahebeljaaDoorReadS
import Derived.Deep.RegionHeld3
namespace Go.Proofs.YtkpjlkahebeljaaDoor
open Go.RowKit
set_option linter.unusedVariables false
theorem grown_setD {w w1 : World} {g b j : Nat} {v : Value} (h : w.grownBy w1 (some g)) (hb : w.heap.size ≤ b) : w.grownBy (w1.setCell ⟨b, j, none⟩ v) (some g) :=
  ⟨h.os, h.tape, h.output, by simpa using h.size, fun k hk hne => (Below.heap_setCell _ _ _ k (by show k ≠ b; omega)).trans (h.block k hk hne)⟩
theorem grown_allocD {w w1 : World} {g : Nat} (h : w.grownBy w1 (some g)) (o : Obj) : w.grownBy (w1.alloc o) (some g) := h.trans (World.grownBy_alloc w1 o (some g))
theorem grown_rowD {w w1 w2 : World} {g : Nat} {A : Option Addr} {n c : Nat} {zs : List Int} (h : w.grownBy w1 (some g)) (ho : OF 46 3 w1 w.heap.size A n c zs) (hg : w1.grownBy w2 (Value.slice A n c).ownBlock) : w.grownBy w2 (some g) :=
  ⟨hg.os.trans h.os, hg.tape.trans h.tape, hg.output.trans h.output, Nat.le_trans h.size hg.size, fun k hk hne => (hg.block k (Nat.lt_of_lt_of_le hk h.size) (fun e => by have := (World.ownsRow.lt ho k e.symm).1; omega)).trans (h.block k hk hne)⟩
theorem RdLe.rowD {w w' : World} {g P base : Nat} {A : Option Addr} {n c : Nat} {zs : List Int} (h : RdLe w g P) (ho : OF 46 3 w base A n c zs) (hg : w.grownBy w' (Value.slice A n c).ownBlock) (hb : g < base) : RdLe w' g P := by
  refine h.keep fun k hk => ?_
  have hlt := h.lt
  refine hg.block k (by omega) (fun e => ?_)
  have := (World.ownsRow.lt ho k e.symm).1
  omega
theorem RdLe.newD {w w' : World} {g P b : Nat} (h : RdLe w g P) (hg : w.grownBy w' (some b)) (hb : g < b) : RdLe w' g P := by
  have hlt := h.lt
  exact h.keep fun k hk => hg.block k (by omega) (fun e => by injection e with e; omega)
theorem OF.apartD {w w' : World} {base row : Nat} {A : Option Addr} {n c : Nat} {zs : List Int} (h : OF 46 3 w base A n c zs) (hg : w.grownBy w' (some row)) (hne : row < base ∨ w.heap.size ≤ row) : OF 46 3 w' base A n c zs := by
  refine World.ownsRow.kept h hg ?_
  cases e : (Value.slice A n c).ownBlock with
  | none => exact .inl rfl
  | some k => exact .inr (fun e' => by have := World.ownsRow.lt h k e; injection e' with e'; omega)
theorem OF.setD {w : World} {base gx j : Nat} {v : Value} {A : Option Addr} {n c : Nat} {zs : List Int} (h : OF 46 3 w base A n c zs) (hlt : ∀ k, (Value.slice A n c).ownBlock = some k → k ≠ gx) : OF 46 3 (w.setCell ⟨gx, j, none⟩ v) base A n c zs := by
  refine World.ownsRow.kept (row := some gx) h ⟨rfl, rfl, rfl, by simp, fun k' _ hk' => heap_setCell_other w ⟨gx, j, none⟩ k' _ (fun e => hk' (by simp [e]))⟩ ?_
  cases e : (Value.slice A n c).ownBlock with
  | none => exact .inl rfl
  | some k => exact .inr (fun e' => by injection e' with e'; exact hlt k e e')
/-- an integer in lo..hi is returned; the reader has gone on by d at most; nothing else that lay has turned -/
def DrewX (w : World) (g P d : Nat) (lo hi : Int) (e : Ending) (w' : World) : Prop := ∃ x : Int, e = .returned (.int .i64 x) ∧ lo ≤ x ∧ x ≤ hi ∧ RdLe w' g (P + d) ∧ w.grownBy w' (some g)
set_option maxHeartbeats 1000000 in
theorem l20Inputs (g P : Nat) (n : Int) (w : World) (hR : RdLe w g P) (hP : P ≤ 999000) (hn : n ≤ 1000) :
    Calls Tryd.prog 40 #[.pointer (some ⟨g, 0, none⟩), .int .i64 n] w (DrewX w g P 3 0 4) := by
  go_enter Tryd.func40, Tryd.ntmps40
  go_wp2_with fail
  refine (odd g P n w hR (by omega) hn).mono ?_
  rintro e w1 ⟨b, rfl, hR1, hg1⟩
  cases b
  · go_wp2_with fail
    refine (pick g (P + 1) 3 w1 hR1 (by omega)).mono ?_
    rintro e w2 ⟨q, rfl, hq0, hq1, hq2, hR2, hg2⟩
    have hq3 := hq2 (by omega)
    clear hq1 hq2
    go_wp2
    go_ret
    exact ⟨_, rfl, by omega, by omega, hR2.more (by omega), hg1.trans hg2⟩
  · go_wp2_with fail
    have hR1' : RdLe (w1.alloc (.cells #[.int .i64 0, .int .i64 4] 3)) g (P + 1) := hR1.keep fun k hk => Below.heap_alloc _ _ _ (by have := hR1.lt; omega)
    refine (pick g (P + 1) 2 _ hR1' (by omega)).mono ?_
    rintro e w2 ⟨x, rfl, hx0, hx1, hx2, hR2, hg2⟩
    have hx3 := hx2 (by omega)
    clear hx1 hx2
    have hblk : w2.heap[w1.heap.size]? = some (.cells #[.int .i64 0, .int .i64 4] 3 (0, 0)) :=
      (hg2.block w1.heap.size (by simp) (by have := hR1.lt; simp; omega)).trans (heap_alloc_new w1 _)
    have HG := Lib.hid ((grown_allocD hg1 (.cells #[.int .i64 0, .int .i64 4] 3)).trans hg2)
    have hx : x = 0 ∨ x = 1 := by omega
    have c0 := (cell_of_row w2 w1.heap.size 0 _ _ (0, 0) hblk).trans rfl
    have c1 := (cell_of_row w2 w1.heap.size 1 _ _ (0, 0) hblk).trans rfl
    clear hblk hg1 hg2
    rcases hx with rfl | rfl
    · go_wp2
      go_ret
      exact ⟨_, rfl, by omega, by omega, hR2.more (by omega), HG.out⟩
    · go_wp2
      go_ret
      exact ⟨_, rfl, by omega, by omega, hR2.more (by omega), HG.out⟩
/-- a new slice of at most three steps is returned; the reader has gone on; nothing else that lay has turned -/
def DrewForm (w : World) (g P : Nat) (e : Ending) (w' : World) : Prop := ∃ A n c zs, e = .returned (.slice A n c) ∧ RI w' w'.heap.size A (n * 3) zs ∧ n ≤ 3 ∧ RdLe w' g (P + 20) ∧ w.grownBy w' (some g)
set_option maxRecDepth 100000 in
set_option maxHeartbeats 4000000 in
theorem l20FormOf (g P : Nat) (I n : Int) (w : World) (hR : RdLe w g P) (hP : P ≤ 999000) (h0 : 0 ≤ I) (h4 : I ≤ 4) (hn : n ≤ 1000) :
    Calls Tryd.prog 41 #[.pointer (some ⟨g, 0, none⟩), .int .i64 I, .int .i64 n] w (DrewForm w g P) := by
  have hgw : g < w.heap.size := hR.lt
  have HE := Lib.hid (show OF 46 3 (w.alloc (.cells #[] 46)) w.heap.size (some ⟨w.heap.size, 0, none⟩) 0 0 [] from OF.empty w)
  have hRE : RdLe (w.alloc (.cells #[] 46)) g P := hR.keep fun k hk => Below.heap_alloc _ _ _ (by omega)
  have hGE : w.grownBy (w.alloc (.cells #[] 46)) (some g) := World.grownBy_alloc w _ (some g)
  go_enter Tryd.func41, Tryd.ntmps41
  go_wp2_with fail
  refine (pick g P 3 _ hRE (by omega)).mono ?_
  rintro e w1 ⟨q, rfl, hq0, hq1, hq2, hR1, hg1⟩
  have hq3 := hq2 (by omega)
  clear hq1 hq2
  obtain ⟨M, hM⟩ : ∃ M : Nat, 1 + q = (M : Int) := ⟨(1 + q).toNat, by omega⟩
  have hM3 : M ≤ 3 := by omega
  have hM1 : 1 ≤ M := by omega
  have HO1 := Lib.hid (HE.out.apartD hg1 (.inl hgw))
  have HG1 := Lib.hid (hGE.trans hg1)
  obtain ⟨m, hm⟩ : ∃ m : Nat, max I 1 = (m : Int) := ⟨(max I 1).toNat, by omega⟩
  have hm1 : 1 ≤ m := by omega
  have hm4 : m ≤ 4 := by omega
  clear hRE hGE hg1 HE
  go_wp2_with fail
  go_loopw [7, 8] (fun v i wr => ∃ (j : Nat) (A' : Option Addr) (c' : Nat) (ys : List Int), j ≤ M ∧ i = .int .i64 ((M : Int) - j) ∧ v = .slice A' j c' ∧ Hid (OF 46 3 wr w.heap.size A' j c' ys) ∧ RdLe wr g (P + 1 + 4 * j) ∧ Hid (w.grownBy wr (some g)))
    (fun _ i _ => (intOf i).toNat)
  case atStart => exact ⟨0, _, _, _, by omega, by congr 1, rfl, HO1, hR1, HG1⟩
  case round =>
    obtain ⟨j, A', c', ys, hj, rfl, rfl, HO, hR', HG⟩ := hrel
    have hs : w.heap.size ≤ wr.heap.size := HG.out.size
    clear HO1 hR1 HG1
    by_cases hlt : j < M
    rotate_left
    · obtain rfl : j = M := by omega
      go_wp2_with fail
      refine (odd g _ n _ hR' (by omega) hn).mono ?_
      rintro e w2 ⟨b, rfl, hR2, hg2⟩
      have HO2 := Lib.hid (HO.out.apartD hg2 (.inl hgw))
      have HG2 := Lib.hid (HG.out.trans hg2)
      clear HO HG hR' hg2
      cases b
      · go_wp2
        go_ret
        exact ⟨_, _, _, _, rfl, HO2.out.reads, hM3, hR2.more (by omega), HG2.out⟩
      · go_wp2_with fail
        refine (pick g _ 4 _ hR2 (by omega)).mono ?_
        rintro e w3 ⟨x, rfl, hx0, hx1, hx2, hR3, hg3⟩
        have hx3 := hx2 (by omega)
        have HO3 := Lib.hid (HO2.out.apartD hg3 (.inl hgw))
        have HG3 := Lib.hid (HG2.out.trans hg3)
        have hs3 : w.heap.size ≤ w3.heap.size := HG3.out.size
        clear hx1 hx2 hg3 HO2 HG2 hR2
        have hx : x = 0 ∨ x = 1 ∨ x = 2 ∨ x = 3 := by omega
        have hjp : 0 < j := hM1
        have hjI : (0 : Int) < (j : Int) := by omega
        obtain ⟨g', rfl, hbg, hgl⟩ := HO3.out.toI.addr hjp
        have f0 := HO3.out.toI.frozenAt 0
        have f1 := HO3.out.toI.frozenAt 1
        have f2 := HO3.out.toI.frozenAt 2
        obtain ⟨z0, c0⟩ := HO3.out.toI.cellSome (j := 0) (by omega)
        obtain ⟨z1, c1⟩ := HO3.out.toI.cellSome (j := 1) (by omega)
        obtain ⟨z2, c2⟩ := HO3.out.toI.cellSome (j := 2) (by omega)
        have hgg : g < g' := by omega
        have HK := Lib.hid (fun (W : World) (k : Nat) (v : Value) (hW : RdLe W g (P + 1 + 4 * j + 1 + 1)) => (hW.keep fun q hq => Below.heap_setCell W ⟨g', k, none⟩ v q (by show q ≠ g'; omega) : RdLe (W.setCell ⟨g', k, none⟩ v) g (P + 1 + 4 * j + 1 + 1)))
        have HX := Lib.hid (fun (v : Int) => (HO3.out.toI.stored (j := 1) v).1)
        have HY3 := Lib.hid (fun (u v t : Int) => (((HO3.out.toI.stored (j := 0) u).1.stored (j := 1) v).1.stored (j := 2) t).1)
        rcases hx with rfl | rfl | rfl | rfl
        · go_wp2
          go_ret
          exact ⟨_, _, _, [], rfl, ⟨rfl, fun h => absurd h (by omega)⟩, by omega, (hR3.keep fun k hk => Below.heap_alloc _ _ _ (by have := hR3.lt; omega)).more (by omega), grown_allocD HG3.out _⟩
        · go_wp2
          go_ret
          exact ⟨_, _, _, _, rfl, (HX.out _).reads, hM3, (HK.out _ _ _ hR3).more (by omega), grown_setD HG3.out hbg⟩
        · go_wp2
          go_ret
          exact ⟨_, _, _, _, rfl, (HY3.out _ _ _).reads, hM3, (HK.out _ _ _ (HK.out _ _ _ (HK.out _ _ _ hR3))).more (by omega), grown_setD (grown_setD (grown_setD HG3.out hbg) hbg) hbg⟩
        · go_wp2
          go_ret
          exact ⟨_, _, _, _, rfl, (HY3.out _ _ _).reads, hM3, (HK.out _ _ _ (HK.out _ _ _ (HK.out _ _ _ hR3))).more (by omega), grown_setD (grown_setD (grown_setD HG3.out hbg) hbg) hbg⟩
    have hltI : (0 : Int) < (M : Int) - (j : Int) := by omega
    go_wp2_with fail
    refine (pick g _ 4 _ hR' (by omega)).mono ?_
    rintro e w2 ⟨o, rfl, ho0, ho1, ho2, hR2, hg2⟩
    have ho3 := ho2 (by omega)
    have HO2 := Lib.hid (HO.out.apartD hg2 (.inl hgw))
    have HG2 := Lib.hid (HG.out.trans hg2)
    clear ho1 ho2 hg2
    go_wp2_with fail
    refine (pick g _ ((m : Int) + (j : Int)) _ hR2 (by omega)).mono ?_
    rintro e w3 ⟨x, rfl, hx0, hx1, hx2, hR3, hg3⟩
    have hx3 := hx2 (by omega)
    have HO3 := Lib.hid (HO2.out.apartD hg3 (.inl hgw))
    have HG3 := Lib.hid (HG2.out.trans hg3)
    have hs3 : w.heap.size ≤ w3.heap.size := HG3.out.size
    clear hx1 hx2 hg3 HO HG HO2 HG2 hR' hR2
    by_cases hmany : (m : Int) + (j : Int) < 2
    · skip
      have hOW : OF 46 3 (w3.alloc (.cells #[.int .i64 3, .int .i64 x, .int .i64 0] 46)) w.heap.size A' j c' ys := World.ownsRow.alloc HO3.out _
      have hsW : (w3.alloc (.cells #[.int .i64 3, .int .i64 x, .int .i64 0] 46)).heap.size = w3.heap.size + 1 := by simp
      have hRW : RdLe (w3.alloc (.cells #[.int .i64 3, .int .i64 x, .int .i64 0] 46)) g (P + 1 + 4 * j + 1 + 1) := hR3.keep fun k hk => Below.heap_alloc _ _ _ (by have := hR3.lt; omega)
      have hGW : w.grownBy (w3.alloc (.cells #[.int .i64 3, .int .i64 x, .int .i64 0] 46)) (some g) := grown_allocD HG3.out _
      go_wp2_with (at_builtin; refine wpList_pushK _ 3 x 0 rfl _ _ rfl w.heap.size A' j c' _ rfl _ rfl (by simp) hOW (by omega) (by rw [hsW]; omega) ?_; intro A4 c4 w4 hO4 hg4)
      go_roundw
      case rel => exact ⟨j + 1, _, _, _, by omega, by congr 1; push_cast; omega, rfl, Lib.hid hO4, (hRW.rowD hOW hg4 hgw).more (by omega), Lib.hid (grown_rowD hGW hOW hg4)⟩
      case measure => simp [intOf]; omega
    by_cases ho : o = 3
    · subst ho
      have hOW : OF 46 3 (w3.alloc (.cells #[.int .i64 3, .int .i64 x, .int .i64 0] 46)) w.heap.size A' j c' ys := World.ownsRow.alloc HO3.out _
      have hsW : (w3.alloc (.cells #[.int .i64 3, .int .i64 x, .int .i64 0] 46)).heap.size = w3.heap.size + 1 := by simp
      have hRW : RdLe (w3.alloc (.cells #[.int .i64 3, .int .i64 x, .int .i64 0] 46)) g (P + 1 + 4 * j + 1 + 1) := hR3.keep fun k hk => Below.heap_alloc _ _ _ (by have := hR3.lt; omega)
      have hGW : w.grownBy (w3.alloc (.cells #[.int .i64 3, .int .i64 x, .int .i64 0] 46)) (some g) := grown_allocD HG3.out _
      go_wp2_with (at_builtin; refine wpList_pushK _ 3 x 0 rfl _ _ rfl w.heap.size A' j c' _ rfl _ rfl (by simp) hOW (by omega) (by rw [hsW]; omega) ?_; intro A4 c4 w4 hO4 hg4)
      go_roundw
      case rel => exact ⟨j + 1, _, _, _, by omega, by congr 1; push_cast; omega, rfl, Lib.hid hO4, (hRW.rowD hOW hg4 hgw).more (by omega), Lib.hid (grown_rowD hGW hOW hg4)⟩
      case measure => simp [intOf]; omega
    · have hoI : ¬ (o : Int) = 3 := ho
      go_wp2_with fail
      have hlto := Lib.hid (fun k (e : (Value.slice A' j c').ownBlock = some k) => (World.ownsRow.lt HO3.out k e).2)
      obtain ⟨gx, hgx⟩ : ∃ a, w3.heap.size = a := ⟨_, rfl⟩
      obtain ⟨wX, hwX⟩ : ∃ a, w3.alloc (.cells #[.int .i64 o, .int .i64 x, .int .i64 0] 46) = a := ⟨_, rfl⟩
      have HOX := Lib.hid (show OF 46 3 wX w.heap.size A' j c' ys by rw [← hwX]; exact World.ownsRow.alloc HO3.out _)
      have hRX : RdLe wX g (P + 1 + 4 * j + 1 + 1) := by rw [← hwX]; exact hR3.keep fun k hk => Below.heap_alloc _ _ _ (by have := hR3.lt; omega)
      have HGX := Lib.hid (show w.grownBy wX (some g) by rw [← hwX]; exact grown_allocD HG3.out _)
      have hxX : wX.heap[gx]? = some (.cells #[.int .i64 o, .int .i64 x, .int .i64 0] 46 (0, 0)) := by rw [← hwX, ← hgx]; exact World.alloc_heap_new w3 _
      have hgl : gx < wX.heap.size := (Array.getElem?_eq_some_iff.1 hxX).1
      have hggx : g ≠ gx := by have := hR3.lt; omega
      have hggl : g < gx := by have := hR3.lt; omega
      have hwgx : w.heap.size ≤ gx := by omega
      obtain ⟨x0, x1, x2, fx1, fx2⟩ := stepFacts hxX
      obtain ⟨Y, hY⟩ : ∃ Y : Int, (m : Int) + (j : Int) = Y := ⟨_, rfl⟩
      have hY2 : 2 ≤ Y := by omega
      have hY6 : Y ≤ 7 := by omega
      have hw1 : IntKind.i64.wrap (x + 1) = x + 1 := by rw [IntKind.wrap_i64]; omega
      have hw2 : IntKind.i64.wrap (Y - 1) = Y - 1 := by rw [IntKind.wrap_i64]; omega
      have hYn : ¬ Y = 0 := by omega
      rw [hgx] at hs3
      rw [hY] at hx3
      rw [hwX]
      rw [hgx]
      rw [hY]
      have HGx := Lib.hid hgx
      have HWX := Lib.hid hwX
      have HY := Lib.hid hY
      clear hgx hwX hY hR3 hmany
      go_region_held3 (fun w' => w'.cell? ⟨gx, 1, none⟩ = some (.int .i64 x)) (first | go_keep | exact x1 | exact HC1.out | exact (cell_of_row _ gx 1 _ _ (0, 0) (heap_setCell_same w4 gx 2 _ _ _ hx4)).trans rfl)
        (first | (go_at_call 38; refine (pick g _ (Y - 1) _ (hRX.drewN 1) (by omega)).mono ?_; rintro e w4 ⟨p, rfl, hp0, hp1, hp2, hR4, hg4⟩; have hp3 := hp2 (by omega); have hx4 := (hg4.block gx hgl (fun e => hggx (Option.some.inj e).symm)).trans hxX; obtain ⟨y0, y1, y2, fy1, fy2⟩ := stepFacts hx4; have HC1 := Lib.hid y1; have hw3 : IntKind.i64.wrap (x + 1 + p) = x + 1 + p := (by rw [IntKind.wrap_i64]; omega); have ht3 : Int.tmod (x + 1 + p) Y = (x + 1 + p) % Y := Int.tmod_eq_emod_of_nonneg (by omega); clear hp1 hp2))
      have hg4' : wX.grownBy w4 (some g) := ⟨hg4.os, hg4.tape, hg4.output, hg4.size, hg4.block⟩
      have hOW : OF 46 3 (w4.setCell ⟨gx, 2, none⟩ (.int .i64 ((x + 1 + p) % Y))) w.heap.size A' j c' ys := (HOX.out.apartD hg4' (.inl hgw)).setD (fun k e => by have := hlto.out k e; have := HGx.out; omega)
      have hRW : RdLe (w4.setCell ⟨gx, 2, none⟩ (.int .i64 ((x + 1 + p) % Y))) g (P + 1 + 4 * j + 1 + 1 + 1) := hR4.keep fun k hk => Below.heap_setCell _ _ _ k (by show k ≠ gx; omega)
      have hGW : w.grownBy (w4.setCell ⟨gx, 2, none⟩ (.int .i64 ((x + 1 + p) % Y))) (some g) := grown_setD (HGX.out.trans hg4') hwgx
      have hs4 : w.heap.size ≤ w4.heap.size := (HGX.out.trans hg4').size
      go_wp2_with (at_builtin; refine wpList_pushK _ o x ((x + 1 + p) % Y) rfl _ _ rfl w.heap.size A' j c' _ rfl _ rfl (by simp) hOW (by omega) (by simp; omega) ?_; intro A4 c4 w5 hO4 hg5)
      go_roundw
      case rel => exact ⟨j + 1, _, _, _, by omega, by congr 1; push_cast; omega, rfl, Lib.hid hO4, (hRW.rowD hOW hg5 hgw).more (by omega), Lib.hid (grown_rowD hGW hOW hg5)⟩
      case measure => simp [intOf]; omega
/-- a number and a new slice of at most three steps are returned; nothing that lay has turned but the reader -/
theorem l20Form (g P : Nat) (n : Int) (w : World) (hR : RdLe w g P) (hP : P ≤ 900000) (hn : n ≤ 100) (hn0 : 0 ≤ n) :
    Calls Tryd.prog 21 #[.pointer (some ⟨g, 0, none⟩), .int .i64 n] w (fun e w' => ∃ I A k c zs, e = .returned (.tuple #[.int .i64 I, .slice A k c]) ∧ RI w' w'.heap.size A (k * 3) zs ∧ k ≤ 3 ∧ RdLe w' g (P + 30) ∧ w.grownBy w' (some g)) := by
  go_enter Tryd.func21, Tryd.ntmps21
  go_wp2_with fail
  refine (l20Inputs g P (2 * n) w hR (by omega) (by omega)).mono ?_
  rintro e w1 ⟨I, rfl, h0, h4, hR1, hg1⟩
  go_wp2_with fail
  refine (l20FormOf g (P + 3) I (2 * n) w1 hR1 (by omega) h0 h4 (by omega)).mono ?_
  rintro e w2 ⟨A, k, c, zs, rfl, hO, hk, hR2, hg2⟩
  go_wp2
  go_ret2
  exact ⟨_, _, _, _, _, rfl, hO, hk, hR2.more (by omega), hg1.trans hg2⟩
theorem below_growD {w w1 w2 : World} {g : Nat} (hb : Below w.heap.size w w1) (hg : w1.grownBy w2 (some g)) (hgs : w.heap.size ≤ g) : Below w.heap.size w w2 :=
  hb.grown hg hb.size (fun k e => by cases e; exact hgs)
theorem drawFormText (A : Option Addr) (zs : List Int) (c : Nat) (w : World) (h : RB w w.heap.size A zs) (hc : zs.length ≤ c) (hcm : c ≤ maxLen) :
    Calls Tryd.prog 7 #[.slice A zs.length c] w fun e w' => ∃ (I : Int) (A' : Option Addr) (k c' : Nat) (ys : List Int), e = .returned (.tuple #[.int .i64 I, .slice A' k c']) ∧ RI w' w'.heap.size A' (k * 3) ys ∧ k ≤ 3 ∧ Below w.heap.size w w' := by
  go_enter Tryd.func7, Tryd.ntmps7
  go_wp2_with fail
  refine (l20Open A zs c w h hc hcm).mono ?_
  rintro e w1 ⟨rfl, hR1, hb1⟩
  go_wp2_with fail
  refine (l20Form w.heap.size 0 6 w1 hR1 (by omega) (by omega) (by omega)).mono ?_
  rintro e w2 ⟨I, A', k, c', ys, rfl, hO, hk, hR2, hg2⟩
  go_wp2
  go_ret2
  exact ⟨_, _, _, _, _, rfl, hO, hk, below_growD hb1 hg2 (Nat.le_refl _)⟩
theorem five {W : World} {b : Nat} (h : W.heap[b]? = some (.cells #[.string ⟨#[]⟩, .string ⟨#[48]⟩, .string ⟨#[32]⟩, .string ⟨#[59]⟩, .string ⟨#[111, 114]⟩] 9 (0, 0))) {i : Nat} (hi : i < 5) : ∃ t : ByteArray, W.cell? ⟨b, i, none⟩ = some (.string t) ∧ t.size ≤ 2 := by
  rw [cell_of_row W b i _ _ _ h]
  have : i = 0 ∨ i = 1 ∨ i = 2 ∨ i = 3 ∨ i = 4 := by omega
  rcases this with rfl | rfl | rfl | rfl | rfl <;> exact ⟨_, rfl, by decide⟩
set_option maxRecDepth 100000 in
set_option maxHeartbeats 4000000 in
theorem drawReadForm (A : Option Addr) (zs : List Int) (c : Nat) (w : World) (h : RB w w.heap.size A zs) (hc : zs.length ≤ c) (hcm : c ≤ maxLen) :
    Calls Tryd.prog 18 #[.slice A zs.length c] w fun e w' => ∃ (I : Int) (s : ByteArray), e = .returned (.tuple #[.int .i64 I, .string s]) ∧ s.size ≤ 1000 ∧ Below w.heap.size w w' := by
  go_enter Tryd.func18, Tryd.ntmps18
  go_wp2_with fail
  refine (l20Open A zs c w h hc hcm).mono ?_
  rintro e w1 ⟨rfl, hR1, hb1⟩
  obtain ⟨g, hg⟩ : ∃ g, w.heap.size = g := ⟨_, rfl⟩
  rw [hg] at hR1
  have HGw := Lib.hid hg
  go_wp2_with fail
  refine (l20Form g 0 12 w1 hR1 (by omega) (by omega) (by omega)).mono ?_
  rintro e w2 ⟨I, A', k, c', ys, rfl, hO, hk, hR2, hg2⟩
  have hB2 : Below w.heap.size w w2 := below_growD hb1 hg2 (by omega)
  have hs2 := hB2.size
  clear hb1 hR1 hg2
  obtain ⟨s, hsx⟩ : ∃ s : ByteArray, (⟨(fxF I k ys).toArray⟩ : ByteArray) = s := ⟨_, rfl⟩
  have hsz : s.size ≤ 24 := by rw [← hsx, str_size]; exact fxF_le I k ys
  have HF := Lib.hid (formTextS I A' k ys c' w2 hO (by omega))
  unfold GivesS at HF
  rw [hsx] at HF
  clear hsx hO
  go_wp2_with fail
  refine HF.out.mono ?_
  rintro e w3 ⟨rfl, hb3⟩
  have hR3 : RdLe w3 g 30 := hR2.below hb3 hR2.lt
  have hB3 := hB2.trans (hb3.mono hs2)
  have hs3 := hB3.size
  clear HF hb3 hR2 hB2
  go_wp2_with fail
  refine (pick g 30 3 _ hR3 (by omega)).mono ?_
  rintro e w4 ⟨x, rfl, hx0, hx1, hx2, hR4, hg4⟩
  have hB4 := below_growD hB3 hg4 (by omega)
  have hs4 := hB4.size
  clear hg4 hx1 hB3
  by_cases hx : x = 0
  rotate_left
  · go_wp2
    go_ret2
    exact ⟨_, _, rfl, by omega, hB4⟩
  subst hx
  by_cases hz : s.size = 0
  · have hzI : ¬ (0 : Int) < (s.size : Int) := by omega
    go_wp2
    go_ret2
    exact ⟨_, _, rfl, by omega, hB4⟩
  have hzI : (0 : Int) < (s.size : Int) := by omega
  go_wp2_with fail
  refine (pick g 31 (s.size : Int) _ hR4 (by omega)).mono ?_
  rintro e w5 ⟨y, rfl, hy0, hy1, hy2, hR5, hg5⟩
  have hy3 := hy2 (by omega)
  have hB5 := below_growD hB4 hg5 (by omega)
  have hs5 := hB5.size
  clear hg5 hy1 hy2 hx2 hB4
  obtain ⟨a, rfl⟩ := Int.eq_ofNat_of_zero_le hy0
  have ha : a < s.size := by omega
  have a0 : (0 : Int) ≤ (a : Int) := by omega
  have a1 : (a : Int) ≤ (s.size : Int) := by omega
  have a2 : (a : Int) + 1 ≤ (s.size : Int) := by omega
  have a3 : (0 : Int) ≤ (a : Int) + 1 := by omega
  have hwa : IntKind.i64.wrap ((a : Int) + 1) = (a : Int) + 1 := by rw [IntKind.wrap_i64]; omega
  obtain ⟨sA, hsA⟩ : ∃ t, s.extract 0 a = t := ⟨_, rfl⟩
  obtain ⟨sB, hsB⟩ : ∃ t, s.extract (a + 1) s.size = t := ⟨_, rfl⟩
  have zA : sA.size ≤ 24 := by rw [← hsA]; simp [ByteArray.size_extract]; omega
  have zB : sB.size ≤ 24 := by rw [← hsB]; simp [ByteArray.size_extract]; omega
  go_wp2_with fail
  have hRd : RdLe w5.drew g 32 := hR5.drewN 1
  have hBd : Below w.heap.size w w5.drew := hB5.drew
  refine wp_region_held_drew (S := fun _ => True) (by kernel_rfl) trivial (fun hHeld => ?_)
  refine wpAnyH_take (i := 0) (oi := _) (v := ?_) rfl (by kernel_rfl) (by kernel_rfl) (by kernel_rfl) (fun _ _ _ h => h) (Or.inl ⟨by rfl, ?_⟩) (by assumption) ?_
  rotate_left
  · (intro w hSw; (try dsimp only at hSw); go_simp; all_goals with_reducible rfl)
  try simp only [Act.put, List.setIfInBounds_toArray]
  refine wpAnyH_take (i := 1) (oi := _) (v := ?_) rfl (by kernel_rfl) (by kernel_rfl) (by kernel_rfl) (fun _ _ _ h => h) (Or.inl ⟨by rfl, ?_⟩) (by assumption) ?_
  rotate_left
  · (intro w hSw; (try dsimp only at hSw); go_simp; all_goals with_reducible rfl)
  try simp only [Act.put]
  refine wpAnyH_take (i := 2) (oi := _) (v := ?_) rfl (by kernel_rfl) (by kernel_rfl) (by kernel_rfl) (fun _ _ _ h => h) (Or.inl ⟨by rfl, ?_⟩) (by assumption) ?_
  rotate_left
  · (intro w hSw; (try dsimp only at hSw); go_simp; all_goals with_reducible rfl)
  try simp only [Act.put]
  refine wpAnyH_take (i := 3) (oi := _) (v := ?_) rfl (by kernel_rfl) (by kernel_rfl) (by kernel_rfl) (fun _ _ _ h => h) (Or.inl ⟨by rfl, ?_⟩) (by assumption) ?_
  rotate_left
  · (intro w hSw; (try dsimp only at hSw); go_simp; all_goals with_reducible rfl)
  try simp only [Act.put]
  refine wpAnyH_take (i := 5) (oi := _) (v := ?_) rfl (by kernel_rfl) (by kernel_rfl) (by kernel_rfl) (fun _ _ _ h => h) (Or.inl ⟨by rfl, ?_⟩) (by assumption) ?_
  rotate_left
  · (intro w hSw; (try dsimp only at hSw); go_simp; all_goals with_reducible rfl)
  try simp only [Act.put]
  refine wpAnyH_take (i := 10) (oi := _) (v := ?_) rfl (by kernel_rfl) (by kernel_rfl) (by kernel_rfl) (fun _ _ _ h => h) (Or.inl ⟨by rfl, ?_⟩) (by assumption) ?_
  rotate_left
  · (intro w hSw; (try dsimp only at hSw); go_simp; all_goals with_reducible rfl)
  try simp only [Act.put]
  refine wpAnyH_take (i := 11) (oi := _) (v := ?_) rfl (by kernel_rfl) (by kernel_rfl) (by kernel_rfl) (fun _ _ _ h => h) (Or.inl ⟨by rfl, ?_⟩) (by assumption) ?_
  rotate_left
  · (intro w hSw; (try dsimp only at hSw); go_simp; all_goals with_reducible rfl)
  try simp only [Act.put]
  refine wpAnyH_take (i := 12) (oi := _) (v := ?_) rfl (by kernel_rfl) (by kernel_rfl) (by kernel_rfl) (fun _ _ _ h => h) (Or.inl ⟨by rfl, ?_⟩) (by assumption) ?_
  rotate_left
  · (intro w hSw; (try dsimp only at hSw); go_simp; all_goals with_reducible rfl)
  try simp only [Act.put]
  refine wpAnyH_take (i := 13) (oi := _) (v := ?_) rfl (by kernel_rfl) (by kernel_rfl) (by kernel_rfl) (fun _ _ _ h => h) (Or.inl ⟨by rfl, ?_⟩) (by assumption) ?_
  rotate_left
  · (intro w hSw; (try dsimp only at hSw); go_simp; all_goals with_reducible rfl)
  try simp only [Act.put]
  refine wpAnyH_ready (rs := [4, 6]) (by kernel_rfl) (by simp) ?_
  refine AllReadyH.cons (o := _) rfl (fun K hK => ?_) (AllReadyH.cons (o := _) rfl (fun K hK => ?_) AllReadyH.nil)
  · go_simp
    refine hK.out _ _ trivial (fun _ => ?_)
    clear hK K
    try simp only [Act.put, List.setIfInBounds_toArray, List.set_cons_zero, List.set_cons_succ]
    refine wpAnyH_ready (rs := [6]) (by kernel_rfl) (by simp) ?_
    refine AllReadyH.cons (o := _) rfl (fun K hK => ?_) AllReadyH.nil
    have hRa : RdLe (w5.drew.alloc (.cells #[.string ⟨#[]⟩, .string ⟨#[48]⟩, .string ⟨#[32]⟩, .string ⟨#[59]⟩, .string ⟨#[111, 114]⟩] 9)) g 32 := hRd.keep fun k hk => Below.heap_alloc _ _ _ (by have := hRd.lt; omega)
    go_simp
    go_at_call 38
    refine (pick g 32 5 _ hRa (by omega)).mono ?_
    rintro e w6 ⟨q, rfl, hq0, hq1, hq2, hR6, hg6⟩
    have hq3 := hq2 (by omega)
    obtain ⟨i, rfl⟩ := Int.eq_ofNat_of_zero_le hq0
    have hi5 : i < 5 := by omega
    clear hq1 hq2
    go_wp2_with fail
    refine hK.out _ _ trivial (fun _ => ?_)
    clear hK K
    try simp only [Act.put, List.setIfInBounds_toArray, List.set_cons_zero, List.set_cons_succ]
    have hHeld : True := trivial
    refine wpAnyH_take (i := 15) (oi := _) (v := ?_) rfl (by kernel_rfl) (by kernel_rfl) (by kernel_rfl) (fun _ _ _ h => h) (Or.inl ⟨by rfl, ?_⟩) (by assumption) ?_
    rotate_left
    · (intro w hSw; (try dsimp only at hSw); go_simp; all_goals with_reducible rfl)
    try simp only [Act.put, List.setIfInBounds_toArray]
    have hblk : w6.heap[w5.heap.size]? = some (.cells #[.string ⟨#[]⟩, .string ⟨#[48]⟩, .string ⟨#[32]⟩, .string ⟨#[59]⟩, .string ⟨#[111, 114]⟩] 9 (0, 0)) := (hg6.block w5.heap.size (by simp) (fun e => by have := hR5.lt; injection e with e; omega)).trans (World.alloc_heap_new w5.drew _)
    have hBf := below_growD (hBd.alloc (by show w.heap.size ≤ w5.heap.size; omega) _) hg6 (by omega)
    obtain ⟨t, hct, htz⟩ : ∃ t : ByteArray, w6.cell? ⟨w5.heap.size, i, none⟩ = some (.string t) ∧ t.size ≤ 2 := five hblk hi5
    obtain ⟨sC, addC, lC, zC⟩ := app_ok sA t t.size (by omega) rfl (by omega)
    obtain ⟨sD, addD, lD, zD⟩ := app_ok sC sB sB.size (by omega) rfl (by omega)
    refine wpAnyH_sub (S2 := fun w' => w'.cell? ⟨w5.heap.size, i, none⟩ = some (.string t)) (fun _ _ => trivial) _ _ _ _ ?_
    have hHeld := hct
    refine wpAnyH_take (i := 7) (oi := _) (v := ?_) rfl (by kernel_rfl) (by kernel_rfl) (by kernel_rfl) (fun _ _ _ h => h) (Or.inl ⟨by rfl, ?_⟩) (by assumption) ?_
    rotate_left
    · (intro w hSw; (try dsimp only at hSw); go_simp; all_goals with_reducible rfl)
    try simp only [Act.put]
    refine wpAnyH_take (i := 8) (oi := _) (v := ?_) rfl (by kernel_rfl) (by kernel_rfl) (by kernel_rfl) (fun _ _ _ h => h) (Or.inl ⟨by rfl, ?_⟩) (by assumption) ?_
    rotate_left
    · (intro w hSw; (try dsimp only at hSw); go_simp; all_goals with_reducible rfl)
    try simp only [Act.put]
    refine wpAnyH_take (i := 9) (oi := _) (v := ?_) rfl (by kernel_rfl) (by kernel_rfl) (by kernel_rfl) (fun _ _ _ h => h) (Or.inl ⟨by rfl, ?_⟩) (by assumption) ?_
    rotate_left
    · (intro w hSw; (try dsimp only at hSw); go_simp; all_goals with_reducible rfl)
    try simp only [Act.put]
    refine wpAnyH_take (i := 14) (oi := _) (v := ?_) rfl (by kernel_rfl) (by kernel_rfl) (by kernel_rfl) (fun _ _ _ h => h) (Or.inl ⟨by rfl, ?_⟩) (by assumption) ?_
    rotate_left
    · (intro w hSw; (try dsimp only at hSw); go_simp; all_goals with_reducible rfl)
    try simp only [Act.put]
    refine wpAnyH_take (i := 16) (oi := _) (v := ?_) rfl (by kernel_rfl) (by kernel_rfl) (by kernel_rfl) (fun _ _ _ h => h) (Or.inl ⟨by rfl, ?_⟩) (by assumption) ?_
    rotate_left
    · (intro w hSw; (try dsimp only at hSw); go_simp; all_goals with_reducible rfl)
    try simp only [Act.put]
    try simp only [List.setIfInBounds_toArray, List.set_cons_zero, List.set_cons_succ]
    refine wpAnyH_done (by kernel_rfl) ?_ _
    simp only [List.getElem_toArray, List.getElem_cons_succ, List.getElem_cons_zero, List.setIfInBounds_toArray, List.set_cons_zero, List.set_cons_succ]
    go_wp2
    go_ret2
    exact ⟨I, sD, (by first | rfl | kernel_rfl), by omega, hg ▸ hBf⟩
  · go_simp
    go_at_call 38
    refine (pick g 32 5 _ hRd (by omega)).mono ?_
    rintro e w6 ⟨q, rfl, hq0, hq1, hq2, hR6, hg6⟩
    have hq3 := hq2 (by omega)
    obtain ⟨i, rfl⟩ := Int.eq_ofNat_of_zero_le hq0
    have hi5 : i < 5 := by omega
    clear hq1 hq2
    go_wp2_with fail
    refine hK.out _ _ trivial (fun _ => ?_)
    clear hK K
    try simp only [Act.put, List.setIfInBounds_toArray, List.set_cons_zero, List.set_cons_succ]
    have hHeld : True := trivial
    refine wpAnyH_take (i := 15) (oi := _) (v := ?_) rfl (by kernel_rfl) (by kernel_rfl) (by kernel_rfl) (fun _ _ _ h => h) (Or.inl ⟨by rfl, ?_⟩) (by assumption) ?_
    rotate_left
    · (intro w hSw; (try dsimp only at hSw); go_simp; all_goals with_reducible rfl)
    try simp only [Act.put, List.setIfInBounds_toArray]
    refine wpAnyH_ready (rs := [4]) (by kernel_rfl) (by simp) ?_
    refine AllReadyH.cons (o := _) rfl (fun K hK => ?_) AllReadyH.nil
    go_simp
    refine hK.out _ _ trivial (fun _ => ?_)
    clear hK K
    try simp only [Act.put, List.setIfInBounds_toArray, List.set_cons_zero, List.set_cons_succ]
    have hblk : (w6.alloc (.cells #[.string ⟨#[]⟩, .string ⟨#[48]⟩, .string ⟨#[32]⟩, .string ⟨#[59]⟩, .string ⟨#[111, 114]⟩] 9)).heap[w6.heap.size]? = some (.cells #[.string ⟨#[]⟩, .string ⟨#[48]⟩, .string ⟨#[32]⟩, .string ⟨#[59]⟩, .string ⟨#[111, 114]⟩] 9 (0, 0)) := World.alloc_heap_new w6 _
    have hBf := (below_growD hBd hg6 (by omega)).alloc (by have := (below_growD hBd hg6 (by omega)).size; omega) (.cells #[.string ⟨#[]⟩, .string ⟨#[48]⟩, .string ⟨#[32]⟩, .string ⟨#[59]⟩, .string ⟨#[111, 114]⟩] 9)
    obtain ⟨t, hct, htz⟩ : ∃ t : ByteArray, (w6.alloc (.cells #[.string ⟨#[]⟩, .string ⟨#[48]⟩, .string ⟨#[32]⟩, .string ⟨#[59]⟩, .string ⟨#[111, 114]⟩] 9)).cell? ⟨w6.heap.size, i, none⟩ = some (.string t) ∧ t.size ≤ 2 := five hblk hi5
    obtain ⟨sC, addC, lC, zC⟩ := app_ok sA t t.size (by omega) rfl (by omega)
    obtain ⟨sD, addD, lD, zD⟩ := app_ok sC sB sB.size (by omega) rfl (by omega)
    refine wpAnyH_sub (S2 := fun w' => w'.cell? ⟨w6.heap.size, i, none⟩ = some (.string t)) (fun _ _ => trivial) _ _ _ _ ?_
    have hHeld := hct
    refine wpAnyH_take (i := 7) (oi := _) (v := ?_) rfl (by kernel_rfl) (by kernel_rfl) (by kernel_rfl) (fun _ _ _ h => h) (Or.inl ⟨by rfl, ?_⟩) (by assumption) ?_
    rotate_left
    · (intro w hSw; (try dsimp only at hSw); go_simp; all_goals with_reducible rfl)
    try simp only [Act.put, List.setIfInBounds_toArray]
    refine wpAnyH_take (i := 8) (oi := _) (v := ?_) rfl (by kernel_rfl) (by kernel_rfl) (by kernel_rfl) (fun _ _ _ h => h) (Or.inl ⟨by rfl, ?_⟩) (by assumption) ?_
    rotate_left
    · (intro w hSw; (try dsimp only at hSw); go_simp; all_goals with_reducible rfl)
    try simp only [Act.put]
    refine wpAnyH_take (i := 9) (oi := _) (v := ?_) rfl (by kernel_rfl) (by kernel_rfl) (by kernel_rfl) (fun _ _ _ h => h) (Or.inl ⟨by rfl, ?_⟩) (by assumption) ?_
    rotate_left
    · (intro w hSw; (try dsimp only at hSw); go_simp; all_goals with_reducible rfl)
    try simp only [Act.put]
    refine wpAnyH_take (i := 14) (oi := _) (v := ?_) rfl (by kernel_rfl) (by kernel_rfl) (by kernel_rfl) (fun _ _ _ h => h) (Or.inl ⟨by rfl, ?_⟩) (by assumption) ?_
    rotate_left
    · (intro w hSw; (try dsimp only at hSw); go_simp; all_goals with_reducible rfl)
    try simp only [Act.put]
    refine wpAnyH_take (i := 16) (oi := _) (v := ?_) rfl (by kernel_rfl) (by kernel_rfl) (by kernel_rfl) (fun _ _ _ h => h) (Or.inl ⟨by rfl, ?_⟩) (by assumption) ?_
    rotate_left
    · (intro w hSw; (try dsimp only at hSw); go_simp; all_goals with_reducible rfl)
    try simp only [Act.put]
    try simp only [List.setIfInBounds_toArray, List.set_cons_zero, List.set_cons_succ]
    refine wpAnyH_done (by kernel_rfl) ?_ _
    simp only [List.getElem_toArray, List.getElem_cons_succ, List.getElem_cons_zero, List.setIfInBounds_toArray, List.set_cons_zero, List.set_cons_succ]
    go_wp2
    go_ret2
    exact ⟨I, sD, (by first | rfl | kernel_rfl), by omega, hg ▸ hBf⟩
end Go.Proofs.YtkpjlkahebeljaaDoor

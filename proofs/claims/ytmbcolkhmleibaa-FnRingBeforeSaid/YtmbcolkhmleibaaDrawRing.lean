/- Contracts of the drawing of rules and rings. -/
import Derived.Test.YtmbcolkhmleibaaDraw
import Derived.Test.YtmbcolkhmleibaaPush
namespace Go.Proofs.Ytmbcolkhmleibaa
open Go.RowKit
set_option linter.unusedVariables false

/-- an integer in lo..hi is returned; the reader has gone on by d at most; nothing else that lay has turned -/
def DrewI (w : World) (g P d : Nat) (lo hi : Int) (e : Ending) (w' : World) : Prop := ∃ x : Int, e = .returned (.int .i64 x) ∧ lo ≤ x ∧ x ≤ hi ∧ RdLe w' g (P + d) ∧ w.grownBy w' (some g)
set_option maxHeartbeats 1000000 in
theorem l20Rule (g P : Nat) (w : World) (hR : RdLe w g P) (hP : P ≤ 999000) :
    Calls Try.prog 61 #[.pointer (some ⟨g, 0, none⟩)] w (DrewI w g P 4 (-1000) 1000) := by
  go_enter Try.func61, Try.ntmps61
  go_wp2_with fail
  refine (pick g P 4 w hR (by omega)).mono ?_
  rintro e w1 ⟨q, rfl, hq0, hq1, hq2, hR1, hg1⟩
  have hq3 := hq2 (by omega)
  clear hq1 hq2
  have hq : q = 0 ∨ q = 1 ∨ q = 2 ∨ q = 3 := by omega
  rcases hq with rfl | rfl | rfl | rfl
  · go_wp2_with fail
    obtain ⟨cells, hcells⟩ : ∃ cells : Array Value, cells = #[.int .i64 0, .int .i64 60, .int .i64 90, .int .i64 102, .int .i64 150, .int .i64 170, .int .i64 204, .int .i64 240, .int .i64 30, .int .i64 110, .int .i64 255] := ⟨_, rfl⟩
    rw [← hcells]
    have hR1' : RdLe (w1.alloc (.cells cells 3)) g (P + 1) := hR1.keep fun k hk => Below.heap_alloc _ _ _ (by have := hR1.lt; omega)
    refine (pick g (P + 1) 11 _ hR1' (by omega)).mono ?_
    rintro e w2 ⟨x, rfl, hx0, hx1, hx2, hR2, hg2⟩
    have hx3 := hx2 (by omega)
    clear hx1 hx2
    have hblk : w2.heap[w1.heap.size]? = some (.cells cells 3 (0, 0)) :=
      (hg2.block w1.heap.size (by simp) (by have := hR1.lt; simp; omega)).trans (heap_alloc_new w1 _)
    have hG : w.grownBy w2 (some g) := (hg1.trans (World.grownBy_alloc w1 _ (some g))).trans hg2
    have HG := Lib.hid hG
    obtain ⟨k, rfl⟩ := Int.eq_ofNat_of_zero_le hx0
    have hk : k < 11 := by omega
    obtain ⟨v, hv0, hv1, hc⟩ : ∃ v : Int, -1000 ≤ v ∧ v ≤ 1000 ∧ w2.cell? ⟨w1.heap.size, k, none⟩ = some (.int .i64 v) := by
      rw [cell_of_row w2 _ k _ _ _ hblk, hcells]
      have h11 : k = 0 ∨ k = 1 ∨ k = 2 ∨ k = 3 ∨ k = 4 ∨ k = 5 ∨ k = 6 ∨ k = 7 ∨ k = 8 ∨ k = 9 ∨ k = 10 := by omega
      rcases h11 with rfl | rfl | rfl | rfl | rfl | rfl | rfl | rfl | rfl | rfl | rfl <;> exact ⟨_, by decide, by decide, rfl⟩
    clear hblk hG hg1 hg2 hcells
    go_wp2
    go_ret
    exact ⟨_, rfl, hv0, hv1, hR2.more (by omega), HG.out⟩
  all_goals
    go_wp2_with fail
    refine (pick g (P + 1) 256 w1 hR1 (by omega)).mono ?_
    rintro e w2 ⟨x, rfl, hx0, hx1, hx2, hR2, hg2⟩
    have hx3 := hx2 (by omega)
    clear hx1 hx2
    go_wp2_with fail
    refine (pick g (P + 2) 30 w2 hR2 (by omega)).mono ?_
    rintro e w3 ⟨y, rfl, hy0, hy1, hy2, hR3, hg3⟩
    have hy3 := hy2 (by omega)
    clear hy1 hy2
    go_wp2_with fail
    refine (pick g (P + 3) 30 w3 hR3 (by omega)).mono ?_
    rintro e w4 ⟨z, rfl, hz0, hz1, hz2, hR4, hg4⟩
    have hz3 := hz2 (by omega)
    clear hz1 hz2
    go_wp2
    go_ret
    exact ⟨_, rfl, by omega, by omega, hR4, ((hg1.trans hg2).trans hg3).trans hg4⟩
theorem l20Long (g P : Nat) (w : World) (hR : RdLe w g P) (hP : P ≤ 999000) :
    Calls Try.prog 43 #[.pointer (some ⟨g, 0, none⟩)] w (DrewI w g P 1 3 12) := by
  go_enter Try.func43, Try.ntmps43
  go_wp2_with fail
  refine (pick g P 10 w hR (by omega)).mono ?_
  rintro e w1 ⟨q, rfl, hq0, hq1, hq2, hR1, hg1⟩
  have hq3 := hq2 (by omega)
  clear hq1 hq2
  go_wp2
  go_ret
  exact ⟨_, rfl, by omega, by omega, hR1, hg1⟩
/-- a new slice of at most 13 integers is returned; the reader has gone on; nothing else that lay has turned -/
def DrewRing (w : World) (g P : Nat) (e : Ending) (w' : World) : Prop := ∃ A n c zs, e = .returned (.slice A n c) ∧ OI w' w.heap.size A n c zs ∧ n ≤ 13 ∧ RdLe w' g (P + 20) ∧ w.grownBy w' (some g)

theorem RdLe.grown {w w' : World} {g P base : Nat} {A : Option Addr} {n c : Nat} {zs : List Int} (h : RdLe w g P) (ho : OS w base A n c zs) (hg : w.grownBy w' (Value.slice A n c).ownBlock) (hb : g < base) : RdLe w' g P := by
  refine h.keep fun k hk => ?_
  have hlt := h.lt
  refine hg.block k (by omega) (fun e => ?_)
  have := (ho.lt k e.symm).1
  omega
/-- what one append leaves, seen from before: nothing but block g and what is new has turned -/
theorem grown_own {w w1 w2 : World} {g : Nat} {A : Option Addr} {n c : Nat} {zs : List Int} (h : w.grownBy w1 (some g)) (ho : OS w1 w.heap.size A n c zs) (hg : w1.grownBy w2 (Value.slice A n c).ownBlock) : w.grownBy w2 (some g) :=
  ⟨hg.os.trans h.os, hg.tape.trans h.tape, hg.output.trans h.output, Nat.le_trans h.size hg.size, fun k hk hne => (hg.block k (Nat.lt_of_lt_of_le hk h.size) (fun e => by have := (ho.lt k e.symm).1; omega)).trans (h.block k hk hne)⟩

set_option maxHeartbeats 2000000 in
theorem l20Ring (g P : Nat) (long n : Int) (w : World) (hR : RdLe w g P) (hP : P ≤ 999000) (h0 : 0 ≤ long) (h12 : long ≤ 12) (hn : n ≤ 1000) :
    Calls Try.prog 42 #[.pointer (some ⟨g, 0, none⟩), .int .i64 long, .int .i64 n] w (DrewRing w g P) := by
  obtain ⟨m, rfl⟩ := Int.eq_ofNat_of_zero_le h0
  have hm : m ≤ 12 := by omega
  have hgw : g < w.heap.size := hR.lt
  have hE := OS.empty w
  have hRE : RdLe (w.alloc (.cells #[] 3)) g P := hR.keep fun k hk => Below.heap_alloc _ _ _ (by omega)
  have hGE : w.grownBy (w.alloc (.cells #[] 3)) (some g) := World.grownBy_alloc w _ (some g)
  clear h0 h12
  go_enter Try.func42, Try.ntmps42
  go_wp2
  go_loopw [7, 8] (fun v i wr => ∃ (k : Nat) (A' : Option Addr) (c' : Nat) (ys : List Int), k ≤ m ∧ i = .int .i64 k ∧ v = .slice A' k c' ∧ OS wr w.heap.size A' k c' ys ∧ RdLe wr g (P + k) ∧ w.grownBy wr (some g))
    (fun _ i _ => m - (intOf i).toNat)
  case atStart => exact ⟨0, _, _, _, by omega, rfl, rfl, hE, hRE, hGE⟩
  case round =>
    obtain ⟨k, A', c', ys, hk, rfl, rfl, hO, hR', hG⟩ := hrel
    have HO := Lib.hid hO
    have HG := Lib.hid hG
    have hs : w.heap.size ≤ wr.heap.size := hG.size
    clear hO hE hRE hGE hG
    by_cases hlt : k < m
    · go_wp2_with fail
      refine (pick g _ 2 _ hR' (by omega)).mono ?_
      rintro e w2 ⟨x, rfl, hx0, hx1, hx2, hR2, hg2⟩
      clear hx1 hx2
      have hO2 := HO.out.apart hg2 (.inl hgw)
      have hG2 := HG.out.trans hg2
      have hs2 : w.heap.size ≤ w2.heap.size := hG2.size
      have HO2 := Lib.hid hO2
      have HG2 := Lib.hid hG2
      clear hO2 hG2 hg2
      go_wp2_with (at_builtin; refine wpList_push _ x rfl _ _ rfl w.heap.size A' k c' ys rfl rfl HO2.out (by omega) hs2 ?_; intro g3 c3 w3 hO3 hg3)
      go_roundw
      case rel => exact ⟨k + 1, _, _, _, by omega, by go_num, rfl, hO3, by have := hR2.grown HO2.out hg3 hgw; exact this.more (by omega), grown_own HG2.out HO2.out hg3⟩
      case measure => simp [intOf]; omega
    · obtain rfl : k = m := by omega
      go_wp2_with fail
      refine (odd g _ n _ hR' (by omega) hn).mono ?_
      rintro e w2 ⟨b, rfl, hR2, hg2⟩
      have hO2 := HO.out.apart hg2 (.inl hgw)
      have hG2 := HG.out.trans hg2
      have hs2 : w.heap.size ≤ w2.heap.size := hG2.size
      have HO2 := Lib.hid hO2
      have HG2 := Lib.hid hG2
      clear hO2 hG2 hg2
      cases b
      · go_wp2
        go_ret
        exact ⟨_, _, _, _, rfl, HO2.out.toI, by omega, hR2.more (by omega), HG2.out⟩
      · go_wp2_with fail
        refine (pick g _ 3 _ hR2 (by omega)).mono ?_
        rintro e w3 ⟨x, rfl, hx0, hx1, hx2, hR3, hg3⟩
        have hx3 := hx2 (by omega)
        have hO3 := HO2.out.apart hg3 (.inl hgw)
        have hG3 := HG2.out.trans hg3
        have hs3 : w.heap.size ≤ w3.heap.size := hG3.size
        have HO3 := Lib.hid hO3
        have HG3 := Lib.hid hG3
        have HR3 := Lib.hid hR3
        clear hx1 hx2 hO3 hG3 hg3 hR3
        have hx : x = 0 ∨ x = 1 ∨ x = 2 := by omega
        rcases hx with rfl | rfl | rfl
        · go_wp2
          go_ret
          refine ⟨_, _, _, [1, 0], rfl, ⟨rfl, Nat.le_refl _, by simp [maxLen], .inr ⟨_, _, rfl, hs3, heap_alloc_new _ _, by simp, rfl⟩⟩, by omega, (HR3.out.keep fun k hk => Below.heap_alloc _ _ _ (by have := HR3.out.lt; omega)).more (by omega), HG3.out.trans (World.grownBy_alloc _ _ _)⟩
        · go_wp2_with (at_builtin; refine wpList_push _ 2 rfl _ _ rfl w.heap.size A' k c' ys rfl rfl HO3.out (by omega) hs3 ?_; intro g4 c4 w4 hO4 hg4)
          go_ret
          exact ⟨_, _, _, _, rfl, hO4.toI, by omega, (HR3.out.grown HO3.out hg4 hgw).more (by omega), grown_own HG3.out HO3.out hg4⟩
        · go_wp2_with (at_make; refine wpList_mk _ rfl _ _ rfl 13 _ _ rfl rfl rfl rfl (by omega) ?_; intro w4 hO4 hg4)
          go_ret
          refine ⟨_, _, _, _, rfl, hO4.toI.mono hs3, by omega, (HR3.out.keep fun k hk => hg4.block k (by have := HR3.out.lt; omega) (by simp)).more (by omega), ?_⟩
          exact HG3.out.trans ⟨hg4.os, hg4.tape, hg4.output, hg4.size, fun k hk _ => hg4.block k hk (by simp)⟩
end Go.Proofs.Ytmbcolkhmleibaa

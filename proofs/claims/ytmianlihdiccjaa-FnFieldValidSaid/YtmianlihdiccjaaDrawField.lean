/- Contracts: the drawing of fields. -/
import Derived.Test.YtmianlihdiccjaaDraw
import Derived.Test.YtmianlihdiccjaaStepS2
import Derived.Test.YtmianlihdiccjaaStepF
namespace Go.Proofs.Ytmianlihdiccjaa
open Go.RowKit
set_option linter.unusedVariables false
attribute [local go_sem ↓] Go.wp_at_zero Go.wp_at_succ

/-- a field is returned; the reader has gone on by d at most; nothing else that lay has turned -/
def DrawF (w : World) (g P d : Nat) (e : Ending) (w' : World) : Prop := ∃ (s : Int) (A : Option Addr) (n c : Nat) (h : Bool) (zs : List Bool), e = .returned (.agg #[.int .i64 s, .slice A n c, .bool h]) ∧ n ≤ 100 ∧ OIb w' w.heap.size A n c zs ∧ RdLe w' g (P + d) ∧ w.grownBy w' (some g)
theorem RdLe.grown {w w' : World} {g P : Nat} {row : Option Nat} (h : RdLe w g P) (hg : w.grownBy w' row) (hr : ∀ k, row = some k → g < k) : RdLe w' g P := by
  have hl := h.lt
  exact h.keep fun k hk => hg.block k (by omega) (fun e => by have := hr k e.symm; omega)
theorem grow2 {w w1 w2 : World} {g : Nat} (h1 : w.grownBy w1 (some g)) (h2 : w1.grownBy w2 (some g)) : w.grownBy w2 (some g) := h1.trans h2
/-- a step that turns blocks of the call's own alone -/
theorem growOwn {w w1 w2 : World} {g k : Nat} (h1 : w.grownBy w1 (some g)) (h2 : w1.grownBy w2 (some k)) (hk : w.heap.size ≤ k) : w.grownBy w2 (some g) :=
  ⟨h2.os.trans h1.os, h2.tape.trans h1.tape, h2.output.trans h1.output, Nat.le_trans h1.size h2.size, fun j hj hne => (h2.block j (Nat.lt_of_lt_of_le hj h1.size) (fun e => by injection e with e; omega)).trans (h1.block j hj hne)⟩
theorem growN {w w1 w2 : World} {g : Nat} (h1 : w.grownBy w1 (some g)) (h2 : w1.grownBy w2 none) : w.grownBy w2 (some g) :=
  ⟨h2.os.trans h1.os, h2.tape.trans h1.tape, h2.output.trans h1.output, Nat.le_trans h1.size h2.size, fun j hj hne => (h2.block j (Nat.lt_of_lt_of_le hj h1.size) (by simp)).trans (h1.block j hj hne)⟩
theorem RdLe.set {w : World} {g P : Nat} (h : RdLe w g P) {p : Addr} (hp : g < p.block) (u : Value) : RdLe (w.setCell p u) g P := h.grown (grown_set w p u) (fun k e => by cases e; exact hp)
theorem RdLe.set3 {w : World} {g P : Nat} (h : RdLe w g P) {k : Nat} (hk : g < k) (u v x : Value) : RdLe (((w.setCell ⟨k, 0, none⟩ u).setCell ⟨k, 1, none⟩ v).setCell ⟨k, 2, none⟩ x) g P := ((h.set (p := ⟨k, 0, none⟩) hk u).set (p := ⟨k, 1, none⟩) hk v).set (p := ⟨k, 2, none⟩) hk x
theorem growSet3 {w w1 : World} {g k : Nat} (h : w.grownBy w1 (some g)) (hk : w.heap.size ≤ k) (u v x : Value) : w.grownBy (((w1.setCell ⟨k, 0, none⟩ u).setCell ⟨k, 1, none⟩ v).setCell ⟨k, 2, none⟩ x) (some g) :=
  growOwn (growOwn (growOwn h (grown_set _ ⟨k, 0, none⟩ u) hk) (grown_set _ ⟨k, 1, none⟩ v) hk) (grown_set _ ⟨k, 2, none⟩ x) hk
theorem OIb.other3 {w : World} {base n c : Nat} {A : Option Addr} {zs : List Bool} (h : OIb w base A n c zs) {k : Nat} (hne : (Value.slice A n c).ownBlock ≠ some k) (u v x : Value) : OIb (((w.setCell ⟨k, 0, none⟩ u).setCell ⟨k, 1, none⟩ v).setCell ⟨k, 2, none⟩ x) base A n c zs :=
  ((h.kept (grown_set _ ⟨k, 0, none⟩ u) (.inr hne)).kept (grown_set _ ⟨k, 1, none⟩ v) (.inr hne)).kept (grown_set _ ⟨k, 2, none⟩ x) (.inr hne)
set_option maxRecDepth 100000 in
set_option maxHeartbeats 16000000 in
theorem l20Field (g P : Nat) (m : Int) (w : World) (hR : RdLe w g P) (hP : P ≤ 900000) (hm : m ≤ 1000) :
    Calls Try.prog 49 #[.pointer (some ⟨g, 0, none⟩), .int .i64 m] w (DrawF w g P 20) := by
  obtain ⟨W, hW⟩ : ∃ W, w.alloc (.cells #[.int .i64 0, .slice none 0 0, .bool false] 27) = W := ⟨_, rfl⟩
  obtain ⟨r, hr⟩ : ∃ r, w.heap.size = r := ⟨_, rfl⟩
  have hgr : g < r := by rw [← hr]; exact hR.lt
  have hwr : w.heap.size ≤ r := by omega
  have R4 := Lib.hid (show Row3 W r 27 (.int .i64 0) (.slice none 0 0) (.bool false) by rw [← hW, ← hr]; exact Row3.new w _ _ _ _)
  have hG0 : w.grownBy W (some g) := by rw [← hW]; exact World.grownBy_alloc w _ _
  have hR0 : RdLe W g P := by rw [← hW]; exact hR.keep fun k hk => Below.heap_alloc _ _ _ (by omega)
  have HR0 := Lib.hid hR0
  clear hR hR0
  go_enter Try.func49, Try.ntmps49
  go_wp2_with fail
  refine (pick g P 4 W HR0.out (by omega)).mono ?_
  rintro e w1 ⟨x, rfl, hx0, _, hx2, hR1, hg1⟩
  have hx4 := hx2 (by omega)
  have R41 := Lib.hid (R4.out.kept hg1 (by simp; omega))
  have HR1 := Lib.hid hR1
  have HW := Lib.hid hW
  have HRr := Lib.hid hr
  have hrW : r < W.heap.size := R4.out.lt
  have hG1 := hG0.trans hg1
  obtain ⟨S, hS⟩ : ∃ S : Nat, 2 + 2 * x = (S : Int) := ⟨(2 + 2 * x).toNat, by omega⟩
  have hS2 : 2 ≤ S := by omega
  have hS8 : S ≤ 8 := by omega
  clear hx2 hR1 hW hr
  go_wp2_with fail
  refine (pick g (P + 1) 2 w1 HR1.out (by omega)).mono ?_
  rintro e w2 ⟨y, rfl, hy0, _, hy2, hR2, hg2⟩
  have R42 := Lib.hid (R41.out.kept hg2 (by simp; omega))
  have hG2 := hG1.trans hg2
  have hs1 := hg1.size
  have hs2 := hg2.size
  have hrw : w.heap.size = r := HRr.out
  obtain ⟨hB, hBe⟩ : ∃ b, (y == 0) = b := ⟨_, rfl⟩
  obtain ⟨N, hN⟩ : ∃ N, S * S = N := ⟨_, rfl⟩
  have hN64 : N ≤ 64 := by rw [← hN]; exact mul_bd hS8 hS8
  have hN4 : 4 ≤ N := by rw [← hN]; exact Nat.mul_le_mul hS2 hS2
  have hNI : (S : Int) * (S : Int) = (N : Int) := by rw [← hN]; push_cast; rfl
  obtain ⟨w3, hw3⟩ : ∃ w3, w2.alloc (.cells #[.int .i64 (S : Int), .slice none 0 0, .bool hB] 27) = w3 := ⟨_, rfl⟩
  have R53 := Lib.hid (show Row3 w3 w2.heap.size 27 (.int .i64 (S : Int)) (.slice none 0 0) (.bool hB) by rw [← hw3]; exact Row3.new w2 _ _ _ _)
  have hg3 : w2.grownBy w3 none := by rw [← hw3]; exact World.grownBy_alloc w2 _ _
  have R43 := Lib.hid (R42.out.kept hg3 (by simp))
  have HR3 := Lib.hid (RdLe.grown hR2 hg3 (by simp))
  have hG3 := growN hG2 hg3
  have hs3 : w3.heap.size = w2.heap.size + 1 := by rw [← hw3]; simp
  have hrf : r < w2.heap.size := by omega
  have HW3 := Lib.hid hw3
  have HS3 := Lib.hid hs3
  clear hy2 hR2 hrw hw3 hN hg3 hs3
  go_wp2_with (refine wpList_mkB _ rfl _ _ rfl N _ _ rfl rfl rfl rfl (by omega) ?_; intro w4 hO4 hg4; (rw [HW3.out] at hO4 hg4); (rw [HS3.out] at hO4); (have R54 := Lib.hid (R53.out.kept hg4 (by simp))); (have R44 := Lib.hid (R43.out.kept hg4 (by simp))); (have HR4 := Lib.hid (RdLe.grown HR3.out hg4 (by simp))); (have hG4 := growN hG3 hg4); (have HO4 := Lib.hid hO4); (have HG4 := Lib.hid hg4.size); (clear hO4 hg4); (obtain ⟨b0, b1, b2, b3, b4, b5⟩ := R54.out.at_))
  obtain ⟨f5, hf5⟩ : ∃ f5, w2.heap.size = f5 := ⟨_, rfl⟩
  obtain ⟨w5, hw5⟩ : ∃ w5, w4.setCell ⟨w2.heap.size, 1, none⟩ (.slice (some ⟨w2.heap.size + 1, 0, none⟩) N N) = w5 := ⟨_, rfl⟩
  have hsz4 : w2.heap.size + 1 ≤ w4.heap.size := by rw [← HS3.out]; exact HG4.out
  have R55 := Lib.hid (show Row3 w5 w2.heap.size 27 (.int .i64 (S : Int)) (.slice (some ⟨w2.heap.size + 1, 0, none⟩) N N) (.bool hB) by rw [← hw5]; exact R54.out.set1 _)
  have R45 := Lib.hid (show Row3 w5 r 27 (.int .i64 0) (.slice none 0 0) (.bool false) by rw [← hw5]; exact R44.out.other (p := ⟨w2.heap.size, 1, none⟩) (show r ≠ w2.heap.size by omega) _)
  have HO5 := Lib.hid (show OSb w5 (w2.heap.size + 1) (some ⟨w2.heap.size + 1, 0, none⟩) N N (List.replicate N false) by rw [← hw5]; exact HO4.out.kept (grown_set _ ⟨w2.heap.size, 1, none⟩ _) (.inr (by simp [Value.ownBlock])))
  have HR5 := Lib.hid (show RdLe w5 g (P + 1 + 1) by rw [← hw5]; exact RdLe.grown HR4.out (grown_set _ ⟨w2.heap.size, 1, none⟩ _) (fun k e => by cases e; show g < w2.heap.size; omega))
  have hG5 : w.grownBy w5 (some g) := by rw [← hw5]; exact growOwn hG4 (grown_set _ ⟨w2.heap.size, 1, none⟩ _) (show w.heap.size ≤ w2.heap.size from hG2.size)
  have hwf : w.heap.size ≤ w2.heap.size := hG2.size
  rw [hw5]
  rw [hf5] at R55 HO5 hrf hwf hsz4 ⊢
  have HW5 := Lib.hid hw5
  have HF5 := Lib.hid hf5
  clear b0 b1 b2 b3 b4 b5 hw5 hf5 hG4 hG3 hG2 hG1 hG0 R53 R54 R43 R44 R4 R41 R42
  refine (pick g (P + 1 + 1) 9 w5 HR5.out (by omega)).mono ?_
  rintro e w6 ⟨k0, rfl, hk0, _, hk9, hR6, hg6⟩
  have hk9' := hk9 (by omega)
  obtain ⟨k0, rfl⟩ := Int.eq_ofNat_of_zero_le hk0
  have hs6 := hg6.size
  have R56 := Lib.hid (R55.out.kept hg6 (by simp; omega))
  have R46 := Lib.hid (R45.out.kept hg6 (by simp; omega))
  have HO6 := Lib.hid (HO5.out.kept hg6 (.inr (by simp [Value.ownBlock]; omega)))
  have hG6 := hG5.trans hg6
  have HR6 := Lib.hid (hR6.more (show P + 1 + 1 + 1 ≤ P + 11 - k0 by omega))
  have hf6 : f5 + 1 < w6.heap.size := (HO6.out.lt (f5 + 1) rfl).2
  clear hk9 hR6 hg6 hG5
  go_wp2
  go_loopw [6] (fun i wr => ∃ (k : Nat) (zs : List Bool), k ≤ 8 ∧ i = .int .i64 k ∧ Hid (Row3 wr f5 27 (.int .i64 (S : Int)) (.slice (some ⟨f5 + 1, 0, none⟩) N N) (.bool hB)) ∧ Hid (Row3 wr r 27 (.int .i64 0) (.slice none 0 0) (.bool false)) ∧ Hid (OSb wr (f5 + 1) (some ⟨f5 + 1, 0, none⟩) N N zs) ∧ Hid (RdLe wr g (P + 11 - k)) ∧ f5 + 1 < wr.heap.size ∧ w.grownBy wr (some g))
    (fun i _ => (intOf i).toNat)
  case atStart => exact ⟨k0, _, by omega, rfl, R56.out, R46.out, HO6.out, HR6.out, hf6, hG6⟩
  case round =>
    clear R56 R46 HO6 HR6 hf6 hG6 hs6 R45 R55 HO5 HR5
    obtain ⟨k, zs, hk, rfl, R5, R4, HO, HR, hfs, hG⟩ := hrel
    obtain ⟨b0, b1, b2, b3, b4, b5⟩ := R5.out.at_
    by_cases hk0 : 0 < k
    · have hki : (0 : Int) < (k : Int) := by omega
      have hN0 : (0 : Int) ≤ (N : Int) := by omega
      go_wp2
      go_region_held3 (fun w' => w'.cell? ⟨f5, 1, none⟩ = some (.slice (some ⟨f5 + 1, 0, none⟩) N N)) (first | exact b1 | exact HK.out | exact HK2.out | go_keep)
        (first | (go_at_call 58; refine (pick g (P + 11 - k) N wr.drew (show RdLe wr.drew g (P + 11 - k) from HR.out) (by omega)).mono ?_; rintro e w7 ⟨X, rfl, hX0, _, hXn, hR7, hg7⟩; (have hXN := hXn (by omega)); (obtain ⟨X, rfl⟩ := Int.eq_ofNat_of_zero_le hX0); (have hg7' : wr.grownBy w7 (some g) := ⟨hg7.os, hg7.tape, hg7.output, hg7.size, hg7.block⟩); (have R57 := Lib.hid (R5.out.kept hg7' (by simp; omega))); (have HK := Lib.hid R57.out.at_.2.1); (have HO7 := Lib.hid (HO.out.kept hg7' (.inr (by simp [Value.ownBlock]; omega)))); (have hXl : X < N := (by omega)); (have hcp := HO7.out.cellD (j := X) hXl); (have hfp : w7.frozen? ⟨f5 + 1, X, none⟩ = false := HO7.out.toI.frozenAt X); (have HR7 := Lib.hid hR7); (have HK2 := Lib.hid (keep1 (u := .bool true) (g := f5 + 1) (i := X) HK.out (by simp)))))
      have R47 := Lib.hid (R4.out.kept hg7' (by simp; omega))
      have hG7 := hG.trans hg7'
      have hs7 := hg7'.size
      have HOS := Lib.hid (HO7.out.stored (k := X) true).1
      have R5S := Lib.hid (R57.out.other (p := ⟨f5 + 1, X, none⟩) (show f5 ≠ f5 + 1 by omega) (.bool true))
      have R4S := Lib.hid (R47.out.other (p := ⟨f5 + 1, X, none⟩) (show r ≠ f5 + 1 by omega) (.bool true))
      have HRS := Lib.hid ((HR7.out.set (p := ⟨f5 + 1, X, none⟩) (show g < f5 + 1 by omega) (.bool true)).more (show P + 11 - k + 1 ≤ P + 11 - (k - 1) by omega))
      have hGS := growOwn hG7 (grown_set w7 ⟨f5 + 1, X, none⟩ (.bool true)) (show w.heap.size ≤ f5 + 1 by omega)
      have hsS : f5 + 1 < (w7.setCell ⟨f5 + 1, X, none⟩ (.bool true)).heap.size := by simp; omega
      have hkk : ((k : Int) - 1) = ((k - 1 : Nat) : Int) := by omega
      have HKK := Lib.hid hkk
      clear b0 b1 b2 b3 b4 b5 hg7 hg7' hR7 hX0 hXn hXN hkk
      go_wp2
      go_roundw
      case rel => exact ⟨k - 1, _, by omega, by rw [HKK.out], R5S.out, R4S.out, HOS.out, HRS.out, hsS, hGS⟩
      case measure => simp [intOf]; omega
    · obtain rfl : k = 0 := by omega
      have hsR := R4.out.lt
      go_wp2_with fail
      refine (odd g (P + 11) m wr HR.out (by omega) hm).mono ?_
      rintro e w7 ⟨b, rfl, hR7, hg7⟩
      have R57 := Lib.hid (R5.out.kept hg7 (by simp; omega))
      have R47 := Lib.hid (R4.out.kept hg7 (by simp; omega))
      have HO7 := Lib.hid (HO.out.kept hg7 (.inr (by simp [Value.ownBlock]; omega)))
      have hG7 := hG.trans hg7
      have HR7 := Lib.hid hR7
      have hs7 := hg7.size
      clear b0 b1 b2 b3 b4 b5 hR7 hg7 R5 R4 HO HR hG
      cases b
      · obtain ⟨b0, b1, b2, b3, b4, b5⟩ := R57.out.at_
        obtain ⟨c0, c1, c2, c3, c4, c5⟩ := R47.out.at_
        go_wp2
        refine bodyPost_ret (results_field rfl _ _ r rfl (((R47.out.set0 _).set1 _).set2 _)) rfl ?_
        exact ⟨_, _, _, _, _, _, rfl, by omega, (HO7.out.toI.other3 (by simp [Value.ownBlock]; omega) _ _ _).mono (by omega), (HR7.out.set3 (by omega) _ _ _).more (by omega), growSet3 hG7 (by omega) _ _ _⟩
      · go_wp2_with fail
        refine (pick g (P + 11 + 1) 4 w7 HR7.out (by omega)).mono ?_
        rintro e w8 ⟨z, rfl, hz0, _, hz4, hR8, hg8⟩
        have hz4' := hz4 (by omega)
        have R58 := Lib.hid (R57.out.kept hg8 (by simp; omega))
        have R48 := Lib.hid (R47.out.kept hg8 (by simp; omega))
        have HO8 := Lib.hid (HO7.out.kept hg8 (.inr (by simp [Value.ownBlock]; omega)))
        have hG8 := hG7.trans hg8
        have HR8 := Lib.hid hR8
        have hs8 := hg8.size
        clear hR8 hg8 R57 R47 HO7 HR7 hz4
        obtain ⟨b0, b1, b2, b3, b4, b5⟩ := R58.out.at_
        obtain ⟨c0, c1, c2, c3, c4, c5⟩ := R48.out.at_
        have hzz : z = 0 ∨ z = 1 ∨ z = 2 ∨ z = 3 := by omega
        rcases hzz with rfl | rfl | rfl | rfl
        · go_wp2_with (at_builtin; refine wpList_pushB w8 false rfl _ _ rfl (f5 + 1) (some ⟨f5 + 1, 0, none⟩) N N zs rfl rfl HO8.out (by omega) (by omega) ?_; intro g9 c9 w9 hO9 hg9; (have R59 := Lib.hid (R58.out.kept hg9 (by simp [Value.ownBlock]))); (have R49 := Lib.hid (R48.out.kept hg9 (by simp [Value.ownBlock]; omega))); (have HO9 := Lib.hid hO9); (have hG9 := growOwn hG8 hg9 (show w.heap.size ≤ f5 + 1 by omega)); (have HR9 := Lib.hid (HR8.out.grown hg9 (fun k e => by simp [Value.ownBlock] at e; omega))); (clear b0 b1 b2 b3 b4 b5 c0 c1 c2 c3 c4 c5 hO9 hg9); (obtain ⟨b0, b1, b2, b3, b4, b5⟩ := R59.out.at_); (obtain ⟨c0, c1, c2, c3, c4, c5⟩ := R49.out.at_); (have hrf' : ¬ r = f5 := (by omega)))
          have hg9f : f5 + 1 ≤ g9 := by have := HO9.out.lt g9 rfl; omega
          refine bodyPost_ret (results_field rfl _ _ r rfl ((((R49.out.other (p := ⟨f5, 1, none⟩) (show r ≠ f5 by omega) _).set0 _).set1 _).set2 _)) rfl ?_
          exact ⟨_, _, _, _, _, _, rfl, by omega, ((HO9.out.toI.kept (grown_set _ ⟨f5, 1, none⟩ _) (.inr (by simp [Value.ownBlock]; omega))).other3 (by simp [Value.ownBlock]; omega) _ _ _).mono (by omega), ((HR9.out.set (p := ⟨f5, 1, none⟩) (show g < f5 by omega) _).set3 (by omega) _ _ _).more (by omega), growSet3 (growOwn hG9 (grown_set _ ⟨f5, 1, none⟩ _) (by omega)) (by omega) _ _ _⟩
        · go_wp2
          refine bodyPost_ret (results_field rfl _ _ r rfl (((R48.out.set0 _).set1 _).set2 _)) rfl ?_
          exact ⟨0, none, 0, 0, false, [], rfl, by omega, ⟨rfl, Nat.le_refl _, by simp [maxLen], .inl ⟨rfl, rfl⟩⟩, (HR8.out.set3 (by omega) _ _ _).more (by omega), growSet3 hG8 (by omega) _ _ _⟩
        · go_wp2_with (refine wpList_mkB _ rfl _ _ rfl 9 _ _ rfl rfl rfl rfl (by omega) ?_; intro w9 hO9 hg9; (have R49 := Lib.hid (R48.out.kept hg9 (by simp))); (have HO9 := Lib.hid hO9); (have hG9 := growN hG8 hg9); (have HR9 := Lib.hid (HR8.out.grown hg9 (by simp))); (clear b0 b1 b2 b3 b4 b5 c0 c1 c2 c3 c4 c5 hO9 hg9); (obtain ⟨c0, c1, c2, c3, c4, c5⟩ := R49.out.at_))
          refine bodyPost_ret (results_field rfl _ _ r rfl (((R49.out.set0 _).set1 _).set2 _)) rfl ?_
          exact ⟨_, _, _, _, _, _, rfl, by omega, (HO9.out.toI.other3 (by simp [Value.ownBlock]; omega) _ _ _).mono (by omega), (HR9.out.set3 (by omega) _ _ _).more (by omega), growSet3 hG9 (by omega) _ _ _⟩
        · go_wp2_with (refine wpList_mkB _ rfl _ _ rfl 36 _ _ rfl rfl rfl rfl (by omega) ?_; intro w9 hO9 hg9; (have R49 := Lib.hid (R48.out.kept hg9 (by simp))); (have R59 := Lib.hid (R58.out.kept hg9 (by simp))); (have HO9 := Lib.hid hO9); (have hG9 := growN hG8 hg9); (have HR9 := Lib.hid (HR8.out.grown hg9 (by simp))); (clear b0 b1 b2 b3 b4 b5 c0 c1 c2 c3 c4 c5 hO9 hg9); (obtain ⟨b0, b1, b2, b3, b4, b5⟩ := R59.out.at_))
          obtain ⟨g9, hg9⟩ : ∃ g9, w8.heap.size = g9 := ⟨_, rfl⟩
          obtain ⟨w10, hw10⟩ : ∃ w10, ((w9.setCell ⟨f5, 0, none⟩ (.int .i64 6)).setCell ⟨f5, 1, none⟩ (.slice (some ⟨w8.heap.size, 0, none⟩) 36 36)).setCell ⟨f5, 2, none⟩ (.bool false) = w10 := ⟨_, rfl⟩
          have hg9f : f5 + 1 < g9 := by omega
          have RX := Lib.hid (show Row3 w10 f5 27 (.int .i64 6) (.slice (some ⟨w8.heap.size, 0, none⟩) 36 36) (.bool false) by rw [← hw10]; exact ((R59.out.set0 _).set1 _).set2 _)
          have R4X := Lib.hid (show Row3 w10 r 27 (.int .i64 0) (.slice none 0 0) (.bool false) by rw [← hw10]; exact R49.out.other3 (by omega) _ _ _)
          have HOX := Lib.hid (show OSb w10 w8.heap.size (some ⟨w8.heap.size, 0, none⟩) 36 36 (List.replicate 36 false) by rw [← hw10]; exact HO9.out.other3 (by omega) _ _ _)
          have HRX := Lib.hid (show RdLe w10 g (P + 11 + 1 + 1) by rw [← hw10]; exact HR9.out.set3 (by omega) _ _ _)
          have hGX : w.grownBy w10 (some g) := by rw [← hw10]; exact growSet3 hG9 (by omega) _ _ _
          rw [hw10]
          rw [hg9] at RX HOX ⊢
          have HG9 := Lib.hid hg9
          clear b0 b1 b2 b3 b4 b5 R59 R49 HO9 HR9 hG9 hg9 hw10 R58 R48 HO8 HR8 hG8
          go_loopw [7] (fun i wx => ∃ (q : Nat) (zs : List Bool), q ≤ 13 ∧ i = .int .i64 q ∧ Hid (Row3 wx f5 27 (.int .i64 6) (.slice (some ⟨g9, 0, none⟩) 36 36) (.bool false)) ∧ Hid (Row3 wx r 27 (.int .i64 0) (.slice none 0 0) (.bool false)) ∧ Hid (OSb wx g9 (some ⟨g9, 0, none⟩) 36 36 zs) ∧ Hid (RdLe wx g (P + 11 + 1 + 1)) ∧ w.grownBy wx (some g))
            (fun i _ => 13 - (intOf i).toNat)
          case atStart => exact ⟨0, _, by omega, rfl, RX.out, R4X.out, HOX.out, HRX.out, hGX⟩
          case round =>
            clear RX R4X HOX HRX hGX
            obtain ⟨q, zs, hq, rfl, R5, R4, HO, HR, hG⟩ := hrel
            obtain ⟨b0, b1, b2, b3, b4, b5⟩ := R5.out.at_
            by_cases hq13 : q < 13
            · have hql : q < 36 := by omega
              have hcp := HO.out.cellD (j := q) hql
              have hfp : wr.frozen? ⟨g9, q, none⟩ = false := HO.out.toI.frozenAt q
              have hq12 : q ≤ 12 := by omega
              have i0 : (0 : Int) ≤ (q : Int) := by omega
              have i1 : (q : Int) < 36 := by omega
              have HOS := Lib.hid (HO.out.stored (k := q) true).1
              have R5S := Lib.hid (R5.out.other (p := ⟨g9, q, none⟩) (show f5 ≠ g9 by omega) (.bool true))
              have R4S := Lib.hid (R4.out.other (p := ⟨g9, q, none⟩) (show r ≠ g9 by omega) (.bool true))
              have HRS := Lib.hid (HR.out.set (p := ⟨g9, q, none⟩) (show g < g9 by omega) (.bool true))
              have hGS := growOwn hG (grown_set wr ⟨g9, q, none⟩ (.bool true)) (show w.heap.size ≤ g9 by omega)
              go_wp2
              go_roundw
              case rel => exact ⟨q + 1, _, by omega, by go_num, R5S.out, R4S.out, HOS.out, HRS.out, hGS⟩
              case measure => simp [intOf]; omega
            · obtain rfl : q = 13 := by omega
              obtain ⟨c0, c1, c2, c3, c4, c5⟩ := R4.out.at_
              go_wp2
              refine bodyPost_ret (results_field rfl _ _ r rfl (((R4.out.set0 _).set1 _).set2 _)) rfl ?_
              exact ⟨_, _, _, _, _, _, rfl, by omega, (HO.out.toI.other3 (by simp [Value.ownBlock]; omega) _ _ _).mono (by omega), (HR.out.set3 (by omega) _ _ _).more (by omega), growSet3 hG (by omega) _ _ _⟩
end Go.Proofs.Ytmianlihdiccjaa

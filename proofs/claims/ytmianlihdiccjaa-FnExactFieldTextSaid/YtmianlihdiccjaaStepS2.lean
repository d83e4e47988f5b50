/- Contract: all squares of one way changed (the reference). -/
import Derived.Test.YtmianlihdiccjaaStepS
import Derived.Deep.RegionHeld3
import Derived.Deep.DeepCutAuto
import Derived.Deep.DrawnRows
namespace Go.Proofs.Ytmianlihdiccjaa
open Go.RowKit
set_option linter.unusedVariables false
attribute [local go_sem ↓] Go.wp_at_zero Go.wp_at_succ

theorem OIb.addr' {w : World} {base n c : Nat} {A : Option Addr} {zs : List Bool} (h : OIb w base A n c zs) (hn : 0 < n) : ∃ g, A = some ⟨g, 0, none⟩ ∧ base ≤ g ∧ g < w.heap.size := h.addr hn
theorem OSb.cellD {w : World} {base g n c : Nat} {zs : List Bool} (h : OSb w base (some ⟨g, 0, none⟩) n c zs) {j : Nat} (hj : j < n) : w.cell? ⟨g, j, none⟩ = some (.bool (zs.getD j false)) := by
  rw [h.toI.cellAt hj]
  have : j < zs.length := by rw [h.len]; exact hj
  simp [List.getD, this]
theorem OI.cellD {w : World} {base g n c : Nat} {zs : List Int} (h : OI w base (some ⟨g, 0, none⟩) n c zs) {j : Nat} (hj : j < n) : w.cell? ⟨g, j, none⟩ = some (.int .i64 (zs.getD j 0)) := by
  rw [h.cellAt hj]
  have : j < zs.length := by rw [h.len]; exact hj
  simp [List.getD, this]
theorem OIb.cellD {w : World} {base g n c : Nat} {zs : List Bool} (h : OIb w base (some ⟨g, 0, none⟩) n c zs) {j : Nat} (hj : j < n) : w.cell? ⟨g, j, none⟩ = some (.bool (zs.getD j false)) := by
  rw [h.cellAt hj]
  have : j < zs.length := by rw [h.len]; exact hj
  simp [List.getD, this]
/-- the first k of four cells put in -/
def putK (out : List Bool) (cs : List Nat) (ns : List Bool) : Nat → List Bool
  | 0 => out
  | k + 1 => (putK out cs ns k).set (cs.getD k 0) (ns.getD k false)
theorem putK_len (out : List Bool) (cs : List Nat) (ns : List Bool) (k : Nat) : (putK out cs ns k).length = out.length := by
  induction k with
  | zero => rfl
  | succ k ih => simp [putK, ih]
theorem RL.cell {w : World} {B n : Nat} {A : Option Addr} {zs : List Bool} (h : RL w B A n zs) {k : Nat} (hk : k < n) : ∃ ad, A = some ad ∧ ad.block < B ∧ w.cell? (ad.add k) = some (.bool (zs.getD k false)) := by
  obtain ⟨ad, x, e, hb, hx, hc⟩ := h.at_ hk
  exact ⟨ad, e, hb, by rw [hc, List.getD_eq_getElem?_getD, hx]; rfl⟩
theorem turned4_at {s h p q : Nat} {bs : List Bool} (hs : s = 2 ∨ s = 4 ∨ s = 6 ∨ s = 8) (hh : h < 2) (hp : p < s / 2) (hq : q < s / 2) :
    turned4 (bs.getD (c0 s h p q) false) (bs.getD (c1 s h p q) false) (bs.getD (c2 s h p q) false) (bs.getD (c3 s h p q) false) = [stAt s h bs (c0 s h p q), stAt s h bs (c1 s h p q), stAt s h bs (c2 s h p q), stAt s h bs (c3 s h p q)] := by
  obtain ⟨_, hst, _⟩ := sq_facts hs hh hp hq
  obtain ⟨e0, e1, e2, e3⟩ := hst bs
  rw [e0, e1, e2, e3]; rfl
theorem news_up {W W' : World} {ad : Addr} {xs : List Value} (h : ∀ j u, xs[j]? = some u → W.cell? (ad.add j) = some u) (hb : Below W.heap.size W W') (hlt : ad.block < W.heap.size) : ∀ j u, xs[j]? = some u → W'.cell? (ad.add j) = some u :=
  fun j u hu => (hb.cell (p := ad.add j) (by rw [blk_add]; exact hlt)).trans (h j u hu)
theorem row3At (w : World) (g : Nat) (hg : w.heap.size = g) (T : TypeId) (a b c : Value) : Row3 (w.alloc (.cells #[a, b, c] T)) g T a b c := by subst hg; exact Row3.new w T a b c
theorem Row3.three {w : World} {g : Nat} {T : TypeId} {a b c : Value} (h : Row3 w g T a b c) : w.cell? ⟨g, 0, none⟩ = some a ∧ w.cell? ⟨g, 1, none⟩ = some b ∧ w.cell? ⟨g, 2, none⟩ = some c := ⟨h.at_.1, h.at_.2.1, h.at_.2.2.1⟩
theorem Row3.other3 {w : World} {g : Nat} {T : TypeId} {a b c : Value} (h : Row3 w g T a b c) {k : Nat} (hne : g ≠ k) (u v x : Value) : Row3 (((w.setCell ⟨k, 0, none⟩ u).setCell ⟨k, 1, none⟩ v).setCell ⟨k, 2, none⟩ x) g T a b c :=
  ((h.other (p := ⟨k, 0, none⟩) hne u).other (p := ⟨k, 1, none⟩) hne v).other (p := ⟨k, 2, none⟩) hne x
theorem OSb.other3 {w : World} {base gB n c : Nat} {zs : List Bool} (h : OSb w base (some ⟨gB, 0, none⟩) n c zs) {k : Nat} (hne : gB ≠ k) (u v x : Value) : OSb (((w.setCell ⟨k, 0, none⟩ u).setCell ⟨k, 1, none⟩ v).setCell ⟨k, 2, none⟩ x) base (some ⟨gB, 0, none⟩) n c zs :=
  ((h.kept (grown_set _ ⟨k, 0, none⟩ u) (.inr (by simpa [Value.ownBlock] using hne))).kept (grown_set _ ⟨k, 1, none⟩ v) (.inr (by simpa [Value.ownBlock] using hne))).kept (grown_set _ ⟨k, 2, none⟩ x) (.inr (by simpa [Value.ownBlock] using hne))
theorem below_set3 {w w' : World} {B k : Nat} (h : Below B w w') (hk : B ≤ k) (u v x : Value) : Below B w (((w'.setCell ⟨k, 0, none⟩ u).setCell ⟨k, 1, none⟩ v).setCell ⟨k, 2, none⟩ x) :=
  ((h.setCell (p := ⟨k, 0, none⟩) hk u).setCell (p := ⟨k, 1, none⟩) hk v).setCell (p := ⟨k, 2, none⟩) hk x
theorem osEmptyAt (w : World) (base g : Nat) (hg : w.heap.size = g) (hb : base ≤ g) : OSb (w.alloc (.cells #[] 4)) base (some ⟨g, 0, none⟩) 0 0 [] := by
  subst hg
  obtain ⟨h1, h2⟩ := OSb.empty w
  refine ⟨h1, ?_⟩
  rcases h2 with h2 | ⟨g', cap, cur, hv, hb', r⟩
  · exact .inl h2
  · exact .inr ⟨g', cap, cur, hv, Nat.le_trans hb hb', r⟩
set_option maxHeartbeats 8000000 in
set_option maxRecDepth 100000 in
theorem l6Step (S : Nat) (A : Option Addr) (n : Nat) (zs : List Bool) (c : Nat) (h : Bool) (sh : Nat) (w : World) (hr : RL w w.heap.size A n zs) (hSS : S = 2 ∨ S = 4 ∨ S = 6 ∨ S = 8) (hnn : n = S * S) (hsh : sh < 2) :
    Calls Try.prog 62 #[.agg #[.int .i64 (S : Int), .slice A n c, .bool h], .int .i64 (sh : Int)] w (GivesF w (S : Int) (stL S sh zs) h) := by
  obtain ⟨W, hW⟩ : ∃ W, ((w.alloc (.cells #[.int .i64 (S : Int), .slice A n c, .bool h] 27)).alloc (.cells #[.int .i64 0, .slice none 0 0, .bool false] 27)) = W := ⟨_, rfl⟩
  have hb : Below w.heap.size w W := by rw [← hW]; exact ((Below.refl _ _).alloc (Nat.le_refl _) _).alloc (by simp) _
  obtain ⟨g, hg⟩ : ∃ g, w.heap.size = g := ⟨_, rfl⟩
  have hsz : W.heap.size = g + 2 := by rw [← hW, ← hg]; simp
  have r0 : Row3 W g 27 (.int .i64 (S : Int)) (.slice A n c) (.bool h) := by rw [← hW, ← hg]; exact (Row3.new w _ _ _ _).alloc _
  have r1 : Row3 W (g + 1) 27 (.int .i64 0) (.slice none 0 0) (.bool false) := by
    have := Row3.new (w.alloc (.cells #[.int .i64 (S : Int), .slice A n c, .bool h] 27)) 27 (.int .i64 0) (.slice none 0 0) (.bool false)
    rw [hW] at this; rw [← hg]; simpa using this
  have R0 := Lib.hid r0
  have R1 := Lib.hid r1
  have HS := Lib.hid hsz
  obtain ⟨a0, a1, a2, a3, a4, a5⟩ := r0.at_
  have hwg : w.heap.size ≤ g + 1 := by omega
  have hwg0 : w.heap.size ≤ g := by omega
  have hS2 : 2 ≤ S := by omega
  have hS8 : S ≤ 8 := by omega
  have hn64 : n ≤ 64 := by rw [hnn]; exact mul_bd hS8 hS8
  have hn4 : 4 ≤ n := by rw [hnn]; rcases hSS with rfl | rfl | rfl | rfl <;> decide
  obtain ⟨ad, rfl, hadb, hcells⟩ := hr.2 (by omega)
  have hrW := hr.arg (Nat.le_refl _) hb
  have HRW := Lib.hid hrW
  have HSS := Lib.hid hSS
  have HNN := Lib.hid hnn
  obtain ⟨ad', e', hadW, hcW⟩ := hrW.2 (by omega)
  cases e'
  have HNW := Lib.hid hcW
  have HLZ := Lib.hid (show (zs.map Value.bool).length = n * 1 by rw [List.length_map, hr.len, Nat.mul_one])
  obtain ⟨i0, hi, hz0, hz1, hz2⟩ := info_parts infoBool
  have hgW : g < W.heap.size := by omega
  clear hrW hcells hcW hsz r0 r1 hnn hSS
  go_enter Try.func62, Try.ntmps62
  go_upto_region 1 with fail
  go_cut [5] (fun s5 wx => ∃ gO gB cB : Nat, s5 = .pointer (some ⟨gO, 0, none⟩) ∧ gO ≠ gB ∧ W.heap.size ≤ gO ∧ W.heap.size ≤ gB ∧ OSb wx W.heap.size (some ⟨gB, 0, none⟩) n cB zs ∧ Row3 wx gO 27 (.int .i64 (S : Int)) (.slice (some ⟨gB, 0, none⟩) n cB) (.bool h) ∧ Below W.heap.size W wx)
  case first =>
    go_region_held3 (fun w' => w'.cell? ⟨g, 0, none⟩ = some (.int .i64 (S : Int)) ∧ w'.cell? ⟨g, 1, none⟩ = some (.slice (some ad) n c) ∧ w'.cell? ⟨g, 2, none⟩ = some (.bool h)) (first | exact HK.out | exact (HR4.out.alloc _).three | exact (HR4.out.other3 (by omega) _ _ _).three | go_keep)
      (first
        | (refine step_append_lies _ (by rfl) _ _ 22 (by rfl) W.heap.size 4 i0 (.bool false) 1 1 Try.underlying22 hi hz0 hz1 hz2 rfl (by decide) (.slice (some ⟨W.heap.size, 0, none⟩) 0 0) 0 [] (by rfl) (OSb.empty W) ad n c (zs.map .bool) (by rfl) HLZ.out (news_up HNW.out (((Below.refl W.heap.size W).alloc (Nat.le_refl _) _).drew) hadW) (bools_oneCell zs) (by omega) (by unfold maxLen; omega) (by omega) (by simp <;> omega) _ rfl ?_; intro gB cB w4 hO4 hg4 hat4 hlt4; (have hBW4 : Below W.heap.size W w4 := Below.grown (((Below.refl W.heap.size W).alloc (Nat.le_refl _) _).drew) hg4 (by simp <;> omega) (fun k e => by simp [Value.ownBlock] at e; omega)); (have HO4 := Lib.hid (show OSb w4 W.heap.size (some ⟨gB, 0, none⟩) n cB zs by simpa [OSb] using hO4)); (have HR4 := Lib.hid (Row3.kept (Row3.drew (R0.out.alloc _)) hg4 (by simp [Value.ownBlock]; omega))); (have HK := Lib.hid (And.intro HR4.out.at_.1 (And.intro HR4.out.at_.2.1 HR4.out.at_.2.2.1))); (have HLT := Lib.hid hlt4); clear hO4 hg4 hat4 hlt4)
        | (refine step_append_lies _ (by rfl) _ _ 22 (by rfl) W.heap.size 4 i0 (.bool false) 1 1 Try.underlying22 hi hz0 hz1 hz2 rfl (by decide) (.slice (some ⟨W.heap.size, 0, none⟩) 0 0) 0 [] (by rfl) ((OSb.empty W).alloc _) ad n c (zs.map .bool) (by rfl) HLZ.out (news_up HNW.out ((((Below.refl W.heap.size W).alloc (Nat.le_refl _) _).alloc (by simp) _).drew) hadW) (bools_oneCell zs) (by omega) (by unfold maxLen; omega) (by omega) (by simp <;> omega) _ rfl ?_; intro gB cB w4 hO4 hg4 hat4 hlt4; (have hne4 : gB ≠ W.heap.size + 1 := (by rcases hat4 with h4 | h4 <;> simp [Value.ownBlock] at h4 <;> omega)); (have hBW4 : Below W.heap.size W w4 := Below.grown ((((Below.refl W.heap.size W).alloc (Nat.le_refl _) _).alloc (by simp) _).drew) hg4 (by simp <;> omega) (fun k e => by simp [Value.ownBlock] at e; omega)); (have HO4 := Lib.hid (show OSb w4 W.heap.size (some ⟨gB, 0, none⟩) n cB zs by simpa [OSb] using hO4)); (have HR4 := Lib.hid (Row3.kept (Row3.drew ((R0.out.alloc _).alloc _)) hg4 (by simp [Value.ownBlock]; omega))); (have HRO := Lib.hid (Row3.kept (Row3.drew (row3At (W.alloc (.cells #[] 4)) (W.heap.size + 1) (by simp) 27 (.int .i64 0) (.slice none 0 0) (.bool false))) hg4 (by simp [Value.ownBlock]))); (obtain ⟨o0, o1, o2, o3, o4, o5⟩ := HRO.out.at_); (have HK := Lib.hid (And.intro HR4.out.at_.1 (And.intro HR4.out.at_.2.1 HR4.out.at_.2.2.1))); (have HLT := Lib.hid hlt4); clear hO4 hg4 hat4 hlt4)
        | (refine step_append_lies _ (by rfl) _ _ 22 (by rfl) W.heap.size 4 i0 (.bool false) 1 1 Try.underlying22 hi hz0 hz1 hz2 rfl (by decide) (.slice (some ⟨W.heap.size + 1, 0, none⟩) 0 0) 0 [] (by rfl) (osEmptyAt (W.alloc (.cells #[.int .i64 0, .slice none 0 0, .bool false] 27)) W.heap.size (W.heap.size + 1) (by simp) (by omega)) ad n c (zs.map .bool) (by rfl) HLZ.out (news_up HNW.out ((((Below.refl W.heap.size W).alloc (Nat.le_refl _) _).alloc (by simp) _).drew) hadW) (bools_oneCell zs) (by omega) (by unfold maxLen; omega) (by omega) (by simp <;> omega) _ rfl ?_; intro gB cB w4 hO4 hg4 hat4 hlt4; (have hne4 : gB ≠ W.heap.size := (by rcases hat4 with h4 | h4 <;> simp [Value.ownBlock] at h4 <;> omega)); (have hBW4 : Below W.heap.size W w4 := Below.grown ((((Below.refl W.heap.size W).alloc (Nat.le_refl _) _).alloc (by simp) _).drew) hg4 (by simp <;> omega) (fun k e => by simp [Value.ownBlock] at e; omega)); (have HO4 := Lib.hid (show OSb w4 W.heap.size (some ⟨gB, 0, none⟩) n cB zs by simpa [OSb] using hO4)); (have HR4 := Lib.hid (Row3.kept (Row3.drew ((R0.out.alloc _).alloc _)) hg4 (by simp [Value.ownBlock]; omega))); (have HRO := Lib.hid (Row3.kept (Row3.drew ((Row3.new W 27 (.int .i64 0) (.slice none 0 0) (.bool false)).alloc _)) hg4 (by simp [Value.ownBlock]))); (obtain ⟨o0, o1, o2, o3, o4, o5⟩ := HRO.out.at_); (have HK := Lib.hid (And.intro HR4.out.at_.1 (And.intro HR4.out.at_.2.1 HR4.out.at_.2.2.1))); (have HLT := Lib.hid hlt4); clear hO4 hg4 hat4 hlt4))
    all_goals go_wp2_with fail
    all_goals go_meet
    · exact ⟨w4.heap.size, gB, cB, rfl, by have := HLT.out; omega, hBW4.size, (HO4.out.lt gB rfl).1, HO4.out.alloc _, Row3.new _ _ _ _ _, hBW4.alloc hBW4.size _⟩
    · exact ⟨W.heap.size + 1, gB, cB, rfl, Ne.symm hne4, by omega, (HO4.out.lt gB rfl).1, HO4.out.other3 hne4 _ _ _, ((HRO.out.set0 _).set1 _).set2 _, below_set3 hBW4 (by omega) _ _ _⟩
    · exact ⟨W.heap.size, gB, cB, rfl, Ne.symm hne4, by omega, (HO4.out.lt gB rfl).1, HO4.out.other3 hne4 _ _ _, ((HRO.out.set0 _).set1 _).set2 _, below_set3 hBW4 (by omega) _ _ _⟩
  case rest =>
    obtain ⟨gO, gB, cB, rfl, hOB, hgO, hgB, hO, hRO, hBc⟩ := hcut
    obtain ⟨H, hH⟩ : ∃ H, S / 2 = H := ⟨_, rfl⟩
    have hH1 : S ≤ 2 * H := by have := HSS.out; omega
    have hH2 : 2 * H ≤ S := by omega
    have HR0 := Lib.hid (R0.out.below hBc R0.out.lt)
    have HR1 := Lib.hid (R1.out.below hBc R1.out.lt)
    have HRO := Lib.hid hRO
    have HO := Lib.hid hO
    have hgW1 : g + 1 < W.heap.size := R1.out.lt
    have hB4 : Below w.heap.size w wc := hb.trans (hBc.mono hb.size)
    have hBw : W.heap.size ≤ wc.heap.size := hBc.size
    have hwW := hb.size
    have HST := Lib.hid (StS.zero (s := S) (h := sh) (bs := zs) (by rw [hr.len]; exact HNN.out))
    have HHH := Lib.hid hH
    have HW := Lib.hid hW
    have HG := Lib.hid hg
    clear a0 a1 a2 a3 a4 a5 hO hRO hBc HNW HLZ hH hi hz0 hz1 hz2 hW hg
    obtain ⟨e0, e1, e2, e3, e4, e5⟩ := HR0.out.at_
    go_wp2
    go_loopw [6] (fun i wr => ∃ (q Y : Nat) (out : List Bool), q ≤ H ∧ Y ≤ 2 * q + sh ∧ 2 * q + sh ≤ Y ∧ i = .int .i64 Y ∧ Hid (OSb wr W.heap.size (some ⟨gB, 0, none⟩) n cB out) ∧ Hid (StS S sh zs (q * H) out) ∧ Hid (Row3 wr gO 27 (.int .i64 (S : Int)) (.slice (some ⟨gB, 0, none⟩) n cB) (.bool h)) ∧ Hid (Row3 wr g 27 (.int .i64 (S : Int)) (.slice (some ad) n c) (.bool h)) ∧ Hid (Row3 wr (g + 1) 27 (.int .i64 0) (.slice none 0 0) (.bool false)) ∧ W.heap.size ≤ wr.heap.size ∧ Below w.heap.size w wr)
      (fun i _ => 20 - (intOf i).toNat)
    case atStart => exact ⟨0, sh, zs, by omega, by omega, by omega, rfl, HO.out, by rw [Nat.zero_mul]; exact HST.out, HRO.out, HR0.out, HR1.out, hBw, hB4⟩
    case round =>
      clear e0 e1 e2 e3 e4 e5 HR0 HR1 HRO HO HST hBw hB4
      obtain ⟨q, Y, out, hq, hY1, hY2, rfl, HO, HST, HRO, HR0, HR1, hBw, hB4⟩ := hrel
      obtain ⟨e0, e1, e2, e3, e4, e5⟩ := HR0.out.at_
      by_cases hqH : q < H
      · have hYS : Y < S := by omega
        have hYS' : Y < S + sh := by omega
        have hdY : decide ((Y : Int) < (S : Int) + (sh : Int)) = true := by simp; omega
        go_wp2
        obtain ⟨wo, hwo⟩ : ∃ wo : World, wo = wr := ⟨_, rfl⟩
        rw [← hwo] at HO HRO HR0 HR1 hBw hB4 e0 e1 e2 e3 e4 e5
        rw [← hwo]
        clear hwo
        go_loopw [7] (fun i wr => ∃ (p X : Nat) (out : List Bool), p ≤ H ∧ X ≤ 2 * p + sh ∧ 2 * p + sh ≤ X ∧ i = .int .i64 X ∧ Hid (OSb wr W.heap.size (some ⟨gB, 0, none⟩) n cB out) ∧ Hid (StS S sh zs (q * H + p) out) ∧ Hid (Row3 wr gO 27 (.int .i64 (S : Int)) (.slice (some ⟨gB, 0, none⟩) n cB) (.bool h)) ∧ Hid (Row3 wr g 27 (.int .i64 (S : Int)) (.slice (some ad) n c) (.bool h)) ∧ Hid (Row3 wr (g + 1) 27 (.int .i64 0) (.slice none 0 0) (.bool false)) ∧ W.heap.size ≤ wr.heap.size ∧ Below w.heap.size w wr)
          (fun i _ => 20 - (intOf i).toNat)
        case atStart => exact ⟨0, sh, out, by omega, by omega, by omega, rfl, HO.out, HST.out, HRO.out, HR0.out, HR1.out, hBw, hB4⟩
        case round =>
          clear e0 e1 e2 e3 e4 e5 HR0 HR1 HRO HO HST hBw hB4
          obtain ⟨p, X, out, hp, hX1, hX2, rfl, HO, HST, HRO, HR0, HR1, hBw, hB4⟩ := hrel
          obtain ⟨e0, e1, e2, e3, e4, e5⟩ := HR0.out.at_
          by_cases hpH : p < H
          · have hXS : X < S := by omega
            have hXS' : X < S + sh := by omega
            have hdX : decide ((X : Int) < (S : Int) + (sh : Int)) = true := by simp; omega
            have hpS : p < S / 2 := by rw [HHH.out]; exact hpH
            have hqS : q < S / 2 := by rw [HHH.out]; exact hqH
            obtain ⟨⟨l0, l1, l2, l3, _⟩, _, _⟩ := sq_facts HSS.out hsh hpS hqS
            have hX : X = 2 * p + sh := by omega
            have hY : Y = 2 * q + sh := by omega
            obtain ⟨C0, hC0⟩ : ∃ C, c0 S sh p q = C := ⟨_, rfl⟩
            obtain ⟨C1, hC1⟩ : ∃ C, c1 S sh p q = C := ⟨_, rfl⟩
            obtain ⟨C2, hC2⟩ : ∃ C, c2 S sh p q = C := ⟨_, rfl⟩
            obtain ⟨C3, hC3⟩ : ∃ C, c3 S sh p q = C := ⟨_, rfl⟩
            rw [hC0, ← HNN.out] at l0
            rw [hC1, ← HNN.out] at l1
            rw [hC2, ← HNN.out] at l2
            rw [hC3, ← HNN.out] at l3
            have hSQ := fun w => l6Square S X Y w hS2 hS8 hXS hYS
            have f0 : Y * S + X = C0 := by rw [hX, hY]; exact hC0
            have f1 : Y * S + (X + 1) % S = C1 := by rw [hX, hY]; exact hC1
            have f2 : (Y + 1) % S * S + X = C2 := by rw [hX, hY]; exact hC2
            have f3 : (Y + 1) % S * S + (X + 1) % S = C3 := by rw [hX, hY]; exact hC3
            rw [f0, f1, f2, f3] at hSQ
            have HSQ := Lib.hid hSQ
            have HTA := Lib.hid (turned4_at (bs := zs) HSS.out hsh hpS hqS)
            have HSC := fun out H => StS.succ (bs := zs) (out := out) HSS.out hsh hpS hqS H
            rw [hC0, hC1, hC2, hC3] at HTA
            rw [HHH.out, hC0, hC1, hC2, hC3] at HSC
            replace HSC := Lib.hid HSC
            clear f0 f1 f2 f3 hSQ hC0 hC1 hC2 hC3 hX hY hpS hqS
            have ht1 : (X : Int).tmod (S : Int) = (X : Int) := by rw [Int.tmod_eq_emod_of_nonneg (by omega), Int.emod_eq_of_lt (by omega) (by omega)]
            have ht2 : (Y : Int).tmod (S : Int) = (Y : Int) := by rw [Int.tmod_eq_emod_of_nonneg (by omega), Int.emod_eq_of_lt (by omega) (by omega)]
            have hs0 : ¬ S = 0 := by omega
            have hs0' : ¬ (S : Int) = 0 := by omega
            obtain ⟨B0, hB0⟩ : ∃ b, zs.getD C0 false = b := ⟨_, rfl⟩
            obtain ⟨B1, hB1⟩ : ∃ b, zs.getD C1 false = b := ⟨_, rfl⟩
            obtain ⟨B2, hB2⟩ : ∃ b, zs.getD C2 false = b := ⟨_, rfl⟩
            obtain ⟨B3, hB3⟩ : ∃ b, zs.getD C3 false = b := ⟨_, rfl⟩
            have hr4 := hr.below hB4
            obtain ⟨_, e', _, k0⟩ := hr4.cell (k := C0) l0
            cases e'
            obtain ⟨_, e', _, k1⟩ := hr4.cell (k := C1) l1
            cases e'
            obtain ⟨_, e', _, k2⟩ := hr4.cell (k := C2) l2
            cases e'
            obtain ⟨_, e', _, k3⟩ := hr4.cell (k := C3) l3
            cases e'
            rw [hB0, hB1, hB2, hB3] at HTA
            rw [hB0] at k0
            rw [hB1] at k1
            rw [hB2] at k2
            rw [hB3] at k3
            have hadr : ad.block < wr.heap.size := by omega
            have hgBr : gB < wr.heap.size := (HO.out.lt gB rfl).2
            have i0 : (0 : Int) ≤ (C0 : Int) := by omega
            have i1 : (0 : Int) ≤ (C1 : Int) := by omega
            have i2 : (0 : Int) ≤ (C2 : Int) := by omega
            have i3 : (0 : Int) ≤ (C3 : Int) := by omega
            have j0 : (C0 : Int) < (n : Int) := by omega
            have j1 : (C1 : Int) < (n : Int) := by omega
            have j2 : (C2 : Int) < (n : Int) := by omega
            have j3 : (C3 : Int) < (n : Int) := by omega
            clear hB0 hB1 hB2 hB3 hr4
            go_wp2
            go_region_held3 (fun w' => w'.cell? ⟨g, 0, none⟩ = some (.int .i64 (S : Int))) (first | exact e0 | exact HR06.out.at_.1 | go_keep)
              (first | (go_at_call 73; refine (HSQ.out _).mono ?_; rintro e w5 ⟨A5, n5, c5, rfl, hO5, hb5⟩; (obtain rfl : 4 = n5 := hO5.len); (obtain ⟨gC, rfl, hgC, hgC5⟩ := hO5.addr (by omega)); (have hb5' : Below wr.heap.size wr w5 := (below_drew wr).trans hb5); (have HR06 := Lib.hid (HR0.out.below hb5' HR0.out.lt))))
            have hgC' : wr.heap.size ≤ gC := hgC
            have HO6 := Lib.hid (HO.out.below hb5' (Nat.le_refl _))
            have HRO6 := Lib.hid (HRO.out.below hb5' HRO.out.lt)
            have HR16 := Lib.hid (HR1.out.below hb5' HR1.out.lt)
            have hB6 := hB4.trans (hb5'.mono hB4.size)
            have hBw6 := Nat.le_trans hBw hb5'.size
            have hw56 := hb5'.size
            have m0 : w5.cell? ⟨gC, 0, none⟩ = some (.int .i64 (C0 : Int)) := hO5.cellD (j := 0) (by omega)
            have m1 : w5.cell? ⟨gC, 1, none⟩ = some (.int .i64 (C1 : Int)) := hO5.cellD (j := 1) (by omega)
            have m2 : w5.cell? ⟨gC, 2, none⟩ = some (.int .i64 (C2 : Int)) := hO5.cellD (j := 2) (by omega)
            have m3 : w5.cell? ⟨gC, 3, none⟩ = some (.int .i64 (C3 : Int)) := hO5.cellD (j := 3) (by omega)
            replace k0 := (hb5'.cell (p := ad.add C0) (by rw [blk_add]; exact hadr)).trans k0
            replace k1 := (hb5'.cell (p := ad.add C1) (by rw [blk_add]; exact hadr)).trans k1
            replace k2 := (hb5'.cell (p := ad.add C2) (by rw [blk_add]; exact hadr)).trans k2
            replace k3 := (hb5'.cell (p := ad.add C3) (by rw [blk_add]; exact hadr)).trans k3
            have HC := Lib.hid hO5
            have HI := Lib.hid (OIb.four w5 B0 B1 B2 B3)
            clear e0 e1 e2 e3 e4 e5 hO5 hb5 hb5' hgC HO HRO HR1 HR0
            obtain ⟨e0, e1, e2, e3, e4, e5⟩ := HR06.out.at_
            go_wp2
            go_region_held3 (fun w' => w'.cell? ⟨g, 1, none⟩ = some (.slice (some ad) n c) ∧ w'.cell? ⟨gC, 0, none⟩ = some (.int .i64 (C0 : Int)) ∧ w'.cell? ⟨gC, 1, none⟩ = some (.int .i64 (C1 : Int)) ∧ w'.cell? ⟨gC, 2, none⟩ = some (.int .i64 (C2 : Int)) ∧ w'.cell? ⟨gC, 3, none⟩ = some (.int .i64 (C3 : Int)) ∧ w'.cell? (ad.add C0) = some (.bool B0) ∧ w'.cell? (ad.add C1) = some (.bool B1) ∧ w'.cell? (ad.add C2) = some (.bool B2) ∧ w'.cell? (ad.add C3) = some (.bool B3)) (go_keep) (fail)
            go_wp2_with fail
            refine (l6Turned w5.heap.size w5.heap.size 4 B0 B1 B2 B3 (w5.alloc (.cells #[.bool B0, .bool B1, .bool B2, .bool B3] 4)).drew HI.out (by show w5.heap.size ≤ (w5.alloc _).heap.size; simp)).mono ?_
            rintro e w7 ⟨gN, cN, rfl, hO7, hb7⟩
            have hb7' : Below w5.heap.size w5 w7 := ((((Below.refl w5.heap.size w5).alloc (Nat.le_refl _) _).drew).trans (hb7.mono (by show w5.heap.size ≤ (w5.alloc _).heap.size; simp)))
            obtain ⟨ns, hns⟩ : ∃ ns, turned4 B0 B1 B2 B3 = ns := ⟨_, rfl⟩
            rw [hns] at HTA hO7
            have hgN : w5.heap.size ≤ gN := by obtain ⟨g', e', h1, _⟩ := hO7.addr (by omega); cases e'; exact h1
            have hgB5 : gB < w5.heap.size := by omega
            have HO7 := Lib.hid (HO6.out.below hb7' (Nat.le_refl _))
            have HRO7 := Lib.hid (HRO6.out.below hb7' HRO6.out.lt)
            have HR07 := Lib.hid (HR06.out.below hb7' HR06.out.lt)
            have HR17 := Lib.hid (HR16.out.below hb7' HR16.out.lt)
            have HC7 := Lib.hid (HC.out.below hb7' (Nat.le_refl _))
            have HN7 := Lib.hid hO7
            have hB7 := hB6.trans (hb7'.mono hB6.size)
            have hBw7 := Nat.le_trans hBw6 hb7'.size
            clear e0 e1 e2 e3 e4 e5 m0 m1 m2 m3 k0 k1 k2 k3 i0 i1 i2 i3 j0 j1 j2 j3 hO7 hb7 hb7' hns HO6 HRO6 HR06 HR16 HC HI hB6 hBw6 hB4
            go_wp2
            go_loopw [11] (fun i wy => ∃ k : Nat, k ≤ 4 ∧ i = .int .i64 k ∧ Hid (OSb wy W.heap.size (some ⟨gB, 0, none⟩) n cB (putK out [C0, C1, C2, C3] ns k)) ∧ Hid (OI wy wr.heap.size (some ⟨gC, 0, none⟩) 4 c5 [(C0 : Int), (C1 : Int), (C2 : Int), (C3 : Int)]) ∧ Hid (OIb wy w5.heap.size (some ⟨gN, 0, none⟩) 4 cN ns) ∧ Hid (Row3 wy gO 27 (.int .i64 (S : Int)) (.slice (some ⟨gB, 0, none⟩) n cB) (.bool h)) ∧ Hid (Row3 wy g 27 (.int .i64 (S : Int)) (.slice (some ad) n c) (.bool h)) ∧ Hid (Row3 wy (g + 1) 27 (.int .i64 0) (.slice none 0 0) (.bool false)) ∧ W.heap.size ≤ wy.heap.size ∧ Below w.heap.size w wy)
              (fun i _ => 4 - (intOf i).toNat)
            case atStart => exact ⟨0, by omega, rfl, HO7.out, HC7.out, HN7.out, HRO7.out, HR07.out, HR17.out, hBw7, hB7⟩
            case round =>
              clear HO7 HC7 HN7 HRO7 HR07 HR17 hBw7 hB7
              obtain ⟨k, hk, rfl, HO, HC, HN, HRO, HR0, HR1, hBw, hB⟩ := hrel
              by_cases hlt : k < 4
              · obtain ⟨C, hCn, hCe, hcC⟩ : ∃ C : Nat, C < n ∧ [C0, C1, C2, C3].getD k 0 = C ∧ wr.cell? ⟨gC, k, none⟩ = some (.int .i64 (C : Int)) := by
                  have h4 : k = 0 ∨ k = 1 ∨ k = 2 ∨ k = 3 := by omega
                  rcases h4 with rfl | rfl | rfl | rfl
                  · exact ⟨C0, l0, rfl, HC.out.cellD (j := 0) (by omega)⟩
                  · exact ⟨C1, l1, rfl, HC.out.cellD (j := 1) (by omega)⟩
                  · exact ⟨C2, l2, rfl, HC.out.cellD (j := 2) (by omega)⟩
                  · exact ⟨C3, l3, rfl, HC.out.cellD (j := 3) (by omega)⟩
                obtain ⟨N, hN⟩ : ∃ N, ns.getD k false = N := ⟨_, rfl⟩
                have hcN := HN.out.cellD (j := k) hlt
                rw [hN] at hcN
                have hcB := HO.out.cellD (j := C) hCn
                have hfB : wr.frozen? ⟨gB, C, none⟩ = false := HO.out.toI.frozenAt C
                obtain ⟨e0, e1, e2, e3, e4, e5⟩ := HRO.out.at_
                have i0 : (0 : Int) ≤ (C : Int) := by omega
                have i1 : (C : Int) < (n : Int) := by omega
                have i2 : (0 : Int) ≤ (k : Int) := by omega
                have i3 : (k : Int) < 4 := by omega
                have HOS := Lib.hid (show OSb (wr.setCell ⟨gB, C, none⟩ (.bool N)) W.heap.size (some ⟨gB, 0, none⟩) n cB (putK out [C0, C1, C2, C3] ns (k + 1)) by
                  show OSb _ _ _ _ _ ((putK out [C0, C1, C2, C3] ns k).set ([C0, C1, C2, C3].getD k 0) (ns.getD k false))
                  rw [hCe, hN]; exact (HO.out.stored (k := C) N).1)
                have HCS := Lib.hid (HC.out.kept (grown_set _ ⟨gB, C, none⟩ (.bool N)) (.inr (by simp [Value.ownBlock]; omega)))
                have HNS := Lib.hid (HN.out.kept (grown_set _ ⟨gB, C, none⟩ (.bool N)) (.inr (by simp [Value.ownBlock]; omega)))
                have HROS := Lib.hid (HRO.out.other (p := ⟨gB, C, none⟩) hOB (.bool N))
                have HR0S := Lib.hid (HR0.out.other (p := ⟨gB, C, none⟩) (by simp; omega) (.bool N))
                have HR1S := Lib.hid (HR1.out.other (p := ⟨gB, C, none⟩) (by simp; omega) (.bool N))
                have hBS : Below w.heap.size w (wr.setCell ⟨gB, C, none⟩ (.bool N)) := hB.setCell (p := ⟨gB, C, none⟩) (show w.heap.size ≤ gB by omega) _
                have hBwS : W.heap.size ≤ (wr.setCell ⟨gB, C, none⟩ (.bool N)).heap.size := by simpa using hBw
                clear hN hCe
                go_wp2
                go_region_held3 (fun w' => w'.cell? ⟨gO, 1, none⟩ = some (.slice (some ⟨gB, 0, none⟩) n cB) ∧ w'.cell? ⟨gC, k, none⟩ = some (.int .i64 (C : Int)) ∧ w'.cell? ⟨gN, k, none⟩ = some (.bool N)) (first | exact ⟨keep1 e1 hOB, keep1 hcC (show gC ≠ gB by omega), keep1 hcN (show gN ≠ gB by omega)⟩ | go_keep) (fail)
                go_wp2
                go_roundw
                case rel => exact ⟨k + 1, by omega, by go_num, HOS.out, HCS.out, HNS.out, HROS.out, HR0S.out, HR1S.out, hBwS, hBS.drew⟩
                case measure => simp [intOf]; omega
              · obtain rfl : k = 4 := by omega
                have HFIN := Lib.hid (show StS S sh zs (q * H + (p + 1)) (putK out [C0, C1, C2, C3] ns 4) by
                  have := HSC.out out HST.out
                  rw [HTA.out]; exact this)
                rw [show ((4 : Nat) : Int) = 4 from rfl]
                go_wp2
                go_roundw
                case rel =>
                  first
                    | exact ⟨p + 1, X + 2, _, by omega, by omega, by omega, by go_num, HO.out, HFIN.out, HRO.out, HR0.out, HR1.out, hBw, hB⟩
                    | ((repeat apply Exists.intro); exact ⟨⟨p + 1, X + 2, _, by omega, by omega, by omega, by go_num, HO.out, HFIN.out, HRO.out, HR0.out, HR1.out, hBw, hB⟩, rfl⟩)
                case measure => simp [intOf]; omega
          · obtain rfl : p = H := by omega
            go_wp2
            go_roundw
            case rel => exact ⟨q + 1, Y + 2, out, by omega, by omega, by omega, by go_num, HO.out, by rw [Nat.succ_mul]; exact HST.out, HRO.out, HR0.out, HR1.out, hBw, hB4⟩
            case measure => simp [intOf]; omega
      · obtain rfl : q = H := by omega
        have hYS' : ¬ Y < S + sh := by omega
        obtain ⟨c0, c1, c2, c3, c4, c5⟩ := HRO.out.at_
        obtain ⟨d0, d1, d2, d3, d4, d5⟩ := HR1.out.at_
        have HR := Lib.hid (((HR1.out.set0 (.int .i64 (S : Int))).set1 (.slice (some ⟨gB, 0, none⟩) n cB)).set2 (.bool h))
        have HOF := Lib.hid (HO.out.other3 (k := g + 1) (by omega) (.int .i64 (S : Int)) (.slice (some ⟨gB, 0, none⟩) n cB) (.bool h))
        have HBF := Lib.hid (below_set3 hB4 (k := g + 1) hwg (.int .i64 (S : Int)) (.slice (some ⟨gB, 0, none⟩) n cB) (.bool h))
        go_wp2
        refine bodyPost_ret (results_field rfl _ _ (g + 1) rfl HR.out) rfl ?_
        have hdone := StS.done HSS.out hsh (by rw [HHH.out]) HST.out
        rw [hdone] at HOF
        exact ⟨_, _, _, rfl, HOF.out.toI.mono hwW, HBF.out⟩
end Go.Proofs.Ytmianlihdiccjaa

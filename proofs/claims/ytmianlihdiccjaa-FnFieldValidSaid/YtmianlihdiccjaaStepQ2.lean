/- Contract: the balls of a square behind a step (the program). -/
import Derived.Test.YtmianlihdiccjaaStepQ
namespace Go.Proofs.Ytmianlihdiccjaa
open Go.RowKit
set_option linter.unusedVariables false
attribute [local go_sem ↓] Go.wp_at_zero Go.wp_at_succ

/-- nothing is returned; the cells of block gN have turned, and nothing else that lay -/
def GivesSq (w : World) (gN n cN : Nat) (zs out : List Bool) (S x y : Nat) (e : Ending) (w' : World) : Prop :=
  (∃ v, e = .returned v) ∧ ∃ res, OSb w' gN (some ⟨gN, 0, none⟩) n cN (setT out (res.map (clD S x y))) ∧
    okR (zs.getD (clD S x y 0) false) (zs.getD (clD S x y 1) false) (zs.getD (clD S x y 2) false) (zs.getD (clD S x y 3) false) res = true ∧ w.grownBy w' (some gN)
def GivesSqB (w : World) (gN n cN : Nat) (out : List Bool) (S x y : Nat) (b0 b1 b2 b3 : Bool) (e : Ending) (w' : World) : Prop :=
  (∃ v, e = .returned v) ∧ ∃ res, OSb w' gN (some ⟨gN, 0, none⟩) n cN (setT out (res.map (clD S x y))) ∧ okR b0 b1 b2 b3 res = true ∧ w.grownBy w' (some gN)
theorem GivesSq_b {w : World} {gN n cN : Nat} {zs out : List Bool} {S x y : Nat} {b0 b1 b2 b3 : Bool} (h0 : zs.getD (clD S x y 0) false = b0) (h1 : zs.getD (clD S x y 1) false = b1) (h2 : zs.getD (clD S x y 2) false = b2) (h3 : zs.getD (clD S x y 3) false = b3) :
    GivesSq w gN n cN zs out S x y = GivesSqB w gN n cN out S x y b0 b1 b2 b3 := by subst h0 h1 h2 h3; rfl
theorem OSb.base {w : World} {base g n c : Nat} {zs : List Bool} (h : OSb w base (some ⟨g, 0, none⟩) n c zs) : OSb w g (some ⟨g, 0, none⟩) n c zs := by
  obtain ⟨h1, h2⟩ := h
  refine ⟨h1, ?_⟩
  rcases h2 with h2 | ⟨g', cap, cur, hv, hb, r⟩
  · exact .inl h2
  · refine .inr ⟨g', cap, cur, hv, ?_, r⟩
    injection hv with hv
    injection hv with hv
    injection hv with hv
    omega
theorem five {w w' : World} {g gb : Nat} {a b c d e : Value} (hb : Below w.heap.size w w') (h1 : gb < w.heap.size) (h2 : g < w.heap.size) (c0 : w.cell? ⟨gb, 0, none⟩ = some a) (c1 : w.cell? ⟨gb, 1, none⟩ = some b) (c2 : w.cell? ⟨gb, 2, none⟩ = some c) (c3 : w.cell? ⟨gb, 3, none⟩ = some d) (e0 : w.cell? ⟨g, 0, none⟩ = some e) :
    w'.cell? ⟨gb, 0, none⟩ = some a ∧ w'.cell? ⟨gb, 1, none⟩ = some b ∧ w'.cell? ⟨gb, 2, none⟩ = some c ∧ w'.cell? ⟨gb, 3, none⟩ = some d ∧ w'.cell? ⟨g, 0, none⟩ = some e :=
  ⟨(hb.cell (p := ⟨gb, 0, none⟩) h1).trans c0, (hb.cell (p := ⟨gb, 1, none⟩) h1).trans c1, (hb.cell (p := ⟨gb, 2, none⟩) h1).trans c2, (hb.cell (p := ⟨gb, 3, none⟩) h1).trans c3, (hb.cell (p := ⟨g, 0, none⟩) h2).trans e0⟩
theorem six {w w' : World} {gb : Nat} {a b c d e f : Value} (hb : Below w.heap.size w w') (h1 : gb < w.heap.size) (c0 : w.cell? ⟨gb, 0, none⟩ = some a) (c1 : w.cell? ⟨gb, 1, none⟩ = some b) (c2 : w.cell? ⟨gb, 2, none⟩ = some c) (c3 : w.cell? ⟨gb, 3, none⟩ = some d) (c4 : w.cell? ⟨gb, 4, none⟩ = some e) (c5 : w.cell? ⟨gb, 5, none⟩ = some f) :
    w'.cell? ⟨gb, 0, none⟩ = some a ∧ w'.cell? ⟨gb, 1, none⟩ = some b ∧ w'.cell? ⟨gb, 2, none⟩ = some c ∧ w'.cell? ⟨gb, 3, none⟩ = some d ∧ w'.cell? ⟨gb, 4, none⟩ = some e ∧ w'.cell? ⟨gb, 5, none⟩ = some f :=
  ⟨(hb.cell (p := ⟨gb, 0, none⟩) h1).trans c0, (hb.cell (p := ⟨gb, 1, none⟩) h1).trans c1, (hb.cell (p := ⟨gb, 2, none⟩) h1).trans c2, (hb.cell (p := ⟨gb, 3, none⟩) h1).trans c3, (hb.cell (p := ⟨gb, 4, none⟩) h1).trans c4, (hb.cell (p := ⟨gb, 5, none⟩) h1).trans c5⟩
theorem setT_take {out : List Bool} {L : List Nat} {k I : Nat} (h : L[k]? = some I) : setT out (L.take (k + 1)) = (setT out (L.take k)).set I true := by
  rw [List.take_add_one, h]; exact setT_app _ _ _
theorem five_set {w : World} {g gb gN : Nat} {a b c d e u : Value} (h : w.cell? ⟨gb, 0, none⟩ = some a ∧ w.cell? ⟨gb, 1, none⟩ = some b ∧ w.cell? ⟨gb, 2, none⟩ = some c ∧ w.cell? ⟨gb, 3, none⟩ = some d ∧ w.cell? ⟨g, 0, none⟩ = some e) (h1 : ¬ gb = gN) (h2 : ¬ g = gN) (i : Nat) :
    (w.setCell ⟨gN, i, none⟩ u).cell? ⟨gb, 0, none⟩ = some a ∧ (w.setCell ⟨gN, i, none⟩ u).cell? ⟨gb, 1, none⟩ = some b ∧ (w.setCell ⟨gN, i, none⟩ u).cell? ⟨gb, 2, none⟩ = some c ∧ (w.setCell ⟨gN, i, none⟩ u).cell? ⟨gb, 3, none⟩ = some d ∧ (w.setCell ⟨gN, i, none⟩ u).cell? ⟨g, 0, none⟩ = some e :=
  ⟨keep1 h.1 h1, keep1 h.2.1 h1, keep1 h.2.2.1 h1, keep1 h.2.2.2.1 h1, keep1 h.2.2.2.2 h2⟩
set_option maxRecDepth 100000 in
set_option maxHeartbeats 16000000 in
theorem square (S : Nat) (A : Option Addr) (n : Nat) (zs : List Bool) (c : Nat) (h : Bool) (x y gN cN : Nat) (out : List Bool) (w : World) (hr : RL w w.heap.size A n zs) (hne : ∀ a, A = some a → a.block ≠ gN) (hS2 : 2 ≤ S) (hS8 : S ≤ 8) (hnn : n = S * S) (hx : x < S) (hy : y < S)
    (hO : OSb w gN (some ⟨gN, 0, none⟩) n cN out) :
    Calls Try.prog 72 #[.agg #[.int .i64 (S : Int), .slice A n c, .bool h], .agg #[.int .i64 (x : Int), .int .i64 (y : Int)], .slice (some ⟨gN, 0, none⟩) n cN] w (GivesSq w gN n cN zs out S x y) := by
  obtain ⟨b0, hb0⟩ : ∃ b, zs.getD (clD S x y 0) false = b := ⟨_, rfl⟩
  obtain ⟨b1, hb1⟩ : ∃ b, zs.getD (clD S x y 1) false = b := ⟨_, rfl⟩
  obtain ⟨b2, hb2⟩ : ∃ b, zs.getD (clD S x y 2) false = b := ⟨_, rfl⟩
  obtain ⟨b3, hb3⟩ : ∃ b, zs.getD (clD S x y 3) false = b := ⟨_, rfl⟩
  have hbit : ∀ j, j < 4 → zs.getD (clD S x y j) false = [b0, b1, b2, b3].getD j false := by
    intro j hj
    have h4 : j = 0 ∨ j = 1 ∨ j = 2 ∨ j = 3 := by omega
    rcases h4 with rfl | rfl | rfl | rfl
    · exact hb0
    · exact hb1
    · exact hb2
    · exact hb3
  obtain ⟨W, hW⟩ : ∃ W, ((w.alloc (.cells #[.int .i64 (S : Int), .slice A n c, .bool h] 27)).alloc (.cells #[.int .i64 (x : Int), .int .i64 (y : Int)] 57)).alloc (.cells #[] 92) = W := ⟨_, rfl⟩
  have hb : Below w.heap.size w W := by rw [← hW]; exact (((Below.refl _ _).alloc (Nat.le_refl _) _).alloc (by simp) _).alloc (by simp; omega) _
  obtain ⟨g, hg⟩ : ∃ g, w.heap.size = g := ⟨_, rfl⟩
  have hsz : W.heap.size = g + 3 := by rw [← hW, ← hg]; simp
  have r0 : Row3 W g 27 (.int .i64 (S : Int)) (.slice A n c) (.bool h) := by rw [← hW, ← hg]; exact ((Row3.new w _ _ _ _).alloc _).alloc _
  have r1 : Row2 W (g + 1) 57 (.int .i64 (x : Int)) (.int .i64 (y : Int)) := by
    have := (Row2.new (w.alloc (.cells #[.int .i64 (S : Int), .slice A n c, .bool h] 27)) 57 (.int .i64 (x : Int)) (.int .i64 (y : Int))).alloc (.cells #[] 92)
    rw [hW] at this; rw [← hg]; simpa using this
  have hE : OB W (g + 2) (some ⟨g + 1 + 1, 0, none⟩) 0 0 x y [] := by
    have h1 := OB.empty ((w.alloc (.cells #[.int .i64 (S : Int), .slice A n c, .bool h] 27)).alloc (.cells #[.int .i64 (x : Int), .int .i64 (y : Int)] 57)) x y
    rw [hW] at h1
    simp only [World.size_alloc] at h1
    rw [hg] at h1
    obtain ⟨k1, k2⟩ := h1
    refine ⟨k1, ?_⟩
    rcases k2 with k2 | ⟨g', cap, cur, hv, hb', r⟩
    · exact .inl k2
    · exact .inr ⟨g', cap, cur, hv, by omega, r⟩
  have hn64 : n ≤ 64 := by rw [hnn]; exact mul_bd hS8 hS8
  have hn4 : 4 ≤ n := by rw [hnn]; exact Nat.mul_le_mul hS2 hS2
  obtain ⟨ad, rfl, hadb, _⟩ := hr.2 (by omega)
  have hadN := hne ad rfl
  have hgN : gN < g := by rw [← hg]; exact (hO.lt gN rfl).2
  have hadg : ad.block < g := by rw [← hg]; exact hadb
  have HNN := Lib.hid hnn
  have HBIT := Lib.hid hbit
  have HO0 := Lib.hid hO
  have HR0 := Lib.hid r0
  have HR1 := Lib.hid r1
  have HE := Lib.hid hE
  have hgW : g + 1 < W.heap.size := by omega
  obtain ⟨a0, a1, a2, a3, a4, a5⟩ := r0.at_
  rw [GivesSq_b hb0 hb1 hb2 hb3]
  clear hsz r0 r1 hE hne hnn hbit hO hb0 hb1 hb2 hb3
  go_enter Try.func72, Try.ntmps72
  go_wp2
  have HW := Lib.hid hW
  have HG := Lib.hid hg
  have hwg : w.heap.size ≤ g := by omega
  clear hW hg a0 a1 a2 a3 a4 a5
  go_loopw [6, 21] (fun v i wr => ∃ (j n' : Nat) (A' : Option Addr) (c' : Nat), j ≤ 4 ∧ n' ≤ j ∧ i = .int .i64 j ∧ v = .slice A' n' c' ∧ Hid (OB wr (g + 2) A' n' c' x y (dsT b0 b1 b2 b3 j)) ∧ Hid (Row3 wr g 27 (.int .i64 (S : Int)) (.slice (some ad) n c) (.bool h)) ∧ Hid (Row2 wr (g + 1) 57 (.int .i64 (x : Int)) (.int .i64 (y : Int))) ∧ g + 1 < wr.heap.size ∧ Below w.heap.size w wr)
    (fun _ i _ => 4 - (intOf i).toNat)
  case atStart => exact ⟨0, 0, _, _, by omega, by omega, rfl, rfl, HE.out, HR0.out, HR1.out, hgW, hb⟩
  case round =>
    clear HE HR0 HR1 hb
    obtain ⟨j, n', A', c', hj, hn', rfl, rfl, HB, HR0, HR1, hgr, hB⟩ := hrel
    by_cases hlt : j < 4
    · obtain ⟨dx, dy, hdx, hdy, hix⟩ : ∃ dx dy : Nat, j % 2 = dx ∧ j / 2 = dy ∧ ∀ w', (Instr.index 90 (.agg #[.int .i64 0, .int .i64 0, .int .i64 1, .int .i64 0, .int .i64 0, .int .i64 1, .int .i64 1, .int .i64 1]) (.int .i64 (j : Int))).run Try.prog w' = .ok (.agg #[.int .i64 (dx : Int), .int .i64 (dy : Int)]) w' := by
        have h4 : j = 0 ∨ j = 1 ∨ j = 2 ∨ j = 3 := by omega
        rcases h4 with rfl | rfl | rfl | rfl
        · exact ⟨0, 0, rfl, rfl, fun _ => by kernel_rfl⟩
        · exact ⟨1, 0, rfl, rfl, fun _ => by kernel_rfl⟩
        · exact ⟨0, 1, rfl, rfl, fun _ => by kernel_rfl⟩
        · exact ⟨1, 1, rfl, rfl, fun _ => by kernel_rfl⟩
      have hdx1 : dx ≤ 1 := by omega
      have hdy1 : dy ≤ 1 := by omega
      obtain ⟨X, hX⟩ : ∃ X : Nat, x + dx = X := ⟨_, rfl⟩
      obtain ⟨Y, hY⟩ : ∃ Y : Nat, y + dy = Y := ⟨_, rfl⟩
      have hXI : (x : Int) + (dx : Int) = (X : Int) := by omega
      have hYI : (y : Int) + (dy : Int) = (Y : Int) := by omega
      have hX20 : X ≤ 20 := by omega
      have hY20 : Y ≤ 20 := by omega
      obtain ⟨I, hI⟩ : ∃ I, inI S X Y = I := ⟨_, rfl⟩
      have hIcl : clD S x y j = I := by rw [← hI, ← hX, ← hY, ← hdx, ← hdy]; rfl
      have hIn : I < n := by rw [HNN.out, ← hIcl]; exact clD_lt (by omega)
      obtain ⟨B, hBv⟩ : ∃ B, [b0, b1, b2, b3].getD j false = B := ⟨_, rfl⟩
      obtain ⟨_, e', _, k0⟩ := (hr.below hB).cell (k := I) hIn
      cases e'
      rw [← hIcl, HBIT.out j hlt, hIcl, hBv] at k0
      have hadr : ad.block < wr.heap.size := by omega
      have i0 : (0 : Int) ≤ (I : Int) := by omega
      have i1 : (I : Int) < (n : Int) := by omega
      have HIN := Lib.hid hI
      have HBV := Lib.hid hBv
      have HXY := Lib.hid (And.intro hX hY)
      have HDXY := Lib.hid (And.intro hdx hdy)
      have HCV := Lib.hid (show (#[.int .i64 (X : Int), .int .i64 (Y : Int), .int .i64 (1 - 2 * (dx : Int)), .int .i64 (1 - 2 * (dy : Int))] : Array Value).toList = ballV x y j by unfold ballV; rw [hdx, hdy, hX, hY])
      obtain ⟨e0, e1, e2, e3, e4, e5⟩ := HR0.out.at_
      obtain ⟨f0, f1, f2, f3⟩ := HR1.out.at_
      obtain ⟨wd, hwd⟩ : ∃ wd, (wr.alloc (.cells #[.int .i64 (dx : Int), .int .i64 (dy : Int)] 57)).alloc (.cells #[.int .i64 (X : Int), .int .i64 (Y : Int)] 57) = wd := ⟨_, rfl⟩
      obtain ⟨gd, hgd⟩ : ∃ gd, wr.heap.size = gd := ⟨_, rfl⟩
      have hBd : Below wr.heap.size wr wd := by rw [← hwd]; exact ((Below.refl _ _).alloc (Nat.le_refl _) _).alloc (by simp) _
      have HRd := Lib.hid (show Row2 wd gd 57 (.int .i64 (dx : Int)) (.int .i64 (dy : Int)) by rw [← hwd, ← hgd]; exact (Row2.new _ _ _ _).alloc _)
      have hRa : Row2 wd (gd + 1) 57 (.int .i64 (X : Int)) (.int .i64 (Y : Int)) := by
        have := Row2.new (wr.alloc (.cells #[.int .i64 (dx : Int), .int .i64 (dy : Int)] 57)) 57 (.int .i64 (X : Int)) (.int .i64 (Y : Int))
        rw [World.size_alloc, hgd, hwd] at this; exact this
      have HRa := Lib.hid hRa
      have HBd := Lib.hid (HB.out.below hBd (Nat.le_refl _))
      have HR0d := Lib.hid (HR0.out.below hBd HR0.out.lt)
      have hlt1 := HR1.out.lt
      have HR1d := Lib.hid (show Row2 wd (g + 1) 57 (.int .i64 (x : Int)) (.int .i64 (y : Int)) from (hBd.block (g + 1) hlt1).trans HR1.out)
      have hB2 := hB.trans (hBd.mono hB.size)
      have hszd : wr.heap.size ≤ wd.heap.size := hBd.size
      have hgda : gd + 1 < wd.heap.size := hRa.lt
      have hgdd : gd < wd.heap.size := by omega
      have hg1d : g + 1 < wd.heap.size := by omega
      have k1 := (hBd.cell (p := ad.add I) (by rw [blk_add]; exact hadr)).trans k0
      have hadd : ad.block < wd.heap.size := by omega
      have hwsd : w.heap.size ≤ wd.heap.size := hB2.size
      clear hI hBv hX hY hdx hdy hIcl hRa hBd k0
      have HWD := Lib.hid hwd
      have HGD := Lib.hid hgd
      clear hwd hgd
      go_wp2
      rw [HWD.out, HGD.out]
      clear e0 e1 e2 e3 e4 e5 f0 f1 f2 f3 hix
      obtain ⟨e0, e1, e2, e3, e4, e5⟩ := HR0d.out.at_
      obtain ⟨f0, f1, f2, f3⟩ := HRa.out.at_
      go_region_held3 (fun w' => w'.cell? ⟨g, 0, none⟩ = some (.int .i64 (S : Int)) ∧ w'.cell? ⟨g, 1, none⟩ = some (.slice (some ad) n c) ∧ w'.cell? ⟨gd + 1, 0, none⟩ = some (.int .i64 (X : Int)) ∧ w'.cell? ⟨gd + 1, 1, none⟩ = some (.int .i64 (Y : Int)) ∧ w'.cell? (ad.add I) = some (.bool B)) (first | exact ⟨e0, e1, f0, f1, k1⟩ | exact HK.out | go_keep)
        (first | (go_at_call 71; refine (placeIn X Y S _ hX20 hY20 hS2 hS8).mono ?_; rintro e w5 ⟨rfl, hb5⟩; rw [HIN.out]; (have hb5' : Below wd.heap.size wd w5 := (below_drew wd).trans hb5); (have HR05 := Lib.hid (HR0d.out.below hb5' HR0d.out.lt)); (have HRa5 := Lib.hid (show Row2 w5 (gd + 1) 57 (.int .i64 (X : Int)) (.int .i64 (Y : Int)) from (hb5'.block (gd + 1) hgda).trans HRa.out)); (have k2 := (hb5'.cell (p := ad.add I) (by rw [blk_add]; exact hadd)).trans k1); (have HK := Lib.hid (And.intro HR05.out.at_.1 (And.intro HR05.out.at_.2.1 (And.intro HRa5.out.at_.1 (And.intro HRa5.out.at_.2.1 k2)))))))
      have HRd5 := Lib.hid (show Row2 w5 gd 57 (.int .i64 (dx : Int)) (.int .i64 (dy : Int)) from (hb5'.block gd hgdd).trans HRd.out)
      have HR15 := Lib.hid (show Row2 w5 (g + 1) 57 (.int .i64 (x : Int)) (.int .i64 (y : Int)) from (hb5'.block (g + 1) hg1d).trans HR1d.out)
      have HB5 := Lib.hid (HBd.out.below hb5' (Nat.le_refl _))
      have hB5 := hB2.trans (hb5'.mono hwsd)
      have hg15 : g + 1 < w5.heap.size := by have := hb5'.size; omega
      clear e0 e1 e2 e3 e4 e5 f0 f1 f2 f3
      obtain ⟨f0, f1, f2, f3⟩ := HRa5.out.at_
      obtain ⟨d0, d1, d2, d3⟩ := HRd5.out.at_
      cases B
      · go_wp2
        go_roundw
        case rel => exact ⟨j + 1, n', A', c', by omega, by omega, by go_num, rfl, by rw [dsT_succ_f HBV.out]; exact HB5.out, HR05.out, HR15.out, hg15, hB5⟩
        case measure => simp [intOf]; omega
      · go_wp2_with (at_builtin; refine wpList_pushBall w5 x y j rfl _ _ rfl (g + 2) A' n' c' _ rfl rfl HB5.out (by omega) (by omega) _ HCV.out ?_; intro A6 c6 w6 hO6 hg6)
        have hl6 := HB5.out.lt
        have HR06 := Lib.hid (HR05.out.kept hg6 (fun e => by have := hl6 g e.symm; omega))
        have HR16 := Lib.hid (show Row2 w6 (g + 1) 57 (.int .i64 (x : Int)) (.int .i64 (y : Int)) from (hg6.block (g + 1) hg15 (fun e => by have := hl6 (g + 1) e.symm; omega)).trans HR15.out)
        have hB6 : Below w.heap.size w w6 := hB5.grown hg6 hB5.size (fun k e => by have := (hl6 k e).1; omega)
        have hg16 : g + 1 < w6.heap.size := by have := hg6.size; omega
        go_roundw
        case rel => exact ⟨j + 1, n' + 1, A6, c6, by omega, by omega, by go_num, rfl, by rw [dsT_succ_t HBV.out]; exact hO6, HR06.out, HR16.out, hg16, hB6⟩
        case measure => simp [intOf]; omega
    · obtain rfl : j = 4 := by omega
      have HO4 := Lib.hid (HO0.out.below hB (Nat.le_refl _))
      rw [show dsT b0 b1 b2 b3 4 = dsOf b0 b1 b2 b3 from rfl] at HB
      have hgNr : gN < wr.heap.size := by omega
      have hln := HB.out.len
      have hwr := hB.size
      rcases cls b0 b1 b2 b3 with ⟨d, hd, e, hok⟩ | ⟨d, hd, e, hok⟩ | ⟨d, hd, d', hd', e, hne, hok⟩ | ⟨h1, h2, hok⟩
      · rw [e] at HB hln
        obtain rfl : n' = 1 := hln
        have hd4 : d < 4 := by simp at hd; omega
        obtain ⟨gb, P, R, X, Y, U, V, rfl, hb1, hb2, c0, c1, c2, c3, p1, p2, p3, p4, p5, p6, p7, p8, hU, hV, hP, hR, hX, hY⟩ := HB.out.ball (k := 0) (d := d) rfl hd4 (by omega) (by omega)
        simp only [Nat.zero_mul, Nat.zero_add] at c0 c1 c2 c3
        obtain ⟨I, hI⟩ : ∃ I, inI S X Y = I := ⟨_, rfl⟩
        have hIcl : clD S x y (3 - d) = I := by rw [← hI, hX, hY]; rfl
        have hIn : I < n := by rw [HNN.out, ← hIcl]; exact clD_lt (by omega)
        have i0 : (0 : Int) ≤ (I : Int) := by omega
        have i1 : (I : Int) < (n : Int) := by omega
        have HIN := Lib.hid hI
        have HCL := Lib.hid hIcl
        have HOK := Lib.hid hok
        have HU := Lib.hid hU
        have HV := Lib.hid hV
        have m1 : ¬ g = gN := by omega
        have m2 : ¬ gb = gN := by omega
        obtain ⟨e0, e1, e2, e3, e4, e5⟩ := HR0.out.at_
        clear hI hIcl hP hR hX hY hU hV hok e
        go_wp2
        go_region_held3 (fun w' => w'.cell? ⟨gb, 0, none⟩ = some (.int .i64 (P : Int)) ∧ w'.cell? ⟨gb, 1, none⟩ = some (.int .i64 (R : Int)) ∧ w'.cell? ⟨gb, 2, none⟩ = some (.int .i64 U) ∧ w'.cell? ⟨gb, 3, none⟩ = some (.int .i64 V) ∧ w'.cell? ⟨g, 0, none⟩ = some (.int .i64 (S : Int))) (first | exact ⟨c0, c1, c2, c3, e0⟩ | exact HK.out | exact HK2.out | exact HK3.out | go_keep)
          (first
            | (go_at_call 80; refine (opposite P R X Y U V _ HU.out HV.out (by omega) (by omega) (by omega) (by omega)).mono ?_; rintro e w5 ⟨rfl, hb5⟩; (have hb5' : Below wr.heap.size wr w5 := (below_drew wr).trans hb5); (have HK := Lib.hid (five hb5' hb2 (by omega) c0 c1 c2 c3 e0)))
            | (go_at_call 71; refine (placeIn X Y S _ (by omega) (by omega) hS2 hS8).mono ?_; rintro e w6 ⟨rfl, hb6⟩; rw [HIN.out]; (have hb6' : Below wr.heap.size wr w6 := hb5'.trans (hb6.mono hb5'.size)); (have HK2 := Lib.hid (five hb6' hb2 (by omega) c0 c1 c2 c3 e0)); (have HO6 := Lib.hid (HO4.out.below hb6' (Nat.le_refl _))); (have hcp := HO6.out.cellD (j := I) hIn); (have hfp : w6.frozen? ⟨gN, I, none⟩ = false := HO6.out.toI.frozenAt I); (have HK3 := Lib.hid (five_set (u := .bool true) HK2.out m2 m1 I))))
        go_wp2
        go_end0
        exact ⟨⟨_, rfl⟩, [3 - d], by show OSb _ _ _ _ _ (out.set (clD S x y (3 - d)) true); rw [HCL.out]; exact (HO6.out.stored (k := I) true).1, HOK.out, (grownOf (hB.trans (hb6'.mono hwr)) (some gN)).trans (grown_set _ ⟨gN, I, none⟩ _)⟩
      · rw [e] at HB hln
        obtain rfl : n' = 2 := hln
        have hd4 : d < 4 := by simp at hd; omega
        obtain ⟨gb, P, R, X, Y, U, V, rfl, hb1, hb2, c0, c1, c2, c3, p1, p2, p3, p4, p5, p6, p7, p8, hU, hV, hP, hR, hX, hY⟩ := HB.out.ball (k := 0) (d := d) rfl hd4 (by omega) (by omega)
        obtain ⟨gb', P', R', X', Y', U', V', e', _, _, c4, c5, c6, c7, q1, q2, q3, q4, q5, q6, q7, q8, hU', hV', hP', hR', hX', hY'⟩ := HB.out.ball (k := 1) (d := 3 - d) rfl (by omega) (by omega) (by omega)
        cases e'
        simp only [Nat.zero_mul, Nat.zero_add, Nat.one_mul, Nat.reduceAdd] at c0 c1 c2 c3 c4 c5 c6 c7
        obtain rfl : P' = X := by rw [hP', hX]
        obtain rfl : R' = Y := by rw [hR', hY]
        have HOK := Lib.hid hok
        have HU := Lib.hid hU
        have HV := Lib.hid hV
        have HU' := Lib.hid hU'
        have HV' := Lib.hid hV'
        have HPR := Lib.hid (And.intro hP (And.intro hR (And.intro hX hY)))
        have HPR' := Lib.hid (And.intro hX' hY')
        have HDS := Lib.hid e
        have m1 : ¬ g = gN := by omega
        have m2 : ¬ gb = gN := by omega
        obtain ⟨e0, e1, e2, e3, e4, e5⟩ := HR0.out.at_
        clear hP hR hX hY hU hV hok e hP' hR' hX' hY' hU' hV'
        go_wp2
        go_region_held3 (fun w' => w'.cell? ⟨gb, 0, none⟩ = some (.int .i64 (P : Int)) ∧ w'.cell? ⟨gb, 1, none⟩ = some (.int .i64 (R : Int)) ∧ w'.cell? ⟨gb, 2, none⟩ = some (.int .i64 U) ∧ w'.cell? ⟨gb, 3, none⟩ = some (.int .i64 V) ∧ w'.cell? ⟨gb, 4, none⟩ = some (.int .i64 (P' : Int)) ∧ w'.cell? ⟨gb, 5, none⟩ = some (.int .i64 (R' : Int))) (first | exact ⟨c0, c1, c2, c3, c4, c5⟩ | exact HK.out | go_keep)
          (first
            | (go_at_call 80; refine (opposite P R P' R' U V _ HU.out HV.out (by omega) (by omega) (by omega) (by omega)).mono ?_; rintro e w5 ⟨rfl, hb5⟩; (have hb5' : Below wr.heap.size wr w5 := (below_drew wr).trans hb5); (have HK := Lib.hid (six hb5' hb2 c0 c1 c2 c3 c4 c5))))
        have HB5 := Lib.hid (HB.out.below hb5' (Nat.le_refl _))
        have HR05 := Lib.hid (HR0.out.below hb5' HR0.out.lt)
        have HO5 := Lib.hid (HO4.out.below hb5' (Nat.le_refl _))
        have hg5 : w.grownBy w5 (some gN) := grownOf (hB.trans (hb5'.mono hwr)) (some gN)
        have hs5 : wr.heap.size ≤ w5.heap.size := hb5'.size
        obtain ⟨wo, hwo⟩ : ∃ wo : World, wo = wr := ⟨_, rfl⟩
        have hgwo : g < wo.heap.size := by rw [hwo]; omega
        have hgbwo : gb < wo.heap.size := by rw [hwo]; omega
        rw [← hwo] at hs5
        clear c0 c1 c2 c3 c4 c5 c6 c7 e0 e1 e2 e3 e4 e5 HK hb5 hb5' HB HR0 HO4 HR1 hgr hB hwo
        go_wp2
        go_loopw [104] (fun i wx => ∃ k : Nat, k ≤ 2 ∧ i = .int .i64 k ∧ Hid (OSb wx gN (some ⟨gN, 0, none⟩) n cN (setT out ((([d, 3 - d].map flipX).map (clD S x y)).take k))) ∧ Hid (OB wx (g + 2) (some ⟨gb, 0, none⟩) 2 c' x y [d, 3 - d]) ∧ Hid (Row3 wx g 27 (.int .i64 (S : Int)) (.slice (some ad) n c) (.bool h)) ∧ wo.heap.size ≤ wx.heap.size ∧ w.grownBy wx (some gN))
          (fun i _ => 2 - (intOf i).toNat)
        case atStart => exact ⟨0, by omega, rfl, HO5.out, HB5.out, HR05.out, hs5, hg5⟩
        case round =>
          clear HO5 HB5 HR05 hs5 hg5
          obtain ⟨k, hk, rfl, HO, HB, HR0, hsx, hgx⟩ := hrel
          obtain ⟨e0, e1, e2, e3, e4, e5⟩ := HR0.out.at_
          by_cases hlt : k < 2
          · obtain ⟨f, hf, hf4⟩ : ∃ f, [d, 3 - d][k]? = some f ∧ f < 4 := by
              have h2 : k = 0 ∨ k = 1 := by omega
              rcases h2 with rfl | rfl
              · exact ⟨d, rfl, hd4⟩
              · exact ⟨3 - d, rfl, by omega⟩
            obtain ⟨gb0, P, R, X, Y, U, V, e', _, hbx, c0, c1, c2, c3, r1, r2, r3, r4, r5, r6, r7, r8, hU, hV, hP, hR, hX, hY⟩ := HB.out.ball (k := k) (d := f) hf hf4 (by omega) (by omega)
            cases e'
            obtain ⟨I, hI⟩ : ∃ I, inI S X R = I := ⟨_, rfl⟩
            have hIcl : clD S x y (flipX f) = I := by rw [← hI, hX, hR]; exact (inI_flip hf4).symm
            have hIn : I < n := by rw [HNN.out, ← hIcl]; exact clD_lt (by omega)
            have i0 : (0 : Int) ≤ (I : Int) := by omega
            have i1 : (I : Int) < (n : Int) := by omega
            have k0 : (0 : Int) ≤ (k : Int) := by omega
            have k1 : (k : Int) < 2 := by omega
            have HIN := Lib.hid hI
            have HCL := Lib.hid hIcl
            have HF := Lib.hid hf
            have hgx' : g < wr.heap.size := HR0.out.lt
            clear hI hIcl hP hR hX hY hV hf
            go_wp2_with fail
            refine (placeIn X R S _ (by omega) (by omega) hS2 hS8).mono ?_
            rintro e w7 ⟨rfl, hb7⟩
            rw [HIN.out]
            have hb7' : Below wr.heap.size wr w7 := ((Below.refl wr.heap.size wr).alloc (Nat.le_refl _) _).trans (hb7.mono (by simp))
            have hO7 := HO.out.below hb7' (Nat.le_refl _)
            have hcp := hO7.cellD (j := I) hIn
            have hfp : w7.frozen? ⟨gN, I, none⟩ = false := hO7.toI.frozenAt I
            have HOS := Lib.hid (show OSb (w7.setCell ⟨gN, I, none⟩ (.bool true)) gN (some ⟨gN, 0, none⟩) n cN (setT out ((([d, 3 - d].map flipX).map (clD S x y)).take (k + 1))) by
              rw [setT_take (I := I) (by rw [← HCL.out, List.getElem?_map, List.getElem?_map, HF.out]; rfl)]; exact (hO7.stored (k := I) true).1)
            have HBS := Lib.hid ((HB.out.below hb7' (Nat.le_refl _)).kept (grown_set _ ⟨gN, I, none⟩ (.bool true)) (.inr (by simpa [Value.ownBlock] using m2)))
            have HR0S := Lib.hid ((HR0.out.below hb7' HR0.out.lt).other (p := ⟨gN, I, none⟩) m1 (.bool true))
            have hsS : wo.heap.size ≤ (w7.setCell ⟨gN, I, none⟩ (.bool true)).heap.size := by have := hb7'.size; simp; omega
            have hgS := (hgx.trans (grownOf hb7' (some gN))).trans (grown_set _ ⟨gN, I, none⟩ (.bool true))
            clear e0 e1 e2 e3 e4 e5 hb7 hb7' hO7 c0 c1 c2 c3
            go_wp2
            go_roundw
            case rel => exact ⟨k + 1, by omega, by go_num, HOS.out, HBS.out, HR0S.out, hsS, hgS⟩
            case measure => simp [intOf]; omega
          · obtain rfl : k = 2 := by omega
            go_wp2
            go_end0
            exact ⟨⟨_, rfl⟩, [d, 3 - d].map flipX, HO.out, by rw [← HDS.out]; exact HOK.out, hgx⟩
      · have hn1 : ((n' : Int) == 1) = false := by rw [hln, e]; rfl
        have hn2 : ((n' : Int) == 2) = true := by rw [hln, e]; rfl
        have hn3 : 2 ≤ n' := by rw [hln, e]; exact Nat.le_refl _
        have hn4' : (1 : Int) < (n' : Int) := by omega
        have hn5' : (0 : Int) < (n' : Int) := by omega
        have hn6' : 0 < n' := by omega
        have hn7' : 1 < n' := by omega
        have hd4 : d < 4 := by simp at hd; omega
        have hd4' : d' < 4 := by simp at hd'; omega
        obtain ⟨gb, P, R, X, Y, U, V, rfl, hb1, hb2, c0, c1, c2, c3, p1, p2, p3, p4, p5, p6, p7, p8, hU, hV, hP, hR, hX, hY⟩ := HB.out.ball (k := 0) (d := d) (by rw [e]; rfl) hd4 (by omega) (by omega)
        obtain ⟨gb', P', R', X', Y', U', V', e', _, _, c4, c5, c6, c7, q1, q2, q3, q4, q5, q6, q7, q8, hU', hV', hP', hR', hX', hY'⟩ := HB.out.ball (k := 1) (d := d') (by rw [e]; rfl) hd4' (by omega) (by omega)
        cases e'
        simp only [Nat.zero_mul, Nat.zero_add, Nat.one_mul, Nat.reduceAdd] at c0 c1 c2 c3 c4 c5 c6 c7
        have hxy : ((X : Int) == (P' : Int)) = false ∨ (X = P' ∧ ((Y : Int) == (R' : Int)) = false) := by
          by_cases hx1 : X = P'
          · exact .inr ⟨hx1, by simp; omega⟩
          · exact .inl (by simp; omega)
        have HOK := Lib.hid hok
        have HU := Lib.hid hU
        have HV := Lib.hid hV
        have m1 : ¬ g = gN := by omega
        obtain ⟨e0, e1, e2, e3, e4, e5⟩ := HR0.out.at_
        have hln4 : n' ≤ 4 := hn'
        clear hP hR hX hY hU hV hok e hP' hR' hX' hY' hU' hV' hne hln
        rcases hxy with hxy | ⟨hxp, hxy⟩
        case' inr => (obtain rfl : P' = X := hxp.symm)
        all_goals
          go_wp2
          go_region_held3 (fun w' => w'.cell? ⟨gb, 0, none⟩ = some (.int .i64 (P : Int)) ∧ w'.cell? ⟨gb, 1, none⟩ = some (.int .i64 (R : Int)) ∧ w'.cell? ⟨gb, 2, none⟩ = some (.int .i64 U) ∧ w'.cell? ⟨gb, 3, none⟩ = some (.int .i64 V) ∧ w'.cell? ⟨gb, 4, none⟩ = some (.int .i64 (P' : Int)) ∧ w'.cell? ⟨gb, 5, none⟩ = some (.int .i64 (R' : Int))) (first | exact ⟨c0, c1, c2, c3, c4, c5⟩ | exact HK.out | go_keep)
            (first
              | (go_at_call 80; refine (opposite P R _ Y U V _ HU.out HV.out (by omega) (by omega) (by omega) (by omega)).mono ?_; rintro e w5 ⟨rfl, hb5⟩; (have hb5' : Below wr.heap.size wr w5 := (below_drew wr).trans hb5); (have HK := Lib.hid (six hb5' hb2 c0 c1 c2 c3 c4 c5))))
          have HB5 := Lib.hid (HB.out.below hb5' (Nat.le_refl _))
          have HR05 := Lib.hid (HR0.out.below hb5' HR0.out.lt)
          have HO5 := Lib.hid (HO4.out.below hb5' (Nat.le_refl _))
          have hg5 : w.grownBy w5 (some gN) := grownOf (hB.trans (hb5'.mono hwr)) (some gN)
          have hs5 : wr.heap.size ≤ w5.heap.size := hb5'.size
          obtain ⟨wo, hwo⟩ : ∃ wo : World, wo = w5 := ⟨_, rfl⟩
          have hgwo : g + 2 ≤ wo.heap.size := by rw [hwo]; omega
          have hs5 : wo.heap.size ≤ w5.heap.size := by rw [hwo]; exact Nat.le_refl _
          clear c0 c1 c2 c3 c4 c5 c6 c7 e0 e1 e2 e3 e4 e5 HK hb5 hb5' HB HR0 HO4 HR1 hgr hB hwo
          go_wp2
          go_loopw [60] (fun i wx => ∃ k : Nat, k ≤ n' ∧ i = .int .i64 k ∧ Hid (OSb wx gN (some ⟨gN, 0, none⟩) n cN (setT out (((dsOf b0 b1 b2 b3).map (clD S x y)).take k))) ∧ Hid (OB wx (g + 2) (some ⟨gb, 0, none⟩) n' c' x y (dsOf b0 b1 b2 b3)) ∧ Hid (Row3 wx g 27 (.int .i64 (S : Int)) (.slice (some ad) n c) (.bool h)) ∧ wo.heap.size ≤ wx.heap.size ∧ w.grownBy wx (some gN))
            (fun i _ => n' - (intOf i).toNat)
          case atStart => exact ⟨0, by omega, rfl, HO5.out, HB5.out, HR05.out, hs5, hg5⟩
          case round =>
            clear HO5 HB5 HR05 hs5 hg5
            obtain ⟨k, hk, rfl, HO, HB, HR0, hsx, hgx⟩ := hrel
            obtain ⟨e0, e1, e2, e3, e4, e5⟩ := HR0.out.at_
            by_cases hlt : k < n'
            · obtain ⟨f, hf⟩ : ∃ f, (dsOf b0 b1 b2 b3)[k]? = some f := ⟨_, List.getElem?_eq_getElem (by rw [← HB.out.len]; exact hlt)⟩
              have hf4 : f < 4 := ds_mem (List.mem_of_getElem? hf)
              obtain ⟨gb0, P, R, X, Y, U, V, e', hgb0, hbx, c0, c1, c2, c3, r1, r2, r3, r4, r5, r6, r7, r8, hU, hV, hP, hR, hX, hY⟩ := HB.out.ball (k := k) (d := f) hf hf4 (by omega) (by omega)
              first | cases e' | subst e'
              have m2 : ¬ gb = gN := by omega
              obtain ⟨I, hI⟩ : ∃ I, inI S P R = I := ⟨_, rfl⟩
              have hIcl : clD S x y f = I := by rw [← hI, hP, hR]; exact (inI_cl _ _ _ _).symm
              have hIn : I < n := by rw [HNN.out, ← hIcl]; exact clD_lt (by omega)
              have i0 : (0 : Int) ≤ (I : Int) := by omega
              have i1 : (I : Int) < (n : Int) := by omega
              have k0 : (0 : Int) ≤ (k : Int) := by omega
              have k1 : (k : Int) < (n' : Int) := by omega
              have HIN := Lib.hid hI
              have HCL := Lib.hid hIcl
              have HF := Lib.hid hf
              have hgx' : g < wr.heap.size := HR0.out.lt
              clear hI hIcl hP hR hX hY hV hf hU
              go_wp2_with fail
              refine (placeIn P R S _ (by omega) (by omega) hS2 hS8).mono ?_
              rintro e w7 ⟨rfl, hb7⟩
              rw [HIN.out]
              have hb7' : Below wr.heap.size wr w7 := ((Below.refl wr.heap.size wr).alloc (Nat.le_refl _) _).trans (hb7.mono (by simp))
              have hO7 := HO.out.below hb7' (Nat.le_refl _)
              have hcp := hO7.cellD (j := I) hIn
              have hfp : w7.frozen? ⟨gN, I, none⟩ = false := hO7.toI.frozenAt I
              have HOS := Lib.hid (show OSb (w7.setCell ⟨gN, I, none⟩ (.bool true)) gN (some ⟨gN, 0, none⟩) n cN (setT out (((dsOf b0 b1 b2 b3).map (clD S x y)).take (k + 1))) by
                rw [setT_take (I := I) (by rw [← HCL.out, List.getElem?_map, HF.out]; rfl)]; exact (hO7.stored (k := I) true).1)
              have HBS := Lib.hid ((HB.out.below hb7' (Nat.le_refl _)).kept (grown_set _ ⟨gN, I, none⟩ (.bool true)) (.inr (by simpa [Value.ownBlock] using m2)))
              have HR0S := Lib.hid ((HR0.out.below hb7' HR0.out.lt).other (p := ⟨gN, I, none⟩) m1 (.bool true))
              have hsS : wo.heap.size ≤ (w7.setCell ⟨gN, I, none⟩ (.bool true)).heap.size := by have := hb7'.size; simp; omega
              have hgS := (hgx.trans (grownOf hb7' (some gN))).trans (grown_set _ ⟨gN, I, none⟩ (.bool true))
              clear e0 e1 e2 e3 e4 e5 hb7 hb7' hO7 c0 c1 c2 c3
              go_wp2
              go_roundw
              case rel => exact ⟨k + 1, by omega, by go_num, HOS.out, HBS.out, HR0S.out, hsS, hgS⟩
              case measure => simp [intOf]; omega
            · obtain rfl : k = n' := by omega
              have hfin := HO.out
              rw [List.take_of_length_le (by rw [List.length_map, ← HB.out.len]; exact Nat.le_refl _)] at hfin
              have HFIN := Lib.hid hfin
              clear hfin
              go_wp2
              go_end0
              exact ⟨⟨_, rfl⟩, dsOf b0 b1 b2 b3, HFIN.out, HOK.out, hgx⟩
      · have hn1 : ((n' : Int) == 1) = false := by simp; omega
        have hn2 : ((n' : Int) == 2) = false := by simp; omega
        have HOK := Lib.hid hok
        have m1 : ¬ g = gN := by omega
        have hln4 : n' ≤ 4 := hn'
        obtain ⟨e0, e1, e2, e3, e4, e5⟩ := HR0.out.at_
        clear hok h1 h2 hln
        go_wp2
        go_quiet (fail)
        have HB5 := Lib.hid (show OB (wr.drewN nq) (g + 2) A' n' c' x y (dsOf b0 b1 b2 b3) from HB.out)
        have HR05 := Lib.hid (HR0.out.drewN nq)
        have HO5 := Lib.hid (show OSb (wr.drewN nq) gN (some ⟨gN, 0, none⟩) n cN out from HO4.out)
        have hg5 : w.grownBy (wr.drewN nq) (some gN) := grownOf (below_drewN hB nq) (some gN)
        have hszn : (wr.drewN nq).heap.size = wr.heap.size := rfl
        obtain ⟨wo, hwo⟩ : ∃ wo : World, wo = wr.drewN nq := ⟨_, rfl⟩
        have hgwo : g + 2 ≤ wo.heap.size := by rw [hwo]; omega
        have hs5 : wo.heap.size ≤ (wr.drewN nq).heap.size := by rw [hwo]; exact Nat.le_refl _
        clear HB HR0 HO4 HR1 hgr hB hwo e0 e1 e2 e3 e4 e5
        go_wp2
        go_loopw [60] (fun i wx => ∃ k : Nat, k ≤ n' ∧ i = .int .i64 k ∧ Hid (OSb wx gN (some ⟨gN, 0, none⟩) n cN (setT out (((dsOf b0 b1 b2 b3).map (clD S x y)).take k))) ∧ Hid (OB wx (g + 2) A' n' c' x y (dsOf b0 b1 b2 b3)) ∧ Hid (Row3 wx g 27 (.int .i64 (S : Int)) (.slice (some ad) n c) (.bool h)) ∧ wo.heap.size ≤ wx.heap.size ∧ w.grownBy wx (some gN))
          (fun i _ => n' - (intOf i).toNat)
        case atStart => exact ⟨0, by omega, rfl, HO5.out, HB5.out, HR05.out, hs5, hg5⟩
        case round =>
          clear HO5 HB5 HR05 hs5 hg5
          obtain ⟨k, hk, rfl, HO, HB, HR0, hsx, hgx⟩ := hrel
          obtain ⟨e0, e1, e2, e3, e4, e5⟩ := HR0.out.at_
          by_cases hlt : k < n'
          · obtain ⟨f, hf⟩ : ∃ f, (dsOf b0 b1 b2 b3)[k]? = some f := ⟨_, List.getElem?_eq_getElem (by rw [← HB.out.len]; exact hlt)⟩
            have hf4 : f < 4 := ds_mem (List.mem_of_getElem? hf)
            obtain ⟨gb0, P, R, X, Y, U, V, e', hgb0, hbx, c0, c1, c2, c3, r1, r2, r3, r4, r5, r6, r7, r8, hU, hV, hP, hR, hX, hY⟩ := HB.out.ball (k := k) (d := f) hf hf4 (by omega) (by omega)
            first | cases e' | subst e'
            have m2 : ¬ gb0 = gN := by omega
            obtain ⟨I, hI⟩ : ∃ I, inI S P R = I := ⟨_, rfl⟩
            have hIcl : clD S x y f = I := by rw [← hI, hP, hR]; exact (inI_cl _ _ _ _).symm
            have hIn : I < n := by rw [HNN.out, ← hIcl]; exact clD_lt (by omega)
            have i0 : (0 : Int) ≤ (I : Int) := by omega
            have i1 : (I : Int) < (n : Int) := by omega
            have k0 : (0 : Int) ≤ (k : Int) := by omega
            have k1 : (k : Int) < (n' : Int) := by omega
            have HIN := Lib.hid hI
            have HCL := Lib.hid hIcl
            have HF := Lib.hid hf
            have hgx' : g < wr.heap.size := HR0.out.lt
            clear hI hIcl hP hR hX hY hV hf hU
            go_wp2_with fail
            refine (placeIn P R S _ (by omega) (by omega) hS2 hS8).mono ?_
            rintro e w7 ⟨rfl, hb7⟩
            rw [HIN.out]
            have hb7' : Below wr.heap.size wr w7 := ((Below.refl wr.heap.size wr).alloc (Nat.le_refl _) _).trans (hb7.mono (by simp))
            have hO7 := HO.out.below hb7' (Nat.le_refl _)
            have hcp := hO7.cellD (j := I) hIn
            have hfp : w7.frozen? ⟨gN, I, none⟩ = false := hO7.toI.frozenAt I
            have HOS := Lib.hid (show OSb (w7.setCell ⟨gN, I, none⟩ (.bool true)) gN (some ⟨gN, 0, none⟩) n cN (setT out (((dsOf b0 b1 b2 b3).map (clD S x y)).take (k + 1))) by
              rw [setT_take (I := I) (by rw [← HCL.out, List.getElem?_map, HF.out]; rfl)]; exact (hO7.stored (k := I) true).1)
            have HBS := Lib.hid ((HB.out.below hb7' (Nat.le_refl _)).kept (grown_set _ ⟨gN, I, none⟩ (.bool true)) (.inr (by simpa [Value.ownBlock] using m2)))
            have HR0S := Lib.hid ((HR0.out.below hb7' HR0.out.lt).other (p := ⟨gN, I, none⟩) m1 (.bool true))
            have hsS : wo.heap.size ≤ (w7.setCell ⟨gN, I, none⟩ (.bool true)).heap.size := by have := hb7'.size; simp; omega
            have hgS := (hgx.trans (grownOf hb7' (some gN))).trans (grown_set _ ⟨gN, I, none⟩ (.bool true))
            clear e0 e1 e2 e3 e4 e5 hb7 hb7' hO7 c0 c1 c2 c3
            go_wp2
            go_roundw
            case rel => first | exact ⟨k + 1, by omega, by go_num, HOS.out, HBS.out, HR0S.out, hsS, hgS⟩ | ((repeat apply Exists.intro); exact ⟨⟨k + 1, by omega, by go_num, HOS.out, HBS.out, HR0S.out, hsS, hgS⟩, rfl⟩)
            case measure => simp [intOf]; omega
          · obtain rfl : k = n' := by omega
            have hfin := HO.out
            rw [List.take_of_length_le (by rw [List.length_map, ← HB.out.len]; exact Nat.le_refl _)] at hfin
            have HFIN := Lib.hid hfin
            clear hfin
            go_wp2
            go_end0
            exact ⟨⟨_, rfl⟩, dsOf b0 b1 b2 b3, HFIN.out, HOK.out, hgx⟩
end Go.Proofs.Ytmianlihdiccjaa

/- Contract: the text of a formula (the program). -/
import Derived.Test.YtkpjlkahebeljaaDoorFTextI
import Derived.Deep.RegionHeld3
namespace Go.Proofs.YtkpjlkahebeljaaDoor
open Go.RowKit
set_option linter.unusedVariables false
/-- append of a text at a step of a region that draws its order -/
theorem step_pushT {ops : Array Oper} {o : Oper} {a : Act} {K : Act → World → Prop} {Q : Exit → Act → World → Prop} {E : Prop} (w0 : World) (t : ByteArray) (hgd : o.guard = none) (s x : Operand)
    (ho : o.op = .call { callee := .builtin .append, args := #[s, x], argTypes := #[44, 44] })
    (base : Nat) (A : Option Addr) (n c : Nat) (xs : List ByteArray) (hs : a.eval s = .slice A n c) (g : Nat) (hx : a.eval x = .slice (some ⟨g, 0, none⟩) 1 1) (hgs : w0.heap.size = g) (hO : OT w0 base A n c xs)
    (hn : n + 1 ≤ 1099511627776) (hb : base ≤ w0.heap.size)
    (h : ∀ A' c' w', OT w' base A' (n + 1) c' (xs ++ [t]) → w0.grownBy w' (Value.slice A n c).ownBlock → K (a.put o.dst (.slice A' (n + 1) c')) w') :
    if Region.wanted o (yielded ops a.tmps) = true then Oper.wp Tryd.prog o a (w0.alloc (.cells #[.string t] 9)) K Q else E := by
  subst hgs
  obtain ⟨i0, hi, hz0, hz1, hz2⟩ := info_parts infoStr
  rw [if_pos (by simp [Region.wanted, hgd])]
  obtain ⟨v', w', hrun, r1, r2, r3⟩ := run_append_own (P := Tryd.prog) (w0.alloc (.cells #[.string t] 9)) base 44 o.type 9 i0 _ 1 16 Tryd.underlying44 hi hz0 hz1 hz2 rfl (by decide) (.slice A n c) n _ (World.ownsRow.alloc hO _) ⟨w0.heap.size, 0, none⟩ 1 1 [.string t] rfl (cell_one_new _ _ _) (by simp [Value.oneCell']) (by unfold maxLen; omega) (by omega) (by simp; omega)
  obtain ⟨A', c', rfl, hO'⟩ := OT.of (xs := xs ++ [t]) r1 (by simp)
  unfold Oper.wp execOp
  simp only [ho, resolve, invoke, builtin, Sem.run_bind, Sem.run_pure, Result.andThen_ok, List.map_toArray, List.map_cons, List.map_nil, hs, hx, hrun]
  exact h A' c' w' hO' ((World.grownBy_alloc w0 _ _).trans r2)
theorem fxL_ls (zs : List Int) (k : Nat) (t : ByteArray) (h : t.data.toList = tsK zs k) : (((List.range k).map (tsK zs)).map fun l => (⟨l.toArray⟩ : ByteArray)) ++ [t] = ((List.range (k + 1)).map (tsK zs)).map fun l => (⟨l.toArray⟩ : ByteArray) := by
  rw [List.range_succ, List.map_append, List.map_append]
  congr 1
  simp [← h]
set_option maxRecDepth 100000 in
set_option maxHeartbeats 32000000 in
theorem formTextI (I : Int) (A : Option Addr) (n : Nat) (zs : List Int) (c : Nat) (w : World) (hr : RI w w.heap.size A (n * 3) zs) (hl : n ≤ 1048577) :
    Calls Tryd.prog 8 #[.int .i64 I, .slice A n c] w (GivesS w (fxF I n zs)) := by
  have hF := formValid I A n zs c w hr hl
  by_cases hV : fmB I n zs = true
  rotate_left
  · have hV' : fmB I n zs = false := by simpa using hV
    have HL := Lib.hid (show fxF I n zs = [] by rw [fxF, if_neg hV])
    rw [hV'] at hF
    have HF := Lib.hid hF
    clear hF hV hV' hr
    go_enter Tryd.func8, Tryd.ntmps8
    go_wp2_with (go_at_call 10; refine HF.out.mono ?_; rintro e w2 ⟨rfl, hB2⟩)
    go_ret
    exact ⟨by rw [HL.out]; rfl, hB2⟩
  obtain ⟨a1, a2, a3, a4, _⟩ := fmB_iff hV
  have HL := Lib.hid (show fxF I n zs = fxL zs n by rw [fxF, if_pos hV])
  rw [hV] at hF
  have HF := Lib.hid hF
  have HV := Lib.hid hV
  have HR := Lib.hid hr
  clear hV hr hF
  go_enter Tryd.func8, Tryd.ntmps8
  go_wp2_with (go_at_call 10; refine HF.out.mono ?_; rintro e w2 ⟨rfl, hB2⟩)
  have hs2 := hB2.size
  have HE := Lib.hid (show OT (w2.alloc (.cells #[] 9)) w2.heap.size (some ⟨w2.heap.size, 0, none⟩) 0 0 [] from OT.empty w2)
  have hB0 : Below w2.heap.size w2 (w2.alloc (.cells #[] 9)) := (Below.refl _ _).alloc (Nat.le_refl _) _
  go_loopw [5, 16] (fun v i wr => ∃ (k : Nat) (A' : Option Addr) (c' : Nat), k ≤ n ∧ i = .int .i64 k ∧ v = .slice A' k c' ∧ Hid (OT wr w2.heap.size A' k c' (((List.range k).map (tsK zs)).map fun l => (⟨l.toArray⟩ : ByteArray))) ∧ Below w2.heap.size w2 wr)
    (fun _ i _ => n - (intOf i).toNat)
  case atStart => exact ⟨0, _, _, Nat.zero_le _, rfl, rfl, HE.out, hB0⟩
  case round =>
    obtain ⟨k, A', c', hk, rfl, rfl, HO, hB⟩ := hrel
    have hs := hB.size
    by_cases hlt : k < n
    rotate_left
    · obtain rfl : k = n := by omega
      have hJ := joinT wr w2.heap.size A' k c' ((List.range k).map (tsK zs)) [59] HO.out (by omega) (by omega) (by rw [fxL_join]; have := fxL_le zs k; omega)
      rw [fxL_join] at hJ
      have HJ := Lib.hid hJ
      clear hJ
      go_wp2_with (go_at_call 25; refine HJ.out.mono ?_; rintro e w3 ⟨rfl, hB3⟩)
      go_ret
      exact ⟨by rw [HL.out]; rfl, hB2.trans ((hB.trans (hB3.mono hs)).mono hs2)⟩
    have hki : (k : Int) < (n : Int) := by omega
    obtain ⟨ad, ov, x, y, rfl, hb, g0, g1, g2, c0, c1, c2⟩ := (HR.out.up (Nat.le_refl _) (hB2.trans (hB.mono hs2)) (Nat.le_refl _)).three hlt
    obtain ⟨ho, x0, x9, y0, y9⟩ := okS_of HV.out hlt g0 g1 g2
    have HG := Lib.hid (tsK_of g0 g1 g2)
    clear g0 g1 g2
    rcases ho with rfl | rfl | rfl | rfl
    · have hidx : ∀ w, (Instr.index 48 (.agg opC) (.int .i64 0)).run Tryd.prog w = .ok (.string ⟨#[97, 110, 100]⟩) w := fun _ => by kernel_rfl
      obtain ⟨W2, hW2⟩ : ∃ W2, (wr.alloc (.cells #[.int .i64 0, .int .i64 x, .int .i64 y] 46)).alloc (.cells #[.int .i64 x, .int .i64 y] 3) = W2 := ⟨_, rfl⟩
      obtain ⟨gb, hgb⟩ : ∃ gb, wr.heap.size = gb := ⟨_, rfl⟩
      have hBW : Below wr.heap.size wr W2 := by rw [← hW2]; exact ((Below.refl _ _).alloc (Nat.le_refl _) _).alloc (by simp) _
      have hsW : W2.heap.size = gb + 2 := by rw [← hW2, ← hgb]; simp
      have e0 : W2.cell? ⟨gb, 0, none⟩ = some (.int .i64 0) := by
        rw [← hW2, ← hgb]
        exact (World.cell?_of_block (a := ⟨wr.heap.size, 0, none⟩) (Below.heap_alloc _ _ _ (by simp))).trans (cells_newS wr [.int .i64 0, .int .i64 x, .int .i64 y] 46 0 _ rfl)
      have hRW : RI W2 W2.heap.size (some ⟨gb + 1, 0, none⟩) 2 [x, y] := by
        refine ⟨rfl, fun _ => ⟨_, rfl, by show gb + 1 < _; omega, fun j u hu => ?_⟩⟩
        rw [lit_add, Nat.zero_add]
        have hq : (wr.alloc (.cells #[.int .i64 0, .int .i64 x, .int .i64 y] 46)).heap.size = gb + 1 := by rw [← hgb]; simp
        rw [← hW2, ← hq]
        exact cells_newS _ [.int .i64 x, .int .i64 y] _ j u hu
      have HJ := Lib.hid (fun (W : World) (hW : Below W2.heap.size W2 W) => joinedI (some ⟨gb + 1, 0, none⟩) 2 2 [x, y] W (hRW.up (Nat.le_refl _) hW (Nat.le_refl _)) (by omega) (by omega) (by intro z hz; simp at hz; rcases hz with rfl | rfl <;> omega))
      obtain ⟨sJ, hsJ⟩ : ∃ s : ByteArray, (⟨(Lib.join (([x, y] : List Int).map dgL) [32]).toArray⟩ : ByteArray) = s := ⟨_, rfl⟩
      have hzJ : sJ.size = 3 := by rw [← hsJ, str_size]; rfl
      have HSJ := Lib.hid (show sJ.data.toList = Lib.join (wdL 0 x y) [32] by rw [← hsJ]; simp [wdL])
      unfold GivesS at HJ
      rw [hsJ] at HJ
      obtain ⟨sB, addB, lB, zB⟩ := app_ok ⟨#[97, 110, 100]⟩ ⟨#[32]⟩ 1 (by decide) rfl (by omega)
      have hzB : sB.size = 4 := by rw [zB]; rfl
      obtain ⟨sT, addT, lT, zT⟩ := app_ok sB sJ 3 (by omega) hzJ (by omega)
      have HT := Lib.hid (show sT.data.toList = tsK zs k by rw [HG.out, lT, lB, HSJ.out, ← tsL_join]; simp [nmL])
      clear lB zB lT zT hzJ hzB hsJ hRW
      have HO2 := Lib.hid (HO.out.below hBW (Nat.le_refl _))
      have HOl := Lib.hid HO.out.lt
      have hBR := hB.trans (hBW.mono hs)
      have hsR := hBR.size
      have HW2 := Lib.hid hW2
      have HGB := Lib.hid hgb
      have hgbs : gb < W2.heap.size := by omega
      clear hW2 hgb hBW
      go_wp2_with fail
      simp only [HGB.out] at *
      rw [HW2.out]
      have hTd := below_drew W2
      have HK4 := Lib.hid (fun (W W4 : World) (hW : Below W2.heap.size W2 W) (hg : W.grownBy W4 (Value.slice A' k c').ownBlock) => (World.cell?_of_block (a := ⟨gb, 0, none⟩) (hg.block gb (by have := hW.size; omega) (fun e => by have := (HOl.out gb e.symm).2; omega))).trans ((World.cell?_of_block (a := ⟨gb, 0, none⟩) (hW.block gb hgbs)).trans e0))
      have HK := Lib.hid (fun (W : World) (hW : Below W2.heap.size W2 W) => (World.cell?_of_block (a := ⟨gb, 0, none⟩) (hW.block gb hgbs)).trans e0)
      go_region_held3 (fun w' => w'.cell? ⟨gb, 0, none⟩ = some (.int .i64 0)) (first | go_keep | exact HKA.out | exact HKT.out | exact HKB.out)
        (first | (go_at_call 23; (refine (opNamesI _).mono ?_); rintro e wa ⟨rfl, hba⟩; (have hTa : Below W2.heap.size W2 wa := (by first | exact hTb.trans (hba.mono hTb.size) | exact hTd.trans hba)); (have HKA := Lib.hid (HK.out _ hTa)); (clear hba)) | (go_at_call 24; (refine (HJ.out _ (by first | exact hTa | exact hTd)).mono ?_); rintro e wb ⟨rfl, hbb⟩; (have hTb : Below W2.heap.size W2 wb := (by first | exact hTa.trans (hbb.mono hTa.size) | exact hTd.trans hbb)); (have HKB := Lib.hid (HK.out _ hTb)); (clear hbb)) | ((refine step_pushT _ sT rfl _ _ rfl w2.heap.size A' k c' (((List.range k).map (tsK zs)).map fun l => (⟨l.toArray⟩ : ByteArray)) rfl _ rfl rfl (by first | exact HO2.out.below hTb (Nat.le_refl _) | exact HO2.out.below hTa (Nat.le_refl _)) (by omega) (by first | exact Nat.le_trans hsR hTb.size | exact Nat.le_trans hsR hTa.size) ?_); intro A4 c4 w4 hO4 hg4; (have HKT := Lib.hid (by first | exact HK4.out _ _ hTb hg4 | exact HK4.out _ _ hTa hg4))))
      all_goals (
        have hB4 : Below w2.heap.size w2 w4 := by first | exact (hBR.trans (hTb.mono hsR)).grown hg4 (Nat.le_trans hsR hTb.size) (fun q e => (HOl.out q e).1) | exact (hBR.trans (hTa.mono hsR)).grown hg4 (Nat.le_trans hsR hTa.size) (fun q e => (HOl.out q e).1)
        go_wp2
        go_roundw
        case rel => exact ⟨k + 1, _, _, by omega, by go_num, rfl, by show OT _ _ _ _ _ _; rw [← fxL_ls zs k sT HT.out]; exact hO4, hB4⟩
        case measure => simp [intOf]; omega)
    · have hidx : ∀ w, (Instr.index 48 (.agg opC) (.int .i64 1)).run Tryd.prog w = .ok (.string ⟨#[111, 114]⟩) w := fun _ => by kernel_rfl
      obtain ⟨W2, hW2⟩ : ∃ W2, (wr.alloc (.cells #[.int .i64 1, .int .i64 x, .int .i64 y] 46)).alloc (.cells #[.int .i64 x, .int .i64 y] 3) = W2 := ⟨_, rfl⟩
      obtain ⟨gb, hgb⟩ : ∃ gb, wr.heap.size = gb := ⟨_, rfl⟩
      have hBW : Below wr.heap.size wr W2 := by rw [← hW2]; exact ((Below.refl _ _).alloc (Nat.le_refl _) _).alloc (by simp) _
      have hsW : W2.heap.size = gb + 2 := by rw [← hW2, ← hgb]; simp
      have e0 : W2.cell? ⟨gb, 0, none⟩ = some (.int .i64 1) := by
        rw [← hW2, ← hgb]
        exact (World.cell?_of_block (a := ⟨wr.heap.size, 0, none⟩) (Below.heap_alloc _ _ _ (by simp))).trans (cells_newS wr [.int .i64 1, .int .i64 x, .int .i64 y] 46 0 _ rfl)
      have hRW : RI W2 W2.heap.size (some ⟨gb + 1, 0, none⟩) 2 [x, y] := by
        refine ⟨rfl, fun _ => ⟨_, rfl, by show gb + 1 < _; omega, fun j u hu => ?_⟩⟩
        rw [lit_add, Nat.zero_add]
        have hq : (wr.alloc (.cells #[.int .i64 1, .int .i64 x, .int .i64 y] 46)).heap.size = gb + 1 := by rw [← hgb]; simp
        rw [← hW2, ← hq]
        exact cells_newS _ [.int .i64 x, .int .i64 y] _ j u hu
      have HJ := Lib.hid (fun (W : World) (hW : Below W2.heap.size W2 W) => joinedI (some ⟨gb + 1, 0, none⟩) 2 2 [x, y] W (hRW.up (Nat.le_refl _) hW (Nat.le_refl _)) (by omega) (by omega) (by intro z hz; simp at hz; rcases hz with rfl | rfl <;> omega))
      obtain ⟨sJ, hsJ⟩ : ∃ s : ByteArray, (⟨(Lib.join (([x, y] : List Int).map dgL) [32]).toArray⟩ : ByteArray) = s := ⟨_, rfl⟩
      have hzJ : sJ.size = 3 := by rw [← hsJ, str_size]; rfl
      have HSJ := Lib.hid (show sJ.data.toList = Lib.join (wdL 1 x y) [32] by rw [← hsJ]; simp [wdL])
      unfold GivesS at HJ
      rw [hsJ] at HJ
      obtain ⟨sB, addB, lB, zB⟩ := app_ok ⟨#[111, 114]⟩ ⟨#[32]⟩ 1 (by decide) rfl (by omega)
      have hzB : sB.size = 3 := by rw [zB]; rfl
      obtain ⟨sT, addT, lT, zT⟩ := app_ok sB sJ 3 (by omega) hzJ (by omega)
      have HT := Lib.hid (show sT.data.toList = tsK zs k by rw [HG.out, lT, lB, HSJ.out, ← tsL_join]; simp [nmL])
      clear lB zB lT zT hzJ hzB hsJ hRW
      have HO2 := Lib.hid (HO.out.below hBW (Nat.le_refl _))
      have HOl := Lib.hid HO.out.lt
      have hBR := hB.trans (hBW.mono hs)
      have hsR := hBR.size
      have HW2 := Lib.hid hW2
      have HGB := Lib.hid hgb
      have hgbs : gb < W2.heap.size := by omega
      clear hW2 hgb hBW
      go_wp2_with fail
      simp only [HGB.out] at *
      rw [HW2.out]
      have hTd := below_drew W2
      have HK4 := Lib.hid (fun (W W4 : World) (hW : Below W2.heap.size W2 W) (hg : W.grownBy W4 (Value.slice A' k c').ownBlock) => (World.cell?_of_block (a := ⟨gb, 0, none⟩) (hg.block gb (by have := hW.size; omega) (fun e => by have := (HOl.out gb e.symm).2; omega))).trans ((World.cell?_of_block (a := ⟨gb, 0, none⟩) (hW.block gb hgbs)).trans e0))
      have HK := Lib.hid (fun (W : World) (hW : Below W2.heap.size W2 W) => (World.cell?_of_block (a := ⟨gb, 0, none⟩) (hW.block gb hgbs)).trans e0)
      go_region_held3 (fun w' => w'.cell? ⟨gb, 0, none⟩ = some (.int .i64 1)) (first | go_keep | exact HKA.out | exact HKT.out | exact HKB.out)
        (first | (go_at_call 23; (refine (opNamesI _).mono ?_); rintro e wa ⟨rfl, hba⟩; (have hTa : Below W2.heap.size W2 wa := (by first | exact hTb.trans (hba.mono hTb.size) | exact hTd.trans hba)); (have HKA := Lib.hid (HK.out _ hTa)); (clear hba)) | (go_at_call 24; (refine (HJ.out _ (by first | exact hTa | exact hTd)).mono ?_); rintro e wb ⟨rfl, hbb⟩; (have hTb : Below W2.heap.size W2 wb := (by first | exact hTa.trans (hbb.mono hTa.size) | exact hTd.trans hbb)); (have HKB := Lib.hid (HK.out _ hTb)); (clear hbb)) | ((refine step_pushT _ sT rfl _ _ rfl w2.heap.size A' k c' (((List.range k).map (tsK zs)).map fun l => (⟨l.toArray⟩ : ByteArray)) rfl _ rfl rfl (by first | exact HO2.out.below hTb (Nat.le_refl _) | exact HO2.out.below hTa (Nat.le_refl _)) (by omega) (by first | exact Nat.le_trans hsR hTb.size | exact Nat.le_trans hsR hTa.size) ?_); intro A4 c4 w4 hO4 hg4; (have HKT := Lib.hid (by first | exact HK4.out _ _ hTb hg4 | exact HK4.out _ _ hTa hg4))))
      all_goals (
        have hB4 : Below w2.heap.size w2 w4 := by first | exact (hBR.trans (hTb.mono hsR)).grown hg4 (Nat.le_trans hsR hTb.size) (fun q e => (HOl.out q e).1) | exact (hBR.trans (hTa.mono hsR)).grown hg4 (Nat.le_trans hsR hTa.size) (fun q e => (HOl.out q e).1)
        go_wp2
        go_roundw
        case rel => exact ⟨k + 1, _, _, by omega, by go_num, rfl, by show OT _ _ _ _ _ _; rw [← fxL_ls zs k sT HT.out]; exact hO4, hB4⟩
        case measure => simp [intOf]; omega)
    · have hidx : ∀ w, (Instr.index 48 (.agg opC) (.int .i64 2)).run Tryd.prog w = .ok (.string ⟨#[120, 111, 114]⟩) w := fun _ => by kernel_rfl
      obtain ⟨W2, hW2⟩ : ∃ W2, (wr.alloc (.cells #[.int .i64 2, .int .i64 x, .int .i64 y] 46)).alloc (.cells #[.int .i64 x, .int .i64 y] 3) = W2 := ⟨_, rfl⟩
      obtain ⟨gb, hgb⟩ : ∃ gb, wr.heap.size = gb := ⟨_, rfl⟩
      have hBW : Below wr.heap.size wr W2 := by rw [← hW2]; exact ((Below.refl _ _).alloc (Nat.le_refl _) _).alloc (by simp) _
      have hsW : W2.heap.size = gb + 2 := by rw [← hW2, ← hgb]; simp
      have e0 : W2.cell? ⟨gb, 0, none⟩ = some (.int .i64 2) := by
        rw [← hW2, ← hgb]
        exact (World.cell?_of_block (a := ⟨wr.heap.size, 0, none⟩) (Below.heap_alloc _ _ _ (by simp))).trans (cells_newS wr [.int .i64 2, .int .i64 x, .int .i64 y] 46 0 _ rfl)
      have hRW : RI W2 W2.heap.size (some ⟨gb + 1, 0, none⟩) 2 [x, y] := by
        refine ⟨rfl, fun _ => ⟨_, rfl, by show gb + 1 < _; omega, fun j u hu => ?_⟩⟩
        rw [lit_add, Nat.zero_add]
        have hq : (wr.alloc (.cells #[.int .i64 2, .int .i64 x, .int .i64 y] 46)).heap.size = gb + 1 := by rw [← hgb]; simp
        rw [← hW2, ← hq]
        exact cells_newS _ [.int .i64 x, .int .i64 y] _ j u hu
      have HJ := Lib.hid (fun (W : World) (hW : Below W2.heap.size W2 W) => joinedI (some ⟨gb + 1, 0, none⟩) 2 2 [x, y] W (hRW.up (Nat.le_refl _) hW (Nat.le_refl _)) (by omega) (by omega) (by intro z hz; simp at hz; rcases hz with rfl | rfl <;> omega))
      obtain ⟨sJ, hsJ⟩ : ∃ s : ByteArray, (⟨(Lib.join (([x, y] : List Int).map dgL) [32]).toArray⟩ : ByteArray) = s := ⟨_, rfl⟩
      have hzJ : sJ.size = 3 := by rw [← hsJ, str_size]; rfl
      have HSJ := Lib.hid (show sJ.data.toList = Lib.join (wdL 2 x y) [32] by rw [← hsJ]; simp [wdL])
      unfold GivesS at HJ
      rw [hsJ] at HJ
      obtain ⟨sB, addB, lB, zB⟩ := app_ok ⟨#[120, 111, 114]⟩ ⟨#[32]⟩ 1 (by decide) rfl (by omega)
      have hzB : sB.size = 4 := by rw [zB]; rfl
      obtain ⟨sT, addT, lT, zT⟩ := app_ok sB sJ 3 (by omega) hzJ (by omega)
      have HT := Lib.hid (show sT.data.toList = tsK zs k by rw [HG.out, lT, lB, HSJ.out, ← tsL_join]; simp [nmL])
      clear lB zB lT zT hzJ hzB hsJ hRW
      have HO2 := Lib.hid (HO.out.below hBW (Nat.le_refl _))
      have HOl := Lib.hid HO.out.lt
      have hBR := hB.trans (hBW.mono hs)
      have hsR := hBR.size
      have HW2 := Lib.hid hW2
      have HGB := Lib.hid hgb
      have hgbs : gb < W2.heap.size := by omega
      clear hW2 hgb hBW
      go_wp2_with fail
      simp only [HGB.out] at *
      rw [HW2.out]
      have hTd := below_drew W2
      have HK4 := Lib.hid (fun (W W4 : World) (hW : Below W2.heap.size W2 W) (hg : W.grownBy W4 (Value.slice A' k c').ownBlock) => (World.cell?_of_block (a := ⟨gb, 0, none⟩) (hg.block gb (by have := hW.size; omega) (fun e => by have := (HOl.out gb e.symm).2; omega))).trans ((World.cell?_of_block (a := ⟨gb, 0, none⟩) (hW.block gb hgbs)).trans e0))
      have HK := Lib.hid (fun (W : World) (hW : Below W2.heap.size W2 W) => (World.cell?_of_block (a := ⟨gb, 0, none⟩) (hW.block gb hgbs)).trans e0)
      go_region_held3 (fun w' => w'.cell? ⟨gb, 0, none⟩ = some (.int .i64 2)) (first | go_keep | exact HKA.out | exact HKT.out | exact HKB.out)
        (first | (go_at_call 23; (refine (opNamesI _).mono ?_); rintro e wa ⟨rfl, hba⟩; (have hTa : Below W2.heap.size W2 wa := (by first | exact hTb.trans (hba.mono hTb.size) | exact hTd.trans hba)); (have HKA := Lib.hid (HK.out _ hTa)); (clear hba)) | (go_at_call 24; (refine (HJ.out _ (by first | exact hTa | exact hTd)).mono ?_); rintro e wb ⟨rfl, hbb⟩; (have hTb : Below W2.heap.size W2 wb := (by first | exact hTa.trans (hbb.mono hTa.size) | exact hTd.trans hbb)); (have HKB := Lib.hid (HK.out _ hTb)); (clear hbb)) | ((refine step_pushT _ sT rfl _ _ rfl w2.heap.size A' k c' (((List.range k).map (tsK zs)).map fun l => (⟨l.toArray⟩ : ByteArray)) rfl _ rfl rfl (by first | exact HO2.out.below hTb (Nat.le_refl _) | exact HO2.out.below hTa (Nat.le_refl _)) (by omega) (by first | exact Nat.le_trans hsR hTb.size | exact Nat.le_trans hsR hTa.size) ?_); intro A4 c4 w4 hO4 hg4; (have HKT := Lib.hid (by first | exact HK4.out _ _ hTb hg4 | exact HK4.out _ _ hTa hg4))))
      all_goals (
        have hB4 : Below w2.heap.size w2 w4 := by first | exact (hBR.trans (hTb.mono hsR)).grown hg4 (Nat.le_trans hsR hTb.size) (fun q e => (HOl.out q e).1) | exact (hBR.trans (hTa.mono hsR)).grown hg4 (Nat.le_trans hsR hTa.size) (fun q e => (HOl.out q e).1)
        go_wp2
        go_roundw
        case rel => exact ⟨k + 1, _, _, by omega, by go_num, rfl, by show OT _ _ _ _ _ _; rw [← fxL_ls zs k sT HT.out]; exact hO4, hB4⟩
        case measure => simp [intOf]; omega)
    · have hidx : ∀ w, (Instr.index 48 (.agg opC) (.int .i64 3)).run Tryd.prog w = .ok (.string ⟨#[110, 111, 116]⟩) w := fun _ => by kernel_rfl
      obtain ⟨W2, hW2⟩ : ∃ W2, (wr.alloc (.cells #[.int .i64 3, .int .i64 x, .int .i64 y] 46)).alloc (.cells #[.int .i64 x, .int .i64 y] 3) = W2 := ⟨_, rfl⟩
      obtain ⟨gb, hgb⟩ : ∃ gb, wr.heap.size = gb := ⟨_, rfl⟩
      have hBW : Below wr.heap.size wr W2 := by rw [← hW2]; exact ((Below.refl _ _).alloc (Nat.le_refl _) _).alloc (by simp) _
      have hsW : W2.heap.size = gb + 2 := by rw [← hW2, ← hgb]; simp
      have e0 : W2.cell? ⟨gb, 0, none⟩ = some (.int .i64 3) := by
        rw [← hW2, ← hgb]
        exact (World.cell?_of_block (a := ⟨wr.heap.size, 0, none⟩) (Below.heap_alloc _ _ _ (by simp))).trans (cells_newS wr [.int .i64 3, .int .i64 x, .int .i64 y] 46 0 _ rfl)
      have hRW : RI W2 W2.heap.size (some ⟨gb + 1, 0, none⟩) 1 [x] := by
        refine ⟨rfl, fun _ => ⟨_, rfl, by show gb + 1 < _; omega, fun j u hu => ?_⟩⟩
        rw [lit_add, Nat.zero_add]
        have hq : (wr.alloc (.cells #[.int .i64 3, .int .i64 x, .int .i64 y] 46)).heap.size = gb + 1 := by rw [← hgb]; simp
        rw [← hW2, ← hq]
        refine cells_newS _ [.int .i64 x, .int .i64 y] _ j u ?_
        rcases j with _ | j
        · exact hu
        · simp at hu
      have HJ := Lib.hid (fun (W : World) (hW : Below W2.heap.size W2 W) => joinedI (some ⟨gb + 1, 0, none⟩) 1 2 [x] W (hRW.up (Nat.le_refl _) hW (Nat.le_refl _)) (by omega) (by omega) (by intro z hz; simp at hz; omega))
      obtain ⟨sJ, hsJ⟩ : ∃ s : ByteArray, (⟨(Lib.join (([x] : List Int).map dgL) [32]).toArray⟩ : ByteArray) = s := ⟨_, rfl⟩
      have hzJ : sJ.size = 1 := by rw [← hsJ, str_size]; rfl
      have HSJ := Lib.hid (show sJ.data.toList = Lib.join (wdL 3 x y) [32] by rw [← hsJ]; simp [wdL])
      unfold GivesS at HJ
      rw [hsJ] at HJ
      obtain ⟨sB, addB, lB, zB⟩ := app_ok ⟨#[110, 111, 116]⟩ ⟨#[32]⟩ 1 (by decide) rfl (by omega)
      have hzB : sB.size = 4 := by rw [zB]; rfl
      obtain ⟨sT, addT, lT, zT⟩ := app_ok sB sJ 1 (by omega) hzJ (by omega)
      have HT := Lib.hid (show sT.data.toList = tsK zs k by rw [HG.out, lT, lB, HSJ.out, ← tsL_join]; simp [nmL])
      clear lB zB lT zT hzJ hzB hsJ hRW
      have HO2 := Lib.hid (HO.out.below hBW (Nat.le_refl _))
      have HOl := Lib.hid HO.out.lt
      have hBR := hB.trans (hBW.mono hs)
      have hsR := hBR.size
      have HW2 := Lib.hid hW2
      have HGB := Lib.hid hgb
      have hgbs : gb < W2.heap.size := by omega
      clear hW2 hgb hBW
      go_wp2_with fail
      simp only [HGB.out] at *
      rw [HW2.out]
      have hTd := below_drew W2
      have HK4 := Lib.hid (fun (W W4 : World) (hW : Below W2.heap.size W2 W) (hg : W.grownBy W4 (Value.slice A' k c').ownBlock) => (World.cell?_of_block (a := ⟨gb, 0, none⟩) (hg.block gb (by have := hW.size; omega) (fun e => by have := (HOl.out gb e.symm).2; omega))).trans ((World.cell?_of_block (a := ⟨gb, 0, none⟩) (hW.block gb hgbs)).trans e0))
      have HK := Lib.hid (fun (W : World) (hW : Below W2.heap.size W2 W) => (World.cell?_of_block (a := ⟨gb, 0, none⟩) (hW.block gb hgbs)).trans e0)
      go_region_held3 (fun w' => w'.cell? ⟨gb, 0, none⟩ = some (.int .i64 3)) (first | go_keep | exact HKA.out | exact HKT.out | exact HKB.out)
        (first | (go_at_call 23; (refine (opNamesI _).mono ?_); rintro e wa ⟨rfl, hba⟩; (have hTa : Below W2.heap.size W2 wa := (by first | exact hTb.trans (hba.mono hTb.size) | exact hTd.trans hba)); (have HKA := Lib.hid (HK.out _ hTa)); (clear hba)) | (go_at_call 24; (refine (HJ.out _ (by first | exact hTa | exact hTd)).mono ?_); rintro e wb ⟨rfl, hbb⟩; (have hTb : Below W2.heap.size W2 wb := (by first | exact hTa.trans (hbb.mono hTa.size) | exact hTd.trans hbb)); (have HKB := Lib.hid (HK.out _ hTb)); (clear hbb)) | ((refine step_pushT _ sT rfl _ _ rfl w2.heap.size A' k c' (((List.range k).map (tsK zs)).map fun l => (⟨l.toArray⟩ : ByteArray)) rfl _ rfl rfl (by first | exact HO2.out.below hTb (Nat.le_refl _) | exact HO2.out.below hTa (Nat.le_refl _)) (by omega) (by first | exact Nat.le_trans hsR hTb.size | exact Nat.le_trans hsR hTa.size) ?_); intro A4 c4 w4 hO4 hg4; (have HKT := Lib.hid (by first | exact HK4.out _ _ hTb hg4 | exact HK4.out _ _ hTa hg4))))
      all_goals (
        have hB4 : Below w2.heap.size w2 w4 := by first | exact (hBR.trans (hTb.mono hsR)).grown hg4 (Nat.le_trans hsR hTb.size) (fun q e => (HOl.out q e).1) | exact (hBR.trans (hTa.mono hsR)).grown hg4 (Nat.le_trans hsR hTa.size) (fun q e => (HOl.out q e).1)
        go_wp2
        go_roundw
        case rel => exact ⟨k + 1, _, _, by omega, by go_num, rfl, by show OT _ _ _ _ _ _; rw [← fxL_ls zs k sT HT.out]; exact hO4, hB4⟩
        case measure => simp [intOf]; omega)
end Go.Proofs.YtkpjlkahebeljaaDoor

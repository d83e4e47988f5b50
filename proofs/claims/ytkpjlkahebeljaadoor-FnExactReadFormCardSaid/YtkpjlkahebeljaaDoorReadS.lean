/- Contract: the reference's ReadForm. -/
import Derived.Test.YtkpjlkahebeljaaDoorDigS
import Derived.Test.YtkpjlkahebeljaaDoorSplitI
import Derived.Deep.RegionHeld3
import Derived.Deep.DrawnRows
namespace Go.Proofs.YtkpjlkahebeljaaDoor
open Go.RowKit
set_option linter.unusedVariables false
/-- which name it is, among the first k -/
def opP (q : List UInt8) (k : Nat) : Int := if opS q < k then opS q else -1
theorem opS_ge (q : List UInt8) : -1 ≤ opS q ∧ opS q ≤ 3 := by
  unfold opS
  split
  · omega
  · split
    · omega
    · split
      · omega
      · split <;> omega
theorem opP_zero (q : List UInt8) : opP q 0 = -1 := by
  have := opS_ge q
  unfold opP
  split <;> omega
theorem opP_four (q : List UInt8) : opP q 4 = opS q := by
  have := opS_ge q
  unfold opP
  rw [if_pos (by omega)]
theorem opP_hit {q : List UInt8} {k : Nat} (hk : k < 4) (h : q = nmL k) : opP q (k + 1) = k := by
  have e : opS q = k := by rw [h]; exact opS_nm (by omega)
  unfold opP
  rw [e, if_pos (by omega)]
theorem opP_miss {q : List UInt8} {k : Nat} (hk : k < 4) (h : ¬ q = nmL k) : opP q (k + 1) = opP q k := by
  have e : opS q ≠ k := by
    intro e
    apply h
    unfold opS at e
    split at e
    · rename_i h'; rw [h', ← e]
    · split at e
      · rename_i h'; rw [h', ← e]
      · split at e
        · rename_i h'; rw [h', ← e]
        · split at e
          · rename_i h'; rw [h', ← e]
          · omega
  have := opS_ge q
  unfold opP
  by_cases h1 : opS q < (k : Int)
  · rw [if_pos h1, if_pos (by omega)]
  · rw [if_neg h1, if_neg (by omega)]
theorem rows_apart {W : World} {b1 b2 : Nat} {e1 e2 : TypeId} {s1 s2 n1 n2 : Nat} {v1 v2 : Value} {x1 x2 : List Value} (h1 : W.ownsRow b1 e1 s1 v1 n1 x1) (h2 : W.ownsRow b2 e2 s2 v2 n2 x2) (hne : e1 ≠ e2) : v1.ownBlock = none ∨ v1.ownBlock ≠ v2.ownBlock := by
  rcases h1.2 with ⟨rfl, _⟩ | ⟨g, cap, cur, rfl, _, hg, _⟩
  · exact .inl rfl
  · rcases h2.2 with ⟨rfl, _⟩ | ⟨g', cap', cur', rfl, _, hg', _⟩
    · exact .inr (by simp [Value.ownBlock])
    · refine .inr (fun e => ?_)
      simp [Value.ownBlock] at e
      subst e
      rw [hg] at hg'
      injection hg' with hg'
      injection hg' with _ ht _
      exact hne ht
/-- append of a step that stands in a block of its own -/
theorem wpList_pushK {ops : Array Oper} {rest : List Oper} {o : Oper} {a : Act} {Q : Exit → Act → World → Prop} (w0 : World) (x y z : Int) (hgd : o.guard = none) (s t : Operand)
    (ho : o.op = .call { callee := .builtin .append, args := #[s, t], argTypes := #[23, 23] })
    (base : Nat) (A : Option Addr) (n c : Nat) (zs : List Int) (hs : a.eval s = .slice A n c) (g : Nat) (hx : a.eval t = .slice (some ⟨g, 0, none⟩) 1 1) (hgs : w0.heap.size = g) (hO : OF 46 3 w0 base A n c zs)
    (hn : n + 1 ≤ 1099511627776) (hb : base ≤ w0.heap.size)
    (h : ∀ A' c' w', OF 46 3 w' base A' (n + 1) c' (zs ++ [x, y, z]) → w0.grownBy w' (Value.slice A n c).ownBlock → wpList Tryd.prog ops Q rest (a.put o.dst (.slice A' (n + 1) c')) w') :
    wpList Tryd.prog ops Q (o :: rest) a (w0.alloc (.cells #[.int .i64 x, .int .i64 y, .int .i64 z] 46)) := by
  subst hgs
  obtain ⟨i0, hi, hz0, hz1, hz2⟩ := info_parts infoStep
  refine wpList_append_own _ hgd s t 23 ho base 46 i0 _ 3 24 Tryd.underlying23 hi hz0 hz1 hz2 rfl (by decide) _ n _ hs (World.ownsRow.alloc hO _) ⟨w0.heap.size, 0, none⟩ 1 1 [.int .i64 x, .int .i64 y, .int .i64 z] hx rfl
    (fun j u hu => by rw [lit_add, Nat.zero_add]; exact cells_newS w0 [.int .i64 x, .int .i64 y, .int .i64 z] _ j u hu) (by simp [Value.oneCell']) (by unfold maxLen; omega) (by omega) (by simp; omega) ?_
  intro v' w' hown' hg _
  obtain ⟨A', c', rfl, hO'⟩ := OF.of (zs := zs ++ [x, y, z]) hown' (by simp)
  exact h A' c' w' hO' ((World.grownBy_alloc w0 _ _).trans hg)
theorem stS_len (p : List UInt8) : (stS p).length = 3 := by
  unfold stS
  generalize spl 32 p = q
  match q with
  | [] => rfl
  | [_] => rfl
  | [_, _] => rfl
  | _ :: _ :: _ :: _ => rfl
theorem flat_len3 (ps : List (List UInt8)) : (ps.flatMap stS).length = ps.length * 3 := by
  induction ps with
  | nil => rfl
  | cons p ps ih => rw [List.flatMap_cons, List.length_append, ih, stS_len, List.length_cons]; omega
/-- a text of a slice of texts that the call owns -/
theorem OT.at_ {w : World} {base : Nat} {A : Option Addr} {n c : Nat} {ls : List (List UInt8)} (h : OT w base A n c (baL ls)) {k : Nat} (hk : k < n) :
    ∃ ad l s, A = some ad ∧ ad.block < w.heap.size ∧ ls[k]? = some l ∧ s.data.toList = l ∧ w.cell? (ad.add k) = some (.string s) := by
  have hR : Reads w w.heap.size A n ((baL ls).map .string) := Reads.of_own h
  obtain ⟨ad, u, rfl, hb, hu, hc⟩ := hR.at_ hk
  unfold baL at hu
  rw [List.map_map, List.getElem?_map] at hu
  obtain ⟨l, hl, rfl⟩ := Option.map_eq_some_iff.1 hu
  exact ⟨ad, l, ⟨l.toArray⟩, rfl, hb, hl, by simp, hc⟩
theorem stepFacts {W : World} {gx : Nat} {a b c : Value} (hx : W.heap[gx]? = some (.cells #[a, b, c] 46 (0, 0))) :
    W.cell? ⟨gx, 0, none⟩ = some a ∧ W.cell? ⟨gx, 1, none⟩ = some b ∧ W.cell? ⟨gx, 2, none⟩ = some c ∧ W.frozen? ⟨gx, 1, none⟩ = false ∧ W.frozen? ⟨gx, 2, none⟩ = false :=
  ⟨(cell_of_row W gx 0 _ _ (0, 0) hx).trans rfl, (cell_of_row W gx 1 _ _ (0, 0) hx).trans rfl, (cell_of_row W gx 2 _ _ (0, 0) hx).trans rfl, frozen_of_row W gx 1 _ _ hx, frozen_of_row W gx 2 _ _ hx⟩
/-- what the reference's ReadForm gives -/
def ReadQ (q : Int) (s : ByteArray) (w : World) (e : Ending) (w' : World) : Prop := Below w.heap.size w w' ∧
  ((∃ A c, e = .returned (.tuple #[.slice A 0 c, .bool false]) ∧ ∀ n us, ¬ Vd q (bL s) n us) ∨
   (∃ A n c zs, e = .returned (.tuple #[.slice A n c, .bool true]) ∧ OFI 46 3 w' w.heap.size A n c zs ∧ Vd q (bL s) n zs))
set_option maxRecDepth 100000 in
set_option maxHeartbeats 16000000 in
theorem readFormS (q : Int) (s : ByteArray) (w : World) (hs : s.size ≤ 1048576) : Calls Tryd.prog 14 #[.int .i64 q, .string s] w (ReadQ q s w) := by
  have HE0 := Lib.hid (show OF 46 3 (w.alloc (.cells #[] 46)) w.heap.size (some ⟨w.heap.size, 0, none⟩) 0 0 [] from OF.empty w)
  have hB0 : Below w.heap.size w (w.alloc (.cells #[] 46)) := (Below.refl _ _).alloc (Nat.le_refl _) _
  go_enter Tryd.func14, Tryd.ntmps14
  go_wp2_with (go_at_call 35; refine (l1CutS s 59 _ (by omega)).mono ?_; rintro e w1 ⟨Ap, cp, rfl, hP, hB1⟩)
  have hs1 := hB1.size
  obtain ⟨ps, hps⟩ : ∃ ps, spl 59 s.data.toList = ps := ⟨_, rfl⟩
  rw [hps] at hP ⊢
  have hpl : ps.length ≤ 1048577 := by
    have h1 := spl_len 59 s.data.toList
    rw [hps] at h1
    have h2 : s.data.toList.length = s.size := by simp
    omega
  have HPS := Lib.hid hps
  have HP1 := Lib.hid hP
  have HE1 := Lib.hid (HE0.out.below hB1 (Nat.le_refl _))
  replace hB1 := hB0.trans (hB1.mono hB0.size)
  clear hps hP
  go_loopw [6, 8] (fun v i wr => ∃ (k : Nat) (A' : Option Addr) (c' : Nat), k ≤ ps.length ∧ i = .int .i64 k ∧ v = .slice A' k c' ∧ Hid (OF 46 3 wr w.heap.size A' k c' ((ps.take k).flatMap stS)) ∧ Hid (OT wr (w.alloc (.cells #[] 46)).heap.size Ap ps.length cp (baL ps)) ∧ Below w.heap.size w wr)
    (fun _ i _ => ps.length - (intOf i).toNat)
  case atStart => exact ⟨0, _, _, Nat.zero_le _, rfl, rfl, HE1, HP1, hB1⟩
  case round =>
    obtain ⟨k, A', c', hk, rfl, rfl, HO, HP, hB⟩ := hrel
    have hsz := hB.size
    by_cases hlt : k < ps.length
    rotate_left
    · obtain rfl : k = ps.length := by omega
      have hO := HO.out
      rw [List.take_of_length_le (Nat.le_refl _)] at hO
      have hzl := flat_len3 ps
      obtain ⟨n, hn⟩ : ∃ n, ps.length = n := ⟨_, rfl⟩
      have hrd : rdS (bL s) = ps.flatMap stS := by unfold rdS; rw [show spl 59 (bL s) = ps from HPS.out]
      obtain ⟨zs, hzs⟩ : ∃ zs, ps.flatMap stS = zs := ⟨_, rfl⟩
      rw [hzs] at hO hzl hrd
      rw [hn] at hO hzl hpl ⊢
      have HOO := Lib.hid hO
      have HZL := Lib.hid hzl
      have HRD := Lib.hid hrd
      have hVd : ∀ m us, Vd q (bL s) m us → m = n ∧ us = zs := fun m us h => by
        have h1 := (vd_rd h).1
        rw [hrd] at h1
        have h2 := h.1
        rw [← h1, hzl] at h2
        exact ⟨by omega, h1.symm⟩
      have HVd := Lib.hid hVd
      have HF := Lib.hid (formTextS q A' n zs c' wr hO.reads (by omega))
      unfold GivesS at HF
      clear hO hzl hrd hVd hzs HP HO hlt
      by_cases he : bL s = []
      · have hse : (s.toList == []) = true := by rw [ByteArray.toList_eq]; exact beq_iff_eq.2 he
        have HN := Lib.hid (show ∀ m us, ¬ Vd q (bL s) m us from fun m us h => (vd_rd h).2.2 he)
        clear he
        go_wp2
        go_ret2
        exact ⟨hB.alloc hsz _, .inl ⟨_, _, rfl, HN.out⟩⟩
      · have hse : (s.toList == []) = false := by rw [ByteArray.toList_eq]; exact beq_eq_false_iff_ne.2 he
        by_cases hT : fxF q n zs = bL s
        · have hTx : (⟨(fxF q n zs).toArray⟩ : ByteArray) = s := by rw [hT]
          rw [hTx] at HF
          have HV := Lib.hid (vd_of HZL.out he hT)
          clear hT hTx he
          go_wp2_with (go_at_call 9; refine HF.out.mono ?_; rintro e w3 ⟨rfl, hb3⟩)
          go_ret2
          exact ⟨hB.trans (hb3.mono hsz), .inr ⟨_, _, _, zs, rfl, OF.toI (show OF 46 3 _ w.heap.size A' n c' zs from ownsRow_up HOO.out hb3), HV.out⟩⟩
        · obtain ⟨T, hTx⟩ : ∃ T : ByteArray, (⟨(fxF q n zs).toArray⟩ : ByteArray) = T := ⟨_, rfl⟩
          have hne : (T.toList == s.toList) = false := by
            rw [beq_eq_false_iff_ne, ByteArray.toList_eq, ByteArray.toList_eq, ← hTx]
            exact hT
          rw [hTx] at HF
          have HN := Lib.hid (show ∀ m us, ¬ Vd q (bL s) m us from fun m us h => by
            obtain ⟨rfl, rfl⟩ := HVd.out m us h
            exact hT h.2.2)
          clear hT hTx he
          go_wp2_with (go_at_call 9; refine HF.out.mono ?_; rintro e w3 ⟨rfl, hb3⟩; have hs3 := hb3.size)
          go_ret2
          exact ⟨(hB.trans (hb3.mono hsz)).alloc (by omega) _, .inl ⟨_, _, rfl, HN.out⟩⟩
    have hki : (k : Int) < (ps.length : Int) := by omega
    obtain ⟨ad0, l, p, rfl, hb0, hl, hpp, hc0⟩ := HP.out.at_ hlt
    have hpz : p.size ≤ 1048577 := by
      have h1 := spl_mem 59 s.data.toList l (by rw [HPS.out]; exact List.mem_of_getElem? hl)
      rw [← hpp] at h1
      have h2 : p.data.toList.length = p.size := by simp
      have h3 : s.data.toList.length = s.size := by simp
      omega
    have HT := Lib.hid (show ps.take (k + 1) = ps.take k ++ [bL p] by rw [List.take_add_one, hl, show bL p = l from hpp]; rfl)
    clear hl hpp
    go_wp2_with (go_at_call 35; refine (l1CutS p 32 _ hpz).mono ?_; rintro e w2 ⟨Aw, cw, rfl, hW, hB2⟩)
    obtain ⟨ws, hws⟩ : ∃ ws, spl 32 p.data.toList = ws := ⟨_, rfl⟩
    rw [hws] at hW ⊢
    have hw0 : 0 < ws.length := by
      have := spl_ne 32 p.data.toList
      rw [hws] at this
      cases ws with
      | nil => exact absurd rfl this
      | cons a l => simp
    obtain ⟨ad, ql, q0, rfl, hba, hql, hqq, hcq⟩ := hW.at_ hw0
    subst hqq
    have HQL := Lib.hid hql
    clear hql
    have hcq' : w2.cell? ad = some (.string q0) := by simpa [Addr.add] using hcq
    obtain ⟨gx, hgx⟩ : ∃ g, w2.heap.size = g := ⟨_, rfl⟩
    obtain ⟨wA, hwA⟩ : ∃ W, w2.alloc (.cells #[.int .i64 (-1), .int .i64 0, .int .i64 0] 46) = W := ⟨_, rfl⟩
    rw [hgx, hwA]
    have hBA : Below gx w2 wA := by rw [← hwA, ← hgx]; exact (Below.refl _ _).alloc (Nat.le_refl _) _
    have hxA : wA.heap[gx]? = some (.cells #[.int .i64 (opP (bL q0) 0), .int .i64 0, .int .i64 0] 46 (0, 0)) := by rw [← hwA, ← hgx, opP_zero]; exact World.alloc_heap_new w2 _
    have hsA : wA.heap.size = gx + 1 := by rw [← hwA, ← hgx]; simp
    have HW := Lib.hid hW
    have HGX := Lib.hid hgx
    have hB2s := hB2.size
    have hbg : ad.block < gx := by rw [← hgx]; exact hba
    have HWS := Lib.hid hws
    have hwg : wr.heap.size ≤ gx := by rw [← hgx]; exact hB2s
    clear hW hgx hwA hws hcq hba hc0
    go_loopw [11] (fun i wi => ∃ j : Nat, j ≤ 4 ∧ i = .int .i64 j ∧ wi.heap[gx]? = some (.cells #[.int .i64 (opP (bL q0) j), .int .i64 0, .int .i64 0] 46 (0, 0)) ∧ Below gx wA wi)
      (fun i _ => 4 - (intOf i).toNat)
    case atStart => exact ⟨0, by omega, rfl, hxA, Below.refl _ _⟩
    case round =>
      obtain ⟨wi, hwi⟩ : ∃ W, W = wr := ⟨_, rfl⟩
      subst hwi
      obtain ⟨j, hj, rfl, hx, hBi⟩ := hrel
      have hsi := hBi.size
      rw [hsA] at hsi
      have hgl : gx < wi.heap.size := by omega
      have hq0 : wi.cell? ad = some (.string q0) := (World.cell?_of_block (a := ad) ((hBi.block ad.block hbg).trans (hBA.block ad.block hbg))).trans hcq'
      have hw0I : (0 : Int) < (ws.length : Int) := by omega
      have hcx := (cell_of_row wi gx 0 _ _ (0, 0) hx).trans rfl
      have hfx := frozen_of_row wi gx 0 _ _ hx
      have hx2 : (wi.drew.alloc (.cells #[.string ⟨#[97, 110, 100]⟩, .string ⟨#[111, 114]⟩, .string ⟨#[120, 111, 114]⟩, .string ⟨#[110, 111, 116]⟩] 9)).heap[gx]? = _ := (Below.heap_alloc _ _ _ hgl).trans hx
      have hBn : Below gx wA (wi.drew.alloc (.cells #[.string ⟨#[97, 110, 100]⟩, .string ⟨#[111, 114]⟩, .string ⟨#[120, 111, 114]⟩, .string ⟨#[110, 111, 116]⟩] 9)) := hBi.drew.alloc (by show gx ≤ wi.heap.size; omega) _
      by_cases hj0 : j = 0
      · subst hj0
        by_cases hq : bL q0 = nmL 0
        · have hqe : (q0.toList == [97, 110, 100]) = true := by rw [beq_iff_eq, ByteArray.toList_eq]; exact hq
          have HO := Lib.hid (opP_hit (k := 0) (by decide) hq)
          clear hq
          go_wp2_with fail
          refine wp_region_held_drew (S := fun w' => w'.cell? ad = some (.string q0)) (by kernel_rfl) hq0 (fun hHeld => ?_)
          refine wpAnyH_take (i := 0) (oi := _) (v := ?_) rfl (by kernel_rfl) (by kernel_rfl) (by kernel_rfl) (fun _ _ _ h => h) (Or.inl ⟨by rfl, ?_⟩) (by assumption) ?_
          rotate_left
          · (intro w hSw; (try dsimp only at hSw); go_simp; all_goals with_reducible rfl)
          try simp only [Act.put, List.setIfInBounds_toArray]
          refine wpAnyH_take (i := 1) (oi := _) (v := ?_) rfl (by kernel_rfl) (by kernel_rfl) (by kernel_rfl) (fun _ _ _ h => h) (Or.inl ⟨by rfl, ?_⟩) (by assumption) ?_
          rotate_left
          · (intro w hSw; (try dsimp only at hSw); go_simp; all_goals with_reducible rfl)
          try simp only [Act.put]
          refine wpAnyH_take (i := 2) (oi := _) (v := ?_) rfl (by kernel_rfl) (by kernel_rfl) (by kernel_rfl) (fun _ _ _ h => h) (Or.inl ⟨by rfl, ?_⟩) (by assumption) ?_
          rotate_left
          · (intro w hSw; (try dsimp only at hSw); go_simp; all_goals with_reducible rfl)
          try simp only [Act.put]
          refine wpAnyH_take (i := 4) (oi := _) (v := ?_) rfl (by kernel_rfl) (by kernel_rfl) (by kernel_rfl) (fun _ _ _ h => h) (Or.inl ⟨by rfl, ?_⟩) (by assumption) ?_
          rotate_left
          · (intro w hSw; (try dsimp only at hSw); go_simp; all_goals with_reducible rfl)
          try simp only [Act.put]
          refine wpAnyH_ready (rs := [3]) (by kernel_rfl) (by simp) ?_
          refine AllReadyH.cons (o := _) rfl (fun K hK => ?_) AllReadyH.nil
          go_simp
          refine hK.out _ _ ?_ (fun hHeld => ?_)
          · (try dsimp only); go_keep
          clear hK K
          try simp only [Act.put, List.setIfInBounds_toArray, List.set_cons_zero, List.set_cons_succ]
          refine wpAnyH_sub (S2 := fun w' => w'.cell? ad = some (.string q0) ∧ w'.cell? ⟨wi.heap.size, 0, none⟩ = some (.string ⟨#[97, 110, 100]⟩)) (fun _ h => h.1) _ _ _ _ ?_
          have hHeld2 := And.intro hHeld (cells_newS wi.drew [.string ⟨#[97, 110, 100]⟩, .string ⟨#[111, 114]⟩, .string ⟨#[120, 111, 114]⟩, .string ⟨#[110, 111, 116]⟩] 9 0 _ rfl)
          clear hHeld
          refine wpAnyH_take (i := 5) (oi := _) (v := ?_) rfl (by kernel_rfl) (by kernel_rfl) (by kernel_rfl) (fun _ _ _ h => h) (Or.inl ⟨by rfl, ?_⟩) (by assumption) ?_
          rotate_left
          · (intro w hSw; (try dsimp only at hSw); go_simp; all_goals with_reducible rfl)
          try simp only [Act.put, List.setIfInBounds_toArray]
          refine wpAnyH_take (i := 6) (oi := _) (v := ?_) rfl (by kernel_rfl) (by kernel_rfl) (by kernel_rfl) (fun _ _ _ h => h) (Or.inl ⟨by rfl, ?_⟩) (by assumption) ?_
          rotate_left
          · (intro w hSw; (try dsimp only at hSw); go_simp; all_goals with_reducible rfl)
          try simp only [Act.put]
          refine wpAnyH_take (i := 7) (oi := _) (v := ?_) rfl (by kernel_rfl) (by kernel_rfl) (by kernel_rfl) (fun _ _ _ h => h) (Or.inl ⟨by rfl, ?_⟩) (by assumption) ?_
          rotate_left
          · (intro w hSw; (try dsimp only at hSw); go_simp; all_goals with_reducible rfl)
          try simp only [Act.put]
          refine wpAnyH_done (by kernel_rfl) ?_ _
          go_wp2
          go_roundw
          case rel => exact ⟨0 + 1, by omega, by go_num, by rw [HO.out]; exact (Below.heap_alloc _ _ _ (by rw [World.size_setCell]; exact hgl)).trans (heap_setCell_same wi gx 0 _ _ _ hx), by first | exact ((hBi.setCell (p := ⟨gx, 0, none⟩) (Nat.le_refl _) _).alloc (by rw [World.size_setCell]; omega) _).drew | exact (hBi.setCell (p := ⟨gx, 0, none⟩) (Nat.le_refl _) _).alloc (by rw [World.size_setCell]; omega) _⟩
          case measure => simp [intOf]
        · have hqe : (q0.toList == [97, 110, 100]) = false := by rw [beq_eq_false_iff_ne, ByteArray.toList_eq]; exact hq
          have HO := Lib.hid (opP_miss (k := 0) (by decide) hq)
          clear hq
          go_wp2_with fail
          refine wp_region_held_drew (S := fun w' => w'.cell? ad = some (.string q0)) (by kernel_rfl) hq0 (fun hHeld => ?_)
          refine wpAnyH_take (i := 0) (oi := _) (v := ?_) rfl (by kernel_rfl) (by kernel_rfl) (by kernel_rfl) (fun _ _ _ h => h) (Or.inl ⟨by rfl, ?_⟩) (by assumption) ?_
          rotate_left
          · (intro w hSw; (try dsimp only at hSw); go_simp; all_goals with_reducible rfl)
          try simp only [Act.put, List.setIfInBounds_toArray]
          refine wpAnyH_take (i := 1) (oi := _) (v := ?_) rfl (by kernel_rfl) (by kernel_rfl) (by kernel_rfl) (fun _ _ _ h => h) (Or.inl ⟨by rfl, ?_⟩) (by assumption) ?_
          rotate_left
          · (intro w hSw; (try dsimp only at hSw); go_simp; all_goals with_reducible rfl)
          try simp only [Act.put]
          refine wpAnyH_take (i := 2) (oi := _) (v := ?_) rfl (by kernel_rfl) (by kernel_rfl) (by kernel_rfl) (fun _ _ _ h => h) (Or.inl ⟨by rfl, ?_⟩) (by assumption) ?_
          rotate_left
          · (intro w hSw; (try dsimp only at hSw); go_simp; all_goals with_reducible rfl)
          try simp only [Act.put]
          refine wpAnyH_take (i := 4) (oi := _) (v := ?_) rfl (by kernel_rfl) (by kernel_rfl) (by kernel_rfl) (fun _ _ _ h => h) (Or.inl ⟨by rfl, ?_⟩) (by assumption) ?_
          rotate_left
          · (intro w hSw; (try dsimp only at hSw); go_simp; all_goals with_reducible rfl)
          try simp only [Act.put]
          refine wpAnyH_ready (rs := [3]) (by kernel_rfl) (by simp) ?_
          refine AllReadyH.cons (o := _) rfl (fun K hK => ?_) AllReadyH.nil
          go_simp
          refine hK.out _ _ ?_ (fun hHeld => ?_)
          · (try dsimp only); go_keep
          clear hK K
          try simp only [Act.put, List.setIfInBounds_toArray, List.set_cons_zero, List.set_cons_succ]
          refine wpAnyH_sub (S2 := fun w' => w'.cell? ad = some (.string q0) ∧ w'.cell? ⟨wi.heap.size, 0, none⟩ = some (.string ⟨#[97, 110, 100]⟩)) (fun _ h => h.1) _ _ _ _ ?_
          have hHeld2 := And.intro hHeld (cells_newS wi.drew [.string ⟨#[97, 110, 100]⟩, .string ⟨#[111, 114]⟩, .string ⟨#[120, 111, 114]⟩, .string ⟨#[110, 111, 116]⟩] 9 0 _ rfl)
          clear hHeld
          refine wpAnyH_take (i := 5) (oi := _) (v := ?_) rfl (by kernel_rfl) (by kernel_rfl) (by kernel_rfl) (fun _ _ _ h => h) (Or.inl ⟨by rfl, ?_⟩) (by assumption) ?_
          rotate_left
          · (intro w hSw; (try dsimp only at hSw); go_simp; all_goals with_reducible rfl)
          try simp only [Act.put, List.setIfInBounds_toArray]
          refine wpAnyH_take (i := 6) (oi := _) (v := ?_) rfl (by kernel_rfl) (by kernel_rfl) (by kernel_rfl) (fun _ _ _ h => h) (Or.inl ⟨by rfl, ?_⟩) (by assumption) ?_
          rotate_left
          · (intro w hSw; (try dsimp only at hSw); go_simp; all_goals with_reducible rfl)
          try simp only [Act.put]
          refine wpAnyH_take (i := 7) (oi := _) (v := ?_) rfl (by kernel_rfl) (by kernel_rfl) (by kernel_rfl) (fun _ _ _ h => h) (Or.inl ⟨by rfl, ?_⟩) (by assumption) ?_
          rotate_left
          · (intro w hSw; (try dsimp only at hSw); go_simp; all_goals with_reducible rfl)
          try simp only [Act.put]
          refine wpAnyH_done (by kernel_rfl) ?_ _
          go_wp2
          go_roundw
          case rel => exact ⟨0 + 1, by omega, by go_num, by rw [HO.out]; exact hx2, hBn⟩
          case measure => simp [intOf]
      by_cases hj1 : j = 1
      · subst hj1
        by_cases hq : bL q0 = nmL 1
        · have hqe : (q0.toList == [111, 114]) = true := by rw [beq_iff_eq, ByteArray.toList_eq]; exact hq
          have HO := Lib.hid (opP_hit (k := 1) (by decide) hq)
          clear hq
          go_wp2_with fail
          refine wp_region_held_drew (S := fun w' => w'.cell? ad = some (.string q0)) (by kernel_rfl) hq0 (fun hHeld => ?_)
          refine wpAnyH_take (i := 0) (oi := _) (v := ?_) rfl (by kernel_rfl) (by kernel_rfl) (by kernel_rfl) (fun _ _ _ h => h) (Or.inl ⟨by rfl, ?_⟩) (by assumption) ?_
          rotate_left
          · (intro w hSw; (try dsimp only at hSw); go_simp; all_goals with_reducible rfl)
          try simp only [Act.put, List.setIfInBounds_toArray]
          refine wpAnyH_take (i := 1) (oi := _) (v := ?_) rfl (by kernel_rfl) (by kernel_rfl) (by kernel_rfl) (fun _ _ _ h => h) (Or.inl ⟨by rfl, ?_⟩) (by assumption) ?_
          rotate_left
          · (intro w hSw; (try dsimp only at hSw); go_simp; all_goals with_reducible rfl)
          try simp only [Act.put]
          refine wpAnyH_take (i := 2) (oi := _) (v := ?_) rfl (by kernel_rfl) (by kernel_rfl) (by kernel_rfl) (fun _ _ _ h => h) (Or.inl ⟨by rfl, ?_⟩) (by assumption) ?_
          rotate_left
          · (intro w hSw; (try dsimp only at hSw); go_simp; all_goals with_reducible rfl)
          try simp only [Act.put]
          refine wpAnyH_take (i := 4) (oi := _) (v := ?_) rfl (by kernel_rfl) (by kernel_rfl) (by kernel_rfl) (fun _ _ _ h => h) (Or.inl ⟨by rfl, ?_⟩) (by assumption) ?_
          rotate_left
          · (intro w hSw; (try dsimp only at hSw); go_simp; all_goals with_reducible rfl)
          try simp only [Act.put]
          refine wpAnyH_ready (rs := [3]) (by kernel_rfl) (by simp) ?_
          refine AllReadyH.cons (o := _) rfl (fun K hK => ?_) AllReadyH.nil
          go_simp
          refine hK.out _ _ ?_ (fun hHeld => ?_)
          · (try dsimp only); go_keep
          clear hK K
          try simp only [Act.put, List.setIfInBounds_toArray, List.set_cons_zero, List.set_cons_succ]
          refine wpAnyH_sub (S2 := fun w' => w'.cell? ad = some (.string q0) ∧ w'.cell? ⟨wi.heap.size, 1, none⟩ = some (.string ⟨#[111, 114]⟩)) (fun _ h => h.1) _ _ _ _ ?_
          have hHeld2 := And.intro hHeld (cells_newS wi.drew [.string ⟨#[97, 110, 100]⟩, .string ⟨#[111, 114]⟩, .string ⟨#[120, 111, 114]⟩, .string ⟨#[110, 111, 116]⟩] 9 1 _ rfl)
          clear hHeld
          refine wpAnyH_take (i := 5) (oi := _) (v := ?_) rfl (by kernel_rfl) (by kernel_rfl) (by kernel_rfl) (fun _ _ _ h => h) (Or.inl ⟨by rfl, ?_⟩) (by assumption) ?_
          rotate_left
          · (intro w hSw; (try dsimp only at hSw); go_simp; all_goals with_reducible rfl)
          try simp only [Act.put, List.setIfInBounds_toArray]
          refine wpAnyH_take (i := 6) (oi := _) (v := ?_) rfl (by kernel_rfl) (by kernel_rfl) (by kernel_rfl) (fun _ _ _ h => h) (Or.inl ⟨by rfl, ?_⟩) (by assumption) ?_
          rotate_left
          · (intro w hSw; (try dsimp only at hSw); go_simp; all_goals with_reducible rfl)
          try simp only [Act.put]
          refine wpAnyH_take (i := 7) (oi := _) (v := ?_) rfl (by kernel_rfl) (by kernel_rfl) (by kernel_rfl) (fun _ _ _ h => h) (Or.inl ⟨by rfl, ?_⟩) (by assumption) ?_
          rotate_left
          · (intro w hSw; (try dsimp only at hSw); go_simp; all_goals with_reducible rfl)
          try simp only [Act.put]
          refine wpAnyH_done (by kernel_rfl) ?_ _
          go_wp2
          go_roundw
          case rel => exact ⟨1 + 1, by omega, by go_num, by rw [HO.out]; exact (Below.heap_alloc _ _ _ (by rw [World.size_setCell]; exact hgl)).trans (heap_setCell_same wi gx 0 _ _ _ hx), by first | exact ((hBi.setCell (p := ⟨gx, 0, none⟩) (Nat.le_refl _) _).alloc (by rw [World.size_setCell]; omega) _).drew | exact (hBi.setCell (p := ⟨gx, 0, none⟩) (Nat.le_refl _) _).alloc (by rw [World.size_setCell]; omega) _⟩
          case measure => simp [intOf]
        · have hqe : (q0.toList == [111, 114]) = false := by rw [beq_eq_false_iff_ne, ByteArray.toList_eq]; exact hq
          have HO := Lib.hid (opP_miss (k := 1) (by decide) hq)
          clear hq
          go_wp2_with fail
          refine wp_region_held_drew (S := fun w' => w'.cell? ad = some (.string q0)) (by kernel_rfl) hq0 (fun hHeld => ?_)
          refine wpAnyH_take (i := 0) (oi := _) (v := ?_) rfl (by kernel_rfl) (by kernel_rfl) (by kernel_rfl) (fun _ _ _ h => h) (Or.inl ⟨by rfl, ?_⟩) (by assumption) ?_
          rotate_left
          · (intro w hSw; (try dsimp only at hSw); go_simp; all_goals with_reducible rfl)
          try simp only [Act.put, List.setIfInBounds_toArray]
          refine wpAnyH_take (i := 1) (oi := _) (v := ?_) rfl (by kernel_rfl) (by kernel_rfl) (by kernel_rfl) (fun _ _ _ h => h) (Or.inl ⟨by rfl, ?_⟩) (by assumption) ?_
          rotate_left
          · (intro w hSw; (try dsimp only at hSw); go_simp; all_goals with_reducible rfl)
          try simp only [Act.put]
          refine wpAnyH_take (i := 2) (oi := _) (v := ?_) rfl (by kernel_rfl) (by kernel_rfl) (by kernel_rfl) (fun _ _ _ h => h) (Or.inl ⟨by rfl, ?_⟩) (by assumption) ?_
          rotate_left
          · (intro w hSw; (try dsimp only at hSw); go_simp; all_goals with_reducible rfl)
          try simp only [Act.put]
          refine wpAnyH_take (i := 4) (oi := _) (v := ?_) rfl (by kernel_rfl) (by kernel_rfl) (by kernel_rfl) (fun _ _ _ h => h) (Or.inl ⟨by rfl, ?_⟩) (by assumption) ?_
          rotate_left
          · (intro w hSw; (try dsimp only at hSw); go_simp; all_goals with_reducible rfl)
          try simp only [Act.put]
          refine wpAnyH_ready (rs := [3]) (by kernel_rfl) (by simp) ?_
          refine AllReadyH.cons (o := _) rfl (fun K hK => ?_) AllReadyH.nil
          go_simp
          refine hK.out _ _ ?_ (fun hHeld => ?_)
          · (try dsimp only); go_keep
          clear hK K
          try simp only [Act.put, List.setIfInBounds_toArray, List.set_cons_zero, List.set_cons_succ]
          refine wpAnyH_sub (S2 := fun w' => w'.cell? ad = some (.string q0) ∧ w'.cell? ⟨wi.heap.size, 1, none⟩ = some (.string ⟨#[111, 114]⟩)) (fun _ h => h.1) _ _ _ _ ?_
          have hHeld2 := And.intro hHeld (cells_newS wi.drew [.string ⟨#[97, 110, 100]⟩, .string ⟨#[111, 114]⟩, .string ⟨#[120, 111, 114]⟩, .string ⟨#[110, 111, 116]⟩] 9 1 _ rfl)
          clear hHeld
          refine wpAnyH_take (i := 5) (oi := _) (v := ?_) rfl (by kernel_rfl) (by kernel_rfl) (by kernel_rfl) (fun _ _ _ h => h) (Or.inl ⟨by rfl, ?_⟩) (by assumption) ?_
          rotate_left
          · (intro w hSw; (try dsimp only at hSw); go_simp; all_goals with_reducible rfl)
          try simp only [Act.put, List.setIfInBounds_toArray]
          refine wpAnyH_take (i := 6) (oi := _) (v := ?_) rfl (by kernel_rfl) (by kernel_rfl) (by kernel_rfl) (fun _ _ _ h => h) (Or.inl ⟨by rfl, ?_⟩) (by assumption) ?_
          rotate_left
          · (intro w hSw; (try dsimp only at hSw); go_simp; all_goals with_reducible rfl)
          try simp only [Act.put]
          refine wpAnyH_take (i := 7) (oi := _) (v := ?_) rfl (by kernel_rfl) (by kernel_rfl) (by kernel_rfl) (fun _ _ _ h => h) (Or.inl ⟨by rfl, ?_⟩) (by assumption) ?_
          rotate_left
          · (intro w hSw; (try dsimp only at hSw); go_simp; all_goals with_reducible rfl)
          try simp only [Act.put]
          refine wpAnyH_done (by kernel_rfl) ?_ _
          go_wp2
          go_roundw
          case rel => exact ⟨1 + 1, by omega, by go_num, by rw [HO.out]; exact hx2, hBn⟩
          case measure => simp [intOf]
      by_cases hj2 : j = 2
      · subst hj2
        by_cases hq : bL q0 = nmL 2
        · have hqe : (q0.toList == [120, 111, 114]) = true := by rw [beq_iff_eq, ByteArray.toList_eq]; exact hq
          have HO := Lib.hid (opP_hit (k := 2) (by decide) hq)
          clear hq
          go_wp2_with fail
          refine wp_region_held_drew (S := fun w' => w'.cell? ad = some (.string q0)) (by kernel_rfl) hq0 (fun hHeld => ?_)
          refine wpAnyH_take (i := 0) (oi := _) (v := ?_) rfl (by kernel_rfl) (by kernel_rfl) (by kernel_rfl) (fun _ _ _ h => h) (Or.inl ⟨by rfl, ?_⟩) (by assumption) ?_
          rotate_left
          · (intro w hSw; (try dsimp only at hSw); go_simp; all_goals with_reducible rfl)
          try simp only [Act.put, List.setIfInBounds_toArray]
          refine wpAnyH_take (i := 1) (oi := _) (v := ?_) rfl (by kernel_rfl) (by kernel_rfl) (by kernel_rfl) (fun _ _ _ h => h) (Or.inl ⟨by rfl, ?_⟩) (by assumption) ?_
          rotate_left
          · (intro w hSw; (try dsimp only at hSw); go_simp; all_goals with_reducible rfl)
          try simp only [Act.put]
          refine wpAnyH_take (i := 2) (oi := _) (v := ?_) rfl (by kernel_rfl) (by kernel_rfl) (by kernel_rfl) (fun _ _ _ h => h) (Or.inl ⟨by rfl, ?_⟩) (by assumption) ?_
          rotate_left
          · (intro w hSw; (try dsimp only at hSw); go_simp; all_goals with_reducible rfl)
          try simp only [Act.put]
          refine wpAnyH_take (i := 4) (oi := _) (v := ?_) rfl (by kernel_rfl) (by kernel_rfl) (by kernel_rfl) (fun _ _ _ h => h) (Or.inl ⟨by rfl, ?_⟩) (by assumption) ?_
          rotate_left
          · (intro w hSw; (try dsimp only at hSw); go_simp; all_goals with_reducible rfl)
          try simp only [Act.put]
          refine wpAnyH_ready (rs := [3]) (by kernel_rfl) (by simp) ?_
          refine AllReadyH.cons (o := _) rfl (fun K hK => ?_) AllReadyH.nil
          go_simp
          refine hK.out _ _ ?_ (fun hHeld => ?_)
          · (try dsimp only); go_keep
          clear hK K
          try simp only [Act.put, List.setIfInBounds_toArray, List.set_cons_zero, List.set_cons_succ]
          refine wpAnyH_sub (S2 := fun w' => w'.cell? ad = some (.string q0) ∧ w'.cell? ⟨wi.heap.size, 2, none⟩ = some (.string ⟨#[120, 111, 114]⟩)) (fun _ h => h.1) _ _ _ _ ?_
          have hHeld2 := And.intro hHeld (cells_newS wi.drew [.string ⟨#[97, 110, 100]⟩, .string ⟨#[111, 114]⟩, .string ⟨#[120, 111, 114]⟩, .string ⟨#[110, 111, 116]⟩] 9 2 _ rfl)
          clear hHeld
          refine wpAnyH_take (i := 5) (oi := _) (v := ?_) rfl (by kernel_rfl) (by kernel_rfl) (by kernel_rfl) (fun _ _ _ h => h) (Or.inl ⟨by rfl, ?_⟩) (by assumption) ?_
          rotate_left
          · (intro w hSw; (try dsimp only at hSw); go_simp; all_goals with_reducible rfl)
          try simp only [Act.put, List.setIfInBounds_toArray]
          refine wpAnyH_take (i := 6) (oi := _) (v := ?_) rfl (by kernel_rfl) (by kernel_rfl) (by kernel_rfl) (fun _ _ _ h => h) (Or.inl ⟨by rfl, ?_⟩) (by assumption) ?_
          rotate_left
          · (intro w hSw; (try dsimp only at hSw); go_simp; all_goals with_reducible rfl)
          try simp only [Act.put]
          refine wpAnyH_take (i := 7) (oi := _) (v := ?_) rfl (by kernel_rfl) (by kernel_rfl) (by kernel_rfl) (fun _ _ _ h => h) (Or.inl ⟨by rfl, ?_⟩) (by assumption) ?_
          rotate_left
          · (intro w hSw; (try dsimp only at hSw); go_simp; all_goals with_reducible rfl)
          try simp only [Act.put]
          refine wpAnyH_done (by kernel_rfl) ?_ _
          go_wp2
          go_roundw
          case rel => exact ⟨2 + 1, by omega, by go_num, by rw [HO.out]; exact (Below.heap_alloc _ _ _ (by rw [World.size_setCell]; exact hgl)).trans (heap_setCell_same wi gx 0 _ _ _ hx), by first | exact ((hBi.setCell (p := ⟨gx, 0, none⟩) (Nat.le_refl _) _).alloc (by rw [World.size_setCell]; omega) _).drew | exact (hBi.setCell (p := ⟨gx, 0, none⟩) (Nat.le_refl _) _).alloc (by rw [World.size_setCell]; omega) _⟩
          case measure => simp [intOf]
        · have hqe : (q0.toList == [120, 111, 114]) = false := by rw [beq_eq_false_iff_ne, ByteArray.toList_eq]; exact hq
          have HO := Lib.hid (opP_miss (k := 2) (by decide) hq)
          clear hq
          go_wp2_with fail
          refine wp_region_held_drew (S := fun w' => w'.cell? ad = some (.string q0)) (by kernel_rfl) hq0 (fun hHeld => ?_)
          refine wpAnyH_take (i := 0) (oi := _) (v := ?_) rfl (by kernel_rfl) (by kernel_rfl) (by kernel_rfl) (fun _ _ _ h => h) (Or.inl ⟨by rfl, ?_⟩) (by assumption) ?_
          rotate_left
          · (intro w hSw; (try dsimp only at hSw); go_simp; all_goals with_reducible rfl)
          try simp only [Act.put, List.setIfInBounds_toArray]
          refine wpAnyH_take (i := 1) (oi := _) (v := ?_) rfl (by kernel_rfl) (by kernel_rfl) (by kernel_rfl) (fun _ _ _ h => h) (Or.inl ⟨by rfl, ?_⟩) (by assumption) ?_
          rotate_left
          · (intro w hSw; (try dsimp only at hSw); go_simp; all_goals with_reducible rfl)
          try simp only [Act.put]
          refine wpAnyH_take (i := 2) (oi := _) (v := ?_) rfl (by kernel_rfl) (by kernel_rfl) (by kernel_rfl) (fun _ _ _ h => h) (Or.inl ⟨by rfl, ?_⟩) (by assumption) ?_
          rotate_left
          · (intro w hSw; (try dsimp only at hSw); go_simp; all_goals with_reducible rfl)
          try simp only [Act.put]
          refine wpAnyH_take (i := 4) (oi := _) (v := ?_) rfl (by kernel_rfl) (by kernel_rfl) (by kernel_rfl) (fun _ _ _ h => h) (Or.inl ⟨by rfl, ?_⟩) (by assumption) ?_
          rotate_left
          · (intro w hSw; (try dsimp only at hSw); go_simp; all_goals with_reducible rfl)
          try simp only [Act.put]
          refine wpAnyH_ready (rs := [3]) (by kernel_rfl) (by simp) ?_
          refine AllReadyH.cons (o := _) rfl (fun K hK => ?_) AllReadyH.nil
          go_simp
          refine hK.out _ _ ?_ (fun hHeld => ?_)
          · (try dsimp only); go_keep
          clear hK K
          try simp only [Act.put, List.setIfInBounds_toArray, List.set_cons_zero, List.set_cons_succ]
          refine wpAnyH_sub (S2 := fun w' => w'.cell? ad = some (.string q0) ∧ w'.cell? ⟨wi.heap.size, 2, none⟩ = some (.string ⟨#[120, 111, 114]⟩)) (fun _ h => h.1) _ _ _ _ ?_
          have hHeld2 := And.intro hHeld (cells_newS wi.drew [.string ⟨#[97, 110, 100]⟩, .string ⟨#[111, 114]⟩, .string ⟨#[120, 111, 114]⟩, .string ⟨#[110, 111, 116]⟩] 9 2 _ rfl)
          clear hHeld
          refine wpAnyH_take (i := 5) (oi := _) (v := ?_) rfl (by kernel_rfl) (by kernel_rfl) (by kernel_rfl) (fun _ _ _ h => h) (Or.inl ⟨by rfl, ?_⟩) (by assumption) ?_
          rotate_left
          · (intro w hSw; (try dsimp only at hSw); go_simp; all_goals with_reducible rfl)
          try simp only [Act.put, List.setIfInBounds_toArray]
          refine wpAnyH_take (i := 6) (oi := _) (v := ?_) rfl (by kernel_rfl) (by kernel_rfl) (by kernel_rfl) (fun _ _ _ h => h) (Or.inl ⟨by rfl, ?_⟩) (by assumption) ?_
          rotate_left
          · (intro w hSw; (try dsimp only at hSw); go_simp; all_goals with_reducible rfl)
          try simp only [Act.put]
          refine wpAnyH_take (i := 7) (oi := _) (v := ?_) rfl (by kernel_rfl) (by kernel_rfl) (by kernel_rfl) (fun _ _ _ h => h) (Or.inl ⟨by rfl, ?_⟩) (by assumption) ?_
          rotate_left
          · (intro w hSw; (try dsimp only at hSw); go_simp; all_goals with_reducible rfl)
          try simp only [Act.put]
          refine wpAnyH_done (by kernel_rfl) ?_ _
          go_wp2
          go_roundw
          case rel => exact ⟨2 + 1, by omega, by go_num, by rw [HO.out]; exact hx2, hBn⟩
          case measure => simp [intOf]
      by_cases hj3 : j = 3
      · subst hj3
        by_cases hq : bL q0 = nmL 3
        · have hqe : (q0.toList == [110, 111, 116]) = true := by rw [beq_iff_eq, ByteArray.toList_eq]; exact hq
          have HO := Lib.hid (opP_hit (k := 3) (by decide) hq)
          clear hq
          go_wp2_with fail
          refine wp_region_held_drew (S := fun w' => w'.cell? ad = some (.string q0)) (by kernel_rfl) hq0 (fun hHeld => ?_)
          refine wpAnyH_take (i := 0) (oi := _) (v := ?_) rfl (by kernel_rfl) (by kernel_rfl) (by kernel_rfl) (fun _ _ _ h => h) (Or.inl ⟨by rfl, ?_⟩) (by assumption) ?_
          rotate_left
          · (intro w hSw; (try dsimp only at hSw); go_simp; all_goals with_reducible rfl)
          try simp only [Act.put, List.setIfInBounds_toArray]
          refine wpAnyH_take (i := 1) (oi := _) (v := ?_) rfl (by kernel_rfl) (by kernel_rfl) (by kernel_rfl) (fun _ _ _ h => h) (Or.inl ⟨by rfl, ?_⟩) (by assumption) ?_
          rotate_left
          · (intro w hSw; (try dsimp only at hSw); go_simp; all_goals with_reducible rfl)
          try simp only [Act.put]
          refine wpAnyH_take (i := 2) (oi := _) (v := ?_) rfl (by kernel_rfl) (by kernel_rfl) (by kernel_rfl) (fun _ _ _ h => h) (Or.inl ⟨by rfl, ?_⟩) (by assumption) ?_
          rotate_left
          · (intro w hSw; (try dsimp only at hSw); go_simp; all_goals with_reducible rfl)
          try simp only [Act.put]
          refine wpAnyH_take (i := 4) (oi := _) (v := ?_) rfl (by kernel_rfl) (by kernel_rfl) (by kernel_rfl) (fun _ _ _ h => h) (Or.inl ⟨by rfl, ?_⟩) (by assumption) ?_
          rotate_left
          · (intro w hSw; (try dsimp only at hSw); go_simp; all_goals with_reducible rfl)
          try simp only [Act.put]
          refine wpAnyH_ready (rs := [3]) (by kernel_rfl) (by simp) ?_
          refine AllReadyH.cons (o := _) rfl (fun K hK => ?_) AllReadyH.nil
          go_simp
          refine hK.out _ _ ?_ (fun hHeld => ?_)
          · (try dsimp only); go_keep
          clear hK K
          try simp only [Act.put, List.setIfInBounds_toArray, List.set_cons_zero, List.set_cons_succ]
          refine wpAnyH_sub (S2 := fun w' => w'.cell? ad = some (.string q0) ∧ w'.cell? ⟨wi.heap.size, 3, none⟩ = some (.string ⟨#[110, 111, 116]⟩)) (fun _ h => h.1) _ _ _ _ ?_
          have hHeld2 := And.intro hHeld (cells_newS wi.drew [.string ⟨#[97, 110, 100]⟩, .string ⟨#[111, 114]⟩, .string ⟨#[120, 111, 114]⟩, .string ⟨#[110, 111, 116]⟩] 9 3 _ rfl)
          clear hHeld
          refine wpAnyH_take (i := 5) (oi := _) (v := ?_) rfl (by kernel_rfl) (by kernel_rfl) (by kernel_rfl) (fun _ _ _ h => h) (Or.inl ⟨by rfl, ?_⟩) (by assumption) ?_
          rotate_left
          · (intro w hSw; (try dsimp only at hSw); go_simp; all_goals with_reducible rfl)
          try simp only [Act.put, List.setIfInBounds_toArray]
          refine wpAnyH_take (i := 6) (oi := _) (v := ?_) rfl (by kernel_rfl) (by kernel_rfl) (by kernel_rfl) (fun _ _ _ h => h) (Or.inl ⟨by rfl, ?_⟩) (by assumption) ?_
          rotate_left
          · (intro w hSw; (try dsimp only at hSw); go_simp; all_goals with_reducible rfl)
          try simp only [Act.put]
          refine wpAnyH_take (i := 7) (oi := _) (v := ?_) rfl (by kernel_rfl) (by kernel_rfl) (by kernel_rfl) (fun _ _ _ h => h) (Or.inl ⟨by rfl, ?_⟩) (by assumption) ?_
          rotate_left
          · (intro w hSw; (try dsimp only at hSw); go_simp; all_goals with_reducible rfl)
          try simp only [Act.put]
          refine wpAnyH_done (by kernel_rfl) ?_ _
          go_wp2
          go_roundw
          case rel => exact ⟨3 + 1, by omega, by go_num, by rw [HO.out]; exact (Below.heap_alloc _ _ _ (by rw [World.size_setCell]; exact hgl)).trans (heap_setCell_same wi gx 0 _ _ _ hx), by first | exact ((hBi.setCell (p := ⟨gx, 0, none⟩) (Nat.le_refl _) _).alloc (by rw [World.size_setCell]; omega) _).drew | exact (hBi.setCell (p := ⟨gx, 0, none⟩) (Nat.le_refl _) _).alloc (by rw [World.size_setCell]; omega) _⟩
          case measure => simp [intOf]
        · have hqe : (q0.toList == [110, 111, 116]) = false := by rw [beq_eq_false_iff_ne, ByteArray.toList_eq]; exact hq
          have HO := Lib.hid (opP_miss (k := 3) (by decide) hq)
          clear hq
          go_wp2_with fail
          refine wp_region_held_drew (S := fun w' => w'.cell? ad = some (.string q0)) (by kernel_rfl) hq0 (fun hHeld => ?_)
          refine wpAnyH_take (i := 0) (oi := _) (v := ?_) rfl (by kernel_rfl) (by kernel_rfl) (by kernel_rfl) (fun _ _ _ h => h) (Or.inl ⟨by rfl, ?_⟩) (by assumption) ?_
          rotate_left
          · (intro w hSw; (try dsimp only at hSw); go_simp; all_goals with_reducible rfl)
          try simp only [Act.put, List.setIfInBounds_toArray]
          refine wpAnyH_take (i := 1) (oi := _) (v := ?_) rfl (by kernel_rfl) (by kernel_rfl) (by kernel_rfl) (fun _ _ _ h => h) (Or.inl ⟨by rfl, ?_⟩) (by assumption) ?_
          rotate_left
          · (intro w hSw; (try dsimp only at hSw); go_simp; all_goals with_reducible rfl)
          try simp only [Act.put]
          refine wpAnyH_take (i := 2) (oi := _) (v := ?_) rfl (by kernel_rfl) (by kernel_rfl) (by kernel_rfl) (fun _ _ _ h => h) (Or.inl ⟨by rfl, ?_⟩) (by assumption) ?_
          rotate_left
          · (intro w hSw; (try dsimp only at hSw); go_simp; all_goals with_reducible rfl)
          try simp only [Act.put]
          refine wpAnyH_take (i := 4) (oi := _) (v := ?_) rfl (by kernel_rfl) (by kernel_rfl) (by kernel_rfl) (fun _ _ _ h => h) (Or.inl ⟨by rfl, ?_⟩) (by assumption) ?_
          rotate_left
          · (intro w hSw; (try dsimp only at hSw); go_simp; all_goals with_reducible rfl)
          try simp only [Act.put]
          refine wpAnyH_ready (rs := [3]) (by kernel_rfl) (by simp) ?_
          refine AllReadyH.cons (o := _) rfl (fun K hK => ?_) AllReadyH.nil
          go_simp
          refine hK.out _ _ ?_ (fun hHeld => ?_)
          · (try dsimp only); go_keep
          clear hK K
          try simp only [Act.put, List.setIfInBounds_toArray, List.set_cons_zero, List.set_cons_succ]
          refine wpAnyH_sub (S2 := fun w' => w'.cell? ad = some (.string q0) ∧ w'.cell? ⟨wi.heap.size, 3, none⟩ = some (.string ⟨#[110, 111, 116]⟩)) (fun _ h => h.1) _ _ _ _ ?_
          have hHeld2 := And.intro hHeld (cells_newS wi.drew [.string ⟨#[97, 110, 100]⟩, .string ⟨#[111, 114]⟩, .string ⟨#[120, 111, 114]⟩, .string ⟨#[110, 111, 116]⟩] 9 3 _ rfl)
          clear hHeld
          refine wpAnyH_take (i := 5) (oi := _) (v := ?_) rfl (by kernel_rfl) (by kernel_rfl) (by kernel_rfl) (fun _ _ _ h => h) (Or.inl ⟨by rfl, ?_⟩) (by assumption) ?_
          rotate_left
          · (intro w hSw; (try dsimp only at hSw); go_simp; all_goals with_reducible rfl)
          try simp only [Act.put, List.setIfInBounds_toArray]
          refine wpAnyH_take (i := 6) (oi := _) (v := ?_) rfl (by kernel_rfl) (by kernel_rfl) (by kernel_rfl) (fun _ _ _ h => h) (Or.inl ⟨by rfl, ?_⟩) (by assumption) ?_
          rotate_left
          · (intro w hSw; (try dsimp only at hSw); go_simp; all_goals with_reducible rfl)
          try simp only [Act.put]
          refine wpAnyH_take (i := 7) (oi := _) (v := ?_) rfl (by kernel_rfl) (by kernel_rfl) (by kernel_rfl) (fun _ _ _ h => h) (Or.inl ⟨by rfl, ?_⟩) (by assumption) ?_
          rotate_left
          · (intro w hSw; (try dsimp only at hSw); go_simp; all_goals with_reducible rfl)
          try simp only [Act.put]
          refine wpAnyH_done (by kernel_rfl) ?_ _
          go_wp2
          go_roundw
          case rel => exact ⟨3 + 1, by omega, by go_num, by rw [HO.out]; exact hx2, hBn⟩
          case measure => simp [intOf]
      obtain rfl : j = 4 := by omega
      rw [opP_four] at hx hcx
      clear hx2 hBn
      obtain ⟨x0, x1, x2, fx1, fx2⟩ := stepFacts hx
      have hBoi := hB2.trans ((hBA.mono hwg).trans (hBi.mono hwg))
      clear hcx hfx hq0
      by_cases n1 : ws.length = 1
      · have n1I : ¬ (1 : Int) < (ws.length : Int) := by omega
        have n2I : ¬ (2 : Int) < (ws.length : Int) := by omega
        have HST := Lib.hid (show stS (bL p) = [opS (bL q0), 0, 0] by
          unfold stS
          rw [show spl 32 (bL p) = ws from HWS.out]
          match ws, n1, HQL.out with
          | [a], _, h => simp at h; rw [h]; rfl)
        have hBoW := hBoi
        go_wp2_with (at_builtin; refine wpList_pushK _ (opS (bL q0)) (0) (0) rfl _ _ rfl w.heap.size A' k c' _ rfl _ rfl (by simp) (ownsRow_up HO.out hBoW) (by omega) (by have := hBoW.size; omega) ?_; intro A4 c4 w4 hO4 hg4)
        have hOW : OF 46 3 wi w.heap.size A' k c' ((ps.take k).flatMap stS) := ownsRow_up HO.out hBoW
        have hPW := ownsRow_up HP.out hBoW
        have hB4 : Below w.heap.size w w4 := (hB.trans (hBoW.mono hsz)).grown hg4 (by have := hBoW.size; omega) (fun q e => (World.ownsRow.lt hOW q e).1)
        go_roundw
        case rel => exact ⟨k + 1, _, _, by omega, by go_num, rfl, Lib.hid (by rw [HT.out, List.flatMap_append]; simpa [HST.out] using hO4), Lib.hid (World.ownsRow.kept hPW hg4 (rows_apart hPW hOW (by decide))), hB4⟩
        case measure => simp [intOf]; omega
      have n1I : (1 : Int) < (ws.length : Int) := by omega
      have n1N : 1 < ws.length := by omega
      obtain ⟨ad', l1, s1, e1, _, hl1, hs1', hc1⟩ := HW.out.at_ (k := 1) n1N
      cases e1
      subst hs1'
      have hz1 : s1.size ≤ 1048577 := by
        have h1 := spl_mem 32 p.data.toList s1.data.toList (by rw [HWS.out]; exact List.mem_of_getElem? hl1)
        have h2 : p.data.toList.length = p.size := by simp
        have h3 : s1.data.toList.length = s1.size := by simp
        omega
      have hc1' : w2.cell? ⟨ad.block, ad.off + 1, none⟩ = some (.string s1) := by simpa [Addr.add] using hc1
      have hw1 : wi.cell? ⟨ad.block, ad.off + 1, none⟩ = some (.string s1) := (World.cell?_of_block (a := ⟨ad.block, ad.off + 1, none⟩) ((hBi.block ad.block hbg).trans (hBA.block ad.block hbg))).trans hc1'
      have hne : ¬ ad.block = gx := by omega
      clear hc1
      by_cases n2 : ws.length = 2
      · have n2I : ¬ (2 : Int) < (ws.length : Int) := by omega
        have HST := Lib.hid (show stS (bL p) = [opS (bL q0), dgS (bL s1), 0] by
          unfold stS
          rw [show spl 32 (bL p) = ws from HWS.out]
          match ws, n2, HQL.out, hl1 with
          | [a, b], _, h, h' => simp at h h'; rw [h, h']; rfl)
        go_wp2_with (first | (go_at_call 36; refine (digitsS s1 _ hz1).mono ?_; rintro e w5 ⟨rfl, hb5⟩; have hx5 := (hb5.block gx hgl).trans hx; obtain ⟨y0, y1, y2, gy1, gy2⟩ := stepFacts hx5; have hs5 := hb5.size; have hBoW := hBoi.trans (((hb5.mono (by omega)).setCell (p := ⟨gx, 1, none⟩) hwg (.int .i64 (dgS s1.data.toList))))) | (at_builtin; refine wpList_pushK _ (opS (bL q0)) (dgS s1.data.toList) (0) rfl _ _ rfl w.heap.size A' k c' _ rfl _ rfl (by simp) (ownsRow_up HO.out hBoW) (by omega) (by have := hBoW.size; omega) ?_; intro A4 c4 w4 hO4 hg4))
        have hOW : OF 46 3 (w5.setCell ⟨gx, 1, none⟩ (.int .i64 (dgS s1.data.toList))) w.heap.size A' k c' ((ps.take k).flatMap stS) := ownsRow_up HO.out hBoW
        have hPW := ownsRow_up HP.out hBoW
        have hB4 : Below w.heap.size w w4 := (hB.trans (hBoW.mono hsz)).grown hg4 (by have := hBoW.size; omega) (fun q e => (World.ownsRow.lt hOW q e).1)
        go_roundw
        case rel => exact ⟨k + 1, _, _, by omega, by go_num, rfl, Lib.hid (by rw [HT.out, List.flatMap_append]; simpa [HST.out] using hO4), Lib.hid (World.ownsRow.kept hPW hg4 (rows_apart hPW hOW (by decide))), hB4⟩
        case measure => simp [intOf]; omega
      have n2I : (2 : Int) < (ws.length : Int) := by omega
      have n2N : 2 < ws.length := by omega
      obtain ⟨ad', l2, s2, e2, _, hl2, hs2', hc2⟩ := HW.out.at_ (k := 2) n2N
      cases e2
      subst hs2'
      have hz2 : s2.size ≤ 1048577 := by
        have h1 := spl_mem 32 p.data.toList s2.data.toList (by rw [HWS.out]; exact List.mem_of_getElem? hl2)
        have h2 : p.data.toList.length = p.size := by simp
        have h3 : s2.data.toList.length = s2.size := by simp
        omega
      have hc2' : w2.cell? ⟨ad.block, ad.off + 2, none⟩ = some (.string s2) := by simpa [Addr.add] using hc2
      have hw2 : wi.cell? ⟨ad.block, ad.off + 2, none⟩ = some (.string s2) := (World.cell?_of_block (a := ⟨ad.block, ad.off + 2, none⟩) ((hBi.block ad.block hbg).trans (hBA.block ad.block hbg))).trans hc2'
      clear hc2
      have HST := Lib.hid (show stS (bL p) = [opS (bL q0), dgS (bL s1), dgS (bL s2)] by
        unfold stS
        rw [show spl 32 (bL p) = ws from HWS.out]
        match ws, n2N, HQL.out, hl1, hl2 with
        | a :: b :: c :: _, _, h, h', h'' => simp at h h' h''; rw [h, h', h'']; rfl)
      have hz5 : s1.data.toList = s1.data.toList := rfl
      go_wp2_with (go_at_call_of 36 (Value.string s1); refine (digitsS s1 _ hz1).mono ?_; rintro e w5 ⟨rfl, hb5⟩; have hx5 := (hb5.block gx hgl).trans hx; obtain ⟨y0, y1, y2, gy1, gy2⟩ := stepFacts hx5; have hs5 := hb5.size; have hw5 : w5.cell? ⟨ad.block, ad.off + 2, none⟩ = some (.string s2) := (World.cell?_of_block (a := ⟨ad.block, ad.off + 2, none⟩) (hb5.block ad.block (by omega))).trans hw2)
      clear hz5
      refine (digitsS s2 _ hz2).mono ?_
      rintro e w6 ⟨rfl, hb6⟩
      have hx5' := heap_setCell_same w5 gx 1 _ _ (.int .i64 (dgS s1.data.toList)) hx5
      have hx6 : w6.heap[gx]? = some (.cells #[.int .i64 (opS (bL q0)), .int .i64 (dgS s1.data.toList), .int .i64 0] 46 (0, 0)) := (hb6.block gx (by rw [World.size_setCell]; omega)).trans hx5'
      obtain ⟨u0, u1, u2, gu1, gu2⟩ := stepFacts hx6
      have hs6 := hb6.size
      rw [World.size_setCell] at hs6
      have hBoW := (hBoi.trans (((hb5.mono (by omega)).setCell (p := ⟨gx, 1, none⟩) hwg (.int .i64 (dgS s1.data.toList))))).trans ((hb6.mono (by rw [World.size_setCell]; omega)).setCell (p := ⟨gx, 2, none⟩) hwg (.int .i64 (dgS s2.data.toList)))
      clear y0 y1 y2 gy1 gy2 hx5'
      go_wp2_with (at_builtin; refine wpList_pushK _ (opS (bL q0)) (dgS s1.data.toList) (dgS s2.data.toList) rfl _ _ rfl w.heap.size A' k c' _ rfl _ rfl (by simp) (ownsRow_up HO.out hBoW) (by omega) (by have := hBoW.size; omega) ?_; intro A4 c4 w4 hO4 hg4)
      have hOW : OF 46 3 (w6.setCell ⟨gx, 2, none⟩ (.int .i64 (dgS s2.data.toList))) w.heap.size A' k c' ((ps.take k).flatMap stS) := ownsRow_up HO.out hBoW
      have hPW := ownsRow_up HP.out hBoW
      have hB4 : Below w.heap.size w w4 := (hB.trans (hBoW.mono hsz)).grown hg4 (by have := hBoW.size; omega) (fun q e => (World.ownsRow.lt hOW q e).1)
      go_roundw
      case rel => exact ⟨k + 1, _, _, by omega, by go_num, rfl, Lib.hid (by rw [HT.out, List.flatMap_append]; simpa [HST.out] using hO4), Lib.hid (World.ownsRow.kept hPW hg4 (rows_apart hPW hOW (by decide))), hB4⟩
      case measure => simp [intOf]; omega
end Go.Proofs.YtkpjlkahebeljaaDoor

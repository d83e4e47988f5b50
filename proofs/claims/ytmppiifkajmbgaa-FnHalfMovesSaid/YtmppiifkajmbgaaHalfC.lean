/- Contracts of slices.AppendSeq and slices.Collect over moves by halves, and of impl.HalfMoves. -/
import Derived.Test.YtmppiifkajmbgaaHalf
namespace Go.Proofs.Ytmppiifkajmbgaa
open Go.RowKit Go.Shelf
set_option linter.unusedVariables false
attribute [local go_sem] Oper.semAt_some

/-- append of one integer: the row is the elder one or a new one -/
theorem run_push2 (w : World) (ty : TypeId) (base : Nat) (v : Value) (n : Nat) (xs : List Value) (hown : w.ownsRow base 3 1 v n xs) (ad : Addr) (x : Int)
    (hx : w.cell? ad = some (.int .i64 x)) (hn : n ≤ 1099511627776) (hb : base ≤ w.heap.size) :
    ∃ g c' w', (Builtin.append_ #[22, 22] ty #[v, .slice (some ad) 1 1]).run Try.prog w = .ok (.slice (some ⟨g, 0, none⟩) (n + 1) c') w' ∧
      w'.ownsRow base 3 1 (.slice (some ⟨g, 0, none⟩) (n + 1) c') (n + 1) (xs ++ [.int .i64 x]) ∧ w.grownBy w' v.ownBlock ∧ (v.ownBlock = some g ∨ w.heap.size ≤ g) := by
  obtain ⟨i0, hi, hz0, hz1, hz2⟩ := info_parts infoInt
  have hc : ∀ j u, [Value.int .i64 x][j]? = some u → w.cell? (ad.add j) = some u := by
    intro j u hu
    cases j with
    | zero => simp at hu; subst hu; rw [show ad.add 0 = ad from by unfold Addr.add; simp]; exact hx
    | succ j => simp at hu
  obtain ⟨v', w', hr, h1, h2, h3⟩ := run_append_own (P := Try.prog) w base 22 ty 3 i0 (.int .i64 0) 1 8 Try.underlying22 hi hz0 hz1 hz2 rfl (by decide) v n xs hown ad 1 1 [.int .i64 x] rfl hc (by simp [Value.oneCell']) (by unfold maxLen; omega) (by omega) hb
  obtain ⟨g, c', rfl⟩ := ownsRow_succ h1
  refine ⟨g, c', w', hr, h1, h2, ?_⟩
  rcases hown.2 with ⟨rfl, rfl⟩ | ⟨g0, cap, cur, rfl, hbg, hg, hnc, hcm, hcs, htake⟩
  · have hown2 : w.ownsRow w.heap.size 3 1 (.slice none 0 0) 0 xs := ⟨hown.1, .inl ⟨rfl, rfl⟩⟩
    obtain ⟨v2, w2, hr2, k1, k2, k3⟩ := run_append_own (P := Try.prog) w w.heap.size 22 ty 3 i0 (.int .i64 0) 1 8 Try.underlying22 hi hz0 hz1 hz2 rfl (by decide) _ 0 xs hown2 ad 1 1 [.int .i64 x] rfl hc (by simp [Value.oneCell']) (by unfold maxLen; omega) (by omega) (Nat.le_refl _)
    rw [hr] at hr2
    injection hr2 with e1 e2
    subst e1; subst e2
    exact .inr (k1.lt g rfl).1
  · by_cases hroom : n + 1 ≤ cap
    · have hr2 := run_append_room (P := Try.prog) w 22 ty 3 i0 Try.underlying22 hi g0 n cap cur hg ad 1 1 [.int .i64 x] (by rw [hz1]; rfl) hc (by simp [Value.oneCell']) hroom (by rw [hz1]; simp; omega)
      rw [hr] at hr2
      injection hr2 with e1 e2
      injection e1 with e1
      injection e1 with e1; injection e1 with e1
      subst e1
      exact .inl rfl
    · have hr2 := run_append_grow (P := Try.prog) w 22 ty 3 i0 (.int .i64 0) Try.underlying22 hi hz0 ⟨g0, 0, none⟩ n cap xs (by rw [hz1]; exact hown.1) (hown.cells (g := g0) rfl) ad 1 1 [.int .i64 x] (by rw [hz1]; rfl) hc (by omega) (by omega) (growslice_fits (by omega) (by rw [hz2]; omega))
      rw [hr] at hr2
      injection hr2 with e1 e2
      injection e1 with e1
      injection e1 with e1; injection e1 with e1
      exact .inr (by omega)
theorem wpListIn_push2 {F : Fence} {m : Nat} {ops : Array Oper} {rest : List Oper} {o : Oper} {a : Act} {Q : Exit → Act → World → Prop} (w : World)
    (hgd : o.guard = none) (s y : Operand) (hop : o.op = Op.call { callee := Callee.builtin Builtin.append, args := #[s, y], argTypes := #[22, 22] })
    (base : Nat) (v : Value) (n : Nat) (xs : List Value) (hs : a.eval s = v) (hown : w.ownsRow base 3 1 v n xs) (ad : Addr) (x : Int) (hy : a.eval y = .slice (some ad) 1 1)
    (hx : w.cell? ad = some (.int .i64 x)) (hn : n ≤ 1099511627776) (hb : base ≤ w.heap.size)
    (hK : ∀ g c' w', w'.ownsRow base 3 1 (.slice (some ⟨g, 0, none⟩) (n + 1) c') (n + 1) (xs ++ [.int .i64 x]) → w.grownBy w' v.ownBlock → (v.ownBlock = some g ∨ w.heap.size ≤ g) → wpListIn F m Try.prog ops Q rest (a.put o.dst (.slice (some ⟨g, 0, none⟩) (n + 1) c')) w') :
    wpListIn F m Try.prog ops Q (o :: rest) a w := by
  refine wpListIn_plain hgd fun K hK' => ?_
  obtain ⟨g, c', w', hrun, r1, r2, r3⟩ := run_push2 w o.type base v n xs hown ad x hx hn hb
  unfold Oper.wpIn
  refine ⟨?_, ?_⟩
  · simp [Oper.about, hop, resolve, Target.leads, Sem.run_pure]
  · rw [Oper.semAt_plain F _ _ (by rw [hop]; intro c hc'; cases hc')]
    simp [execOp, hop, resolve, invoke, builtin, hs, hy, hrun, Result.andThen]
    exact hK' _ _ (hK g c' w' r1 r2 r3)

def IvH (Bs : Nat) (q : List Int × Nat) (W : World) : Prop :=
  ∃ v, Boxed W Bs 22 v ∧ W.ownsRow Bs 3 1 v q.1.length (q.1.map (.int .i64)) ∧ (v.ownBlock = some q.2 ∨ (v.ownBlock = none ∧ q.2 = Bs))
theorem ivH_inv (B Bs : Nat) : Inv B (IvH Bs) := by
  refine ⟨Own.from (holdsRow_own Bs Bs 22 3 1 (fun (q : List Int × Nat) => q.1.length) (fun q => q.1.map (.int .i64)) (fun q v => v.ownBlock = some q.2 ∨ (v.ownBlock = none ∧ q.2 = Bs))) _, ?_⟩
  rintro q W ⟨v, hb, hr, h | ⟨_, h⟩⟩
  · exact (hr.lt _ h).2
  · rw [h]; exact hb.lt
set_option maxRecDepth 100000 in
set_option maxHeartbeats 4000000 in
theorem appendHalf (L : Nat) (hL : L ≤ 3) (i : Nat) (w : World) (b1 : Boxed w i 3 (.int .i64 L)) (b2 : Boxed w (i + 1) 3 (.int .i64 0)) (b3 : Boxed w (i + 2) 4 (.bool false)) :
    Calls Try.prog 62 #[.slice none 0 0, .func (.func 63) #[] #[.pointer (some ⟨i, 0, none⟩), .pointer (some ⟨i + 1, 0, none⟩), .pointer (some ⟨i + 2, 0, none⟩)]] w
      fun e w' => ∃ A n c, e = .returned (.slice A n c) ∧ OS w' w.heap.size A n c (farL L 0) ∧ Below w.heap.size w w' := by
  obtain ⟨i0, hi, hz0, hz1, hz2⟩ := info_parts infoInt
  refine (callsIn_wide (n := 9)).1 ?_
  refine callsIn_of_wp_marks Try.func62 rfl trivial ?_ rfl
  simp only [Try.ntmps62, List.size_toArray, List.length_cons, List.length_nil, Nat.reduceAdd, Nat.reduceSub, Array.replicate_succ, Array.replicate_zero, List.push_toArray, List.append_toArray, List.nil_append, List.cons_append]
  gi_wp2
  obtain ⟨W0, hW0⟩ : ∃ W0, w.alloc (.cells #[.slice none 0 0] 22) = W0 := ⟨_, rfl⟩
  obtain ⟨Bs, hBs⟩ : ∃ Bs, w.heap.size = Bs := ⟨_, rfl⟩
  have bS : Boxed W0 Bs 22 (.slice none 0 0) := by rw [← hW0, ← hBs]; exact Boxed.new _ _ _
  have hs0 : W0.heap.size = Bs + 1 := by rw [← hW0, ← hBs]; simp
  have hq0 : Kq Bs w Bs W0 Bs := by rw [← hW0]; exact (Kq.refl _ _ _).alloc _
  have l1 := b1.lt
  have l2 := b2.lt
  have l3 := b3.lt
  have y1 : AtB Bs W0 Bs (i, _) := hq0.at_ (q := (i, _)) ⟨b1, by show i ≠ _; omega, by show i ≠ _; omega⟩
  have y2 : AtB Bs W0 Bs (i + 1, _) := hq0.at_ (q := (i + 1, _)) ⟨b2, by show i + 1 ≠ _; omega, by show i + 1 ≠ _; omega⟩
  have y3 : AtB Bs W0 Bs (i + 2, _) := hq0.at_ (q := (i + 2, _)) ⟨b3, by show i + 2 ≠ _; omega, by show i + 2 ≠ _; omega⟩
  rw [hW0, hBs]
  have hj0 : IvH Bs ([], Bs) W0 := ⟨_, bS, World.ownsRow_nil _ _ _ _, .inr ⟨rfl, rfl⟩⟩
  refine rangeQ (F := Fence.wide) rfl (n := 9) rfl (gf := 63) (lb := #[.pointer (some ⟨i, 0, none⟩), .pointer (some ⟨i + 1, 0, none⟩), .pointer (some ⟨i + 2, 0, none⟩)]) rfl trivial (enters_of Try.func63 (by kernel_rfl) rfl) rfl Bs Bs 27 [] (hmB L 0 false) (by omega)
    (IvH Bs) (ivH_inv _ _) hj0 ?seq
    (fun x => { tmps := #[.slice none 0 0, .func (.func 63) #[] #[.pointer (some ⟨i, 0, none⟩), .pointer (some ⟨i + 1, 0, none⟩), .pointer (some ⟨i + 2, 0, none⟩)], .pointer (some ⟨Bs, 0, none⟩), undef, .slice none 0 0, .int .i64 x, .func (.func 63) #[] #[.pointer (some ⟨i, 0, none⟩), .pointer (some ⟨i + 1, 0, none⟩), .pointer (some ⟨i + 2, 0, none⟩)], .int .i64 x, undef, undef, undef, undef, undef], defers := [] }) ?assign ?body ?done
  case seq =>
    intro l' J' W2 hq2 hsz hi' hr hj
    have z1 := hq2.at_ y1
    have z2 := hq2.at_ y2
    have z3 := hq2.at_ y3
    have h27 : 3 ^ L ≤ 27 := by
      obtain rfl | rfl | rfl | rfl : L = 0 ∨ L = 1 ∨ L = 2 ∨ L = 3 := by omega
      all_goals decide
    have h8 : (2 : Int) ^ L ≤ 8 := by
      obtain rfl | rfl | rfl | rfl : L = 0 ∨ L = 1 ∨ L = 2 ∨ L = 3 := by omega
      all_goals decide
    exact callsIn_wide.2 (halv L hL 0 false _ l' Bs 27 J' [] Bs W2 i (i + 1) (i + 2) (by omega) (by omega) z1.1 z2.1 z3.1 (by omega) z1.2.1 z2.2.1 z3.2.1 z1.2.2 z2.2.2 z3.2.2 hi' hr (by simpa using h27) hj)
  case assign =>
    intro l' x W2 K hK
    gi_wp2
    exact hK
  case body =>
    rintro l' pre' x r' W2 hlen ⟨v, hv, hrow, hG⟩
    have hc := hv.cell
    have hlt := hv.lt
    have HG := Lib.hid hG
    clear hG
    dsimp only at hrow
    have hB1 : Bs ≤ (W2.alloc (.cells #[.int .i64 x] 3)).heap.size := by simp; omega
    have hcx : (W2.alloc (.cells #[.int .i64 x] 3)).cell? ⟨W2.heap.size, 0, none⟩ = some (.int .i64 x) := (Boxed.new _ _ _).cell
    gi_wp2_with (gi_at_builtin; refine wpListIn_push2 _ rfl _ _ rfl Bs v pre'.length _ rfl (hrow.alloc _) ⟨W2.heap.size, 0, none⟩ x rfl hcx (by omega) hB1 ?_; intro g' c' w3 hown' hgrow hnew; obtain ⟨hv1, hv2, hr2, hk2, hb2⟩ := hv.appended (by decide) hrow (by omega) (Nat.le_refl _) hown' hgrow; have hc1 := hv1.cell; have hf1 := hv1.frozen)
    refine ⟨g', ⟨_, hv2, by simpa using hr2, .inl rfl⟩, hb2.mono (Nat.zero_le _), ?_, fun b hb hs hr => ?_⟩
    · rcases hnew with e | e
      · rcases HG.out with e' | ⟨e', _⟩
        · rw [e] at e'; injection e' with e'; exact .inl e'
        · rw [e] at e'; cases e'
      · refine .inr ?_
        have : (W2.alloc (.cells #[.int .i64 x] 3)).heap.size ≤ g' := e
        simp at this
        omega
    · refine (Below.heap_setCell _ _ _ b hs).trans ((hgrow.block b (by simp; omega) ?_).trans (Below.heap_alloc _ _ _ hb))
      rcases HG.out with e' | ⟨e', _⟩
      · rw [e']; intro e; injection e with e; exact hr e
      · rw [e']; simp
  case done =>
    rintro D r' W hD hDl hDn ⟨v, hv, hrow, hG⟩ hq hdf
    have hc := hv.cell
    gi_wp2
    refine ⟨by simp, .inl ⟨_, _, rfl, run_takeDeferred hdf, ?_⟩⟩
    refine ⟨_, results_tmp rfl _ _ _, ?_⟩
    have hrow2 := ownsRow_putObj hrow (.deferred none) hdf rfl
    obtain ⟨A, c', rfl, hO⟩ := OS.of (zs := farL L 0) hrow2 (by rfl)
    exact ⟨A, _, c', rfl, hO, (hq0.trans hq).below.os, (hq0.trans hq).below.tape, (hq0.trans hq).below.output, by have := (hq0.trans hq).size; simp; omega, fun k hk => (World.putObj_heap_other (by omega)).trans ((hq0.trans hq).block k (by omega) (by omega) (by omega))⟩

theorem collectHalf (L : Nat) (hL : L ≤ 3) (i : Nat) (w : World) (b1 : Boxed w i 3 (.int .i64 L)) (b2 : Boxed w (i + 1) 3 (.int .i64 0)) (b3 : Boxed w (i + 2) 4 (.bool false)) :
    Calls Try.prog 46 #[.func (.func 63) #[] #[.pointer (some ⟨i, 0, none⟩), .pointer (some ⟨i + 1, 0, none⟩), .pointer (some ⟨i + 2, 0, none⟩)]] w
      fun e w' => ∃ A n c, e = .returned (.slice A n c) ∧ OS w' w.heap.size A n c (farL L 0) ∧ Below w.heap.size w w' := by
  have h := appendHalf L hL i w b1 b2 b3
  have H := Lib.hid h
  clear h b1 b2 b3
  go_enter Try.func46, Try.ntmps46
  go_wp2_with fail
  refine H.out.mono ?_
  rintro e w' ⟨A, n, c, rfl, hO, hB⟩
  go_wp2
  go_ret
  exact ⟨A, n, c, rfl, hO, hB⟩
set_option maxHeartbeats 1000000 in
theorem halfMoves (L : Int) (w : World) :
    Calls Try.prog 21 #[.int .i64 L] w (GivesI w (hvL L)) := by
  unfold hvL
  obtain ⟨V, hV⟩ : ∃ V, inB L 0 3 = V := ⟨_, rfl⟩
  have hw := fun w => within L 0 3 w
  rw [hV] at hw ⊢
  have HW := Lib.hid hw
  clear hw
  cases V with
  | false =>
    clear hV
    go_enter Try.func21, Try.ntmps21
    go_wp2_with (go_at_call 44; refine (HW.out _).mono ?_; rintro e w' ⟨rfl, rfl⟩)
    go_ret
    exact GivesI.nil w
  | true =>
    have hb : 0 ≤ L ∧ L ≤ 3 := by simpa [inB] using hV
    clear hV
    obtain ⟨n, rfl⟩ : ∃ n : Nat, L = (n : Int) := ⟨L.toNat, by omega⟩
    have hn : n ≤ 3 := by omega
    rw [if_pos rfl, Int.toNat_natCast]
    clear hb
    go_enter Try.func21, Try.ntmps21
    go_wp2_with (first | (go_at_call 44; refine (HW.out _).mono ?_; rintro e w' ⟨rfl, rfl⟩) | (go_at_call 47; refine (halves_made _ _ _ _).mono ?_; rintro e w1 ⟨i, rfl, hM⟩) | (go_at_call 46; refine (collectHalf n hn i w1 hM.b1 hM.b2 hM.b3).mono ?_; rintro e w2 ⟨A, k, c, rfl, hO, hB⟩) | (go_at_call 45; refine (clip A k c w2 hO.cap.1 hO.cap.2).mono ?_; rintro e w3 ⟨rfl, rfl⟩))
    go_ret
    exact ⟨A, k, k, rfl, (hO.toI.mono hM.below.size).clip, hM.below.trans (hB.mono hM.below.size)⟩
end Go.Proofs.Ytmppiifkajmbgaa

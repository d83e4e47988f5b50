/- Contract: the program's ReadForm. -/
import Derived.Test.YtkpjlkahebeljaaDoorNumI
import Derived.Test.YtkpjlkahebeljaaDoorFTextI2
import Derived.Deep.DrawnRows
namespace Go.Proofs.YtkpjlkahebeljaaDoor
open Go.RowKit Go.Shelf
set_option linter.unusedVariables false
attribute [local go_sem] Oper.semAt_some
/-- append of one step: the row is the elder one or a new one -/
theorem run_pushSt (w : World) (ty : TypeId) (base : Nat) (v : Value) (n : Nat) (xs : List Value) (hown : w.ownsRow base 46 3 v n xs) (ad : Addr) (cs : List Value) (hc3 : cs.length = 3) (hc1 : ∀ u ∈ cs, u.oneCell' = true)
    (hx : ∀ j u, cs[j]? = some u → w.cell? (ad.add j) = some u) (hn : n ≤ 1099511627776) (hb : base ≤ w.heap.size) :
    ∃ g c' w', (Builtin.append_ #[23, 23] ty #[v, .slice (some ad) 1 1]).run Tryd.prog w = .ok (.slice (some ⟨g, 0, none⟩) (n + 1) c') w' ∧
      w'.ownsRow base 46 3 (.slice (some ⟨g, 0, none⟩) (n + 1) c') (n + 1) (xs ++ cs) ∧ w.grownBy w' v.ownBlock ∧ (v.ownBlock = some g ∨ w.heap.size ≤ g) := by
  obtain ⟨i0, hi, hz0, hz1, hz2⟩ := info_parts infoStep
  have hc := hx
  obtain ⟨v', w', hr, h1, h2, h3⟩ := run_append_own (P := Tryd.prog) w base 23 ty 46 i0 (.agg #[.int .i64 0, .int .i64 0, .int .i64 0]) 3 24 Tryd.underlying23 hi hz0 hz1 hz2 rfl (by decide) v n xs hown ad 1 1 cs (by rw [hc3]) hc hc1 (by unfold maxLen; omega) (by omega) hb
  obtain ⟨g, c', rfl⟩ := ownsRow_succ h1
  refine ⟨g, c', w', hr, h1, h2, ?_⟩
  rcases hown.2 with ⟨rfl, rfl⟩ | ⟨g0, cap, cur, rfl, hbg, hg, hnc, hcm, hcs, htake⟩
  · have hown2 : w.ownsRow w.heap.size 46 3 (.slice none 0 0) 0 xs := ⟨hown.1, .inl ⟨rfl, rfl⟩⟩
    obtain ⟨v2, w2, hr2, k1, k2, k3⟩ := run_append_own (P := Tryd.prog) w w.heap.size 23 ty 46 i0 (.agg #[.int .i64 0, .int .i64 0, .int .i64 0]) 3 24 Tryd.underlying23 hi hz0 hz1 hz2 rfl (by decide) _ 0 xs hown2 ad 1 1 cs (by rw [hc3]) hc hc1 (by unfold maxLen; omega) (by omega) (Nat.le_refl _)
    rw [hr] at hr2
    injection hr2 with e1 e2
    subst e1; subst e2
    exact .inr (k1.lt g rfl).1
  · by_cases hroom : n + 1 ≤ cap
    · have hr2 := run_append_room (P := Tryd.prog) w 23 ty 46 i0 Tryd.underlying23 hi g0 n cap cur hg ad 1 1 cs (by rw [hz1, hc3]) hc hc1 hroom (by rw [hz1]; omega)
      rw [hr] at hr2
      injection hr2 with e1 e2
      injection e1 with e1
      injection e1 with e1; injection e1 with e1
      subst e1
      exact .inl rfl
    · have hr2 := run_append_grow (P := Tryd.prog) w 23 ty 46 i0 (.agg #[.int .i64 0, .int .i64 0, .int .i64 0]) Tryd.underlying23 hi hz0 ⟨g0, 0, none⟩ n cap xs (by rw [hz1]; exact hown.1) (hown.cells (g := g0) rfl) ad 1 1 cs (by rw [hz1, hc3]) hc (by omega) (by omega) (growslice_fits (by omega) (by rw [hz2]; omega))
      rw [hr] at hr2
      injection hr2 with e1 e2
      injection e1 with e1
      injection e1 with e1; injection e1 with e1
      exact .inr (by omega)
theorem wpListIn_pushSt {F : Fence} {m : Nat} {ops : Array Oper} {rest : List Oper} {o : Oper} {a : Act} {Q : Exit → Act → World → Prop} (w : World)
    (hgd : o.guard = none) (s y : Operand) (hop : o.op = Op.call { callee := Callee.builtin Builtin.append, args := #[s, y], argTypes := #[23, 23] })
    (base : Nat) (v : Value) (n : Nat) (xs : List Value) (hs : a.eval s = v) (hown : w.ownsRow base 46 3 v n xs) (ad : Addr) (cs : List Value) (hc3 : cs.length = 3) (hc1 : ∀ u ∈ cs, u.oneCell' = true) (hy : a.eval y = .slice (some ad) 1 1)
    (hx : ∀ j u, cs[j]? = some u → w.cell? (ad.add j) = some u) (hn : n ≤ 1099511627776) (hb : base ≤ w.heap.size)
    (hK : ∀ g c' w', w'.ownsRow base 46 3 (.slice (some ⟨g, 0, none⟩) (n + 1) c') (n + 1) (xs ++ cs) → w.grownBy w' v.ownBlock → (v.ownBlock = some g ∨ w.heap.size ≤ g) → wpListIn F m Tryd.prog ops Q rest (a.put o.dst (.slice (some ⟨g, 0, none⟩) (n + 1) c')) w') :
    wpListIn F m Tryd.prog ops Q (o :: rest) a w := by
  refine wpListIn_plain hgd fun K hK' => ?_
  obtain ⟨g, c', w', hrun, r1, r2, r3⟩ := run_pushSt w o.type base v n xs hown ad cs hc3 hc1 hx hn hb
  unfold Oper.wpIn
  refine ⟨?_, ?_⟩
  · simp [Oper.about, hop, resolve, Target.leads, Sem.run_pure]
  · rw [Oper.semAt_plain F _ _ (by rw [hop]; intro c hc'; cases hc')]
    simp [execOp, hop, resolve, invoke, builtin, hs, hy, hrun, Result.andThen]
    exact hK' _ _ (hK g c' w' r1 r2 r3)

/-- the store of a whole row, in a fence -/
theorem wpListIn_store_row {F : Fence} {m : Nat} {ops : Array Oper} {rest : List Oper} {o : Oper} {a : Act} {w : World} {Q : Exit → Act → World → Prop} (hgd : o.guard = none) (ty : TypeId) (x y : Operand) (ho : o.op = .store ty x y)
    (g : Nat) (hx : a.eval x = .pointer (some ⟨g, 0, none⟩)) (cs : Array Value) (hy : a.eval y = .agg cs) (cur : Array Value) (t : TypeId) (hg : w.heap[g]? = some (.cells cur t (0, 0))) (hi : (Tryd.prog.info? ty).map (·.size) = some cs.size) (hl : cs.size = cur.size)
    (h1 : ∀ v ∈ cs.toList, v.oneCell' = true) (h : ∀ w', w'.heap[g]? = some (.cells cs t (0, 0)) → w.grownBy w' (some g) → w'.heap.size = w.heap.size → wpListIn F m Tryd.prog ops Q rest (a.put o.dst undef) w') : wpListIn F m Tryd.prog ops Q (o :: rest) a w := by
  refine wpListIn_plain hgd fun K hK' => ?_
  obtain ⟨w', hrun, h2, h3, h4⟩ := run_storeVar_row (P := Tryd.prog) w ty g cs cur t hg hi hl h1
  unfold Oper.wpIn
  refine ⟨?_, ?_⟩
  · simp [Oper.about, ho]
  · rw [Oper.semAt_plain F _ _ (by rw [ho]; intro c hc'; cases hc')]
    simp only [execOp, ho, hx, hy, Instr.storeAt, Instr.sureAddr, Sem.run_bind, Sem.run_pure, Result.andThen_ok, hrun]
    exact hK' _ _ (h w' h2 h3 h4)
/-- what numbersIn gives, in one shape -/
theorem numbersU (r : ByteArray) (w : World) (hr : r.size ≤ 1048576) (hE : ErrV w) : Calls Tryd.prog 33 #[.string r, .string ⟨#[32]⟩] w (fun e w' => ∃ A m ns ok, e = .returned (.tuple #[.slice A m m, .bool ok]) ∧ RI w' w'.heap.size A m ns ∧ (ok = true → 1 ≤ m) ∧ m ≤ 1048577 ∧ (∀ xs, GoodR (bL r) xs → ns = xs ∧ ok = true) ∧ Below w.heap.size w w') := by
  refine (numbersI r w hr hE).mono ?_
  rintro e w' ⟨hb, ⟨rfl, hn⟩ | ⟨A, m, ns, ok, rfl, hR, h1, h2, _, hg⟩⟩
  · exact ⟨none, 0, [], false, rfl, RI.nil, (fun h => by cases h), by omega, (fun xs h => absurd h (hn xs)), hb⟩
  · exact ⟨A, m, ns, ok, rfl, hR, fun _ => h1, h2, hg, hb⟩
/-- slices.Clip at steps -/
theorem clipSt (A : Option Addr) (n c : Nat) (w : World) (hn : n ≤ c) : Calls Tryd.prog 34 #[.slice A n c] w fun e w' => e = .returned (.slice A n n) ∧ w = w' := by
  have h1 : (n : Int) ≤ (c : Int) := by omega
  go_enter Tryd.func34, Tryd.ntmps34
  go_wp2
  go_ret
  exact ⟨rfl, rfl⟩
/-- what ReadForm gives -/
def ReadR (q : Int) (s : ByteArray) (w : World) (e : Ending) (w' : World) : Prop := Below w.heap.size w w' ∧
  ((e = .returned (.tuple #[.slice none 0 0, .bool false]) ∧ ∀ n us, ¬ Vd q (bL s) n us) ∨
   (∃ A n zs, e = .returned (.tuple #[.slice A n n, .bool true]) ∧ OFI 46 3 w' w.heap.size A n n zs ∧ Vd q (bL s) n zs))
set_option maxRecDepth 100000 in
set_option maxHeartbeats 8000000 in
theorem readFormI (q : Int) (s : ByteArray) (w : World) (hs : s.size ≤ 1048576) (hE : ErrV w) : Calls Tryd.prog 12 #[.int .i64 q, .string s] w (ReadR q s w) := by
  have HE := Lib.hid hE
  refine (callsIn_wide (n := 9)).1 ?_
  refine callsIn_of_wp_marks Tryd.func12 rfl trivial ?_ rfl
  simp only [Tryd.ntmps12, List.size_toArray, List.length_cons, List.length_nil, Nat.reduceAdd, Nat.reduceSub, Array.replicate_succ, Array.replicate_zero, List.push_toArray, List.append_toArray, List.nil_append, List.cons_append]
  have hF1 : Fence.wide.fn 30 := trivial
  have hF2 : Fence.wide.fn 31 := trivial
  have hF3 : Fence.wide.fn 23 := trivial
  have hF4 : Fence.wide.fn 32 := trivial
  have hF5 : Fence.wide.fn 33 := trivial
  have hF6 : Fence.wide.fn 10 := trivial
  have hF7 : Fence.wide.fn 8 := trivial
  have hF8 : Fence.wide.fn 34 := trivial
  gi_wp2_with (gi_at_call 30; refine (callsIn_wide.2 (splitSeq_in s 59 _)).mono ?_; rintro e w' ⟨rfl, rfl⟩)
  obtain ⟨W0, hW0⟩ : ∃ W0, (((((((w.alloc (.cells #[.slice none 0 0] 23)).alloc (.cells #[.bool false] 4)).alloc (.cells #[] 46)).alloc (.cells #[.slice (some ⟨w.heap.size + 2, 0, none⟩) 0 0] 23)).alloc (.cells #[.string s] 9)).alloc (.cells #[.string ⟨#[59]⟩] 9)).alloc (.cells #[.int .i64 0] 3)) = W0 := ⟨_, rfl⟩
  obtain ⟨b, hb⟩ : ∃ b, w.heap.size = b := ⟨_, rfl⟩
  have hs0 : W0.heap.size = b + 7 := by rw [← hW0, ← hb]; simp
  have hB0 : Below w.heap.size w W0 := by
    rw [← hW0]
    exact (((((((Below.refl _ w).alloc (Nat.le_refl _) _).alloc (by simp) _).alloc (by simp; omega) _).alloc (by simp; omega) _).alloc (by simp; omega) _).alloc (by simp; omega) _).alloc (by simp; omega) _
  have b0 : Boxed W0 b 23 (.slice none 0 0) := by
    rw [← hW0, ← hb]
    exact ((((((Boxed.new _ _ _).alloc _).alloc _).alloc _).alloc _).alloc _).alloc _
  have b1 : Boxed W0 (b + 1) 4 (.bool false) := by
    rw [← hW0, ← hb, show w.heap.size + 1 = (w.alloc (.cells #[.slice none 0 0] 23)).heap.size by simp]
    exact (((((Boxed.new _ _ _).alloc _).alloc _).alloc _).alloc _).alloc _
  have b3 : Boxed W0 (b + 3) 23 (.slice (some ⟨b + 2, 0, none⟩) 0 0) := by
    rw [← hW0, ← hb, show w.heap.size + 3 = (((w.alloc (.cells #[.slice none 0 0] 23)).alloc (.cells #[.bool false] 4)).alloc (.cells #[] 46)).heap.size by simp]
    exact (((Boxed.new _ _ _).alloc _).alloc _).alloc _
  have b4 : Boxed W0 (b + 4) 9 (.string s) := by
    rw [← hW0, ← hb, show w.heap.size + 4 = ((((w.alloc (.cells #[.slice none 0 0] 23)).alloc (.cells #[.bool false] 4)).alloc (.cells #[] 46)).alloc (.cells #[.slice (some ⟨w.heap.size + 2, 0, none⟩) 0 0] 23)).heap.size by simp]
    exact ((Boxed.new _ _ _).alloc _).alloc _
  have b5 : Boxed W0 (b + 5) 9 (.string ⟨#[59]⟩) := by
    rw [← hW0, ← hb, show w.heap.size + 5 = (((((w.alloc (.cells #[.slice none 0 0] 23)).alloc (.cells #[.bool false] 4)).alloc (.cells #[] 46)).alloc (.cells #[.slice (some ⟨w.heap.size + 2, 0, none⟩) 0 0] 23)).alloc (.cells #[.string s] 9)).heap.size by simp]
    exact (Boxed.new _ _ _).alloc _
  have b6 : Boxed W0 (b + 6) 3 (.int .i64 0) := by
    rw [← hW0, ← hb, show w.heap.size + 6 = ((((((w.alloc (.cells #[.slice none 0 0] 23)).alloc (.cells #[.bool false] 4)).alloc (.cells #[] 46)).alloc (.cells #[.slice (some ⟨w.heap.size + 2, 0, none⟩) 0 0] 23)).alloc (.cells #[.string s] 9)).alloc (.cells #[.string ⟨#[59]⟩] 9)).heap.size by simp]
    exact Boxed.new _ _ _
  have hown0 : W0.ownsRow b 46 3 (.slice (some ⟨b + 2, 0, none⟩) 0 0) 0 [] := by
    rw [← hW0, ← hb, show w.heap.size + 2 = ((w.alloc (.cells #[.slice none 0 0] 23)).alloc (.cells #[.bool false] 4)).heap.size by simp]
    exact ((((World.ownsRow_made ((w.alloc (.cells #[.slice none 0 0] 23)).alloc (.cells #[.bool false] 4)) #[] 0 (by simp; omega) (by simp [maxLen]) rfl).alloc _).alloc _).alloc _).alloc _
  rw [show w.heap.size + 1 + 1 = w.heap.size + 2 from rfl, hW0, hb]
  have HW0 := Lib.hid hW0
  clear hW0
  refine rangeS (F := Fence.wide) rfl (n := 9) rfl (gf := 56) (lb := #[.pointer (some ⟨b + 5, 0, none⟩), .pointer (some ⟨b + 4, 0, none⟩), .pointer (some ⟨b + 6, 0, none⟩)]) rfl trivial (enters_of Tryd.func56 (by kernel_rfl) rfl) encS (fun _ => rfl) (b + 4) (by omega)
    (KpS (b + 4)) (AllS 59 s) (PreS 59 s) (fun h k => h.trans k) (fun W l o hl => KpS.put (n := W0.heap.size) (by omega) W l o hl)
    (fun pre W => ((∃ zs, ∃ v, Boxed W (b + 3) 23 v ∧ W.ownsRow b 46 3 v pre.length (zs.map (.int .i64)) ∧ ((v.ownBlock = some (b + 2) ∨ ∃ g, v.ownBlock = some g ∧ b + 7 ≤ g) ∧ zs.length = pre.length * 3 ∧ pre.length ≤ 3 ∧ ∀ n us, Vd q (bL s) n us → pre.length ≤ n ∧ zs = us.take (pre.length * 3))) ∧ Boxed W b 23 (.slice none 0 0) ∧ Boxed W (b + 1) 4 (.bool false)) ∧ Below b W0 W)
    (fun c pre W => ((c = .ret ∧ ∀ n us, ¬ Vd q (bL s) n us) ∧ Boxed W b 23 (.slice none 0 0) ∧ Boxed W (b + 1) 4 (.bool false)) ∧ Below b W0 W)
    (OwnS.and (OwnS.and (OwnS.ex fun zs => holdsRow_ownS b (b + 3) (b + 4) _ (by omega) _ _ _ (fun (pre : List ByteArray) => pre.length) (fun _ => zs.map (.int .i64)) (fun pre v => (v.ownBlock = some (b + 2) ∨ ∃ g, v.ownBlock = some g ∧ b + 7 ≤ g) ∧ zs.length = pre.length * 3 ∧ pre.length ≤ 3 ∧ ∀ n us, Vd q (bL s) n us → pre.length ≤ n ∧ zs = us.take (pre.length * 3)) (fun s v h e => by
        rcases h.1 with h | ⟨g, h, hg⟩
        · rw [h] at e; injection e with e; omega
        · rw [h] at e; injection e with e; omega)) (OwnS.and (boxed_ownS _ _ _ (by omega) _ _) (boxed_ownS _ _ _ (by omega) _ _))) (below_ownS _ _ _ _ (by omega) (by omega) (by omega)))
    (fun c => OwnS.and (OwnS.and (OwnS.pure _ _ _) (OwnS.and (boxed_ownS _ _ _ (by omega) _ _) (boxed_ownS _ _ _ (by omega) _ _))) (below_ownS _ _ _ _ (by omega) (by omega) (by omega)))
    ⟨⟨⟨[], _, b3, hown0, .inl rfl, rfl, Nat.zero_le _, fun n us _ => ⟨Nat.zero_le _, rfl⟩⟩, b0, b1⟩, Below.refl _ _⟩ ?seq
    (fun x => { tmps := #[.int .i64 q, .string s, undef, undef, .pointer (some ⟨b, 0, none⟩), .pointer (some ⟨b + 1, 0, none⟩), .pointer (some ⟨b + 3, 0, none⟩), .string x, undef, undef, undef, undef, undef, undef, undef, undef, .slice (some ⟨b + 2, 0, none⟩) 0 0, .string s, .func (.func 56) #[] #[.pointer (some ⟨b + 5, 0, none⟩), .pointer (some ⟨b + 4, 0, none⟩), .pointer (some ⟨b + 6, 0, none⟩)], .string x, undef, undef, undef, undef, undef, undef, undef, undef, undef, undef, undef, undef, undef, undef, undef, undef, undef, undef, undef, undef, undef, undef, undef, undef, undef, undef, undef, undef, undef, undef, undef, undef, undef, undef, undef, undef, undef, undef, undef, undef, undef, undef, undef, undef, undef, undef, undef, undef, undef, undef, undef, undef, undef, undef, undef, undef, undef, undef, undef, undef], defers := [] }) ?assign ?body ?done ?stop
  case seq =>
    intro l J Jx W hBW hJ hJx hY h0
    exact split1_in 8 l (b + 4) W.heap.size (by omega) s 59 (by omega) J Jx hJ hY W (Boxed.upB b4 hBW) (Boxed.upB b5 hBW) (Boxed.upB b6 hBW) h0
  case assign =>
    intro l x W K hK
    dsimp only [encS]
    gi_wp2
    exact hK
  case body =>
    rintro l pre x W ⟨⟨⟨zs, v, hv, hrow, hG, hzl, hk3, hus⟩, q0, q1⟩, hB⟩ hpre
    obtain ⟨hxs, suf, hsuf⟩ := hpre.last
    obtain ⟨Av, cv, rfl, hO⟩ := OF.of (zs := zs) hrow rfl
    have hWs := hB.size
    rw [hs0] at hWs
    have hxz : x.size ≤ 1048577 := by omega
    have HEW := Lib.hid (HE.out.up (W' := W) (B := b) (by omega) ((hB0.mono (by omega)).trans hB))
    have HP := Lib.hid (fun n us (h : Vd q (bL s) n us) => vd_piece h hsuf)
    have HUS := Lib.hid hus
    have HZL := Lib.hid hzl
    have HG := Lib.hid hG
    have HRow := Lib.hid hrow
    have hcr := cutR_len (bL x)
    clear hsuf hus hzl hG hrow hpre
    gi_wp2_with fail
    refine (callsIn_wide.2 (cutI x _ hxz)).mono ?_
    rintro e w2 ⟨a, rr, fd, rfl, ha, hrr, hb2⟩
    have hrz : rr.size ≤ 1048576 := by
      have h1 : (bL rr).length = rr.size := by simp [bL]
      have h2 : (bL x).length = x.size := by simp [bL]
      rw [hrr] at h1
      omega
    have HA := Lib.hid ha
    have HRR := Lib.hid hrr
    clear ha hrr hcr
    gi_wp2_with fail
    refine (callsIn_wide.2 (opNamesI _)).mono ?_
    rintro e w3 ⟨rfl, hb3⟩
    replace hb3 := hb2.trans (hb3.mono hb2.size)
    have hs3 := hb3.size
    clear hb2
    gi_wp2_with (refine wpListIn_store_row (o := ⟨none, _, _, _, _, _⟩) rfl 48 _ _ rfl w3.heap.size rfl opC rfl _ 48 (World.alloc_heap_new _ _) (by kernel_rfl) rfl (by simp [opC, Value.oneCell']) ?_; intro w4 hg4 hgr4 hsz4)
    have hb4 : Below W.heap.size W w4 := (hb3.alloc hs3 _).grown hgr4 (by simp; omega) (fun k e => by cases e; exact hs3)
    have c0 : w4.cell? ⟨w3.heap.size, 0, none⟩ = some (.string ⟨#[97, 110, 100]⟩) := (cell_of_row w4 w3.heap.size 0 opC _ (0, 0) hg4).trans rfl
    have c1 : w4.cell? ⟨w3.heap.size, 1, none⟩ = some (.string ⟨#[111, 114]⟩) := (cell_of_row w4 w3.heap.size 1 opC _ (0, 0) hg4).trans rfl
    have c2 : w4.cell? ⟨w3.heap.size, 2, none⟩ = some (.string ⟨#[120, 111, 114]⟩) := (cell_of_row w4 w3.heap.size 2 opC _ (0, 0) hg4).trans rfl
    have c3 : w4.cell? ⟨w3.heap.size, 3, none⟩ = some (.string ⟨#[110, 111, 116]⟩) := (cell_of_row w4 w3.heap.size 3 opC _ (0, 0) hg4).trans rfl
    refine (callsIn_wide.2 (indexI a w3.heap.size w4 c0 c1 c2 c3)).mono ?_
    rintro e w' ⟨rfl, rfl⟩
    obtain ⟨op, hop⟩ : ∃ op, opS (bL a) = op := ⟨_, rfl⟩
    rw [hop]
    rw [HA.out] at hop
    have HOP := Lib.hid hop
    clear hop c0 c1 c2 c3 hg4 hgr4 hsz4 hb3
    gi_wp2_with fail
    refine (callsIn_wide.2 (numbersU rr _ hrz (HEW.out.up (Nat.le_refl _) hb4))).mono ?_
    rintro e w5 ⟨A, m, ns, ok, rfl, hR, h1m, hm, hgood, hb5⟩
    replace hb5 := hb4.trans (hb5.mono hb4.size)
    have HGood := Lib.hid hgood
    have HR := Lib.hid hR
    have HS := Lib.hid (show ¬ (0 ≤ op ∧ ok = true ∧ m ≤ 2 ∧ pre.length ≠ 3) → ∀ n us, ¬ Vd q (bL s) n us from by
      intro hns n us h
      obtain ⟨h1, h2, o, xx, y, _, _, _, ho, ho0, xs, hg, _, _⟩ := HP.out n us h
      apply hns
      obtain ⟨e1, e2⟩ := hgood xs (by rw [HRR.out]; exact hg)
      have h3 := (good_spl hg).2.2.2.2
      have h4 := hR.len
      rw [List.length_map] at h1
      exact ⟨by rw [← HOP.out, ho]; exact ho0, e2, by rw [← h4, e1]; exact h3, by omega⟩)
    have p3 := Boxed.upB hv hb5
    have p0 := Boxed.upB q0 hb5
    have p1 := Boxed.upB q1 hb5
    have z3 := p3.cell
    have z0 := p0.cell
    have z1 := p1.cell
    have f0 := p0.frozen
    have f1 := p1.frozen
    have f3 := p3.frozen
    have l3 := p3.lt
    have hs5 := hb5.size
    clear hgood hR hb4 hs3
    by_cases g1 : op < 0
    · gi_wp2
      exact ⟨(keeps_below hb5 _).trans (((KeepsOthers.setCell _ _ _).trans (KeepsOthers.setCell _ _ _)).from _), ⟨⟨rfl, HS.out (by omega)⟩, (p0.set _).other (by omega) _, (p1.other (by omega) _).set _⟩, hB.trans ((hb5.mono (by omega)).trans (((Below.refl b w5).setCell (p := ⟨b, 0, none⟩) (Nat.le_refl _) _).setCell (p := ⟨b + 1, 0, none⟩) (by show b ≤ b + 1; omega) _))⟩
    cases ok with
    | false =>
      replace HS := Lib.hid (HS.out (by simp))
      gi_wp2
      exact ⟨(keeps_below hb5 _).trans (((KeepsOthers.setCell _ _ _).trans (KeepsOthers.setCell _ _ _)).from _), ⟨⟨rfl, HS.out⟩, (p0.set _).other (by omega) _, (p1.other (by omega) _).set _⟩, hB.trans ((hb5.mono (by omega)).trans (((Below.refl b w5).setCell (p := ⟨b, 0, none⟩) (Nat.le_refl _) _).setCell (p := ⟨b + 1, 0, none⟩) (by show b ≤ b + 1; omega) _))⟩
    | true =>
      have h1m := h1m rfl
      by_cases g2 : 2 < m
      · have g2I : (2 : Int) < (m : Int) := by omega
        gi_wp2
        exact ⟨(keeps_below hb5 _).trans (((KeepsOthers.setCell _ _ _).trans (KeepsOthers.setCell _ _ _)).from _), ⟨⟨rfl, HS.out (by omega)⟩, (p0.set _).other (by omega) _, (p1.other (by omega) _).set _⟩, hB.trans ((hb5.mono (by omega)).trans (((Below.refl b w5).setCell (p := ⟨b, 0, none⟩) (Nat.le_refl _) _).setCell (p := ⟨b + 1, 0, none⟩) (by show b ≤ b + 1; omega) _))⟩
      have g2I : ¬ (2 : Int) < (m : Int) := by omega
      by_cases g3 : pre.length = 3
      · have g3I : ((pre.length : Int) = 3) := by omega
        gi_wp2
        exact ⟨(keeps_below hb5 _).trans (((KeepsOthers.setCell _ _ _).trans (KeepsOthers.setCell _ _ _)).from _), ⟨⟨rfl, HS.out (by omega)⟩, (p0.set _).other (by omega) _, (p1.other (by omega) _).set _⟩, hB.trans ((hb5.mono (by omega)).trans (((Below.refl b w5).setCell (p := ⟨b, 0, none⟩) (Nat.le_refl _) _).setCell (p := ⟨b + 1, 0, none⟩) (by show b ≤ b + 1; omega) _))⟩
      have g3I : ¬ ((pre.length : Int) = 3) := by omega
      obtain ⟨ad, y0, rfl, hbk, hy0, hc0⟩ := HR.out.at_ (k := 0) (by omega)
      have hc0' : w5.cell? ad = some (.int .i64 y0) := by simpa [Addr.add] using hc0
      have hm0 : (0 : Int) < (m : Int) := by omega
      clear hc0
      have g1d : decide (op < 0) = false := decide_eq_false g1
      have g3d : decide ((pre.length : Int) = 3) = false := decide_eq_false g3I
      have g3b : ((pre.length : Int) == 3) = false := by rw [beq_eq_false_iff_ne]; exact g3I
      by_cases g4 : m = 1
      · subst g4
        have hb6 : Below w5.heap.size w5 (w5.alloc (.cells #[.int .i64 op, .int .i64 y0, .int .i64 0] 46)) := ((Below.refl w5.heap.size w5).alloc (Nat.le_refl _) (.cells #[.int .i64 op, .int .i64 y0, .int .i64 0] 46))
        have hs6 : (w5.alloc (.cells #[.int .i64 op, .int .i64 y0, .int .i64 0] 46)).heap.size = w5.heap.size + 1 := by simp
        have r6 : (w5.alloc (.cells #[.int .i64 op, .int .i64 y0, .int .i64 0] 46)).ownsRow b 46 3 (.slice Av pre.length cv) pre.length (zs.map (.int .i64)) := ownsRow_up (ownsRow_up HRow.out hb5) hb6
        have p3' := Boxed.upB p3 hb6
        have hcs : ∀ j u, [Value.int .i64 op, .int .i64 y0, .int .i64 0][j]? = some u → ((w5.alloc (.cells #[.int .i64 op, .int .i64 y0, .int .i64 0] 46)).alloc (.cells #[.int .i64 op, .int .i64 y0, .int .i64 0] 46)).cell? ((⟨w5.heap.size + 1, 0, none⟩ : Addr).add j) = some u := fun j u hu => by
          rw [← hs6, lit_add, Nat.zero_add]; exact cells_newS (w5.alloc (.cells #[.int .i64 op, .int .i64 y0, .int .i64 0] 46)) [.int .i64 op, .int .i64 y0, .int .i64 0] 46 j u hu
        have hbs : b ≤ ((w5.alloc (.cells #[.int .i64 op, .int .i64 y0, .int .i64 0] 46)).alloc (.cells #[.int .i64 op, .int .i64 y0, .int .i64 0] 46)).heap.size := by rw [World.size_alloc, hs6]; omega
        gi_wp2_with (gi_at_builtin; refine wpListIn_pushSt _ rfl _ _ rfl b (.slice Av pre.length cv) pre.length _ rfl (r6.alloc _) ⟨w5.heap.size + 1, 0, none⟩ [.int .i64 op, .int .i64 y0, .int .i64 0] rfl (by simp [Value.oneCell']) rfl hcs (by omega) hbs ?_; intro g' c' w7 hown' hgrow hnew; obtain ⟨hv1, hv2, hr2, hk2, hb7⟩ := p3'.appended (by decide) r6 (by omega) (by omega) hown' hgrow; have hcc1 := hv1.cell; have hff1 := hv1.frozen)
        have hne : ∀ q, b + 4 ≤ q → q < b + 7 → some q ≠ (Value.slice Av pre.length cv).ownBlock := fun q h1 h2 e => by
          rcases HG.out with h | ⟨g, h, hg⟩
          · rw [h] at e; injection e with e; omega
          · rw [h] at e; injection e with e; omega
        have t0 := ((Boxed.upB p0 hb6).alloc (.cells #[.int .i64 op, .int .i64 y0, .int .i64 0] 46)).kept hgrow ((Boxed.upB p0 hb6).not_row (by decide) r6)
        have t1 := ((Boxed.upB p1 hb6).alloc (.cells #[.int .i64 op, .int .i64 y0, .int .i64 0] 46)).kept hgrow ((Boxed.upB p1 hb6).not_row (by decide) r6)
        refine ⟨(keeps_below hb5 _).trans ((keeps_below hb6 _).trans (hk2.from _)), fun q h1 h2 => ?_, ⟨⟨⟨zs ++ [op, y0, 0], _, hv2, by simpa using hr2, ?_, ?_, ?_, ?_⟩, t0.other (by omega) _, t1.other (by omega) _⟩, hB.trans ((hb5.mono (by omega)).trans ((hb6.mono (by omega)).trans hb7))⟩⟩
        · exact (Below.heap_setCell _ _ _ q (by show q ≠ b + 3; omega)).trans ((hgrow.block q (by rw [World.size_alloc, hs6]; omega) (hne q h1 h2)).trans ((Below.heap_alloc _ _ _ (by rw [hs6]; omega)).trans ((hb6.block q (by omega)).trans (hb5.block q (by omega)))))
        · rcases hnew with e | e
          · rcases HG.out with h | ⟨g, h, hg⟩
            · rw [h] at e; injection e with e; subst e; exact .inl rfl
            · rw [h] at e; injection e with e; subst e; exact .inr ⟨_, rfl, hg⟩
          · refine .inr ⟨_, rfl, ?_⟩
            show b + 7 ≤ g'
            rw [World.size_alloc, hs6] at e
            omega
        · rw [List.length_append, HZL.out, List.length_append]; simp; omega
        · rw [List.length_append, List.length_singleton]; omega
        · intro n us h
          obtain ⟨h1, h2, o, xx, yy, u0, u1, u2, ho, ho0, xs, hg, e0, e1⟩ := HP.out n us h
          obtain ⟨n1, n2⟩ := HGood.out xs (by rw [HRR.out]; exact hg)
          rw [List.length_map] at h1 u0 u1 u2
          have hoo : o = op := ho.symm.trans HOP.out
          have hlx : xs.length = 1 := by rw [← n1]; exact HR.out.len
          have hxx : xx = y0 := by rw [← e0, ← n1, List.getD, hy0]; rfl
          have hyy : yy = 0 := by rw [← e1, if_neg (by omega)]
          refine ⟨by rw [List.length_append, List.length_singleton]; omega, ?_⟩
          rw [List.length_append, List.length_singleton, take_three u0 u1 u2, ← (HUS.out n us h).2, hoo, hxx, hyy]
      · obtain rfl : m = 2 := by omega
        obtain ⟨ad', y1, e1, _, hy1, hc1⟩ := HR.out.at_ (k := 1) (by omega)
        cases e1
        have hbk1 : (ad.add 1).block < w5.heap.size := by rw [blk_add]; exact hbk
        have hc1' : w5.cell? ⟨ad.block, ad.off + 1, none⟩ = some (.int .i64 y1) := by simpa [Addr.add] using hc1
        clear hc1
        have hb6 : Below w5.heap.size w5 (w5.alloc (.cells #[.int .i64 op, .int .i64 y0, .int .i64 y1] 46)) := ((Below.refl w5.heap.size w5).alloc (Nat.le_refl _) (.cells #[.int .i64 op, .int .i64 y0, .int .i64 y1] 46))
        have hs6 : (w5.alloc (.cells #[.int .i64 op, .int .i64 y0, .int .i64 y1] 46)).heap.size = w5.heap.size + 1 := by simp
        have r6 : (w5.alloc (.cells #[.int .i64 op, .int .i64 y0, .int .i64 y1] 46)).ownsRow b 46 3 (.slice Av pre.length cv) pre.length (zs.map (.int .i64)) := ownsRow_up (ownsRow_up HRow.out hb5) hb6
        have p3' := Boxed.upB p3 hb6
        have hcs : ∀ j u, [Value.int .i64 op, .int .i64 y0, .int .i64 y1][j]? = some u → ((w5.alloc (.cells #[.int .i64 op, .int .i64 y0, .int .i64 y1] 46)).alloc (.cells #[.int .i64 op, .int .i64 y0, .int .i64 y1] 46)).cell? ((⟨w5.heap.size + 1, 0, none⟩ : Addr).add j) = some u := fun j u hu => by
          rw [← hs6, lit_add, Nat.zero_add]; exact cells_newS (w5.alloc (.cells #[.int .i64 op, .int .i64 y0, .int .i64 y1] 46)) [.int .i64 op, .int .i64 y0, .int .i64 y1] 46 j u hu
        have hbs : b ≤ ((w5.alloc (.cells #[.int .i64 op, .int .i64 y0, .int .i64 y1] 46)).alloc (.cells #[.int .i64 op, .int .i64 y0, .int .i64 y1] 46)).heap.size := by rw [World.size_alloc, hs6]; omega
        gi_wp2_with (gi_at_builtin; refine wpListIn_pushSt _ rfl _ _ rfl b (.slice Av pre.length cv) pre.length _ rfl (r6.alloc _) ⟨w5.heap.size + 1, 0, none⟩ [.int .i64 op, .int .i64 y0, .int .i64 y1] rfl (by simp [Value.oneCell']) rfl hcs (by omega) hbs ?_; intro g' c' w7 hown' hgrow hnew; obtain ⟨hv1, hv2, hr2, hk2, hb7⟩ := p3'.appended (by decide) r6 (by omega) (by omega) hown' hgrow; have hcc1 := hv1.cell; have hff1 := hv1.frozen)
        have hne : ∀ q, b + 4 ≤ q → q < b + 7 → some q ≠ (Value.slice Av pre.length cv).ownBlock := fun q h1 h2 e => by
          rcases HG.out with h | ⟨g, h, hg⟩
          · rw [h] at e; injection e with e; omega
          · rw [h] at e; injection e with e; omega
        have t0 := ((Boxed.upB p0 hb6).alloc (.cells #[.int .i64 op, .int .i64 y0, .int .i64 y1] 46)).kept hgrow ((Boxed.upB p0 hb6).not_row (by decide) r6)
        have t1 := ((Boxed.upB p1 hb6).alloc (.cells #[.int .i64 op, .int .i64 y0, .int .i64 y1] 46)).kept hgrow ((Boxed.upB p1 hb6).not_row (by decide) r6)
        refine ⟨(keeps_below hb5 _).trans ((keeps_below hb6 _).trans (hk2.from _)), fun q h1 h2 => ?_, ⟨⟨⟨zs ++ [op, y0, y1], _, hv2, by simpa using hr2, ?_, ?_, ?_, ?_⟩, t0.other (by omega) _, t1.other (by omega) _⟩, hB.trans ((hb5.mono (by omega)).trans ((hb6.mono (by omega)).trans hb7))⟩⟩
        · exact (Below.heap_setCell _ _ _ q (by show q ≠ b + 3; omega)).trans ((hgrow.block q (by rw [World.size_alloc, hs6]; omega) (hne q h1 h2)).trans ((Below.heap_alloc _ _ _ (by rw [hs6]; omega)).trans ((hb6.block q (by omega)).trans (hb5.block q (by omega)))))
        · rcases hnew with e | e
          · rcases HG.out with h | ⟨g, h, hg⟩
            · rw [h] at e; injection e with e; subst e; exact .inl rfl
            · rw [h] at e; injection e with e; subst e; exact .inr ⟨_, rfl, hg⟩
          · refine .inr ⟨_, rfl, ?_⟩
            show b + 7 ≤ g'
            rw [World.size_alloc, hs6] at e
            omega
        · rw [List.length_append, HZL.out, List.length_append]; simp; omega
        · rw [List.length_append, List.length_singleton]; omega
        · intro n us h
          obtain ⟨h1, h2, o, xx, yy, u0, u1, u2, ho, ho0, xs, hg, e0, e1⟩ := HP.out n us h
          obtain ⟨n1, n2⟩ := HGood.out xs (by rw [HRR.out]; exact hg)
          rw [List.length_map] at h1 u0 u1 u2
          have hoo : o = op := ho.symm.trans HOP.out
          have hlx : xs.length = 2 := by rw [← n1]; exact HR.out.len
          have hxx : xx = y0 := by rw [← e0, ← n1, List.getD, hy0]; rfl
          have hyy : yy = y1 := by rw [← e1, if_pos hlx, ← n1, List.getD, hy1]; rfl
          refine ⟨by rw [List.length_append, List.length_singleton]; omega, ?_⟩
          rw [List.length_append, List.length_singleton, take_three u0 u1 u2, ← (HUS.out n us h).2, hoo, hxx, hyy]
  case done =>
    rintro D ys W hD hys ⟨⟨⟨zs, v, hv, hrow, hG, hzl, hk3, hus⟩, q0, q1⟩, hB⟩ hK
    have hall : spl 59 (bL s) = ys.map bL := hys
    obtain ⟨A, c, rfl, hO⟩ := OF.of (zs := zs) hrow rfl
    have hNo : ∀ n us, Vd q (bL s) n us → n = ys.length ∧ us = zs := fun n us h => by
      have h1 := (vd_rd h).2.1
      rw [hall] at h1
      have h2 := congrArg List.length h1
      simp at h2
      refine ⟨h2.symm, ?_⟩
      have h3 := (hus n us h).2
      rw [List.take_of_length_le (by rw [h.1]; omega)] at h3
      exact h3.symm
    obtain ⟨n, hn⟩ : ∃ n, ys.length = n := ⟨_, rfl⟩
    rw [hn] at hO hk3 hzl hv hNo
    have HNo := Lib.hid hNo
    have HO := Lib.hid hO
    have HZL := Lib.hid hzl
    have hcap := hO.cap.1
    have hWs := hB.size
    rw [hs0] at hWs
    have HR := Lib.hid hO.reads
    have HF := Lib.hid (formValid q A n zs c W hO.reads (by omega))
    have z3 := hv.cell
    have z0 := q0.cell
    have z1 := q1.cell
    have f0 := q0.frozen
    have f1 := q1.frozen
    have HB := Lib.hid hB
    have HK := Lib.hid hK
    unfold GivesT at HF
    clear hO hall hys hrow hG hus hNo hzl hB hK
    rw [show b + 2 + 1 = b + 3 from rfl]
    by_cases hV : fmB q n zs = true
    rotate_left
    · have hV' : fmB q n zs = false := by simpa using hV
      rw [hV'] at HF
      have HN := Lib.hid (show ∀ m us, ¬ Vd q (bL s) m us from fun m us h => by
        obtain ⟨rfl, rfl⟩ := HNo.out m us h
        exact hV h.2.1)
      clear hV hV'
      gi_wp2_with (gi_at_call 10; refine (callsIn_wide.2 HF.out).mono ?_; rintro e w3 ⟨rfl, hb3⟩; have p0 := Boxed.upB q0 hb3; have p1 := Boxed.upB q1 hb3; have y0 := p0.cell; have y1 := p1.cell; have g0 := p0.frozen; have g1 := p1.frozen; have hs3 := hb3.size)
      have hK := HK.out
      have hDl : D < W.heap.size := (Array.getElem?_eq_some_iff.1 hK).1
      have hK3 : ((w3.setCell ⟨b, 0, none⟩ (.slice none 0 0)).setCell ⟨b + 1, 0, none⟩ (.bool false)).heap[D]? = some (.deferred (some [])) := (Below.heap_setCell _ _ _ D (by show D ≠ b + 1; omega)).trans ((Below.heap_setCell _ _ _ D (by show D ≠ b; omega)).trans ((hb3.block D hDl).trans hK))
      have s0 := (p0.set (.slice none 0 0)).other (show b ≠ b + 1 by omega) (.bool false)
      have s1 := (p1.other (show b + 1 ≠ b by omega) (.slice none 0 0)).set (.bool false)
      have r0 := s0.kept (grownBy_putObj' _ D (.deferred none)) (fun e => by injection e with e; omega)
      have r1 := s1.kept (grownBy_putObj' _ D (.deferred none)) (fun e => by injection e with e; omega)
      refine ⟨by simp, .inl ⟨_, _, rfl, run_takeDeferred hK3, ?_⟩⟩
      refine ⟨_, results_cell2 rfl _ _ b (b + 1) _ _ rfl rfl (load_box r0 (by kernel_rfl)) (load_box r1 (by kernel_rfl)), ?_, .inl ⟨rfl, HN.out⟩⟩
      rw [hb]
      exact (hb ▸ hB0).trans (HB.out.trans ((hb3.mono (by omega)).trans ((((Below.refl b w3).setCell (p := ⟨b, 0, none⟩) (Nat.le_refl _) _).setCell (p := ⟨b + 1, 0, none⟩) (by show b ≤ b + 1; omega) _).trans ⟨rfl, rfl, rfl, by simp, fun k hk => World.putObj_heap_other (by omega)⟩)))
    rw [hV] at HF
    by_cases hT : fxF q n zs = bL s
    rotate_left
    · obtain ⟨T, hTx⟩ : ∃ T : ByteArray, (⟨(fxF q n zs).toArray⟩ : ByteArray) = T := ⟨_, rfl⟩
      have HFT := Lib.hid (fun W' (hW' : Below W.heap.size W W') => formTextI q A n zs c W' (HR.out.up (Nat.le_refl _) hW' (Nat.le_refl _)) (by omega))
      unfold GivesS at HFT
      rw [hTx] at HFT
      have hne : (T.toList == s.toList) = false := by
        rw [beq_eq_false_iff_ne, ByteArray.toList_eq, ByteArray.toList_eq, ← hTx]
        exact hT
      have HN := Lib.hid (show ∀ m us, ¬ Vd q (bL s) m us from fun m us h => by
        obtain ⟨rfl, rfl⟩ := HNo.out m us h
        exact hT h.2.2)
      clear hT hTx hV
      gi_wp2_with (first | (gi_at_call 10; refine (callsIn_wide.2 HF.out).mono ?_; rintro e w3 ⟨rfl, hb3⟩; have z4 := (Boxed.upB hv hb3).cell) | (gi_at_call 8; refine (callsIn_wide.2 (HFT.out _ hb3)).mono ?_; rintro e w4 ⟨rfl, hb4⟩; replace hb4 := hb3.trans (hb4.mono hb3.size); have p0 := Boxed.upB q0 hb4; have p1 := Boxed.upB q1 hb4; have y0 := p0.cell; have y1 := p1.cell; have g0 := p0.frozen; have g1 := p1.frozen; have hs4 := hb4.size))
      have hK := HK.out
      have hDl : D < W.heap.size := (Array.getElem?_eq_some_iff.1 hK).1
      have hK3 : ((w4.setCell ⟨b, 0, none⟩ (.slice none 0 0)).setCell ⟨b + 1, 0, none⟩ (.bool false)).heap[D]? = some (.deferred (some [])) := (Below.heap_setCell _ _ _ D (by show D ≠ b + 1; omega)).trans ((Below.heap_setCell _ _ _ D (by show D ≠ b; omega)).trans ((hb4.block D hDl).trans hK))
      have s0 := (p0.set (.slice none 0 0)).other (show b ≠ b + 1 by omega) (.bool false)
      have s1 := (p1.other (show b + 1 ≠ b by omega) (.slice none 0 0)).set (.bool false)
      have r0 := s0.kept (grownBy_putObj' _ D (.deferred none)) (fun e => by injection e with e; omega)
      have r1 := s1.kept (grownBy_putObj' _ D (.deferred none)) (fun e => by injection e with e; omega)
      refine ⟨by simp, .inl ⟨_, _, rfl, run_takeDeferred hK3, ?_⟩⟩
      refine ⟨_, results_cell2 rfl _ _ b (b + 1) _ _ rfl rfl (load_box r0 (by kernel_rfl)) (load_box r1 (by kernel_rfl)), ?_, .inl ⟨rfl, HN.out⟩⟩
      rw [hb]
      exact (hb ▸ hB0).trans (HB.out.trans ((hb4.mono (by omega)).trans ((((Below.refl b w4).setCell (p := ⟨b, 0, none⟩) (Nat.le_refl _) _).setCell (p := ⟨b + 1, 0, none⟩) (by show b ≤ b + 1; omega) _).trans ⟨rfl, rfl, rfl, by simp, fun k hk => World.putObj_heap_other (by omega)⟩)))
    have hTx : (⟨(fxF q n zs).toArray⟩ : ByteArray) = s := by rw [hT]
    have HFT := Lib.hid (fun W' (hW' : Below W.heap.size W W') => formTextI q A n zs c W' (HR.out.up (Nat.le_refl _) hW' (Nat.le_refl _)) (by omega))
    unfold GivesS at HFT
    rw [hTx] at HFT
    have HVd := Lib.hid (show Vd q (bL s) n zs from ⟨HZL.out, hV, hT⟩)
    clear hT hTx hV
    gi_wp2_with (first | (gi_at_call 10; refine (callsIn_wide.2 HF.out).mono ?_; rintro e w3 ⟨rfl, hb3⟩; have z4 := (Boxed.upB hv hb3).cell) | (gi_at_call 8; refine (callsIn_wide.2 (HFT.out _ hb3)).mono ?_; rintro e w4 ⟨rfl, hb4⟩; replace hb4 := hb3.trans (hb4.mono hb3.size); have p0 := Boxed.upB q0 hb4; have p1 := Boxed.upB q1 hb4; have y0 := p0.cell; have y1 := p1.cell; have g0 := p0.frozen; have g1 := p1.frozen; have hs4 := hb4.size; have y3 := (Boxed.upB hv hb4).cell) | (gi_at_call 34; refine (callsIn_wide.2 (clipSt A n c _ hcap)).mono ?_; rintro e w5 ⟨rfl, rfl⟩))
    have hK := HK.out
    have hDl : D < W.heap.size := (Array.getElem?_eq_some_iff.1 hK).1
    have hK3 : ((w4.setCell ⟨b, 0, none⟩ (.slice A n n)).setCell ⟨b + 1, 0, none⟩ (.bool true)).heap[D]? = some (.deferred (some [])) := (Below.heap_setCell _ _ _ D (by show D ≠ b + 1; omega)).trans ((Below.heap_setCell _ _ _ D (by show D ≠ b; omega)).trans ((hb4.block D hDl).trans hK))
    have s0 := (p0.set (.slice A n n)).other (show b ≠ b + 1 by omega) (.bool true)
    have s1 := (p1.other (show b + 1 ≠ b by omega) (.slice A n n)).set (.bool true)
    have r0 := s0.kept (grownBy_putObj' _ D (.deferred none)) (fun e => by injection e with e; omega)
    have r1 := s1.kept (grownBy_putObj' _ D (.deferred none)) (fun e => by injection e with e; omega)
    have o3 : OF 46 3 w4 b A n c zs := ownsRow_up HO.out hb4
    have o4 := o3.kept (grownBy_setCell' w4 b (.slice A n n)) (.inr (p0.not_row (by decide) o3).symm)
    have o5 := o4.kept (grownBy_setCell' _ (b + 1) (.bool true)) (.inr ((p1.other (show b + 1 ≠ b by omega) _).not_row (by decide) o4).symm)
    refine ⟨by simp, .inl ⟨_, _, rfl, run_takeDeferred hK3, ?_⟩⟩
    refine ⟨_, results_cell2 rfl _ _ b (b + 1) _ _ rfl rfl (load_box r0 (by kernel_rfl)) (load_box r1 (by kernel_rfl)), ?_, .inr ⟨A, n, zs, rfl, by rw [hb]; exact (OF.toI (show OF 46 3 _ b A n c zs from ownsRow_putObj o5 (.deferred none) hK3 rfl)).clip, HVd.out⟩⟩
    rw [hb]
    exact (hb ▸ hB0).trans (HB.out.trans ((hb4.mono (by omega)).trans ((((Below.refl b w4).setCell (p := ⟨b, 0, none⟩) (Nat.le_refl _) _).setCell (p := ⟨b + 1, 0, none⟩) (by show b ≤ b + 1; omega) _).trans ⟨rfl, rfl, rfl, by simp, fun k hk => World.putObj_heap_other (by omega)⟩)))
  case stop =>
    rintro D c pre W hD ⟨⟨⟨rfl, hbad⟩, q0, q1⟩, hB⟩ hK
    gi_wp2
    have hDl : D < W.heap.size := (Array.getElem?_eq_some_iff.1 hK).1
    have p0 : Boxed (W.putObj D (.deferred none)) b 23 (.slice none 0 0) := q0.kept (grownBy_putObj' W D _) (fun e => by injection e with e; omega)
    have p1 : Boxed (W.putObj D (.deferred none)) (b + 1) 4 (.bool false) := q1.kept (grownBy_putObj' W D _) (fun e => by injection e with e; omega)
    refine ⟨by simp, .inl ⟨_, _, rfl, run_takeDeferred hK, ?_⟩⟩
    refine ⟨_, results_cell2 rfl _ _ b (b + 1) _ _ rfl rfl (load_box p0 (by kernel_rfl)) (load_box p1 (by kernel_rfl)), ?_, .inl ⟨rfl, hbad⟩⟩
    rw [hb]
    exact (hb ▸ hB0).trans (hB.trans ⟨rfl, rfl, rfl, by simp, fun k hk => World.putObj_heap_other (by omega)⟩)
end Go.Proofs.YtkpjlkahebeljaaDoor

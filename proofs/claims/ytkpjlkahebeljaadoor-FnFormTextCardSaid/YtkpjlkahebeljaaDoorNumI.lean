/- Contracts of the program: joined at any ints, numbersIn. -/
import Derived.RangeFuncBox
import Derived.RangeFuncNested
import Derived.RangeFuncLeaves
import Derived.Shelf.Abstract
import Derived.WalkKit
import Derived.OwnWalkIn
import Derived.TacticsInMore
import Derived.LoopNIn
import Derived.LoopIn
import Derived.Maps.AppendAt
import Derived.Lib.ItoaLen
import Derived.Test.YtkpjlkahebeljaaDoorShelfN
import Derived.Test.YtkpjlkahebeljaaDoorCutI
import Derived.Test.YtkpjlkahebeljaaDoorFTextI
namespace Go.Proofs.YtkpjlkahebeljaaDoor
open Go.RowKit Go.Shelf
set_option linter.unusedVariables false
attribute [local go_sem] Oper.semAt_some
def i64B (x : Int) : Prop := -9223372036854775808 ≤ x ∧ x ≤ 9223372036854775807
theorem join_le (ns : List Int) (hw : ∀ x ∈ ns, i64B x) : (Lib.join (ns.map Lib.itoa) [32]).length ≤ 22 * ns.length := by
  cases ns with
  | nil => simp [Lib.join]
  | cons a l =>
    have ht : ∀ (l : List Int), (∀ x ∈ l, i64B x) → (Lib.joinTail [32] (l.map Lib.itoa)).length ≤ 22 * l.length := by
      intro l
      induction l with
      | nil => simp [Lib.joinTail]
      | cons b l ih =>
        intro h
        have hb := Lib.itoa_length_le b (h b (List.mem_cons_self ..)).1 (h b (List.mem_cons_self ..)).2
        have := ih (fun x hx => h x (List.mem_cons_of_mem _ hx))
        simp only [Lib.joinTail, List.map_cons, List.flatten_cons, List.length_append, List.length_cons] at this ⊢
        simp at this ⊢; omega
    have h1 := Lib.itoa_length_le a (hw a (List.mem_cons_self ..)).1 (hw a (List.mem_cons_self ..)).2
    have h2 := ht l (fun x hx => hw x (List.mem_cons_of_mem _ hx))
    rw [List.map_cons, Lib.join_cons, List.length_append, List.length_cons]
    omega
/-- strings.Join of texts that the call owns -/
theorem joinU (w : World) (base : Nat) (A : Option Addr) (n c : Nat) (ls : List (List UInt8)) (sep : List UInt8) (hO : OT w base A n c (ls.map fun l => (⟨l.toArray⟩ : ByteArray))) (h1 : 1 ≤ n) (hn : n ≤ 1048577) (hl : (Lib.join ls sep).length ≤ 100000000) :
    Calls Tryd.prog 25 #[.slice A n c, .string ⟨sep.toArray⟩] w (GivesS w (Lib.join ls sep)) := by
  have hlen := hO.len
  rcases hO.2 with ⟨hv, h0⟩ | ⟨g, cap, cur, hv, _, hh, hnc, hcm, hcs, ht⟩
  · omega
  injection hv with e1 _ e3
  subst e1; subst e3
  have hll : ls.length = n := by simpa using hlen
  have hm : (ls.map fun l => (⟨l.toArray⟩ : ByteArray)).map (·.data.toList) = ls := by
    rw [List.map_map]
    conv => rhs; rw [← List.map_id ls]
    congr 1
  have h := strJoin g 0 c (ls.map fun l => (⟨l.toArray⟩ : ByteArray)) ⟨sep.toArray⟩ w (fun j x hx => by
      have hj : j < n * 1 := by have := (List.getElem?_eq_some_iff.1 hx).1; rw [List.length_map] at this; omega
      have hc := cell_of_row w g (0 + j) cur _ (0, 0) hh
      rw [hc, Nat.zero_add]
      have := congrArg (fun l => l[j]?) ht
      simp only [List.getElem?_take, if_pos hj] at this
      rw [List.getElem?_map, hx] at this
      simpa using this) (Array.getElem?_eq_some_iff.1 hh).1 (by rw [List.length_map]; omega) (by rw [List.length_map]; omega) (by rw [hm]; show (Lib.join ls sep).length ≤ _; omega)
  rw [hm, List.length_map, hll] at h
  exact h
set_option maxRecDepth 100000 in
set_option maxHeartbeats 4000000 in
theorem joinedA (A : Option Addr) (m c : Nat) (ws : List Int) (w : World) (hr : RI w w.heap.size A m ws) (h1 : 1 ≤ m) (h2 : m ≤ 1048577) (hw : ∀ x ∈ ws, i64B x) (hE : ErrV w) :
    Calls Tryd.prog 24 #[.slice A m c, .string ⟨#[32]⟩] w (GivesS w (Lib.join (ws.map Lib.itoa) [32])) := by
  obtain ⟨i0, hi, hz0, hz1, hz2⟩ := info_parts infoStr
  have hL := join_le ws hw
  rw [hr.len] at hL
  have HL := Lib.hid hL
  have HR := Lib.hid hr
  have HW := Lib.hid hw
  have HE := Lib.hid hE
  clear hr hw hE hL
  go_enter Tryd.func24, Tryd.ntmps24
  go_wp2_with (refine wpList_make_own _ rfl _ _ 44 rfl w.heap.size 9 i0 (.string ⟨#[]⟩) 1 Tryd.underlying44 hi hz0 hz1 .i64 .i64 _ m rfl rfl rfl (by rw [hz2]; omega) (by unfold maxLen; omega) (Nat.le_refl _) ?_; intro w1 hown1 hg1)
  have hb1 : Below w.heap.size w w1 := grown_below hg1
  have HO1 := Lib.hid (show OT w1 w.heap.size (some ⟨w.heap.size, 0, none⟩) 0 m [] from hown1)
  clear hown1 hg1
  go_loopw [5, 13] (fun v i wr => ∃ (k : Nat) (A' : Option Addr) (c' : Nat), k ≤ m ∧ i = .int .i64 k ∧ v = .slice A' k c' ∧ Hid (OT wr w.heap.size A' k c' (((ws.take k).map Lib.itoa).map fun l => (⟨l.toArray⟩ : ByteArray))) ∧ Below w.heap.size w wr)
    (fun _ i _ => m - (intOf i).toNat)
  case atStart => exact ⟨0, _, _, Nat.zero_le _, rfl, rfl, HO1.out, hb1⟩
  case round =>
    obtain ⟨k, A', c', hk, rfl, rfl, HO, hB⟩ := hrel
    have hs := hB.size
    by_cases hlt : k < m
    rotate_left
    · obtain rfl : k = m := by omega
      have hO := HO.out
      rw [List.take_of_length_le (by rw [HR.out.len]; exact Nat.le_refl _)] at hO
      have HJ := Lib.hid (joinU wr w.heap.size A' k c' (ws.map Lib.itoa) [32] hO h1 (by omega) (by have := HL.out; omega))
      clear hO
      go_wp2_with (go_at_call 25; refine HJ.out.mono ?_; rintro e w3 ⟨rfl, hB3⟩)
      go_ret
      exact ⟨rfl, hB.trans (hB3.mono hs)⟩
    have hki : (k : Int) < (m : Int) := by omega
    obtain ⟨ad, x, rfl, hbx, g0, hc0⟩ := (HR.out.up (Nat.le_refl _) hB (Nat.le_refl _)).at_ hlt
    have hx := HW.out x (List.mem_of_getElem? g0)
    have HT := Lib.hid (show ws.take (k + 1) = ws.take k ++ [x] by rw [List.take_add_one, g0]; rfl)
    have HN := Lib.hid (fun W hW => itoaA x hx.1 hx.2 W hW)
    have HEr := Lib.hid (HE.out.up (Nat.le_refl _) hB)
    clear g0 hx
    go_wp2_with (first | (go_at_call 42; refine (HN.out _ HEr.out).mono ?_; rintro e w2 ⟨rfl, hB2⟩; replace HO := Lib.hid (HO.out.below hB2 (Nat.le_refl _)); replace hB := hB.trans (hB2.mono hs); have hs2 := hB.size) | (at_builtin; refine wpList_pushT _ _ rfl _ _ rfl w.heap.size A' k c' _ rfl _ rfl rfl HO.out (by omega) (by omega) ?_; intro A4 c4 w4 hO4 hg4))
    have hB4 : Below w.heap.size w w4 := hB.grown hg4 (by omega) (fun q e => (HO.out.lt q e).1)
    go_roundw
    case rel => exact ⟨k + 1, _, _, by omega, by go_num, rfl, by show OT _ _ _ _ _ _; rw [HT.out]; simpa using hO4, hB4⟩
    case measure => simp [intOf]; omega
/-- two results that lie in cells -/
theorem results_cell2 {fn : Func} {p u : Tmp} {ty tu : TypeId} (h : fn.results = #[.cell p ty, .cell u tu]) (tmps : Array Value) (W : World) (g1 g2 : Nat) (v1 v2 : Value) (hp : tmps.getD p undef = .pointer (some ⟨g1, 0, none⟩)) (hu : tmps.getD u undef = .pointer (some ⟨g2, 0, none⟩))
    (l1 : (loadVar ty ⟨g1, 0, none⟩).run Tryd.prog W = .ok v1 W) (l2 : (loadVar tu ⟨g2, 0, none⟩).run Tryd.prog W = .ok v2 W) :
    (results fn tmps).run Tryd.prog W = .ok (.tuple #[v1, v2]) W := by
  rw [Array.getD_eq_getD_getElem?] at hp hu
  simp [results, h, Sem.run_bind, Result.andThen, hp, hu, asAddr, l1, l2]
theorem load_box {W : World} {b : Nat} {ty : TypeId} {v : Value} (h : Boxed W b ty v) (ha : (isAgg ty).run Tryd.prog W = .ok false W) : (loadVar ty ⟨b, 0, none⟩).run Tryd.prog W = .ok v W := by
  have := h.cell
  simp [loadVar, ha, Sem.run_bind, Result.andThen, loadCells, this, go_sem]
/-- slices.Clip at ints -/
theorem clipI (A : Option Addr) (n c : Nat) (w : World) (hn : n ≤ c) : Calls Tryd.prog 51 #[.slice A n c] w fun e w' => e = .returned (.slice A n n) ∧ w = w' := by
  have h1 : (n : Int) ≤ (c : Int) := by omega
  go_enter Tryd.func51, Tryd.ntmps51
  go_wp2
  go_ret
  exact ⟨rfl, rfl⟩
theorem infoIntN : (Tryd.prog.info? 3).map (fun i => (i.zero, i.size, i.bytes)) = some (some (.int .i64 0), 1, 8) := by kernel_rfl
/-- append of one integer: the row is the elder one or a new one -/
theorem run_pushN (w : World) (ty : TypeId) (base : Nat) (v : Value) (n : Nat) (xs : List Value) (hown : w.ownsRow base 3 1 v n xs) (ad : Addr) (x : Int)
    (hx : w.cell? ad = some (.int .i64 x)) (hn : n ≤ 1099511627776) (hb : base ≤ w.heap.size) :
    ∃ g c' w', (Builtin.append_ #[47, 47] ty #[v, .slice (some ad) 1 1]).run Tryd.prog w = .ok (.slice (some ⟨g, 0, none⟩) (n + 1) c') w' ∧
      w'.ownsRow base 3 1 (.slice (some ⟨g, 0, none⟩) (n + 1) c') (n + 1) (xs ++ [.int .i64 x]) ∧ w.grownBy w' v.ownBlock ∧ (v.ownBlock = some g ∨ w.heap.size ≤ g) := by
  obtain ⟨i0, hi, hz0, hz1, hz2⟩ := info_parts infoIntN
  have hc : ∀ j u, [Value.int .i64 x][j]? = some u → w.cell? (ad.add j) = some u := by
    intro j u hu
    cases j with
    | zero => simp at hu; subst hu; rw [show ad.add 0 = ad from by unfold Addr.add; simp]; exact hx
    | succ j => simp at hu
  obtain ⟨v', w', hr, h1, h2, h3⟩ := run_append_own (P := Tryd.prog) w base 47 ty 3 i0 (.int .i64 0) 1 8 Tryd.underlying47 hi hz0 hz1 hz2 rfl (by decide) v n xs hown ad 1 1 [.int .i64 x] rfl hc (by simp [Value.oneCell']) (by unfold maxLen; omega) (by omega) hb
  obtain ⟨g, c', rfl⟩ := ownsRow_succ h1
  refine ⟨g, c', w', hr, h1, h2, ?_⟩
  rcases hown.2 with ⟨rfl, rfl⟩ | ⟨g0, cap, cur, rfl, hbg, hg, hnc, hcm, hcs, htake⟩
  · have hown2 : w.ownsRow w.heap.size 3 1 (.slice none 0 0) 0 xs := ⟨hown.1, .inl ⟨rfl, rfl⟩⟩
    obtain ⟨v2, w2, hr2, k1, k2, k3⟩ := run_append_own (P := Tryd.prog) w w.heap.size 47 ty 3 i0 (.int .i64 0) 1 8 Tryd.underlying47 hi hz0 hz1 hz2 rfl (by decide) _ 0 xs hown2 ad 1 1 [.int .i64 x] rfl hc (by simp [Value.oneCell']) (by unfold maxLen; omega) (by omega) (Nat.le_refl _)
    rw [hr] at hr2
    injection hr2 with e1 e2
    subst e1; subst e2
    exact .inr (k1.lt g rfl).1
  · by_cases hroom : n + 1 ≤ cap
    · have hr2 := run_append_room (P := Tryd.prog) w 47 ty 3 i0 Tryd.underlying47 hi g0 n cap cur hg ad 1 1 [.int .i64 x] (by rw [hz1]; rfl) hc (by simp [Value.oneCell']) hroom (by rw [hz1]; simp; omega)
      rw [hr] at hr2
      injection hr2 with e1 e2
      injection e1 with e1
      injection e1 with e1; injection e1 with e1
      subst e1
      exact .inl rfl
    · have hr2 := run_append_grow (P := Tryd.prog) w 47 ty 3 i0 (.int .i64 0) Tryd.underlying47 hi hz0 ⟨g0, 0, none⟩ n cap xs (by rw [hz1]; exact hown.1) (hown.cells (g := g0) rfl) ad 1 1 [.int .i64 x] (by rw [hz1]; rfl) hc (by omega) (by omega) (growslice_fits (by omega) (by rw [hz2]; omega))
      rw [hr] at hr2
      injection hr2 with e1 e2
      injection e1 with e1
      injection e1 with e1; injection e1 with e1
      exact .inr (by omega)
theorem wpListIn_pushN {F : Fence} {m : Nat} {ops : Array Oper} {rest : List Oper} {o : Oper} {a : Act} {Q : Exit → Act → World → Prop} (w : World)
    (hgd : o.guard = none) (s y : Operand) (hop : o.op = Op.call { callee := Callee.builtin Builtin.append, args := #[s, y], argTypes := #[47, 47] })
    (base : Nat) (v : Value) (n : Nat) (xs : List Value) (hs : a.eval s = v) (hown : w.ownsRow base 3 1 v n xs) (ad : Addr) (x : Int) (hy : a.eval y = .slice (some ad) 1 1)
    (hx : w.cell? ad = some (.int .i64 x)) (hn : n ≤ 1099511627776) (hb : base ≤ w.heap.size)
    (hK : ∀ g c' w', w'.ownsRow base 3 1 (.slice (some ⟨g, 0, none⟩) (n + 1) c') (n + 1) (xs ++ [.int .i64 x]) → w.grownBy w' v.ownBlock → (v.ownBlock = some g ∨ w.heap.size ≤ g) → wpListIn F m Tryd.prog ops Q rest (a.put o.dst (.slice (some ⟨g, 0, none⟩) (n + 1) c')) w') :
    wpListIn F m Tryd.prog ops Q (o :: rest) a w := by
  refine wpListIn_plain hgd fun K hK' => ?_
  obtain ⟨g, c', w', hrun, r1, r2, r3⟩ := run_pushN w o.type base v n xs hown ad x hx hn hb
  unfold Oper.wpIn
  refine ⟨?_, ?_⟩
  · simp [Oper.about, hop, resolve, Target.leads, Sem.run_pure]
  · rw [Oper.semAt_plain F _ _ (by rw [hop]; intro c hc'; cases hc')]
    simp [execOp, hop, resolve, invoke, builtin, hs, hy, hrun, Result.andThen]
    exact hK' _ _ (hK g c' w' r1 r2 r3)

theorem OwnS.ex {β γ : Type} {Bs B : Nat} {I : γ → β → World → Prop} (h : ∀ a, OwnS Bs B (I a)) : OwnS Bs B (fun s W => ∃ a, I a s W) := fun s W W' row ⟨a, hs⟩ hg hr => ⟨a, h a s W W' row hs hg hr⟩
/-- a box holds a slice that owns a row: of that box and that row alone, and the row is not Bs -/
theorem holdsRow_ownS {β : Type} (n₀ B Bs Bx : Nat) (hne : B ≠ Bs) (t e : TypeId) (size : Nat) (k : β → Nat) (f : β → List Value) (G : β → Value → Prop) (hG : ∀ s v, G s v → v.ownBlock ≠ some Bs) : OwnS Bs Bx (fun s W => ∃ v, Boxed W B t v ∧ W.ownsRow n₀ e size v (k s) (f s) ∧ G s v) := by
  rintro s X Y row ⟨v, hv, hr, hGv⟩ hg hrow
  refine ⟨v, hv.kept hg (fun e' => ?_), hr.kept hg ?_, hGv⟩
  · rcases hrow B e'.symm with h | ⟨_, o, ho, hc⟩
    · exact hne h
    · rw [show X.heap[B]? = _ from hv] at ho; cases ho; cases hc
  · cases hob : v.ownBlock with
    | none => exact .inl rfl
    | some g =>
      refine .inr fun e' => ?_
      rcases hrow g e'.symm with h | ⟨_, o, ho, hc⟩
      · exact hG s v hGv (by rw [hob, h])
      · rcases hr.2 with ⟨rfl, _⟩ | ⟨g', cap, cur, rfl, _, hgb, _⟩
        · simp [Value.ownBlock] at hob
        · obtain rfl : g' = g := by simpa [Value.ownBlock] using hob
          rw [hgb] at ho; cases ho; cases hc
theorem PreS.last {c : UInt8} {s : ByteArray} {pre : List ByteArray} {x : ByteArray} (h : PreS c s (pre ++ [x])) : x.size ≤ s.size ∧ ∃ suf, spl c (bL s) = pre.map bL ++ bL x :: suf := by
  obtain ⟨suf, h⟩ := h
  have e : spl c (bL s) = pre.map bL ++ bL x :: suf := by rw [h]; simp
  refine ⟨?_, suf, e⟩
  have := spl_mem c (bL s) (bL x) (by rw [e]; simp)
  simpa [bL] using this
theorem keeps_below {W W' : World} (h : Below W.heap.size W W') (B : Nat) : KeepsFrom B W W' := ⟨h.size, fun k o _ hk ho => (h.block k (Array.getElem?_eq_some_iff.1 hk).1).trans hk⟩
theorem Boxed.upB {W W' : World} {b : Nat} {t : TypeId} {v : Value} (h : Boxed W b t v) (hb : Below W.heap.size W W') : Boxed W' b t v := (hb.block b h.lt).trans h
/-- what numbersIn gives -/
def NumR (r : ByteArray) (w : World) (e : Ending) (w' : World) : Prop := Below w.heap.size w w' ∧
  ((e = .returned (.tuple #[.slice none 0 0, .bool false]) ∧ ∀ xs, ¬ GoodR (bL r) xs) ∨
   (∃ A m ns ok, e = .returned (.tuple #[.slice A m m, .bool ok]) ∧ RI w' w'.heap.size A m ns ∧ 1 ≤ m ∧ m ≤ 1048577 ∧ (∀ x ∈ ns, i64B x) ∧ ∀ xs, GoodR (bL r) xs → ns = xs ∧ ok = true))
set_option maxRecDepth 100000 in
set_option maxHeartbeats 4000000 in
theorem numbersI (r : ByteArray) (w : World) (hr : r.size ≤ 1048576) (hE : ErrV w) : Calls Tryd.prog 33 #[.string r, .string ⟨#[32]⟩] w (NumR r w) := by
  obtain ⟨i0, hi, hz0, hz1, hz2⟩ := info_parts infoIntN
  have HE := Lib.hid hE
  refine (callsIn_wide (n := 9)).1 ?_
  refine callsIn_of_wp_marks Tryd.func33 rfl trivial ?_ rfl
  simp only [Tryd.ntmps33, List.size_toArray, List.length_cons, List.length_nil, Nat.reduceAdd, Nat.reduceSub, Array.replicate_succ, Array.replicate_zero, List.push_toArray, List.append_toArray, List.nil_append, List.cons_append]
  have hF1 : Fence.wide.fn 30 := trivial
  have hF2 : Fence.wide.fn 50 := trivial
  have hF3 : Fence.wide.fn 24 := trivial
  have hF4 : Fence.wide.fn 51 := trivial
  gi_wp2_with (gi_at_call 30; refine (callsIn_wide.2 (splitSeq_in r 32 _)).mono ?_; rintro e w' ⟨rfl, rfl⟩)
  obtain ⟨W0, hW0⟩ : ∃ W0, (((((((w.alloc (.cells #[.slice none 0 0] 47)).alloc (.cells #[.bool false] 4)).alloc (.cells #[] 3)).alloc (.cells #[.slice (some ⟨w.heap.size + 2, 0, none⟩) 0 0] 47)).alloc (.cells #[.string r] 9)).alloc (.cells #[.string ⟨#[32]⟩] 9)).alloc (.cells #[.int .i64 0] 3)) = W0 := ⟨_, rfl⟩
  obtain ⟨b, hb⟩ : ∃ b, w.heap.size = b := ⟨_, rfl⟩
  have hs0 : W0.heap.size = b + 7 := by rw [← hW0, ← hb]; simp
  have hB0 : Below w.heap.size w W0 := by
    rw [← hW0]
    exact (((((((Below.refl _ w).alloc (Nat.le_refl _) _).alloc (by simp) _).alloc (by simp; omega) _).alloc (by simp; omega) _).alloc (by simp; omega) _).alloc (by simp; omega) _).alloc (by simp; omega) _
  have b0 : Boxed W0 b 47 (.slice none 0 0) := by
    rw [← hW0, ← hb]
    exact ((((((Boxed.new w _ _).alloc _).alloc _).alloc _).alloc _).alloc _).alloc _
  have b1 : Boxed W0 (b + 1) 4 (.bool false) := by
    rw [← hW0, ← hb, show w.heap.size + 1 = (w.alloc (.cells #[.slice none 0 0] 47)).heap.size by simp]
    exact (((((Boxed.new _ _ _).alloc _).alloc _).alloc _).alloc _).alloc _
  have b3 : Boxed W0 (b + 3) 47 (.slice (some ⟨b + 2, 0, none⟩) 0 0) := by
    rw [← hW0, ← hb, show w.heap.size + 3 = (((w.alloc (.cells #[.slice none 0 0] 47)).alloc (.cells #[.bool false] 4)).alloc (.cells #[] 3)).heap.size by simp]
    exact (((Boxed.new _ _ _).alloc _).alloc _).alloc _
  have b4 : Boxed W0 (b + 4) 9 (.string r) := by
    rw [← hW0, ← hb, show w.heap.size + 4 = ((((w.alloc (.cells #[.slice none 0 0] 47)).alloc (.cells #[.bool false] 4)).alloc (.cells #[] 3)).alloc (.cells #[.slice (some ⟨w.heap.size + 2, 0, none⟩) 0 0] 47)).heap.size by simp]
    exact ((Boxed.new _ _ _).alloc _).alloc _
  have b5 : Boxed W0 (b + 5) 9 (.string ⟨#[32]⟩) := by
    rw [← hW0, ← hb, show w.heap.size + 5 = (((((w.alloc (.cells #[.slice none 0 0] 47)).alloc (.cells #[.bool false] 4)).alloc (.cells #[] 3)).alloc (.cells #[.slice (some ⟨w.heap.size + 2, 0, none⟩) 0 0] 47)).alloc (.cells #[.string r] 9)).heap.size by simp]
    exact (Boxed.new _ _ _).alloc _
  have b6 : Boxed W0 (b + 6) 3 (.int .i64 0) := by
    rw [← hW0, ← hb, show w.heap.size + 6 = ((((((w.alloc (.cells #[.slice none 0 0] 47)).alloc (.cells #[.bool false] 4)).alloc (.cells #[] 3)).alloc (.cells #[.slice (some ⟨w.heap.size + 2, 0, none⟩) 0 0] 47)).alloc (.cells #[.string r] 9)).alloc (.cells #[.string ⟨#[32]⟩] 9)).heap.size by simp]
    exact Boxed.new _ _ _
  have hown0 : W0.ownsRow b 3 1 (.slice (some ⟨b + 2, 0, none⟩) 0 0) 0 [] := by
    rw [← hW0, ← hb, show w.heap.size + 2 = ((w.alloc (.cells #[.slice none 0 0] 47)).alloc (.cells #[.bool false] 4)).heap.size by simp]
    exact ((((World.ownsRow_made ((w.alloc (.cells #[.slice none 0 0] 47)).alloc (.cells #[.bool false] 4)) #[] 0 (by simp; omega) (by simp [maxLen]) rfl).alloc _).alloc _).alloc _).alloc _
  rw [show w.heap.size + 1 + 1 = w.heap.size + 2 from rfl, hW0, hb]
  have HW0 := Lib.hid hW0
  clear hW0
  refine rangeS (F := Fence.wide) rfl (n := 9) rfl (gf := 56) (lb := #[.pointer (some ⟨b + 5, 0, none⟩), .pointer (some ⟨b + 4, 0, none⟩), .pointer (some ⟨b + 6, 0, none⟩)]) rfl trivial (enters_of Tryd.func56 (by kernel_rfl) rfl) encS (fun _ => rfl) (b + 4) (by omega)
    (KpS (b + 4)) (AllS 32 r) (PreS 32 r) (fun h k => h.trans k) (fun W l o hl => KpS.put (n := W0.heap.size) (by omega) W l o hl)
    (fun pre W => ((∃ ns, ∃ v, Boxed W (b + 3) 47 v ∧ W.ownsRow b 3 1 v pre.length (ns.map (.int .i64)) ∧ ((v.ownBlock = some (b + 2) ∨ ∃ g, v.ownBlock = some g ∧ b + 7 ≤ g) ∧ Spell (pre.map bL) ns ∧ ∀ x ∈ ns, i64B x)) ∧ Boxed W b 47 (.slice none 0 0) ∧ Boxed W (b + 1) 4 (.bool false)) ∧ Below b W0 W)
    (fun c pre W => ((c = .ret ∧ ∀ xs, ¬ GoodR (bL r) xs) ∧ Boxed W b 47 (.slice none 0 0) ∧ Boxed W (b + 1) 4 (.bool false)) ∧ Below b W0 W)
    (OwnS.and (OwnS.and (OwnS.ex fun ns => holdsRow_ownS b (b + 3) (b + 4) _ (by omega) _ _ _ (fun (pre : List ByteArray) => pre.length) (fun _ => ns.map (.int .i64)) (fun pre v => (v.ownBlock = some (b + 2) ∨ ∃ g, v.ownBlock = some g ∧ b + 7 ≤ g) ∧ Spell (pre.map bL) ns ∧ ∀ x ∈ ns, i64B x) (fun s v h e => by
        rcases h.1 with h | ⟨g, h, hg⟩
        · rw [h] at e; injection e with e; omega
        · rw [h] at e; injection e with e; omega)) (OwnS.and (boxed_ownS _ _ _ (by omega) _ _) (boxed_ownS _ _ _ (by omega) _ _))) (below_ownS _ _ _ _ (by omega) (by omega) (by omega)))
    (fun c => OwnS.and (OwnS.and (OwnS.pure _ _ _) (OwnS.and (boxed_ownS _ _ _ (by omega) _ _) (boxed_ownS _ _ _ (by omega) _ _))) (below_ownS _ _ _ _ (by omega) (by omega) (by omega)))
    ⟨⟨⟨[], _, b3, hown0, .inl rfl, rfl, by simp⟩, b0, b1⟩, Below.refl _ _⟩ ?seq
    (fun x => { tmps := #[.string r, .string ⟨#[32]⟩, undef, undef, .pointer (some ⟨b, 0, none⟩), .pointer (some ⟨b + 1, 0, none⟩), .pointer (some ⟨b + 3, 0, none⟩), .string x, undef, undef, .slice (some ⟨b + 2, 0, none⟩) 0 0, .string r, .string ⟨#[32]⟩, .func (.func 56) #[] #[.pointer (some ⟨b + 5, 0, none⟩), .pointer (some ⟨b + 4, 0, none⟩), .pointer (some ⟨b + 6, 0, none⟩)], .string x, undef, undef, undef, undef, undef, undef, undef, undef, undef, undef, undef, undef, undef, undef, undef, undef, undef, undef], defers := [] }) ?assign ?body ?done ?stop
  case seq =>
    intro l J Jx W hBW hJ hJx hY h0
    exact split1_in 8 l (b + 4) W.heap.size (by omega) r 32 (by omega) J Jx hJ hY W (Boxed.upB b4 hBW) (Boxed.upB b5 hBW) (Boxed.upB b6 hBW) h0
  case assign =>
    intro l x W K hK
    dsimp only [encS]
    gi_wp2
    exact hK
  case body =>
    rintro l pre x W ⟨⟨⟨ns, v, hv, hrow, hG, hsp, hbd⟩, q0, q1⟩, hB⟩ hpre
    obtain ⟨hxs, suf, hsuf⟩ := hpre.last
    have hpl := hpre.len
    rw [List.length_append, List.length_singleton] at hpl
    have hWs := hB.size
    rw [hs0] at hWs
    have hxz : x.size ≤ 1048577 := by omega
    by_cases hc : ∃ u, Lib.atoiAll (bL x) = .ok u
    · obtain ⟨u, hc⟩ := hc
      have hu := Lib.atoiAll_bounds hc
      have HA := Lib.hid (fun W => atoiOk x hxz u hc W)
      have HC := Lib.hid hc
      have HG := Lib.hid hG
      have HSP := Lib.hid hsp
      have HBD := Lib.hid hbd
      have HSF := Lib.hid hsuf
      clear hc hG hsp hbd hsuf hpre
      gi_wp2_with (first | (gi_at_call 50; refine (callsIn_wide.2 (HA.out _)).mono ?_; rintro e w2 ⟨rfl, hb2⟩; have hv' := Boxed.upB hv hb2; have hcv := hv'.cell; have hrow' := ownsRow_up hrow hb2; have hs2 := hb2.size; have hcx := (Boxed.new w2 3 (.int .i64 u)).cell; have hbs : b ≤ (w2.alloc (.cells #[.int .i64 u] 3)).heap.size := by simp; omega) | (gi_at_builtin; refine wpListIn_pushN _ rfl _ _ rfl b v pre.length _ rfl (hrow'.alloc _) ⟨w2.heap.size, 0, none⟩ u rfl hcx (by omega) hbs ?_; intro g' c' w3 hown' hgrow hnew; obtain ⟨hv1, hv2, hr2, hk2, hb3⟩ := hv'.appended (by decide) hrow' (by omega) (by omega) hown' hgrow; have hc1 := hv1.cell; have hf1 := hv1.frozen))
      have hne : ∀ q, b + 4 ≤ q → q < b + 7 → some q ≠ v.ownBlock := fun q h1 h2 e => by
        rcases HG.out with h | ⟨g, h, hg⟩
        · rw [h] at e; injection e with e; omega
        · rw [h] at e; injection e with e; omega
      have p0 := ((Boxed.upB q0 hb2).alloc (.cells #[.int .i64 u] 3)).kept hgrow ((Boxed.upB q0 hb2).not_row (by decide) hrow')
      have p1 := ((Boxed.upB q1 hb2).alloc (.cells #[.int .i64 u] 3)).kept hgrow ((Boxed.upB q1 hb2).not_row (by decide) hrow')
      refine ⟨(keeps_below hb2 _).trans (hk2.from _), fun q h1 h2 => ?_, ⟨⟨⟨ns ++ [u], _, hv2, by simpa using hr2, ?_, ?_, ?_⟩, p0.other (by omega) _, p1.other (by omega) _⟩, hB.trans ((hb2.mono (by omega)).trans hb3)⟩⟩
      · exact (Below.heap_setCell _ _ _ q (by show q ≠ b + 3; omega)).trans ((hgrow.block q (by simp; omega) (hne q h1 h2)).trans ((Below.heap_alloc _ _ _ (by omega)).trans (hb2.block q (by omega))))
      · rcases hnew with e | e
        · rcases HG.out with h | ⟨g, h, hg⟩
          · rw [h] at e; injection e with e; subst e; exact .inl rfl
          · rw [h] at e; injection e with e; subst e; exact .inr ⟨_, rfl, hg⟩
        · refine .inr ⟨_, rfl, ?_⟩
          show b + 7 ≤ g'
          have : (w2.alloc (.cells #[.int .i64 u] 3)).heap.size ≤ g' := e
          simp at this
          omega
      · rw [List.map_append]; exact HSP.out.snoc HC.out
      · intro y hy
        rcases List.mem_append.1 hy with h | h
        · exact HBD.out y h
        · simp at h; subst h; exact hu
    · have HA := Lib.hid (fun W hW => atoiBad x hxz (fun v e => hc ⟨v, e⟩) W hW)
      have HBad := Lib.hid (show ∀ xs, ¬ GoodR (bL r) xs from fun xs hg => hc (spell_bad hg hsuf))
      have HEW := Lib.hid (HE.out.up (W' := W) (B := b) (by omega) ((hB0.mono (by omega)).trans hB))
      clear hc hsuf hsp hbd hG hpre
      gi_wp2_with (gi_at_call 50; refine (callsIn_wide.2 (HA.out _ HEW.out)).mono ?_; rintro e w2 ⟨u, N, rfl, hb2⟩; have p0 := Boxed.upB q0 hb2; have p1 := Boxed.upB q1 hb2; have z0 := p0.cell; have z1 := p1.cell; have f0 := p0.frozen; have f1 := p1.frozen; have hs2 := hb2.size)
      exact ⟨(keeps_below hb2 _).trans (((KeepsOthers.setCell _ _ _).trans (KeepsOthers.setCell _ _ _)).from _), ⟨⟨rfl, HBad.out⟩, (p0.set _).other (by omega) _, (p1.other (by omega) _).set _⟩, hB.trans ((hb2.mono (by omega)).trans (((Below.refl b w2).setCell (p := ⟨b, 0, none⟩) (Nat.le_refl _) _).setCell (p := ⟨b + 1, 0, none⟩) (by show b ≤ b + 1; omega) _))⟩
  case done =>
    rintro D ys W hD hys ⟨⟨⟨ns, v, hv, hrow, hG, hsp, hbd⟩, q0, q1⟩, hB⟩ hK
    have hall : spl 32 (bL r) = ys.map bL := hys
    have hn1 : 1 ≤ ys.length := by
      have h1 := spl_ne 32 (bL r)
      rw [hall] at h1
      cases ys with
      | nil => exact absurd rfl h1
      | cons y ys => simp
    have hn2 : ys.length ≤ 1048577 := by
      have h1 := spl_len 32 (bL r)
      rw [hall] at h1
      simp at h1
      omega
    have HGood := Lib.hid (show ∀ xs, GoodR (bL r) xs → ns = xs from fun xs hg => spell_good hg (by rw [hall]; exact hsp))
    obtain ⟨A, c, rfl, hO⟩ := OS.of (zs := ns) hrow rfl
    obtain ⟨n, hn⟩ : ∃ n, ys.length = n := ⟨_, rfl⟩
    rw [hn] at hO hn1 hn2 hv
    have HEW := Lib.hid (HE.out.up (W' := W) (B := b) (by omega) ((hB0.mono (by omega)).trans hB))
    have HO := Lib.hid hO
    have HBD := Lib.hid hbd
    have hcap := hO.cap.1
    have hWs := hB.size
    rw [hs0] at hWs
    obtain ⟨T, hT⟩ : ∃ T : ByteArray, (⟨(Lib.join (ns.map Lib.itoa) [32]).toArray⟩ : ByteArray) = T := ⟨_, rfl⟩
    have HJ := Lib.hid (fun W' (hW' : Below W.heap.size W W') => joinedA A n c ns W' (hO.reads.up (Nat.le_refl _) hW' (Nat.le_refl _)) hn1 hn2 hbd (HEW.out.up (Nat.le_refl _) hW'))
    unfold GivesS at HJ
    rw [hT] at HJ
    have HT := Lib.hid (show ∀ xs, GoodR (bL r) xs → (T.toList == r.toList) = true from fun xs hg => by
      rw [beq_iff_eq, ByteArray.toList_eq, ByteArray.toList_eq, ← hT]
      have e := HGood.out xs hg
      subst e
      exact (good_spl hg).2.2.1)
    have z3 := hv.cell
    have z0 := q0.cell
    have z1 := q1.cell
    have f0 := q0.frozen
    have f1 := q1.frozen
    clear hT hO hbd hsp hall hys hrow hG
    rw [show b + 2 + 1 = b + 3 from rfl]
    have HB := Lib.hid hB
    have hbb := hB.size
    have HK := Lib.hid hK
    clear hB hK
    gi_wp2_with fail
    refine wpIn_wide.2 ?_
    refine wp_region_noPanic ?_
    go_region_with (first | (go_at_call 51; refine (clipI A n c _ hcap).mono ?_; rintro e w' ⟨rfl, rfl⟩) | (go_at_call 24; refine (HJ.out _ (below_drew W)).mono ?_; rintro e w3 ⟨rfl, hb3⟩; replace hb3 := (below_drew W).trans hb3; have p0 := Boxed.upB q0 hb3; have p1 := Boxed.upB q1 hb3; have y0 := p0.cell; have y1 := p1.cell; have g0 := p0.frozen; have g1 := p1.frozen; have hs3 := hb3.size))
    all_goals (
      refine NoPanic.normal ?_
      gi_wp2
      have hK := HK.out
      have hDl : D < W.heap.size := (Array.getElem?_eq_some_iff.1 hK).1
      have hK3 : ((w3.setCell ⟨b, 0, none⟩ (.slice A n n)).setCell ⟨b + 1, 0, none⟩ (.bool (T.toList == r.toList))).heap[D]? = some (.deferred (some [])) := (Below.heap_setCell _ _ _ D (by show D ≠ b + 1; omega)).trans ((Below.heap_setCell _ _ _ D (by show D ≠ b; omega)).trans ((hb3.block D hDl).trans hK))
      have s0 := (p0.set (.slice A n n)).other (show b ≠ b + 1 by omega) (.bool (T.toList == r.toList))
      have s1 := (p1.other (show b + 1 ≠ b by omega) (.slice A n n)).set (.bool (T.toList == r.toList))
      have r0 := s0.kept (grownBy_putObj' _ D (.deferred none)) (fun e => by injection e with e; omega)
      have r1 := s1.kept (grownBy_putObj' _ D (.deferred none)) (fun e => by injection e with e; omega)
      have o3 : OS w3 b A n c ns := HO.out.below hb3 (Nat.le_refl _)
      have o4 := o3.kept (grownBy_setCell' w3 b (.slice A n n)) (.inr (p0.not_row (by decide) o3).symm)
      have o5 := o4.kept (grownBy_setCell' _ (b + 1) (.bool (T.toList == r.toList))) (.inr ((p1.other (show b + 1 ≠ b by omega) _).not_row (by decide) o4).symm)
      refine ⟨by simp, .inl ⟨_, _, rfl, run_takeDeferred hK3, ?_⟩⟩
      refine ⟨_, results_cell2 rfl _ _ b (b + 1) _ _ rfl rfl (load_box r0 (by kernel_rfl)) (load_box r1 (by kernel_rfl)), ?_, .inr ⟨A, n, ns, _, rfl, OS.reads (show OS _ b A n c ns from ownsRow_putObj o5 (.deferred none) hK3 rfl), hn1, hn2, HBD.out, fun xs hg => ⟨HGood.out xs hg, HT.out xs hg⟩⟩⟩
      rw [hb]
      exact (hb ▸ hB0).trans (HB.out.trans ((hb3.mono (by omega)).trans ((((Below.refl b w3).setCell (p := ⟨b, 0, none⟩) (Nat.le_refl _) _).setCell (p := ⟨b + 1, 0, none⟩) (by show b ≤ b + 1; omega) _).trans ⟨rfl, rfl, rfl, by simp, fun k hk => World.putObj_heap_other (by omega)⟩))))
  case stop =>
    rintro D c pre W hD ⟨⟨⟨rfl, hbad⟩, q0, q1⟩, hB⟩ hK
    gi_wp2
    have hDl : D < W.heap.size := (Array.getElem?_eq_some_iff.1 hK).1
    have p0 : Boxed (W.putObj D (.deferred none)) b 47 (.slice none 0 0) := q0.kept (grownBy_putObj' W D _) (fun e => by injection e with e; omega)
    have p1 : Boxed (W.putObj D (.deferred none)) (b + 1) 4 (.bool false) := q1.kept (grownBy_putObj' W D _) (fun e => by injection e with e; omega)
    refine ⟨by simp, .inl ⟨_, _, rfl, run_takeDeferred hK, ?_⟩⟩
    refine ⟨_, results_cell2 rfl _ _ b (b + 1) _ _ rfl rfl (load_box p0 (by kernel_rfl)) (load_box p1 (by kernel_rfl)), ?_, .inl ⟨rfl, hbad⟩⟩
    rw [hb]
    exact (hb ▸ hB0).trans (hB.trans ⟨rfl, rfl, rfl, by simp, fun k hk => World.putObj_heap_other (by omega)⟩)
end Go.Proofs.YtkpjlkahebeljaaDoor

/- Contract: the text of a field (the program). -/
import Derived.Test.YtmianlihdiccjaaTextS
import Derived.Test.YtmianlihdiccjaaChunkB
import Derived.Test.YtmianlihdiccjaaBackS
import Derived.Test.YtmianlihdiccjaaShelfB
import Derived.Stop.RegionWithIn
namespace Go.Proofs.Ytmianlihdiccjaa
open Go.RowKit Go.Shelf
set_option linter.unusedVariables false

attribute [local go_sem] Oper.semAt_some

theorem grown_drew (W : World) : W.grownBy W.drew none := ⟨rfl, rfl, rfl, Nat.le_refl _, fun _ _ _ => rfl⟩
theorem ownsRow_below {w w' : World} {base : Nat} {e : TypeId} {size : Nat} {v : Value} {n : Nat} {xs : List Value} (h : w.ownsRow base e size v n xs) (hb : Below w.heap.size w w') : w'.ownsRow base e size v n xs :=
  h.kept (row := none) ⟨hb.os, hb.tape, hb.output, hb.size, fun k hk _ => hb.block k hk⟩ (by cases v.ownBlock <;> simp)
theorem keepsFrom_below {B : Nat} {w w' : World} (hb : Below w.heap.size w w') : KeepsFrom B w w' :=
  ⟨hb.size, fun k o _ hk _ => (hb.block k (Array.getElem?_eq_some_iff.1 hk).1).trans hk⟩
/-- append at a step of a region that draws its order, within a round -/
theorem stepIn_append_own {F : Fence} {n : Nat} {P : Program} (w : World) {ops : Array Oper} {o : Oper} {a : Act} {K : Act → World → Prop} {Q : Exit → Act → World → Prop} {E : Prop}
    (hg : o.guard = none) (s x : Operand) (t : TypeId) (hop : o.op = Op.call { callee := Callee.builtin Builtin.append, args := #[s, x], argTypes := #[t, t] })
    (base : Nat) (e : TypeId) (i : TypeInfo) (z : Value) (size bytes : Nat) (h1 : P.underlying t = some (.slice e)) (h2 : P.info? e = some i) (h3 : i.zero = some z) (h4 : i.size = size) (h5 : i.bytes = bytes) (h6 : z.cells.size = size) (h7 : 0 < size)
    (v : Value) (k : Nat) (xs : List Value) (hs : a.eval s = v) (hown : w.ownsRow base e size v k xs) (ad : Addr) (m c : Nat) (news : List Value) (hx : a.eval x = .slice (some ad) m c) (hn : news.length = m * size)
    (hc : ∀ j u, news[j]? = some u → w.cell? (ad.add j) = some u) (h1c : ∀ u ∈ news, u.oneCell' = true) (b1 : k + m ≤ maxLen) (b2 : (k + m) * bytes ≤ 140737488355328) (b3 : base ≤ w.heap.size)
    (hK : ∀ v' w', w'.ownsRow base e size v' (k + m) (xs ++ news) → w.grownBy w' v.ownBlock → K (a.put o.dst v') w') :
    if Region.wanted o (yielded ops a.tmps) = true then Oper.wpIn F n P o a w K Q else E := by
  rw [if_pos (by simp [Region.wanted, hg])]
  obtain ⟨v', w', hrun, r1, r2, r3⟩ := run_append_own (P := P) w base t o.type e i z size bytes h1 h2 h3 h4 h5 h6 h7 v k xs hown ad m c news hn hc h1c b1 b2 b3
  unfold Oper.wpIn
  refine ⟨?_, ?_⟩
  · simp [Oper.about, hop, resolve, Target.leads, Sem.run_pure]
  · rw [Oper.semAt_plain F _ _ (by rw [hop]; intro c hc'; cases hc')]
    simp [execOp, hop, resolve, invoke, builtin, hs, hx, hrun, Result.andThen]
    exact hK v' w' r1 r2
theorem byteCells_snoc (l : List UInt8) (b : Bool) : Lib.byteCells (l ++ [cbT b]) = Lib.byteCells l ++ [.int .u8 (if b then 111 else 46)] := by
  cases b <;> simp [Lib.byteCells, cbT]
theorem str_app (l : List UInt8) : (⟨#[33]⟩ : ByteArray) ++ ⟨l.toArray⟩ = ⟨(33 :: l).toArray⟩ := by
  apply ByteArray.ext
  simp
theorem joinRows (S : Nat) (zs : List Bool) (L : List ByteArray) (hL : (List.range S).map (fun y => (⟨(rowT S zs y).toArray⟩ : ByteArray)) = L) (g c B : Nat) (w : World)
    (hr : w.ownsRow B 9 1 (.slice (some ⟨g, 0, none⟩) S c) S (L.reverse.map (.string))) (hS : S ≤ 8) :
    Calls Try.prog 67 #[.slice (some ⟨g, 0, none⟩) S c, .string ⟨#[47]⟩] w fun e w' => e = .returned (.string ⟨(txL S zs S).toArray⟩) ∧ Below w.heap.size w w' := by
  have hl : L.reverse.length = S := by rw [← hL]; simp
  have hm : L.reverse.map (·.data.toList) = ((List.range S).map (rowT S zs)).reverse := by
    rw [← hL, List.map_reverse, List.map_map]; rfl
  have hj : Lib.join (L.reverse.map (·.data.toList)) (⟨#[47]⟩ : ByteArray).data.toList = txL S zs S := by
    rw [hm]; exact join_rev S zs S
  have hlt : ∀ k, (Value.slice (some ⟨g, 0, none⟩) S c).ownBlock = some k → B ≤ k ∧ k < w.heap.size := hr.lt
  have h := strJoin g 0 c L.reverse ⟨#[47]⟩ w (fun j x hx => by
      have := hr.cells (g := g) rfl j (.string x) (by rw [List.getElem?_map, hx]; rfl)
      rwa [lit_add] at this) (hlt g rfl).2 (by omega) (by
      rcases hr.2 with ⟨hv, _⟩ | ⟨g', cap, cur, hv, _, _, hnc, _⟩
      · cases hv
      · injection hv with _ _ e3; rw [hl, e3]; exact hnc) (by
      rw [hj]
      have h1 := tx_le S zs S
      have h2 : S * (S + 1) ≤ 8 * 9 := Nat.mul_le_mul hS (by omega)
      omega)
  rw [hj, hl] at h
  exact h
theorem chk_stops (F : Fence) (n : Nat) (h7 : F.fn 75) (hro : F.round = none) (hn : 1 ≤ n) (Bs Bn n₀ : Nat) (ad : Addr) (S q c : Nat) (hS : 2 ≤ S) (hS8 : S ≤ 8) (hq : q = S * S) (hqc : q ≤ c) (hcm : c ≤ maxLen) (w : World)
    (hBs : Boxed w Bs 22 (.slice (some ad) q c)) (hBn : Boxed w Bn 3 (.int .i64 (S : Int))) :
    SeqStopsK F n Try.prog 75 #[.pointer (some ⟨Bs, 0, none⟩), .pointer (some ⟨Bn, 0, none⟩)] (fun x : Fin S => #[Value.slice (some (ad.add (x.1 * S))) S S]) (KpC n₀ Bs Bn) (fun ys => ys.map (·.1) = List.range S) (fun _ => True) S w := fun l J Jx W hW hJ _ hY h0 => by
  have hc1 := (hW.cell (p := ⟨Bs, 0, none⟩) hBs.lt).trans hBs.cell
  have hc2 := (hW.cell (p := ⟨Bn, 0, none⟩) hBn.lt).trans hBn.cell
  refine (chk1_in F n h7 hro hn l Bs Bn n₀ ad S q c hS hS8 hq hqc hcm J Jx (fun pre X hj => hJ pre X X.drew none hj (grown_drew X) (by simp)) hY W hc1 hc2 h0).mono ?_
  rintro e W' ⟨he, ⟨ys, hys, hj⟩ | ⟨pre, hj⟩⟩
  · exact ⟨he, .inl ⟨ys, hys, hj⟩⟩
  · exact ⟨he, .inr ⟨pre, trivial, hj⟩⟩
set_option maxRecDepth 100000 in
set_option maxHeartbeats 8000000 in
theorem fieldTextI (s : Int) (A : Option Addr) (n : Nat) (zs : List Bool) (c : Nat) (h : Bool) (w : World) (hr : RL w w.heap.size A n zs) (hnc : n ≤ c) (hcm : c ≤ maxLen) (hl : n ≤ 1048577) :
    Calls Try.prog 42 #[.agg #[.int .i64 s, .slice A n c, .bool h]] w (GivesS w (txF s zs h)) := by
  obtain ⟨W, hW⟩ : ∃ W, w.alloc (.cells #[.int .i64 s, .slice A n c, .bool h] 27) = W := ⟨_, rfl⟩
  obtain ⟨g, hg⟩ : ∃ g, w.heap.size = g := ⟨_, rfl⟩
  have hb : Below w.heap.size w W := by rw [← hW]; exact (Below.refl _ _).alloc (Nat.le_refl _) _
  have R0 := Lib.hid (show Row3 W g 27 (.int .i64 s) (.slice A n c) (.bool h) by rw [← hW, ← hg]; exact Row3.new w _ _ _ _)
  have hrW := hr.arg (Nat.le_refl _) hb
  have hC := fieldValid s A n zs c h W hrW hl
  obtain ⟨V, hV⟩ : ∃ V, fvB s zs = V := ⟨_, rfl⟩
  rw [hV] at hC
  have HC := Lib.hid hC
  obtain ⟨q0, q1, q2, q3, q4, q5⟩ := R0.out.at_
  have hgl : g < W.heap.size := R0.out.lt
  have HRW := Lib.hid hrW
  have HG := Lib.hid hg
  clear hC hrW hr
  cases V
  · have HV := Lib.hid hV
    clear hV
    go_enter Try.func42, Try.ntmps42
    go_wp2_with fail
    refine HC.out.mono ?_
    rintro e w1 ⟨rfl, hB1⟩
    go_wp2
    go_ret
    exact ⟨by rw [txF_f HV.out]; rfl, hb.trans (hB1.mono hb.size)⟩
  · have hs8 := fv_iff.1 hV
    obtain ⟨S, rfl⟩ : ∃ S : Nat, s = (S : Int) := ⟨s.toNat, by omega⟩
    have hnn : n = S * S := by rw [← HRW.out.len]; exact_mod_cast hs8.2.2.2.1
    have hS2 : 2 ≤ S := by omega
    have hS8 : S ≤ 8 := by omega
    have HV := Lib.hid (txF_t (h := h) hV)
    have HZL := Lib.hid HRW.out.len
    have HNN := Lib.hid hnn
    have hn64 : n ≤ 64 := by rw [hnn]; exact Nat.mul_le_mul hS8 hS8
    clear hV hs8 hnn hl
    obtain ⟨ad, rfl, hadb, hcells⟩ := HRW.out.2 (by have := HNN.out; have := Nat.mul_le_mul hS2 hS2; omega)
    have HCE := Lib.hid hcells
    clear hcells
    refine (callsIn_wide (n := 5)).1 ?_
    refine callsIn_of_wp_marks Try.func42 rfl trivial ?_ rfl
    simp only [Try.ntmps42, List.size_toArray, List.length_cons, List.length_nil, Nat.reduceAdd, Nat.reduceSub, Array.replicate_succ, Array.replicate_zero, List.push_toArray, List.append_toArray, List.nil_append, List.cons_append]
    gi_wp2_with (first
      | (refine ⟨trivial, ?_⟩; gi_at_call 18; refine (callsIn_wide.2 HC.out).mono ?_; rintro e w1 ⟨rfl, hB1⟩; have R1 := Lib.hid (R0.out.below hB1 hgl); clear q0 q1 q2 q3 q4 q5; obtain ⟨q0, q1, q2, q3, q4, q5⟩ := R1.out.at_; have hgl1 := R1.out.lt; have HR1 := Lib.hid (HRW.out.arg (Nat.le_refl _) hB1); have hT1 := hb.trans (hB1.mono hb.size); clear hB1 hW hg)
      | (refine ⟨trivial, ?_⟩; gi_at_call 64; refine (chk_in Fence.wide _ trivial rfl (some ad) n c S hS2 _).mono ?_; rintro e w' ⟨rfl, rfl⟩))
    obtain ⟨i0, hi, hz0, hz1, hz2⟩ := info_parts infoStr
    obtain ⟨b0, hb0⟩ : ∃ b0, w1.heap.size + 1 = b0 := ⟨_, rfl⟩
    obtain ⟨Bs, hBs⟩ : ∃ Bs, b0 + 1 = Bs := ⟨_, rfl⟩
    obtain ⟨Bn, hBn⟩ : ∃ Bn, Bs + 1 = Bn := ⟨_, rfl⟩
    obtain ⟨W0, hW0⟩ : ∃ W0, ((((w1.alloc (.cells #[] 9)).alloc (.cells #[.slice (some ⟨w1.heap.size, 0, none⟩) 0 0] 62)).alloc (.cells #[.slice (some ad) n c] 22)).alloc (.cells #[.int .i64 (S : Int)] 3)) = W0 := ⟨_, rfl⟩
    have hs0 : W0.heap.size = w1.heap.size + 4 := by rw [← hW0]; simp
    have hB0 : Below w1.heap.size w1 W0 := by rw [← hW0]; exact ((((Below.refl _ _).alloc (Nat.le_refl _) _).alloc (by simp) _).alloc (by simp; omega) _).alloc (by simp; omega) _
    have bO : Boxed W0 b0 62 (.slice (some ⟨w1.heap.size, 0, none⟩) 0 0) := by
      have := Boxed.new (w1.alloc (.cells #[] 9)) 62 (.slice (some ⟨w1.heap.size, 0, none⟩) 0 0)
      rw [World.size_alloc, hb0] at this
      rw [← hW0]; exact (this.alloc _).alloc _
    have bS : Boxed W0 Bs 22 (.slice (some ad) n c) := by
      have := Boxed.new ((w1.alloc (.cells #[] 9)).alloc (.cells #[.slice (some ⟨w1.heap.size, 0, none⟩) 0 0] 62)) 22 (.slice (some ad) n c)
      rw [World.size_alloc, World.size_alloc, hb0, hBs] at this
      rw [← hW0]; exact this.alloc _
    have bN : Boxed W0 Bn 3 (.int .i64 (S : Int)) := by
      have := Boxed.new (((w1.alloc (.cells #[] 9)).alloc (.cells #[.slice (some ⟨w1.heap.size, 0, none⟩) 0 0] 62)).alloc (.cells #[.slice (some ad) n c] 22)) 3 (.int .i64 (S : Int))
      rw [World.size_alloc, World.size_alloc, World.size_alloc, hb0, hBs, hBn] at this
      rw [← hW0]; exact this
    have hown0 : W0.ownsRow w1.heap.size 9 1 (.slice (some ⟨w1.heap.size, 0, none⟩) 0 0) 0 [] := by
      have := World.ownsRow_made (e := 9) (size := 1) w1 #[] 0 (Nat.le_refl _) (by simp [maxLen]) rfl
      rw [← hW0]; exact (((this.alloc _).alloc _).alloc _)
    rw [hb0, hBs, hBn, hW0]
    have hb0' : W0.heap.size = Bn + 1 := by omega
    refine wpIn_rangeFunc_ownG (F := Fence.wide) rfl (by omega) (gf := 75) (lb := #[.pointer (some ⟨Bs, 0, none⟩), .pointer (some ⟨Bn, 0, none⟩)]) rfl trivial (enters_of Try.func75 (by kernel_rfl) rfl)
      (chk_stops Fence.wide _ trivial rfl (by omega) Bs Bn w1.heap.size ad S n c hS2 hS8 HNN.out hnc hcm W0 bS bN) (fun h k => h.trans k) (KpC.put (by omega) (by omega) (by omega)) (Below.refl _ _) (fun _ => rfl)
      (fun pre W => ((∃ v, Boxed W b0 62 v ∧ W.ownsRow w1.heap.size 9 1 v pre.length (pre.map fun x => .string ⟨(rowT S zs x.1).toArray⟩) ∧ True) ∧ Boxed W Bs 22 (.slice (some ad) n c) ∧ Boxed W Bn 3 (.int .i64 (S : Int))) ∧ Below w1.heap.size w1 W)
      (fun _ _ _ => False)
      (OwnFrom.and (OwnFrom.and (Own.from (holdsRow_own w1.heap.size b0 62 9 1 (fun (pre : List (Fin S)) => pre.length) (fun pre => pre.map fun x => .string ⟨(rowT S zs x.1).toArray⟩) (fun _ _ => True)) _) (OwnFrom.and (Own.from (boxed_own _ _ _) _) (Own.from (boxed_own _ _ _) _))) (ownFrom_below (Nat.le_refl _) (by omega)))
      (fun _ _ _ _ _ hs _ _ => hs)
      ⟨⟨⟨_, bO, hown0, trivial⟩, bS, bN⟩, hB0⟩
      (fun x => { tmps := #[.agg #[.int .i64 (S : Int), .slice (some ad) n c, .bool h], .pointer (some ⟨g, 0, none⟩), .string ⟨#[]⟩, .pointer (some ⟨b0, 0, none⟩), .slice (some (ad.add (x.1 * S))) S S, undef, undef, undef, undef, .agg #[.int .i64 (S : Int), .slice (some ad) n c, .bool h], .bool true, .bool false, .slice (some ⟨w1.heap.size, 0, none⟩) 0 0, .pointer (some ⟨g, 1, none⟩), .slice (some ad) n c, .pointer (some ⟨g, 0, none⟩), .int .i64 (S : Int), .func (.func 75) #[] #[.pointer (some ⟨Bs, 0, none⟩), .pointer (some ⟨Bn, 0, none⟩)], .slice (some (ad.add (x.1 * S))) S S, undef, undef, undef, undef, undef, undef, undef, undef, undef, undef, undef, undef, undef, undef, undef, undef, undef, undef, undef, undef, undef, undef], defers := [] }) ?assign ?body ?done ?stop
    case assign =>
      intro l x W K hK
      gi_wp2
      exact hK
    case stop =>
      rintro D c pre W _ _ h _
      exact h.elim
    case body =>
      rintro l pre x W2 ⟨⟨⟨v, hv, hrow, _⟩, hbs, hbn⟩, hB⟩ hlt
      have hc := hv.cell
      have hsz2 := hB.size
      have HBB := Lib.hid (show _ ∧ _ from ⟨hbs, hbn⟩)
      have HR2 := Lib.hid (HR1.out.below hB)
      have hxS : x.1 < S := x.2
      obtain ⟨y, hy⟩ : ∃ y, x.1 = y := ⟨_, rfl⟩
      have HY := Lib.hid hy
      rw [hy] at hxS
      have hyn : y * S + S ≤ n := by
        rw [HNN.out]
        have := Nat.mul_le_mul_right S hxS
        rw [Nat.succ_mul] at this; exact this
      simp only [hy]
      clear hbs hbn hy
      obtain ⟨q, hq⟩ : ∃ q, y * S = q := ⟨_, rfl⟩
      simp only [hq]
      rw [hq] at hyn
      have HQ := Lib.hid hq
      clear hq
      obtain ⟨rt, hrt⟩ : ∃ rt, rowT S zs y = rt := ⟨_, rfl⟩
      have HRT := Lib.hid hrt
      clear hrt
      gi_wp2
      have hw1b : w1.heap.size ≤ b0 := by omega
      have hbd0 : Lib.IsBuilder 68 5 W2.heap.size W2.heap.size (Lib.byteCells (rt.take 0)) (W2.alloc (.cells #[.pointer none, .slice none 0 0] 68)) := by
        refine .inl ⟨Nat.le_refl _, .slice none 0 0, World.alloc_heap_new _ _, ?_, by simp [Value.ownBlock]⟩
        simpa [Lib.byteCells] using World.ownsRow_nil _ _ _ _
      have hbl0 : Below W2.heap.size W2 (W2.alloc (.cells #[.pointer none, .slice none 0 0] 68)) := (Below.refl _ _).alloc (Nat.le_refl _) _
      gi_loopw [21] (fun i wr => ∃ k : Nat, k ≤ S ∧ i = .int .i64 k ∧ Lib.IsBuilder 68 5 W2.heap.size W2.heap.size (Lib.byteCells (rt.take k)) wr ∧ Below W2.heap.size W2 wr) (fun i _ => S - (intOf i).toNat)
      case atStart => exact ⟨0, by omega, rfl, hbd0, hbl0⟩
      case round =>
        obtain ⟨k, hk, rfl, hbd, hBr⟩ := hrel
        clear hbd0 hbl0
        have hsr := hBr.size
        by_cases hkS : k < S
        · obtain ⟨ad', b, hade, hadb2, hbx, hcb⟩ := (HR2.out.up hsz2 hBr (Nat.le_refl _)).at_ (k := q + k) (by omega)
          cases hade
          have hrow2 := row_at (S := S) (bs := zs) (y := y) hkS (by rw [HQ.out]; exact hbx)
          rw [HRT.out] at hrow2
          have HROW := Lib.hid hrow2
          clear hrow2 hbx
          have haa : (ad.add q).add k = ad.add (q + k) := by
            unfold Addr.add
            by_cases hi : q = 0 <;> by_cases hj : k = 0 <;> simp [hi, hj, Nat.add_assoc]
          have hcb2 : wr.cell? ((ad.add q).add k) = some (.bool b) := by rw [haa]; exact hcb
          have hlb : (Lib.byteCells (rt.take k)).length + 1 ≤ 140737488355328 := by
            simp only [Lib.byteCells, List.length_map, List.length_take]; omega
          have HBD := Lib.hid hbd
          have hkSi : (k : Int) < (S : Int) := by omega
          clear haa hcb hbd
          cases b
          · gi_wp2_with (refine ⟨trivial, ?_⟩; gi_at_call 65; refine (CallsIn.inRound l (callsIn_wide.2 (bldByte _ _ _ 46 wr HBD.out hlb hsr))).mono ?_; rintro e w4 ⟨rfl, hbd4, hb4⟩)
            refine ⟨⟨k + 1, by omega, by go_num, ?_, hBr.trans (hb4.mono (Nat.le_refl _))⟩, by simp [intOf]; omega⟩
            rw [HROW.out, byteCells_snoc]
            exact .inr hbd4
          · gi_wp2_with (refine ⟨trivial, ?_⟩; gi_at_call 65; refine (CallsIn.inRound l (callsIn_wide.2 (bldByte _ _ _ 111 wr HBD.out hlb hsr))).mono ?_; rintro e w4 ⟨rfl, hbd4, hb4⟩)
            refine ⟨⟨k + 1, by omega, by go_num, ?_, hBr.trans (hb4.mono (Nat.le_refl _))⟩, by simp [intOf]; omega⟩
            rw [HROW.out, byteCells_snoc]
            exact .inr hbd4
        · obtain rfl : k = S := by omega
          have hlen := row_len (S := k) (bs := zs) (y := y) (by rw [HQ.out, HZL.out]; exact hyn)
          rw [HRT.out] at hlen
          rw [List.take_of_length_le (by omega)] at hbd
          have HBD := Lib.hid (show Lib.IsBuilder 68 5 W2.heap.size W2.heap.size (Lib.byteCells rt) wr.drew from hbd)
          have hsd : W2.heap.size ≤ wr.drew.heap.size := hsr
          have HLEN := Lib.hid hlen
          have hvr := (hv.alloc (.cells #[] 9)).cell
          clear hbd hlen
          have hv3 : Boxed wr b0 62 v := (hBr.block _ hv.lt).trans hv
          have hc3 := hv3.cell
          clear hc hvr
          gi_wp2
          refine wpIn_region_any (by kernel_rfl) ?_
          change wpAnyIn _ _ _ _ _ _ _ _ _ (World.drew _)
          refine wpAnyIn_ready (rs := [0, 1]) (by kernel_rfl) (by simp) ?_
          refine AllReadyIn.cons rfl (fun K hK => ?_) (AllReadyIn.cons rfl (fun K hK => ?_) AllReadyIn.nil)
          · go_simp
            refine hK _ _ ?_
            clear hK K
            refine wpAnyIn_ready (rs := [1]) (by kernel_rfl) (by simp) ?_
            refine AllReadyIn.cons rfl (fun K hK => ?_) AllReadyIn.nil
            go_simp
            refine ⟨trivial, ?_⟩
            refine (CallsIn.inRound l (callsIn_wide.2 (bldString W2.heap.size W2.heap.size rt wr.drew HBD.out hsd))).mono ?_
            rintro e w4 ⟨rfl, hb4⟩
            dsimp only
            refine hK _ _ ?_
            clear hK K
            have hb4' : Below W2.heap.size W2 w4 := hBr.trans ⟨hb4.os, hb4.tape, hb4.output, hb4.size, hb4.block⟩
            have hsz4 := hb4'.size
            have hv4 : Boxed w4 b0 62 v := (hb4'.block _ hv.lt).trans hv
            have hc4 := hv4.cell
            have hrow4 : w4.ownsRow w1.heap.size 9 1 v pre.length (pre.map fun x => .string ⟨(rowT k zs x.1).toArray⟩) := ownsRow_below hrow hb4'
            have hs14 : w1.heap.size ≤ w4.heap.size := by omega
            refine wpAnyIn_ready (rs := [2]) (by kernel_rfl) (by simp) ?_
            refine AllReadyIn.cons rfl (fun K hK => ?_) AllReadyIn.nil
            go_simp
            refine hK _ _ ?_
            clear hK K
            refine wpAnyIn_ready (rs := [3]) (by kernel_rfl) (by simp) ?_
            refine AllReadyIn.cons rfl (fun K hK => ?_) AllReadyIn.nil
            refine stepIn_append_own _ rfl _ _ 62 rfl w1.heap.size 9 i0 (.string ⟨#[]⟩) 1 16 Try.underlying62 hi hz0 hz1 hz2 rfl (by decide) v pre.length _ rfl (hrow4.alloc _) ⟨w4.heap.size, 0, none⟩ 1 1 [.string ⟨rt.toArray⟩] rfl rfl (cell_one_new _ _ _) (by simp [Value.oneCell']) (by unfold maxLen; omega) (by omega) (by simp; omega) ?_
            intro v' w5 hown' hgrow
            refine hK _ _ ?_
            clear hK K
            obtain ⟨g', cap', rfl⟩ := ownsRow_succ hown'
            obtain ⟨hv1, hv2, hr2, hk2, hb2⟩ := hv4.appended (by decide) hrow4 hs14 hw1b hown' hgrow
            have hc1 := hv1.cell
            have hf1 := hv1.frozen
            refine wpAnyIn_ready (rs := [4]) (by kernel_rfl) (by simp) ?_
            refine AllReadyIn.cons rfl (fun K hK => ?_) AllReadyIn.nil
            go_simp
            refine hK _ _ ?_
            clear hK K
            refine wpAnyIn_done (by kernel_rfl) ?_ _
            gi_wp2
            obtain ⟨hbs, hbn⟩ := HBB.out
            have hbs4 : Boxed w4 Bs 22 (.slice (some ad) n c) := (hb4'.block _ hbs.lt).trans hbs
            have hbn4 : Boxed w4 Bn 3 (.int .i64 (k : Int)) := (hb4'.block _ hbn.lt).trans hbn
            have hbs5 : Boxed (w5.setCell ⟨b0, 0, none⟩ (.slice (some ⟨g', 0, none⟩) (pre.length + 1) cap')) Bs 22 (.slice (some ad) n c) :=
              ((hbs4.alloc _).kept hgrow (hbs4.not_row (by decide) hrow4)).kept (grownBy_setCell' _ _ _) (by simp; omega)
            have hbn5 : Boxed (w5.setCell ⟨b0, 0, none⟩ (.slice (some ⟨g', 0, none⟩) (pre.length + 1) cap')) Bn 3 (.int .i64 (k : Int)) :=
              ((hbn4.alloc _).kept hgrow (hbn4.not_row (by decide) hrow4)).kept (grownBy_setCell' _ _ _) (by simp; omega)
            have hbT := (hb4'.mono hsz2).trans hb2
            refine ⟨(keepsFrom_below hb4').trans (hk2.from _), ⟨hbT, (show _ = _ from hbs5).trans (show _ = _ from hbs).symm, (show _ = _ from hbn5).trans (show _ = _ from hbn).symm⟩, ⟨⟨_, hv2, ?_, trivial⟩, hbs5, hbn5⟩, hB.trans hbT⟩
            rw [List.length_append, List.map_append]
            simp only [List.map_cons, List.map_nil, HY.out, HRT.out]
            exact hr2
          · go_simp
            refine ⟨trivial, ?_⟩
            refine (CallsIn.inRound l (callsIn_wide.2 (bldString W2.heap.size W2.heap.size rt wr.drew HBD.out hsd))).mono ?_
            rintro e w4 ⟨rfl, hb4⟩
            dsimp only
            refine hK _ _ ?_
            clear hK K
            have hb4' : Below W2.heap.size W2 w4 := hBr.trans ⟨hb4.os, hb4.tape, hb4.output, hb4.size, hb4.block⟩
            have hsz4 := hb4'.size
            have hv4 : Boxed w4 b0 62 v := (hb4'.block _ hv.lt).trans hv
            have hc4 := hv4.cell
            have hrow4 : w4.ownsRow w1.heap.size 9 1 v pre.length (pre.map fun x => .string ⟨(rowT k zs x.1).toArray⟩) := ownsRow_below hrow hb4'
            have hs14 : w1.heap.size ≤ w4.heap.size := by omega
            refine wpAnyIn_ready (rs := [0, 2]) (by kernel_rfl) (by simp) ?_
            refine AllReadyIn.cons rfl (fun K hK => ?_) (AllReadyIn.cons rfl (fun K hK => ?_) AllReadyIn.nil)
            · go_simp
              refine hK _ _ ?_
              clear hK K
              refine wpAnyIn_ready (rs := [2]) (by kernel_rfl) (by simp) ?_
              refine AllReadyIn.cons rfl (fun K hK => ?_) AllReadyIn.nil
              go_simp
              refine hK _ _ ?_
              clear hK K
              refine wpAnyIn_ready (rs := [3]) (by kernel_rfl) (by simp) ?_
              refine AllReadyIn.cons rfl (fun K hK => ?_) AllReadyIn.nil
              refine stepIn_append_own _ rfl _ _ 62 rfl w1.heap.size 9 i0 (.string ⟨#[]⟩) 1 16 Try.underlying62 hi hz0 hz1 hz2 rfl (by decide) v pre.length _ rfl (hrow4.alloc _) ⟨w4.heap.size, 0, none⟩ 1 1 [.string ⟨rt.toArray⟩] rfl rfl (cell_one_new _ _ _) (by simp [Value.oneCell']) (by unfold maxLen; omega) (by omega) (by simp; omega) ?_
              intro v' w5 hown' hgrow
              refine hK _ _ ?_
              clear hK K
              obtain ⟨g', cap', rfl⟩ := ownsRow_succ hown'
              obtain ⟨hv1, hv2, hr2, hk2, hb2⟩ := hv4.appended (by decide) hrow4 hs14 hw1b hown' hgrow
              have hc1 := hv1.cell
              have hf1 := hv1.frozen
              refine wpAnyIn_ready (rs := [4]) (by kernel_rfl) (by simp) ?_
              refine AllReadyIn.cons rfl (fun K hK => ?_) AllReadyIn.nil
              go_simp
              refine hK _ _ ?_
              clear hK K
              refine wpAnyIn_done (by kernel_rfl) ?_ _
              gi_wp2
              obtain ⟨hbs, hbn⟩ := HBB.out
              have hbs4 : Boxed w4 Bs 22 (.slice (some ad) n c) := (hb4'.block _ hbs.lt).trans hbs
              have hbn4 : Boxed w4 Bn 3 (.int .i64 (k : Int)) := (hb4'.block _ hbn.lt).trans hbn
              have hbs5 : Boxed (w5.setCell ⟨b0, 0, none⟩ (.slice (some ⟨g', 0, none⟩) (pre.length + 1) cap')) Bs 22 (.slice (some ad) n c) :=
                ((hbs4.alloc _).kept hgrow (hbs4.not_row (by decide) hrow4)).kept (grownBy_setCell' _ _ _) (by simp; omega)
              have hbn5 : Boxed (w5.setCell ⟨b0, 0, none⟩ (.slice (some ⟨g', 0, none⟩) (pre.length + 1) cap')) Bn 3 (.int .i64 (k : Int)) :=
                ((hbn4.alloc _).kept hgrow (hbn4.not_row (by decide) hrow4)).kept (grownBy_setCell' _ _ _) (by simp; omega)
              have hbT := (hb4'.mono hsz2).trans hb2
              refine ⟨(keepsFrom_below hb4').trans (hk2.from _), ⟨hbT, (show _ = _ from hbs5).trans (show _ = _ from hbs).symm, (show _ = _ from hbn5).trans (show _ = _ from hbn).symm⟩, ⟨⟨_, hv2, ?_, trivial⟩, hbs5, hbn5⟩, hB.trans hbT⟩
              rw [List.length_append, List.map_append]
              simp only [List.map_cons, List.map_nil, HY.out, HRT.out]
              exact hr2
            · go_simp
              refine hK _ _ ?_
              clear hK K
              have hc4b := (hv4.alloc (.cells #[.string ⟨rt.toArray⟩] 9)).cell
              refine wpAnyIn_ready (rs := [0]) (by kernel_rfl) (by simp) ?_
              refine AllReadyIn.cons rfl (fun K hK => ?_) AllReadyIn.nil
              go_simp
              refine hK _ _ ?_
              clear hK K
              refine wpAnyIn_ready (rs := [3]) (by kernel_rfl) (by simp) ?_
              refine AllReadyIn.cons rfl (fun K hK => ?_) AllReadyIn.nil
              refine stepIn_append_own _ rfl _ _ 62 rfl w1.heap.size 9 i0 (.string ⟨#[]⟩) 1 16 Try.underlying62 hi hz0 hz1 hz2 rfl (by decide) v pre.length _ rfl (hrow4.alloc _) ⟨w4.heap.size, 0, none⟩ 1 1 [.string ⟨rt.toArray⟩] rfl rfl (cell_one_new _ _ _) (by simp [Value.oneCell']) (by unfold maxLen; omega) (by omega) (by simp; omega) ?_
              intro v' w5 hown' hgrow
              refine hK _ _ ?_
              clear hK K
              obtain ⟨g', cap', rfl⟩ := ownsRow_succ hown'
              obtain ⟨hv1, hv2, hr2, hk2, hb2⟩ := hv4.appended (by decide) hrow4 hs14 hw1b hown' hgrow
              have hc1 := hv1.cell
              have hf1 := hv1.frozen
              refine wpAnyIn_ready (rs := [4]) (by kernel_rfl) (by simp) ?_
              refine AllReadyIn.cons rfl (fun K hK => ?_) AllReadyIn.nil
              go_simp
              refine hK _ _ ?_
              clear hK K
              refine wpAnyIn_done (by kernel_rfl) ?_ _
              gi_wp2
              obtain ⟨hbs, hbn⟩ := HBB.out
              have hbs4 : Boxed w4 Bs 22 (.slice (some ad) n c) := (hb4'.block _ hbs.lt).trans hbs
              have hbn4 : Boxed w4 Bn 3 (.int .i64 (k : Int)) := (hb4'.block _ hbn.lt).trans hbn
              have hbs5 : Boxed (w5.setCell ⟨b0, 0, none⟩ (.slice (some ⟨g', 0, none⟩) (pre.length + 1) cap')) Bs 22 (.slice (some ad) n c) :=
                ((hbs4.alloc _).kept hgrow (hbs4.not_row (by decide) hrow4)).kept (grownBy_setCell' _ _ _) (by simp; omega)
              have hbn5 : Boxed (w5.setCell ⟨b0, 0, none⟩ (.slice (some ⟨g', 0, none⟩) (pre.length + 1) cap')) Bn 3 (.int .i64 (k : Int)) :=
                ((hbn4.alloc _).kept hgrow (hbn4.not_row (by decide) hrow4)).kept (grownBy_setCell' _ _ _) (by simp; omega)
              have hbT := (hb4'.mono hsz2).trans hb2
              refine ⟨(keepsFrom_below hb4').trans (hk2.from _), ⟨hbT, (show _ = _ from hbs5).trans (show _ = _ from hbs).symm, (show _ = _ from hbn5).trans (show _ = _ from hbn).symm⟩, ⟨⟨_, hv2, ?_, trivial⟩, hbs5, hbn5⟩, hB.trans hbT⟩
              rw [List.length_append, List.map_append]
              simp only [List.map_cons, List.map_nil, HY.out, HRT.out]
              exact hr2
    case done =>
      rintro D ys W hD hys ⟨⟨⟨v, hv, hrow, _⟩, _, _⟩, hB⟩ hK
      obtain ⟨L, hL⟩ : ∃ L : List ByteArray, (List.range S).map (fun y => (⟨(rowT S zs y).toArray⟩ : ByteArray)) = L := ⟨_, rfl⟩
      have hLl : L.length = S := by rw [← hL]; simp
      have hyl : ys.length = S := by have := congrArg List.length hys; simpa using this
      have e1 : (ys.map fun x => Value.string ⟨(rowT S zs x.1).toArray⟩) = L.map (.string) := by
        rw [← hL, ← hys, List.map_map, List.map_map]; rfl
      rw [e1, hyl] at hrow
      obtain ⟨rg, rc, rfl⟩ : ∃ rg rc, v = .slice (some ⟨rg, 0, none⟩) S rc := by
        obtain ⟨m, rfl⟩ : ∃ m, S = m + 1 := ⟨S - 1, by omega⟩
        exact ownsRow_succ hrow
      have hc := hv.cell
      have hrT : RT W W.heap.size (some ⟨rg, 0, none⟩) L.length L := by rw [hLl]; exact Reads.of_own hrow
      have hbk := backwardsS (some ⟨rg, 0, none⟩) L rc (by omega) W hrT
      rw [hLl] at hbk
      have HBK := Lib.hid hbk
      have HL := Lib.hid hL
      have HLL := Lib.hid hLl
      have hDlt : D < W.heap.size := (Array.getElem?_eq_some_iff.1 hK).1
      have HK := Lib.hid hK
      have R2 := Lib.hid (R1.out.below hB hgl1)
      clear hL hLl hys hyl e1 hbk hrT hK q0 q1 q2 q3 q4 q5
      obtain ⟨q0, q1, q2, q3, q4, q5⟩ := R2.out.at_
      gi_wp2_with (refine ⟨trivial, ?_⟩; gi_at_call 68; refine (callsIn_wide.2 HBK.out).mono ?_; rintro e w4 ⟨v4, rfl, hrow4, hb4⟩; dsimp only)
      obtain ⟨g4, c4, rfl⟩ : ∃ g4 c4, v4 = .slice (some ⟨g4, 0, none⟩) S c4 := by
        obtain ⟨m, rfl⟩ : ∃ m, S = m + 1 := ⟨S - 1, by omega⟩
        exact ownsRow_succ hrow4
      have hJ := joinRows S zs L HL.out g4 c4 W.heap.size w4 hrow4 hS8
      obtain ⟨T, hT⟩ : ∃ T, (⟨(txL S zs S).toArray⟩ : ByteArray) = T := ⟨_, rfl⟩
      rw [hT] at hJ
      have HJ := Lib.hid hJ
      have hTl : T.size ≤ 1048576 := by
        rw [← hT, str_size]
        have h1 := tx_le S zs S
        have h2 : S * (S + 1) ≤ 8 * 9 := Nat.mul_le_mul hS8 (by omega)
        omega
      obtain ⟨U, hU⟩ : ∃ U, (⟨#[33]⟩ : ByteArray) ++ T = U := ⟨_, rfl⟩
      have hadd : ∀ w, (Op.stringOp .add ⟨#[33]⟩ T).run Try.prog w = .ok (.string U) w := add_ok hU (by decide) hTl
      have HT := Lib.hid hT
      have HU := Lib.hid hU
      clear hT hU
      have hK4 : w4.heap[D]? = some (.deferred (some [])) := (hb4.block _ hDlt).trans HK.out
      have HK4 := Lib.hid hK4
      have R4 := Lib.hid (R2.out.below hb4 R2.out.lt)
      clear hJ hK4 q0 q1 q2 q3 q4 q5 hrow hrow4 hc
      obtain ⟨q0, q1, q2, q3, q4, q5⟩ := R4.out.at_
      cases h
      · gi_wp2_with (refine ⟨trivial, ?_⟩; gi_at_call 67; refine (callsIn_wide.2 HJ.out).mono ?_; rintro e w5 ⟨rfl, hb5⟩; have R5 := Lib.hid (R4.out.below hb5 R4.out.lt); clear q0 q1 q2 q3 q4 q5; obtain ⟨q0, q1, q2, q3, q4, q5⟩ := R5.out.at_)
        have hlt4 : D < w4.heap.size := (Array.getElem?_eq_some_iff.1 HK4.out).1
        have hK5 : w5.heap[D]? = some (.deferred (some [])) := (hb5.block _ hlt4).trans HK4.out
        have hTT : Below w.heap.size w w5 := hT1.trans ((hB.mono hT1.size).trans ((hb4.mono (by have := hT1.size; have := hB.size; omega)).trans (hb5.mono (by have := hT1.size; have := hB.size; have := hb4.size; omega))))
        have hDw : w.heap.size ≤ D := by have := hT1.size; omega
        have hfin : Below w.heap.size w (w5.putObj D (.deferred none)) := hTT.trans (belowK_b (n₀ := w.heap.size) (w := w) (Nat.le_refl _) w5 D _ _ hDw hK5 rfl rfl)
        refine ⟨by simp, .inl ⟨_, _, rfl, run_takeDeferred hK5, ?_⟩⟩
        refine ⟨_, results_tmp rfl _ _ _, And.intro ?_ hfin⟩
        rw [HV.out, ← HT.out]; rfl
      · gi_wp2_with (refine ⟨trivial, ?_⟩; gi_at_call 67; refine (callsIn_wide.2 HJ.out).mono ?_; rintro e w5 ⟨rfl, hb5⟩; have R5 := Lib.hid (R4.out.below hb5 R4.out.lt); clear q0 q1 q2 q3 q4 q5; obtain ⟨q0, q1, q2, q3, q4, q5⟩ := R5.out.at_)
        have hlt4 : D < w4.heap.size := (Array.getElem?_eq_some_iff.1 HK4.out).1
        have hK5 : w5.heap[D]? = some (.deferred (some [])) := (hb5.block _ hlt4).trans HK4.out
        have hTT : Below w.heap.size w w5 := hT1.trans ((hB.mono hT1.size).trans ((hb4.mono (by have := hT1.size; have := hB.size; omega)).trans (hb5.mono (by have := hT1.size; have := hB.size; have := hb4.size; omega))))
        have hDw : w.heap.size ≤ D := by have := hT1.size; omega
        have hfin : Below w.heap.size w (w5.putObj D (.deferred none)) := hTT.trans (belowK_b (n₀ := w.heap.size) (w := w) (Nat.le_refl _) w5 D _ _ hDw hK5 rfl rfl)
        refine ⟨by simp, .inl ⟨_, _, rfl, run_takeDeferred hK5, ?_⟩⟩
        refine ⟨_, results_tmp rfl _ _ _, And.intro ?_ hfin⟩
        rw [HV.out, ← HU.out, ← HT.out, str_app]; rfl
end Go.Proofs.Ytmianlihdiccjaa

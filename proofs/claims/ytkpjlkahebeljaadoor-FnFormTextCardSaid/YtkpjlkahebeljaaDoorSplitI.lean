/- Contract of strings.SplitSeq at a separator of one byte. -/
import Derived.RangeFuncBox
import Derived.RangeFuncNested
import Derived.RangeFuncLeaves
import Derived.Shelf.Abstract
import Derived.WalkKit
import Derived.OwnWalkIn
import Derived.TacticsInMore
import Derived.LoopNIn
import Derived.LoopIn
import Derived.Maps.AppendAt
import Derived.Test.YtkpjlkahebeljaaDoorSplitR
import Derived.Test.YtkpjlkahebeljaaDoorShelfI
import Derived.Test.YtkpjlkahebeljaaDoorPlParse
import Derived.Test.YtkpjlkahebeljaaDoorCutS
namespace Go.Proofs.YtkpjlkahebeljaaDoor
open Go.RowKit Go.Shelf
set_option linter.unusedVariables false
attribute [local go_sem] Oper.semAt_some
/-- bytes of a text -/
abbrev bL (s : ByteArray) : List UInt8 := s.data.toList
/-- pre is where the pieces of s begin -/
def PreS (c : UInt8) (s : ByteArray) (pre : List ByteArray) : Prop := ∃ suf, spl c (bL s) = pre.map bL ++ suf
def AllS (c : UInt8) (s : ByteArray) (xs : List ByteArray) : Prop := spl c (bL s) = xs.map bL
theorem PreS.len {c : UInt8} {s : ByteArray} {pre : List ByteArray} (h : PreS c s pre) : pre.length ≤ s.size + 1 := by
  obtain ⟨suf, h⟩ := h
  have h1 := spl_len c (bL s)
  rw [h] at h1
  simp at h1
  omega
def encS (x : ByteArray) : Array Value := #[.string x]
/-- what a round keeps for the iterator: its three boxes -/
def KpS (B : Nat) (W W' : World) : Prop := ∀ b, B ≤ b → b < B + 3 → W'.heap[b]? = W.heap[b]?
theorem KpS.trans {B : Nat} {X Y Z : World} (h : KpS B X Y) (k : KpS B Y Z) : KpS B X Z := fun b h1 h2 => (k b h1 h2).trans (h b h1 h2)
theorem KpS.put {B n : Nat} (hn : B + 3 ≤ n) (W : World) (l : Nat) (o : Obj) (hl : n ≤ l) : KpS B W (W.putObj l o) := fun b h1 h2 => World.putObj_heap_other (by omega)
theorem KpS.boxed {B b : Nat} {W W' : World} {t : TypeId} {v : Value} (h : KpS B W W') (hb : Boxed W b t v) (h1 : B ≤ b) (h2 : b < B + 3) : Boxed W' b t v := (h b h1 h2).trans hb
/-- how long the text in a box is -/
def boxLen (W : World) (B : Nat) : Nat := match W.cell? ⟨B, 0, none⟩ with
  | some (.string s) => s.size
  | _ => 0
theorem boxLen_of {W : World} {B : Nat} {s : ByteArray} (h : W.cell? ⟨B, 0, none⟩ = some (.string s)) : boxLen W B = s.size := by unfold boxLen; rw [h]
set_option maxRecDepth 100000 in
set_option maxHeartbeats 4000000 in
theorem split1_in (n l B Bx : Nat) (hn : 1 ≤ n) (s : ByteArray) (c : UInt8) (hs : s.size ≤ 1048577) (J Jx : List ByteArray → World → Prop) (hJ : OwnS B Bx J)
    (hY : ∀ pre x W1, J pre W1 → PreS c s (pre ++ [x]) → YieldAt Fence.wide (n - 1) Tryd.prog l (encS x) W1 fun e W' =>
      (e = .returned (.bool true) ∧ J (pre ++ [x]) W' ∧ KpS B W1 W') ∨ (e = .returned (.bool false) ∧ Jx (pre ++ [x]) W'))
    (W : World) (b0 : Boxed W B 9 (.string s)) (b1 : Boxed W (B + 1) 9 (.string ⟨#[c]⟩)) (b2 : Boxed W (B + 2) 3 (.int .i64 0)) (h0 : J [] W) :
    CallsIn Fence.wide n Tryd.prog 56 #[.func (.yield l) #[] #[], .pointer (some ⟨B + 1, 0, none⟩), .pointer (some ⟨B, 0, none⟩), .pointer (some ⟨B + 2, 0, none⟩)] W fun e W' => (∃ v, e = .returned v) ∧
      ((∃ xs, AllS c s xs ∧ J xs W') ∨ (∃ pre, Jx pre W')) := by
  refine callsIn_of_wp Tryd.func56 rfl trivial ?_ rfl
  simp only [Tryd.ntmps56, List.size_toArray, List.length_cons, List.length_nil, Nat.reduceAdd, Nat.reduceSub, Array.replicate_succ, Array.replicate_zero, List.push_toArray, List.append_toArray, List.nil_append, List.cons_append]
  have hF58 : Fence.wide.fn 58 := trivial
  have HB1 := Lib.hid b1
  have HB0 := Lib.hid b0
  have HB2 := Lib.hid b2
  have c1 := b1.cell
  clear b0 b1 b2
  gi_wp2
  gi_loopw [] (fun wr => ∃ (t : ByteArray) (pre : List ByteArray), Hid (spl c (bL s) = pre.map bL ++ spl c (bL t)) ∧ t.size ≤ 1048577 ∧ Boxed wr B 9 (.string t) ∧ Hid (Boxed wr (B + 1) 9 (.string ⟨#[c]⟩)) ∧ Hid (Boxed wr (B + 2) 3 (.int .i64 0)) ∧ J pre wr)
    (fun wr => boxLen wr B)
  case atStart => exact ⟨s, [], Lib.hid rfl, hs, HB0.out, HB1, HB2, h0⟩
  case round =>
    obtain ⟨t, pre, HP, ht, q0, HQ1, HQ2, hJs⟩ := hrel
    have d0 := q0.cell
    have d1 := HQ1.out.cell
    have d2 := HQ2.out.cell
    have f0 := q0.frozen
    by_cases hx : Lib.indexByte (bL t) c = -1
    · have HN := Lib.hid (ix_none hx)
      have HI := Lib.hid (show Lib.indexByte t.data.toList c = -1 from hx)
      clear hx
      have hpre : PreS c s (pre ++ [t]) := ⟨[], by rw [HP.out, HN.out]; simp⟩
      obtain ⟨fn, tmps, assign, body, hy, hR⟩ := hY pre t wr hJs hpre
      dsimp only [encS] at hy
      gi_wp2_with (gi_at_call 58; refine (callsIn_wide.2 (strIndex1 t c _)).mono ?_; rintro e w' ⟨rfl, rfl⟩; rw [HI.out])
      refine hR.mono ?_
      rintro e W3 (⟨rfl, hJ3, hk3⟩ | ⟨rfl, hJx3⟩)
      · gi_wp2
        go_end0
        exact ⟨⟨_, rfl⟩, .inl ⟨pre ++ [t], by show spl c (bL s) = _; rw [HP.out, HN.out]; simp, hJ3⟩⟩
      · gi_wp2
        go_end0
        exact ⟨⟨_, rfl⟩, .inr ⟨_, hJx3⟩⟩
    · obtain ⟨i, hi⟩ : ∃ i : Nat, Lib.indexByte (bL t) c = i := ⟨(Lib.indexByte (bL t) c).toNat, by have := Lib.indexByte_ge (bL t) c; omega⟩
      clear hx
      obtain ⟨hil, hsp, hno, _⟩ := ix_some hi
      have hil2 : i < t.size := by have : (bL t).length = t.size := by simp [bL]
                                   omega
      have HI := Lib.hid (show Lib.indexByte t.data.toList c = (i : Int) from hi)
      have e1 : bL (t.extract 0 i) = (bL t).take i := by rw [ext_list]; simp [bL]
      have e2 : bL (t.extract (i + 1) t.size) = (bL t).drop (i + 1) := by rw [ext_list]; simp [bL, List.take_of_length_le]
      have HN := Lib.hid (show spl c (bL t) = bL (t.extract 0 i) :: spl c (bL (t.extract (i + 1) t.size)) by rw [e1, e2]; exact hsp)
      have HZ := Lib.hid (show (t.extract (i + 1) t.size).size = t.size - (i + 1) by simp [ByteArray.size_extract])
      clear hi hil hsp hno e1 e2
      have hpre : PreS c s (pre ++ [t.extract 0 i]) := ⟨spl c (bL (t.extract (i + 1) t.size)), by rw [HP.out, HN.out]; simp⟩
      obtain ⟨fn, tmps, assign, body, hy, hR⟩ := hY pre (t.extract 0 i) wr hJs hpre
      dsimp only [encS] at hy
      have i0 : (0 : Int) ≤ (i : Int) := by omega
      have i1 : (i : Int) ≤ (t.size : Int) := by omega
      have i2 : (i : Int) + 1 ≤ (t.size : Int) := by omega
      have i3 : ¬ (i : Int) < 0 := by omega
      gi_wp2_with (gi_at_call 58; refine (callsIn_wide.2 (strIndex1 t c _)).mono ?_; rintro e w' ⟨rfl, rfl⟩; rw [HI.out])
      refine hR.mono ?_
      rintro e W3 (⟨rfl, hJ3, hk3⟩ | ⟨rfl, hJx3⟩)
      · have q3 := hk3.boxed q0 (by omega) (by omega)
        have r1 := hk3.boxed HQ1.out (by omega) (by omega)
        have r2 := hk3.boxed HQ2.out (by omega) (by omega)
        have s0 := q3.cell
        have s1 := r1.cell
        have s2 := q3.frozen
        have HR1 := Lib.hid r1
        have HR2 := Lib.hid r2
        clear r1 r2 d0 d1 d2 f0
        gi_wp2
        go_roundw
        case rel => exact ⟨t.extract (i + 1) t.size, pre ++ [t.extract 0 i], Lib.hid (by rw [HP.out, HN.out]; simp), by rw [HZ.out]; omega, q3.set _, Lib.hid (HR1.out.other (by omega) _), Lib.hid (HR2.out.other (by omega) _), hJ.set _ hJ3⟩
        case measure => rw [boxLen_of (q3.set _).cell, boxLen_of q0.cell, HZ.out]; omega
      · gi_wp2
        refine bodyPost_ret (results_none rfl _ _ _) rfl ?_
        exact ⟨⟨_, rfl⟩, .inr ⟨_, hJx3⟩⟩
set_option maxHeartbeats 1000000 in
/-- strings.SplitSeq: three boxes are laid -/
theorem splitSeq_in (s : ByteArray) (c : UInt8) (w : World) :
    Calls Tryd.prog 30 #[.string s, .string ⟨#[c]⟩] w fun e w' => e = .returned (.func (.func 56) #[] #[.pointer (some ⟨w.heap.size + 1, 0, none⟩), .pointer (some ⟨w.heap.size, 0, none⟩), .pointer (some ⟨w.heap.size + 2, 0, none⟩)]) ∧
      w' = ((w.alloc (.cells #[.string s] 9)).alloc (.cells #[.string ⟨#[c]⟩] 9)).alloc (.cells #[.int .i64 0] 3) := by
  have h : ∀ w, Calls Tryd.prog 48 #[.string s, .string ⟨#[c]⟩, .int .i64 0] w fun e w' => e = .returned (.func (.func 56) #[] #[.pointer (some ⟨w.heap.size + 1, 0, none⟩), .pointer (some ⟨w.heap.size, 0, none⟩), .pointer (some ⟨w.heap.size + 2, 0, none⟩)]) ∧
      w' = ((w.alloc (.cells #[.string s] 9)).alloc (.cells #[.string ⟨#[c]⟩] 9)).alloc (.cells #[.int .i64 0] 3) := by
    intro w
    go_enter Tryd.func48, Tryd.ntmps48
    go_wp2
    go_ret
    exact ⟨rfl, rfl⟩
  have H := Lib.hid h
  clear h
  go_enter Tryd.func30, Tryd.ntmps30
  go_wp2_with (go_at_call 48; refine (H.out _).mono ?_; rintro e w' ⟨rfl, rfl⟩)
  go_ret
  exact ⟨rfl, rfl⟩
end Go.Proofs.YtkpjlkahebeljaaDoor

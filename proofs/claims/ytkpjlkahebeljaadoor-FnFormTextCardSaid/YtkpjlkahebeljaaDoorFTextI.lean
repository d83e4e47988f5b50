/- Contracts of the program: the words of a step. -/
import Derived.Test.YtkpjlkahebeljaaDoorFTextS
import Derived.Test.YtkpjlkahebeljaaDoorShelfJ
import Derived.Test.YtkpjlkahebeljaaDoorStoreRow
namespace Go.Proofs.YtkpjlkahebeljaaDoor
open Go.RowKit
set_option linter.unusedVariables false
theorem infoStr : (Tryd.prog.info? 9).map (fun i => (i.zero, i.size, i.bytes)) = some (some (.string ⟨#[]⟩), 1, 16) := by kernel_rfl
/-- the names of the operations, as cells -/
def opC : Array Value := #[.string ⟨#[97, 110, 100]⟩, .string ⟨#[111, 114]⟩, .string ⟨#[120, 111, 114]⟩, .string ⟨#[110, 111, 116]⟩]
set_option maxRecDepth 100000 in
theorem opNamesI (w : World) : Calls Tryd.prog 23 #[] w fun e w' => e = .returned (.agg opC) ∧ Below w.heap.size w w' := by
  go_enter Tryd.func23, Tryd.ntmps23
  go_wp2_with (refine wpList_store_row (o := ⟨none, _, _, _, _, _⟩) rfl 48 _ _ rfl w.heap.size rfl opC rfl _ 48 (World.alloc_heap_new _ _) (by kernel_rfl) rfl (by simp [opC, Value.oneCell']) ?_; intro w2 hg2 hgr hsz)
  refine bodyPost_ret (results_cell_row rfl _ _ w.heap.size 48 opC (0, 0) _ rfl hg2 Tryd.underlying48 rfl (by kernel_rfl)) rfl ⟨rfl, ?_⟩
  exact ((Below.refl _ _).alloc (Nat.le_refl _) _).grown hgr (by simp) (fun k e => by cases e; exact Nat.le_refl _)

/-- a slice of n texts that the call owns and may append to -/
def OT (w : World) (base : Nat) (A : Option Addr) (n c : Nat) (xs : List ByteArray) : Prop := w.ownsRow base 9 1 (.slice A n c) n (xs.map .string)
theorem OT.of {w : World} {base : Nat} {v : Value} {n : Nat} {us : List Value} {xs : List ByteArray} (h : w.ownsRow base 9 1 v n us) (hx : us = xs.map .string) : ∃ A c, v = .slice A n c ∧ OT w base A n c xs := by
  subst hx
  rcases h.2 with ⟨hv, h0⟩ | ⟨g, cap, cur, hv, r⟩
  · have : v = .slice none n 0 := by rw [hv, h0]
    exact ⟨none, 0, this, by rw [this] at h; exact h⟩
  · exact ⟨_, cap, hv, by rw [hv] at h; exact h⟩
theorem OT.below {w w' : World} {base : Nat} {A : Option Addr} {n c : Nat} {xs : List ByteArray} {K : Nat} (h : OT w base A n c xs) (hb : Below K w w') (hK : w.heap.size ≤ K) : OT w' base A n c xs :=
  World.ownsRow.kept (row := none) h ⟨hb.os, hb.tape, hb.output, hb.size, fun k hk _ => hb.block k (by omega)⟩ (by cases (Value.slice A n c).ownBlock <;> simp)
theorem OT.lt {w : World} {base : Nat} {A : Option Addr} {n c : Nat} {xs : List ByteArray} (h : OT w base A n c xs) : ∀ j, (Value.slice A n c).ownBlock = some j → base ≤ j ∧ j < w.heap.size := World.ownsRow.lt h
theorem OT.len {w : World} {base : Nat} {A : Option Addr} {n c : Nat} {xs : List ByteArray} (h : OT w base A n c xs) : xs.length = n := by have := h.1; simpa using this
theorem OT.empty (w : World) : OT (w.alloc (.cells #[] 9)) w.heap.size (some ⟨w.heap.size, 0, none⟩) 0 0 [] := World.ownsRow_made w #[] 0 (Nat.le_refl _) (by simp [maxLen]) (by simp)
/-- append(s, t) of a text that stands in a block of its own -/
theorem wpList_pushT {ops : Array Oper} {rest : List Oper} {o : Oper} {a : Act} {Q : Exit → Act → World → Prop} (w0 : World) (t : ByteArray) (hgd : o.guard = none) (s x : Operand)
    (ho : o.op = .call { callee := .builtin .append, args := #[s, x], argTypes := #[44, 44] })
    (base : Nat) (A : Option Addr) (n c : Nat) (xs : List ByteArray) (hs : a.eval s = .slice A n c) (g : Nat) (hx : a.eval x = .slice (some ⟨g, 0, none⟩) 1 1) (hgs : w0.heap.size = g) (hO : OT w0 base A n c xs)
    (hn : n + 1 ≤ 1099511627776) (hb : base ≤ w0.heap.size)
    (h : ∀ A' c' w', OT w' base A' (n + 1) c' (xs ++ [t]) → w0.grownBy w' (Value.slice A n c).ownBlock → wpList Tryd.prog ops Q rest (a.put o.dst (.slice A' (n + 1) c')) w') :
    wpList Tryd.prog ops Q (o :: rest) a (w0.alloc (.cells #[.string t] 9)) := by
  subst hgs
  obtain ⟨i0, hi, hz0, hz1, hz2⟩ := info_parts infoStr
  refine wpList_append_own _ hgd s x 44 ho base 9 i0 _ 1 16 Tryd.underlying44 hi hz0 hz1 hz2 rfl (by decide) _ n _ hs (World.ownsRow.alloc hO _) ⟨w0.heap.size, 0, none⟩ 1 1 [.string t] hx rfl (cell_one_new _ _ _) (by simp [Value.oneCell']) (by unfold maxLen; omega) (by omega) (by simp; omega) ?_
  intro v' w' hown' hg _
  obtain ⟨A', c', rfl, hO'⟩ := OT.of (xs := xs ++ [t]) hown' (by simp)
  exact h A' c' w' hO' ((World.grownBy_alloc w0 _ _).trans hg)
/-- strings.Join of texts that the call owns -/
theorem joinT (w : World) (base : Nat) (A : Option Addr) (n c : Nat) (ls : List (List UInt8)) (sep : List UInt8) (hO : OT w base A n c (ls.map fun l => (⟨l.toArray⟩ : ByteArray))) (h1 : 1 ≤ n) (hn : n ≤ 1000) (hl : (Lib.join ls sep).length ≤ 100000) :
    Calls Tryd.prog 25 #[.slice A n c, .string ⟨sep.toArray⟩] w (GivesS w (Lib.join ls sep)) := by
  have hlen := hO.len
  rcases hO.2 with ⟨hv, h0⟩ | ⟨g, cap, cur, hv, _, hh, hnc, hcm, hcs, ht⟩
  · omega
  injection hv with e1 _ e3
  subst e1; subst e3
  have hll : ls.length = n := by simpa using hlen
  have hm : (ls.map fun l => (⟨l.toArray⟩ : ByteArray)).map (·.data.toList) = ls := by
    rw [List.map_map]
    conv => rhs; rw [← List.map_id ls]
    congr 1
  have h := strJoin g 0 c (ls.map fun l => (⟨l.toArray⟩ : ByteArray)) ⟨sep.toArray⟩ w (fun j x hx => by
      have hj : j < n * 1 := by have := (List.getElem?_eq_some_iff.1 hx).1; rw [List.length_map] at this; omega
      have hc := cell_of_row w g (0 + j) cur _ (0, 0) hh
      rw [hc, Nat.zero_add]
      have := congrArg (fun l => l[j]?) ht
      simp only [List.getElem?_take, if_pos hj] at this
      rw [List.getElem?_map, hx] at this
      simpa using this) (Array.getElem?_eq_some_iff.1 hh).1 (by rw [List.length_map]; omega) (by rw [List.length_map]; omega) (by rw [hm]; show (Lib.join ls sep).length ≤ _; omega)
  rw [hm, List.length_map, hll] at h
  exact h
set_option maxRecDepth 100000 in
set_option maxHeartbeats 4000000 in
theorem joinedI (A : Option Addr) (m c : Nat) (ws : List Int) (w : World) (hr : RI w w.heap.size A m ws) (h1 : 1 ≤ m) (h2 : m ≤ 2) (hw : ∀ x ∈ ws, 0 ≤ x ∧ x ≤ 9) :
    Calls Tryd.prog 24 #[.slice A m c, .string ⟨#[32]⟩] w (GivesS w (Lib.join (ws.map dgL) [32])) := by
  obtain ⟨i0, hi, hz0, hz1, hz2⟩ := info_parts infoStr
  have HR := Lib.hid hr
  have HW := Lib.hid hw
  clear hr hw
  go_enter Tryd.func24, Tryd.ntmps24
  go_wp2_with (refine wpList_make_own _ rfl _ _ 44 rfl w.heap.size 9 i0 (.string ⟨#[]⟩) 1 Tryd.underlying44 hi hz0 hz1 .i64 .i64 _ m rfl rfl rfl (by rw [hz2]; omega) (by unfold maxLen; omega) (Nat.le_refl _) ?_; intro w1 hown1 hg1)
  have hb1 : Below w.heap.size w w1 := grown_below hg1
  have HO1 := Lib.hid (show OT w1 w.heap.size (some ⟨w.heap.size, 0, none⟩) 0 m [] from hown1)
  clear hown1 hg1
  go_loopw [5, 13] (fun v i wr => ∃ (k : Nat) (A' : Option Addr) (c' : Nat), k ≤ m ∧ i = .int .i64 k ∧ v = .slice A' k c' ∧ Hid (OT wr w.heap.size A' k c' (((ws.take k).map dgL).map fun l => (⟨l.toArray⟩ : ByteArray))) ∧ Below w.heap.size w wr)
    (fun _ i _ => m - (intOf i).toNat)
  case atStart => exact ⟨0, _, _, Nat.zero_le _, rfl, rfl, HO1.out, hb1⟩
  case round =>
    obtain ⟨k, A', c', hk, rfl, rfl, HO, hB⟩ := hrel
    have hs := hB.size
    by_cases hlt : k < m
    rotate_left
    · obtain rfl : k = m := by omega
      have hO := HO.out
      rw [List.take_of_length_le (by rw [HR.out.len]; exact Nat.le_refl _)] at hO
      have HJ := Lib.hid (joinT wr w.heap.size A' k c' (ws.map dgL) [32] hO h1 (by omega) (by
        have hl := HR.out.len
        have : ∀ (l : List Int), (Lib.join (l.map dgL) [32]).length ≤ 3 * l.length := by
          intro l
          cases l with
          | nil => simp [Lib.join]
          | cons a l =>
            rw [List.map_cons, Lib.join_cons, List.length_append]
            have ht : ∀ (l : List Int), (Lib.joinTail [32] (l.map dgL)).length ≤ 3 * l.length := by
              intro l
              induction l with
              | nil => simp [Lib.joinTail]
              | cons b l ih => simp only [Lib.joinTail, List.map_cons, List.flatten_cons, List.length_append, List.length_cons] at ih ⊢; simp [dgL] at ih ⊢; omega
            have := ht l
            simp [dgL] at this ⊢; omega
        have := this ws
        omega))
      clear hO
      go_wp2_with (go_at_call 25; refine HJ.out.mono ?_; rintro e w3 ⟨rfl, hB3⟩)
      go_ret
      exact ⟨rfl, hB.trans (hB3.mono hs)⟩
    have hki : (k : Int) < (m : Int) := by omega
    obtain ⟨ad, x, rfl, hbx, g0, hc0⟩ := (HR.out.up (Nat.le_refl _) hB (Nat.le_refl _)).at_ hlt
    have hx := HW.out x (List.mem_of_getElem? g0)
    have HT := Lib.hid (show ws.take (k + 1) = ws.take k ++ [x] by rw [List.take_add_one, g0]; rfl)
    have HN := Lib.hid (itoaI x hx.1 hx.2)
    clear g0 hx
    go_wp2_with (first | (go_at_call 42; refine (HN.out _).mono ?_; rintro e w2 ⟨rfl, rfl⟩) | (at_builtin; refine wpList_pushT _ _ rfl _ _ rfl w.heap.size A' k c' _ rfl _ rfl rfl HO.out (by omega) (by omega) ?_; intro A4 c4 w4 hO4 hg4))
    have hB4 : Below w.heap.size w w4 := hB.grown hg4 (by omega) (fun q e => (HO.out.lt q e).1)
    go_roundw
    case rel => exact ⟨k + 1, _, _, by omega, by go_num, rfl, by show OT _ _ _ _ _ _; rw [HT.out]; simpa using hO4, hB4⟩
    case measure => simp [intOf]; omega
end Go.Proofs.YtkpjlkahebeljaaDoor

/- Contracts of the reference: valid circuits, gates of a step, gates of a formula. -/
import Derived.Test.YtkpjlkahebeljaaGateS
import Derived.Test.YtkpjlkahebeljaaPushF
namespace Go.Proofs.Ytkpjlkahebeljaa
open Go.RowKit
set_option linter.unusedVariables false

theorem gateValidS (K a b c : Int) (h : GV K a b c) (w : World) : Calls Try.prog 33 #[.int .i64 8, .agg #[.int .i64 K, .int .i64 a, .int .i64 b, .int .i64 c]] w (GivesT w true) := by
  rcases h with ⟨rfl, rfl, rfl, h1, h2⟩ | ⟨rfl, rfl, h1, h2, h3, h4, h5⟩ | ⟨rfl, h1, h2, h3, h4, h5, h6, h7, h8, h9⟩
  · exact gateValidS0 a w h1 h2
  · exact gateValidS1 a b w h1 h2 h3 h4 h5
  · exact gateValidS2 a b c w h1 h2 h3 h4 h5 h6 h7 h8 h9
set_option maxHeartbeats 1000000 in
theorem circuitValidS (A : Option Addr) (n c : Nat) (zs : List Int) (w : World) (hr : RI w w.heap.size A (n * 4) zs) (hn : n ≤ 24) (hg : AllGV n zs) :
    Calls Try.prog 28 #[.int .i64 8, .slice A n c] w (GivesT w true) := by
  have i8 : inB 8 1 8 = true := by decide
  have hn24 : (n : Int) ≤ 24 := by omega
  have HGV := Lib.hid hg
  clear hg
  go_enter Try.func28, Try.ntmps28
  go_wp2
  go_loopw [5] (fun i wr => ∃ (k : Nat), k ≤ n ∧ i = .int .i64 k ∧ Below w.heap.size w wr) (fun i _ => n - (intOf i).toNat)
  case atStart => exact ⟨0, Nat.zero_le _, rfl, Below.refl _ _⟩
  case round =>
    obtain ⟨k, hk, rfl, hB⟩ := hrel
    have hs := hB.size
    by_cases hlt : k < n
    · obtain ⟨ad, K, a, b, d, rfl, hb, g0, g1, g2, g3, c0, c1, c2, c3⟩ := (hr.below hB).four hlt
      have HV := Lib.hid (HGV.out k hlt K a b d g0 g1 g2 g3)
      clear g0 g1 g2 g3
      go_wp2_with (go_at_call 33; refine (gateValidS K a b d HV.out _).mono ?_; rintro e w2 ⟨rfl, hB2⟩)
      go_roundw
      case rel => exact ⟨k + 1, by omega, by go_num, hB.trans (hB2.mono hs)⟩
      case measure => simp [intOf]; omega
    · obtain rfl : k = n := by omega
      go_wp2_with (go_at_call 27; refine (l1In _ _ _ _).mono ?_; rintro e w' ⟨rfl, rfl⟩)
      go_ret
      exact ⟨rfl, hB⟩
theorem cells3 {w : World} {g : Nat} {T : TypeId} {a b c : Value} (h : w.heap[g]? = some (.cells #[a, b, c] T (0, 0))) :
    w.cell? ⟨g, 0, none⟩ = some a ∧ w.cell? ⟨g, 1, none⟩ = some b ∧ w.cell? ⟨g, 2, none⟩ = some c := by
  refine ⟨?_, ?_, ?_⟩
  · rw [cell_of_row w g 0 _ _ _ h]; rfl
  · rw [cell_of_row w g 1 _ _ _ h]; rfl
  · rw [cell_of_row w g 2 _ _ _ h]; rfl
set_option maxHeartbeats 4000000 in
theorem stepGatesS (o x y l : Int) (w : World) (h : stL o x y l) :
    Calls Try.prog 17 #[.agg #[.int .i64 o, .int .i64 x, .int .i64 y], .int .i64 l] w (fun e w' => ∃ A c, e = .returned (.slice A (sgN o) c) ∧ OFI 41 4 w' w.heap.size A (sgN o) c (sgL o x y l) ∧ Below w.heap.size w w') := by
  have HGV := Lib.hid (sgL_gv h)
  obtain ⟨h1, h2, h3, h4, h5, h6⟩ := h
  have ho : o = 0 ∨ o = 1 ∨ o = 2 ∨ o = 3 := by omega
  clear h1 h2
  rcases ho with rfl | rfl | rfl | rfl
  · obtain ⟨y0, y1, hxy⟩ := h6 (by decide)
    have q : (x == y) = false := by simpa using hxy
    clear h6 hxy
    have hE : OF 41 4 (((((w.alloc (.cells #[.int .i64 0, .int .i64 x, .int .i64 y] 36)).alloc (.cells #[] 41)).alloc (.cells #[.int .i64 1, .int .i64 x, .int .i64 l, .int .i64 0] 41)).alloc (.cells #[.int .i64 1, .int .i64 y, .int .i64 l, .int .i64 0] 41)).alloc (.cells #[.int .i64 2, .int .i64 x, .int .i64 y, .int .i64 l] 41)) w.heap.size (some ⟨w.heap.size + 1, 0, none⟩) 0 0 [] := by
      have h := World.ownsRow_made (base := w.heap.size) (e := 41) (size := 4) (w.alloc (.cells #[.int .i64 0, .int .i64 x, .int .i64 y] 36)) #[] 0 (by simp) (by simp [maxLen]) (by simp)
      rw [World.size_alloc] at h
      exact World.ownsRow.alloc (World.ownsRow.alloc (World.ownsRow.alloc h _) _) _
    have hB0 : Below w.heap.size w (((((w.alloc (.cells #[.int .i64 0, .int .i64 x, .int .i64 y] 36)).alloc (.cells #[] 41)).alloc (.cells #[.int .i64 1, .int .i64 x, .int .i64 l, .int .i64 0] 41)).alloc (.cells #[.int .i64 1, .int .i64 y, .int .i64 l, .int .i64 0] 41)).alloc (.cells #[.int .i64 2, .int .i64 x, .int .i64 y, .int .i64 l] 41)) := ((((((Below.refl _ _).alloc (Nat.le_refl _) _).alloc (by simp) _).alloc (by simp; omega) _).alloc (by simp; omega) _).alloc (by simp; omega) _)
    have hrow0 : (((((w.alloc (.cells #[.int .i64 0, .int .i64 x, .int .i64 y] 36)).alloc (.cells #[] 41)).alloc (.cells #[.int .i64 1, .int .i64 x, .int .i64 l, .int .i64 0] 41)).alloc (.cells #[.int .i64 1, .int .i64 y, .int .i64 l, .int .i64 0] 41)).alloc (.cells #[.int .i64 2, .int .i64 x, .int .i64 y, .int .i64 l] 41)).heap[w.heap.size]? = some (.cells #[.int .i64 0, .int .i64 x, .int .i64 y] 36 (0, 0)) :=
      (Below.heap_alloc _ _ _ (by simp; omega)).trans ((Below.heap_alloc _ _ _ (by simp; omega)).trans ((Below.heap_alloc _ _ _ (by simp; omega)).trans ((Below.heap_alloc _ _ _ (by simp)).trans (World.alloc_heap_new _ _))))
    have HE := Lib.hid hE
    have HR := Lib.hid hrow0
    clear hE hrow0
    go_enter Try.func17, Try.ntmps17
    go_wp2_with (at_builtin; refine wpList_pushG _ _ [2, x, y, l] 1 (by rfl) (by rfl) rfl _ _ rfl w.heap.size _ 0 0 [] rfl _ rfl (by simp) HE.out (by omega) (by simp; omega) ?_; intro A' c' w2 hO hg2)
    simp only [Nat.zero_add, List.nil_append] at hO
    have hB2 : Below w.heap.size w w2 := hB0.grown hg2 (by simp; omega) (fun q e => (HE.out.lt q e).1)
    have hrow2 : w2.heap[w.heap.size]? = some (.cells #[.int .i64 0, .int .i64 x, .int .i64 y] 36 (0, 0)) := (hg2.block _ (by simp; omega) (by simp [Value.ownBlock])).trans HR.out
    obtain ⟨c0, c1, c2⟩ := cells3 hrow2
    have HO := Lib.hid hO
    have HR2 := Lib.hid hrow2
    have hlt2 : w.heap.size < w2.heap.size := (Array.getElem?_eq_some_iff.1 hrow2).1
    clear hg2 hO hrow2 hB0
    go_wp2_with (go_at_call 28; refine (circuitValidS _ 1 _ _ _ HO.out.reads (by omega) HGV.out).mono ?_; rintro e w3 ⟨rfl, hB3⟩; have hrow3 := (hB3.block _ hlt2).trans HR2.out; have HR3 := Lib.hid hrow3; clear hrow3 c0 c1 c2; obtain ⟨c0, c1, c2⟩ := cells3 HR3.out)
    go_ret
    exact ⟨_, _, rfl, (HO.out.below hB3 (Nat.le_refl _)).toI, hB2.trans (hB3.mono hB2.size)⟩
  · obtain ⟨y0, y1, hxy⟩ := h6 (by decide)
    have q : (x == y) = false := by simpa using hxy
    clear h6 hxy
    have hE : OF 41 4 (((((w.alloc (.cells #[.int .i64 1, .int .i64 x, .int .i64 y] 36)).alloc (.cells #[] 41)).alloc (.cells #[.int .i64 1, .int .i64 x, .int .i64 l, .int .i64 0] 41)).alloc (.cells #[.int .i64 1, .int .i64 y, .int .i64 l, .int .i64 0] 41)).alloc (.cells #[.int .i64 2, .int .i64 x, .int .i64 y, .int .i64 l] 41)) w.heap.size (some ⟨w.heap.size + 1, 0, none⟩) 0 0 [] := by
      have h := World.ownsRow_made (base := w.heap.size) (e := 41) (size := 4) (w.alloc (.cells #[.int .i64 1, .int .i64 x, .int .i64 y] 36)) #[] 0 (by simp) (by simp [maxLen]) (by simp)
      rw [World.size_alloc] at h
      exact World.ownsRow.alloc (World.ownsRow.alloc (World.ownsRow.alloc h _) _) _
    have hB0 : Below w.heap.size w (((((w.alloc (.cells #[.int .i64 1, .int .i64 x, .int .i64 y] 36)).alloc (.cells #[] 41)).alloc (.cells #[.int .i64 1, .int .i64 x, .int .i64 l, .int .i64 0] 41)).alloc (.cells #[.int .i64 1, .int .i64 y, .int .i64 l, .int .i64 0] 41)).alloc (.cells #[.int .i64 2, .int .i64 x, .int .i64 y, .int .i64 l] 41)) := ((((((Below.refl _ _).alloc (Nat.le_refl _) _).alloc (by simp) _).alloc (by simp; omega) _).alloc (by simp; omega) _).alloc (by simp; omega) _)
    have hrow0 : (((((w.alloc (.cells #[.int .i64 1, .int .i64 x, .int .i64 y] 36)).alloc (.cells #[] 41)).alloc (.cells #[.int .i64 1, .int .i64 x, .int .i64 l, .int .i64 0] 41)).alloc (.cells #[.int .i64 1, .int .i64 y, .int .i64 l, .int .i64 0] 41)).alloc (.cells #[.int .i64 2, .int .i64 x, .int .i64 y, .int .i64 l] 41)).heap[w.heap.size]? = some (.cells #[.int .i64 1, .int .i64 x, .int .i64 y] 36 (0, 0)) :=
      (Below.heap_alloc _ _ _ (by simp; omega)).trans ((Below.heap_alloc _ _ _ (by simp; omega)).trans ((Below.heap_alloc _ _ _ (by simp; omega)).trans ((Below.heap_alloc _ _ _ (by simp)).trans (World.alloc_heap_new _ _))))
    have HE := Lib.hid hE
    have HR := Lib.hid hrow0
    clear hE hrow0
    go_enter Try.func17, Try.ntmps17
    go_wp2_with (at_builtin; refine wpList_pushG _ _ [1, x, l, 0, 1, y, l, 0, 2, x, y, l] 3 (by rfl) (by rfl) rfl _ _ rfl w.heap.size _ 0 0 [] rfl _ rfl (by simp) HE.out (by omega) (by simp; omega) ?_; intro A' c' w2 hO hg2)
    simp only [Nat.zero_add, List.nil_append] at hO
    have hB2 : Below w.heap.size w w2 := hB0.grown hg2 (by simp; omega) (fun q e => (HE.out.lt q e).1)
    have hrow2 : w2.heap[w.heap.size]? = some (.cells #[.int .i64 1, .int .i64 x, .int .i64 y] 36 (0, 0)) := (hg2.block _ (by simp; omega) (by simp [Value.ownBlock])).trans HR.out
    obtain ⟨c0, c1, c2⟩ := cells3 hrow2
    have HO := Lib.hid hO
    have HR2 := Lib.hid hrow2
    have hlt2 : w.heap.size < w2.heap.size := (Array.getElem?_eq_some_iff.1 hrow2).1
    clear hg2 hO hrow2 hB0
    go_wp2_with (go_at_call 28; refine (circuitValidS _ 3 _ _ _ HO.out.reads (by omega) HGV.out).mono ?_; rintro e w3 ⟨rfl, hB3⟩; have hrow3 := (hB3.block _ hlt2).trans HR2.out; have HR3 := Lib.hid hrow3; clear hrow3 c0 c1 c2; obtain ⟨c0, c1, c2⟩ := cells3 HR3.out)
    go_ret
    exact ⟨_, _, rfl, (HO.out.below hB3 (Nat.le_refl _)).toI, hB2.trans (hB3.mono hB2.size)⟩
  · obtain ⟨y0, y1, hxy⟩ := h6 (by decide)
    have q : (x == y) = false := by simpa using hxy
    clear h6 hxy
    have hE : OF 41 4 (((((w.alloc (.cells #[.int .i64 2, .int .i64 x, .int .i64 y] 36)).alloc (.cells #[] 41)).alloc (.cells #[.int .i64 1, .int .i64 x, .int .i64 l, .int .i64 0] 41)).alloc (.cells #[.int .i64 1, .int .i64 y, .int .i64 l, .int .i64 0] 41)).alloc (.cells #[.int .i64 2, .int .i64 x, .int .i64 y, .int .i64 l] 41)) w.heap.size (some ⟨w.heap.size + 1, 0, none⟩) 0 0 [] := by
      have h := World.ownsRow_made (base := w.heap.size) (e := 41) (size := 4) (w.alloc (.cells #[.int .i64 2, .int .i64 x, .int .i64 y] 36)) #[] 0 (by simp) (by simp [maxLen]) (by simp)
      rw [World.size_alloc] at h
      exact World.ownsRow.alloc (World.ownsRow.alloc (World.ownsRow.alloc h _) _) _
    have hB0 : Below w.heap.size w (((((w.alloc (.cells #[.int .i64 2, .int .i64 x, .int .i64 y] 36)).alloc (.cells #[] 41)).alloc (.cells #[.int .i64 1, .int .i64 x, .int .i64 l, .int .i64 0] 41)).alloc (.cells #[.int .i64 1, .int .i64 y, .int .i64 l, .int .i64 0] 41)).alloc (.cells #[.int .i64 2, .int .i64 x, .int .i64 y, .int .i64 l] 41)) := ((((((Below.refl _ _).alloc (Nat.le_refl _) _).alloc (by simp) _).alloc (by simp; omega) _).alloc (by simp; omega) _).alloc (by simp; omega) _)
    have hrow0 : (((((w.alloc (.cells #[.int .i64 2, .int .i64 x, .int .i64 y] 36)).alloc (.cells #[] 41)).alloc (.cells #[.int .i64 1, .int .i64 x, .int .i64 l, .int .i64 0] 41)).alloc (.cells #[.int .i64 1, .int .i64 y, .int .i64 l, .int .i64 0] 41)).alloc (.cells #[.int .i64 2, .int .i64 x, .int .i64 y, .int .i64 l] 41)).heap[w.heap.size]? = some (.cells #[.int .i64 2, .int .i64 x, .int .i64 y] 36 (0, 0)) :=
      (Below.heap_alloc _ _ _ (by simp; omega)).trans ((Below.heap_alloc _ _ _ (by simp; omega)).trans ((Below.heap_alloc _ _ _ (by simp; omega)).trans ((Below.heap_alloc _ _ _ (by simp)).trans (World.alloc_heap_new _ _))))
    have HE := Lib.hid hE
    have HR := Lib.hid hrow0
    clear hE hrow0
    go_enter Try.func17, Try.ntmps17
    go_wp2_with (at_builtin; refine wpList_pushG _ _ [1, x, l, 0, 1, y, l, 0] 2 (by rfl) (by rfl) rfl _ _ rfl w.heap.size _ 0 0 [] rfl _ rfl (by simp) HE.out (by omega) (by simp; omega) ?_; intro A' c' w2 hO hg2)
    simp only [Nat.zero_add, List.nil_append] at hO
    have hB2 : Below w.heap.size w w2 := hB0.grown hg2 (by simp; omega) (fun q e => (HE.out.lt q e).1)
    have hrow2 : w2.heap[w.heap.size]? = some (.cells #[.int .i64 2, .int .i64 x, .int .i64 y] 36 (0, 0)) := (hg2.block _ (by simp; omega) (by simp [Value.ownBlock])).trans HR.out
    obtain ⟨c0, c1, c2⟩ := cells3 hrow2
    have HO := Lib.hid hO
    have HR2 := Lib.hid hrow2
    have hlt2 : w.heap.size < w2.heap.size := (Array.getElem?_eq_some_iff.1 hrow2).1
    clear hg2 hO hrow2 hB0
    go_wp2_with (go_at_call 28; refine (circuitValidS _ 2 _ _ _ HO.out.reads (by omega) HGV.out).mono ?_; rintro e w3 ⟨rfl, hB3⟩; have hrow3 := (hB3.block _ hlt2).trans HR2.out; have HR3 := Lib.hid hrow3; clear hrow3 c0 c1 c2; obtain ⟨c0, c1, c2⟩ := cells3 HR3.out)
    go_ret
    exact ⟨_, _, rfl, (HO.out.below hB3 (Nat.le_refl _)).toI, hB2.trans (hB3.mono hB2.size)⟩
  · clear h6
    have hE : OF 41 4 (((((w.alloc (.cells #[.int .i64 3, .int .i64 x, .int .i64 y] 36)).alloc (.cells #[] 41)).alloc (.cells #[.int .i64 1, .int .i64 x, .int .i64 l, .int .i64 0] 41)).alloc (.cells #[.int .i64 1, .int .i64 y, .int .i64 l, .int .i64 0] 41)).alloc (.cells #[.int .i64 2, .int .i64 x, .int .i64 y, .int .i64 l] 41)) w.heap.size (some ⟨w.heap.size + 1, 0, none⟩) 0 0 [] := by
      have h := World.ownsRow_made (base := w.heap.size) (e := 41) (size := 4) (w.alloc (.cells #[.int .i64 3, .int .i64 x, .int .i64 y] 36)) #[] 0 (by simp) (by simp [maxLen]) (by simp)
      rw [World.size_alloc] at h
      exact World.ownsRow.alloc (World.ownsRow.alloc (World.ownsRow.alloc h _) _) _
    have hB0 : Below w.heap.size w (((((w.alloc (.cells #[.int .i64 3, .int .i64 x, .int .i64 y] 36)).alloc (.cells #[] 41)).alloc (.cells #[.int .i64 1, .int .i64 x, .int .i64 l, .int .i64 0] 41)).alloc (.cells #[.int .i64 1, .int .i64 y, .int .i64 l, .int .i64 0] 41)).alloc (.cells #[.int .i64 2, .int .i64 x, .int .i64 y, .int .i64 l] 41)) := ((((((Below.refl _ _).alloc (Nat.le_refl _) _).alloc (by simp) _).alloc (by simp; omega) _).alloc (by simp; omega) _).alloc (by simp; omega) _)
    have hrow0 : (((((w.alloc (.cells #[.int .i64 3, .int .i64 x, .int .i64 y] 36)).alloc (.cells #[] 41)).alloc (.cells #[.int .i64 1, .int .i64 x, .int .i64 l, .int .i64 0] 41)).alloc (.cells #[.int .i64 1, .int .i64 y, .int .i64 l, .int .i64 0] 41)).alloc (.cells #[.int .i64 2, .int .i64 x, .int .i64 y, .int .i64 l] 41)).heap[w.heap.size]? = some (.cells #[.int .i64 3, .int .i64 x, .int .i64 y] 36 (0, 0)) :=
      (Below.heap_alloc _ _ _ (by simp; omega)).trans ((Below.heap_alloc _ _ _ (by simp; omega)).trans ((Below.heap_alloc _ _ _ (by simp; omega)).trans ((Below.heap_alloc _ _ _ (by simp)).trans (World.alloc_heap_new _ _))))
    have HE := Lib.hid hE
    have HR := Lib.hid hrow0
    clear hE hrow0
    go_enter Try.func17, Try.ntmps17
    go_wp2_with (at_builtin; refine wpList_pushG _ _ [1, x, l, 0, 0, l, 0, 0] 2 (by rfl) (by rfl) rfl _ _ rfl w.heap.size _ 0 0 [] rfl _ rfl (by simp) HE.out (by omega) (by simp; omega) ?_; intro A' c' w2 hO hg2)
    simp only [Nat.zero_add, List.nil_append] at hO
    have hB2 : Below w.heap.size w w2 := hB0.grown hg2 (by simp; omega) (fun q e => (HE.out.lt q e).1)
    have hrow2 : w2.heap[w.heap.size]? = some (.cells #[.int .i64 3, .int .i64 x, .int .i64 y] 36 (0, 0)) := (hg2.block _ (by simp; omega) (by simp [Value.ownBlock])).trans HR.out
    obtain ⟨c0, c1, c2⟩ := cells3 hrow2
    have HO := Lib.hid hO
    have HR2 := Lib.hid hrow2
    have hlt2 : w.heap.size < w2.heap.size := (Array.getElem?_eq_some_iff.1 hrow2).1
    clear hg2 hO hrow2 hB0
    go_wp2_with (go_at_call 28; refine (circuitValidS _ 2 _ _ _ HO.out.reads (by omega) HGV.out).mono ?_; rintro e w3 ⟨rfl, hB3⟩; have hrow3 := (hB3.block _ hlt2).trans HR2.out; have HR3 := Lib.hid hrow3; clear hrow3 c0 c1 c2; obtain ⟨c0, c1, c2⟩ := cells3 HR3.out)
    go_ret
    exact ⟨_, _, rfl, (HO.out.below hB3 (Nat.le_refl _)).toI, hB2.trans (hB3.mono hB2.size)⟩
end Go.Proofs.Ytkpjlkahebeljaa

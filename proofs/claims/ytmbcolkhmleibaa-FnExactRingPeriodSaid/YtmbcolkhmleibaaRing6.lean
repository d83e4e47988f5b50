/- Contracts: the library's comparison of two slices; runs of rings (the reference); the period of two rings. -/
import Derived.Test.YtmbcolkhmleibaaRing5
namespace Go.Proofs.Ytmbcolkhmleibaa
open Go.RowKit
set_option linter.unusedVariables false

set_option maxHeartbeats 400000 in
theorem sEqual (A B : Option Addr) (m1 m2 : Nat) (xs ys : List Int) (c d : Nat) (w : World) (hx : RI w w.heap.size A m1 xs) (hy : RI w w.heap.size B m2 ys) (hl : m1 ≤ 1125899906842624) (hm : m2 ≤ 1125899906842624) :
    Calls Try.prog 53 #[.slice A m1 c, .slice B m2 d] w fun e w' => e = .returned (.bool (eqL xs ys)) ∧ ∃ n, w' = w.drewN n := by
  obtain rfl := hx.len
  obtain rfl := hy.len
  by_cases hlen : xs.length = ys.length
  · have hne : ((xs.length : Int) != (ys.length : Int)) = false := by simp [hlen]
    have HL := Lib.hid hlen
    clear hlen
    go_enter Try.func53, Try.ntmps53
    go_wp2
    go_loopw [13] (fun i wr => ∃ (k n : Nat), k ≤ xs.length ∧ i = .int .i64 k ∧ wr = w.drewN n ∧ (∀ j, j < k → xs[j]? = ys[j]?)) (fun i _ => xs.length - (intOf i).toNat)
    case atStart => exact ⟨0, 0, Nat.zero_le _, rfl, rfl, fun j hj => absurd hj (by omega)⟩
    case round =>
      obtain ⟨k, n, hk, rfl, rfl, hj⟩ := hrel
      have HJ := Lib.hid hj
      clear hj
      by_cases hlt : k < xs.length
      · obtain ⟨ad, x, rfl, hb, hxx, hc⟩ := hx.at_ hlt
        obtain ⟨bd, y, rfl, hb', hyy, hd⟩ := hy.at_ (k := k) (by rw [← HL.out]; exact hlt)
        have hlt' : k < ys.length := by rw [← HL.out]; exact hlt
        have HX := Lib.hid hxx
        have HY := Lib.hid hyy
        clear hxx hyy
        have hcw : ∀ m, (w.drewN m).cell? (ad.add k) = some (.int .i64 x) := fun _ => hc
        have hdw : ∀ m, (w.drewN m).cell? (bd.add k) = some (.int .i64 y) := fun _ => hd
        by_cases hxy : x = y
        · have hq : (x != y) = false := by simp [hxy]
          have HQ := Lib.hid hxy
          clear hxy
          go_wp2
          go_quiet (fail)
          go_wp2
          go_roundw
          case rel =>
            refine ⟨k + 1, _, by omega, by go_num, rfl, fun j hj => ?_⟩
            by_cases e : j = k
            · rw [e, HX.out, HY.out, HQ.out]
            · exact HJ.out j (by omega)
          case measure => simp [intOf]; omega
        · have hq : (x != y) = true := by simp [hxy]
          have HQ := Lib.hid hxy
          clear hxy
          go_wp2
          go_quiet (fail)
          go_wp2
          go_ret
          refine ⟨ret_bool ?_, n + nq, World.drewN_drewN _ _ _⟩
          symm
          simp only [eqL, decide_eq_false_iff_not]
          intro e
          have := HX.out
          rw [e, HY.out] at this
          exact HQ.out (by simpa using this.symm)
      · obtain rfl : k = xs.length := by omega
        go_wp2
        go_ret
        refine ⟨ret_bool ?_, _, rfl⟩
        symm
        simp only [eqL, decide_eq_true_iff]
        apply List.ext_getElem?
        intro j
        by_cases hj : j < xs.length
        · exact HJ.out j hj
        · rw [List.getElem?_eq_none (by omega), List.getElem?_eq_none (by rw [← HL.out]; omega)]
  · have hne : ((xs.length : Int) != (ys.length : Int)) = true := by simp; omega
    have HL := Lib.hid hlen
    clear hlen
    go_enter Try.func53, Try.ntmps53
    go_wp2
    go_ret
    refine ⟨ret_bool ?_, 0, rfl⟩
    symm
    simp only [eqL, decide_eq_false_iff_not]
    intro e
    exact HL.out (by rw [e])
/-- two new slices -/
def GivesII (w : World) (xs ys : List Int) (e : Ending) (w' : World) : Prop := ∃ A n c B m d, e = .returned (.tuple #[.slice A n c, .slice B m d]) ∧ OI w' w.heap.size A n c xs ∧ OI w' w.heap.size B m d ys ∧ Below w.heap.size w w'
set_option maxHeartbeats 2000000 in
theorem ringRunS (rule : Int) (A : Option Addr) (n : Nat) (xs : List Int) (c : Nat) (B : Option Addr) (m : Nat) (ys : List Int) (d : Nat) (s : Nat) (w : World) (hr : RI w w.heap.size A n xs) (hl : n ≤ 1048576) (hr' : RI w w.heap.size B m ys) (hl' : m ≤ 1048576) (hs1 : 1 ≤ s) (hs99 : s ≤ 99) :
    Calls Try.prog 51 #[.int .i64 rule, .slice A n c, .slice B m d, .int .i64 (s : Int)] w (GivesII w (if (inB rule 0 255 && pairB xs ys) = true then (itR rule xs ys s).1 else []) (if (inB rule 0 255 && pairB xs ys) = true then (itR rule xs ys s).2 else [])) := by
  have hss : inB (s : Int) (-99) 99 = true := inB_t (by omega) (by omega)
  cases hu : inB rule 0 255 <;> cases hp : pairB xs ys
  case true.true =>
    rw [if_pos (by rfl), if_pos (by rfl)]
    obtain ⟨hv0, hv1, hle⟩ := pair_iff.1 hp
    have hnx := rv_len hv0
    have hxl := hr.len
    have hn3 : 3 ≤ n ∧ n ≤ 12 := by omega
    obtain ⟨hn0, hn1⟩ := hn3
    obtain rfl : n = m := by rw [← hr.len, ← hr'.len]; exact hle
    have hla : (raL xs ys).length = n := by
      rw [raL, if_pos hp, sum_len hle, hxl]
    have hI := it_pair hu hp
    have HI := Lib.hid hI
    have HXL := Lib.hid hxl
    have HLA := Lib.hid hla
    clear hI hxl hnx hle hv0 hv1 hla
    go_enter Try.func51, Try.ntmps51
    go_wp2_with fail
    refine (ringAddS A n xs _ B n ys _ w hr hl hr' hl').mono ?_
    rintro e w1 ⟨A1, n1, c1, rfl, hO1, hB1⟩
    obtain rfl : n = n1 := by rw [← HLA.out, hO1.len]
    have hz : ((n : Int) == 0) = false := by simp; omega
    clear hO1
    have hs1' := hB1.size
    have hBE : Below w.heap.size w (w1.alloc (.cells #[] 3)) := hB1.alloc hB1.size _
    have hr1 : RI (w1.alloc (.cells #[] 3)) (w1.alloc (.cells #[] 3)).heap.size A n xs := hr.up (Nat.le_refl _) hBE (Nat.le_refl _)
    have HE := Lib.hid (OS.empty w1)
    go_wp2_with (first | (go_at_call 35; refine (l1In _ _ _ _).mono ?_; rintro e w' ⟨rfl, rfl⟩) | (at_builtin; refine wpList_pushAll _ rfl _ _ rfl w1.heap.size _ 0 0 [] rfl _ A n c xs rfl HE.out hr1 (by omega) (by simp) ?_; intro A2 c2 w2 hO2 hg2; have hB2 := hBE.grown hg2 (by simp; omega) (fun k e => (by have := (HE.out.lt k e).1; omega)); have hBE2 : Below w.heap.size w (w2.alloc (.cells #[] 3)) := hB2.alloc hB2.size _; have hr2 : RI (w2.alloc (.cells #[] 3)) (w2.alloc (.cells #[] 3)).heap.size B n ys := hr'.up (Nat.le_refl _) hBE2 (Nat.le_refl _); have HE2 := Lib.hid (OS.empty w2); have HLT := Lib.hid hO2.lt; have HO2 := Lib.hid (hO2.alloc (.cells #[] 3)); have hs2 := hB2.size; clear hO2 hg2 hBE hr1) | (at_builtin; refine wpList_pushAll _ rfl _ _ rfl w2.heap.size _ 0 0 [] rfl _ B n d ys rfl HE2.out hr2 (by omega) (by simp) ?_; intro A3 c3 w3 hO3 hg3; have hB3 := hBE2.grown hg3 (by simp; omega) (fun k e => (by have := (HE2.out.lt k e).1; omega)); have HO3 := Lib.hid hO3; have HO4 := Lib.hid (HO2.out.sepV hg3 (fun j k hj hk => (by have h1 := (HLT.out j hj).2; have h2 : k = w2.heap.size := (by simp [Value.ownBlock] at hk; omega); omega))); clear hO3 hr2))
    have HX := Lib.hid (show OI w3 w.heap.size A2 n c2 xs by simpa using HO4.out.toI.mono hs1')
    have HY := Lib.hid (show OI w3 w.heap.size A3 n c3 ys by simpa using HO3.out.toI.mono hs2)
    clear HO4 HO3 HE HE2 HO2 HLT hB2 hBE2
    go_loopw [10, 11, 12] (fun va vb i wr => ∃ (k : Nat) (A' : Option Addr) (c' : Nat) (B' : Option Addr) (d' : Nat), k ≤ s ∧ i = .int .i64 k ∧ va = .slice A' n c' ∧ vb = .slice B' n d' ∧ OI wr w.heap.size A' n c' (itR rule xs ys k).1 ∧ OI wr w.heap.size B' n d' (itR rule xs ys k).2 ∧ Below w.heap.size w wr)
      (fun _ _ i _ => s - (intOf i).toNat)
    case atStart => exact ⟨0, _, _, _, _, by omega, rfl, rfl, rfl, HX.out, HY.out, hB3⟩
    case round =>
      obtain ⟨k, A', c', B', d', hk, rfl, rfl, rfl, hX, hY, hB⟩ := hrel
      have HX' := Lib.hid hX
      have HY' := Lib.hid hY
      have hs := hB.size
      clear hX hY HX HY hB3
      by_cases hlt : k < s
      · go_wp2_with fail
        refine (ringNextS rule A' n _ _ B' n _ _ _ HX'.out.reads (by omega) HY'.out.reads (by omega)).mono ?_
        rintro e w4 ⟨A4, n4, c4, rfl, hO4, hB4⟩
        have hn4 : n4 = n := by
          have h1 := (HI.out (k + 1)).1
          have h2 := (HI.out (k + 1)).2
          have h3 := (pair_iff.1 h1).2.2
          have h4 : (rnL rule (itR rule xs ys k).1 (itR rule xs ys k).2).length = n4 := hO4.len
          have h5 : (itR rule xs ys (k + 1)).2 = rnL rule (itR rule xs ys k).1 (itR rule xs ys k).2 := rfl
          rw [← h4, ← h5, ← h3, h2, HXL.out]
        subst hn4
        have HO4 := Lib.hid (hO4.mono hs)
        have HY4 := Lib.hid (HY'.out.below hB4 (Nat.le_refl _))
        clear hO4
        go_wp2
        go_roundw
        case rel => exact ⟨k + 1, _, _, _, _, by omega, by go_num, rfl, rfl, HY4.out, HO4.out, hB.trans (hB4.mono hs)⟩
        case measure => simp [intOf]; omega
      · obtain rfl : k = s := by omega
        go_wp2
        refine wp_loop_rounds 1 ?_
        rw [rounds_succ]
        go_wp2
        go_ret2
        exact ⟨_, _, _, _, _, _, rfl, HX'.out, HY'.out, hB⟩
  all_goals
    rw [if_neg (by simp), if_neg (by simp)]
    go_enter Try.func51, Try.ntmps51
    go_wp2_with fail
    refine (ringAddS A n xs _ B m ys _ w hr hl hr' hl').mono ?_
    rintro e w1 ⟨A1, n1, c1, rfl, hO1, hB1⟩
    have hla := ra_len xs ys
    have hpa : pairB xs ys = false → n1 = 0 := fun h => by have h1 := hO1.len; rw [raL, h] at h1; exact h1.symm
    have HPA := Lib.hid hpa
    have hn1 : n1 ≤ 12 := by rw [← hO1.len]; exact hla
    have hE1 := Lib.hid (OS.empty w1).toI
    have hE2 := Lib.hid (OS.empty (w1.alloc (.cells #[] 3))).toI
    have hB3 : Below w.heap.size w ((w1.alloc (.cells #[] 3)).alloc (.cells #[] 3)) := (hB1.alloc hB1.size _).alloc (by simp; have := hB1.size; omega) _
    have hs1' := hB1.size
    clear hO1 hpa
    by_cases h0 : n1 = 0
    · subst h0
      go_wp2
      go_ret2
      exact ⟨_, _, _, _, _, _, rfl, (hE1.out.alloc _).mono hs1', by simpa using hE2.out.mono (by simp; omega), hB3⟩
    · have hz : ((n1 : Int) == 0) = false := by simp; omega
      first
        | exact absurd (HPA.out hp) h0
        | (clear h0
           go_wp2_with (go_at_call 35; refine (l1In _ _ _ _).mono ?_; rintro e w' ⟨rfl, rfl⟩)
           go_ret2
           exact ⟨_, _, _, _, _, _, rfl, (hE1.out.alloc _).mono hs1', by simpa using hE2.out.mono (by simp; omega), hB3⟩)
end Go.Proofs.Ytmbcolkhmleibaa

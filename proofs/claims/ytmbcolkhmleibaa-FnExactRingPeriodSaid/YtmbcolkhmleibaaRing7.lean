/- Contracts: the period of two rings. -/
import Derived.Test.YtmbcolkhmleibaaRing6
import Derived.Deep.QuietTactic
import Derived.BigQuiet
namespace Go.Proofs.Ytmbcolkhmleibaa
open Go.RowKit
set_option linter.unusedVariables false

/-- an integer is returned; nothing that lay has turned -/
def IntPostR (w : World) (x : Int) (e : Ending) (w' : World) : Prop := e = .returned (.int .i64 x) ∧ Below w.heap.size w w'
/-- the first j cells are the same -/
def smB (P Q xs ys : List Int) (j : Nat) : Bool := decide (P.take j = xs.take j ∧ Q.take j = ys.take j)
theorem sm_zero (P Q xs ys : List Int) : smB P Q xs ys 0 = true := by simp [smB]
theorem take_eq_succ {a b : List Int} {j : Nat} {x y : Int} (hx : a[j]? = some x) (hy : b[j]? = some y) : a.take (j + 1) = b.take (j + 1) ↔ a.take j = b.take j ∧ x = y := by
  have ha := (List.getElem?_eq_some_iff.1 hx).1
  have hb := (List.getElem?_eq_some_iff.1 hy).1
  rw [List.take_add_one, List.take_add_one, hx, hy]
  constructor
  · intro h
    have := List.append_inj h (by simp; omega)
    exact ⟨this.1, by simpa using this.2⟩
  · rintro ⟨h1, h2⟩
    rw [h1, h2]
theorem sm_succ {P Q xs ys : List Int} {j : Nat} {p x q y : Int} (hp : P[j]? = some p) (hx : xs[j]? = some x) (hq : Q[j]? = some q) (hy : ys[j]? = some y) : smB P Q xs ys (j + 1) = (smB P Q xs ys j && (p == x) && (q == y)) := by
  unfold smB
  rw [Bool.eq_iff_iff]
  simp only [decide_eq_true_eq, Bool.and_eq_true, take_eq_succ hp hx, take_eq_succ hq hy, beq_iff_eq]
  constructor
  · rintro ⟨⟨a, b⟩, c, d⟩; exact ⟨⟨⟨a, c⟩, b⟩, d⟩
  · rintro ⟨⟨⟨a, c⟩, b⟩, d⟩; exact ⟨⟨a, b⟩, c, d⟩
theorem sm_end {P Q xs ys : List Int} {n : Nat} (h1 : P.length = n) (h2 : xs.length = n) (h3 : Q.length = n) (h4 : ys.length = n) : smB P Q xs ys n = true ↔ (P = xs ∧ Q = ys) := by
  unfold smB
  rw [decide_eq_true_eq, List.take_of_length_le (by omega), List.take_of_length_le (by omega), List.take_of_length_le (by omega), List.take_of_length_le (by omega)]
theorem per_yes {rule : Int} {a b : List Int} {f k : Nat} (h : (itR rule a b (k + 1)).1 = a ∧ (itR rule a b (k + 1)).2 = b) : perF rule a b (f + 1) k = ((k + 1 : Nat) : Int) := by simp only [perF]; rw [if_pos h]
theorem per_no {rule : Int} {a b : List Int} {f k : Nat} (h : ¬ ((itR rule a b (k + 1)).1 = a ∧ (itR rule a b (k + 1)).2 = b)) : perF rule a b (f + 1) k = perF rule a b f (k + 1) := by simp only [perF]; rw [if_neg h]
set_option maxHeartbeats 4000000 in
theorem ringPeriodS (rule : Int) (A : Option Addr) (n : Nat) (xs : List Int) (c : Nat) (B : Option Addr) (m : Nat) (ys : List Int) (d : Nat) (w : World) (hr : RI w w.heap.size A n xs) (hl : n ≤ 1048576) (hr' : RI w w.heap.size B m ys) (hl' : m ≤ 1048576) :
    Calls Try.prog 32 #[.int .i64 rule, .slice A n c, .slice B m d] w (IntPostR w (perI rule xs ys)) := by
  cases hok : (inB rule 0 255 && pairB xs ys)
  · have hv : perI rule xs ys = -1 := by rw [perI, if_neg (by rw [hok]; decide)]
    rw [hv]
    clear hv
    have hR := ringRunS rule A n xs c B m ys d 1 w hr hl hr' hl' (by omega) (by omega)
    rw [if_neg (by rw [hok]; decide), if_neg (by rw [hok]; decide)] at hR
    have HR := Lib.hid hR
    clear hR
    go_enter Try.func32, Try.ntmps32
    go_wp2
    refine wp_loop_rounds 1 ?_
    rw [rounds_succ]
    go_wp2_with fail
    refine HR.out.mono ?_
    rintro e w1 ⟨A1, n1, c1, B1, m1, d1, rfl, hO1, hO2, hB1⟩
    obtain rfl : n1 = 0 := by have := hO1.len; exact this.symm
    go_wp2
    go_ret
    exact ⟨rfl, hB1⟩
  · have hok' := hok
    simp only [Bool.and_eq_true] at hok'
    obtain ⟨hu, hp⟩ := hok'
    have hv : perI rule xs ys = perF rule xs ys (99 - 0) 0 := by rw [perI, if_pos hok]
    obtain ⟨hv0, hv1, hle⟩ := pair_iff.1 hp
    have hnx := rv_len hv0
    have hxl := hr.len
    have hn3 : 3 ≤ n ∧ n ≤ 12 := by omega
    obtain ⟨hn0, hn1⟩ := hn3
    obtain rfl : n = m := by rw [← hr.len, ← hr'.len]; exact hle
    have HI := Lib.hid (it_pair hu hp)
    have HXL := Lib.hid hxl
    have HYL := Lib.hid hr'.len
    have HV := Lib.hid hv
    have HOK := Lib.hid hok
    clear hxl hnx hle hv0 hv1 hv hu hp hok
    go_enter Try.func32, Try.ntmps32
    go_wp2
    go_loopw [7] (fun i wr => ∃ k : Nat, k ≤ 99 ∧ i = .int .i64 ((k : Int) + 1) ∧ Hid (perI rule xs ys = perF rule xs ys (99 - k) k) ∧ Below w.heap.size w wr) (fun i _ => 100 - (intOf i).toNat)
    case atStart => exact ⟨0, by omega, rfl, HV.out, Below.refl _ _⟩
    case round =>
      obtain ⟨k, hk, rfl, hper, hB⟩ := hrel
      have hs := hB.size
      have hr1 : RI wr wr.heap.size A n xs := hr.up (Nat.le_refl _) hB (Nat.le_refl _)
      have hr2 : RI wr wr.heap.size B n ys := hr'.up (Nat.le_refl _) hB (Nat.le_refl _)
      by_cases hlt : k < 99
      · have hR := ringRunS rule A n xs c B n ys d (k + 1) wr hr1 hl hr2 hl' (by omega) (by omega)
        rw [if_pos HOK.out, if_pos HOK.out] at hR
        have hI := HI.out (k + 1)
        have hl1 : (itR rule xs ys (k + 1)).1.length = n := by rw [hI.2, HXL.out]
        have hl2 : (itR rule xs ys (k + 1)).2.length = n := by rw [← (pair_iff.1 hI.1).2.2, hl1]
        have hpy : ((itR rule xs ys (k + 1)).1 = xs ∧ (itR rule xs ys (k + 1)).2 = ys) → perI rule xs ys = ((k + 1 : Nat) : Int) := fun h => by
          have := hper.out; rw [show 99 - k = (98 - k) + 1 from by omega, per_yes h] at this; exact this
        have hpn : ¬ ((itR rule xs ys (k + 1)).1 = xs ∧ (itR rule xs ys (k + 1)).2 = ys) → perI rule xs ys = perF rule xs ys (99 - (k + 1)) (k + 1) := fun h => by
          have := hper.out; rw [show 99 - k = (98 - k) + 1 from by omega, per_no h] at this; rw [this]; congr 1; omega
        obtain ⟨P, hP⟩ : ∃ P, (itR rule xs ys (k + 1)).1 = P := ⟨_, rfl⟩
        obtain ⟨Q, hQ⟩ : ∃ Q, (itR rule xs ys (k + 1)).2 = Q := ⟨_, rfl⟩
        rw [hP] at hR hl1 hpy hpn
        rw [hQ] at hR hl2 hpy hpn
        rw [show ((k + 1 : Nat) : Int) = (k : Int) + 1 from by push_cast; rfl] at hR
        have HR := Lib.hid hR
        have HPY := Lib.hid hpy
        have HPN := Lib.hid hpn
        have HL1 := Lib.hid hl1
        have HL2 := Lib.hid hl2
        clear hR hI hpy hpn hP hQ hper hl1 hl2
        go_wp2_with fail
        refine HR.out.mono ?_
        rintro e w1 ⟨A1, n1, c1, B1, m1, d1, rfl, hO1, hO2, hB1⟩
        obtain rfl : n = n1 := by rw [← hO1.len, HL1.out]
        obtain rfl : n = m1 := by rw [← hO2.len, HL2.out]
        have hz : ((n : Int) == 0) = false := by simp; omega
        have hB2 := hB.trans (hB1.mono hs)
        have q1 : RI w1 w1.heap.size A n xs := hr.up (Nat.le_refl _) hB2 (Nat.le_refl _)
        have q2 : RI w1 w1.heap.size B n ys := hr'.up (Nat.le_refl _) hB2 (Nat.le_refl _)
        have q3 := hO1.reads
        have q4 := hO2.reads
        clear hO1 hO2 hr1 hr2
        go_wp2
        go_loopw [10, 11] (fun s i wx => ∃ j nd : Nat, j ≤ n ∧ i = .int .i64 j ∧ s = .bool (smB P Q xs ys j) ∧ wx = w1.drewN nd) (fun _ i _ => n - (intOf i).toNat)
        case atStart => exact ⟨0, 0, by omega, rfl, by rw [sm_zero], rfl⟩
        case round =>
          obtain ⟨j, nd, hj, rfl, rfl, rfl⟩ := hrel
          by_cases hlj : j < n
          · obtain ⟨ad1, p, rfl, _, hp, hcp⟩ := q3.at_ hlj
            obtain ⟨ad2, x, rfl, _, hx, hcx⟩ := q1.at_ hlj
            obtain ⟨ad3, q, rfl, _, hq, hcq⟩ := q4.at_ hlj
            obtain ⟨ad4, y, rfl, _, hy, hcy⟩ := q2.at_ hlj
            have HSM := Lib.hid (sm_succ hp hx hq hy)
            have e1 : ∀ nq, (w1.drewN nq).cell? (ad1.add j) = some (.int .i64 p) := fun _ => hcp
            have e2 : ∀ nq, (w1.drewN nq).cell? (ad2.add j) = some (.int .i64 x) := fun _ => hcx
            have e3 : ∀ nq, (w1.drewN nq).cell? (ad3.add j) = some (.int .i64 q) := fun _ => hcq
            have e4 : ∀ nq, (w1.drewN nq).cell? (ad4.add j) = some (.int .i64 y) := fun _ => hcy
            have hj0 : (0 : Int) ≤ (j : Int) := by omega
            have hjn : (j : Int) < (n : Int) := by omega
            clear hp hx hq hy hcp hcx hcq hcy
            cases hsm : smB P Q xs ys j <;> cases hpx : (p == x) <;> cases hqy : (q == y)
            all_goals
              have HS := Lib.hid HSM.out
              rw [hsm, hpx, hqy] at HSM
              clear hsm
              go_wp2
              go_quiet (fail)
              go_wp2
              go_roundw
              case rel => exact ⟨j + 1, _, by omega, by go_num, by rw [HSM.out]; rfl, rfl⟩
              case measure => simp [intOf]; omega
          · obtain rfl : j = n := by omega
            have hend := sm_end (P := P) (Q := Q) (xs := xs) (ys := ys) HL1.out HXL.out HL2.out HYL.out
            have hb2 := below_drewN hB2 nd
            cases hsm : smB P Q xs ys j
            · rw [hsm] at hend
              have hne : ¬ (P = xs ∧ Q = ys) := fun h => by have := hend.2 h; cases this
              have HN := Lib.hid (HPN.out hne)
              clear hend hne hsm
              go_wp2
              go_roundw
              case rel => exact ⟨k + 1, by omega, by congr 1, HN.out, hb2⟩
              case measure => simp [intOf]; omega
            · rw [hsm] at hend
              have HY := Lib.hid (HPY.out (hend.1 rfl))
              clear hend hsm
              go_wp2
              go_ret
              exact ⟨ret_int (by rw [HY.out]; push_cast; rfl), hb2⟩
      · obtain rfl : k = 99 := by omega
        go_wp2
        go_ret
        exact ⟨ret_int (by have := hper.out; rw [this]; rfl), hB⟩
end Go.Proofs.Ytmbcolkhmleibaa

/- MovesRun: the plain run of moves, contracts, and the walks of the laws on moves. -/
import Derived.Test.YtmppiifkajmbgaaInts
import Derived.Test.YtmppiifkajmbgaaBack
import Derived.Test.YtmppiifkajmbgaaPlPeb
import Derived.Test.YtmppiifkajmbgaaPeb
namespace Go.Proofs.Ytmppiifkajmbgaa
open Go.RowKit
set_option linter.unusedVariables false

/-- the set behind moves and the greatest number of pebbles, from a set with m so far -/
def runI (p : Int) : Int → Int → List Int → Int × Int
  | s, m, [] => (s, m)
  | s, m, k :: r => if mdI p s k < 0 then (-1, -1) else runI p (mdI p s k) (if m < pebI p (mdI p s k) then pebI p (mdI p s k) else m) r
def mrI (p s : Int) (zs : List Int) : Int × Int := if pvB p s = true then runI p s (pebI p s) zs else (-1, -1)

theorem run_step {p s m : Int} {zs : List Int} {k : Nat} {x : Int} (h : zs[k]? = some x) : runI p s m (zs.drop k) = if mdI p s x < 0 then (-1, -1) else runI p (mdI p s x) (if m < pebI p (mdI p s x) then pebI p (mdI p s x) else m) (zs.drop (k + 1)) := by
  rw [drop_pred zs k x h]; rfl
theorem md_nn {p s k : Int} (h : ¬ mdI p s k < 0) : pvB p (mdI p s k) = true := by
  by_cases hm : mmB p s k = true
  · exact (md_yes hm).1
  · rw [md_no hm] at h; omega

/-! ### the plain law of runs -/
theorem runI_nil (p s m : Int) : runI p s m [] = (s, m) := rfl
theorem runI_cons (p s m k : Int) (r : List Int) : runI p s m (k :: r) = if mdI p s k < 0 then (-1, -1) else runI p (mdI p s k) (if m < pebI p (mdI p s k) then pebI p (mdI p s k) else m) r := rfl
theorem mrI_yes {p s : Int} {zs : List Int} (h : pvB p s = true) : mrI p s zs = runI p s (pebI p s) zs := by rw [mrI, if_pos h]
theorem run_max {p : Int} (zs : List Int) : ∀ {s m : Int}, pvB p s = true → pebI p s ≤ m →
    runI p s m zs = if (mrI p s zs).1 < 0 then (-1, -1) else ((mrI p s zs).1, max m (mrI p s zs).2) := by
  induction zs with
  | nil =>
    intro s m hv hm
    have := pvB_bd hv
    rw [mrI_yes hv, runI_nil, runI_nil, if_neg (by simp only; omega)]
    simp only
    congr 1
    omega
  | cons k r ih =>
    intro s m hv hm
    rw [mrI_yes hv, runI_cons, runI_cons]
    by_cases hn : mdI p s k < 0
    · rw [if_pos hn, if_pos hn]; rfl
    · have hv1 := md_nn hn
      rw [if_neg hn, if_neg hn, ih hv1 (by split <;> omega), ih (m := if pebI p s < pebI p (mdI p s k) then pebI p (mdI p s k) else pebI p s) hv1 (by split <;> omega)]
      by_cases hx : (mrI p (mdI p s k) r).1 < 0
      · rw [if_pos hx, if_pos hx]; rfl
      · rw [if_neg hx, if_neg hx]
        simp only
        rw [if_neg hx]
        congr 1
        split <;> split <;> omega
theorem run_app {p : Int} (b : List Int) (a : List Int) : ∀ {s m : Int}, pvB p s = true → runI p s m (a ++ b) = if (runI p s m a).1 < 0 then (-1, -1) else runI p (runI p s m a).1 (runI p s m a).2 b := by
  induction a with
  | nil =>
    intro s m hv
    have := pvB_bd hv
    rw [List.nil_append, runI_nil, if_neg (by simp only; omega)]
  | cons k r ih =>
    intro s m hv
    rw [List.cons_append, runI_cons, runI_cons]
    by_cases hn : mdI p s k < 0
    · rw [if_pos hn, if_pos hn]; rfl
    · rw [if_neg hn, if_neg hn, ih (md_nn hn)]
/-- a run that goes through ends in a valid set, whose pebbles are counted -/
theorem run_end {p : Int} (zs : List Int) : ∀ {s m : Int}, pvB p s = true → pebI p s ≤ m → ¬ (runI p s m zs).1 < 0 → pvB p (runI p s m zs).1 = true ∧ pebI p (runI p s m zs).1 ≤ (runI p s m zs).2 := by
  induction zs with
  | nil => intro s m hv hm _; exact ⟨hv, hm⟩
  | cons k r ih =>
    intro s m hv hm
    rw [runI_cons]
    by_cases hn : mdI p s k < 0
    · rw [if_pos hn]; intro h; exact absurd (by decide) h
    · rw [if_neg hn]; intro h; exact ih (md_nn hn) (by split <;> omega) h
theorem mr_app {p s : Int} {a b : List Int} (hx : ¬ (mrI p s (a ++ b)).1 < 0) : ¬ (mrI p s a).1 < 0 ∧ pvB p (mrI p s a).1 = true ∧ pebI p (mrI p s a).1 ≤ (mrI p s a).2 ∧
    (mrI p (mrI p s a).1 b).1 = (mrI p s (a ++ b)).1 ∧ max (mrI p s a).2 (mrI p (mrI p s a).1 b).2 = (mrI p s (a ++ b)).2 := by
  by_cases hv : pvB p s = true
  · have e0 := mrI_yes (zs := a ++ b) hv
    rw [run_app b a hv, ← mrI_yes hv] at e0
    by_cases hn : (mrI p s a).1 < 0
    · rw [if_pos hn] at e0; rw [e0] at hx; exact absurd (by decide) hx
    · rw [if_neg hn] at e0
      have he := run_end a hv (Int.le_refl _) (by rw [← mrI_yes hv]; exact hn)
      rw [← mrI_yes hv] at he
      have e1 := run_max b he.1 he.2
      rw [e1] at e0
      by_cases hb : (mrI p (mrI p s a).1 b).1 < 0
      · rw [if_pos hb] at e0; rw [e0] at hx; exact absurd (by decide) hx
      · rw [if_neg hb] at e0
        rw [e0]
        exact ⟨hn, he.1, he.2, rfl, rfl⟩
  · rw [mrI, if_neg hv] at hx; exact absurd (by decide) hx
theorem mr_one {p x k : Int} (hv : pvB p x = true) (hn : ¬ mdI p x k < 0) : mrI p x [k] = (mdI p x k, max (pebI p x) (pebI p (mdI p x k))) := by
  rw [mrI_yes hv, runI_cons, if_neg hn]
  simp only [runI]
  congr 1
  split <;> omega
/-- backwards the moves lead back, over the same sets -/
theorem mr_back {p : Int} (zs : List Int) : ∀ {s : Int}, ¬ (mrI p s zs).1 < 0 → mrI p (mrI p s zs).1 zs.reverse = (s, (mrI p s zs).2) := by
  induction zs with
  | nil =>
    intro s hx
    by_cases hv : pvB p s = true
    · rw [mrI_yes hv]
      simp only [runI, List.reverse_nil]
      rw [mrI_yes hv]; rfl
    · rw [mrI, if_neg hv] at hx; exact absurd (by decide) hx
  | cons k r ih =>
    intro s hx
    by_cases hv : pvB p s = true
    · have hv' := hv
      obtain ⟨h1, h2, h3, h4, h5⟩ := mr_app (a := [k]) (b := r) hx
      have hn : ¬ mdI p s k < 0 := by
        intro hn
        rw [mrI_yes hv, runI_cons, if_pos hn] at h1
        exact absurd (by decide) h1
      have e1 := mr_one hv hn
      rw [e1] at h2 h3 h4 h5
      simp only at h2 h3 h4 h5
      have hm : mmB p s k = true := by
        cases hb : mmB p s k with
        | true => rfl
        | false => rw [md_no (by simp [hb])] at hn; omega
      obtain ⟨m1, m2, m3, m4, m5⟩ := md_yes hm
      have hr : ¬ (mrI p (mdI p s k) r).1 < 0 := by rw [h4]; exact hx
      have hi := ih hr
      show mrI p (mrI p s ([k] ++ r)).1 (k :: r).reverse = (s, (mrI p s ([k] ++ r)).2)
      rw [← h4, ← h5, List.reverse_cons]
      have hvx : pvB p (mrI p (mdI p s k) r).1 = true := by
        have := run_end r h2 (Int.le_refl _) (by rw [← mrI_yes h2]; exact hr)
        rw [← mrI_yes h2] at this; exact this.1
      rw [mrI_yes hvx, run_app _ _ hvx, ← mrI_yes hvx, hi]
      simp only
      have h0 := pvB_bd h2
      have hs0 := pvB_bd hv
      rw [if_neg (by omega)]
      rw [runI_cons, m3, if_neg (by omega)]
      simp only [runI]
      congr 1
      have hge : pebI p (mdI p s k) ≤ (mrI p (mdI p s k) r).2 := by
        have := run_max r h2 (Int.le_refl _)
        rw [← mrI_yes h2, if_neg hr] at this
        have := congrArg Prod.snd this
        simp only at this
        omega
      split <;> omega
    · rw [mrI, if_neg hv] at hx; exact absurd (by decide) hx
theorem mr_neg {p s : Int} {zs : List Int} (h : (mrI p s zs).1 < 0) : mrI p s zs = (-1, -1) := by
  by_cases hv : pvB p s = true
  · have := run_max zs hv (Int.le_refl _)
    rw [← mrI_yes hv, if_pos h] at this
    exact this
  · rw [mrI, if_neg hv]

set_option maxHeartbeats 1000000 in
theorem movesRun (p s : Int) (A : Option Addr) (n : Nat) (zs : List Int) (c : Nat) (w : World) (hr : RI w w.heap.size A n zs) (hl : n ≤ 1048576) :
    Calls Try.prog 25 #[.int .i64 p, .int .i64 s, .slice A n c] w fun e w' => e = .returned (.tuple #[.int .i64 (mrI p s zs).1, .int .i64 (mrI p s zs).2]) ∧ w = w' := by
  have hln := hr.len
  have HLN := Lib.hid hln
  clear hln
  by_cases hv : pvB p s = true
  · obtain ⟨hp0, hp1⟩ := pebI_bd hv
    obtain ⟨h1, h2, h3, h4⟩ := pvB_bd hv
    have hm : mrI p s zs = runI p s (pebI p s) zs := by rw [mrI, if_pos hv]
    have HM := Lib.hid hm
    have HV := Lib.hid hv
    clear hm hv
    go_enter Try.func25, Try.ntmps25
    go_wp2_with (go_at_call 34; refine (pebblesOn _ _ _).mono ?_; rintro e w' ⟨rfl, rfl⟩)
    go_loop [1, 8, 18] (fun t q i => ∃ (k : Nat) (s' m : Int), k ≤ n ∧ i = .int .i64 k ∧ t = .int .i64 s' ∧ q = .int .i64 m ∧ runI p s (pebI p s) zs = runI p s' m (zs.drop k)) (fun _ _ i => n - (intOf i).toNat)
    case atStart => exact ⟨0, s, pebI p s, Nat.zero_le _, rfl, rfl, rfl, rfl⟩
    case round =>
      obtain ⟨k, s', m, hk, rfl, rfl, rfl, hrun⟩ := hrel
      have HRUN := Lib.hid hrun
      clear hrun
      by_cases hlt : k < n
      · obtain ⟨ad, x, rfl, hb, hx, hc⟩ := hr.at_ hlt
        have hst := run_step (p := p) (s := s') (m := m) hx
        have HST := Lib.hid hst
        clear hst hx
        by_cases hneg : mdI p s' x < 0
        · go_wp2_with (first | (go_at_call 34; refine (pebblesOn _ _ _).mono ?_; rintro e w' ⟨rfl, rfl⟩) | (go_at_call 51; refine (moveDo _ _ _ _).mono ?_; rintro e w' ⟨rfl, rfl⟩))
          go_ret2
          have e1 : mrI p s zs = (-1, -1) := by rw [HM.out, HRUN.out, HST.out, if_pos hneg]
          exact ⟨by rw [e1]; rfl, rfl⟩
        · go_wp2_with (first | (go_at_call 34; refine (pebblesOn _ _ _).mono ?_; rintro e w' ⟨rfl, rfl⟩) | (go_at_call 51; refine (moveDo _ _ _ _).mono ?_; rintro e w' ⟨rfl, rfl⟩))
          go_round
          case rel => exact ⟨k + 1, _, _, by omega, by go_num, rfl, rfl, by rw [HRUN.out, HST.out, if_neg (show ¬ mdI p s' x < 0 by omega)]⟩
          case measure => simp [intOf]; omega
      · obtain rfl : k = n := by omega
        go_wp2
        go_ret2
        have e1 : mrI p s zs = (s', m) := by rw [HM.out, HRUN.out, List.drop_of_length_le (by rw [HLN.out]; exact Nat.le_refl _)]; rfl
        exact ⟨by rw [e1]; rfl, rfl⟩
  · have hp := pebI_no hv
    have e1 : mrI p s zs = (-1, -1) := by rw [mrI, if_neg hv]
    have HE := Lib.hid e1
    clear hv e1
    go_enter Try.func25, Try.ntmps25
    go_wp2_with (go_at_call 34; refine (pebblesOn _ _ _).mono ?_; rintro e w' ⟨rfl, rfl⟩)
    go_ret2
    exact ⟨by rw [HE.out]; rfl, rfl⟩
end Go.Proofs.Ytmppiifkajmbgaa

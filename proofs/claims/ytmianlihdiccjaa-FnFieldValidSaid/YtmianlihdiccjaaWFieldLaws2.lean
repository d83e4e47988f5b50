/- The walk of the drawn law on valid fields. -/
import Derived.Test.YtmianlihdiccjaaWFieldLaws
import Derived.Test.YtmianlihdiccjaaStepS2
namespace Go.Proofs.Ytmianlihdiccjaa
open Go.RowKit
set_option linter.unusedVariables false
attribute [local go_sem ↓] Go.wp_at_zero Go.wp_at_succ

theorem fv_more {s : Int} {zs : List Bool} (hv : fvB s zs = true) : fvB s (zs ++ [false]) = false := by
  have h := (fv_iff.1 hv).2.2.2.1
  rw [Bool.eq_false_iff]
  intro h'
  have h2 := (fv_iff.1 h').2.2.2.1
  rw [List.length_append] at h2
  simp at h2
  omega
theorem fv_rep {s : Int} {zs : List Bool} (hv : fvB s zs = true) : fvB s (List.replicate zs.length false) = true := by
  have h := fv_iff.1 hv
  exact fv_iff.2 ⟨h.1, h.2.1, h.2.2.1, by rw [List.length_replicate]; exact h.2.2.2.1, by rw [cnt_rep]; omega⟩
theorem fv_zero : fvB 0 [] = false := by decide
theorem step_append_liesG {P : Program} {ops : Array Oper} {o : Oper} {a : Act} {w : World} {K : Act → World → Prop} {Q : Exit → Act → World → Prop} {E : Prop} (hgd : Region.wanted o (yielded ops a.tmps) = true) (s x : Operand) (t : TypeId)
    (ho : o.op = .call { callee := .builtin .append, args := #[s, x], argTypes := #[t, t] })
    (base : Nat) (e : TypeId) (i : TypeInfo) (z : Value) (size bytes : Nat) (ht : P.underlying t = some (.slice e)) (hi : P.info? e = some i) (hz : i.zero = some z)
    (hsize : i.size = size) (hby : i.bytes = bytes) (hzs : z.cells.size = size) (hsz : 0 < size)
    (v : Value) (n : Nat) (xs : List Value) (hs : a.eval s = v) (hown : w.ownsRow base e size v n xs)
    (ad : Addr) (m c : Nat) (news : List Value) (hx : a.eval x = .slice (some ad) m c) (hl : news.length = m * size) (hnews : ∀ j u, news[j]? = some u → w.cell? (ad.add j) = some u) (h1 : ∀ u ∈ news, u.oneCell' = true)
    (hm : 0 < m) (h63 : n + m ≤ maxLen) (hbytes : (n + m) * bytes ≤ 140737488355328) (hbase : base ≤ w.heap.size) (H : Nat) (hH : w.heap.size = H)
    (h : ∀ g cap w', w'.ownsRow base e size (.slice (some ⟨g, 0, none⟩) (n + m) cap) (n + m) (xs ++ news) → w.grownBy w' v.ownBlock → (v.ownBlock = some g ∨ g = H) → g < w'.heap.size → K (a.put o.dst (.slice (some ⟨g, 0, none⟩) (n + m) cap)) w') :
    if Region.wanted o (yielded ops a.tmps) = true then Oper.wp P o a w K Q else E := by
  rw [if_pos hgd]
  exact wp_append_lies w s x t ho base e i z size bytes ht hi hz hsize hby hzs hsz v n xs hs hown ad m c news hx hl hnews h1 hm h63 hbytes hbase H hH h
theorem OSb.drew_ {w : World} {base n c : Nat} {A : Option Addr} {zs : List Bool} (h : OSb w base A n c zs) : OSb w.drew base A n c zs := h
theorem osLitAt (w : World) (base g : Nat) (hg : w.heap.size = g) (hb : base ≤ g) : OSb (w.alloc (.cells #[.bool false] 4)) base (some ⟨g, 0, none⟩) 1 1 [false] := by
  subst hg
  exact World.ownsRow_lit (base := base) (e := 4) (size := 1) w #[.bool false] 1 hb (by unfold maxLen; omega) rfl
theorem lit_news {w : World} {base gl : Nat} (h : OSb w base (some ⟨gl, 0, none⟩) 1 1 [false]) : ∀ j u, ([Value.bool false])[j]? = some u → w.cell? ((⟨gl, 0, none⟩ : Addr).add j) = some u := by
  obtain ⟨ad, e, _, hc⟩ := h.toI.reads.2 (by decide)
  cases e; exact hc
theorem lit_one : ∀ u ∈ [Value.bool false], u.oneCell' = true := by intro u hu; simp at hu; subst hu; rfl
set_option maxRecDepth 100000 in
set_option maxHeartbeats 16000000 in
theorem walkFnFieldValid (w : World) (A : Option Addr) (zb : List Int) (c : Nat) (hc : zb.length ≤ c ∧ c ≤ maxLen) (h : RB w w.heap.size A zb) :
    Calls Try.prog 4 #[.slice A zb.length c] w fun e w' => e = .returned (.bool true) ∧ Below w.heap.size w w' := by
  have hcm := hc.2
  unfold maxLen at hcm
  by_cases hl : 1048576 < zb.length
  · go_enter Try.func4, Try.ntmps4
    go_wp2
    go_ret
    exact ⟨rfl, Below.refl _ _⟩
  go_enter Try.func4, Try.ntmps4
  go_wp2_with fail
  refine (drawFieldValid A zb c w h hc.1 hc.2).mono ?_
  rintro e w1 ⟨s, A1, n1, c1, h1, zs, rfl, hn1, hO1, hB1⟩
  have hZ : zs.length = n1 := hO1.len
  obtain ⟨gf, hgf⟩ : ∃ gf, w1.heap.size = gf := ⟨_, rfl⟩
  obtain ⟨w2, hw2⟩ : ∃ w2, w1.alloc (.cells #[.int .i64 s, .slice A1 n1 c1, .bool h1] 27) = w2 := ⟨_, rfl⟩
  have RF := Lib.hid (show Row3 w2 gf 27 (.int .i64 s) (.slice A1 n1 c1) (.bool h1) by rw [← hw2, ← hgf]; exact Row3.new w1 _ _ _ _)
  have HF := Lib.hid (show OIb w2 w.heap.size A1 n1 c1 zs by rw [← hw2]; exact hO1.alloc _)
  have hT2 : Below w.heap.size w w2 := by rw [← hw2]; exact hB1.alloc hB1.size _
  obtain ⟨V, hV⟩ : ∃ V, fvB s zs = V := ⟨_, rfl⟩
  have hm1 := fun w' hr => fieldValid s A1 n1 zs c1 h1 w' hr (by omega)
  have hm2 := fun w' hr => fieldValidS s A1 n1 zs c1 h1 w' hr (by omega)
  rw [hV] at hm1 hm2
  have HM1 := Lib.hid hm1
  have HM2 := Lib.hid hm2
  have HV := Lib.hid hV
  have HZ := Lib.hid hZ
  have HW2 := Lib.hid hw2
  have HGF := Lib.hid hgf
  clear hm1 hm2 hV hw2 hgf hO1 h hc hcm hl hZ
  go_wp2_with fail
  rw [HW2.out, HGF.out]
  refine (HM1.out w2 HF.out.reads).mono ?_
  rintro e w3 ⟨rfl, hB3⟩
  replace RF := Lib.hid (RF.out.below hB3 RF.out.lt)
  replace HF := Lib.hid (HF.out.below hB3 (Nat.le_refl _))
  have hT3 := hT2.trans (hB3.mono hT2.size)
  obtain ⟨a0, a1, a2, a3, a4, a5⟩ := RF.out.at_
  clear hB3
  go_wp2_with fail
  refine (HM2.out w3 HF.out.reads).mono ?_
  rintro e w4 ⟨rfl, hB4⟩
  replace RF := Lib.hid (RF.out.below hB4 RF.out.lt)
  replace HF := Lib.hid (HF.out.below hB4 (Nat.le_refl _))
  have hT4 := hT3.trans (hB4.mono hT3.size)
  clear a0 a1 a2 a3 a4 a5 hB4
  cases V
  · have hz := fieldValid 0 none 0 [] 0 false w4 RL.nil (by omega)
    rw [fv_zero] at hz
    have HZZ := Lib.hid hz
    clear hz
    go_wp2_with (first | (go_at_call 18; refine HZZ.out.mono ?_; rintro e w5 ⟨rfl, hB5⟩) | (go_at_call 21; refine (alive _).mono ?_; rintro e w' ⟨rfl, rfl⟩))
    go_ret
    exact ⟨rfl, hT4.trans (hB5.mono hT4.size)⟩
  · have hv := HV.out
    have hn4 : 4 ≤ n1 := by
      rw [← HZ.out]
      have := (fv_iff.1 hv).2.2.2.1
      rcases fv_s hv with rfl | rfl | rfl | rfl <;> omega
    have hC1 : ∀ A c w', RL w' w'.heap.size A n1 (List.replicate n1 false) → Calls Try.prog 18 #[.agg #[.int .i64 s, .slice A n1 c, .bool false]] w' (GivesT w' true) := fun A c w' h2 => by
      have := fieldValid s A n1 (List.replicate n1 false) c false w' h2 (by omega)
      rw [← HZ.out, fv_rep hv] at this
      rw [← HZ.out]; exact this
    have hC2 : ∀ A c w', RL w' w'.heap.size A (n1 + 1) (zs ++ [false]) → Calls Try.prog 18 #[.agg #[.int .i64 s, .slice A (n1 + 1) c, .bool false]] w' (GivesT w' false) := fun A c w' h2 => by
      have := fieldValid s A (n1 + 1) (zs ++ [false]) c false w' h2 (by omega)
      rw [fv_more hv] at this
      exact this
    obtain ⟨ad, rfl, hadb, hcells⟩ := HF.out.reads.2 (by omega)
    have HC1 := Lib.hid hC1
    have HC2 := Lib.hid hC2
    obtain ⟨FC, hmk, hFC⟩ := mkB n1 (by omega)
    have HFC := Lib.hid hFC
    obtain ⟨i0, hi, hz0, hz1, hz2⟩ := info_parts infoBool
    have HNW := Lib.hid hcells
    have HLZ := Lib.hid (show (zs.map Value.bool).length = n1 * 1 by rw [List.length_map, HZ.out, Nat.mul_one])
    obtain ⟨a0, a1, a2, a3, a4, a5⟩ := RF.out.at_
    have hn1i : (0 : Int) ≤ (n1 : Int) := by omega
    clear hC1 hC2 hFC hv hcells
    go_wp2
    have hRL : RL (w4.alloc (.cells FC 4)).drew (w4.alloc (.cells FC 4)).drew.heap.size (some ⟨w4.heap.size, 0, none⟩) n1 (List.replicate n1 false) := (HFC.out w4 w.heap.size hT4.size).toI.reads
    have HRL := Lib.hid hRL
    have HF4 := Lib.hid (show OIb (w4.alloc (.cells FC 4)).drew w.heap.size (some ad) n1 c1 zs from HF.out.alloc _)
    have HRF4 := Lib.hid (show Row3 (w4.alloc (.cells FC 4)).drew gf 27 (.int .i64 s) (.slice (some ad) n1 c1) (.bool h1) from RF.out.alloc _)
    have hT4d : Below w.heap.size w (w4.alloc (.cells FC 4)).drew := (hT4.alloc hT4.size _).drew
    have HS1 := Lib.hid (And.intro a0 a1)
    clear HF RF hT4 hRL HFC
    go_region_held3 (fun w' => w'.cell? ⟨gf, 0, none⟩ = some (.int .i64 s) ∧ w'.cell? ⟨gf, 1, none⟩ = some (.slice (some ad) n1 c1)) (first | exact HS1.out | exact HS5.out | exact HS6.out | exact HS7.out | exact HS8.out | go_keep)
      (first
        | (go_at_call 18; (with_reducible refine (HC1.out _ _ _ HRL.out).mono ?_); rintro e w5 ⟨rfl, hB5⟩; (have HF5 := Lib.hid (HF4.out.below hB5 (Nat.le_refl _))); (have HRF5 := Lib.hid (HRF4.out.below hB5 HRF4.out.lt)); (have hT5 := hT4d.trans (hB5.mono hT4d.size)); (obtain ⟨b0, b1, b2, b3, b4, b5⟩ := HRF5.out.at_); (have HS5 := Lib.hid (And.intro b0 b1)); (obtain ⟨ad', hade, hadb5, hc5⟩ := HF5.out.reads.2 (by omega)); (cases hade); (have hs5 := hT5.size); (have hgf5 := HRF5.out.lt); (clear hB5 a0 a1 a2 a3 a4 a5 b0 b1 b2 b3 b4 b5))
        | (refine step_append_liesG (by rfl) _ _ 22 (by rfl) w.heap.size 4 i0 (.bool false) 1 1 Try.underlying22 hi hz0 hz1 hz2 rfl (by decide) (.slice (some ⟨w5.heap.size, 0, none⟩) 0 0) 0 [] (by rfl) (osEmptyAt w5 w.heap.size w5.heap.size rfl hs5) ad n1 c1 (zs.map .bool) (by rfl) HLZ.out (news_up hc5 (((Below.refl w5.heap.size w5).alloc (Nat.le_refl _) _)) hadb5) (bools_oneCell zs) (by omega) (by unfold maxLen; omega) (by omega) (by first | omega | (simp <;> omega)) _ rfl ?_; intro gB cB w6 hO6 hg6 hat6 hlt6; (try rw [Nat.zero_add n1]); (have HO6 := Lib.hid (show OSb w6 w.heap.size (some ⟨gB, 0, none⟩) n1 cB zs by simpa [OSb] using hO6)); (have hT6 : Below w.heap.size w w6 := (hT5.trans (Below.mono (((Below.refl w5.heap.size w5).alloc (Nat.le_refl _) _)) hT5.size)).grown hg6 (by first | omega | (simp <;> omega)) (fun k e => by simp [Value.ownBlock] at e; omega)); (have HRF6 := Lib.hid (Row3.kept (HRF5.out.alloc _) hg6 (by simp [Value.ownBlock] <;> omega))); (have HS6 := Lib.hid (And.intro HRF6.out.at_.1 HRF6.out.at_.2.1)); (have hgf6 := HRF6.out.lt); (have hgB6 : w5.heap.size ≤ gB := (by rcases hat6 with h4 | h4 <;> simp [Value.ownBlock] at h4 <;> omega)); (have hs6 := hT6.size); (clear hO6 hg6 hat6 hlt6))
        | (refine step_append_liesG (by rfl) _ _ 22 (by rfl) w.heap.size 4 i0 (.bool false) 1 1 Try.underlying22 hi hz0 hz1 hz2 rfl (by decide) (.slice (some ⟨w5.heap.size, 0, none⟩) 0 0) 0 [] (by rfl) ((osEmptyAt w5 w.heap.size w5.heap.size rfl hs5).alloc _) ad n1 c1 (zs.map .bool) (by rfl) HLZ.out (news_up hc5 ((((Below.refl w5.heap.size w5).alloc (Nat.le_refl _) _).alloc (by simp) _)) hadb5) (bools_oneCell zs) (by omega) (by unfold maxLen; omega) (by omega) (by first | omega | (simp <;> omega)) _ rfl ?_; intro gB cB w6 hO6 hg6 hat6 hlt6; (try rw [Nat.zero_add n1]); (have HO6 := Lib.hid (show OSb w6 w.heap.size (some ⟨gB, 0, none⟩) n1 cB zs by simpa [OSb] using hO6)); (have hT6 : Below w.heap.size w w6 := (hT5.trans (Below.mono ((((Below.refl w5.heap.size w5).alloc (Nat.le_refl _) _).alloc (by simp) _)) hT5.size)).grown hg6 (by first | omega | (simp <;> omega)) (fun k e => by simp [Value.ownBlock] at e; omega)); (have HRF6 := Lib.hid (Row3.kept ((HRF5.out.alloc _).alloc _) hg6 (by simp [Value.ownBlock] <;> omega))); (have HS6 := Lib.hid (And.intro HRF6.out.at_.1 HRF6.out.at_.2.1)); (have hgf6 := HRF6.out.lt); (have hne6 : gB ≠ (w5.heap.size + 1) := (by rcases hat6 with h4 | h4 <;> simp [Value.ownBlock] at h4 <;> omega)); (have HL6 := Lib.hid (OSb.kept ((osLitAt (w5.alloc (.cells #[] 4)) w.heap.size (w5.heap.size + 1) (by simp) (by omega))) hg6 (.inr (by simp [Value.ownBlock] <;> omega)))); (have hgB6 : w5.heap.size ≤ gB := (by rcases hat6 with h4 | h4 <;> simp [Value.ownBlock] at h4 <;> omega)); (have hs6 := hT6.size); (clear hO6 hg6 hat6 hlt6))
        | (refine step_append_liesG (by rfl) _ _ 22 (by rfl) w.heap.size 4 i0 (.bool false) 1 1 Try.underlying22 hi hz0 hz1 hz2 rfl (by decide) (.slice (some ⟨w5.heap.size + 1, 0, none⟩) 0 0) 0 [] (by rfl) (osEmptyAt (w5.alloc (.cells #[.bool false] 4)) w.heap.size (w5.heap.size + 1) (by simp) (by omega)) ad n1 c1 (zs.map .bool) (by rfl) HLZ.out (news_up hc5 ((((Below.refl w5.heap.size w5).alloc (Nat.le_refl _) _).alloc (by simp) _)) hadb5) (bools_oneCell zs) (by omega) (by unfold maxLen; omega) (by omega) (by first | omega | (simp <;> omega)) _ rfl ?_; intro gB cB w6 hO6 hg6 hat6 hlt6; (try rw [Nat.zero_add n1]); (have HO6 := Lib.hid (show OSb w6 w.heap.size (some ⟨gB, 0, none⟩) n1 cB zs by simpa [OSb] using hO6)); (have hT6 : Below w.heap.size w w6 := (hT5.trans (Below.mono ((((Below.refl w5.heap.size w5).alloc (Nat.le_refl _) _).alloc (by simp) _)) hT5.size)).grown hg6 (by first | omega | (simp <;> omega)) (fun k e => by simp [Value.ownBlock] at e; omega)); (have HRF6 := Lib.hid (Row3.kept ((HRF5.out.alloc _).alloc _) hg6 (by simp [Value.ownBlock] <;> omega))); (have HS6 := Lib.hid (And.intro HRF6.out.at_.1 HRF6.out.at_.2.1)); (have hgf6 := HRF6.out.lt); (have hne6 : gB ≠ w5.heap.size := (by rcases hat6 with h4 | h4 <;> simp [Value.ownBlock] at h4 <;> omega)); (have HL6 := Lib.hid (OSb.kept (((osLitAt w5 w.heap.size w5.heap.size rfl hs5).alloc _)) hg6 (.inr (by simp [Value.ownBlock] <;> omega)))); (have hgB6 : w5.heap.size ≤ gB := (by rcases hat6 with h4 | h4 <;> simp [Value.ownBlock] at h4 <;> omega)); (have hs6 := hT6.size); (clear hO6 hg6 hat6 hlt6))
        | (refine step_append_liesG (by rfl) _ _ 22 (by rfl) w.heap.size 4 i0 (.bool false) 1 1 Try.underlying22 hi hz0 hz1 hz2 rfl (by decide) (.slice (some ⟨w5.heap.size, 0, none⟩) 0 0) 0 [] (by rfl) (osEmptyAt w5 w.heap.size w5.heap.size rfl hs5) ad n1 c1 (zs.map .bool) (by rfl) HLZ.out (news_up hc5 (((Below.refl w5.heap.size w5).alloc (Nat.le_refl _) _).drew) hadb5) (bools_oneCell zs) (by omega) (by unfold maxLen; omega) (by omega) (by first | omega | (simp <;> omega)) _ rfl ?_; intro gB cB w6 hO6 hg6 hat6 hlt6; (try rw [Nat.zero_add n1]); (have HO6 := Lib.hid (show OSb w6 w.heap.size (some ⟨gB, 0, none⟩) n1 cB zs by simpa [OSb] using hO6)); (have hT6 : Below w.heap.size w w6 := (hT5.trans (Below.mono (((Below.refl w5.heap.size w5).alloc (Nat.le_refl _) _).drew) hT5.size)).grown hg6 (by first | omega | (simp <;> omega)) (fun k e => by simp [Value.ownBlock] at e; omega)); (have HRF6 := Lib.hid (Row3.kept (Row3.drew (HRF5.out.alloc _)) hg6 (by simp [Value.ownBlock] <;> omega))); (have HS6 := Lib.hid (And.intro HRF6.out.at_.1 HRF6.out.at_.2.1)); (have hgf6 := HRF6.out.lt); (have hgB6 : w5.heap.size ≤ gB := (by rcases hat6 with h4 | h4 <;> simp [Value.ownBlock] at h4 <;> omega)); (have hs6 := hT6.size); (clear hO6 hg6 hat6 hlt6))
        | (refine step_append_liesG (by rfl) _ _ 22 (by rfl) w.heap.size 4 i0 (.bool false) 1 1 Try.underlying22 hi hz0 hz1 hz2 rfl (by decide) (.slice (some ⟨w5.heap.size, 0, none⟩) 0 0) 0 [] (by rfl) ((osEmptyAt w5 w.heap.size w5.heap.size rfl hs5).alloc _) ad n1 c1 (zs.map .bool) (by rfl) HLZ.out (news_up hc5 ((((Below.refl w5.heap.size w5).alloc (Nat.le_refl _) _).alloc (by simp) _).drew) hadb5) (bools_oneCell zs) (by omega) (by unfold maxLen; omega) (by omega) (by first | omega | (simp <;> omega)) _ rfl ?_; intro gB cB w6 hO6 hg6 hat6 hlt6; (try rw [Nat.zero_add n1]); (have HO6 := Lib.hid (show OSb w6 w.heap.size (some ⟨gB, 0, none⟩) n1 cB zs by simpa [OSb] using hO6)); (have hT6 : Below w.heap.size w w6 := (hT5.trans (Below.mono ((((Below.refl w5.heap.size w5).alloc (Nat.le_refl _) _).alloc (by simp) _).drew) hT5.size)).grown hg6 (by first | omega | (simp <;> omega)) (fun k e => by simp [Value.ownBlock] at e; omega)); (have HRF6 := Lib.hid (Row3.kept (Row3.drew ((HRF5.out.alloc _).alloc _)) hg6 (by simp [Value.ownBlock] <;> omega))); (have HS6 := Lib.hid (And.intro HRF6.out.at_.1 HRF6.out.at_.2.1)); (have hgf6 := HRF6.out.lt); (have hne6 : gB ≠ (w5.heap.size + 1) := (by rcases hat6 with h4 | h4 <;> simp [Value.ownBlock] at h4 <;> omega)); (have HL6 := Lib.hid (OSb.kept (OSb.drew_ (osLitAt (w5.alloc (.cells #[] 4)) w.heap.size (w5.heap.size + 1) (by simp) (by omega))) hg6 (.inr (by simp [Value.ownBlock] <;> omega)))); (have hgB6 : w5.heap.size ≤ gB := (by rcases hat6 with h4 | h4 <;> simp [Value.ownBlock] at h4 <;> omega)); (have hs6 := hT6.size); (clear hO6 hg6 hat6 hlt6))
        | (refine step_append_liesG (by rfl) _ _ 22 (by rfl) w.heap.size 4 i0 (.bool false) 1 1 Try.underlying22 hi hz0 hz1 hz2 rfl (by decide) (.slice (some ⟨w5.heap.size + 1, 0, none⟩) 0 0) 0 [] (by rfl) (osEmptyAt (w5.alloc (.cells #[.bool false] 4)) w.heap.size (w5.heap.size + 1) (by simp) (by omega)) ad n1 c1 (zs.map .bool) (by rfl) HLZ.out (news_up hc5 ((((Below.refl w5.heap.size w5).alloc (Nat.le_refl _) _).alloc (by simp) _).drew) hadb5) (bools_oneCell zs) (by omega) (by unfold maxLen; omega) (by omega) (by first | omega | (simp <;> omega)) _ rfl ?_; intro gB cB w6 hO6 hg6 hat6 hlt6; (try rw [Nat.zero_add n1]); (have HO6 := Lib.hid (show OSb w6 w.heap.size (some ⟨gB, 0, none⟩) n1 cB zs by simpa [OSb] using hO6)); (have hT6 : Below w.heap.size w w6 := (hT5.trans (Below.mono ((((Below.refl w5.heap.size w5).alloc (Nat.le_refl _) _).alloc (by simp) _).drew) hT5.size)).grown hg6 (by first | omega | (simp <;> omega)) (fun k e => by simp [Value.ownBlock] at e; omega)); (have HRF6 := Lib.hid (Row3.kept (Row3.drew ((HRF5.out.alloc _).alloc _)) hg6 (by simp [Value.ownBlock] <;> omega))); (have HS6 := Lib.hid (And.intro HRF6.out.at_.1 HRF6.out.at_.2.1)); (have hgf6 := HRF6.out.lt); (have hne6 : gB ≠ w5.heap.size := (by rcases hat6 with h4 | h4 <;> simp [Value.ownBlock] at h4 <;> omega)); (have HL6 := Lib.hid (OSb.kept (OSb.drew_ ((osLitAt w5 w.heap.size w5.heap.size rfl hs5).alloc _)) hg6 (.inr (by simp [Value.ownBlock] <;> omega)))); (have hgB6 : w5.heap.size ≤ gB := (by rcases hat6 with h4 | h4 <;> simp [Value.ownBlock] at h4 <;> omega)); (have hs6 := hT6.size); (clear hO6 hg6 hat6 hlt6))
        | (refine step_append_liesG (by rfl) _ _ 22 (by rfl) w.heap.size 4 i0 (.bool false) 1 1 Try.underlying22 hi hz0 hz1 hz2 rfl (by decide) (.slice (some ⟨gB, 0, none⟩) n1 cB) n1 (zs.map .bool) (by rfl) (HO6.out.alloc _) ⟨w6.heap.size, 0, none⟩ 1 1 [.bool false] (by rfl) rfl (lit_news (osLitAt w6 w.heap.size w6.heap.size rfl hs6)) lit_one (by omega) (by unfold maxLen; omega) (by omega) (by first | omega | (simp <;> omega)) _ rfl ?_; intro gC cC w7 hO7 hg7 hat7 hlt7; (have HO7 := Lib.hid (show OSb w7 w.heap.size (some ⟨gC, 0, none⟩) (n1 + 1) cC (zs ++ [false]) by simpa [OSb] using hO7)); (have hT7 : Below w.heap.size w w7 := Below.grown ((hT6.alloc hT6.size _)) hg7 (by first | omega | (simp <;> omega)) (fun k e => by have := (HO6.out.toI.lt k e).1; omega)); (have HRF7 := Lib.hid (Row3.kept (HRF6.out.alloc _) hg7 (by simp [Value.ownBlock] <;> omega))); (have HS7 := Lib.hid (And.intro HRF7.out.at_.1 HRF7.out.at_.2.1)); (clear hO7 hg7 hat7 hlt7))
        | (refine step_append_liesG (by rfl) _ _ 22 (by rfl) w.heap.size 4 i0 (.bool false) 1 1 Try.underlying22 hi hz0 hz1 hz2 rfl (by decide) (.slice (some ⟨gB, 0, none⟩) n1 cB) n1 (zs.map .bool) (by rfl) (HO6.out.alloc _) ⟨w6.heap.size, 0, none⟩ 1 1 [.bool false] (by rfl) rfl (lit_news (osLitAt w6 w.heap.size w6.heap.size rfl hs6)) lit_one (by omega) (by unfold maxLen; omega) (by omega) (by first | omega | (simp <;> omega)) _ rfl ?_; intro gC cC w7 hO7 hg7 hat7 hlt7; (have HO7 := Lib.hid (show OSb w7 w.heap.size (some ⟨gC, 0, none⟩) (n1 + 1) cC (zs ++ [false]) by simpa [OSb] using hO7)); (have hT7 : Below w.heap.size w w7 := Below.grown ((hT6.alloc hT6.size _).drew) hg7 (by first | omega | (simp <;> omega)) (fun k e => by have := (HO6.out.toI.lt k e).1; omega)); (have HRF7 := Lib.hid (Row3.kept (Row3.drew (HRF6.out.alloc _)) hg7 (by simp [Value.ownBlock] <;> omega))); (have HS7 := Lib.hid (And.intro HRF7.out.at_.1 HRF7.out.at_.2.1)); (clear hO7 hg7 hat7 hlt7))
        | (refine step_append_liesG (by rfl) _ _ 22 (by rfl) w.heap.size 4 i0 (.bool false) 1 1 Try.underlying22 hi hz0 hz1 hz2 rfl (by decide) (.slice (some ⟨gB, 0, none⟩) n1 cB) n1 (zs.map .bool) (by rfl) (HO6.out) ⟨w5.heap.size + 1, 0, none⟩ 1 1 [.bool false] (by rfl) rfl (lit_news (HL6.out)) lit_one (by omega) (by unfold maxLen; omega) (by omega) (by first | omega | (simp <;> omega)) _ rfl ?_; intro gC cC w7 hO7 hg7 hat7 hlt7; (have HO7 := Lib.hid (show OSb w7 w.heap.size (some ⟨gC, 0, none⟩) (n1 + 1) cC (zs ++ [false]) by simpa [OSb] using hO7)); (have hT7 : Below w.heap.size w w7 := Below.grown (hT6) hg7 (by first | omega | (simp <;> omega)) (fun k e => by have := (HO6.out.toI.lt k e).1; omega)); (have HRF7 := Lib.hid (Row3.kept (HRF6.out) hg7 (by simp [Value.ownBlock] <;> omega))); (have HS7 := Lib.hid (And.intro HRF7.out.at_.1 HRF7.out.at_.2.1)); (clear hO7 hg7 hat7 hlt7))
        | (refine step_append_liesG (by rfl) _ _ 22 (by rfl) w.heap.size 4 i0 (.bool false) 1 1 Try.underlying22 hi hz0 hz1 hz2 rfl (by decide) (.slice (some ⟨gB, 0, none⟩) n1 cB) n1 (zs.map .bool) (by rfl) (HO6.out) ⟨w5.heap.size + 1, 0, none⟩ 1 1 [.bool false] (by rfl) rfl (lit_news (HL6.out)) lit_one (by omega) (by unfold maxLen; omega) (by omega) (by first | omega | (simp <;> omega)) _ rfl ?_; intro gC cC w7 hO7 hg7 hat7 hlt7; (have HO7 := Lib.hid (show OSb w7 w.heap.size (some ⟨gC, 0, none⟩) (n1 + 1) cC (zs ++ [false]) by simpa [OSb] using hO7)); (have hT7 : Below w.heap.size w w7 := Below.grown (hT6.drew) hg7 (by first | omega | (simp <;> omega)) (fun k e => by have := (HO6.out.toI.lt k e).1; omega)); (have HRF7 := Lib.hid (Row3.kept (Row3.drew HRF6.out) hg7 (by simp [Value.ownBlock] <;> omega))); (have HS7 := Lib.hid (And.intro HRF7.out.at_.1 HRF7.out.at_.2.1)); (clear hO7 hg7 hat7 hlt7))
        | (refine step_append_liesG (by rfl) _ _ 22 (by rfl) w.heap.size 4 i0 (.bool false) 1 1 Try.underlying22 hi hz0 hz1 hz2 rfl (by decide) (.slice (some ⟨gB, 0, none⟩) n1 cB) n1 (zs.map .bool) (by rfl) (HO6.out) ⟨w5.heap.size, 0, none⟩ 1 1 [.bool false] (by rfl) rfl (lit_news (HL6.out)) lit_one (by omega) (by unfold maxLen; omega) (by omega) (by first | omega | (simp <;> omega)) _ rfl ?_; intro gC cC w7 hO7 hg7 hat7 hlt7; (have HO7 := Lib.hid (show OSb w7 w.heap.size (some ⟨gC, 0, none⟩) (n1 + 1) cC (zs ++ [false]) by simpa [OSb] using hO7)); (have hT7 : Below w.heap.size w w7 := Below.grown (hT6) hg7 (by first | omega | (simp <;> omega)) (fun k e => by have := (HO6.out.toI.lt k e).1; omega)); (have HRF7 := Lib.hid (Row3.kept (HRF6.out) hg7 (by simp [Value.ownBlock] <;> omega))); (have HS7 := Lib.hid (And.intro HRF7.out.at_.1 HRF7.out.at_.2.1)); (clear hO7 hg7 hat7 hlt7))
        | (refine step_append_liesG (by rfl) _ _ 22 (by rfl) w.heap.size 4 i0 (.bool false) 1 1 Try.underlying22 hi hz0 hz1 hz2 rfl (by decide) (.slice (some ⟨gB, 0, none⟩) n1 cB) n1 (zs.map .bool) (by rfl) (HO6.out) ⟨w5.heap.size, 0, none⟩ 1 1 [.bool false] (by rfl) rfl (lit_news (HL6.out)) lit_one (by omega) (by unfold maxLen; omega) (by omega) (by first | omega | (simp <;> omega)) _ rfl ?_; intro gC cC w7 hO7 hg7 hat7 hlt7; (have HO7 := Lib.hid (show OSb w7 w.heap.size (some ⟨gC, 0, none⟩) (n1 + 1) cC (zs ++ [false]) by simpa [OSb] using hO7)); (have hT7 : Below w.heap.size w w7 := Below.grown (hT6.drew) hg7 (by first | omega | (simp <;> omega)) (fun k e => by have := (HO6.out.toI.lt k e).1; omega)); (have HRF7 := Lib.hid (Row3.kept (Row3.drew HRF6.out) hg7 (by simp [Value.ownBlock] <;> omega))); (have HS7 := Lib.hid (And.intro HRF7.out.at_.1 HRF7.out.at_.2.1)); (clear hO7 hg7 hat7 hlt7))
        | (go_at_call 18; (with_reducible refine (HC2.out _ _ _ (by exact HO7.out.toI.reads)).mono ?_); rintro e w8 ⟨rfl, hB8⟩; (have HRF8 := Lib.hid (HRF7.out.below hB8 HRF7.out.lt)); (have HS8 := Lib.hid (And.intro HRF8.out.at_.1 HRF8.out.at_.2.1)); (have hT8 := hT7.trans (hB8.mono hT7.size))))
    all_goals go_wp2
    all_goals go_ret
    all_goals exact ⟨rfl, hT8⟩
end Go.Proofs.Ytmianlihdiccjaa

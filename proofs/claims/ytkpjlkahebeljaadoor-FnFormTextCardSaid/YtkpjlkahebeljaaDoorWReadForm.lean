/- The walk of the exact law FnExactReadForm. -/
import Derived.Test.YtkpjlkahebeljaaDoorStepsB
import Derived.Test.YtkpjlkahebeljaaDoorReadI
import Derived.Test.YtkpjlkahebeljaaDoorReadS
namespace Go.Proofs.YtkpjlkahebeljaaDoor
open Go.RowKit
set_option linter.unusedVariables false
/-- both readings give the same -/
theorem readBoth (q : Int) (s : ByteArray) (hs : s.size ≤ 1048576) : ∃ (N : Nat) (zs : List Int) (b : Bool), N ≤ 3 ∧
    (∀ w, Calls Tryd.prog 14 #[.int .i64 q, .string s] w (fun e w' => ∃ A c, e = .returned (.tuple #[.slice A N c, .bool b]) ∧ RI w' w'.heap.size A (N * 3) zs ∧ Below w.heap.size w w')) ∧
    (∀ w, ErrV w → Calls Tryd.prog 12 #[.int .i64 q, .string s] w (fun e w' => ∃ A, e = .returned (.tuple #[.slice A N N, .bool b]) ∧ OFI 46 3 w' w.heap.size A N N zs ∧ Below w.heap.size w w')) ∧
    (b = true → Vd q (bL s) N zs) ∧ (b = false → N = 0 ∧ zs = [] ∧ ∀ n us, ¬ Vd q (bL s) n us) := by
  by_cases hV : ∃ n us, Vd q (bL s) n us
  · obtain ⟨n, us, h⟩ := hV
    refine ⟨n, us, true, (fmB_iff h.2.1).2.2.2.1, fun w => (readFormS q s w hs).mono ?_, fun w hE => (readFormI q s w hs hE).mono ?_, fun _ => h, fun e => by cases e⟩
    · rintro e w' ⟨hb, ⟨A, c, rfl, hn⟩ | ⟨A, m, c, zs, rfl, hO, hv⟩⟩
      · exact absurd h (hn n us)
      · obtain ⟨rfl, rfl⟩ := vd_one h hv
        exact ⟨A, c, rfl, hO.reads, hb⟩
    · rintro e w' ⟨hb, ⟨rfl, hn⟩ | ⟨A, m, zs, rfl, hO, hv⟩⟩
      · exact absurd h (hn n us)
      · obtain ⟨rfl, rfl⟩ := vd_one h hv
        exact ⟨A, rfl, hO, hb⟩
  · refine ⟨0, [], false, by omega, fun w => (readFormS q s w hs).mono ?_, fun w hE => (readFormI q s w hs hE).mono ?_, fun e => (by cases e), fun _ => ⟨rfl, rfl, fun n us h => hV ⟨n, us, h⟩⟩⟩
    · rintro e w' ⟨hb, ⟨A, c, rfl, hn⟩ | ⟨A, m, c, zs, rfl, hO, hv⟩⟩
      · exact ⟨A, c, rfl, ⟨rfl, fun h => absurd h (by omega)⟩, hb⟩
      · exact absurd ⟨_, _, hv⟩ hV
    · rintro e w' ⟨hb, ⟨rfl, hn⟩ | ⟨A, m, zs, rfl, hO, hv⟩⟩
      · exact ⟨none, rfl, OFI.nil _ _, hb⟩
      · exact absurd ⟨_, _, hv⟩ hV
set_option maxHeartbeats 8000000 in
theorem walkFnExactReadForm (w : World) (hE : ErrV w) (a0 : Int) (_w0 : (Lit.int .i64 a0).wf = true) (s : ByteArray) (hs : s.size ≤ maxLen) :
    Calls Tryd.prog 4 #[.int .i64 a0, .string s] w fun e w' => e = .returned (.bool true) ∧ Below w.heap.size w w' := by
  clear _w0
  have hT : Below w.heap.size w w := Below.refl _ _
  by_cases hl : 1048576 < s.size
  · have hlI : (1048576 : Int) < (s.size : Int) := by omega
    go_enter Tryd.func4, Tryd.ntmps4
    go_wp2
    go_ret
    exact ⟨rfl, hT⟩
  have hlI : ¬ (1048576 : Int) < (s.size : Int) := by omega
  obtain ⟨N, zs, b, hN, hS, hI, _, _⟩ := readBoth a0 s (by omega)
  have HS := Lib.hid hS
  have HI := Lib.hid hI
  have HE := Lib.hid hE
  clear hS hI hE hs hl
  go_enter Tryd.func4, Tryd.ntmps4
  go_wp2_with fail
  refine (HS.out _).mono ?_
  rintro e w1 ⟨Aw, cw, rfl, hR, hB1⟩
  have HR := Lib.hid hR
  have hs1 := hB1.size
  clear hR
  go_wp2_with fail
  refine (HI.out _ (HE.out.up (Nat.le_refl _) hB1)).mono ?_
  rintro e w2 ⟨Ag, rfl, hO, hT1⟩
  have hs2 := hT1.size
  have hLg := Lib.hid hO.lt
  have HOg := Lib.hid hO
  clear hO
  go_wp2_with fail
  refine (eqStepS Ag Aw N zs N cw _ HOg.out.reads ((HR.out.below hT1).more hs2) (by omega)).mono ?_
  rintro e w3 ⟨rfl, hB⟩
  replace HOg := Lib.hid (HOg.out.below hB (Nat.le_refl _))
  replace hT1 := hT1.trans (hB.mono hs2)
  have hs3 := hT1.size
  clear hB hs2
  go_wp2_with fail
  refine (markStepS Ag N zs N _ 1 _ HOg.out (by omega) (by omega) (by omega)).mono ?_
  rintro e w4 ⟨rfl, hO', hG⟩
  replace HOg := Lib.hid hO'
  replace hT1 := hT1.grown hG hs3 (fun k hk => (hLg.out k hk).1)
  have hs4 := hT1.size
  clear hO' hG hs3
  have hk2 : ¬ ((1 : Int) + 3 * (N : Int)) < 0 := by omega
  go_wp2_with fail
  refine (heldStepS Ag N N 1 _ HOg.out.reads (by omega) (by omega) (by omega)).mono ?_
  rintro e w' ⟨rfl, rfl⟩
  go_wp2_with fail
  refine (HI.out _ (HE.out.up (Nat.le_refl _) (hB1.trans (hT1.mono hs1)))).mono ?_
  rintro e w5 ⟨Ah, rfl, hO, hB⟩
  replace HOg := Lib.hid (HOg.out.below hB (Nat.le_refl _))
  have HOh := Lib.hid hO
  replace hT1 := hT1.trans (hB.mono hs4)
  have hs5 := hT1.size
  clear hO hB hs4
  go_wp2_with fail
  refine (eqStepS Ah Aw N zs N cw _ HOh.out.reads ((HR.out.below hT1).more hs5) (by omega)).mono ?_
  rintro e w6 ⟨rfl, hB⟩
  replace HOg := Lib.hid (HOg.out.below hB (Nat.le_refl _))
  replace hT1 := hT1.trans (hB.mono hs5)
  clear hB
  go_wp2_with fail
  refine (heldStepS Ag N N 1 _ HOg.out.reads (by omega) (by omega) (by omega)).mono ?_
  rintro e w' ⟨rfl, rfl⟩
  go_wp2
  go_ret
  exact ⟨rfl, hB1.trans (hT1.mono hs1)⟩
end Go.Proofs.YtkpjlkahebeljaaDoor

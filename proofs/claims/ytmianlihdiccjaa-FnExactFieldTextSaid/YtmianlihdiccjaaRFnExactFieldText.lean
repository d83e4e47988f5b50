/- The row of FnExactFieldText: for every input the law returns true and its arguments read as before. The walk is in YtmianlihdiccjaaWText; here only the form is met. No condition. -/
import Derived.Test.YtmianlihdiccjaaRows
import Derived.Test.YtmianlihdiccjaaWText
import Derived.WalkKit
import Derived.ProofKit
import Derived.OpenShut
import Derived.ShutString
import Derived.ChangeOld
import Derived.Below
import Derived.Deep.Grids
import Derived.Lib.SmallJoins
namespace Go.Proofs.Ytmianlihdiccjaa.fnExactFieldText
open Go.ChangeShapes Go.WideShapes Go.ChangeAt Go.RowKit
open Go.ChangeMaps (open_string shut_string)
set_option linter.unusedVariables false

theorem own : ownKnob Try.prog.godebug = none := by kernel_rfl
theorem laidOut : laidOutB Try.prog = true := by kernel_rfl

set_option maxRecDepth 100000 in
theorem lifted (os : Os) (started : os.Started) (H : Type) (enc : TypeId × Value → H) :
    ReturnsInHanded {} Try.checked os 14 .any (Rows.fnExactFieldTextSpec.pre6 enc Try.prog Try.f14 Rows.fnExactFieldTextRow.domain false) (Rows.fnExactFieldTextSpec.post enc Try.prog Try.f14 false true false false) := by
  refine returnsInHanded_of_change (C := Try.checked) own started (by kernel_rfl) Try.func14
    (ChangeSpec.witness6 (enc := enc) (C := Try.checked) false ⟨#[], #[.agg #[.int .i64 0, .slice none 0 0, .bool false]], []⟩ 8 (by kernel_rfl) (by kernel_rfl) (by kernel_rfl) (by kernel_rfl)) ?_
  intro W base args ds gs before hval0 hW hcnd _
  have hval : ∀ (j : Nat) t v, Try.f14.params[j]? = some t → args[j]? = some v → Value.okWide Try.prog W .any base t v := hval0
  have hW' := hW
  obtain ⟨p, q, hA0, hV, rfl, hfz, hnd⟩ := hW
  have hA : DataW.TrodAll enc Try.prog W 0 (fun _ => true) true Try.f14.params.toList args.toList ds p := hA0
  rw [Try.params14] at hA hval
  obtain ⟨v0, vs0, d0, ds0, p0, q0, hargs, rfl, rfl, h0, r0⟩ := trodAll_cons hA
  obtain ⟨rfl, rfl, rfl⟩ := trodAll_nil r0
  obtain rfl : args = #[v0] := by cases args; simp_all
  obtain ⟨rfl, rfl⟩ := trodVars_none hV
  have k0 := h0
  have lt0 : ∀ x ∈ p0, x.block < W.heap.size := by obtain ⟨m, hm⟩ := k0; exact DataW.trod_lt m _ _ _ hm
  obtain ⟨u0, u1, u2, y0, y1, y2, nn, rfl, hdd, hpp, gg0, gg1, gg2⟩ := Go.Joins.open_agg3 Try.underlying24 (by kernel_rfl) (by kernel_rfl) (hval 0 24 v0 rfl rfl) h0
  clear hdd hpp
  obtain ⟨s0, hu0, _⟩ := DataW.trod_int Try.underlying3 gg0
  obtain ⟨b0, hu2, _⟩ := DataW.trod_bool Try.underlying4 gg2
  obtain rfl : u0 = .int .i64 s0 := by simpa using hu0
  obtain rfl : u2 = .bool b0 := by simpa using hu2
  obtain ⟨a0, z0, cap0, rfl, c0, w0⟩ : ∃ (a : Option Addr) (zs : List Bool) (cap : Nat), u1 = .slice a zs.length cap ∧ (zs.length ≤ cap ∧ cap ≤ maxLen) ∧ RL W W.heap.size a zs.length zs := by
    rcases Go.Deep.open_bools Try.underlying22 Try.underlying4 (by kernel_rfl) gg1 with ⟨hcs, _⟩ | ⟨x, l, c, B, hcs, _, hl, hm, _, hcell⟩
    · have hu1 : u1 = .slice none 0 0 := by simpa using hcs
      exact ⟨none, [], 0, hu1, ⟨Nat.le_refl _, by simp [maxLen]⟩, RL.nil⟩
    · have hu1 : u1 = .slice (some x) l c := by simpa using hcs
      refine ⟨some x, (List.range l).map B, c, by rw [hu1]; simp, ⟨by simpa using hl, hm⟩, ?_⟩
      refine ⟨by simp, fun hn => ⟨x, rfl, ?_, fun j u hj => ?_⟩⟩
      · have h := World.block_lt_of_cell? W (x.add 0) (hcell 0 (by simp at hn; omega)); rw [blk_add] at h; exact h
      · have hjl : j < l := by have := (List.getElem?_eq_some_iff.1 hj).1; simpa using this
        rw [hcell j (by omega)]; simp [hjl] at hj; rw [← hj]
  clear gg0 gg1 gg2 hu0 hu2
  clear hA0 hval0
  refine (walkFnExactFieldText W s0 a0 z0 cap0 b0 c0 w0).mono fun e W' ⟨he, bel⟩ => ?_
  subst he
  exact ⟨_, rfl, _, _, _, [], _, [], hW', trodAll_mk1 (shut_bool Try.underlying4 _), (trodAll_cons_mk (Below.trod laidOut (by kernel_rfl) (of_decide_eq_true (by kernel_rfl)) k0 bel lt0) trodAll_mk0), rfl, bel.frame _, fun h => by cases h⟩

theorem over : Rows.fnExactFieldTextRow.holds Try.pinned (OpenSpec.ofChange Rows.fnExactFieldTextSpec) :=
  OpenClaim.holds_of_wide 14 Try.f14 rfl rfl rfl rfl rfl rfl rfl ⟨rfl, rfl, rfl, rfl, rfl⟩ rfl rfl rfl rfl rfl (by kernel_rfl) Try.func14 (by kernel_rfl)
    (of_decide_eq_true (by kernel_rfl)) (by unfold Func.isWrapper; first | (rw [if_pos (by decide +kernel)]; kernel_rfl) | (rw [if_neg (by decide +kernel)]; exact ⟨rfl, rfl⟩))
    (fun os started H enc _ => lifted os started H enc)

theorem proved : Rows.FnExactFieldTextSaid := over
#print axioms proved
end Go.Proofs.Ytmianlihdiccjaa.fnExactFieldText

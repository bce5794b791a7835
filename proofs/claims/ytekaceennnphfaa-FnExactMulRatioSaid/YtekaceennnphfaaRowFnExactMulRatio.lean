/- FnExactMulRatio holds at every input: the row, over the printed functions. Conditions: none. -/
import Derived.Test.YtekaceennnphfaaRows
import Derived.Test.YtekaceennnphfaaQFnExactMulRatiox2
import Derived.Test.YtekaceennnphfaaPureFnExactMulRatio
import Derived.Test.YtekaceennnphfaaOpen
import Derived.WalkKit
import Derived.ProofKit
import Derived.OpenShut
import Derived.ShutString
import Derived.ChangeOld
import Derived.Below
import Derived.SizedLaws
namespace Go.Proofs.Ytekaceennnphfaa.fnExactMulRatio
open Go.ChangeShapes Go.WideShapes Go.ChangeAt Go.RowKit
set_option linter.unusedVariables false
theorem own : ownKnob Try.prog.godebug = none := by kernel_rfl
theorem laidOut : laidOutB Try.prog = true := by kernel_rfl
set_option maxRecDepth 100000 in
theorem lifted (os : Os) (started : os.Started) (H : Type) (enc : TypeId × Value → H) :
    ReturnsInHanded {} Try.checked os 6 .any (Rows.fnExactMulRatioSpec.pre6 enc Try.prog Try.f6 Rows.fnExactMulRatioRow.domain false) (Rows.fnExactMulRatioSpec.post enc Try.prog Try.f6 false true false false) := by
  refine returnsInHanded_of_change (C := Try.checked) own started (by kernel_rfl) Try.func6
    (ChangeSpec.witness6 (enc := enc) (C := Try.checked) false ⟨#[], #[.agg #[.int .i64 0, .int .i64 0], .agg #[.int .i64 0, .int .i64 0]], []⟩ 8 (by kernel_rfl) (by kernel_rfl) (by kernel_rfl) (by kernel_rfl)) ?_
  intro W base args ds gs before hval0 hW hcnd _
  have hval : ∀ (j : Nat) t v, Try.f6.params[j]? = some t → args[j]? = some v → Value.okWide Try.prog W .any base t v := hval0
  have hW' := hW
  obtain ⟨p, q, hA0, hV, rfl, hfz, hnd⟩ := hW
  have hA : DataW.TrodAll enc Try.prog W 0 (fun _ => true) true Try.f6.params.toList args.toList ds p := hA0
  rw [Try.params6] at hA hval
  obtain ⟨v0, vs0, d0, ds0, p0, q0, hargs, rfl, rfl, h0, r0⟩ := trodAll_cons hA
  obtain ⟨v1, vs1, d1, ds1, p1, q1, rfl, rfl, rfl, h1, r1⟩ := trodAll_cons r0
  obtain ⟨rfl, rfl, rfl⟩ := trodAll_nil r1
  obtain rfl : args = #[v0, v1] := by cases args; simp_all
  obtain ⟨rfl, rfl⟩ := trodVars_none hV
  have k0 := h0
  have lt0 : ∀ x ∈ p0, x.block < W.heap.size := by obtain ⟨m, hm⟩ := k0; exact DataW.trod_lt m _ _ _ hm
  obtain ⟨x0, rfl, xl0, xw0⟩ := Open.open_struct_ints Try.underlying28 (by kernel_rfl) (by kernel_rfl) Try.underlying3 (by kernel_rfl) (hval 0 28 v0 rfl rfl) h0
  obtain ⟨a0_0, a0_1, rfl⟩ := Open.len2 xl0
  have wa0_0 : (Lit.int .i64 a0_0).wf = true := xw0 _ (by simp)
  have wa0_1 : (Lit.int .i64 a0_1).wf = true := xw0 _ (by simp)
  have k1 := h1
  have lt1 : ∀ x ∈ p1, x.block < W.heap.size := by obtain ⟨m, hm⟩ := k1; exact DataW.trod_lt m _ _ _ hm
  obtain ⟨x1, rfl, xl1, xw1⟩ := Open.open_struct_ints Try.underlying28 (by kernel_rfl) (by kernel_rfl) Try.underlying3 (by kernel_rfl) (hval 1 28 v1 rfl rfl) h1
  obtain ⟨a1_0, a1_1, rfl⟩ := Open.len2 xl1
  have wa1_0 : (Lit.int .i64 a1_0).wf = true := xw1 _ (by simp)
  have wa1_1 : (Lit.int .i64 a1_1).wf = true := xw1 _ (by simp)
  clear hA0 hval0
  obtain ⟨k, hk⟩ := Pure.FnExactMulRatio a0_0 a0_1 a1_0 a1_1 wa0_0 wa0_1 wa1_0 wa1_1
  refine (PFnExactMulRatio.laws_FnExactMulRatio.calls k a0_0 a0_1 a1_0 a1_1 true W hk).mono fun e W' ⟨he, bel⟩ => ?_
  subst he
  exact ⟨_, rfl, _, _, _, [], _, [], hW', trodAll_mk1 (shut_bool Try.underlying4 _), (trodAll_cons_mk (Below.trod laidOut (by kernel_rfl) (of_decide_eq_true (by kernel_rfl)) k0 bel lt0) (trodAll_cons_mk (Below.trod laidOut (by kernel_rfl) (of_decide_eq_true (by kernel_rfl)) k1 bel lt1) trodAll_mk0)), rfl, bel.frame _, fun h => by cases h⟩
theorem over : Rows.fnExactMulRatioRow.holds Try.pinned (OpenSpec.ofChange Rows.fnExactMulRatioSpec) :=
  OpenClaim.holds_of_wide 6 Try.f6 rfl rfl rfl rfl rfl rfl rfl ⟨rfl, rfl, rfl, rfl, rfl⟩ rfl rfl rfl rfl rfl (by kernel_rfl) Try.func6 (by kernel_rfl)
    (of_decide_eq_true (by kernel_rfl)) (by unfold Func.isWrapper; first | (rw [if_pos (by decide +kernel)]; kernel_rfl) | (rw [if_neg (by decide +kernel)]; exact ⟨rfl, rfl⟩))
    (fun os started H enc _ => lifted os started H enc)
theorem proved : Rows.FnExactMulRatioSaid := over
end Go.Proofs.Ytekaceennnphfaa.fnExactMulRatio
namespace Go.Proofs.Ytekaceennnphfaa
/-- The row, under a short name, for the claim. -/
theorem fnExactMulRatio_holds : Rows.FnExactMulRatioSaid := fnExactMulRatio.proved
#print axioms fnExactMulRatio_holds
end Go.Proofs.Ytekaceennnphfaa

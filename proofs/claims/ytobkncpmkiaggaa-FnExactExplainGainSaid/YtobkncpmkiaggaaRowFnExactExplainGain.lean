/- FnExactExplainGain holds at every input: the row, over the printed functions. Conditions: none. -/
import Derived.Test.YtobkncpmkiaggaaRows
import Derived.Test.YtobkncpmkiaggaaQFnExactExplainGainx1
import Derived.Test.YtobkncpmkiaggaaPureFnExactExplainGain
import Derived.Test.YtobkncpmkiaggaaOpen
import Derived.WalkKit
import Derived.ProofKit
import Derived.OpenShut
import Derived.ShutString
import Derived.ChangeOld
import Derived.Below
import Derived.SizedLaws
namespace Go.Proofs.Ytobkncpmkiaggaa.fnExactExplainGain
open Go.ChangeShapes Go.WideShapes Go.ChangeAt Go.RowKit
set_option linter.unusedVariables false
theorem own : ownKnob Try.prog.godebug = none := by kernel_rfl
theorem laidOut : laidOutB Try.prog = true := by kernel_rfl
set_option maxRecDepth 100000 in
theorem lifted (os : Os) (started : os.Started) (H : Type) (enc : TypeId × Value → H) :
    ReturnsInHanded {} Try.checked os 8 .any (Rows.fnExactExplainGainSpec.pre6 enc Try.prog Try.f8 Rows.fnExactExplainGainRow.domain false) (Rows.fnExactExplainGainSpec.post enc Try.prog Try.f8 false true false false) := by
  refine returnsInHanded_of_change (C := Try.checked) own started (by kernel_rfl) Try.func8
    (ChangeSpec.witness6 (enc := enc) (C := Try.checked) false ⟨#[], #[.agg #[.int .i64 0, .int .i64 0, .int .i64 0], .agg #[.int .i64 0, .int .i64 0, .int .i64 0], .int .i64 0, .int .i64 0], []⟩ 8 (by kernel_rfl) (by kernel_rfl) (by kernel_rfl) (by kernel_rfl)) ?_
  intro W base args ds gs before hval0 hW hcnd _
  have hval : ∀ (j : Nat) t v, Try.f8.params[j]? = some t → args[j]? = some v → Value.okWide Try.prog W .any base t v := hval0
  have hW' := hW
  obtain ⟨p, q, hA0, hV, rfl, hfz, hnd⟩ := hW
  have hA : DataW.TrodAll enc Try.prog W 0 (fun _ => true) true Try.f8.params.toList args.toList ds p := hA0
  rw [Try.params8] at hA hval
  obtain ⟨v0, vs0, d0, ds0, p0, q0, hargs, rfl, rfl, h0, r0⟩ := trodAll_cons hA
  obtain ⟨v1, vs1, d1, ds1, p1, q1, rfl, rfl, rfl, h1, r1⟩ := trodAll_cons r0
  obtain ⟨v2, vs2, d2, ds2, p2, q2, rfl, rfl, rfl, h2, r2⟩ := trodAll_cons r1
  obtain ⟨v3, vs3, d3, ds3, p3, q3, rfl, rfl, rfl, h3, r3⟩ := trodAll_cons r2
  obtain ⟨rfl, rfl, rfl⟩ := trodAll_nil r3
  obtain rfl : args = #[v0, v1, v2, v3] := by cases args; simp_all
  obtain ⟨rfl, rfl⟩ := trodVars_none hV
  have k0 := h0
  have lt0 : ∀ x ∈ p0, x.block < W.heap.size := by obtain ⟨m, hm⟩ := k0; exact DataW.trod_lt m _ _ _ hm
  obtain ⟨x0, rfl, xl0, xw0⟩ := Open.open_struct_ints Try.underlying35 (by kernel_rfl) (by kernel_rfl) Try.underlying3 (by kernel_rfl) (hval 0 35 v0 rfl rfl) h0
  obtain ⟨a0_0, a0_1, a0_2, rfl⟩ := Open.len3 xl0
  have wa0_0 : (Lit.int .i64 a0_0).wf = true := xw0 _ (by simp)
  have wa0_1 : (Lit.int .i64 a0_1).wf = true := xw0 _ (by simp)
  have wa0_2 : (Lit.int .i64 a0_2).wf = true := xw0 _ (by simp)
  have k1 := h1
  have lt1 : ∀ x ∈ p1, x.block < W.heap.size := by obtain ⟨m, hm⟩ := k1; exact DataW.trod_lt m _ _ _ hm
  obtain ⟨x1, rfl, xl1, xw1⟩ := Open.open_struct_ints Try.underlying35 (by kernel_rfl) (by kernel_rfl) Try.underlying3 (by kernel_rfl) (hval 1 35 v1 rfl rfl) h1
  obtain ⟨a1_0, a1_1, a1_2, rfl⟩ := Open.len3 xl1
  have wa1_0 : (Lit.int .i64 a1_0).wf = true := xw1 _ (by simp)
  have wa1_1 : (Lit.int .i64 a1_1).wf = true := xw1 _ (by simp)
  have wa1_2 : (Lit.int .i64 a1_2).wf = true := xw1 _ (by simp)
  have k2 := h2
  have lt2 : ∀ x ∈ p2, x.block < W.heap.size := by obtain ⟨m, hm⟩ := k2; exact DataW.trod_lt m _ _ _ hm
  have e2 : ∃ a : Int, v2 = .int .i64 a ∧ (Lit.int .i64 a).wf = true := by
    obtain ⟨a, ha, _, _, wa⟩ := open_int Try.underlying3 (hval 2 3 v2 rfl rfl) h2
    exact ⟨a, ha, wa⟩
  obtain ⟨a2, rfl, wa2⟩ := e2
  have k3 := h3
  have lt3 : ∀ x ∈ p3, x.block < W.heap.size := by obtain ⟨m, hm⟩ := k3; exact DataW.trod_lt m _ _ _ hm
  have e3 : ∃ a : Int, v3 = .int .i64 a ∧ (Lit.int .i64 a).wf = true := by
    obtain ⟨a, ha, _, _, wa⟩ := open_int Try.underlying3 (hval 3 3 v3 rfl rfl) h3
    exact ⟨a, ha, wa⟩
  obtain ⟨a3, rfl, wa3⟩ := e3
  clear hA0 hval0
  refine (PFnExactExplainGain.laws_FnExactExplainGain.calls a0_0 a0_1 a0_2 a1_0 a1_1 a1_2 a2 a3 true W (Pure.FnExactExplainGain a0_0 a0_1 a0_2 a1_0 a1_1 a1_2 a2 a3 wa0_0 wa0_1 wa0_2 wa1_0 wa1_1 wa1_2 wa2 wa3)).mono fun e W' ⟨he, bel⟩ => ?_
  subst he
  exact ⟨_, rfl, _, _, _, [], _, [], hW', trodAll_mk1 (shut_bool Try.underlying4 _), (trodAll_cons_mk (Below.trod laidOut (by kernel_rfl) (of_decide_eq_true (by kernel_rfl)) k0 bel lt0) (trodAll_cons_mk (Below.trod laidOut (by kernel_rfl) (of_decide_eq_true (by kernel_rfl)) k1 bel lt1) (trodAll_cons_mk (Below.trod laidOut (by kernel_rfl) (of_decide_eq_true (by kernel_rfl)) k2 bel lt2) (trodAll_cons_mk (Below.trod laidOut (by kernel_rfl) (of_decide_eq_true (by kernel_rfl)) k3 bel lt3) trodAll_mk0)))), rfl, bel.frame _, fun h => by cases h⟩
theorem over : Rows.fnExactExplainGainRow.holds Try.pinned (OpenSpec.ofChange Rows.fnExactExplainGainSpec) :=
  OpenClaim.holds_of_wide 8 Try.f8 rfl rfl rfl rfl rfl rfl rfl ⟨rfl, rfl, rfl, rfl, rfl⟩ rfl rfl rfl rfl rfl (by kernel_rfl) Try.func8 (by kernel_rfl)
    (of_decide_eq_true (by kernel_rfl)) (by unfold Func.isWrapper; first | (rw [if_pos (by decide +kernel)]; kernel_rfl) | (rw [if_neg (by decide +kernel)]; exact ⟨rfl, rfl⟩))
    (fun os started H enc _ => lifted os started H enc)
theorem proved : Rows.FnExactExplainGainSaid := over
end Go.Proofs.Ytobkncpmkiaggaa.fnExactExplainGain
namespace Go.Proofs.Ytobkncpmkiaggaa
/-- The row, under a short name, for the claim. -/
theorem fnExactExplainGain_holds : Rows.FnExactExplainGainSaid := fnExactExplainGain.proved
#print axioms fnExactExplainGain_holds
end Go.Proofs.Ytobkncpmkiaggaa

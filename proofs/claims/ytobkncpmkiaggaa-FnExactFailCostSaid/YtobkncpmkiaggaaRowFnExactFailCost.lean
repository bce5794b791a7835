/- FnExactFailCost holds at every input: the row, over the printed functions. Conditions: none. -/
import Derived.Test.YtobkncpmkiaggaaRows
import Derived.Test.YtobkncpmkiaggaaPFnExactFailCostx1
import Derived.Test.YtobkncpmkiaggaaPureFnExactFailCost
import Derived.Test.YtobkncpmkiaggaaOpen
import Derived.WalkKit
import Derived.ProofKit
import Derived.OpenShut
import Derived.ShutString
import Derived.ChangeOld
import Derived.Below
import Derived.SizedLaws
namespace Go.Proofs.Ytobkncpmkiaggaa.fnExactFailCost
open Go.ChangeShapes Go.WideShapes Go.ChangeAt Go.RowKit
set_option linter.unusedVariables false
theorem own : ownKnob Try.prog.godebug = none := by kernel_rfl
theorem laidOut : laidOutB Try.prog = true := by kernel_rfl
set_option maxRecDepth 100000 in
theorem lifted (os : Os) (started : os.Started) (H : Type) (enc : TypeId × Value → H) :
    ReturnsInHanded {} Try.checked os 9 .any (Rows.fnExactFailCostSpec.pre6 enc Try.prog Try.f9 Rows.fnExactFailCostRow.domain false) (Rows.fnExactFailCostSpec.post enc Try.prog Try.f9 false true false false) := by
  refine returnsInHanded_of_change (C := Try.checked) own started (by kernel_rfl) Try.func9
    (ChangeSpec.witness6 (enc := enc) (C := Try.checked) false ⟨#[], #[.agg #[.int .i64 0, .int .i64 0, .int .i64 0], .int .i64 0, .int .i64 0], []⟩ 8 (by kernel_rfl) (by kernel_rfl) (by kernel_rfl) (by kernel_rfl)) ?_
  intro W base args ds gs before hval0 hW hcnd _
  have hval : ∀ (j : Nat) t v, Try.f9.params[j]? = some t → args[j]? = some v → Value.okWide Try.prog W .any base t v := hval0
  have hW' := hW
  obtain ⟨p, q, hA0, hV, rfl, hfz, hnd⟩ := hW
  have hA : DataW.TrodAll enc Try.prog W 0 (fun _ => true) true Try.f9.params.toList args.toList ds p := hA0
  rw [Try.params9] at hA hval
  obtain ⟨v0, vs0, d0, ds0, p0, q0, hargs, rfl, rfl, h0, r0⟩ := trodAll_cons hA
  obtain ⟨v1, vs1, d1, ds1, p1, q1, rfl, rfl, rfl, h1, r1⟩ := trodAll_cons r0
  obtain ⟨v2, vs2, d2, ds2, p2, q2, rfl, rfl, rfl, h2, r2⟩ := trodAll_cons r1
  obtain ⟨rfl, rfl, rfl⟩ := trodAll_nil r2
  obtain rfl : args = #[v0, v1, v2] := by cases args; simp_all
  obtain ⟨rfl, rfl⟩ := trodVars_none hV
  have k0 := h0
  have lt0 : ∀ x ∈ p0, x.block < W.heap.size := by obtain ⟨m, hm⟩ := k0; exact DataW.trod_lt m _ _ _ hm
  obtain ⟨x0, rfl, xl0, xw0⟩ := Open.open_struct_ints Try.underlying51 (by kernel_rfl) (by kernel_rfl) Try.underlying3 (by kernel_rfl) (hval 0 51 v0 rfl rfl) h0
  obtain ⟨a0_0, a0_1, a0_2, rfl⟩ := Open.len3 xl0
  have wa0_0 : (Lit.int .i64 a0_0).wf = true := xw0 _ (by simp)
  have wa0_1 : (Lit.int .i64 a0_1).wf = true := xw0 _ (by simp)
  have wa0_2 : (Lit.int .i64 a0_2).wf = true := xw0 _ (by simp)
  have k1 := h1
  have lt1 : ∀ x ∈ p1, x.block < W.heap.size := by obtain ⟨m, hm⟩ := k1; exact DataW.trod_lt m _ _ _ hm
  have e1 : ∃ a : Int, v1 = .int .i64 a ∧ (Lit.int .i64 a).wf = true := by
    obtain ⟨a, ha, _, _, wa⟩ := open_int Try.underlying3 (hval 1 3 v1 rfl rfl) h1
    exact ⟨a, ha, wa⟩
  obtain ⟨a1, rfl, wa1⟩ := e1
  have k2 := h2
  have lt2 : ∀ x ∈ p2, x.block < W.heap.size := by obtain ⟨m, hm⟩ := k2; exact DataW.trod_lt m _ _ _ hm
  have e2 : ∃ a : Int, v2 = .int .i64 a ∧ (Lit.int .i64 a).wf = true := by
    obtain ⟨a, ha, _, _, wa⟩ := open_int Try.underlying3 (hval 2 3 v2 rfl rfl) h2
    exact ⟨a, ha, wa⟩
  obtain ⟨a2, rfl, wa2⟩ := e2
  clear hA0 hval0
  obtain ⟨k, hk⟩ := Pure.FnExactFailCost a0_0 a0_1 a0_2 a1 a2 wa0_0 wa0_1 wa0_2 wa1 wa2
  refine (PFnExactFailCost.laws_FnExactFailCost.calls k a0_0 a0_1 a0_2 a1 a2 true W hk).mono fun e W' ⟨he, bel⟩ => ?_
  subst he
  exact ⟨_, rfl, _, _, _, [], _, [], hW', trodAll_mk1 (shut_bool Try.underlying4 _), (trodAll_cons_mk (Below.trod laidOut (by kernel_rfl) (of_decide_eq_true (by kernel_rfl)) k0 bel lt0) (trodAll_cons_mk (Below.trod laidOut (by kernel_rfl) (of_decide_eq_true (by kernel_rfl)) k1 bel lt1) (trodAll_cons_mk (Below.trod laidOut (by kernel_rfl) (of_decide_eq_true (by kernel_rfl)) k2 bel lt2) trodAll_mk0))), rfl, bel.frame _, fun h => by cases h⟩
theorem over : Rows.fnExactFailCostRow.holds Try.pinned (OpenSpec.ofChange Rows.fnExactFailCostSpec) :=
  OpenClaim.holds_of_wide 9 Try.f9 rfl rfl rfl rfl rfl rfl rfl ⟨rfl, rfl, rfl, rfl, rfl⟩ rfl rfl rfl rfl rfl (by kernel_rfl) Try.func9 (by kernel_rfl)
    (of_decide_eq_true (by kernel_rfl)) (by unfold Func.isWrapper; first | (rw [if_pos (by decide +kernel)]; kernel_rfl) | (rw [if_neg (by decide +kernel)]; exact ⟨rfl, rfl⟩))
    (fun os started H enc _ => lifted os started H enc)
theorem proved : Rows.FnExactFailCostSaid := over
end Go.Proofs.Ytobkncpmkiaggaa.fnExactFailCost
namespace Go.Proofs.Ytobkncpmkiaggaa
/-- The row, under a short name, for the claim. -/
theorem fnExactFailCost_holds : Rows.FnExactFailCostSaid := fnExactFailCost.proved
#print axioms fnExactFailCost_holds
end Go.Proofs.Ytobkncpmkiaggaa

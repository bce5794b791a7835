/- The functions that FnExactExplainGain reaches, each with a proof that the call does what it says; a part of that statement's proof. Conditions: none. -/
import Derived.Test.YtobkncpmkiaggaaQFnExactExplainGainy0
import Derived.Test.YtobkncpmkiaggaaQFnExactExplainGainy1
import Derived.Test.YtobkncpmkiaggaaQFnExactExplainGainy2
namespace Go.Proofs.Ytobkncpmkiaggaa.PFnExactExplainGain
open Go.RowKit Go.Proofs.YtobkncpmkiaggaaW.PrintWords Go.Proofs.YtobkncpmkiaggaaW.PrintLast Go.Proofs.YtobkncpmkiaggaaW.PrintMore
attribute [local go_sem] max2_int min2_int max_two min_two max_three min_three max_four min_four   -- for this text's walks alone
set_option linter.unusedVariables false
set_option linter.unusedSimpArgs false

set_option maxHeartbeats 8000000 in
set_option maxRecDepth 100000 in
theorem laws_FnExactExplainGain.calls (a0_0 : Int) (a0_1 : Int) (a0_2 : Int) (a1_0 : Int) (a1_1 : Int) (a1_2 : Int) (a2 : Int) (a3 : Int) (r : Bool) (w : World) (h : laws_FnExactExplainGain.f a0_0 a0_1 a0_2 a1_0 a1_1 a1_2 a2 a3 = some r) :
    Calls Try.prog 8 #[.agg #[.int .i64 a0_0, .int .i64 a0_1, .int .i64 a0_2], .agg #[.int .i64 a1_0, .int .i64 a1_1, .int .i64 a1_2], .int .i64 a2, .int .i64 a3] w fun e w' => e = .returned (.bool r) ∧ Below w.heap.size w w' := by
  have hu35 := Try.underlying35
  have hu46 := Try.underlying46
  have HB := Aside0.mk (Below.refl w.heap.size w)
  have H : ((laws_toMark.f a0_0 a0_1 a0_2).bind fun bt139 => ((laws_toMark.f a1_0 a1_1 a1_2).bind fun bt142 => ((spec_ExplainGain.f bt139.1 bt139.2.1 bt139.2.2 bt142.1 bt142.2.1 bt142.2.2 a2 a3).bind fun bt145 => ((laws_toMark.f a0_0 a0_1 a0_2).bind fun bt150 => ((laws_toMark.f a1_0 a1_1 a1_2).bind fun bt153 => ((impl_ExplainGain.f bt150.1 bt150.2.1 bt150.2.2 bt153.1 bt153.2.1 bt153.2.2 a2 a3).bind fun bt156 => ((laws_eqParts.f bt156.1 bt156.2.1 bt156.2.2.1 bt145.1 bt145.2.1 bt145.2.2.1).bind fun t161 => (if t161 = true then (if (bt156.2.2.2 != bt145.2.2.2) = true then (some false) else (some true)) else (some false))))))))) = some r := h
  clear h
  replace H := Option.bind_eq_some_iff.mp H
  obtain ⟨⟨t139, t140, t141⟩, A50, H⟩ := H
  replace H : ((laws_toMark.f a1_0 a1_1 a1_2).bind fun bt142 => ((spec_ExplainGain.f t139 t140 t141 bt142.1 bt142.2.1 bt142.2.2 a2 a3).bind fun bt145 => ((laws_toMark.f a0_0 a0_1 a0_2).bind fun bt150 => ((laws_toMark.f a1_0 a1_1 a1_2).bind fun bt153 => ((impl_ExplainGain.f bt150.1 bt150.2.1 bt150.2.2 bt153.1 bt153.2.1 bt153.2.2 a2 a3).bind fun bt156 => ((laws_eqParts.f bt156.1 bt156.2.1 bt156.2.2.1 bt145.1 bt145.2.1 bt145.2.2.1).bind fun t161 => (if t161 = true then (if (bt156.2.2.2 != bt145.2.2.2) = true then (some false) else (some true)) else (some false)))))))) = some r := H
  have A5 := Aside0.mk A50
  clear A50
  replace H := Option.bind_eq_some_iff.mp H
  obtain ⟨⟨t142, t143, t144⟩, A60, H⟩ := H
  replace H : ((spec_ExplainGain.f t139 t140 t141 t142 t143 t144 a2 a3).bind fun bt145 => ((laws_toMark.f a0_0 a0_1 a0_2).bind fun bt150 => ((laws_toMark.f a1_0 a1_1 a1_2).bind fun bt153 => ((impl_ExplainGain.f bt150.1 bt150.2.1 bt150.2.2 bt153.1 bt153.2.1 bt153.2.2 a2 a3).bind fun bt156 => ((laws_eqParts.f bt156.1 bt156.2.1 bt156.2.2.1 bt145.1 bt145.2.1 bt145.2.2.1).bind fun t161 => (if t161 = true then (if (bt156.2.2.2 != bt145.2.2.2) = true then (some false) else (some true)) else (some false))))))) = some r := H
  have A6 := Aside0.mk A60
  clear A60
  replace H := Option.bind_eq_some_iff.mp H
  obtain ⟨⟨t145, t146, t147, t148⟩, A70, H⟩ := H
  replace H : ((laws_toMark.f a0_0 a0_1 a0_2).bind fun bt150 => ((laws_toMark.f a1_0 a1_1 a1_2).bind fun bt153 => ((impl_ExplainGain.f bt150.1 bt150.2.1 bt150.2.2 bt153.1 bt153.2.1 bt153.2.2 a2 a3).bind fun bt156 => ((laws_eqParts.f bt156.1 bt156.2.1 bt156.2.2.1 t145 t146 t147).bind fun t161 => (if t161 = true then (if (bt156.2.2.2 != t148) = true then (some false) else (some true)) else (some false)))))) = some r := H
  have A7 := Aside0.mk A70
  clear A70
  replace H := Option.bind_eq_some_iff.mp H
  obtain ⟨⟨t150, t151, t152⟩, A80, H⟩ := H
  replace H : ((laws_toMark.f a1_0 a1_1 a1_2).bind fun bt153 => ((impl_ExplainGain.f t150 t151 t152 bt153.1 bt153.2.1 bt153.2.2 a2 a3).bind fun bt156 => ((laws_eqParts.f bt156.1 bt156.2.1 bt156.2.2.1 t145 t146 t147).bind fun t161 => (if t161 = true then (if (bt156.2.2.2 != t148) = true then (some false) else (some true)) else (some false))))) = some r := H
  have A8 := Aside0.mk A80
  clear A80
  replace H := Option.bind_eq_some_iff.mp H
  obtain ⟨⟨t153, t154, t155⟩, A90, H⟩ := H
  replace H : ((impl_ExplainGain.f t150 t151 t152 t153 t154 t155 a2 a3).bind fun bt156 => ((laws_eqParts.f bt156.1 bt156.2.1 bt156.2.2.1 t145 t146 t147).bind fun t161 => (if t161 = true then (if (bt156.2.2.2 != t148) = true then (some false) else (some true)) else (some false)))) = some r := H
  have A9 := Aside0.mk A90
  clear A90
  replace H := Option.bind_eq_some_iff.mp H
  obtain ⟨⟨t156, t157, t158, t159⟩, A100, H⟩ := H
  replace H : ((laws_eqParts.f t156 t157 t158 t145 t146 t147).bind fun t161 => (if t161 = true then (if (t159 != t148) = true then (some false) else (some true)) else (some false))) = some r := H
  have A10 := Aside0.mk A100
  clear A100
  replace H := Option.bind_eq_some_iff.mp H
  obtain ⟨t161, A110, H⟩ := H
  replace H : (if t161 = true then (if (t159 != t148) = true then (some false) else (some true)) else (some false)) = some r := H
  have A11 := Aside0.mk A110
  clear A110
  by_cases c12 : t161 = true
  · subst c12
    have H1 : (if (t159 != t148) = true then (some false) else (some true)) = some r := by rw [if_pos rfl] at H; exact H
    clear H
    have H := H1
    clear H1
    by_cases c13 : (t159 != t148) = true
    · rw [if_pos c13] at H
      have c13b0 : (t159 != t148) = true := c13
      (try (have c13b1 : decide (t159 = t148) = false := by simpa using c13))
      (try (have c13b2 : (t159 == t148) = false := by simpa using c13))
      (try (have c13b3 : ¬ (t159 = t148) := by simpa using c13))
      exact laws_FnExactExplainGain.way0 a0_0 a0_1 a0_2 a1_0 a1_1 a1_2 a2 a3 r w _ _ _ _ _ _ _ _ _ _ _ _ _ _ _ _ _ _ _ _ _ A5 A6 A7 A8 A9 A10 A11 rfl c13 H
    · rw [if_neg c13] at H
      have c13b0 : (t159 != t148) = false := by simpa using c13
      (try (have c13b1 : decide (t159 = t148) = true := by simpa using c13))
      (try (have c13b2 : (t159 == t148) = true := by simpa using c13))
      exact laws_FnExactExplainGain.way1 a0_0 a0_1 a0_2 a1_0 a1_1 a1_2 a2 a3 r w _ _ _ _ _ _ _ _ _ _ _ _ _ _ _ _ _ _ _ _ _ A5 A6 A7 A8 A9 A10 A11 rfl c13 H
  · replace c12 := Bool.eq_false_iff.mpr c12
    subst c12
    have H1 : (some false) = some r := by rw [if_neg (show ¬ (false = true) by decide)] at H; exact H
    clear H
    have H := H1
    clear H1
    exact laws_FnExactExplainGain.way2 a0_0 a0_1 a0_2 a1_0 a1_1 a1_2 a2 a3 r w _ _ _ _ _ _ _ _ _ _ _ _ _ _ _ _ _ _ _ _ _ A5 A6 A7 A8 A9 A10 A11 (by decide) H

end Go.Proofs.Ytobkncpmkiaggaa.PFnExactExplainGain

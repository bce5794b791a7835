/- The functions that FnExactMulRatio reaches, each with a proof that the call does what it says; a part of that statement's proof. Conditions: none. -/
import Derived.Test.YtekaceennnphfaaQFnExactMulRatioy0
import Derived.Test.YtekaceennnphfaaQFnExactMulRatioy1
import Derived.Test.YtekaceennnphfaaQFnExactMulRatioy2
namespace Go.Proofs.Ytekaceennnphfaa.PFnExactMulRatio
open Go.RowKit Go.Proofs.YtekaceennnphfaaW.PrintWords Go.Proofs.YtekaceennnphfaaW.PrintLast Go.Proofs.YtekaceennnphfaaW.PrintMore
attribute [local go_sem] max2_int min2_int max_two min_two max_three min_three max_four min_four   -- for this text's walks alone
set_option linter.unusedVariables false
set_option linter.unusedSimpArgs false

set_option maxHeartbeats 8000000 in
set_option maxRecDepth 100000 in
theorem laws_FnExactMulRatio.calls (k : Nat) (a0_0 : Int) (a0_1 : Int) (a1_0 : Int) (a1_1 : Int) (r : Bool) (w : World) (h : laws_FnExactMulRatio.f k a0_0 a0_1 a1_0 a1_1 = some r) :
    Calls Try.prog 6 #[.agg #[.int .i64 a0_0, .int .i64 a0_1], .agg #[.int .i64 a1_0, .int .i64 a1_1]] w fun e w' => e = .returned (.bool r) ∧ Below w.heap.size w w' := by
  have hu28 := Try.underlying28
  have hu23 := Try.underlying23
  have HB := Aside0.mk (Below.refl w.heap.size w)
  have H : ((laws_toRatio.f a0_0 a0_1).bind fun bt145 => ((laws_toRatio.f a1_0 a1_1).bind fun bt147 => ((spec_MulRatio.f k bt145.1 bt145.2 bt147.1 bt147.2).bind fun bt149 => ((laws_toRatio.f a0_0 a0_1).bind fun bt153 => ((laws_toRatio.f a1_0 a1_1).bind fun bt155 => ((impl_MulRatio.f k bt153.1 bt153.2 bt155.1 bt155.2).bind fun bt157 => ((laws_eqRatio.f bt157.1 bt157.2.1 bt149.1 bt149.2.1).bind fun t161 => (if t161 = true then (if (bt157.2.2 != bt149.2.2) = true then (some false) else (some true)) else (some false))))))))) = some r := h
  clear h
  replace H := Option.bind_eq_some_iff.mp H
  obtain ⟨⟨t145, t146⟩, A30, H⟩ := H
  replace H : ((laws_toRatio.f a1_0 a1_1).bind fun bt147 => ((spec_MulRatio.f k t145 t146 bt147.1 bt147.2).bind fun bt149 => ((laws_toRatio.f a0_0 a0_1).bind fun bt153 => ((laws_toRatio.f a1_0 a1_1).bind fun bt155 => ((impl_MulRatio.f k bt153.1 bt153.2 bt155.1 bt155.2).bind fun bt157 => ((laws_eqRatio.f bt157.1 bt157.2.1 bt149.1 bt149.2.1).bind fun t161 => (if t161 = true then (if (bt157.2.2 != bt149.2.2) = true then (some false) else (some true)) else (some false)))))))) = some r := H
  have A3 := Aside0.mk A30
  clear A30
  replace H := Option.bind_eq_some_iff.mp H
  obtain ⟨⟨t147, t148⟩, A40, H⟩ := H
  replace H : ((spec_MulRatio.f k t145 t146 t147 t148).bind fun bt149 => ((laws_toRatio.f a0_0 a0_1).bind fun bt153 => ((laws_toRatio.f a1_0 a1_1).bind fun bt155 => ((impl_MulRatio.f k bt153.1 bt153.2 bt155.1 bt155.2).bind fun bt157 => ((laws_eqRatio.f bt157.1 bt157.2.1 bt149.1 bt149.2.1).bind fun t161 => (if t161 = true then (if (bt157.2.2 != bt149.2.2) = true then (some false) else (some true)) else (some false))))))) = some r := H
  have A4 := Aside0.mk A40
  clear A40
  replace H := Option.bind_eq_some_iff.mp H
  obtain ⟨⟨t149, t150, t151⟩, A50, H⟩ := H
  replace H : ((laws_toRatio.f a0_0 a0_1).bind fun bt153 => ((laws_toRatio.f a1_0 a1_1).bind fun bt155 => ((impl_MulRatio.f k bt153.1 bt153.2 bt155.1 bt155.2).bind fun bt157 => ((laws_eqRatio.f bt157.1 bt157.2.1 t149 t150).bind fun t161 => (if t161 = true then (if (bt157.2.2 != t151) = true then (some false) else (some true)) else (some false)))))) = some r := H
  have A5 := Aside0.mk A50
  clear A50
  replace H := Option.bind_eq_some_iff.mp H
  obtain ⟨⟨t153, t154⟩, A60, H⟩ := H
  replace H : ((laws_toRatio.f a1_0 a1_1).bind fun bt155 => ((impl_MulRatio.f k t153 t154 bt155.1 bt155.2).bind fun bt157 => ((laws_eqRatio.f bt157.1 bt157.2.1 t149 t150).bind fun t161 => (if t161 = true then (if (bt157.2.2 != t151) = true then (some false) else (some true)) else (some false))))) = some r := H
  have A6 := Aside0.mk A60
  clear A60
  replace H := Option.bind_eq_some_iff.mp H
  obtain ⟨⟨t155, t156⟩, A70, H⟩ := H
  replace H : ((impl_MulRatio.f k t153 t154 t155 t156).bind fun bt157 => ((laws_eqRatio.f bt157.1 bt157.2.1 t149 t150).bind fun t161 => (if t161 = true then (if (bt157.2.2 != t151) = true then (some false) else (some true)) else (some false)))) = some r := H
  have A7 := Aside0.mk A70
  clear A70
  replace H := Option.bind_eq_some_iff.mp H
  obtain ⟨⟨t157, t158, t159⟩, A80, H⟩ := H
  replace H : ((laws_eqRatio.f t157 t158 t149 t150).bind fun t161 => (if t161 = true then (if (t159 != t151) = true then (some false) else (some true)) else (some false))) = some r := H
  have A8 := Aside0.mk A80
  clear A80
  replace H := Option.bind_eq_some_iff.mp H
  obtain ⟨t161, A90, H⟩ := H
  replace H : (if t161 = true then (if (t159 != t151) = true then (some false) else (some true)) else (some false)) = some r := H
  have A9 := Aside0.mk A90
  clear A90
  by_cases c10 : t161 = true
  · subst c10
    have H1 : (if (t159 != t151) = true then (some false) else (some true)) = some r := by rw [if_pos rfl] at H; exact H
    clear H
    have H := H1
    clear H1
    by_cases c11 : (t159 != t151) = true
    · rw [if_pos c11] at H
      have c11b0 : (t159 != t151) = true := c11
      (try (have c11b1 : decide (t159 = t151) = false := by simpa using c11))
      (try (have c11b2 : (t159 == t151) = false := by simpa using c11))
      (try (have c11b3 : ¬ (t159 = t151) := by simpa using c11))
      exact laws_FnExactMulRatio.way0 k a0_0 a0_1 a1_0 a1_1 r w _ _ _ _ _ _ _ _ _ _ _ _ _ _ _ A3 A4 A5 A6 A7 A8 A9 rfl c11 H
    · rw [if_neg c11] at H
      have c11b0 : (t159 != t151) = false := by simpa using c11
      (try (have c11b1 : decide (t159 = t151) = true := by simpa using c11))
      (try (have c11b2 : (t159 == t151) = true := by simpa using c11))
      exact laws_FnExactMulRatio.way1 k a0_0 a0_1 a1_0 a1_1 r w _ _ _ _ _ _ _ _ _ _ _ _ _ _ _ A3 A4 A5 A6 A7 A8 A9 rfl c11 H
  · replace c10 := Bool.eq_false_iff.mpr c10
    subst c10
    have H1 : (some false) = some r := by rw [if_neg (show ¬ (false = true) by decide)] at H; exact H
    clear H
    have H := H1
    clear H1
    exact laws_FnExactMulRatio.way2 k a0_0 a0_1 a1_0 a1_1 r w _ _ _ _ _ _ _ _ _ _ _ _ _ _ _ A3 A4 A5 A6 A7 A8 A9 (by decide) H

end Go.Proofs.Ytekaceennnphfaa.PFnExactMulRatio

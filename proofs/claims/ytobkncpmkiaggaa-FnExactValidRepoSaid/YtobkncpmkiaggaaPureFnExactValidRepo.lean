/- What the printed functions of FnExactValidRepo compute is true at every input. Conditions: none beyond the arguments' kinds. -/
import Derived.Test.YtobkncpmkiaggaaPFnExactValidRepox1
import Derived.OpenShut
namespace Go.Proofs.Ytobkncpmkiaggaa.Pure
open Go.RowKit Go.Proofs.Ytobkncpmkiaggaa.PFnExactValidRepo Go.Proofs.YtobkncpmkiaggaaW.PrintWords Go.Proofs.YtobkncpmkiaggaaW.PrintLast Go.Proofs.YtobkncpmkiaggaaW.PrintMore
set_option linter.unusedVariables false
set_option linter.unusedSimpArgs false

namespace FnExactValidRepoLaw
theorem w64 {n : Int} (h1 : -9223372036854775808 ≤ n) (h2 : n ≤ 9223372036854775807) : wrap64 n = n := by
  unfold wrap64
  omega

theorem inR (a l h : Int) : spec_inRange.f a l h = some (decide (l ≤ a ∧ a ≤ h)) := by
  unfold spec_inRange.f
  split <;> simp only [true_and, false_and, decide_false, *]

/-- What a valid loan is. -/
def vRepo (c r f t h : Int) : Bool := decide (1 ≤ c ∧ c ≤ 100000000 ∧ 0 ≤ r ∧ r ≤ 3000 ∧ 0 ≤ f ∧ f ≤ 36524 ∧ f ≤ t ∧ t ≤ 36524 ∧ t ≤ f + 4000 ∧ 0 ≤ h ∧ h ≤ 500)

theorem sRepo (c r f t h : Int) : spec_validRepo.f c r f t h = some (vRepo c r f t h) := by
  unfold spec_validRepo.f vRepo
  simp only [inR, Option.bind_some, decide_eq_true_eq]
  by_cases h1 : 0 ≤ f ∧ f ≤ 36524
  · have hw : wrap64 (f + 4000) = f + 4000 := w64 (by omega) (by omega)
    have hm : mn 36524 (f + 4000) ≤ 36524 ∧ mn 36524 (f + 4000) ≤ f + 4000 ∧ (mn 36524 (f + 4000) = 36524 ∨ mn 36524 (f + 4000) = f + 4000) := by
      unfold mn
      split <;> omega
    simp only [hw]
    repeat' split
    all_goals (simp only [Option.some.injEq, decide_eq_decide]; try simp only [eq_comm (a := false), decide_eq_false_iff_not])
    all_goals omega
  · simp only [h1, if_false]
    repeat' split
    all_goals (simp only [Option.some.injEq]; simp only [eq_comm (a := false), decide_eq_false_iff_not])
    all_goals omega

theorem wi (a l h : Int) : impl_within.f a l h = some (decide (l ≤ a ∧ a ≤ h)) := by
  unfold impl_within.f
  split <;> rename_i hc <;> simp <;> omega

theorem iRate (n : Int) : impl_rateValid.f n = some (decide (0 ≤ n ∧ n ≤ 3000)) := by
  unfold impl_rateValid.f
  rw [wi]
  rfl

theorem iDay (n : Int) : impl_dayValid.f n = some (decide (0 ≤ n ∧ n ≤ 36524)) := by
  unfold impl_dayValid.f
  rw [wi]
  rfl

theorem iSpan (f t : Int) : impl_spanValid.f f t = some (decide (0 ≤ f ∧ f ≤ 36524 ∧ 0 ≤ t ∧ t ≤ 36524 ∧ f ≤ t ∧ t ≤ f + 4000)) := by
  unfold impl_spanValid.f
  simp only [iDay, wi, Option.bind_some, decide_eq_true_eq]
  split
  · split
    · have hw : wrap64 (t - f) = t - f := w64 (by omega) (by omega)
      simp only [hw, Option.some.injEq, decide_eq_decide]
      omega
    · simp only [Option.some.injEq, eq_comm (a := false), decide_eq_false_iff_not]
      omega
  · simp only [Option.some.injEq, eq_comm (a := false), decide_eq_false_iff_not]
    omega

theorem iRepo (c r f t h : Int) : impl_ValidRepo.f c r f t h = some (vRepo c r f t h) := by
  unfold impl_ValidRepo.f vRepo
  simp only [wi, iRate, iSpan, Option.bind_some, decide_eq_true_eq]
  repeat' split
  all_goals (simp only [Option.some.injEq, decide_eq_decide]; try simp only [eq_comm (a := false), decide_eq_false_iff_not])
  all_goals omega

end FnExactValidRepoLaw
open FnExactValidRepoLaw

theorem FnExactValidRepo : ∀ (a0_0 : Int) (a0_1 : Int) (a0_2 : Int) (a0_3 : Int) (a0_4 : Int), (Lit.int .i64 a0_0).wf = true → (Lit.int .i64 a0_1).wf = true → (Lit.int .i64 a0_2).wf = true → (Lit.int .i64 a0_3).wf = true → (Lit.int .i64 a0_4).wf = true → laws_FnExactValidRepo.f a0_0 a0_1 a0_2 a0_3 a0_4 = some true := by
  intro c r f t h _ _ _ _ _
  unfold laws_FnExactValidRepo.f laws_toRepo.f spec_ValidRepo.f
  simp [sRepo, iRepo]

end Go.Proofs.Ytobkncpmkiaggaa.Pure

/- What the printed functions of FnExactWorthOf compute is true at every input. Conditions: none beyond the arguments' kinds. -/
import Derived.Test.YtobkncpmkiaggaaPFnExactWorthOfx1
import Derived.OpenShut
namespace Go.Proofs.Ytobkncpmkiaggaa.Pure
open Go.RowKit Go.Proofs.Ytobkncpmkiaggaa.PFnExactWorthOf Go.Proofs.YtobkncpmkiaggaaW.PrintWords Go.Proofs.YtobkncpmkiaggaaW.PrintLast Go.Proofs.YtobkncpmkiaggaaW.PrintMore
set_option linter.unusedVariables false
set_option linter.unusedSimpArgs false

namespace FnExactWorthOfLaw
theorem inR (a l h : Int) : spec_inRange.f a l h = some (decide (l ≤ a ∧ a ≤ h)) := by
  unfold spec_inRange.f
  split <;> simp only [true_and, false_and, decide_false, *]

/-- What a valid position is. -/
def vMark (m c a : Int) : Bool := decide (-9999 ≤ m ∧ m ≤ 9999 ∧ 0 ≤ c ∧ c ≤ 50000 ∧ 0 ≤ a ∧ a ≤ 50000)

theorem sMark (m c a : Int) : spec_validMark.f m c a = some (vMark m c a) := by
  unfold spec_validMark.f vMark
  simp only [inR, Option.bind_some, decide_eq_true_eq]
  repeat' split
  all_goals (simp only [Option.some.injEq, decide_eq_decide]; try simp only [eq_comm (a := false), decide_eq_false_iff_not])
  all_goals omega

theorem w64 {n : Int} (h1 : -9223372036854775808 ≤ n) (h2 : n ≤ 9223372036854775807) : wrap64 n = n := by
  unfold wrap64
  omega

theorem mul_bd {a b A B : Int} (h0 : 0 ≤ a) (h1 : a ≤ A) (h2 : 0 ≤ b) (h3 : b ≤ B) : 0 ≤ a * b ∧ a * b ≤ A * B :=
  ⟨Int.mul_nonneg h0 h2, Int.mul_le_mul h1 h3 h2 (by omega)⟩

theorem mul_abs {a b A B : Int} (h0 : -A ≤ a) (h1 : a ≤ A) (h2 : -B ≤ b) (h3 : b ≤ B) : -(A * B) ≤ a * b ∧ a * b ≤ A * B := by
  rcases Int.le_total 0 a with ha | ha <;> rcases Int.le_total 0 b with hb | hb
  · have := mul_bd ha h1 hb h3
    omega
  · have := mul_bd ha h1 (show 0 ≤ -b by omega) (show -b ≤ B by omega)
    rw [Int.mul_neg] at this
    omega
  · have := mul_bd (show 0 ≤ -a by omega) (show -a ≤ A by omega) hb h3
    rw [Int.neg_mul] at this
    omega
  · have := mul_bd (show 0 ≤ -a by omega) (show -a ≤ A by omega) (show 0 ≤ -b by omega) (show -b ≤ B by omega)
    rw [Int.neg_mul_neg] at this
    omega

theorem mark_of {m c a : Int} (h : vMark m c a = true) : -9999 ≤ m ∧ m ≤ 9999 ∧ 0 ≤ c ∧ c ≤ 50000 ∧ 0 ≤ a ∧ a ≤ 50000 := of_decide_eq_true h
theorem mark_mul {m x : Int} (h1 : -9999 ≤ m) (h2 : m ≤ 9999) (h3 : -200000 ≤ x) (h4 : x ≤ 200000) : -1999800000 ≤ m * x ∧ m * x ≤ 1999800000 := mul_abs h1 h2 h3 h4

theorem sWorth {m c a : Int} (h : vMark m c a = true) : spec_worth.f m c a = some (m * (c + a)) := by
  have hm := mark_of h
  have hp := mark_mul hm.1 hm.2.1 (show -200000 ≤ c + a by omega) (by omega)
  unfold spec_worth.f
  rw [w64 (n := c + a) (by omega) (by omega), w64 (by omega) (by omega)]

def worthOf (m c a : Int) : Int × Bool := if vMark m c a = true then (m * (c + a), true) else (0, false)

theorem sWorthOf (m c a : Int) : spec_WorthOf.f m c a = some (worthOf m c a) := by
  unfold spec_WorthOf.f worthOf
  rw [sMark]
  simp only [Option.bind_some]
  by_cases h : vMark m c a = true
  · rw [if_pos h, if_pos h, sWorth h]
    rfl
  · rw [if_neg h, if_neg h]

theorem wi (a l h : Int) : impl_within.f a l h = some (decide (l ≤ a ∧ a ≤ h)) := by
  unfold impl_within.f
  split <;> rename_i hc <;> simp <;> omega

theorem iMark (m c a : Int) : impl_Mark_valid.f m c a = some (vMark m c a) := by
  unfold impl_Mark_valid.f vMark
  simp only [wi, Option.bind_some, decide_eq_true_eq]
  repeat' split
  all_goals (simp only [Option.some.injEq, decide_eq_decide]; try simp only [eq_comm (a := false), decide_eq_false_iff_not])
  all_goals omega

theorem iWorth {m c a : Int} (h : vMark m c a = true) : impl_Mark_worth.f m c a = some (m * (c + a)) := by
  have hm := mark_of h
  have hp := mark_mul hm.1 hm.2.1 (show -200000 ≤ c + a by omega) (by omega)
  unfold impl_Mark_worth.f
  rw [w64 (n := c + a) (by omega) (by omega), w64 (by omega) (by omega)]

theorem iWorthOf (m c a : Int) : impl_WorthOf.f m c a = some (worthOf m c a) := by
  unfold impl_WorthOf.f worthOf
  rw [iMark]
  simp only [Option.bind_some]
  by_cases h : vMark m c a = true
  · rw [if_pos h, if_pos h, iWorth h]
    rfl
  · rw [if_neg h, if_neg h]

end FnExactWorthOfLaw
open FnExactWorthOfLaw

theorem FnExactWorthOf : ∀ (a0_0 : Int) (a0_1 : Int) (a0_2 : Int), (Lit.int .i64 a0_0).wf = true → (Lit.int .i64 a0_1).wf = true → (Lit.int .i64 a0_2).wf = true → laws_FnExactWorthOf.f a0_0 a0_1 a0_2 = some true := by
  intro m c a _ _ _
  unfold laws_FnExactWorthOf.f laws_toMark.f
  simp [sWorthOf, iWorthOf]

end Go.Proofs.Ytobkncpmkiaggaa.Pure

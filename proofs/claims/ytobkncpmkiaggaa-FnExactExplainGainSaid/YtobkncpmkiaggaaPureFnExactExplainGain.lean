/- What the printed functions of FnExactExplainGain compute is true at every input. Conditions: none beyond the arguments' kinds. -/
import Derived.Test.YtobkncpmkiaggaaQFnExactExplainGainx1
import Derived.OpenShut
namespace Go.Proofs.Ytobkncpmkiaggaa.Pure
open Go.RowKit Go.Proofs.Ytobkncpmkiaggaa.PFnExactExplainGain Go.Proofs.YtobkncpmkiaggaaW.PrintWords Go.Proofs.YtobkncpmkiaggaaW.PrintLast Go.Proofs.YtobkncpmkiaggaaW.PrintMore
set_option linter.unusedVariables false
set_option linter.unusedSimpArgs false

namespace FnExactExplainGainLaw
theorem w64 {n : Int} (h1 : -9223372036854775808 ≤ n) (h2 : n ≤ 9223372036854775807) : wrap64 n = n := by
  unfold wrap64
  omega

/-- What a valid position is. -/
def vMark (m c a : Int) : Bool := decide (-9999 ≤ m ∧ m ≤ 9999 ∧ 0 ≤ c ∧ c ≤ 50000 ∧ 0 ≤ a ∧ a ≤ 50000)

/-- What a valid way from a position to a later one is. -/
def stepOk (m c a m' c' a' x y : Int) : Bool := vMark m c a && (vMark m' c' a' && decide ((0 ≤ x ∧ x ≤ 50000) ∧ -1000000000 ≤ y ∧ y ≤ 1000000000))
theorem stepOk_iff {m c a m' c' a' x y : Int} : stepOk m c a m' c' a' x y = true ↔ vMark m c a = true ∧ vMark m' c' a' = true ∧ (0 ≤ x ∧ x ≤ 50000) ∧ -1000000000 ≤ y ∧ y ≤ 1000000000 := by
  unfold stepOk
  simp only [Bool.and_eq_true, decide_eq_true_eq]

theorem wi (a l h : Int) : impl_within.f a l h = some (decide (l ≤ a ∧ a ≤ h)) := by
  unfold impl_within.f
  split <;> rename_i hc <;> simp <;> omega

theorem iMark (m c a : Int) : impl_Mark_valid.f m c a = some (vMark m c a) := by
  unfold impl_Mark_valid.f vMark
  simp only [wi, Option.bind_some, decide_eq_true_eq]
  repeat' split
  all_goals (simp only [Option.some.injEq, decide_eq_decide]; try simp only [eq_comm (a := false), decide_eq_false_iff_not])
  all_goals omega

theorem iAmt (n : Int) : impl_amountValid.f n = some (decide (-1000000000 ≤ n ∧ n ≤ 1000000000)) := by
  unfold impl_amountValid.f
  rw [wi]
  rfl

theorem iStep (m c a m' c' a' x y : Int) : impl_step_valid.f m c a m' c' a' x y = some (stepOk m c a m' c' a' x y) := by
  unfold impl_step_valid.f stepOk
  simp only [iMark, wi, iAmt, Option.bind_some, decide_eq_true_eq]
  cases vMark m c a <;> cases vMark m' c' a' <;> simp only [Bool.true_and, Bool.false_and, if_true, if_false, Bool.false_eq_true]
  by_cases h : 0 ≤ x ∧ x ≤ 50000
  · simp only [h, and_self, true_and, if_true]
  · simp only [h, false_and, if_false, decide_false]

theorem mul_bd {a b A B : Int} (h0 : 0 ≤ a) (h1 : a ≤ A) (h2 : 0 ≤ b) (h3 : b ≤ B) : 0 ≤ a * b ∧ a * b ≤ A * B :=
  ⟨Int.mul_nonneg h0 h2, Int.mul_le_mul h1 h3 h2 (by omega)⟩

theorem mul_abs {a b A B : Int} (h0 : -A ≤ a) (h1 : a ≤ A) (h2 : -B ≤ b) (h3 : b ≤ B) : -(A * B) ≤ a * b ∧ a * b ≤ A * B := by
  rcases Int.le_total 0 a with ha | ha <;> rcases Int.le_total 0 b with hb | hb
  · have := mul_bd ha h1 hb h3
    omega
  · have := mul_bd ha h1 (show 0 ≤ -b by omega) (show -b ≤ B by omega)
    rw [Int.mul_neg] at this
    omega
  · have := mul_bd (show 0 ≤ -a by omega) (show -a ≤ A by omega) hb h3
    rw [Int.neg_mul] at this
    omega
  · have := mul_bd (show 0 ≤ -a by omega) (show -a ≤ A by omega) (show 0 ≤ -b by omega) (show -b ≤ B by omega)
    rw [Int.neg_mul_neg] at this
    omega

theorem mark_of {m c a : Int} (h : vMark m c a = true) : -9999 ≤ m ∧ m ≤ 9999 ∧ 0 ≤ c ∧ c ≤ 50000 ∧ 0 ≤ a ∧ a ≤ 50000 := of_decide_eq_true h
theorem mark_mul {m x : Int} (h1 : -9999 ≤ m) (h2 : m ≤ 9999) (h3 : -200000 ≤ x) (h4 : x ≤ 200000) : -1999800000 ≤ m * x ∧ m * x ≤ 1999800000 := mul_abs h1 h2 h3 h4

def explainV (m c a m' c' a' x y : Int) : Int × Int × Int × Bool := if stepOk m c a m' c' a' x y = true then (m * (a' - a + x), m * (c' - c), (m' - m) * (c' + a') - y, true) else (0, 0, 0, false)
theorem explain_bd {m c a m' c' a' x y : Int} (h : stepOk m c a m' c' a' x y = true) : (-1999800000 ≤ m * (a' - a + x) ∧ m * (a' - a + x) ≤ 1999800000) ∧ (-1999800000 ≤ m * (c' - c) ∧ m * (c' - c) ≤ 1999800000) ∧
    -3999600000 ≤ (m' - m) * (c' + a') ∧ (m' - m) * (c' + a') ≤ 3999600000 := by
  obtain ⟨h1, h2, h3, h4⟩ := stepOk_iff.1 h
  have k1 := mark_of h1
  have k2 := mark_of h2
  exact ⟨mark_mul k1.1 k1.2.1 (by omega) (by omega), mark_mul k1.1 k1.2.1 (by omega) (by omega), mul_abs (A := 19998) (B := 200000) (by omega) (by omega) (by omega) (by omega)⟩

theorem iExplain (m c a m' c' a' x y : Int) : impl_ExplainGain.f m c a m' c' a' x y = some (explainV m c a m' c' a' x y) := by
  unfold impl_ExplainGain.f explainV
  rw [iStep]
  simp only [Option.bind_some]
  by_cases h : stepOk m c a m' c' a' x y = true
  · have hb := explain_bd h
    obtain ⟨h1, h2, h3, h4⟩ := stepOk_iff.1 h
    have k1 := mark_of h1
    have k2 := mark_of h2
    rw [if_pos h, if_pos h]
    rw [w64 (n := a' - a) (by omega) (by omega), w64 (n := a' - a + x) (by omega) (by omega), w64 (n := c' - c) (by omega) (by omega), w64 (n := m' - m) (by omega) (by omega), w64 (n := c' + a') (by omega) (by omega),
      w64 (n := m * (a' - a + x)) (by omega) (by omega), w64 (n := m * (c' - c)) (by omega) (by omega), w64 (n := (m' - m) * (c' + a')) (by omega) (by omega), w64 (by omega) (by omega)]
  · rw [if_neg h, if_neg h]

theorem inR (a l h : Int) : spec_inRange.f a l h = some (decide (l ≤ a ∧ a ≤ h)) := by
  unfold spec_inRange.f
  split <;> simp only [true_and, false_and, decide_false, *]

theorem sMark (m c a : Int) : spec_validMark.f m c a = some (vMark m c a) := by
  unfold spec_validMark.f vMark
  simp only [inR, Option.bind_some, decide_eq_true_eq]
  repeat' split
  all_goals (simp only [Option.some.injEq, decide_eq_decide]; try simp only [eq_comm (a := false), decide_eq_false_iff_not])
  all_goals omega

theorem sExplain (m c a m' c' a' x y : Int) : spec_ExplainGain.f m c a m' c' a' x y = some (explainV m c a m' c' a' x y) := by
  unfold spec_ExplainGain.f explainV
  simp only [sMark, inR, Option.bind_some, decide_eq_true_eq]
  by_cases h : stepOk m c a m' c' a' x y = true
  · have hb := explain_bd h
    obtain ⟨h1, h2, h3, h4⟩ := stepOk_iff.1 h
    have k1 := mark_of h1
    have k2 := mark_of h2
    rw [if_pos h, if_pos h1, if_pos h2, if_pos h3, if_pos h4]
    unfold spec_explain.f
    simp only [Option.bind_some]
    rw [w64 (n := a' - a) (by omega) (by omega), w64 (n := a' - a + x) (by omega) (by omega), w64 (n := c' - c) (by omega) (by omega), w64 (n := m' - m) (by omega) (by omega), w64 (n := c' + a') (by omega) (by omega),
      w64 (n := m * (a' - a + x)) (by omega) (by omega), w64 (n := m * (c' - c)) (by omega) (by omega), w64 (n := (m' - m) * (c' + a')) (by omega) (by omega), w64 (by omega) (by omega)]
  · rw [if_neg h]
    by_cases h1 : vMark m c a = true
    · rw [if_pos h1]
      by_cases h2 : vMark m' c' a' = true
      · rw [if_pos h2]
        by_cases h3 : 0 ≤ x ∧ x ≤ 50000
        · rw [if_pos h3, if_neg (fun h4 => h (stepOk_iff.2 ⟨h1, h2, h3, h4⟩))]
        · rw [if_neg h3]
      · rw [if_neg h2]
    · rw [if_neg h1]

end FnExactExplainGainLaw
open FnExactExplainGainLaw

theorem FnExactExplainGain : ∀ (a0_0 : Int) (a0_1 : Int) (a0_2 : Int) (a1_0 : Int) (a1_1 : Int) (a1_2 : Int) (a2 : Int) (a3 : Int), (Lit.int .i64 a0_0).wf = true → (Lit.int .i64 a0_1).wf = true → (Lit.int .i64 a0_2).wf = true → (Lit.int .i64 a1_0).wf = true → (Lit.int .i64 a1_1).wf = true → (Lit.int .i64 a1_2).wf = true → (Lit.int .i64 a2).wf = true → (Lit.int .i64 a3).wf = true → laws_FnExactExplainGain.f a0_0 a0_1 a0_2 a1_0 a1_1 a1_2 a2 a3 = some true := by
  intro m c a m' c' a' x y _ _ _ _ _ _ _ _
  unfold laws_FnExactExplainGain.f laws_toMark.f
  simp only [Option.bind_some]
  rw [sExplain, iExplain]
  simp [laws_eqParts.f]

end Go.Proofs.Ytobkncpmkiaggaa.Pure

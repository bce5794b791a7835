/- What the printed functions of FnExactRateAt compute is true at every input. Conditions: none beyond the arguments' kinds. -/
import Derived.Test.YtobkncpmkiaggaaPFnExactRateAtx1
import Derived.OpenShut
namespace Go.Proofs.Ytobkncpmkiaggaa.Pure
open Go.RowKit Go.Proofs.Ytobkncpmkiaggaa.PFnExactRateAt Go.Proofs.YtobkncpmkiaggaaW.PrintWords Go.Proofs.YtobkncpmkiaggaaW.PrintLast Go.Proofs.YtobkncpmkiaggaaW.PrintMore
set_option linter.unusedVariables false
set_option linter.unusedSimpArgs false

namespace FnExactRateAtLaw
theorem w64 {n : Int} (h1 : -9223372036854775808 ≤ n) (h2 : n ≤ 9223372036854775807) : wrap64 n = n := by
  unfold wrap64
  omega

theorem inR (a l h : Int) : spec_inRange.f a l h = some (decide (l ≤ a ∧ a ≤ h)) := by
  unfold spec_inRange.f
  split <;> simp only [true_and, false_and, decide_false, *]

theorem mul_bd {a b A B : Int} (h0 : 0 ≤ a) (h1 : a ≤ A) (h2 : 0 ≤ b) (h3 : b ≤ B) : 0 ≤ a * b ∧ a * b ≤ A * B :=
  ⟨Int.mul_nonneg h0 h2, Int.mul_le_mul h1 h3 h2 (by omega)⟩

/-- What a valid lattice is. -/
def vLat (s r d : Int) : Bool := decide (((1 ≤ s ∧ s ≤ 8) ∧ 0 ≤ d ∧ d ≤ 150) ∧ s * d ≤ r ∧ r ≤ 3000 - s * d)
theorem lat_of {s r d : Int} (h : vLat s r d = true) : ((1 ≤ s ∧ s ≤ 8) ∧ 0 ≤ d ∧ d ≤ 150) ∧ s * d ≤ r ∧ r ≤ 3000 - s * d := of_decide_eq_true h
theorem lat_mul {s d : Int} (h : (1 ≤ s ∧ s ≤ 8) ∧ 0 ≤ d ∧ d ≤ 150) : 0 ≤ s * d ∧ s * d ≤ 1200 := mul_bd (A := 8) (B := 150) (by omega) (by omega) (by omega) (by omega)

theorem sLat (s r d : Int) : spec_validLattice.f s r d = some (vLat s r d) := by
  unfold spec_validLattice.f vLat
  simp only [inR, Option.bind_some, decide_eq_true_eq]
  by_cases h1 : 1 ≤ s ∧ s ≤ 8
  · by_cases h2 : 0 ≤ d ∧ d ≤ 150
    · have hm := lat_mul ⟨h1, h2⟩
      rw [w64 (n := s * d) (by omega) (by omega), w64 (n := 3000 - s * d) (by omega) (by omega)]
      simp only [h1, h2, and_self, true_and, if_true]
    · simp only [h1, h2, and_self, and_false, false_and, if_true, if_false, decide_false]
  · simp only [h1, false_and, if_false, decide_false]

theorem mul_abs {a b A B : Int} (h0 : -A ≤ a) (h1 : a ≤ A) (h2 : -B ≤ b) (h3 : b ≤ B) : -(A * B) ≤ a * b ∧ a * b ≤ A * B := by
  rcases Int.le_total 0 a with ha | ha <;> rcases Int.le_total 0 b with hb | hb
  · have := mul_bd ha h1 hb h3
    omega
  · have := mul_bd ha h1 (show 0 ≤ -b by omega) (show -b ≤ B by omega)
    rw [Int.mul_neg] at this
    omega
  · have := mul_bd (show 0 ≤ -a by omega) (show -a ≤ A by omega) hb h3
    rw [Int.neg_mul] at this
    omega
  · have := mul_bd (show 0 ≤ -a by omega) (show -a ≤ A by omega) (show 0 ≤ -b by omega) (show -b ≤ B by omega)
    rw [Int.neg_mul_neg] at this
    omega

def rateAt (s r d t u : Int) : Int := if vLat s r d = true ∧ (0 ≤ t ∧ t ≤ s - 1) ∧ 0 ≤ u ∧ u ≤ t then r + d * (2 * u - t) else -1
theorem rate_mul {s r d t u : Int} (h : vLat s r d = true) (h1 : 0 ≤ t ∧ t ≤ s - 1) (h2 : 0 ≤ u ∧ u ≤ t) : -1200 ≤ d * (2 * u - t) ∧ d * (2 * u - t) ≤ 1200 := by
  have k := lat_of h
  exact mul_abs (A := 150) (B := 8) (by omega) (by omega) (by omega) (by omega)

theorem sRateAt (s r d t u : Int) : spec_RateAt.f s r d t u = some (rateAt s r d t u) := by
  unfold spec_RateAt.f rateAt
  rw [sLat]
  simp only [inR, Option.bind_some, decide_eq_true_eq]
  by_cases h : vLat s r d = true
  · have k := lat_of h
    have hm := lat_mul k.1
    rw [if_pos h, w64 (n := s - 1) (by omega) (by omega)]
    by_cases h1 : 0 ≤ t ∧ t ≤ s - 1
    · rw [if_pos h1]
      by_cases h2 : 0 ≤ u ∧ u ≤ t
      · have hb := rate_mul h h1 h2
        rw [if_pos h2, if_pos ⟨h, h1, h2⟩]
        unfold spec_rateAt.f
        simp only [Option.bind_some]
        rw [w64 (n := 2 * u) (by omega) (by omega), w64 (n := 2 * u - t) (by omega) (by omega), w64 (n := d * (2 * u - t)) (by omega) (by omega), w64 (by omega) (by omega)]
      · rw [if_neg h2, if_neg (fun k => h2 k.2.2)]
    · rw [if_neg h1, if_neg (fun k => h1 k.2.1)]
  · rw [if_neg h, if_neg (fun k => h k.1)]

theorem wi (a l h : Int) : impl_within.f a l h = some (decide (l ≤ a ∧ a ≤ h)) := by
  unfold impl_within.f
  split <;> rename_i hc <;> simp <;> omega

theorem iLat (s r d : Int) : impl_Lattice_valid.f s r d = some (vLat s r d) := by
  unfold impl_Lattice_valid.f vLat
  simp only [wi, Option.bind_some, decide_eq_true_eq]
  by_cases h1 : 1 ≤ s ∧ s ≤ 8
  · by_cases h2 : 0 ≤ d ∧ d ≤ 150
    · have hm := lat_mul ⟨h1, h2⟩
      rw [w64 (n := s * d) (by omega) (by omega), w64 (n := 3000 - s * d) (by omega) (by omega)]
      simp only [h1, h2, and_self, true_and, if_true]
    · simp only [h1, h2, and_self, and_false, false_and, if_true, if_false, decide_false]
  · simp only [h1, false_and, if_false, decide_false]

theorem iRateAt (s r d t u : Int) : impl_RateAt.f s r d t u = some (rateAt s r d t u) := by
  unfold impl_RateAt.f rateAt
  rw [iLat]
  simp only [wi, Option.bind_some, decide_eq_true_eq]
  by_cases h : vLat s r d = true
  · have k := lat_of h
    have hm := lat_mul k.1
    rw [if_pos h, w64 (n := s - 1) (by omega) (by omega)]
    by_cases h1 : 0 ≤ t ∧ t ≤ s - 1
    · rw [if_pos h1]
      by_cases h2 : 0 ≤ u ∧ u ≤ t
      · have hb := rate_mul h h1 h2
        rw [if_pos h2, if_pos ⟨h, h1, h2⟩]
        unfold impl_Lattice_rate.f
        simp only [Option.bind_some]
        rw [w64 (n := 2 * u) (by omega) (by omega), w64 (n := 2 * u - t) (by omega) (by omega), w64 (n := d * (2 * u - t)) (by omega) (by omega), w64 (by omega) (by omega)]
      · rw [if_neg h2, if_neg (fun k => h2 k.2.2)]
    · rw [if_neg h1, if_neg (fun k => h1 k.2.1)]
  · rw [if_neg h, if_neg (fun k => h k.1)]

end FnExactRateAtLaw
open FnExactRateAtLaw

theorem FnExactRateAt : ∀ (a0_0 : Int) (a0_1 : Int) (a0_2 : Int) (a1 : Int) (a2 : Int), (Lit.int .i64 a0_0).wf = true → (Lit.int .i64 a0_1).wf = true → (Lit.int .i64 a0_2).wf = true → (Lit.int .i64 a1).wf = true → (Lit.int .i64 a2).wf = true → laws_FnExactRateAt.f a0_0 a0_1 a0_2 a1 a2 = some true := by
  intro s r d t u _ _ _ _ _
  unfold laws_FnExactRateAt.f laws_toLattice.f
  simp [sRateAt, iRateAt]

end Go.Proofs.Ytobkncpmkiaggaa.Pure

/- What the printed functions of FnExactFailCost compute is true at every input. Conditions: none beyond the arguments' kinds. -/
import Derived.Test.YtobkncpmkiaggaaPFnExactFailCostx1
import Derived.OpenShut
namespace Go.Proofs.Ytobkncpmkiaggaa.Pure
open Go.RowKit Go.Proofs.Ytobkncpmkiaggaa.PFnExactFailCost Go.Proofs.YtobkncpmkiaggaaW.PrintWords Go.Proofs.YtobkncpmkiaggaaW.PrintLast Go.Proofs.YtobkncpmkiaggaaW.PrintMore
set_option linter.unusedVariables false
set_option linter.unusedSimpArgs false

namespace FnExactFailCostLaw
theorem w64 {n : Int} (h1 : -9223372036854775808 ≤ n) (h2 : n ≤ 9223372036854775807) : wrap64 n = n := by
  unfold wrap64
  omega

theorem floor_at (a b : Int) (hb : 0 < b) : (if Int.tmod a b < 0 then Int.tdiv a b - 1 else Int.tdiv a b) = a / b := by
  rw [Int.tmod_eq_emod, Int.tdiv_eq_ediv]
  have h2 := Int.emod_lt_of_pos a hb
  have h3 := Int.emod_nonneg a (show b ≠ 0 by omega)
  have hs : b.sign = 1 := Int.sign_eq_one_of_pos hb
  have hn : (b.natAbs : Int) = b := Int.natAbs_of_nonneg (by omega)
  by_cases h : 0 ≤ a ∨ b ∣ a
  · rw [if_pos h, if_pos h, if_neg (by omega)]
    omega
  · rw [if_neg h, if_neg h, hs, hn, if_pos (by omega)]
    omega

theorem div_bd (a b : Int) (hb : 0 < b) (n : Int) (h0 : 0 ≤ n) (h1 : -n ≤ a) (h2 : a ≤ n) : -n ≤ a / b ∧ a / b ≤ n := by
  constructor
  · refine (Int.le_ediv_iff_mul_le hb).2 ?_
    have : -n * b ≤ -n * 1 := Int.mul_le_mul_of_nonpos_left (by omega) (by omega)
    omega
  · have := (Int.ediv_lt_iff_lt_mul (a := a) (b := n + 1) hb).2 (by
      have : (n + 1) * 1 ≤ (n + 1) * b := Int.mul_le_mul_of_nonneg_left (by omega) (by omega)
      rw [Int.mul_comm]
      first | omega | (rw [Int.mul_comm]; omega))
    omega

theorem sFloor (a b : Int) (hb : 0 < b) (h1 : -4611686018427387904 ≤ a) (h2 : a ≤ 4611686018427387904) : spec_floorDiv.f a b = some (a / b) := by
  have hf := floor_at a b hb
  have hd := div_bd a b hb 4611686018427387904 (by omega) (by omega) h2
  unfold spec_floorDiv.f
  rw [if_neg (by omega)]
  by_cases h : Int.tmod a b < 0
  · rw [if_pos h] at hf ⊢
    rw [w64 (n := Int.tdiv a b) (by omega) (by omega), w64 (by omega) (by omega), hf]
  · rw [if_neg h] at hf ⊢
    rw [w64 (n := Int.tdiv a b) (by omega) (by omega), hf]

theorem sCeil (a b : Int) (hb : 0 < b) (h1 : -4611686018427387904 ≤ a) (h2 : a ≤ 4611686018427387904) : spec_ceilDiv.f a b = some (-((-a) / b)) := by
  have hd := div_bd (-a) b hb 4611686018427387904 (by omega) (by omega) (by omega)
  unfold spec_ceilDiv.f
  rw [w64 (n := -a) (by omega) (by omega), sFloor (-a) b hb (by omega) (by omega)]
  simp only [Option.bind_some]
  rw [w64 (by omega) (by omega)]

theorem inR (a l h : Int) : spec_inRange.f a l h = some (decide (l ≤ a ∧ a ≤ h)) := by
  unfold spec_inRange.f
  split <;> simp only [true_and, false_and, decide_false, *]

theorem wi (a l h : Int) : impl_within.f a l h = some (decide (l ≤ a ∧ a ≤ h)) := by
  unfold impl_within.f
  split <;> rename_i hc <;> simp <;> omega

theorem iRate (n : Int) : impl_rateValid.f n = some (decide (0 ≤ n ∧ n ≤ 3000)) := by
  unfold impl_rateValid.f
  rw [wi]
  rfl

theorem iDay (n : Int) : impl_dayValid.f n = some (decide (0 ≤ n ∧ n ≤ 36524)) := by
  unfold impl_dayValid.f
  rw [wi]
  rfl

theorem iPriceOk (n : Int) : impl_priceValid.f n = some (decide (1 ≤ n ∧ n ≤ 50000)) := by
  unfold impl_priceValid.f
  rw [wi]
  rfl

def vNote (d m p : Int) : Bool := decide ((0 ≤ d ∧ d ≤ 36524) ∧ (1 ≤ m ∧ m ≤ 9999) ∧ 1 ≤ p ∧ p ≤ 50000)

theorem iNote (d m p : Int) : impl_Note_valid.f d m p = some (vNote d m p) := by
  unfold impl_Note_valid.f vNote
  simp only [iDay, wi, iPriceOk, Option.bind_some, decide_eq_true_eq]
  repeat' split
  all_goals (simp only [Option.some.injEq, decide_eq_decide]; try simp only [eq_comm (a := false), decide_eq_false_iff_not])
  all_goals omega

theorem iFloor (a b : Int) (hb : 0 < b) (h1 : -4611686018427387904 ≤ a) (h2 : a ≤ 4611686018427387904) : impl_floor.f a b = some (a / b) := by
  have hf := floor_at a b hb
  have hd := div_bd a b hb 4611686018427387904 (by omega) (by omega) h2
  unfold impl_floor.f
  rw [if_neg (by omega)]
  by_cases h : Int.tmod a b < 0
  · rw [if_pos h] at hf ⊢
    rw [w64 (n := Int.tdiv a b) (by omega) (by omega), w64 (by omega) (by omega), hf]
  · rw [if_neg h] at hf ⊢
    rw [w64 (n := Int.tdiv a b) (by omega) (by omega), hf]

theorem iCeil (a b : Int) (hb : 0 < b) (h1 : -4611686018427387904 ≤ a) (h2 : a ≤ 4611686018427387904) : impl_ceil.f a b = some (-((-a) / b)) := by
  have hd := div_bd (-a) b hb 4611686018427387904 (by omega) (by omega) (by omega)
  unfold impl_ceil.f
  rw [w64 (n := -a) (by omega) (by omega), iFloor (-a) b hb (by omega) (by omega)]
  simp only [Option.bind_some]
  rw [w64 (by omega) (by omega)]

theorem mul_bd {a b A B : Int} (h0 : 0 ≤ a) (h1 : a ≤ A) (h2 : 0 ≤ b) (h3 : b ≤ B) : 0 ≤ a * b ∧ a * b ≤ A * B :=
  ⟨Int.mul_nonneg h0 h2, Int.mul_le_mul h1 h3 h2 (by omega)⟩

def failCost (d m p n r : Int) : Int := if vNote d m p = true ∧ (0 ≤ n ∧ n ≤ 30) ∧ 0 ≤ r ∧ r ≤ 3000 then -((-(m * p * n * r)) / 3600000) else -1
theorem fail_mul {d m p n r : Int} (h : vNote d m p = true) (h1 : 0 ≤ n ∧ n ≤ 30) (h2 : 0 ≤ r ∧ r ≤ 3000) : (0 ≤ m * p ∧ m * p ≤ 499950000) ∧ (0 ≤ m * p * n ∧ m * p * n ≤ 14998500000) ∧ 0 ≤ m * p * n * r ∧ m * p * n * r ≤ 44995500000000 := by
  have k := of_decide_eq_true h
  have a := mul_bd (a := m) (b := p) (A := 9999) (B := 50000) (by omega) (by omega) (by omega) (by omega)
  have b := mul_bd (a := m * p) (b := n) (A := 499950000) (B := 30) (by omega) (by omega) (by omega) (by omega)
  have c := mul_bd (a := m * p * n) (b := r) (A := 14998500000) (B := 3000) (by omega) (by omega) (by omega) (by omega)
  exact ⟨a, b, c⟩

theorem iFail (d m p n r : Int) : impl_FailCost.f d m p n r = some (failCost d m p n r) := by
  unfold impl_FailCost.f failCost
  simp only [iNote, iRate, wi, Option.bind_some, decide_eq_true_eq]
  by_cases h : vNote d m p = true
  · by_cases h1 : 0 ≤ n ∧ n ≤ 30
    · by_cases h2 : 0 ≤ r ∧ r ≤ 3000
      · have hb := fail_mul h h1 h2
        rw [if_pos h, if_pos h1, if_pos h2, if_pos ⟨h, h1, h2⟩, w64 (n := m * p) (by omega) (by omega), w64 (n := m * p * n) (by omega) (by omega), w64 (n := m * p * n * r) (by omega) (by omega), iCeil _ _ (by omega) (by omega) (by omega)]
        rfl
      · rw [if_pos h, if_pos h1, if_neg h2, if_neg (fun k => h2 k.2.2)]
    · rw [if_pos h, if_neg h1, if_neg (fun k => h1 k.2.1)]
  · rw [if_neg h, if_neg (fun k => h k.1)]

theorem sNotes (d m p : Int) : spec_validNotes.f 3 [(⟨d, m, p⟩ : S53)] = some (vNote d m p) := by
  unfold spec_validNotes.f
  have hw : wrap64 (0 + 1) = 1 := w64 (by omega) (by omega)
  simp only [spec_validNotes.l0, inR, hw, rd_T53, vNote]
  simp
  repeat' split
  all_goals simp
  all_goals omega
theorem sFail (d m p n r : Int) : spec_FailCost.f 3 d m p n r = some (failCost d m p n r) := by
  unfold spec_FailCost.f failCost
  simp only [sNotes, inR, Option.bind_some, decide_eq_true_eq]
  by_cases h : vNote d m p = true
  · by_cases h1 : 0 ≤ n ∧ n ≤ 30
    · by_cases h2 : 0 ≤ r ∧ r ≤ 3000
      · have hb := fail_mul h h1 h2
        rw [if_pos h, if_pos h1, if_pos h2, if_pos ⟨h, h1, h2⟩, w64 (n := m * p) (by omega) (by omega), w64 (n := m * p * n) (by omega) (by omega), w64 (n := m * p * n * r) (by omega) (by omega), sCeil _ _ (by omega) (by omega) (by omega)]
        rfl
      · rw [if_pos h, if_pos h1, if_neg h2, if_neg (fun k => h2 k.2.2)]
    · rw [if_pos h, if_neg h1, if_neg (fun k => h1 k.2.1)]
  · rw [if_neg h, if_neg (fun k => h k.1)]
end FnExactFailCostLaw
open FnExactFailCostLaw

theorem FnExactFailCost : ∀ (a0_0 : Int) (a0_1 : Int) (a0_2 : Int) (a1 : Int) (a2 : Int), (Lit.int .i64 a0_0).wf = true → (Lit.int .i64 a0_1).wf = true → (Lit.int .i64 a0_2).wf = true → (Lit.int .i64 a1).wf = true → (Lit.int .i64 a2).wf = true → ∃ k, laws_FnExactFailCost.f k a0_0 a0_1 a0_2 a1 a2 = some true := by
  intro d m p n r _ _ _ _ _
  refine ⟨3, ?_⟩
  unfold laws_FnExactFailCost.f laws_toNote.f
  simp [sFail, iFail]

end Go.Proofs.Ytobkncpmkiaggaa.Pure

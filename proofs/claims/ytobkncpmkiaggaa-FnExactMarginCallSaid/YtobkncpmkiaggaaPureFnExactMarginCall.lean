/- What the printed functions of FnExactMarginCall compute is true at every input. Conditions: none beyond the arguments' kinds. -/
import Derived.Test.YtobkncpmkiaggaaPFnExactMarginCallx1
import Derived.OpenShut
namespace Go.Proofs.Ytobkncpmkiaggaa.Pure
open Go.RowKit Go.Proofs.Ytobkncpmkiaggaa.PFnExactMarginCall Go.Proofs.YtobkncpmkiaggaaW.PrintWords Go.Proofs.YtobkncpmkiaggaaW.PrintLast Go.Proofs.YtobkncpmkiaggaaW.PrintMore
set_option linter.unusedVariables false
set_option linter.unusedSimpArgs false

namespace FnExactMarginCallLaw
/-- What a valid loan is. -/
def vRepo (c r f t h : Int) : Bool := decide (1 ≤ c ∧ c ≤ 100000000 ∧ 0 ≤ r ∧ r ≤ 3000 ∧ 0 ≤ f ∧ f ≤ 36524 ∧ f ≤ t ∧ t ≤ 36524 ∧ t ≤ f + 4000 ∧ 0 ≤ h ∧ h ≤ 500)

/-- How many bonds are pledged. -/
def pledge (c r f t h p : Int) : Int := if vRepo c r f t h = true ∧ 1 ≤ p ∧ p ≤ 50000 then -((-(1000 * c)) / (p * (1000 - h))) else -1

theorem div_bd (a b : Int) (hb : 0 < b) (n : Int) (h0 : 0 ≤ n) (h1 : -n ≤ a) (h2 : a ≤ n) : -n ≤ a / b ∧ a / b ≤ n := by
  constructor
  · refine (Int.le_ediv_iff_mul_le hb).2 ?_
    have : -n * b ≤ -n * 1 := Int.mul_le_mul_of_nonpos_left (by omega) (by omega)
    omega
  · have := (Int.ediv_lt_iff_lt_mul (a := a) (b := n + 1) hb).2 (by
      have : (n + 1) * 1 ≤ (n + 1) * b := Int.mul_le_mul_of_nonneg_left (by omega) (by omega)
      rw [Int.mul_comm]
      first | omega | (rw [Int.mul_comm]; omega))
    omega

theorem mul_bd {a b A B : Int} (h0 : 0 ≤ a) (h1 : a ≤ A) (h2 : 0 ≤ b) (h3 : b ≤ B) : 0 ≤ a * b ∧ a * b ≤ A * B :=
  ⟨Int.mul_nonneg h0 h2, Int.mul_le_mul h1 h3 h2 (by omega)⟩

theorem pledge_den {p h : Int} (h1 : 1 ≤ p) (h2 : p ≤ 50000) (h3 : 0 ≤ h) (h4 : h ≤ 500) : 500 ≤ p * (1000 - h) ∧ p * (1000 - h) ≤ 50000000 := by
  have h5 := mul_bd (show 0 ≤ p - 1 by omega) (show p - 1 ≤ 49999 by omega) (show 0 ≤ 1000 - h by omega) (show 1000 - h ≤ 1000 by omega)
  rw [Int.sub_mul] at h5
  omega
theorem pledge_bd (c r f t h p : Int) (hv : vRepo c r f t h = true) (h1 : 1 ≤ p) (h2 : p ≤ 50000) : 1 ≤ pledge c r f t h p ∧ pledge c r f t h p ≤ 100000000000 := by
  unfold pledge
  rw [if_pos ⟨hv, h1, h2⟩]
  unfold vRepo at hv
  have hv := of_decide_eq_true hv
  have hd := pledge_den h1 h2 (by omega : 0 ≤ h) (by omega)
  have := div_bd (-(1000 * c)) (p * (1000 - h)) (by omega) 100000000000 (by omega) (by omega) (by omega)
  have : -(1000 * c) / (p * (1000 - h)) < 0 := Int.ediv_neg_of_neg_of_pos (by omega) (by omega)
  omega

/-- What is missing. -/
def margin (c r f t h p n : Int) : Int := if (vRepo c r f t h = true ∧ 1 ≤ p ∧ p ≤ 50000) ∧ 0 ≤ n ∧ n ≤ 1000000000 then mx (pledge c r f t h p - n) 0 else -1

theorem w64 {n : Int} (h1 : -9223372036854775808 ≤ n) (h2 : n ≤ 9223372036854775807) : wrap64 n = n := by
  unfold wrap64
  omega

theorem inR (a l h : Int) : spec_inRange.f a l h = some (decide (l ≤ a ∧ a ≤ h)) := by
  unfold spec_inRange.f
  split <;> simp only [true_and, false_and, decide_false, *]

theorem sRepo (c r f t h : Int) : spec_validRepo.f c r f t h = some (vRepo c r f t h) := by
  unfold spec_validRepo.f vRepo
  simp only [inR, Option.bind_some, decide_eq_true_eq]
  by_cases h1 : 0 ≤ f ∧ f ≤ 36524
  · have hw : wrap64 (f + 4000) = f + 4000 := w64 (by omega) (by omega)
    have hm : mn 36524 (f + 4000) ≤ 36524 ∧ mn 36524 (f + 4000) ≤ f + 4000 ∧ (mn 36524 (f + 4000) = 36524 ∨ mn 36524 (f + 4000) = f + 4000) := by
      unfold mn
      split <;> omega
    simp only [hw]
    repeat' split
    all_goals (simp only [Option.some.injEq, decide_eq_decide]; try simp only [eq_comm (a := false), decide_eq_false_iff_not])
    all_goals omega
  · simp only [h1, if_false]
    repeat' split
    all_goals (simp only [Option.some.injEq]; simp only [eq_comm (a := false), decide_eq_false_iff_not])
    all_goals omega

theorem floor_at (a b : Int) (hb : 0 < b) : (if Int.tmod a b < 0 then Int.tdiv a b - 1 else Int.tdiv a b) = a / b := by
  rw [Int.tmod_eq_emod, Int.tdiv_eq_ediv]
  have h2 := Int.emod_lt_of_pos a hb
  have h3 := Int.emod_nonneg a (show b ≠ 0 by omega)
  have hs : b.sign = 1 := Int.sign_eq_one_of_pos hb
  have hn : (b.natAbs : Int) = b := Int.natAbs_of_nonneg (by omega)
  by_cases h : 0 ≤ a ∨ b ∣ a
  · rw [if_pos h, if_pos h, if_neg (by omega)]
    omega
  · rw [if_neg h, if_neg h, hs, hn, if_pos (by omega)]
    omega

theorem sFloor (a b : Int) (hb : 0 < b) (h1 : -4611686018427387904 ≤ a) (h2 : a ≤ 4611686018427387904) : spec_floorDiv.f a b = some (a / b) := by
  have hf := floor_at a b hb
  have hd := div_bd a b hb 4611686018427387904 (by omega) (by omega) h2
  unfold spec_floorDiv.f
  rw [if_neg (by omega)]
  by_cases h : Int.tmod a b < 0
  · rw [if_pos h] at hf ⊢
    rw [w64 (n := Int.tdiv a b) (by omega) (by omega), w64 (by omega) (by omega), hf]
  · rw [if_neg h] at hf ⊢
    rw [w64 (n := Int.tdiv a b) (by omega) (by omega), hf]

theorem sCeil (a b : Int) (hb : 0 < b) (h1 : -4611686018427387904 ≤ a) (h2 : a ≤ 4611686018427387904) : spec_ceilDiv.f a b = some (-((-a) / b)) := by
  have hd := div_bd (-a) b hb 4611686018427387904 (by omega) (by omega) (by omega)
  unfold spec_ceilDiv.f
  rw [w64 (n := -a) (by omega) (by omega), sFloor (-a) b hb (by omega) (by omega)]
  simp only [Option.bind_some]
  rw [w64 (by omega) (by omega)]

theorem sPledge (c r f t h p : Int) : spec_PledgeFor.f c r f t h p = some (pledge c r f t h p) := by
  unfold spec_PledgeFor.f pledge
  simp only [sRepo, inR, Option.bind_some, decide_eq_true_eq]
  by_cases hv : vRepo c r f t h = true
  · by_cases hp : 1 ≤ p ∧ p ≤ 50000
    · rw [if_pos hv, if_pos hp, if_pos ⟨hv, hp⟩]
      unfold vRepo at hv
      have hv := of_decide_eq_true hv
      have hd := pledge_den hp.1 hp.2 (by omega : 0 ≤ h) (by omega)
      rw [w64 (n := 1000 * c) (by omega) (by omega), w64 (n := 1000 - h) (by omega) (by omega), w64 (n := p * (1000 - h)) (by omega) (by omega), sCeil _ _ (by omega) (by omega) (by omega)]
      rfl
    · rw [if_pos hv, if_neg hp, if_neg (fun h => hp h.2)]
  · rw [if_neg hv, if_neg (fun h => hv h.1)]

theorem sMargin (c r f t h p n : Int) : spec_MarginCall.f c r f t h p n = some (margin c r f t h p n) := by
  unfold spec_MarginCall.f margin
  simp only [sRepo, sPledge, inR, Option.bind_some, decide_eq_true_eq]
  by_cases hv : vRepo c r f t h = true
  · by_cases hp : 1 ≤ p ∧ p ≤ 50000
    · have hb := pledge_bd c r f t h p hv hp.1 hp.2
      by_cases hn : 0 ≤ n ∧ n ≤ 1000000000
      · rw [if_pos hv, if_pos hp, if_pos hn, if_pos ⟨⟨hv, hp⟩, hn⟩, w64 (by omega) (by omega)]
        have : mx 0 (pledge c r f t h p - n) = mx (pledge c r f t h p - n) 0 := by
          unfold mx
          split <;> split <;> omega
        rw [this]
      · rw [if_pos hv, if_pos hp, if_neg hn, if_neg (fun h => hn h.2)]
    · rw [if_pos hv, if_neg hp, if_neg (fun h => hp h.1.2)]
  · rw [if_neg hv, if_neg (fun h => hv h.1.1)]

theorem wi (a l h : Int) : impl_within.f a l h = some (decide (l ≤ a ∧ a ≤ h)) := by
  unfold impl_within.f
  split <;> rename_i hc <;> simp <;> omega

theorem iRate (n : Int) : impl_rateValid.f n = some (decide (0 ≤ n ∧ n ≤ 3000)) := by
  unfold impl_rateValid.f
  rw [wi]
  rfl

theorem iDay (n : Int) : impl_dayValid.f n = some (decide (0 ≤ n ∧ n ≤ 36524)) := by
  unfold impl_dayValid.f
  rw [wi]
  rfl

theorem iSpan (f t : Int) : impl_spanValid.f f t = some (decide (0 ≤ f ∧ f ≤ 36524 ∧ 0 ≤ t ∧ t ≤ 36524 ∧ f ≤ t ∧ t ≤ f + 4000)) := by
  unfold impl_spanValid.f
  simp only [iDay, wi, Option.bind_some, decide_eq_true_eq]
  split
  · split
    · have hw : wrap64 (t - f) = t - f := w64 (by omega) (by omega)
      simp only [hw, Option.some.injEq, decide_eq_decide]
      omega
    · simp only [Option.some.injEq, eq_comm (a := false), decide_eq_false_iff_not]
      omega
  · simp only [Option.some.injEq, eq_comm (a := false), decide_eq_false_iff_not]
    omega

theorem iRepo (c r f t h : Int) : impl_ValidRepo.f c r f t h = some (vRepo c r f t h) := by
  unfold impl_ValidRepo.f vRepo
  simp only [wi, iRate, iSpan, Option.bind_some, decide_eq_true_eq]
  repeat' split
  all_goals (simp only [Option.some.injEq, decide_eq_decide]; try simp only [eq_comm (a := false), decide_eq_false_iff_not])
  all_goals omega

theorem iPriceOk (n : Int) : impl_priceValid.f n = some (decide (1 ≤ n ∧ n ≤ 50000)) := by
  unfold impl_priceValid.f
  rw [wi]
  rfl

theorem iFloor (a b : Int) (hb : 0 < b) (h1 : -4611686018427387904 ≤ a) (h2 : a ≤ 4611686018427387904) : impl_floor.f a b = some (a / b) := by
  have hf := floor_at a b hb
  have hd := div_bd a b hb 4611686018427387904 (by omega) (by omega) h2
  unfold impl_floor.f
  rw [if_neg (by omega)]
  by_cases h : Int.tmod a b < 0
  · rw [if_pos h] at hf ⊢
    rw [w64 (n := Int.tdiv a b) (by omega) (by omega), w64 (by omega) (by omega), hf]
  · rw [if_neg h] at hf ⊢
    rw [w64 (n := Int.tdiv a b) (by omega) (by omega), hf]

theorem iCeil (a b : Int) (hb : 0 < b) (h1 : -4611686018427387904 ≤ a) (h2 : a ≤ 4611686018427387904) : impl_ceil.f a b = some (-((-a) / b)) := by
  have hd := div_bd (-a) b hb 4611686018427387904 (by omega) (by omega) (by omega)
  unfold impl_ceil.f
  rw [w64 (n := -a) (by omega) (by omega), iFloor (-a) b hb (by omega) (by omega)]
  simp only [Option.bind_some]
  rw [w64 (by omega) (by omega)]

theorem iPledge (c r f t h p : Int) : impl_PledgeFor.f c r f t h p = some (pledge c r f t h p) := by
  unfold impl_PledgeFor.f pledge
  simp only [iRepo, iPriceOk, Option.bind_some, decide_eq_true_eq]
  by_cases hv : vRepo c r f t h = true
  · by_cases hp : 1 ≤ p ∧ p ≤ 50000
    · rw [if_pos hv, if_pos hp, if_pos ⟨hv, hp⟩]
      unfold vRepo at hv
      have hv := of_decide_eq_true hv
      have hd := pledge_den hp.1 hp.2 (by omega : 0 ≤ h) (by omega)
      rw [w64 (n := 1000 * c) (by omega) (by omega), w64 (n := 1000 - h) (by omega) (by omega), w64 (n := p * (1000 - h)) (by omega) (by omega), iCeil _ _ (by omega) (by omega) (by omega)]
      rfl
    · rw [if_pos hv, if_neg hp, if_neg (fun h => hp h.2)]
  · rw [if_neg hv, if_neg (fun h => hv h.1)]

theorem iMargin (c r f t h p n : Int) : impl_MarginCall.f c r f t h p n = some (margin c r f t h p n) := by
  unfold impl_MarginCall.f margin
  simp only [iPledge, wi, Option.bind_some, decide_eq_true_eq]
  by_cases hv : vRepo c r f t h = true ∧ 1 ≤ p ∧ p ≤ 50000
  · have hb := pledge_bd c r f t h p hv.1 hv.2.1 hv.2.2
    rw [if_neg (by omega)]
    by_cases hn : 0 ≤ n ∧ n ≤ 1000000000
    · rw [if_pos hn, if_pos ⟨hv, hn⟩, w64 (by omega) (by omega)]
    · rw [if_neg hn, if_neg (fun h => hn h.2)]
  · have : pledge c r f t h p = -1 := by
      unfold pledge
      rw [if_neg hv]
    rw [this, if_pos (by decide), if_neg (fun h => hv h.1)]

end FnExactMarginCallLaw
open FnExactMarginCallLaw

theorem FnExactMarginCall : ∀ (a0_0 : Int) (a0_1 : Int) (a0_2 : Int) (a0_3 : Int) (a0_4 : Int) (a1 : Int) (a2 : Int), (Lit.int .i64 a0_0).wf = true → (Lit.int .i64 a0_1).wf = true → (Lit.int .i64 a0_2).wf = true → (Lit.int .i64 a0_3).wf = true → (Lit.int .i64 a0_4).wf = true → (Lit.int .i64 a1).wf = true → (Lit.int .i64 a2).wf = true → laws_FnExactMarginCall.f a0_0 a0_1 a0_2 a0_3 a0_4 a1 a2 = some true := by
  intro c r f t h p n _ _ _ _ _ _ _
  unfold laws_FnExactMarginCall.f laws_toRepo.f
  simp [sMargin, iMargin]

end Go.Proofs.Ytobkncpmkiaggaa.Pure

/- What the printed functions of FnExactShareOf compute is true at every input. Conditions: none beyond the arguments' kinds. -/
import Derived.Test.YtekaceennnphfaaPFnExactShareOfx1
import Derived.OpenShut
namespace Go.Proofs.Ytekaceennnphfaa.Pure
open Go.RowKit Go.Proofs.Ytekaceennnphfaa.PFnExactShareOf Go.Proofs.YtekaceennnphfaaW.PrintWords Go.Proofs.YtekaceennnphfaaW.PrintLast Go.Proofs.YtekaceennnphfaaW.PrintMore
set_option linter.unusedVariables false
set_option linter.unusedSimpArgs false

namespace FnExactShareOfLaw
theorem wi (a l h : Int) : impl_within.f a l h = some (decide (l ≤ a ∧ a ≤ h)) := by
  unfold impl_within.f
  split <;> rename_i hc <;> simp <;> omega

theorem iAmt (n : Int) : impl_amountValid.f n = some (decide (-1000000000 ≤ n ∧ n ≤ 1000000000)) := by
  unfold impl_amountValid.f
  rw [wi]
  rfl

theorem gcd_step (m n : Nat) (hn : n ≠ 0) : Nat.gcd n (m % n) = Nat.gcd m n := by
  rw [Nat.gcd_comm n (m % n), ← Nat.gcd_rec n m, Nat.gcd_comm]
theorem tmod_nat (m n : Nat) : Int.tmod (m : Int) (n : Int) = ((m % n : Nat) : Int) := by
  rw [Int.tmod_eq_emod_of_nonneg (Int.natCast_nonneg m), Int.natCast_emod]

theorem iGcd : ∀ (n m k : Nat), n < k → impl_divisor.l0 k (m : Int) (n : Int) = some ((Nat.gcd m n : Nat) : Int) := by
  intro n
  induction n using Nat.strongRecOn with
  | _ n ih =>
    intro m k hk
    obtain ⟨k, rfl⟩ : ∃ j, k = j + 1 := ⟨k - 1, by omega⟩
    simp only [impl_divisor.l0]
    by_cases hn : n = 0
    · subst hn
      rw [if_pos (show ((0 : Nat) : Int) = 0 from rfl), Nat.gcd_zero_right]
    · have hlt := Nat.mod_lt m (Nat.pos_of_ne_zero hn)
      rw [if_neg (by omega), tmod_nat, ih (m % n) hlt n k (by omega), gcd_step m n hn]

theorem w64 {n : Int} (h1 : -9223372036854775808 ≤ n) (h2 : n ≤ 9223372036854775807) : wrap64 n = n := by
  unfold wrap64
  omega

theorem abs_mx (a : Int) (h : -9223372036854775807 ≤ a) (h2 : a ≤ 9223372036854775807) : mx a (wrap64 (-a)) = (a.natAbs : Int) := by
  rw [w64 (n := -a) (by omega) (by omega)]
  unfold mx
  split <;> omega
theorem iDiv {a b : Int} {k : Nat} (h : -9223372036854775807 ≤ a) (h2 : a ≤ 9223372036854775807) (hb : 0 ≤ b) (hk : b < k) : impl_divisor.f k (mx a (wrap64 (-a))) b = some (Int.gcd a b : Int) := by
  unfold impl_divisor.f
  rw [abs_mx a h h2]
  have e : b = (b.natAbs : Int) := by omega
  have := iGcd b.natAbs a.natAbs k (by omega)
  rw [e, this]
  have e2 : ((b.natAbs : Int)).natAbs = b.natAbs := Int.natAbs_natCast _
  unfold Int.gcd
  rw [e2]

/-- What a valid ratio is. -/
def vRat (n d : Int) : Bool := decide ((-2000000 ≤ n ∧ n ≤ 2000000) ∧ (1 ≤ d ∧ d ≤ 2000000) ∧ (Int.gcd n d : Int) = 1)
theorem rat_of {n d : Int} (h : vRat n d = true) : (-2000000 ≤ n ∧ n ≤ 2000000) ∧ (1 ≤ d ∧ d ≤ 2000000) ∧ (Int.gcd n d : Int) = 1 := of_decide_eq_true h

theorem iRat {k : Nat} (n d : Int) (hk : 2000000 < k) : impl_Ratio_valid.f k n d = some (vRat n d) := by
  unfold impl_Ratio_valid.f vRat
  simp only [wi, Option.bind_some, decide_eq_true_eq]
  by_cases h1 : -2000000 ≤ n ∧ n ≤ 2000000
  · by_cases h2 : 1 ≤ d ∧ d ≤ 2000000
    · rw [if_pos h1, if_pos h2, iDiv (by omega) (by omega) (by omega) (by omega)]
      simp only [Option.bind_some, h1, h2, and_self, true_and]
      rfl
    · rw [if_pos h1, if_neg h2, decide_eq_false (fun h => h2 h.2.1)]
  · rw [if_neg h1, decide_eq_false (fun h => h1 h.1)]

theorem floor_at (a b : Int) (hb : 0 < b) : (if Int.tmod a b < 0 then Int.tdiv a b - 1 else Int.tdiv a b) = a / b := by
  rw [Int.tmod_eq_emod, Int.tdiv_eq_ediv]
  have h2 := Int.emod_lt_of_pos a hb
  have h3 := Int.emod_nonneg a (show b ≠ 0 by omega)
  have hs : b.sign = 1 := Int.sign_eq_one_of_pos hb
  have hn : (b.natAbs : Int) = b := Int.natAbs_of_nonneg (by omega)
  by_cases h : 0 ≤ a ∨ b ∣ a
  · rw [if_pos h, if_pos h, if_neg (by omega)]
    omega
  · rw [if_neg h, if_neg h, hs, hn, if_pos (by omega)]
    omega

theorem div_bd (a b : Int) (hb : 0 < b) (n : Int) (h0 : 0 ≤ n) (h1 : -n ≤ a) (h2 : a ≤ n) : -n ≤ a / b ∧ a / b ≤ n := by
  constructor
  · refine (Int.le_ediv_iff_mul_le hb).2 ?_
    have : -n * b ≤ -n * 1 := Int.mul_le_mul_of_nonpos_left (by omega) (by omega)
    omega
  · have := (Int.ediv_lt_iff_lt_mul (a := a) (b := n + 1) hb).2 (by
      have : (n + 1) * 1 ≤ (n + 1) * b := Int.mul_le_mul_of_nonneg_left (by omega) (by omega)
      rw [Int.mul_comm]
      first | omega | (rw [Int.mul_comm]; omega))
    omega

theorem iFloor (a b : Int) (hb : 0 < b) (h1 : -4611686018427387904 ≤ a) (h2 : a ≤ 4611686018427387904) : impl_floor.f a b = some (a / b) := by
  have hf := floor_at a b hb
  have hd := div_bd a b hb 4611686018427387904 (by omega) (by omega) h2
  unfold impl_floor.f
  rw [if_neg (by omega)]
  by_cases h : Int.tmod a b < 0
  · rw [if_pos h] at hf ⊢
    rw [w64 (n := Int.tdiv a b) (by omega) (by omega), w64 (by omega) (by omega), hf]
  · rw [if_neg h] at hf ⊢
    rw [w64 (n := Int.tdiv a b) (by omega) (by omega), hf]

theorem mul_bd {a b A B : Int} (h0 : 0 ≤ a) (h1 : a ≤ A) (h2 : 0 ≤ b) (h3 : b ≤ B) : 0 ≤ a * b ∧ a * b ≤ A * B :=
  ⟨Int.mul_nonneg h0 h2, Int.mul_le_mul h1 h3 h2 (by omega)⟩

theorem mul_abs {a b A B : Int} (h0 : -A ≤ a) (h1 : a ≤ A) (h2 : -B ≤ b) (h3 : b ≤ B) : -(A * B) ≤ a * b ∧ a * b ≤ A * B := by
  rcases Int.le_total 0 a with ha | ha <;> rcases Int.le_total 0 b with hb | hb
  · have := mul_bd ha h1 hb h3
    omega
  · have := mul_bd ha h1 (show 0 ≤ -b by omega) (show -b ≤ B by omega)
    rw [Int.mul_neg] at this
    omega
  · have := mul_bd (show 0 ≤ -a by omega) (show -a ≤ A by omega) hb h3
    rw [Int.neg_mul] at this
    omega
  · have := mul_bd (show 0 ≤ -a by omega) (show -a ≤ A by omega) (show 0 ≤ -b by omega) (show -b ≤ B by omega)
    rw [Int.neg_mul_neg] at this
    omega

def share (a n d : Int) : Int × Bool := if (-1000000000 ≤ a ∧ a ≤ 1000000000) ∧ vRat n d = true ∧ 0 ≤ n ∧ n ≤ d then ((2 * (a * n) + d) / (2 * d), true) else (0, false)
theorem share_bd {a n d : Int} (h1 : -1000000000 ≤ a ∧ a ≤ 1000000000) (h2 : vRat n d = true) : -2000000000000000 ≤ a * n ∧ a * n ≤ 2000000000000000 := by
  have k := rat_of h2
  exact mul_abs (A := 1000000000) (B := 2000000) (by omega) (by omega) (by omega) (by omega)
theorem iShare {k : Nat} (a n d : Int) (hk : 2000000 < k) : impl_ShareOf.f k a n d = some (share a n d) := by
  unfold impl_ShareOf.f share impl_nearest.f
  simp only [iAmt, wi, iRat n d hk, Option.bind_some, decide_eq_true_eq]
  by_cases h1 : -1000000000 ≤ a ∧ a ≤ 1000000000
  · by_cases h2 : vRat n d = true
    · by_cases h3 : 0 ≤ n ∧ n ≤ d
      · have hb := share_bd h1 h2
        have k2 := rat_of h2
        rw [if_pos h1, if_pos h2, if_pos h3, if_pos ⟨h1, h2, h3⟩, w64 (n := a * n) (by omega) (by omega), w64 (n := 2 * (a * n)) (by omega) (by omega), w64 (n := 2 * (a * n) + d) (by omega) (by omega), w64 (n := 2 * d) (by omega) (by omega),
          iFloor _ _ (by omega) (by omega) (by omega)]
        rfl
      · rw [if_pos h1, if_pos h2, if_neg h3, if_neg (fun h => h3 h.2.2)]
    · rw [if_pos h1, if_neg h2, if_neg (fun h => h2 h.2.1)]
  · rw [if_neg h1, if_neg (fun h => h1 h.1)]

theorem inR (a l h : Int) : spec_inRange.f a l h = some (decide (l ≤ a ∧ a ≤ h)) := by
  unfold spec_inRange.f
  split <;> simp only [true_and, false_and, decide_false, *]

theorem sDist (a : Int) (h : -9223372036854775807 ≤ a) (h2 : a ≤ 9223372036854775807) : spec_distance.f a = some (a.natAbs : Int) := by
  unfold spec_distance.f
  by_cases ha : a < 0
  · rw [if_pos ha, w64 (by omega) (by omega)]
    congr 1
    omega
  · rw [if_neg ha]
    congr 1
    omega

theorem sGcd : ∀ (n m k : Nat), n < k → spec_divisor.l0 k (m : Int) (n : Int) = some ((Nat.gcd m n : Nat) : Int) := by
  intro n
  induction n using Nat.strongRecOn with
  | _ n ih =>
    intro m k hk
    obtain ⟨k, rfl⟩ : ∃ j, k = j + 1 := ⟨k - 1, by omega⟩
    simp only [spec_divisor.l0]
    by_cases hn : n = 0
    · subst hn
      rw [if_neg (by simp), Nat.gcd_zero_right]
    · have hlt := Nat.mod_lt m (Nat.pos_of_ne_zero hn)
      rw [if_pos (by omega), if_neg (by omega), tmod_nat, ih (m % n) hlt n k (by omega), gcd_step m n hn]

theorem sDiv {a b : Int} {k : Nat} (hb : 0 ≤ b) (hk : b < k) : spec_divisor.f k (a.natAbs : Int) b = some (Int.gcd a b : Int) := by
  unfold spec_divisor.f
  have e : b = (b.natAbs : Int) := by omega
  have := sGcd b.natAbs a.natAbs k (by omega)
  rw [e, this]
  have e2 : ((b.natAbs : Int)).natAbs = b.natAbs := Int.natAbs_natCast _
  unfold Int.gcd
  rw [e2]

theorem sRat {k : Nat} (n d : Int) (hk : 2000000 < k) : spec_validRatio.f k n d = some (vRat n d) := by
  unfold spec_validRatio.f vRat
  simp only [inR, Option.bind_some, decide_eq_true_eq]
  by_cases h2 : 1 ≤ d ∧ d ≤ 2000000
  · by_cases h1 : -2000000 ≤ n ∧ n ≤ 2000000
    · rw [if_pos h1, if_pos h2, sDist n (by omega) (by omega)]
      simp only [Option.bind_some]
      rw [sDiv (by omega) (by omega)]
      simp only [Option.bind_some, h1, h2, and_self, true_and]
      rfl
    · rw [if_neg h1, if_pos h2, decide_eq_false (fun h => h1 h.1)]
  · rw [if_neg h2, decide_eq_false (fun h => h2 h.2.1)]

theorem sFloor (a b : Int) (hb : 0 < b) (h1 : -4611686018427387904 ≤ a) (h2 : a ≤ 4611686018427387904) : spec_floorDiv.f a b = some (a / b) := by
  have hf := floor_at a b hb
  have hd := div_bd a b hb 4611686018427387904 (by omega) (by omega) h2
  unfold spec_floorDiv.f
  rw [if_neg (by omega)]
  by_cases h : Int.tmod a b < 0
  · rw [if_pos h] at hf ⊢
    rw [w64 (n := Int.tdiv a b) (by omega) (by omega), w64 (by omega) (by omega), hf]
  · rw [if_neg h] at hf ⊢
    rw [w64 (n := Int.tdiv a b) (by omega) (by omega), hf]

theorem sShare {k : Nat} (a n d : Int) (hk : 2000000 < k) : spec_ShareOf.f k a n d = some (share a n d) := by
  unfold spec_ShareOf.f share spec_nearest.f
  simp only [inR, sRat n d hk, Option.bind_some, decide_eq_true_eq]
  by_cases h1 : -1000000000 ≤ a ∧ a ≤ 1000000000
  · by_cases h2 : vRat n d = true
    · by_cases h3 : 0 ≤ n ∧ n ≤ d
      · have hb := share_bd h1 h2
        have k2 := rat_of h2
        rw [if_pos h1, if_pos h2, if_pos h3, if_pos ⟨h1, h2, h3⟩, w64 (n := a * n) (by omega) (by omega), w64 (n := 2 * (a * n)) (by omega) (by omega), w64 (n := 2 * (a * n) + d) (by omega) (by omega), w64 (n := 2 * d) (by omega) (by omega),
          sFloor _ _ (by omega) (by omega) (by omega)]
        rfl
      · rw [if_pos h1, if_pos h2, if_neg h3, if_neg (fun h => h3 h.2.2)]
    · rw [if_pos h1, if_neg h2, if_neg (fun h => h2 h.2.1)]
  · rw [if_neg h1, if_neg (fun h => h1 h.1)]

end FnExactShareOfLaw
open FnExactShareOfLaw

theorem FnExactShareOf : ∀ (a0 : Int) (a1_0 : Int) (a1_1 : Int), (Lit.int .i64 a0).wf = true → (Lit.int .i64 a1_0).wf = true → (Lit.int .i64 a1_1).wf = true → ∃ k, laws_FnExactShareOf.f k a0 a1_0 a1_1 = some true := by
  intro a n d _ _ _
  refine ⟨2000001, ?_⟩
  unfold laws_FnExactShareOf.f laws_toRatio.f
  simp only [Option.bind_some]
  rw [sShare a n d (by omega), iShare a n d (by omega)]
  simp

end Go.Proofs.Ytekaceennnphfaa.Pure

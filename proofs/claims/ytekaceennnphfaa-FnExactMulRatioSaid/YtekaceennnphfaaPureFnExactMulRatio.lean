/- What the printed functions of FnExactMulRatio compute is true at every input. Conditions: none beyond the arguments' kinds. -/
import Derived.Test.YtekaceennnphfaaQFnExactMulRatiox2
import Derived.OpenShut
namespace Go.Proofs.Ytekaceennnphfaa.Pure
open Go.RowKit Go.Proofs.Ytekaceennnphfaa.PFnExactMulRatio Go.Proofs.YtekaceennnphfaaW.PrintWords Go.Proofs.YtekaceennnphfaaW.PrintLast Go.Proofs.YtekaceennnphfaaW.PrintMore
set_option linter.unusedVariables false
set_option linter.unusedSimpArgs false

namespace FnExactMulRatioLaw
theorem wi (a l h : Int) : impl_within.f a l h = some (decide (l ≤ a ∧ a ≤ h)) := by
  unfold impl_within.f
  split <;> rename_i hc <;> simp <;> omega

theorem gcd_step (m n : Nat) (hn : n ≠ 0) : Nat.gcd n (m % n) = Nat.gcd m n := by
  rw [Nat.gcd_comm n (m % n), ← Nat.gcd_rec n m, Nat.gcd_comm]
theorem tmod_nat (m n : Nat) : Int.tmod (m : Int) (n : Int) = ((m % n : Nat) : Int) := by
  rw [Int.tmod_eq_emod_of_nonneg (Int.natCast_nonneg m), Int.natCast_emod]

theorem iGcd : ∀ (n m k : Nat), n < k → impl_divisor.l0 k (m : Int) (n : Int) = some ((Nat.gcd m n : Nat) : Int) := by
  intro n
  induction n using Nat.strongRecOn with
  | _ n ih =>
    intro m k hk
    obtain ⟨k, rfl⟩ : ∃ j, k = j + 1 := ⟨k - 1, by omega⟩
    simp only [impl_divisor.l0]
    by_cases hn : n = 0
    · subst hn
      rw [if_pos (show ((0 : Nat) : Int) = 0 from rfl), Nat.gcd_zero_right]
    · have hlt := Nat.mod_lt m (Nat.pos_of_ne_zero hn)
      rw [if_neg (by omega), tmod_nat, ih (m % n) hlt n k (by omega), gcd_step m n hn]

theorem w64 {n : Int} (h1 : -9223372036854775808 ≤ n) (h2 : n ≤ 9223372036854775807) : wrap64 n = n := by
  unfold wrap64
  omega

theorem abs_mx (a : Int) (h : -9223372036854775807 ≤ a) (h2 : a ≤ 9223372036854775807) : mx a (wrap64 (-a)) = (a.natAbs : Int) := by
  rw [w64 (n := -a) (by omega) (by omega)]
  unfold mx
  split <;> omega
theorem iDiv {a b : Int} {k : Nat} (h : -9223372036854775807 ≤ a) (h2 : a ≤ 9223372036854775807) (hb : 0 ≤ b) (hk : b < k) : impl_divisor.f k (mx a (wrap64 (-a))) b = some (Int.gcd a b : Int) := by
  unfold impl_divisor.f
  rw [abs_mx a h h2]
  have e : b = (b.natAbs : Int) := by omega
  have := iGcd b.natAbs a.natAbs k (by omega)
  rw [e, this]
  have e2 : ((b.natAbs : Int)).natAbs = b.natAbs := Int.natAbs_natCast _
  unfold Int.gcd
  rw [e2]

/-- What a valid ratio is. -/
def vRat (n d : Int) : Bool := decide ((-2000000 ≤ n ∧ n ≤ 2000000) ∧ (1 ≤ d ∧ d ≤ 2000000) ∧ (Int.gcd n d : Int) = 1)
theorem rat_of {n d : Int} (h : vRat n d = true) : (-2000000 ≤ n ∧ n ≤ 2000000) ∧ (1 ≤ d ∧ d ≤ 2000000) ∧ (Int.gcd n d : Int) = 1 := of_decide_eq_true h

theorem iRat {k : Nat} (n d : Int) (hk : 2000000 < k) : impl_Ratio_valid.f k n d = some (vRat n d) := by
  unfold impl_Ratio_valid.f vRat
  simp only [wi, Option.bind_some, decide_eq_true_eq]
  by_cases h1 : -2000000 ≤ n ∧ n ≤ 2000000
  · by_cases h2 : 1 ≤ d ∧ d ≤ 2000000
    · rw [if_pos h1, if_pos h2, iDiv (by omega) (by omega) (by omega) (by omega)]
      simp only [Option.bind_some, h1, h2, and_self, true_and]
      rfl
    · rw [if_pos h1, if_neg h2, decide_eq_false (fun h => h2 h.2.1)]
  · rw [if_neg h1, decide_eq_false (fun h => h1 h.1)]

/-- A ratio in lowest terms, if it is valid. -/
def red (n d : Int) : Int × Int × Bool := if vRat (n / (Int.gcd n d : Int)) (d / (Int.gcd n d : Int)) = true then (n / (Int.gcd n d : Int), d / (Int.gcd n d : Int), true) else (0, 0, false)
theorem gcd_pos {n d : Int} (hd : 0 < d) : 0 < (Int.gcd n d : Int) := by
  have := Int.gcd_pos_of_ne_zero_right n (show d ≠ 0 by omega)
  omega
theorem low_facts (n d : Int) (hd : 0 < d) : ∃ p q : Int, n / (Int.gcd n d : Int) = p ∧ d / (Int.gcd n d : Int) = q ∧ n = (Int.gcd n d : Int) * p ∧ d = (Int.gcd n d : Int) * q ∧ 0 < q ∧ Int.gcd p q = 1 := by
  have hg := gcd_pos (n := n) hd
  have h1 := Int.mul_ediv_cancel' (Int.gcd_dvd_left n d)
  have h2 := Int.mul_ediv_cancel' (Int.gcd_dvd_right n d)
  refine ⟨n / (Int.gcd n d : Int), d / (Int.gcd n d : Int), rfl, rfl, h1.symm, h2.symm, ?_, Int.gcd_ediv_gcd_ediv_gcd (by omega)⟩
  exact Int.ediv_pos_of_pos_of_dvd hd (by omega) (Int.gcd_dvd_right n d)
theorem low_size {n d : Int} (hd : 0 < d) {B : Int} (h1 : -B ≤ n) (h2 : n ≤ B) : -B ≤ n / (Int.gcd n d : Int) ∧ n / (Int.gcd n d : Int) ≤ B := by
  have hg := gcd_pos (n := n) hd
  obtain ⟨p, q, e1, _, e3, _, _, _⟩ := low_facts n d hd
  rw [e1]
  rcases Int.le_total 0 p with hp | hp
  · have := Int.mul_le_mul_of_nonneg_right (show 1 ≤ (Int.gcd n d : Int) by omega) hp
    omega
  · have := Int.mul_le_mul_of_nonpos_right (show 1 ≤ (Int.gcd n d : Int) by omega) hp
    omega

theorem iLow {k : Nat} (n d : Int) (h : -9223372036854775807 ≤ n) (h2 : n ≤ 9223372036854775807) (hd : 0 < d) (hd2 : d ≤ 9223372036854775807) (hk : d < k) (hk2 : 2000000 < k) : impl_lowest.f k n d = some (red n d) := by
  unfold impl_lowest.f red
  have hg := gcd_pos (n := n) hd
  have b1 := low_size (n := n) (d := d) hd (B := 9223372036854775807) h h2
  have b2 : -9223372036854775807 ≤ d / (Int.gcd n d : Int) ∧ d / (Int.gcd n d : Int) ≤ 9223372036854775807 := by
    have h0 : 0 ≤ d / (Int.gcd n d : Int) := Int.ediv_nonneg (by omega) (by omega)
    have h1 : d / (Int.gcd n d : Int) ≤ d := Int.ediv_le_self _ (by omega)
    omega
  rw [iDiv h h2 (by omega) hk]
  simp only [Option.bind_some]
  rw [if_neg (by omega), Int.tdiv_eq_ediv_of_dvd (Int.gcd_dvd_left n d), Int.tdiv_eq_ediv_of_dvd (Int.gcd_dvd_right n d), w64 (n := n / (Int.gcd n d : Int)) (by omega) (by omega), w64 (n := d / (Int.gcd n d : Int)) (by omega) (by omega), iRat _ _ hk2]
  simp only [Option.bind_some]
  split <;> rfl

theorem mul_bd {a b A B : Int} (h0 : 0 ≤ a) (h1 : a ≤ A) (h2 : 0 ≤ b) (h3 : b ≤ B) : 0 ≤ a * b ∧ a * b ≤ A * B :=
  ⟨Int.mul_nonneg h0 h2, Int.mul_le_mul h1 h3 h2 (by omega)⟩

theorem mul_abs {a b A B : Int} (h0 : -A ≤ a) (h1 : a ≤ A) (h2 : -B ≤ b) (h3 : b ≤ B) : -(A * B) ≤ a * b ∧ a * b ≤ A * B := by
  rcases Int.le_total 0 a with ha | ha <;> rcases Int.le_total 0 b with hb | hb
  · have := mul_bd ha h1 hb h3
    omega
  · have := mul_bd ha h1 (show 0 ≤ -b by omega) (show -b ≤ B by omega)
    rw [Int.mul_neg] at this
    omega
  · have := mul_bd (show 0 ≤ -a by omega) (show -a ≤ A by omega) hb h3
    rw [Int.neg_mul] at this
    omega
  · have := mul_bd (show 0 ≤ -a by omega) (show -a ≤ A by omega) (show 0 ≤ -b by omega) (show -b ≤ B by omega)
    rw [Int.neg_mul_neg] at this
    omega

def addR (a b c d : Int) : Int × Int × Bool := if vRat a b = true ∧ vRat c d = true then red (a * d + c * b) (b * d) else (0, 0, false)
def mulR (a b c d : Int) : Int × Int × Bool := if vRat a b = true ∧ vRat c d = true then red (a * c) (b * d) else (0, 0, false)
theorem rat_bd {a b c d : Int} (h1 : vRat a b = true) (h2 : vRat c d = true) : (-4000000000000 ≤ a * d ∧ a * d ≤ 4000000000000) ∧ (-4000000000000 ≤ c * b ∧ c * b ≤ 4000000000000) ∧ (-4000000000000 ≤ a * c ∧ a * c ≤ 4000000000000) ∧ 1 ≤ b * d ∧ b * d ≤ 4000000000000 := by
  have k1 := rat_of h1
  have k2 := rat_of h2
  refine ⟨mul_abs (A := 2000000) (B := 2000000) (by omega) (by omega) (by omega) (by omega), mul_abs (A := 2000000) (B := 2000000) (by omega) (by omega) (by omega) (by omega), mul_abs (A := 2000000) (B := 2000000) (by omega) (by omega) (by omega) (by omega), ?_, ?_⟩
  · have := Int.mul_pos (show 0 < b by omega) (show 0 < d by omega)
    omega
  · exact (mul_abs (A := 2000000) (B := 2000000) (by omega) (by omega) (by omega) (by omega)).2

theorem iMul {k : Nat} (a b c d : Int) (hk : 4000000000000 < k) : impl_MulRatio.f k a b c d = some (mulR a b c d) := by
  unfold impl_MulRatio.f mulR
  rw [iRat a b (by omega), iRat c d (by omega)]
  simp only [Option.bind_some]
  by_cases h1 : vRat a b = true
  · by_cases h2 : vRat c d = true
    · have hb := rat_bd h1 h2
      rw [if_pos h1, if_pos h2, if_pos ⟨h1, h2⟩, w64 (n := a * c) (by omega) (by omega), w64 (n := b * d) (by omega) (by omega),
        iLow _ _ (by omega) (by omega) (by omega) (by omega) (by omega) (by omega)]
      rfl
    · rw [if_pos h1, if_neg h2, if_neg (fun h => h2 h.2)]
  · rw [if_neg h1, if_neg (fun h => h1 h.1)]

theorem inR (a l h : Int) : spec_inRange.f a l h = some (decide (l ≤ a ∧ a ≤ h)) := by
  unfold spec_inRange.f
  split <;> simp only [true_and, false_and, decide_false, *]

theorem sDist (a : Int) (h : -9223372036854775807 ≤ a) (h2 : a ≤ 9223372036854775807) : spec_distance.f a = some (a.natAbs : Int) := by
  unfold spec_distance.f
  by_cases ha : a < 0
  · rw [if_pos ha, w64 (by omega) (by omega)]
    congr 1
    omega
  · rw [if_neg ha]
    congr 1
    omega

theorem sGcd : ∀ (n m k : Nat), n < k → spec_divisor.l0 k (m : Int) (n : Int) = some ((Nat.gcd m n : Nat) : Int) := by
  intro n
  induction n using Nat.strongRecOn with
  | _ n ih =>
    intro m k hk
    obtain ⟨k, rfl⟩ : ∃ j, k = j + 1 := ⟨k - 1, by omega⟩
    simp only [spec_divisor.l0]
    by_cases hn : n = 0
    · subst hn
      rw [if_neg (by simp), Nat.gcd_zero_right]
    · have hlt := Nat.mod_lt m (Nat.pos_of_ne_zero hn)
      rw [if_pos (by omega), if_neg (by omega), tmod_nat, ih (m % n) hlt n k (by omega), gcd_step m n hn]

theorem sDiv {a b : Int} {k : Nat} (hb : 0 ≤ b) (hk : b < k) : spec_divisor.f k (a.natAbs : Int) b = some (Int.gcd a b : Int) := by
  unfold spec_divisor.f
  have e : b = (b.natAbs : Int) := by omega
  have := sGcd b.natAbs a.natAbs k (by omega)
  rw [e, this]
  have e2 : ((b.natAbs : Int)).natAbs = b.natAbs := Int.natAbs_natCast _
  unfold Int.gcd
  rw [e2]

theorem sRat {k : Nat} (n d : Int) (hk : 2000000 < k) : spec_validRatio.f k n d = some (vRat n d) := by
  unfold spec_validRatio.f vRat
  simp only [inR, Option.bind_some, decide_eq_true_eq]
  by_cases h2 : 1 ≤ d ∧ d ≤ 2000000
  · by_cases h1 : -2000000 ≤ n ∧ n ≤ 2000000
    · rw [if_pos h1, if_pos h2, sDist n (by omega) (by omega)]
      simp only [Option.bind_some]
      rw [sDiv (by omega) (by omega)]
      simp only [Option.bind_some, h1, h2, and_self, true_and]
      rfl
    · rw [if_neg h1, if_pos h2, decide_eq_false (fun h => h1 h.1)]
  · rw [if_neg h2, decide_eq_false (fun h => h2 h.2.1)]

theorem sLow {k : Nat} (n d : Int) (h : -9223372036854775807 ≤ n) (h2 : n ≤ 9223372036854775807) (hd : 0 < d) (hd2 : d ≤ 9223372036854775807) (hk : d < k) : spec_lowest.f k n d = some (n / (Int.gcd n d : Int), d / (Int.gcd n d : Int)) := by
  unfold spec_lowest.f
  have hg := gcd_pos (n := n) hd
  have b1 := low_size (n := n) (d := d) hd (B := 9223372036854775807) h h2
  have b2 : -9223372036854775807 ≤ d / (Int.gcd n d : Int) ∧ d / (Int.gcd n d : Int) ≤ 9223372036854775807 := by
    have h0 : 0 ≤ d / (Int.gcd n d : Int) := Int.ediv_nonneg (by omega) (by omega)
    have h1 : d / (Int.gcd n d : Int) ≤ d := Int.ediv_le_self _ (by omega)
    omega
  rw [sDist n h h2]
  simp only [Option.bind_some]
  rw [sDiv (by omega) hk]
  simp only [Option.bind_some]
  rw [if_neg (by omega), Int.tdiv_eq_ediv_of_dvd (Int.gcd_dvd_left n d), Int.tdiv_eq_ediv_of_dvd (Int.gcd_dvd_right n d), w64 (n := n / (Int.gcd n d : Int)) (by omega) (by omega), w64 (n := d / (Int.gcd n d : Int)) (by omega) (by omega)]

theorem sChecked {k : Nat} (n d : Int) (hk : 2000000 < k) : spec_checked.f k n d = some (if vRat n d = true then (n, d, true) else (0, 0, false)) := by
  unfold spec_checked.f
  rw [sRat n d hk]
  simp only [Option.bind_some]
  split <;> rfl

theorem sMul {k : Nat} (a b c d : Int) (hk : 4000000000000 < k) : spec_MulRatio.f (k + 1) a b c d = some (mulR a b c d) := by
  unfold spec_MulRatio.f mulR
  simp only [spec_MulRatio.j0]
  rw [sRat a b (by omega), sRat c d (by omega)]
  simp only [Option.bind_some]
  by_cases h1 : vRat a b = true
  · by_cases h2 : vRat c d = true
    · have hb := rat_bd h1 h2
      rw [if_pos h1, if_pos (show vRat a b = true ∧ vRat c d = true from ⟨h1, h2⟩), if_neg (show ¬ ((!vRat c d) = true) by simp [h2]), w64 (n := a * c) (by omega) (by omega), w64 (n := b * d) (by omega) (by omega),
        sLow _ _ (by omega) (by omega) (by omega) (by omega) (by omega)]
      simp only [Option.bind_some]
      rw [sChecked _ _ (by omega)]
      rfl
    · rw [if_pos h1, if_neg (show ¬ (vRat a b = true ∧ vRat c d = true) from fun h => h2 h.2), if_pos (show (!vRat c d) = true by simpa using h2)]
  · rw [if_neg h1, if_neg (show ¬ (vRat a b = true ∧ vRat c d = true) from fun h => h1 h.1)]
    try simp only [if_true]

end FnExactMulRatioLaw
open FnExactMulRatioLaw

theorem FnExactMulRatio : ∀ (a0_0 : Int) (a0_1 : Int) (a1_0 : Int) (a1_1 : Int), (Lit.int .i64 a0_0).wf = true → (Lit.int .i64 a0_1).wf = true → (Lit.int .i64 a1_0).wf = true → (Lit.int .i64 a1_1).wf = true → ∃ k, laws_FnExactMulRatio.f k a0_0 a0_1 a1_0 a1_1 = some true := by
  intro a b c d _ _ _ _
  refine ⟨4000000000001 + 1, ?_⟩
  unfold laws_FnExactMulRatio.f laws_toRatio.f
  simp only [Option.bind_some]
  rw [sMul a b c d (by omega), iMul a b c d (by omega)]
  simp [laws_eqRatio.f]

end Go.Proofs.Ytekaceennnphfaa.Pure

/- What the printed functions of FnRatioDistribute compute is true at every input. Conditions: none beyond the arguments' kinds. -/
import Derived.Test.YtekaceennnphfaaQFnRatioDistributex3
import Derived.OpenShut
namespace Go.Proofs.Ytekaceennnphfaa.Pure
open Go.RowKit Go.Proofs.Ytekaceennnphfaa.PFnRatioDistribute Go.Proofs.YtekaceennnphfaaW.PrintWords Go.Proofs.YtekaceennnphfaaW.PrintLast Go.Proofs.YtekaceennnphfaaW.PrintMore
set_option linter.unusedVariables false
set_option linter.unusedSimpArgs false

namespace FnRatioDistributeLaw
theorem wi (a l h : Int) : impl_within.f a l h = some (decide (l ≤ a ∧ a ≤ h)) := by
  unfold impl_within.f
  split <;> rename_i hc <;> simp <;> omega

theorem gcd_step (m n : Nat) (hn : n ≠ 0) : Nat.gcd n (m % n) = Nat.gcd m n := by
  rw [Nat.gcd_comm n (m % n), ← Nat.gcd_rec n m, Nat.gcd_comm]
theorem tmod_nat (m n : Nat) : Int.tmod (m : Int) (n : Int) = ((m % n : Nat) : Int) := by
  rw [Int.tmod_eq_emod_of_nonneg (Int.natCast_nonneg m), Int.natCast_emod]

theorem iGcd : ∀ (n m k : Nat), n < k → impl_divisor.l0 k (m : Int) (n : Int) = some ((Nat.gcd m n : Nat) : Int) := by
  intro n
  induction n using Nat.strongRecOn with
  | _ n ih =>
    intro m k hk
    obtain ⟨k, rfl⟩ : ∃ j, k = j + 1 := ⟨k - 1, by omega⟩
    simp only [impl_divisor.l0]
    by_cases hn : n = 0
    · subst hn
      rw [if_pos (show ((0 : Nat) : Int) = 0 from rfl), Nat.gcd_zero_right]
    · have hlt := Nat.mod_lt m (Nat.pos_of_ne_zero hn)
      rw [if_neg (by omega), tmod_nat, ih (m % n) hlt n k (by omega), gcd_step m n hn]

theorem w64 {n : Int} (h1 : -9223372036854775808 ≤ n) (h2 : n ≤ 9223372036854775807) : wrap64 n = n := by
  unfold wrap64
  omega

theorem abs_mx (a : Int) (h : -9223372036854775807 ≤ a) (h2 : a ≤ 9223372036854775807) : mx a (wrap64 (-a)) = (a.natAbs : Int) := by
  rw [w64 (n := -a) (by omega) (by omega)]
  unfold mx
  split <;> omega
theorem iDiv {a b : Int} {k : Nat} (h : -9223372036854775807 ≤ a) (h2 : a ≤ 9223372036854775807) (hb : 0 ≤ b) (hk : b < k) : impl_divisor.f k (mx a (wrap64 (-a))) b = some (Int.gcd a b : Int) := by
  unfold impl_divisor.f
  rw [abs_mx a h h2]
  have e : b = (b.natAbs : Int) := by omega
  have := iGcd b.natAbs a.natAbs k (by omega)
  rw [e, this]
  have e2 : ((b.natAbs : Int)).natAbs = b.natAbs := Int.natAbs_natCast _
  unfold Int.gcd
  rw [e2]

/-- What a valid ratio is. -/
def vRat (n d : Int) : Bool := decide ((-2000000 ≤ n ∧ n ≤ 2000000) ∧ (1 ≤ d ∧ d ≤ 2000000) ∧ (Int.gcd n d : Int) = 1)
theorem rat_of {n d : Int} (h : vRat n d = true) : (-2000000 ≤ n ∧ n ≤ 2000000) ∧ (1 ≤ d ∧ d ≤ 2000000) ∧ (Int.gcd n d : Int) = 1 := of_decide_eq_true h

theorem iRat {k : Nat} (n d : Int) (hk : 2000000 < k) : impl_Ratio_valid.f k n d = some (vRat n d) := by
  unfold impl_Ratio_valid.f vRat
  simp only [wi, Option.bind_some, decide_eq_true_eq]
  by_cases h1 : -2000000 ≤ n ∧ n ≤ 2000000
  · by_cases h2 : 1 ≤ d ∧ d ≤ 2000000
    · rw [if_pos h1, if_pos h2, iDiv (by omega) (by omega) (by omega) (by omega)]
      simp only [Option.bind_some, h1, h2, and_self, true_and]
      rfl
    · rw [if_pos h1, if_neg h2, decide_eq_false (fun h => h2 h.2.1)]
  · rw [if_neg h1, decide_eq_false (fun h => h1 h.1)]

/-- A ratio in lowest terms, if it is valid. -/
def red (n d : Int) : Int × Int × Bool := if vRat (n / (Int.gcd n d : Int)) (d / (Int.gcd n d : Int)) = true then (n / (Int.gcd n d : Int), d / (Int.gcd n d : Int), true) else (0, 0, false)
theorem gcd_pos {n d : Int} (hd : 0 < d) : 0 < (Int.gcd n d : Int) := by
  have := Int.gcd_pos_of_ne_zero_right n (show d ≠ 0 by omega)
  omega
theorem low_facts (n d : Int) (hd : 0 < d) : ∃ p q : Int, n / (Int.gcd n d : Int) = p ∧ d / (Int.gcd n d : Int) = q ∧ n = (Int.gcd n d : Int) * p ∧ d = (Int.gcd n d : Int) * q ∧ 0 < q ∧ Int.gcd p q = 1 := by
  have hg := gcd_pos (n := n) hd
  have h1 := Int.mul_ediv_cancel' (Int.gcd_dvd_left n d)
  have h2 := Int.mul_ediv_cancel' (Int.gcd_dvd_right n d)
  refine ⟨n / (Int.gcd n d : Int), d / (Int.gcd n d : Int), rfl, rfl, h1.symm, h2.symm, ?_, Int.gcd_ediv_gcd_ediv_gcd (by omega)⟩
  exact Int.ediv_pos_of_pos_of_dvd hd (by omega) (Int.gcd_dvd_right n d)
theorem low_size {n d : Int} (hd : 0 < d) {B : Int} (h1 : -B ≤ n) (h2 : n ≤ B) : -B ≤ n / (Int.gcd n d : Int) ∧ n / (Int.gcd n d : Int) ≤ B := by
  have hg := gcd_pos (n := n) hd
  obtain ⟨p, q, e1, _, e3, _, _, _⟩ := low_facts n d hd
  rw [e1]
  rcases Int.le_total 0 p with hp | hp
  · have := Int.mul_le_mul_of_nonneg_right (show 1 ≤ (Int.gcd n d : Int) by omega) hp
    omega
  · have := Int.mul_le_mul_of_nonpos_right (show 1 ≤ (Int.gcd n d : Int) by omega) hp
    omega

theorem iLow {k : Nat} (n d : Int) (h : -9223372036854775807 ≤ n) (h2 : n ≤ 9223372036854775807) (hd : 0 < d) (hd2 : d ≤ 9223372036854775807) (hk : d < k) (hk2 : 2000000 < k) : impl_lowest.f k n d = some (red n d) := by
  unfold impl_lowest.f red
  have hg := gcd_pos (n := n) hd
  have b1 := low_size (n := n) (d := d) hd (B := 9223372036854775807) h h2
  have b2 : -9223372036854775807 ≤ d / (Int.gcd n d : Int) ∧ d / (Int.gcd n d : Int) ≤ 9223372036854775807 := by
    have h0 : 0 ≤ d / (Int.gcd n d : Int) := Int.ediv_nonneg (by omega) (by omega)
    have h1 : d / (Int.gcd n d : Int) ≤ d := Int.ediv_le_self _ (by omega)
    omega
  rw [iDiv h h2 (by omega) hk]
  simp only [Option.bind_some]
  rw [if_neg (by omega), Int.tdiv_eq_ediv_of_dvd (Int.gcd_dvd_left n d), Int.tdiv_eq_ediv_of_dvd (Int.gcd_dvd_right n d), w64 (n := n / (Int.gcd n d : Int)) (by omega) (by omega), w64 (n := d / (Int.gcd n d : Int)) (by omega) (by omega), iRat _ _ hk2]
  simp only [Option.bind_some]
  split <;> rfl

theorem mul_bd {a b A B : Int} (h0 : 0 ≤ a) (h1 : a ≤ A) (h2 : 0 ≤ b) (h3 : b ≤ B) : 0 ≤ a * b ∧ a * b ≤ A * B :=
  ⟨Int.mul_nonneg h0 h2, Int.mul_le_mul h1 h3 h2 (by omega)⟩

theorem mul_abs {a b A B : Int} (h0 : -A ≤ a) (h1 : a ≤ A) (h2 : -B ≤ b) (h3 : b ≤ B) : -(A * B) ≤ a * b ∧ a * b ≤ A * B := by
  rcases Int.le_total 0 a with ha | ha <;> rcases Int.le_total 0 b with hb | hb
  · have := mul_bd ha h1 hb h3
    omega
  · have := mul_bd ha h1 (show 0 ≤ -b by omega) (show -b ≤ B by omega)
    rw [Int.mul_neg] at this
    omega
  · have := mul_bd (show 0 ≤ -a by omega) (show -a ≤ A by omega) hb h3
    rw [Int.neg_mul] at this
    omega
  · have := mul_bd (show 0 ≤ -a by omega) (show -a ≤ A by omega) (show 0 ≤ -b by omega) (show -b ≤ B by omega)
    rw [Int.neg_mul_neg] at this
    omega

def addR (a b c d : Int) : Int × Int × Bool := if vRat a b = true ∧ vRat c d = true then red (a * d + c * b) (b * d) else (0, 0, false)
def mulR (a b c d : Int) : Int × Int × Bool := if vRat a b = true ∧ vRat c d = true then red (a * c) (b * d) else (0, 0, false)
theorem rat_bd {a b c d : Int} (h1 : vRat a b = true) (h2 : vRat c d = true) : (-4000000000000 ≤ a * d ∧ a * d ≤ 4000000000000) ∧ (-4000000000000 ≤ c * b ∧ c * b ≤ 4000000000000) ∧ (-4000000000000 ≤ a * c ∧ a * c ≤ 4000000000000) ∧ 1 ≤ b * d ∧ b * d ≤ 4000000000000 := by
  have k1 := rat_of h1
  have k2 := rat_of h2
  refine ⟨mul_abs (A := 2000000) (B := 2000000) (by omega) (by omega) (by omega) (by omega), mul_abs (A := 2000000) (B := 2000000) (by omega) (by omega) (by omega) (by omega), mul_abs (A := 2000000) (B := 2000000) (by omega) (by omega) (by omega) (by omega), ?_, ?_⟩
  · have := Int.mul_pos (show 0 < b by omega) (show 0 < d by omega)
    omega
  · exact (mul_abs (A := 2000000) (B := 2000000) (by omega) (by omega) (by omega) (by omega)).2

theorem iAdd {k : Nat} (a b c d : Int) (hk : 4000000000000 < k) : impl_AddRatio.f k a b c d = some (addR a b c d) := by
  unfold impl_AddRatio.f addR
  rw [iRat a b (by omega), iRat c d (by omega)]
  simp only [Option.bind_some]
  by_cases h1 : vRat a b = true
  · by_cases h2 : vRat c d = true
    · have hb := rat_bd h1 h2
      rw [if_pos h1, if_pos h2, if_pos ⟨h1, h2⟩, w64 (n := a * d) (by omega) (by omega), w64 (n := c * b) (by omega) (by omega), w64 (n := a * d + c * b) (by omega) (by omega), w64 (n := b * d) (by omega) (by omega),
        iLow _ _ (by omega) (by omega) (by omega) (by omega) (by omega) (by omega)]
      rfl
    · rw [if_pos h1, if_neg h2, if_neg (fun h => h2 h.2)]
  · rw [if_neg h1, if_neg (fun h => h1 h.1)]

theorem inR (a l h : Int) : spec_inRange.f a l h = some (decide (l ≤ a ∧ a ≤ h)) := by
  unfold spec_inRange.f
  split <;> simp only [true_and, false_and, decide_false, *]

theorem sDist (a : Int) (h : -9223372036854775807 ≤ a) (h2 : a ≤ 9223372036854775807) : spec_distance.f a = some (a.natAbs : Int) := by
  unfold spec_distance.f
  by_cases ha : a < 0
  · rw [if_pos ha, w64 (by omega) (by omega)]
    congr 1
    omega
  · rw [if_neg ha]
    congr 1
    omega

theorem sGcd : ∀ (n m k : Nat), n < k → spec_divisor.l0 k (m : Int) (n : Int) = some ((Nat.gcd m n : Nat) : Int) := by
  intro n
  induction n using Nat.strongRecOn with
  | _ n ih =>
    intro m k hk
    obtain ⟨k, rfl⟩ : ∃ j, k = j + 1 := ⟨k - 1, by omega⟩
    simp only [spec_divisor.l0]
    by_cases hn : n = 0
    · subst hn
      rw [if_neg (by simp), Nat.gcd_zero_right]
    · have hlt := Nat.mod_lt m (Nat.pos_of_ne_zero hn)
      rw [if_pos (by omega), if_neg (by omega), tmod_nat, ih (m % n) hlt n k (by omega), gcd_step m n hn]

theorem sDiv {a b : Int} {k : Nat} (hb : 0 ≤ b) (hk : b < k) : spec_divisor.f k (a.natAbs : Int) b = some (Int.gcd a b : Int) := by
  unfold spec_divisor.f
  have e : b = (b.natAbs : Int) := by omega
  have := sGcd b.natAbs a.natAbs k (by omega)
  rw [e, this]
  have e2 : ((b.natAbs : Int)).natAbs = b.natAbs := Int.natAbs_natCast _
  unfold Int.gcd
  rw [e2]

theorem sRat {k : Nat} (n d : Int) (hk : 2000000 < k) : spec_validRatio.f k n d = some (vRat n d) := by
  unfold spec_validRatio.f vRat
  simp only [inR, Option.bind_some, decide_eq_true_eq]
  by_cases h2 : 1 ≤ d ∧ d ≤ 2000000
  · by_cases h1 : -2000000 ≤ n ∧ n ≤ 2000000
    · rw [if_pos h1, if_pos h2, sDist n (by omega) (by omega)]
      simp only [Option.bind_some]
      rw [sDiv (by omega) (by omega)]
      simp only [Option.bind_some, h1, h2, and_self, true_and]
      rfl
    · rw [if_neg h1, if_pos h2, decide_eq_false (fun h => h1 h.1)]
  · rw [if_neg h2, decide_eq_false (fun h => h2 h.2.1)]

theorem sLow {k : Nat} (n d : Int) (h : -9223372036854775807 ≤ n) (h2 : n ≤ 9223372036854775807) (hd : 0 < d) (hd2 : d ≤ 9223372036854775807) (hk : d < k) : spec_lowest.f k n d = some (n / (Int.gcd n d : Int), d / (Int.gcd n d : Int)) := by
  unfold spec_lowest.f
  have hg := gcd_pos (n := n) hd
  have b1 := low_size (n := n) (d := d) hd (B := 9223372036854775807) h h2
  have b2 : -9223372036854775807 ≤ d / (Int.gcd n d : Int) ∧ d / (Int.gcd n d : Int) ≤ 9223372036854775807 := by
    have h0 : 0 ≤ d / (Int.gcd n d : Int) := Int.ediv_nonneg (by omega) (by omega)
    have h1 : d / (Int.gcd n d : Int) ≤ d := Int.ediv_le_self _ (by omega)
    omega
  rw [sDist n h h2]
  simp only [Option.bind_some]
  rw [sDiv (by omega) hk]
  simp only [Option.bind_some]
  rw [if_neg (by omega), Int.tdiv_eq_ediv_of_dvd (Int.gcd_dvd_left n d), Int.tdiv_eq_ediv_of_dvd (Int.gcd_dvd_right n d), w64 (n := n / (Int.gcd n d : Int)) (by omega) (by omega), w64 (n := d / (Int.gcd n d : Int)) (by omega) (by omega)]

theorem sChecked {k : Nat} (n d : Int) (hk : 2000000 < k) : spec_checked.f k n d = some (if vRat n d = true then (n, d, true) else (0, 0, false)) := by
  unfold spec_checked.f
  rw [sRat n d hk]
  simp only [Option.bind_some]
  split <;> rfl

theorem sAdd {k : Nat} (a b c d : Int) (hk : 4000000000000 < k) : spec_AddRatio.f (k + 1) a b c d = some (addR a b c d) := by
  unfold spec_AddRatio.f addR
  simp only [spec_AddRatio.j0]
  rw [sRat a b (by omega), sRat c d (by omega)]
  simp only [Option.bind_some]
  by_cases h1 : vRat a b = true
  · by_cases h2 : vRat c d = true
    · have hb := rat_bd h1 h2
      rw [if_pos h1, if_pos (show vRat a b = true ∧ vRat c d = true from ⟨h1, h2⟩), if_neg (show ¬ ((!vRat c d) = true) by simp [h2]), w64 (n := a * d) (by omega) (by omega), w64 (n := c * b) (by omega) (by omega), w64 (n := a * d + c * b) (by omega) (by omega), w64 (n := b * d) (by omega) (by omega),
        sLow _ _ (by omega) (by omega) (by omega) (by omega) (by omega)]
      simp only [Option.bind_some]
      rw [sChecked _ _ (by omega)]
      rfl
    · rw [if_pos h1, if_neg (show ¬ (vRat a b = true ∧ vRat c d = true) from fun h => h2 h.2), if_pos (show (!vRat c d) = true by simpa using h2)]
  · rw [if_neg h1, if_neg (show ¬ (vRat a b = true ∧ vRat c d = true) from fun h => h1 h.1)]
    try simp only [if_true]

theorem iMul {k : Nat} (a b c d : Int) (hk : 4000000000000 < k) : impl_MulRatio.f k a b c d = some (mulR a b c d) := by
  unfold impl_MulRatio.f mulR
  rw [iRat a b (by omega), iRat c d (by omega)]
  simp only [Option.bind_some]
  by_cases h1 : vRat a b = true
  · by_cases h2 : vRat c d = true
    · have hb := rat_bd h1 h2
      rw [if_pos h1, if_pos h2, if_pos ⟨h1, h2⟩, w64 (n := a * c) (by omega) (by omega), w64 (n := b * d) (by omega) (by omega),
        iLow _ _ (by omega) (by omega) (by omega) (by omega) (by omega) (by omega)]
      rfl
    · rw [if_pos h1, if_neg h2, if_neg (fun h => h2 h.2)]
  · rw [if_neg h1, if_neg (fun h => h1 h.1)]

theorem dvd_of {p q q' : Int} (h : q ∣ p * q') (hc : Int.gcd p q = 1) : q ∣ q' := by
  have h1 : q.natAbs ∣ p.natAbs * q'.natAbs := by
    have := Int.natAbs_dvd_natAbs.2 h
    rwa [Int.natAbs_mul] at this
  have h2 : Nat.Coprime q.natAbs p.natAbs := by
    unfold Nat.Coprime
    rw [Nat.gcd_comm]
    exact hc
  exact Int.natAbs_dvd_natAbs.1 (h2.dvd_of_dvd_mul_left h1)
theorem uniq {p q p' q' : Int} (h : p * q' = p' * q) (hq : 0 < q) (hq' : 0 < q') (hc : Int.gcd p q = 1) (hc' : Int.gcd p' q' = 1) : p = p' ∧ q = q' := by
  have d1 : q ∣ q' := dvd_of (p := p) ⟨p', by rw [h, Int.mul_comm]⟩ hc
  have d2 : q' ∣ q := dvd_of (p := p') ⟨p, by rw [← h, Int.mul_comm]⟩ hc'
  have e : q = q' := Int.dvd_antisymm (by omega) (by omega) d1 d2
  subst e
  exact ⟨Int.eq_of_mul_eq_mul_right (by omega) h, rfl⟩
/-- Two fractions that are equal are equal in lowest terms. -/
theorem red_eq {n d n' d' : Int} (hd : 0 < d) (hd' : 0 < d') (h : n * d' = n' * d) : red n d = red n' d' := by
  obtain ⟨p, q, e1, e2, e3, e4, e5, e6⟩ := low_facts n d hd
  obtain ⟨p', q', f1, f2, f3, f4, f5, f6⟩ := low_facts n' d' hd'
  have hg := gcd_pos (n := n) hd
  have hg' := gcd_pos (n := n') hd'
  unfold red
  rw [e1, e2, f1, f2]
  have key : p * q' = p' * q := by
    generalize (Int.gcd n d : Int) = g at *
    generalize (Int.gcd n' d' : Int) = g' at *
    rw [e3, e4, f3, f4] at h
    have h0 : (g * g') * (p * q') = (g * g') * (p' * q) := by
      have a1 : (g * g') * (p * q') = g * p * (g' * q') := by
        rw [Int.mul_assoc, Int.mul_assoc]
        congr 1
        rw [← Int.mul_assoc, ← Int.mul_assoc, Int.mul_comm g' p]
      have a2 : (g * g') * (p' * q) = g' * p' * (g * q) := by
        rw [Int.mul_comm g g', Int.mul_assoc, Int.mul_assoc]
        congr 1
        rw [← Int.mul_assoc, ← Int.mul_assoc, Int.mul_comm g p']
      omega
    have hne : g * g' ≠ 0 := by
      have := Int.mul_pos hg hg'
      omega
    exact Int.eq_of_mul_eq_mul_left hne h0
  obtain ⟨rfl, rfl⟩ := uniq key e5 f5 e6 f6
  rfl
theorem red_self {n d : Int} (h : vRat n d = true) : red n d = (n, d, true) := by
  have k := rat_of h
  unfold red
  rw [k.2.2, Int.ediv_one, Int.ediv_one, if_pos h]
/-- What is valid is equal to what was reduced. -/
theorem red_frac {n d p q : Int} (hd : 0 < d) (h : red n d = (p, q, true)) : vRat p q = true ∧ n * q = p * d ∧ 0 < q := by
  obtain ⟨p0, q0, e1, e2, e3, e4, e5, e6⟩ := low_facts n d hd
  unfold red at h
  rw [e1, e2] at h
  by_cases hv : vRat p0 q0 = true
  · rw [if_pos hv] at h
    simp only [Prod.mk.injEq, and_true] at h
    obtain ⟨rfl, rfl⟩ := h
    refine ⟨hv, ?_, e5⟩
    generalize (Int.gcd n d : Int) = g at *
    rw [e3, e4]
    rw [Int.mul_comm g p0, Int.mul_assoc]
  · rw [if_neg hv] at h
    simp at h

/-- A computation that answers, and its answer is P. -/
def Gives {α : Type} (o : Option α) (P : α → Prop) : Prop := ∃ v, o = some v ∧ P v
theorem Gives.of {α : Type} {v : α} {P : α → Prop} (h : P v) : Gives (some v) P := ⟨v, rfl, h⟩
theorem Gives.bind {α β : Type} {o : Option α} {f : α → Option β} {P : α → Prop} {Q : β → Prop} (h : Gives o P) (hf : ∀ v, P v → Gives (f v) Q) : Gives (o.bind f) Q := by
  obtain ⟨v, rfl, hv⟩ := h
  exact hf v hv
theorem Gives.ite {α : Type} {c : Prop} [Decidable c] {a b : Option α} {P : α → Prop} (h1 : c → Gives a P) (h2 : ¬ c → Gives b P) : Gives (if c then a else b) P := by
  by_cases h : c
  · rw [if_pos h]
    exact h1 h
  · rw [if_neg h]
    exact h2 h
theorem Gives.pos {α : Type} {c : Prop} [Decidable c] {a b : Option α} {P : α → Prop} (hc : c) (h1 : Gives a P) : Gives (if c then a else b) P := by
  rw [if_pos hc]
  exact h1
theorem Gives.neg {α : Type} {c : Prop} [Decidable c] {a b : Option α} {P : α → Prop} (hc : ¬ c) (h1 : Gives b P) : Gives (if c then a else b) P := by
  rw [if_neg hc]
  exact h1
theorem Gives.mono {α : Type} {o : Option α} {P Q : α → Prop} (h : Gives o P) (hpq : ∀ v, P v → Q v) : Gives o Q := by
  obtain ⟨v, e, hv⟩ := h
  exact ⟨v, e, hpq v hv⟩
theorem Gives.eq {α : Type} {o : Option α} {v : α} (h : o = some v) : Gives o (fun x => x = v) := ⟨v, h, rfl⟩

/-- What a reader reads: at most 2000 bytes. -/
def Rd (b : List Int) : Prop := b.length ≤ 2000 ∧ ∀ x ∈ b, (Lit.int .u8 x).wf = true
theorem rd_byte {b : List Int} (h : Rd b) (i : Int) : 0 ≤ rd b i ∧ rd b i ≤ 255 := by
  unfold rd
  rw [List.getD_eq_getElem?_getD]
  by_cases hi : i.toNat < b.length
  · rw [List.getElem?_eq_getElem hi]
    exact bounds_u8 (h.2 _ (List.getElem_mem hi))
  · rw [List.getElem?_eq_none (by omega)]
    exact ⟨by simp, by simp⟩
theorem xor_nonneg {x y : Int} (hx : 0 ≤ x) (hx2 : x < 4611686018427387904) (hy : 0 ≤ y) (hy2 : y < 4611686018427387904) : 0 ≤ Go.bits .xor .i64 x y ∧ Go.bits .xor .i64 x y < 4611686018427387904 := by
  obtain ⟨a, rfl⟩ := Int.eq_ofNat_of_zero_le hx
  obtain ⟨b, rfl⟩ := Int.eq_ofNat_of_zero_le hy
  have ha : a < 2 ^ 62 := by omega
  have hb : b < 2 ^ 62 := by omega
  have hp : (2 : Nat) ^ 62 ≤ 2 ^ IntKind.i64.bits := Nat.pow_le_pow_right (by decide) (by decide)
  have ha' : a % 2 ^ IntKind.i64.bits = a := Nat.mod_eq_of_lt (Nat.lt_of_lt_of_le ha hp)
  have hb' : b % 2 ^ IntKind.i64.bits = b := Nat.mod_eq_of_lt (Nat.lt_of_lt_of_le hb hp)
  have hxor : a ^^^ b < 2 ^ 62 := Nat.xor_lt_two_pow ha hb
  have e : Go.bits .xor .i64 (a : Int) (b : Int) = ((a ^^^ b : Nat) : Int) := by
    simp only [Go.bits, BitVec.ofInt_natCast, BitVec.toNat_xor, BitVec.toNat_ofNat, ha', hb']
    rw [IntKind.wrap_i64]
    omega
  have e2 : (Int.ofNat a) = (a : Int) := rfl
  have e3 : (Int.ofNat b) = (b : Int) := rfl
  first | rw [e] | (rw [e2, e3, e])
  omega
theorem tmod_at {x n : Int} (hx : 0 ≤ x) (hn : 0 < n) : 0 ≤ Int.tmod x n ∧ Int.tmod x n < n := ⟨Int.tmod_nonneg n hx, Int.tmod_lt_of_pos x hn⟩
theorem tdiv_at {x n : Int} (hx : 0 ≤ x) (hn : 0 < n) : 0 ≤ Int.tdiv x n ∧ Int.tdiv x n ≤ x := by
  rw [Int.tdiv_eq_ediv_of_nonneg hx]
  exact ⟨Int.ediv_nonneg hx (by omega), Int.ediv_le_self n hx⟩

theorem pick {b : List Int} (hb : Rd b) {p n : Int} (k : Nat) (h0 : 0 ≤ p) (h1 : p ≤ 1000000) (hn : 1 ≤ n) : Gives (spec_reader_pick.f (k + 1) b p n) (fun v => (0 ≤ v.1 ∧ v.1 < n) ∧ v.2 = p + 1) := by
  unfold spec_reader_pick.f
  rw [if_neg (by omega), w64 (n := p + 1) (by omega) (by omega)]
  simp only [spec_reader_pick.j0]
  have hl := hb.1
  by_cases hz : b.length = 0
  · have : ((b.length : Int) == 0) = true := by
      rw [hz]
      rfl
    rw [if_pos this]
    exact Gives.of ⟨⟨by omega, by omega⟩, rfl⟩
  · have : ¬ ((b.length : Int) == 0) = true := by
      simp only [beq_iff_eq]
      omega
    rw [if_neg this, w64 (n := p + 1 - 1) (by omega) (by omega)]
    have e : p + 1 - 1 = p := by omega
    rw [e]
    have hlp : 0 < (b.length : Int) := by omega
    by_cases hp : p < (b.length : Int)
    · have hr := rd_byte hb p
      rw [if_pos hp, if_pos h0, if_neg (by omega), w64 (n := rd b p) (by omega) (by omega)]
      exact Gives.of ⟨tmod_at hr.1 (by omega), rfl⟩
    · have m1 := tmod_at h0 hlp
      rw [if_neg hp, if_neg (by omega), if_pos m1.1, if_pos m1.2, w64 (n := p * 7) (by omega) (by omega), w64 (n := p * 7 + 3) (by omega) (by omega)]
      have m2 := tmod_at (show 0 ≤ p * 7 + 3 by omega) hlp
      have d1 := tdiv_at h0 hlp
      rw [if_pos m2.1, if_pos m2.2, if_neg (by omega)]
      generalize Int.tmod p (b.length : Int) = i1 at *
      generalize Int.tmod (p * 7 + 3) (b.length : Int) = i2 at *
      generalize Int.tdiv p (b.length : Int) = q at *
      have r1 := rd_byte hb i1
      have r2 := rd_byte hb i2
      generalize rd b i1 = x1 at *
      generalize rd b i2 = x2 at *
      rw [w64 (n := x1) (by omega) (by omega), w64 (n := x2) (by omega) (by omega), w64 (n := x1 * 131) (by omega) (by omega), w64 (n := x2 * 1117) (by omega) (by omega), w64 (n := x1 * 131 + x2 * 1117) (by omega) (by omega),
        w64 (n := p * 29) (by omega) (by omega), w64 (n := x1 * 131 + x2 * 1117 + p * 29) (by omega) (by omega), w64 (n := q) (by omega) (by omega), w64 (n := q * 53) (by omega) (by omega), w64 (n := x1 * 131 + x2 * 1117 + p * 29 + q * 53) (by omega) (by omega)]
      have hy : 0 ≤ x1 * 131 + x2 * 1117 + p * 29 + q * 53 ∧ x1 * 131 + x2 * 1117 + p * 29 + q * 53 < 1000000000 := by omega
      generalize x1 * 131 + x2 * 1117 + p * 29 + q * 53 = y at *
      have d2 := tdiv_at hy.1 (show (0 : Int) < 64 by omega)
      rw [w64 (n := Int.tdiv y 64) (by omega) (by omega)]
      have hx := xor_nonneg hy.1 (by omega) d2.1 (by omega)
      exact Gives.of ⟨tmod_at hx.1 (by omega), rfl⟩

theorem rd_mem {l : List Int} {i : Int} (h0 : 0 ≤ i) (h1 : i < (l.length : Int)) : rd l i ∈ l := by
  unfold rd
  have hi : i.toNat < l.length := by omega
  rw [List.getD_eq_getElem?_getD, List.getElem?_eq_getElem hi]
  exact List.getElem_mem hi
theorem one {b : List Int} (hb : Rd b) {p : Int} (k : Nat) {l : List Int} (h0 : 0 ≤ p) (h1 : p ≤ 1000000) (hl : 1 ≤ l.length) : Gives (spec_reader_one.f (k + 1) b p l) (fun v => v.1 ∈ l ∧ v.2 = p + 1) := by
  unfold spec_reader_one.f
  refine Gives.bind (pick hb k h0 h1 (by omega)) (fun v hv => ?_)
  rw [if_pos hv.1.1, if_pos hv.1.2]
  exact Gives.of ⟨rd_mem hv.1.1 hv.1.2, hv.2⟩

theorem anyRatio {b : List Int} (hb : Rd b) {p : Int} (k : Nat) (hk : 5000000 < k) (h0 : 0 ≤ p) (h1 : p ≤ 800000) : Gives (spec_anyRatio.f (k + 1) b p) (fun v => v.2.2 ≤ p + 5 ∧ 0 ≤ v.2.2) := by
  unfold spec_anyRatio.f
  refine Gives.bind (pick hb k h0 (by omega) (by omega)) (fun v1 g1 => ?_)
  refine Gives.bind (pick hb k (by omega) (by omega) (by omega)) (fun v2 g2 => ?_)
  rw [w64 (n := v1.1 - 20) (by omega) (by omega), w64 (n := 1 + v2.1) (by omega) (by omega)]
  refine Gives.bind (Gives.eq (sLow _ _ (by omega) (by omega) (by omega) (by omega) (by omega))) (fun v3 g3 => ?_)
  refine Gives.bind (pick hb k (by omega) (by omega) (by omega)) (fun v4 g4 => ?_)
  refine Gives.ite (fun _ => ?_) (fun _ => Gives.ite (fun _ => ?_) (fun _ => ?_))
  · refine Gives.bind (one hb k (by omega) (by omega) (by decide)) (fun v5 g5 => ?_)
    exact Gives.bind (one hb k (by omega) (by omega) (by decide)) (fun v6 g6 => Gives.of (show v6.2 ≤ p + 5 ∧ 0 ≤ v6.2 by omega))
  · refine Gives.bind (pick hb k (by omega) (by omega) (by omega)) (fun v5 g5 => ?_)
    rw [w64 (n := v5.1 * 999) (by omega) (by omega), w64 (n := 1 + v5.1 * 999) (by omega) (by omega)]
    exact Gives.bind (Gives.eq (sLow _ _ (by omega) (by omega) (by omega) (by omega) (by omega))) (fun v6 g6 => Gives.of (show v5.2 ≤ p + 5 ∧ 0 ≤ v5.2 by omega))
  · exact Gives.of (show v4.2 ≤ p + 5 ∧ 0 ≤ v4.2 by omega)

theorem newReader {l : List Int} (hx : ∀ x ∈ l, (Lit.int .u8 x).wf = true) : Gives (spec_newReader.f l) (fun v => Rd v.1 ∧ v.2 = 0) := by
  unfold spec_newReader.f
  by_cases h : (l.length : Int) > 2000
  · rw [if_pos h, if_pos (by omega)]
    exact Gives.of ⟨⟨by simp only [List.length_take]; omega, fun x hm => hx x (List.mem_of_mem_take hm)⟩, rfl⟩
  · rw [if_neg h]
    exact Gives.of ⟨⟨show l.length ≤ 2000 by omega, hx⟩, rfl⟩

theorem drawAdd {l : List Int} (k : Nat) (hk : 5000000 < k) (hx : ∀ x ∈ l, (Lit.int .u8 x).wf = true) : Gives (spec_DrawAddRatio.f (k + 1) l) (fun _ => True) := by
  unfold spec_DrawAddRatio.f
  refine Gives.bind (newReader hx) (fun v h => ?_)
  refine Gives.bind (anyRatio h.1 k hk (by omega) (by omega)) (fun v1 h1 => ?_)
  exact Gives.bind (anyRatio h.1 k hk (by omega) (by omega)) (fun v2 h2 => Gives.of trivial)

theorem of_add {a b c d p q : Int} (hr : addR a b c d = (p, q, true)) : (vRat a b = true ∧ vRat c d = true) ∧ vRat p q = true ∧ (a * d + c * b) * q = p * (b * d) ∧ 0 < q := by
  unfold addR at hr
  by_cases h : vRat a b = true ∧ vRat c d = true
  · rw [if_pos h] at hr
    have hb := rat_bd h.1 h.2
    exact ⟨h, red_frac (by omega) hr⟩
  · rw [if_neg h] at hr
    simp at hr
theorem of_mul {a b c d p q : Int} (hr : mulR a b c d = (p, q, true)) : (vRat a b = true ∧ vRat c d = true) ∧ vRat p q = true ∧ (a * c) * q = p * (b * d) ∧ 0 < q := by
  unfold mulR at hr
  by_cases h : vRat a b = true ∧ vRat c d = true
  · rw [if_pos h] at hr
    have hb := rat_bd h.1 h.2
    exact ⟨h, red_frac (by omega) hr⟩
  · rw [if_neg h] at hr
    simp at hr
/-- Equal fractions that are valid are equal. -/
theorem same {p q p' q' : Int} (h : vRat p q = true) (h' : vRat p' q' = true) (e : p * q' = p' * q) : p = p' ∧ q = q' := by
  have k := rat_of h
  have k' := rat_of h'
  exact uniq e (by omega) (by omega) (by omega) (by omega)
theorem dist {a b c d p q x y u v s t m n : Int} (h1 : addR a b c d = (p, q, true)) (h2 : mulR p q 2 3 = (x, y, true)) (h3 : mulR a b 2 3 = (u, v, true)) (h4 : mulR c d 2 3 = (s, t, true)) (h5 : addR u v s t = (m, n, true)) : m = x ∧ n = y := by
  obtain ⟨⟨va, vc⟩, vp, e1, q0⟩ := of_add h1
  obtain ⟨_, vx, e2, y0⟩ := of_mul h2
  obtain ⟨_, vu, e3, v0⟩ := of_mul h3
  obtain ⟨_, vs, e4, t0⟩ := of_mul h4
  obtain ⟨_, vm, e5, n0⟩ := of_add h5
  have ka := rat_of va
  have kc := rat_of vc
  have b0 : 0 < b := by omega
  have d0 : 0 < d := by omega
  -- x / y = 2 p / 3 q, and m / n = 2 a / 3 b + 2 c / 3 d
  refine same vm vx ?_
  have hq : q * (b * d) * (v * t) ≠ 0 := by
    have := Int.mul_pos (Int.mul_pos q0 (Int.mul_pos b0 d0)) (Int.mul_pos v0 t0)
    omega
  have f1 : m * (v * t) = (u * t + s * v) * n := by rw [e5]
  have f3 : a * 2 * v = u * (b * 3) := e3
  have f4 : c * 2 * t = s * (d * 3) := e4
  have f2 : p * 2 * y = x * (q * 3) := e2
  have f5 : (a * d + c * b) * q = p * (b * d) := e1
  have h3 : (3 : Int) ≠ 0 := by omega
  apply Int.eq_of_mul_eq_mul_left (Int.mul_ne_zero h3 hq)
  have g1 : 3 * (q * (b * d) * (v * t)) * (m * y) = 3 * q * b * d * y * (m * (v * t)) := by ac_rfl
  have g2 : 3 * q * b * d * y * ((u * t + s * v) * n) = (u * (b * 3)) * (t * d * q * y * n) + (s * (d * 3)) * (v * b * q * y * n) := by
    rw [Int.add_mul, Int.mul_add]
    congr 1 <;> ac_rfl
  have g3 : (a * 2 * v) * (t * d * q * y * n) + (c * 2 * t) * (v * b * q * y * n) = 2 * v * t * y * n * ((a * d + c * b) * q) := by
    rw [Int.add_mul, Int.mul_add]
    congr 1 <;> ac_rfl
  have g4 : 2 * v * t * y * n * (p * (b * d)) = v * t * n * b * d * (p * 2 * y) := by ac_rfl
  have g5 : v * t * n * b * d * (x * (q * 3)) = 3 * (q * (b * d) * (v * t)) * (x * n) := by ac_rfl
  rw [g1, f1, g2, ← f3, ← f4, g3, f5, g4, f2, g5]
end FnRatioDistributeLaw
open FnRatioDistributeLaw

theorem FnRatioDistribute : laws_FnRatioDistribute.Pure := by
  intro l _ _ hx
  refine ⟨4000000000002 + 1, ?_⟩
  unfold laws_FnRatioDistribute.f
  by_cases hl : (l.length : Int) > 1048576
  · rw [if_pos hl]
  · rw [if_neg hl]
    obtain ⟨⟨a, b, c, d⟩, hd, _⟩ := drawAdd 4000000000002 (by omega) hx
    rw [hd]
    simp only [Option.bind_some, laws_FnRatioDistribute.j0]
    have i1 : ∀ a b c d, impl_AddRatio.f (4000000000002 + 1) a b c d = some (addR a b c d) := fun a b c d => iAdd a b c d (by omega)
    have i2 : ∀ a b c d, impl_AddRatio.f 4000000000002 a b c d = some (addR a b c d) := fun a b c d => iAdd a b c d (by omega)
    have i3 : ∀ a b c d, impl_MulRatio.f 4000000000002 a b c d = some (mulR a b c d) := fun a b c d => iMul a b c d (by omega)
    have s1 := sAdd (k := 4000000000002) a b c d (by omega)
    rw [i1, s1]
    simp only [Option.bind_some, i2, i3]
    rcases hr : addR a b c d with ⟨p, q, ok⟩
    cases ok with
    | false => simp
    | true =>
      simp only [beq_self_eq_true, Bool.not_true, Bool.or_false, Bool.false_eq_true, if_false, bne_self_eq_false]
      rcases h2 : mulR p q 2 3 with ⟨x, y, ok2⟩
      rcases h3 : mulR a b 2 3 with ⟨u, v, ok3⟩
      rcases h4 : mulR c d 2 3 with ⟨s, t, ok4⟩
      rcases h5 : addR u v s t with ⟨m, n, ok5⟩
      cases ok2 <;> cases ok3 <;> cases ok4 <;> cases ok5 <;> simp
      exact dist hr h2 h3 h4 h5

end Go.Proofs.Ytekaceennnphfaa.Pure

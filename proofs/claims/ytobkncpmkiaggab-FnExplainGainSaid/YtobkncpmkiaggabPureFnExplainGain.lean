/- What the printed functions of FnExplainGain compute is true at every input. Conditions: none beyond the arguments' kinds. -/
import Derived.Test.YtobkncpmkiaggabQFnExplainGainx5
import Derived.OpenShut
namespace Go.Proofs.Ytobkncpmkiaggab.Pure
open Go.RowKit Go.Proofs.Ytobkncpmkiaggab.PFnExplainGain Go.Proofs.YtobkncpmkiaggabW.PrintWords Go.Proofs.YtobkncpmkiaggabW.PrintLast Go.Proofs.YtobkncpmkiaggabW.PrintMore
set_option linter.unusedVariables false
set_option linter.unusedSimpArgs false

namespace FnExplainGainLaw
theorem w64 {n : Int} (h1 : -9223372036854775808 ≤ n) (h2 : n ≤ 9223372036854775807) : wrap64 n = n := by
  unfold wrap64
  omega

theorem inR (a l h : Int) : spec_inRange.f a l h = some (decide (l ≤ a ∧ a ≤ h)) := by
  unfold spec_inRange.f
  split <;> simp only [true_and, false_and, decide_false, *]

/-- What a valid position is. -/
def vMark (m c a : Int) : Bool := decide (-9999 ≤ m ∧ m ≤ 9999 ∧ 0 ≤ c ∧ c ≤ 50000 ∧ 0 ≤ a ∧ a ≤ 50000)

theorem sMark (m c a : Int) : spec_validMark.f m c a = some (vMark m c a) := by
  unfold spec_validMark.f vMark
  simp only [inR, Option.bind_some, decide_eq_true_eq]
  repeat' split
  all_goals (simp only [Option.some.injEq, decide_eq_decide]; try simp only [eq_comm (a := false), decide_eq_false_iff_not])
  all_goals omega

theorem mul_bd {a b A B : Int} (h0 : 0 ≤ a) (h1 : a ≤ A) (h2 : 0 ≤ b) (h3 : b ≤ B) : 0 ≤ a * b ∧ a * b ≤ A * B :=
  ⟨Int.mul_nonneg h0 h2, Int.mul_le_mul h1 h3 h2 (by omega)⟩

theorem mul_abs {a b A B : Int} (h0 : -A ≤ a) (h1 : a ≤ A) (h2 : -B ≤ b) (h3 : b ≤ B) : -(A * B) ≤ a * b ∧ a * b ≤ A * B := by
  rcases Int.le_total 0 a with ha | ha <;> rcases Int.le_total 0 b with hb | hb
  · have := mul_bd ha h1 hb h3
    omega
  · have := mul_bd ha h1 (show 0 ≤ -b by omega) (show -b ≤ B by omega)
    rw [Int.mul_neg] at this
    omega
  · have := mul_bd (show 0 ≤ -a by omega) (show -a ≤ A by omega) hb h3
    rw [Int.neg_mul] at this
    omega
  · have := mul_bd (show 0 ≤ -a by omega) (show -a ≤ A by omega) (show 0 ≤ -b by omega) (show -b ≤ B by omega)
    rw [Int.neg_mul_neg] at this
    omega

theorem mark_of {m c a : Int} (h : vMark m c a = true) : -9999 ≤ m ∧ m ≤ 9999 ∧ 0 ≤ c ∧ c ≤ 50000 ∧ 0 ≤ a ∧ a ≤ 50000 := of_decide_eq_true h
theorem mark_mul {m x : Int} (h1 : -9999 ≤ m) (h2 : m ≤ 9999) (h3 : -200000 ≤ x) (h4 : x ≤ 200000) : -1999800000 ≤ m * x ∧ m * x ≤ 1999800000 := mul_abs h1 h2 h3 h4

/-- What a valid way from a position to a later one is. -/
def stepOk (m c a m' c' a' x y : Int) : Bool := vMark m c a && (vMark m' c' a' && decide ((0 ≤ x ∧ x ≤ 50000) ∧ -1000000000 ≤ y ∧ y ≤ 1000000000))
theorem stepOk_iff {m c a m' c' a' x y : Int} : stepOk m c a m' c' a' x y = true ↔ vMark m c a = true ∧ vMark m' c' a' = true ∧ (0 ≤ x ∧ x ≤ 50000) ∧ -1000000000 ≤ y ∧ y ≤ 1000000000 := by
  unfold stepOk
  simp only [Bool.and_eq_true, decide_eq_true_eq]

def explainV (m c a m' c' a' x y : Int) : Int × Int × Int × Bool := if stepOk m c a m' c' a' x y = true then (m * (a' - a + x), m * (c' - c), (m' - m) * (c' + a') - y, true) else (0, 0, 0, false)
theorem explain_bd {m c a m' c' a' x y : Int} (h : stepOk m c a m' c' a' x y = true) : (-1999800000 ≤ m * (a' - a + x) ∧ m * (a' - a + x) ≤ 1999800000) ∧ (-1999800000 ≤ m * (c' - c) ∧ m * (c' - c) ≤ 1999800000) ∧
    -3999600000 ≤ (m' - m) * (c' + a') ∧ (m' - m) * (c' + a') ≤ 3999600000 := by
  obtain ⟨h1, h2, h3, h4⟩ := stepOk_iff.1 h
  have k1 := mark_of h1
  have k2 := mark_of h2
  exact ⟨mark_mul k1.1 k1.2.1 (by omega) (by omega), mark_mul k1.1 k1.2.1 (by omega) (by omega), mul_abs (A := 19998) (B := 200000) (by omega) (by omega) (by omega) (by omega)⟩

theorem sExplain (m c a m' c' a' x y : Int) : spec_ExplainGain.f m c a m' c' a' x y = some (explainV m c a m' c' a' x y) := by
  unfold spec_ExplainGain.f explainV
  simp only [sMark, inR, Option.bind_some, decide_eq_true_eq]
  by_cases h : stepOk m c a m' c' a' x y = true
  · have hb := explain_bd h
    obtain ⟨h1, h2, h3, h4⟩ := stepOk_iff.1 h
    have k1 := mark_of h1
    have k2 := mark_of h2
    rw [if_pos h, if_pos h1, if_pos h2, if_pos h3, if_pos h4]
    unfold spec_explain.f
    simp only [Option.bind_some]
    rw [w64 (n := a' - a) (by omega) (by omega), w64 (n := a' - a + x) (by omega) (by omega), w64 (n := c' - c) (by omega) (by omega), w64 (n := m' - m) (by omega) (by omega), w64 (n := c' + a') (by omega) (by omega),
      w64 (n := m * (a' - a + x)) (by omega) (by omega), w64 (n := m * (c' - c)) (by omega) (by omega), w64 (n := (m' - m) * (c' + a')) (by omega) (by omega), w64 (by omega) (by omega)]
  · rw [if_neg h]
    by_cases h1 : vMark m c a = true
    · rw [if_pos h1]
      by_cases h2 : vMark m' c' a' = true
      · rw [if_pos h2]
        by_cases h3 : 0 ≤ x ∧ x ≤ 50000
        · rw [if_pos h3, if_neg (fun h4 => h (stepOk_iff.2 ⟨h1, h2, h3, h4⟩))]
        · rw [if_neg h3]
      · rw [if_neg h2]
    · rw [if_neg h1]

theorem wi (a l h : Int) : impl_within.f a l h = some (decide (l ≤ a ∧ a ≤ h)) := by
  unfold impl_within.f
  split <;> rename_i hc <;> simp <;> omega

theorem iMark (m c a : Int) : impl_Mark_valid.f m c a = some (vMark m c a) := by
  unfold impl_Mark_valid.f vMark
  simp only [wi, Option.bind_some, decide_eq_true_eq]
  repeat' split
  all_goals (simp only [Option.some.injEq, decide_eq_decide]; try simp only [eq_comm (a := false), decide_eq_false_iff_not])
  all_goals omega

theorem iAmt (n : Int) : impl_amountValid.f n = some (decide (-1000000000 ≤ n ∧ n ≤ 1000000000)) := by
  unfold impl_amountValid.f
  rw [wi]
  rfl

theorem iStep (m c a m' c' a' x y : Int) : impl_step_valid.f m c a m' c' a' x y = some (stepOk m c a m' c' a' x y) := by
  unfold impl_step_valid.f stepOk
  simp only [iMark, wi, iAmt, Option.bind_some, decide_eq_true_eq]
  cases vMark m c a <;> cases vMark m' c' a' <;> simp only [Bool.true_and, Bool.false_and, if_true, if_false, Bool.false_eq_true]
  by_cases h : 0 ≤ x ∧ x ≤ 50000
  · simp only [h, and_self, true_and, if_true]
  · simp only [h, false_and, if_false, decide_false]

theorem iExplain (m c a m' c' a' x y : Int) : impl_ExplainGain.f m c a m' c' a' x y = some (explainV m c a m' c' a' x y) := by
  unfold impl_ExplainGain.f explainV
  rw [iStep]
  simp only [Option.bind_some]
  by_cases h : stepOk m c a m' c' a' x y = true
  · have hb := explain_bd h
    obtain ⟨h1, h2, h3, h4⟩ := stepOk_iff.1 h
    have k1 := mark_of h1
    have k2 := mark_of h2
    rw [if_pos h, if_pos h]
    rw [w64 (n := a' - a) (by omega) (by omega), w64 (n := a' - a + x) (by omega) (by omega), w64 (n := c' - c) (by omega) (by omega), w64 (n := m' - m) (by omega) (by omega), w64 (n := c' + a') (by omega) (by omega),
      w64 (n := m * (a' - a + x)) (by omega) (by omega), w64 (n := m * (c' - c)) (by omega) (by omega), w64 (n := (m' - m) * (c' + a')) (by omega) (by omega), w64 (by omega) (by omega)]
  · rw [if_neg h, if_neg h]

theorem iWorth {m c a : Int} (h : vMark m c a = true) : impl_Mark_worth.f m c a = some (m * (c + a)) := by
  have hm := mark_of h
  have hp := mark_mul hm.1 hm.2.1 (show -200000 ≤ c + a by omega) (by omega)
  unfold impl_Mark_worth.f
  rw [w64 (n := c + a) (by omega) (by omega), w64 (by omega) (by omega)]

def gainB (m c a m' c' a' x y : Int) : Int × Bool := if stepOk m c a m' c' a' x y = true then (m' * (c' + a') - m * (c + a) + m * x - y, true) else (0, false)

theorem iGainB (m c a m' c' a' x y : Int) : impl_GainBetween.f m c a m' c' a' x y = some (gainB m c a m' c' a' x y) := by
  unfold impl_GainBetween.f gainB
  rw [iStep]
  simp only [Option.bind_some]
  by_cases h : stepOk m c a m' c' a' x y = true
  · rw [if_pos h, if_pos h]
    obtain ⟨h1, h2, h3, h4⟩ := stepOk_iff.1 h
    rw [iWorth h1, iWorth h2]
    have k1 := mark_of h1
    have k2 := mark_of h2
    have p1 := mark_mul k1.1 k1.2.1 (show -200000 ≤ c + a by omega) (by omega)
    have p2 := mark_mul k2.1 k2.2.1 (show -200000 ≤ c' + a' by omega) (by omega)
    have p3 := mark_mul k1.1 k1.2.1 (show -200000 ≤ x by omega) (by omega)
    simp only [Option.bind_some]
    rw [w64 (n := m' * (c' + a') - m * (c + a)) (by omega) (by omega), w64 (n := m * x) (by omega) (by omega), w64 (n := m' * (c' + a') - m * (c + a) + m * x) (by omega) (by omega), w64 (by omega) (by omega)]
  · rw [if_neg h, if_neg h]

/-- A computation that answers, and its answer is P. -/
def Gives {α : Type} (o : Option α) (P : α → Prop) : Prop := ∃ v, o = some v ∧ P v
theorem Gives.of {α : Type} {v : α} {P : α → Prop} (h : P v) : Gives (some v) P := ⟨v, rfl, h⟩
theorem Gives.bind {α β : Type} {o : Option α} {f : α → Option β} {P : α → Prop} {Q : β → Prop} (h : Gives o P) (hf : ∀ v, P v → Gives (f v) Q) : Gives (o.bind f) Q := by
  obtain ⟨v, rfl, hv⟩ := h
  exact hf v hv
theorem Gives.ite {α : Type} {c : Prop} [Decidable c] {a b : Option α} {P : α → Prop} (h1 : c → Gives a P) (h2 : ¬ c → Gives b P) : Gives (if c then a else b) P := by
  by_cases h : c
  · rw [if_pos h]
    exact h1 h
  · rw [if_neg h]
    exact h2 h
theorem Gives.pos {α : Type} {c : Prop} [Decidable c] {a b : Option α} {P : α → Prop} (hc : c) (h1 : Gives a P) : Gives (if c then a else b) P := by
  rw [if_pos hc]
  exact h1
theorem Gives.neg {α : Type} {c : Prop} [Decidable c] {a b : Option α} {P : α → Prop} (hc : ¬ c) (h1 : Gives b P) : Gives (if c then a else b) P := by
  rw [if_neg hc]
  exact h1
theorem Gives.mono {α : Type} {o : Option α} {P Q : α → Prop} (h : Gives o P) (hpq : ∀ v, P v → Q v) : Gives o Q := by
  obtain ⟨v, e, hv⟩ := h
  exact ⟨v, e, hpq v hv⟩
theorem Gives.eq {α : Type} {o : Option α} {v : α} (h : o = some v) : Gives o (fun x => x = v) := ⟨v, h, rfl⟩

/-- What a reader reads: at most 2000 bytes. -/
def Rd (b : List Int) : Prop := b.length ≤ 2000 ∧ ∀ x ∈ b, (Lit.int .u8 x).wf = true
theorem rd_byte {b : List Int} (h : Rd b) (i : Int) : 0 ≤ rd b i ∧ rd b i ≤ 255 := by
  unfold rd
  rw [List.getD_eq_getElem?_getD]
  by_cases hi : i.toNat < b.length
  · rw [List.getElem?_eq_getElem hi]
    exact bounds_u8 (h.2 _ (List.getElem_mem hi))
  · rw [List.getElem?_eq_none (by omega)]
    exact ⟨by simp, by simp⟩
theorem xor_nonneg {x y : Int} (hx : 0 ≤ x) (hx2 : x < 4611686018427387904) (hy : 0 ≤ y) (hy2 : y < 4611686018427387904) : 0 ≤ Go.bits .xor .i64 x y ∧ Go.bits .xor .i64 x y < 4611686018427387904 := by
  obtain ⟨a, rfl⟩ := Int.eq_ofNat_of_zero_le hx
  obtain ⟨b, rfl⟩ := Int.eq_ofNat_of_zero_le hy
  have ha : a < 2 ^ 62 := by omega
  have hb : b < 2 ^ 62 := by omega
  have hp : (2 : Nat) ^ 62 ≤ 2 ^ IntKind.i64.bits := Nat.pow_le_pow_right (by decide) (by decide)
  have ha' : a % 2 ^ IntKind.i64.bits = a := Nat.mod_eq_of_lt (Nat.lt_of_lt_of_le ha hp)
  have hb' : b % 2 ^ IntKind.i64.bits = b := Nat.mod_eq_of_lt (Nat.lt_of_lt_of_le hb hp)
  have hxor : a ^^^ b < 2 ^ 62 := Nat.xor_lt_two_pow ha hb
  have e : Go.bits .xor .i64 (a : Int) (b : Int) = ((a ^^^ b : Nat) : Int) := by
    simp only [Go.bits, BitVec.ofInt_natCast, BitVec.toNat_xor, BitVec.toNat_ofNat, ha', hb']
    rw [IntKind.wrap_i64]
    omega
  have e2 : (Int.ofNat a) = (a : Int) := rfl
  have e3 : (Int.ofNat b) = (b : Int) := rfl
  first | rw [e] | (rw [e2, e3, e])
  omega
theorem tmod_at {x n : Int} (hx : 0 ≤ x) (hn : 0 < n) : 0 ≤ Int.tmod x n ∧ Int.tmod x n < n := ⟨Int.tmod_nonneg n hx, Int.tmod_lt_of_pos x hn⟩
theorem tdiv_at {x n : Int} (hx : 0 ≤ x) (hn : 0 < n) : 0 ≤ Int.tdiv x n ∧ Int.tdiv x n ≤ x := by
  rw [Int.tdiv_eq_ediv_of_nonneg hx]
  exact ⟨Int.ediv_nonneg hx (by omega), Int.ediv_le_self n hx⟩

theorem pick {b : List Int} (hb : Rd b) {p n : Int} (k : Nat) (h0 : 0 ≤ p) (h1 : p ≤ 1000000) (hn : 1 ≤ n) : Gives (spec_reader_pick.f (k + 1) b p n) (fun v => (0 ≤ v.1 ∧ v.1 < n) ∧ v.2 = p + 1) := by
  unfold spec_reader_pick.f
  rw [if_neg (by omega), w64 (n := p + 1) (by omega) (by omega)]
  simp only [spec_reader_pick.j0]
  have hl := hb.1
  by_cases hz : b.length = 0
  · have : ((b.length : Int) == 0) = true := by
      rw [hz]
      rfl
    rw [if_pos this]
    exact Gives.of ⟨⟨by omega, by omega⟩, rfl⟩
  · have : ¬ ((b.length : Int) == 0) = true := by
      simp only [beq_iff_eq]
      omega
    rw [if_neg this, w64 (n := p + 1 - 1) (by omega) (by omega)]
    have e : p + 1 - 1 = p := by omega
    rw [e]
    have hlp : 0 < (b.length : Int) := by omega
    by_cases hp : p < (b.length : Int)
    · have hr := rd_byte hb p
      rw [if_pos hp, if_pos h0, if_neg (by omega), w64 (n := rd b p) (by omega) (by omega)]
      exact Gives.of ⟨tmod_at hr.1 (by omega), rfl⟩
    · have m1 := tmod_at h0 hlp
      rw [if_neg hp, if_neg (by omega), if_pos m1.1, if_pos m1.2, w64 (n := p * 7) (by omega) (by omega), w64 (n := p * 7 + 3) (by omega) (by omega)]
      have m2 := tmod_at (show 0 ≤ p * 7 + 3 by omega) hlp
      have d1 := tdiv_at h0 hlp
      rw [if_pos m2.1, if_pos m2.2, if_neg (by omega)]
      generalize Int.tmod p (b.length : Int) = i1 at *
      generalize Int.tmod (p * 7 + 3) (b.length : Int) = i2 at *
      generalize Int.tdiv p (b.length : Int) = q at *
      have r1 := rd_byte hb i1
      have r2 := rd_byte hb i2
      generalize rd b i1 = x1 at *
      generalize rd b i2 = x2 at *
      rw [w64 (n := x1) (by omega) (by omega), w64 (n := x2) (by omega) (by omega), w64 (n := x1 * 131) (by omega) (by omega), w64 (n := x2 * 1117) (by omega) (by omega), w64 (n := x1 * 131 + x2 * 1117) (by omega) (by omega),
        w64 (n := p * 29) (by omega) (by omega), w64 (n := x1 * 131 + x2 * 1117 + p * 29) (by omega) (by omega), w64 (n := q) (by omega) (by omega), w64 (n := q * 53) (by omega) (by omega), w64 (n := x1 * 131 + x2 * 1117 + p * 29 + q * 53) (by omega) (by omega)]
      have hy : 0 ≤ x1 * 131 + x2 * 1117 + p * 29 + q * 53 ∧ x1 * 131 + x2 * 1117 + p * 29 + q * 53 < 1000000000 := by omega
      generalize x1 * 131 + x2 * 1117 + p * 29 + q * 53 = y at *
      have d2 := tdiv_at hy.1 (show (0 : Int) < 64 by omega)
      rw [w64 (n := Int.tdiv y 64) (by omega) (by omega)]
      have hx := xor_nonneg hy.1 (by omega) d2.1 (by omega)
      exact Gives.of ⟨tmod_at hx.1 (by omega), rfl⟩

theorem rd_mem {l : List Int} {i : Int} (h0 : 0 ≤ i) (h1 : i < (l.length : Int)) : rd l i ∈ l := by
  unfold rd
  have hi : i.toNat < l.length := by omega
  rw [List.getD_eq_getElem?_getD, List.getElem?_eq_getElem hi]
  exact List.getElem_mem hi
theorem one {b : List Int} (hb : Rd b) {p : Int} (k : Nat) {l : List Int} (h0 : 0 ≤ p) (h1 : p ≤ 1000000) (hl : 1 ≤ l.length) : Gives (spec_reader_one.f (k + 1) b p l) (fun v => v.1 ∈ l ∧ v.2 = p + 1) := by
  unfold spec_reader_one.f
  refine Gives.bind (pick hb k h0 h1 (by omega)) (fun v hv => ?_)
  rw [if_pos hv.1.1, if_pos hv.1.2]
  exact Gives.of ⟨rd_mem hv.1.1 hv.1.2, hv.2⟩

theorem anyMark {b : List Int} (hb : Rd b) {p : Int} (k : Nat) (h0 : 0 ≤ p) (h1 : p ≤ 900000) : Gives (spec_anyMark.f (k + 1) b p) (fun v => v.2.2.2 ≤ p + 8 ∧ 0 ≤ v.2.2.2) := by
  unfold spec_anyMark.f
  refine Gives.bind (one hb k h0 (by omega) (by decide)) (fun v1 h1 => ?_)
  refine Gives.bind (pick hb k (by omega) (by omega) (by omega)) (fun v2 h2 => ?_)
  refine Gives.bind (pick hb k (by omega) (by omega) (by omega)) (fun v3 h3 => ?_)
  refine Gives.bind (pick hb k (by omega) (by omega) (by omega)) (fun v4 h4 => ?_)
  refine Gives.ite (fun _ => ?_) (fun _ => Gives.ite (fun _ => ?_) (fun _ => Gives.ite (fun _ => ?_) (fun _ => ?_)))
  · exact Gives.bind (one hb k (by omega) (by omega) (by decide)) (fun v7 h7 => Gives.of (show v7.2 ≤ p + 8 ∧ 0 ≤ v7.2 by omega))
  · exact Gives.bind (one hb k (by omega) (by omega) (by decide)) (fun v7 h7 => Gives.of (show v7.2 ≤ p + 8 ∧ 0 ≤ v7.2 by omega))
  · exact Gives.bind (one hb k (by omega) (by omega) (by decide)) (fun v7 h7 => Gives.of (show v7.2 ≤ p + 8 ∧ 0 ≤ v7.2 by omega))
  · exact Gives.of (show v4.2 ≤ p + 8 ∧ 0 ≤ v4.2 by omega)

theorem newReader {l : List Int} (hx : ∀ x ∈ l, (Lit.int .u8 x).wf = true) : Gives (spec_newReader.f l) (fun v => Rd v.1 ∧ v.2 = 0) := by
  unfold spec_newReader.f
  by_cases h : (l.length : Int) > 2000
  · rw [if_pos h, if_pos (by omega)]
    exact Gives.of ⟨⟨by simp only [List.length_take]; omega, fun x hm => hx x (List.mem_of_mem_take hm)⟩, rfl⟩
  · rw [if_neg h]
    exact Gives.of ⟨⟨show l.length ≤ 2000 by omega, hx⟩, rfl⟩

theorem drawExplain {l : List Int} (hx : ∀ x ∈ l, (Lit.int .u8 x).wf = true) : Gives (spec_DrawExplainGain.f 1 l) (fun _ => True) := by
  unfold spec_DrawExplainGain.f
  refine Gives.bind (newReader hx) (fun v h => ?_)
  refine Gives.bind (anyMark h.1 0 (by omega) (by omega)) (fun v1 h1 => ?_)
  refine Gives.bind (anyMark h.1 0 (by omega) (by omega)) (fun v2 h2 => ?_)
  refine Gives.bind (one h.1 0 (by omega) (by omega) (by decide)) (fun v3 h3 => ?_)
  exact Gives.bind (one h.1 0 (by omega) (by omega) (by decide)) (fun v4 h4 => Gives.of trivial)

end FnExplainGainLaw
open FnExplainGainLaw

theorem FnExplainGain : laws_FnExplainGain.Pure := by
  intro l _ _ hx
  refine ⟨1, ?_⟩
  unfold laws_FnExplainGain.f
  by_cases hl : (l.length : Int) > 1048576
  · rw [if_pos hl]
  · rw [if_neg hl]
    obtain ⟨⟨m, c, a, m', c', a', x, y⟩, hd, _⟩ := drawExplain hx
    rw [hd]
    simp only [Option.bind_some, iExplain, sExplain, iGainB]
    by_cases h : stepOk m c a m' c' a' x y = true
    · have hb := explain_bd h
      have h4 := (stepOk_iff.1 h).2.2.2
      unfold explainV gainB
      rw [if_pos h, if_pos h]
      simp only [beq_self_eq_true, Bool.not_true, Bool.or_false, Bool.false_eq_true, if_false, bne_self_eq_false, if_true]
      rw [w64 (n := m * (a' - a + x) + m * (c' - c)) (by omega) (by omega), w64 (n := m * (a' - a + x) + m * (c' - c) + ((m' - m) * (c' + a') - y)) (by omega) (by omega)]
      rw [Option.some.injEq, beq_iff_eq]
      have e1 : m * (a' - a + x) = m * a' - m * a + m * x := by rw [Int.mul_add, Int.mul_sub]
      have e2 : m * (c' - c) = m * c' - m * c := Int.mul_sub _ _ _
      have e3 : (m' - m) * (c' + a') = m' * (c' + a') - m * (c' + a') := Int.sub_mul _ _ _
      have e4 : m * (c' + a') = m * c' + m * a' := Int.mul_add _ _ _
      have e5 : m * (c + a) = m * c + m * a := Int.mul_add _ _ _
      omega
    · unfold explainV
      rw [if_neg h]
      simp

end Go.Proofs.Ytobkncpmkiaggab.Pure

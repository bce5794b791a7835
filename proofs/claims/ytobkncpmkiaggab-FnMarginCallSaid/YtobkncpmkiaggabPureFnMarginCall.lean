/- What the printed functions of FnMarginCall compute is true at every input. Conditions: none beyond the arguments' kinds. -/
import Derived.Test.YtobkncpmkiaggabPFnMarginCallx4
import Derived.OpenShut
namespace Go.Proofs.Ytobkncpmkiaggab.Pure
open Go.RowKit Go.Proofs.Ytobkncpmkiaggab.PFnMarginCall Go.Proofs.YtobkncpmkiaggabW.PrintWords Go.Proofs.YtobkncpmkiaggabW.PrintLast Go.Proofs.YtobkncpmkiaggabW.PrintMore
set_option linter.unusedVariables false
set_option linter.unusedSimpArgs false

namespace FnMarginCallLaw
/-- What a valid loan is. -/
def vRepo (c r f t h : Int) : Bool := decide (1 ≤ c ∧ c ≤ 100000000 ∧ 0 ≤ r ∧ r ≤ 3000 ∧ 0 ≤ f ∧ f ≤ 36524 ∧ f ≤ t ∧ t ≤ 36524 ∧ t ≤ f + 4000 ∧ 0 ≤ h ∧ h ≤ 500)

/-- How many bonds are pledged. -/
def pledge (c r f t h p : Int) : Int := if vRepo c r f t h = true ∧ 1 ≤ p ∧ p ≤ 50000 then -((-(1000 * c)) / (p * (1000 - h))) else -1

theorem div_bd (a b : Int) (hb : 0 < b) (n : Int) (h0 : 0 ≤ n) (h1 : -n ≤ a) (h2 : a ≤ n) : -n ≤ a / b ∧ a / b ≤ n := by
  constructor
  · refine (Int.le_ediv_iff_mul_le hb).2 ?_
    have : -n * b ≤ -n * 1 := Int.mul_le_mul_of_nonpos_left (by omega) (by omega)
    omega
  · have := (Int.ediv_lt_iff_lt_mul (a := a) (b := n + 1) hb).2 (by
      have : (n + 1) * 1 ≤ (n + 1) * b := Int.mul_le_mul_of_nonneg_left (by omega) (by omega)
      rw [Int.mul_comm]
      first | omega | (rw [Int.mul_comm]; omega))
    omega

theorem mul_bd {a b A B : Int} (h0 : 0 ≤ a) (h1 : a ≤ A) (h2 : 0 ≤ b) (h3 : b ≤ B) : 0 ≤ a * b ∧ a * b ≤ A * B :=
  ⟨Int.mul_nonneg h0 h2, Int.mul_le_mul h1 h3 h2 (by omega)⟩

theorem pledge_den {p h : Int} (h1 : 1 ≤ p) (h2 : p ≤ 50000) (h3 : 0 ≤ h) (h4 : h ≤ 500) : 500 ≤ p * (1000 - h) ∧ p * (1000 - h) ≤ 50000000 := by
  have h5 := mul_bd (show 0 ≤ p - 1 by omega) (show p - 1 ≤ 49999 by omega) (show 0 ≤ 1000 - h by omega) (show 1000 - h ≤ 1000 by omega)
  rw [Int.sub_mul] at h5
  omega
theorem pledge_bd (c r f t h p : Int) (hv : vRepo c r f t h = true) (h1 : 1 ≤ p) (h2 : p ≤ 50000) : 1 ≤ pledge c r f t h p ∧ pledge c r f t h p ≤ 100000000000 := by
  unfold pledge
  rw [if_pos ⟨hv, h1, h2⟩]
  unfold vRepo at hv
  have hv := of_decide_eq_true hv
  have hd := pledge_den h1 h2 (by omega : 0 ≤ h) (by omega)
  have := div_bd (-(1000 * c)) (p * (1000 - h)) (by omega) 100000000000 (by omega) (by omega) (by omega)
  have : -(1000 * c) / (p * (1000 - h)) < 0 := Int.ediv_neg_of_neg_of_pos (by omega) (by omega)
  omega

/-- What is missing. -/
def margin (c r f t h p n : Int) : Int := if (vRepo c r f t h = true ∧ 1 ≤ p ∧ p ≤ 50000) ∧ 0 ≤ n ∧ n ≤ 1000000000 then mx (pledge c r f t h p - n) 0 else -1

theorem w64 {n : Int} (h1 : -9223372036854775808 ≤ n) (h2 : n ≤ 9223372036854775807) : wrap64 n = n := by
  unfold wrap64
  omega

theorem inR (a l h : Int) : spec_inRange.f a l h = some (decide (l ≤ a ∧ a ≤ h)) := by
  unfold spec_inRange.f
  split <;> simp only [true_and, false_and, decide_false, *]

theorem sRepo (c r f t h : Int) : spec_validRepo.f c r f t h = some (vRepo c r f t h) := by
  unfold spec_validRepo.f vRepo
  simp only [inR, Option.bind_some, decide_eq_true_eq]
  by_cases h1 : 0 ≤ f ∧ f ≤ 36524
  · have hw : wrap64 (f + 4000) = f + 4000 := w64 (by omega) (by omega)
    have hm : mn 36524 (f + 4000) ≤ 36524 ∧ mn 36524 (f + 4000) ≤ f + 4000 ∧ (mn 36524 (f + 4000) = 36524 ∨ mn 36524 (f + 4000) = f + 4000) := by
      unfold mn
      split <;> omega
    simp only [hw]
    repeat' split
    all_goals (simp only [Option.some.injEq, decide_eq_decide]; try simp only [eq_comm (a := false), decide_eq_false_iff_not])
    all_goals omega
  · simp only [h1, if_false]
    repeat' split
    all_goals (simp only [Option.some.injEq]; simp only [eq_comm (a := false), decide_eq_false_iff_not])
    all_goals omega

theorem floor_at (a b : Int) (hb : 0 < b) : (if Int.tmod a b < 0 then Int.tdiv a b - 1 else Int.tdiv a b) = a / b := by
  rw [Int.tmod_eq_emod, Int.tdiv_eq_ediv]
  have h2 := Int.emod_lt_of_pos a hb
  have h3 := Int.emod_nonneg a (show b ≠ 0 by omega)
  have hs : b.sign = 1 := Int.sign_eq_one_of_pos hb
  have hn : (b.natAbs : Int) = b := Int.natAbs_of_nonneg (by omega)
  by_cases h : 0 ≤ a ∨ b ∣ a
  · rw [if_pos h, if_pos h, if_neg (by omega)]
    omega
  · rw [if_neg h, if_neg h, hs, hn, if_pos (by omega)]
    omega

theorem sFloor (a b : Int) (hb : 0 < b) (h1 : -4611686018427387904 ≤ a) (h2 : a ≤ 4611686018427387904) : spec_floorDiv.f a b = some (a / b) := by
  have hf := floor_at a b hb
  have hd := div_bd a b hb 4611686018427387904 (by omega) (by omega) h2
  unfold spec_floorDiv.f
  rw [if_neg (by omega)]
  by_cases h : Int.tmod a b < 0
  · rw [if_pos h] at hf ⊢
    rw [w64 (n := Int.tdiv a b) (by omega) (by omega), w64 (by omega) (by omega), hf]
  · rw [if_neg h] at hf ⊢
    rw [w64 (n := Int.tdiv a b) (by omega) (by omega), hf]

theorem sCeil (a b : Int) (hb : 0 < b) (h1 : -4611686018427387904 ≤ a) (h2 : a ≤ 4611686018427387904) : spec_ceilDiv.f a b = some (-((-a) / b)) := by
  have hd := div_bd (-a) b hb 4611686018427387904 (by omega) (by omega) (by omega)
  unfold spec_ceilDiv.f
  rw [w64 (n := -a) (by omega) (by omega), sFloor (-a) b hb (by omega) (by omega)]
  simp only [Option.bind_some]
  rw [w64 (by omega) (by omega)]

theorem sPledge (c r f t h p : Int) : spec_PledgeFor.f c r f t h p = some (pledge c r f t h p) := by
  unfold spec_PledgeFor.f pledge
  simp only [sRepo, inR, Option.bind_some, decide_eq_true_eq]
  by_cases hv : vRepo c r f t h = true
  · by_cases hp : 1 ≤ p ∧ p ≤ 50000
    · rw [if_pos hv, if_pos hp, if_pos ⟨hv, hp⟩]
      unfold vRepo at hv
      have hv := of_decide_eq_true hv
      have hd := pledge_den hp.1 hp.2 (by omega : 0 ≤ h) (by omega)
      rw [w64 (n := 1000 * c) (by omega) (by omega), w64 (n := 1000 - h) (by omega) (by omega), w64 (n := p * (1000 - h)) (by omega) (by omega), sCeil _ _ (by omega) (by omega) (by omega)]
      rfl
    · rw [if_pos hv, if_neg hp, if_neg (fun h => hp h.2)]
  · rw [if_neg hv, if_neg (fun h => hv h.1)]

theorem sMargin (c r f t h p n : Int) : spec_MarginCall.f c r f t h p n = some (margin c r f t h p n) := by
  unfold spec_MarginCall.f margin
  simp only [sRepo, sPledge, inR, Option.bind_some, decide_eq_true_eq]
  by_cases hv : vRepo c r f t h = true
  · by_cases hp : 1 ≤ p ∧ p ≤ 50000
    · have hb := pledge_bd c r f t h p hv hp.1 hp.2
      by_cases hn : 0 ≤ n ∧ n ≤ 1000000000
      · rw [if_pos hv, if_pos hp, if_pos hn, if_pos ⟨⟨hv, hp⟩, hn⟩, w64 (by omega) (by omega)]
        have : mx 0 (pledge c r f t h p - n) = mx (pledge c r f t h p - n) 0 := by
          unfold mx
          split <;> split <;> omega
        rw [this]
      · rw [if_pos hv, if_pos hp, if_neg hn, if_neg (fun h => hn h.2)]
    · rw [if_pos hv, if_neg hp, if_neg (fun h => hp h.1.2)]
  · rw [if_neg hv, if_neg (fun h => hv h.1.1)]

theorem wi (a l h : Int) : impl_within.f a l h = some (decide (l ≤ a ∧ a ≤ h)) := by
  unfold impl_within.f
  split <;> rename_i hc <;> simp <;> omega

theorem iRate (n : Int) : impl_rateValid.f n = some (decide (0 ≤ n ∧ n ≤ 3000)) := by
  unfold impl_rateValid.f
  rw [wi]
  rfl

theorem iDay (n : Int) : impl_dayValid.f n = some (decide (0 ≤ n ∧ n ≤ 36524)) := by
  unfold impl_dayValid.f
  rw [wi]
  rfl

theorem iSpan (f t : Int) : impl_spanValid.f f t = some (decide (0 ≤ f ∧ f ≤ 36524 ∧ 0 ≤ t ∧ t ≤ 36524 ∧ f ≤ t ∧ t ≤ f + 4000)) := by
  unfold impl_spanValid.f
  simp only [iDay, wi, Option.bind_some, decide_eq_true_eq]
  split
  · split
    · have hw : wrap64 (t - f) = t - f := w64 (by omega) (by omega)
      simp only [hw, Option.some.injEq, decide_eq_decide]
      omega
    · simp only [Option.some.injEq, eq_comm (a := false), decide_eq_false_iff_not]
      omega
  · simp only [Option.some.injEq, eq_comm (a := false), decide_eq_false_iff_not]
    omega

theorem iRepo (c r f t h : Int) : impl_ValidRepo.f c r f t h = some (vRepo c r f t h) := by
  unfold impl_ValidRepo.f vRepo
  simp only [wi, iRate, iSpan, Option.bind_some, decide_eq_true_eq]
  repeat' split
  all_goals (simp only [Option.some.injEq, decide_eq_decide]; try simp only [eq_comm (a := false), decide_eq_false_iff_not])
  all_goals omega

theorem iPriceOk (n : Int) : impl_priceValid.f n = some (decide (1 ≤ n ∧ n ≤ 50000)) := by
  unfold impl_priceValid.f
  rw [wi]
  rfl

theorem iFloor (a b : Int) (hb : 0 < b) (h1 : -4611686018427387904 ≤ a) (h2 : a ≤ 4611686018427387904) : impl_floor.f a b = some (a / b) := by
  have hf := floor_at a b hb
  have hd := div_bd a b hb 4611686018427387904 (by omega) (by omega) h2
  unfold impl_floor.f
  rw [if_neg (by omega)]
  by_cases h : Int.tmod a b < 0
  · rw [if_pos h] at hf ⊢
    rw [w64 (n := Int.tdiv a b) (by omega) (by omega), w64 (by omega) (by omega), hf]
  · rw [if_neg h] at hf ⊢
    rw [w64 (n := Int.tdiv a b) (by omega) (by omega), hf]

theorem iCeil (a b : Int) (hb : 0 < b) (h1 : -4611686018427387904 ≤ a) (h2 : a ≤ 4611686018427387904) : impl_ceil.f a b = some (-((-a) / b)) := by
  have hd := div_bd (-a) b hb 4611686018427387904 (by omega) (by omega) (by omega)
  unfold impl_ceil.f
  rw [w64 (n := -a) (by omega) (by omega), iFloor (-a) b hb (by omega) (by omega)]
  simp only [Option.bind_some]
  rw [w64 (by omega) (by omega)]

theorem iPledge (c r f t h p : Int) : impl_PledgeFor.f c r f t h p = some (pledge c r f t h p) := by
  unfold impl_PledgeFor.f pledge
  simp only [iRepo, iPriceOk, Option.bind_some, decide_eq_true_eq]
  by_cases hv : vRepo c r f t h = true
  · by_cases hp : 1 ≤ p ∧ p ≤ 50000
    · rw [if_pos hv, if_pos hp, if_pos ⟨hv, hp⟩]
      unfold vRepo at hv
      have hv := of_decide_eq_true hv
      have hd := pledge_den hp.1 hp.2 (by omega : 0 ≤ h) (by omega)
      rw [w64 (n := 1000 * c) (by omega) (by omega), w64 (n := 1000 - h) (by omega) (by omega), w64 (n := p * (1000 - h)) (by omega) (by omega), iCeil _ _ (by omega) (by omega) (by omega)]
      rfl
    · rw [if_pos hv, if_neg hp, if_neg (fun h => hp h.2)]
  · rw [if_neg hv, if_neg (fun h => hv h.1)]

theorem iMargin (c r f t h p n : Int) : impl_MarginCall.f c r f t h p n = some (margin c r f t h p n) := by
  unfold impl_MarginCall.f margin
  simp only [iPledge, wi, Option.bind_some, decide_eq_true_eq]
  by_cases hv : vRepo c r f t h = true ∧ 1 ≤ p ∧ p ≤ 50000
  · have hb := pledge_bd c r f t h p hv.1 hv.2.1 hv.2.2
    rw [if_neg (by omega)]
    by_cases hn : 0 ≤ n ∧ n ≤ 1000000000
    · rw [if_pos hn, if_pos ⟨hv, hn⟩, w64 (by omega) (by omega)]
    · rw [if_neg hn, if_neg (fun h => hn h.2)]
  · have : pledge c r f t h p = -1 := by
      unfold pledge
      rw [if_neg hv]
    rw [this, if_pos (by decide), if_neg (fun h => hv h.1)]

/-- A computation that answers, and its answer is P. -/
def Gives {α : Type} (o : Option α) (P : α → Prop) : Prop := ∃ v, o = some v ∧ P v
theorem Gives.of {α : Type} {v : α} {P : α → Prop} (h : P v) : Gives (some v) P := ⟨v, rfl, h⟩
theorem Gives.bind {α β : Type} {o : Option α} {f : α → Option β} {P : α → Prop} {Q : β → Prop} (h : Gives o P) (hf : ∀ v, P v → Gives (f v) Q) : Gives (o.bind f) Q := by
  obtain ⟨v, rfl, hv⟩ := h
  exact hf v hv
theorem Gives.ite {α : Type} {c : Prop} [Decidable c] {a b : Option α} {P : α → Prop} (h1 : c → Gives a P) (h2 : ¬ c → Gives b P) : Gives (if c then a else b) P := by
  by_cases h : c
  · rw [if_pos h]
    exact h1 h
  · rw [if_neg h]
    exact h2 h
theorem Gives.pos {α : Type} {c : Prop} [Decidable c] {a b : Option α} {P : α → Prop} (hc : c) (h1 : Gives a P) : Gives (if c then a else b) P := by
  rw [if_pos hc]
  exact h1
theorem Gives.neg {α : Type} {c : Prop} [Decidable c] {a b : Option α} {P : α → Prop} (hc : ¬ c) (h1 : Gives b P) : Gives (if c then a else b) P := by
  rw [if_neg hc]
  exact h1
theorem Gives.mono {α : Type} {o : Option α} {P Q : α → Prop} (h : Gives o P) (hpq : ∀ v, P v → Q v) : Gives o Q := by
  obtain ⟨v, e, hv⟩ := h
  exact ⟨v, e, hpq v hv⟩
theorem Gives.eq {α : Type} {o : Option α} {v : α} (h : o = some v) : Gives o (fun x => x = v) := ⟨v, h, rfl⟩

/-- What a reader reads: at most 2000 bytes. -/
def Rd (b : List Int) : Prop := b.length ≤ 2000 ∧ ∀ x ∈ b, (Lit.int .u8 x).wf = true
theorem rd_byte {b : List Int} (h : Rd b) (i : Int) : 0 ≤ rd b i ∧ rd b i ≤ 255 := by
  unfold rd
  rw [List.getD_eq_getElem?_getD]
  by_cases hi : i.toNat < b.length
  · rw [List.getElem?_eq_getElem hi]
    exact bounds_u8 (h.2 _ (List.getElem_mem hi))
  · rw [List.getElem?_eq_none (by omega)]
    exact ⟨by simp, by simp⟩
theorem xor_nonneg {x y : Int} (hx : 0 ≤ x) (hx2 : x < 4611686018427387904) (hy : 0 ≤ y) (hy2 : y < 4611686018427387904) : 0 ≤ Go.bits .xor .i64 x y ∧ Go.bits .xor .i64 x y < 4611686018427387904 := by
  obtain ⟨a, rfl⟩ := Int.eq_ofNat_of_zero_le hx
  obtain ⟨b, rfl⟩ := Int.eq_ofNat_of_zero_le hy
  have ha : a < 2 ^ 62 := by omega
  have hb : b < 2 ^ 62 := by omega
  have hp : (2 : Nat) ^ 62 ≤ 2 ^ IntKind.i64.bits := Nat.pow_le_pow_right (by decide) (by decide)
  have ha' : a % 2 ^ IntKind.i64.bits = a := Nat.mod_eq_of_lt (Nat.lt_of_lt_of_le ha hp)
  have hb' : b % 2 ^ IntKind.i64.bits = b := Nat.mod_eq_of_lt (Nat.lt_of_lt_of_le hb hp)
  have hxor : a ^^^ b < 2 ^ 62 := Nat.xor_lt_two_pow ha hb
  have e : Go.bits .xor .i64 (a : Int) (b : Int) = ((a ^^^ b : Nat) : Int) := by
    simp only [Go.bits, BitVec.ofInt_natCast, BitVec.toNat_xor, BitVec.toNat_ofNat, ha', hb']
    rw [IntKind.wrap_i64]
    omega
  have e2 : (Int.ofNat a) = (a : Int) := rfl
  have e3 : (Int.ofNat b) = (b : Int) := rfl
  first | rw [e] | (rw [e2, e3, e])
  omega
theorem tmod_at {x n : Int} (hx : 0 ≤ x) (hn : 0 < n) : 0 ≤ Int.tmod x n ∧ Int.tmod x n < n := ⟨Int.tmod_nonneg n hx, Int.tmod_lt_of_pos x hn⟩
theorem tdiv_at {x n : Int} (hx : 0 ≤ x) (hn : 0 < n) : 0 ≤ Int.tdiv x n ∧ Int.tdiv x n ≤ x := by
  rw [Int.tdiv_eq_ediv_of_nonneg hx]
  exact ⟨Int.ediv_nonneg hx (by omega), Int.ediv_le_self n hx⟩

theorem pick {b : List Int} (hb : Rd b) {p n : Int} (k : Nat) (h0 : 0 ≤ p) (h1 : p ≤ 1000000) (hn : 1 ≤ n) : Gives (spec_reader_pick.f (k + 1) b p n) (fun v => (0 ≤ v.1 ∧ v.1 < n) ∧ v.2 = p + 1) := by
  unfold spec_reader_pick.f
  rw [if_neg (by omega), w64 (n := p + 1) (by omega) (by omega)]
  simp only [spec_reader_pick.j0]
  have hl := hb.1
  by_cases hz : b.length = 0
  · have : ((b.length : Int) == 0) = true := by
      rw [hz]
      rfl
    rw [if_pos this]
    exact Gives.of ⟨⟨by omega, by omega⟩, rfl⟩
  · have : ¬ ((b.length : Int) == 0) = true := by
      simp only [beq_iff_eq]
      omega
    rw [if_neg this, w64 (n := p + 1 - 1) (by omega) (by omega)]
    have e : p + 1 - 1 = p := by omega
    rw [e]
    have hlp : 0 < (b.length : Int) := by omega
    by_cases hp : p < (b.length : Int)
    · have hr := rd_byte hb p
      rw [if_pos hp, if_pos h0, if_neg (by omega), w64 (n := rd b p) (by omega) (by omega)]
      exact Gives.of ⟨tmod_at hr.1 (by omega), rfl⟩
    · have m1 := tmod_at h0 hlp
      rw [if_neg hp, if_neg (by omega), if_pos m1.1, if_pos m1.2, w64 (n := p * 7) (by omega) (by omega), w64 (n := p * 7 + 3) (by omega) (by omega)]
      have m2 := tmod_at (show 0 ≤ p * 7 + 3 by omega) hlp
      have d1 := tdiv_at h0 hlp
      rw [if_pos m2.1, if_pos m2.2, if_neg (by omega)]
      generalize Int.tmod p (b.length : Int) = i1 at *
      generalize Int.tmod (p * 7 + 3) (b.length : Int) = i2 at *
      generalize Int.tdiv p (b.length : Int) = q at *
      have r1 := rd_byte hb i1
      have r2 := rd_byte hb i2
      generalize rd b i1 = x1 at *
      generalize rd b i2 = x2 at *
      rw [w64 (n := x1) (by omega) (by omega), w64 (n := x2) (by omega) (by omega), w64 (n := x1 * 131) (by omega) (by omega), w64 (n := x2 * 1117) (by omega) (by omega), w64 (n := x1 * 131 + x2 * 1117) (by omega) (by omega),
        w64 (n := p * 29) (by omega) (by omega), w64 (n := x1 * 131 + x2 * 1117 + p * 29) (by omega) (by omega), w64 (n := q) (by omega) (by omega), w64 (n := q * 53) (by omega) (by omega), w64 (n := x1 * 131 + x2 * 1117 + p * 29 + q * 53) (by omega) (by omega)]
      have hy : 0 ≤ x1 * 131 + x2 * 1117 + p * 29 + q * 53 ∧ x1 * 131 + x2 * 1117 + p * 29 + q * 53 < 1000000000 := by omega
      generalize x1 * 131 + x2 * 1117 + p * 29 + q * 53 = y at *
      have d2 := tdiv_at hy.1 (show (0 : Int) < 64 by omega)
      rw [w64 (n := Int.tdiv y 64) (by omega) (by omega)]
      have hx := xor_nonneg hy.1 (by omega) d2.1 (by omega)
      exact Gives.of ⟨tmod_at hx.1 (by omega), rfl⟩

theorem rd_mem {l : List Int} {i : Int} (h0 : 0 ≤ i) (h1 : i < (l.length : Int)) : rd l i ∈ l := by
  unfold rd
  have hi : i.toNat < l.length := by omega
  rw [List.getD_eq_getElem?_getD, List.getElem?_eq_getElem hi]
  exact List.getElem_mem hi
theorem one {b : List Int} (hb : Rd b) {p : Int} (k : Nat) {l : List Int} (h0 : 0 ≤ p) (h1 : p ≤ 1000000) (hl : 1 ≤ l.length) : Gives (spec_reader_one.f (k + 1) b p l) (fun v => v.1 ∈ l ∧ v.2 = p + 1) := by
  unfold spec_reader_one.f
  refine Gives.bind (pick hb k h0 h1 (by omega)) (fun v hv => ?_)
  rw [if_pos hv.1.1, if_pos hv.1.2]
  exact Gives.of ⟨rd_mem hv.1.1 hv.1.2, hv.2⟩

theorem w64_bd (n : Int) : -9223372036854775808 ≤ wrap64 n ∧ wrap64 n ≤ 9223372036854775807 := by
  unfold wrap64
  omega

theorem someDay {b : List Int} (hb : Rd b) {p : Int} (k : Nat) (h0 : 0 ≤ p) (h1 : p ≤ 900000) : Gives (spec_reader_someDay.f (k + 1) b p) (fun v => (-9223372036854775808 ≤ v.1 ∧ v.1 ≤ 9223372036854775807) ∧ v.2 = p + 2) := by
  unfold spec_reader_someDay.f
  refine Gives.bind (pick hb k h0 (by omega) (by omega)) (fun v1 h1 => ?_)
  refine Gives.ite (fun _ => ?_) (fun _ => Gives.ite (fun _ => ?_) (fun _ => ?_))
  · refine Gives.bind (one hb k (by omega) (by omega) (by decide)) (fun v2 h2 => Gives.of ⟨?_, show v2.2 = p + 2 by omega⟩)
    have hm := h2.1
    simp only [List.mem_cons, List.not_mem_nil, or_false] at hm
    show -9223372036854775808 ≤ v2.1 ∧ v2.1 ≤ 9223372036854775807
    omega
  · exact Gives.bind (pick hb k (by omega) (by omega) (by omega)) (fun v2 h2 => Gives.of ⟨w64_bd _, show v2.2 = p + 2 by omega⟩)
  · exact Gives.bind (pick hb k (by omega) (by omega) (by omega)) (fun v2 h2 => Gives.of ⟨w64_bd _, show v2.2 = p + 2 by omega⟩)

theorem anyRepo {b : List Int} (hb : Rd b) {p : Int} (k : Nat) (h0 : 0 ≤ p) (h1 : p ≤ 900000) : Gives (spec_anyRepo.f (k + 1) b p) (fun v => v.2.2.2.2.2 ≤ p + 8 ∧ 0 ≤ v.2.2.2.2.2) := by
  unfold spec_anyRepo.f
  refine Gives.bind (someDay hb k h0 (by omega)) (fun v1 h1 => ?_)
  refine Gives.bind (one hb k (by omega) (by omega) (by decide)) (fun v2 h2 => ?_)
  refine Gives.bind (one hb k (by omega) (by omega) (by decide)) (fun v3 h3 => ?_)
  refine Gives.bind (one hb k (by omega) (by omega) (by decide)) (fun v4 h4 => ?_)
  refine Gives.bind (one hb k (by omega) (by omega) (by decide)) (fun v5 h5 => ?_)
  refine Gives.bind (pick hb k (by omega) (by omega) (by omega)) (fun v6 h6 => ?_)
  refine Gives.ite (fun _ => ?_) (fun _ => Gives.ite (fun _ => ?_) (fun _ => Gives.ite (fun _ => ?_) (fun _ => ?_)))
  · exact Gives.bind (one hb k (by omega) (by omega) (by decide)) (fun v7 h7 => Gives.of (show v7.2 ≤ p + 8 ∧ 0 ≤ v7.2 by omega))
  · exact Gives.bind (one hb k (by omega) (by omega) (by simp)) (fun v7 h7 => Gives.of (show v7.2 ≤ p + 8 ∧ 0 ≤ v7.2 by omega))
  · exact Gives.bind (one hb k (by omega) (by omega) (by decide)) (fun v7 h7 => Gives.of (show v7.2 ≤ p + 8 ∧ 0 ≤ v7.2 by omega))
  · exact Gives.of (show v6.2 ≤ p + 8 ∧ 0 ≤ v6.2 by omega)

theorem anyPrice {b : List Int} (hb : Rd b) {p : Int} (k : Nat) (h0 : 0 ≤ p) (h1 : p ≤ 900000) : Gives (spec_anyPrice.f (k + 1) b p) (fun v => v.2 = p + 2) := by
  unfold spec_anyPrice.f
  refine Gives.bind (pick hb k h0 (by omega) (by omega)) (fun v1 h1 => ?_)
  exact Gives.bind (one hb k (by omega) (by omega) (by simp)) (fun v2 h2 => Gives.of (show v2.2 = p + 2 by omega))

theorem newReader {l : List Int} (hx : ∀ x ∈ l, (Lit.int .u8 x).wf = true) : Gives (spec_newReader.f l) (fun v => Rd v.1 ∧ v.2 = 0) := by
  unfold spec_newReader.f
  by_cases h : (l.length : Int) > 2000
  · rw [if_pos h, if_pos (by omega)]
    exact Gives.of ⟨⟨by simp only [List.length_take]; omega, fun x hm => hx x (List.mem_of_mem_take hm)⟩, rfl⟩
  · rw [if_neg h]
    exact Gives.of ⟨⟨show l.length ≤ 2000 by omega, hx⟩, rfl⟩

theorem drawPledge {l : List Int} (hx : ∀ x ∈ l, (Lit.int .u8 x).wf = true) : Gives (spec_DrawPledgeFor.f 1 l) (fun _ => True) := by
  unfold spec_DrawPledgeFor.f
  refine Gives.bind (newReader hx) (fun v h => ?_)
  refine Gives.bind (anyRepo h.1 0 (by omega) (by omega)) (fun v1 h1 => ?_)
  exact Gives.bind (anyPrice h.1 0 (by omega) (by omega)) (fun v2 h2 => Gives.of trivial)

theorem drawMargin {l : List Int} (hx : ∀ x ∈ l, (Lit.int .u8 x).wf = true) : Gives (spec_DrawMarginCall.f 1 l) (fun _ => True) := by
  unfold spec_DrawMarginCall.f
  refine Gives.bind (newReader hx) (fun v h => ?_)
  refine Gives.bind (drawPledge hx) (fun v1 h1 => ?_)
  refine Gives.bind (Gives.eq (sPledge _ _ _ _ _ _)) (fun v2 h2 => ?_)
  exact Gives.bind (one h.1 0 (by omega) (by omega) (by simp)) (fun v2 h2 => Gives.of trivial)

end FnMarginCallLaw
open FnMarginCallLaw

theorem FnMarginCall : laws_FnMarginCall.Pure := by
  intro l _ _ hx
  refine ⟨1, ?_⟩
  unfold laws_FnMarginCall.f
  by_cases hl : (l.length : Int) > 1048576
  · rw [if_pos hl]
  · rw [if_neg hl]
    obtain ⟨⟨c, r, f, t, h, p, n⟩, hd, _⟩ := drawMargin hx
    rw [hd]
    simp only [Option.bind_some, iMargin, sMargin, iPledge, if_true, laws_FnMarginCall.j0]
    by_cases hn : margin c r f t h p n < 0
    · rw [if_pos (decide_eq_true hn)]
      simp
    · rw [if_neg (by simpa using hn)]
      by_cases hv : (vRepo c r f t h = true ∧ 1 ≤ p ∧ p ≤ 50000) ∧ 0 ≤ n ∧ n ≤ 1000000000
      · have e : ∀ m, 0 ≤ m → m ≤ 1000000000 → margin c r f t h p m = mx (pledge c r f t h p - m) 0 := by
          intro m h1 h2
          unfold margin
          rw [if_pos ⟨hv.1, h1, h2⟩]
        have e1 := e n hv.2.1 hv.2.2
        have hb := pledge_bd c r f t h p hv.1.1 hv.1.2.1 hv.1.2.2
        have hm : ∀ x, mx x 0 = x ∧ 0 ≤ x ∨ mx x 0 = 0 ∧ x < 0 := by
          intro x
          unfold mx
          split <;> omega
        have hm1 := hm (pledge c r f t h p - n)
        have hw : wrap64 (n + margin c r f t h p n) = n + margin c r f t h p n := w64 (by omega) (by omega)
        rw [hw]
        by_cases hg : n + margin c r f t h p n > 1000000000
        · rw [if_pos hg]
        · rw [if_neg hg]
          have e2 := e (n + margin c r f t h p n) (by omega) (by omega)
          have hm2 := hm (pledge c r f t h p - (n + margin c r f t h p n))
          have z : margin c r f t h p (n + margin c r f t h p n) = 0 := by omega
          rw [z]
          simp only [if_true]
          by_cases hz : margin c r f t h p n = 0
          · rw [if_pos hz]
          · rw [if_neg hz]
            have : n + margin c r f t h p n = pledge c r f t h p := by omega
            simp [this]
      · exfalso
        have e : margin c r f t h p n = -1 := by
          unfold margin
          rw [if_neg hv]
        omega

end Go.Proofs.Ytobkncpmkiaggab.Pure

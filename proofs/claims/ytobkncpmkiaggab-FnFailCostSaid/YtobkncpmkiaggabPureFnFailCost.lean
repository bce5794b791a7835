/- What the printed functions of FnFailCost compute is true at every input. Conditions: none beyond the arguments' kinds. -/
import Derived.Test.YtobkncpmkiaggabQFnFailCostx3
import Derived.OpenShut
namespace Go.Proofs.Ytobkncpmkiaggab.Pure
open Go.RowKit Go.Proofs.Ytobkncpmkiaggab.PFnFailCost Go.Proofs.YtobkncpmkiaggabW.PrintWords Go.Proofs.YtobkncpmkiaggabW.PrintLast Go.Proofs.YtobkncpmkiaggabW.PrintMore
set_option linter.unusedVariables false
set_option linter.unusedSimpArgs false

namespace FnFailCostLaw
theorem w64 {n : Int} (h1 : -9223372036854775808 ≤ n) (h2 : n ≤ 9223372036854775807) : wrap64 n = n := by
  unfold wrap64
  omega

theorem floor_at (a b : Int) (hb : 0 < b) : (if Int.tmod a b < 0 then Int.tdiv a b - 1 else Int.tdiv a b) = a / b := by
  rw [Int.tmod_eq_emod, Int.tdiv_eq_ediv]
  have h2 := Int.emod_lt_of_pos a hb
  have h3 := Int.emod_nonneg a (show b ≠ 0 by omega)
  have hs : b.sign = 1 := Int.sign_eq_one_of_pos hb
  have hn : (b.natAbs : Int) = b := Int.natAbs_of_nonneg (by omega)
  by_cases h : 0 ≤ a ∨ b ∣ a
  · rw [if_pos h, if_pos h, if_neg (by omega)]
    omega
  · rw [if_neg h, if_neg h, hs, hn, if_pos (by omega)]
    omega

theorem div_bd (a b : Int) (hb : 0 < b) (n : Int) (h0 : 0 ≤ n) (h1 : -n ≤ a) (h2 : a ≤ n) : -n ≤ a / b ∧ a / b ≤ n := by
  constructor
  · refine (Int.le_ediv_iff_mul_le hb).2 ?_
    have : -n * b ≤ -n * 1 := Int.mul_le_mul_of_nonpos_left (by omega) (by omega)
    omega
  · have := (Int.ediv_lt_iff_lt_mul (a := a) (b := n + 1) hb).2 (by
      have : (n + 1) * 1 ≤ (n + 1) * b := Int.mul_le_mul_of_nonneg_left (by omega) (by omega)
      rw [Int.mul_comm]
      first | omega | (rw [Int.mul_comm]; omega))
    omega

theorem sFloor (a b : Int) (hb : 0 < b) (h1 : -4611686018427387904 ≤ a) (h2 : a ≤ 4611686018427387904) : spec_floorDiv.f a b = some (a / b) := by
  have hf := floor_at a b hb
  have hd := div_bd a b hb 4611686018427387904 (by omega) (by omega) h2
  unfold spec_floorDiv.f
  rw [if_neg (by omega)]
  by_cases h : Int.tmod a b < 0
  · rw [if_pos h] at hf ⊢
    rw [w64 (n := Int.tdiv a b) (by omega) (by omega), w64 (by omega) (by omega), hf]
  · rw [if_neg h] at hf ⊢
    rw [w64 (n := Int.tdiv a b) (by omega) (by omega), hf]

theorem sCeil (a b : Int) (hb : 0 < b) (h1 : -4611686018427387904 ≤ a) (h2 : a ≤ 4611686018427387904) : spec_ceilDiv.f a b = some (-((-a) / b)) := by
  have hd := div_bd (-a) b hb 4611686018427387904 (by omega) (by omega) (by omega)
  unfold spec_ceilDiv.f
  rw [w64 (n := -a) (by omega) (by omega), sFloor (-a) b hb (by omega) (by omega)]
  simp only [Option.bind_some]
  rw [w64 (by omega) (by omega)]

theorem inR (a l h : Int) : spec_inRange.f a l h = some (decide (l ≤ a ∧ a ≤ h)) := by
  unfold spec_inRange.f
  split <;> simp only [true_and, false_and, decide_false, *]

theorem wi (a l h : Int) : impl_within.f a l h = some (decide (l ≤ a ∧ a ≤ h)) := by
  unfold impl_within.f
  split <;> rename_i hc <;> simp <;> omega

theorem iRate (n : Int) : impl_rateValid.f n = some (decide (0 ≤ n ∧ n ≤ 3000)) := by
  unfold impl_rateValid.f
  rw [wi]
  rfl

theorem iDay (n : Int) : impl_dayValid.f n = some (decide (0 ≤ n ∧ n ≤ 36524)) := by
  unfold impl_dayValid.f
  rw [wi]
  rfl

theorem iPriceOk (n : Int) : impl_priceValid.f n = some (decide (1 ≤ n ∧ n ≤ 50000)) := by
  unfold impl_priceValid.f
  rw [wi]
  rfl

def vNote (d m p : Int) : Bool := decide ((0 ≤ d ∧ d ≤ 36524) ∧ (1 ≤ m ∧ m ≤ 9999) ∧ 1 ≤ p ∧ p ≤ 50000)

theorem iNote (d m p : Int) : impl_Note_valid.f d m p = some (vNote d m p) := by
  unfold impl_Note_valid.f vNote
  simp only [iDay, wi, iPriceOk, Option.bind_some, decide_eq_true_eq]
  repeat' split
  all_goals (simp only [Option.some.injEq, decide_eq_decide]; try simp only [eq_comm (a := false), decide_eq_false_iff_not])
  all_goals omega

theorem iFloor (a b : Int) (hb : 0 < b) (h1 : -4611686018427387904 ≤ a) (h2 : a ≤ 4611686018427387904) : impl_floor.f a b = some (a / b) := by
  have hf := floor_at a b hb
  have hd := div_bd a b hb 4611686018427387904 (by omega) (by omega) h2
  unfold impl_floor.f
  rw [if_neg (by omega)]
  by_cases h : Int.tmod a b < 0
  · rw [if_pos h] at hf ⊢
    rw [w64 (n := Int.tdiv a b) (by omega) (by omega), w64 (by omega) (by omega), hf]
  · rw [if_neg h] at hf ⊢
    rw [w64 (n := Int.tdiv a b) (by omega) (by omega), hf]

theorem iCeil (a b : Int) (hb : 0 < b) (h1 : -4611686018427387904 ≤ a) (h2 : a ≤ 4611686018427387904) : impl_ceil.f a b = some (-((-a) / b)) := by
  have hd := div_bd (-a) b hb 4611686018427387904 (by omega) (by omega) (by omega)
  unfold impl_ceil.f
  rw [w64 (n := -a) (by omega) (by omega), iFloor (-a) b hb (by omega) (by omega)]
  simp only [Option.bind_some]
  rw [w64 (by omega) (by omega)]

theorem mul_bd {a b A B : Int} (h0 : 0 ≤ a) (h1 : a ≤ A) (h2 : 0 ≤ b) (h3 : b ≤ B) : 0 ≤ a * b ∧ a * b ≤ A * B :=
  ⟨Int.mul_nonneg h0 h2, Int.mul_le_mul h1 h3 h2 (by omega)⟩

def failCost (d m p n r : Int) : Int := if vNote d m p = true ∧ (0 ≤ n ∧ n ≤ 30) ∧ 0 ≤ r ∧ r ≤ 3000 then -((-(m * p * n * r)) / 3600000) else -1
theorem fail_mul {d m p n r : Int} (h : vNote d m p = true) (h1 : 0 ≤ n ∧ n ≤ 30) (h2 : 0 ≤ r ∧ r ≤ 3000) : (0 ≤ m * p ∧ m * p ≤ 499950000) ∧ (0 ≤ m * p * n ∧ m * p * n ≤ 14998500000) ∧ 0 ≤ m * p * n * r ∧ m * p * n * r ≤ 44995500000000 := by
  have k := of_decide_eq_true h
  have a := mul_bd (a := m) (b := p) (A := 9999) (B := 50000) (by omega) (by omega) (by omega) (by omega)
  have b := mul_bd (a := m * p) (b := n) (A := 499950000) (B := 30) (by omega) (by omega) (by omega) (by omega)
  have c := mul_bd (a := m * p * n) (b := r) (A := 14998500000) (B := 3000) (by omega) (by omega) (by omega) (by omega)
  exact ⟨a, b, c⟩

theorem iFail (d m p n r : Int) : impl_FailCost.f d m p n r = some (failCost d m p n r) := by
  unfold impl_FailCost.f failCost
  simp only [iNote, iRate, wi, Option.bind_some, decide_eq_true_eq]
  by_cases h : vNote d m p = true
  · by_cases h1 : 0 ≤ n ∧ n ≤ 30
    · by_cases h2 : 0 ≤ r ∧ r ≤ 3000
      · have hb := fail_mul h h1 h2
        rw [if_pos h, if_pos h1, if_pos h2, if_pos ⟨h, h1, h2⟩, w64 (n := m * p) (by omega) (by omega), w64 (n := m * p * n) (by omega) (by omega), w64 (n := m * p * n * r) (by omega) (by omega), iCeil _ _ (by omega) (by omega) (by omega)]
        rfl
      · rw [if_pos h, if_pos h1, if_neg h2, if_neg (fun k => h2 k.2.2)]
    · rw [if_pos h, if_neg h1, if_neg (fun k => h1 k.2.1)]
  · rw [if_neg h, if_neg (fun k => h k.1)]

/-- A computation that answers, and its answer is P. -/
def Gives {α : Type} (o : Option α) (P : α → Prop) : Prop := ∃ v, o = some v ∧ P v
theorem Gives.of {α : Type} {v : α} {P : α → Prop} (h : P v) : Gives (some v) P := ⟨v, rfl, h⟩
theorem Gives.bind {α β : Type} {o : Option α} {f : α → Option β} {P : α → Prop} {Q : β → Prop} (h : Gives o P) (hf : ∀ v, P v → Gives (f v) Q) : Gives (o.bind f) Q := by
  obtain ⟨v, rfl, hv⟩ := h
  exact hf v hv
theorem Gives.ite {α : Type} {c : Prop} [Decidable c] {a b : Option α} {P : α → Prop} (h1 : c → Gives a P) (h2 : ¬ c → Gives b P) : Gives (if c then a else b) P := by
  by_cases h : c
  · rw [if_pos h]
    exact h1 h
  · rw [if_neg h]
    exact h2 h
theorem Gives.pos {α : Type} {c : Prop} [Decidable c] {a b : Option α} {P : α → Prop} (hc : c) (h1 : Gives a P) : Gives (if c then a else b) P := by
  rw [if_pos hc]
  exact h1
theorem Gives.neg {α : Type} {c : Prop} [Decidable c] {a b : Option α} {P : α → Prop} (hc : ¬ c) (h1 : Gives b P) : Gives (if c then a else b) P := by
  rw [if_neg hc]
  exact h1
theorem Gives.mono {α : Type} {o : Option α} {P Q : α → Prop} (h : Gives o P) (hpq : ∀ v, P v → Q v) : Gives o Q := by
  obtain ⟨v, e, hv⟩ := h
  exact ⟨v, e, hpq v hv⟩
theorem Gives.eq {α : Type} {o : Option α} {v : α} (h : o = some v) : Gives o (fun x => x = v) := ⟨v, h, rfl⟩

/-- What a reader reads: at most 2000 bytes. -/
def Rd (b : List Int) : Prop := b.length ≤ 2000 ∧ ∀ x ∈ b, (Lit.int .u8 x).wf = true
theorem rd_byte {b : List Int} (h : Rd b) (i : Int) : 0 ≤ rd b i ∧ rd b i ≤ 255 := by
  unfold rd
  rw [List.getD_eq_getElem?_getD]
  by_cases hi : i.toNat < b.length
  · rw [List.getElem?_eq_getElem hi]
    exact bounds_u8 (h.2 _ (List.getElem_mem hi))
  · rw [List.getElem?_eq_none (by omega)]
    exact ⟨by simp, by simp⟩
theorem xor_nonneg {x y : Int} (hx : 0 ≤ x) (hx2 : x < 4611686018427387904) (hy : 0 ≤ y) (hy2 : y < 4611686018427387904) : 0 ≤ Go.bits .xor .i64 x y ∧ Go.bits .xor .i64 x y < 4611686018427387904 := by
  obtain ⟨a, rfl⟩ := Int.eq_ofNat_of_zero_le hx
  obtain ⟨b, rfl⟩ := Int.eq_ofNat_of_zero_le hy
  have ha : a < 2 ^ 62 := by omega
  have hb : b < 2 ^ 62 := by omega
  have hp : (2 : Nat) ^ 62 ≤ 2 ^ IntKind.i64.bits := Nat.pow_le_pow_right (by decide) (by decide)
  have ha' : a % 2 ^ IntKind.i64.bits = a := Nat.mod_eq_of_lt (Nat.lt_of_lt_of_le ha hp)
  have hb' : b % 2 ^ IntKind.i64.bits = b := Nat.mod_eq_of_lt (Nat.lt_of_lt_of_le hb hp)
  have hxor : a ^^^ b < 2 ^ 62 := Nat.xor_lt_two_pow ha hb
  have e : Go.bits .xor .i64 (a : Int) (b : Int) = ((a ^^^ b : Nat) : Int) := by
    simp only [Go.bits, BitVec.ofInt_natCast, BitVec.toNat_xor, BitVec.toNat_ofNat, ha', hb']
    rw [IntKind.wrap_i64]
    omega
  have e2 : (Int.ofNat a) = (a : Int) := rfl
  have e3 : (Int.ofNat b) = (b : Int) := rfl
  first | rw [e] | (rw [e2, e3, e])
  omega
theorem tmod_at {x n : Int} (hx : 0 ≤ x) (hn : 0 < n) : 0 ≤ Int.tmod x n ∧ Int.tmod x n < n := ⟨Int.tmod_nonneg n hx, Int.tmod_lt_of_pos x hn⟩
theorem tdiv_at {x n : Int} (hx : 0 ≤ x) (hn : 0 < n) : 0 ≤ Int.tdiv x n ∧ Int.tdiv x n ≤ x := by
  rw [Int.tdiv_eq_ediv_of_nonneg hx]
  exact ⟨Int.ediv_nonneg hx (by omega), Int.ediv_le_self n hx⟩

theorem pick {b : List Int} (hb : Rd b) {p n : Int} (k : Nat) (h0 : 0 ≤ p) (h1 : p ≤ 1000000) (hn : 1 ≤ n) : Gives (spec_reader_pick.f (k + 1) b p n) (fun v => (0 ≤ v.1 ∧ v.1 < n) ∧ v.2 = p + 1) := by
  unfold spec_reader_pick.f
  rw [if_neg (by omega), w64 (n := p + 1) (by omega) (by omega)]
  simp only [spec_reader_pick.j0]
  have hl := hb.1
  by_cases hz : b.length = 0
  · have : ((b.length : Int) == 0) = true := by
      rw [hz]
      rfl
    rw [if_pos this]
    exact Gives.of ⟨⟨by omega, by omega⟩, rfl⟩
  · have : ¬ ((b.length : Int) == 0) = true := by
      simp only [beq_iff_eq]
      omega
    rw [if_neg this, w64 (n := p + 1 - 1) (by omega) (by omega)]
    have e : p + 1 - 1 = p := by omega
    rw [e]
    have hlp : 0 < (b.length : Int) := by omega
    by_cases hp : p < (b.length : Int)
    · have hr := rd_byte hb p
      rw [if_pos hp, if_pos h0, if_neg (by omega), w64 (n := rd b p) (by omega) (by omega)]
      exact Gives.of ⟨tmod_at hr.1 (by omega), rfl⟩
    · have m1 := tmod_at h0 hlp
      rw [if_neg hp, if_neg (by omega), if_pos m1.1, if_pos m1.2, w64 (n := p * 7) (by omega) (by omega), w64 (n := p * 7 + 3) (by omega) (by omega)]
      have m2 := tmod_at (show 0 ≤ p * 7 + 3 by omega) hlp
      have d1 := tdiv_at h0 hlp
      rw [if_pos m2.1, if_pos m2.2, if_neg (by omega)]
      generalize Int.tmod p (b.length : Int) = i1 at *
      generalize Int.tmod (p * 7 + 3) (b.length : Int) = i2 at *
      generalize Int.tdiv p (b.length : Int) = q at *
      have r1 := rd_byte hb i1
      have r2 := rd_byte hb i2
      generalize rd b i1 = x1 at *
      generalize rd b i2 = x2 at *
      rw [w64 (n := x1) (by omega) (by omega), w64 (n := x2) (by omega) (by omega), w64 (n := x1 * 131) (by omega) (by omega), w64 (n := x2 * 1117) (by omega) (by omega), w64 (n := x1 * 131 + x2 * 1117) (by omega) (by omega),
        w64 (n := p * 29) (by omega) (by omega), w64 (n := x1 * 131 + x2 * 1117 + p * 29) (by omega) (by omega), w64 (n := q) (by omega) (by omega), w64 (n := q * 53) (by omega) (by omega), w64 (n := x1 * 131 + x2 * 1117 + p * 29 + q * 53) (by omega) (by omega)]
      have hy : 0 ≤ x1 * 131 + x2 * 1117 + p * 29 + q * 53 ∧ x1 * 131 + x2 * 1117 + p * 29 + q * 53 < 1000000000 := by omega
      generalize x1 * 131 + x2 * 1117 + p * 29 + q * 53 = y at *
      have d2 := tdiv_at hy.1 (show (0 : Int) < 64 by omega)
      rw [w64 (n := Int.tdiv y 64) (by omega) (by omega)]
      have hx := xor_nonneg hy.1 (by omega) d2.1 (by omega)
      exact Gives.of ⟨tmod_at hx.1 (by omega), rfl⟩

theorem rd_mem {l : List Int} {i : Int} (h0 : 0 ≤ i) (h1 : i < (l.length : Int)) : rd l i ∈ l := by
  unfold rd
  have hi : i.toNat < l.length := by omega
  rw [List.getD_eq_getElem?_getD, List.getElem?_eq_getElem hi]
  exact List.getElem_mem hi
theorem one {b : List Int} (hb : Rd b) {p : Int} (k : Nat) {l : List Int} (h0 : 0 ≤ p) (h1 : p ≤ 1000000) (hl : 1 ≤ l.length) : Gives (spec_reader_one.f (k + 1) b p l) (fun v => v.1 ∈ l ∧ v.2 = p + 1) := by
  unfold spec_reader_one.f
  refine Gives.bind (pick hb k h0 h1 (by omega)) (fun v hv => ?_)
  rw [if_pos hv.1.1, if_pos hv.1.2]
  exact Gives.of ⟨rd_mem hv.1.1 hv.1.2, hv.2⟩

theorem w64_bd (n : Int) : -9223372036854775808 ≤ wrap64 n ∧ wrap64 n ≤ 9223372036854775807 := by
  unfold wrap64
  omega

theorem someDay {b : List Int} (hb : Rd b) {p : Int} (k : Nat) (h0 : 0 ≤ p) (h1 : p ≤ 900000) : Gives (spec_reader_someDay.f (k + 1) b p) (fun v => (-9223372036854775808 ≤ v.1 ∧ v.1 ≤ 9223372036854775807) ∧ v.2 = p + 2) := by
  unfold spec_reader_someDay.f
  refine Gives.bind (pick hb k h0 (by omega) (by omega)) (fun v1 h1 => ?_)
  refine Gives.ite (fun _ => ?_) (fun _ => Gives.ite (fun _ => ?_) (fun _ => ?_))
  · refine Gives.bind (one hb k (by omega) (by omega) (by decide)) (fun v2 h2 => Gives.of ⟨?_, show v2.2 = p + 2 by omega⟩)
    have hm := h2.1
    simp only [List.mem_cons, List.not_mem_nil, or_false] at hm
    show -9223372036854775808 ≤ v2.1 ∧ v2.1 ≤ 9223372036854775807
    omega
  · exact Gives.bind (pick hb k (by omega) (by omega) (by omega)) (fun v2 h2 => Gives.of ⟨w64_bd _, show v2.2 = p + 2 by omega⟩)
  · exact Gives.bind (pick hb k (by omega) (by omega) (by omega)) (fun v2 h2 => Gives.of ⟨w64_bd _, show v2.2 = p + 2 by omega⟩)

theorem anyDay {b : List Int} (hb : Rd b) {p : Int} (k : Nat) (h0 : 0 ≤ p) (h1 : p ≤ 800000) : Gives (spec_reader_anyDay.f (k + 1) b p) (fun v => v.2 ≤ p + 3 ∧ 0 ≤ v.2) := by
  unfold spec_reader_anyDay.f
  refine Gives.bind (pick hb k h0 (by omega) (by omega)) (fun v1 hv1 => ?_)
  refine Gives.ite (fun _ => ?_) (fun _ => ?_)
  · exact Gives.bind (one hb k (by omega) (by omega) (by decide)) (fun v2 hv2 => Gives.of (by have hx := hv1.2; have hy := hv2.2; show v2.2 ≤ p + 3 ∧ 0 ≤ v2.2; omega))
  · exact Gives.bind (someDay hb k (by omega) (by omega)) (fun v2 hv2 => Gives.of (by have hx := hv1.2; have hy := hv2.2; show v2.2 ≤ p + 3 ∧ 0 ≤ v2.2; omega))

theorem newReader {l : List Int} (hx : ∀ x ∈ l, (Lit.int .u8 x).wf = true) : Gives (spec_newReader.f l) (fun v => Rd v.1 ∧ v.2 = 0) := by
  unfold spec_newReader.f
  by_cases h : (l.length : Int) > 2000
  · rw [if_pos h, if_pos (by omega)]
    exact Gives.of ⟨⟨by simp only [List.length_take]; omega, fun x hm => hx x (List.mem_of_mem_take hm)⟩, rfl⟩
  · rw [if_neg h]
    exact Gives.of ⟨⟨show l.length ≤ 2000 by omega, hx⟩, rfl⟩

theorem ceil_ge {x d : Int} (hd : 0 < d) : x ≤ -((-x) / d) * d := by
  have h := Int.ediv_mul_le (-x) (show d ≠ 0 by omega)
  rw [Int.neg_mul]
  omega
theorem ceil_lt {x d : Int} (hd : 0 < d) : (-((-x) / d) - 1) * d < x := by
  have h := Int.lt_ediv_add_one_mul_self (-x) hd
  have e : (-((-x) / d) - 1) * d = -(((-x) / d + 1) * d) := by
    rw [← Int.neg_mul]
    congr 1
    omega
  omega
theorem ceil_le {x d n : Int} (hd : 0 < d) (h : x ≤ n * d) : -((-x) / d) ≤ n := by
  have := (Int.le_ediv_iff_mul_le (a := -n) (b := -x) hd).2 (by rw [Int.neg_mul]; omega)
  omega

theorem draw {l : List Int} (hx : ∀ x ∈ l, (Lit.int .u8 x).wf = true) : Gives (spec_DrawFailCost.f 4 l) (fun _ => True) := by
  unfold spec_DrawFailCost.f
  refine Gives.bind (newReader hx) (fun v h => ?_)
  refine Gives.bind (anyDay h.1 3 (by omega) (by omega)) (fun v1 h1 => ?_)
  refine Gives.bind (one h.1 3 (by omega) (by omega) (by decide)) (fun v2 h2 => ?_)
  refine Gives.bind (one h.1 3 (by omega) (by omega) (by decide)) (fun v3 h3 => ?_)
  refine Gives.bind (one h.1 3 (by omega) (by omega) (by decide)) (fun v4 h4 => ?_)
  exact Gives.bind (one h.1 3 (by omega) (by omega) (by decide)) (fun v4 h4 => Gives.of trivial)
theorem sNotes (k : Nat) (d m p : Int) : spec_validNotes.f (k + 3) [(⟨d, m, p⟩ : S44)] = some (vNote d m p) := by
  unfold spec_validNotes.f
  have hw : wrap64 (0 + 1) = 1 := w64 (by omega) (by omega)
  simp only [spec_validNotes.l0, inR, hw, rd_T44, vNote]
  simp
  repeat' split
  all_goals simp
  all_goals omega
theorem sFail (k : Nat) (d m p n r : Int) : spec_FailCost.f (k + 3) d m p n r = some (failCost d m p n r) := by
  unfold spec_FailCost.f failCost
  simp only [sNotes, inR, Option.bind_some, decide_eq_true_eq]
  by_cases h : vNote d m p = true
  · by_cases h1 : 0 ≤ n ∧ n ≤ 30
    · by_cases h2 : 0 ≤ r ∧ r ≤ 3000
      · have hb := fail_mul h h1 h2
        rw [if_pos h, if_pos h1, if_pos h2, if_pos ⟨h, h1, h2⟩, w64 (n := m * p) (by omega) (by omega), w64 (n := m * p * n) (by omega) (by omega), w64 (n := m * p * n * r) (by omega) (by omega), sCeil _ _ (by omega) (by omega) (by omega)]
        rfl
      · rw [if_pos h, if_pos h1, if_neg h2, if_neg (fun k => h2 k.2.2)]
    · rw [if_pos h, if_neg h1, if_neg (fun k => h1 k.2.1)]
  · rw [if_neg h, if_neg (fun k => h k.1)]
end FnFailCostLaw
open FnFailCostLaw

theorem FnFailCost : laws_FnFailCost.Pure := by
  intro l _ _ hx
  refine ⟨4, ?_⟩
  unfold laws_FnFailCost.f
  by_cases hl : (l.length : Int) > 1048576
  · rw [if_pos hl]
  · rw [if_neg hl]
    obtain ⟨⟨d, m, p, n, r⟩, hd, _⟩ := draw hx
    have s3 := sFail 0 d m p n r
    have s4 := sFail 1 d m p n r
    rw [hd]
    simp only [Option.bind_some, iFail, s3, s4, if_true, laws_FnFailCost.j0, Nat.reduceAdd]
    by_cases hn : failCost d m p n r < 0
    · rw [if_pos (decide_eq_true hn)]
      simp
    · rw [if_neg (by simpa using hn)]
      by_cases hv : vNote d m p = true ∧ (0 ≤ n ∧ n ≤ 30) ∧ 0 ≤ r ∧ r ≤ 3000
      · obtain ⟨h1, h2, h3⟩ := hv
        have hm : n ≤ mn (n + 1) 30 ∧ mn (n + 1) 30 ≤ 30 := by
          unfold mn
          split <;> omega
        rw [w64 (n := n + 1) (by omega) (by omega)]
        generalize mn (n + 1) 30 = n' at *
        have e : ∀ a b, 0 ≤ a → a ≤ 30 → 0 ≤ b → b ≤ 3000 → failCost d m p a b = -((-(m * p * a * b)) / 3600000) := by
          intro a b g1 g2 g3 g4
          unfold failCost
          rw [if_pos ⟨h1, ⟨g1, g2⟩, g3, g4⟩]
        have b1 := fail_mul h1 h2 h3
        have b2 := fail_mul h1 (show 0 ≤ n' ∧ n' ≤ 30 by omega) h3
        rw [e 0 r (by omega) (by omega) (by omega) (by omega), e n 0 (by omega) (by omega) (by omega) (by omega), e n r (by omega) (by omega) (by omega) (by omega), e n' r (by omega) (by omega) (by omega) (by omega)]
        have z1 : m * p * 0 * r = 0 := by simp
        have z2 : m * p * n * 0 = 0 := by simp
        have z3 : -(-(0 : Int) / 3600000) = 0 := by decide
        rw [z1, z2, z3]
        simp only [if_true]
        rw [Option.some.injEq, decide_eq_true_eq]
        have le1 : m * p * n ≤ m * p * n' := Int.mul_le_mul_of_nonneg_left (by omega) (by omega)
        have le2 : m * p * n * r ≤ m * p * n' * r := Int.mul_le_mul_of_nonneg_right le1 (by omega)
        have := ceil_ge (x := m * p * n' * r) (d := 3600000) (by omega)
        exact ceil_le (by omega) (by omega)
      · exfalso
        have e : failCost d m p n r = -1 := by
          unfold failCost
          rw [if_neg hv]
        omega

end Go.Proofs.Ytobkncpmkiaggab.Pure

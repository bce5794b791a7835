/- What the printed functions of FnCashAt compute is true at every input. Conditions: none beyond the arguments' kinds. -/
import Derived.Test.YtmdhfmcnjdnkfaaGFnCashAtx3
import Derived.OpenShut
namespace Go.Proofs.Ytmdhfmcnjdnkfaa.Pure
open Go.RowKit Go.Proofs.Ytmdhfmcnjdnkfaa.PFnCashAt Go.Proofs.YtmdhfmcnjdnkfaaW.PrintWords Go.Proofs.YtmdhfmcnjdnkfaaW.PrintLast Go.Proofs.YtmdhfmcnjdnkfaaW.PrintMore
set_option linter.unusedVariables false
set_option linter.unusedSimpArgs false

namespace FnCashAtLaw
theorem rdF (xs : List S29) {i : Nat} (h : i < xs.length) : rd_T29 xs (i : Int) = xs[i] := by
  unfold rd_T29
  rw [List.getD_eq_getElem?_getD, Int.toNat_natCast, List.getElem?_eq_getElem h]
  rfl

theorem w64 {n : Int} (h1 : -9223372036854775808 ≤ n) (h2 : n ≤ 9223372036854775807) : wrap64 n = n := by
  unfold wrap64
  omega

/-- What payments till a day add. -/
def cash (xs : List S29) (day : Int) : Nat → Int
  | 0 => 0
  | i + 1 => cash xs day i + (if (rd_T29 xs (i : Int)).f0 ≤ day then (rd_T29 xs (i : Int)).f1 else 0)
theorem flows_of {xs : List S29} (h : impl_flowsValid.v xs = true) : xs.length ≤ 60 ∧ ∀ p ∈ xs, (0 ≤ p.f0 ∧ p.f0 ≤ 36524) ∧ (-1000000000 ≤ p.f1 ∧ p.f1 ≤ 1000000000) := by
  unfold impl_flowsValid.v impl_flowsValid.okF at h
  simp only [Bool.and_eq_true, decide_eq_true_eq, List.all_eq_true] at h
  exact h
theorem cash_bd {xs : List S29} (h : impl_flowsValid.v xs = true) (day : Int) : ∀ i, i ≤ xs.length → -1000000000 * (i : Int) ≤ cash xs day i ∧ cash xs day i ≤ 1000000000 * (i : Int) := by
  have hv := flows_of h
  intro i
  induction i with
  | zero => exact fun _ => ⟨by simp [cash], by simp [cash]⟩
  | succ i ih =>
    intro hi
    have h1 := ih (by omega)
    have h2 := (hv.2 _ (List.getElem_mem (show i < xs.length by omega))).2
    simp only [cash]
    rw [rdF xs (by omega)]
    split <;> omega
def cashAt (xs : List S29) (a day : Int) : Int × Bool := if impl_flowsValid.v xs = true ∧ (-1000000000 ≤ a ∧ a ≤ 1000000000) then (a + cash xs day xs.length, true) else (0, false)

theorem step1 {i n : Nat} (h : i < n) (hn : n ≤ 4611686018427387904) : wrap64 ((i : Int) + 1) = ((i + 1 : Nat) : Int) := by
  rw [w64 (by omega) (by omega)]
  omega

theorem inR (a l h : Int) : spec_inRange.f a l h = some (decide (l ≤ a ∧ a ≤ h)) := by
  unfold spec_inRange.f
  split <;> simp only [true_and, false_and, decide_false, *]

theorem sFlows_l (xs : List S29) (hn : xs.length ≤ 4611686018427387904) (d : Nat) : ∀ (k i : Nat), i + d = xs.length → d < k →
    spec_validFlows.l0 k xs (i : Int) = some ((xs.drop i).all impl_flowsValid.okF && decide (xs.length ≤ 60)) := by
  induction d with
  | zero =>
    intro k i hi hk
    obtain ⟨k, rfl⟩ : ∃ m, k = m + 1 := ⟨k - 1, by omega⟩
    simp only [spec_validFlows.l0]
    rw [if_neg (by omega), List.drop_of_length_le (by omega)]
    simp only [List.all_nil, Bool.true_and, Option.some.injEq, decide_eq_decide]
    omega
  | succ d ih =>
    intro k i hi hk
    obtain ⟨k, rfl⟩ : ∃ m, k = m + 1 := ⟨k - 1, by omega⟩
    have hlt : i < xs.length := by omega
    have e1 : ∀ p : S29, impl_flowsValid.okF p = (decide (0 ≤ p.f0 ∧ p.f0 ≤ 36524) && decide (-1000000000 ≤ p.f1 ∧ p.f1 ≤ 1000000000)) := fun _ => rfl
    simp only [spec_validFlows.l0]
    rw [if_pos (by omega), if_pos (by omega), step1 hlt hn, ih k (i + 1) (by omega) (by omega), inR, inR, rdF xs hlt, List.drop_eq_getElem_cons hlt, List.all_cons, e1]
    simp only [Option.bind_some]
    cases decide (0 ≤ xs[i].f0 ∧ xs[i].f0 ≤ 36524) <;> cases decide (-1000000000 ≤ xs[i].f1 ∧ xs[i].f1 ≤ 1000000000) <;> simp
theorem sFlows (xs : List S29) (hn : xs.length ≤ 4611686018427387904) {k : Nat} (hk : xs.length < k) : spec_validFlows.f k xs = some (impl_flowsValid.v xs) := by
  unfold spec_validFlows.f impl_flowsValid.v
  have := sFlows_l xs hn xs.length k 0 (by omega) (by omega)
  rw [Bool.and_comm]
  simpa using this

theorem sUntil_l {xs : List S29} (h : impl_flowsValid.v xs = true) (day : Int) (d : Nat) : ∀ (k i : Nat), i + d = xs.length → d < k → spec_sumUntil.l0 k xs day (cash xs day i) (i : Int) = some (cash xs day xs.length) := by
  have hv := flows_of h
  induction d with
  | zero =>
    intro k i hi hk
    obtain ⟨k, rfl⟩ : ∃ m, k = m + 1 := ⟨k - 1, by omega⟩
    obtain rfl : i = xs.length := by omega
    simp only [spec_sumUntil.l0]
    rw [if_neg (by omega)]
  | succ d ih =>
    intro k i hi hk
    obtain ⟨k, rfl⟩ : ∃ m, k = m + 1 := ⟨k - 1, by omega⟩
    have hlt : i < xs.length := by omega
    have hb := cash_bd h day (i + 1) (by omega)
    have ih2 := ih k (i + 1) (by omega) (by omega)
    simp only [cash] at hb ih2
    simp only [spec_sumUntil.l0]
    rw [if_pos (by omega), if_pos (by omega), step1 hlt (by omega)]
    by_cases c : (rd_T29 xs (i : Int)).f0 ≤ day
    · rw [if_pos c] at hb ih2 ⊢
      rw [w64 (by omega) (by omega)]
      exact ih2
    · rw [if_neg c] at hb ih2 ⊢
      rw [Int.add_zero] at ih2
      exact ih2
theorem sCash (xs : List S29) (a day : Int) (hn : xs.length ≤ 1048576) {k : Nat} (hk : xs.length < k) : spec_CashAt.f k xs a day = some (cashAt xs a day) := by
  unfold spec_CashAt.f cashAt
  rw [sFlows xs (by omega) (by omega), inR]
  simp only [Option.bind_some, decide_eq_true_eq]
  by_cases h : impl_flowsValid.v xs = true
  · have hv := flows_of h
    rw [if_pos h]
    by_cases c : -1000000000 ≤ a ∧ a ≤ 1000000000
    · have hb := cash_bd h day xs.length (Nat.le_refl _)
      have := sUntil_l h day xs.length k 0 (by omega) (by omega)
      simp only [cash] at this
      rw [show ((0 : Nat) : Int) = 0 from rfl] at this
      rw [if_pos c, if_pos (⟨h, c⟩ : impl_flowsValid.v xs = true ∧ (-1000000000 ≤ a ∧ a ≤ 1000000000))]
      unfold spec_sumUntil.f
      rw [this]
      simp only [Option.bind_some]
      rw [w64 (by omega) (by omega)]
    · rw [if_neg c, if_neg (fun x => c x.2)]
  · rw [if_neg h, if_neg (fun x => h x.1)]

theorem wi (a l h : Int) : impl_within.f a l h = some (decide (l ≤ a ∧ a ≤ h)) := by
  unfold impl_within.f
  split <;> rename_i hc <;> simp <;> omega

theorem iCash_l {xs : List S29} (h : impl_flowsValid.v xs = true) {a : Int} (ha : -1000000000 ≤ a ∧ a ≤ 1000000000) (day : Int) (d : Nat) : ∀ (k i : Nat), i + d = xs.length → d < k → impl_CashAt.l0 k (a + cash xs day i) day xs (xs.length : Int) (i : Int) = some (a + cash xs day xs.length, true) := by
  have hv := flows_of h
  induction d with
  | zero =>
    intro k i hi hk
    obtain ⟨k, rfl⟩ : ∃ m, k = m + 1 := ⟨k - 1, by omega⟩
    obtain rfl : i = xs.length := by omega
    simp only [impl_CashAt.l0]
    rw [if_neg (by omega)]
  | succ d ih =>
    intro k i hi hk
    obtain ⟨k, rfl⟩ : ∃ m, k = m + 1 := ⟨k - 1, by omega⟩
    have hlt : i < xs.length := by omega
    have hb := cash_bd h day (i + 1) (by omega)
    have ih2 := ih k (i + 1) (by omega) (by omega)
    simp only [cash] at hb ih2
    simp only [impl_CashAt.l0]
    rw [if_pos (by omega), if_pos (by omega), if_pos (by omega), step1 hlt (by omega)]
    by_cases c : (rd_T29 xs (i : Int)).f0 ≤ day
    · rw [if_pos c] at hb ih2 ⊢
      rw [w64 (by omega) (by omega), Int.add_assoc]
      exact ih2
    · rw [if_neg c] at hb ih2 ⊢
      rw [Int.add_zero] at ih2
      exact ih2
theorem iCash (xs : List S29) (a day : Int) {k : Nat} (hk : 62 < k) : impl_CashAt.f k xs a day = some (cashAt xs a day) := by
  unfold impl_CashAt.f cashAt impl_flowsValid.f impl_amountValid.f
  rw [wi]
  simp only [Option.bind_some]
  obtain ⟨k, rfl⟩ : ∃ m, k = m + 1 := ⟨k - 1, by omega⟩
  simp only [impl_CashAt.j0]
  by_cases h : impl_flowsValid.v xs = true
  · have hv := flows_of h
    rw [if_pos h]
    by_cases c : -1000000000 ≤ a ∧ a ≤ 1000000000
    · have := iCash_l h c day xs.length k 0 (by omega) (by omega)
      simp only [cash, Int.add_zero] at this
      rw [show ((0 : Nat) : Int) = 0 from rfl] at this
      rw [decide_eq_true c, if_pos (⟨h, c⟩ : impl_flowsValid.v xs = true ∧ (-1000000000 ≤ a ∧ a ≤ 1000000000))]
      exact this
    · rw [decide_eq_false c, if_pos (show (!false) = true from rfl), if_neg (fun x => c x.2)]
  · rw [if_neg h, if_pos trivial, if_neg (fun x => h x.1)]

/-- A computation that answers, and its answer is P. -/
def Gives {α : Type} (o : Option α) (P : α → Prop) : Prop := ∃ v, o = some v ∧ P v
theorem Gives.of {α : Type} {v : α} {P : α → Prop} (h : P v) : Gives (some v) P := ⟨v, rfl, h⟩
theorem Gives.bind {α β : Type} {o : Option α} {f : α → Option β} {P : α → Prop} {Q : β → Prop} (h : Gives o P) (hf : ∀ v, P v → Gives (f v) Q) : Gives (o.bind f) Q := by
  obtain ⟨v, rfl, hv⟩ := h
  exact hf v hv
theorem Gives.ite {α : Type} {c : Prop} [Decidable c] {a b : Option α} {P : α → Prop} (h1 : c → Gives a P) (h2 : ¬ c → Gives b P) : Gives (if c then a else b) P := by
  by_cases h : c
  · rw [if_pos h]
    exact h1 h
  · rw [if_neg h]
    exact h2 h
theorem Gives.pos {α : Type} {c : Prop} [Decidable c] {a b : Option α} {P : α → Prop} (hc : c) (h1 : Gives a P) : Gives (if c then a else b) P := by
  rw [if_pos hc]
  exact h1
theorem Gives.neg {α : Type} {c : Prop} [Decidable c] {a b : Option α} {P : α → Prop} (hc : ¬ c) (h1 : Gives b P) : Gives (if c then a else b) P := by
  rw [if_neg hc]
  exact h1
theorem Gives.mono {α : Type} {o : Option α} {P Q : α → Prop} (h : Gives o P) (hpq : ∀ v, P v → Q v) : Gives o Q := by
  obtain ⟨v, e, hv⟩ := h
  exact ⟨v, e, hpq v hv⟩
theorem Gives.eq {α : Type} {o : Option α} {v : α} (h : o = some v) : Gives o (fun x => x = v) := ⟨v, h, rfl⟩

/-- What a reader reads: at most 2000 bytes. -/
def Rd (b : List Int) : Prop := b.length ≤ 2000 ∧ ∀ x ∈ b, (Lit.int .u8 x).wf = true
theorem rd_byte {b : List Int} (h : Rd b) (i : Int) : 0 ≤ rd b i ∧ rd b i ≤ 255 := by
  unfold rd
  rw [List.getD_eq_getElem?_getD]
  by_cases hi : i.toNat < b.length
  · rw [List.getElem?_eq_getElem hi]
    exact bounds_u8 (h.2 _ (List.getElem_mem hi))
  · rw [List.getElem?_eq_none (by omega)]
    exact ⟨by simp, by simp⟩
theorem xor_nonneg {x y : Int} (hx : 0 ≤ x) (hx2 : x < 4611686018427387904) (hy : 0 ≤ y) (hy2 : y < 4611686018427387904) : 0 ≤ Go.bits .xor .i64 x y ∧ Go.bits .xor .i64 x y < 4611686018427387904 := by
  obtain ⟨a, rfl⟩ := Int.eq_ofNat_of_zero_le hx
  obtain ⟨b, rfl⟩ := Int.eq_ofNat_of_zero_le hy
  have ha : a < 2 ^ 62 := by omega
  have hb : b < 2 ^ 62 := by omega
  have hp : (2 : Nat) ^ 62 ≤ 2 ^ IntKind.i64.bits := Nat.pow_le_pow_right (by decide) (by decide)
  have ha' : a % 2 ^ IntKind.i64.bits = a := Nat.mod_eq_of_lt (Nat.lt_of_lt_of_le ha hp)
  have hb' : b % 2 ^ IntKind.i64.bits = b := Nat.mod_eq_of_lt (Nat.lt_of_lt_of_le hb hp)
  have hxor : a ^^^ b < 2 ^ 62 := Nat.xor_lt_two_pow ha hb
  have e : Go.bits .xor .i64 (a : Int) (b : Int) = ((a ^^^ b : Nat) : Int) := by
    simp only [Go.bits, BitVec.ofInt_natCast, BitVec.toNat_xor, BitVec.toNat_ofNat, ha', hb']
    rw [IntKind.wrap_i64]
    omega
  have e2 : (Int.ofNat a) = (a : Int) := rfl
  have e3 : (Int.ofNat b) = (b : Int) := rfl
  first | rw [e] | (rw [e2, e3, e])
  omega
theorem tmod_at {x n : Int} (hx : 0 ≤ x) (hn : 0 < n) : 0 ≤ Int.tmod x n ∧ Int.tmod x n < n := ⟨Int.tmod_nonneg n hx, Int.tmod_lt_of_pos x hn⟩
theorem tdiv_at {x n : Int} (hx : 0 ≤ x) (hn : 0 < n) : 0 ≤ Int.tdiv x n ∧ Int.tdiv x n ≤ x := by
  rw [Int.tdiv_eq_ediv_of_nonneg hx]
  exact ⟨Int.ediv_nonneg hx (by omega), Int.ediv_le_self n hx⟩

theorem pick {b : List Int} (hb : Rd b) {p n : Int} (k : Nat) (h0 : 0 ≤ p) (h1 : p ≤ 1000000) (hn : 1 ≤ n) : Gives (spec_reader_pick.f (k + 1) b p n) (fun v => (0 ≤ v.1 ∧ v.1 < n) ∧ v.2 = p + 1) := by
  unfold spec_reader_pick.f
  rw [if_neg (by omega), w64 (n := p + 1) (by omega) (by omega)]
  simp only [spec_reader_pick.j0]
  have hl := hb.1
  by_cases hz : b.length = 0
  · have : ((b.length : Int) == 0) = true := by
      rw [hz]
      rfl
    rw [if_pos this]
    exact Gives.of ⟨⟨by omega, by omega⟩, rfl⟩
  · have : ¬ ((b.length : Int) == 0) = true := by
      simp only [beq_iff_eq]
      omega
    rw [if_neg this, w64 (n := p + 1 - 1) (by omega) (by omega)]
    have e : p + 1 - 1 = p := by omega
    rw [e]
    have hlp : 0 < (b.length : Int) := by omega
    by_cases hp : p < (b.length : Int)
    · have hr := rd_byte hb p
      rw [if_pos hp, if_pos h0, if_neg (by omega), w64 (n := rd b p) (by omega) (by omega)]
      exact Gives.of ⟨tmod_at hr.1 (by omega), rfl⟩
    · have m1 := tmod_at h0 hlp
      rw [if_neg hp, if_neg (by omega), if_pos m1.1, if_pos m1.2, w64 (n := p * 7) (by omega) (by omega), w64 (n := p * 7 + 3) (by omega) (by omega)]
      have m2 := tmod_at (show 0 ≤ p * 7 + 3 by omega) hlp
      have d1 := tdiv_at h0 hlp
      rw [if_pos m2.1, if_pos m2.2, if_neg (by omega)]
      generalize Int.tmod p (b.length : Int) = i1 at *
      generalize Int.tmod (p * 7 + 3) (b.length : Int) = i2 at *
      generalize Int.tdiv p (b.length : Int) = q at *
      have r1 := rd_byte hb i1
      have r2 := rd_byte hb i2
      generalize rd b i1 = x1 at *
      generalize rd b i2 = x2 at *
      rw [w64 (n := x1) (by omega) (by omega), w64 (n := x2) (by omega) (by omega), w64 (n := x1 * 131) (by omega) (by omega), w64 (n := x2 * 1117) (by omega) (by omega), w64 (n := x1 * 131 + x2 * 1117) (by omega) (by omega),
        w64 (n := p * 29) (by omega) (by omega), w64 (n := x1 * 131 + x2 * 1117 + p * 29) (by omega) (by omega), w64 (n := q) (by omega) (by omega), w64 (n := q * 53) (by omega) (by omega), w64 (n := x1 * 131 + x2 * 1117 + p * 29 + q * 53) (by omega) (by omega)]
      have hy : 0 ≤ x1 * 131 + x2 * 1117 + p * 29 + q * 53 ∧ x1 * 131 + x2 * 1117 + p * 29 + q * 53 < 1000000000 := by omega
      generalize x1 * 131 + x2 * 1117 + p * 29 + q * 53 = y at *
      have d2 := tdiv_at hy.1 (show (0 : Int) < 64 by omega)
      rw [w64 (n := Int.tdiv y 64) (by omega) (by omega)]
      have hx := xor_nonneg hy.1 (by omega) d2.1 (by omega)
      exact Gives.of ⟨tmod_at hx.1 (by omega), rfl⟩

theorem rd_mem {l : List Int} {i : Int} (h0 : 0 ≤ i) (h1 : i < (l.length : Int)) : rd l i ∈ l := by
  unfold rd
  have hi : i.toNat < l.length := by omega
  rw [List.getD_eq_getElem?_getD, List.getElem?_eq_getElem hi]
  exact List.getElem_mem hi
theorem one {b : List Int} (hb : Rd b) {p : Int} (k : Nat) {l : List Int} (h0 : 0 ≤ p) (h1 : p ≤ 1000000) (hl : 1 ≤ l.length) : Gives (spec_reader_one.f (k + 1) b p l) (fun v => v.1 ∈ l ∧ v.2 = p + 1) := by
  unfold spec_reader_one.f
  refine Gives.bind (pick hb k h0 h1 (by omega)) (fun v hv => ?_)
  rw [if_pos hv.1.1, if_pos hv.1.2]
  exact Gives.of ⟨rd_mem hv.1.1 hv.1.2, hv.2⟩

theorem anyFlows_j {b : List Int} (hb : Rd b) (k : Nat) {p : Int} (h0 : 0 ≤ p) (h1 : p ≤ 800000) (xs : List S29) (c : Bool) (hc : c = true → 1 ≤ xs.length) (hl : xs.length ≤ 61) :
    Gives (spec_anyFlows.j1 (k + 2) xs c b p) (fun v => v.1.length ≤ 61 ∧ 0 ≤ v.2 ∧ v.2 ≤ p + 4) := by
  simp only [spec_anyFlows.j1]
  refine Gives.ite (fun h => ?_) (fun _ => Gives.of ⟨hl, h0, show p ≤ p + 4 by omega⟩)
  have hx := hc h
  refine Gives.bind (one hb k h0 (by omega) (by decide)) (fun v2 g2 => ?_)
  refine Gives.bind (one hb k (by omega) (by omega) (by decide)) (fun v3 g3 => ?_)
  rw [if_pos (by omega)]
  exact Gives.of ⟨by simpa using hl, show 0 ≤ v3.2 by omega, show v3.2 ≤ p + 4 by omega⟩
theorem anyFlows_l {b : List Int} (hb : Rd b) (d : Nat) : ∀ (k : Nat) (p n : Int) (xs : List S29), n = d → d + 4 < k → 0 ≤ p → p + 3 * n ≤ 700000 → xs.length + d ≤ 61 →
    Gives (spec_anyFlows.l0 k xs n b p) (fun v => v.1.length ≤ 61 ∧ 0 ≤ v.2 ∧ v.2 ≤ p + 3 * n + 5) := by
  induction d with
  | zero =>
    intro k p n xs hn hk h0 h1 hl
    obtain ⟨k, rfl⟩ : ∃ m, k = m + 4 := ⟨k - 4, by omega⟩
    simp only [spec_anyFlows.l0]
    rw [if_neg (by omega)]
    refine Gives.ite (fun hx => ?_) (fun _ => ?_)
    · refine Gives.bind (pick hb _ h0 (by omega) (by omega)) (fun v1 g1 => ?_)
      exact (anyFlows_j hb (k + 1) (by omega) (by omega) xs _ (fun _ => by omega) (by omega)).mono (fun v g => ⟨g.1, g.2.1, by omega⟩)
    · exact (anyFlows_j hb (k + 1) h0 (by omega) xs false (fun h => by cases h) (by omega)).mono (fun v g => ⟨g.1, g.2.1, by omega⟩)
  | succ d ih =>
    intro k p n xs hn hk h0 h1 hl
    obtain ⟨k, rfl⟩ : ∃ m, k = m + 2 := ⟨k - 2, by omega⟩
    simp only [spec_anyFlows.l0]
    rw [if_pos (by omega)]
    refine Gives.bind (pick hb k h0 (by omega) (by omega)) (fun v1 g1 => ?_)
    refine Gives.bind (pick hb k (by omega) (by omega) (by omega)) (fun v2 g2 => ?_)
    rw [if_pos (by omega), w64 (n := n - 1) (by omega) (by omega)]
    refine (ih (k + 1) v2.2 (n - 1) _ (by omega) (by omega) (by omega) (by omega) ?_).mono (fun v g => ⟨g.1, g.2.1, by omega⟩)
    rw [List.length_append, List.length_singleton]
    omega
theorem anyFlows {b : List Int} (hb : Rd b) {k : Nat} (hk : 80 < k) {p : Int} (h0 : 0 ≤ p) (h1 : p ≤ 100000) : Gives (spec_anyFlows.f k b p) (fun v => v.1.length ≤ 61 ∧ 0 ≤ v.2 ∧ v.2 ≤ p + 300) := by
  obtain ⟨k, rfl⟩ : ∃ m, k = m + 1 := ⟨k - 1, by omega⟩
  unfold spec_anyFlows.f
  refine Gives.bind (one hb k h0 (by omega) (by decide)) (fun v1 g1 => ?_)
  have hm := g1.1
  simp only [List.mem_cons, List.not_mem_nil, or_false] at hm
  refine (anyFlows_l hb v1.1.toNat (k + 1) v1.2 v1.1 [] (by omega) (by omega) (by omega) (by omega) ?_).mono (fun v g => ⟨g.1, g.2.1, by omega⟩)
  rw [List.length_nil]
  omega

theorem newReader {l : List Int} (hx : ∀ x ∈ l, (Lit.int .u8 x).wf = true) : Gives (spec_newReader.f l) (fun v => Rd v.1 ∧ v.2 = 0) := by
  unfold spec_newReader.f
  by_cases h : (l.length : Int) > 2000
  · rw [if_pos h, if_pos (by omega)]
    exact Gives.of ⟨⟨by simp only [List.length_take]; omega, fun x hm => hx x (List.mem_of_mem_take hm)⟩, rfl⟩
  · rw [if_neg h]
    exact Gives.of ⟨⟨show l.length ≤ 2000 by omega, hx⟩, rfl⟩

theorem drawCash {l : List Int} {k : Nat} (hk : 100 < k) (hx : ∀ x ∈ l, (Lit.int .u8 x).wf = true) : Gives (spec_DrawCashAt.f k l) (fun v => v.1.length ≤ 61 ∧ 9000 ≤ v.2.2 ∧ v.2.2 ≤ 9070) := by
  unfold spec_DrawCashAt.f
  obtain ⟨k, rfl⟩ : ∃ m, k = m + 1 := ⟨k - 1, by omega⟩
  refine Gives.bind (newReader hx) (fun v0 g0 => ?_)
  refine Gives.bind (anyFlows g0.1 (by omega) (by omega) (by omega)) (fun v1 g1 => ?_)
  refine Gives.bind (one g0.1 k (by omega) (by omega) (by decide)) (fun v2 g2 => ?_)
  refine Gives.bind (pick g0.1 k (by omega) (by omega) (by omega)) (fun v3 g3 => ?_)
  rw [w64 (n := 9000 + v3.1) (by omega) (by omega)]
  exact Gives.of ⟨g1.1, show 9000 ≤ 9000 + v3.1 by omega, show 9000 + v3.1 ≤ 9070 by omega⟩

end FnCashAtLaw
open FnCashAtLaw

/-- What payments of one day add. -/
def onDay (xs : List S29) (day : Int) : Nat → Int
  | 0 => 0
  | i + 1 => onDay xs day i + (if (rd_T29 xs (i : Int)).f0 = day then (rd_T29 xs (i : Int)).f1 else 0)
theorem onDay_bd {xs : List S29} (h : impl_flowsValid.v xs = true) (day : Int) : ∀ i, i ≤ xs.length → -1000000000 * (i : Int) ≤ onDay xs day i ∧ onDay xs day i ≤ 1000000000 * (i : Int) := by
  have hv := flows_of h
  intro i
  induction i with
  | zero => exact fun _ => ⟨by simp [onDay], by simp [onDay]⟩
  | succ i ih =>
    intro hi
    have h1 := ih (by omega)
    have h2 := (hv.2 _ (List.getElem_mem (show i < xs.length by omega))).2
    simp only [onDay]
    rw [rdF xs (by omega)]
    split <;> omega
theorem cash_step (xs : List S29) (day : Int) : ∀ i, cash xs (day - 1) i + onDay xs day i = cash xs day i := by
  intro i
  induction i with
  | zero => rfl
  | succ i ih =>
    simp only [cash, onDay]
    generalize rd_T29 xs (i : Int) = p
    by_cases c1 : p.f0 ≤ day - 1
    · rw [if_pos c1, if_neg (by omega), if_pos (by omega)]
      omega
    · by_cases c2 : p.f0 = day
      · rw [if_neg c1, if_pos c2, if_pos (by omega)]
        omega
      · rw [if_neg c1, if_neg c2, if_neg (by omega)]
        omega
theorem loop {xs : List S29} (h : impl_flowsValid.v xs = true) {n day u : Int} (hu : -100000000000 ≤ u ∧ u ≤ 100000000000) (d : Nat) : ∀ (k i : Nat), i + d = xs.length → d < k → laws_FnCashAt.l0 k xs day n (u + onDay xs day i) true (i : Int) = some ((u + onDay xs day xs.length) == n) := by
  have hv := flows_of h
  induction d with
  | zero =>
    intro k i hi hk
    obtain ⟨k, rfl⟩ : ∃ m, k = m + 1 := ⟨k - 1, by omega⟩
    obtain rfl : i = xs.length := by omega
    simp only [laws_FnCashAt.l0]
    rw [if_neg (by omega)]
    rfl
  | succ d ih =>
    intro k i hi hk
    obtain ⟨k, rfl⟩ : ∃ m, k = m + 1 := ⟨k - 1, by omega⟩
    have hlt : i < xs.length := by omega
    have hb := onDay_bd h day (i + 1) (by omega)
    have ih2 := ih k (i + 1) (by omega) (by omega)
    simp only [onDay] at hb ih2
    simp only [laws_FnCashAt.l0]
    rw [if_pos (by omega), if_pos (by omega), step1 hlt (by omega)]
    by_cases c : (rd_T29 xs (i : Int)).f0 = day
    · rw [if_pos c] at hb ih2 ⊢
      rw [w64 (by omega) (by omega), Int.add_assoc]
      exact ih2
    · rw [if_neg c] at hb ih2 ⊢
      rw [Int.add_zero] at ih2
      exact ih2
theorem law_j {xs : List S29} {a day : Int} (hn : xs.length ≤ 61) (hd1 : 9000 ≤ day) (hd2 : day ≤ 9070) {k : Nat} (hk : 70 < k) :
    laws_FnCashAt.j0 k xs a day (cashAt xs a day).1 (cashAt xs a day).2 (cashAt xs a day).1 (cashAt xs a day).2 (!(cashAt xs a day).2) = some true := by
  obtain ⟨k, rfl⟩ : ∃ m, k = m + 1 := ⟨k - 1, by omega⟩
  simp only [laws_FnCashAt.j0]
  rw [iCash xs a (wrap64 (day - 1)) (by omega), w64 (n := day - 1) (by omega) (by omega)]
  by_cases h : impl_flowsValid.v xs = true ∧ (-1000000000 ≤ a ∧ a ≤ 1000000000)
  · have hv := flows_of h.1
    have hb := cash_bd h.1 (day - 1) xs.length (Nat.le_refl _)
    have ht := loop h.1 (n := a + cash xs day xs.length) (day := day) (u := a + cash xs (day - 1) xs.length) (by omega) xs.length k 0 (by omega) (by omega)
    simp only [onDay, Int.add_zero] at ht
    rw [show ((0 : Nat) : Int) = 0 from rfl] at ht
    have e := cash_step xs day xs.length
    rw [Int.add_assoc, e] at ht
    have e1 : cashAt xs a day = (a + cash xs day xs.length, true) := if_pos h
    have e2 : cashAt xs a (day - 1) = (a + cash xs (day - 1) xs.length, true) := if_pos h
    rw [e1, e2]
    simp only [Bool.not_true, Bool.false_eq_true, if_false, Option.bind_some]
    rw [ht]
    simp
  · have e1 : cashAt xs a day = (0, false) := if_neg h
    rw [e1]
    rfl
theorem FnCashAt : laws_FnCashAt.Pure := by
  intro l _ _ hx
  have hk : ∃ k, 200 < k := ⟨201, by omega⟩
  obtain ⟨k, hk⟩ := hk
  refine ⟨k, ?_⟩
  unfold laws_FnCashAt.f
  by_cases hl : (l.length : Int) > 1048576
  · rw [if_pos hl]
  · rw [if_neg hl]
    obtain ⟨⟨xs, a, day⟩, hd, hn, hd1, hd2⟩ := drawCash (k := k) (by omega) hx
    simp only at hn hd1 hd2
    rw [hd]
    simp only [Option.bind_some]
    rw [iCash xs a day (by omega), sCash xs a day (by omega) (by omega)]
    simp only [Option.bind_some, if_true, bne_self_eq_false, Bool.false_eq_true, if_false]
    exact law_j hn hd1 hd2 (by omega)

end Go.Proofs.Ytmdhfmcnjdnkfaa.Pure

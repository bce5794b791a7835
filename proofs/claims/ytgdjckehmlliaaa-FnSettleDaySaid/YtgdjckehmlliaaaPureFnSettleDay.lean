/- What the printed functions of FnSettleDay compute is true at every input. Conditions: none beyond the arguments' kinds. -/
import Derived.Test.YtgdjckehmlliaaaGFnSettleDayx3
import Derived.OpenShut
namespace Go.Proofs.Ytgdjckehmlliaaa.Pure
open Go.RowKit Go.Proofs.Ytgdjckehmlliaaa.PFnSettleDay Go.Proofs.YtgdjckehmlliaaaW.PrintWords Go.Proofs.YtgdjckehmlliaaaW.PrintLast Go.Proofs.YtgdjckehmlliaaaW.PrintMore
set_option linter.unusedVariables false
set_option linter.unusedSimpArgs false

namespace FnSettleDayLaw
theorem w64 {n : Int} (h1 : -9223372036854775808 ≤ n) (h2 : n ≤ 9223372036854775807) : wrap64 n = n := by
  unfold wrap64
  omega

theorem step1 {i n : Nat} (h : i < n) (hn : n ≤ 4611686018427387904) : wrap64 ((i : Int) + 1) = ((i + 1 : Nat) : Int) := by
  rw [w64 (by omega) (by omega)]
  omega

theorem rdI (xs : List Int) {i : Nat} (h : i < xs.length) : rd xs (i : Int) = xs[i] := by
  unfold rd
  rw [List.getD_eq_getElem?_getD, Int.toNat_natCast, List.getElem?_eq_getElem h]
  rfl

theorem inR (a l h : Int) : spec_inRange.f a l h = some (decide (l ≤ a ∧ a ≤ h)) := by
  unfold spec_inRange.f
  split <;> simp only [true_and, false_and, decide_false, *]

theorem allIn_l (xs : List Int) (lo hi : Int) (hn : xs.length ≤ 4611686018427387904) (d : Nat) : ∀ (k i : Nat), i + d = xs.length → d < k → spec_allIn.l0 k xs lo hi (i : Int) = some ((xs.drop i).all fun n => decide (lo ≤ n ∧ n ≤ hi)) := by
  induction d with
  | zero =>
    intro k i h hk
    obtain ⟨k, rfl⟩ : ∃ m, k = m + 1 := ⟨k - 1, by omega⟩
    simp only [spec_allIn.l0]
    rw [if_neg (by omega), List.drop_of_length_le (by omega)]
    rfl
  | succ d ih =>
    intro k i h hk
    obtain ⟨k, rfl⟩ : ∃ m, k = m + 1 := ⟨k - 1, by omega⟩
    have hlt : i < xs.length := by omega
    simp only [spec_allIn.l0]
    rw [if_pos (by omega), if_pos (by omega), rdI xs hlt, inR, step1 hlt hn, ih k (i + 1) (by omega) (by omega), List.drop_eq_getElem_cons hlt, List.all_cons]
    simp only [Option.bind_some]
    cases decide (lo ≤ xs[i] ∧ xs[i] ≤ hi) <;> rfl
theorem allIn (xs : List Int) (lo hi : Int) (hn : xs.length ≤ 4611686018427387904) {k : Nat} (hk : xs.length < k) : spec_allIn.f k xs lo hi = some (xs.all fun n => decide (lo ≤ n ∧ n ≤ hi)) := by
  unfold spec_allIn.f
  exact allIn_l xs lo hi hn xs.length k 0 (by omega) (by omega)

theorem okH_iff (es : List Int) : impl_holidaysOf.okH es = true ↔ es.length ≤ 12 ∧ (∀ i, i < es.length → impl_holidaysOf.okE es i = true) := by
  unfold impl_holidaysOf.okH
  rw [Bool.and_eq_true, decide_eq_true_eq, List.all_eq_true]
  exact ⟨fun h => ⟨h.1, fun i hi => h.2 i (List.mem_range.2 hi)⟩, fun h => ⟨h.1, fun i hi => h.2 i (List.mem_range.1 hi)⟩⟩
theorem hol_A (es : List Int) (hn : es.length ≤ 1048576) (d : Nat) : ∀ (k i : Nat), 1 ≤ i → (i + d = es.length ∨ (d = 0 ∧ es.length ≤ i)) → i ≤ 1048577 → d + es.length + 1 < k → (∀ j, i ≤ j → j < es.length → rd es ((j : Int) - 1) < rd es (j : Int)) →
    spec_validHolidays.l0 k es (i : Int) = some (decide (es.length ≤ 12) && es.all fun n => decide (0 ≤ n ∧ n ≤ 36524)) := by
  induction d with
  | zero =>
    intro k i h1 hi hm hk h
    obtain ⟨k, rfl⟩ : ∃ m, k = m + 1 := ⟨k - 1, by omega⟩
    simp only [spec_validHolidays.l0]
    rw [if_neg (by omega)]
    by_cases c : (es.length : Int) ≤ 12
    · rw [if_pos c, allIn es 0 36524 (by omega) (by omega), decide_eq_true (by omega)]
      simp
    · rw [if_neg c, decide_eq_false (by omega)]
      rfl
  | succ d ih =>
    intro k i h1 hi hm hk h
    obtain ⟨k, rfl⟩ : ∃ m, k = m + 1 := ⟨k - 1, by omega⟩
    have hlt : i < es.length := by omega
    simp only [spec_validHolidays.l0]
    rw [if_pos (by omega), if_pos (by omega), w64 (n := (i : Int) - 1) (by omega) (by omega), if_pos (by omega), if_pos (by omega), if_neg (by have := h i (Nat.le_refl _) hlt; omega), step1 hlt (by omega)]
    exact ih k (i + 1) (by omega) (by omega) (by omega) (by omega) (fun j hj => h j (by omega))
theorem hol_B (es : List Int) (hn : es.length ≤ 1048576) (d : Nat) : ∀ (k i j : Nat), 1 ≤ i → j = i + d → j < es.length → ¬ rd es ((j : Int) - 1) < rd es (j : Int) → d < k → spec_validHolidays.l0 k es (i : Int) = some false := by
  induction d with
  | zero =>
    intro k i j h1 hj hl h hk
    obtain ⟨k, rfl⟩ : ∃ m, k = m + 1 := ⟨k - 1, by omega⟩
    obtain rfl : j = i := by omega
    simp only [spec_validHolidays.l0]
    rw [if_pos (by omega), if_pos (by omega), w64 (n := (j : Int) - 1) (by omega) (by omega), if_pos (by omega), if_pos (by omega), if_pos (by omega)]
  | succ d ih =>
    intro k i j h1 hj hl h hk
    obtain ⟨k, rfl⟩ : ∃ m, k = m + 1 := ⟨k - 1, by omega⟩
    have hlt : i < es.length := by omega
    simp only [spec_validHolidays.l0]
    rw [if_pos (by omega), if_pos (by omega), w64 (n := (i : Int) - 1) (by omega) (by omega), if_pos (by omega), if_pos (by omega), step1 hlt (by omega), ih k (i + 1) j (by omega) (by omega) hl h (by omega)]
    split <;> rfl
theorem sHol (es : List Int) (hn : es.length ≤ 1048576) {k : Nat} (hk : 2 * es.length + 4 < k) : spec_validHolidays.f k es = some (impl_holidaysOf.okH es) := by
  unfold spec_validHolidays.f
  by_cases hA : ∀ j, 1 ≤ j → j < es.length → rd es ((j : Int) - 1) < rd es (j : Int)
  · have h := hol_A es hn (es.length - 1) k 1 (Nat.le_refl _) (by omega) (by omega) (by omega) hA
    rw [show ((1 : Nat) : Int) = 1 from rfl] at h
    rw [h, Option.some.injEq, Bool.eq_iff_iff, okH_iff, Bool.and_eq_true, decide_eq_true_eq, List.all_eq_true]
    refine ⟨fun h => ⟨h.1, fun i hi => ?_⟩, fun h => ⟨h.1, fun n hm => ?_⟩⟩
    · have h2 := h.2 _ (List.getElem_mem hi)
      unfold impl_holidaysOf.okE
      rw [rdI es hi, h2, Bool.true_and, Bool.or_eq_true, decide_eq_true_eq, decide_eq_true_eq]
      by_cases c : i = 0
      · exact .inl c
      · have h3 := hA i (by omega) hi
        rw [rdI es hi] at h3
        exact .inr h3
    · obtain ⟨i, hi, rfl⟩ := List.getElem_of_mem hm
      have h2 := h.2 i hi
      unfold impl_holidaysOf.okE at h2
      rw [rdI es hi, Bool.and_eq_true] at h2
      exact h2.1
  · have hB : ∃ j, 1 ≤ j ∧ j < es.length ∧ ¬ rd es ((j : Int) - 1) < rd es (j : Int) := by
      refine Classical.byContradiction (fun hc => hA (fun j h1 h2 => Classical.byContradiction (fun h3 => hc ⟨j, h1, h2, h3⟩)))
    obtain ⟨j, h1, h2, h3⟩ := hB
    have h := hol_B es hn (j - 1) k 1 j (Nat.le_refl _) (by omega) h2 h3 (by omega)
    rw [show ((1 : Nat) : Int) = 1 from rfl] at h
    rw [h]
    cases c : impl_holidaysOf.okH es with
    | false => rfl
    | true =>
      have h4 := ((okH_iff es).1 c).2 j h2
      unfold impl_holidaysOf.okE at h4
      rw [Bool.and_eq_true, Bool.or_eq_true, decide_eq_true_eq, decide_eq_true_eq] at h4
      rcases h4.2 with h5 | h5
      · omega
      · exact absurd (by simpa using h5) h3
theorem isIn_l (xs : List Int) (a : Int) (hn : xs.length ≤ 4611686018427387904) (d : Nat) : ∀ (k i : Nat), i + d = xs.length → d < k → spec_isIn.l0 k xs a (i : Int) = some ((xs.drop i).contains a) := by
  induction d with
  | zero =>
    intro k i h hk
    obtain ⟨k, rfl⟩ : ∃ m, k = m + 1 := ⟨k - 1, by omega⟩
    simp only [spec_isIn.l0]
    rw [if_neg (by omega), List.drop_of_length_le (by omega)]
    rfl
  | succ d ih =>
    intro k i h hk
    obtain ⟨k, rfl⟩ : ∃ m, k = m + 1 := ⟨k - 1, by omega⟩
    have hlt : i < xs.length := by omega
    simp only [spec_isIn.l0]
    rw [if_pos (by omega), if_pos (by omega), rdI xs hlt, step1 hlt hn, ih k (i + 1) (by omega) (by omega), List.drop_eq_getElem_cons hlt, List.contains_cons]
    by_cases c : xs[i] = a
    · rw [if_pos c, c, beq_self_eq_true, Bool.true_or]
    · rw [if_neg c, beq_eq_false_iff_ne.2 (fun e => c e.symm), Bool.false_or]
theorem sBus (h : List Int) (n : Int) (hn : h.length ≤ 12) (h0 : 0 ≤ n) {k : Nat} (hk : 20 < k) : spec_business.f k h n = some (impl_holidaysOf.bus h n) := by
  unfold spec_business.f impl_holidaysOf.bus spec_isIn.f
  rw [Int.tmod_eq_emod_of_nonneg h0]
  have e := isIn_l h n (by omega) h.length k 0 (by omega) (by omega)
  rw [List.drop_zero] at e
  by_cases c : n % 7 < 5
  · rw [if_pos c, decide_eq_true c, Bool.true_and]
    rw [show ((0 : Nat) : Int) = 0 from rfl] at e
    rw [e]
    rfl
  · rw [if_neg c, decide_eq_false c, Bool.false_and]
theorem seek_l (h : List Int) (hn : h.length ≤ 12) (d : Nat) : ∀ (k : Nat) (n : Int), 0 ≤ n → n + d = 36525 → d + 30 < k → spec_seek.l0 k h n 1 = some (impl_holidaysOf.seekF h d n) := by
  induction d with
  | zero =>
    intro k n h0 h1 hk
    obtain ⟨k, rfl⟩ : ∃ m, k = m + 1 := ⟨k - 1, by omega⟩
    simp only [spec_seek.l0]
    rw [inR, decide_eq_false (by omega)]
    rfl
  | succ d ih =>
    intro k n h0 h1 hk
    obtain ⟨k, rfl⟩ : ∃ m, k = m + 1 := ⟨k - 1, by omega⟩
    simp only [spec_seek.l0, impl_holidaysOf.seekF]
    rw [inR, decide_eq_true (by omega), sBus h n hn h0 (by omega)]
    simp only [Option.bind_some, if_true]
    by_cases c : impl_holidaysOf.bus h n = true
    · rw [if_pos c, if_pos c]
    · rw [if_neg c, if_neg c, w64 (n := n + 1) (by omega) (by omega)]
      exact ih k (n + 1) (by omega) (by omega) (by omega)
theorem sSeek (h : List Int) (hn : h.length ≤ 12) {n : Int} (h0 : 0 ≤ n) (h1 : n ≤ 36525) {k : Nat} (hk : 40000 < k) : spec_seek.f k h n 1 = some (impl_holidaysOf.seekV h n) := by
  unfold spec_seek.f impl_holidaysOf.seekV
  exact seek_l h hn (36525 - n).toNat k n h0 (by omega) (by omega)
theorem add_l (h : List Int) (hn : h.length ≤ 12) (m : Int) (hm : m ≤ 30) (d : Nat) : ∀ (k : Nat) (at_ i : Int), 0 ≤ i → i + d = m → d + 40001 < k → -1 ≤ at_ → at_ ≤ 36524 → spec_AddBusiness.l0 k h at_ m i = some (impl_AddBusiness.addV h d at_) := by
  induction d with
  | zero =>
    intro k at_ i h0 h1 hk a0 a1
    obtain ⟨k, rfl⟩ : ∃ m, k = m + 1 := ⟨k - 1, by omega⟩
    simp only [spec_AddBusiness.l0, impl_AddBusiness.addV]
    rw [if_neg (by omega)]
  | succ d ih =>
    intro k at_ i h0 h1 hk a0 a1
    obtain ⟨k, rfl⟩ : ∃ m, k = m + 1 := ⟨k - 1, by omega⟩
    simp only [spec_AddBusiness.l0, impl_AddBusiness.addV]
    rw [if_pos (by omega)]
    by_cases c : 0 ≤ at_
    · rw [if_pos c, if_pos c, w64 (n := at_ + 1) (by omega) (by omega), sSeek h hn (by omega) (by omega) (by omega), w64 (n := i + 1) (by omega) (by omega)]
      have hb := impl_holidaysOf.seekV_bd h (n := at_ + 1) (by omega) (by omega)
      refine ih k _ (i + 1) (by omega) (by omega) (by omega) ?_ ?_
      · rcases hb with hb | hb <;> omega
      · rcases hb with hb | hb <;> omega
    · rw [if_neg c, if_neg c]
theorem sAddB (h : List Int) (n m : Int) (hn : h.length ≤ 1048576) {k : Nat} (hk : 3000000 < k) : spec_AddBusiness.f k h n m = some (impl_AddBusiness.v h n m) := by
  obtain ⟨k, rfl⟩ : ∃ m, k = m + 1 := ⟨k - 1, by omega⟩
  unfold spec_AddBusiness.f impl_AddBusiness.v
  rw [sHol h hn (by omega), inR, inR]
  simp only [Option.bind_some, spec_AddBusiness.j0]
  by_cases h1 : impl_holidaysOf.okH h = true
  · have hl := ((okH_iff h).1 h1).1
    rw [if_pos h1]
    by_cases h2 : 0 ≤ n ∧ n ≤ 36524
    · rw [if_pos (decide_eq_true h2)]
      by_cases h3 : 0 ≤ m ∧ m ≤ 30
      · rw [if_neg (by simp [h3]), sSeek h hl h2.1 (by omega) (by omega), if_pos ⟨h1, h2, h3⟩]
        have hb := impl_holidaysOf.seekV_bd h (n := n) (by omega) (by omega)
        simp only [Option.bind_some]
        refine add_l h hl m (by omega) m.toNat k _ 0 (by omega) (by omega) (by omega) ?_ ?_
        · rcases hb with hb | hb <;> omega
        · rcases hb with hb | hb <;> omega
      · rw [if_pos (by simp [h3]), if_neg (fun h => h3 h.2.2)]
    · rw [if_neg (by simp [h2]), if_pos trivial, if_neg (fun h => h2 h.2.1)]
  · rw [if_neg h1, if_pos trivial, if_neg (fun h => h1 h.1)]
theorem add_bd (h : List Int) (d : Nat) : ∀ (at_ : Int), 0 ≤ at_ → at_ ≤ 36524 → impl_holidaysOf.bus h at_ = true → impl_AddBusiness.addV h d at_ = -1 ∨ (at_ ≤ impl_AddBusiness.addV h d at_ ∧ impl_AddBusiness.addV h d at_ ≤ 36524 ∧ impl_holidaysOf.bus h (impl_AddBusiness.addV h d at_) = true) := by
  induction d with
  | zero => exact fun at_ _ h1 hb => .inr ⟨Int.le_refl _, h1, hb⟩
  | succ d ih =>
    intro at_ h0 h1 hb
    simp only [impl_AddBusiness.addV]
    rw [if_pos h0]
    rcases impl_holidaysOf.seekV_bd h (n := at_ + 1) (by omega) (by omega) with h2 | h2
    · rw [h2]
      left
      cases d with
      | zero => rfl
      | succ d => rfl
    · rcases ih _ (by omega) h2.2.1 h2.2.2 with h3 | h3
      · exact .inl h3
      · exact .inr ⟨by omega, h3.2⟩
theorem v_bd (h : List Int) (n m : Int) : impl_AddBusiness.v h n m = -1 ∨ (impl_holidaysOf.okH h = true ∧ 0 ≤ n ∧ n ≤ impl_AddBusiness.v h n m ∧ impl_AddBusiness.v h n m ≤ 36524 ∧ impl_holidaysOf.bus h (impl_AddBusiness.v h n m) = true) := by
  unfold impl_AddBusiness.v
  by_cases c : impl_holidaysOf.okH h = true ∧ (0 ≤ n ∧ n ≤ 36524) ∧ (0 ≤ m ∧ m ≤ 30)
  · rw [if_pos c]
    rcases impl_holidaysOf.seekV_bd h (n := n) (by omega) (by omega) with h2 | h2
    · rw [h2]
      left
      cases m.toNat with
      | zero => rfl
      | succ d => rfl
    · rcases add_bd h m.toNat _ (by omega) h2.2.1 h2.2.2 with h3 | h3
      · exact .inl h3
      · exact .inr ⟨c.1, c.2.1.1, by omega, h3.2⟩
  · rw [if_neg c]
    exact .inl rfl

/-- A computation that answers, and its answer is P. -/
def Gives {α : Type} (o : Option α) (P : α → Prop) : Prop := ∃ v, o = some v ∧ P v
theorem Gives.of {α : Type} {v : α} {P : α → Prop} (h : P v) : Gives (some v) P := ⟨v, rfl, h⟩
theorem Gives.bind {α β : Type} {o : Option α} {f : α → Option β} {P : α → Prop} {Q : β → Prop} (h : Gives o P) (hf : ∀ v, P v → Gives (f v) Q) : Gives (o.bind f) Q := by
  obtain ⟨v, rfl, hv⟩ := h
  exact hf v hv
theorem Gives.ite {α : Type} {c : Prop} [Decidable c] {a b : Option α} {P : α → Prop} (h1 : c → Gives a P) (h2 : ¬ c → Gives b P) : Gives (if c then a else b) P := by
  by_cases h : c
  · rw [if_pos h]
    exact h1 h
  · rw [if_neg h]
    exact h2 h
theorem Gives.pos {α : Type} {c : Prop} [Decidable c] {a b : Option α} {P : α → Prop} (hc : c) (h1 : Gives a P) : Gives (if c then a else b) P := by
  rw [if_pos hc]
  exact h1
theorem Gives.neg {α : Type} {c : Prop} [Decidable c] {a b : Option α} {P : α → Prop} (hc : ¬ c) (h1 : Gives b P) : Gives (if c then a else b) P := by
  rw [if_neg hc]
  exact h1
theorem Gives.mono {α : Type} {o : Option α} {P Q : α → Prop} (h : Gives o P) (hpq : ∀ v, P v → Q v) : Gives o Q := by
  obtain ⟨v, e, hv⟩ := h
  exact ⟨v, e, hpq v hv⟩
theorem Gives.eq {α : Type} {o : Option α} {v : α} (h : o = some v) : Gives o (fun x => x = v) := ⟨v, h, rfl⟩

/-- What a reader reads: at most 2000 bytes. -/
def Rd (b : List Int) : Prop := b.length ≤ 2000 ∧ ∀ x ∈ b, (Lit.int .u8 x).wf = true
theorem rd_byte {b : List Int} (h : Rd b) (i : Int) : 0 ≤ rd b i ∧ rd b i ≤ 255 := by
  unfold rd
  rw [List.getD_eq_getElem?_getD]
  by_cases hi : i.toNat < b.length
  · rw [List.getElem?_eq_getElem hi]
    exact bounds_u8 (h.2 _ (List.getElem_mem hi))
  · rw [List.getElem?_eq_none (by omega)]
    exact ⟨by simp, by simp⟩
theorem xor_nonneg {x y : Int} (hx : 0 ≤ x) (hx2 : x < 4611686018427387904) (hy : 0 ≤ y) (hy2 : y < 4611686018427387904) : 0 ≤ Go.bits .xor .i64 x y ∧ Go.bits .xor .i64 x y < 4611686018427387904 := by
  obtain ⟨a, rfl⟩ := Int.eq_ofNat_of_zero_le hx
  obtain ⟨b, rfl⟩ := Int.eq_ofNat_of_zero_le hy
  have ha : a < 2 ^ 62 := by omega
  have hb : b < 2 ^ 62 := by omega
  have hp : (2 : Nat) ^ 62 ≤ 2 ^ IntKind.i64.bits := Nat.pow_le_pow_right (by decide) (by decide)
  have ha' : a % 2 ^ IntKind.i64.bits = a := Nat.mod_eq_of_lt (Nat.lt_of_lt_of_le ha hp)
  have hb' : b % 2 ^ IntKind.i64.bits = b := Nat.mod_eq_of_lt (Nat.lt_of_lt_of_le hb hp)
  have hxor : a ^^^ b < 2 ^ 62 := Nat.xor_lt_two_pow ha hb
  have e : Go.bits .xor .i64 (a : Int) (b : Int) = ((a ^^^ b : Nat) : Int) := by
    simp only [Go.bits, BitVec.ofInt_natCast, BitVec.toNat_xor, BitVec.toNat_ofNat, ha', hb']
    rw [IntKind.wrap_i64]
    omega
  have e2 : (Int.ofNat a) = (a : Int) := rfl
  have e3 : (Int.ofNat b) = (b : Int) := rfl
  first | rw [e] | (rw [e2, e3, e])
  omega
theorem tmod_at {x n : Int} (hx : 0 ≤ x) (hn : 0 < n) : 0 ≤ Int.tmod x n ∧ Int.tmod x n < n := ⟨Int.tmod_nonneg n hx, Int.tmod_lt_of_pos x hn⟩
theorem tdiv_at {x n : Int} (hx : 0 ≤ x) (hn : 0 < n) : 0 ≤ Int.tdiv x n ∧ Int.tdiv x n ≤ x := by
  rw [Int.tdiv_eq_ediv_of_nonneg hx]
  exact ⟨Int.ediv_nonneg hx (by omega), Int.ediv_le_self n hx⟩

theorem pick {b : List Int} (hb : Rd b) {p n : Int} (k : Nat) (h0 : 0 ≤ p) (h1 : p ≤ 1000000) (hn : 1 ≤ n) : Gives (spec_reader_pick.f (k + 1) b p n) (fun v => (0 ≤ v.1 ∧ v.1 < n) ∧ v.2 = p + 1) := by
  unfold spec_reader_pick.f
  rw [if_neg (by omega), w64 (n := p + 1) (by omega) (by omega)]
  simp only [spec_reader_pick.j0]
  have hl := hb.1
  by_cases hz : b.length = 0
  · have : ((b.length : Int) == 0) = true := by
      rw [hz]
      rfl
    rw [if_pos this]
    exact Gives.of ⟨⟨by omega, by omega⟩, rfl⟩
  · have : ¬ ((b.length : Int) == 0) = true := by
      simp only [beq_iff_eq]
      omega
    rw [if_neg this, w64 (n := p + 1 - 1) (by omega) (by omega)]
    have e : p + 1 - 1 = p := by omega
    rw [e]
    have hlp : 0 < (b.length : Int) := by omega
    by_cases hp : p < (b.length : Int)
    · have hr := rd_byte hb p
      rw [if_pos hp, if_pos h0, if_neg (by omega), w64 (n := rd b p) (by omega) (by omega)]
      exact Gives.of ⟨tmod_at hr.1 (by omega), rfl⟩
    · have m1 := tmod_at h0 hlp
      rw [if_neg hp, if_neg (by omega), if_pos m1.1, if_pos m1.2, w64 (n := p * 7) (by omega) (by omega), w64 (n := p * 7 + 3) (by omega) (by omega)]
      have m2 := tmod_at (show 0 ≤ p * 7 + 3 by omega) hlp
      have d1 := tdiv_at h0 hlp
      rw [if_pos m2.1, if_pos m2.2, if_neg (by omega)]
      generalize Int.tmod p (b.length : Int) = i1 at *
      generalize Int.tmod (p * 7 + 3) (b.length : Int) = i2 at *
      generalize Int.tdiv p (b.length : Int) = q at *
      have r1 := rd_byte hb i1
      have r2 := rd_byte hb i2
      generalize rd b i1 = x1 at *
      generalize rd b i2 = x2 at *
      rw [w64 (n := x1) (by omega) (by omega), w64 (n := x2) (by omega) (by omega), w64 (n := x1 * 131) (by omega) (by omega), w64 (n := x2 * 1117) (by omega) (by omega), w64 (n := x1 * 131 + x2 * 1117) (by omega) (by omega),
        w64 (n := p * 29) (by omega) (by omega), w64 (n := x1 * 131 + x2 * 1117 + p * 29) (by omega) (by omega), w64 (n := q) (by omega) (by omega), w64 (n := q * 53) (by omega) (by omega), w64 (n := x1 * 131 + x2 * 1117 + p * 29 + q * 53) (by omega) (by omega)]
      have hy : 0 ≤ x1 * 131 + x2 * 1117 + p * 29 + q * 53 ∧ x1 * 131 + x2 * 1117 + p * 29 + q * 53 < 1000000000 := by omega
      generalize x1 * 131 + x2 * 1117 + p * 29 + q * 53 = y at *
      have d2 := tdiv_at hy.1 (show (0 : Int) < 64 by omega)
      rw [w64 (n := Int.tdiv y 64) (by omega) (by omega)]
      have hx := xor_nonneg hy.1 (by omega) d2.1 (by omega)
      exact Gives.of ⟨tmod_at hx.1 (by omega), rfl⟩

theorem rd_mem {l : List Int} {i : Int} (h0 : 0 ≤ i) (h1 : i < (l.length : Int)) : rd l i ∈ l := by
  unfold rd
  have hi : i.toNat < l.length := by omega
  rw [List.getD_eq_getElem?_getD, List.getElem?_eq_getElem hi]
  exact List.getElem_mem hi
theorem one {b : List Int} (hb : Rd b) {p : Int} (k : Nat) {l : List Int} (h0 : 0 ≤ p) (h1 : p ≤ 1000000) (hl : 1 ≤ l.length) : Gives (spec_reader_one.f (k + 1) b p l) (fun v => v.1 ∈ l ∧ v.2 = p + 1) := by
  unfold spec_reader_one.f
  refine Gives.bind (pick hb k h0 h1 (by omega)) (fun v hv => ?_)
  rw [if_pos hv.1.1, if_pos hv.1.2]
  exact Gives.of ⟨rd_mem hv.1.1 hv.1.2, hv.2⟩

theorem spoil {b : List Int} (hb : Rd b) {p : Int} (k : Nat) {l : List Int} (m : Int) (h0 : 0 ≤ p) (h1 : p ≤ 900000) (hl : l.length ≤ 1000) : Gives (spec_reader_spoil.f (k + 1) b p l m) (fun v => v.1.length ≤ l.length + 1 ∧ 0 ≤ v.2 ∧ v.2 ≤ p + 3) := by
  unfold spec_reader_spoil.f
  have e : spec_copyInts.f l = some l := by
    unfold spec_copyInts.f
    simp only [Option.bind_some, List.length_nil, Nat.zero_add, List.nil_append]
    rw [if_pos (by omega)]
  rw [e]
  simp only [Option.bind_some]
  refine Gives.bind (pick hb k h0 (by omega) (by omega)) (fun v1 g1 => ?_)
  refine Gives.ite (fun _ => ?_) (fun _ => Gives.ite (fun _ => ?_) (fun _ => Gives.ite (fun _ => ?_) (fun _ => ?_)))
  · rw [if_pos (by omega)]
    exact Gives.of ⟨by simp, show 0 ≤ v1.2 by omega, show v1.2 ≤ p + 3 by omega⟩
  · refine Gives.ite (fun h => ?_) (fun _ => Gives.of ⟨by simp, show 0 ≤ v1.2 by omega, show v1.2 ≤ p + 3 by omega⟩)
    rw [if_pos (by omega)]
    exact Gives.of ⟨by simp only [List.length_drop]; omega, show 0 ≤ v1.2 by omega, show v1.2 ≤ p + 3 by omega⟩
  · refine Gives.ite (fun h => ?_) (fun _ => Gives.of ⟨by simp, show 0 ≤ v1.2 by omega, show v1.2 ≤ p + 3 by omega⟩)
    refine Gives.bind (pick hb k (by omega) (by omega) (by omega)) (fun v2 g2 => ?_)
    refine Gives.bind (one hb k (by omega) (by omega) (by simp)) (fun v3 g3 => ?_)
    rw [if_pos g2.1.1, if_pos g2.1.2]
    exact Gives.of ⟨by simp, show 0 ≤ v3.2 by omega, show v3.2 ≤ p + 3 by omega⟩
  · exact Gives.of ⟨by simp, show 0 ≤ v1.2 by omega, show v1.2 ≤ p + 3 by omega⟩

theorem w64_bd (n : Int) : -9223372036854775808 ≤ wrap64 n ∧ wrap64 n ≤ 9223372036854775807 := by
  unfold wrap64
  omega

theorem someDay {b : List Int} (hb : Rd b) {p : Int} (k : Nat) (h0 : 0 ≤ p) (h1 : p ≤ 900000) : Gives (spec_reader_someDay.f (k + 1) b p) (fun v => (-9223372036854775808 ≤ v.1 ∧ v.1 ≤ 9223372036854775807) ∧ v.2 = p + 2) := by
  unfold spec_reader_someDay.f
  refine Gives.bind (pick hb k h0 (by omega) (by omega)) (fun v1 h1 => ?_)
  refine Gives.ite (fun _ => ?_) (fun _ => Gives.ite (fun _ => ?_) (fun _ => ?_))
  · refine Gives.bind (one hb k (by omega) (by omega) (by decide)) (fun v2 h2 => Gives.of ⟨?_, show v2.2 = p + 2 by omega⟩)
    have hm := h2.1
    simp only [List.mem_cons, List.not_mem_nil, or_false] at hm
    show -9223372036854775808 ≤ v2.1 ∧ v2.1 ≤ 9223372036854775807
    omega
  · exact Gives.bind (pick hb k (by omega) (by omega) (by omega)) (fun v2 h2 => Gives.of ⟨w64_bd _, show v2.2 = p + 2 by omega⟩)
  · exact Gives.bind (pick hb k (by omega) (by omega) (by omega)) (fun v2 h2 => Gives.of ⟨w64_bd _, show v2.2 = p + 2 by omega⟩)

theorem anyDay {b : List Int} (hb : Rd b) {p : Int} (k : Nat) (h0 : 0 ≤ p) (h1 : p ≤ 800000) : Gives (spec_reader_anyDay.f (k + 1) b p) (fun v => v.2 ≤ p + 3 ∧ 0 ≤ v.2) := by
  unfold spec_reader_anyDay.f
  refine Gives.bind (pick hb k h0 (by omega) (by omega)) (fun v1 hv1 => ?_)
  refine Gives.ite (fun _ => ?_) (fun _ => ?_)
  · exact Gives.bind (one hb k (by omega) (by omega) (by decide)) (fun v2 hv2 => Gives.of (by have hx := hv1.2; have hy := hv2.2; show v2.2 ≤ p + 3 ∧ 0 ≤ v2.2; omega))
  · exact Gives.bind (someDay hb k (by omega) (by omega)) (fun v2 hv2 => Gives.of (by have hx := hv1.2; have hy := hv2.2; show v2.2 ≤ p + 3 ∧ 0 ≤ v2.2; omega))

theorem newReader {l : List Int} (hx : ∀ x ∈ l, (Lit.int .u8 x).wf = true) : Gives (spec_newReader.f l) (fun v => Rd v.1 ∧ v.2 = 0) := by
  unfold spec_newReader.f
  by_cases h : (l.length : Int) > 2000
  · rw [if_pos h, if_pos (by omega)]
    exact Gives.of ⟨⟨by simp only [List.length_take]; omega, fun x hm => hx x (List.mem_of_mem_take hm)⟩, rfl⟩
  · rw [if_neg h]
    exact Gives.of ⟨⟨show l.length ≤ 2000 by omega, hx⟩, rfl⟩

theorem holL {b : List Int} (hb : Rd b) (d : Nat) : ∀ (k : Nat) (p n day : Int) (xs : List Int), n = d → d + 4 < k → 0 ≤ p → p + 2 * n ≤ 700000 → xs.length + d ≤ 13 →
    Gives (spec_anyHolidays.l0 k xs day n b p) (fun v => v.1.length ≤ 14 ∧ 0 ≤ v.2 ∧ v.2 ≤ p + 2 * n + 4) := by
  induction d with
  | zero =>
    intro k p n day xs hn hk h0 h1 hl
    obtain ⟨k, rfl⟩ : ∃ m, k = m + 2 := ⟨k - 2, by omega⟩
    simp only [spec_anyHolidays.l0]
    rw [if_neg (by omega)]
    refine Gives.bind (pick hb k h0 (by omega) (by omega)) (fun v g => Gives.ite (fun _ => ?_) (fun _ => ?_))
    · refine Gives.bind (spoil hb k 36525 (by omega) (by omega) (by omega)) (fun v2 g2 => ?_)
      exact Gives.of ⟨show v2.1.length ≤ 14 by omega, show 0 ≤ v2.2 by omega, show v2.2 ≤ p + 2 * n + 4 by omega⟩
    · exact Gives.of ⟨show xs.length ≤ 14 by omega, show 0 ≤ v.2 by omega, show v.2 ≤ p + 2 * n + 4 by omega⟩
  | succ d ih =>
    intro k p n day xs hn hk h0 h1 hl
    obtain ⟨k, rfl⟩ : ∃ m, k = m + 2 := ⟨k - 2, by omega⟩
    simp only [spec_anyHolidays.l0]
    rw [if_pos (by omega)]
    refine Gives.bind (pick hb k h0 (by omega) (by omega)) (fun v1 g1 => ?_)
    rw [if_pos (by omega)]
    refine Gives.bind (pick hb k (by omega) (by omega) (by omega)) (fun v2 g2 => ?_)
    rw [w64 (n := n - 1) (by omega) (by omega)]
    refine (ih (k + 1) v2.2 (n - 1) _ _ (by omega) (by omega) (by omega) (by omega) ?_).mono (fun v g => ⟨g.1, g.2.1, by omega⟩)
    rw [List.length_append, List.length_singleton]
    omega
theorem drawSettle {l : List Int} {k : Nat} (hk : 100 < k) (hx : ∀ x ∈ l, (Lit.int .u8 x).wf = true) : Gives (spec_DrawSettleDay.f k l) (fun v => v.1.length ≤ 14) := by
  unfold spec_DrawSettleDay.f spec_DrawAddBusiness.f spec_anyHolidays.f
  obtain ⟨k, rfl⟩ : ∃ m, k = m + 1 := ⟨k - 1, by omega⟩
  refine Gives.bind (P := fun v => v.1.length ≤ 14) ?_ (fun v g => Gives.of g)
  refine Gives.bind (newReader hx) (fun v0 g0 => ?_)
  refine Gives.bind (anyDay g0.1 k (by omega) (by omega)) (fun v1 g1 => ?_)
  refine Gives.bind (P := fun v => v.1.length ≤ 14 ∧ 0 ≤ v.2 ∧ v.2 ≤ 100) ?_ (fun v4 g4 => ?_)
  · refine Gives.bind (pick g0.1 k (by omega) (by omega) (by omega)) (fun v2 g2 => ?_)
    refine Gives.bind (one g0.1 k (by omega) (by omega) (by decide)) (fun v3 g3 => ?_)
    have hm := g3.1
    simp only [List.mem_cons, List.not_mem_nil, or_false] at hm
    exact (holL g0.1 v3.1.toNat (k + 1) v3.2 v3.1 _ [] (by omega) (by omega) (by omega) (by omega) (by simp only [List.length_nil]; omega)).mono (fun v g => ⟨g.1, g.2.1, by omega⟩)
  · refine Gives.bind (one g0.1 k (by omega) (by omega) (by decide)) (fun v5 g5 => ?_)
    exact Gives.of g4.1

end FnSettleDayLaw
open FnSettleDayLaw

theorem FnSettleDay : laws_FnSettleDay.Pure := by
  intro l _ _ hx
  have hk : ∃ k, 3000001 < k := ⟨3000002, by omega⟩
  obtain ⟨k, hk⟩ := hk
  refine ⟨k, ?_⟩
  unfold laws_FnSettleDay.f
  by_cases hl : (l.length : Int) > 1048576
  · rw [if_pos hl]
  · rw [if_neg hl]
    obtain ⟨⟨h, n, m⟩, hd, hh⟩ := drawSettle (k := k) (by omega) hx
    simp only at hh
    rw [hd]
    unfold impl_SettleDay.f impl_AddBusiness.f spec_SettleDay.f
    simp only [Option.bind_some]
    rw [sAddB h n m (by omega) (by omega)]
    simp only [Option.bind_some, if_true]
    obtain ⟨k, rfl⟩ : ∃ m, k = m + 1 := ⟨k - 1, by omega⟩
    simp only [laws_FnSettleDay.j0]
    unfold spec_SettleDay.f
    rw [sAddB h n m (by omega) (by omega)]
    unfold impl_IsBusiness.f impl_AddBusiness.f
    simp only [Option.bind_some, beq_self_eq_true]
    rcases v_bd h n m with hv | ⟨h1, h2, h3, h4, h5⟩
    · rw [if_pos (decide_eq_true (by omega))]
    · rw [if_neg (by simp only [decide_eq_true_eq]; omega), h1, h5, decide_eq_true (show 0 ≤ impl_AddBusiness.v h n m ∧ impl_AddBusiness.v h n m ≤ 36524 by omega), if_pos (by decide), if_pos (by omega)]

end Go.Proofs.Ytgdjckehmlliaaa.Pure

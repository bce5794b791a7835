/- What the printed functions of FnExactSettleDay compute is true at every input. Conditions: none beyond the arguments' kinds. -/
import Derived.Test.YtgdjckehmlliaaaGFnExactSettleDayx3
import Derived.OpenShut
namespace Go.Proofs.Ytgdjckehmlliaaa.Pure
open Go.RowKit Go.Proofs.Ytgdjckehmlliaaa.PFnExactSettleDay Go.Proofs.YtgdjckehmlliaaaW.PrintWords Go.Proofs.YtgdjckehmlliaaaW.PrintLast Go.Proofs.YtgdjckehmlliaaaW.PrintMore
set_option linter.unusedVariables false
set_option linter.unusedSimpArgs false

namespace FnExactSettleDayLaw
theorem w64 {n : Int} (h1 : -9223372036854775808 ≤ n) (h2 : n ≤ 9223372036854775807) : wrap64 n = n := by
  unfold wrap64
  omega

theorem step1 {i n : Nat} (h : i < n) (hn : n ≤ 4611686018427387904) : wrap64 ((i : Int) + 1) = ((i + 1 : Nat) : Int) := by
  rw [w64 (by omega) (by omega)]
  omega

theorem rdI (xs : List Int) {i : Nat} (h : i < xs.length) : rd xs (i : Int) = xs[i] := by
  unfold rd
  rw [List.getD_eq_getElem?_getD, Int.toNat_natCast, List.getElem?_eq_getElem h]
  rfl

theorem inR (a l h : Int) : spec_inRange.f a l h = some (decide (l ≤ a ∧ a ≤ h)) := by
  unfold spec_inRange.f
  split <;> simp only [true_and, false_and, decide_false, *]

theorem allIn_l (xs : List Int) (lo hi : Int) (hn : xs.length ≤ 4611686018427387904) (d : Nat) : ∀ (k i : Nat), i + d = xs.length → d < k → spec_allIn.l0 k xs lo hi (i : Int) = some ((xs.drop i).all fun n => decide (lo ≤ n ∧ n ≤ hi)) := by
  induction d with
  | zero =>
    intro k i h hk
    obtain ⟨k, rfl⟩ : ∃ m, k = m + 1 := ⟨k - 1, by omega⟩
    simp only [spec_allIn.l0]
    rw [if_neg (by omega), List.drop_of_length_le (by omega)]
    rfl
  | succ d ih =>
    intro k i h hk
    obtain ⟨k, rfl⟩ : ∃ m, k = m + 1 := ⟨k - 1, by omega⟩
    have hlt : i < xs.length := by omega
    simp only [spec_allIn.l0]
    rw [if_pos (by omega), if_pos (by omega), rdI xs hlt, inR, step1 hlt hn, ih k (i + 1) (by omega) (by omega), List.drop_eq_getElem_cons hlt, List.all_cons]
    simp only [Option.bind_some]
    cases decide (lo ≤ xs[i] ∧ xs[i] ≤ hi) <;> rfl
theorem allIn (xs : List Int) (lo hi : Int) (hn : xs.length ≤ 4611686018427387904) {k : Nat} (hk : xs.length < k) : spec_allIn.f k xs lo hi = some (xs.all fun n => decide (lo ≤ n ∧ n ≤ hi)) := by
  unfold spec_allIn.f
  exact allIn_l xs lo hi hn xs.length k 0 (by omega) (by omega)

theorem okH_iff (es : List Int) : impl_holidaysOf.okH es = true ↔ es.length ≤ 12 ∧ (∀ i, i < es.length → impl_holidaysOf.okE es i = true) := by
  unfold impl_holidaysOf.okH
  rw [Bool.and_eq_true, decide_eq_true_eq, List.all_eq_true]
  exact ⟨fun h => ⟨h.1, fun i hi => h.2 i (List.mem_range.2 hi)⟩, fun h => ⟨h.1, fun i hi => h.2 i (List.mem_range.1 hi)⟩⟩
theorem hol_A (es : List Int) (hn : es.length ≤ 1048576) (d : Nat) : ∀ (k i : Nat), 1 ≤ i → (i + d = es.length ∨ (d = 0 ∧ es.length ≤ i)) → i ≤ 1048577 → d + es.length + 1 < k → (∀ j, i ≤ j → j < es.length → rd es ((j : Int) - 1) < rd es (j : Int)) →
    spec_validHolidays.l0 k es (i : Int) = some (decide (es.length ≤ 12) && es.all fun n => decide (0 ≤ n ∧ n ≤ 36524)) := by
  induction d with
  | zero =>
    intro k i h1 hi hm hk h
    obtain ⟨k, rfl⟩ : ∃ m, k = m + 1 := ⟨k - 1, by omega⟩
    simp only [spec_validHolidays.l0]
    rw [if_neg (by omega)]
    by_cases c : (es.length : Int) ≤ 12
    · rw [if_pos c, allIn es 0 36524 (by omega) (by omega), decide_eq_true (by omega)]
      simp
    · rw [if_neg c, decide_eq_false (by omega)]
      rfl
  | succ d ih =>
    intro k i h1 hi hm hk h
    obtain ⟨k, rfl⟩ : ∃ m, k = m + 1 := ⟨k - 1, by omega⟩
    have hlt : i < es.length := by omega
    simp only [spec_validHolidays.l0]
    rw [if_pos (by omega), if_pos (by omega), w64 (n := (i : Int) - 1) (by omega) (by omega), if_pos (by omega), if_pos (by omega), if_neg (by have := h i (Nat.le_refl _) hlt; omega), step1 hlt (by omega)]
    exact ih k (i + 1) (by omega) (by omega) (by omega) (by omega) (fun j hj => h j (by omega))
theorem hol_B (es : List Int) (hn : es.length ≤ 1048576) (d : Nat) : ∀ (k i j : Nat), 1 ≤ i → j = i + d → j < es.length → ¬ rd es ((j : Int) - 1) < rd es (j : Int) → d < k → spec_validHolidays.l0 k es (i : Int) = some false := by
  induction d with
  | zero =>
    intro k i j h1 hj hl h hk
    obtain ⟨k, rfl⟩ : ∃ m, k = m + 1 := ⟨k - 1, by omega⟩
    obtain rfl : j = i := by omega
    simp only [spec_validHolidays.l0]
    rw [if_pos (by omega), if_pos (by omega), w64 (n := (j : Int) - 1) (by omega) (by omega), if_pos (by omega), if_pos (by omega), if_pos (by omega)]
  | succ d ih =>
    intro k i j h1 hj hl h hk
    obtain ⟨k, rfl⟩ : ∃ m, k = m + 1 := ⟨k - 1, by omega⟩
    have hlt : i < es.length := by omega
    simp only [spec_validHolidays.l0]
    rw [if_pos (by omega), if_pos (by omega), w64 (n := (i : Int) - 1) (by omega) (by omega), if_pos (by omega), if_pos (by omega), step1 hlt (by omega), ih k (i + 1) j (by omega) (by omega) hl h (by omega)]
    split <;> rfl
theorem sHol (es : List Int) (hn : es.length ≤ 1048576) {k : Nat} (hk : 2 * es.length + 4 < k) : spec_validHolidays.f k es = some (impl_holidaysOf.okH es) := by
  unfold spec_validHolidays.f
  by_cases hA : ∀ j, 1 ≤ j → j < es.length → rd es ((j : Int) - 1) < rd es (j : Int)
  · have h := hol_A es hn (es.length - 1) k 1 (Nat.le_refl _) (by omega) (by omega) (by omega) hA
    rw [show ((1 : Nat) : Int) = 1 from rfl] at h
    rw [h, Option.some.injEq, Bool.eq_iff_iff, okH_iff, Bool.and_eq_true, decide_eq_true_eq, List.all_eq_true]
    refine ⟨fun h => ⟨h.1, fun i hi => ?_⟩, fun h => ⟨h.1, fun n hm => ?_⟩⟩
    · have h2 := h.2 _ (List.getElem_mem hi)
      unfold impl_holidaysOf.okE
      rw [rdI es hi, h2, Bool.true_and, Bool.or_eq_true, decide_eq_true_eq, decide_eq_true_eq]
      by_cases c : i = 0
      · exact .inl c
      · have h3 := hA i (by omega) hi
        rw [rdI es hi] at h3
        exact .inr h3
    · obtain ⟨i, hi, rfl⟩ := List.getElem_of_mem hm
      have h2 := h.2 i hi
      unfold impl_holidaysOf.okE at h2
      rw [rdI es hi, Bool.and_eq_true] at h2
      exact h2.1
  · have hB : ∃ j, 1 ≤ j ∧ j < es.length ∧ ¬ rd es ((j : Int) - 1) < rd es (j : Int) := by
      refine Classical.byContradiction (fun hc => hA (fun j h1 h2 => Classical.byContradiction (fun h3 => hc ⟨j, h1, h2, h3⟩)))
    obtain ⟨j, h1, h2, h3⟩ := hB
    have h := hol_B es hn (j - 1) k 1 j (Nat.le_refl _) (by omega) h2 h3 (by omega)
    rw [show ((1 : Nat) : Int) = 1 from rfl] at h
    rw [h]
    cases c : impl_holidaysOf.okH es with
    | false => rfl
    | true =>
      have h4 := ((okH_iff es).1 c).2 j h2
      unfold impl_holidaysOf.okE at h4
      rw [Bool.and_eq_true, Bool.or_eq_true, decide_eq_true_eq, decide_eq_true_eq] at h4
      rcases h4.2 with h5 | h5
      · omega
      · exact absurd (by simpa using h5) h3
theorem isIn_l (xs : List Int) (a : Int) (hn : xs.length ≤ 4611686018427387904) (d : Nat) : ∀ (k i : Nat), i + d = xs.length → d < k → spec_isIn.l0 k xs a (i : Int) = some ((xs.drop i).contains a) := by
  induction d with
  | zero =>
    intro k i h hk
    obtain ⟨k, rfl⟩ : ∃ m, k = m + 1 := ⟨k - 1, by omega⟩
    simp only [spec_isIn.l0]
    rw [if_neg (by omega), List.drop_of_length_le (by omega)]
    rfl
  | succ d ih =>
    intro k i h hk
    obtain ⟨k, rfl⟩ : ∃ m, k = m + 1 := ⟨k - 1, by omega⟩
    have hlt : i < xs.length := by omega
    simp only [spec_isIn.l0]
    rw [if_pos (by omega), if_pos (by omega), rdI xs hlt, step1 hlt hn, ih k (i + 1) (by omega) (by omega), List.drop_eq_getElem_cons hlt, List.contains_cons]
    by_cases c : xs[i] = a
    · rw [if_pos c, c, beq_self_eq_true, Bool.true_or]
    · rw [if_neg c, beq_eq_false_iff_ne.2 (fun e => c e.symm), Bool.false_or]
theorem sBus (h : List Int) (n : Int) (hn : h.length ≤ 12) (h0 : 0 ≤ n) {k : Nat} (hk : 20 < k) : spec_business.f k h n = some (impl_holidaysOf.bus h n) := by
  unfold spec_business.f impl_holidaysOf.bus spec_isIn.f
  rw [Int.tmod_eq_emod_of_nonneg h0]
  have e := isIn_l h n (by omega) h.length k 0 (by omega) (by omega)
  rw [List.drop_zero] at e
  by_cases c : n % 7 < 5
  · rw [if_pos c, decide_eq_true c, Bool.true_and]
    rw [show ((0 : Nat) : Int) = 0 from rfl] at e
    rw [e]
    rfl
  · rw [if_neg c, decide_eq_false c, Bool.false_and]
theorem seek_l (h : List Int) (hn : h.length ≤ 12) (d : Nat) : ∀ (k : Nat) (n : Int), 0 ≤ n → n + d = 36525 → d + 30 < k → spec_seek.l0 k h n 1 = some (impl_holidaysOf.seekF h d n) := by
  induction d with
  | zero =>
    intro k n h0 h1 hk
    obtain ⟨k, rfl⟩ : ∃ m, k = m + 1 := ⟨k - 1, by omega⟩
    simp only [spec_seek.l0]
    rw [inR, decide_eq_false (by omega)]
    rfl
  | succ d ih =>
    intro k n h0 h1 hk
    obtain ⟨k, rfl⟩ : ∃ m, k = m + 1 := ⟨k - 1, by omega⟩
    simp only [spec_seek.l0, impl_holidaysOf.seekF]
    rw [inR, decide_eq_true (by omega), sBus h n hn h0 (by omega)]
    simp only [Option.bind_some, if_true]
    by_cases c : impl_holidaysOf.bus h n = true
    · rw [if_pos c, if_pos c]
    · rw [if_neg c, if_neg c, w64 (n := n + 1) (by omega) (by omega)]
      exact ih k (n + 1) (by omega) (by omega) (by omega)
theorem sSeek (h : List Int) (hn : h.length ≤ 12) {n : Int} (h0 : 0 ≤ n) (h1 : n ≤ 36525) {k : Nat} (hk : 40000 < k) : spec_seek.f k h n 1 = some (impl_holidaysOf.seekV h n) := by
  unfold spec_seek.f impl_holidaysOf.seekV
  exact seek_l h hn (36525 - n).toNat k n h0 (by omega) (by omega)
theorem add_l (h : List Int) (hn : h.length ≤ 12) (m : Int) (hm : m ≤ 30) (d : Nat) : ∀ (k : Nat) (at_ i : Int), 0 ≤ i → i + d = m → d + 40001 < k → -1 ≤ at_ → at_ ≤ 36524 → spec_AddBusiness.l0 k h at_ m i = some (impl_AddBusiness.addV h d at_) := by
  induction d with
  | zero =>
    intro k at_ i h0 h1 hk a0 a1
    obtain ⟨k, rfl⟩ : ∃ m, k = m + 1 := ⟨k - 1, by omega⟩
    simp only [spec_AddBusiness.l0, impl_AddBusiness.addV]
    rw [if_neg (by omega)]
  | succ d ih =>
    intro k at_ i h0 h1 hk a0 a1
    obtain ⟨k, rfl⟩ : ∃ m, k = m + 1 := ⟨k - 1, by omega⟩
    simp only [spec_AddBusiness.l0, impl_AddBusiness.addV]
    rw [if_pos (by omega)]
    by_cases c : 0 ≤ at_
    · rw [if_pos c, if_pos c, w64 (n := at_ + 1) (by omega) (by omega), sSeek h hn (by omega) (by omega) (by omega), w64 (n := i + 1) (by omega) (by omega)]
      have hb := impl_holidaysOf.seekV_bd h (n := at_ + 1) (by omega) (by omega)
      refine ih k _ (i + 1) (by omega) (by omega) (by omega) ?_ ?_
      · rcases hb with hb | hb <;> omega
      · rcases hb with hb | hb <;> omega
    · rw [if_neg c, if_neg c]
theorem sAddB (h : List Int) (n m : Int) (hn : h.length ≤ 1048576) {k : Nat} (hk : 3000000 < k) : spec_AddBusiness.f k h n m = some (impl_AddBusiness.v h n m) := by
  obtain ⟨k, rfl⟩ : ∃ m, k = m + 1 := ⟨k - 1, by omega⟩
  unfold spec_AddBusiness.f impl_AddBusiness.v
  rw [sHol h hn (by omega), inR, inR]
  simp only [Option.bind_some, spec_AddBusiness.j0]
  by_cases h1 : impl_holidaysOf.okH h = true
  · have hl := ((okH_iff h).1 h1).1
    rw [if_pos h1]
    by_cases h2 : 0 ≤ n ∧ n ≤ 36524
    · rw [if_pos (decide_eq_true h2)]
      by_cases h3 : 0 ≤ m ∧ m ≤ 30
      · rw [if_neg (by simp [h3]), sSeek h hl h2.1 (by omega) (by omega), if_pos ⟨h1, h2, h3⟩]
        have hb := impl_holidaysOf.seekV_bd h (n := n) (by omega) (by omega)
        simp only [Option.bind_some]
        refine add_l h hl m (by omega) m.toNat k _ 0 (by omega) (by omega) (by omega) ?_ ?_
        · rcases hb with hb | hb <;> omega
        · rcases hb with hb | hb <;> omega
      · rw [if_pos (by simp [h3]), if_neg (fun h => h3 h.2.2)]
    · rw [if_neg (by simp [h2]), if_pos trivial, if_neg (fun h => h2 h.2.1)]
  · rw [if_neg h1, if_pos trivial, if_neg (fun h => h1 h.1)]
theorem add_bd (h : List Int) (d : Nat) : ∀ (at_ : Int), 0 ≤ at_ → at_ ≤ 36524 → impl_holidaysOf.bus h at_ = true → impl_AddBusiness.addV h d at_ = -1 ∨ (at_ ≤ impl_AddBusiness.addV h d at_ ∧ impl_AddBusiness.addV h d at_ ≤ 36524 ∧ impl_holidaysOf.bus h (impl_AddBusiness.addV h d at_) = true) := by
  induction d with
  | zero => exact fun at_ _ h1 hb => .inr ⟨Int.le_refl _, h1, hb⟩
  | succ d ih =>
    intro at_ h0 h1 hb
    simp only [impl_AddBusiness.addV]
    rw [if_pos h0]
    rcases impl_holidaysOf.seekV_bd h (n := at_ + 1) (by omega) (by omega) with h2 | h2
    · rw [h2]
      left
      cases d with
      | zero => rfl
      | succ d => rfl
    · rcases ih _ (by omega) h2.2.1 h2.2.2 with h3 | h3
      · exact .inl h3
      · exact .inr ⟨by omega, h3.2⟩
theorem v_bd (h : List Int) (n m : Int) : impl_AddBusiness.v h n m = -1 ∨ (impl_holidaysOf.okH h = true ∧ 0 ≤ n ∧ n ≤ impl_AddBusiness.v h n m ∧ impl_AddBusiness.v h n m ≤ 36524 ∧ impl_holidaysOf.bus h (impl_AddBusiness.v h n m) = true) := by
  unfold impl_AddBusiness.v
  by_cases c : impl_holidaysOf.okH h = true ∧ (0 ≤ n ∧ n ≤ 36524) ∧ (0 ≤ m ∧ m ≤ 30)
  · rw [if_pos c]
    rcases impl_holidaysOf.seekV_bd h (n := n) (by omega) (by omega) with h2 | h2
    · rw [h2]
      left
      cases m.toNat with
      | zero => rfl
      | succ d => rfl
    · rcases add_bd h m.toNat _ (by omega) h2.2.1 h2.2.2 with h3 | h3
      · exact .inl h3
      · exact .inr ⟨c.1, c.2.1.1, by omega, h3.2⟩
  · rw [if_neg c]
    exact .inl rfl

theorem take_setI (ys : List Int) (y : Int) {i : Nat} (h : i < ys.length) : (ys.set i y).take (i + 1) = ys.take i ++ [y] := by
  rw [List.take_succ_eq_append_getElem (by simpa using h), List.take_set_of_le (Nat.le_refl i)]
  simp
theorem toIntS_l (xs : List Int) (hn : xs.length ≤ 4611686018427387904) (d : Nat) : ∀ (k i : Nat) (ys : List Int), i + d = xs.length → d < k → ys.length = xs.length → ys.take i = xs.take i →
    laws_toIntS.l0 k xs ys (i : Int) = some xs := by
  induction d with
  | zero =>
    intro k i ys hi hk hl ht
    obtain ⟨k, rfl⟩ : ∃ m, k = m + 1 := ⟨k - 1, by omega⟩
    simp only [laws_toIntS.l0]
    rw [List.take_of_length_le (by omega), List.take_of_length_le (by omega)] at ht
    rw [if_neg (by omega), ht]
  | succ d ih =>
    intro k i ys hi hk hl ht
    obtain ⟨k, rfl⟩ : ∃ m, k = m + 1 := ⟨k - 1, by omega⟩
    have hlt : i < xs.length := by omega
    simp only [laws_toIntS.l0]
    rw [if_pos (by omega), if_pos (by omega), if_pos (by omega), rdI xs hlt, step1 hlt hn, Int.toNat_natCast]
    refine ih k (i + 1) _ (by omega) (by omega) (by simpa using hl) ?_
    rw [take_setI _ _ (by omega), ht, List.take_succ_eq_append_getElem hlt]
theorem toIntS (xs : List Int) (hn : xs.length ≤ 1048576) {k : Nat} (hk : 1048577 < k) : laws_toIntS.f k xs = some xs := by
  unfold laws_toIntS.f
  rw [if_pos (by omega), if_pos (by omega), Int.toNat_natCast]
  exact toIntS_l xs (by omega) xs.length k 0 _ (by omega) (by omega) (by simp) (by simp)

theorem eqIntS_l (xs : List Int) (hn : xs.length ≤ 4611686018427387904) (d : Nat) : ∀ (k i : Nat), i + d = xs.length → d < k → laws_eqIntS.l0 k xs xs (i : Int) = some true := by
  induction d with
  | zero =>
    intro k i hi hk
    obtain ⟨k, rfl⟩ : ∃ m, k = m + 1 := ⟨k - 1, by omega⟩
    simp only [laws_eqIntS.l0]
    rw [if_neg (by omega)]
  | succ d ih =>
    intro k i hi hk
    obtain ⟨k, rfl⟩ : ∃ m, k = m + 1 := ⟨k - 1, by omega⟩
    have hlt : i < xs.length := by omega
    simp only [laws_eqIntS.l0]
    rw [if_pos (by omega), if_pos (by omega), if_pos (by omega), if_pos trivial, step1 hlt hn, ih k (i + 1) (by omega) (by omega)]
theorem eqIntS (xs : List Int) (hn : xs.length ≤ 4611686018427387904) {k : Nat} (hk : xs.length < k) : laws_eqIntS.f k xs xs = some true := by
  unfold laws_eqIntS.f
  rw [if_pos rfl]
  exact eqIntS_l xs hn xs.length k 0 (by omega) (by omega)

end FnExactSettleDayLaw
open FnExactSettleDayLaw

theorem FnExactSettleDay : ∀ (l0 : List Int) (a1 : Int) (a2 : Int), l0.length ≤ maxLen → (∀ x ∈ l0, (Lit.int .i64 x).wf = true) → (Lit.int .i64 a1).wf = true → (Lit.int .i64 a2).wf = true → ∃ k, laws_FnExactSettleDay.f k l0 a1 a2 = some true := by
  intro h n m _ _ _ _
  have hk : ∃ k, 3000000 < k := ⟨3000001, by omega⟩
  obtain ⟨k, hk⟩ := hk
  refine ⟨k, ?_⟩
  unfold laws_FnExactSettleDay.f
  by_cases he : (h.length : Int) > 1048576
  · rw [if_pos he]
  · rw [if_neg he, toIntS h (by omega) (by omega)]
    unfold spec_SettleDay.f impl_SettleDay.f impl_AddBusiness.f
    simp only [Option.bind_some]
    rw [sAddB h n m (by omega) hk]
    simp only [Option.bind_some, if_true]
    rw [eqIntS h (by omega) (by omega)]
    simp only [Option.bind_some, if_true]

end Go.Proofs.Ytgdjckehmlliaaa.Pure

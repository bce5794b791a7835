/- What the printed functions of FnExactCashAt compute is true at every input. Conditions: none beyond the arguments' kinds. -/
import Derived.Test.YtmdhfmcnjdnkfaaGFnExactCashAtx2
import Derived.OpenShut
namespace Go.Proofs.Ytmdhfmcnjdnkfaa.Pure
open Go.RowKit Go.Proofs.Ytmdhfmcnjdnkfaa.PFnExactCashAt Go.Proofs.YtmdhfmcnjdnkfaaW.PrintWords Go.Proofs.YtmdhfmcnjdnkfaaW.PrintLast Go.Proofs.YtmdhfmcnjdnkfaaW.PrintMore
set_option linter.unusedVariables false
set_option linter.unusedSimpArgs false

namespace FnExactCashAtLaw
theorem rdF (xs : List S29) {i : Nat} (h : i < xs.length) : rd_T29 xs (i : Int) = xs[i] := by
  unfold rd_T29
  rw [List.getD_eq_getElem?_getD, Int.toNat_natCast, List.getElem?_eq_getElem h]
  rfl

theorem w64 {n : Int} (h1 : -9223372036854775808 ≤ n) (h2 : n ≤ 9223372036854775807) : wrap64 n = n := by
  unfold wrap64
  omega

/-- What payments till a day add. -/
def cash (xs : List S29) (day : Int) : Nat → Int
  | 0 => 0
  | i + 1 => cash xs day i + (if (rd_T29 xs (i : Int)).f0 ≤ day then (rd_T29 xs (i : Int)).f1 else 0)
theorem flows_of {xs : List S29} (h : impl_flowsValid.v xs = true) : xs.length ≤ 60 ∧ ∀ p ∈ xs, (0 ≤ p.f0 ∧ p.f0 ≤ 36524) ∧ (-1000000000 ≤ p.f1 ∧ p.f1 ≤ 1000000000) := by
  unfold impl_flowsValid.v impl_flowsValid.okF at h
  simp only [Bool.and_eq_true, decide_eq_true_eq, List.all_eq_true] at h
  exact h
theorem cash_bd {xs : List S29} (h : impl_flowsValid.v xs = true) (day : Int) : ∀ i, i ≤ xs.length → -1000000000 * (i : Int) ≤ cash xs day i ∧ cash xs day i ≤ 1000000000 * (i : Int) := by
  have hv := flows_of h
  intro i
  induction i with
  | zero => exact fun _ => ⟨by simp [cash], by simp [cash]⟩
  | succ i ih =>
    intro hi
    have h1 := ih (by omega)
    have h2 := (hv.2 _ (List.getElem_mem (show i < xs.length by omega))).2
    simp only [cash]
    rw [rdF xs (by omega)]
    split <;> omega
def cashAt (xs : List S29) (a day : Int) : Int × Bool := if impl_flowsValid.v xs = true ∧ (-1000000000 ≤ a ∧ a ≤ 1000000000) then (a + cash xs day xs.length, true) else (0, false)

theorem step1 {i n : Nat} (h : i < n) (hn : n ≤ 4611686018427387904) : wrap64 ((i : Int) + 1) = ((i + 1 : Nat) : Int) := by
  rw [w64 (by omega) (by omega)]
  omega

theorem inR (a l h : Int) : spec_inRange.f a l h = some (decide (l ≤ a ∧ a ≤ h)) := by
  unfold spec_inRange.f
  split <;> simp only [true_and, false_and, decide_false, *]

theorem sFlows_l (xs : List S29) (hn : xs.length ≤ 4611686018427387904) (d : Nat) : ∀ (k i : Nat), i + d = xs.length → d < k →
    spec_validFlows.l0 k xs (i : Int) = some ((xs.drop i).all impl_flowsValid.okF && decide (xs.length ≤ 60)) := by
  induction d with
  | zero =>
    intro k i hi hk
    obtain ⟨k, rfl⟩ : ∃ m, k = m + 1 := ⟨k - 1, by omega⟩
    simp only [spec_validFlows.l0]
    rw [if_neg (by omega), List.drop_of_length_le (by omega)]
    simp only [List.all_nil, Bool.true_and, Option.some.injEq, decide_eq_decide]
    omega
  | succ d ih =>
    intro k i hi hk
    obtain ⟨k, rfl⟩ : ∃ m, k = m + 1 := ⟨k - 1, by omega⟩
    have hlt : i < xs.length := by omega
    have e1 : ∀ p : S29, impl_flowsValid.okF p = (decide (0 ≤ p.f0 ∧ p.f0 ≤ 36524) && decide (-1000000000 ≤ p.f1 ∧ p.f1 ≤ 1000000000)) := fun _ => rfl
    simp only [spec_validFlows.l0]
    rw [if_pos (by omega), if_pos (by omega), step1 hlt hn, ih k (i + 1) (by omega) (by omega), inR, inR, rdF xs hlt, List.drop_eq_getElem_cons hlt, List.all_cons, e1]
    simp only [Option.bind_some]
    cases decide (0 ≤ xs[i].f0 ∧ xs[i].f0 ≤ 36524) <;> cases decide (-1000000000 ≤ xs[i].f1 ∧ xs[i].f1 ≤ 1000000000) <;> simp
theorem sFlows (xs : List S29) (hn : xs.length ≤ 4611686018427387904) {k : Nat} (hk : xs.length < k) : spec_validFlows.f k xs = some (impl_flowsValid.v xs) := by
  unfold spec_validFlows.f impl_flowsValid.v
  have := sFlows_l xs hn xs.length k 0 (by omega) (by omega)
  rw [Bool.and_comm]
  simpa using this

theorem sUntil_l {xs : List S29} (h : impl_flowsValid.v xs = true) (day : Int) (d : Nat) : ∀ (k i : Nat), i + d = xs.length → d < k → spec_sumUntil.l0 k xs day (cash xs day i) (i : Int) = some (cash xs day xs.length) := by
  have hv := flows_of h
  induction d with
  | zero =>
    intro k i hi hk
    obtain ⟨k, rfl⟩ : ∃ m, k = m + 1 := ⟨k - 1, by omega⟩
    obtain rfl : i = xs.length := by omega
    simp only [spec_sumUntil.l0]
    rw [if_neg (by omega)]
  | succ d ih =>
    intro k i hi hk
    obtain ⟨k, rfl⟩ : ∃ m, k = m + 1 := ⟨k - 1, by omega⟩
    have hlt : i < xs.length := by omega
    have hb := cash_bd h day (i + 1) (by omega)
    have ih2 := ih k (i + 1) (by omega) (by omega)
    simp only [cash] at hb ih2
    simp only [spec_sumUntil.l0]
    rw [if_pos (by omega), if_pos (by omega), step1 hlt (by omega)]
    by_cases c : (rd_T29 xs (i : Int)).f0 ≤ day
    · rw [if_pos c] at hb ih2 ⊢
      rw [w64 (by omega) (by omega)]
      exact ih2
    · rw [if_neg c] at hb ih2 ⊢
      rw [Int.add_zero] at ih2
      exact ih2
theorem sCash (xs : List S29) (a day : Int) (hn : xs.length ≤ 1048576) {k : Nat} (hk : 1048577 < k) : spec_CashAt.f k xs a day = some (cashAt xs a day) := by
  unfold spec_CashAt.f cashAt
  rw [sFlows xs (by omega) (by omega), inR]
  simp only [Option.bind_some, decide_eq_true_eq]
  by_cases h : impl_flowsValid.v xs = true
  · have hv := flows_of h
    rw [if_pos h]
    by_cases c : -1000000000 ≤ a ∧ a ≤ 1000000000
    · have hb := cash_bd h day xs.length (Nat.le_refl _)
      have := sUntil_l h day xs.length k 0 (by omega) (by omega)
      simp only [cash] at this
      rw [show ((0 : Nat) : Int) = 0 from rfl] at this
      rw [if_pos c, if_pos (⟨h, c⟩ : impl_flowsValid.v xs = true ∧ (-1000000000 ≤ a ∧ a ≤ 1000000000))]
      unfold spec_sumUntil.f
      rw [this]
      simp only [Option.bind_some]
      rw [w64 (by omega) (by omega)]
    · rw [if_neg c, if_neg (fun x => c x.2)]
  · rw [if_neg h, if_neg (fun x => h x.1)]

theorem wi (a l h : Int) : impl_within.f a l h = some (decide (l ≤ a ∧ a ≤ h)) := by
  unfold impl_within.f
  split <;> rename_i hc <;> simp <;> omega

theorem iCash_l {xs : List S29} (h : impl_flowsValid.v xs = true) {a : Int} (ha : -1000000000 ≤ a ∧ a ≤ 1000000000) (day : Int) (d : Nat) : ∀ (k i : Nat), i + d = xs.length → d < k → impl_CashAt.l0 k (a + cash xs day i) day xs (xs.length : Int) (i : Int) = some (a + cash xs day xs.length, true) := by
  have hv := flows_of h
  induction d with
  | zero =>
    intro k i hi hk
    obtain ⟨k, rfl⟩ : ∃ m, k = m + 1 := ⟨k - 1, by omega⟩
    obtain rfl : i = xs.length := by omega
    simp only [impl_CashAt.l0]
    rw [if_neg (by omega)]
  | succ d ih =>
    intro k i hi hk
    obtain ⟨k, rfl⟩ : ∃ m, k = m + 1 := ⟨k - 1, by omega⟩
    have hlt : i < xs.length := by omega
    have hb := cash_bd h day (i + 1) (by omega)
    have ih2 := ih k (i + 1) (by omega) (by omega)
    simp only [cash] at hb ih2
    simp only [impl_CashAt.l0]
    rw [if_pos (by omega), if_pos (by omega), if_pos (by omega), step1 hlt (by omega)]
    by_cases c : (rd_T29 xs (i : Int)).f0 ≤ day
    · rw [if_pos c] at hb ih2 ⊢
      rw [w64 (by omega) (by omega), Int.add_assoc]
      exact ih2
    · rw [if_neg c] at hb ih2 ⊢
      rw [Int.add_zero] at ih2
      exact ih2
theorem iCash (xs : List S29) (a day : Int) {k : Nat} (hk : 62 < k) : impl_CashAt.f k xs a day = some (cashAt xs a day) := by
  unfold impl_CashAt.f cashAt impl_flowsValid.f impl_amountValid.f
  rw [wi]
  simp only [Option.bind_some]
  obtain ⟨k, rfl⟩ : ∃ m, k = m + 1 := ⟨k - 1, by omega⟩
  simp only [impl_CashAt.j0]
  by_cases h : impl_flowsValid.v xs = true
  · have hv := flows_of h
    rw [if_pos h]
    by_cases c : -1000000000 ≤ a ∧ a ≤ 1000000000
    · have := iCash_l h c day xs.length k 0 (by omega) (by omega)
      simp only [cash, Int.add_zero] at this
      rw [show ((0 : Nat) : Int) = 0 from rfl] at this
      rw [decide_eq_true c, if_pos (⟨h, c⟩ : impl_flowsValid.v xs = true ∧ (-1000000000 ≤ a ∧ a ≤ 1000000000))]
      exact this
    · rw [decide_eq_false c, if_pos (show (!false) = true from rfl), if_neg (fun x => c x.2)]
  · rw [if_neg h, if_pos trivial, if_neg (fun x => h x.1)]

theorem rdLF (xs : List S54) {i : Nat} (h : i < xs.length) : rd_T54 xs (i : Int) = xs[i] := by
  unfold rd_T54
  rw [List.getD_eq_getElem?_getD, Int.toNat_natCast, List.getElem?_eq_getElem h]
  rfl
def cFlow (p : S54) : S29 := ⟨p.f0, p.f1⟩
theorem take_setF {α : Type} (ys : List α) (i : Nat) (h : i < ys.length) (v : α) : (ys.set i v).take (i + 1) = ys.take i ++ [v] := by
  rw [List.take_succ_eq_append_getElem (by simpa using h), List.take_set_of_le (Nat.le_refl i)]
  simp
theorem toFlowS_l (xs : List S54) (hn : xs.length ≤ 4611686018427387904) (d : Nat) : ∀ (k i : Nat) (ys : List S29), i + d = xs.length → d < k → ys.length = xs.length → ys.take i = (xs.take i).map cFlow →
    laws_toFlowS.l0 k xs ys (i : Int) = some (xs.map cFlow) := by
  induction d with
  | zero =>
    intro k i ys hi hk hl ht
    obtain ⟨k, rfl⟩ : ∃ m, k = m + 1 := ⟨k - 1, by omega⟩
    simp only [laws_toFlowS.l0]
    rw [List.take_of_length_le (by omega), List.take_of_length_le (by omega)] at ht
    rw [if_neg (by omega), ht]
  | succ d ih =>
    intro k i ys hi hk hl ht
    obtain ⟨k, rfl⟩ : ∃ m, k = m + 1 := ⟨k - 1, by omega⟩
    have hlt : i < xs.length := by omega
    simp only [laws_toFlowS.l0]
    rw [if_pos (by omega), if_pos (by omega), rdLF xs hlt]
    unfold laws_toFlow.f
    simp only [Option.bind_some]
    rw [if_pos (by omega), step1 hlt hn, Int.toNat_natCast]
    refine ih k (i + 1) _ (by omega) (by omega) (by simpa using hl) ?_
    rw [take_setF _ _ (by omega), ht, List.take_succ_eq_append_getElem hlt, List.map_append]
    rfl
theorem toFlowS (xs : List S54) (hn : xs.length ≤ 1048576) {k : Nat} (hk : 1048577 < k) : laws_toFlowS.f k xs = some (xs.map cFlow) := by
  unfold laws_toFlowS.f
  rw [if_pos (by omega), if_pos (by omega), Int.toNat_natCast]
  exact toFlowS_l xs (by omega) xs.length k 0 _ (by omega) (by omega) (by simp) (by simp)

theorem eqFlowS_l (xs : List S29) (hn : xs.length ≤ 4611686018427387904) (d : Nat) : ∀ (k i : Nat), i + d = xs.length → d < k → laws_eqFlowS.l0 k xs xs (i : Int) = some true := by
  induction d with
  | zero =>
    intro k i hi hk
    obtain ⟨k, rfl⟩ : ∃ m, k = m + 1 := ⟨k - 1, by omega⟩
    simp only [laws_eqFlowS.l0]
    rw [if_neg (by omega)]
  | succ d ih =>
    intro k i hi hk
    obtain ⟨k, rfl⟩ : ∃ m, k = m + 1 := ⟨k - 1, by omega⟩
    have hlt : i < xs.length := by omega
    simp only [laws_eqFlowS.l0]
    rw [if_pos (by omega), if_pos (by omega), if_pos (by omega), step1 hlt hn, ih k (i + 1) (by omega) (by omega)]
    simp [laws_eqFlow.f]
theorem eqFlowS (xs : List S29) (hn : xs.length ≤ 4611686018427387904) {k : Nat} (hk : xs.length < k) : laws_eqFlowS.f k xs xs = some true := by
  unfold laws_eqFlowS.f
  rw [if_pos rfl]
  exact eqFlowS_l xs hn xs.length k 0 (by omega) (by omega)

theorem szFlowS (xs : List S54) (hm : xs.length ≤ maxLen) : ∃ n, laws_szFlowS.f xs 1048576 = some n ∧ (¬ n < 0 → xs.length ≤ 1048576) := by
  unfold laws_szFlowS.f
  unfold maxLen at hm
  rw [w64 (by omega) (by omega)]
  by_cases h : (1048576 : Int) - (xs.length : Int) < 0
  · rw [if_pos h]
    exact ⟨-1, rfl, fun h2 => absurd (by decide) h2⟩
  · rw [if_neg h]
    exact ⟨_, rfl, fun _ => by omega⟩

end FnExactCashAtLaw
open FnExactCashAtLaw

theorem FnExactCashAt : ∀ (l0 : List S54) (a1 : Int) (a2 : Int), l0.length ≤ maxLen → (Lit.int .i64 a1).wf = true → (Lit.int .i64 a2).wf = true → ∃ k, laws_FnExactCashAt.f k l0 a1 a2 = some true := by
  intro l a b hm ha hb
  refine ⟨1048700, ?_⟩
  unfold laws_FnExactCashAt.f
  obtain ⟨n, hs, hn⟩ := szFlowS l hm
  rw [hs]
  simp only [Option.bind_some]
  by_cases h : n < 0
  · rw [if_pos h]
  · have hl := hn h
    rw [if_neg h, toFlowS l hl (by omega)]
    simp only [Option.bind_some]
    rw [sCash _ a b (by simp; omega) (by omega), iCash _ a b (by omega)]
    simp only [Option.bind_some, if_true, bne_self_eq_false, laws_FnExactCashAt.j0]
    rw [toFlowS l hl (by omega)]
    simp only [Option.bind_some]
    rw [eqFlowS _ (by simp; omega) (by simp; omega)]
    rfl

end Go.Proofs.Ytmdhfmcnjdnkfaa.Pure

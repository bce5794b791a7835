/- What the printed functions of FnExactBalanceOf compute is true at every input. Conditions: none beyond the arguments' kinds. -/
import Derived.Test.YtmccplnkagfecaaGFnExactBalanceOfx4
import Derived.OpenShut
namespace Go.Proofs.Ytmccplnkagfecaa.Pure
open Go.RowKit Go.Proofs.Ytmccplnkagfecaa.PFnExactBalanceOf Go.Proofs.YtmccplnkagfecaaW.PrintWords Go.Proofs.YtmccplnkagfecaaW.PrintLast Go.Proofs.YtmccplnkagfecaaW.PrintMore
set_option linter.unusedVariables false
set_option linter.unusedSimpArgs false

namespace FnExactBalanceOfLaw
/-- What a valid posting is. -/
def okPost (p : S27) : Bool := decide ((0 ≤ p.f0 ∧ p.f0 ≤ 5) ∧ (0 ≤ p.f1 ∧ p.f1 ≤ 5) ∧ p.f0 ≠ p.f1 ∧ 1 ≤ p.f2 ∧ p.f2 ≤ 1000000000)
def vPosts (xs : List S27) : Bool := decide (xs.length ≤ 40) && xs.all okPost

theorem okSame : impl_BalanceOf.okPost = okPost := rfl
/-- A balance, of whatever postings. -/
def balV (xs : List S27) (a : Int) : Int := if vPosts xs = true then impl_BalanceOf.bal xs a else 0
theorem vPosts_of {xs : List S27} (h : vPosts xs = true) : xs.length ≤ 40 ∧ ∀ p ∈ xs, okPost p = true := by
  unfold vPosts at h
  simp only [Bool.and_eq_true, decide_eq_true_eq, List.all_eq_true] at h
  exact h
theorem ok_of {p : S27} (h : okPost p = true) : (0 ≤ p.f0 ∧ p.f0 ≤ 5) ∧ (0 ≤ p.f1 ∧ p.f1 ≤ 5) ∧ p.f0 ≠ p.f1 ∧ 1 ≤ p.f2 ∧ p.f2 ≤ 1000000000 := of_decide_eq_true h
theorem bal_bd {xs : List S27} (h : vPosts xs = true) (a : Int) (i : Nat) (hi : i ≤ xs.length) : -(1000000000 * (i : Int)) ≤ impl_BalanceOf.bal (xs.take i) a ∧ impl_BalanceOf.bal (xs.take i) a ≤ 1000000000 * (i : Int) :=
  impl_BalanceOf.bal_bd xs (fun p hp => (vPosts_of h).2 p hp) a i hi

theorem w64 {n : Int} (h1 : -9223372036854775808 ≤ n) (h2 : n ≤ 9223372036854775807) : wrap64 n = n := by
  unfold wrap64
  omega

theorem step1 {i n : Nat} (h : i < n) (hn : n ≤ 4611686018427387904) : wrap64 ((i : Int) + 1) = ((i + 1 : Nat) : Int) := by
  rw [w64 (by omega) (by omega)]
  omega

theorem rd27 (xs : List S27) {i : Nat} (h : i < xs.length) : rd_T27 xs (i : Int) = xs[i] := by
  unfold rd_T27
  rw [List.getD_eq_getElem?_getD, Int.toNat_natCast, List.getElem?_eq_getElem h]
  rfl

theorem wi (a l h : Int) : impl_within.f a l h = some (decide (l ≤ a ∧ a ≤ h)) := by
  unfold impl_within.f
  split <;> rename_i hc <;> simp <;> omega

theorem iAcc (n : Int) : impl_accountValid.f n = some (decide (0 ≤ n ∧ n ≤ 5)) := by
  unfold impl_accountValid.f
  rw [wi]
  rfl

theorem iPosts_l (xs : List S27) (hn : xs.length ≤ 4611686018427387904) (d : Nat) : ∀ (k i : Nat), i + d = xs.length → d < k → impl_ValidPosts.l0 k xs (xs.length : Int) (i : Int) = some ((xs.drop i).all okPost) := by
  induction d with
  | zero =>
    intro k i hi hk
    obtain ⟨k, rfl⟩ : ∃ m, k = m + 1 := ⟨k - 1, by omega⟩
    simp only [impl_ValidPosts.l0]
    rw [if_neg (by omega), List.drop_eq_nil_of_le (by omega)]
    rfl
  | succ d ih =>
    intro k i hi hk
    obtain ⟨k, rfl⟩ : ∃ m, k = m + 1 := ⟨k - 1, by omega⟩
    have hlt : i < xs.length := by omega
    simp only [impl_ValidPosts.l0]
    rw [if_pos (by omega), if_pos (by omega), if_pos (by omega), rd27 xs hlt, List.drop_eq_getElem_cons hlt, step1 hlt hn, ih k (i + 1) (by omega) (by omega), iAcc, iAcc, wi]
    simp only [Option.bind_some, List.all_cons, decide_eq_true_eq]
    generalize xs[i] = p
    have e : okPost p = decide ((0 ≤ p.f0 ∧ p.f0 ≤ 5) ∧ (0 ≤ p.f1 ∧ p.f1 ≤ 5) ∧ p.f0 ≠ p.f1 ∧ 1 ≤ p.f2 ∧ p.f2 ≤ 1000000000) := rfl
    by_cases h1 : 0 ≤ p.f0 ∧ p.f0 ≤ 5
    · by_cases h2 : 0 ≤ p.f1 ∧ p.f1 ≤ 5
      · by_cases h3 : p.f0 = p.f1
        · rw [if_pos h1, if_pos h2, if_pos h3, e.trans (decide_eq_false (fun h => h.2.2.1 h3))]
          rfl
        · by_cases h4 : 1 ≤ p.f2 ∧ p.f2 ≤ 1000000000
          · rw [if_pos h1, if_pos h2, if_neg h3, if_pos h4, e.trans (decide_eq_true ⟨h1, h2, h3, h4⟩)]
            rfl
          · rw [if_pos h1, if_pos h2, if_neg h3, if_neg h4, e.trans (decide_eq_false (fun h => h4 h.2.2.2))]
            rfl
      · rw [if_pos h1, if_neg h2, e.trans (decide_eq_false (fun h => h2 h.2.1))]
        rfl
    · rw [if_neg h1, e.trans (decide_eq_false (fun h => h1 h.1))]
      rfl
theorem iPosts (xs : List S27) {k : Nat} (hk : 41 < k) : impl_ValidPosts.f k xs = some (vPosts xs) := by
  unfold impl_ValidPosts.f vPosts
  by_cases h : (xs.length : Int) > 40
  · rw [if_pos h, decide_eq_false (by omega)]
    rfl
  · rw [if_neg h, decide_eq_true (by omega)]
    have := iPosts_l xs (by omega) xs.length k 0 (by omega) (by omega)
    simpa using this

theorem iBal (xs : List S27) (a : Int) {k : Nat} (hk : 41 < k) (ha : (Lit.int .i64 a).wf = true) : impl_BalanceOf.f k xs a = some (balV xs a) := by
  unfold impl_BalanceOf.f balV
  rw [iPosts xs hk]
  simp only [Option.bind_some]
  by_cases h : vPosts xs = true
  · have hg : impl_BalanceOf.good xs a = true := by
      unfold impl_BalanceOf.good
      rw [okSame, ha, Bool.and_true]
      exact h
    rw [if_pos h, if_pos hg, if_pos h]
  · rw [if_neg h, if_neg h]

theorem inR (a l h : Int) : spec_inRange.f a l h = some (decide (l ≤ a ∧ a ≤ h)) := by
  unfold spec_inRange.f
  split <;> simp only [true_and, false_and, decide_false, *]

theorem sPosts_l (xs : List S27) (hn : xs.length ≤ 4611686018427387904) (d : Nat) : ∀ (k i : Nat), i + d = xs.length → d < k → spec_validPosts.l0 k xs (i : Int) = some ((xs.drop i).all okPost && decide (xs.length ≤ 40)) := by
  induction d with
  | zero =>
    intro k i hi hk
    obtain ⟨k, rfl⟩ : ∃ m, k = m + 1 := ⟨k - 1, by omega⟩
    simp only [spec_validPosts.l0]
    rw [if_neg (by omega), List.drop_eq_nil_of_le (by omega)]
    simp only [List.all_nil, Bool.true_and, Option.some.injEq, decide_eq_decide]
    omega
  | succ d ih =>
    intro k i hi hk
    obtain ⟨k, rfl⟩ : ∃ m, k = m + 1 := ⟨k - 1, by omega⟩
    have hlt : i < xs.length := by omega
    simp only [spec_validPosts.l0]
    rw [if_pos (by omega), if_pos (by omega), rd27 xs hlt, List.drop_eq_getElem_cons hlt, step1 hlt hn, ih k (i + 1) (by omega) (by omega), inR, inR, inR]
    simp only [Option.bind_some, List.all_cons, decide_eq_true_eq]
    generalize xs[i] = p
    have e : okPost p = decide ((0 ≤ p.f0 ∧ p.f0 ≤ 5) ∧ (0 ≤ p.f1 ∧ p.f1 ≤ 5) ∧ p.f0 ≠ p.f1 ∧ 1 ≤ p.f2 ∧ p.f2 ≤ 1000000000) := rfl
    by_cases h1 : 0 ≤ p.f0 ∧ p.f0 ≤ 5
    · by_cases h2 : 0 ≤ p.f1 ∧ p.f1 ≤ 5
      · by_cases h3 : p.f0 = p.f1
        · rw [if_pos h1, if_pos h2, if_pos h3, e.trans (decide_eq_false (fun h => h.2.2.1 h3))]
          rfl
        · by_cases h4 : 1 ≤ p.f2 ∧ p.f2 ≤ 1000000000
          · rw [if_pos h1, if_pos h2, if_neg h3, if_pos h4, e.trans (decide_eq_true ⟨h1, h2, h3, h4⟩)]
            rfl
          · rw [if_pos h1, if_pos h2, if_neg h3, if_neg h4, e.trans (decide_eq_false (fun h => h4 h.2.2.2))]
            rfl
      · rw [if_pos h1, if_neg h2, e.trans (decide_eq_false (fun h => h2 h.2.1))]
        rfl
    · rw [if_neg h1, e.trans (decide_eq_false (fun h => h1 h.1))]
      rfl
theorem sPosts (xs : List S27) (hn : xs.length ≤ 4611686018427387904) {k : Nat} (hk : xs.length < k) : spec_validPosts.f k xs = some (vPosts xs) := by
  unfold spec_validPosts.f vPosts
  have := sPosts_l xs hn xs.length k 0 (by omega) (by omega)
  rw [Bool.and_comm]
  simpa using this

theorem sBal_l (xs : List S27) (a : Int) (hv : vPosts xs = true) (d : Nat) : ∀ (k i : Nat), i + d = xs.length → d < k → spec_balance.l0 k xs a (impl_BalanceOf.bal (xs.take i) a) (i : Int) = some (impl_BalanceOf.bal xs a) := by
  have hl := (vPosts_of hv).1
  induction d with
  | zero =>
    intro k i hi hk
    obtain ⟨k, rfl⟩ : ∃ m, k = m + 1 := ⟨k - 1, by omega⟩
    simp only [spec_balance.l0]
    rw [if_neg (by omega), List.take_of_length_le (by omega)]
  | succ d ih =>
    intro k i hi hk
    obtain ⟨k, rfl⟩ : ∃ m, k = m + 1 := ⟨k - 1, by omega⟩
    have hlt : i < xs.length := by omega
    have hp := ok_of ((vPosts_of hv).2 _ (List.getElem_mem hlt))
    have hb := bal_bd hv a i (by omega)
    have ih2 := ih k (i + 1) (by omega) (by omega)
    simp only [spec_balance.l0]
    rw [if_pos (by omega), if_pos (by omega), rd27 xs hlt, step1 hlt (by omega)]
    rw [List.take_succ_eq_append_getElem hlt, impl_BalanceOf.bal_snoc] at ih2
    generalize xs[i] = p at *
    generalize impl_BalanceOf.bal (xs.take i) a = n at *
    unfold spec_toInt.f
    simp only [beq_iff_eq]
    by_cases h1 : p.f1 = a
    · have h0 : ¬ p.f0 = a := fun h => hp.2.2.1 (h.trans h1.symm)
      rw [if_pos h1, if_neg h0] at ih2 ⊢
      simp only [Option.bind_some]
      rw [w64 (n := 1 - 0) (by omega) (by omega), w64 (n := p.f2 * (1 - 0)) (by omega) (by omega), w64 (n := n + p.f2 * (1 - 0)) (by omega) (by omega)]
      have e : n + p.f2 * (1 - 0) = n - 0 + p.f2 := by omega
      rw [e]
      exact ih2
    · by_cases h0 : p.f0 = a
      · rw [if_neg h1, if_pos h0] at ih2 ⊢
        simp only [Option.bind_some]
        rw [w64 (n := 0 - 1) (by omega) (by omega), w64 (n := p.f2 * (0 - 1)) (by omega) (by omega), w64 (n := n + p.f2 * (0 - 1)) (by omega) (by omega)]
        have e : n + p.f2 * (0 - 1) = n - p.f2 + 0 := by omega
        rw [e]
        exact ih2
      · rw [if_neg h1, if_neg h0] at ih2 ⊢
        simp only [Option.bind_some]
        rw [w64 (n := 0 - 0) (by omega) (by omega), w64 (n := p.f2 * (0 - 0)) (by omega) (by omega), w64 (n := n + p.f2 * (0 - 0)) (by omega) (by omega)]
        have e : n + p.f2 * (0 - 0) = n - 0 + 0 := by omega
        rw [e]
        exact ih2
theorem sBal (xs : List S27) (hn : xs.length ≤ 4611686018427387904) (a : Int) {k : Nat} (hk : xs.length < k) : spec_BalanceOf.f k xs a = some (balV xs a) := by
  unfold spec_BalanceOf.f balV spec_balance.f
  rw [sPosts xs hn hk]
  simp only [Option.bind_some]
  by_cases h : vPosts xs = true
  · have := sBal_l xs a h xs.length k 0 (by omega) (by omega)
    rw [List.take_zero] at this
    have e : impl_BalanceOf.bal [] a = 0 := rfl
    have e2 : ((0 : Nat) : Int) = 0 := rfl
    rw [e, e2] at this
    rw [if_pos h, if_pos h, this]
    rfl
  · rw [if_neg h, if_neg h]

theorem rd69 (xs : List S46) {i : Nat} (h : i < xs.length) : rd_T46 xs (i : Int) = xs[i] := by
  unfold rd_T46
  rw [List.getD_eq_getElem?_getD, Int.toNat_natCast, List.getElem?_eq_getElem h]
  rfl
def cPost (p : S46) : S27 := ⟨p.f0, p.f1, p.f2⟩
theorem take_set {α : Type} (ys : List α) (i : Nat) (h : i < ys.length) (v : α) : (ys.set i v).take (i + 1) = ys.take i ++ [v] := by
  rw [List.take_succ_eq_append_getElem (by simpa using h), List.take_set_of_le (Nat.le_refl i)]
  simp
theorem toPostS_l (xs : List S46) (hn : xs.length ≤ 4611686018427387904) (d : Nat) : ∀ (k i : Nat) (ys : List S27), i + d = xs.length → d < k → ys.length = xs.length → ys.take i = (xs.take i).map cPost →
    laws_toPostS.l0 k xs ys (i : Int) = some (xs.map cPost) := by
  induction d with
  | zero =>
    intro k i ys hi hk hl ht
    obtain ⟨k, rfl⟩ : ∃ m, k = m + 1 := ⟨k - 1, by omega⟩
    simp only [laws_toPostS.l0]
    rw [List.take_of_length_le (by omega), List.take_of_length_le (by omega)] at ht
    rw [if_neg (by omega), ht]
  | succ d ih =>
    intro k i ys hi hk hl ht
    obtain ⟨k, rfl⟩ : ∃ m, k = m + 1 := ⟨k - 1, by omega⟩
    have hlt : i < xs.length := by omega
    simp only [laws_toPostS.l0]
    rw [if_pos (by omega), if_pos (by omega), rd69 xs hlt]
    unfold laws_toPost.f
    simp only [Option.bind_some]
    rw [if_pos (by omega), step1 hlt hn, Int.toNat_natCast]
    refine ih k (i + 1) _ (by omega) (by omega) (by simpa using hl) ?_
    rw [take_set _ _ (by omega), ht, List.take_succ_eq_append_getElem hlt, List.map_append]
    rfl
theorem toPostS (xs : List S46) (hn : xs.length ≤ 1048576) {k : Nat} (hk : 1048577 < k) : laws_toPostS.f k xs = some (xs.map cPost) := by
  unfold laws_toPostS.f
  rw [if_pos (by omega), if_pos (by omega), Int.toNat_natCast]
  exact toPostS_l xs (by omega) xs.length k 0 _ (by omega) (by omega) (by simp) (by simp)

theorem eqPostS_l (xs : List S27) (hn : xs.length ≤ 4611686018427387904) (d : Nat) : ∀ (k i : Nat), i + d = xs.length → d < k → laws_eqPostS.l0 k xs xs (i : Int) = some true := by
  induction d with
  | zero =>
    intro k i hi hk
    obtain ⟨k, rfl⟩ : ∃ m, k = m + 1 := ⟨k - 1, by omega⟩
    simp only [laws_eqPostS.l0]
    rw [if_neg (by omega)]
  | succ d ih =>
    intro k i hi hk
    obtain ⟨k, rfl⟩ : ∃ m, k = m + 1 := ⟨k - 1, by omega⟩
    have hlt : i < xs.length := by omega
    simp only [laws_eqPostS.l0]
    rw [if_pos (by omega), if_pos (by omega), if_pos (by omega), step1 hlt hn, ih k (i + 1) (by omega) (by omega)]
    simp [laws_eqPost.f]
theorem eqPostS (xs : List S27) (hn : xs.length ≤ 4611686018427387904) {k : Nat} (hk : xs.length < k) : laws_eqPostS.f k xs xs = some true := by
  unfold laws_eqPostS.f
  rw [if_pos rfl]
  exact eqPostS_l xs hn xs.length k 0 (by omega) (by omega)

theorem szPostS (xs : List S46) (hm : xs.length ≤ maxLen) : ∃ n, laws_szPostS.f xs 1048576 = some n ∧ (¬ n < 0 → xs.length ≤ 1048576) := by
  unfold laws_szPostS.f
  unfold maxLen at hm
  rw [w64 (by omega) (by omega)]
  by_cases h : (1048576 : Int) - (xs.length : Int) < 0
  · rw [if_pos h]
    exact ⟨-1, rfl, fun h2 => absurd (by decide) h2⟩
  · rw [if_neg h]
    exact ⟨_, rfl, fun _ => by omega⟩

end FnExactBalanceOfLaw
open FnExactBalanceOfLaw

theorem FnExactBalanceOf : ∀ (l0 : List S46) (a1 : Int), l0.length ≤ maxLen → (Lit.int .i64 a1).wf = true → ∃ k, laws_FnExactBalanceOf.f k l0 a1 = some true := by
  intro l a hm ha
  refine ⟨1048700, ?_⟩
  unfold laws_FnExactBalanceOf.f
  obtain ⟨n, hs, hn⟩ := szPostS l hm
  rw [hs]
  simp only [Option.bind_some]
  by_cases h : n < 0
  · rw [if_pos h]
  · have hl := hn h
    rw [if_neg h, toPostS l hl (by omega)]
    simp only [Option.bind_some]
    rw [iBal _ a (by omega) ha, sBal _ (by simp; omega) a (by simp; omega)]
    simp only [Option.bind_some, if_true]
    rw [eqPostS _ (by simp; omega) (by simp; omega)]
    rfl

end Go.Proofs.Ytmccplnkagfecaa.Pure

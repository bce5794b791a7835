/- What the printed functions of FnExactValidPosts compute is true at every input. Conditions: none beyond the arguments' kinds. -/
import Derived.Test.YtmccplnkagfecaaPFnExactValidPostsx3
import Derived.OpenShut
namespace Go.Proofs.Ytmccplnkagfecaa.Pure
open Go.RowKit Go.Proofs.Ytmccplnkagfecaa.PFnExactValidPosts Go.Proofs.YtmccplnkagfecaaW.PrintWords Go.Proofs.YtmccplnkagfecaaW.PrintLast Go.Proofs.YtmccplnkagfecaaW.PrintMore
set_option linter.unusedVariables false
set_option linter.unusedSimpArgs false

namespace FnExactValidPostsLaw
theorem w64 {n : Int} (h1 : -9223372036854775808 ≤ n) (h2 : n ≤ 9223372036854775807) : wrap64 n = n := by
  unfold wrap64
  omega

theorem step1 {i n : Nat} (h : i < n) (hn : n ≤ 4611686018427387904) : wrap64 ((i : Int) + 1) = ((i + 1 : Nat) : Int) := by
  rw [w64 (by omega) (by omega)]
  omega

theorem rd27 (xs : List S27) {i : Nat} (h : i < xs.length) : rd_T27 xs (i : Int) = xs[i] := by
  unfold rd_T27
  rw [List.getD_eq_getElem?_getD, Int.toNat_natCast, List.getElem?_eq_getElem h]
  rfl

/-- What a valid posting is. -/
def okPost (p : S27) : Bool := decide ((0 ≤ p.f0 ∧ p.f0 ≤ 5) ∧ (0 ≤ p.f1 ∧ p.f1 ≤ 5) ∧ p.f0 ≠ p.f1 ∧ 1 ≤ p.f2 ∧ p.f2 ≤ 1000000000)
def vPosts (xs : List S27) : Bool := decide (xs.length ≤ 40) && xs.all okPost

theorem wi (a l h : Int) : impl_within.f a l h = some (decide (l ≤ a ∧ a ≤ h)) := by
  unfold impl_within.f
  split <;> rename_i hc <;> simp <;> omega

theorem iAcc (n : Int) : impl_accountValid.f n = some (decide (0 ≤ n ∧ n ≤ 5)) := by
  unfold impl_accountValid.f
  rw [wi]
  rfl

theorem iPosts_l (xs : List S27) (hn : xs.length ≤ 4611686018427387904) (d : Nat) : ∀ (k i : Nat), i + d = xs.length → d < k → impl_ValidPosts.l0 k xs (xs.length : Int) (i : Int) = some ((xs.drop i).all okPost) := by
  induction d with
  | zero =>
    intro k i hi hk
    obtain ⟨k, rfl⟩ : ∃ m, k = m + 1 := ⟨k - 1, by omega⟩
    simp only [impl_ValidPosts.l0]
    rw [if_neg (by omega), List.drop_eq_nil_of_le (by omega)]
    rfl
  | succ d ih =>
    intro k i hi hk
    obtain ⟨k, rfl⟩ : ∃ m, k = m + 1 := ⟨k - 1, by omega⟩
    have hlt : i < xs.length := by omega
    simp only [impl_ValidPosts.l0]
    rw [if_pos (by omega), if_pos (by omega), if_pos (by omega), rd27 xs hlt, List.drop_eq_getElem_cons hlt, step1 hlt hn, ih k (i + 1) (by omega) (by omega), iAcc, iAcc, wi]
    simp only [Option.bind_some, List.all_cons, decide_eq_true_eq]
    generalize xs[i] = p
    have e : okPost p = decide ((0 ≤ p.f0 ∧ p.f0 ≤ 5) ∧ (0 ≤ p.f1 ∧ p.f1 ≤ 5) ∧ p.f0 ≠ p.f1 ∧ 1 ≤ p.f2 ∧ p.f2 ≤ 1000000000) := rfl
    by_cases h1 : 0 ≤ p.f0 ∧ p.f0 ≤ 5
    · by_cases h2 : 0 ≤ p.f1 ∧ p.f1 ≤ 5
      · by_cases h3 : p.f0 = p.f1
        · rw [if_pos h1, if_pos h2, if_pos h3, e.trans (decide_eq_false (fun h => h.2.2.1 h3))]
          rfl
        · by_cases h4 : 1 ≤ p.f2 ∧ p.f2 ≤ 1000000000
          · rw [if_pos h1, if_pos h2, if_neg h3, if_pos h4, e.trans (decide_eq_true ⟨h1, h2, h3, h4⟩)]
            rfl
          · rw [if_pos h1, if_pos h2, if_neg h3, if_neg h4, e.trans (decide_eq_false (fun h => h4 h.2.2.2))]
            rfl
      · rw [if_pos h1, if_neg h2, e.trans (decide_eq_false (fun h => h2 h.2.1))]
        rfl
    · rw [if_neg h1, e.trans (decide_eq_false (fun h => h1 h.1))]
      rfl
theorem iPosts (xs : List S27) {k : Nat} (hk : 41 < k) : impl_ValidPosts.f k xs = some (vPosts xs) := by
  unfold impl_ValidPosts.f vPosts
  by_cases h : (xs.length : Int) > 40
  · rw [if_pos h, decide_eq_false (by omega)]
    rfl
  · rw [if_neg h, decide_eq_true (by omega)]
    have := iPosts_l xs (by omega) xs.length k 0 (by omega) (by omega)
    simpa using this

theorem inR (a l h : Int) : spec_inRange.f a l h = some (decide (l ≤ a ∧ a ≤ h)) := by
  unfold spec_inRange.f
  split <;> simp only [true_and, false_and, decide_false, *]

theorem sPosts_l (xs : List S27) (hn : xs.length ≤ 4611686018427387904) (d : Nat) : ∀ (k i : Nat), i + d = xs.length → d < k → spec_validPosts.l0 k xs (i : Int) = some ((xs.drop i).all okPost && decide (xs.length ≤ 40)) := by
  induction d with
  | zero =>
    intro k i hi hk
    obtain ⟨k, rfl⟩ : ∃ m, k = m + 1 := ⟨k - 1, by omega⟩
    simp only [spec_validPosts.l0]
    rw [if_neg (by omega), List.drop_eq_nil_of_le (by omega)]
    simp only [List.all_nil, Bool.true_and, Option.some.injEq, decide_eq_decide]
    omega
  | succ d ih =>
    intro k i hi hk
    obtain ⟨k, rfl⟩ : ∃ m, k = m + 1 := ⟨k - 1, by omega⟩
    have hlt : i < xs.length := by omega
    simp only [spec_validPosts.l0]
    rw [if_pos (by omega), if_pos (by omega), rd27 xs hlt, List.drop_eq_getElem_cons hlt, step1 hlt hn, ih k (i + 1) (by omega) (by omega), inR, inR, inR]
    simp only [Option.bind_some, List.all_cons, decide_eq_true_eq]
    generalize xs[i] = p
    have e : okPost p = decide ((0 ≤ p.f0 ∧ p.f0 ≤ 5) ∧ (0 ≤ p.f1 ∧ p.f1 ≤ 5) ∧ p.f0 ≠ p.f1 ∧ 1 ≤ p.f2 ∧ p.f2 ≤ 1000000000) := rfl
    by_cases h1 : 0 ≤ p.f0 ∧ p.f0 ≤ 5
    · by_cases h2 : 0 ≤ p.f1 ∧ p.f1 ≤ 5
      · by_cases h3 : p.f0 = p.f1
        · rw [if_pos h1, if_pos h2, if_pos h3, e.trans (decide_eq_false (fun h => h.2.2.1 h3))]
          rfl
        · by_cases h4 : 1 ≤ p.f2 ∧ p.f2 ≤ 1000000000
          · rw [if_pos h1, if_pos h2, if_neg h3, if_pos h4, e.trans (decide_eq_true ⟨h1, h2, h3, h4⟩)]
            rfl
          · rw [if_pos h1, if_pos h2, if_neg h3, if_neg h4, e.trans (decide_eq_false (fun h => h4 h.2.2.2))]
            rfl
      · rw [if_pos h1, if_neg h2, e.trans (decide_eq_false (fun h => h2 h.2.1))]
        rfl
    · rw [if_neg h1, e.trans (decide_eq_false (fun h => h1 h.1))]
      rfl
theorem sPosts (xs : List S27) (hn : xs.length ≤ 4611686018427387904) {k : Nat} (hk : xs.length < k) : spec_validPosts.f k xs = some (vPosts xs) := by
  unfold spec_validPosts.f vPosts
  have := sPosts_l xs hn xs.length k 0 (by omega) (by omega)
  rw [Bool.and_comm]
  simpa using this

theorem rd69 (xs : List S46) {i : Nat} (h : i < xs.length) : rd_T46 xs (i : Int) = xs[i] := by
  unfold rd_T46
  rw [List.getD_eq_getElem?_getD, Int.toNat_natCast, List.getElem?_eq_getElem h]
  rfl
def cPost (p : S46) : S27 := ⟨p.f0, p.f1, p.f2⟩
theorem take_set {α : Type} (ys : List α) (i : Nat) (h : i < ys.length) (v : α) : (ys.set i v).take (i + 1) = ys.take i ++ [v] := by
  rw [List.take_succ_eq_append_getElem (by simpa using h), List.take_set_of_le (Nat.le_refl i)]
  simp
theorem toPostS_l (xs : List S46) (hn : xs.length ≤ 4611686018427387904) (d : Nat) : ∀ (k i : Nat) (ys : List S27), i + d = xs.length → d < k → ys.length = xs.length → ys.take i = (xs.take i).map cPost →
    laws_toPostS.l0 k xs ys (i : Int) = some (xs.map cPost) := by
  induction d with
  | zero =>
    intro k i ys hi hk hl ht
    obtain ⟨k, rfl⟩ : ∃ m, k = m + 1 := ⟨k - 1, by omega⟩
    simp only [laws_toPostS.l0]
    rw [List.take_of_length_le (by omega), List.take_of_length_le (by omega)] at ht
    rw [if_neg (by omega), ht]
  | succ d ih =>
    intro k i ys hi hk hl ht
    obtain ⟨k, rfl⟩ : ∃ m, k = m + 1 := ⟨k - 1, by omega⟩
    have hlt : i < xs.length := by omega
    simp only [laws_toPostS.l0]
    rw [if_pos (by omega), if_pos (by omega), rd69 xs hlt]
    unfold laws_toPost.f
    simp only [Option.bind_some]
    rw [if_pos (by omega), step1 hlt hn, Int.toNat_natCast]
    refine ih k (i + 1) _ (by omega) (by omega) (by simpa using hl) ?_
    rw [take_set _ _ (by omega), ht, List.take_succ_eq_append_getElem hlt, List.map_append]
    rfl
theorem toPostS (xs : List S46) (hn : xs.length ≤ 1048576) {k : Nat} (hk : 1048577 < k) : laws_toPostS.f k xs = some (xs.map cPost) := by
  unfold laws_toPostS.f
  rw [if_pos (by omega), if_pos (by omega), Int.toNat_natCast]
  exact toPostS_l xs (by omega) xs.length k 0 _ (by omega) (by omega) (by simp) (by simp)

theorem eqPostS_l (xs : List S27) (hn : xs.length ≤ 4611686018427387904) (d : Nat) : ∀ (k i : Nat), i + d = xs.length → d < k → laws_eqPostS.l0 k xs xs (i : Int) = some true := by
  induction d with
  | zero =>
    intro k i hi hk
    obtain ⟨k, rfl⟩ : ∃ m, k = m + 1 := ⟨k - 1, by omega⟩
    simp only [laws_eqPostS.l0]
    rw [if_neg (by omega)]
  | succ d ih =>
    intro k i hi hk
    obtain ⟨k, rfl⟩ : ∃ m, k = m + 1 := ⟨k - 1, by omega⟩
    have hlt : i < xs.length := by omega
    simp only [laws_eqPostS.l0]
    rw [if_pos (by omega), if_pos (by omega), if_pos (by omega), step1 hlt hn, ih k (i + 1) (by omega) (by omega)]
    simp [laws_eqPost.f]
theorem eqPostS (xs : List S27) (hn : xs.length ≤ 4611686018427387904) {k : Nat} (hk : xs.length < k) : laws_eqPostS.f k xs xs = some true := by
  unfold laws_eqPostS.f
  rw [if_pos rfl]
  exact eqPostS_l xs hn xs.length k 0 (by omega) (by omega)

theorem szPostS (xs : List S46) (hm : xs.length ≤ maxLen) : ∃ n, laws_szPostS.f xs 1048576 = some n ∧ (¬ n < 0 → xs.length ≤ 1048576) := by
  unfold laws_szPostS.f
  unfold maxLen at hm
  rw [w64 (by omega) (by omega)]
  by_cases h : (1048576 : Int) - (xs.length : Int) < 0
  · rw [if_pos h]
    exact ⟨-1, rfl, fun h2 => absurd (by decide) h2⟩
  · rw [if_neg h]
    exact ⟨_, rfl, fun _ => by omega⟩

end FnExactValidPostsLaw
open FnExactValidPostsLaw

theorem FnExactValidPosts : ∀ (l0 : List S46), l0.length ≤ maxLen → ∃ k, laws_FnExactValidPosts.f k l0 = some true := by
  intro l hm
  refine ⟨1048700, ?_⟩
  unfold laws_FnExactValidPosts.f
  obtain ⟨n, hs, hn⟩ := szPostS l hm
  rw [hs]
  simp only [Option.bind_some]
  by_cases h : n < 0
  · rw [if_pos h]
  · have hl := hn h
    rw [if_neg h, toPostS l hl (by omega)]
    unfold spec_ValidPosts.f
    simp only [Option.bind_some]
    rw [iPosts _ (by omega), sPosts _ (by simp; omega) (by simp; omega)]
    simp only [Option.bind_some, bne_self_eq_false, Bool.false_eq_true, if_false]
    rw [eqPostS _ (by simp; omega) (by simp; omega)]
    rfl

end Go.Proofs.Ytmccplnkagfecaa.Pure

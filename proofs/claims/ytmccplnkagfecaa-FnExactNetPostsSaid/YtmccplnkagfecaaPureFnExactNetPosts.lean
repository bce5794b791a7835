/- What the printed functions of FnExactNetPosts compute is true at every input. Conditions: none beyond the arguments' kinds. -/
import Derived.Test.YtmccplnkagfecaaGFnExactNetPostsx7
import Derived.OpenShut
namespace Go.Proofs.Ytmccplnkagfecaa.Pure
open Go.RowKit Go.Proofs.Ytmccplnkagfecaa.PFnExactNetPosts Go.Proofs.YtmccplnkagfecaaW.PrintWords Go.Proofs.YtmccplnkagfecaaW.PrintLast Go.Proofs.YtmccplnkagfecaaW.PrintMore
set_option linter.unusedVariables false
set_option linter.unusedSimpArgs false

namespace FnExactNetPostsLaw
theorem rd27 (xs : List S27) {i : Nat} (h : i < xs.length) : rd_T27 xs (i : Int) = xs[i] := by
  unfold rd_T27
  rw [List.getD_eq_getElem?_getD, Int.toNat_natCast, List.getElem?_eq_getElem h]
  rfl

theorem w64 {n : Int} (h1 : -9223372036854775808 ≤ n) (h2 : n ≤ 9223372036854775807) : wrap64 n = n := by
  unfold wrap64
  omega

theorem step1 {i n : Nat} (h : i < n) (hn : n ≤ 4611686018427387904) : wrap64 ((i : Int) + 1) = ((i + 1 : Nat) : Int) := by
  rw [w64 (by omega) (by omega)]
  omega

/-- What a valid posting is. -/
def okPost (p : S27) : Bool := decide ((0 ≤ p.f0 ∧ p.f0 ≤ 5) ∧ (0 ≤ p.f1 ∧ p.f1 ≤ 5) ∧ p.f0 ≠ p.f1 ∧ 1 ≤ p.f2 ∧ p.f2 ≤ 1000000000)
def vPosts (xs : List S27) : Bool := decide (xs.length ≤ 40) && xs.all okPost

theorem wi (a l h : Int) : impl_within.f a l h = some (decide (l ≤ a ∧ a ≤ h)) := by
  unfold impl_within.f
  split <;> rename_i hc <;> simp <;> omega

theorem iAcc (n : Int) : impl_accountValid.f n = some (decide (0 ≤ n ∧ n ≤ 5)) := by
  unfold impl_accountValid.f
  rw [wi]
  rfl

theorem iPosts_l (xs : List S27) (hn : xs.length ≤ 4611686018427387904) (d : Nat) : ∀ (k i : Nat), i + d = xs.length → d < k → impl_ValidPosts.l0 k xs (xs.length : Int) (i : Int) = some ((xs.drop i).all okPost) := by
  induction d with
  | zero =>
    intro k i hi hk
    obtain ⟨k, rfl⟩ : ∃ m, k = m + 1 := ⟨k - 1, by omega⟩
    simp only [impl_ValidPosts.l0]
    rw [if_neg (by omega), List.drop_eq_nil_of_le (by omega)]
    rfl
  | succ d ih =>
    intro k i hi hk
    obtain ⟨k, rfl⟩ : ∃ m, k = m + 1 := ⟨k - 1, by omega⟩
    have hlt : i < xs.length := by omega
    simp only [impl_ValidPosts.l0]
    rw [if_pos (by omega), if_pos (by omega), if_pos (by omega), rd27 xs hlt, List.drop_eq_getElem_cons hlt, step1 hlt hn, ih k (i + 1) (by omega) (by omega), iAcc, iAcc, wi]
    simp only [Option.bind_some, List.all_cons, decide_eq_true_eq]
    generalize xs[i] = p
    have e : okPost p = decide ((0 ≤ p.f0 ∧ p.f0 ≤ 5) ∧ (0 ≤ p.f1 ∧ p.f1 ≤ 5) ∧ p.f0 ≠ p.f1 ∧ 1 ≤ p.f2 ∧ p.f2 ≤ 1000000000) := rfl
    by_cases h1 : 0 ≤ p.f0 ∧ p.f0 ≤ 5
    · by_cases h2 : 0 ≤ p.f1 ∧ p.f1 ≤ 5
      · by_cases h3 : p.f0 = p.f1
        · rw [if_pos h1, if_pos h2, if_pos h3, e.trans (decide_eq_false (fun h => h.2.2.1 h3))]
          rfl
        · by_cases h4 : 1 ≤ p.f2 ∧ p.f2 ≤ 1000000000
          · rw [if_pos h1, if_pos h2, if_neg h3, if_pos h4, e.trans (decide_eq_true ⟨h1, h2, h3, h4⟩)]
            rfl
          · rw [if_pos h1, if_pos h2, if_neg h3, if_neg h4, e.trans (decide_eq_false (fun h => h4 h.2.2.2))]
            rfl
      · rw [if_pos h1, if_neg h2, e.trans (decide_eq_false (fun h => h2 h.2.1))]
        rfl
    · rw [if_neg h1, e.trans (decide_eq_false (fun h => h1 h.1))]
      rfl
theorem iPosts (xs : List S27) {k : Nat} (hk : 41 < k) : impl_ValidPosts.f k xs = some (vPosts xs) := by
  unfold impl_ValidPosts.f vPosts
  by_cases h : (xs.length : Int) > 40
  · rw [if_pos h, decide_eq_false (by omega)]
    rfl
  · rw [if_neg h, decide_eq_true (by omega)]
    have := iPosts_l xs (by omega) xs.length k 0 (by omega) (by omega)
    simpa using this

theorem inR (a l h : Int) : spec_inRange.f a l h = some (decide (l ≤ a ∧ a ≤ h)) := by
  unfold spec_inRange.f
  split <;> simp only [true_and, false_and, decide_false, *]

theorem sPosts_l (xs : List S27) (hn : xs.length ≤ 4611686018427387904) (d : Nat) : ∀ (k i : Nat), i + d = xs.length → d < k → spec_validPosts.l0 k xs (i : Int) = some ((xs.drop i).all okPost && decide (xs.length ≤ 40)) := by
  induction d with
  | zero =>
    intro k i hi hk
    obtain ⟨k, rfl⟩ : ∃ m, k = m + 1 := ⟨k - 1, by omega⟩
    simp only [spec_validPosts.l0]
    rw [if_neg (by omega), List.drop_eq_nil_of_le (by omega)]
    simp only [List.all_nil, Bool.true_and, Option.some.injEq, decide_eq_decide]
    omega
  | succ d ih =>
    intro k i hi hk
    obtain ⟨k, rfl⟩ : ∃ m, k = m + 1 := ⟨k - 1, by omega⟩
    have hlt : i < xs.length := by omega
    simp only [spec_validPosts.l0]
    rw [if_pos (by omega), if_pos (by omega), rd27 xs hlt, List.drop_eq_getElem_cons hlt, step1 hlt hn, ih k (i + 1) (by omega) (by omega), inR, inR, inR]
    simp only [Option.bind_some, List.all_cons, decide_eq_true_eq]
    generalize xs[i] = p
    have e : okPost p = decide ((0 ≤ p.f0 ∧ p.f0 ≤ 5) ∧ (0 ≤ p.f1 ∧ p.f1 ≤ 5) ∧ p.f0 ≠ p.f1 ∧ 1 ≤ p.f2 ∧ p.f2 ≤ 1000000000) := rfl
    by_cases h1 : 0 ≤ p.f0 ∧ p.f0 ≤ 5
    · by_cases h2 : 0 ≤ p.f1 ∧ p.f1 ≤ 5
      · by_cases h3 : p.f0 = p.f1
        · rw [if_pos h1, if_pos h2, if_pos h3, e.trans (decide_eq_false (fun h => h.2.2.1 h3))]
          rfl
        · by_cases h4 : 1 ≤ p.f2 ∧ p.f2 ≤ 1000000000
          · rw [if_pos h1, if_pos h2, if_neg h3, if_pos h4, e.trans (decide_eq_true ⟨h1, h2, h3, h4⟩)]
            rfl
          · rw [if_pos h1, if_pos h2, if_neg h3, if_neg h4, e.trans (decide_eq_false (fun h => h4 h.2.2.2))]
            rfl
      · rw [if_pos h1, if_neg h2, e.trans (decide_eq_false (fun h => h2 h.2.1))]
        rfl
    · rw [if_neg h1, e.trans (decide_eq_false (fun h => h1 h.1))]
      rfl
theorem sPosts (xs : List S27) (hn : xs.length ≤ 4611686018427387904) {k : Nat} (hk : xs.length < k) : spec_validPosts.f k xs = some (vPosts xs) := by
  unfold spec_validPosts.f vPosts
  have := sPosts_l xs hn xs.length k 0 (by omega) (by omega)
  rw [Bool.and_comm]
  simpa using this

theorem net_in {xs : List S27} (hok : ∀ p ∈ xs, impl_NetPosts.okPost p = true) (hn : xs.length ≤ 40) {out : List S27} (hl : out.length ≤ 100) {a b : Int} (h0 : 0 ≤ a) (hab : a < b) (h5 : b ≤ 5) (d : Nat) : ∀ (k i : Nat), i + d = xs.length → spec_netted.l2 (k + d + 1) xs out a b (impl_NetPosts.net (xs.take i) a b) (i : Int) = spec_netted.l1 k xs (out ++ impl_NetPosts.post xs a b) a (b + 1) := by
  induction d with
  | zero =>
    intro k i hi
    obtain rfl : i = xs.length := by omega
    have hb := impl_NetPosts.net_bd xs hok a b xs.length (Nat.le_refl _)
    rw [List.take_length] at hb ⊢
    rw [show k + 0 + 1 = k + 1 by omega]
    unfold impl_NetPosts.post
    generalize impl_NetPosts.net xs a b = N at hb ⊢
    simp only [spec_netted.l2]
    rw [if_neg (by omega)]
    by_cases c : N > 0
    · rw [if_pos c, if_pos (by omega)]
      simp only [Option.bind_some]
      rw [if_neg (by omega), w64 (n := b + 1) (by omega) (by omega), if_pos c, if_neg (by omega), List.append_nil]
    · rw [if_neg c]
      by_cases c2 : N < 0
      · rw [if_pos c2, if_pos (by omega), w64 (n := b + 1) (by omega) (by omega), w64 (n := -N) (by omega) (by omega), if_neg c, if_pos c2, List.nil_append]
      · rw [if_neg c2, w64 (n := b + 1) (by omega) (by omega), if_neg c, if_neg c2, List.nil_append, List.append_nil]
  | succ d ih =>
    intro k i hi
    have hlt : i < xs.length := by omega
    have hb := impl_NetPosts.net_bd xs hok a b i (by omega)
    have hp : (0 ≤ xs[i].f0 ∧ xs[i].f0 ≤ 5) ∧ (0 ≤ xs[i].f1 ∧ xs[i].f1 ≤ 5) ∧ xs[i].f0 ≠ xs[i].f1 ∧ 1 ≤ xs[i].f2 ∧ xs[i].f2 ≤ 1000000000 := of_decide_eq_true (hok _ (List.getElem_mem hlt))
    have h := ih k (i + 1) (by omega)
    rw [List.take_succ_eq_append_getElem hlt, impl_NetPosts.net_snoc] at h
    rw [← h, show k + (d + 1) + 1 = (k + d + 1) + 1 by omega]
    generalize k + d + 1 = K
    generalize impl_NetPosts.net (xs.take i) a b = N at hb ⊢
    simp only [spec_netted.l2]
    rw [if_pos (by omega), if_pos (by omega), rd27 xs hlt, step1 hlt (by omega)]
    generalize xs[i] = p at hp ⊢
    unfold spec_toInt.f
    by_cases c1 : p.f0 = a
    · by_cases c4 : p.f1 = b
      · rw [if_pos c1, beq_iff_eq.2 c4, if_pos rfl]
        try simp only [Option.bind_some]
        rw [if_neg (by omega)]
        try simp only [Bool.false_eq_true, if_false, Option.bind_some]
        rw [w64 (n := 1 - 0) (by omega) (by omega), w64 (n := p.f2 * (1 - 0)) (by omega) (by omega), w64 (n := N + p.f2 * (1 - 0)) (by omega) (by omega), if_pos ⟨c1, c4⟩, if_neg (by omega)]
        congr 1
        omega
      · rw [if_pos c1, beq_eq_false_iff_ne.2 c4, if_neg (by decide)]
        try simp only [Option.bind_some]
        rw [if_neg (by omega)]
        try simp only [Bool.false_eq_true, if_false, Option.bind_some]
        rw [w64 (n := 0 - 0) (by omega) (by omega), w64 (n := p.f2 * (0 - 0)) (by omega) (by omega), w64 (n := N + p.f2 * (0 - 0)) (by omega) (by omega), if_neg (fun h => c4 h.2), if_neg (by omega)]
        congr 1
        omega
    · rw [if_neg c1]
      try simp only [Bool.false_eq_true, if_false, Option.bind_some]
      by_cases c3 : p.f0 = b
      · rw [if_pos c3]
        by_cases c4 : p.f1 = a
        · rw [beq_iff_eq.2 c4, if_pos rfl]
          try simp only [Option.bind_some]
          rw [w64 (n := 0 - 1) (by omega) (by omega), w64 (n := p.f2 * (0 - 1)) (by omega) (by omega), w64 (n := N + p.f2 * (0 - 1)) (by omega) (by omega), if_neg (fun h => c1 h.1), if_pos ⟨c3, c4⟩]
          congr 1
          omega
        · rw [beq_eq_false_iff_ne.2 c4, if_neg (by decide)]
          try simp only [Option.bind_some]
          rw [w64 (n := 0 - 0) (by omega) (by omega), w64 (n := p.f2 * (0 - 0)) (by omega) (by omega), w64 (n := N + p.f2 * (0 - 0)) (by omega) (by omega), if_neg (fun h => c1 h.1), if_neg (fun h => c4 h.2)]
          congr 1
          omega
      · rw [if_neg c3]
        try simp only [Option.bind_some]
        rw [w64 (n := 0 - 0) (by omega) (by omega), w64 (n := p.f2 * (0 - 0)) (by omega) (by omega), w64 (n := N + p.f2 * (0 - 0)) (by omega) (by omega), if_neg (fun h => c1 h.1), if_neg (fun h => c3 h.1)]
        congr 1
        omega
theorem post_len (xs : List S27) (a b : Int) : (impl_NetPosts.post xs a b).length ≤ 1 := by
  unfold impl_NetPosts.post
  rw [List.length_append]
  split <;> split <;> simp <;> omega
/-- What the inner loop of netting appends: m accounts left. -/
def netI (xs : List S27) (a : Int) : Nat → List S27 → List S27
  | 0, out => out
  | m + 1, out => netI xs a m (out ++ impl_NetPosts.post xs a (5 - (m : Int)))
/-- What netting gives: d accounts left. -/
def netO (xs : List S27) : Nat → List S27 → List S27
  | 0, out => out
  | d + 1, out => netO xs d (netI xs (4 - (d : Int)) (d + 1) out)
theorem netI_len (xs : List S27) (a : Int) (m : Nat) : ∀ out, (netI xs a m out).length ≤ out.length + m := by
  induction m with
  | zero => exact fun out => Nat.le_refl _
  | succ m ih =>
    intro out
    have h1 := ih (out ++ impl_NetPosts.post xs a (5 - (m : Int)))
    have h2 := post_len xs a (5 - (m : Int))
    rw [List.length_append] at h1
    simp only [netI]
    omega
theorem net_mid {xs : List S27} (hok : ∀ p ∈ xs, impl_NetPosts.okPost p = true) (hn : xs.length ≤ 40) {a : Int} (h0 : 0 ≤ a) (h5 : a ≤ 5) (m : Nat) : ∀ (k : Nat) (out : List S27), out.length + m ≤ 100 → a + m ≤ 5 →
    spec_netted.l1 (k + m * (xs.length + 2) + 1) xs out a (6 - (m : Int)) = spec_netted.l0 k xs (netI xs a m out) (a + 1) := by
  induction m with
  | zero =>
    intro k out _ _
    rw [Nat.zero_mul, Nat.add_zero]
    simp only [spec_netted.l1, netI]
    rw [if_neg (by omega), w64 (n := a + 1) (by omega) (by omega)]
  | succ m ih =>
    intro k out hl hm
    have h2 := post_len xs a (5 - (m : Int))
    have h := ih k (out ++ impl_NetPosts.post xs a (5 - (m : Int))) (by rw [List.length_append]; omega) (by omega)
    simp only [netI]
    rw [← h, Nat.succ_mul, show k + (m * (xs.length + 2) + (xs.length + 2)) + 1 = ((k + m * (xs.length + 2) + 1) + xs.length + 1) + 1 by omega]
    simp only [spec_netted.l1]
    rw [if_pos (by omega)]
    have e : (6 - ((m + 1 : Nat) : Int)) = 5 - (m : Int) := by omega
    rw [e]
    have h3 := net_in hok hn (out := out) (by omega) h0 (b := 5 - (m : Int)) (by omega) (by omega) xs.length (k + m * (xs.length + 2) + 1) 0 (by omega)
    rw [show impl_NetPosts.net (xs.take 0) a (5 - (m : Int)) = 0 from rfl, show ((0 : Nat) : Int) = 0 from rfl, show (5 - (m : Int)) + 1 = 6 - (m : Int) by omega] at h3
    exact h3
theorem net_out {xs : List S27} (hok : ∀ p ∈ xs, impl_NetPosts.okPost p = true) (hn : xs.length ≤ 40) (d : Nat) : ∀ (out : List S27), d ≤ 5 → out.length + 6 * d ≤ 60 →
    ∃ F, F ≤ 3 + 212 * d ∧ ∀ k, spec_netted.l0 (k + F) xs out (5 - (d : Int)) = some (netO xs d out) := by
  induction d with
  | zero =>
    intro out _ _
    refine ⟨3, by omega, fun k => ?_⟩
    simp only [netO, spec_netted.l0, spec_netted.l1]
    rw [if_pos (by omega), w64 (n := 5 - ((0 : Nat) : Int) + 1) (by omega) (by omega), if_neg (by omega), if_neg (by omega)]
  | succ d ih =>
    intro out hd hl
    have h2 := netI_len xs (4 - (d : Int)) (d + 1) out
    obtain ⟨F, hF, h⟩ := ih (netI xs (4 - (d : Int)) (d + 1) out) (by omega) (by omega)
    have h3 : (d + 1) * (xs.length + 2) ≤ 5 * 42 := Nat.mul_le_mul (by omega) (by omega)
    refine ⟨F + (d + 1) * (xs.length + 2) + 2, by omega, fun k => ?_⟩
    have e : 5 - ((d + 1 : Nat) : Int) = 4 - (d : Int) := by omega
    have h4 := net_mid hok hn (a := 4 - (d : Int)) (by omega) (by omega) (d + 1) (k + F) out (by omega) (by omega)
    have h5 := h k
    rw [show (6 : Int) - ((d + 1 : Nat) : Int) = 4 - (d : Int) + 1 by omega, show 4 - (d : Int) + 1 = 5 - (d : Int) by omega] at h4
    simp only [netO]
    rw [e, show k + (F + (d + 1) * (xs.length + 2) + 2) = (k + F + (d + 1) * (xs.length + 2) + 1) + 1 by omega]
    simp only [spec_netted.l0]
    rw [if_pos (by omega), w64 (n := 4 - (d : Int) + 1) (by omega) (by omega), show 4 - (d : Int) + 1 = 5 - (d : Int) by omega, h4, h5]
theorem sNet {xs : List S27} (hok : ∀ p ∈ xs, impl_NetPosts.okPost p = true) (hn : xs.length ≤ 40) {k : Nat} (hk : 2000 < k) : spec_netted.f k xs = some (netO xs 5 []) := by
  obtain ⟨F, hF, h⟩ := net_out hok hn 5 [] (Nat.le_refl _) (by simp)
  unfold spec_netted.f
  have := h (k - F)
  rw [show k - F + F = k by omega] at this
  exact this
def fitsI (xs : List S27) (a : Int) : Nat → Bool
  | 0 => true
  | m + 1 => impl_NetPosts.fits xs a (5 - (m : Int)) && fitsI xs a m
def fitsO (xs : List S27) : Nat → Bool
  | 0 => true
  | d + 1 => fitsI xs (4 - (d : Int)) (d + 1) && fitsO xs d
theorem inner_eq (xs : List S27) (a : Int) (m : Nat) : ∀ out, impl_NetPosts.inner xs a m out = if fitsI xs a m = true then some (netI xs a m out) else none := by
  induction m with
  | zero => exact fun out => rfl
  | succ m ih =>
    intro out
    rw [impl_NetPosts.inner_succ]
    simp only [fitsI, netI]
    by_cases h : impl_NetPosts.fits xs a (5 - (m : Int)) = true
    · rw [if_pos h, ih]
      simp [h]
    · rw [if_neg h]
      simp [h]
theorem outer_eq (xs : List S27) (d : Nat) : ∀ out, impl_NetPosts.outer xs d out = if fitsO xs d = true then some (netO xs d out) else none := by
  induction d with
  | zero => exact fun out => rfl
  | succ d ih =>
    intro out
    show (impl_NetPosts.inner xs (4 - (d : Int)) (d + 1) out).bind _ = _
    rw [inner_eq]
    simp only [fitsO, netO]
    by_cases h : fitsI xs (4 - (d : Int)) (d + 1) = true
    · rw [if_pos h]
      simp only [Option.bind_some]
      rw [ih]
      simp [h]
    · rw [if_neg h]
      simp [h]
theorem post_ok (xs : List S27) {a b : Int} (h0 : 0 ≤ a) (hab : a < b) (h5 : b ≤ 5) : (impl_NetPosts.post xs a b).all impl_NetPosts.okPost = impl_NetPosts.fits xs a b := by
  unfold impl_NetPosts.post impl_NetPosts.fits
  generalize impl_NetPosts.net xs a b = N
  rw [List.all_append]
  by_cases c : N > 0
  · rw [if_pos c, if_neg (by omega)]
    simp only [List.all_cons, List.all_nil, Bool.and_true, impl_NetPosts.okPost, decide_eq_decide]
    omega
  · rw [if_neg c]
    by_cases c2 : N < 0
    · rw [if_pos c2]
      simp only [List.all_cons, List.all_nil, Bool.and_true, Bool.true_and, impl_NetPosts.okPost, decide_eq_decide]
      omega
    · rw [if_neg c2]
      simp only [List.all_nil, Bool.and_true]
      exact (decide_eq_true (by omega)).symm
theorem netI_ok (xs : List S27) {a : Int} (h0 : 0 ≤ a) (m : Nat) : ∀ out, a + m ≤ 5 → (netI xs a m out).all impl_NetPosts.okPost = (out.all impl_NetPosts.okPost && fitsI xs a m) := by
  induction m with
  | zero => exact fun out _ => by simp [netI, fitsI]
  | succ m ih =>
    intro out hm
    simp only [netI, fitsI]
    rw [ih _ (by omega), List.all_append, post_ok xs h0 (by omega) (by omega), Bool.and_assoc]
theorem netO_ok (xs : List S27) (d : Nat) : ∀ out, d ≤ 5 → (netO xs d out).all impl_NetPosts.okPost = (out.all impl_NetPosts.okPost && fitsO xs d) := by
  induction d with
  | zero => exact fun out _ => by simp [netO, fitsO]
  | succ d ih =>
    intro out hd
    simp only [netO, fitsO]
    rw [ih _ (by omega), netI_ok xs (by omega) (d + 1) out (by omega), Bool.and_assoc]
theorem netO_len (xs : List S27) (d : Nat) : ∀ out, d ≤ 5 → (netO xs d out).length ≤ out.length + 5 * d := by
  induction d with
  | zero => exact fun out _ => by simp [netO]
  | succ d ih =>
    intro out hd
    have h1 := ih (netI xs (4 - (d : Int)) (d + 1) out) (by omega)
    have h2 := netI_len xs (4 - (d : Int)) (d + 1) out
    simp only [netO]
    omega
theorem sNetP (xs : List S27) (hn : xs.length ≤ 1048576) {k : Nat} (hk : 1048600 < k) : ∃ v : List S27 × Bool, v.1.length ≤ 50 ∧ spec_NetPosts.f k xs = some v ∧ impl_NetPosts.f k xs = some v := by
  unfold spec_NetPosts.f impl_NetPosts.f
  rw [sPosts xs (by omega) (by omega), iPosts xs (by omega)]
  simp only [Option.bind_some]
  by_cases h : vPosts xs = true
  · have hg : impl_NetPosts.good xs = true := h
    have h2 := hg
    unfold impl_NetPosts.good at h2
    rw [Bool.and_eq_true, decide_eq_true_eq, List.all_eq_true] at h2
    have hl := netO_len xs 5 [] (Nat.le_refl _)
    simp only [List.length_nil] at hl
    have hv : vPosts (netO xs 5 []) = fitsO xs 5 := by
      have h3 := netO_ok xs 5 [] (Nat.le_refl _)
      rw [List.all_nil, Bool.true_and] at h3
      have h4 : (netO xs 5 []).all okPost = fitsO xs 5 := h3
      unfold vPosts
      rw [h4, decide_eq_true (by omega), Bool.true_and]
    refine ⟨impl_NetPosts.v xs, ?_, ?_, ?_⟩
    · unfold impl_NetPosts.v
      rw [outer_eq]
      by_cases hf : fitsO xs 5 = true
      · rw [if_pos hf]
        show (netO xs 5 []).length ≤ 50
        omega
      · rw [if_neg hf]
        simp
    · rw [if_pos h, sNet h2.2 h2.1 (by omega)]
      simp only [Option.bind_some]
      rw [sPosts _ (by omega) (by omega), hv]
      simp only [Option.bind_some]
      unfold impl_NetPosts.v
      rw [outer_eq]
      by_cases hf : fitsO xs 5 = true
      · rw [if_pos hf, if_pos hf]
      · rw [if_neg hf, if_neg hf]
    · rw [if_pos h, if_pos hg]
  · refine ⟨([], false), by simp, ?_, ?_⟩
    · rw [if_neg h]
    · rw [if_neg h]

theorem rd69 (xs : List S46) {i : Nat} (h : i < xs.length) : rd_T46 xs (i : Int) = xs[i] := by
  unfold rd_T46
  rw [List.getD_eq_getElem?_getD, Int.toNat_natCast, List.getElem?_eq_getElem h]
  rfl
def cPost (p : S46) : S27 := ⟨p.f0, p.f1, p.f2⟩
theorem take_set {α : Type} (ys : List α) (i : Nat) (h : i < ys.length) (v : α) : (ys.set i v).take (i + 1) = ys.take i ++ [v] := by
  rw [List.take_succ_eq_append_getElem (by simpa using h), List.take_set_of_le (Nat.le_refl i)]
  simp
theorem toPostS_l (xs : List S46) (hn : xs.length ≤ 4611686018427387904) (d : Nat) : ∀ (k i : Nat) (ys : List S27), i + d = xs.length → d < k → ys.length = xs.length → ys.take i = (xs.take i).map cPost →
    laws_toPostS.l0 k xs ys (i : Int) = some (xs.map cPost) := by
  induction d with
  | zero =>
    intro k i ys hi hk hl ht
    obtain ⟨k, rfl⟩ : ∃ m, k = m + 1 := ⟨k - 1, by omega⟩
    simp only [laws_toPostS.l0]
    rw [List.take_of_length_le (by omega), List.take_of_length_le (by omega)] at ht
    rw [if_neg (by omega), ht]
  | succ d ih =>
    intro k i ys hi hk hl ht
    obtain ⟨k, rfl⟩ : ∃ m, k = m + 1 := ⟨k - 1, by omega⟩
    have hlt : i < xs.length := by omega
    simp only [laws_toPostS.l0]
    rw [if_pos (by omega), if_pos (by omega), rd69 xs hlt]
    unfold laws_toPost.f
    simp only [Option.bind_some]
    rw [if_pos (by omega), step1 hlt hn, Int.toNat_natCast]
    refine ih k (i + 1) _ (by omega) (by omega) (by simpa using hl) ?_
    rw [take_set _ _ (by omega), ht, List.take_succ_eq_append_getElem hlt, List.map_append]
    rfl
theorem toPostS (xs : List S46) (hn : xs.length ≤ 1048576) {k : Nat} (hk : 1048577 < k) : laws_toPostS.f k xs = some (xs.map cPost) := by
  unfold laws_toPostS.f
  rw [if_pos (by omega), if_pos (by omega), Int.toNat_natCast]
  exact toPostS_l xs (by omega) xs.length k 0 _ (by omega) (by omega) (by simp) (by simp)

theorem eqPostS_l (xs : List S27) (hn : xs.length ≤ 4611686018427387904) (d : Nat) : ∀ (k i : Nat), i + d = xs.length → d < k → laws_eqPostS.l0 k xs xs (i : Int) = some true := by
  induction d with
  | zero =>
    intro k i hi hk
    obtain ⟨k, rfl⟩ : ∃ m, k = m + 1 := ⟨k - 1, by omega⟩
    simp only [laws_eqPostS.l0]
    rw [if_neg (by omega)]
  | succ d ih =>
    intro k i hi hk
    obtain ⟨k, rfl⟩ : ∃ m, k = m + 1 := ⟨k - 1, by omega⟩
    have hlt : i < xs.length := by omega
    simp only [laws_eqPostS.l0]
    rw [if_pos (by omega), if_pos (by omega), if_pos (by omega), step1 hlt hn, ih k (i + 1) (by omega) (by omega)]
    simp [laws_eqPost.f]
theorem eqPostS (xs : List S27) (hn : xs.length ≤ 4611686018427387904) {k : Nat} (hk : xs.length < k) : laws_eqPostS.f k xs xs = some true := by
  unfold laws_eqPostS.f
  rw [if_pos rfl]
  exact eqPostS_l xs hn xs.length k 0 (by omega) (by omega)

theorem szPostS (xs : List S46) (hm : xs.length ≤ maxLen) : ∃ n, laws_szPostS.f xs 1048576 = some n ∧ (¬ n < 0 → xs.length ≤ 1048576) := by
  unfold laws_szPostS.f
  unfold maxLen at hm
  rw [w64 (by omega) (by omega)]
  by_cases h : (1048576 : Int) - (xs.length : Int) < 0
  · rw [if_pos h]
    exact ⟨-1, rfl, fun h2 => absurd (by decide) h2⟩
  · rw [if_neg h]
    exact ⟨_, rfl, fun _ => by omega⟩

theorem rdsetPostS (ys : List S27) {i : Nat} (h : i < ys.length) (v : S27) : rd_T27 (ys.set i v) (i : Int) = v := by
  rw [rd27 _ (by simpa using h), List.getElem_set_self]
/-- What the marks are. -/
def marksPostS (L : Nat) : List S27 := (List.range L).map fun i : Nat => (⟨1 + 3 * (i : Int), 1 + 3 * (i : Int) + 1, 1 + 3 * (i : Int) + 2⟩ : S27)
theorem marksPostS_len (L : Nat) : (marksPostS L).length = L := by simp [marksPostS]
theorem markPostS_l (L : Nat) (hL : L ≤ 1048576) (d : Nat) : ∀ (k i : Nat) (ys : List S27), i + d = L → d < k → ys.length = L → ys.take i = marksPostS i → laws_markPostS.l0 k ys (1 + 3 * (i : Int)) (i : Int) = some (1 + 3 * (L : Int), marksPostS L) := by
  induction d with
  | zero =>
    intro k i ys hi hk hl ht
    obtain ⟨k, rfl⟩ : ∃ m, k = m + 1 := ⟨k - 1, by omega⟩
    obtain rfl : i = L := by omega
    simp only [laws_markPostS.l0]
    rw [List.take_of_length_le (by omega)] at ht
    rw [if_neg (by omega), ht]
  | succ d ih =>
    intro k i ys hi hk hl ht
    obtain ⟨k, rfl⟩ : ∃ m, k = m + 1 := ⟨k - 1, by omega⟩
    have hlt : i < ys.length := by omega
    have hs := step1 hlt (by omega)
    simp only [laws_markPostS.l0]
    rw [if_pos (by omega), if_pos (by omega)]
    simp only [Option.bind_some, Int.toNat_natCast]
    simp only [rdsetPostS ys hlt, List.set_set]
    rw [w64 (n := 1 + 3 * (i : Int) + 1) (by omega) (by omega), w64 (n := 1 + 3 * (i : Int) + 1 + 1) (by omega) (by omega), w64 (n := 1 + 3 * (i : Int) + 1 + 1 + 1) (by omega) (by omega), hs]
    have e : (1 + 3 * (i : Int) + 1 + 1 + 1) = 1 + 3 * ((i + 1 : Nat) : Int) := by omega
    rw [e]
    refine ih k (i + 1) _ (by omega) (by omega) (by simpa using hl) ?_
    rw [List.take_succ_eq_append_getElem (by simpa using hlt), List.take_set_of_le (Nat.le_refl i), List.getElem_set_self, ht]
    unfold marksPostS
    rw [List.range_succ, List.map_append]
    first | (simp; done) | (simp; omega)
theorem markPostS (ys : List S27) (hL : ys.length ≤ 1048576) {k : Nat} (hk : ys.length < k) : laws_markPostS.f k ys 1 = some (1 + 3 * (ys.length : Int), marksPostS ys.length) := by
  unfold laws_markPostS.f
  exact markPostS_l ys.length hL ys.length k 0 ys (by omega) (by omega) rfl rfl

theorem heldPostS_l (L : Nat) (hL : L ≤ 1048576) (d : Nat) : ∀ (k i : Nat), i + d = L → d < k → laws_heldPostS.l0 k (marksPostS L) (1 + 3 * (i : Int)) (i : Int) = some (1 + 3 * (L : Int)) := by
  induction d with
  | zero =>
    intro k i hi hk
    obtain ⟨k, rfl⟩ : ∃ m, k = m + 1 := ⟨k - 1, by omega⟩
    obtain rfl : i = L := by omega
    simp only [laws_heldPostS.l0]
    rw [if_neg (by rw [marksPostS_len]; omega)]
  | succ d ih =>
    intro k i hi hk
    obtain ⟨k, rfl⟩ : ∃ m, k = m + 1 := ⟨k - 1, by omega⟩
    have hlt : i < (marksPostS L).length := by rw [marksPostS_len]; omega
    have hs := step1 hlt (by rw [marksPostS_len]; omega)
    have hr : rd_T27 (marksPostS L) (i : Int) = (⟨1 + 3 * (i : Int), 1 + 3 * (i : Int) + 1, 1 + 3 * (i : Int) + 2⟩ : S27) := by
      rw [rd27 _ hlt]
      simp [marksPostS]
    have e : (1 + 3 * (i : Int) + 1 + 1 + 1) = 1 + 3 * ((i + 1 : Nat) : Int) := by omega
    have ih2 := ih k (i + 1) (by omega) (by omega)
    rw [← e] at ih2
    simp only [laws_heldPostS.l0]
    rw [if_pos (by omega), if_pos (by omega), hr, hs, w64 (n := 1 + 3 * (i : Int) + 1) (by omega) (by omega), w64 (n := 1 + 3 * (i : Int) + 1 + 1) (by omega) (by omega), w64 (n := 1 + 3 * (i : Int) + 1 + 1 + 1) (by omega) (by omega)]
    simp only [if_true, Int.add_assoc] at ih2 ⊢
    simpa using ih2
theorem heldPostS (L : Nat) (hL : L ≤ 1048576) {k : Nat} (hk : L < k) : laws_heldPostS.f k (marksPostS L) 1 = some (1 + 3 * (L : Int)) := by
  unfold laws_heldPostS.f
  exact heldPostS_l L hL L k 0 (by omega) (by omega)

end FnExactNetPostsLaw
open FnExactNetPostsLaw

theorem FnExactNetPosts : ∀ (l0 : List S46), l0.length ≤ maxLen → ∃ k, laws_FnExactNetPosts.f k l0 = some true := by
  intro l hm
  have hk : ∃ k, 1048700 < k := ⟨1048701, by omega⟩
  obtain ⟨k, hk⟩ := hk
  refine ⟨k, ?_⟩
  unfold laws_FnExactNetPosts.f
  obtain ⟨n, hs, hn⟩ := szPostS l hm
  rw [hs]
  simp only [Option.bind_some]
  by_cases h : n < 0
  · rw [if_pos h]
  · have hl := hn h
    obtain ⟨k, rfl⟩ : ∃ m, k = m + 3 := ⟨k - 3, by omega⟩
    rw [if_neg h, toPostS l hl (by omega)]
    simp only [Option.bind_some]
    have hml : (l.map cPost).length = l.length := by simp
    obtain ⟨⟨r1, r2⟩, hr, h1, h2⟩ := sNetP (l.map cPost) (by omega) (k := k + 3) (by omega)
    obtain ⟨⟨q1, q2⟩, hq, g1, g2⟩ := sNetP (l.map cPost) (by omega) (k := k + 1) (by omega)
    have e : some (q1, q2) = some (r1, r2) := by
      rw [← g2, ← h2]
      have m1 := impl_NetPosts.mono (l.map cPost) (k + 1) _ g2
      have m2 := impl_NetPosts.mono (l.map cPost) (k + 2) _ m1
      rw [m2, g2]
    obtain ⟨rfl, rfl⟩ : q1 = r1 ∧ q2 = r2 := by simpa using e
    simp only at hr
    rw [h1, h2]
    simp only [Option.bind_some]
    rw [eqPostS _ (by omega) (by omega), bne_self_eq_false]
    simp only [if_true, laws_FnExactNetPosts.j0]
    rw [if_neg (by decide), toPostS l hl (by omega)]
    simp only [Option.bind_some]
    rw [eqPostS _ (by omega) (by omega), markPostS _ (by omega) (by omega)]
    simp only [Option.bind_some, if_true]
    rw [if_neg (by omega), eqPostS _ (by omega) (by omega), bne_self_eq_false]
    simp only [Option.bind_some, if_true, laws_FnExactNetPosts.j1]
    rw [if_neg (by decide), markPostS _ (by omega) (by omega)]
    simp only [Option.bind_some]
    rw [heldPostS _ (by omega) (by omega)]
    simp only [Option.bind_some]
    rw [if_neg (by omega), if_pos trivial, toPostS l hl (by omega)]
    simp only [Option.bind_some]
    rw [g2]
    simp only [Option.bind_some]
    rw [eqPostS _ (by omega) (by omega), bne_self_eq_false]
    simp only [Option.bind_some, if_true, laws_FnExactNetPosts.j2]
    rw [if_neg (by decide), heldPostS _ (by omega) (by omega)]
    simp only [Option.bind_some]
    rw [if_neg (by omega), if_pos trivial]

end Go.Proofs.Ytmccplnkagfecaa.Pure

/- What the printed functions of FnBalanceOfReverse compute is true at every input. Conditions: none beyond the arguments' kinds. -/
import Derived.Test.YtmccplnkagfecaaGFnBalanceOfReversex4
import Derived.OpenShut
namespace Go.Proofs.Ytmccplnkagfecaa.Pure
open Go.RowKit Go.Proofs.Ytmccplnkagfecaa.PFnBalanceOfReverse Go.Proofs.YtmccplnkagfecaaW.PrintWords Go.Proofs.YtmccplnkagfecaaW.PrintLast Go.Proofs.YtmccplnkagfecaaW.PrintMore
set_option linter.unusedVariables false
set_option linter.unusedSimpArgs false

namespace FnBalanceOfReverseLaw
/-- What a valid posting is. -/
def okPost (p : S27) : Bool := decide ((0 ≤ p.f0 ∧ p.f0 ≤ 5) ∧ (0 ≤ p.f1 ∧ p.f1 ≤ 5) ∧ p.f0 ≠ p.f1 ∧ 1 ≤ p.f2 ∧ p.f2 ≤ 1000000000)
def vPosts (xs : List S27) : Bool := decide (xs.length ≤ 40) && xs.all okPost

theorem okSame : impl_BalanceOf.okPost = okPost := rfl
/-- A balance, of whatever postings. -/
def balV (xs : List S27) (a : Int) : Int := if vPosts xs = true then impl_BalanceOf.bal xs a else 0
theorem vPosts_of {xs : List S27} (h : vPosts xs = true) : xs.length ≤ 40 ∧ ∀ p ∈ xs, okPost p = true := by
  unfold vPosts at h
  simp only [Bool.and_eq_true, decide_eq_true_eq, List.all_eq_true] at h
  exact h
theorem ok_of {p : S27} (h : okPost p = true) : (0 ≤ p.f0 ∧ p.f0 ≤ 5) ∧ (0 ≤ p.f1 ∧ p.f1 ≤ 5) ∧ p.f0 ≠ p.f1 ∧ 1 ≤ p.f2 ∧ p.f2 ≤ 1000000000 := of_decide_eq_true h
theorem bal_bd {xs : List S27} (h : vPosts xs = true) (a : Int) (i : Nat) (hi : i ≤ xs.length) : -(1000000000 * (i : Int)) ≤ impl_BalanceOf.bal (xs.take i) a ∧ impl_BalanceOf.bal (xs.take i) a ≤ 1000000000 * (i : Int) :=
  impl_BalanceOf.bal_bd xs (fun p hp => (vPosts_of h).2 p hp) a i hi

theorem w64 {n : Int} (h1 : -9223372036854775808 ≤ n) (h2 : n ≤ 9223372036854775807) : wrap64 n = n := by
  unfold wrap64
  omega

theorem step1 {i n : Nat} (h : i < n) (hn : n ≤ 4611686018427387904) : wrap64 ((i : Int) + 1) = ((i + 1 : Nat) : Int) := by
  rw [w64 (by omega) (by omega)]
  omega

theorem rd27 (xs : List S27) {i : Nat} (h : i < xs.length) : rd_T27 xs (i : Int) = xs[i] := by
  unfold rd_T27
  rw [List.getD_eq_getElem?_getD, Int.toNat_natCast, List.getElem?_eq_getElem h]
  rfl

theorem wi (a l h : Int) : impl_within.f a l h = some (decide (l ≤ a ∧ a ≤ h)) := by
  unfold impl_within.f
  split <;> rename_i hc <;> simp <;> omega

theorem iAcc (n : Int) : impl_accountValid.f n = some (decide (0 ≤ n ∧ n ≤ 5)) := by
  unfold impl_accountValid.f
  rw [wi]
  rfl

theorem iPosts_l (xs : List S27) (hn : xs.length ≤ 4611686018427387904) (d : Nat) : ∀ (k i : Nat), i + d = xs.length → d < k → impl_ValidPosts.l0 k xs (xs.length : Int) (i : Int) = some ((xs.drop i).all okPost) := by
  induction d with
  | zero =>
    intro k i hi hk
    obtain ⟨k, rfl⟩ : ∃ m, k = m + 1 := ⟨k - 1, by omega⟩
    simp only [impl_ValidPosts.l0]
    rw [if_neg (by omega), List.drop_eq_nil_of_le (by omega)]
    rfl
  | succ d ih =>
    intro k i hi hk
    obtain ⟨k, rfl⟩ : ∃ m, k = m + 1 := ⟨k - 1, by omega⟩
    have hlt : i < xs.length := by omega
    simp only [impl_ValidPosts.l0]
    rw [if_pos (by omega), if_pos (by omega), if_pos (by omega), rd27 xs hlt, List.drop_eq_getElem_cons hlt, step1 hlt hn, ih k (i + 1) (by omega) (by omega), iAcc, iAcc, wi]
    simp only [Option.bind_some, List.all_cons, decide_eq_true_eq]
    generalize xs[i] = p
    have e : okPost p = decide ((0 ≤ p.f0 ∧ p.f0 ≤ 5) ∧ (0 ≤ p.f1 ∧ p.f1 ≤ 5) ∧ p.f0 ≠ p.f1 ∧ 1 ≤ p.f2 ∧ p.f2 ≤ 1000000000) := rfl
    by_cases h1 : 0 ≤ p.f0 ∧ p.f0 ≤ 5
    · by_cases h2 : 0 ≤ p.f1 ∧ p.f1 ≤ 5
      · by_cases h3 : p.f0 = p.f1
        · rw [if_pos h1, if_pos h2, if_pos h3, e.trans (decide_eq_false (fun h => h.2.2.1 h3))]
          rfl
        · by_cases h4 : 1 ≤ p.f2 ∧ p.f2 ≤ 1000000000
          · rw [if_pos h1, if_pos h2, if_neg h3, if_pos h4, e.trans (decide_eq_true ⟨h1, h2, h3, h4⟩)]
            rfl
          · rw [if_pos h1, if_pos h2, if_neg h3, if_neg h4, e.trans (decide_eq_false (fun h => h4 h.2.2.2))]
            rfl
      · rw [if_pos h1, if_neg h2, e.trans (decide_eq_false (fun h => h2 h.2.1))]
        rfl
    · rw [if_neg h1, e.trans (decide_eq_false (fun h => h1 h.1))]
      rfl
theorem iPosts (xs : List S27) {k : Nat} (hk : 41 < k) : impl_ValidPosts.f k xs = some (vPosts xs) := by
  unfold impl_ValidPosts.f vPosts
  by_cases h : (xs.length : Int) > 40
  · rw [if_pos h, decide_eq_false (by omega)]
    rfl
  · rw [if_neg h, decide_eq_true (by omega)]
    have := iPosts_l xs (by omega) xs.length k 0 (by omega) (by omega)
    simpa using this

theorem iBal (xs : List S27) (a : Int) {k : Nat} (hk : 41 < k) (ha : (Lit.int .i64 a).wf = true) : impl_BalanceOf.f k xs a = some (balV xs a) := by
  unfold impl_BalanceOf.f balV
  rw [iPosts xs hk]
  simp only [Option.bind_some]
  by_cases h : vPosts xs = true
  · have hg : impl_BalanceOf.good xs a = true := by
      unfold impl_BalanceOf.good
      rw [okSame, ha, Bool.and_true]
      exact h
    rw [if_pos h, if_pos hg, if_pos h]
  · rw [if_neg h, if_neg h]

theorem inR (a l h : Int) : spec_inRange.f a l h = some (decide (l ≤ a ∧ a ≤ h)) := by
  unfold spec_inRange.f
  split <;> simp only [true_and, false_and, decide_false, *]

theorem sPosts_l (xs : List S27) (hn : xs.length ≤ 4611686018427387904) (d : Nat) : ∀ (k i : Nat), i + d = xs.length → d < k → spec_validPosts.l0 k xs (i : Int) = some ((xs.drop i).all okPost && decide (xs.length ≤ 40)) := by
  induction d with
  | zero =>
    intro k i hi hk
    obtain ⟨k, rfl⟩ : ∃ m, k = m + 1 := ⟨k - 1, by omega⟩
    simp only [spec_validPosts.l0]
    rw [if_neg (by omega), List.drop_eq_nil_of_le (by omega)]
    simp only [List.all_nil, Bool.true_and, Option.some.injEq, decide_eq_decide]
    omega
  | succ d ih =>
    intro k i hi hk
    obtain ⟨k, rfl⟩ : ∃ m, k = m + 1 := ⟨k - 1, by omega⟩
    have hlt : i < xs.length := by omega
    simp only [spec_validPosts.l0]
    rw [if_pos (by omega), if_pos (by omega), rd27 xs hlt, List.drop_eq_getElem_cons hlt, step1 hlt hn, ih k (i + 1) (by omega) (by omega), inR, inR, inR]
    simp only [Option.bind_some, List.all_cons, decide_eq_true_eq]
    generalize xs[i] = p
    have e : okPost p = decide ((0 ≤ p.f0 ∧ p.f0 ≤ 5) ∧ (0 ≤ p.f1 ∧ p.f1 ≤ 5) ∧ p.f0 ≠ p.f1 ∧ 1 ≤ p.f2 ∧ p.f2 ≤ 1000000000) := rfl
    by_cases h1 : 0 ≤ p.f0 ∧ p.f0 ≤ 5
    · by_cases h2 : 0 ≤ p.f1 ∧ p.f1 ≤ 5
      · by_cases h3 : p.f0 = p.f1
        · rw [if_pos h1, if_pos h2, if_pos h3, e.trans (decide_eq_false (fun h => h.2.2.1 h3))]
          rfl
        · by_cases h4 : 1 ≤ p.f2 ∧ p.f2 ≤ 1000000000
          · rw [if_pos h1, if_pos h2, if_neg h3, if_pos h4, e.trans (decide_eq_true ⟨h1, h2, h3, h4⟩)]
            rfl
          · rw [if_pos h1, if_pos h2, if_neg h3, if_neg h4, e.trans (decide_eq_false (fun h => h4 h.2.2.2))]
            rfl
      · rw [if_pos h1, if_neg h2, e.trans (decide_eq_false (fun h => h2 h.2.1))]
        rfl
    · rw [if_neg h1, e.trans (decide_eq_false (fun h => h1 h.1))]
      rfl
theorem sPosts (xs : List S27) (hn : xs.length ≤ 4611686018427387904) {k : Nat} (hk : xs.length < k) : spec_validPosts.f k xs = some (vPosts xs) := by
  unfold spec_validPosts.f vPosts
  have := sPosts_l xs hn xs.length k 0 (by omega) (by omega)
  rw [Bool.and_comm]
  simpa using this

theorem sBal_l (xs : List S27) (a : Int) (hv : vPosts xs = true) (d : Nat) : ∀ (k i : Nat), i + d = xs.length → d < k → spec_balance.l0 k xs a (impl_BalanceOf.bal (xs.take i) a) (i : Int) = some (impl_BalanceOf.bal xs a) := by
  have hl := (vPosts_of hv).1
  induction d with
  | zero =>
    intro k i hi hk
    obtain ⟨k, rfl⟩ : ∃ m, k = m + 1 := ⟨k - 1, by omega⟩
    simp only [spec_balance.l0]
    rw [if_neg (by omega), List.take_of_length_le (by omega)]
  | succ d ih =>
    intro k i hi hk
    obtain ⟨k, rfl⟩ : ∃ m, k = m + 1 := ⟨k - 1, by omega⟩
    have hlt : i < xs.length := by omega
    have hp := ok_of ((vPosts_of hv).2 _ (List.getElem_mem hlt))
    have hb := bal_bd hv a i (by omega)
    have ih2 := ih k (i + 1) (by omega) (by omega)
    simp only [spec_balance.l0]
    rw [if_pos (by omega), if_pos (by omega), rd27 xs hlt, step1 hlt (by omega)]
    rw [List.take_succ_eq_append_getElem hlt, impl_BalanceOf.bal_snoc] at ih2
    generalize xs[i] = p at *
    generalize impl_BalanceOf.bal (xs.take i) a = n at *
    unfold spec_toInt.f
    simp only [beq_iff_eq]
    by_cases h1 : p.f1 = a
    · have h0 : ¬ p.f0 = a := fun h => hp.2.2.1 (h.trans h1.symm)
      rw [if_pos h1, if_neg h0] at ih2 ⊢
      simp only [Option.bind_some]
      rw [w64 (n := 1 - 0) (by omega) (by omega), w64 (n := p.f2 * (1 - 0)) (by omega) (by omega), w64 (n := n + p.f2 * (1 - 0)) (by omega) (by omega)]
      have e : n + p.f2 * (1 - 0) = n - 0 + p.f2 := by omega
      rw [e]
      exact ih2
    · by_cases h0 : p.f0 = a
      · rw [if_neg h1, if_pos h0] at ih2 ⊢
        simp only [Option.bind_some]
        rw [w64 (n := 0 - 1) (by omega) (by omega), w64 (n := p.f2 * (0 - 1)) (by omega) (by omega), w64 (n := n + p.f2 * (0 - 1)) (by omega) (by omega)]
        have e : n + p.f2 * (0 - 1) = n - p.f2 + 0 := by omega
        rw [e]
        exact ih2
      · rw [if_neg h1, if_neg h0] at ih2 ⊢
        simp only [Option.bind_some]
        rw [w64 (n := 0 - 0) (by omega) (by omega), w64 (n := p.f2 * (0 - 0)) (by omega) (by omega), w64 (n := n + p.f2 * (0 - 0)) (by omega) (by omega)]
        have e : n + p.f2 * (0 - 0) = n - 0 + 0 := by omega
        rw [e]
        exact ih2
theorem sBal (xs : List S27) (hn : xs.length ≤ 4611686018427387904) (a : Int) {k : Nat} (hk : xs.length < k) : spec_BalanceOf.f k xs a = some (balV xs a) := by
  unfold spec_BalanceOf.f balV spec_balance.f
  rw [sPosts xs hn hk]
  simp only [Option.bind_some]
  by_cases h : vPosts xs = true
  · have := sBal_l xs a h xs.length k 0 (by omega) (by omega)
    rw [List.take_zero] at this
    have e : impl_BalanceOf.bal [] a = 0 := rfl
    have e2 : ((0 : Nat) : Int) = 0 := rfl
    rw [e, e2] at this
    rw [if_pos h, if_pos h, this]
    rfl
  · rw [if_neg h, if_neg h]

/-- A computation that answers, and its answer is P. -/
def Gives {α : Type} (o : Option α) (P : α → Prop) : Prop := ∃ v, o = some v ∧ P v
theorem Gives.of {α : Type} {v : α} {P : α → Prop} (h : P v) : Gives (some v) P := ⟨v, rfl, h⟩
theorem Gives.bind {α β : Type} {o : Option α} {f : α → Option β} {P : α → Prop} {Q : β → Prop} (h : Gives o P) (hf : ∀ v, P v → Gives (f v) Q) : Gives (o.bind f) Q := by
  obtain ⟨v, rfl, hv⟩ := h
  exact hf v hv
theorem Gives.ite {α : Type} {c : Prop} [Decidable c] {a b : Option α} {P : α → Prop} (h1 : c → Gives a P) (h2 : ¬ c → Gives b P) : Gives (if c then a else b) P := by
  by_cases h : c
  · rw [if_pos h]
    exact h1 h
  · rw [if_neg h]
    exact h2 h
theorem Gives.pos {α : Type} {c : Prop} [Decidable c] {a b : Option α} {P : α → Prop} (hc : c) (h1 : Gives a P) : Gives (if c then a else b) P := by
  rw [if_pos hc]
  exact h1
theorem Gives.neg {α : Type} {c : Prop} [Decidable c] {a b : Option α} {P : α → Prop} (hc : ¬ c) (h1 : Gives b P) : Gives (if c then a else b) P := by
  rw [if_neg hc]
  exact h1
theorem Gives.mono {α : Type} {o : Option α} {P Q : α → Prop} (h : Gives o P) (hpq : ∀ v, P v → Q v) : Gives o Q := by
  obtain ⟨v, e, hv⟩ := h
  exact ⟨v, e, hpq v hv⟩
theorem Gives.eq {α : Type} {o : Option α} {v : α} (h : o = some v) : Gives o (fun x => x = v) := ⟨v, h, rfl⟩

/-- What a reader reads: at most 2000 bytes. -/
def Rd (b : List Int) : Prop := b.length ≤ 2000 ∧ ∀ x ∈ b, (Lit.int .u8 x).wf = true
theorem rd_byte {b : List Int} (h : Rd b) (i : Int) : 0 ≤ rd b i ∧ rd b i ≤ 255 := by
  unfold rd
  rw [List.getD_eq_getElem?_getD]
  by_cases hi : i.toNat < b.length
  · rw [List.getElem?_eq_getElem hi]
    exact bounds_u8 (h.2 _ (List.getElem_mem hi))
  · rw [List.getElem?_eq_none (by omega)]
    exact ⟨by simp, by simp⟩
theorem xor_nonneg {x y : Int} (hx : 0 ≤ x) (hx2 : x < 4611686018427387904) (hy : 0 ≤ y) (hy2 : y < 4611686018427387904) : 0 ≤ Go.bits .xor .i64 x y ∧ Go.bits .xor .i64 x y < 4611686018427387904 := by
  obtain ⟨a, rfl⟩ := Int.eq_ofNat_of_zero_le hx
  obtain ⟨b, rfl⟩ := Int.eq_ofNat_of_zero_le hy
  have ha : a < 2 ^ 62 := by omega
  have hb : b < 2 ^ 62 := by omega
  have hp : (2 : Nat) ^ 62 ≤ 2 ^ IntKind.i64.bits := Nat.pow_le_pow_right (by decide) (by decide)
  have ha' : a % 2 ^ IntKind.i64.bits = a := Nat.mod_eq_of_lt (Nat.lt_of_lt_of_le ha hp)
  have hb' : b % 2 ^ IntKind.i64.bits = b := Nat.mod_eq_of_lt (Nat.lt_of_lt_of_le hb hp)
  have hxor : a ^^^ b < 2 ^ 62 := Nat.xor_lt_two_pow ha hb
  have e : Go.bits .xor .i64 (a : Int) (b : Int) = ((a ^^^ b : Nat) : Int) := by
    simp only [Go.bits, BitVec.ofInt_natCast, BitVec.toNat_xor, BitVec.toNat_ofNat, ha', hb']
    rw [IntKind.wrap_i64]
    omega
  have e2 : (Int.ofNat a) = (a : Int) := rfl
  have e3 : (Int.ofNat b) = (b : Int) := rfl
  first | rw [e] | (rw [e2, e3, e])
  omega
theorem tmod_at {x n : Int} (hx : 0 ≤ x) (hn : 0 < n) : 0 ≤ Int.tmod x n ∧ Int.tmod x n < n := ⟨Int.tmod_nonneg n hx, Int.tmod_lt_of_pos x hn⟩
theorem tdiv_at {x n : Int} (hx : 0 ≤ x) (hn : 0 < n) : 0 ≤ Int.tdiv x n ∧ Int.tdiv x n ≤ x := by
  rw [Int.tdiv_eq_ediv_of_nonneg hx]
  exact ⟨Int.ediv_nonneg hx (by omega), Int.ediv_le_self n hx⟩

theorem pick {b : List Int} (hb : Rd b) {p n : Int} (k : Nat) (h0 : 0 ≤ p) (h1 : p ≤ 1000000) (hn : 1 ≤ n) : Gives (spec_reader_pick.f (k + 1) b p n) (fun v => (0 ≤ v.1 ∧ v.1 < n) ∧ v.2 = p + 1) := by
  unfold spec_reader_pick.f
  rw [if_neg (by omega), w64 (n := p + 1) (by omega) (by omega)]
  simp only [spec_reader_pick.j0]
  have hl := hb.1
  by_cases hz : b.length = 0
  · have : ((b.length : Int) == 0) = true := by
      rw [hz]
      rfl
    rw [if_pos this]
    exact Gives.of ⟨⟨by omega, by omega⟩, rfl⟩
  · have : ¬ ((b.length : Int) == 0) = true := by
      simp only [beq_iff_eq]
      omega
    rw [if_neg this, w64 (n := p + 1 - 1) (by omega) (by omega)]
    have e : p + 1 - 1 = p := by omega
    rw [e]
    have hlp : 0 < (b.length : Int) := by omega
    by_cases hp : p < (b.length : Int)
    · have hr := rd_byte hb p
      rw [if_pos hp, if_pos h0, if_neg (by omega), w64 (n := rd b p) (by omega) (by omega)]
      exact Gives.of ⟨tmod_at hr.1 (by omega), rfl⟩
    · have m1 := tmod_at h0 hlp
      rw [if_neg hp, if_neg (by omega), if_pos m1.1, if_pos m1.2, w64 (n := p * 7) (by omega) (by omega), w64 (n := p * 7 + 3) (by omega) (by omega)]
      have m2 := tmod_at (show 0 ≤ p * 7 + 3 by omega) hlp
      have d1 := tdiv_at h0 hlp
      rw [if_pos m2.1, if_pos m2.2, if_neg (by omega)]
      generalize Int.tmod p (b.length : Int) = i1 at *
      generalize Int.tmod (p * 7 + 3) (b.length : Int) = i2 at *
      generalize Int.tdiv p (b.length : Int) = q at *
      have r1 := rd_byte hb i1
      have r2 := rd_byte hb i2
      generalize rd b i1 = x1 at *
      generalize rd b i2 = x2 at *
      rw [w64 (n := x1) (by omega) (by omega), w64 (n := x2) (by omega) (by omega), w64 (n := x1 * 131) (by omega) (by omega), w64 (n := x2 * 1117) (by omega) (by omega), w64 (n := x1 * 131 + x2 * 1117) (by omega) (by omega),
        w64 (n := p * 29) (by omega) (by omega), w64 (n := x1 * 131 + x2 * 1117 + p * 29) (by omega) (by omega), w64 (n := q) (by omega) (by omega), w64 (n := q * 53) (by omega) (by omega), w64 (n := x1 * 131 + x2 * 1117 + p * 29 + q * 53) (by omega) (by omega)]
      have hy : 0 ≤ x1 * 131 + x2 * 1117 + p * 29 + q * 53 ∧ x1 * 131 + x2 * 1117 + p * 29 + q * 53 < 1000000000 := by omega
      generalize x1 * 131 + x2 * 1117 + p * 29 + q * 53 = y at *
      have d2 := tdiv_at hy.1 (show (0 : Int) < 64 by omega)
      rw [w64 (n := Int.tdiv y 64) (by omega) (by omega)]
      have hx := xor_nonneg hy.1 (by omega) d2.1 (by omega)
      exact Gives.of ⟨tmod_at hx.1 (by omega), rfl⟩

theorem rd_mem {l : List Int} {i : Int} (h0 : 0 ≤ i) (h1 : i < (l.length : Int)) : rd l i ∈ l := by
  unfold rd
  have hi : i.toNat < l.length := by omega
  rw [List.getD_eq_getElem?_getD, List.getElem?_eq_getElem hi]
  exact List.getElem_mem hi
theorem one {b : List Int} (hb : Rd b) {p : Int} (k : Nat) {l : List Int} (h0 : 0 ≤ p) (h1 : p ≤ 1000000) (hl : 1 ≤ l.length) : Gives (spec_reader_one.f (k + 1) b p l) (fun v => v.1 ∈ l ∧ v.2 = p + 1) := by
  unfold spec_reader_one.f
  refine Gives.bind (pick hb k h0 h1 (by omega)) (fun v hv => ?_)
  rw [if_pos hv.1.1, if_pos hv.1.2]
  exact Gives.of ⟨rd_mem hv.1.1 hv.1.2, hv.2⟩

theorem anyPosts_j {b : List Int} (hb : Rd b) (k : Nat) {p : Int} (h0 : 0 ≤ p) (h1 : p ≤ 800000) (xs : List S27) (c : Bool) (hc : c = true → 1 ≤ xs.length) (hl : xs.length ≤ 41) :
    Gives (spec_anyPosts.j1 (k + 2) xs c b p) (fun v => v.1.length ≤ 41 ∧ 0 ≤ v.2 ∧ v.2 ≤ p + 4) := by
  simp only [spec_anyPosts.j1]
  refine Gives.ite (fun h => ?_) (fun _ => Gives.of ⟨hl, h0, show p ≤ p + 4 by omega⟩)
  have hx := hc h
  refine Gives.bind (pick hb k h0 (by omega) (by omega)) (fun v1 g1 => ?_)
  refine Gives.bind (one hb k (by omega) (by omega) (by decide)) (fun v2 g2 => ?_)
  refine Gives.bind (one hb k (by omega) (by omega) (by decide)) (fun v3 g3 => ?_)
  refine Gives.bind (one hb k (by omega) (by omega) (by decide)) (fun v4 g4 => ?_)
  rw [if_pos g1.1.1, if_pos g1.1.2]
  exact Gives.of ⟨by simpa using hl, show 0 ≤ v4.2 by omega, show v4.2 ≤ p + 4 by omega⟩
theorem anyPosts_l {b : List Int} (hb : Rd b) (d : Nat) : ∀ (k : Nat) (p n : Int) (xs : List S27), n = d → d + 4 < k → 0 ≤ p → p + 3 * n ≤ 700000 → xs.length + d ≤ 41 →
    Gives (spec_anyPosts.l0 k xs n b p) (fun v => v.1.length ≤ 41 ∧ 0 ≤ v.2 ∧ v.2 ≤ p + 3 * n + 5) := by
  induction d with
  | zero =>
    intro k p n xs hn hk h0 h1 hl
    obtain ⟨k, rfl⟩ : ∃ m, k = m + 4 := ⟨k - 4, by omega⟩
    simp only [spec_anyPosts.l0]
    rw [if_neg (by omega)]
    refine Gives.ite (fun hx => ?_) (fun _ => ?_)
    · refine Gives.bind (pick hb _ h0 (by omega) (by omega)) (fun v1 g1 => ?_)
      exact (anyPosts_j hb (k + 1) (by omega) (by omega) xs _ (fun _ => by omega) (by omega)).mono (fun v g => ⟨g.1, g.2.1, by omega⟩)
    · exact (anyPosts_j hb (k + 1) h0 (by omega) xs false (fun h => by cases h) (by omega)).mono (fun v g => ⟨g.1, g.2.1, by omega⟩)
  | succ d ih =>
    intro k p n xs hn hk h0 h1 hl
    obtain ⟨k, rfl⟩ : ∃ m, k = m + 2 := ⟨k - 2, by omega⟩
    simp only [spec_anyPosts.l0]
    rw [if_pos (by omega)]
    refine Gives.bind (pick hb k h0 (by omega) (by omega)) (fun v1 g1 => ?_)
    refine Gives.bind (pick hb k (by omega) (by omega) (by omega)) (fun v2 g2 => ?_)
    refine Gives.bind (one hb k (by omega) (by omega) (by decide)) (fun v3 g3 => ?_)
    rw [if_pos (by omega), w64 (n := n - 1) (by omega) (by omega)]
    refine (ih (k + 1) v3.2 (n - 1) _ (by omega) (by omega) (by omega) (by omega) ?_).mono (fun v g => ⟨g.1, g.2.1, by omega⟩)
    rw [List.length_append, List.length_singleton]
    omega
theorem anyPosts {b : List Int} (hb : Rd b) {k : Nat} (hk : 60 < k) {p : Int} (h0 : 0 ≤ p) (h1 : p ≤ 100000) : Gives (spec_anyPosts.f k b p) (fun v => v.1.length ≤ 41 ∧ 0 ≤ v.2 ∧ v.2 ≤ p + 200) := by
  obtain ⟨k, rfl⟩ : ∃ m, k = m + 1 := ⟨k - 1, by omega⟩
  unfold spec_anyPosts.f
  refine Gives.bind (one hb k h0 (by omega) (by decide)) (fun v1 g1 => ?_)
  have hm := g1.1
  simp only [List.mem_cons, List.not_mem_nil, or_false] at hm
  refine (anyPosts_l hb v1.1.toNat (k + 1) v1.2 v1.1 [] (by omega) (by omega) (by omega) (by omega) ?_).mono (fun v g => ⟨g.1, g.2.1, by omega⟩)
  rw [List.length_nil]
  omega

theorem newReader {l : List Int} (hx : ∀ x ∈ l, (Lit.int .u8 x).wf = true) : Gives (spec_newReader.f l) (fun v => Rd v.1 ∧ v.2 = 0) := by
  unfold spec_newReader.f
  by_cases h : (l.length : Int) > 2000
  · rw [if_pos h, if_pos (by omega)]
    exact Gives.of ⟨⟨by simp only [List.length_take]; omega, fun x hm => hx x (List.mem_of_mem_take hm)⟩, rfl⟩
  · rw [if_neg h]
    exact Gives.of ⟨⟨show l.length ≤ 2000 by omega, hx⟩, rfl⟩

theorem drawBal {l : List Int} {k : Nat} (hk : 60 < k) (hx : ∀ x ∈ l, (Lit.int .u8 x).wf = true) : Gives (spec_DrawBalanceOf.f k l) (fun v => v.1.length ≤ 41 ∧ -1 ≤ v.2 ∧ v.2 ≤ 6) := by
  unfold spec_DrawBalanceOf.f
  refine Gives.bind (newReader hx) (fun v h => ?_)
  refine Gives.bind (anyPosts h.1 hk (by omega) (by omega)) (fun v1 g1 => ?_)
  obtain ⟨k, rfl⟩ : ∃ m, k = m + 1 := ⟨k - 1, by omega⟩
  refine Gives.bind (pick h.1 k (by omega) (by omega) (by omega)) (fun v2 g2 => ?_)
  rw [w64 (n := v2.1 - 1) (by omega) (by omega)]
  exact Gives.of ⟨g1.1, show -1 ≤ v2.1 - 1 by omega, show v2.1 - 1 ≤ 6 by omega⟩
theorem wf_small {a : Int} (h : -1000 ≤ a) (h2 : a ≤ 1000) : (Lit.int .i64 a).wf = true := by
  simp [Lit.wf, IntKind.min, IntKind.max, IntKind.signed, IntKind.bits]
  omega

def swapP (p : S27) : S27 := ⟨p.f1, p.f0, p.f2⟩
theorem ok_swap (p : S27) : okPost (swapP p) = okPost p := by
  unfold okPost swapP
  simp only [decide_eq_decide]
  constructor
  · rintro ⟨a, b, c, d⟩
    exact ⟨b, a, fun h => c h.symm, d⟩
  · rintro ⟨a, b, c, d⟩
    exact ⟨b, a, fun h => c h.symm, d⟩
theorem v_swap (xs : List S27) : vPosts (xs.map swapP) = vPosts xs := by
  unfold vPosts
  rw [List.length_map, List.all_map]
  congr 2
  funext p
  exact ok_swap p
theorem bal_swap (xs : List S27) (a : Int) (i : Nat) : i ≤ xs.length → impl_BalanceOf.bal ((xs.take i).map swapP) a = -impl_BalanceOf.bal (xs.take i) a := by
  induction i with
  | zero => exact fun _ => rfl
  | succ i ih =>
    intro hi
    have h := ih (by omega)
    rw [List.take_succ_eq_append_getElem (by omega), List.map_append, List.map_cons, List.map_nil, impl_BalanceOf.bal_snoc, impl_BalanceOf.bal_snoc, h]
    generalize xs[i] = p
    show -impl_BalanceOf.bal (xs.take i) a - (if p.f1 = a then p.f2 else 0) + (if p.f0 = a then p.f2 else 0) = _
    omega
theorem balV_swap (xs : List S27) (a : Int) : balV (xs.map swapP) a = -balV xs a := by
  unfold balV
  rw [v_swap]
  have := bal_swap xs a xs.length (Nat.le_refl _)
  rw [List.take_length] at this
  by_cases h : vPosts xs = true
  · rw [if_pos h, if_pos h, this]
  · rw [if_neg h, if_neg h]
    rfl
theorem balV_bd (xs : List S27) (a : Int) : -40000000000 ≤ balV xs a ∧ balV xs a ≤ 40000000000 := by
  unfold balV
  by_cases h : vPosts xs = true
  · rw [if_pos h]
    have h1 := bal_bd h a xs.length (Nat.le_refl _)
    rw [List.take_length] at h1
    have := (vPosts_of h).1
    omega
  · rw [if_neg h]
    omega

theorem back (xs : List S27) (hn : xs.length ≤ 41) (a n : Int) (ha : (Lit.int .i64 a).wf = true) (d : Nat) : ∀ (k i : Nat), i + d = xs.length → d + 50 < k →
    laws_FnBalanceOfReverse.l0 k xs a n ((xs.take i).map swapP) (i : Int) = some (balV (xs.map swapP) a == wrap64 (-n)) := by
  induction d with
  | zero =>
    intro k i hi hk
    obtain ⟨k, rfl⟩ : ∃ m, k = m + 1 := ⟨k - 1, by omega⟩
    simp only [laws_FnBalanceOfReverse.l0]
    rw [if_neg (by omega), List.take_of_length_le (by omega), iBal _ a (by omega) ha]
    rfl
  | succ d ih =>
    intro k i hi hk
    obtain ⟨k, rfl⟩ : ∃ m, k = m + 1 := ⟨k - 1, by omega⟩
    have hlt : i < xs.length := by omega
    simp only [laws_FnBalanceOfReverse.l0]
    have e : (xs.take i).map swapP ++ [(⟨(rd_T27 xs (i : Int)).f1, (rd_T27 xs (i : Int)).f0, (rd_T27 xs (i : Int)).f2⟩ : S27)] = (xs.take (i + 1)).map swapP := by
      rw [rd27 xs hlt, List.take_succ_eq_append_getElem hlt, List.map_append]
      rfl
    rw [if_pos (by omega), if_pos (by omega), if_pos (by simp; omega), e, step1 hlt (by omega), ih k (i + 1) (by omega) (by omega)]
end FnBalanceOfReverseLaw
open FnBalanceOfReverseLaw

theorem FnBalanceOfReverse : laws_FnBalanceOfReverse.Pure := by
  intro l _ _ hx
  refine ⟨200, ?_⟩
  unfold laws_FnBalanceOfReverse.f
  by_cases hl : (l.length : Int) > 1048576
  · rw [if_pos hl]
  · rw [if_neg hl]
    obtain ⟨⟨xs, a⟩, hd, hn, ha1, ha2⟩ := drawBal (k := 200) (by omega) hx
    simp only at hn ha1 ha2
    have ha : (Lit.int .i64 a).wf = true := wf_small (by omega) (by omega)
    rw [hd]
    simp only [Option.bind_some]
    rw [iBal xs a (by omega) ha, sBal xs (by omega) a (by omega)]
    simp only [Option.bind_some, if_true]
    have hb := balV_bd xs a
    have := back xs hn a (balV xs a) ha xs.length 200 0 (by omega) (by omega)
    simp only [List.take_zero, List.map_nil] at this
    have e : ((0 : Nat) : Int) = 0 := rfl
    rw [e] at this
    rw [this, balV_swap, w64 (by omega) (by omega)]
    simp

end Go.Proofs.Ytmccplnkagfecaa.Pure

/- What the printed functions of FnValidTrades compute is true at every input. Conditions: none beyond the arguments' kinds. -/
import Derived.Test.YtdfkdljddjbfnaaGFnValidTradesx4
import Derived.OpenShut
namespace Go.Proofs.Ytdfkdljddjbfnaa.Pure
open Go.RowKit Go.Proofs.Ytdfkdljddjbfnaa.PFnValidTrades Go.Proofs.YtdfkdljddjbfnaaW.PrintWords Go.Proofs.YtdfkdljddjbfnaaW.PrintLast Go.Proofs.YtdfkdljddjbfnaaW.PrintMore
set_option linter.unusedVariables false
set_option linter.unusedSimpArgs false

namespace FnValidTradesLaw
theorem rdT (xs : List S42) {i : Nat} (h : i < xs.length) : rd_T42 xs (i : Int) = xs[i] := by
  unfold rd_T42
  rw [List.getD_eq_getElem?_getD, Int.toNat_natCast, List.getElem?_eq_getElem h]
  rfl

/-- What valid trades are: the words of the walk's own text. -/
theorem iTrades (xs : List S42) : impl_ValidTrades.f xs = some (impl_ValidTrades.v xs) := rfl
theorem okT_of {p : S42} (h : impl_ValidTrades.okT p = true) : (0 ≤ p.f0 ∧ p.f0 ≤ 36524) ∧ (-9999 ≤ p.f1 ∧ p.f1 ≤ 9999) ∧ p.f1 ≠ 0 ∧ 1 ≤ p.f2 ∧ p.f2 ≤ 50000 := of_decide_eq_true h
theorem v_of {xs : List S42} (h : impl_ValidTrades.v xs = true) : xs.length ≤ 16 ∧ ∀ i, i < xs.length → impl_ValidTrades.ok xs i = true := by
  unfold impl_ValidTrades.v at h
  simp only [Bool.and_eq_true, decide_eq_true_eq, List.all_eq_true] at h
  exact ⟨h.1, fun i hi => h.2 i (List.mem_range.2 hi)⟩
theorem v_mem {xs : List S42} (h : impl_ValidTrades.v xs = true) : ∀ p ∈ xs, impl_ValidTrades.okT p = true := by
  intro p hp
  obtain ⟨i, hi, rfl⟩ := List.mem_iff_getElem.1 hp
  have := (v_of h).2 i hi
  unfold impl_ValidTrades.ok at this
  rw [rdT xs hi, Bool.and_eq_true] at this
  exact this.1

theorem w64 {n : Int} (h1 : -9223372036854775808 ≤ n) (h2 : n ≤ 9223372036854775807) : wrap64 n = n := by
  unfold wrap64
  omega

theorem step1 {i n : Nat} (h : i < n) (hn : n ≤ 4611686018427387904) : wrap64 ((i : Int) + 1) = ((i + 1 : Nat) : Int) := by
  rw [w64 (by omega) (by omega)]
  omega

theorem inR (a l h : Int) : spec_inRange.f a l h = some (decide (l ≤ a ∧ a ≤ h)) := by
  unfold spec_inRange.f
  split <;> simp only [true_and, false_and, decide_false, *]

theorem range_split (f : Nat → Bool) (n i : Nat) (h : i < n) : ((List.range n).drop i).all f = (f i && ((List.range n).drop (i + 1)).all f) := by
  rw [List.drop_eq_getElem_cons (by simpa using h), List.all_cons, List.getElem_range]
theorem sTrades_l (xs : List S42) (hn : xs.length ≤ 4611686018427387904) (d : Nat) : ∀ (k i : Nat), i + d = xs.length → d < k →
    spec_validTrades.l0 k xs (i : Int) = some (((List.range xs.length).drop i).all (impl_ValidTrades.ok xs) && decide (xs.length ≤ 16)) := by
  induction d with
  | zero =>
    intro k i hi hk
    obtain ⟨k, rfl⟩ : ∃ m, k = m + 1 := ⟨k - 1, by omega⟩
    simp only [spec_validTrades.l0]
    rw [if_neg (by omega), List.drop_eq_nil_of_le (by rw [List.length_range]; omega)]
    simp only [List.all_nil, Bool.true_and, Option.some.injEq, decide_eq_decide]
    omega
  | succ d ih =>
    intro k i hi hk
    obtain ⟨k, rfl⟩ : ∃ m, k = m + 1 := ⟨k - 1, by omega⟩
    have hlt : i < xs.length := by omega
    have e : impl_ValidTrades.ok xs i = (impl_ValidTrades.okT (rd_T42 xs (i : Int)) && (decide (i = 0) || decide ((rd_T42 xs ((i : Int) - 1)).f0 ≤ (rd_T42 xs (i : Int)).f0))) := rfl
    have e1 : ∀ p : S42, impl_ValidTrades.okT p = decide ((0 ≤ p.f0 ∧ p.f0 ≤ 36524) ∧ (-9999 ≤ p.f1 ∧ p.f1 ≤ 9999) ∧ p.f1 ≠ 0 ∧ 1 ≤ p.f2 ∧ p.f2 ≤ 50000) := fun _ => rfl
    simp only [spec_validTrades.l0]
    rw [if_pos (by omega), if_pos (by omega), step1 hlt hn, ih k (i + 1) (by omega) (by omega), inR, inR, inR, range_split _ _ _ hlt, e, e1]
    simp only [Option.bind_some, decide_eq_true_eq]
    rw [w64 (n := (i : Int) - 1) (by omega) (by omega)]
    generalize ((List.range xs.length).drop (i + 1)).all (impl_ValidTrades.ok xs) = R
    generalize decide (xs.length ≤ 16) = L
    generalize rd_T42 xs ((i : Int) - 1) = q
    generalize rd_T42 xs (i : Int) = p
    by_cases h1 : 0 ≤ p.f0 ∧ p.f0 ≤ 36524
    · by_cases h2 : -9999 ≤ p.f1 ∧ p.f1 ≤ 9999
      · by_cases h3 : p.f1 = 0
        · rw [if_pos h1, if_pos h2, if_pos h3, decide_eq_false (fun h : (0 ≤ p.f0 ∧ p.f0 ≤ 36524) ∧ (-9999 ≤ p.f1 ∧ p.f1 ≤ 9999) ∧ p.f1 ≠ 0 ∧ 1 ≤ p.f2 ∧ p.f2 ≤ 50000 => h.2.2.1 h3)]
          rfl
        · by_cases h4 : 1 ≤ p.f2 ∧ p.f2 ≤ 50000
          · rw [if_pos h1, if_pos h2, if_neg h3, if_pos h4, decide_eq_true (show (0 ≤ p.f0 ∧ p.f0 ≤ 36524) ∧ (-9999 ≤ p.f1 ∧ p.f1 ≤ 9999) ∧ p.f1 ≠ 0 ∧ 1 ≤ p.f2 ∧ p.f2 ≤ 50000 from ⟨h1, h2, h3, h4⟩)]
            by_cases h5 : i = 0
            · rw [if_neg (by omega), decide_eq_true h5]
              simp
            · rw [if_pos (by omega), if_pos (by omega), if_pos (by omega), decide_eq_false h5]
              by_cases h6 : p.f0 < q.f0
              · rw [if_pos h6, decide_eq_false (show ¬ q.f0 ≤ p.f0 by omega)]
                simp
              · rw [if_neg h6, decide_eq_true (show q.f0 ≤ p.f0 by omega)]
                simp
          · rw [if_pos h1, if_pos h2, if_neg h3, if_neg h4, decide_eq_false (fun h : (0 ≤ p.f0 ∧ p.f0 ≤ 36524) ∧ (-9999 ≤ p.f1 ∧ p.f1 ≤ 9999) ∧ p.f1 ≠ 0 ∧ 1 ≤ p.f2 ∧ p.f2 ≤ 50000 => h4 h.2.2.2)]
            rfl
      · rw [if_pos h1, if_neg h2, decide_eq_false (fun h : (0 ≤ p.f0 ∧ p.f0 ≤ 36524) ∧ (-9999 ≤ p.f1 ∧ p.f1 ≤ 9999) ∧ p.f1 ≠ 0 ∧ 1 ≤ p.f2 ∧ p.f2 ≤ 50000 => h2 h.2.1)]
        rfl
    · rw [if_neg h1, decide_eq_false (fun h : (0 ≤ p.f0 ∧ p.f0 ≤ 36524) ∧ (-9999 ≤ p.f1 ∧ p.f1 ≤ 9999) ∧ p.f1 ≠ 0 ∧ 1 ≤ p.f2 ∧ p.f2 ≤ 50000 => h1 h.1)]
      rfl
theorem sTrades (xs : List S42) (hn : xs.length ≤ 4611686018427387904) {k : Nat} (hk : xs.length < k) : spec_validTrades.f k xs = some (impl_ValidTrades.v xs) := by
  unfold spec_validTrades.f impl_ValidTrades.v
  have := sTrades_l xs hn xs.length k 0 (by omega) (by omega)
  rw [Bool.and_comm]
  simpa using this

/-- A computation that answers, and its answer is P. -/
def Gives {α : Type} (o : Option α) (P : α → Prop) : Prop := ∃ v, o = some v ∧ P v
theorem Gives.of {α : Type} {v : α} {P : α → Prop} (h : P v) : Gives (some v) P := ⟨v, rfl, h⟩
theorem Gives.bind {α β : Type} {o : Option α} {f : α → Option β} {P : α → Prop} {Q : β → Prop} (h : Gives o P) (hf : ∀ v, P v → Gives (f v) Q) : Gives (o.bind f) Q := by
  obtain ⟨v, rfl, hv⟩ := h
  exact hf v hv
theorem Gives.ite {α : Type} {c : Prop} [Decidable c] {a b : Option α} {P : α → Prop} (h1 : c → Gives a P) (h2 : ¬ c → Gives b P) : Gives (if c then a else b) P := by
  by_cases h : c
  · rw [if_pos h]
    exact h1 h
  · rw [if_neg h]
    exact h2 h
theorem Gives.pos {α : Type} {c : Prop} [Decidable c] {a b : Option α} {P : α → Prop} (hc : c) (h1 : Gives a P) : Gives (if c then a else b) P := by
  rw [if_pos hc]
  exact h1
theorem Gives.neg {α : Type} {c : Prop} [Decidable c] {a b : Option α} {P : α → Prop} (hc : ¬ c) (h1 : Gives b P) : Gives (if c then a else b) P := by
  rw [if_neg hc]
  exact h1
theorem Gives.mono {α : Type} {o : Option α} {P Q : α → Prop} (h : Gives o P) (hpq : ∀ v, P v → Q v) : Gives o Q := by
  obtain ⟨v, e, hv⟩ := h
  exact ⟨v, e, hpq v hv⟩
theorem Gives.eq {α : Type} {o : Option α} {v : α} (h : o = some v) : Gives o (fun x => x = v) := ⟨v, h, rfl⟩

/-- What a reader reads: at most 2000 bytes. -/
def Rd (b : List Int) : Prop := b.length ≤ 2000 ∧ ∀ x ∈ b, (Lit.int .u8 x).wf = true
theorem rd_byte {b : List Int} (h : Rd b) (i : Int) : 0 ≤ rd b i ∧ rd b i ≤ 255 := by
  unfold rd
  rw [List.getD_eq_getElem?_getD]
  by_cases hi : i.toNat < b.length
  · rw [List.getElem?_eq_getElem hi]
    exact bounds_u8 (h.2 _ (List.getElem_mem hi))
  · rw [List.getElem?_eq_none (by omega)]
    exact ⟨by simp, by simp⟩
theorem xor_nonneg {x y : Int} (hx : 0 ≤ x) (hx2 : x < 4611686018427387904) (hy : 0 ≤ y) (hy2 : y < 4611686018427387904) : 0 ≤ Go.bits .xor .i64 x y ∧ Go.bits .xor .i64 x y < 4611686018427387904 := by
  obtain ⟨a, rfl⟩ := Int.eq_ofNat_of_zero_le hx
  obtain ⟨b, rfl⟩ := Int.eq_ofNat_of_zero_le hy
  have ha : a < 2 ^ 62 := by omega
  have hb : b < 2 ^ 62 := by omega
  have hp : (2 : Nat) ^ 62 ≤ 2 ^ IntKind.i64.bits := Nat.pow_le_pow_right (by decide) (by decide)
  have ha' : a % 2 ^ IntKind.i64.bits = a := Nat.mod_eq_of_lt (Nat.lt_of_lt_of_le ha hp)
  have hb' : b % 2 ^ IntKind.i64.bits = b := Nat.mod_eq_of_lt (Nat.lt_of_lt_of_le hb hp)
  have hxor : a ^^^ b < 2 ^ 62 := Nat.xor_lt_two_pow ha hb
  have e : Go.bits .xor .i64 (a : Int) (b : Int) = ((a ^^^ b : Nat) : Int) := by
    simp only [Go.bits, BitVec.ofInt_natCast, BitVec.toNat_xor, BitVec.toNat_ofNat, ha', hb']
    rw [IntKind.wrap_i64]
    omega
  have e2 : (Int.ofNat a) = (a : Int) := rfl
  have e3 : (Int.ofNat b) = (b : Int) := rfl
  first | rw [e] | (rw [e2, e3, e])
  omega
theorem tmod_at {x n : Int} (hx : 0 ≤ x) (hn : 0 < n) : 0 ≤ Int.tmod x n ∧ Int.tmod x n < n := ⟨Int.tmod_nonneg n hx, Int.tmod_lt_of_pos x hn⟩
theorem tdiv_at {x n : Int} (hx : 0 ≤ x) (hn : 0 < n) : 0 ≤ Int.tdiv x n ∧ Int.tdiv x n ≤ x := by
  rw [Int.tdiv_eq_ediv_of_nonneg hx]
  exact ⟨Int.ediv_nonneg hx (by omega), Int.ediv_le_self n hx⟩

theorem pick {b : List Int} (hb : Rd b) {p n : Int} (k : Nat) (h0 : 0 ≤ p) (h1 : p ≤ 1000000) (hn : 1 ≤ n) : Gives (spec_reader_pick.f (k + 1) b p n) (fun v => (0 ≤ v.1 ∧ v.1 < n) ∧ v.2 = p + 1) := by
  unfold spec_reader_pick.f
  rw [if_neg (by omega), w64 (n := p + 1) (by omega) (by omega)]
  simp only [spec_reader_pick.j0]
  have hl := hb.1
  by_cases hz : b.length = 0
  · have : ((b.length : Int) == 0) = true := by
      rw [hz]
      rfl
    rw [if_pos this]
    exact Gives.of ⟨⟨by omega, by omega⟩, rfl⟩
  · have : ¬ ((b.length : Int) == 0) = true := by
      simp only [beq_iff_eq]
      omega
    rw [if_neg this, w64 (n := p + 1 - 1) (by omega) (by omega)]
    have e : p + 1 - 1 = p := by omega
    rw [e]
    have hlp : 0 < (b.length : Int) := by omega
    by_cases hp : p < (b.length : Int)
    · have hr := rd_byte hb p
      rw [if_pos hp, if_pos h0, if_neg (by omega), w64 (n := rd b p) (by omega) (by omega)]
      exact Gives.of ⟨tmod_at hr.1 (by omega), rfl⟩
    · have m1 := tmod_at h0 hlp
      rw [if_neg hp, if_neg (by omega), if_pos m1.1, if_pos m1.2, w64 (n := p * 7) (by omega) (by omega), w64 (n := p * 7 + 3) (by omega) (by omega)]
      have m2 := tmod_at (show 0 ≤ p * 7 + 3 by omega) hlp
      have d1 := tdiv_at h0 hlp
      rw [if_pos m2.1, if_pos m2.2, if_neg (by omega)]
      generalize Int.tmod p (b.length : Int) = i1 at *
      generalize Int.tmod (p * 7 + 3) (b.length : Int) = i2 at *
      generalize Int.tdiv p (b.length : Int) = q at *
      have r1 := rd_byte hb i1
      have r2 := rd_byte hb i2
      generalize rd b i1 = x1 at *
      generalize rd b i2 = x2 at *
      rw [w64 (n := x1) (by omega) (by omega), w64 (n := x2) (by omega) (by omega), w64 (n := x1 * 131) (by omega) (by omega), w64 (n := x2 * 1117) (by omega) (by omega), w64 (n := x1 * 131 + x2 * 1117) (by omega) (by omega),
        w64 (n := p * 29) (by omega) (by omega), w64 (n := x1 * 131 + x2 * 1117 + p * 29) (by omega) (by omega), w64 (n := q) (by omega) (by omega), w64 (n := q * 53) (by omega) (by omega), w64 (n := x1 * 131 + x2 * 1117 + p * 29 + q * 53) (by omega) (by omega)]
      have hy : 0 ≤ x1 * 131 + x2 * 1117 + p * 29 + q * 53 ∧ x1 * 131 + x2 * 1117 + p * 29 + q * 53 < 1000000000 := by omega
      generalize x1 * 131 + x2 * 1117 + p * 29 + q * 53 = y at *
      have d2 := tdiv_at hy.1 (show (0 : Int) < 64 by omega)
      rw [w64 (n := Int.tdiv y 64) (by omega) (by omega)]
      have hx := xor_nonneg hy.1 (by omega) d2.1 (by omega)
      exact Gives.of ⟨tmod_at hx.1 (by omega), rfl⟩

theorem rd_mem {l : List Int} {i : Int} (h0 : 0 ≤ i) (h1 : i < (l.length : Int)) : rd l i ∈ l := by
  unfold rd
  have hi : i.toNat < l.length := by omega
  rw [List.getD_eq_getElem?_getD, List.getElem?_eq_getElem hi]
  exact List.getElem_mem hi
theorem one {b : List Int} (hb : Rd b) {p : Int} (k : Nat) {l : List Int} (h0 : 0 ≤ p) (h1 : p ≤ 1000000) (hl : 1 ≤ l.length) : Gives (spec_reader_one.f (k + 1) b p l) (fun v => v.1 ∈ l ∧ v.2 = p + 1) := by
  unfold spec_reader_one.f
  refine Gives.bind (pick hb k h0 h1 (by omega)) (fun v hv => ?_)
  rw [if_pos hv.1.1, if_pos hv.1.2]
  exact Gives.of ⟨rd_mem hv.1.1 hv.1.2, hv.2⟩

theorem anyTrades_j {b : List Int} (hb : Rd b) (k : Nat) {p : Int} (h0 : 0 ≤ p) (h1 : p ≤ 800000) (xs : List S42) (c : Bool) (hc : c = true → 1 ≤ xs.length) (hl : xs.length ≤ 17) :
    Gives (spec_anyTrades.j1 (k + 2) xs c b p) (fun v => v.1.length ≤ 17 ∧ 0 ≤ v.2 ∧ v.2 ≤ p + 4) := by
  simp only [spec_anyTrades.j1]
  refine Gives.ite (fun h => ?_) (fun _ => Gives.of ⟨hl, h0, show p ≤ p + 4 by omega⟩)
  have hx := hc h
  refine Gives.bind (pick hb k h0 (by omega) (by omega)) (fun v1 g1 => ?_)
  refine Gives.bind (one hb k (by omega) (by omega) (by decide)) (fun v2 g2 => ?_)
  refine Gives.bind (one hb k (by omega) (by omega) (by decide)) (fun v3 g3 => ?_)
  refine Gives.bind (one hb k (by omega) (by omega) (by decide)) (fun v4 g4 => ?_)
  rw [if_pos g1.1.1, if_pos g1.1.2]
  exact Gives.of ⟨by simpa using hl, show 0 ≤ v4.2 by omega, show v4.2 ≤ p + 4 by omega⟩
theorem anyTrades_l {b : List Int} (hb : Rd b) (d : Nat) : ∀ (k : Nat) (p n day : Int) (xs : List S42), n = d → d + 4 < k → 0 ≤ p → p + 3 * n ≤ 700000 → xs.length + d ≤ 17 →
    Gives (spec_anyTrades.l0 k xs day n b p) (fun v => v.1.length ≤ 17 ∧ 0 ≤ v.2 ∧ v.2 ≤ p + 3 * n + 5) := by
  induction d with
  | zero =>
    intro k p n day xs hn hk h0 h1 hl
    obtain ⟨k, rfl⟩ : ∃ m, k = m + 4 := ⟨k - 4, by omega⟩
    simp only [spec_anyTrades.l0]
    rw [if_neg (by omega)]
    refine Gives.ite (fun hx => ?_) (fun _ => ?_)
    · refine Gives.bind (pick hb _ h0 (by omega) (by omega)) (fun v1 g1 => ?_)
      exact (anyTrades_j hb (k + 1) (by omega) (by omega) xs _ (fun _ => by omega) (by omega)).mono (fun v g => ⟨g.1, g.2.1, by omega⟩)
    · exact (anyTrades_j hb (k + 1) h0 (by omega) xs false (fun h => by cases h) (by omega)).mono (fun v g => ⟨g.1, g.2.1, by omega⟩)
  | succ d ih =>
    intro k p n day xs hn hk h0 h1 hl
    obtain ⟨k, rfl⟩ : ∃ m, k = m + 2 := ⟨k - 2, by omega⟩
    simp only [spec_anyTrades.l0]
    rw [if_pos (by omega)]
    refine Gives.bind (one hb k h0 (by omega) (by decide)) (fun v1 g1 => ?_)
    refine Gives.bind (pick hb k (by omega) (by omega) (by omega)) (fun v2 g2 => ?_)
    rw [if_pos (by omega)]
    refine Gives.bind (pick hb k (by omega) (by omega) (by omega)) (fun v3 g3 => ?_)
    rw [w64 (n := n - 1) (by omega) (by omega)]
    refine (ih (k + 1) v3.2 (n - 1) _ _ (by omega) (by omega) (by omega) (by omega) ?_).mono (fun v g => ⟨g.1, g.2.1, by omega⟩)
    rw [List.length_append, List.length_singleton]
    omega
theorem anyTrades {b : List Int} (hb : Rd b) {k : Nat} (hk : 60 < k) {p : Int} (h0 : 0 ≤ p) (h1 : p ≤ 100000) : Gives (spec_anyTrades.f k b p) (fun v => v.1.length ≤ 17 ∧ 0 ≤ v.2 ∧ v.2 ≤ p + 200) := by
  obtain ⟨k, rfl⟩ : ∃ m, k = m + 1 := ⟨k - 1, by omega⟩
  unfold spec_anyTrades.f
  refine Gives.bind (pick hb k h0 (by omega) (by omega)) (fun v0 g0 => ?_)
  refine Gives.bind (one hb k (by omega) (by omega) (by decide)) (fun v1 g1 => ?_)
  have hm := g1.1
  simp only [List.mem_cons, List.not_mem_nil, or_false] at hm
  refine (anyTrades_l hb v1.1.toNat (k + 1) v1.2 v1.1 _ [] (by omega) (by omega) (by omega) (by omega) ?_).mono (fun v g => ⟨g.1, g.2.1, by omega⟩)
  rw [List.length_nil]
  omega

theorem newReader {l : List Int} (hx : ∀ x ∈ l, (Lit.int .u8 x).wf = true) : Gives (spec_newReader.f l) (fun v => Rd v.1 ∧ v.2 = 0) := by
  unfold spec_newReader.f
  by_cases h : (l.length : Int) > 2000
  · rw [if_pos h, if_pos (by omega)]
    exact Gives.of ⟨⟨by simp only [List.length_take]; omega, fun x hm => hx x (List.mem_of_mem_take hm)⟩, rfl⟩
  · rw [if_neg h]
    exact Gives.of ⟨⟨show l.length ≤ 2000 by omega, hx⟩, rfl⟩

theorem draw {l : List Int} {k : Nat} (hk : 60 < k) (hx : ∀ x ∈ l, (Lit.int .u8 x).wf = true) : Gives (spec_DrawValidTrades.f k l) (fun v => v.length ≤ 17) := by
  unfold spec_DrawValidTrades.f
  refine Gives.bind (newReader hx) (fun v h => ?_)
  exact Gives.bind (anyTrades h.1 hk (by omega) (by omega)) (fun v1 g1 => Gives.of g1.1)
theorem v_take {xs : List S42} (h : impl_ValidTrades.v xs = true) (n : Nat) (hn : n ≤ xs.length) : impl_ValidTrades.v (xs.take n) = true := by
  have hv := v_of h
  have hl : (xs.take n).length = n := by rw [List.length_take]; omega
  refine impl_ValidTrades.yes (by omega) (fun i hi => ?_)
  have h1 := hv.2 i (by omega)
  unfold impl_ValidTrades.ok at h1 ⊢
  have e : ∀ j : Nat, j < n → rd_T42 (xs.take n) (j : Int) = rd_T42 xs (j : Int) := by
    intro j hj
    rw [rdT _ (by omega), rdT xs (by omega)]
    simp
  rw [e i (by omega)]
  by_cases h0 : i = 0
  · rw [decide_eq_true h0] at h1 ⊢
    simpa using h1
  · have e2 : (i : Int) - 1 = ((i - 1 : Nat) : Int) := by omega
    rw [e2] at h1 ⊢
    rw [e (i - 1) (by omega)]
    exact h1
end FnValidTradesLaw
open FnValidTradesLaw

theorem FnValidTrades : laws_FnValidTrades.Pure := by
  intro l _ _ hx
  refine ⟨200 + 1, ?_⟩
  unfold laws_FnValidTrades.f
  by_cases hl : (l.length : Int) > 1048576
  · rw [if_pos hl]
  · rw [if_neg hl]
    obtain ⟨xs, hd, hn⟩ := draw (k := 200 + 1) (by omega) hx
    rw [hd]
    unfold spec_ValidTrades.f
    simp only [Option.bind_some, laws_FnValidTrades.j0]
    rw [iTrades, sTrades xs (by omega) (by omega)]
    unfold spec_ValidTrades.f
    rw [sTrades xs (by omega) (by omega)]
    simp only [Option.bind_some, bne_self_eq_false, Bool.false_eq_true, if_false, if_true, beq_self_eq_true]
    by_cases hv : impl_ValidTrades.v xs = true
    · rw [if_pos hv]
      by_cases h0 : xs.length = 0
      · have : ((xs.length : Int) == 0) = true := by
          rw [h0]
          rfl
        rw [if_pos this]
      · have : ¬ ((xs.length : Int) == 0) = true := by
          simp only [beq_iff_eq]
          omega
        rw [if_neg this, w64 (n := (xs.length : Int) - 1) (by omega) (by omega), if_pos (by omega), if_pos (by omega), iTrades, v_take hv _ (by omega)]
        rfl
    · rw [if_neg hv]

end Go.Proofs.Ytdfkdljddjbfnaa.Pure

/- What the printed functions of FnHedgeError compute is true at every input. Conditions: none beyond the arguments' kinds. -/
import Derived.Test.YtdhlocboaokobaaGFnHedgeErrorx3
import Derived.OpenShut
namespace Go.Proofs.Ytdhlocboaokobaa.Pure
open Go.RowKit Go.Proofs.Ytdhlocboaokobaa.PFnHedgeError Go.Proofs.YtdhlocboaokobaaW.PrintWords Go.Proofs.YtdhlocboaokobaaW.PrintLast Go.Proofs.YtdhlocboaokobaaW.PrintMore
set_option linter.unusedVariables false
set_option linter.unusedSimpArgs false

namespace FnHedgeErrorLaw
theorem rdI (xs : List Int) {i : Nat} (h : i < xs.length) : rd xs (i : Int) = xs[i] := by
  unfold rd
  rw [List.getD_eq_getElem?_getD, Int.toNat_natCast, List.getElem?_eq_getElem h]
  rfl

theorem w64 {n : Int} (h1 : -9223372036854775808 ≤ n) (h2 : n ≤ 9223372036854775807) : wrap64 n = n := by
  unfold wrap64
  omega

def okC (n : Int) : Bool := decide (-6 ≤ n ∧ n ≤ 6)
theorem tools_of {a : Int} {ts : List Int} (h : impl_toolsValid.v a ts = true) : (-1000000000 ≤ a ∧ a ≤ 1000000000) ∧ (1 ≤ ts.length ∧ ts.length ≤ 3) ∧ ∀ n ∈ ts, 1 ≤ n ∧ n ≤ 9999 := by
  unfold impl_toolsValid.v impl_toolsValid.okN at h
  simp only [Bool.and_eq_true, decide_eq_true_eq, List.all_eq_true] at h
  exact ⟨h.1, ⟨by omega, by omega⟩, h.2.2⟩
/-- What is left of a risk behind i tools. -/
def left (a : Int) (ts cs : List Int) : Nat → Int
  | 0 => a
  | i + 1 => left a ts cs i - rd ts (i : Int) * rd cs (i : Int)
theorem prod_bd {t c : Int} (ht : 1 ≤ t ∧ t ≤ 9999) (hc : -6 ≤ c ∧ c ≤ 6) : -59994 ≤ t * c ∧ t * c ≤ 59994 := by
  have h : c = -6 ∨ c = -5 ∨ c = -4 ∨ c = -3 ∨ c = -2 ∨ c = -1 ∨ c = 0 ∨ c = 1 ∨ c = 2 ∨ c = 3 ∨ c = 4 ∨ c = 5 ∨ c = 6 := by omega
  rcases h with rfl | rfl | rfl | rfl | rfl | rfl | rfl | rfl | rfl | rfl | rfl | rfl | rfl <;> omega
theorem left_bd {a : Int} {ts cs : List Int} (h : impl_toolsValid.v a ts = true) (hl : cs.length = ts.length) : ∀ i, i ≤ ts.length → (∀ n ∈ cs.take i, okC n = true) → -1000000000 - 59994 * (i : Int) ≤ left a ts cs i ∧ left a ts cs i ≤ 1000000000 + 59994 * (i : Int) := by
  have hv := tools_of h
  intro i
  induction i with
  | zero => exact fun _ _ => ⟨by simp [left]; omega, by simp [left]; omega⟩
  | succ i ih =>
    intro hi hc
    have hti : i < ts.length := by omega
    have hci : i < cs.length := by omega
    rw [List.take_succ_eq_append_getElem hci] at hc
    have h1 := ih (by omega) (fun n hn => hc n (List.mem_append_left _ hn))
    have h2 : -6 ≤ cs[i] ∧ cs[i] ≤ 6 := of_decide_eq_true (hc _ (List.mem_append_right _ (List.mem_singleton.2 rfl)))
    have h3 := prod_bd (hv.2.2 _ (List.getElem_mem hti)) h2
    simp only [left]
    rw [rdI ts hti, rdI cs hci]
    generalize ts[i] * cs[i] = p at *
    omega
/-- The error of a hedge. -/
def hErr (a : Int) (ts cs : List Int) : Int := if impl_toolsValid.v a ts = true ∧ cs.length = ts.length ∧ cs.all okC = true then (if left a ts cs ts.length < 0 then -(left a ts cs ts.length) else left a ts cs ts.length) else -1

theorem step1 {i n : Nat} (h : i < n) (hn : n ≤ 4611686018427387904) : wrap64 ((i : Int) + 1) = ((i + 1 : Nat) : Int) := by
  rw [w64 (by omega) (by omega)]
  omega

theorem inR (a l h : Int) : spec_inRange.f a l h = some (decide (l ≤ a ∧ a ≤ h)) := by
  unfold spec_inRange.f
  split <;> simp only [true_and, false_and, decide_false, *]

theorem allIn_l (xs : List Int) (lo hi : Int) (hn : xs.length ≤ 4611686018427387904) (d : Nat) : ∀ (k i : Nat), i + d = xs.length → d < k → spec_allIn.l0 k xs lo hi (i : Int) = some ((xs.drop i).all fun n => decide (lo ≤ n ∧ n ≤ hi)) := by
  induction d with
  | zero =>
    intro k i h hk
    obtain ⟨k, rfl⟩ : ∃ m, k = m + 1 := ⟨k - 1, by omega⟩
    simp only [spec_allIn.l0]
    rw [if_neg (by omega), List.drop_of_length_le (by omega)]
    rfl
  | succ d ih =>
    intro k i h hk
    obtain ⟨k, rfl⟩ : ∃ m, k = m + 1 := ⟨k - 1, by omega⟩
    have hlt : i < xs.length := by omega
    simp only [spec_allIn.l0]
    rw [if_pos (by omega), if_pos (by omega), rdI xs hlt, inR, step1 hlt hn, ih k (i + 1) (by omega) (by omega), List.drop_eq_getElem_cons hlt, List.all_cons]
    simp only [Option.bind_some]
    cases decide (lo ≤ xs[i] ∧ xs[i] ≤ hi) <;> rfl
theorem allIn (xs : List Int) (lo hi : Int) (hn : xs.length ≤ 4611686018427387904) {k : Nat} (hk : xs.length < k) : spec_allIn.f k xs lo hi = some (xs.all fun n => decide (lo ≤ n ∧ n ≤ hi)) := by
  unfold spec_allIn.f
  exact allIn_l xs lo hi hn xs.length k 0 (by omega) (by omega)

theorem sHedge_l {a : Int} {ts cs : List Int} (h : impl_toolsValid.v a ts = true) (hl : cs.length = ts.length) (hc : cs.all okC = true) (d : Nat) : ∀ (k i : Nat), i + d = ts.length → d < k →
    spec_hedgeError.l0 k (left a ts cs i) ts cs (i : Int) = some (if left a ts cs ts.length < 0 then -(left a ts cs ts.length) else left a ts cs ts.length) := by
  have hv := tools_of h
  have hca := List.all_eq_true.1 hc
  induction d with
  | zero =>
    intro k i hi hk
    obtain ⟨k, rfl⟩ : ∃ m, k = m + 1 := ⟨k - 1, by omega⟩
    have hb := left_bd h hl i (by omega) (fun n hn => hca n (List.mem_of_mem_take hn))
    obtain rfl : i = ts.length := by omega
    simp only [spec_hedgeError.l0]
    rw [if_neg (by omega)]
    unfold spec_distance.f
    rw [w64 (by omega) (by omega)]
    split <;> rfl
  | succ d ih =>
    intro k i hi hk
    obtain ⟨k, rfl⟩ : ∃ m, k = m + 1 := ⟨k - 1, by omega⟩
    have hti : i < ts.length := by omega
    have hci : i < cs.length := by omega
    have hb := left_bd h hl (i + 1) (by omega) (fun n hn => hca n (List.mem_of_mem_take hn))
    have h2 : -6 ≤ cs[i] ∧ cs[i] ≤ 6 := of_decide_eq_true (hca _ (List.getElem_mem hci))
    have h3 := prod_bd (hv.2.2 _ (List.getElem_mem hti)) h2
    rw [← rdI ts hti, ← rdI cs hci] at h3
    have ih2 := ih k (i + 1) (by omega) (by omega)
    simp only [left] at ih2 hb
    simp only [spec_hedgeError.l0]
    rw [if_pos (by omega), if_pos (by omega), if_pos (by omega), w64 (n := rd ts (i : Int) * rd cs (i : Int)) (by omega) (by omega), w64 (n := left a ts cs i - rd ts (i : Int) * rd cs (i : Int)) (by omega) (by omega), step1 hti (by omega)]
    exact ih2
theorem sHedge (a : Int) (ts cs : List Int) (h1 : ts.length ≤ 1048576) (h2 : cs.length ≤ 1048576) {k : Nat} (hk : 1048577 < k) : spec_HedgeError.f k a ts cs = some (hErr a ts cs) := by
  unfold spec_HedgeError.f
  have e : spec_validHedge.f k a ts = some (impl_toolsValid.v a ts) := by
    unfold spec_validHedge.f impl_toolsValid.v
    rw [inR, inR, allIn ts 1 9999 (by omega) (by omega)]
    simp only [Option.bind_some]
    have e2 : (ts.all fun n => decide (1 ≤ n ∧ n ≤ 9999)) = ts.all impl_toolsValid.okN := rfl
    rw [e2]
    cases decide (-1000000000 ≤ a ∧ a ≤ 1000000000) <;> cases decide (1 ≤ (ts.length : Int) ∧ (ts.length : Int) ≤ 3) <;> rfl
  rw [e, allIn cs (-6) 6 (by omega) (by omega)]
  have e2 : (cs.all fun n => decide (-6 ≤ n ∧ n ≤ 6)) = cs.all okC := rfl
  rw [e2]
  simp only [Option.bind_some]
  unfold hErr
  by_cases hv : impl_toolsValid.v a ts = true
  · rw [if_pos hv]
    by_cases hl : cs.length = ts.length
    · rw [if_pos (by omega)]
      by_cases hc : cs.all okC = true
      · rw [if_pos hc, if_pos (⟨hv, hl, hc⟩ : impl_toolsValid.v a ts = true ∧ cs.length = ts.length ∧ cs.all okC = true)]
        unfold spec_hedgeError.f
        have := sHedge_l hv hl hc ts.length k 0 (by omega) (by omega)
        simp only [left] at this
        rw [show ((0 : Nat) : Int) = 0 from rfl] at this
        rw [this]
        rfl
      · rw [if_neg hc, if_neg (fun h => hc h.2.2)]
    · rw [if_neg (by omega), if_neg (fun h => hl h.2.1)]
  · rw [if_neg hv, if_neg (fun h => hv h.1)]

theorem wi (a l h : Int) : impl_within.f a l h = some (decide (l ≤ a ∧ a ≤ h)) := by
  unfold impl_within.f
  split <;> rename_i hc <;> simp <;> omega

theorem mxAbs {n : Int} (h1 : -9223372036854775807 ≤ n) (h2 : n ≤ 9223372036854775807) : mx n (wrap64 (-n)) = if n < 0 then -n else n := by
  rw [w64 (by omega) (by omega)]
  unfold mx
  split <;> split <;> omega
theorem iHedge_l {a : Int} {ts cs : List Int} (h : impl_toolsValid.v a ts = true) (hl : cs.length = ts.length) (d : Nat) : ∀ (k i : Nat), i + d = ts.length → d < k → (∀ n ∈ cs.take i, okC n = true) →
    impl_HedgeError.l0 k (left a ts cs i) ts cs (cs.length : Int) (i : Int) = some (if (cs.drop i).all okC = true then (if left a ts cs ts.length < 0 then -(left a ts cs ts.length) else left a ts cs ts.length) else -1) := by
  have hv := tools_of h
  induction d with
  | zero =>
    intro k i hi hk hc
    obtain ⟨k, rfl⟩ : ∃ m, k = m + 1 := ⟨k - 1, by omega⟩
    have hb := left_bd h hl i (by omega) hc
    obtain rfl : i = ts.length := by omega
    simp only [impl_HedgeError.l0]
    rw [if_neg (by omega), mxAbs (by omega) (by omega), List.drop_of_length_le (by omega)]
    rfl
  | succ d ih =>
    intro k i hi hk hc
    obtain ⟨k, rfl⟩ : ∃ m, k = m + 1 := ⟨k - 1, by omega⟩
    have hti : i < ts.length := by omega
    have hci : i < cs.length := by omega
    simp only [impl_HedgeError.l0]
    rw [if_pos (by omega), if_pos (by omega), if_pos (by omega), wi, List.drop_eq_getElem_cons hci, List.all_cons]
    simp only [Option.bind_some]
    by_cases h2 : -6 ≤ cs[i] ∧ cs[i] ≤ 6
    · have hk2 : okC cs[i] = true := decide_eq_true h2
      have hc2 : ∀ n ∈ cs.take (i + 1), okC n = true := by
        intro n hn
        rw [List.take_succ_eq_append_getElem hci] at hn
        rcases List.mem_append.1 hn with hn | hn
        · exact hc n hn
        · rw [List.mem_singleton.1 hn]
          exact hk2
      have hb := left_bd h hl (i + 1) (by omega) hc2
      have h3 := prod_bd (hv.2.2 _ (List.getElem_mem hti)) h2
      have ih2 := ih k (i + 1) (by omega) (by omega) hc2
      rw [hk2, Bool.true_and, rdI cs hci, decide_eq_true h2, if_pos rfl, if_pos (by omega), rdI ts hti]
      simp only [left] at ih2 hb
      rw [rdI ts hti, rdI cs hci] at ih2 hb
      rw [Int.mul_comm cs[i] ts[i], w64 (n := ts[i] * cs[i]) (by omega) (by omega), w64 (n := left a ts cs i - ts[i] * cs[i]) (by omega) (by omega), step1 hti (by omega)]
      exact ih2
    · have hk2 : okC cs[i] = false := decide_eq_false h2
      rw [hk2, Bool.false_and, rdI cs hci, decide_eq_false h2]
      rfl
theorem iHedge (a : Int) (ts cs : List Int) {k : Nat} (hk : 5 < k) : impl_HedgeError.f k a ts cs = some (hErr a ts cs) := by
  unfold impl_HedgeError.f impl_toolsValid.f
  simp only [Option.bind_some]
  unfold hErr
  obtain ⟨k, rfl⟩ : ∃ m, k = m + 1 := ⟨k - 1, by omega⟩
  simp only [impl_HedgeError.j0]
  by_cases hv : impl_toolsValid.v a ts = true
  · rw [if_pos hv]
    have hv2 := tools_of hv
    by_cases hl : cs.length = ts.length
    · have e : ((cs.length : Int) != (ts.length : Int)) = false := by rw [hl]; simp
      rw [e]
      have := iHedge_l hv hl ts.length k 0 (by omega) (by omega) (by simp)
      simp only [left, List.drop_zero] at this
      rw [show ((0 : Nat) : Int) = 0 from rfl] at this
      simp only [Bool.false_eq_true, if_false]
      rw [this]
      by_cases hc : cs.all okC = true
      · rw [if_pos hc, if_pos (⟨hv, hl, hc⟩ : impl_toolsValid.v a ts = true ∧ cs.length = ts.length ∧ cs.all okC = true)]
      · rw [if_neg hc, if_neg (fun h => hc h.2.2)]
    · have e : ((cs.length : Int) != (ts.length : Int)) = true := by simp; omega
      rw [e, if_pos rfl, if_neg (fun h => hl h.2.1)]
  · rw [if_neg hv, if_pos trivial, if_neg (fun h => hv h.1)]

/-- A computation that answers, and its answer is P. -/
def Gives {α : Type} (o : Option α) (P : α → Prop) : Prop := ∃ v, o = some v ∧ P v
theorem Gives.of {α : Type} {v : α} {P : α → Prop} (h : P v) : Gives (some v) P := ⟨v, rfl, h⟩
theorem Gives.bind {α β : Type} {o : Option α} {f : α → Option β} {P : α → Prop} {Q : β → Prop} (h : Gives o P) (hf : ∀ v, P v → Gives (f v) Q) : Gives (o.bind f) Q := by
  obtain ⟨v, rfl, hv⟩ := h
  exact hf v hv
theorem Gives.ite {α : Type} {c : Prop} [Decidable c] {a b : Option α} {P : α → Prop} (h1 : c → Gives a P) (h2 : ¬ c → Gives b P) : Gives (if c then a else b) P := by
  by_cases h : c
  · rw [if_pos h]
    exact h1 h
  · rw [if_neg h]
    exact h2 h
theorem Gives.pos {α : Type} {c : Prop} [Decidable c] {a b : Option α} {P : α → Prop} (hc : c) (h1 : Gives a P) : Gives (if c then a else b) P := by
  rw [if_pos hc]
  exact h1
theorem Gives.neg {α : Type} {c : Prop} [Decidable c] {a b : Option α} {P : α → Prop} (hc : ¬ c) (h1 : Gives b P) : Gives (if c then a else b) P := by
  rw [if_neg hc]
  exact h1
theorem Gives.mono {α : Type} {o : Option α} {P Q : α → Prop} (h : Gives o P) (hpq : ∀ v, P v → Q v) : Gives o Q := by
  obtain ⟨v, e, hv⟩ := h
  exact ⟨v, e, hpq v hv⟩
theorem Gives.eq {α : Type} {o : Option α} {v : α} (h : o = some v) : Gives o (fun x => x = v) := ⟨v, h, rfl⟩

/-- What a reader reads: at most 2000 bytes. -/
def Rd (b : List Int) : Prop := b.length ≤ 2000 ∧ ∀ x ∈ b, (Lit.int .u8 x).wf = true
theorem rd_byte {b : List Int} (h : Rd b) (i : Int) : 0 ≤ rd b i ∧ rd b i ≤ 255 := by
  unfold rd
  rw [List.getD_eq_getElem?_getD]
  by_cases hi : i.toNat < b.length
  · rw [List.getElem?_eq_getElem hi]
    exact bounds_u8 (h.2 _ (List.getElem_mem hi))
  · rw [List.getElem?_eq_none (by omega)]
    exact ⟨by simp, by simp⟩
theorem xor_nonneg {x y : Int} (hx : 0 ≤ x) (hx2 : x < 4611686018427387904) (hy : 0 ≤ y) (hy2 : y < 4611686018427387904) : 0 ≤ Go.bits .xor .i64 x y ∧ Go.bits .xor .i64 x y < 4611686018427387904 := by
  obtain ⟨a, rfl⟩ := Int.eq_ofNat_of_zero_le hx
  obtain ⟨b, rfl⟩ := Int.eq_ofNat_of_zero_le hy
  have ha : a < 2 ^ 62 := by omega
  have hb : b < 2 ^ 62 := by omega
  have hp : (2 : Nat) ^ 62 ≤ 2 ^ IntKind.i64.bits := Nat.pow_le_pow_right (by decide) (by decide)
  have ha' : a % 2 ^ IntKind.i64.bits = a := Nat.mod_eq_of_lt (Nat.lt_of_lt_of_le ha hp)
  have hb' : b % 2 ^ IntKind.i64.bits = b := Nat.mod_eq_of_lt (Nat.lt_of_lt_of_le hb hp)
  have hxor : a ^^^ b < 2 ^ 62 := Nat.xor_lt_two_pow ha hb
  have e : Go.bits .xor .i64 (a : Int) (b : Int) = ((a ^^^ b : Nat) : Int) := by
    simp only [Go.bits, BitVec.ofInt_natCast, BitVec.toNat_xor, BitVec.toNat_ofNat, ha', hb']
    rw [IntKind.wrap_i64]
    omega
  have e2 : (Int.ofNat a) = (a : Int) := rfl
  have e3 : (Int.ofNat b) = (b : Int) := rfl
  first | rw [e] | (rw [e2, e3, e])
  omega
theorem tmod_at {x n : Int} (hx : 0 ≤ x) (hn : 0 < n) : 0 ≤ Int.tmod x n ∧ Int.tmod x n < n := ⟨Int.tmod_nonneg n hx, Int.tmod_lt_of_pos x hn⟩
theorem tdiv_at {x n : Int} (hx : 0 ≤ x) (hn : 0 < n) : 0 ≤ Int.tdiv x n ∧ Int.tdiv x n ≤ x := by
  rw [Int.tdiv_eq_ediv_of_nonneg hx]
  exact ⟨Int.ediv_nonneg hx (by omega), Int.ediv_le_self n hx⟩

theorem pick {b : List Int} (hb : Rd b) {p n : Int} (k : Nat) (h0 : 0 ≤ p) (h1 : p ≤ 1000000) (hn : 1 ≤ n) : Gives (spec_reader_pick.f (k + 1) b p n) (fun v => (0 ≤ v.1 ∧ v.1 < n) ∧ v.2 = p + 1) := by
  unfold spec_reader_pick.f
  rw [if_neg (by omega), w64 (n := p + 1) (by omega) (by omega)]
  simp only [spec_reader_pick.j0]
  have hl := hb.1
  by_cases hz : b.length = 0
  · have : ((b.length : Int) == 0) = true := by
      rw [hz]
      rfl
    rw [if_pos this]
    exact Gives.of ⟨⟨by omega, by omega⟩, rfl⟩
  · have : ¬ ((b.length : Int) == 0) = true := by
      simp only [beq_iff_eq]
      omega
    rw [if_neg this, w64 (n := p + 1 - 1) (by omega) (by omega)]
    have e : p + 1 - 1 = p := by omega
    rw [e]
    have hlp : 0 < (b.length : Int) := by omega
    by_cases hp : p < (b.length : Int)
    · have hr := rd_byte hb p
      rw [if_pos hp, if_pos h0, if_neg (by omega), w64 (n := rd b p) (by omega) (by omega)]
      exact Gives.of ⟨tmod_at hr.1 (by omega), rfl⟩
    · have m1 := tmod_at h0 hlp
      rw [if_neg hp, if_neg (by omega), if_pos m1.1, if_pos m1.2, w64 (n := p * 7) (by omega) (by omega), w64 (n := p * 7 + 3) (by omega) (by omega)]
      have m2 := tmod_at (show 0 ≤ p * 7 + 3 by omega) hlp
      have d1 := tdiv_at h0 hlp
      rw [if_pos m2.1, if_pos m2.2, if_neg (by omega)]
      generalize Int.tmod p (b.length : Int) = i1 at *
      generalize Int.tmod (p * 7 + 3) (b.length : Int) = i2 at *
      generalize Int.tdiv p (b.length : Int) = q at *
      have r1 := rd_byte hb i1
      have r2 := rd_byte hb i2
      generalize rd b i1 = x1 at *
      generalize rd b i2 = x2 at *
      rw [w64 (n := x1) (by omega) (by omega), w64 (n := x2) (by omega) (by omega), w64 (n := x1 * 131) (by omega) (by omega), w64 (n := x2 * 1117) (by omega) (by omega), w64 (n := x1 * 131 + x2 * 1117) (by omega) (by omega),
        w64 (n := p * 29) (by omega) (by omega), w64 (n := x1 * 131 + x2 * 1117 + p * 29) (by omega) (by omega), w64 (n := q) (by omega) (by omega), w64 (n := q * 53) (by omega) (by omega), w64 (n := x1 * 131 + x2 * 1117 + p * 29 + q * 53) (by omega) (by omega)]
      have hy : 0 ≤ x1 * 131 + x2 * 1117 + p * 29 + q * 53 ∧ x1 * 131 + x2 * 1117 + p * 29 + q * 53 < 1000000000 := by omega
      generalize x1 * 131 + x2 * 1117 + p * 29 + q * 53 = y at *
      have d2 := tdiv_at hy.1 (show (0 : Int) < 64 by omega)
      rw [w64 (n := Int.tdiv y 64) (by omega) (by omega)]
      have hx := xor_nonneg hy.1 (by omega) d2.1 (by omega)
      exact Gives.of ⟨tmod_at hx.1 (by omega), rfl⟩

theorem rd_mem {l : List Int} {i : Int} (h0 : 0 ≤ i) (h1 : i < (l.length : Int)) : rd l i ∈ l := by
  unfold rd
  have hi : i.toNat < l.length := by omega
  rw [List.getD_eq_getElem?_getD, List.getElem?_eq_getElem hi]
  exact List.getElem_mem hi
theorem one {b : List Int} (hb : Rd b) {p : Int} (k : Nat) {l : List Int} (h0 : 0 ≤ p) (h1 : p ≤ 1000000) (hl : 1 ≤ l.length) : Gives (spec_reader_one.f (k + 1) b p l) (fun v => v.1 ∈ l ∧ v.2 = p + 1) := by
  unfold spec_reader_one.f
  refine Gives.bind (pick hb k h0 h1 (by omega)) (fun v hv => ?_)
  rw [if_pos hv.1.1, if_pos hv.1.2]
  exact Gives.of ⟨rd_mem hv.1.1 hv.1.2, hv.2⟩

theorem spoil {b : List Int} (hb : Rd b) {p : Int} (k : Nat) {l : List Int} (m : Int) (h0 : 0 ≤ p) (h1 : p ≤ 900000) (hl : l.length ≤ 1000) : Gives (spec_reader_spoil.f (k + 1) b p l m) (fun v => v.1.length ≤ l.length + 1 ∧ 0 ≤ v.2 ∧ v.2 ≤ p + 3) := by
  unfold spec_reader_spoil.f
  have e : spec_copyInts.f l = some l := by
    unfold spec_copyInts.f
    simp only [Option.bind_some, List.length_nil, Nat.zero_add, List.nil_append]
    rw [if_pos (by omega)]
  rw [e]
  simp only [Option.bind_some]
  refine Gives.bind (pick hb k h0 (by omega) (by omega)) (fun v1 g1 => ?_)
  refine Gives.ite (fun _ => ?_) (fun _ => Gives.ite (fun _ => ?_) (fun _ => Gives.ite (fun _ => ?_) (fun _ => ?_)))
  · rw [if_pos (by omega)]
    exact Gives.of ⟨by simp, show 0 ≤ v1.2 by omega, show v1.2 ≤ p + 3 by omega⟩
  · refine Gives.ite (fun h => ?_) (fun _ => Gives.of ⟨by simp, show 0 ≤ v1.2 by omega, show v1.2 ≤ p + 3 by omega⟩)
    rw [if_pos (by omega)]
    exact Gives.of ⟨by simp only [List.length_drop]; omega, show 0 ≤ v1.2 by omega, show v1.2 ≤ p + 3 by omega⟩
  · refine Gives.ite (fun h => ?_) (fun _ => Gives.of ⟨by simp, show 0 ≤ v1.2 by omega, show v1.2 ≤ p + 3 by omega⟩)
    refine Gives.bind (pick hb k (by omega) (by omega) (by omega)) (fun v2 g2 => ?_)
    refine Gives.bind (one hb k (by omega) (by omega) (by simp)) (fun v3 g3 => ?_)
    rw [if_pos g2.1.1, if_pos g2.1.2]
    exact Gives.of ⟨by simp, show 0 ≤ v3.2 by omega, show v3.2 ≤ p + 3 by omega⟩
  · exact Gives.of ⟨by simp, show 0 ≤ v1.2 by omega, show v1.2 ≤ p + 3 by omega⟩

theorem anyTools_l {b : List Int} (hb : Rd b) (d : Nat) : ∀ (k : Nat) (p n : Int) (xs : List Int), n = d → d + 2 < k → 0 ≤ p → p + n ≤ 700000 → xs.length + d ≤ 5 →
    Gives (spec_anyTools.l0 k xs n b p) (fun v => v.1.length ≤ 6 ∧ 0 ≤ v.2 ∧ v.2 ≤ p + n + 3) := by
  induction d with
  | zero =>
    intro k p n xs hn hk h0 h1 hl
    obtain ⟨k, rfl⟩ : ∃ m, k = m + 2 := ⟨k - 2, by omega⟩
    simp only [spec_anyTools.l0]
    rw [if_neg (by omega)]
    refine Gives.bind (spoil hb k 10000 h0 (by omega) (by omega)) (fun v g => ?_)
    exact Gives.of ⟨show v.1.length ≤ 6 by omega, show 0 ≤ v.2 by omega, show v.2 ≤ p + n + 3 by omega⟩
  | succ d ih =>
    intro k p n xs hn hk h0 h1 hl
    obtain ⟨k, rfl⟩ : ∃ m, k = m + 2 := ⟨k - 2, by omega⟩
    simp only [spec_anyTools.l0]
    rw [if_pos (by omega)]
    refine Gives.bind (pick hb k h0 (by omega) (by omega)) (fun v1 g1 => ?_)
    rw [if_pos (by omega), w64 (n := n - 1) (by omega) (by omega)]
    refine (ih (k + 1) v1.2 (n - 1) _ (by omega) (by omega) (by omega) (by omega) ?_).mono (fun v g => ⟨g.1, g.2.1, by omega⟩)
    rw [List.length_append, List.length_singleton]
    omega
theorem anyTools {b : List Int} (hb : Rd b) {k : Nat} (hk : 60 < k) {p : Int} (h0 : 0 ≤ p) (h1 : p ≤ 100000) : Gives (spec_anyTools.f k b p) (fun v => v.1.length ≤ 6 ∧ 0 ≤ v.2 ∧ v.2 ≤ p + 20) := by
  obtain ⟨k, rfl⟩ : ∃ m, k = m + 1 := ⟨k - 1, by omega⟩
  unfold spec_anyTools.f
  refine Gives.bind (one hb k h0 (by omega) (by decide)) (fun v1 g1 => ?_)
  have hm := g1.1
  simp only [List.mem_cons, List.not_mem_nil, or_false] at hm
  refine (anyTools_l hb v1.1.toNat (k + 1) v1.2 v1.1 [] (by omega) (by omega) (by omega) (by omega) ?_).mono (fun v g => ⟨g.1, g.2.1, by omega⟩)
  rw [List.length_nil]
  omega

theorem newReader {l : List Int} (hx : ∀ x ∈ l, (Lit.int .u8 x).wf = true) : Gives (spec_newReader.f l) (fun v => Rd v.1 ∧ v.2 = 0) := by
  unfold spec_newReader.f
  by_cases h : (l.length : Int) > 2000
  · rw [if_pos h, if_pos (by omega)]
    exact Gives.of ⟨⟨by simp only [List.length_take]; omega, fun x hm => hx x (List.mem_of_mem_take hm)⟩, rfl⟩
  · rw [if_neg h]
    exact Gives.of ⟨⟨show l.length ≤ 2000 by omega, hx⟩, rfl⟩

theorem drawHErr_l {b ts : List Int} {a : Int} (hb : Rd b) (hl : ts.length ≤ 6) (d : Nat) : ∀ (k i : Nat) (p : Int) (xs : List Int), i + d = ts.length → d + 2 < k → 0 ≤ p → p + d ≤ 700000 → xs.length = i →
    Gives (spec_DrawHedgeError.l0 k a ts xs (i : Int) b p) (fun v => v.1 = a ∧ v.2.1 = ts ∧ v.2.2.length ≤ 10) := by
  induction d with
  | zero =>
    intro k i p xs hn hk h0 h1 hx
    obtain ⟨k, rfl⟩ : ∃ m, k = m + 2 := ⟨k - 2, by omega⟩
    simp only [spec_DrawHedgeError.l0]
    rw [if_neg (by omega)]
    refine Gives.bind (spoil hb k 7 h0 (by omega) (by omega)) (fun v g => ?_)
    exact Gives.of ⟨rfl, rfl, show v.1.length ≤ 10 by omega⟩
  | succ d ih =>
    intro k i p xs hn hk h0 h1 hx
    obtain ⟨k, rfl⟩ : ∃ m, k = m + 2 := ⟨k - 2, by omega⟩
    simp only [spec_DrawHedgeError.l0]
    rw [if_pos (by omega)]
    refine Gives.bind (pick hb k h0 (by omega) (by omega)) (fun v1 g1 => ?_)
    rw [if_pos (by omega), w64 (n := (i : Int) + 1) (by omega) (by omega)]
    exact ih (k + 1) (i + 1) v1.2 _ (by omega) (by omega) (by omega) (by omega) (by rw [List.length_append, List.length_singleton]; omega)
theorem drawHErr {l : List Int} {k : Nat} (hk : 100 < k) (hx : ∀ x ∈ l, (Lit.int .u8 x).wf = true) : Gives (spec_DrawHedgeError.f k l) (fun v => (-300 ≤ v.1 ∧ v.1 ≤ 1000) ∧ v.2.1.length ≤ 6 ∧ v.2.2.length ≤ 10) := by
  unfold spec_DrawHedgeError.f
  obtain ⟨k, rfl⟩ : ∃ m, k = m + 1 := ⟨k - 1, by omega⟩
  refine Gives.bind (newReader hx) (fun v0 g0 => ?_)
  refine Gives.bind (pick g0.1 k (by omega) (by omega) (by omega)) (fun v1 g1 => ?_)
  refine Gives.bind (anyTools g0.1 (by omega) (by omega) (by omega)) (fun v2 g2 => ?_)
  rw [w64 (n := v1.1 * 3) (by omega) (by omega), w64 (n := v1.1 * 3 - 300) (by omega) (by omega)]
  exact (drawHErr_l g0.1 g2.1 v2.1.length (k + 1) 0 v2.2 [] (by omega) (by omega) (by omega) (by omega) rfl).mono (fun v g => ⟨by rw [g.1]; omega, by rw [g.2.1]; exact g2.1, g.2.2⟩)

theorem left_zero (a : Int) (ts : List Int) (n : Nat) : ∀ i, left a ts (List.replicate n 0) i = a := by
  intro i
  induction i with
  | zero => rfl
  | succ i ih =>
    have h : rd (List.replicate n (0 : Int)) (i : Int) = 0 := by
      unfold rd
      rw [List.getD_eq_getElem?_getD, List.getElem?_replicate]
      split <;> rfl
    simp only [left]
    rw [ih, h]
    omega
theorem hErr_zero {a : Int} {ts : List Int} (h : impl_toolsValid.v a ts = true) : hErr a ts (List.replicate ts.length 0) = if a < 0 then -a else a := by
  unfold hErr
  have hc : (List.replicate ts.length (0 : Int)).all okC = true := by
    rw [List.all_eq_true]
    intro x hx
    rw [(List.mem_replicate.1 hx).2]
    decide
  rw [if_pos (⟨h, by simp, hc⟩ : impl_toolsValid.v a ts = true ∧ (List.replicate ts.length (0 : Int)).length = ts.length ∧ (List.replicate ts.length (0 : Int)).all okC = true), left_zero]
theorem left_more (a : Int) (ts cs : List Int) (h : 0 < cs.length) : ∀ i, left a ts (cs.set 0 (rd cs 0 + 1)) (i + 1) = left a ts cs (i + 1) - rd ts 0 := by
  intro i
  induction i with
  | zero =>
    have e : rd (cs.set 0 (rd cs 0 + 1)) ((0 : Nat) : Int) = rd cs 0 + 1 := by
      rw [rdI _ (by simpa using h)]
      simp
    simp only [left]
    rw [e, Int.mul_add]
    have e2 : ((0 : Nat) : Int) = 0 := rfl
    rw [e2]
    omega
  | succ i ih =>
    have e : rd (cs.set 0 (rd cs 0 + 1)) ((i + 1 : Nat) : Int) = rd cs ((i + 1 : Nat) : Int) := by
      unfold rd
      simp only [List.getD_eq_getElem?_getD, Int.toNat_natCast]
      rw [List.getElem?_set_ne (by omega)]
    have u : ∀ zs, left a ts zs (i + 1 + 1) = left a ts zs (i + 1) - rd ts ((i + 1 : Nat) : Int) * rd zs ((i + 1 : Nat) : Int) := fun _ => rfl
    rw [u, u, ih, e]
    omega

end FnHedgeErrorLaw
open FnHedgeErrorLaw

theorem absol {a : Int} (h1 : -1000 ≤ a) (h2 : a ≤ 1000) : laws_absolute.f a = some (if a < 0 then -a else a) := by
  unfold laws_absolute.f
  rw [w64 (by omega) (by omega)]
  split <;> rfl
theorem FnHedgeError : laws_FnHedgeError.Pure := by
  intro l _ _ hx
  refine ⟨1048700, ?_⟩
  unfold laws_FnHedgeError.f
  by_cases hl : (l.length : Int) > 1048576
  · rw [if_pos hl]
  · rw [if_neg hl]
    obtain ⟨⟨a, ts, cs⟩, hd, ha, ht, hc⟩ := drawHErr (k := 1048700) (by omega) hx
    simp only at ha ht hc
    rw [hd]
    simp only [Option.bind_some]
    rw [iHedge a ts cs (by omega), sHedge a ts cs (by omega) (by omega) (by omega)]
    simp only [Option.bind_some, if_true, laws_FnHedgeError.j0]
    by_cases hn : hErr a ts cs < 0
    · rw [if_pos (decide_eq_true hn), sHedge a ts cs (by omega) (by omega) (by omega)]
      simp
    · have hn2 : decide (hErr a ts cs < 0) = false := decide_eq_false hn
      have hv : impl_toolsValid.v a ts = true ∧ cs.length = ts.length ∧ cs.all okC = true := by
        by_cases h : impl_toolsValid.v a ts = true ∧ cs.length = ts.length ∧ cs.all okC = true
        · exact h
        · exfalso
          unfold hErr at hn
          rw [if_neg h] at hn
          omega
      obtain ⟨hv1, hv2, hv3⟩ := hv
      have hb := tools_of hv1
      have hca := List.all_eq_true.1 hv3
      have h0 : 0 < cs.length := by omega
      have ht0 : 0 < ts.length := by omega
      have hc0 : -6 ≤ cs[0] ∧ cs[0] ≤ 6 := of_decide_eq_true (hca _ (List.getElem_mem h0))
      have hr0 : rd cs 0 = cs[0] := rdI cs h0
      have hrt : rd ts 0 = ts[0] := rdI ts ht0
      have htb := hb.2.2 _ (List.getElem_mem ht0)
      rw [hn2, if_neg (by decide)]
      simp only [List.nil_append, List.length_nil, Nat.zero_add]
      rw [if_pos (by omega), if_pos (by omega)]
      by_cases h6 : rd cs 0 = 6
      · rw [if_pos h6, if_pos (by omega), if_pos (by omega), Int.toNat_natCast, iHedge a ts _ (by omega), hErr_zero hv1, absol (by omega) (by omega)]
        simp
      · have hw : wrap64 (rd cs 0 + 1) = rd cs 0 + 1 := w64 (by omega) (by omega)
        rw [if_neg h6, hw, iHedge a ts _ (by omega)]
        simp only [Option.bind_some]
        rw [if_pos (by omega), if_pos (by omega), Int.toNat_natCast, iHedge a ts _ (by omega), hErr_zero hv1, absol (by omega) (by omega)]
        simp only [Option.bind_some, if_true]
        have hmore : (cs.set 0 (rd cs 0 + 1)).all okC = true := by
          rw [List.all_eq_true]
          intro x hxm
          rcases List.mem_or_eq_of_mem_set hxm with h | h
          · exact hca x h
          · rw [h]
            exact decide_eq_true (by omega)
        have hlm : (cs.set 0 (rd cs 0 + 1)).length = ts.length := by simpa using hv2
        have e1 : hErr a ts cs = if left a ts cs ts.length < 0 then -(left a ts cs ts.length) else left a ts cs ts.length := by
          unfold hErr
          rw [if_pos (⟨hv1, hv2, hv3⟩ : impl_toolsValid.v a ts = true ∧ cs.length = ts.length ∧ cs.all okC = true)]
        have e2 : hErr a ts (cs.set 0 (rd cs 0 + 1)) = if left a ts (cs.set 0 (rd cs 0 + 1)) ts.length < 0 then -(left a ts (cs.set 0 (rd cs 0 + 1)) ts.length) else left a ts (cs.set 0 (rd cs 0 + 1)) ts.length := by
          unfold hErr
          rw [if_pos (⟨hv1, hlm, hmore⟩ : impl_toolsValid.v a ts = true ∧ (cs.set 0 (rd cs 0 + 1)).length = ts.length ∧ (cs.set 0 (rd cs 0 + 1)).all okC = true)]
        have e3 := left_more a ts cs h0 (ts.length - 1)
        have e4 : ts.length - 1 + 1 = ts.length := by omega
        rw [e4] at e3
        have hbd := left_bd hv1 hv2 ts.length (Nat.le_refl _) (fun n hn => hca n (List.mem_of_mem_take hn))
        have e0 : (0 : Int).toNat = 0 := rfl
        rw [e0, e1, e2, e3, hrt]
        generalize left a ts cs ts.length = u at *
        generalize ts[0] = t at *
        have hu : -1100000000 ≤ u ∧ u ≤ 1100000000 := by omega
        clear e1 e2 e3 hn hn2 hbd
        by_cases c1 : u < 0
        · rw [if_pos c1, w64 (n := -u - t) (by omega) (by omega), w64 (n := -u + t) (by omega) (by omega), if_pos (by omega)]
          by_cases c2 : u - t < 0
          · rw [if_pos c2, if_pos (by omega), decide_eq_true (by omega)]
          · omega
        · rw [if_neg c1, w64 (n := u - t) (by omega) (by omega), w64 (n := u + t) (by omega) (by omega), if_pos (by omega)]
          by_cases c2 : u - t < 0
          · rw [if_pos c2, if_pos (by omega), decide_eq_true (by omega)]
          · rw [if_neg c2, if_pos (by omega), decide_eq_true (by omega)]

end Go.Proofs.Ytdhlocboaokobaa.Pure

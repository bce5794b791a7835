/- What the printed functions of FnLadderOfMerge compute is true at every input. Conditions: none beyond the arguments' kinds. -/
import Derived.Test.YtmdhfmcnjdnkfaaGFnLadderOfMergex6
import Derived.OpenShut
namespace Go.Proofs.Ytmdhfmcnjdnkfaa.Pure
open Go.RowKit Go.Proofs.Ytmdhfmcnjdnkfaa.PFnLadderOfMerge Go.Proofs.YtmdhfmcnjdnkfaaW.PrintWords Go.Proofs.YtmdhfmcnjdnkfaaW.PrintLast Go.Proofs.YtmdhfmcnjdnkfaaW.PrintMore
set_option linter.unusedVariables false
set_option linter.unusedSimpArgs false

namespace FnLadderOfMergeLaw
theorem w64 {n : Int} (h1 : -9223372036854775808 ≤ n) (h2 : n ≤ 9223372036854775807) : wrap64 n = n := by
  unfold wrap64
  omega

theorem step1 {i n : Nat} (h : i < n) (hn : n ≤ 4611686018427387904) : wrap64 ((i : Int) + 1) = ((i + 1 : Nat) : Int) := by
  rw [w64 (by omega) (by omega)]
  omega

theorem rdI (xs : List Int) {i : Nat} (h : i < xs.length) : rd xs (i : Int) = xs[i] := by
  unfold rd
  rw [List.getD_eq_getElem?_getD, Int.toNat_natCast, List.getElem?_eq_getElem h]
  rfl

theorem inR (a l h : Int) : spec_inRange.f a l h = some (decide (l ≤ a ∧ a ≤ h)) := by
  unfold spec_inRange.f
  split <;> simp only [true_and, false_and, decide_false, *]

theorem allIn_l (xs : List Int) (lo hi : Int) (hn : xs.length ≤ 4611686018427387904) (d : Nat) : ∀ (k i : Nat), i + d = xs.length → d < k → spec_allIn.l0 k xs lo hi (i : Int) = some ((xs.drop i).all fun n => decide (lo ≤ n ∧ n ≤ hi)) := by
  induction d with
  | zero =>
    intro k i h hk
    obtain ⟨k, rfl⟩ : ∃ m, k = m + 1 := ⟨k - 1, by omega⟩
    simp only [spec_allIn.l0]
    rw [if_neg (by omega), List.drop_of_length_le (by omega)]
    rfl
  | succ d ih =>
    intro k i h hk
    obtain ⟨k, rfl⟩ : ∃ m, k = m + 1 := ⟨k - 1, by omega⟩
    have hlt : i < xs.length := by omega
    simp only [spec_allIn.l0]
    rw [if_pos (by omega), if_pos (by omega), rdI xs hlt, inR, step1 hlt hn, ih k (i + 1) (by omega) (by omega), List.drop_eq_getElem_cons hlt, List.all_cons]
    simp only [Option.bind_some]
    cases decide (lo ≤ xs[i] ∧ xs[i] ≤ hi) <;> rfl
theorem allIn (xs : List Int) (lo hi : Int) (hn : xs.length ≤ 4611686018427387904) {k : Nat} (hk : xs.length < k) : spec_allIn.f k xs lo hi = some (xs.all fun n => decide (lo ≤ n ∧ n ≤ hi)) := by
  unfold spec_allIn.f
  exact allIn_l xs lo hi hn xs.length k 0 (by omega) (by omega)

theorem rdF (xs : List S29) {i : Nat} (h : i < xs.length) : rd_T29 xs (i : Int) = xs[i] := by
  unfold rd_T29
  rw [List.getD_eq_getElem?_getD, Int.toNat_natCast, List.getElem?_eq_getElem h]
  rfl

theorem sFlows_l (xs : List S29) (hn : xs.length ≤ 4611686018427387904) (d : Nat) : ∀ (k i : Nat), i + d = xs.length → d < k →
    spec_validFlows.l0 k xs (i : Int) = some ((xs.drop i).all impl_flowsValid.okF && decide (xs.length ≤ 60)) := by
  induction d with
  | zero =>
    intro k i hi hk
    obtain ⟨k, rfl⟩ : ∃ m, k = m + 1 := ⟨k - 1, by omega⟩
    simp only [spec_validFlows.l0]
    rw [if_neg (by omega), List.drop_of_length_le (by omega)]
    simp only [List.all_nil, Bool.true_and, Option.some.injEq, decide_eq_decide]
    omega
  | succ d ih =>
    intro k i hi hk
    obtain ⟨k, rfl⟩ : ∃ m, k = m + 1 := ⟨k - 1, by omega⟩
    have hlt : i < xs.length := by omega
    have e1 : ∀ p : S29, impl_flowsValid.okF p = (decide (0 ≤ p.f0 ∧ p.f0 ≤ 36524) && decide (-1000000000 ≤ p.f1 ∧ p.f1 ≤ 1000000000)) := fun _ => rfl
    simp only [spec_validFlows.l0]
    rw [if_pos (by omega), if_pos (by omega), step1 hlt hn, ih k (i + 1) (by omega) (by omega), inR, inR, rdF xs hlt, List.drop_eq_getElem_cons hlt, List.all_cons, e1]
    simp only [Option.bind_some]
    cases decide (0 ≤ xs[i].f0 ∧ xs[i].f0 ≤ 36524) <;> cases decide (-1000000000 ≤ xs[i].f1 ∧ xs[i].f1 ≤ 1000000000) <;> simp
theorem sFlows (xs : List S29) (hn : xs.length ≤ 4611686018427387904) {k : Nat} (hk : xs.length < k) : spec_validFlows.f k xs = some (impl_flowsValid.v xs) := by
  unfold spec_validFlows.f impl_flowsValid.v
  have := sFlows_l xs hn xs.length k 0 (by omega) (by omega)
  rw [Bool.and_comm]
  simpa using this

/-- What payments till a day add. -/
def cash (xs : List S29) (day : Int) : Nat → Int
  | 0 => 0
  | i + 1 => cash xs day i + (if (rd_T29 xs (i : Int)).f0 ≤ day then (rd_T29 xs (i : Int)).f1 else 0)
theorem flows_of {xs : List S29} (h : impl_flowsValid.v xs = true) : xs.length ≤ 60 ∧ ∀ p ∈ xs, (0 ≤ p.f0 ∧ p.f0 ≤ 36524) ∧ (-1000000000 ≤ p.f1 ∧ p.f1 ≤ 1000000000) := by
  unfold impl_flowsValid.v impl_flowsValid.okF at h
  simp only [Bool.and_eq_true, decide_eq_true_eq, List.all_eq_true] at h
  exact h
theorem cash_bd {xs : List S29} (h : impl_flowsValid.v xs = true) (day : Int) : ∀ i, i ≤ xs.length → -1000000000 * (i : Int) ≤ cash xs day i ∧ cash xs day i ≤ 1000000000 * (i : Int) := by
  have hv := flows_of h
  intro i
  induction i with
  | zero => exact fun _ => ⟨by simp [cash], by simp [cash]⟩
  | succ i ih =>
    intro hi
    have h1 := ih (by omega)
    have h2 := (hv.2 _ (List.getElem_mem (show i < xs.length by omega))).2
    simp only [cash]
    rw [rdF xs (by omega)]
    split <;> omega
def cashAt (xs : List S29) (a day : Int) : Int × Bool := if impl_flowsValid.v xs = true ∧ (-1000000000 ≤ a ∧ a ≤ 1000000000) then (a + cash xs day xs.length, true) else (0, false)

theorem okEs_iff (es : List Int) : impl_LadderOf.okEs es = true ↔ es.length ≤ 10 ∧ (∀ i, i < es.length → impl_LadderOf.okE es i = true) := by
  unfold impl_LadderOf.okEs
  rw [Bool.and_eq_true, decide_eq_true_eq, List.all_eq_true]
  exact ⟨fun h => ⟨h.1, fun i hi => h.2 i (List.mem_range.2 hi)⟩, fun h => ⟨h.1, fun i hi => h.2 i (List.mem_range.1 hi)⟩⟩
theorem edges_A (es : List Int) (hn : es.length ≤ 1048576) (d : Nat) : ∀ (k i : Nat), 1 ≤ i → (i + d = es.length ∨ (d = 0 ∧ es.length ≤ i)) → i ≤ 1048577 → d + es.length + 1 < k → (∀ j, i ≤ j → j < es.length → rd es ((j : Int) - 1) < rd es (j : Int)) →
    spec_validEdges.l0 k es (i : Int) = some (decide (es.length ≤ 10) && es.all fun n => decide (0 ≤ n ∧ n ≤ 36524)) := by
  induction d with
  | zero =>
    intro k i h1 hi hm hk h
    obtain ⟨k, rfl⟩ : ∃ m, k = m + 1 := ⟨k - 1, by omega⟩
    simp only [spec_validEdges.l0]
    rw [if_neg (by omega)]
    by_cases c : (es.length : Int) ≤ 10
    · rw [if_pos c, allIn es 0 36524 (by omega) (by omega), decide_eq_true (by omega)]
      simp
    · rw [if_neg c, decide_eq_false (by omega)]
      rfl
  | succ d ih =>
    intro k i h1 hi hm hk h
    obtain ⟨k, rfl⟩ : ∃ m, k = m + 1 := ⟨k - 1, by omega⟩
    have hlt : i < es.length := by omega
    simp only [spec_validEdges.l0]
    rw [if_pos (by omega), if_pos (by omega), w64 (n := (i : Int) - 1) (by omega) (by omega), if_pos (by omega), if_pos (by omega), if_neg (by have := h i (Nat.le_refl _) hlt; omega), step1 hlt (by omega)]
    exact ih k (i + 1) (by omega) (by omega) (by omega) (by omega) (fun j hj => h j (by omega))
theorem edges_B (es : List Int) (hn : es.length ≤ 1048576) (d : Nat) : ∀ (k i j : Nat), 1 ≤ i → j = i + d → j < es.length → ¬ rd es ((j : Int) - 1) < rd es (j : Int) → d < k → spec_validEdges.l0 k es (i : Int) = some false := by
  induction d with
  | zero =>
    intro k i j h1 hj hl h hk
    obtain ⟨k, rfl⟩ : ∃ m, k = m + 1 := ⟨k - 1, by omega⟩
    obtain rfl : j = i := by omega
    simp only [spec_validEdges.l0]
    rw [if_pos (by omega), if_pos (by omega), w64 (n := (j : Int) - 1) (by omega) (by omega), if_pos (by omega), if_pos (by omega), if_pos (by omega)]
  | succ d ih =>
    intro k i j h1 hj hl h hk
    obtain ⟨k, rfl⟩ : ∃ m, k = m + 1 := ⟨k - 1, by omega⟩
    have hlt : i < es.length := by omega
    simp only [spec_validEdges.l0]
    rw [if_pos (by omega), if_pos (by omega), w64 (n := (i : Int) - 1) (by omega) (by omega), if_pos (by omega), if_pos (by omega), step1 hlt (by omega), ih k (i + 1) j (by omega) (by omega) hl h (by omega)]
    split <;> rfl
theorem sEdges (es : List Int) (hn : es.length ≤ 1048576) {k : Nat} (hk : 2 * es.length + 4 < k) : spec_validEdges.f k es = some (impl_LadderOf.okEs es) := by
  unfold spec_validEdges.f
  by_cases hA : ∀ j, 1 ≤ j → j < es.length → rd es ((j : Int) - 1) < rd es (j : Int)
  · have h := edges_A es hn (es.length - 1) k 1 (Nat.le_refl _) (by omega) (by omega) (by omega) hA
    rw [show ((1 : Nat) : Int) = 1 from rfl] at h
    rw [h, Option.some.injEq, Bool.eq_iff_iff, okEs_iff, Bool.and_eq_true, decide_eq_true_eq, List.all_eq_true]
    refine ⟨fun h => ⟨h.1, fun i hi => ?_⟩, fun h => ⟨h.1, fun n hm => ?_⟩⟩
    · have h2 := h.2 _ (List.getElem_mem hi)
      unfold impl_LadderOf.okE
      rw [rdI es hi, h2, Bool.true_and, Bool.or_eq_true, decide_eq_true_eq, decide_eq_true_eq]
      by_cases c : i = 0
      · exact .inl c
      · have h3 := hA i (by omega) hi
        rw [rdI es hi] at h3
        exact .inr h3
    · obtain ⟨i, hi, rfl⟩ := List.getElem_of_mem hm
      have h2 := h.2 i hi
      unfold impl_LadderOf.okE at h2
      rw [rdI es hi, Bool.and_eq_true] at h2
      exact h2.1
  · have hB : ∃ j, 1 ≤ j ∧ j < es.length ∧ ¬ rd es ((j : Int) - 1) < rd es (j : Int) := by
      refine Classical.byContradiction (fun hc => hA (fun j h1 h2 => Classical.byContradiction (fun h3 => hc ⟨j, h1, h2, h3⟩)))
    obtain ⟨j, h1, h2, h3⟩ := hB
    have h := edges_B es hn (j - 1) k 1 j (Nat.le_refl _) (by omega) h2 h3 (by omega)
    rw [show ((1 : Nat) : Int) = 1 from rfl] at h
    rw [h]
    cases c : impl_LadderOf.okEs es with
    | false => rfl
    | true =>
      have h4 := ((okEs_iff es).1 c).2 j h2
      unfold impl_LadderOf.okE at h4
      rw [Bool.and_eq_true, Bool.or_eq_true, decide_eq_true_eq, decide_eq_true_eq] at h4
      rcases h4.2 with h5 | h5
      · omega
      · exact absurd (by simpa using h5) h3
theorem ladder_in {xs : List S29} {es : List Int} (he : es.length ≤ 10) (hok : ∀ i, i < es.length → impl_LadderOf.okE es i = true) {i : Nat} (hi : i < xs.length) (hx : xs.length ≤ 60) {ys : List Int} (hl : ys.length = es.length + 1)
    (hb : -1000000000000 ≤ rd ys (impl_LadderOf.place es xs[i].f0 : Int) + xs[i].f1 ∧ rd ys (impl_LadderOf.place es xs[i].f0 : Int) + xs[i].f1 ≤ 1000000000000) (d : Nat) : ∀ (k m : Nat), m + d = impl_LadderOf.place es xs[i].f0 → spec_LadderOf.l1 (k + d + 1) xs es ys (i : Int) (m : Int) = spec_LadderOf.l0 k xs es (impl_LadderOf.step es ys xs[i]) ((i + 1 : Nat) : Int) := by
  have hp := impl_LadderOf.place_le es xs[i].f0
  induction d with
  | zero =>
    intro k m hm
    obtain rfl : m = impl_LadderOf.place es xs[i].f0 := by omega
    simp only [Nat.add_zero, spec_LadderOf.l1]
    by_cases c : impl_LadderOf.place es xs[i].f0 < es.length
    · have h1 := impl_LadderOf.place_ge hok xs[i].f0 _ (Nat.le_refl _) c
      rw [if_pos (by omega), if_pos (by omega), if_pos (by omega), if_pos (by omega), rdF xs hi, if_neg (by omega), if_pos (by omega), w64 (by omega) (by omega), step1 hi (by omega), Int.toNat_natCast]
      rfl
    · rw [if_neg (by omega), if_pos (by omega), if_pos (by omega), if_pos (by omega), if_pos (by omega), rdF xs hi, w64 (by omega) (by omega), step1 hi (by omega), Int.toNat_natCast]
      rfl
  | succ d ih =>
    intro k m hm
    have h1 := impl_LadderOf.place_lt es xs[i].f0 m (by omega)
    have hlt : m < es.length := by omega
    obtain ⟨K, hK⟩ : ∃ K, K = k + d + 1 := ⟨_, rfl⟩
    rw [show k + (d + 1) + 1 = K + 1 by omega]
    simp only [spec_LadderOf.l1]
    rw [if_pos (by omega), if_pos (by omega), if_pos (by omega), if_pos (by omega), rdF xs hi, if_pos h1, step1 hlt (by omega), hK]
    exact ih k (m + 1) (by omega)
theorem ladder_out {xs : List S29} {es : List Int} (he : es.length ≤ 10) (hok : ∀ i, i < es.length → impl_LadderOf.okE es i = true) (hv : impl_flowsValid.v xs = true) (d : Nat) : ∀ (k i : Nat) (ys : List Int), i + d = xs.length → 12 * d < k → ys.length = es.length + 1 → (∀ y ∈ ys, -(1000000000 * (i : Int)) ≤ y ∧ y ≤ 1000000000 * (i : Int)) →
    spec_LadderOf.l0 k xs es ys (i : Int) = some ((xs.drop i).foldl (impl_LadderOf.step es) ys) := by
  have hf := flows_of hv
  induction d with
  | zero =>
    intro k i ys hi hk hl hb
    obtain ⟨k, rfl⟩ : ∃ m, k = m + 1 := ⟨k - 1, by omega⟩
    simp only [spec_LadderOf.l0]
    rw [if_neg (by omega), List.drop_of_length_le (by omega)]
    rfl
  | succ d ih =>
    intro k i ys hi hk hl hb
    have hlt : i < xs.length := by omega
    have hp := impl_LadderOf.place_le es xs[i].f0
    have hfi := (hf.2 _ (List.getElem_mem hlt)).2
    have hr : rd ys (impl_LadderOf.place es xs[i].f0 : Int) ∈ ys := by
      rw [rdI ys (by omega)]
      exact List.getElem_mem _
    have hrb := hb _ hr
    obtain ⟨k, rfl⟩ : ∃ m, k = (m + impl_LadderOf.place es xs[i].f0 + 1) + 1 := ⟨k - impl_LadderOf.place es xs[i].f0 - 2, by omega⟩
    have hin := ladder_in he hok hlt hf.1 hl (by omega) (impl_LadderOf.place es xs[i].f0) k 0 (by omega)
    simp only [spec_LadderOf.l0]
    rw [if_pos (by omega), List.drop_eq_getElem_cons hlt, List.foldl_cons]
    rw [show ((0 : Nat) : Int) = 0 from rfl] at hin
    rw [hin]
    refine ih k (i + 1) _ (by omega) (by omega) (by unfold impl_LadderOf.step; rw [List.length_set, hl]) (fun y hy => ?_)
    unfold impl_LadderOf.step at hy
    rcases List.mem_or_eq_of_mem_set hy with hy | hy
    · have := hb y hy
      omega
    · rw [hy]
      omega
theorem sLadder (xs : List S29) (es : List Int) (hn : xs.length ≤ 1048576) (hm : es.length ≤ 1048576) {k : Nat} (hk : xs.length + 1000 < k) (hk2 : 2 * es.length + 5 < k) : spec_LadderOf.f k xs es = some (impl_LadderOf.v xs es) := by
  obtain ⟨k, rfl⟩ : ∃ m, k = m + 1 := ⟨k - 1, by omega⟩
  unfold spec_LadderOf.f impl_LadderOf.v
  rw [sFlows xs (by omega) (by omega), sEdges es hm (by omega)]
  simp only [Option.bind_some, spec_LadderOf.j0]
  by_cases h1 : impl_flowsValid.v xs = true
  · rw [if_pos h1]
    by_cases h2 : impl_LadderOf.okEs es = true
    · have h3 := (okEs_iff es).1 h2
      rw [h2, if_neg (by decide), w64 (n := (es.length : Int) + 1) (by omega) (by omega), if_pos (by omega), if_pos (by omega), if_pos ⟨h1, rfl⟩, show ((es.length : Int) + 1).toNat = es.length + 1 by omega]
      have hf := flows_of h1
      have := ladder_out h3.1 h3.2 h1 xs.length k 0 (List.replicate (es.length + 1) 0) (by omega) (by omega) (by rw [List.length_replicate]) (fun y hy => by rw [(List.mem_replicate.1 hy).2]; omega)
      rw [List.drop_zero] at this
      exact this
    · rw [if_pos (by simpa using h2), if_neg (fun h => h2 h.2)]
  · rw [if_neg h1, if_pos trivial, if_neg (fun h => h1 h.1)]
theorem ladLen (xs : List S29) (es : List Int) : (impl_LadderOf.v xs es).length ≤ 11 := by
  unfold impl_LadderOf.v
  by_cases h : impl_flowsValid.v xs = true ∧ impl_LadderOf.okEs es = true
  · rw [if_pos h, impl_LadderOf.step_len, List.length_replicate]
    have := ((okEs_iff es).1 h.2).1
    omega
  · rw [if_neg h]
    simp

theorem equalInts_l (xs : List Int) (hn : xs.length ≤ 4611686018427387904) (d : Nat) : ∀ (k i : Nat), i + d = xs.length → d < k → laws_equalInts.l0 k xs xs (i : Int) = some true := by
  induction d with
  | zero =>
    intro k i hi hk
    obtain ⟨k, rfl⟩ : ∃ m, k = m + 1 := ⟨k - 1, by omega⟩
    simp only [laws_equalInts.l0]
    rw [if_neg (by omega)]
  | succ d ih =>
    intro k i hi hk
    obtain ⟨k, rfl⟩ : ∃ m, k = m + 1 := ⟨k - 1, by omega⟩
    have hlt : i < xs.length := by omega
    simp only [laws_equalInts.l0]
    rw [if_pos (by omega), if_pos (by omega), if_pos (by omega), if_pos trivial, step1 hlt hn, ih k (i + 1) (by omega) (by omega)]
theorem equalInts (xs : List Int) (hn : xs.length ≤ 4611686018427387904) {k : Nat} (hk : xs.length < k) : laws_equalInts.f k xs xs = some true := by
  unfold laws_equalInts.f
  rw [if_pos rfl]
  exact equalInts_l xs hn xs.length k 0 (by omega) (by omega)

/-- A computation that answers, and its answer is P. -/
def Gives {α : Type} (o : Option α) (P : α → Prop) : Prop := ∃ v, o = some v ∧ P v
theorem Gives.of {α : Type} {v : α} {P : α → Prop} (h : P v) : Gives (some v) P := ⟨v, rfl, h⟩
theorem Gives.bind {α β : Type} {o : Option α} {f : α → Option β} {P : α → Prop} {Q : β → Prop} (h : Gives o P) (hf : ∀ v, P v → Gives (f v) Q) : Gives (o.bind f) Q := by
  obtain ⟨v, rfl, hv⟩ := h
  exact hf v hv
theorem Gives.ite {α : Type} {c : Prop} [Decidable c] {a b : Option α} {P : α → Prop} (h1 : c → Gives a P) (h2 : ¬ c → Gives b P) : Gives (if c then a else b) P := by
  by_cases h : c
  · rw [if_pos h]
    exact h1 h
  · rw [if_neg h]
    exact h2 h
theorem Gives.pos {α : Type} {c : Prop} [Decidable c] {a b : Option α} {P : α → Prop} (hc : c) (h1 : Gives a P) : Gives (if c then a else b) P := by
  rw [if_pos hc]
  exact h1
theorem Gives.neg {α : Type} {c : Prop} [Decidable c] {a b : Option α} {P : α → Prop} (hc : ¬ c) (h1 : Gives b P) : Gives (if c then a else b) P := by
  rw [if_neg hc]
  exact h1
theorem Gives.mono {α : Type} {o : Option α} {P Q : α → Prop} (h : Gives o P) (hpq : ∀ v, P v → Q v) : Gives o Q := by
  obtain ⟨v, e, hv⟩ := h
  exact ⟨v, e, hpq v hv⟩
theorem Gives.eq {α : Type} {o : Option α} {v : α} (h : o = some v) : Gives o (fun x => x = v) := ⟨v, h, rfl⟩

/-- What a reader reads: at most 2000 bytes. -/
def Rd (b : List Int) : Prop := b.length ≤ 2000 ∧ ∀ x ∈ b, (Lit.int .u8 x).wf = true
theorem rd_byte {b : List Int} (h : Rd b) (i : Int) : 0 ≤ rd b i ∧ rd b i ≤ 255 := by
  unfold rd
  rw [List.getD_eq_getElem?_getD]
  by_cases hi : i.toNat < b.length
  · rw [List.getElem?_eq_getElem hi]
    exact bounds_u8 (h.2 _ (List.getElem_mem hi))
  · rw [List.getElem?_eq_none (by omega)]
    exact ⟨by simp, by simp⟩
theorem xor_nonneg {x y : Int} (hx : 0 ≤ x) (hx2 : x < 4611686018427387904) (hy : 0 ≤ y) (hy2 : y < 4611686018427387904) : 0 ≤ Go.bits .xor .i64 x y ∧ Go.bits .xor .i64 x y < 4611686018427387904 := by
  obtain ⟨a, rfl⟩ := Int.eq_ofNat_of_zero_le hx
  obtain ⟨b, rfl⟩ := Int.eq_ofNat_of_zero_le hy
  have ha : a < 2 ^ 62 := by omega
  have hb : b < 2 ^ 62 := by omega
  have hp : (2 : Nat) ^ 62 ≤ 2 ^ IntKind.i64.bits := Nat.pow_le_pow_right (by decide) (by decide)
  have ha' : a % 2 ^ IntKind.i64.bits = a := Nat.mod_eq_of_lt (Nat.lt_of_lt_of_le ha hp)
  have hb' : b % 2 ^ IntKind.i64.bits = b := Nat.mod_eq_of_lt (Nat.lt_of_lt_of_le hb hp)
  have hxor : a ^^^ b < 2 ^ 62 := Nat.xor_lt_two_pow ha hb
  have e : Go.bits .xor .i64 (a : Int) (b : Int) = ((a ^^^ b : Nat) : Int) := by
    simp only [Go.bits, BitVec.ofInt_natCast, BitVec.toNat_xor, BitVec.toNat_ofNat, ha', hb']
    rw [IntKind.wrap_i64]
    omega
  have e2 : (Int.ofNat a) = (a : Int) := rfl
  have e3 : (Int.ofNat b) = (b : Int) := rfl
  first | rw [e] | (rw [e2, e3, e])
  omega
theorem tmod_at {x n : Int} (hx : 0 ≤ x) (hn : 0 < n) : 0 ≤ Int.tmod x n ∧ Int.tmod x n < n := ⟨Int.tmod_nonneg n hx, Int.tmod_lt_of_pos x hn⟩
theorem tdiv_at {x n : Int} (hx : 0 ≤ x) (hn : 0 < n) : 0 ≤ Int.tdiv x n ∧ Int.tdiv x n ≤ x := by
  rw [Int.tdiv_eq_ediv_of_nonneg hx]
  exact ⟨Int.ediv_nonneg hx (by omega), Int.ediv_le_self n hx⟩

theorem pick {b : List Int} (hb : Rd b) {p n : Int} (k : Nat) (h0 : 0 ≤ p) (h1 : p ≤ 1000000) (hn : 1 ≤ n) : Gives (spec_reader_pick.f (k + 1) b p n) (fun v => (0 ≤ v.1 ∧ v.1 < n) ∧ v.2 = p + 1) := by
  unfold spec_reader_pick.f
  rw [if_neg (by omega), w64 (n := p + 1) (by omega) (by omega)]
  simp only [spec_reader_pick.j0]
  have hl := hb.1
  by_cases hz : b.length = 0
  · have : ((b.length : Int) == 0) = true := by
      rw [hz]
      rfl
    rw [if_pos this]
    exact Gives.of ⟨⟨by omega, by omega⟩, rfl⟩
  · have : ¬ ((b.length : Int) == 0) = true := by
      simp only [beq_iff_eq]
      omega
    rw [if_neg this, w64 (n := p + 1 - 1) (by omega) (by omega)]
    have e : p + 1 - 1 = p := by omega
    rw [e]
    have hlp : 0 < (b.length : Int) := by omega
    by_cases hp : p < (b.length : Int)
    · have hr := rd_byte hb p
      rw [if_pos hp, if_pos h0, if_neg (by omega), w64 (n := rd b p) (by omega) (by omega)]
      exact Gives.of ⟨tmod_at hr.1 (by omega), rfl⟩
    · have m1 := tmod_at h0 hlp
      rw [if_neg hp, if_neg (by omega), if_pos m1.1, if_pos m1.2, w64 (n := p * 7) (by omega) (by omega), w64 (n := p * 7 + 3) (by omega) (by omega)]
      have m2 := tmod_at (show 0 ≤ p * 7 + 3 by omega) hlp
      have d1 := tdiv_at h0 hlp
      rw [if_pos m2.1, if_pos m2.2, if_neg (by omega)]
      generalize Int.tmod p (b.length : Int) = i1 at *
      generalize Int.tmod (p * 7 + 3) (b.length : Int) = i2 at *
      generalize Int.tdiv p (b.length : Int) = q at *
      have r1 := rd_byte hb i1
      have r2 := rd_byte hb i2
      generalize rd b i1 = x1 at *
      generalize rd b i2 = x2 at *
      rw [w64 (n := x1) (by omega) (by omega), w64 (n := x2) (by omega) (by omega), w64 (n := x1 * 131) (by omega) (by omega), w64 (n := x2 * 1117) (by omega) (by omega), w64 (n := x1 * 131 + x2 * 1117) (by omega) (by omega),
        w64 (n := p * 29) (by omega) (by omega), w64 (n := x1 * 131 + x2 * 1117 + p * 29) (by omega) (by omega), w64 (n := q) (by omega) (by omega), w64 (n := q * 53) (by omega) (by omega), w64 (n := x1 * 131 + x2 * 1117 + p * 29 + q * 53) (by omega) (by omega)]
      have hy : 0 ≤ x1 * 131 + x2 * 1117 + p * 29 + q * 53 ∧ x1 * 131 + x2 * 1117 + p * 29 + q * 53 < 1000000000 := by omega
      generalize x1 * 131 + x2 * 1117 + p * 29 + q * 53 = y at *
      have d2 := tdiv_at hy.1 (show (0 : Int) < 64 by omega)
      rw [w64 (n := Int.tdiv y 64) (by omega) (by omega)]
      have hx := xor_nonneg hy.1 (by omega) d2.1 (by omega)
      exact Gives.of ⟨tmod_at hx.1 (by omega), rfl⟩

theorem rd_mem {l : List Int} {i : Int} (h0 : 0 ≤ i) (h1 : i < (l.length : Int)) : rd l i ∈ l := by
  unfold rd
  have hi : i.toNat < l.length := by omega
  rw [List.getD_eq_getElem?_getD, List.getElem?_eq_getElem hi]
  exact List.getElem_mem hi
theorem one {b : List Int} (hb : Rd b) {p : Int} (k : Nat) {l : List Int} (h0 : 0 ≤ p) (h1 : p ≤ 1000000) (hl : 1 ≤ l.length) : Gives (spec_reader_one.f (k + 1) b p l) (fun v => v.1 ∈ l ∧ v.2 = p + 1) := by
  unfold spec_reader_one.f
  refine Gives.bind (pick hb k h0 h1 (by omega)) (fun v hv => ?_)
  rw [if_pos hv.1.1, if_pos hv.1.2]
  exact Gives.of ⟨rd_mem hv.1.1 hv.1.2, hv.2⟩

theorem spoil {b : List Int} (hb : Rd b) {p : Int} (k : Nat) {l : List Int} (m : Int) (h0 : 0 ≤ p) (h1 : p ≤ 900000) (hl : l.length ≤ 1000) : Gives (spec_reader_spoil.f (k + 1) b p l m) (fun v => v.1.length ≤ l.length + 1 ∧ 0 ≤ v.2 ∧ v.2 ≤ p + 3) := by
  unfold spec_reader_spoil.f
  have e : spec_copyInts.f l = some l := by
    unfold spec_copyInts.f
    simp only [Option.bind_some, List.length_nil, Nat.zero_add, List.nil_append]
    rw [if_pos (by omega)]
  rw [e]
  simp only [Option.bind_some]
  refine Gives.bind (pick hb k h0 (by omega) (by omega)) (fun v1 g1 => ?_)
  refine Gives.ite (fun _ => ?_) (fun _ => Gives.ite (fun _ => ?_) (fun _ => Gives.ite (fun _ => ?_) (fun _ => ?_)))
  · rw [if_pos (by omega)]
    exact Gives.of ⟨by simp, show 0 ≤ v1.2 by omega, show v1.2 ≤ p + 3 by omega⟩
  · refine Gives.ite (fun h => ?_) (fun _ => Gives.of ⟨by simp, show 0 ≤ v1.2 by omega, show v1.2 ≤ p + 3 by omega⟩)
    rw [if_pos (by omega)]
    exact Gives.of ⟨by simp only [List.length_drop]; omega, show 0 ≤ v1.2 by omega, show v1.2 ≤ p + 3 by omega⟩
  · refine Gives.ite (fun h => ?_) (fun _ => Gives.of ⟨by simp, show 0 ≤ v1.2 by omega, show v1.2 ≤ p + 3 by omega⟩)
    refine Gives.bind (pick hb k (by omega) (by omega) (by omega)) (fun v2 g2 => ?_)
    refine Gives.bind (one hb k (by omega) (by omega) (by simp)) (fun v3 g3 => ?_)
    rw [if_pos g2.1.1, if_pos g2.1.2]
    exact Gives.of ⟨by simp, show 0 ≤ v3.2 by omega, show v3.2 ≤ p + 3 by omega⟩
  · exact Gives.of ⟨by simp, show 0 ≤ v1.2 by omega, show v1.2 ≤ p + 3 by omega⟩

theorem anyFlows_j {b : List Int} (hb : Rd b) (k : Nat) {p : Int} (h0 : 0 ≤ p) (h1 : p ≤ 800000) (xs : List S29) (c : Bool) (hc : c = true → 1 ≤ xs.length) (hl : xs.length ≤ 61) :
    Gives (spec_anyFlows.j1 (k + 2) xs c b p) (fun v => v.1.length ≤ 61 ∧ 0 ≤ v.2 ∧ v.2 ≤ p + 4) := by
  simp only [spec_anyFlows.j1]
  refine Gives.ite (fun h => ?_) (fun _ => Gives.of ⟨hl, h0, show p ≤ p + 4 by omega⟩)
  have hx := hc h
  refine Gives.bind (one hb k h0 (by omega) (by decide)) (fun v2 g2 => ?_)
  refine Gives.bind (one hb k (by omega) (by omega) (by decide)) (fun v3 g3 => ?_)
  rw [if_pos (by omega)]
  exact Gives.of ⟨by simpa using hl, show 0 ≤ v3.2 by omega, show v3.2 ≤ p + 4 by omega⟩
theorem anyFlows_l {b : List Int} (hb : Rd b) (d : Nat) : ∀ (k : Nat) (p n : Int) (xs : List S29), n = d → d + 4 < k → 0 ≤ p → p + 3 * n ≤ 700000 → xs.length + d ≤ 61 →
    Gives (spec_anyFlows.l0 k xs n b p) (fun v => v.1.length ≤ 61 ∧ 0 ≤ v.2 ∧ v.2 ≤ p + 3 * n + 5) := by
  induction d with
  | zero =>
    intro k p n xs hn hk h0 h1 hl
    obtain ⟨k, rfl⟩ : ∃ m, k = m + 4 := ⟨k - 4, by omega⟩
    simp only [spec_anyFlows.l0]
    rw [if_neg (by omega)]
    refine Gives.ite (fun hx => ?_) (fun _ => ?_)
    · refine Gives.bind (pick hb _ h0 (by omega) (by omega)) (fun v1 g1 => ?_)
      exact (anyFlows_j hb (k + 1) (by omega) (by omega) xs _ (fun _ => by omega) (by omega)).mono (fun v g => ⟨g.1, g.2.1, by omega⟩)
    · exact (anyFlows_j hb (k + 1) h0 (by omega) xs false (fun h => by cases h) (by omega)).mono (fun v g => ⟨g.1, g.2.1, by omega⟩)
  | succ d ih =>
    intro k p n xs hn hk h0 h1 hl
    obtain ⟨k, rfl⟩ : ∃ m, k = m + 2 := ⟨k - 2, by omega⟩
    simp only [spec_anyFlows.l0]
    rw [if_pos (by omega)]
    refine Gives.bind (pick hb k h0 (by omega) (by omega)) (fun v1 g1 => ?_)
    refine Gives.bind (pick hb k (by omega) (by omega) (by omega)) (fun v2 g2 => ?_)
    rw [if_pos (by omega), w64 (n := n - 1) (by omega) (by omega)]
    refine (ih (k + 1) v2.2 (n - 1) _ (by omega) (by omega) (by omega) (by omega) ?_).mono (fun v g => ⟨g.1, g.2.1, by omega⟩)
    rw [List.length_append, List.length_singleton]
    omega
theorem anyFlows {b : List Int} (hb : Rd b) {k : Nat} (hk : 80 < k) {p : Int} (h0 : 0 ≤ p) (h1 : p ≤ 100000) : Gives (spec_anyFlows.f k b p) (fun v => v.1.length ≤ 61 ∧ 0 ≤ v.2 ∧ v.2 ≤ p + 300) := by
  obtain ⟨k, rfl⟩ : ∃ m, k = m + 1 := ⟨k - 1, by omega⟩
  unfold spec_anyFlows.f
  refine Gives.bind (one hb k h0 (by omega) (by decide)) (fun v1 g1 => ?_)
  have hm := g1.1
  simp only [List.mem_cons, List.not_mem_nil, or_false] at hm
  refine (anyFlows_l hb v1.1.toNat (k + 1) v1.2 v1.1 [] (by omega) (by omega) (by omega) (by omega) ?_).mono (fun v g => ⟨g.1, g.2.1, by omega⟩)
  rw [List.length_nil]
  omega

theorem newReader {l : List Int} (hx : ∀ x ∈ l, (Lit.int .u8 x).wf = true) : Gives (spec_newReader.f l) (fun v => Rd v.1 ∧ v.2 = 0) := by
  unfold spec_newReader.f
  by_cases h : (l.length : Int) > 2000
  · rw [if_pos h, if_pos (by omega)]
    exact Gives.of ⟨⟨by simp only [List.length_take]; omega, fun x hm => hx x (List.mem_of_mem_take hm)⟩, rfl⟩
  · rw [if_neg h]
    exact Gives.of ⟨⟨show l.length ≤ 2000 by omega, hx⟩, rfl⟩

theorem draw_l {b : List Int} (hb : Rd b) (xs : List S29) (hx : xs.length ≤ 61) (d : Nat) : ∀ (k : Nat) (es : List Int) (day n p : Int), n = d → d + 4 < k → 0 ≤ p → p + 3 * n ≤ 700000 → es.length + d ≤ 11 →
    Gives (spec_DrawLadderOf.l0 k xs es day n b p) (fun v => v.1.length ≤ 61 ∧ v.2.length ≤ 12) := by
  induction d with
  | zero =>
    intro k es day n p hn hk h0 h1 hl
    obtain ⟨k, rfl⟩ : ∃ m, k = m + 2 := ⟨k - 2, by omega⟩
    simp only [spec_DrawLadderOf.l0]
    rw [if_neg (by omega)]
    refine Gives.bind (spoil hb k 36525 h0 (by omega) (by omega)) (fun v g => ?_)
    exact Gives.of ⟨hx, show v.1.length ≤ 12 by omega⟩
  | succ d ih =>
    intro k es day n p hn hk h0 h1 hl
    obtain ⟨k, rfl⟩ : ∃ m, k = m + 2 := ⟨k - 2, by omega⟩
    simp only [spec_DrawLadderOf.l0]
    rw [if_pos (by omega)]
    refine Gives.bind (pick hb k h0 (by omega) (by omega)) (fun v1 g1 => ?_)
    rw [if_pos (by omega), w64 (n := n - 1) (by omega) (by omega)]
    refine ih (k + 1) _ _ (n - 1) v1.2 (by omega) (by omega) (by omega) (by omega) ?_
    rw [List.length_append, List.length_singleton]
    omega
theorem drawLad {l : List Int} {k : Nat} (hk : 100 < k) (hx : ∀ x ∈ l, (Lit.int .u8 x).wf = true) : Gives (spec_DrawLadderOf.f k l) (fun v => v.1.length ≤ 61 ∧ v.2.length ≤ 12) := by
  unfold spec_DrawLadderOf.f
  obtain ⟨k, rfl⟩ : ∃ m, k = m + 1 := ⟨k - 1, by omega⟩
  refine Gives.bind (newReader hx) (fun v0 g0 => ?_)
  refine Gives.bind (anyFlows g0.1 (by omega) (by omega) (by omega)) (fun v1 g1 => ?_)
  refine Gives.bind (one g0.1 k (by omega) (by omega) (by decide)) (fun v2 g2 => ?_)
  have hm := g2.1
  simp only [List.mem_cons, List.not_mem_nil, or_false] at hm
  exact draw_l g0.1 v1.1 g1.1 v2.1.toNat (k + 1) [] 9000 v2.1 v2.2 (by omega) (by omega) (by omega) (by omega) (by simp only [List.length_nil]; omega)
theorem rds (ys : List Int) {i j : Nat} (hi : i < ys.length) (x : Int) : rd (ys.set i x) (j : Int) = if i = j then x else rd ys (j : Int) := by
  unfold rd
  rw [List.getD_eq_getElem?_getD, List.getD_eq_getElem?_getD, Int.toNat_natCast]
  by_cases c : i = j
  · subst c
    rw [if_pos rfl, List.getElem?_set_self hi]
    rfl
  · rw [if_neg c, List.getElem?_set_ne c]
theorem rdt (es : List Int) {m j : Nat} (h : j < m) : rd (es.take m) (j : Int) = rd es (j : Int) := by
  unfold rd
  rw [List.getD_eq_getElem?_getD, List.getD_eq_getElem?_getD, Int.toNat_natCast, List.getElem?_take, if_pos h]
theorem place_app (a : List Int) (e day : Int) : (impl_LadderOf.place (a ++ [e]) day < a.length ∧ impl_LadderOf.place a day = impl_LadderOf.place (a ++ [e]) day) ∨ (a.length ≤ impl_LadderOf.place (a ++ [e]) day ∧ impl_LadderOf.place (a ++ [e]) day ≤ a.length + 1 ∧ impl_LadderOf.place a day = a.length) := by
  unfold impl_LadderOf.place
  induction a with
  | nil =>
    refine .inr ⟨by simp, ?_, by simp⟩
    have := (List.takeWhile_sublist (l := [e]) (fun n => decide (n ≤ day))).length_le
    simpa using this
  | cons x a ih =>
    by_cases c : x ≤ day
    · simp only [List.cons_append, List.takeWhile_cons, decide_eq_true c, if_true, List.length_cons]
      rcases ih with ⟨h1, h2⟩ | ⟨h1, h2, h3⟩
      · exact .inl ⟨by omega, by omega⟩
      · exact .inr ⟨by omega, by omega, by omega⟩
    · simp only [List.cons_append, List.takeWhile_cons, decide_eq_false c, Bool.false_eq_true, if_false, List.length_cons, List.length_nil]
      exact .inl ⟨by omega, trivial⟩
def Mrg (m : Nat) (ys zs : List Int) : Prop := ys.length = m + 2 ∧ zs.length = m + 1 ∧ (∀ j : Nat, j < m → rd zs (j : Int) = rd ys (j : Int)) ∧ rd zs (m : Int) = rd ys (m : Int) + rd ys ((m + 1 : Nat) : Int)
theorem Mrg.step {a : List Int} {e : Int} {ys zs : List Int} (h : Mrg a.length ys zs) (p : S29) : Mrg a.length (impl_LadderOf.step (a ++ [e]) ys p) (impl_LadderOf.step a zs p) := by
  obtain ⟨h1, h2, h3, h4⟩ := h
  unfold impl_LadderOf.step
  have hp := place_app a e p.f0
  generalize impl_LadderOf.place (a ++ [e]) p.f0 = K at hp
  generalize impl_LadderOf.place a p.f0 = K2 at hp
  have hK : K < ys.length := by omega
  have hK2 : K2 < zs.length := by omega
  refine ⟨by rw [List.length_set, h1], by rw [List.length_set, h2], fun j hj => ?_, ?_⟩
  · rw [rds zs hK2, rds ys hK]
    rcases hp with ⟨hp1, hp2⟩ | ⟨hp1, hp2, hp3⟩
    · subst hp2
      rw [h3 K2 hp1, h3 j hj]
    · rw [if_neg (by omega), if_neg (by omega), h3 j hj]
  · rw [rds zs hK2, rds ys hK, rds ys hK]
    rcases hp with ⟨hp1, hp2⟩ | ⟨hp1, hp2, hp3⟩
    · rw [if_neg (by omega), if_neg (by omega), if_neg (by omega), h4]
    · subst hp3
      rw [if_pos rfl, h4]
      by_cases c : K = a.length
      · subst c
        rw [if_pos rfl, if_neg (by omega)]
        omega
      · obtain rfl : K = a.length + 1 := by omega
        rw [if_neg (by omega), if_pos rfl]
        omega
theorem Mrg.fold {a : List Int} {e : Int} (l : List S29) : ∀ {ys zs : List Int}, Mrg a.length ys zs → Mrg a.length (l.foldl (impl_LadderOf.step (a ++ [e])) ys) (l.foldl (impl_LadderOf.step a) zs) := by
  induction l with
  | nil => exact fun h => h
  | cons p l ih => intro ys zs h; rw [List.foldl_cons, List.foldl_cons]; exact ih (h.step p)
theorem rd_rep (n : Nat) (j : Int) : rd (List.replicate n 0) j = 0 := by
  unfold rd
  rw [List.getD_eq_getElem?_getD, List.getElem?_replicate]
  split <;> rfl
theorem Mrg.zero (m : Nat) : Mrg m (List.replicate (m + 2) 0) (List.replicate (m + 1) 0) :=
  ⟨by simp, by simp, fun j _ => by rw [rd_rep, rd_rep], by rw [rd_rep, rd_rep, rd_rep]; rfl⟩
theorem ok_take {es : List Int} (h : impl_LadderOf.okEs es = true) (m : Nat) (hm : m ≤ es.length) : impl_LadderOf.okEs (es.take m) = true := by
  have h1 := (okEs_iff es).1 h
  have hl : (es.take m).length = m := by rw [List.length_take]; omega
  refine (okEs_iff _).2 ⟨by omega, fun i hi => ?_⟩
  have h2 := h1.2 i (by omega)
  unfold impl_LadderOf.okE at h2 ⊢
  rw [rdt es (show i < m by omega)]
  by_cases c : i = 0
  · rw [decide_eq_true c] at h2 ⊢
    exact h2
  · have e : (i : Int) - 1 = ((i - 1 : Nat) : Int) := by omega
    rw [e] at h2 ⊢
    rw [rdt es (show i - 1 < m by omega)]
    exact h2
theorem take_eq {ys zs : List Int} {m : Nat} (h1 : m ≤ ys.length) (h2 : m ≤ zs.length) (h : ∀ j : Nat, j < m → rd zs (j : Int) = rd ys (j : Int)) : zs.take m = ys.take m := by
  refine List.ext_getElem (by rw [List.length_take, List.length_take]; omega) (fun i hi1 hi2 => ?_)
  rw [List.length_take] at hi1
  rw [List.getElem_take, List.getElem_take, ← rdI zs (by omega), ← rdI ys (by omega)]
  exact h i (by omega)
theorem merged {xs : List S29} {es : List Int} (hv : impl_flowsValid.v xs = true) (he : impl_LadderOf.okEs es = true) {m : Nat} (hm : es.length = m + 1) : Mrg m (impl_LadderOf.v xs es) (impl_LadderOf.v xs (es.take m)) := by
  have hl : (es.take m).length = m := by rw [List.length_take]; omega
  have h1 : impl_LadderOf.v xs es = xs.foldl (impl_LadderOf.step es) (List.replicate (es.length + 1) 0) := if_pos ⟨hv, he⟩
  have h2 : impl_LadderOf.v xs (es.take m) = xs.foldl (impl_LadderOf.step (es.take m)) (List.replicate ((es.take m).length + 1) 0) := if_pos ⟨hv, ok_take he m (by omega)⟩
  have hsp : es = es.take m ++ [es[m]'(by omega)] := by
    have := List.take_succ_eq_append_getElem (l := es) (i := m) (by omega)
    rw [← this, List.take_of_length_le (by omega)]
  have h3 := Mrg.fold (a := es.take m) (e := es[m]'(by omega)) xs (Mrg.zero (es.take m).length)
  rw [← hsp] at h3
  rw [h1, h2, hl, hm]
  rw [hl] at h3
  exact h3
end FnLadderOfMergeLaw
open FnLadderOfMergeLaw

theorem FnLadderOfMerge : laws_FnLadderOfMerge.Pure := by
  intro l _ _ hx
  have hk : ∃ k, 3000 < k := ⟨3001, by omega⟩
  obtain ⟨k, hk⟩ := hk
  refine ⟨k, ?_⟩
  unfold laws_FnLadderOfMerge.f
  by_cases hl : (l.length : Int) > 1048576
  · rw [if_pos hl]
  · rw [if_neg hl]
    obtain ⟨⟨xs, es⟩, hd, hn, hm⟩ := drawLad (k := k) (by omega) hx
    simp only at hn hm
    rw [hd]
    simp only [Option.bind_some]
    have hlen := ladLen xs es
    rw [sLadder xs es (by omega) (by omega) (by omega) (by omega)]
    unfold impl_LadderOf.f
    simp only [Option.bind_some]
    obtain ⟨k, rfl⟩ : ∃ m, k = m + 1 := ⟨k - 1, by omega⟩
    rw [equalInts _ (by omega) (by omega)]
    simp only [Option.bind_some, if_true, laws_FnLadderOfMerge.j0]
    rw [sLadder xs es (by omega) (by omega) (by omega) (by omega)]
    simp only [Option.bind_some]
    rw [equalInts _ (by omega) (by omega)]
    by_cases c : decide (((impl_LadderOf.v xs es).length : Int) < 2) = true
    · rw [if_pos c]
      rfl
    · rw [if_neg c]
      have c2 : ¬ ((impl_LadderOf.v xs es).length : Int) < 2 := fun h => c (decide_eq_true h)
      by_cases h : impl_flowsValid.v xs = true ∧ impl_LadderOf.okEs es = true
      · have hf := flows_of h.1
        have hes := (okEs_iff es).1 h.2
        have e : impl_LadderOf.v xs es = xs.foldl (impl_LadderOf.step es) (List.replicate (es.length + 1) 0) := if_pos h
        have hb := impl_LadderOf.step_bd es xs (fun p hp => (hf.2 p hp).2) (List.replicate (es.length + 1) 0) 0 (by omega) (fun y hy => by rw [(List.mem_replicate.1 hy).2]; omega)
        have hl2 := impl_LadderOf.step_len es xs (List.replicate (es.length + 1) 0)
        rw [List.length_replicate, ← e] at hl2
        rw [← e] at hb
        obtain ⟨m, hm2⟩ : ∃ m, es.length = m + 1 := ⟨es.length - 1, by omega⟩
        obtain ⟨g1, g2, g3, g4⟩ := merged h.1 h.2 hm2
        have b1 := hb (rd (impl_LadderOf.v xs es) (m : Int)) (by rw [rdI _ (by omega)]; exact List.getElem_mem _)
        have b2 := hb (rd (impl_LadderOf.v xs es) ((m + 1 : Nat) : Int)) (by rw [rdI _ (by omega)]; exact List.getElem_mem _)
        have e1 : wrap64 (((m + 1 : Nat) : Int) - 1) = (m : Int) := by rw [w64 (by omega) (by omega)]; omega
        have e2 : (es.length : Int) = ((m + 1 : Nat) : Int) := by omega
        simp only [e2, e1, Int.toNat_natCast]
        unfold impl_LadderOf.f
        simp only [Option.bind_some]
        generalize impl_LadderOf.v xs es = ys at *
        generalize impl_LadderOf.v xs (es.take m) = zs at *
        rw [if_pos (by omega), if_pos (by omega), if_pos (by omega), if_pos (by omega), if_pos (by omega), if_pos (by omega), if_pos (by omega), w64 (by omega) (by omega), if_pos g4, if_pos (by omega), if_pos (by omega), take_eq (by omega) (by omega) g3, equalInts _ (by rw [List.length_take]; omega) (by rw [List.length_take]; omega)]
        rfl
      · exfalso
        apply c2
        unfold impl_LadderOf.v
        rw [if_neg h]
        simp

end Go.Proofs.Ytmdhfmcnjdnkfaa.Pure

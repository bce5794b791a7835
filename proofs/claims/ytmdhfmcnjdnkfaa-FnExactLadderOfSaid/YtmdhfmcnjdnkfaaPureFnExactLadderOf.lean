/- What the printed functions of FnExactLadderOf compute is true at every input. Conditions: none beyond the arguments' kinds. -/
import Derived.Test.YtmdhfmcnjdnkfaaGFnExactLadderOfx6
import Derived.OpenShut
namespace Go.Proofs.Ytmdhfmcnjdnkfaa.Pure
open Go.RowKit Go.Proofs.Ytmdhfmcnjdnkfaa.PFnExactLadderOf Go.Proofs.YtmdhfmcnjdnkfaaW.PrintWords Go.Proofs.YtmdhfmcnjdnkfaaW.PrintLast Go.Proofs.YtmdhfmcnjdnkfaaW.PrintMore
set_option linter.unusedVariables false
set_option linter.unusedSimpArgs false

namespace FnExactLadderOfLaw
theorem w64 {n : Int} (h1 : -9223372036854775808 ≤ n) (h2 : n ≤ 9223372036854775807) : wrap64 n = n := by
  unfold wrap64
  omega

theorem step1 {i n : Nat} (h : i < n) (hn : n ≤ 4611686018427387904) : wrap64 ((i : Int) + 1) = ((i + 1 : Nat) : Int) := by
  rw [w64 (by omega) (by omega)]
  omega

theorem rdI (xs : List Int) {i : Nat} (h : i < xs.length) : rd xs (i : Int) = xs[i] := by
  unfold rd
  rw [List.getD_eq_getElem?_getD, Int.toNat_natCast, List.getElem?_eq_getElem h]
  rfl

theorem inR (a l h : Int) : spec_inRange.f a l h = some (decide (l ≤ a ∧ a ≤ h)) := by
  unfold spec_inRange.f
  split <;> simp only [true_and, false_and, decide_false, *]

theorem allIn_l (xs : List Int) (lo hi : Int) (hn : xs.length ≤ 4611686018427387904) (d : Nat) : ∀ (k i : Nat), i + d = xs.length → d < k → spec_allIn.l0 k xs lo hi (i : Int) = some ((xs.drop i).all fun n => decide (lo ≤ n ∧ n ≤ hi)) := by
  induction d with
  | zero =>
    intro k i h hk
    obtain ⟨k, rfl⟩ : ∃ m, k = m + 1 := ⟨k - 1, by omega⟩
    simp only [spec_allIn.l0]
    rw [if_neg (by omega), List.drop_of_length_le (by omega)]
    rfl
  | succ d ih =>
    intro k i h hk
    obtain ⟨k, rfl⟩ : ∃ m, k = m + 1 := ⟨k - 1, by omega⟩
    have hlt : i < xs.length := by omega
    simp only [spec_allIn.l0]
    rw [if_pos (by omega), if_pos (by omega), rdI xs hlt, inR, step1 hlt hn, ih k (i + 1) (by omega) (by omega), List.drop_eq_getElem_cons hlt, List.all_cons]
    simp only [Option.bind_some]
    cases decide (lo ≤ xs[i] ∧ xs[i] ≤ hi) <;> rfl
theorem allIn (xs : List Int) (lo hi : Int) (hn : xs.length ≤ 4611686018427387904) {k : Nat} (hk : xs.length < k) : spec_allIn.f k xs lo hi = some (xs.all fun n => decide (lo ≤ n ∧ n ≤ hi)) := by
  unfold spec_allIn.f
  exact allIn_l xs lo hi hn xs.length k 0 (by omega) (by omega)

theorem rdF (xs : List S29) {i : Nat} (h : i < xs.length) : rd_T29 xs (i : Int) = xs[i] := by
  unfold rd_T29
  rw [List.getD_eq_getElem?_getD, Int.toNat_natCast, List.getElem?_eq_getElem h]
  rfl

theorem sFlows_l (xs : List S29) (hn : xs.length ≤ 4611686018427387904) (d : Nat) : ∀ (k i : Nat), i + d = xs.length → d < k →
    spec_validFlows.l0 k xs (i : Int) = some ((xs.drop i).all impl_flowsValid.okF && decide (xs.length ≤ 60)) := by
  induction d with
  | zero =>
    intro k i hi hk
    obtain ⟨k, rfl⟩ : ∃ m, k = m + 1 := ⟨k - 1, by omega⟩
    simp only [spec_validFlows.l0]
    rw [if_neg (by omega), List.drop_of_length_le (by omega)]
    simp only [List.all_nil, Bool.true_and, Option.some.injEq, decide_eq_decide]
    omega
  | succ d ih =>
    intro k i hi hk
    obtain ⟨k, rfl⟩ : ∃ m, k = m + 1 := ⟨k - 1, by omega⟩
    have hlt : i < xs.length := by omega
    have e1 : ∀ p : S29, impl_flowsValid.okF p = (decide (0 ≤ p.f0 ∧ p.f0 ≤ 36524) && decide (-1000000000 ≤ p.f1 ∧ p.f1 ≤ 1000000000)) := fun _ => rfl
    simp only [spec_validFlows.l0]
    rw [if_pos (by omega), if_pos (by omega), step1 hlt hn, ih k (i + 1) (by omega) (by omega), inR, inR, rdF xs hlt, List.drop_eq_getElem_cons hlt, List.all_cons, e1]
    simp only [Option.bind_some]
    cases decide (0 ≤ xs[i].f0 ∧ xs[i].f0 ≤ 36524) <;> cases decide (-1000000000 ≤ xs[i].f1 ∧ xs[i].f1 ≤ 1000000000) <;> simp
theorem sFlows (xs : List S29) (hn : xs.length ≤ 4611686018427387904) {k : Nat} (hk : xs.length < k) : spec_validFlows.f k xs = some (impl_flowsValid.v xs) := by
  unfold spec_validFlows.f impl_flowsValid.v
  have := sFlows_l xs hn xs.length k 0 (by omega) (by omega)
  rw [Bool.and_comm]
  simpa using this

/-- What payments till a day add. -/
def cash (xs : List S29) (day : Int) : Nat → Int
  | 0 => 0
  | i + 1 => cash xs day i + (if (rd_T29 xs (i : Int)).f0 ≤ day then (rd_T29 xs (i : Int)).f1 else 0)
theorem flows_of {xs : List S29} (h : impl_flowsValid.v xs = true) : xs.length ≤ 60 ∧ ∀ p ∈ xs, (0 ≤ p.f0 ∧ p.f0 ≤ 36524) ∧ (-1000000000 ≤ p.f1 ∧ p.f1 ≤ 1000000000) := by
  unfold impl_flowsValid.v impl_flowsValid.okF at h
  simp only [Bool.and_eq_true, decide_eq_true_eq, List.all_eq_true] at h
  exact h
theorem cash_bd {xs : List S29} (h : impl_flowsValid.v xs = true) (day : Int) : ∀ i, i ≤ xs.length → -1000000000 * (i : Int) ≤ cash xs day i ∧ cash xs day i ≤ 1000000000 * (i : Int) := by
  have hv := flows_of h
  intro i
  induction i with
  | zero => exact fun _ => ⟨by simp [cash], by simp [cash]⟩
  | succ i ih =>
    intro hi
    have h1 := ih (by omega)
    have h2 := (hv.2 _ (List.getElem_mem (show i < xs.length by omega))).2
    simp only [cash]
    rw [rdF xs (by omega)]
    split <;> omega
def cashAt (xs : List S29) (a day : Int) : Int × Bool := if impl_flowsValid.v xs = true ∧ (-1000000000 ≤ a ∧ a ≤ 1000000000) then (a + cash xs day xs.length, true) else (0, false)

theorem okEs_iff (es : List Int) : impl_LadderOf.okEs es = true ↔ es.length ≤ 10 ∧ (∀ i, i < es.length → impl_LadderOf.okE es i = true) := by
  unfold impl_LadderOf.okEs
  rw [Bool.and_eq_true, decide_eq_true_eq, List.all_eq_true]
  exact ⟨fun h => ⟨h.1, fun i hi => h.2 i (List.mem_range.2 hi)⟩, fun h => ⟨h.1, fun i hi => h.2 i (List.mem_range.1 hi)⟩⟩
theorem edges_A (es : List Int) (hn : es.length ≤ 1048576) (d : Nat) : ∀ (k i : Nat), 1 ≤ i → (i + d = es.length ∨ (d = 0 ∧ es.length ≤ i)) → i ≤ 1048577 → d + es.length + 1 < k → (∀ j, i ≤ j → j < es.length → rd es ((j : Int) - 1) < rd es (j : Int)) →
    spec_validEdges.l0 k es (i : Int) = some (decide (es.length ≤ 10) && es.all fun n => decide (0 ≤ n ∧ n ≤ 36524)) := by
  induction d with
  | zero =>
    intro k i h1 hi hm hk h
    obtain ⟨k, rfl⟩ : ∃ m, k = m + 1 := ⟨k - 1, by omega⟩
    simp only [spec_validEdges.l0]
    rw [if_neg (by omega)]
    by_cases c : (es.length : Int) ≤ 10
    · rw [if_pos c, allIn es 0 36524 (by omega) (by omega), decide_eq_true (by omega)]
      simp
    · rw [if_neg c, decide_eq_false (by omega)]
      rfl
  | succ d ih =>
    intro k i h1 hi hm hk h
    obtain ⟨k, rfl⟩ : ∃ m, k = m + 1 := ⟨k - 1, by omega⟩
    have hlt : i < es.length := by omega
    simp only [spec_validEdges.l0]
    rw [if_pos (by omega), if_pos (by omega), w64 (n := (i : Int) - 1) (by omega) (by omega), if_pos (by omega), if_pos (by omega), if_neg (by have := h i (Nat.le_refl _) hlt; omega), step1 hlt (by omega)]
    exact ih k (i + 1) (by omega) (by omega) (by omega) (by omega) (fun j hj => h j (by omega))
theorem edges_B (es : List Int) (hn : es.length ≤ 1048576) (d : Nat) : ∀ (k i j : Nat), 1 ≤ i → j = i + d → j < es.length → ¬ rd es ((j : Int) - 1) < rd es (j : Int) → d < k → spec_validEdges.l0 k es (i : Int) = some false := by
  induction d with
  | zero =>
    intro k i j h1 hj hl h hk
    obtain ⟨k, rfl⟩ : ∃ m, k = m + 1 := ⟨k - 1, by omega⟩
    obtain rfl : j = i := by omega
    simp only [spec_validEdges.l0]
    rw [if_pos (by omega), if_pos (by omega), w64 (n := (j : Int) - 1) (by omega) (by omega), if_pos (by omega), if_pos (by omega), if_pos (by omega)]
  | succ d ih =>
    intro k i j h1 hj hl h hk
    obtain ⟨k, rfl⟩ : ∃ m, k = m + 1 := ⟨k - 1, by omega⟩
    have hlt : i < es.length := by omega
    simp only [spec_validEdges.l0]
    rw [if_pos (by omega), if_pos (by omega), w64 (n := (i : Int) - 1) (by omega) (by omega), if_pos (by omega), if_pos (by omega), step1 hlt (by omega), ih k (i + 1) j (by omega) (by omega) hl h (by omega)]
    split <;> rfl
theorem sEdges (es : List Int) (hn : es.length ≤ 1048576) {k : Nat} (hk : 2 * es.length + 4 < k) : spec_validEdges.f k es = some (impl_LadderOf.okEs es) := by
  unfold spec_validEdges.f
  by_cases hA : ∀ j, 1 ≤ j → j < es.length → rd es ((j : Int) - 1) < rd es (j : Int)
  · have h := edges_A es hn (es.length - 1) k 1 (Nat.le_refl _) (by omega) (by omega) (by omega) hA
    rw [show ((1 : Nat) : Int) = 1 from rfl] at h
    rw [h, Option.some.injEq, Bool.eq_iff_iff, okEs_iff, Bool.and_eq_true, decide_eq_true_eq, List.all_eq_true]
    refine ⟨fun h => ⟨h.1, fun i hi => ?_⟩, fun h => ⟨h.1, fun n hm => ?_⟩⟩
    · have h2 := h.2 _ (List.getElem_mem hi)
      unfold impl_LadderOf.okE
      rw [rdI es hi, h2, Bool.true_and, Bool.or_eq_true, decide_eq_true_eq, decide_eq_true_eq]
      by_cases c : i = 0
      · exact .inl c
      · have h3 := hA i (by omega) hi
        rw [rdI es hi] at h3
        exact .inr h3
    · obtain ⟨i, hi, rfl⟩ := List.getElem_of_mem hm
      have h2 := h.2 i hi
      unfold impl_LadderOf.okE at h2
      rw [rdI es hi, Bool.and_eq_true] at h2
      exact h2.1
  · have hB : ∃ j, 1 ≤ j ∧ j < es.length ∧ ¬ rd es ((j : Int) - 1) < rd es (j : Int) := by
      refine Classical.byContradiction (fun hc => hA (fun j h1 h2 => Classical.byContradiction (fun h3 => hc ⟨j, h1, h2, h3⟩)))
    obtain ⟨j, h1, h2, h3⟩ := hB
    have h := edges_B es hn (j - 1) k 1 j (Nat.le_refl _) (by omega) h2 h3 (by omega)
    rw [show ((1 : Nat) : Int) = 1 from rfl] at h
    rw [h]
    cases c : impl_LadderOf.okEs es with
    | false => rfl
    | true =>
      have h4 := ((okEs_iff es).1 c).2 j h2
      unfold impl_LadderOf.okE at h4
      rw [Bool.and_eq_true, Bool.or_eq_true, decide_eq_true_eq, decide_eq_true_eq] at h4
      rcases h4.2 with h5 | h5
      · omega
      · exact absurd (by simpa using h5) h3
theorem ladder_in {xs : List S29} {es : List Int} (he : es.length ≤ 10) (hok : ∀ i, i < es.length → impl_LadderOf.okE es i = true) {i : Nat} (hi : i < xs.length) (hx : xs.length ≤ 60) {ys : List Int} (hl : ys.length = es.length + 1)
    (hb : -1000000000000 ≤ rd ys (impl_LadderOf.place es xs[i].f0 : Int) + xs[i].f1 ∧ rd ys (impl_LadderOf.place es xs[i].f0 : Int) + xs[i].f1 ≤ 1000000000000) (d : Nat) : ∀ (k m : Nat), m + d = impl_LadderOf.place es xs[i].f0 → spec_LadderOf.l1 (k + d + 1) xs es ys (i : Int) (m : Int) = spec_LadderOf.l0 k xs es (impl_LadderOf.step es ys xs[i]) ((i + 1 : Nat) : Int) := by
  have hp := impl_LadderOf.place_le es xs[i].f0
  induction d with
  | zero =>
    intro k m hm
    obtain rfl : m = impl_LadderOf.place es xs[i].f0 := by omega
    simp only [Nat.add_zero, spec_LadderOf.l1]
    by_cases c : impl_LadderOf.place es xs[i].f0 < es.length
    · have h1 := impl_LadderOf.place_ge hok xs[i].f0 _ (Nat.le_refl _) c
      rw [if_pos (by omega), if_pos (by omega), if_pos (by omega), if_pos (by omega), rdF xs hi, if_neg (by omega), if_pos (by omega), w64 (by omega) (by omega), step1 hi (by omega), Int.toNat_natCast]
      rfl
    · rw [if_neg (by omega), if_pos (by omega), if_pos (by omega), if_pos (by omega), if_pos (by omega), rdF xs hi, w64 (by omega) (by omega), step1 hi (by omega), Int.toNat_natCast]
      rfl
  | succ d ih =>
    intro k m hm
    have h1 := impl_LadderOf.place_lt es xs[i].f0 m (by omega)
    have hlt : m < es.length := by omega
    obtain ⟨K, hK⟩ : ∃ K, K = k + d + 1 := ⟨_, rfl⟩
    rw [show k + (d + 1) + 1 = K + 1 by omega]
    simp only [spec_LadderOf.l1]
    rw [if_pos (by omega), if_pos (by omega), if_pos (by omega), if_pos (by omega), rdF xs hi, if_pos h1, step1 hlt (by omega), hK]
    exact ih k (m + 1) (by omega)
theorem ladder_out {xs : List S29} {es : List Int} (he : es.length ≤ 10) (hok : ∀ i, i < es.length → impl_LadderOf.okE es i = true) (hv : impl_flowsValid.v xs = true) (d : Nat) : ∀ (k i : Nat) (ys : List Int), i + d = xs.length → 12 * d < k → ys.length = es.length + 1 → (∀ y ∈ ys, -(1000000000 * (i : Int)) ≤ y ∧ y ≤ 1000000000 * (i : Int)) →
    spec_LadderOf.l0 k xs es ys (i : Int) = some ((xs.drop i).foldl (impl_LadderOf.step es) ys) := by
  have hf := flows_of hv
  induction d with
  | zero =>
    intro k i ys hi hk hl hb
    obtain ⟨k, rfl⟩ : ∃ m, k = m + 1 := ⟨k - 1, by omega⟩
    simp only [spec_LadderOf.l0]
    rw [if_neg (by omega), List.drop_of_length_le (by omega)]
    rfl
  | succ d ih =>
    intro k i ys hi hk hl hb
    have hlt : i < xs.length := by omega
    have hp := impl_LadderOf.place_le es xs[i].f0
    have hfi := (hf.2 _ (List.getElem_mem hlt)).2
    have hr : rd ys (impl_LadderOf.place es xs[i].f0 : Int) ∈ ys := by
      rw [rdI ys (by omega)]
      exact List.getElem_mem _
    have hrb := hb _ hr
    obtain ⟨k, rfl⟩ : ∃ m, k = (m + impl_LadderOf.place es xs[i].f0 + 1) + 1 := ⟨k - impl_LadderOf.place es xs[i].f0 - 2, by omega⟩
    have hin := ladder_in he hok hlt hf.1 hl (by omega) (impl_LadderOf.place es xs[i].f0) k 0 (by omega)
    simp only [spec_LadderOf.l0]
    rw [if_pos (by omega), List.drop_eq_getElem_cons hlt, List.foldl_cons]
    rw [show ((0 : Nat) : Int) = 0 from rfl] at hin
    rw [hin]
    refine ih k (i + 1) _ (by omega) (by omega) (by unfold impl_LadderOf.step; rw [List.length_set, hl]) (fun y hy => ?_)
    unfold impl_LadderOf.step at hy
    rcases List.mem_or_eq_of_mem_set hy with hy | hy
    · have := hb y hy
      omega
    · rw [hy]
      omega
theorem sLadder (xs : List S29) (es : List Int) (hn : xs.length ≤ 1048576) (hm : es.length ≤ 1048576) {k : Nat} (hk : xs.length + 1000 < k) (hk2 : 2 * es.length + 5 < k) : spec_LadderOf.f k xs es = some (impl_LadderOf.v xs es) := by
  obtain ⟨k, rfl⟩ : ∃ m, k = m + 1 := ⟨k - 1, by omega⟩
  unfold spec_LadderOf.f impl_LadderOf.v
  rw [sFlows xs (by omega) (by omega), sEdges es hm (by omega)]
  simp only [Option.bind_some, spec_LadderOf.j0]
  by_cases h1 : impl_flowsValid.v xs = true
  · rw [if_pos h1]
    by_cases h2 : impl_LadderOf.okEs es = true
    · have h3 := (okEs_iff es).1 h2
      rw [h2, if_neg (by decide), w64 (n := (es.length : Int) + 1) (by omega) (by omega), if_pos (by omega), if_pos (by omega), if_pos ⟨h1, rfl⟩, show ((es.length : Int) + 1).toNat = es.length + 1 by omega]
      have hf := flows_of h1
      have := ladder_out h3.1 h3.2 h1 xs.length k 0 (List.replicate (es.length + 1) 0) (by omega) (by omega) (by rw [List.length_replicate]) (fun y hy => by rw [(List.mem_replicate.1 hy).2]; omega)
      rw [List.drop_zero] at this
      exact this
    · rw [if_pos (by simpa using h2), if_neg (fun h => h2 h.2)]
  · rw [if_neg h1, if_pos trivial, if_neg (fun h => h1 h.1)]
theorem ladLen (xs : List S29) (es : List Int) : (impl_LadderOf.v xs es).length ≤ 11 := by
  unfold impl_LadderOf.v
  by_cases h : impl_flowsValid.v xs = true ∧ impl_LadderOf.okEs es = true
  · rw [if_pos h, impl_LadderOf.step_len, List.length_replicate]
    have := ((okEs_iff es).1 h.2).1
    omega
  · rw [if_neg h]
    simp

theorem rdLF (xs : List S54) {i : Nat} (h : i < xs.length) : rd_T54 xs (i : Int) = xs[i] := by
  unfold rd_T54
  rw [List.getD_eq_getElem?_getD, Int.toNat_natCast, List.getElem?_eq_getElem h]
  rfl
def cFlow (p : S54) : S29 := ⟨p.f0, p.f1⟩
theorem take_setF {α : Type} (ys : List α) (i : Nat) (h : i < ys.length) (v : α) : (ys.set i v).take (i + 1) = ys.take i ++ [v] := by
  rw [List.take_succ_eq_append_getElem (by simpa using h), List.take_set_of_le (Nat.le_refl i)]
  simp
theorem toFlowS_l (xs : List S54) (hn : xs.length ≤ 4611686018427387904) (d : Nat) : ∀ (k i : Nat) (ys : List S29), i + d = xs.length → d < k → ys.length = xs.length → ys.take i = (xs.take i).map cFlow →
    laws_toFlowS.l0 k xs ys (i : Int) = some (xs.map cFlow) := by
  induction d with
  | zero =>
    intro k i ys hi hk hl ht
    obtain ⟨k, rfl⟩ : ∃ m, k = m + 1 := ⟨k - 1, by omega⟩
    simp only [laws_toFlowS.l0]
    rw [List.take_of_length_le (by omega), List.take_of_length_le (by omega)] at ht
    rw [if_neg (by omega), ht]
  | succ d ih =>
    intro k i ys hi hk hl ht
    obtain ⟨k, rfl⟩ : ∃ m, k = m + 1 := ⟨k - 1, by omega⟩
    have hlt : i < xs.length := by omega
    simp only [laws_toFlowS.l0]
    rw [if_pos (by omega), if_pos (by omega), rdLF xs hlt]
    unfold laws_toFlow.f
    simp only [Option.bind_some]
    rw [if_pos (by omega), step1 hlt hn, Int.toNat_natCast]
    refine ih k (i + 1) _ (by omega) (by omega) (by simpa using hl) ?_
    rw [take_setF _ _ (by omega), ht, List.take_succ_eq_append_getElem hlt, List.map_append]
    rfl
theorem toFlowS (xs : List S54) (hn : xs.length ≤ 1048576) {k : Nat} (hk : 1048577 < k) : laws_toFlowS.f k xs = some (xs.map cFlow) := by
  unfold laws_toFlowS.f
  rw [if_pos (by omega), if_pos (by omega), Int.toNat_natCast]
  exact toFlowS_l xs (by omega) xs.length k 0 _ (by omega) (by omega) (by simp) (by simp)

theorem eqFlowS_l (xs : List S29) (hn : xs.length ≤ 4611686018427387904) (d : Nat) : ∀ (k i : Nat), i + d = xs.length → d < k → laws_eqFlowS.l0 k xs xs (i : Int) = some true := by
  induction d with
  | zero =>
    intro k i hi hk
    obtain ⟨k, rfl⟩ : ∃ m, k = m + 1 := ⟨k - 1, by omega⟩
    simp only [laws_eqFlowS.l0]
    rw [if_neg (by omega)]
  | succ d ih =>
    intro k i hi hk
    obtain ⟨k, rfl⟩ : ∃ m, k = m + 1 := ⟨k - 1, by omega⟩
    have hlt : i < xs.length := by omega
    simp only [laws_eqFlowS.l0]
    rw [if_pos (by omega), if_pos (by omega), if_pos (by omega), step1 hlt hn, ih k (i + 1) (by omega) (by omega)]
    simp [laws_eqFlow.f]
theorem eqFlowS (xs : List S29) (hn : xs.length ≤ 4611686018427387904) {k : Nat} (hk : xs.length < k) : laws_eqFlowS.f k xs xs = some true := by
  unfold laws_eqFlowS.f
  rw [if_pos rfl]
  exact eqFlowS_l xs hn xs.length k 0 (by omega) (by omega)

theorem szFlowS (xs : List S54) (hm : xs.length ≤ maxLen) : ∃ n, laws_szFlowS.f xs 1048576 = some n ∧ (¬ n < 0 → xs.length ≤ 1048576) := by
  unfold laws_szFlowS.f
  unfold maxLen at hm
  rw [w64 (by omega) (by omega)]
  by_cases h : (1048576 : Int) - (xs.length : Int) < 0
  · rw [if_pos h]
    exact ⟨-1, rfl, fun h2 => absurd (by decide) h2⟩
  · rw [if_neg h]
    exact ⟨_, rfl, fun _ => by omega⟩

theorem take_setI (ys : List Int) (y : Int) {i : Nat} (h : i < ys.length) : (ys.set i y).take (i + 1) = ys.take i ++ [y] := by
  rw [List.take_succ_eq_append_getElem (by simpa using h), List.take_set_of_le (Nat.le_refl i)]
  simp
theorem toIntS_l (xs : List Int) (hn : xs.length ≤ 4611686018427387904) (d : Nat) : ∀ (k i : Nat) (ys : List Int), i + d = xs.length → d < k → ys.length = xs.length → ys.take i = xs.take i →
    laws_toIntS.l0 k xs ys (i : Int) = some xs := by
  induction d with
  | zero =>
    intro k i ys hi hk hl ht
    obtain ⟨k, rfl⟩ : ∃ m, k = m + 1 := ⟨k - 1, by omega⟩
    simp only [laws_toIntS.l0]
    rw [List.take_of_length_le (by omega), List.take_of_length_le (by omega)] at ht
    rw [if_neg (by omega), ht]
  | succ d ih =>
    intro k i ys hi hk hl ht
    obtain ⟨k, rfl⟩ : ∃ m, k = m + 1 := ⟨k - 1, by omega⟩
    have hlt : i < xs.length := by omega
    simp only [laws_toIntS.l0]
    rw [if_pos (by omega), if_pos (by omega), if_pos (by omega), rdI xs hlt, step1 hlt hn, Int.toNat_natCast]
    refine ih k (i + 1) _ (by omega) (by omega) (by simpa using hl) ?_
    rw [take_setI _ _ (by omega), ht, List.take_succ_eq_append_getElem hlt]
theorem toIntS (xs : List Int) (hn : xs.length ≤ 1048576) {k : Nat} (hk : 1048577 < k) : laws_toIntS.f k xs = some xs := by
  unfold laws_toIntS.f
  rw [if_pos (by omega), if_pos (by omega), Int.toNat_natCast]
  exact toIntS_l xs (by omega) xs.length k 0 _ (by omega) (by omega) (by simp) (by simp)

theorem eqIntS_l (xs : List Int) (hn : xs.length ≤ 4611686018427387904) (d : Nat) : ∀ (k i : Nat), i + d = xs.length → d < k → laws_eqIntS.l0 k xs xs (i : Int) = some true := by
  induction d with
  | zero =>
    intro k i hi hk
    obtain ⟨k, rfl⟩ : ∃ m, k = m + 1 := ⟨k - 1, by omega⟩
    simp only [laws_eqIntS.l0]
    rw [if_neg (by omega)]
  | succ d ih =>
    intro k i hi hk
    obtain ⟨k, rfl⟩ : ∃ m, k = m + 1 := ⟨k - 1, by omega⟩
    have hlt : i < xs.length := by omega
    simp only [laws_eqIntS.l0]
    rw [if_pos (by omega), if_pos (by omega), if_pos (by omega), if_pos trivial, step1 hlt hn, ih k (i + 1) (by omega) (by omega)]
theorem eqIntS (xs : List Int) (hn : xs.length ≤ 4611686018427387904) {k : Nat} (hk : xs.length < k) : laws_eqIntS.f k xs xs = some true := by
  unfold laws_eqIntS.f
  rw [if_pos rfl]
  exact eqIntS_l xs hn xs.length k 0 (by omega) (by omega)

theorem rdsetFlowS (ys : List S29) {i : Nat} (h : i < ys.length) (v : S29) : rd_T29 (ys.set i v) (i : Int) = v := by
  rw [rdF _ (by simpa using h), List.getElem_set_self]
/-- What the marks are. -/
def marksFlowS (L : Nat) : List S29 := (List.range L).map fun i : Nat => (⟨1 + 2 * (i : Int), 1 + 2 * (i : Int) + 1⟩ : S29)
theorem marksFlowS_len (L : Nat) : (marksFlowS L).length = L := by simp [marksFlowS]
theorem markFlowS_l (L : Nat) (hL : L ≤ 1048576) (d : Nat) : ∀ (k i : Nat) (ys : List S29), i + d = L → d < k → ys.length = L → ys.take i = marksFlowS i → laws_markFlowS.l0 k ys (1 + 2 * (i : Int)) (i : Int) = some (1 + 2 * (L : Int), marksFlowS L) := by
  induction d with
  | zero =>
    intro k i ys hi hk hl ht
    obtain ⟨k, rfl⟩ : ∃ m, k = m + 1 := ⟨k - 1, by omega⟩
    obtain rfl : i = L := by omega
    simp only [laws_markFlowS.l0]
    rw [List.take_of_length_le (by omega)] at ht
    rw [if_neg (by omega), ht]
  | succ d ih =>
    intro k i ys hi hk hl ht
    obtain ⟨k, rfl⟩ : ∃ m, k = m + 1 := ⟨k - 1, by omega⟩
    have hlt : i < ys.length := by omega
    have hs := step1 hlt (by omega)
    simp only [laws_markFlowS.l0]
    rw [if_pos (by omega), if_pos (by omega)]
    simp only [Option.bind_some, Int.toNat_natCast]
    simp only [rdsetFlowS ys hlt, List.set_set]
    rw [w64 (n := 1 + 2 * (i : Int) + 1) (by omega) (by omega), w64 (n := 1 + 2 * (i : Int) + 1 + 1) (by omega) (by omega), hs]
    have e : (1 + 2 * (i : Int) + 1 + 1) = 1 + 2 * ((i + 1 : Nat) : Int) := by omega
    rw [e]
    refine ih k (i + 1) _ (by omega) (by omega) (by simpa using hl) ?_
    rw [List.take_succ_eq_append_getElem (by simpa using hlt), List.take_set_of_le (Nat.le_refl i), List.getElem_set_self, ht]
    unfold marksFlowS
    rw [List.range_succ, List.map_append]
    first | (simp; done) | (simp; omega)
theorem markFlowS (ys : List S29) (hL : ys.length ≤ 1048576) {k : Nat} (hk : ys.length < k) : laws_markFlowS.f k ys 1 = some (1 + 2 * (ys.length : Int), marksFlowS ys.length) := by
  unfold laws_markFlowS.f
  exact markFlowS_l ys.length hL ys.length k 0 ys (by omega) (by omega) rfl rfl

theorem rdsetIntS (ys : List Int) {i : Nat} (h : i < ys.length) (v : Int) : rd (ys.set i v) (i : Int) = v := by
  rw [rdI _ (by simpa using h), List.getElem_set_self]
/-- What the marks are. -/
def marksIntS (L : Nat) : List Int := (List.range L).map fun i : Nat => (1 + (i : Int))
theorem marksIntS_len (L : Nat) : (marksIntS L).length = L := by simp [marksIntS]
theorem markIntS_l (L : Nat) (hL : L ≤ 1048576) (d : Nat) : ∀ (k i : Nat) (ys : List Int), i + d = L → d < k → ys.length = L → ys.take i = marksIntS i → laws_markIntS.l0 k ys (1 + 1 * (i : Int)) (i : Int) = some (1 + 1 * (L : Int), marksIntS L) := by
  induction d with
  | zero =>
    intro k i ys hi hk hl ht
    obtain ⟨k, rfl⟩ : ∃ m, k = m + 1 := ⟨k - 1, by omega⟩
    obtain rfl : i = L := by omega
    simp only [laws_markIntS.l0]
    rw [List.take_of_length_le (by omega)] at ht
    rw [if_neg (by omega), ht]
  | succ d ih =>
    intro k i ys hi hk hl ht
    obtain ⟨k, rfl⟩ : ∃ m, k = m + 1 := ⟨k - 1, by omega⟩
    have hlt : i < ys.length := by omega
    have hs := step1 hlt (by omega)
    simp only [laws_markIntS.l0]
    rw [if_pos (by omega), if_pos (by omega)]
    simp only [Option.bind_some, Int.toNat_natCast]
    rw [w64 (n := 1 + 1 * (i : Int) + 1) (by omega) (by omega), hs]
    have e : (1 + 1 * (i : Int) + 1) = 1 + 1 * ((i + 1 : Nat) : Int) := by omega
    rw [e]
    refine ih k (i + 1) _ (by omega) (by omega) (by simpa using hl) ?_
    rw [List.take_succ_eq_append_getElem (by simpa using hlt), List.take_set_of_le (Nat.le_refl i), List.getElem_set_self, ht]
    unfold marksIntS
    rw [List.range_succ, List.map_append]
    first | (simp; done) | (simp; omega)
theorem markIntS (ys : List Int) (hL : ys.length ≤ 1048576) {k : Nat} (hk : ys.length < k) : laws_markIntS.f k ys 1 = some (1 + 1 * (ys.length : Int), marksIntS ys.length) := by
  unfold laws_markIntS.f
  exact markIntS_l ys.length hL ys.length k 0 ys (by omega) (by omega) rfl rfl

theorem heldIntS_l (L : Nat) (hL : L ≤ 1048576) (d : Nat) : ∀ (k i : Nat), i + d = L → d < k → laws_heldIntS.l0 k (marksIntS L) (1 + 1 * (i : Int)) (i : Int) = some (1 + 1 * (L : Int)) := by
  induction d with
  | zero =>
    intro k i hi hk
    obtain ⟨k, rfl⟩ : ∃ m, k = m + 1 := ⟨k - 1, by omega⟩
    obtain rfl : i = L := by omega
    simp only [laws_heldIntS.l0]
    rw [if_neg (by rw [marksIntS_len]; omega)]
  | succ d ih =>
    intro k i hi hk
    obtain ⟨k, rfl⟩ : ∃ m, k = m + 1 := ⟨k - 1, by omega⟩
    have hlt : i < (marksIntS L).length := by rw [marksIntS_len]; omega
    have hs := step1 hlt (by rw [marksIntS_len]; omega)
    have hr : rd (marksIntS L) (i : Int) = (1 + (i : Int)) := by
      rw [rdI _ hlt]
      simp [marksIntS]
    have e : (1 + 1 * (i : Int) + 1) = 1 + 1 * ((i + 1 : Nat) : Int) := by omega
    have ih2 := ih k (i + 1) (by omega) (by omega)
    rw [← e] at ih2
    simp only [laws_heldIntS.l0]
    rw [if_pos (by omega), if_pos (by omega), hr, hs, w64 (n := 1 + 1 * (i : Int) + 1) (by omega) (by omega)]
    simp only [if_true, Int.add_assoc] at ih2 ⊢
    simpa using ih2
theorem heldIntS (L : Nat) (hL : L ≤ 1048576) {k : Nat} (hk : L < k) : laws_heldIntS.f k (marksIntS L) 1 = some (1 + 1 * (L : Int)) := by
  unfold laws_heldIntS.f
  exact heldIntS_l L hL L k 0 (by omega) (by omega)

theorem markAny_l (d : Nat) : ∀ (k i : Nat) (ys : List Int) (m : Int), i + d = ys.length → d < k → ys.length ≤ 1048576 → 0 ≤ m → m + (d : Int) ≤ 2000000000 → ∃ zs, laws_markIntS.l0 k ys m (i : Int) = some (m + (d : Int), zs) := by
  induction d with
  | zero =>
    intro k i ys m hi hk hl h0 h1
    obtain ⟨k, rfl⟩ : ∃ n, k = n + 1 := ⟨k - 1, by omega⟩
    simp only [laws_markIntS.l0]
    rw [if_neg (by omega)]
    exact ⟨ys, by simp⟩
  | succ d ih =>
    intro k i ys m hi hk hl h0 h1
    obtain ⟨k, rfl⟩ : ∃ n, k = n + 1 := ⟨k - 1, by omega⟩
    have hlt : i < ys.length := by omega
    obtain ⟨zs, h⟩ := ih k (i + 1) (ys.set i m) (m + 1) (by rw [List.length_set]; omega) (by omega) (by rw [List.length_set]; omega) (by omega) (by omega)
    have e : m + ((d + 1 : Nat) : Int) = m + 1 + (d : Int) := by omega
    refine ⟨zs, ?_⟩
    rw [e, ← h]
    simp only [laws_markIntS.l0]
    rw [if_pos (by omega), if_pos (by omega), w64 (n := m + 1) (by omega) (by omega), step1 hlt (by omega), Int.toNat_natCast]
theorem markAny (ys : List Int) {m : Int} (hl : ys.length ≤ 1048576) (h0 : 0 ≤ m) (h1 : m ≤ 1900000000) {k : Nat} (hk : ys.length < k) : ∃ zs, laws_markIntS.f k ys m = some (m + (ys.length : Int), zs) := by
  unfold laws_markIntS.f
  exact markAny_l ys.length k 0 ys m (by omega) hk hl h0 (by omega)

end FnExactLadderOfLaw
open FnExactLadderOfLaw

theorem FnExactLadderOf : ∀ (l0 : List S54) (l1 : List Int), l0.length ≤ maxLen → l1.length ≤ maxLen → (∀ x ∈ l1, (Lit.int .i64 x).wf = true) → ∃ k, laws_FnExactLadderOf.f k l0 l1 = some true := by
  intro l es hm hm2 _
  have hk : ∃ k, 3000000 < k := ⟨3000001, by omega⟩
  obtain ⟨k, hk⟩ := hk
  refine ⟨k, ?_⟩
  unfold laws_FnExactLadderOf.f
  by_cases he : (es.length : Int) > 1048576
  · rw [if_pos he]
  · rw [if_neg he]
    obtain ⟨n, hs, hn⟩ := szFlowS l hm
    rw [hs]
    simp only [Option.bind_some]
    by_cases h : n < 0
    · rw [if_pos h]
    · have hl := hn h
      obtain ⟨k, rfl⟩ : ∃ m, k = m + 1 := ⟨k - 1, by omega⟩
      have hml : (l.map cFlow).length = l.length := by simp
      have hlen := ladLen (l.map cFlow) es
      rw [if_neg h, toFlowS l hl (by omega), toIntS es (by omega) (by omega)]
      simp only [Option.bind_some]
      rw [sLadder _ es (by omega) (by omega) (by omega) (by omega)]
      unfold impl_LadderOf.f
      simp only [Option.bind_some]
      rw [eqIntS _ (by omega) (by omega), eqFlowS _ (by omega) (by omega), eqIntS es (by omega) (by omega), markFlowS _ (by omega) (by omega)]
      simp only [Option.bind_some, if_true]
      obtain ⟨zs, hz⟩ := markAny es (m := 1 + 2 * ((l.map cFlow).length : Int)) (k := k + 1) (by omega) (by omega) (by omega) (by omega)
      rw [hz]
      simp only [Option.bind_some]
      rw [if_neg (by omega)]
      simp only [Bool.not_true, laws_FnExactLadderOf.j0]
      rw [if_neg (by decide), markIntS _ (by omega) (by omega)]
      simp only [Option.bind_some]
      rw [heldIntS _ (by omega) (by omega)]
      simp only [Option.bind_some]
      rw [if_neg (by omega), if_pos trivial, toFlowS l hl (by omega), toIntS es (by omega) (by omega)]
      unfold impl_LadderOf.f
      simp only [Option.bind_some]
      rw [eqIntS _ (by omega) (by omega)]
      simp only [Option.bind_some, if_true]
      rw [if_neg (by omega)]

end Go.Proofs.Ytmdhfmcnjdnkfaa.Pure

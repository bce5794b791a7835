/- What the printed functions of FnExactHedgeError compute is true at every input. Conditions: none beyond the arguments' kinds. -/
import Derived.Test.YtdhlocboaokobaaGFnExactHedgeErrorx2
import Derived.OpenShut
namespace Go.Proofs.Ytdhlocboaokobaa.Pure
open Go.RowKit Go.Proofs.Ytdhlocboaokobaa.PFnExactHedgeError Go.Proofs.YtdhlocboaokobaaW.PrintWords Go.Proofs.YtdhlocboaokobaaW.PrintLast Go.Proofs.YtdhlocboaokobaaW.PrintMore
set_option linter.unusedVariables false
set_option linter.unusedSimpArgs false

namespace FnExactHedgeErrorLaw
theorem w64 {n : Int} (h1 : -9223372036854775808 ≤ n) (h2 : n ≤ 9223372036854775807) : wrap64 n = n := by
  unfold wrap64
  omega

theorem step1 {i n : Nat} (h : i < n) (hn : n ≤ 4611686018427387904) : wrap64 ((i : Int) + 1) = ((i + 1 : Nat) : Int) := by
  rw [w64 (by omega) (by omega)]
  omega

theorem rdI (xs : List Int) {i : Nat} (h : i < xs.length) : rd xs (i : Int) = xs[i] := by
  unfold rd
  rw [List.getD_eq_getElem?_getD, Int.toNat_natCast, List.getElem?_eq_getElem h]
  rfl

theorem take_setI (ys : List Int) (y : Int) {i : Nat} (h : i < ys.length) : (ys.set i y).take (i + 1) = ys.take i ++ [y] := by
  rw [List.take_succ_eq_append_getElem (by simpa using h), List.take_set_of_le (Nat.le_refl i)]
  simp
theorem toIntS_l (xs : List Int) (hn : xs.length ≤ 4611686018427387904) (d : Nat) : ∀ (k i : Nat) (ys : List Int), i + d = xs.length → d < k → ys.length = xs.length → ys.take i = xs.take i →
    laws_toIntS.l0 k xs ys (i : Int) = some xs := by
  induction d with
  | zero =>
    intro k i ys hi hk hl ht
    obtain ⟨k, rfl⟩ : ∃ m, k = m + 1 := ⟨k - 1, by omega⟩
    simp only [laws_toIntS.l0]
    rw [List.take_of_length_le (by omega), List.take_of_length_le (by omega)] at ht
    rw [if_neg (by omega), ht]
  | succ d ih =>
    intro k i ys hi hk hl ht
    obtain ⟨k, rfl⟩ : ∃ m, k = m + 1 := ⟨k - 1, by omega⟩
    have hlt : i < xs.length := by omega
    simp only [laws_toIntS.l0]
    rw [if_pos (by omega), if_pos (by omega), if_pos (by omega), rdI xs hlt, step1 hlt hn, Int.toNat_natCast]
    refine ih k (i + 1) _ (by omega) (by omega) (by simpa using hl) ?_
    rw [take_setI _ _ (by omega), ht, List.take_succ_eq_append_getElem hlt]
theorem toIntS (xs : List Int) (hn : xs.length ≤ 1048576) {k : Nat} (hk : 1048577 < k) : laws_toIntS.f k xs = some xs := by
  unfold laws_toIntS.f
  rw [if_pos (by omega), if_pos (by omega), Int.toNat_natCast]
  exact toIntS_l xs (by omega) xs.length k 0 _ (by omega) (by omega) (by simp) (by simp)

theorem eqIntS_l (xs : List Int) (hn : xs.length ≤ 4611686018427387904) (d : Nat) : ∀ (k i : Nat), i + d = xs.length → d < k → laws_eqIntS.l0 k xs xs (i : Int) = some true := by
  induction d with
  | zero =>
    intro k i hi hk
    obtain ⟨k, rfl⟩ : ∃ m, k = m + 1 := ⟨k - 1, by omega⟩
    simp only [laws_eqIntS.l0]
    rw [if_neg (by omega)]
  | succ d ih =>
    intro k i hi hk
    obtain ⟨k, rfl⟩ : ∃ m, k = m + 1 := ⟨k - 1, by omega⟩
    have hlt : i < xs.length := by omega
    simp only [laws_eqIntS.l0]
    rw [if_pos (by omega), if_pos (by omega), if_pos (by omega), if_pos trivial, step1 hlt hn, ih k (i + 1) (by omega) (by omega)]
theorem eqIntS (xs : List Int) (hn : xs.length ≤ 4611686018427387904) {k : Nat} (hk : xs.length < k) : laws_eqIntS.f k xs xs = some true := by
  unfold laws_eqIntS.f
  rw [if_pos rfl]
  exact eqIntS_l xs hn xs.length k 0 (by omega) (by omega)

def okC (n : Int) : Bool := decide (-6 ≤ n ∧ n ≤ 6)
theorem tools_of {a : Int} {ts : List Int} (h : impl_toolsValid.v a ts = true) : (-1000000000 ≤ a ∧ a ≤ 1000000000) ∧ (1 ≤ ts.length ∧ ts.length ≤ 3) ∧ ∀ n ∈ ts, 1 ≤ n ∧ n ≤ 9999 := by
  unfold impl_toolsValid.v impl_toolsValid.okN at h
  simp only [Bool.and_eq_true, decide_eq_true_eq, List.all_eq_true] at h
  exact ⟨h.1, ⟨by omega, by omega⟩, h.2.2⟩
/-- What is left of a risk behind i tools. -/
def left (a : Int) (ts cs : List Int) : Nat → Int
  | 0 => a
  | i + 1 => left a ts cs i - rd ts (i : Int) * rd cs (i : Int)
theorem prod_bd {t c : Int} (ht : 1 ≤ t ∧ t ≤ 9999) (hc : -6 ≤ c ∧ c ≤ 6) : -59994 ≤ t * c ∧ t * c ≤ 59994 := by
  have h : c = -6 ∨ c = -5 ∨ c = -4 ∨ c = -3 ∨ c = -2 ∨ c = -1 ∨ c = 0 ∨ c = 1 ∨ c = 2 ∨ c = 3 ∨ c = 4 ∨ c = 5 ∨ c = 6 := by omega
  rcases h with rfl | rfl | rfl | rfl | rfl | rfl | rfl | rfl | rfl | rfl | rfl | rfl | rfl <;> omega
theorem left_bd {a : Int} {ts cs : List Int} (h : impl_toolsValid.v a ts = true) (hl : cs.length = ts.length) : ∀ i, i ≤ ts.length → (∀ n ∈ cs.take i, okC n = true) → -1000000000 - 59994 * (i : Int) ≤ left a ts cs i ∧ left a ts cs i ≤ 1000000000 + 59994 * (i : Int) := by
  have hv := tools_of h
  intro i
  induction i with
  | zero => exact fun _ _ => ⟨by simp [left]; omega, by simp [left]; omega⟩
  | succ i ih =>
    intro hi hc
    have hti : i < ts.length := by omega
    have hci : i < cs.length := by omega
    rw [List.take_succ_eq_append_getElem hci] at hc
    have h1 := ih (by omega) (fun n hn => hc n (List.mem_append_left _ hn))
    have h2 : -6 ≤ cs[i] ∧ cs[i] ≤ 6 := of_decide_eq_true (hc _ (List.mem_append_right _ (List.mem_singleton.2 rfl)))
    have h3 := prod_bd (hv.2.2 _ (List.getElem_mem hti)) h2
    simp only [left]
    rw [rdI ts hti, rdI cs hci]
    generalize ts[i] * cs[i] = p at *
    omega
/-- The error of a hedge. -/
def hErr (a : Int) (ts cs : List Int) : Int := if impl_toolsValid.v a ts = true ∧ cs.length = ts.length ∧ cs.all okC = true then (if left a ts cs ts.length < 0 then -(left a ts cs ts.length) else left a ts cs ts.length) else -1

theorem inR (a l h : Int) : spec_inRange.f a l h = some (decide (l ≤ a ∧ a ≤ h)) := by
  unfold spec_inRange.f
  split <;> simp only [true_and, false_and, decide_false, *]

theorem allIn_l (xs : List Int) (lo hi : Int) (hn : xs.length ≤ 4611686018427387904) (d : Nat) : ∀ (k i : Nat), i + d = xs.length → d < k → spec_allIn.l0 k xs lo hi (i : Int) = some ((xs.drop i).all fun n => decide (lo ≤ n ∧ n ≤ hi)) := by
  induction d with
  | zero =>
    intro k i h hk
    obtain ⟨k, rfl⟩ : ∃ m, k = m + 1 := ⟨k - 1, by omega⟩
    simp only [spec_allIn.l0]
    rw [if_neg (by omega), List.drop_of_length_le (by omega)]
    rfl
  | succ d ih =>
    intro k i h hk
    obtain ⟨k, rfl⟩ : ∃ m, k = m + 1 := ⟨k - 1, by omega⟩
    have hlt : i < xs.length := by omega
    simp only [spec_allIn.l0]
    rw [if_pos (by omega), if_pos (by omega), rdI xs hlt, inR, step1 hlt hn, ih k (i + 1) (by omega) (by omega), List.drop_eq_getElem_cons hlt, List.all_cons]
    simp only [Option.bind_some]
    cases decide (lo ≤ xs[i] ∧ xs[i] ≤ hi) <;> rfl
theorem allIn (xs : List Int) (lo hi : Int) (hn : xs.length ≤ 4611686018427387904) {k : Nat} (hk : xs.length < k) : spec_allIn.f k xs lo hi = some (xs.all fun n => decide (lo ≤ n ∧ n ≤ hi)) := by
  unfold spec_allIn.f
  exact allIn_l xs lo hi hn xs.length k 0 (by omega) (by omega)

theorem sHedge_l {a : Int} {ts cs : List Int} (h : impl_toolsValid.v a ts = true) (hl : cs.length = ts.length) (hc : cs.all okC = true) (d : Nat) : ∀ (k i : Nat), i + d = ts.length → d < k →
    spec_hedgeError.l0 k (left a ts cs i) ts cs (i : Int) = some (if left a ts cs ts.length < 0 then -(left a ts cs ts.length) else left a ts cs ts.length) := by
  have hv := tools_of h
  have hca := List.all_eq_true.1 hc
  induction d with
  | zero =>
    intro k i hi hk
    obtain ⟨k, rfl⟩ : ∃ m, k = m + 1 := ⟨k - 1, by omega⟩
    have hb := left_bd h hl i (by omega) (fun n hn => hca n (List.mem_of_mem_take hn))
    obtain rfl : i = ts.length := by omega
    simp only [spec_hedgeError.l0]
    rw [if_neg (by omega)]
    unfold spec_distance.f
    rw [w64 (by omega) (by omega)]
    split <;> rfl
  | succ d ih =>
    intro k i hi hk
    obtain ⟨k, rfl⟩ : ∃ m, k = m + 1 := ⟨k - 1, by omega⟩
    have hti : i < ts.length := by omega
    have hci : i < cs.length := by omega
    have hb := left_bd h hl (i + 1) (by omega) (fun n hn => hca n (List.mem_of_mem_take hn))
    have h2 : -6 ≤ cs[i] ∧ cs[i] ≤ 6 := of_decide_eq_true (hca _ (List.getElem_mem hci))
    have h3 := prod_bd (hv.2.2 _ (List.getElem_mem hti)) h2
    rw [← rdI ts hti, ← rdI cs hci] at h3
    have ih2 := ih k (i + 1) (by omega) (by omega)
    simp only [left] at ih2 hb
    simp only [spec_hedgeError.l0]
    rw [if_pos (by omega), if_pos (by omega), if_pos (by omega), w64 (n := rd ts (i : Int) * rd cs (i : Int)) (by omega) (by omega), w64 (n := left a ts cs i - rd ts (i : Int) * rd cs (i : Int)) (by omega) (by omega), step1 hti (by omega)]
    exact ih2
theorem sHedge (a : Int) (ts cs : List Int) (h1 : ts.length ≤ 1048576) (h2 : cs.length ≤ 1048576) {k : Nat} (hk : 1048577 < k) : spec_HedgeError.f k a ts cs = some (hErr a ts cs) := by
  unfold spec_HedgeError.f
  have e : spec_validHedge.f k a ts = some (impl_toolsValid.v a ts) := by
    unfold spec_validHedge.f impl_toolsValid.v
    rw [inR, inR, allIn ts 1 9999 (by omega) (by omega)]
    simp only [Option.bind_some]
    have e2 : (ts.all fun n => decide (1 ≤ n ∧ n ≤ 9999)) = ts.all impl_toolsValid.okN := rfl
    rw [e2]
    cases decide (-1000000000 ≤ a ∧ a ≤ 1000000000) <;> cases decide (1 ≤ (ts.length : Int) ∧ (ts.length : Int) ≤ 3) <;> rfl
  rw [e, allIn cs (-6) 6 (by omega) (by omega)]
  have e2 : (cs.all fun n => decide (-6 ≤ n ∧ n ≤ 6)) = cs.all okC := rfl
  rw [e2]
  simp only [Option.bind_some]
  unfold hErr
  by_cases hv : impl_toolsValid.v a ts = true
  · rw [if_pos hv]
    by_cases hl : cs.length = ts.length
    · rw [if_pos (by omega)]
      by_cases hc : cs.all okC = true
      · rw [if_pos hc, if_pos (⟨hv, hl, hc⟩ : impl_toolsValid.v a ts = true ∧ cs.length = ts.length ∧ cs.all okC = true)]
        unfold spec_hedgeError.f
        have := sHedge_l hv hl hc ts.length k 0 (by omega) (by omega)
        simp only [left] at this
        rw [show ((0 : Nat) : Int) = 0 from rfl] at this
        rw [this]
        rfl
      · rw [if_neg hc, if_neg (fun h => hc h.2.2)]
    · rw [if_neg (by omega), if_neg (fun h => hl h.2.1)]
  · rw [if_neg hv, if_neg (fun h => hv h.1)]

theorem wi (a l h : Int) : impl_within.f a l h = some (decide (l ≤ a ∧ a ≤ h)) := by
  unfold impl_within.f
  split <;> rename_i hc <;> simp <;> omega

theorem mxAbs {n : Int} (h1 : -9223372036854775807 ≤ n) (h2 : n ≤ 9223372036854775807) : mx n (wrap64 (-n)) = if n < 0 then -n else n := by
  rw [w64 (by omega) (by omega)]
  unfold mx
  split <;> split <;> omega
theorem iHedge_l {a : Int} {ts cs : List Int} (h : impl_toolsValid.v a ts = true) (hl : cs.length = ts.length) (d : Nat) : ∀ (k i : Nat), i + d = ts.length → d < k → (∀ n ∈ cs.take i, okC n = true) →
    impl_HedgeError.l0 k (left a ts cs i) ts cs (cs.length : Int) (i : Int) = some (if (cs.drop i).all okC = true then (if left a ts cs ts.length < 0 then -(left a ts cs ts.length) else left a ts cs ts.length) else -1) := by
  have hv := tools_of h
  induction d with
  | zero =>
    intro k i hi hk hc
    obtain ⟨k, rfl⟩ : ∃ m, k = m + 1 := ⟨k - 1, by omega⟩
    have hb := left_bd h hl i (by omega) hc
    obtain rfl : i = ts.length := by omega
    simp only [impl_HedgeError.l0]
    rw [if_neg (by omega), mxAbs (by omega) (by omega), List.drop_of_length_le (by omega)]
    rfl
  | succ d ih =>
    intro k i hi hk hc
    obtain ⟨k, rfl⟩ : ∃ m, k = m + 1 := ⟨k - 1, by omega⟩
    have hti : i < ts.length := by omega
    have hci : i < cs.length := by omega
    simp only [impl_HedgeError.l0]
    rw [if_pos (by omega), if_pos (by omega), if_pos (by omega), wi, List.drop_eq_getElem_cons hci, List.all_cons]
    simp only [Option.bind_some]
    by_cases h2 : -6 ≤ cs[i] ∧ cs[i] ≤ 6
    · have hk2 : okC cs[i] = true := decide_eq_true h2
      have hc2 : ∀ n ∈ cs.take (i + 1), okC n = true := by
        intro n hn
        rw [List.take_succ_eq_append_getElem hci] at hn
        rcases List.mem_append.1 hn with hn | hn
        · exact hc n hn
        · rw [List.mem_singleton.1 hn]
          exact hk2
      have hb := left_bd h hl (i + 1) (by omega) hc2
      have h3 := prod_bd (hv.2.2 _ (List.getElem_mem hti)) h2
      have ih2 := ih k (i + 1) (by omega) (by omega) hc2
      rw [hk2, Bool.true_and, rdI cs hci, decide_eq_true h2, if_pos rfl, if_pos (by omega), rdI ts hti]
      simp only [left] at ih2 hb
      rw [rdI ts hti, rdI cs hci] at ih2 hb
      rw [Int.mul_comm cs[i] ts[i], w64 (n := ts[i] * cs[i]) (by omega) (by omega), w64 (n := left a ts cs i - ts[i] * cs[i]) (by omega) (by omega), step1 hti (by omega)]
      exact ih2
    · have hk2 : okC cs[i] = false := decide_eq_false h2
      rw [hk2, Bool.false_and, rdI cs hci, decide_eq_false h2]
      rfl
theorem iHedge (a : Int) (ts cs : List Int) {k : Nat} (hk : 5 < k) : impl_HedgeError.f k a ts cs = some (hErr a ts cs) := by
  unfold impl_HedgeError.f impl_toolsValid.f
  simp only [Option.bind_some]
  unfold hErr
  obtain ⟨k, rfl⟩ : ∃ m, k = m + 1 := ⟨k - 1, by omega⟩
  simp only [impl_HedgeError.j0]
  by_cases hv : impl_toolsValid.v a ts = true
  · rw [if_pos hv]
    have hv2 := tools_of hv
    by_cases hl : cs.length = ts.length
    · have e : ((cs.length : Int) != (ts.length : Int)) = false := by rw [hl]; simp
      rw [e]
      have := iHedge_l hv hl ts.length k 0 (by omega) (by omega) (by simp)
      simp only [left, List.drop_zero] at this
      rw [show ((0 : Nat) : Int) = 0 from rfl] at this
      simp only [Bool.false_eq_true, if_false]
      rw [this]
      by_cases hc : cs.all okC = true
      · rw [if_pos hc, if_pos (⟨hv, hl, hc⟩ : impl_toolsValid.v a ts = true ∧ cs.length = ts.length ∧ cs.all okC = true)]
      · rw [if_neg hc, if_neg (fun h => hc h.2.2)]
    · have e : ((cs.length : Int) != (ts.length : Int)) = true := by simp; omega
      rw [e, if_pos rfl, if_neg (fun h => hl h.2.1)]
  · rw [if_neg hv, if_pos trivial, if_neg (fun h => hv h.1)]

end FnExactHedgeErrorLaw
open FnExactHedgeErrorLaw

theorem FnExactHedgeError : ∀ (a0 : Int) (l1 : List Int) (l2 : List Int), (Lit.int .i64 a0).wf = true → l1.length ≤ maxLen → (∀ x ∈ l1, (Lit.int .i64 x).wf = true) → l2.length ≤ maxLen → (∀ x ∈ l2, (Lit.int .i64 x).wf = true) → ∃ k, laws_FnExactHedgeError.f k a0 l1 l2 = some true := by
  intro a ts cs ha h1 h3 h4 h6
  refine ⟨1048700, ?_⟩
  unfold laws_FnExactHedgeError.f
  by_cases hm : (ts.length : Int) > 1048576
  · rw [if_pos hm]
  · by_cases hn : (cs.length : Int) > 1048576
    · rw [if_neg hm, if_pos hn]
    · rw [if_neg hm, if_neg hn, toIntS ts (by omega) (by omega), toIntS cs (by omega) (by omega)]
      simp only [Option.bind_some]
      rw [sHedge a ts cs (by omega) (by omega) (by omega), iHedge a ts cs (by omega)]
      simp only [Option.bind_some, if_true]
      rw [eqIntS ts (by omega) (by omega), eqIntS cs (by omega) (by omega)]
      rfl

end Go.Proofs.Ytdhlocboaokobaa.Pure

/- What the printed functions of FnExactPostTrades compute is true at every input. Conditions: none beyond the arguments' kinds. -/
import Derived.Test.YtdfkdljddjbfnaaGFnExactPostTradesx6
import Derived.OpenShut
namespace Go.Proofs.Ytdfkdljddjbfnaa.Pure
open Go.RowKit Go.Proofs.Ytdfkdljddjbfnaa.PFnExactPostTrades Go.Proofs.YtdfkdljddjbfnaaW.PrintWords Go.Proofs.YtdfkdljddjbfnaaW.PrintLast Go.Proofs.YtdfkdljddjbfnaaW.PrintMore
set_option linter.unusedVariables false
set_option linter.unusedSimpArgs false

namespace FnExactPostTradesLaw
theorem rdT (xs : List S42) {i : Nat} (h : i < xs.length) : rd_T42 xs (i : Int) = xs[i] := by
  unfold rd_T42
  rw [List.getD_eq_getElem?_getD, Int.toNat_natCast, List.getElem?_eq_getElem h]
  rfl

/-- What valid trades are: the words of the walk's own text. -/
theorem iTrades (xs : List S42) : impl_ValidTrades.f xs = some (impl_ValidTrades.v xs) := rfl
theorem okT_of {p : S42} (h : impl_ValidTrades.okT p = true) : (0 ≤ p.f0 ∧ p.f0 ≤ 36524) ∧ (-9999 ≤ p.f1 ∧ p.f1 ≤ 9999) ∧ p.f1 ≠ 0 ∧ 1 ≤ p.f2 ∧ p.f2 ≤ 50000 := of_decide_eq_true h
theorem v_of {xs : List S42} (h : impl_ValidTrades.v xs = true) : xs.length ≤ 16 ∧ ∀ i, i < xs.length → impl_ValidTrades.ok xs i = true := by
  unfold impl_ValidTrades.v at h
  simp only [Bool.and_eq_true, decide_eq_true_eq, List.all_eq_true] at h
  exact ⟨h.1, fun i hi => h.2 i (List.mem_range.2 hi)⟩
theorem v_mem {xs : List S42} (h : impl_ValidTrades.v xs = true) : ∀ p ∈ xs, impl_ValidTrades.okT p = true := by
  intro p hp
  obtain ⟨i, hi, rfl⟩ := List.mem_iff_getElem.1 hp
  have := (v_of h).2 i hi
  unfold impl_ValidTrades.ok at this
  rw [rdT xs hi, Bool.and_eq_true] at this
  exact this.1

theorem w64 {n : Int} (h1 : -9223372036854775808 ≤ n) (h2 : n ≤ 9223372036854775807) : wrap64 n = n := by
  unfold wrap64
  omega

theorem step1 {i n : Nat} (h : i < n) (hn : n ≤ 4611686018427387904) : wrap64 ((i : Int) + 1) = ((i + 1 : Nat) : Int) := by
  rw [w64 (by omega) (by omega)]
  omega

theorem inR (a l h : Int) : spec_inRange.f a l h = some (decide (l ≤ a ∧ a ≤ h)) := by
  unfold spec_inRange.f
  split <;> simp only [true_and, false_and, decide_false, *]

theorem range_split (f : Nat → Bool) (n i : Nat) (h : i < n) : ((List.range n).drop i).all f = (f i && ((List.range n).drop (i + 1)).all f) := by
  rw [List.drop_eq_getElem_cons (by simpa using h), List.all_cons, List.getElem_range]
theorem sTrades_l (xs : List S42) (hn : xs.length ≤ 4611686018427387904) (d : Nat) : ∀ (k i : Nat), i + d = xs.length → d < k →
    spec_validTrades.l0 k xs (i : Int) = some (((List.range xs.length).drop i).all (impl_ValidTrades.ok xs) && decide (xs.length ≤ 16)) := by
  induction d with
  | zero =>
    intro k i hi hk
    obtain ⟨k, rfl⟩ : ∃ m, k = m + 1 := ⟨k - 1, by omega⟩
    simp only [spec_validTrades.l0]
    rw [if_neg (by omega), List.drop_eq_nil_of_le (by rw [List.length_range]; omega)]
    simp only [List.all_nil, Bool.true_and, Option.some.injEq, decide_eq_decide]
    omega
  | succ d ih =>
    intro k i hi hk
    obtain ⟨k, rfl⟩ : ∃ m, k = m + 1 := ⟨k - 1, by omega⟩
    have hlt : i < xs.length := by omega
    have e : impl_ValidTrades.ok xs i = (impl_ValidTrades.okT (rd_T42 xs (i : Int)) && (decide (i = 0) || decide ((rd_T42 xs ((i : Int) - 1)).f0 ≤ (rd_T42 xs (i : Int)).f0))) := rfl
    have e1 : ∀ p : S42, impl_ValidTrades.okT p = decide ((0 ≤ p.f0 ∧ p.f0 ≤ 36524) ∧ (-9999 ≤ p.f1 ∧ p.f1 ≤ 9999) ∧ p.f1 ≠ 0 ∧ 1 ≤ p.f2 ∧ p.f2 ≤ 50000) := fun _ => rfl
    simp only [spec_validTrades.l0]
    rw [if_pos (by omega), if_pos (by omega), step1 hlt hn, ih k (i + 1) (by omega) (by omega), inR, inR, inR, range_split _ _ _ hlt, e, e1]
    simp only [Option.bind_some, decide_eq_true_eq]
    rw [w64 (n := (i : Int) - 1) (by omega) (by omega)]
    generalize ((List.range xs.length).drop (i + 1)).all (impl_ValidTrades.ok xs) = R
    generalize decide (xs.length ≤ 16) = L
    generalize rd_T42 xs ((i : Int) - 1) = q
    generalize rd_T42 xs (i : Int) = p
    by_cases h1 : 0 ≤ p.f0 ∧ p.f0 ≤ 36524
    · by_cases h2 : -9999 ≤ p.f1 ∧ p.f1 ≤ 9999
      · by_cases h3 : p.f1 = 0
        · rw [if_pos h1, if_pos h2, if_pos h3, decide_eq_false (fun h : (0 ≤ p.f0 ∧ p.f0 ≤ 36524) ∧ (-9999 ≤ p.f1 ∧ p.f1 ≤ 9999) ∧ p.f1 ≠ 0 ∧ 1 ≤ p.f2 ∧ p.f2 ≤ 50000 => h.2.2.1 h3)]
          rfl
        · by_cases h4 : 1 ≤ p.f2 ∧ p.f2 ≤ 50000
          · rw [if_pos h1, if_pos h2, if_neg h3, if_pos h4, decide_eq_true (show (0 ≤ p.f0 ∧ p.f0 ≤ 36524) ∧ (-9999 ≤ p.f1 ∧ p.f1 ≤ 9999) ∧ p.f1 ≠ 0 ∧ 1 ≤ p.f2 ∧ p.f2 ≤ 50000 from ⟨h1, h2, h3, h4⟩)]
            by_cases h5 : i = 0
            · rw [if_neg (by omega), decide_eq_true h5]
              simp
            · rw [if_pos (by omega), if_pos (by omega), if_pos (by omega), decide_eq_false h5]
              by_cases h6 : p.f0 < q.f0
              · rw [if_pos h6, decide_eq_false (show ¬ q.f0 ≤ p.f0 by omega)]
                simp
              · rw [if_neg h6, decide_eq_true (show q.f0 ≤ p.f0 by omega)]
                simp
          · rw [if_pos h1, if_pos h2, if_neg h3, if_neg h4, decide_eq_false (fun h : (0 ≤ p.f0 ∧ p.f0 ≤ 36524) ∧ (-9999 ≤ p.f1 ∧ p.f1 ≤ 9999) ∧ p.f1 ≠ 0 ∧ 1 ≤ p.f2 ∧ p.f2 ≤ 50000 => h4 h.2.2.2)]
            rfl
      · rw [if_pos h1, if_neg h2, decide_eq_false (fun h : (0 ≤ p.f0 ∧ p.f0 ≤ 36524) ∧ (-9999 ≤ p.f1 ∧ p.f1 ≤ 9999) ∧ p.f1 ≠ 0 ∧ 1 ≤ p.f2 ∧ p.f2 ≤ 50000 => h2 h.2.1)]
        rfl
    · rw [if_neg h1, decide_eq_false (fun h : (0 ≤ p.f0 ∧ p.f0 ≤ 36524) ∧ (-9999 ≤ p.f1 ∧ p.f1 ≤ 9999) ∧ p.f1 ≠ 0 ∧ 1 ≤ p.f2 ∧ p.f2 ≤ 50000 => h1 h.1)]
      rfl
theorem sTrades (xs : List S42) (hn : xs.length ≤ 4611686018427387904) {k : Nat} (hk : xs.length < k) : spec_validTrades.f k xs = some (impl_ValidTrades.v xs) := by
  unfold spec_validTrades.f impl_ValidTrades.v
  have := sTrades_l xs hn xs.length k 0 (by omega) (by omega)
  rw [Bool.and_comm]
  simpa using this

theorem distP (a : Int) (h1 : -1000000 ≤ a) (h2 : a ≤ 1000000) : spec_distance.f a = some (if a < 0 then -a else a) := by
  unfold spec_distance.f
  rw [w64 (by omega) (by omega)]
  split <;> rfl
theorem sPostTr_l {xs : List S42} (hv : impl_ValidTrades.v xs = true) (d : Nat) : ∀ (k i : Nat) (ys : List S50), i + d = xs.length → d < k → ys = (xs.take i).map impl_PostTrades.post → spec_PostTrades.l0 k xs ys (i : Int) = some (xs.map impl_PostTrades.post) := by
  have ht := impl_PostTrades.trade_of hv
  induction d with
  | zero =>
    intro k i ys hi hk hy
    obtain ⟨k, rfl⟩ : ∃ m, k = m + 1 := ⟨k - 1, by omega⟩
    simp only [spec_PostTrades.l0]
    rw [if_neg (by omega), hy, List.take_of_length_le (by omega)]
  | succ d ih =>
    intro k i ys hi hk hy
    obtain ⟨k, rfl⟩ : ∃ m, k = m + 1 := ⟨k - 1, by omega⟩
    have hlt : i < xs.length := by omega
    have hb := ht.2 _ (List.getElem_mem hlt)
    have hp := impl_PostTrades.prod_bd hb.1 hb.2
    have hyl : ys.length ≤ 16 := by rw [hy, List.length_map, List.length_take]; omega
    have htk : xs.take (i + 1) = xs.take i ++ [xs[i]] := List.take_succ_eq_append_getElem hlt
    simp only [spec_PostTrades.l0]
    rw [if_pos (by omega), if_pos (by omega), rdT xs hlt, distP _ (by omega) (by omega), step1 hlt (by omega)]
    simp only [Option.bind_some]
    by_cases c : xs[i].f1 < 0
    · rw [if_pos c, if_pos (by omega), if_pos c, w64 (by omega) (by omega)]
      refine ih k (i + 1) _ (by omega) (by omega) ?_
      have e : impl_PostTrades.post xs[i] = ⟨1, 0, -xs[i].f1 * xs[i].f2⟩ := if_pos c
      rw [htk, List.map_append, hy, List.map_cons, List.map_nil, e]
    · rw [if_neg c, if_pos (by omega), if_neg c, w64 (by omega) (by omega)]
      refine ih k (i + 1) _ (by omega) (by omega) ?_
      have e : impl_PostTrades.post xs[i] = ⟨0, 1, xs[i].f1 * xs[i].f2⟩ := if_neg c
      rw [htk, List.map_append, hy, List.map_cons, List.map_nil, e]
theorem sPostTr (xs : List S42) (hn : xs.length ≤ 1048576) {k : Nat} (hk : xs.length < k) : spec_PostTrades.f k xs = some (impl_PostTrades.v xs) := by
  unfold spec_PostTrades.f impl_PostTrades.v
  rw [sTrades xs (by omega) (by omega)]
  simp only [Option.bind_some]
  by_cases h : impl_ValidTrades.v xs = true
  · rw [if_pos h, if_pos h]
    exact sPostTr_l h xs.length k 0 [] (by omega) (by omega) rfl
  · rw [if_neg h, if_neg h]
theorem postLen (xs : List S42) : (impl_PostTrades.v xs).length ≤ xs.length ∧ (impl_PostTrades.v xs).length ≤ 16 := by
  unfold impl_PostTrades.v
  by_cases h : impl_ValidTrades.v xs = true
  · rw [if_pos h, List.length_map]
    exact ⟨Nat.le_refl _, (impl_PostTrades.trade_of h).1⟩
  · rw [if_neg h]
    simp

theorem rd27 (xs : List S50) {i : Nat} (h : i < xs.length) : rd_T50 xs (i : Int) = xs[i] := by
  unfold rd_T50
  rw [List.getD_eq_getElem?_getD, Int.toNat_natCast, List.getElem?_eq_getElem h]
  rfl

theorem eqPostS_l (xs : List S50) (hn : xs.length ≤ 4611686018427387904) (d : Nat) : ∀ (k i : Nat), i + d = xs.length → d < k → laws_eqPostS.l0 k xs xs (i : Int) = some true := by
  induction d with
  | zero =>
    intro k i hi hk
    obtain ⟨k, rfl⟩ : ∃ m, k = m + 1 := ⟨k - 1, by omega⟩
    simp only [laws_eqPostS.l0]
    rw [if_neg (by omega)]
  | succ d ih =>
    intro k i hi hk
    obtain ⟨k, rfl⟩ : ∃ m, k = m + 1 := ⟨k - 1, by omega⟩
    have hlt : i < xs.length := by omega
    simp only [laws_eqPostS.l0]
    rw [if_pos (by omega), if_pos (by omega), if_pos (by omega), step1 hlt hn, ih k (i + 1) (by omega) (by omega)]
    simp [laws_eqPost.f]
theorem eqPostS (xs : List S50) (hn : xs.length ≤ 4611686018427387904) {k : Nat} (hk : xs.length < k) : laws_eqPostS.f k xs xs = some true := by
  unfold laws_eqPostS.f
  rw [if_pos rfl]
  exact eqPostS_l xs hn xs.length k 0 (by omega) (by omega)

theorem rdLT (xs : List S46) {i : Nat} (h : i < xs.length) : rd_T46 xs (i : Int) = xs[i] := by
  unfold rd_T46
  rw [List.getD_eq_getElem?_getD, Int.toNat_natCast, List.getElem?_eq_getElem h]
  rfl
def cTrade (p : S46) : S42 := ⟨p.f0, p.f1, p.f2⟩
theorem take_setT {α : Type} (ys : List α) (i : Nat) (h : i < ys.length) (v : α) : (ys.set i v).take (i + 1) = ys.take i ++ [v] := by
  rw [List.take_succ_eq_append_getElem (by simpa using h), List.take_set_of_le (Nat.le_refl i)]
  simp
theorem toTradeS_l (xs : List S46) (hn : xs.length ≤ 4611686018427387904) (d : Nat) : ∀ (k i : Nat) (ys : List S42), i + d = xs.length → d < k → ys.length = xs.length → ys.take i = (xs.take i).map cTrade →
    laws_toTradeS.l0 k xs ys (i : Int) = some (xs.map cTrade) := by
  induction d with
  | zero =>
    intro k i ys hi hk hl ht
    obtain ⟨k, rfl⟩ : ∃ m, k = m + 1 := ⟨k - 1, by omega⟩
    simp only [laws_toTradeS.l0]
    rw [List.take_of_length_le (by omega), List.take_of_length_le (by omega)] at ht
    rw [if_neg (by omega), ht]
  | succ d ih =>
    intro k i ys hi hk hl ht
    obtain ⟨k, rfl⟩ : ∃ m, k = m + 1 := ⟨k - 1, by omega⟩
    have hlt : i < xs.length := by omega
    simp only [laws_toTradeS.l0]
    rw [if_pos (by omega), if_pos (by omega), rdLT xs hlt]
    unfold laws_toTrade.f
    simp only [Option.bind_some]
    rw [if_pos (by omega), step1 hlt hn, Int.toNat_natCast]
    refine ih k (i + 1) _ (by omega) (by omega) (by simpa using hl) ?_
    rw [take_setT _ _ (by omega), ht, List.take_succ_eq_append_getElem hlt, List.map_append]
    rfl
theorem toTradeS (xs : List S46) (hn : xs.length ≤ 1048576) {k : Nat} (hk : 1048577 < k) : laws_toTradeS.f k xs = some (xs.map cTrade) := by
  unfold laws_toTradeS.f
  rw [if_pos (by omega), if_pos (by omega), Int.toNat_natCast]
  exact toTradeS_l xs (by omega) xs.length k 0 _ (by omega) (by omega) (by simp) (by simp)

theorem eqTradeS_l (xs : List S42) (hn : xs.length ≤ 4611686018427387904) (d : Nat) : ∀ (k i : Nat), i + d = xs.length → d < k → laws_eqTradeS.l0 k xs xs (i : Int) = some true := by
  induction d with
  | zero =>
    intro k i hi hk
    obtain ⟨k, rfl⟩ : ∃ m, k = m + 1 := ⟨k - 1, by omega⟩
    simp only [laws_eqTradeS.l0]
    rw [if_neg (by omega)]
  | succ d ih =>
    intro k i hi hk
    obtain ⟨k, rfl⟩ : ∃ m, k = m + 1 := ⟨k - 1, by omega⟩
    have hlt : i < xs.length := by omega
    simp only [laws_eqTradeS.l0]
    rw [if_pos (by omega), if_pos (by omega), if_pos (by omega), step1 hlt hn, ih k (i + 1) (by omega) (by omega)]
    simp [laws_eqTrade.f]
theorem eqTradeS (xs : List S42) (hn : xs.length ≤ 4611686018427387904) {k : Nat} (hk : xs.length < k) : laws_eqTradeS.f k xs xs = some true := by
  unfold laws_eqTradeS.f
  rw [if_pos rfl]
  exact eqTradeS_l xs hn xs.length k 0 (by omega) (by omega)

theorem szTradeS (xs : List S46) (hm : xs.length ≤ maxLen) : ∃ n, laws_szTradeS.f xs 1048576 = some n ∧ (¬ n < 0 → xs.length ≤ 1048576) := by
  unfold laws_szTradeS.f
  unfold maxLen at hm
  rw [w64 (by omega) (by omega)]
  by_cases h : (1048576 : Int) - (xs.length : Int) < 0
  · rw [if_pos h]
    exact ⟨-1, rfl, fun h2 => absurd (by decide) h2⟩
  · rw [if_neg h]
    exact ⟨_, rfl, fun _ => by omega⟩

theorem rdsetTradeS (ys : List S42) {i : Nat} (h : i < ys.length) (v : S42) : rd_T42 (ys.set i v) (i : Int) = v := by
  rw [rdT _ (by simpa using h), List.getElem_set_self]
/-- What the marks are. -/
def marksTradeS (L : Nat) : List S42 := (List.range L).map fun i : Nat => (⟨1 + 3 * (i : Int), 1 + 3 * (i : Int) + 1, 1 + 3 * (i : Int) + 2⟩ : S42)
theorem marksTradeS_len (L : Nat) : (marksTradeS L).length = L := by simp [marksTradeS]
theorem markTradeS_l (L : Nat) (hL : L ≤ 1048576) (d : Nat) : ∀ (k i : Nat) (ys : List S42), i + d = L → d < k → ys.length = L → ys.take i = marksTradeS i → laws_markTradeS.l0 k ys (1 + 3 * (i : Int)) (i : Int) = some (1 + 3 * (L : Int), marksTradeS L) := by
  induction d with
  | zero =>
    intro k i ys hi hk hl ht
    obtain ⟨k, rfl⟩ : ∃ m, k = m + 1 := ⟨k - 1, by omega⟩
    obtain rfl : i = L := by omega
    simp only [laws_markTradeS.l0]
    rw [List.take_of_length_le (by omega)] at ht
    rw [if_neg (by omega), ht]
  | succ d ih =>
    intro k i ys hi hk hl ht
    obtain ⟨k, rfl⟩ : ∃ m, k = m + 1 := ⟨k - 1, by omega⟩
    have hlt : i < ys.length := by omega
    have hs := step1 hlt (by omega)
    simp only [laws_markTradeS.l0]
    rw [if_pos (by omega), if_pos (by omega)]
    simp only [Option.bind_some, Int.toNat_natCast]
    simp only [rdsetTradeS ys hlt, List.set_set]
    rw [w64 (n := 1 + 3 * (i : Int) + 1) (by omega) (by omega), w64 (n := 1 + 3 * (i : Int) + 1 + 1) (by omega) (by omega), w64 (n := 1 + 3 * (i : Int) + 1 + 1 + 1) (by omega) (by omega), hs]
    have e : (1 + 3 * (i : Int) + 1 + 1 + 1) = 1 + 3 * ((i + 1 : Nat) : Int) := by omega
    rw [e]
    refine ih k (i + 1) _ (by omega) (by omega) (by simpa using hl) ?_
    rw [List.take_succ_eq_append_getElem (by simpa using hlt), List.take_set_of_le (Nat.le_refl i), List.getElem_set_self, ht]
    unfold marksTradeS
    rw [List.range_succ, List.map_append]
    first | (simp; done) | (simp; omega)
theorem markTradeS (ys : List S42) (hL : ys.length ≤ 1048576) {k : Nat} (hk : ys.length < k) : laws_markTradeS.f k ys 1 = some (1 + 3 * (ys.length : Int), marksTradeS ys.length) := by
  unfold laws_markTradeS.f
  exact markTradeS_l ys.length hL ys.length k 0 ys (by omega) (by omega) rfl rfl

theorem rdsetPostS (ys : List S50) {i : Nat} (h : i < ys.length) (v : S50) : rd_T50 (ys.set i v) (i : Int) = v := by
  rw [rd27 _ (by simpa using h), List.getElem_set_self]
/-- What the marks are. -/
def marksPostS (L : Nat) : List S50 := (List.range L).map fun i : Nat => (⟨1 + 3 * (i : Int), 1 + 3 * (i : Int) + 1, 1 + 3 * (i : Int) + 2⟩ : S50)
theorem marksPostS_len (L : Nat) : (marksPostS L).length = L := by simp [marksPostS]
theorem markPostS_l (L : Nat) (hL : L ≤ 1048576) (d : Nat) : ∀ (k i : Nat) (ys : List S50), i + d = L → d < k → ys.length = L → ys.take i = marksPostS i → laws_markPostS.l0 k ys (1 + 3 * (i : Int)) (i : Int) = some (1 + 3 * (L : Int), marksPostS L) := by
  induction d with
  | zero =>
    intro k i ys hi hk hl ht
    obtain ⟨k, rfl⟩ : ∃ m, k = m + 1 := ⟨k - 1, by omega⟩
    obtain rfl : i = L := by omega
    simp only [laws_markPostS.l0]
    rw [List.take_of_length_le (by omega)] at ht
    rw [if_neg (by omega), ht]
  | succ d ih =>
    intro k i ys hi hk hl ht
    obtain ⟨k, rfl⟩ : ∃ m, k = m + 1 := ⟨k - 1, by omega⟩
    have hlt : i < ys.length := by omega
    have hs := step1 hlt (by omega)
    simp only [laws_markPostS.l0]
    rw [if_pos (by omega), if_pos (by omega)]
    simp only [Option.bind_some, Int.toNat_natCast]
    simp only [rdsetPostS ys hlt, List.set_set]
    rw [w64 (n := 1 + 3 * (i : Int) + 1) (by omega) (by omega), w64 (n := 1 + 3 * (i : Int) + 1 + 1) (by omega) (by omega), w64 (n := 1 + 3 * (i : Int) + 1 + 1 + 1) (by omega) (by omega), hs]
    have e : (1 + 3 * (i : Int) + 1 + 1 + 1) = 1 + 3 * ((i + 1 : Nat) : Int) := by omega
    rw [e]
    refine ih k (i + 1) _ (by omega) (by omega) (by simpa using hl) ?_
    rw [List.take_succ_eq_append_getElem (by simpa using hlt), List.take_set_of_le (Nat.le_refl i), List.getElem_set_self, ht]
    unfold marksPostS
    rw [List.range_succ, List.map_append]
    first | (simp; done) | (simp; omega)
theorem markPostS (ys : List S50) (hL : ys.length ≤ 1048576) {k : Nat} (hk : ys.length < k) : laws_markPostS.f k ys 1 = some (1 + 3 * (ys.length : Int), marksPostS ys.length) := by
  unfold laws_markPostS.f
  exact markPostS_l ys.length hL ys.length k 0 ys (by omega) (by omega) rfl rfl

theorem heldPostS_l (L : Nat) (hL : L ≤ 1048576) (d : Nat) : ∀ (k i : Nat), i + d = L → d < k → laws_heldPostS.l0 k (marksPostS L) (1 + 3 * (i : Int)) (i : Int) = some (1 + 3 * (L : Int)) := by
  induction d with
  | zero =>
    intro k i hi hk
    obtain ⟨k, rfl⟩ : ∃ m, k = m + 1 := ⟨k - 1, by omega⟩
    obtain rfl : i = L := by omega
    simp only [laws_heldPostS.l0]
    rw [if_neg (by rw [marksPostS_len]; omega)]
  | succ d ih =>
    intro k i hi hk
    obtain ⟨k, rfl⟩ : ∃ m, k = m + 1 := ⟨k - 1, by omega⟩
    have hlt : i < (marksPostS L).length := by rw [marksPostS_len]; omega
    have hs := step1 hlt (by rw [marksPostS_len]; omega)
    have hr : rd_T50 (marksPostS L) (i : Int) = (⟨1 + 3 * (i : Int), 1 + 3 * (i : Int) + 1, 1 + 3 * (i : Int) + 2⟩ : S50) := by
      rw [rd27 _ hlt]
      simp [marksPostS]
    have e : (1 + 3 * (i : Int) + 1 + 1 + 1) = 1 + 3 * ((i + 1 : Nat) : Int) := by omega
    have ih2 := ih k (i + 1) (by omega) (by omega)
    rw [← e] at ih2
    simp only [laws_heldPostS.l0]
    rw [if_pos (by omega), if_pos (by omega), hr, hs, w64 (n := 1 + 3 * (i : Int) + 1) (by omega) (by omega), w64 (n := 1 + 3 * (i : Int) + 1 + 1) (by omega) (by omega), w64 (n := 1 + 3 * (i : Int) + 1 + 1 + 1) (by omega) (by omega)]
    simp only [if_true, Int.add_assoc] at ih2 ⊢
    simpa using ih2
theorem heldPostS (L : Nat) (hL : L ≤ 1048576) {k : Nat} (hk : L < k) : laws_heldPostS.f k (marksPostS L) 1 = some (1 + 3 * (L : Int)) := by
  unfold laws_heldPostS.f
  exact heldPostS_l L hL L k 0 (by omega) (by omega)

end FnExactPostTradesLaw
open FnExactPostTradesLaw

theorem FnExactPostTrades : ∀ (l0 : List S46), l0.length ≤ maxLen → ∃ k, laws_FnExactPostTrades.f k l0 = some true := by
  intro l hm
  have hk : ∃ k, 1048700 < k := ⟨1048701, by omega⟩
  obtain ⟨k, hk⟩ := hk
  refine ⟨k, ?_⟩
  unfold laws_FnExactPostTrades.f
  obtain ⟨n, hs, hn⟩ := szTradeS l hm
  rw [hs]
  simp only [Option.bind_some]
  by_cases h : n < 0
  · rw [if_pos h]
  · have hl := hn h
    obtain ⟨k, rfl⟩ : ∃ m, k = m + 1 := ⟨k - 1, by omega⟩
    rw [if_neg h, toTradeS l hl (by omega)]
    simp only [Option.bind_some]
    have hlen := (postLen (l.map cTrade)).2
    have hml : (l.map cTrade).length = l.length := by simp
    rw [sPostTr _ (by omega) (by omega)]
    unfold impl_PostTrades.f
    simp only [Option.bind_some]
    rw [eqPostS _ (by omega) (by omega), eqTradeS _ (by omega) (by omega), markTradeS _ (by omega) (by omega)]
    simp only [Option.bind_some, if_true]
    rw [if_neg (by omega)]
    simp only [Bool.not_true, laws_FnExactPostTrades.j0]
    rw [if_neg (by decide), markPostS _ (by omega) (by omega)]
    simp only [Option.bind_some]
    rw [heldPostS _ (by omega) (by omega)]
    simp only [Option.bind_some]
    rw [if_neg (by omega), if_pos trivial, toTradeS l hl (by omega)]
    unfold impl_PostTrades.f
    simp only [Option.bind_some]
    rw [eqPostS _ (by omega) (by omega)]
    simp only [Option.bind_some, if_true]
    rw [if_neg (by omega)]

end Go.Proofs.Ytdfkdljddjbfnaa.Pure

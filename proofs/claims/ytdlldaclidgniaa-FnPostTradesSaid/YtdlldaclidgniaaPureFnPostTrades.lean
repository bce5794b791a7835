/- What the printed functions of FnPostTrades compute is true at every input. Conditions: none beyond the arguments' kinds. -/
import Derived.Test.YtdlldaclidgniaaGFnPostTradesx7
import Derived.OpenShut
namespace Go.Proofs.Ytdlldaclidgniaa.Pure
open Go.RowKit Go.Proofs.Ytdlldaclidgniaa.PFnPostTrades Go.Proofs.YtdlldaclidgniaaW.PrintWords Go.Proofs.YtdlldaclidgniaaW.PrintLast Go.Proofs.YtdlldaclidgniaaW.PrintMore
set_option linter.unusedVariables false
set_option linter.unusedSimpArgs false

namespace FnPostTradesLaw
theorem rdT (xs : List S41) {i : Nat} (h : i < xs.length) : rd_T41 xs (i : Int) = xs[i] := by
  unfold rd_T41
  rw [List.getD_eq_getElem?_getD, Int.toNat_natCast, List.getElem?_eq_getElem h]
  rfl

/-- What valid trades are: the words of the walk's own text. -/
theorem iTrades (xs : List S41) : impl_ValidTrades.f xs = some (impl_ValidTrades.v xs) := rfl
theorem okT_of {p : S41} (h : impl_ValidTrades.okT p = true) : (0 ≤ p.f0 ∧ p.f0 ≤ 36524) ∧ (-9999 ≤ p.f1 ∧ p.f1 ≤ 9999) ∧ p.f1 ≠ 0 ∧ 1 ≤ p.f2 ∧ p.f2 ≤ 50000 := of_decide_eq_true h
theorem v_of {xs : List S41} (h : impl_ValidTrades.v xs = true) : xs.length ≤ 16 ∧ ∀ i, i < xs.length → impl_ValidTrades.ok xs i = true := by
  unfold impl_ValidTrades.v at h
  simp only [Bool.and_eq_true, decide_eq_true_eq, List.all_eq_true] at h
  exact ⟨h.1, fun i hi => h.2 i (List.mem_range.2 hi)⟩
theorem v_mem {xs : List S41} (h : impl_ValidTrades.v xs = true) : ∀ p ∈ xs, impl_ValidTrades.okT p = true := by
  intro p hp
  obtain ⟨i, hi, rfl⟩ := List.mem_iff_getElem.1 hp
  have := (v_of h).2 i hi
  unfold impl_ValidTrades.ok at this
  rw [rdT xs hi, Bool.and_eq_true] at this
  exact this.1

theorem w64 {n : Int} (h1 : -9223372036854775808 ≤ n) (h2 : n ≤ 9223372036854775807) : wrap64 n = n := by
  unfold wrap64
  omega

theorem step1 {i n : Nat} (h : i < n) (hn : n ≤ 4611686018427387904) : wrap64 ((i : Int) + 1) = ((i + 1 : Nat) : Int) := by
  rw [w64 (by omega) (by omega)]
  omega

theorem inR (a l h : Int) : spec_inRange.f a l h = some (decide (l ≤ a ∧ a ≤ h)) := by
  unfold spec_inRange.f
  split <;> simp only [true_and, false_and, decide_false, *]

theorem range_split (f : Nat → Bool) (n i : Nat) (h : i < n) : ((List.range n).drop i).all f = (f i && ((List.range n).drop (i + 1)).all f) := by
  rw [List.drop_eq_getElem_cons (by simpa using h), List.all_cons, List.getElem_range]
theorem sTrades_l (xs : List S41) (hn : xs.length ≤ 4611686018427387904) (d : Nat) : ∀ (k i : Nat), i + d = xs.length → d < k →
    spec_validTrades.l0 k xs (i : Int) = some (((List.range xs.length).drop i).all (impl_ValidTrades.ok xs) && decide (xs.length ≤ 16)) := by
  induction d with
  | zero =>
    intro k i hi hk
    obtain ⟨k, rfl⟩ : ∃ m, k = m + 1 := ⟨k - 1, by omega⟩
    simp only [spec_validTrades.l0]
    rw [if_neg (by omega), List.drop_eq_nil_of_le (by rw [List.length_range]; omega)]
    simp only [List.all_nil, Bool.true_and, Option.some.injEq, decide_eq_decide]
    omega
  | succ d ih =>
    intro k i hi hk
    obtain ⟨k, rfl⟩ : ∃ m, k = m + 1 := ⟨k - 1, by omega⟩
    have hlt : i < xs.length := by omega
    have e : impl_ValidTrades.ok xs i = (impl_ValidTrades.okT (rd_T41 xs (i : Int)) && (decide (i = 0) || decide ((rd_T41 xs ((i : Int) - 1)).f0 ≤ (rd_T41 xs (i : Int)).f0))) := rfl
    have e1 : ∀ p : S41, impl_ValidTrades.okT p = decide ((0 ≤ p.f0 ∧ p.f0 ≤ 36524) ∧ (-9999 ≤ p.f1 ∧ p.f1 ≤ 9999) ∧ p.f1 ≠ 0 ∧ 1 ≤ p.f2 ∧ p.f2 ≤ 50000) := fun _ => rfl
    simp only [spec_validTrades.l0]
    rw [if_pos (by omega), if_pos (by omega), step1 hlt hn, ih k (i + 1) (by omega) (by omega), inR, inR, inR, range_split _ _ _ hlt, e, e1]
    simp only [Option.bind_some, decide_eq_true_eq]
    rw [w64 (n := (i : Int) - 1) (by omega) (by omega)]
    generalize ((List.range xs.length).drop (i + 1)).all (impl_ValidTrades.ok xs) = R
    generalize decide (xs.length ≤ 16) = L
    generalize rd_T41 xs ((i : Int) - 1) = q
    generalize rd_T41 xs (i : Int) = p
    by_cases h1 : 0 ≤ p.f0 ∧ p.f0 ≤ 36524
    · by_cases h2 : -9999 ≤ p.f1 ∧ p.f1 ≤ 9999
      · by_cases h3 : p.f1 = 0
        · rw [if_pos h1, if_pos h2, if_pos h3, decide_eq_false (fun h : (0 ≤ p.f0 ∧ p.f0 ≤ 36524) ∧ (-9999 ≤ p.f1 ∧ p.f1 ≤ 9999) ∧ p.f1 ≠ 0 ∧ 1 ≤ p.f2 ∧ p.f2 ≤ 50000 => h.2.2.1 h3)]
          rfl
        · by_cases h4 : 1 ≤ p.f2 ∧ p.f2 ≤ 50000
          · rw [if_pos h1, if_pos h2, if_neg h3, if_pos h4, decide_eq_true (show (0 ≤ p.f0 ∧ p.f0 ≤ 36524) ∧ (-9999 ≤ p.f1 ∧ p.f1 ≤ 9999) ∧ p.f1 ≠ 0 ∧ 1 ≤ p.f2 ∧ p.f2 ≤ 50000 from ⟨h1, h2, h3, h4⟩)]
            by_cases h5 : i = 0
            · rw [if_neg (by omega), decide_eq_true h5]
              simp
            · rw [if_pos (by omega), if_pos (by omega), if_pos (by omega), decide_eq_false h5]
              by_cases h6 : p.f0 < q.f0
              · rw [if_pos h6, decide_eq_false (show ¬ q.f0 ≤ p.f0 by omega)]
                simp
              · rw [if_neg h6, decide_eq_true (show q.f0 ≤ p.f0 by omega)]
                simp
          · rw [if_pos h1, if_pos h2, if_neg h3, if_neg h4, decide_eq_false (fun h : (0 ≤ p.f0 ∧ p.f0 ≤ 36524) ∧ (-9999 ≤ p.f1 ∧ p.f1 ≤ 9999) ∧ p.f1 ≠ 0 ∧ 1 ≤ p.f2 ∧ p.f2 ≤ 50000 => h4 h.2.2.2)]
            rfl
      · rw [if_pos h1, if_neg h2, decide_eq_false (fun h : (0 ≤ p.f0 ∧ p.f0 ≤ 36524) ∧ (-9999 ≤ p.f1 ∧ p.f1 ≤ 9999) ∧ p.f1 ≠ 0 ∧ 1 ≤ p.f2 ∧ p.f2 ≤ 50000 => h2 h.2.1)]
        rfl
    · rw [if_neg h1, decide_eq_false (fun h : (0 ≤ p.f0 ∧ p.f0 ≤ 36524) ∧ (-9999 ≤ p.f1 ∧ p.f1 ≤ 9999) ∧ p.f1 ≠ 0 ∧ 1 ≤ p.f2 ∧ p.f2 ≤ 50000 => h1 h.1)]
      rfl
theorem sTrades (xs : List S41) (hn : xs.length ≤ 4611686018427387904) {k : Nat} (hk : xs.length < k) : spec_validTrades.f k xs = some (impl_ValidTrades.v xs) := by
  unfold spec_validTrades.f impl_ValidTrades.v
  have := sTrades_l xs hn xs.length k 0 (by omega) (by omega)
  rw [Bool.and_comm]
  simpa using this

theorem distP (a : Int) (h1 : -1000000 ≤ a) (h2 : a ≤ 1000000) : spec_distance.f a = some (if a < 0 then -a else a) := by
  unfold spec_distance.f
  rw [w64 (by omega) (by omega)]
  split <;> rfl
theorem sPostTr_l {xs : List S41} (hv : impl_ValidTrades.v xs = true) (d : Nat) : ∀ (k i : Nat) (ys : List S43), i + d = xs.length → d < k → ys = (xs.take i).map impl_PostTrades.post → spec_PostTrades.l0 k xs ys (i : Int) = some (xs.map impl_PostTrades.post) := by
  have ht := impl_PostTrades.trade_of hv
  induction d with
  | zero =>
    intro k i ys hi hk hy
    obtain ⟨k, rfl⟩ : ∃ m, k = m + 1 := ⟨k - 1, by omega⟩
    simp only [spec_PostTrades.l0]
    rw [if_neg (by omega), hy, List.take_of_length_le (by omega)]
  | succ d ih =>
    intro k i ys hi hk hy
    obtain ⟨k, rfl⟩ : ∃ m, k = m + 1 := ⟨k - 1, by omega⟩
    have hlt : i < xs.length := by omega
    have hb := ht.2 _ (List.getElem_mem hlt)
    have hp := impl_PostTrades.prod_bd hb.1 hb.2
    have hyl : ys.length ≤ 16 := by rw [hy, List.length_map, List.length_take]; omega
    have htk : xs.take (i + 1) = xs.take i ++ [xs[i]] := List.take_succ_eq_append_getElem hlt
    simp only [spec_PostTrades.l0]
    rw [if_pos (by omega), if_pos (by omega), rdT xs hlt, distP _ (by omega) (by omega), step1 hlt (by omega)]
    simp only [Option.bind_some]
    by_cases c : xs[i].f1 < 0
    · rw [if_pos c, if_pos (by omega), if_pos c, w64 (by omega) (by omega)]
      refine ih k (i + 1) _ (by omega) (by omega) ?_
      have e : impl_PostTrades.post xs[i] = ⟨1, 0, -xs[i].f1 * xs[i].f2⟩ := if_pos c
      rw [htk, List.map_append, hy, List.map_cons, List.map_nil, e]
    · rw [if_neg c, if_pos (by omega), if_neg c, w64 (by omega) (by omega)]
      refine ih k (i + 1) _ (by omega) (by omega) ?_
      have e : impl_PostTrades.post xs[i] = ⟨0, 1, xs[i].f1 * xs[i].f2⟩ := if_neg c
      rw [htk, List.map_append, hy, List.map_cons, List.map_nil, e]
theorem sPostTr (xs : List S41) (hn : xs.length ≤ 1048576) {k : Nat} (hk : xs.length < k) : spec_PostTrades.f k xs = some (impl_PostTrades.v xs) := by
  unfold spec_PostTrades.f impl_PostTrades.v
  rw [sTrades xs (by omega) (by omega)]
  simp only [Option.bind_some]
  by_cases h : impl_ValidTrades.v xs = true
  · rw [if_pos h, if_pos h]
    exact sPostTr_l h xs.length k 0 [] (by omega) (by omega) rfl
  · rw [if_neg h, if_neg h]
theorem postLen (xs : List S41) : (impl_PostTrades.v xs).length ≤ xs.length ∧ (impl_PostTrades.v xs).length ≤ 16 := by
  unfold impl_PostTrades.v
  by_cases h : impl_ValidTrades.v xs = true
  · rw [if_pos h, List.length_map]
    exact ⟨Nat.le_refl _, (impl_PostTrades.trade_of h).1⟩
  · rw [if_neg h]
    simp

theorem rd27 (xs : List S43) {i : Nat} (h : i < xs.length) : rd_T43 xs (i : Int) = xs[i] := by
  unfold rd_T43
  rw [List.getD_eq_getElem?_getD, Int.toNat_natCast, List.getElem?_eq_getElem h]
  rfl

theorem equalPosts_l (xs : List S43) (hn : xs.length ≤ 4611686018427387904) (d : Nat) : ∀ (k i : Nat), i + d = xs.length → d < k → laws_equalPosts.l0 k xs xs (i : Int) = some true := by
  induction d with
  | zero =>
    intro k i hi hk
    obtain ⟨k, rfl⟩ : ∃ m, k = m + 1 := ⟨k - 1, by omega⟩
    simp only [laws_equalPosts.l0]
    rw [if_neg (by omega)]
  | succ d ih =>
    intro k i hi hk
    obtain ⟨k, rfl⟩ : ∃ m, k = m + 1 := ⟨k - 1, by omega⟩
    have hlt : i < xs.length := by omega
    simp only [laws_equalPosts.l0]
    rw [if_pos (by omega), if_pos (by omega), if_pos (by omega), if_neg (by simp), step1 hlt hn, ih k (i + 1) (by omega) (by omega)]
theorem equalPosts (xs : List S43) (hn : xs.length ≤ 4611686018427387904) {k : Nat} (hk : xs.length < k) : laws_equalPosts.f k xs xs = some true := by
  unfold laws_equalPosts.f
  rw [if_pos rfl]
  exact equalPosts_l xs hn xs.length k 0 (by omega) (by omega)

/-- How many bonds lots have; what they cost. -/
def manyL : List S31 → Int
  | [] => 0
  | p :: ls => p.f0 + manyL ls
def worthL : List S31 → Int
  | [] => 0
  | p :: ls => p.f0 * p.f1 + worthL ls
theorem manyL_append (a b : List S31) : manyL (a ++ b) = manyL a + manyL b := by
  induction a with
  | nil => simp [manyL]
  | cons p a ih => simp only [List.cons_append, manyL, ih]; omega
theorem worthL_append (a b : List S31) : worthL (a ++ b) = worthL a + worthL b := by
  induction a with
  | nil => simp [worthL]
  | cons p a ih => simp only [List.cons_append, worthL, ih]; omega
theorem close_sum (pr : Int) : ∀ (ls : List S31) (m g : Int), manyL (impl_queueOf.close pr ls m g).1 + (impl_queueOf.close pr ls m g).2.1 = manyL ls + m ∧ (impl_queueOf.close pr ls m g).2.2 - worthL (impl_queueOf.close pr ls m g).1 - (impl_queueOf.close pr ls m g).2.1 * pr = g - worthL ls - m * pr
  | [], m, g => ⟨rfl, rfl⟩
  | p :: ls, m, g => by
    unfold impl_queueOf.close
    by_cases c1 : m = 0 ∨ (0 < p.f0 ↔ 0 < m)
    · rw [if_pos c1]
      exact ⟨rfl, rfl⟩
    · rw [if_neg c1]
      by_cases c2 : (0 < m ∧ 0 ≤ m + p.f0) ∨ (m < 0 ∧ m + p.f0 ≤ 0)
      · rw [if_pos c2]
        have ih := close_sum pr ls (m + p.f0) (g + p.f0 * (pr - p.f1))
        simp only [manyL, worthL]
        refine ⟨by omega, ?_⟩
        rw [ih.2, Int.mul_sub, Int.add_mul]
        omega
      · rw [if_neg c2]
        simp only [manyL, worthL]
        refine ⟨by omega, ?_⟩
        rw [Int.mul_sub, Int.add_mul]
        omega
theorem take_sum (q : List S31 × Int) (t : S41) : manyL (impl_queueOf.take q t).1 = manyL q.1 + t.f1 ∧ (impl_queueOf.take q t).2 - worthL (impl_queueOf.take q t).1 = q.2 - worthL q.1 - t.f1 * t.f2 := by
  have h := close_sum t.f2 q.1 t.f1 q.2
  unfold impl_queueOf.take
  by_cases c : (impl_queueOf.close t.f2 q.1 t.f1 q.2).2.1 = 0
  · rw [if_pos c]
    rw [c] at h
    refine ⟨by simp only; omega, by simp only; omega⟩
  · rw [if_neg c]
    simp only [manyL_append, worthL_append, manyL, worthL]
    exact ⟨by omega, by omega⟩
def manyT : List S41 → Int
  | [] => 0
  | t :: l => t.f1 + manyT l
def worthT : List S41 → Int
  | [] => 0
  | t :: l => t.f1 * t.f2 + worthT l
theorem queue_sum (l : List S41) : ∀ q : List S31 × Int, manyL (l.foldl impl_queueOf.take q).1 = manyL q.1 + manyT l ∧ (l.foldl impl_queueOf.take q).2 - worthL (l.foldl impl_queueOf.take q).1 = q.2 - worthL q.1 - worthT l := by
  induction l with
  | nil => exact fun q => ⟨by simp [manyT], by simp [worthT]⟩
  | cons t l ih =>
    intro q
    have h1 := take_sum q t
    have h2 := ih (impl_queueOf.take q t)
    simp only [List.foldl_cons, manyT, worthT]
    exact ⟨by omega, by omega⟩
/-- All lots have one sign. -/
def Same (ls : List S31) : Prop := (∀ p ∈ ls, 0 < p.f0) ∨ (∀ p ∈ ls, p.f0 < 0)
theorem close_same (pr : Int) : ∀ (ls : List S31) (m g : Int), Same ls → Same (impl_queueOf.close pr ls m g).1 ∧ ((impl_queueOf.close pr ls m g).2.1 = 0 ∨ (0 < (impl_queueOf.close pr ls m g).2.1 ∧ ∀ p ∈ (impl_queueOf.close pr ls m g).1, 0 < p.f0) ∨ ((impl_queueOf.close pr ls m g).2.1 < 0 ∧ ∀ p ∈ (impl_queueOf.close pr ls m g).1, p.f0 < 0))
  | [], m, g, h => by
    refine ⟨h, ?_⟩
    simp only [impl_queueOf.close]
    rcases Int.lt_trichotomy m 0 with c | c | c
    · exact .inr (.inr ⟨c, fun p hp => by cases hp⟩)
    · exact .inl c
    · exact .inr (.inl ⟨c, fun p hp => by cases hp⟩)
  | p :: ls, m, g, h => by
    unfold impl_queueOf.close
    by_cases c1 : m = 0 ∨ (0 < p.f0 ↔ 0 < m)
    · rw [if_pos c1]
      refine ⟨h, ?_⟩
      by_cases c : m = 0
      · exact .inl c
      · have c2 := c1.resolve_left c
        refine .inr ?_
        rcases h with h | h
        · exact .inl ⟨c2.1 (h p List.mem_cons_self), h⟩
        · refine .inr ⟨?_, h⟩
          have := h p List.mem_cons_self
          show m < 0
          omega
    · rw [if_neg c1]
      by_cases c2 : (0 < m ∧ 0 ≤ m + p.f0) ∨ (m < 0 ∧ m + p.f0 ≤ 0)
      · rw [if_pos c2]
        exact close_same pr ls (m + p.f0) _ (h.imp (fun h q hq => h q (List.mem_cons_of_mem _ hq)) (fun h q hq => h q (List.mem_cons_of_mem _ hq)))
      · rw [if_neg c2]
        refine ⟨?_, .inl rfl⟩
        rcases h with h | h
        · refine .inl (fun q hq => ?_)
          rcases List.mem_cons.1 hq with rfl | hq
          · have := h p List.mem_cons_self
            simp only; omega
          · exact h q (List.mem_cons_of_mem _ hq)
        · refine .inr (fun q hq => ?_)
          rcases List.mem_cons.1 hq with rfl | hq
          · have := h p List.mem_cons_self
            simp only; omega
          · exact h q (List.mem_cons_of_mem _ hq)
theorem take_same {q : List S31 × Int} (h : Same q.1) (t : S41) : Same (impl_queueOf.take q t).1 := by
  have hc := close_same t.f2 q.1 t.f1 q.2 h
  unfold impl_queueOf.take
  by_cases c : (impl_queueOf.close t.f2 q.1 t.f1 q.2).2.1 = 0
  · rw [if_pos c]
    exact hc.1
  · rw [if_neg c]
    rcases hc.2.resolve_left c with ⟨h1, h2⟩ | ⟨h1, h2⟩
    · refine .inl (fun p hp => ?_)
      rcases List.mem_append.1 hp with hp | hp
      · exact h2 p hp
      · rw [List.mem_singleton.1 hp]; exact h1
    · refine .inr (fun p hp => ?_)
      rcases List.mem_append.1 hp with hp | hp
      · exact h2 p hp
      · rw [List.mem_singleton.1 hp]; exact h1
theorem queue_same (l : List S41) : ∀ q : List S31 × Int, Same q.1 → Same (l.foldl impl_queueOf.take q).1 := by
  induction l with
  | nil => exact fun q h => h
  | cons t l ih => exact fun q h => ih (impl_queueOf.take q t) (take_same h t)
/-- Lots as trades. -/
def asTrade (d : Int) (p : S31) : S41 := ⟨d, p.f0, p.f1⟩
theorem same_app {a : List S31} {p : S31} {b : List S31} (h : Same (a ++ p :: b)) (g : Int) (h0 : p.f0 ≠ 0) (d : Int) : impl_queueOf.take (a, g) (asTrade d p) = (a ++ [p], g) := by
  have hc : impl_queueOf.close p.f1 a p.f0 g = (a, p.f0, g) := by
    cases a with
    | nil => rfl
    | cons r a =>
      unfold impl_queueOf.close
      rw [if_pos]
      refine .inr ?_
      have hr : r ∈ (r :: a) ++ p :: b := List.mem_append_left _ List.mem_cons_self
      have hp : p ∈ (r :: a) ++ p :: b := List.mem_append_right _ List.mem_cons_self
      rcases h with h | h
      · have := h r hr
        have := h p hp
        omega
      · have := h r hr
        have := h p hp
        omega
  unfold impl_queueOf.take asTrade
  simp only [hc]
  rw [if_neg h0]
theorem again (d : Int) (b : List S31) : ∀ (a : List S31) (g : Int), Same (a ++ b) → (∀ p ∈ b, p.f0 ≠ 0) → (b.map (asTrade d)).foldl impl_queueOf.take (a, g) = (a ++ b, g) := by
  induction b with
  | nil => intro a g _ _; simp
  | cons p b ih =>
    intro a g h h0
    simp only [List.map_cons, List.foldl_cons]
    rw [same_app h g (h0 p List.mem_cons_self) d, ih (a ++ [p]) g (by simpa using h) (fun q hq => h0 q (List.mem_cons_of_mem _ hq))]
    simp
theorem many_sign {ls : List S31} : ((∀ p ∈ ls, 0 < p.f0) → 0 ≤ manyL ls) ∧ ((∀ p ∈ ls, p.f0 < 0) → manyL ls ≤ 0) := by
  induction ls with
  | nil => exact ⟨fun _ => by simp [manyL], fun _ => by simp [manyL]⟩
  | cons p ls ih =>
    simp only [manyL]
    refine ⟨fun h => ?_, fun h => ?_⟩
    · have := ih.1 (fun q hq => h q (List.mem_cons_of_mem _ hq))
      have := h p List.mem_cons_self
      omega
    · have := ih.2 (fun q hq => h q (List.mem_cons_of_mem _ hq))
      have := h p List.mem_cons_self
      omega
theorem close_all (pr : Int) : ∀ (ls : List S31) (g : Int), Same ls → (impl_queueOf.close pr ls (-(manyL ls)) g).1 = [] ∧ (impl_queueOf.close pr ls (-(manyL ls)) g).2.1 = 0
  | [], g, _ => ⟨rfl, rfl⟩
  | p :: ls, g, h => by
    have hs : Same ls := h.imp (fun h q hq => h q (List.mem_cons_of_mem _ hq)) (fun h q hq => h q (List.mem_cons_of_mem _ hq))
    have ih := close_all pr ls (g + p.f0 * (pr - p.f1)) hs
    have e : -(manyL (p :: ls)) + p.f0 = -(manyL ls) := by simp only [manyL]; omega
    unfold impl_queueOf.close
    have hsgn : (0 < p.f0 ∧ 0 ≤ manyL ls) ∨ (p.f0 < 0 ∧ manyL ls ≤ 0) := by
      rcases h with h | h
      · exact .inl ⟨h p List.mem_cons_self, many_sign.1 (fun q hq => h q (List.mem_cons_of_mem _ hq))⟩
      · exact .inr ⟨h p List.mem_cons_self, many_sign.2 (fun q hq => h q (List.mem_cons_of_mem _ hq))⟩
    rw [if_neg (by simp only [manyL]; omega), if_pos (by simp only [manyL]; omega), e]
    exact ih
theorem take_all (ls : List S31) (g d pr : Int) (h : Same ls) : (impl_queueOf.take (ls, g) ⟨d, -(manyL ls), pr⟩).1 = [] := by
  have hc := close_all pr ls g h
  unfold impl_queueOf.take
  simp only
  rw [if_pos hc.2]
  exact hc.1
theorem close_flat (pr : Int) : ∀ (ls : List S31) (m g : Int), (∀ p ∈ ls, p.f1 = pr) → (∀ p ∈ (impl_queueOf.close pr ls m g).1, p.f1 = pr) ∧ (impl_queueOf.close pr ls m g).2.2 = g
  | [], m, g, h => ⟨h, rfl⟩
  | p :: ls, m, g, h => by
    have hp := h p List.mem_cons_self
    have hz : pr - p.f1 = 0 := by omega
    unfold impl_queueOf.close
    by_cases c1 : m = 0 ∨ (0 < p.f0 ↔ 0 < m)
    · rw [if_pos c1]
      exact ⟨h, rfl⟩
    · rw [if_neg c1]
      by_cases c2 : (0 < m ∧ 0 ≤ m + p.f0) ∨ (m < 0 ∧ m + p.f0 ≤ 0)
      · rw [if_pos c2, hz, Int.mul_zero, Int.add_zero]
        exact close_flat pr ls (m + p.f0) g (fun q hq => h q (List.mem_cons_of_mem _ hq))
      · rw [if_neg c2, hz, Int.mul_zero, Int.sub_zero]
        refine ⟨fun q hq => ?_, rfl⟩
        rcases List.mem_cons.1 hq with rfl | hq
        · exact hp
        · exact h q (List.mem_cons_of_mem _ hq)
theorem flat (pr : Int) (l : List S41) : ∀ q : List S31 × Int, (∀ t ∈ l, t.f2 = pr) → (∀ p ∈ q.1, p.f1 = pr) → (l.foldl impl_queueOf.take q).2 = q.2 := by
  induction l with
  | nil => exact fun q _ _ => rfl
  | cons t l ih =>
    intro q hl hq
    have ht := hl t List.mem_cons_self
    have hc := close_flat pr q.1 t.f1 q.2 hq
    simp only [List.foldl_cons]
    rw [ih (impl_queueOf.take q t) (fun x hx => hl x (List.mem_cons_of_mem _ hx))]
    · unfold impl_queueOf.take
      rw [ht]
      exact hc.2
    · unfold impl_queueOf.take
      rw [ht]
      intro p hp
      by_cases c : (impl_queueOf.close pr q.1 t.f1 q.2).2.1 = 0
      · simp only at hp
        rw [if_pos c] at hp
        exact hc.1 p hp
      · simp only at hp
        rw [if_neg c] at hp
        rcases List.mem_append.1 hp with hp | hp
        · exact hc.1 p hp
        · rw [List.mem_singleton.1 hp]

theorem rdL0 (p : S31) (l : List S31) : rd_T31 (p :: l) 0 = p := rfl
theorem rdL (xs : List S31) {i : Nat} (h : i < xs.length) : rd_T31 xs (i : Int) = xs[i] := by
  unfold rd_T31
  rw [List.getD_eq_getElem?_getD, Int.toNat_natCast, List.getElem?_eq_getElem h]
  rfl

theorem lot_ok (xs : List S41) : (∀ p ∈ (impl_queueOf.v xs).1, impl_queueOf.okL p = true) ∧ Same (impl_queueOf.v xs).1 ∧ (impl_queueOf.v xs).1.length ≤ xs.length := by
  unfold impl_queueOf.v
  by_cases h : impl_ValidTrades.v xs = true
  · rw [if_pos h]
    have ht := impl_queueOf.trade_of h
    have hq := impl_queueOf.queue_ok xs ht.2 ([], 0) (fun p hp => by cases hp)
    exact ⟨hq.1, queue_same xs ([], 0) (.inl (fun p hp => by cases hp)), by have := hq.2.1; simp only [List.length_nil, Nat.zero_add] at this; exact this⟩
  · rw [if_neg h]
    exact ⟨(fun p hp => by cases hp), .inl (fun p hp => by cases hp), by simp⟩
theorem lot_v {xs : List S41} (h : (impl_queueOf.v xs).1.length ≠ 0) : impl_ValidTrades.v xs = true := by
  unfold impl_queueOf.v at h
  by_cases hv : impl_ValidTrades.v xs = true
  · exact hv
  · rw [if_neg hv] at h
    exact absurd rfl h
theorem iLotsV {xs : List S41} (h : impl_ValidTrades.v xs = true) : impl_queueOf.v xs = xs.foldl impl_queueOf.take ([], 0) := if_pos h
theorem many_bd {ls : List S31} (h : ∀ p ∈ ls, impl_queueOf.okL p = true) : -(9999 * (ls.length : Int)) ≤ manyL ls ∧ manyL ls ≤ 9999 * (ls.length : Int) := by
  induction ls with
  | nil => exact ⟨by simp [manyL], by simp [manyL]⟩
  | cons p ls ih =>
    have h1 := ih (fun q hq => h q (List.mem_cons_of_mem _ hq))
    have h2 := impl_queueOf.okL_of (h p List.mem_cons_self)
    simp only [manyL, List.length_cons]
    omega
theorem prod2_bd {a b : Int} (ha : -9999 ≤ a ∧ a ≤ 9999) (hb : 1 ≤ b ∧ b ≤ 50000) : -499950000 ≤ a * b ∧ a * b ≤ 499950000 := by
  have h1 : (a * b).natAbs = a.natAbs * b.natAbs := Int.natAbs_mul a b
  have h2 : a.natAbs * b.natAbs ≤ 9999 * 50000 := Nat.mul_le_mul (by omega) (by omega)
  omega
theorem worth_bd {ls : List S31} (h : ∀ p ∈ ls, impl_queueOf.okL p = true) : -(499950000 * (ls.length : Int)) ≤ worthL ls ∧ worthL ls ≤ 499950000 * (ls.length : Int) := by
  induction ls with
  | nil => exact ⟨by simp [worthL], by simp [worthL]⟩
  | cons p ls ih =>
    have h1 := ih (fun q hq => h q (List.mem_cons_of_mem _ hq))
    have h2 := impl_queueOf.okL_of (h p List.mem_cons_self)
    have h3 := prod2_bd h2.1 h2.2.2
    simp only [worthL, List.length_cons]
    omega
theorem many_snoc (ls : List S31) {i : Nat} (h : i < ls.length) : manyL (ls.take (i + 1)) = manyL (ls.take i) + ls[i].f0 := by
  rw [List.take_succ_eq_append_getElem h, manyL_append]
  simp [manyL]
theorem worth_snoc (ls : List S31) {i : Nat} (h : i < ls.length) : worthL (ls.take (i + 1)) = worthL (ls.take i) + ls[i].f0 * ls[i].f1 := by
  rw [List.take_succ_eq_append_getElem h, worthL_append]
  simp [worthL]
theorem manyT_append (a b : List S41) : manyT (a ++ b) = manyT a + manyT b := by
  induction a with
  | nil => simp [manyT]
  | cons p a ih => simp only [List.cons_append, manyT, ih]; omega
theorem worthT_append (a b : List S41) : worthT (a ++ b) = worthT a + worthT b := by
  induction a with
  | nil => simp [worthT]
  | cons p a ih => simp only [List.cons_append, worthT, ih]; omega
theorem worthT_snoc (ls : List S41) {i : Nat} (h : i < ls.length) : worthT (ls.take (i + 1)) = worthT (ls.take i) + ls[i].f1 * ls[i].f2 := by
  rw [List.take_succ_eq_append_getElem h, worthT_append]
  simp [worthT]
theorem worthT_bd {ls : List S41} (h : ∀ t ∈ ls, (-9999 ≤ t.f1 ∧ t.f1 ≤ 9999) ∧ 1 ≤ t.f2 ∧ t.f2 ≤ 50000) : -(499950000 * (ls.length : Int)) ≤ worthT ls ∧ worthT ls ≤ 499950000 * (ls.length : Int) := by
  induction ls with
  | nil => exact ⟨by simp [worthT], by simp [worthT]⟩
  | cons p ls ih =>
    have h1 := ih (fun q hq => h q (List.mem_cons_of_mem _ hq))
    have h2 := h p List.mem_cons_self
    have h3 := prod2_bd h2.1 h2.2
    simp only [worthT, List.length_cons]
    omega

/-- What a valid posting is. -/
def okPost (p : S43) : Bool := decide ((0 ≤ p.f0 ∧ p.f0 ≤ 5) ∧ (0 ≤ p.f1 ∧ p.f1 ≤ 5) ∧ p.f0 ≠ p.f1 ∧ 1 ≤ p.f2 ∧ p.f2 ≤ 1000000000)
def vPosts (xs : List S43) : Bool := decide (xs.length ≤ 40) && xs.all okPost

theorem okSame : impl_BalanceOf.okPost = okPost := rfl
/-- A balance, of whatever postings. -/
def balV (xs : List S43) (a : Int) : Int := if vPosts xs = true then impl_BalanceOf.bal xs a else 0
theorem vPosts_of {xs : List S43} (h : vPosts xs = true) : xs.length ≤ 40 ∧ ∀ p ∈ xs, okPost p = true := by
  unfold vPosts at h
  simp only [Bool.and_eq_true, decide_eq_true_eq, List.all_eq_true] at h
  exact h
theorem ok_of {p : S43} (h : okPost p = true) : (0 ≤ p.f0 ∧ p.f0 ≤ 5) ∧ (0 ≤ p.f1 ∧ p.f1 ≤ 5) ∧ p.f0 ≠ p.f1 ∧ 1 ≤ p.f2 ∧ p.f2 ≤ 1000000000 := of_decide_eq_true h
theorem bal_bd {xs : List S43} (h : vPosts xs = true) (a : Int) (i : Nat) (hi : i ≤ xs.length) : -(1000000000 * (i : Int)) ≤ impl_BalanceOf.bal (xs.take i) a ∧ impl_BalanceOf.bal (xs.take i) a ≤ 1000000000 * (i : Int) :=
  impl_BalanceOf.bal_bd xs (fun p hp => (vPosts_of h).2 p hp) a i hi

theorem wi (a l h : Int) : impl_within.f a l h = some (decide (l ≤ a ∧ a ≤ h)) := by
  unfold impl_within.f
  split <;> rename_i hc <;> simp <;> omega

theorem iAcc (n : Int) : impl_accountValid.f n = some (decide (0 ≤ n ∧ n ≤ 5)) := by
  unfold impl_accountValid.f
  rw [wi]
  rfl

theorem iPosts_l (xs : List S43) (hn : xs.length ≤ 4611686018427387904) (d : Nat) : ∀ (k i : Nat), i + d = xs.length → d < k → impl_ValidPosts.l0 k xs (xs.length : Int) (i : Int) = some ((xs.drop i).all okPost) := by
  induction d with
  | zero =>
    intro k i hi hk
    obtain ⟨k, rfl⟩ : ∃ m, k = m + 1 := ⟨k - 1, by omega⟩
    simp only [impl_ValidPosts.l0]
    rw [if_neg (by omega), List.drop_eq_nil_of_le (by omega)]
    rfl
  | succ d ih =>
    intro k i hi hk
    obtain ⟨k, rfl⟩ : ∃ m, k = m + 1 := ⟨k - 1, by omega⟩
    have hlt : i < xs.length := by omega
    simp only [impl_ValidPosts.l0]
    rw [if_pos (by omega), if_pos (by omega), if_pos (by omega), rd27 xs hlt, List.drop_eq_getElem_cons hlt, step1 hlt hn, ih k (i + 1) (by omega) (by omega), iAcc, iAcc, wi]
    simp only [Option.bind_some, List.all_cons, decide_eq_true_eq]
    generalize xs[i] = p
    have e : okPost p = decide ((0 ≤ p.f0 ∧ p.f0 ≤ 5) ∧ (0 ≤ p.f1 ∧ p.f1 ≤ 5) ∧ p.f0 ≠ p.f1 ∧ 1 ≤ p.f2 ∧ p.f2 ≤ 1000000000) := rfl
    by_cases h1 : 0 ≤ p.f0 ∧ p.f0 ≤ 5
    · by_cases h2 : 0 ≤ p.f1 ∧ p.f1 ≤ 5
      · by_cases h3 : p.f0 = p.f1
        · rw [if_pos h1, if_pos h2, if_pos h3, e.trans (decide_eq_false (fun h => h.2.2.1 h3))]
          rfl
        · by_cases h4 : 1 ≤ p.f2 ∧ p.f2 ≤ 1000000000
          · rw [if_pos h1, if_pos h2, if_neg h3, if_pos h4, e.trans (decide_eq_true ⟨h1, h2, h3, h4⟩)]
            rfl
          · rw [if_pos h1, if_pos h2, if_neg h3, if_neg h4, e.trans (decide_eq_false (fun h => h4 h.2.2.2))]
            rfl
      · rw [if_pos h1, if_neg h2, e.trans (decide_eq_false (fun h => h2 h.2.1))]
        rfl
    · rw [if_neg h1, e.trans (decide_eq_false (fun h => h1 h.1))]
      rfl
theorem iPosts (xs : List S43) {k : Nat} (hk : 41 < k) : impl_ValidPosts.f k xs = some (vPosts xs) := by
  unfold impl_ValidPosts.f vPosts
  by_cases h : (xs.length : Int) > 40
  · rw [if_pos h, decide_eq_false (by omega)]
    rfl
  · rw [if_neg h, decide_eq_true (by omega)]
    have := iPosts_l xs (by omega) xs.length k 0 (by omega) (by omega)
    simpa using this

theorem iBal (xs : List S43) (a : Int) {k : Nat} (hk : 41 < k) (ha : (Lit.int .i64 a).wf = true) : impl_BalanceOf.f k xs a = some (balV xs a) := by
  unfold impl_BalanceOf.f balV
  rw [iPosts xs hk]
  simp only [Option.bind_some]
  by_cases h : vPosts xs = true
  · have hg : impl_BalanceOf.good xs a = true := by
      unfold impl_BalanceOf.good
      rw [okSame, ha, Bool.and_true]
      exact h
    rw [if_pos h, if_pos hg, if_pos h]
  · rw [if_neg h, if_neg h]

/-- A computation that answers, and its answer is P. -/
def Gives {α : Type} (o : Option α) (P : α → Prop) : Prop := ∃ v, o = some v ∧ P v
theorem Gives.of {α : Type} {v : α} {P : α → Prop} (h : P v) : Gives (some v) P := ⟨v, rfl, h⟩
theorem Gives.bind {α β : Type} {o : Option α} {f : α → Option β} {P : α → Prop} {Q : β → Prop} (h : Gives o P) (hf : ∀ v, P v → Gives (f v) Q) : Gives (o.bind f) Q := by
  obtain ⟨v, rfl, hv⟩ := h
  exact hf v hv
theorem Gives.ite {α : Type} {c : Prop} [Decidable c] {a b : Option α} {P : α → Prop} (h1 : c → Gives a P) (h2 : ¬ c → Gives b P) : Gives (if c then a else b) P := by
  by_cases h : c
  · rw [if_pos h]
    exact h1 h
  · rw [if_neg h]
    exact h2 h
theorem Gives.pos {α : Type} {c : Prop} [Decidable c] {a b : Option α} {P : α → Prop} (hc : c) (h1 : Gives a P) : Gives (if c then a else b) P := by
  rw [if_pos hc]
  exact h1
theorem Gives.neg {α : Type} {c : Prop} [Decidable c] {a b : Option α} {P : α → Prop} (hc : ¬ c) (h1 : Gives b P) : Gives (if c then a else b) P := by
  rw [if_neg hc]
  exact h1
theorem Gives.mono {α : Type} {o : Option α} {P Q : α → Prop} (h : Gives o P) (hpq : ∀ v, P v → Q v) : Gives o Q := by
  obtain ⟨v, e, hv⟩ := h
  exact ⟨v, e, hpq v hv⟩
theorem Gives.eq {α : Type} {o : Option α} {v : α} (h : o = some v) : Gives o (fun x => x = v) := ⟨v, h, rfl⟩

/-- What a reader reads: at most 2000 bytes. -/
def Rd (b : List Int) : Prop := b.length ≤ 2000 ∧ ∀ x ∈ b, (Lit.int .u8 x).wf = true
theorem rd_byte {b : List Int} (h : Rd b) (i : Int) : 0 ≤ rd b i ∧ rd b i ≤ 255 := by
  unfold rd
  rw [List.getD_eq_getElem?_getD]
  by_cases hi : i.toNat < b.length
  · rw [List.getElem?_eq_getElem hi]
    exact bounds_u8 (h.2 _ (List.getElem_mem hi))
  · rw [List.getElem?_eq_none (by omega)]
    exact ⟨by simp, by simp⟩
theorem xor_nonneg {x y : Int} (hx : 0 ≤ x) (hx2 : x < 4611686018427387904) (hy : 0 ≤ y) (hy2 : y < 4611686018427387904) : 0 ≤ Go.bits .xor .i64 x y ∧ Go.bits .xor .i64 x y < 4611686018427387904 := by
  obtain ⟨a, rfl⟩ := Int.eq_ofNat_of_zero_le hx
  obtain ⟨b, rfl⟩ := Int.eq_ofNat_of_zero_le hy
  have ha : a < 2 ^ 62 := by omega
  have hb : b < 2 ^ 62 := by omega
  have hp : (2 : Nat) ^ 62 ≤ 2 ^ IntKind.i64.bits := Nat.pow_le_pow_right (by decide) (by decide)
  have ha' : a % 2 ^ IntKind.i64.bits = a := Nat.mod_eq_of_lt (Nat.lt_of_lt_of_le ha hp)
  have hb' : b % 2 ^ IntKind.i64.bits = b := Nat.mod_eq_of_lt (Nat.lt_of_lt_of_le hb hp)
  have hxor : a ^^^ b < 2 ^ 62 := Nat.xor_lt_two_pow ha hb
  have e : Go.bits .xor .i64 (a : Int) (b : Int) = ((a ^^^ b : Nat) : Int) := by
    simp only [Go.bits, BitVec.ofInt_natCast, BitVec.toNat_xor, BitVec.toNat_ofNat, ha', hb']
    rw [IntKind.wrap_i64]
    omega
  have e2 : (Int.ofNat a) = (a : Int) := rfl
  have e3 : (Int.ofNat b) = (b : Int) := rfl
  first | rw [e] | (rw [e2, e3, e])
  omega
theorem tmod_at {x n : Int} (hx : 0 ≤ x) (hn : 0 < n) : 0 ≤ Int.tmod x n ∧ Int.tmod x n < n := ⟨Int.tmod_nonneg n hx, Int.tmod_lt_of_pos x hn⟩
theorem tdiv_at {x n : Int} (hx : 0 ≤ x) (hn : 0 < n) : 0 ≤ Int.tdiv x n ∧ Int.tdiv x n ≤ x := by
  rw [Int.tdiv_eq_ediv_of_nonneg hx]
  exact ⟨Int.ediv_nonneg hx (by omega), Int.ediv_le_self n hx⟩

theorem pick {b : List Int} (hb : Rd b) {p n : Int} (k : Nat) (h0 : 0 ≤ p) (h1 : p ≤ 1000000) (hn : 1 ≤ n) : Gives (spec_reader_pick.f (k + 1) b p n) (fun v => (0 ≤ v.1 ∧ v.1 < n) ∧ v.2 = p + 1) := by
  unfold spec_reader_pick.f
  rw [if_neg (by omega), w64 (n := p + 1) (by omega) (by omega)]
  simp only [spec_reader_pick.j0]
  have hl := hb.1
  by_cases hz : b.length = 0
  · have : ((b.length : Int) == 0) = true := by
      rw [hz]
      rfl
    rw [if_pos this]
    exact Gives.of ⟨⟨by omega, by omega⟩, rfl⟩
  · have : ¬ ((b.length : Int) == 0) = true := by
      simp only [beq_iff_eq]
      omega
    rw [if_neg this, w64 (n := p + 1 - 1) (by omega) (by omega)]
    have e : p + 1 - 1 = p := by omega
    rw [e]
    have hlp : 0 < (b.length : Int) := by omega
    by_cases hp : p < (b.length : Int)
    · have hr := rd_byte hb p
      rw [if_pos hp, if_pos h0, if_neg (by omega), w64 (n := rd b p) (by omega) (by omega)]
      exact Gives.of ⟨tmod_at hr.1 (by omega), rfl⟩
    · have m1 := tmod_at h0 hlp
      rw [if_neg hp, if_neg (by omega), if_pos m1.1, if_pos m1.2, w64 (n := p * 7) (by omega) (by omega), w64 (n := p * 7 + 3) (by omega) (by omega)]
      have m2 := tmod_at (show 0 ≤ p * 7 + 3 by omega) hlp
      have d1 := tdiv_at h0 hlp
      rw [if_pos m2.1, if_pos m2.2, if_neg (by omega)]
      generalize Int.tmod p (b.length : Int) = i1 at *
      generalize Int.tmod (p * 7 + 3) (b.length : Int) = i2 at *
      generalize Int.tdiv p (b.length : Int) = q at *
      have r1 := rd_byte hb i1
      have r2 := rd_byte hb i2
      generalize rd b i1 = x1 at *
      generalize rd b i2 = x2 at *
      rw [w64 (n := x1) (by omega) (by omega), w64 (n := x2) (by omega) (by omega), w64 (n := x1 * 131) (by omega) (by omega), w64 (n := x2 * 1117) (by omega) (by omega), w64 (n := x1 * 131 + x2 * 1117) (by omega) (by omega),
        w64 (n := p * 29) (by omega) (by omega), w64 (n := x1 * 131 + x2 * 1117 + p * 29) (by omega) (by omega), w64 (n := q) (by omega) (by omega), w64 (n := q * 53) (by omega) (by omega), w64 (n := x1 * 131 + x2 * 1117 + p * 29 + q * 53) (by omega) (by omega)]
      have hy : 0 ≤ x1 * 131 + x2 * 1117 + p * 29 + q * 53 ∧ x1 * 131 + x2 * 1117 + p * 29 + q * 53 < 1000000000 := by omega
      generalize x1 * 131 + x2 * 1117 + p * 29 + q * 53 = y at *
      have d2 := tdiv_at hy.1 (show (0 : Int) < 64 by omega)
      rw [w64 (n := Int.tdiv y 64) (by omega) (by omega)]
      have hx := xor_nonneg hy.1 (by omega) d2.1 (by omega)
      exact Gives.of ⟨tmod_at hx.1 (by omega), rfl⟩

theorem rd_mem {l : List Int} {i : Int} (h0 : 0 ≤ i) (h1 : i < (l.length : Int)) : rd l i ∈ l := by
  unfold rd
  have hi : i.toNat < l.length := by omega
  rw [List.getD_eq_getElem?_getD, List.getElem?_eq_getElem hi]
  exact List.getElem_mem hi
theorem one {b : List Int} (hb : Rd b) {p : Int} (k : Nat) {l : List Int} (h0 : 0 ≤ p) (h1 : p ≤ 1000000) (hl : 1 ≤ l.length) : Gives (spec_reader_one.f (k + 1) b p l) (fun v => v.1 ∈ l ∧ v.2 = p + 1) := by
  unfold spec_reader_one.f
  refine Gives.bind (pick hb k h0 h1 (by omega)) (fun v hv => ?_)
  rw [if_pos hv.1.1, if_pos hv.1.2]
  exact Gives.of ⟨rd_mem hv.1.1 hv.1.2, hv.2⟩

theorem anyTrades_j {b : List Int} (hb : Rd b) (k : Nat) {p : Int} (h0 : 0 ≤ p) (h1 : p ≤ 800000) (xs : List S41) (c : Bool) (hc : c = true → 1 ≤ xs.length) (hl : xs.length ≤ 17) :
    Gives (spec_anyTrades.j1 (k + 2) xs c b p) (fun v => v.1.length ≤ 17 ∧ 0 ≤ v.2 ∧ v.2 ≤ p + 4) := by
  simp only [spec_anyTrades.j1]
  refine Gives.ite (fun h => ?_) (fun _ => Gives.of ⟨hl, h0, show p ≤ p + 4 by omega⟩)
  have hx := hc h
  refine Gives.bind (pick hb k h0 (by omega) (by omega)) (fun v1 g1 => ?_)
  refine Gives.bind (one hb k (by omega) (by omega) (by decide)) (fun v2 g2 => ?_)
  refine Gives.bind (one hb k (by omega) (by omega) (by decide)) (fun v3 g3 => ?_)
  refine Gives.bind (one hb k (by omega) (by omega) (by decide)) (fun v4 g4 => ?_)
  rw [if_pos g1.1.1, if_pos g1.1.2]
  exact Gives.of ⟨by simpa using hl, show 0 ≤ v4.2 by omega, show v4.2 ≤ p + 4 by omega⟩
theorem anyTrades_l {b : List Int} (hb : Rd b) (d : Nat) : ∀ (k : Nat) (p n day : Int) (xs : List S41), n = d → d + 4 < k → 0 ≤ p → p + 3 * n ≤ 700000 → xs.length + d ≤ 17 →
    Gives (spec_anyTrades.l0 k xs day n b p) (fun v => v.1.length ≤ 17 ∧ 0 ≤ v.2 ∧ v.2 ≤ p + 3 * n + 5) := by
  induction d with
  | zero =>
    intro k p n day xs hn hk h0 h1 hl
    obtain ⟨k, rfl⟩ : ∃ m, k = m + 4 := ⟨k - 4, by omega⟩
    simp only [spec_anyTrades.l0]
    rw [if_neg (by omega)]
    refine Gives.ite (fun hx => ?_) (fun _ => ?_)
    · refine Gives.bind (pick hb _ h0 (by omega) (by omega)) (fun v1 g1 => ?_)
      exact (anyTrades_j hb (k + 1) (by omega) (by omega) xs _ (fun _ => by omega) (by omega)).mono (fun v g => ⟨g.1, g.2.1, by omega⟩)
    · exact (anyTrades_j hb (k + 1) h0 (by omega) xs false (fun h => by cases h) (by omega)).mono (fun v g => ⟨g.1, g.2.1, by omega⟩)
  | succ d ih =>
    intro k p n day xs hn hk h0 h1 hl
    obtain ⟨k, rfl⟩ : ∃ m, k = m + 2 := ⟨k - 2, by omega⟩
    simp only [spec_anyTrades.l0]
    rw [if_pos (by omega)]
    refine Gives.bind (one hb k h0 (by omega) (by decide)) (fun v1 g1 => ?_)
    refine Gives.bind (pick hb k (by omega) (by omega) (by omega)) (fun v2 g2 => ?_)
    rw [if_pos (by omega)]
    refine Gives.bind (pick hb k (by omega) (by omega) (by omega)) (fun v3 g3 => ?_)
    rw [w64 (n := n - 1) (by omega) (by omega)]
    refine (ih (k + 1) v3.2 (n - 1) _ _ (by omega) (by omega) (by omega) (by omega) ?_).mono (fun v g => ⟨g.1, g.2.1, by omega⟩)
    rw [List.length_append, List.length_singleton]
    omega
theorem anyTrades {b : List Int} (hb : Rd b) {k : Nat} (hk : 60 < k) {p : Int} (h0 : 0 ≤ p) (h1 : p ≤ 100000) : Gives (spec_anyTrades.f k b p) (fun v => v.1.length ≤ 17 ∧ 0 ≤ v.2 ∧ v.2 ≤ p + 200) := by
  obtain ⟨k, rfl⟩ : ∃ m, k = m + 1 := ⟨k - 1, by omega⟩
  unfold spec_anyTrades.f
  refine Gives.bind (pick hb k h0 (by omega) (by omega)) (fun v0 g0 => ?_)
  refine Gives.bind (one hb k (by omega) (by omega) (by decide)) (fun v1 g1 => ?_)
  have hm := g1.1
  simp only [List.mem_cons, List.not_mem_nil, or_false] at hm
  refine (anyTrades_l hb v1.1.toNat (k + 1) v1.2 v1.1 _ [] (by omega) (by omega) (by omega) (by omega) ?_).mono (fun v g => ⟨g.1, g.2.1, by omega⟩)
  rw [List.length_nil]
  omega

theorem newReader {l : List Int} (hx : ∀ x ∈ l, (Lit.int .u8 x).wf = true) : Gives (spec_newReader.f l) (fun v => Rd v.1 ∧ v.2 = 0) := by
  unfold spec_newReader.f
  by_cases h : (l.length : Int) > 2000
  · rw [if_pos h, if_pos (by omega)]
    exact Gives.of ⟨⟨by simp only [List.length_take]; omega, fun x hm => hx x (List.mem_of_mem_take hm)⟩, rfl⟩
  · rw [if_neg h]
    exact Gives.of ⟨⟨show l.length ≤ 2000 by omega, hx⟩, rfl⟩

theorem wf_one : (Lit.int .i64 1).wf = true := by decide
theorem drawPT {l : List Int} {k : Nat} (hk : 60 < k) (hx : ∀ x ∈ l, (Lit.int .u8 x).wf = true) : Gives (spec_DrawPostTrades.f k l) (fun v => v.length ≤ 17) := by
  unfold spec_DrawPostTrades.f
  refine Gives.bind (newReader hx) (fun v h => ?_)
  exact Gives.bind (anyTrades h.1 hk (by omega) (by omega)) (fun v1 g1 => Gives.of g1.1)
theorem pos_mul {a b : Int} (ha : 1 ≤ a) (hb : 1 ≤ b) : 1 ≤ a * b := by
  have : 0 < a * b := Int.mul_pos (by omega) (by omega)
  omega
theorem posts_ok {xs : List S41} (hv : impl_ValidTrades.v xs = true) : vPosts (xs.map impl_PostTrades.post) = true := by
  have ht := impl_PostTrades.trade_of hv
  have h0 := v_mem hv
  unfold vPosts
  rw [decide_eq_true (by rw [List.length_map]; omega), Bool.true_and, List.all_eq_true]
  intro p hp
  obtain ⟨t, h1, rfl⟩ := List.mem_map.1 hp
  have h2 := ht.2 t h1
  have h3 := (okT_of (h0 t h1)).2.2.1
  have h4 := impl_PostTrades.prod_bd h2.1 h2.2
  unfold impl_PostTrades.post okPost
  by_cases c : t.f1 < 0
  · rw [if_pos c]
    have := pos_mul (a := -t.f1) (b := t.f2) (by omega) h2.2.1
    exact decide_eq_true ⟨by simp, by simp, by simp, this, by simp only; omega⟩
  · rw [if_neg c]
    have := pos_mul (a := t.f1) (b := t.f2) (by omega) h2.2.1
    exact decide_eq_true ⟨by simp, by simp, by simp, this, by simp only; omega⟩
theorem bal_posts (xs : List S41) : ∀ s : Int, (xs.map impl_PostTrades.post).foldl (fun n p => n - (if p.f0 = 1 then p.f2 else 0) + (if p.f1 = 1 then p.f2 else 0)) s = s + worthT xs := by
  induction xs with
  | nil => intro s; simp [worthT]
  | cons t xs ih =>
    intro s
    simp only [List.map_cons, List.foldl_cons, worthT]
    rw [ih]
    unfold impl_PostTrades.post
    by_cases c : t.f1 < 0
    · rw [if_pos c, Int.neg_mul]
      simp
      omega
    · rw [if_neg c]
      simp
      omega
theorem l0 {xs : List S41} (hv : impl_ValidTrades.v xs = true) {ls : List S31} (hls : ls = (impl_queueOf.v xs).1) (d : Nat) : ∀ (k i : Nat), i + d = ls.length → d + 60 < k →
    laws_FnPostTrades.l0 k xs (xs.map impl_PostTrades.post) ls (worthL (ls.take i)) (i : Int) = some true := by
  have ht := impl_queueOf.trade_of hv
  have hf := lot_ok xs
  rw [← hls] at hf
  induction d with
  | zero =>
    intro k i hi hk
    obtain ⟨k, rfl⟩ : ∃ m, k = m + 1 := ⟨k - 1, by omega⟩
    have hb := worthT_bd ht.2
    have hw := worth_bd hf.1
    have hgain : (impl_queueOf.v xs).2 = -(worthT xs) + worthL ls := by
      have h := (queue_sum xs ([], 0)).2
      rw [← iLotsV hv, ← hls] at h
      simp only [worthL] at h
      omega
    have hbal : balV (xs.map impl_PostTrades.post) 1 = worthT xs := by
      unfold balV
      rw [if_pos (posts_ok hv)]
      have := bal_posts xs 0
      unfold impl_BalanceOf.bal
      rw [this]
      omega
    simp only [laws_FnPostTrades.l0]
    rw [if_neg (by omega), List.take_of_length_le (by omega), iPosts (k := k) _ (by omega), posts_ok hv, iBal (k := k) _ 1 (by omega) wf_one, hbal]
    unfold impl_GainOf.f
    simp only [Option.bind_some, if_true, List.length_map]
    rw [hgain, w64 (by omega) (by omega)]
    simp only [Option.some.injEq, beq_iff_eq]
    omega
  | succ d ih =>
    intro k i hi hk
    obtain ⟨k, rfl⟩ : ∃ m, k = m + 1 := ⟨k - 1, by omega⟩
    have hlt : i < ls.length := by omega
    have hb := worth_bd (ls := ls.take (i + 1)) (fun p hp => hf.1 p (List.mem_of_mem_take hp))
    have hl : (ls.take (i + 1)).length ≤ 17 := by rw [List.length_take]; omega
    have hp := impl_queueOf.okL_of (hf.1 _ (List.getElem_mem hlt))
    have hp2 := prod2_bd hp.1 hp.2.2
    have e := worth_snoc ls hlt
    simp only [laws_FnPostTrades.l0]
    rw [if_pos (by omega), if_pos (by omega), rdL ls hlt, step1 hlt (by omega), w64 (n := ls[i].f0 * ls[i].f1) (by omega) (by omega), w64 (n := worthL (ls.take i) + ls[i].f0 * ls[i].f1) (by omega) (by omega), ← e]
    exact ih k (i + 1) (by omega) (by omega)
end FnPostTradesLaw
open FnPostTradesLaw

theorem FnPostTrades : laws_FnPostTrades.Pure := by
  intro l _ _ hx
  have hk : ∃ k, 2000 < k := ⟨2001, by omega⟩
  obtain ⟨k, hk⟩ := hk
  refine ⟨k, ?_⟩
  unfold laws_FnPostTrades.f
  by_cases hl : (l.length : Int) > 1048576
  · rw [if_pos hl]
  · rw [if_neg hl]
    obtain ⟨xs, hd, hn⟩ := drawPT (k := k) (by omega) hx
    rw [hd]
    simp only [Option.bind_some]
    have hlen := postLen xs
    rw [sPostTr xs (by omega) (by omega)]
    unfold impl_PostTrades.f
    simp only [Option.bind_some]
    obtain ⟨k, rfl⟩ : ∃ m, k = m + 1 := ⟨k - 1, by omega⟩
    rw [equalPosts _ (by omega) (by omega)]
    simp only [Option.bind_some, if_true, laws_FnPostTrades.j0]
    rw [sPostTr xs (by omega) (by omega)]
    simp only [Option.bind_some]
    rw [equalPosts _ (by omega) (by omega)]
    by_cases c : (((impl_PostTrades.v xs).length : Int) == 0) = true
    · rw [if_pos c]
      rfl
    · rw [if_neg c]
      have hv : impl_ValidTrades.v xs = true := by
        by_cases hv : impl_ValidTrades.v xs = true
        · exact hv
        · exfalso
          apply c
          unfold impl_PostTrades.v
          rw [if_neg hv]
          rfl
      unfold impl_LotsOf.f
      simp only [Option.bind_some]
      have e : impl_PostTrades.v xs = xs.map impl_PostTrades.post := if_pos hv
      have hl16 := impl_queueOf.len16 xs
      rw [e]
      exact FnPostTradesLaw.l0 hv rfl (impl_queueOf.v xs).1.length k 0 (by omega) (by omega)

end Go.Proofs.Ytdlldaclidgniaa.Pure

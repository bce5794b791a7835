/- What the printed functions of FnRateAt compute is true at every input. Conditions: none beyond the arguments' kinds. -/
import Derived.Test.YtobkncpmkiaggabPFnRateAtx2
import Derived.OpenShut
namespace Go.Proofs.Ytobkncpmkiaggab.Pure
open Go.RowKit Go.Proofs.Ytobkncpmkiaggab.PFnRateAt Go.Proofs.YtobkncpmkiaggabW.PrintWords Go.Proofs.YtobkncpmkiaggabW.PrintLast Go.Proofs.YtobkncpmkiaggabW.PrintMore
set_option linter.unusedVariables false
set_option linter.unusedSimpArgs false

namespace FnRateAtLaw
theorem w64 {n : Int} (h1 : -9223372036854775808 ≤ n) (h2 : n ≤ 9223372036854775807) : wrap64 n = n := by
  unfold wrap64
  omega

theorem inR (a l h : Int) : spec_inRange.f a l h = some (decide (l ≤ a ∧ a ≤ h)) := by
  unfold spec_inRange.f
  split <;> simp only [true_and, false_and, decide_false, *]

theorem mul_bd {a b A B : Int} (h0 : 0 ≤ a) (h1 : a ≤ A) (h2 : 0 ≤ b) (h3 : b ≤ B) : 0 ≤ a * b ∧ a * b ≤ A * B :=
  ⟨Int.mul_nonneg h0 h2, Int.mul_le_mul h1 h3 h2 (by omega)⟩

/-- What a valid lattice is. -/
def vLat (s r d : Int) : Bool := decide (((1 ≤ s ∧ s ≤ 8) ∧ 0 ≤ d ∧ d ≤ 150) ∧ s * d ≤ r ∧ r ≤ 3000 - s * d)
theorem lat_of {s r d : Int} (h : vLat s r d = true) : ((1 ≤ s ∧ s ≤ 8) ∧ 0 ≤ d ∧ d ≤ 150) ∧ s * d ≤ r ∧ r ≤ 3000 - s * d := of_decide_eq_true h
theorem lat_mul {s d : Int} (h : (1 ≤ s ∧ s ≤ 8) ∧ 0 ≤ d ∧ d ≤ 150) : 0 ≤ s * d ∧ s * d ≤ 1200 := mul_bd (A := 8) (B := 150) (by omega) (by omega) (by omega) (by omega)

theorem sLat (s r d : Int) : spec_validLattice.f s r d = some (vLat s r d) := by
  unfold spec_validLattice.f vLat
  simp only [inR, Option.bind_some, decide_eq_true_eq]
  by_cases h1 : 1 ≤ s ∧ s ≤ 8
  · by_cases h2 : 0 ≤ d ∧ d ≤ 150
    · have hm := lat_mul ⟨h1, h2⟩
      rw [w64 (n := s * d) (by omega) (by omega), w64 (n := 3000 - s * d) (by omega) (by omega)]
      simp only [h1, h2, and_self, true_and, if_true]
    · simp only [h1, h2, and_self, and_false, false_and, if_true, if_false, decide_false]
  · simp only [h1, false_and, if_false, decide_false]

theorem mul_abs {a b A B : Int} (h0 : -A ≤ a) (h1 : a ≤ A) (h2 : -B ≤ b) (h3 : b ≤ B) : -(A * B) ≤ a * b ∧ a * b ≤ A * B := by
  rcases Int.le_total 0 a with ha | ha <;> rcases Int.le_total 0 b with hb | hb
  · have := mul_bd ha h1 hb h3
    omega
  · have := mul_bd ha h1 (show 0 ≤ -b by omega) (show -b ≤ B by omega)
    rw [Int.mul_neg] at this
    omega
  · have := mul_bd (show 0 ≤ -a by omega) (show -a ≤ A by omega) hb h3
    rw [Int.neg_mul] at this
    omega
  · have := mul_bd (show 0 ≤ -a by omega) (show -a ≤ A by omega) (show 0 ≤ -b by omega) (show -b ≤ B by omega)
    rw [Int.neg_mul_neg] at this
    omega

def rateAt (s r d t u : Int) : Int := if vLat s r d = true ∧ (0 ≤ t ∧ t ≤ s - 1) ∧ 0 ≤ u ∧ u ≤ t then r + d * (2 * u - t) else -1
theorem rate_mul {s r d t u : Int} (h : vLat s r d = true) (h1 : 0 ≤ t ∧ t ≤ s - 1) (h2 : 0 ≤ u ∧ u ≤ t) : -1200 ≤ d * (2 * u - t) ∧ d * (2 * u - t) ≤ 1200 := by
  have k := lat_of h
  exact mul_abs (A := 150) (B := 8) (by omega) (by omega) (by omega) (by omega)

theorem sRateAt (s r d t u : Int) : spec_RateAt.f s r d t u = some (rateAt s r d t u) := by
  unfold spec_RateAt.f rateAt
  rw [sLat]
  simp only [inR, Option.bind_some, decide_eq_true_eq]
  by_cases h : vLat s r d = true
  · have k := lat_of h
    have hm := lat_mul k.1
    rw [if_pos h, w64 (n := s - 1) (by omega) (by omega)]
    by_cases h1 : 0 ≤ t ∧ t ≤ s - 1
    · rw [if_pos h1]
      by_cases h2 : 0 ≤ u ∧ u ≤ t
      · have hb := rate_mul h h1 h2
        rw [if_pos h2, if_pos ⟨h, h1, h2⟩]
        unfold spec_rateAt.f
        simp only [Option.bind_some]
        rw [w64 (n := 2 * u) (by omega) (by omega), w64 (n := 2 * u - t) (by omega) (by omega), w64 (n := d * (2 * u - t)) (by omega) (by omega), w64 (by omega) (by omega)]
      · rw [if_neg h2, if_neg (fun k => h2 k.2.2)]
    · rw [if_neg h1, if_neg (fun k => h1 k.2.1)]
  · rw [if_neg h, if_neg (fun k => h k.1)]

theorem wi (a l h : Int) : impl_within.f a l h = some (decide (l ≤ a ∧ a ≤ h)) := by
  unfold impl_within.f
  split <;> rename_i hc <;> simp <;> omega

theorem iLat (s r d : Int) : impl_Lattice_valid.f s r d = some (vLat s r d) := by
  unfold impl_Lattice_valid.f vLat
  simp only [wi, Option.bind_some, decide_eq_true_eq]
  by_cases h1 : 1 ≤ s ∧ s ≤ 8
  · by_cases h2 : 0 ≤ d ∧ d ≤ 150
    · have hm := lat_mul ⟨h1, h2⟩
      rw [w64 (n := s * d) (by omega) (by omega), w64 (n := 3000 - s * d) (by omega) (by omega)]
      simp only [h1, h2, and_self, true_and, if_true]
    · simp only [h1, h2, and_self, and_false, false_and, if_true, if_false, decide_false]
  · simp only [h1, false_and, if_false, decide_false]

theorem iRateAt (s r d t u : Int) : impl_RateAt.f s r d t u = some (rateAt s r d t u) := by
  unfold impl_RateAt.f rateAt
  rw [iLat]
  simp only [wi, Option.bind_some, decide_eq_true_eq]
  by_cases h : vLat s r d = true
  · have k := lat_of h
    have hm := lat_mul k.1
    rw [if_pos h, w64 (n := s - 1) (by omega) (by omega)]
    by_cases h1 : 0 ≤ t ∧ t ≤ s - 1
    · rw [if_pos h1]
      by_cases h2 : 0 ≤ u ∧ u ≤ t
      · have hb := rate_mul h h1 h2
        rw [if_pos h2, if_pos ⟨h, h1, h2⟩]
        unfold impl_Lattice_rate.f
        simp only [Option.bind_some]
        rw [w64 (n := 2 * u) (by omega) (by omega), w64 (n := 2 * u - t) (by omega) (by omega), w64 (n := d * (2 * u - t)) (by omega) (by omega), w64 (by omega) (by omega)]
      · rw [if_neg h2, if_neg (fun k => h2 k.2.2)]
    · rw [if_neg h1, if_neg (fun k => h1 k.2.1)]
  · rw [if_neg h, if_neg (fun k => h k.1)]

/-- A computation that answers, and its answer is P. -/
def Gives {α : Type} (o : Option α) (P : α → Prop) : Prop := ∃ v, o = some v ∧ P v
theorem Gives.of {α : Type} {v : α} {P : α → Prop} (h : P v) : Gives (some v) P := ⟨v, rfl, h⟩
theorem Gives.bind {α β : Type} {o : Option α} {f : α → Option β} {P : α → Prop} {Q : β → Prop} (h : Gives o P) (hf : ∀ v, P v → Gives (f v) Q) : Gives (o.bind f) Q := by
  obtain ⟨v, rfl, hv⟩ := h
  exact hf v hv
theorem Gives.ite {α : Type} {c : Prop} [Decidable c] {a b : Option α} {P : α → Prop} (h1 : c → Gives a P) (h2 : ¬ c → Gives b P) : Gives (if c then a else b) P := by
  by_cases h : c
  · rw [if_pos h]
    exact h1 h
  · rw [if_neg h]
    exact h2 h
theorem Gives.pos {α : Type} {c : Prop} [Decidable c] {a b : Option α} {P : α → Prop} (hc : c) (h1 : Gives a P) : Gives (if c then a else b) P := by
  rw [if_pos hc]
  exact h1
theorem Gives.neg {α : Type} {c : Prop} [Decidable c] {a b : Option α} {P : α → Prop} (hc : ¬ c) (h1 : Gives b P) : Gives (if c then a else b) P := by
  rw [if_neg hc]
  exact h1
theorem Gives.mono {α : Type} {o : Option α} {P Q : α → Prop} (h : Gives o P) (hpq : ∀ v, P v → Q v) : Gives o Q := by
  obtain ⟨v, e, hv⟩ := h
  exact ⟨v, e, hpq v hv⟩
theorem Gives.eq {α : Type} {o : Option α} {v : α} (h : o = some v) : Gives o (fun x => x = v) := ⟨v, h, rfl⟩

/-- What a reader reads: at most 2000 bytes. -/
def Rd (b : List Int) : Prop := b.length ≤ 2000 ∧ ∀ x ∈ b, (Lit.int .u8 x).wf = true
theorem rd_byte {b : List Int} (h : Rd b) (i : Int) : 0 ≤ rd b i ∧ rd b i ≤ 255 := by
  unfold rd
  rw [List.getD_eq_getElem?_getD]
  by_cases hi : i.toNat < b.length
  · rw [List.getElem?_eq_getElem hi]
    exact bounds_u8 (h.2 _ (List.getElem_mem hi))
  · rw [List.getElem?_eq_none (by omega)]
    exact ⟨by simp, by simp⟩
theorem xor_nonneg {x y : Int} (hx : 0 ≤ x) (hx2 : x < 4611686018427387904) (hy : 0 ≤ y) (hy2 : y < 4611686018427387904) : 0 ≤ Go.bits .xor .i64 x y ∧ Go.bits .xor .i64 x y < 4611686018427387904 := by
  obtain ⟨a, rfl⟩ := Int.eq_ofNat_of_zero_le hx
  obtain ⟨b, rfl⟩ := Int.eq_ofNat_of_zero_le hy
  have ha : a < 2 ^ 62 := by omega
  have hb : b < 2 ^ 62 := by omega
  have hp : (2 : Nat) ^ 62 ≤ 2 ^ IntKind.i64.bits := Nat.pow_le_pow_right (by decide) (by decide)
  have ha' : a % 2 ^ IntKind.i64.bits = a := Nat.mod_eq_of_lt (Nat.lt_of_lt_of_le ha hp)
  have hb' : b % 2 ^ IntKind.i64.bits = b := Nat.mod_eq_of_lt (Nat.lt_of_lt_of_le hb hp)
  have hxor : a ^^^ b < 2 ^ 62 := Nat.xor_lt_two_pow ha hb
  have e : Go.bits .xor .i64 (a : Int) (b : Int) = ((a ^^^ b : Nat) : Int) := by
    simp only [Go.bits, BitVec.ofInt_natCast, BitVec.toNat_xor, BitVec.toNat_ofNat, ha', hb']
    rw [IntKind.wrap_i64]
    omega
  have e2 : (Int.ofNat a) = (a : Int) := rfl
  have e3 : (Int.ofNat b) = (b : Int) := rfl
  first | rw [e] | (rw [e2, e3, e])
  omega
theorem tmod_at {x n : Int} (hx : 0 ≤ x) (hn : 0 < n) : 0 ≤ Int.tmod x n ∧ Int.tmod x n < n := ⟨Int.tmod_nonneg n hx, Int.tmod_lt_of_pos x hn⟩
theorem tdiv_at {x n : Int} (hx : 0 ≤ x) (hn : 0 < n) : 0 ≤ Int.tdiv x n ∧ Int.tdiv x n ≤ x := by
  rw [Int.tdiv_eq_ediv_of_nonneg hx]
  exact ⟨Int.ediv_nonneg hx (by omega), Int.ediv_le_self n hx⟩

theorem pick {b : List Int} (hb : Rd b) {p n : Int} (k : Nat) (h0 : 0 ≤ p) (h1 : p ≤ 1000000) (hn : 1 ≤ n) : Gives (spec_reader_pick.f (k + 1) b p n) (fun v => (0 ≤ v.1 ∧ v.1 < n) ∧ v.2 = p + 1) := by
  unfold spec_reader_pick.f
  rw [if_neg (by omega), w64 (n := p + 1) (by omega) (by omega)]
  simp only [spec_reader_pick.j0]
  have hl := hb.1
  by_cases hz : b.length = 0
  · have : ((b.length : Int) == 0) = true := by
      rw [hz]
      rfl
    rw [if_pos this]
    exact Gives.of ⟨⟨by omega, by omega⟩, rfl⟩
  · have : ¬ ((b.length : Int) == 0) = true := by
      simp only [beq_iff_eq]
      omega
    rw [if_neg this, w64 (n := p + 1 - 1) (by omega) (by omega)]
    have e : p + 1 - 1 = p := by omega
    rw [e]
    have hlp : 0 < (b.length : Int) := by omega
    by_cases hp : p < (b.length : Int)
    · have hr := rd_byte hb p
      rw [if_pos hp, if_pos h0, if_neg (by omega), w64 (n := rd b p) (by omega) (by omega)]
      exact Gives.of ⟨tmod_at hr.1 (by omega), rfl⟩
    · have m1 := tmod_at h0 hlp
      rw [if_neg hp, if_neg (by omega), if_pos m1.1, if_pos m1.2, w64 (n := p * 7) (by omega) (by omega), w64 (n := p * 7 + 3) (by omega) (by omega)]
      have m2 := tmod_at (show 0 ≤ p * 7 + 3 by omega) hlp
      have d1 := tdiv_at h0 hlp
      rw [if_pos m2.1, if_pos m2.2, if_neg (by omega)]
      generalize Int.tmod p (b.length : Int) = i1 at *
      generalize Int.tmod (p * 7 + 3) (b.length : Int) = i2 at *
      generalize Int.tdiv p (b.length : Int) = q at *
      have r1 := rd_byte hb i1
      have r2 := rd_byte hb i2
      generalize rd b i1 = x1 at *
      generalize rd b i2 = x2 at *
      rw [w64 (n := x1) (by omega) (by omega), w64 (n := x2) (by omega) (by omega), w64 (n := x1 * 131) (by omega) (by omega), w64 (n := x2 * 1117) (by omega) (by omega), w64 (n := x1 * 131 + x2 * 1117) (by omega) (by omega),
        w64 (n := p * 29) (by omega) (by omega), w64 (n := x1 * 131 + x2 * 1117 + p * 29) (by omega) (by omega), w64 (n := q) (by omega) (by omega), w64 (n := q * 53) (by omega) (by omega), w64 (n := x1 * 131 + x2 * 1117 + p * 29 + q * 53) (by omega) (by omega)]
      have hy : 0 ≤ x1 * 131 + x2 * 1117 + p * 29 + q * 53 ∧ x1 * 131 + x2 * 1117 + p * 29 + q * 53 < 1000000000 := by omega
      generalize x1 * 131 + x2 * 1117 + p * 29 + q * 53 = y at *
      have d2 := tdiv_at hy.1 (show (0 : Int) < 64 by omega)
      rw [w64 (n := Int.tdiv y 64) (by omega) (by omega)]
      have hx := xor_nonneg hy.1 (by omega) d2.1 (by omega)
      exact Gives.of ⟨tmod_at hx.1 (by omega), rfl⟩

theorem rd_mem {l : List Int} {i : Int} (h0 : 0 ≤ i) (h1 : i < (l.length : Int)) : rd l i ∈ l := by
  unfold rd
  have hi : i.toNat < l.length := by omega
  rw [List.getD_eq_getElem?_getD, List.getElem?_eq_getElem hi]
  exact List.getElem_mem hi
theorem one {b : List Int} (hb : Rd b) {p : Int} (k : Nat) {l : List Int} (h0 : 0 ≤ p) (h1 : p ≤ 1000000) (hl : 1 ≤ l.length) : Gives (spec_reader_one.f (k + 1) b p l) (fun v => v.1 ∈ l ∧ v.2 = p + 1) := by
  unfold spec_reader_one.f
  refine Gives.bind (pick hb k h0 h1 (by omega)) (fun v hv => ?_)
  rw [if_pos hv.1.1, if_pos hv.1.2]
  exact Gives.of ⟨rd_mem hv.1.1 hv.1.2, hv.2⟩

theorem anyLattice {b : List Int} (hb : Rd b) {p : Int} (k : Nat) (h0 : 0 ≤ p) (h1 : p ≤ 900000) : Gives (spec_anyLattice.f (k + 1) b p) (fun v => v.2.2.2 ≤ p + 8 ∧ 0 ≤ v.2.2.2) := by
  unfold spec_anyLattice.f
  refine Gives.bind (one hb k (by omega) (by omega) (by decide)) (fun v2 h2 => ?_)
  refine Gives.bind (one hb k (by omega) (by omega) (by decide)) (fun v3 h3 => ?_)
  refine Gives.bind (one hb k (by omega) (by omega) (by decide)) (fun v4 h4 => ?_)
  refine Gives.bind (pick hb k (by omega) (by omega) (by omega)) (fun v6 h6 => ?_)
  refine Gives.ite (fun _ => ?_) (fun _ => Gives.ite (fun _ => ?_) (fun _ => Gives.ite (fun _ => ?_) (fun _ => ?_)))
  · exact Gives.bind (one hb k (by omega) (by omega) (by decide)) (fun v7 h7 => Gives.of (show v7.2 ≤ p + 8 ∧ 0 ≤ v7.2 by omega))
  · exact Gives.bind (one hb k (by omega) (by omega) (by decide)) (fun v7 h7 => Gives.of (show v7.2 ≤ p + 8 ∧ 0 ≤ v7.2 by omega))
  · exact Gives.bind (one hb k (by omega) (by omega) (by decide)) (fun v7 h7 => Gives.of (show v7.2 ≤ p + 8 ∧ 0 ≤ v7.2 by omega))
  · exact Gives.of (show v6.2 ≤ p + 8 ∧ 0 ≤ v6.2 by omega)

theorem newReader {l : List Int} (hx : ∀ x ∈ l, (Lit.int .u8 x).wf = true) : Gives (spec_newReader.f l) (fun v => Rd v.1 ∧ v.2 = 0) := by
  unfold spec_newReader.f
  by_cases h : (l.length : Int) > 2000
  · rw [if_pos h, if_pos (by omega)]
    exact Gives.of ⟨⟨by simp only [List.length_take]; omega, fun x hm => hx x (List.mem_of_mem_take hm)⟩, rfl⟩
  · rw [if_neg h]
    exact Gives.of ⟨⟨show l.length ≤ 2000 by omega, hx⟩, rfl⟩

theorem drawRateAt {l : List Int} (hx : ∀ x ∈ l, (Lit.int .u8 x).wf = true) : Gives (spec_DrawRateAt.f 1 l) (fun _ => True) := by
  unfold spec_DrawRateAt.f
  refine Gives.bind (newReader hx) (fun v h => ?_)
  refine Gives.bind (anyLattice h.1 0 (by omega) (by omega)) (fun v1 h1 => ?_)
  refine Gives.bind (one h.1 0 (by omega) (by omega) (by simp)) (fun v2 h2 => ?_)
  exact Gives.bind (one h.1 0 (by omega) (by omega) (by simp)) (fun v2 h2 => Gives.of trivial)

end FnRateAtLaw
open FnRateAtLaw

theorem FnRateAt : laws_FnRateAt.Pure := by
  intro l _ _ hx
  refine ⟨1, ?_⟩
  unfold laws_FnRateAt.f
  by_cases hl : (l.length : Int) > 1048576
  · rw [if_pos hl]
  · rw [if_neg hl]
    obtain ⟨⟨s, r, d, t, u⟩, hd, _⟩ := drawRateAt hx
    rw [hd]
    simp only [Option.bind_some, iRateAt, sRateAt, laws_FnRateAt.j0, if_true]
    by_cases hn : rateAt s r d t u < 0
    · rw [if_pos (decide_eq_true hn)]
      simp
    · rw [if_neg (by simpa using hn)]
      by_cases hv : vLat s r d = true ∧ (0 ≤ t ∧ t ≤ s - 1) ∧ 0 ≤ u ∧ u ≤ t
      · have e : rateAt s r d t u = r + d * (2 * u - t) := by
          unfold rateAt
          rw [if_pos hv]
        obtain ⟨h1, h2, h3⟩ := hv
        have k := lat_of h1
        have hm := lat_mul k.1
        have hb := rate_mul h1 h2 h3
        have ht : 0 ≤ t * d ∧ t * d ≤ 1200 := mul_bd (A := 8) (B := 150) (by omega) (by omega) (by omega) (by omega)
        have b1 : d * (2 * u - t) ≤ d * t := Int.mul_le_mul_of_nonneg_left (by omega) (by omega)
        have b2 : d * (-t) ≤ d * (2 * u - t) := Int.mul_le_mul_of_nonneg_left (by omega) (by omega)
        rw [Int.mul_neg] at b2
        have ec : d * t = t * d := Int.mul_comm _ _
        rw [e, w64 (n := t * d) (by omega) (by omega), w64 (n := r - t * d) (by omega) (by omega), w64 (n := r + t * d) (by omega) (by omega), w64 (n := t + 2) (by omega) (by omega), w64 (n := u + 1) (by omega) (by omega)]
        rw [if_pos (by omega), if_pos (by omega)]
        by_cases hs : t + 2 ≥ s
        · rw [if_pos hs]
        · rw [if_neg hs]
          have e2 : rateAt s r d (t + 2) (u + 1) = r + d * (2 * u - t) := by
            unfold rateAt
            rw [if_pos ⟨h1, by omega, by omega⟩]
            have : 2 * (u + 1) - (t + 2) = 2 * u - t := by omega
            rw [this]
          rw [e2]
          simp
      · exfalso
        have e : rateAt s r d t u = -1 := by
          unfold rateAt
          rw [if_neg hv]
        omega

end Go.Proofs.Ytobkncpmkiaggab.Pure

/- The functions that FnSettleDay reaches, each with a proof that the call does what it says; a part of that statement's proof. Conditions: none. -/
import Derived.Test.YtgdjckehmlliaaaGFnSettleDayx0
namespace Go.Proofs.Ytgdjckehmlliaaa.PFnSettleDay
open Go.RowKit Go.Proofs.YtgdjckehmlliaaaW.PrintWords Go.Proofs.YtgdjckehmlliaaaW.PrintLast Go.Proofs.YtgdjckehmlliaaaW.PrintMore
attribute [local go_sem] max2_int min2_int max_two min_two max_three min_three max_four min_four   -- for this text's walks alone
set_option linter.unusedVariables false
set_option linter.unusedSimpArgs false

/-! ### impl_holidaysOf: function 14 -/
section
open Go.Maps
/-- Holiday i is a day, behind the one ahead of it. -/
def impl_holidaysOf.okE (l : List Int) (i : Nat) : Bool := decide (0 ≤ rd l (i : Int) ∧ rd l (i : Int) ≤ 36524) && (decide (i = 0) || decide (rd l ((i : Int) - 1) < rd l (i : Int)))
def impl_holidaysOf.okH (l : List Int) : Bool := decide (l.length ≤ 12) && (List.range l.length).all (impl_holidaysOf.okE l)
/-- Is it a business day? -/
def impl_holidaysOf.bus (h : List Int) (n : Int) : Bool := decide (n % 7 < 5) && !(h.contains n)
/-- The first business day from n on, d days before the last one. -/
def impl_holidaysOf.seekF (h : List Int) : Nat → Int → Int
  | 0, _ => -1
  | d + 1, n => if impl_holidaysOf.bus h n = true then n else impl_holidaysOf.seekF h d (n + 1)
def impl_holidaysOf.seekV (h : List Int) (n : Int) : Int := impl_holidaysOf.seekF h (36525 - n).toNat n
theorem impl_holidaysOf.seekF_bd (h : List Int) : ∀ (d : Nat) (n : Int), 0 ≤ n → n + d = 36525 → impl_holidaysOf.seekF h d n = -1 ∨ (n ≤ impl_holidaysOf.seekF h d n ∧ impl_holidaysOf.seekF h d n ≤ 36524 ∧ impl_holidaysOf.bus h (impl_holidaysOf.seekF h d n) = true) := by
  intro d
  induction d with
  | zero => exact fun n _ _ => .inl rfl
  | succ d ih =>
    intro n h0 h1
    simp only [impl_holidaysOf.seekF]
    by_cases c : impl_holidaysOf.bus h n = true
    · rw [if_pos c]
      exact .inr ⟨Int.le_refl _, by omega, c⟩
    · rw [if_neg c]
      rcases ih (n + 1) (by omega) (by omega) with h2 | h2
      · exact .inl h2
      · exact .inr ⟨by omega, h2.2⟩
theorem impl_holidaysOf.seekV_bd (h : List Int) {n : Int} (h0 : 0 ≤ n) (h1 : n ≤ 36525) : impl_holidaysOf.seekV h n = -1 ∨ (n ≤ impl_holidaysOf.seekV h n ∧ impl_holidaysOf.seekV h n ≤ 36524 ∧ impl_holidaysOf.bus h (impl_holidaysOf.seekV h n) = true) :=
  impl_holidaysOf.seekF_bd h _ n h0 (by omega)
theorem impl_holidaysOf.law3 : Keyed Try.prog 3 := int_keyed Try.underlying3
theorem impl_holidaysOf.zeroU (w : World) : (zeroValue 45).run Try.prog w = .ok (.agg #[]) w := by kernel_rfl
def impl_holidaysOf.lits (h : List Int) : List Lit := h.map (Lit.int .i64)
def impl_holidaysOf.Set (h : List Int) : DataW Unit := setOf (.agg []) (impl_holidaysOf.lits h)
theorem impl_holidaysOf.has (h : List Int) (n : Int) : Maps.has (impl_holidaysOf.Set h) (.int .i64 n) = h.contains n := by
  unfold impl_holidaysOf.Set impl_holidaysOf.lits
  rw [has_setOf _ _ _ (fun x hx => by obtain ⟨y, _, rfl⟩ := List.mem_map.1 hx; trivial)]
  induction h with
  | nil => rfl
  | cons x h ih =>
    simp only [List.map_cons, List.any_cons, List.contains_cons, ih]
    congr 1
    by_cases c : x = n
    · subst c
      simp [Lit.sameKey]
    · have : (n == x) = false := by simpa using fun e => c e.symm
      rw [this]
      simp [Lit.sameKey, c]
/-- A made map is the holidays'. -/
def impl_holidaysOf.Own (w : World) (b : Nat) (h : List Int) : Prop := ∃ n, w.ownsMap Try.prog 3 unitElem b n (impl_holidaysOf.Set h)
theorem impl_holidaysOf.Own.below {w w1 : World} {b : Nat} {h : List Int} (ho : impl_holidaysOf.Own w b h) (hb : Below w.heap.size w w1) : impl_holidaysOf.Own w1 b h := by
  obtain ⟨n, hn⟩ := ho
  exact ⟨n, hn.kept (grown_of_below hb none) (by simp)⟩
set_option maxHeartbeats 4000000 in
theorem impl_holidaysOf.within (a lo hi : Int) (w : World) : Calls Try.prog 17 #[.int .i64 a, .int .i64 lo, .int .i64 hi] w fun e w' => e = .returned (.bool (decide (lo ≤ a ∧ a ≤ hi))) ∧ ∃ n, w' = w.drewN n := by
  by_cases c : lo ≤ a
  · have e : decide (lo ≤ a ∧ a ≤ hi) = decide (a ≤ hi) := by simp [c]
    rw [e]
    have hd : decide (lo ≤ a) = true := decide_eq_true c
    clear e c
    go_enter Try.func17, Try.ntmps17
    go_wp2
    go_ret
    exact ⟨by first | rfl | (simp; done) | (simp [*]; done), by first | exact ⟨0, rfl⟩ | exact ⟨_, rfl⟩⟩
  · have e : decide (lo ≤ a ∧ a ≤ hi) = false := by simp; omega
    rw [e]
    have hd : decide (lo ≤ a) = false := decide_eq_false c
    clear e c
    go_enter Try.func17, Try.ntmps17
    go_wp2
    go_ret
    exact ⟨by first | rfl | (simp; done) | (simp [*]; done), by first | exact ⟨0, rfl⟩ | exact ⟨_, rfl⟩⟩
set_option maxHeartbeats 4000000 in
theorem impl_holidaysOf.day (a : Int) (w : World) : Calls Try.prog 15 #[.int .i64 a] w fun e w' => e = .returned (.bool (decide (0 ≤ a ∧ a ≤ 36524))) ∧ ∃ n, w' = w.drewN n := by
  have hm := impl_holidaysOf.within a 0 36524
  generalize decide (0 ≤ a ∧ a ≤ 36524) = v at hm ⊢
  go_enter Try.func15, Try.ntmps15
  go_wp2_with (go_at_call 17; refine (hm _).mono ?_; rintro e w1 ⟨rfl, n1, rfl⟩)
  go_ret
  exact ⟨rfl, n1, rfl⟩
set_option maxHeartbeats 4000000 in
theorem impl_holidaysOf.opens (b : Nat) (h : List Int) (n : Int) (w : World) (ho : impl_holidaysOf.Own w b h) (h0 : 0 ≤ n) (h1 : n ≤ 36525) :
    Calls Try.prog 16 #[.map (some b), .int .i64 n] w fun e w' => e = .returned (.bool (impl_holidaysOf.bus h n)) ∧ Below w.heap.size w w' := by
  obtain ⟨m, hown⟩ := ho
  have HOW := Aside0.mk hown
  have HH := Aside0.mk (impl_holidaysOf.has h n)
  have HK := Aside0.mk (keyOf_int_mk (P := Try.prog) (k := 3) Try.underlying3 (WalkArith.wf_i64 (n := n) (by omega)) : keyOf Try.prog 3 (.int .i64 n) = some (.int .i64 n))
  unfold impl_holidaysOf.bus
  clear hown
  generalize h.contains n = q at HH ⊢
  by_cases c : n % 7 < 5
  · have hd : decide (n % 7 < 5) = true := decide_eq_true c
    rw [hd, Bool.true_and]
    go_enter Try.func16, Try.ntmps16
    go_wp2_with (at_lookup; refine wpList_lookup_own_unit _ rfl _ _ 33 rfl 3 45 impl_holidaysOf.law3 Try.underlying33 (impl_holidaysOf.zeroU _) b m _ rfl HOW.out _ _ rfl HK.out ?_; rw [HH.out])
    go_ret
    exact ⟨by cases q <;> rfl, by repeat (first | exact (Below.refl _ _).alloc (Nat.le_refl _) _ | exact Below.refl _ _ | apply pw_below_drewN)⟩
  · have hd : decide (n % 7 < 5) = false := decide_eq_false c
    rw [hd, Bool.false_and]
    go_enter Try.func16, Try.ntmps16
    go_wp2_with (at_lookup; refine wpList_lookup_own_unit _ rfl _ _ 33 rfl 3 45 impl_holidaysOf.law3 Try.underlying33 (impl_holidaysOf.zeroU _) b m _ rfl HOW.out _ _ rfl HK.out ?_; rw [HH.out])
    go_ret
    exact ⟨rfl, by repeat (first | exact (Below.refl _ _).alloc (Nat.le_refl _) _ | exact Below.refl _ _ | apply pw_below_drewN)⟩
set_option maxHeartbeats 4000000 in
theorem impl_holidaysOf.seeks (b : Nat) (h : List Int) (n : Int) (w : World) (ho : impl_holidaysOf.Own w b h) (h0 : 0 ≤ n) (h1 : n ≤ 36525) :
    Calls Try.prog 18 #[.map (some b), .int .i64 n, .int .i64 1] w fun e w' => e = .returned (.int .i64 (impl_holidaysOf.seekV h n)) ∧ Below w.heap.size w w' := by
  have HO := Aside0.mk ho
  clear ho
  generalize hv : impl_holidaysOf.seekV h n = v
  have HV := Aside0.mk hv
  clear hv
  go_enter Try.func18, Try.ntmps18
  go_wp2
  go_loopg [1] (36525 - n).toNat (fun gg v1 wr => ∃ m : Int, v1 = .int .i64 m ∧ 0 ≤ m ∧ m ≤ 36525 ∧ (36525 - m).toNat ≤ gg ∧ Aside0 (impl_holidaysOf.seekF h (36525 - m).toNat m = v) ∧ Aside0 (Below w.heap.size w wr))
  case atStart => exact ⟨n, rfl, h0, h1, Nat.le_refl _, ⟨HV.out⟩, ⟨Below.refl _ _⟩⟩
  case round =>
    obtain ⟨m, rfl, hm0, hm1, hgg, HS, HB⟩ := hrel
    have hcall := impl_holidaysOf.day m
    by_cases c : m ≤ 36524
    · have hd1 : decide (0 ≤ m ∧ m ≤ 36524) = true := decide_eq_true ⟨hm0, c⟩
      rw [hd1] at hcall
      clear hd1
      have hop := fun w1 (hb : Below w.heap.size w w1) => impl_holidaysOf.opens b h m w1 (HO.out.below hb) hm0 hm1
      obtain ⟨d, hd⟩ : ∃ d, (36525 - m).toNat = d + 1 := ⟨(36525 - m).toNat - 1, by omega⟩
      have hs := HS.out
      rw [hd] at hs
      simp only [impl_holidaysOf.seekF] at hs
      have hd2 : (36525 - (m + 1)).toNat = d := by omega
      by_cases q : impl_holidaysOf.bus h m = true
      · rw [if_pos q] at hs
        rw [q] at hop
        have HOP := Aside0.mk hop
        have HS2 := Aside0.mk hs
        clear hop hs q hd hd2
        go_wp2_with (first | (go_at_call 15; refine (hcall _).mono ?_; rintro e w1 ⟨rfl, nd, rfl⟩) | (go_at_call 16; refine (HOP.out _ (pw_below_drewN HB.out _)).mono ?_; rintro e w2 ⟨rfl, hb2⟩; have HB2 := Aside0.mk ((pw_below_drewN HB.out nd).trans (hb2.mono (pw_below_drewN HB.out nd).size)); clear hb2))
        go_ret
        exact ⟨by first | rfl | (rw [HS2.out]; rfl) | (rw [← HS2.out]; rfl), HB2.out⟩
      · have q2 : impl_holidaysOf.bus h m = false := by simpa using q
        rw [if_neg q] at hs
        rw [q2] at hop
        have HOP := Aside0.mk hop
        have HS2 := Aside0.mk hs
        have HD := Aside0.mk hd2
        have hdl : d + 1 ≤ gk := by omega
        clear hop hs q q2 hd hd2
        go_wp2_with (first | (go_at_call 15; refine (hcall _).mono ?_; rintro e w1 ⟨rfl, nd, rfl⟩) | (go_at_call 16; refine (HOP.out _ (pw_below_drewN HB.out _)).mono ?_; rintro e w2 ⟨rfl, hb2⟩; have HB2 := Aside0.mk ((pw_below_drewN HB.out nd).trans (hb2.mono (pw_below_drewN HB.out nd).size)); clear hb2))
        go_roundg d
        case measure => omega
        case rel => exact ⟨m + 1, rfl, by omega, by omega, by rw [HD.out]; exact Nat.le_refl _, ⟨by rw [HD.out]; exact HS2.out⟩, HB2⟩
    · have hd1 : decide (0 ≤ m ∧ m ≤ 36524) = false := decide_eq_false (by omega)
      rw [hd1] at hcall
      clear hd1
      have hs := HS.out
      rw [show (36525 - m).toNat = 0 by omega] at hs
      have HS2 := Aside0.mk hs
      clear hs
      go_wp2_with (go_at_call 15; refine (hcall _).mono ?_; rintro e w1 ⟨rfl, nd, rfl⟩)
      go_ret
      exact ⟨by rw [← HS2.out]; rfl, pw_below_drewN HB.out _⟩
/-- What the call gives: the holidays' map, or none. -/
def impl_holidaysOf.Post (h : List Int) (w : World) (e : Ending) (w' : World) : Prop :=
  if impl_holidaysOf.okH h = true then e = .returned (.tuple #[.map (some w.heap.size), .bool true]) ∧ impl_holidaysOf.Own w' w.heap.size h ∧ Below w.heap.size w w' else e = .returned (.tuple #[.map none, .bool false]) ∧ Below w.heap.size w w'
/-- The head of each round. -/
def impl_holidaysOf.Rel (h : List Int) (w : World) (gg : Nat) (v13 : Value) (wr : World) : Prop :=
  ∃ n : Nat, n ≤ h.length ∧ v13 = .int .i64 n ∧ h.length - n ≤ gg ∧ (∀ j, j < n → impl_holidaysOf.okE h j = true) ∧ wr.ownsMap Try.prog 3 unitElem w.heap.size n (impl_holidaysOf.Set (h.take n)) ∧ Below w.heap.size w wr
set_option maxHeartbeats 8000000 in
set_option maxRecDepth 100000 in
theorem impl_holidaysOf.calls0 (A : Option Addr) (c : Nat) (h : List Int) (w : World) (hr : Kd.C (Kd.int .i64) w A h.length h) :
    Calls Try.prog 14 #[.slice A h.length c] w (impl_holidaysOf.Post h w) := by
  have HR := Aside0.mk hr
  clear hr
  have hno : impl_holidaysOf.okH h = false → ∀ e w', e = .returned (.tuple #[.map none, .bool false]) → Below w.heap.size w w' → impl_holidaysOf.Post h w e w' := by
    intro h1 e w' h2 h3
    unfold impl_holidaysOf.Post
    rw [if_neg (by rw [h1]; decide)]
    exact ⟨h2, h3⟩
  have hyes : impl_holidaysOf.okH h = true → ∀ w', impl_holidaysOf.Own w' w.heap.size h → Below w.heap.size w w' → impl_holidaysOf.Post h w (.returned (.tuple #[.map (some w.heap.size), .bool true])) w' := by
    intro h1 w' h2 h3
    unfold impl_holidaysOf.Post
    rw [if_pos h1]
    exact ⟨rfl, h2, h3⟩
  have hbad : ∀ n : Nat, n < h.length → impl_holidaysOf.okE h n = false → impl_holidaysOf.okH h = false := by
    intro n hn h1
    unfold impl_holidaysOf.okH
    rw [Bool.and_eq_false_iff]
    refine .inr ?_
    rw [List.all_eq_false]
    exact ⟨n, List.mem_range.2 hn, by rw [h1]; decide⟩
  have hgood : h.length ≤ 12 → (∀ j, j < h.length → impl_holidaysOf.okE h j = true) → impl_holidaysOf.okH h = true := by
    intro h1 h2
    unfold impl_holidaysOf.okH
    rw [decide_eq_true h1, Bool.true_and, List.all_eq_true]
    exact fun j hj => h2 j (List.mem_range.1 hj)
  have hlong : ¬ h.length ≤ 12 → impl_holidaysOf.okH h = false := by
    intro h1
    unfold impl_holidaysOf.okH
    rw [decide_eq_false h1]
    rfl
  generalize impl_holidaysOf.Post h w = PP at hno hyes ⊢
  have HNO := Aside0.mk hno
  have HYES := Aside0.mk hyes
  have HBAD := Aside0.mk hbad
  have HGOOD := Aside0.mk hgood
  have HLONG := Aside0.mk hlong
  clear hno hyes hbad hgood hlong
  by_cases hl : h.length ≤ 12
  · have hd : decide (12 < (h.length : Int)) = false := decide_eq_false (by omega)
    have hmm := @run_makeMap Try.prog
    go_enter Try.func14, Try.ntmps14
    go_wp2
    go_loopg [13] h.length (fun gg v13 wr => impl_holidaysOf.Rel h w gg v13 wr)
    case atStart => exact ⟨0, Nat.zero_le _, rfl, by omega, fun j hj => absurd hj (Nat.not_lt_zero j), World.ownsMap_made _ _ _ _, (Below.refl _ _).alloc (Nat.le_refl _) _⟩
    case round =>
      obtain ⟨n, hn, rfl, hgg, hall, hown, hbr⟩ := hrel
      by_cases hlt : n < h.length
      · have hltz : (n : Int) < (h.length : Int) := by omega
        obtain ⟨ad, rfl, hy0⟩ := Kd.at_int HR.out (n : Int) (by omega) (by omega)
        rw [Int.toNat_natCast] at hy0
        replace hy0 := (hbr.cell (World.block_lt_of_cell? w _ hy0)).trans hy0
        have hok : impl_holidaysOf.okE h n = (decide (0 ≤ rd h (n : Int) ∧ rd h (n : Int) ≤ 36524) && (decide (n = 0) || decide (rd h ((n : Int) - 1) < rd h (n : Int)))) := rfl
        have hpv : 0 < n → wr.cell? (ad.add (n - 1)) = some (.int .i64 (rd h ((n : Int) - 1))) := by
          intro h0
          obtain ⟨ad2, e, hy⟩ := Kd.at_int HR.out ((n : Int) - 1) (by omega) (by omega)
          have e2 : ((n : Int) - 1).toNat = n - 1 := by omega
          rw [e2] at hy
          cases e
          exact (hbr.cell (World.block_lt_of_cell? w _ hy)).trans hy
        have hset : impl_holidaysOf.Set (h.take (n + 1)) = (impl_holidaysOf.Set (h.take n)).put (.int .i64 (rd h (n : Int))) (.agg []) := by
          have e : rd h (n : Int) = h[n] := by
            unfold rd
            rw [List.getD_eq_getElem?_getD, Int.toNat_natCast, List.getElem?_eq_getElem hlt]
            rfl
          unfold impl_holidaysOf.Set impl_holidaysOf.lits
          rw [List.take_succ_eq_append_getElem hlt, List.map_append, List.map_cons, List.map_nil, setOf_snoc, e]
        have HSET := Aside0.mk hset
        have HALL := Aside0.mk hall
        have HOK := Aside0.mk hok
        have HG := Aside0.mk hgg
        have HOW := Aside0.mk hown
        have HBR := Aside0.mk hbr
        clear hall hok hgg hown hbr hset
        have hcall := impl_holidaysOf.day (rd h (n : Int))
        generalize rd h (n : Int) = x at hy0 HOK hpv hcall HSET
        generalize rd h ((n : Int) - 1) = p at HOK hpv
        by_cases h1 : 0 ≤ x ∧ x ≤ 36524
        · have hd1 : decide (0 ≤ x ∧ x ≤ 36524) = true := decide_eq_true h1
          rw [hd1] at hcall
          have HK := Aside0.mk (keyOf_int_mk (P := Try.prog) (k := 3) Try.underlying3 (WalkArith.wf_i64 (n := x) (by omega)) : keyOf Try.prog 3 (.int .i64 x) = some (.int .i64 x))
          by_cases hz : n = 0
          · subst hz
            rw [Addr.add_zero'] at hy0
            clear hpv
            have hyes : impl_holidaysOf.okE h 0 = true := by rw [HOK.out, hd1]; rfl
            have HYE := Aside0.mk hyes
            clear hyes hd1 h1
            go_wp2_with (first
              | (go_at_call 15; refine (hcall _).mono ?_; rintro e w4 ⟨rfl, nd, rfl⟩)
              | (at_mapUpdate; refine wpList_mapUpdate_own _ rfl _ _ _ 33 rfl 3 45 impl_holidaysOf.law3 Try.underlying33 _ w.heap.size 0 _ rfl HOW.out (by unfold maxLen; omega) _ _ _ rfl rfl HK.out _ [] unitElem_mk ?_; intro w5 hown5 hgrow5; have HO5 := Aside0.mk hown5; have HG5 := Aside0.mk hgrow5; clear hown5 hgrow5))
            go_roundg (h.length - 1)
            case measure => have := HG.out; omega
            case rel => exact ⟨1, by omega, by go_num, Nat.le_refl _, (fun j hj => by have e : j = 0 := (by omega); subst e; exact HYE.out), by rw [HSET.out]; exact HO5.out, (pw_below_drewN HBR.out _).grown HG5.out (pw_below_drewN HBR.out nd).size (fun k hk => by cases hk; exact Nat.le_refl _)⟩
          · have hpv2 := hpv (by omega)
            have hn0 : decide (0 < (n : Int)) = true := decide_eq_true (by omega)
            have hw1 : IntKind.i64.wrap ((n : Int) - 1) = (n : Int) - 1 := by rw [IntKind.wrap_i64]; omega
            have hw2 : ((n : Int) - 1).toNat = n - 1 := by omega
            have hw3 : (0 : Int) ≤ (n : Int) - 1 := by omega
            have hw4 : (n : Int) - 1 < (h.length : Int) := by omega
            have hw5 : (1 : Int) ≤ (n : Int) := by omega
            have hw6 : 1 ≤ n := by omega
            have hw7 : 0 < n := by omega
            clear hpv
            by_cases h2 : p < x
            · have hd2 : decide (x ≤ p) = false := decide_eq_false (by omega)
              have hyes : impl_holidaysOf.okE h n = true := by rw [HOK.out, hd1, decide_eq_true h2]; simp
              have HYE := Aside0.mk hyes
              clear hyes hd1 h1
              go_wp2_with (first
                | (go_at_call 15; refine (hcall _).mono ?_; rintro e w4 ⟨rfl, nd, rfl⟩)
                | (at_mapUpdate; refine wpList_mapUpdate_own _ rfl _ _ _ 33 rfl 3 45 impl_holidaysOf.law3 Try.underlying33 _ w.heap.size n _ rfl HOW.out (by unfold maxLen; omega) _ _ _ rfl rfl HK.out _ [] unitElem_mk ?_; intro w5 hown5 hgrow5; have HO5 := Aside0.mk hown5; have HG5 := Aside0.mk hgrow5; clear hown5 hgrow5))
              go_roundg (h.length - (n + 1))
              case measure => have := HG.out; omega
              case rel => exact ⟨n + 1, by omega, by go_num, Nat.le_refl _, (fun j hj => (Nat.lt_succ_iff_lt_or_eq.1 hj).elim (fun h => HALL.out j h) (fun h => h ▸ HYE.out)), by rw [HSET.out]; exact HO5.out, (pw_below_drewN HBR.out _).grown HG5.out (pw_below_drewN HBR.out nd).size (fun k hk => by cases hk; exact Nat.le_refl _)⟩
            · have hd2 : decide (x ≤ p) = true := decide_eq_true (by omega)
              have HB := Aside0.mk (HBAD.out n hlt (by rw [HOK.out, hd1, decide_eq_false h2, decide_eq_false hz]; rfl))
              clear hd1 h1
              go_wp2_with (go_at_call 15; refine (hcall _).mono ?_; rintro e w4 ⟨rfl, nd, rfl⟩)
              (first | go_ret2 | skip)
              exact HNO.out HB.out _ _ rfl (by repeat (first | exact HBR.out | apply pw_below_drewN))
        · have hd1 : decide (0 ≤ x ∧ x ≤ 36524) = false := decide_eq_false h1
          rw [hd1] at hcall
          have HB := Aside0.mk (HBAD.out n hlt (by rw [HOK.out, hd1]; rfl))
          clear hd1 h1 hpv
          go_wp2_with (go_at_call 15; refine (hcall _).mono ?_; rintro e w4 ⟨rfl, nd, rfl⟩)
          (first | go_ret2 | skip)
          exact HNO.out HB.out _ _ rfl (by repeat (first | exact HBR.out | apply pw_below_drewN))
      · have hltz : ¬ (n : Int) < (h.length : Int) := by omega
        obtain rfl : n = h.length := by omega
        rw [List.take_length] at hown
        have HG := Aside0.mk (HGOOD.out hl hall)
        have HOW := Aside0.mk hown
        have HBR := Aside0.mk hbr
        clear hall hown hbr hgg
        go_wp2
        (first | go_ret2 | skip)
        exact HYES.out HG.out _ ⟨_, HOW.out⟩ HBR.out
  · have hd : decide (12 < (h.length : Int)) = true := decide_eq_true (by omega)
    have HL := Aside0.mk (HLONG.out hl)
    go_enter Try.func14, Try.ntmps14
    go_wp2
    (first | go_ret2 | skip)
    exact HNO.out HL.out _ _ rfl (Below.refl _ _)
end


-- NOT PRINTED: function 16 (impl_holidays_open)

-- NOT PRINTED: function 18 (impl_holidays_seek)

/-! ### impl_AddBusiness: function 11 -/
def impl_AddBusiness.addV (h : List Int) : Nat → Int → Int
  | 0, at_ => at_
  | k + 1, at_ => if 0 ≤ at_ then impl_AddBusiness.addV h k (impl_holidaysOf.seekV h (at_ + 1)) else at_
def impl_AddBusiness.v (h : List Int) (n m : Int) : Int := if impl_holidaysOf.okH h = true ∧ (0 ≤ n ∧ n ≤ 36524) ∧ (0 ≤ m ∧ m ≤ 30) then impl_AddBusiness.addV h m.toNat (impl_holidaysOf.seekV h n) else -1
def impl_AddBusiness.f (l0 : List Int) (a1 : Int) (a2 : Int) : Option Int := some (impl_AddBusiness.v l0 a1 a2)
set_option maxHeartbeats 8000000 in
set_option maxRecDepth 100000 in
theorem impl_AddBusiness.calls (A0 : Option Addr) (c0 : Nat) (l0 : List Int) (a1 : Int) (a2 : Int) (r : Int) (w : World) (hr0 : Kd.C (Kd.int .i64) w A0 l0.length l0) (hc0 : l0.length ≤ c0) (h : impl_AddBusiness.f l0 a1 a2 = some r) :
    Calls Try.prog 11 #[.slice A0 l0.length c0, .int .i64 a1, .int .i64 a2] w fun e w' => e = .returned (.int .i64 r) ∧ Below w.heap.size w w' := by
  have HRES := Aside0.mk (Option.some.inj h)
  clear h
  have hq := impl_holidaysOf.calls0 A0 c0 l0 w hr0
  unfold impl_holidaysOf.Post at hq
  clear hr0 hc0
  have hday := impl_holidaysOf.day a1
  have hmany := impl_holidaysOf.within a2 0 30
  by_cases ho : impl_holidaysOf.okH l0 = true
  · simp only [if_pos ho] at hq
    have HQ := Aside0.mk hq
    clear hq
    by_cases hd : 0 ≤ a1 ∧ a1 ≤ 36524
    · have hd1 : decide (0 ≤ a1 ∧ a1 ≤ 36524) = true := decide_eq_true hd
      rw [hd1] at hday
      by_cases hm : 0 ≤ a2 ∧ a2 ≤ 30
      · have hm1 : decide (0 ≤ a2 ∧ a2 ≤ 30) = true := decide_eq_true hm
        rw [hm1] at hmany
        have hres : impl_AddBusiness.addV l0 a2.toNat (impl_holidaysOf.seekV l0 a1) = r := by
          rw [← HRES.out]
          exact (if_pos ⟨ho, hd, hm⟩).symm
        have HR2 := Aside0.mk hres
        clear hres ho hd1 hm1 HRES
        have hsk := fun w1 (ho : impl_holidaysOf.Own w1 w.heap.size l0) (n : Int) (h0 : 0 ≤ n) (h1 : n ≤ 36525) => impl_holidaysOf.seeks w.heap.size l0 n w1 ho h0 h1
        have HSK := Aside0.mk hsk
        clear hsk
        obtain ⟨s0, hs0⟩ : ∃ s, s = impl_holidaysOf.seekV l0 a1 := ⟨_, rfl⟩
        have hsb := impl_holidaysOf.seekV_bd l0 hd.1 (show a1 ≤ 36525 by omega)
        rw [← hs0] at hsb
        have hsb2 : -1 ≤ s0 ∧ s0 ≤ 36524 := by rcases hsb with h | h <;> omega
        have HS0 := Aside0.mk hs0
        obtain ⟨gmax, hgm⟩ : ∃ n : Nat, a2.toNat ≤ n := ⟨_, Nat.le_refl _⟩
        clear hs0 hsb
        go_enter Try.func11, Try.ntmps11
        go_wp2_with (first
          | (go_at_call 14; refine HQ.out.mono ?_; rintro e w1 ⟨rfl, hown, hb1⟩; have HOW := Aside0.mk hown; have HB1 := Aside0.mk hb1; clear hown hb1)
          | (go_at_call 15; refine (hday _).mono ?_; rintro e w2 ⟨rfl, nd, rfl⟩)
          | (go_at_call 17; refine (hmany _).mono ?_; rintro e w3 ⟨rfl, nd2, rfl⟩)
          | (go_at_call 18; refine (HSK.out _ (HOW.out.below (by repeat (first | exact Below.refl _ _ | apply pw_below_drewN))) a1 hd.1 (by omega)).mono ?_; rintro e w4 ⟨rfl, hb4⟩; rw [← HS0.out]; have HB4 := Aside0.mk ((pw_below_drewN HB1.out _).trans (hb4.mono (pw_below_drewN HB1.out _).size)); have HO4 := Aside0.mk ((HOW.out.below (pw_below_drewN (Below.refl _ _) _)).below hb4); clear hb4))
        go_loopg [2, 9] gmax (fun gg v2 v9 wr => ∃ (k : Nat) (s : Int), v2 = .int .i64 k ∧ v9 = .int .i64 s ∧ k ≤ gg ∧ k ≤ 30 ∧ -1 ≤ s ∧ s ≤ 36524 ∧ Aside0 (impl_AddBusiness.addV l0 k s = r) ∧ Aside0 (impl_holidaysOf.Own wr w.heap.size l0) ∧ Aside0 (Below w.heap.size w wr))
        case atStart => exact ⟨a2.toNat, s0, by rw [show ((a2.toNat : Nat) : Int) = a2 by omega], rfl, hgm, by omega, hsb2.1, hsb2.2, ⟨by rw [HS0.out]; exact HR2.out⟩, HO4, HB4⟩
        case round =>
          clear HO4 HB4 HOW HB1
          obtain ⟨k, s, rfl, rfl, hk, hk30, hs1, hs2, HA, HO, HB⟩ := hrel
          by_cases hk0 : 0 < k
          · have hkz : (0 : Int) < (k : Int) := by omega
            obtain ⟨k2, hk2⟩ : ∃ k2, k = k2 + 1 := ⟨k - 1, by omega⟩
            by_cases hs : 0 ≤ s
            · have ha := HA.out
              rw [hk2] at ha
              simp only [impl_AddBusiness.addV] at ha
              rw [if_pos hs] at ha
              have hb := impl_holidaysOf.seekV_bd l0 (show 0 ≤ s + 1 by omega) (show s + 1 ≤ 36525 by omega)
              have hcall := HSK.out wr HO.out (s + 1) (by omega) (by omega)
              generalize impl_holidaysOf.seekV l0 (s + 1) = s3 at ha hb hcall
              have hb2 : -1 ≤ s3 ∧ s3 ≤ 36524 := by rcases hb with h | h <;> omega
              have HA2 := Aside0.mk ha
              have HK2 := Aside0.mk hk2
              clear ha hb hk2
              go_wp2_with (go_at_call 18; refine hcall.mono ?_; rintro e w4 ⟨rfl, hb4⟩; have HB4 := Aside0.mk (HB.out.trans (hb4.mono HB.out.size)); have HO4 := Aside0.mk (HO.out.below hb4); clear hb4)
              go_roundg k2
              case measure => have := HK2.out; omega
              case rel => exact ⟨k2, s3, by have := HK2.out; rw [show (k : Int) - 1 = (k2 : Int) by omega], rfl, Nat.le_refl _, by have := HK2.out; omega, hb2.1, hb2.2, HA2, HO4, HB4⟩
            · have ha := HA.out
              rw [hk2] at ha
              simp only [impl_AddBusiness.addV] at ha
              rw [if_neg hs] at ha
              have HA2 := Aside0.mk ha
              clear ha hk2
              go_wp2
              go_ret
              exact ⟨by rw [← HA2.out]; rfl, HB.out⟩
          · obtain rfl : k = 0 := by omega
            have ha := HA.out
            simp only [impl_AddBusiness.addV] at ha
            have HA2 := Aside0.mk ha
            clear ha
            go_wp2
            go_ret
            exact ⟨by rw [← HA2.out]; rfl, HB.out⟩
      · have hm1 : decide (0 ≤ a2 ∧ a2 ≤ 30) = false := decide_eq_false hm
        rw [hm1] at hmany
        have hres : r = -1 := by
          rw [← HRES.out]
          exact if_neg (fun h => hm h.2.2)
        have HR2 := Aside0.mk hres
        clear hres ho hd1 hm1 HRES hm hd
        go_enter Try.func11, Try.ntmps11
        go_wp2_with (first
          | (go_at_call 14; refine HQ.out.mono ?_; rintro e w1 ⟨rfl, hown, hb1⟩; have HB1 := Aside0.mk hb1; clear hown hb1)
          | (go_at_call 15; refine (hday _).mono ?_; rintro e w2 ⟨rfl, nd, rfl⟩)
          | (go_at_call 17; refine (hmany _).mono ?_; rintro e w3 ⟨rfl, nd2, rfl⟩))
        go_ret
        exact ⟨by rw [HR2.out]; rfl, by repeat (first | exact HB1.out | apply pw_below_drewN)⟩
    · have hd1 : decide (0 ≤ a1 ∧ a1 ≤ 36524) = false := decide_eq_false hd
      rw [hd1] at hday
      have hres : r = -1 := by
        rw [← HRES.out]
        exact if_neg (fun h => hd h.2.1)
      have HR2 := Aside0.mk hres
      clear hres ho hd1 HRES hd
      go_enter Try.func11, Try.ntmps11
      go_wp2_with (first
        | (go_at_call 14; refine HQ.out.mono ?_; rintro e w1 ⟨rfl, hown, hb1⟩; have HB1 := Aside0.mk hb1; clear hown hb1)
        | (go_at_call 15; refine (hday _).mono ?_; rintro e w2 ⟨rfl, nd, rfl⟩))
      go_ret
      exact ⟨by rw [HR2.out]; rfl, by repeat (first | exact HB1.out | apply pw_below_drewN)⟩
  · simp only [if_neg ho] at hq
    have HQ := Aside0.mk hq
    have hres : r = -1 := by
      rw [← HRES.out]
      exact if_neg (fun h => ho h.1)
    have HR2 := Aside0.mk hres
    clear hq ho hres HRES
    go_enter Try.func11, Try.ntmps11
    go_wp2_with (go_at_call 14; refine HQ.out.mono ?_; rintro e w1 ⟨rfl, hb1⟩; have HB1 := Aside0.mk hb1; clear hb1)
    go_ret
    exact ⟨by rw [HR2.out]; rfl, HB1.out⟩


/-! ### impl_SettleDay: function 7 -/
def impl_SettleDay.f (l0 : List Int) (a1 : Int) (a2 : Int) : Option (Int) := (impl_AddBusiness.f l0 a1 a2).bind fun t117 => (some t117)
set_option maxHeartbeats 8000000 in
set_option maxRecDepth 100000 in
theorem impl_SettleDay.calls (A0 : Option Addr) (c0 : Nat) (l0 : List Int) (a1 : Int) (a2 : Int) (r : Int) (w : World) (hr0 : Kd.C (Kd.int .i64) w A0 l0.length l0) (hc0 : l0.length ≤ c0) (h : impl_SettleDay.f l0 a1 a2 = some r) :
    Calls Try.prog 7 #[.slice A0 l0.length c0, .int .i64 a1, .int .i64 a2] w fun e w' => e = .returned (.int .i64 r) ∧ Below w.heap.size w w' := by
  have HR0 := Aside0.mk hr0
  have HC0 := Aside0.mk hc0
  clear hr0 hc0
  have HB := Aside0.mk (Below.refl w.heap.size w)
  have H : ((impl_AddBusiness.f l0 a1 a2).bind fun t117 => (some t117)) = some r := h
  clear h
  replace H := Option.bind_eq_some_iff.mp H
  obtain ⟨t117, A40, H⟩ := H
  replace H : (some t117) = some r := H
  have A4 := Aside0.mk A40
  clear A40
  obtain rfl := Option.some.inj H
  go_enter Try.func7, Try.ntmps7
  go_wp2_with (first | ((with_reducible refine gate_callee (f := 11) rfl ?_); refine goesL_ (some 10) rfl rfl Try.func11 (by kernel_rfl) rfl #[.slice A0 l0.length c0, .int .i64 a1, .int .i64 a2] rfl (by (try simp only [List.map_toArray, List.map_cons, List.map_nil]); first | done | rfl | (simp only [List.length_drop, List.length_take]; rfl)) ?_; (with_reducible refine (impl_AddBusiness.calls _ _ l0 a1 a2 t117 _ ?side1 ?side2 A4.out).mono ?_); (case side1 => repeat (first | exact HR0.out | (with_reducible refine Kd.C_alloc ?_ _) | (with_reducible refine Kd.C_drewN ?_ _) | (with_reducible refine Kd.C_drew ?_))); (case side2 => exact HC0.out); rintro e w5 ⟨rfl, hb⟩; refine ⟨_, rfl, ?_⟩; have n0_ := Aside0.mk (below_step (by repeat (first | (with_reducible first | exact HB.out | apply below_alloc | apply pw_below_drewN | apply below_drew1) | exact HB.out)) hb); clear HB; have HB := n0_; clear n0_; (try clear hb); (try clear hb2); (try clear hk); (try clear hi)))
  go_ret
  exact ⟨by first | rfl | (simp [errW_none, errW_some] <;> rfl) | (simp [*, errW_none, errW_some] <;> rfl), by repeat (first | (with_reducible first | exact HB.out | apply below_alloc | apply pw_below_drewN | apply below_drew1) | exact HB.out)⟩

/-- A state of type 48 at block g of W; what its slices lead to came in by w0. -/
def IsS48 (w0 W : World) (g : Nat) (f0 : List Int) (f1 : Int) : Prop := ∃ A0 c0, W.heap[g]? = some (.cells #[.slice A0 f0.length c0, .int .i64 f1] 48 (0, 0)) ∧ w0.heap.size ≤ g ∧ Kd.C (Kd.int .u8) w0 A0 f0.length f0
theorem IsS48.grown {w0 W : World} {g : Nat} {f0 : List Int} {f1 : Int} {W1 : World} {row : Option Nat} (h : IsS48 w0 W g f0 f1) (hw : W.grownBy W1 row) (hne : some g ≠ row) : IsS48 w0 W1 g f0 f1 := by
  obtain ⟨A0, c0, hb, hg, hr0⟩ := h
  exact ⟨A0, c0, blk_grown hb hw hne, hg, hr0⟩
theorem IsS48.own_neN {w0 W : World} {g : Nat} {f0 : List Int} {f1 : Int} {α : Type} {d : Kd α} {e : Nat} {base : Nat} {ok : Nat → Prop} {v : Value} {xs : List α} (h : IsS48 w0 W g f0 f1) (ho : Kd.N d e W base ok v xs) (ht : e ≠ 48) : some g ≠ v.ownBlock := by
  obtain ⟨A0, c0, hb, hg, hr0⟩ := h
  exact Kd.N_ne ho hb ht
theorem IsS48.fresh {w0 W : World} {g : Nat} {f0 : List Int} {f1 : Int} (h : IsS48 w0 W g f0 f1) : ∀ k, W.heap.size ≤ k → k ≠ g := by
  obtain ⟨A0, c0, hb, hg, hr0⟩ := h
  exact Kd.freshB hb
theorem IsS48.kept {w0 W : World} {g : Nat} {f0 : List Int} {f1 : Int} {W1 : World} {S : Nat → Prop} (h : IsS48 w0 W g f0 f1) (hk : Kept W W1 S) (hne : ¬ S g) : IsS48 w0 W1 g f0 f1 := by
  obtain ⟨A0, c0, hb, hg, hr0⟩ := h
  exact ⟨A0, c0, blk_kept hb hk hne, hg, hr0⟩
theorem IsS48.below {w0 W : World} {g : Nat} {f0 : List Int} {f1 : Int} {W1 : World} (h : IsS48 w0 W g f0 f1) (hw : Below W.heap.size W W1) : IsS48 w0 W1 g f0 f1 := h.grown (grown_of_below hw none) (by simp)
theorem IsS48.alloc {w0 W : World} {g : Nat} {f0 : List Int} {f1 : Int} (h : IsS48 w0 W g f0 f1) (o : Obj) : IsS48 w0 (W.alloc o) g f0 f1 := h.below (below_alloc (Below.refl _ _) o)
theorem IsS48.drewN {w0 W : World} {g : Nat} {f0 : List Int} {f1 : Int} (h : IsS48 w0 W g f0 f1) (m : Nat) : IsS48 w0 (W.drewN m) g f0 f1 := h
theorem IsS48.drew {w0 W : World} {g : Nat} {f0 : List Int} {f1 : Int} (h : IsS48 w0 W g f0 f1) : IsS48 w0 W.drew g f0 f1 := h
theorem IsS48.at_ {w0 W : World} {g : Nat} {f0 : List Int} {f1 : Int} {w' : World} {m : Nat} (hq : W.drewN m = w') (h : IsS48 w0 W g f0 f1) : IsS48 w0 w' g f0 f1 := by subst hq; exact IsS48.drewN h m
theorem IsS48.apart {w0 W : World} {g : Nat} {f0 : List Int} {f1 : Int} {α : Type} {d : Kd α} {e : Nat} {base : Nat} {ok : Nat → Prop} {v : Value} {xs : List α} (h : IsS48 w0 W g f0 f1) (ho : d.R e W base ok v xs) (ht : ∀ q, q ∈ e :: d.E → q ≠ 48) : d.R e W base (fun k => ok k ∧ k ≠ g) v xs := by
  obtain ⟨A0, c0, hb, hg, hr0⟩ := h
  exact Kd.R_types ho hb ht
theorem IsS48.own_ne {w0 W : World} {g : Nat} {f0 : List Int} {f1 : Int} {α : Type} {d : Kd α} {e : Nat} {base : Nat} {ok : Nat → Prop} {v : Value} {xs : List α} (h : IsS48 w0 W g f0 f1) (ho : d.R e W base ok v xs) (ht : e ≠ 48) : some g ≠ v.ownBlock := by
  obtain ⟨A0, c0, hb, hg, hr0⟩ := h
  exact Kd.R_ne ho hb ht
theorem IsS48.apartQ {w0 W : World} {g : Nat} {f0 : List Int} {f1 : Int} {α : Type} {d : Kd α} {e : Nat} {base : Nat} {ok : Nat → Prop} {v : Value} {xs : List α} (h : IsS48 w0 W g f0 f1) (ho : d.Q e W base ok v xs) (ht : ∀ q, q ∈ e :: d.E → q ≠ 48) : d.Q e W base (fun k => ok k ∧ k ≠ g) v xs := by
  obtain ⟨A0, c0, hb, hg, hr0⟩ := h
  exact Kd.Q_types ho hb ht
theorem IsS48.own_neQ {w0 W : World} {g : Nat} {f0 : List Int} {f1 : Int} {α : Type} {d : Kd α} {e : Nat} {base : Nat} {ok : Nat → Prop} {v : Value} {xs : List α} (h : IsS48 w0 W g f0 f1) (ho : d.Q e W base ok v xs) (ht : e ≠ 48) : some g ≠ v.ownBlock := by
  obtain ⟨A0, c0, hb, hg, hr0⟩ := h
  exact Kd.Q_ne ho hb ht
theorem IsS48.apartS {w0 W : World} {g : Nat} {f0 : List Int} {f1 : Int} {α : Type} {d : Kd α} {e : Nat} {base : Nat} {ok : Nat → Prop} {v : Value} {xs : List α} (h : IsS48 w0 W g f0 f1) (ho : d.S e W base ok v xs) (ht : ∀ q, q ∈ e :: d.E → q ≠ 48) : d.S e W base (fun k => ok k ∧ k ≠ g) v xs := by
  obtain ⟨A0, c0, hb, hg, hr0⟩ := h
  exact Kd.S_types ho hb ht
theorem IsS48.own_neS {w0 W : World} {g : Nat} {f0 : List Int} {f1 : Int} {α : Type} {d : Kd α} {e : Nat} {base : Nat} {ok : Nat → Prop} {v : Value} {xs : List α} (h : IsS48 w0 W g f0 f1) (ho : d.S e W base ok v xs) (ht : e ≠ 48) : some g ≠ v.ownBlock := by
  obtain ⟨A0, c0, hb, hg, hr0⟩ := h
  exact Kd.S_ne ho hb ht
theorem IsS48.lt {w0 W : World} {g : Nat} {f0 : List Int} {f1 : Int} (h : IsS48 w0 W g f0 f1) : g < W.heap.size := by
  obtain ⟨A0, c0, hb, hg, hr0⟩ := h
  exact blk_lt hb
theorem IsS48.ge {w0 W : World} {g : Nat} {f0 : List Int} {f1 : Int} (h : IsS48 w0 W g f0 f1) : w0.heap.size ≤ g := by
  obtain ⟨A0, c0, hb, hg, hr0⟩ := h
  exact hg
theorem IsS48.ne_blk {w0 W : World} {g : Nat} {f0 : List Int} {f1 : Int} {a : Nat} {cs : Array Value} {t : TypeId} {fr : Nat × Nat} (h : IsS48 w0 W g f0 f1) (hb2 : W.heap[a]? = some (.cells cs t fr)) (ht : t ≠ 48) : g ≠ a := by
  obtain ⟨A0, c0, hb, hg, hr0⟩ := h
  rintro rfl
  rw [hb] at hb2
  injection hb2 with hb2
  injection hb2 with _ ht2
  exact ht ht2.symm
theorem IsS48.far {w0 W : World} {g : Nat} {f0 : List Int} {f1 : Int} {p : Addr} (h : IsS48 w0 W g f0 f1) (hne : g ≠ p.block) (u : Value) : IsS48 w0 (W.setCell p u) g f0 f1 := by
  obtain ⟨A0, c0, hb, hg, hr0⟩ := h
  exact ⟨A0, c0, blk_far hb hne u, hg, hr0⟩
theorem cellS48_0 {W : World} {g : Nat} {A0 : Option Addr} {c0 : Nat} {f0 : List Int} {f1 : Int} (h : W.heap[g]? = some (.cells #[.slice A0 f0.length c0, .int .i64 f1] 48 (0, 0))) : W.cell? ⟨g, 0, none⟩ = some (.slice A0 f0.length c0) := (blk_cell h 0).trans rfl
theorem cellS48_1 {W : World} {g : Nat} {A0 : Option Addr} {c0 : Nat} {f0 : List Int} {f1 : Int} (h : W.heap[g]? = some (.cells #[.slice A0 f0.length c0, .int .i64 f1] 48 (0, 0))) : W.cell? ⟨g, 1, none⟩ = some (.int .i64 f1) := (blk_cell h 1).trans rfl
theorem IsS48.set_1 {w0 W : World} {g : Nat} {f0 : List Int} {f1 : Int} (h : IsS48 w0 W g f0 f1) (x : Int) : IsS48 w0 (W.setCell ⟨g, 1, none⟩ (.int .i64 x)) g f0 x := by
  obtain ⟨A0, c0, hb, hg, hr0⟩ := h
  exact ⟨A0, c0, by simpa using blk_set hb 1 (.int .i64 x), hg, hr0⟩
theorem IsS48.new (w0 W : World) (A0 : Option Addr) (c0 : Nat) (f0 : List Int) (f1 : Int) (hB : Below w0.heap.size w0 W) (hr0 : Kd.C (Kd.int .u8) w0 A0 f0.length f0) : IsS48 w0 (W.alloc (.cells #[.slice A0 f0.length c0, .int .i64 f1] 48)) W.heap.size f0 f1 := ⟨A0, c0, by simpa using heap_alloc_new W _, hB.size, hr0⟩

/-! ### spec_newReader: function 22 -/
def spec_newReader.f (l0 : List Int) : Option (List Int × Int) := if (l0.length : Int) > 2000 then (if 2000 ≤ (l0.length : Int) then (some (l0.take 2000, 0)) else (none)) else (some (l0, 0))
set_option maxHeartbeats 8000000 in
set_option maxRecDepth 100000 in
theorem spec_newReader.calls (A0 : Option Addr) (c0 : Nat) (l0 : List Int) (r1 : List Int) (r2 : Int) (w0 w : World) (hB : Below w0.heap.size w0 w) (hr0 : Kd.C (Kd.int .u8) w0 A0 l0.length l0) (hc0 : l0.length ≤ c0) (h : spec_newReader.f l0 = some (r1, r2)) :
    Calls Try.prog 22 #[.slice A0 l0.length c0] w fun e w' => ∃ g_ : Nat, e = .returned (.pointer (some ⟨g_, 0, none⟩)) ∧ IsS48 w0 w' g_ r1 r2 ∧ Below w0.heap.size w0 w' ∧ Below w.heap.size w w' := by
  have hu48 := Try.underlying48
  have HR0 := Aside0.mk hr0
  have HC0 := Aside0.mk hc0
  clear hr0 hc0
  have HBW := Aside0.mk (Below.refl w.heap.size w)
  have HW0 := Aside0.mk hB.size
  have HB := Aside0.mk hB
  clear hB
  have H : (if (l0.length : Int) > 2000 then (if 2000 ≤ (l0.length : Int) then (some (l0.take 2000, 0)) else (none)) else (some (l0, 0))) = some (r1, r2) := h
  clear h
  by_cases c2 : (l0.length : Int) > 2000
  · rw [if_pos c2] at H
    have c2b0 : decide (2000 < (l0.length : Int)) = true := decide_eq_true c2
    have c2b1 : decide (2000 < l0.length) = true := decide_eq_true (by omega)
    clear c2
    by_cases c3 : 2000 ≤ (l0.length : Int)
    · rw [if_pos c3] at H
      have c3b0 := eq_true c3
      have c3b1 : decide (2000 ≤ (l0.length : Int)) = true := decide_eq_true c3
      clear c3
      simp only [Option.some.injEq, Prod.mk.injEq] at H
      obtain ⟨rfl, rfl⟩ := H
      obtain ⟨i04, hi04, _, hsz4, _⟩ := info_parts info5
      obtain ⟨hcut4, hA4, hC4⟩ := print_take_of (P := Try.prog) (Value.int .u8) 0 27 5 .i64 Try.underlying27 hi04 hsz4 A0 c0 l0 2000 (by omega) (of_decide_eq_true (by first | (with_reducible assumption) | assumption)) HC0.out
      have HR118 := Aside0.mk (Kd.C_of_reads (h1 := fun _ => rfl) (hA4 _ (Kd.reads_of_C HR0.out)))
      have HC118 := Aside0.mk hC4
      clear hA4 hC4 hi04 hsz4
      go_enter Try.func22, Try.ntmps22
      go_wp2_with (first | ((with_reducible refine gate_dst (N := 10) rfl ?_); refine box_event ?hg (N := 10) ?hd (cs := #[.slice A0 (l0.take 2000).length c0, .int .i64 0]) (t := 48) ?hr ?_; (case hd => rfl); (case hg => rfl); (case hr => first | (go_simp; done) | (go_simp; rfl)); intro gb119 hg w5 hbox hb; have n0_ := Aside0.mk (below_step HBW.out hb); have n1_ := Aside0.mk (below_step (by repeat (first | (with_reducible first | exact HB.out | apply below_alloc | apply pw_below_drewN | apply below_drew1) | exact HB.out)) hb); have n2_ := Aside0.mk (hbox); have n3_ := Aside0.mk ((by rw [hg]; exact (below_size (by repeat (first | (with_reducible first | exact HBW.out | apply below_alloc | apply pw_below_drewN | apply below_drew1) | exact HBW.out))) : w.heap.size ≤ gb119)); have n4_ := Aside0.mk ((Nat.le_trans HW0.out (by rw [hg]; exact (below_size (by repeat (first | (with_reducible first | exact HBW.out | apply below_alloc | apply pw_below_drewN | apply below_drew1) | exact HBW.out))) : w.heap.size ≤ gb119) : w0.heap.size ≤ gb119)); clear HBW; clear HB; have HBW := n0_; have HB := n1_; have BK119 := n2_; have GW119 := n3_; have GE119 := n4_; clear n0_ n1_ n2_ n3_ n4_; clear hb hbox hg))
      go_ret
      exact ⟨_, rfl, (show IsS48 w0 _ gb119 (l0.take 2000) 0 from ⟨_, _, by (with_reducible repeat (first | refine blk_drewN ?_ _ | refine blk_drew ?_ | refine blk_alloc ?_ _)); exact BK119.out, GE119.out, HR118.out⟩), by repeat (first | (with_reducible first | exact HB.out | apply below_alloc | apply pw_below_drewN | apply below_drew1 | refine below_set ?_ GE119.out) | exact HB.out), by repeat (first | (with_reducible first | exact HBW.out | apply below_alloc | apply pw_below_drewN | apply below_drew1 | refine below_set ?_ GW119.out) | exact HBW.out)⟩
    · rw [if_neg c3] at H
      exact absurd H (by simp)
  · rw [if_neg c2] at H
    have c2b0 : decide (2000 < (l0.length : Int)) = false := decide_eq_false c2
    have c2b1 : decide (2000 < l0.length) = false := decide_eq_false (by omega)
    clear c2
    simp only [Option.some.injEq, Prod.mk.injEq] at H
    obtain ⟨rfl, rfl⟩ := H
    go_enter Try.func22, Try.ntmps22
    go_wp2_with (first | ((with_reducible refine gate_dst (N := 10) rfl ?_); refine box_event ?hg (N := 10) ?hd (cs := #[.slice A0 l0.length c0, .int .i64 0]) (t := 48) ?hr ?_; (case hd => rfl); (case hg => rfl); (case hr => first | (go_simp; done) | (go_simp; rfl)); intro gb120 hg w6 hbox hb; have n0_ := Aside0.mk (below_step HBW.out hb); have n1_ := Aside0.mk (below_step (by repeat (first | (with_reducible first | exact HB.out | apply below_alloc | apply pw_below_drewN | apply below_drew1) | exact HB.out)) hb); have n2_ := Aside0.mk (hbox); have n3_ := Aside0.mk ((by rw [hg]; exact (below_size (by repeat (first | (with_reducible first | exact HBW.out | apply below_alloc | apply pw_below_drewN | apply below_drew1) | exact HBW.out))) : w.heap.size ≤ gb120)); have n4_ := Aside0.mk ((Nat.le_trans HW0.out (by rw [hg]; exact (below_size (by repeat (first | (with_reducible first | exact HBW.out | apply below_alloc | apply pw_below_drewN | apply below_drew1) | exact HBW.out))) : w.heap.size ≤ gb120) : w0.heap.size ≤ gb120)); clear HBW; clear HB; have HBW := n0_; have HB := n1_; have BK120 := n2_; have GW120 := n3_; have GE120 := n4_; clear n0_ n1_ n2_ n3_ n4_; clear hb hbox hg))
    go_ret
    exact ⟨_, rfl, (show IsS48 w0 _ gb120 l0 0 from ⟨_, _, by (with_reducible repeat (first | refine blk_drewN ?_ _ | refine blk_drew ?_ | refine blk_alloc ?_ _)); exact BK120.out, GE120.out, HR0.out⟩), by repeat (first | (with_reducible first | exact HB.out | apply below_alloc | apply pw_below_drewN | apply below_drew1 | refine below_set ?_ GE120.out) | exact HB.out), by repeat (first | (with_reducible first | exact HBW.out | apply below_alloc | apply pw_below_drewN | apply below_drew1 | refine below_set ?_ GW120.out) | exact HBW.out)⟩

/-! ### spec_reader_pick: function 28 -/
def spec_reader_pick.j0 : Nat → Int → Bool → List Int → Int → Option (Int × Int)
  | 0, _, _, _, _ => none
  | k + 1, x1, x24, x1000, x1001 => if x24 = true then (some (0, x1001)) else (if (wrap64 (x1001 - 1)) < (x1000.length : Int) then (if 0 ≤ (wrap64 (x1001 - 1)) then (if x1 = 0 then (none) else (some (Int.tmod (wrap64 (rd x1000 (wrap64 (x1001 - 1)))) x1, x1001))) else (none)) else (if (x1000.length : Int) = 0 then (none) else (if 0 ≤ (Int.tmod (wrap64 (x1001 - 1)) (x1000.length : Int)) then (if (Int.tmod (wrap64 (x1001 - 1)) (x1000.length : Int)) < (x1000.length : Int) then (if 0 ≤ (Int.tmod (wrap64 ((wrap64 ((wrap64 (x1001 - 1)) * 7)) + 3)) (x1000.length : Int)) then (if (Int.tmod (wrap64 ((wrap64 ((wrap64 (x1001 - 1)) * 7)) + 3)) (x1000.length : Int)) < (x1000.length : Int) then (if x1 = 0 then (none) else (some (Int.tmod (Go.bits .xor .i64 (wrap64 ((wrap64 ((wrap64 ((wrap64 ((wrap64 (rd x1000 (Int.tmod (wrap64 (x1001 - 1)) (x1000.length : Int)))) * 131)) + (wrap64 ((wrap64 (rd x1000 (Int.tmod (wrap64 ((wrap64 ((wrap64 (x1001 - 1)) * 7)) + 3)) (x1000.length : Int)))) * 1117)))) + (wrap64 ((wrap64 (x1001 - 1)) * 29)))) + (wrap64 ((wrap64 (Int.tdiv (wrap64 (x1001 - 1)) (x1000.length : Int))) * 53)))) (wrap64 (Int.tdiv (wrap64 ((wrap64 ((wrap64 ((wrap64 ((wrap64 (rd x1000 (Int.tmod (wrap64 (x1001 - 1)) (x1000.length : Int)))) * 131)) + (wrap64 ((wrap64 (rd x1000 (Int.tmod (wrap64 ((wrap64 ((wrap64 (x1001 - 1)) * 7)) + 3)) (x1000.length : Int)))) * 1117)))) + (wrap64 ((wrap64 (x1001 - 1)) * 29)))) + (wrap64 ((wrap64 (Int.tdiv (wrap64 (x1001 - 1)) (x1000.length : Int))) * 53)))) 64))) x1, x1001))) else (none)) else (none)) else (none)) else (none))))
def spec_reader_pick.f (k : Nat) (s0_0 : List Int) (s0_1 : Int) (a1 : Int) : Option (Int × Int) := if a1 < 1 then (spec_reader_pick.j0 k a1 true s0_0 (wrap64 (s0_1 + 1))) else (spec_reader_pick.j0 k a1 ((s0_0.length : Int) == 0) s0_0 (wrap64 (s0_1 + 1)))
theorem spec_reader_pick.mono_l : ∀ k, (∀ y0 y1 y2 y3, LeO (spec_reader_pick.j0 k y0 y1 y2 y3) (spec_reader_pick.j0 (k + 1) y0 y1 y2 y3))
  | 0 => fun _ _ _ _ r h => by simp [spec_reader_pick.j0] at h
  | k + 1 => by
    have ih0 := spec_reader_pick.mono_l k
    · intro y0 y1 y2 y3
      unfold spec_reader_pick.j0
      repeat' first
      | (with_reducible exact ih0 _ _ _ _)
      | (with_reducible exact LeO.refl _)
      | (with_reducible exact LeO.none _)
      | (with_reducible refine LeO.ite ?_ ?_)
      | (with_reducible refine LeO.bind ?_ (fun _ => ?_))
      | exact ih0 _ _ _ _
      | exact LeO.none _
      | refine LeO.ite ?_ ?_
      | refine LeO.bind ?_ (fun _ => ?_)
theorem spec_reader_pick.mono : ∀ a0 a1 a2 k, LeO (spec_reader_pick.f k a0 a1 a2) (spec_reader_pick.f (k + 1) a0 a1 a2) := by
  intro a0 a1 a2 k
  have ih0 := spec_reader_pick.mono_l k
  unfold spec_reader_pick.f
  repeat' first
      | (with_reducible exact ih0 _ _ _ _)
      | (with_reducible exact LeO.refl _)
      | (with_reducible exact LeO.none _)
      | (with_reducible refine LeO.ite ?_ ?_)
      | (with_reducible refine LeO.bind ?_ (fun _ => ?_))
      | exact ih0 _ _ _ _
      | exact LeO.none _
      | refine LeO.ite ?_ ?_
      | refine LeO.bind ?_ (fun _ => ?_)
set_option maxHeartbeats 8000000 in
set_option maxRecDepth 100000 in
theorem spec_reader_pick.calls (k : Nat) (g : Nat) (s0_0 : List Int) (s0_1 : Int) (a1 : Int) (r1 : Int) (r2 : Int) (w0 w : World) (hI : IsS48 w0 w g s0_0 s0_1) (hB : Below w0.heap.size w0 w) (h : spec_reader_pick.f k s0_0 s0_1 a1 = some (r1, r2)) :
    Calls Try.prog 28 #[.pointer (some ⟨g, 0, none⟩), .int .i64 a1] w fun e w' => e = .returned (.int .i64 r1) ∧ IsS48 w0 w' g s0_0 r2 ∧ Below w0.heap.size w0 w' ∧ KeepBut w w' g none := by
  have HI0 := Aside0.mk hI
  have HK := Aside0.mk (KeepBut.refl w g none)
  have HL := Aside0.mk hB.size
  clear hI
  have HW0 := Aside0.mk hB.size
  have HB := Aside0.mk hB
  clear hB
  have H : (if a1 < 1 then (spec_reader_pick.j0 k a1 true s0_0 (wrap64 (s0_1 + 1))) else (spec_reader_pick.j0 k a1 ((s0_0.length : Int) == 0) s0_0 (wrap64 (s0_1 + 1)))) = some (r1, r2) := h
  clear h
  have HC3 := Aside0.mk H
  clear H
  obtain ⟨ASz4_0, cSz4_0, HGz4, hgz4, HSz4_0⟩ := HI0.out
  have hcz4_0 := cellS48_0 HGz4
  have hcz4_1 := cellS48_1 HGz4
  have hfz4_1 := blk_frozen HGz4 1
  clear HGz4 hgz4
  go_enter Try.func28, Try.ntmps28
  go_upto_region 2 with (fail)
  repeat (go_quiet (fail); go_upto_region 2 with (fail))
  go_cut [24] (fun v24 wc => ∃ (kq : Nat) (x24_2 : Bool), v24 = .bool x24_2 ∧ Aside0 (spec_reader_pick.j0 kq a1 x24_2 s0_0 (wrap64 (s0_1 + 1)) = some (r1, r2)) ∧ Aside0 (kq ≤ k) ∧ Aside0 (IsS48 w0 wc g s0_0 (wrap64 (s0_1 + 1))) ∧ Aside0 (KeepBut w wc g none) ∧ Aside0 (Below w0.heap.size w0 wc))
  case first =>
    have H := HC3.out
    clear HC3
    by_cases c5 : a1 < 1
    · rw [if_pos c5] at H
      have c5b0 : decide (a1 < 1) = true := decide_eq_true c5
      clear c5
      (first | rw [c5b0] | (simp only [i64_w, i32_w]; rw [c5b0]) | skip)
      have H' := Aside0.mk H
      clear H
      go_wp2
      repeat (go_quiet (fail); try go_wp2)
      go_meet
      case rel => exact ⟨_, (true), (by first | rfl | (simp; done) | (simp [*]; done)), H', ⟨by first | omega | exact Nat.le_refl _⟩, ⟨by repeat (first | (with_reducible first | exact HI0.out | apply IsS48.alloc | apply IsS48.drewN | apply IsS48.drew | apply IsS48.set_1) | exact HI0.out)⟩, ⟨by repeat (first | (with_reducible first | exact HK.out | apply KeepBut.set_ | apply keep_drewN | apply keep_drew | apply keep_alloc) | exact HK.out)⟩, ⟨by repeat (first | (with_reducible first | exact HB.out | apply below_alloc | apply pw_below_drewN | apply below_drew1 | refine below_set ?_ (IsS48.ge HI0.out)) | exact HB.out)⟩⟩
    · rw [if_neg c5] at H
      have c5b0 : decide (a1 < 1) = false := decide_eq_false c5
      clear c5
      (first | rw [c5b0] | (simp only [i64_w, i32_w]; rw [c5b0]) | skip)
      have H' := Aside0.mk H
      clear H
      obtain ⟨ASz6_0, cSz6_0, HGz6, hgz6, HSz6_0⟩ := HI0.out
      have hcz6_0 := cellS48_0 HGz6
      have hcz6_1 := cellS48_1 HGz6
      have hfz6_1 := blk_frozen HGz6 1
      clear HGz6 hgz6
      go_wp2
      repeat (go_quiet (fail); try go_wp2)
      go_meet
      case rel => exact ⟨_, (((s0_0.length : Int) == 0)), (by first | rfl | (simp; done) | (simp [*]; done)), H', ⟨by first | omega | exact Nat.le_refl _⟩, ⟨by repeat (first | (with_reducible first | exact HI0.out | apply IsS48.alloc | apply IsS48.drewN | apply IsS48.drew | apply IsS48.set_1) | exact HI0.out)⟩, ⟨by repeat (first | (with_reducible first | exact HK.out | apply KeepBut.set_ | apply keep_drewN | apply keep_drew | apply keep_alloc) | exact HK.out)⟩, ⟨by repeat (first | (with_reducible first | exact HB.out | apply below_alloc | apply pw_below_drewN | apply below_drew1 | refine below_set ?_ (IsS48.ge HI0.out)) | exact HB.out)⟩⟩
  case rest =>
    clear HC3
    try clear c2
    try clear p2
    try clear c5
    try clear c5b0
    try clear p6
    try clear hcz4_0
    try clear hcz4_1
    try clear hcz6_0
    try clear hcz6_1
    try clear hfz4_1
    try clear hfz6_1
    obtain ⟨kq, x24_2, rfl, HA, HJ2, HI0, HK, HB⟩ := hcut
    cases kq with
    | zero => exact absurd HA.out (by simp [spec_reader_pick.j0])
    | succ kj2 =>
      have H := HA.out
      clear HA
      simp only [spec_reader_pick.j0] at H
      by_cases c7 : x24_2 = true
      · subst c7
        have H1 : (some (0, (wrap64 (s0_1 + 1)))) = some (r1, r2) := by rw [if_pos rfl] at H; exact H
        clear H
        have H := H1
        clear H1
        simp only [Option.some.injEq, Prod.mk.injEq] at H
        obtain ⟨rfl, rfl⟩ := H
        go_wp2
        repeat (go_quiet (fail); try go_wp2)
        go_ret
        exact ⟨by first | rfl | (simp [errW_none, errW_some] <;> rfl) | (simp [*, errW_none, errW_some] <;> rfl), by repeat (first | (with_reducible first | exact HI0.out | apply IsS48.alloc | apply IsS48.drewN | apply IsS48.drew | apply IsS48.set_1) | exact HI0.out), by repeat (first | (with_reducible first | exact HB.out | apply below_alloc | apply pw_below_drewN | apply below_drew1 | refine below_set ?_ (IsS48.ge HI0.out)) | exact HB.out), by repeat (first | (with_reducible first | exact HK.out | apply KeepBut.set_ | apply keep_drewN | apply keep_drew | apply keep_alloc) | exact HK.out)⟩
      · replace c7 := Bool.eq_false_iff.mpr c7
        subst c7
        have H1 : (if (wrap64 ((wrap64 (s0_1 + 1)) - 1)) < (s0_0.length : Int) then (if 0 ≤ (wrap64 ((wrap64 (s0_1 + 1)) - 1)) then (if a1 = 0 then (none) else (some (Int.tmod (wrap64 (rd s0_0 (wrap64 ((wrap64 (s0_1 + 1)) - 1)))) a1, (wrap64 (s0_1 + 1))))) else (none)) else (if (s0_0.length : Int) = 0 then (none) else (if 0 ≤ (Int.tmod (wrap64 ((wrap64 (s0_1 + 1)) - 1)) (s0_0.length : Int)) then (if (Int.tmod (wrap64 ((wrap64 (s0_1 + 1)) - 1)) (s0_0.length : Int)) < (s0_0.length : Int) then (if 0 ≤ (Int.tmod (wrap64 ((wrap64 ((wrap64 ((wrap64 (s0_1 + 1)) - 1)) * 7)) + 3)) (s0_0.length : Int)) then (if (Int.tmod (wrap64 ((wrap64 ((wrap64 ((wrap64 (s0_1 + 1)) - 1)) * 7)) + 3)) (s0_0.length : Int)) < (s0_0.length : Int) then (if a1 = 0 then (none) else (some (Int.tmod (Go.bits .xor .i64 (wrap64 ((wrap64 ((wrap64 ((wrap64 ((wrap64 (rd s0_0 (Int.tmod (wrap64 ((wrap64 (s0_1 + 1)) - 1)) (s0_0.length : Int)))) * 131)) + (wrap64 ((wrap64 (rd s0_0 (Int.tmod (wrap64 ((wrap64 ((wrap64 ((wrap64 (s0_1 + 1)) - 1)) * 7)) + 3)) (s0_0.length : Int)))) * 1117)))) + (wrap64 ((wrap64 ((wrap64 (s0_1 + 1)) - 1)) * 29)))) + (wrap64 ((wrap64 (Int.tdiv (wrap64 ((wrap64 (s0_1 + 1)) - 1)) (s0_0.length : Int))) * 53)))) (wrap64 (Int.tdiv (wrap64 ((wrap64 ((wrap64 ((wrap64 ((wrap64 (rd s0_0 (Int.tmod (wrap64 ((wrap64 (s0_1 + 1)) - 1)) (s0_0.length : Int)))) * 131)) + (wrap64 ((wrap64 (rd s0_0 (Int.tmod (wrap64 ((wrap64 ((wrap64 ((wrap64 (s0_1 + 1)) - 1)) * 7)) + 3)) (s0_0.length : Int)))) * 1117)))) + (wrap64 ((wrap64 ((wrap64 (s0_1 + 1)) - 1)) * 29)))) + (wrap64 ((wrap64 (Int.tdiv (wrap64 ((wrap64 (s0_1 + 1)) - 1)) (s0_0.length : Int))) * 53)))) 64))) a1, (wrap64 (s0_1 + 1))))) else (none)) else (none)) else (none)) else (none)))) = some (r1, r2) := by rw [if_neg (show ¬ (false = true) by decide)] at H; exact H
        clear H
        have H := H1
        clear H1
        by_cases c8 : (wrap64 ((wrap64 (s0_1 + 1)) - 1)) < (s0_0.length : Int)
        · rw [if_pos c8] at H
          have c8b0 : decide ((wrap64 ((wrap64 (s0_1 + 1)) - 1)) < (s0_0.length : Int)) = true := decide_eq_true c8
          clear c8
          obtain ⟨ji9, hji9⟩ : ∃ j_ : Int, (wrap64 ((wrap64 (s0_1 + 1)) - 1)) = j_ := ⟨_, rfl⟩
          replace H : (if 0 ≤ (ji9) then (if a1 = 0 then (none) else (some (Int.tmod (wrap64 (rd s0_0 (ji9))) a1, (wrap64 (s0_1 + 1))))) else (none)) = some (r1, r2) := by first | (rw [hji9] at H; exact H) | (simp only [hji9] at H ⊢; exact H)
          (try rw [hji9] at c8b0)
          have hji9w : (IntKind.i64.wrap ((wrap64 (s0_1 + 1)) - 1)) = ji9 := (i64_w _).trans hji9
          by_cases c10 : 0 ≤ (ji9)
          · rw [if_pos c10] at H
            have c10b0 : decide (0 ≤ (ji9)) = true := decide_eq_true c10
            clear c10
            by_cases c11 : a1 = 0
            · rw [if_pos c11] at H
              exact absurd H (by simp)
            · rw [if_neg c11] at H
              have c11b0 : (a1 == 0) = false := beq_eq_false_iff_ne.mpr c11
              have c11b1 : (a1 != 0) = true := bne_iff_ne.mpr c11
              simp only [Option.some.injEq, Prod.mk.injEq] at H
              obtain ⟨rfl, rfl⟩ := H
              obtain ⟨ASz12_0, cSz12_0, HGz12, hgz12, HSz12_0⟩ := HI0.out
              have hcz12_0 := cellS48_0 HGz12
              have hcz12_1 := cellS48_1 HGz12
              have hfz12_1 := blk_frozen HGz12 1
              clear HGz12 hgz12
              have p121 : 0 ≤ ((ji9) : Int) := of_decide_eq_true (by first | (with_reducible assumption) | assumption)
              have q121 : (ji9) < (s0_0.length : Int) := of_decide_eq_true (by first | (with_reducible assumption) | assumption)
              obtain ⟨ad121, e121, hx121_0⟩ := Kd.at_int HSz12_0 (ji9) p121 q121
              cases e121
              replace hx121_0 := pw_cell_below HB.out hx121_0
              replace p121 := eq_true p121
              replace q121 := eq_true q121
              go_wp2
              repeat (go_quiet (fail); try go_wp2)
              go_ret
              exact ⟨by first | rfl | (simp [errW_none, errW_some] <;> rfl) | (simp only [← hji9]; first | rfl | (simp [errW_none, errW_some] <;> rfl)) | (simp [*, errW_none, errW_some] <;> rfl), by repeat (first | (with_reducible first | exact HI0.out | apply IsS48.alloc | apply IsS48.drewN | apply IsS48.drew | apply IsS48.set_1) | exact HI0.out), by repeat (first | (with_reducible first | exact HB.out | apply below_alloc | apply pw_below_drewN | apply below_drew1 | refine below_set ?_ (IsS48.ge HI0.out)) | exact HB.out), by repeat (first | (with_reducible first | exact HK.out | apply KeepBut.set_ | apply keep_drewN | apply keep_drew | apply keep_alloc) | exact HK.out)⟩
          · rw [if_neg c10] at H
            exact absurd H (by simp)
        · rw [if_neg c8] at H
          have c8b0 : decide ((wrap64 ((wrap64 (s0_1 + 1)) - 1)) < (s0_0.length : Int)) = false := decide_eq_false c8
          clear c8
          by_cases c13 : (s0_0.length : Int) = 0
          · rw [if_pos c13] at H
            exact absurd H (by simp)
          · rw [if_neg c13] at H
            have c13b0 : ((s0_0.length : Int) == 0) = false := beq_eq_false_iff_ne.mpr c13
            have c13b1 : ((s0_0.length : Int) != 0) = true := bne_iff_ne.mpr c13
            have c13b2 : ¬ (s0_0 = []) := fun h_ => c13 (by rw [h_]; rfl)
            obtain ⟨ji14, hji14⟩ : ∃ j_ : Int, (Int.tmod (wrap64 ((wrap64 (s0_1 + 1)) - 1)) (s0_0.length : Int)) = j_ := ⟨_, rfl⟩
            replace H : (if 0 ≤ (ji14) then (if (ji14) < (s0_0.length : Int) then (if 0 ≤ (Int.tmod (wrap64 ((wrap64 ((wrap64 ((wrap64 (s0_1 + 1)) - 1)) * 7)) + 3)) (s0_0.length : Int)) then (if (Int.tmod (wrap64 ((wrap64 ((wrap64 ((wrap64 (s0_1 + 1)) - 1)) * 7)) + 3)) (s0_0.length : Int)) < (s0_0.length : Int) then (if a1 = 0 then (none) else (some (Int.tmod (Go.bits .xor .i64 (wrap64 ((wrap64 ((wrap64 ((wrap64 ((wrap64 (rd s0_0 (ji14))) * 131)) + (wrap64 ((wrap64 (rd s0_0 (Int.tmod (wrap64 ((wrap64 ((wrap64 ((wrap64 (s0_1 + 1)) - 1)) * 7)) + 3)) (s0_0.length : Int)))) * 1117)))) + (wrap64 ((wrap64 ((wrap64 (s0_1 + 1)) - 1)) * 29)))) + (wrap64 ((wrap64 (Int.tdiv (wrap64 ((wrap64 (s0_1 + 1)) - 1)) (s0_0.length : Int))) * 53)))) (wrap64 (Int.tdiv (wrap64 ((wrap64 ((wrap64 ((wrap64 ((wrap64 (rd s0_0 (ji14))) * 131)) + (wrap64 ((wrap64 (rd s0_0 (Int.tmod (wrap64 ((wrap64 ((wrap64 ((wrap64 (s0_1 + 1)) - 1)) * 7)) + 3)) (s0_0.length : Int)))) * 1117)))) + (wrap64 ((wrap64 ((wrap64 (s0_1 + 1)) - 1)) * 29)))) + (wrap64 ((wrap64 (Int.tdiv (wrap64 ((wrap64 (s0_1 + 1)) - 1)) (s0_0.length : Int))) * 53)))) 64))) a1, (wrap64 (s0_1 + 1))))) else (none)) else (none)) else (none)) else (none)) = some (r1, r2) := by first | (rw [hji14] at H; exact H) | (simp only [hji14] at H ⊢; exact H)
            by_cases c15 : 0 ≤ (ji14)
            · rw [if_pos c15] at H
              have c15b0 : decide (0 ≤ (ji14)) = true := decide_eq_true c15
              clear c15
              by_cases c16 : (ji14) < (s0_0.length : Int)
              · rw [if_pos c16] at H
                have c16b0 : decide ((ji14) < (s0_0.length : Int)) = true := decide_eq_true c16
                clear c16
                obtain ⟨ji17, hji17⟩ : ∃ j_ : Int, (Int.tmod (wrap64 ((wrap64 ((wrap64 ((wrap64 (s0_1 + 1)) - 1)) * 7)) + 3)) (s0_0.length : Int)) = j_ := ⟨_, rfl⟩
                replace H : (if 0 ≤ (ji17) then (if (ji17) < (s0_0.length : Int) then (if a1 = 0 then (none) else (some (Int.tmod (Go.bits .xor .i64 (wrap64 ((wrap64 ((wrap64 ((wrap64 ((wrap64 (rd s0_0 (ji14))) * 131)) + (wrap64 ((wrap64 (rd s0_0 (ji17))) * 1117)))) + (wrap64 ((wrap64 ((wrap64 (s0_1 + 1)) - 1)) * 29)))) + (wrap64 ((wrap64 (Int.tdiv (wrap64 ((wrap64 (s0_1 + 1)) - 1)) (s0_0.length : Int))) * 53)))) (wrap64 (Int.tdiv (wrap64 ((wrap64 ((wrap64 ((wrap64 ((wrap64 (rd s0_0 (ji14))) * 131)) + (wrap64 ((wrap64 (rd s0_0 (ji17))) * 1117)))) + (wrap64 ((wrap64 ((wrap64 (s0_1 + 1)) - 1)) * 29)))) + (wrap64 ((wrap64 (Int.tdiv (wrap64 ((wrap64 (s0_1 + 1)) - 1)) (s0_0.length : Int))) * 53)))) 64))) a1, (wrap64 (s0_1 + 1))))) else (none)) else (none)) = some (r1, r2) := by first | (rw [hji17] at H; exact H) | (simp only [hji17] at H ⊢; exact H)
                by_cases c18 : 0 ≤ (ji17)
                · rw [if_pos c18] at H
                  have c18b0 : decide (0 ≤ (ji17)) = true := decide_eq_true c18
                  clear c18
                  by_cases c19 : (ji17) < (s0_0.length : Int)
                  · rw [if_pos c19] at H
                    have c19b0 : decide ((ji17) < (s0_0.length : Int)) = true := decide_eq_true c19
                    clear c19
                    by_cases c20 : a1 = 0
                    · rw [if_pos c20] at H
                      exact absurd H (by simp)
                    · rw [if_neg c20] at H
                      have c20b0 : (a1 == 0) = false := beq_eq_false_iff_ne.mpr c20
                      have c20b1 : (a1 != 0) = true := bne_iff_ne.mpr c20
                      simp only [Option.some.injEq, Prod.mk.injEq] at H
                      obtain ⟨rfl, rfl⟩ := H
                      obtain ⟨ASz21_0, cSz21_0, HGz21, hgz21, HSz21_0⟩ := HI0.out
                      have hcz21_0 := cellS48_0 HGz21
                      have hcz21_1 := cellS48_1 HGz21
                      have hfz21_1 := blk_frozen HGz21 1
                      clear HGz21 hgz21
                      have p122 : 0 ≤ ((ji14) : Int) := of_decide_eq_true (by first | (with_reducible assumption) | assumption)
                      have q122 : (ji14) < (s0_0.length : Int) := of_decide_eq_true (by first | (with_reducible assumption) | assumption)
                      obtain ⟨ad122, e122, hx122_0⟩ := Kd.at_int HSz21_0 (ji14) p122 q122
                      cases e122
                      replace hx122_0 := pw_cell_below HB.out hx122_0
                      replace p122 := eq_true p122
                      replace q122 := eq_true q122
                      have p123 : 0 ≤ ((ji17) : Int) := of_decide_eq_true (by first | (with_reducible assumption) | assumption)
                      have q123 : (ji17) < (s0_0.length : Int) := of_decide_eq_true (by first | (with_reducible assumption) | assumption)
                      obtain ⟨ad123, e123, hx123_0⟩ := Kd.at_int HSz21_0 (ji17) p123 q123
                      obtain rfl : ad122 = ad123 := (by injection e123)
                      replace hx123_0 := pw_cell_below HB.out hx123_0
                      replace p123 := eq_true p123
                      replace q123 := eq_true q123
                      go_wp2
                      repeat (go_quiet (fail); try go_wp2)
                      go_ret
                      exact ⟨by first | rfl | (simp [errW_none, errW_some] <;> rfl) | (simp only [← hji14, ← hji17]; first | rfl | (simp [errW_none, errW_some] <;> rfl)) | (simp [*, errW_none, errW_some] <;> rfl), by repeat (first | (with_reducible first | exact HI0.out | apply IsS48.alloc | apply IsS48.drewN | apply IsS48.drew | apply IsS48.set_1) | exact HI0.out), by repeat (first | (with_reducible first | exact HB.out | apply below_alloc | apply pw_below_drewN | apply below_drew1 | refine below_set ?_ (IsS48.ge HI0.out)) | exact HB.out), by repeat (first | (with_reducible first | exact HK.out | apply KeepBut.set_ | apply keep_drewN | apply keep_drew | apply keep_alloc) | exact HK.out)⟩
                  · rw [if_neg c19] at H
                    exact absurd H (by simp)
                · rw [if_neg c18] at H
                  exact absurd H (by simp)
              · rw [if_neg c16] at H
                exact absurd H (by simp)
            · rw [if_neg c15] at H
              exact absurd H (by simp)

/-! ### spec_reader_one: function 25 -/
def spec_reader_one.f (k : Nat) (s0_0 : List Int) (s0_1 : Int) (l1 : List Int) : Option (Int × Int) := (spec_reader_pick.f k s0_0 s0_1 (l1.length : Int)).bind fun bt124 => (if 0 ≤ bt124.1 then (if bt124.1 < (l1.length : Int) then (some (rd l1 bt124.1, bt124.2)) else (none)) else (none))
theorem spec_reader_one.mono : ∀ a0 a1 a2 k, LeO (spec_reader_one.f k a0 a1 a2) (spec_reader_one.f (k + 1) a0 a1 a2) := by
  intro a0 a1 a2 k
  unfold spec_reader_one.f
  repeat' first
      | (with_reducible exact spec_reader_pick.mono _ _ _ _)
      | (with_reducible exact LeO.refl _)
      | (with_reducible exact LeO.none _)
      | (with_reducible refine LeO.ite ?_ ?_)
      | (with_reducible refine LeO.bind ?_ (fun _ => ?_))
      | exact spec_reader_pick.mono _ _ _ _
      | exact LeO.none _
      | refine LeO.ite ?_ ?_
      | refine LeO.bind ?_ (fun _ => ?_)
set_option maxHeartbeats 8000000 in
set_option maxRecDepth 100000 in
theorem spec_reader_one.calls (k : Nat) (g : Nat) (s0_0 : List Int) (s0_1 : Int) (A1 : Option Addr) (c1 : Nat) (l1 : List Int) (r1 : Int) (r2 : Int) (w0 w : World) (hI : IsS48 w0 w g s0_0 s0_1) (hB : Below w0.heap.size w0 w) (hr1 : Kd.C (Kd.int .i64) w A1 l1.length l1) (hc1 : l1.length ≤ c1) (hf1 : ∀ ad, A1 = some ad → 0 < l1.length → ad.block ≠ g) (h : spec_reader_one.f k s0_0 s0_1 l1 = some (r1, r2)) :
    Calls Try.prog 25 #[.pointer (some ⟨g, 0, none⟩), .slice A1 l1.length c1] w fun e w' => e = .returned (.int .i64 r1) ∧ IsS48 w0 w' g s0_0 r2 ∧ Below w0.heap.size w0 w' ∧ KeepBut w w' g none := by
  have HR1 := Aside0.mk hr1
  have HC1 := Aside0.mk hc1
  clear hr1 hc1
  have HI0 := Aside0.mk hI
  have HK := Aside0.mk (KeepBut.refl w g none)
  have HL := Aside0.mk hB.size
  clear hI
  have HW0 := Aside0.mk hB.size
  have HB := Aside0.mk hB
  clear hB
  have H : ((spec_reader_pick.f k s0_0 s0_1 (l1.length : Int)).bind fun bt124 => (if 0 ≤ bt124.1 then (if bt124.1 < (l1.length : Int) then (some (rd l1 bt124.1, bt124.2)) else (none)) else (none))) = some (r1, r2) := h
  clear h
  replace H := Option.bind_eq_some_iff.mp H
  obtain ⟨⟨t124, t125⟩, A30, H⟩ := H
  replace H : (if 0 ≤ t124 then (if t124 < (l1.length : Int) then (some (rd l1 t124, t125)) else (none)) else (none)) = some (r1, r2) := H
  have A3 := Aside0.mk A30
  clear A30
  by_cases c4 : 0 ≤ t124
  · rw [if_pos c4] at H
    have c4b0 : decide (0 ≤ t124) = true := decide_eq_true c4
    clear c4
    by_cases c5 : t124 < (l1.length : Int)
    · rw [if_pos c5] at H
      have c5b0 : decide (t124 < (l1.length : Int)) = true := decide_eq_true c5
      clear c5
      simp only [Option.some.injEq, Prod.mk.injEq] at H
      obtain ⟨rfl, rfl⟩ := H
      go_enter Try.func25, Try.ntmps25
      go_wp2_with (first | ((with_reducible refine gate_callee (f := 28) rfl ?_); refine goesL_ (some 9) rfl rfl Try.func28 (by kernel_rfl) rfl #[.pointer (some ⟨g, 0, none⟩), .int .i64 (l1.length : Int)] rfl (by (try simp only [List.map_toArray, List.map_cons, List.map_nil]); first | done | rfl | (simp only [List.length_drop, List.length_take]; rfl)) ?_; (with_reducible refine (spec_reader_pick.calls k g s0_0 s0_1 (l1.length : Int) t124 t125 w0 _ ?side1 ?side2 A3.out).mono ?_); (case side1 => repeat (first | (with_reducible first | exact HI0.out | apply IsS48.alloc | apply IsS48.drewN | apply IsS48.drew | apply IsS48.set_1) | exact HI0.out)); (case side2 => repeat (first | (with_reducible first | exact HB.out | apply below_alloc | apply pw_below_drewN | apply below_drew1 | refine below_set ?_ (IsS48.ge HI0.out)) | exact HB.out)); rintro e w6 ⟨rfl, hi, hb, hk⟩; refine ⟨_, rfl, ?_⟩; have n0_ := Aside0.mk (KeepBut.trans (by repeat (first | (with_reducible first | exact HK.out | apply KeepBut.set_ | apply keep_drewN | apply keep_drew | apply keep_alloc) | exact HK.out)) hk (.inl rfl)); have n1_ := Aside0.mk (hb); have n2_ := Aside0.mk (hi); clear HK; clear HB; clear HI0; have HK := n0_; have HB := n1_; have HI0 := n2_; clear n0_ n1_ n2_; (try clear hb); (try clear hb2); (try clear hk); (try clear hi); have p126 : 0 ≤ (t124 : Int) := of_decide_eq_true (by first | (with_reducible assumption) | assumption); have q126 : t124 < (l1.length : Int) := of_decide_eq_true (by first | (with_reducible assumption) | assumption); obtain ⟨ad126, e126, hx126_0⟩ := Kd.at_int HR1.out t124 p126 q126; cases e126; replace hx126_0 := keep_cell HK.out hx126_0 (by first | (rw [add_block]; exact hf1 _ rfl (by omega)) | exact hf1 _ rfl (by omega) | exact hf1 ad126 rfl (by omega)); replace p126 := eq_true p126; replace q126 := eq_true q126))
      go_ret
      exact ⟨by first | rfl | (simp [errW_none, errW_some] <;> rfl) | (simp [*, errW_none, errW_some] <;> rfl), by repeat (first | (with_reducible first | exact HI0.out | apply IsS48.alloc | apply IsS48.drewN | apply IsS48.drew | apply IsS48.set_1) | exact HI0.out), by repeat (first | (with_reducible first | exact HB.out | apply below_alloc | apply pw_below_drewN | apply below_drew1 | refine below_set ?_ (IsS48.ge HI0.out)) | exact HB.out), by repeat (first | (with_reducible first | exact HK.out | apply KeepBut.set_ | apply keep_drewN | apply keep_drew | apply keep_alloc) | exact HK.out)⟩
    · rw [if_neg c5] at H
      exact absurd H (by simp)
  · rw [if_neg c4] at H
    exact absurd H (by simp)

end Go.Proofs.Ytgdjckehmlliaaa.PFnSettleDay

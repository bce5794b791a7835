/- The functions that FnExactSettleDay reaches, each with a proof that the call does what it says; a part of that statement's proof. Conditions: none. -/
import Derived.Test.YtgdjckehmlliaaaGFnExactSettleDayx0
namespace Go.Proofs.Ytgdjckehmlliaaa.PFnExactSettleDay
open Go.RowKit Go.Proofs.YtgdjckehmlliaaaW.PrintWords Go.Proofs.YtgdjckehmlliaaaW.PrintLast Go.Proofs.YtgdjckehmlliaaaW.PrintMore
attribute [local go_sem] max2_int min2_int max_two min_two max_three min_three max_four min_four   -- for this text's walks alone
set_option linter.unusedVariables false
set_option linter.unusedSimpArgs false

/-! ### laws_toIntS: function 6 -/
def laws_toIntS.l0 : Nat → List Int → List Int → Int → Option (List Int)
  | 0, _, _, _ => none
  | k + 1, x0, x3, x4 => if x4 < (x0.length : Int) then (if 0 ≤ x4 then (if x4 < (x3.length : Int) then (laws_toIntS.l0 k x0 (x3.set (x4 : Int).toNat (rd x0 x4)) (wrap64 (x4 + 1))) else (none)) else (none)) else (some x3)
def laws_toIntS.f (k : Nat) (l0 : List Int) : Option (List Int) := if 0 ≤ (l0.length : Int) then (if ((l0.length : Int) : Int).toNat ≤ 35184372088832 then (laws_toIntS.l0 k l0 (List.replicate ((l0.length : Int) : Int).toNat 0) 0) else (none)) else (none)
theorem laws_toIntS.mono_l : ∀ k, (∀ y0 y1 y2, LeO (laws_toIntS.l0 k y0 y1 y2) (laws_toIntS.l0 (k + 1) y0 y1 y2))
  | 0 => fun _ _ _ r h => by simp [laws_toIntS.l0] at h
  | k + 1 => by
    have ih0 := laws_toIntS.mono_l k
    · intro y0 y1 y2
      unfold laws_toIntS.l0
      repeat' first
      | (with_reducible exact ih0 _ _ _)
      | (with_reducible exact LeO.refl _)
      | (with_reducible exact LeO.none _)
      | (with_reducible refine LeO.ite ?_ ?_)
      | (with_reducible refine LeO.bind ?_ (fun _ => ?_))
      | exact ih0 _ _ _
      | exact LeO.none _
      | refine LeO.ite ?_ ?_
      | refine LeO.bind ?_ (fun _ => ?_)
theorem laws_toIntS.mono : ∀ a0 k, LeO (laws_toIntS.f k a0) (laws_toIntS.f (k + 1) a0) := by
  intro a0 k
  have ih0 := laws_toIntS.mono_l k
  unfold laws_toIntS.f
  repeat' first
      | (with_reducible exact ih0 _ _ _)
      | (with_reducible exact LeO.refl _)
      | (with_reducible exact LeO.none _)
      | (with_reducible refine LeO.ite ?_ ?_)
      | (with_reducible refine LeO.bind ?_ (fun _ => ?_))
      | exact ih0 _ _ _
      | exact LeO.none _
      | refine LeO.ite ?_ ?_
      | refine LeO.bind ?_ (fun _ => ?_)
set_option maxHeartbeats 8000000 in
set_option maxRecDepth 100000 in
theorem laws_toIntS.calls (k : Nat) (A0 : Option Addr) (c0 : Nat) (l0 : List Int) (r : List Int) (w : World) (hr0 : Kd.C (Kd.int .i64) w A0 l0.length l0) (hc0 : l0.length ≤ c0) (h : laws_toIntS.f k l0 = some r) :
    Calls Try.prog 6 #[.slice A0 l0.length c0] w fun e w' => ∃ v0_ : Value, e = .returned (v0_) ∧ Kd.R (Kd.int .i64) 3 w' w.heap.size (fun _ => True) v0_ r ∧ Below w.heap.size w w' := by
  have HR0 := Aside0.mk hr0
  have HC0 := Aside0.mk hc0
  clear hr0 hc0
  have HB := Aside0.mk (Below.refl w.heap.size w)
  have H : (if 0 ≤ (l0.length : Int) then (if ((l0.length : Int) : Int).toNat ≤ 35184372088832 then (laws_toIntS.l0 k l0 (List.replicate ((l0.length : Int) : Int).toNat 0) 0) else (none)) else (none)) = some r := h
  clear h
  by_cases c2 : 0 ≤ (l0.length : Int)
  · rw [if_pos c2] at H
    have c2b0 := eq_true c2
    have c2b1 : decide (0 ≤ (l0.length : Int)) = true := decide_eq_true c2
    clear c2
    by_cases c3 : ((l0.length : Int) : Int).toNat ≤ 35184372088832
    · rw [if_pos c3] at H
      have c3b0 := eq_true c3
      have c3b1 : decide (((l0.length : Int) : Int).toNat ≤ 35184372088832) = true := decide_eq_true c3
      clear c3
      obtain ⟨y116, hy116⟩ : ∃ y_ : List Int, y_ = (List.replicate ((l0.length : Int) : Int).toNat 0) := ⟨_, rfl⟩
      replace H : (laws_toIntS.l0 k l0 y116 0) = some r := by first | (rw [hy116]; with_reducible exact H) | (have H2_ := (Option.bind_some _ _).symm.trans H; rw [hy116]; with_reducible exact H2_) | (have H2_ := (Option.bind_some _ _).symm.trans H; with_reducible exact H2_) | with_reducible exact H | (rw [hy116]; exact H) | exact H
      have Ny116 := Aside0.mk hy116
      clear hy116
      have H' := Aside0.mk H
      clear H
      go_enter Try.func6, Try.ntmps6
      go_wp2_with (first | ((with_reducible refine gate_dst (N := 7) rfl ?_); refine Kd.R_make (Kd.int .i64) _ 3 rfl (N := 7) rfl 22 _ _ rfl (l0.length : Int) rfl rfl Try.underlying22 (.int .i64 0) 8 info3 rfl (by decide) (by omega) 0 (ok := fun _ => True) (okp := fun _ => True) rfl (fun _ hk => hk) trivial (of_decide_eq_true (by first | (with_reducible assumption) | assumption)) (Nat.le_trans (Nat.mul_le_mul_right _ (of_decide_eq_true (by first | (with_reducible assumption) | assumption) : (l0.length : Int).toNat ≤ 35184372088832)) (by omega)) (Below.refl _ _) (Nat.le_refl _) ?_; intro v117 w4 ho5 hb hg_ hnew_; clear hg_ hnew_; (first | rw [← Ny116.out] at ho5 | (simp only [Int.reduceToNat] at ho5; rw [← Ny116.out] at ho5)); have n0_ := Aside0.mk (Kd.R_lower ho5 (below_size (by repeat (first | (with_reducible first | exact HB.out | apply below_alloc | apply pw_below_drewN | apply below_drew1) | exact HB.out)))); have n1_ := Aside0.mk (below_step (by repeat (first | (with_reducible first | exact HB.out | apply below_alloc | apply pw_below_drewN | apply below_drew1) | exact HB.out)) hb); clear HB; have HO118 := n0_; have HB := n1_; clear n0_ n1_; clear hb ho5))
      go_loopg [4] k (fun kq v4 w' => ∃ (x3_1 : List Int) (x4_1 : Int), v4 = .int .i64 x4_1 ∧ Aside0 (laws_toIntS.l0 kq l0 x3_1 x4_1 = some r) ∧ Aside0 (kq ≤ k) ∧ Aside0 (Kd.R (Kd.int .i64) 3 w' w.heap.size (fun _ => True) v117 x3_1) ∧ Aside0 (Below w.heap.size w w'))
      case atStart => exact ⟨(y116), (0), (by first | rfl | (simp; done) | (simp [*]; done)), H', ⟨Nat.le_refl _⟩, ⟨by (with_reducible repeat (first | apply Kd.R_alloc | apply Kd.R_drewN | apply Kd.R_drew)); exact HO118.out⟩, ⟨by repeat (first | (with_reducible first | exact HB.out | apply below_alloc | apply pw_below_drewN | apply below_drew1) | exact HB.out)⟩⟩
      case round =>
        clear H'
        try clear c2
        try clear c2b0
        try clear c2b1
        try clear p2
        try clear c3
        try clear c3b0
        try clear c3b1
        obtain ⟨x3_1, x4_1, rfl, HA, HK1, HO_3, HB⟩ := hrel
        cases gk with
        | zero => exact absurd HA.out (by simp [laws_toIntS.l0])
        | succ k1 =>
          have H := HA.out
          clear HA
          simp only [laws_toIntS.l0] at H
          by_cases c6 : x4_1 < (l0.length : Int)
          · rw [if_pos c6] at H
            have c6b0 : decide (x4_1 < (l0.length : Int)) = true := decide_eq_true c6
            clear c6
            by_cases c7 : 0 ≤ x4_1
            · rw [if_pos c7] at H
              have c7b0 : decide (0 ≤ x4_1) = true := decide_eq_true c7
              clear c7
              by_cases c8 : x4_1 < (x3_1.length : Int)
              · rw [if_pos c8] at H
                have c8b0 : decide (x4_1 < (x3_1.length : Int)) = true := decide_eq_true c8
                clear c8
                obtain ⟨y120, hy120⟩ : ∃ y_ : List Int, y_ = (x3_1.set (x4_1 : Int).toNat (rd l0 x4_1)) := ⟨_, rfl⟩
                replace H : (laws_toIntS.l0 k1 l0 y120 (wrap64 (x4_1 + 1))) = some r := by first | (rw [hy120]; with_reducible exact H) | (have H2_ := (Option.bind_some _ _).symm.trans H; rw [hy120]; with_reducible exact H2_) | (have H2_ := (Option.bind_some _ _).symm.trans H; with_reducible exact H2_) | with_reducible exact H | (rw [hy120]; exact H) | exact H
                have Ny120 := Aside0.mk hy120
                clear hy120
                have H' := Aside0.mk H
                clear H
                have p119 : 0 ≤ (x4_1 : Int) := of_decide_eq_true (by first | (with_reducible assumption) | assumption)
                have q119 : x4_1 < (l0.length : Int) := of_decide_eq_true (by first | (with_reducible assumption) | assumption)
                obtain ⟨ad119, e119, hx119_0⟩ := Kd.at_int HR0.out x4_1 p119 q119
                cases e119
                replace hx119_0 := (HB.out.cell (World.block_lt_of_cell? w _ hx119_0)).trans hx119_0
                replace p119 := eq_true p119
                replace q119 := eq_true q119
                have p9 : 0 ≤ (x4_1 : Int) := of_decide_eq_true (by first | (with_reducible assumption) | assumption)
                have q9 : (x4_1 : Int) < ((x3_1.length : Int) : Int) := of_decide_eq_true (by first | (with_reducible assumption) | assumption)
                obtain ⟨go9, co9, eo9, gb9, gl9, cl9, HG9⟩ := Kd.R_form HO_3.out (by omega)
                (first | cases eo9 | (injection eo9 with ea_ en_ ec_; (first | subst ea_ | (injection ea_ with ea_; subst ea_)); subst ec_; clear en_))
                have GB9 := Aside0.mk gb9
                have GG9 := Aside0.mk HG9
                clear gb9 gl9 HG9
                obtain ⟨hx9_0, hf9_0⟩ := Kd.R_celln 0 HO_3.out (x4_1 : Int) p9 q9
                replace p9 := eq_true p9
                replace q9 := eq_true q9
                have HP10 := Kd.R_putg HO_3.out (x4_1 : Int) (rd l0 x4_1)
                go_wp2_with (first | ((with_reducible refine gate_store (t := 3) (p := 20) rfl ?_); refine store_event (t := 3) (p := 20) (v := ?vo_w11) (w1 := (wr.setCell ⟨go9, (x4_1 : Int).toNat, none⟩ (.int .i64 (rd l0 x4_1)))) ?hg ?ho ?hn ?hr ?_; (case ho => rfl); (case hg => rfl); (case hn => rfl); (case hr => first | (go_simp; done) | (go_simp; rfl)); intro w11 hw; have hg : wr.grownBy w11 (some go9) := (by rw [hw]; exact HP10.2); have hp_ : Kd.R (Kd.int .i64) 3 w11 w.heap.size (fun _ => True) (.slice (some ⟨go9, 0, none⟩) x3_1.length co9) y120 := (by rw [hw, Ny120.out]; exact HP10.1); clear HP10; have n0_ := Aside0.mk (hp_); have n1_ := Aside0.mk ((by rw [hw]; exact below_set (HB.out) GB9.out : Below w.heap.size w w11)); clear HO_3; clear HB; have HO_3 := n0_; have HB := n1_; clear n0_ n1_; clear hg hw hp_))
                go_roundg k1
                case measure => have := HK1.out; omega
                case rel => exact ⟨(y120), (wrap64 (x4_1 + 1)), (by first | rfl | (simp; done) | (simp [*]; done) | (simp only [IntKind.wrap_i64]; unfold wrap64; rfl)), H', ⟨by have := HK1.out; omega⟩, ⟨by (with_reducible repeat (first | apply Kd.R_alloc | apply Kd.R_drewN | apply Kd.R_drew)); exact HO_3.out⟩, ⟨by repeat (first | (with_reducible first | exact HB.out | apply below_alloc | apply pw_below_drewN | apply below_drew1) | exact HB.out)⟩⟩
              · rw [if_neg c8] at H
                exact absurd H (by simp)
            · rw [if_neg c7] at H
              exact absurd H (by simp)
          · rw [if_neg c6] at H
            have c6b0 : decide (x4_1 < (l0.length : Int)) = false := decide_eq_false c6
            clear c6
            obtain rfl := Option.some.inj H
            go_wp2
            go_ret
            exact ⟨_, by first | rfl | (simp [errW_none, errW_some] <;> rfl) | (simp [*, errW_none, errW_some] <;> rfl), by (with_reducible repeat (first | apply Kd.R_alloc | apply Kd.R_drewN | apply Kd.R_drew)); exact HO_3.out, by repeat (first | (with_reducible first | exact HB.out | apply below_alloc | apply pw_below_drewN | apply below_drew1) | exact HB.out)⟩
    · rw [if_neg c3] at H
      exact absurd H (by simp)
  · rw [if_neg c2] at H
    exact absurd H (by simp)

/-! ### impl_within: function 17 -/
def impl_within.f (a0 : Int) (a1 : Int) (a2 : Int) : Option (Bool) := if a0 ≥ a1 then (some (decide (a0 ≤ a2))) else (some false)
set_option maxHeartbeats 8000000 in
set_option maxRecDepth 100000 in
theorem impl_within.calls (a0 : Int) (a1 : Int) (a2 : Int) (r : Bool) (w : World) (h : impl_within.f a0 a1 a2 = some r) :
    Calls Try.prog 17 #[.int .i64 a0, .int .i64 a1, .int .i64 a2] w fun e w' => e = .returned (.bool r) ∧ Drawn0 w w' := by
  have H : (if a0 ≥ a1 then (some (decide (a0 ≤ a2))) else (some false)) = some r := h
  clear h
  by_cases c4 : a0 ≥ a1
  · rw [if_pos c4] at H
    have c4b0 : decide (a1 ≤ a0) = true := decide_eq_true c4
    clear c4
    obtain rfl := Option.some.inj H
    go_enter Try.func17, Try.ntmps17
    go_wp2
    go_ret
    exact ⟨by first | rfl | (simp; done) | (simp [*]; done), by repeat (first | exact Drawn0.refl _ | apply Drawn0.step)⟩
  · rw [if_neg c4] at H
    have c4b0 : decide (a1 ≤ a0) = false := decide_eq_false c4
    clear c4
    obtain rfl := Option.some.inj H
    go_enter Try.func17, Try.ntmps17
    go_wp2
    go_ret
    exact ⟨by first | rfl | (simp; done) | (simp [*]; done), by repeat (first | exact Drawn0.refl _ | apply Drawn0.step)⟩

/-! ### impl_dayValid: function 15 -/
def impl_dayValid.f (a0 : Int) : Option (Bool) := (impl_within.f a0 0 36524).bind fun t121 => (some t121)
set_option maxHeartbeats 8000000 in
set_option maxRecDepth 100000 in
theorem impl_dayValid.calls (a0 : Int) (r : Bool) (w : World) (h : impl_dayValid.f a0 = some r) :
    Calls Try.prog 15 #[.int .i64 a0] w fun e w' => e = .returned (.bool r) ∧ Drawn0 w w' := by
  have H : ((impl_within.f a0 0 36524).bind fun t121 => (some t121)) = some r := h
  clear h
  replace H := Option.bind_eq_some_iff.mp H
  obtain ⟨t121, A20, H⟩ := H
  replace H : (some t121) = some r := H
  have A2 := Aside0.mk A20
  clear A20
  obtain rfl := Option.some.inj H
  go_enter Try.func15, Try.ntmps15
  go_wp2_with (first | ((with_reducible refine gate_callee (f := 17) rfl ?_); refine goesL_ (some 4) rfl rfl Try.func17 (by kernel_rfl) rfl #[.int .i64 a0, .int .i64 0, .int .i64 36524] rfl (by (try simp only [List.map_toArray, List.map_cons, List.map_nil]); first | done | rfl | (simp only [List.length_drop, List.length_take]; rfl)) ?_; (with_reducible refine (impl_within.calls a0 0 36524 t121 _ A2.out).mono ?_); rintro e w' ⟨rfl, ⟨nd, rfl⟩⟩; refine ⟨_, rfl, ?_⟩))
  go_ret
  exact ⟨by first | rfl | (simp; done) | (simp [*]; done), by repeat (first | exact Drawn0.refl _ | apply Drawn0.step)⟩

/-! ### impl_holidaysOf: function 14 -/
section
open Go.Maps
/-- Holiday i is a day, behind the one ahead of it. -/
def impl_holidaysOf.okE (l : List Int) (i : Nat) : Bool := decide (0 ≤ rd l (i : Int) ∧ rd l (i : Int) ≤ 36524) && (decide (i = 0) || decide (rd l ((i : Int) - 1) < rd l (i : Int)))
def impl_holidaysOf.okH (l : List Int) : Bool := decide (l.length ≤ 12) && (List.range l.length).all (impl_holidaysOf.okE l)
/-- Is it a business day? -/
def impl_holidaysOf.bus (h : List Int) (n : Int) : Bool := decide (n % 7 < 5) && !(h.contains n)
/-- The first business day from n on, d days before the last one. -/
def impl_holidaysOf.seekF (h : List Int) : Nat → Int → Int
  | 0, _ => -1
  | d + 1, n => if impl_holidaysOf.bus h n = true then n else impl_holidaysOf.seekF h d (n + 1)
def impl_holidaysOf.seekV (h : List Int) (n : Int) : Int := impl_holidaysOf.seekF h (36525 - n).toNat n
theorem impl_holidaysOf.seekF_bd (h : List Int) : ∀ (d : Nat) (n : Int), 0 ≤ n → n + d = 36525 → impl_holidaysOf.seekF h d n = -1 ∨ (n ≤ impl_holidaysOf.seekF h d n ∧ impl_holidaysOf.seekF h d n ≤ 36524 ∧ impl_holidaysOf.bus h (impl_holidaysOf.seekF h d n) = true) := by
  intro d
  induction d with
  | zero => exact fun n _ _ => .inl rfl
  | succ d ih =>
    intro n h0 h1
    simp only [impl_holidaysOf.seekF]
    by_cases c : impl_holidaysOf.bus h n = true
    · rw [if_pos c]
      exact .inr ⟨Int.le_refl _, by omega, c⟩
    · rw [if_neg c]
      rcases ih (n + 1) (by omega) (by omega) with h2 | h2
      · exact .inl h2
      · exact .inr ⟨by omega, h2.2⟩
theorem impl_holidaysOf.seekV_bd (h : List Int) {n : Int} (h0 : 0 ≤ n) (h1 : n ≤ 36525) : impl_holidaysOf.seekV h n = -1 ∨ (n ≤ impl_holidaysOf.seekV h n ∧ impl_holidaysOf.seekV h n ≤ 36524 ∧ impl_holidaysOf.bus h (impl_holidaysOf.seekV h n) = true) :=
  impl_holidaysOf.seekF_bd h _ n h0 (by omega)
theorem impl_holidaysOf.law3 : Keyed Try.prog 3 := int_keyed Try.underlying3
theorem impl_holidaysOf.zeroU (w : World) : (zeroValue 45).run Try.prog w = .ok (.agg #[]) w := by kernel_rfl
def impl_holidaysOf.lits (h : List Int) : List Lit := h.map (Lit.int .i64)
def impl_holidaysOf.Set (h : List Int) : DataW Unit := setOf (.agg []) (impl_holidaysOf.lits h)
theorem impl_holidaysOf.has (h : List Int) (n : Int) : Maps.has (impl_holidaysOf.Set h) (.int .i64 n) = h.contains n := by
  unfold impl_holidaysOf.Set impl_holidaysOf.lits
  rw [has_setOf _ _ _ (fun x hx => by obtain ⟨y, _, rfl⟩ := List.mem_map.1 hx; trivial)]
  induction h with
  | nil => rfl
  | cons x h ih =>
    simp only [List.map_cons, List.any_cons, List.contains_cons, ih]
    congr 1
    by_cases c : x = n
    · subst c
      simp [Lit.sameKey]
    · have : (n == x) = false := by simpa using fun e => c e.symm
      rw [this]
      simp [Lit.sameKey, c]
/-- A made map is the holidays'. -/
def impl_holidaysOf.Own (w : World) (b : Nat) (h : List Int) : Prop := ∃ n, w.ownsMap Try.prog 3 unitElem b n (impl_holidaysOf.Set h)
theorem impl_holidaysOf.Own.below {w w1 : World} {b : Nat} {h : List Int} (ho : impl_holidaysOf.Own w b h) (hb : Below w.heap.size w w1) : impl_holidaysOf.Own w1 b h := by
  obtain ⟨n, hn⟩ := ho
  exact ⟨n, hn.kept (grown_of_below hb none) (by simp)⟩
set_option maxHeartbeats 4000000 in
theorem impl_holidaysOf.within (a lo hi : Int) (w : World) : Calls Try.prog 17 #[.int .i64 a, .int .i64 lo, .int .i64 hi] w fun e w' => e = .returned (.bool (decide (lo ≤ a ∧ a ≤ hi))) ∧ ∃ n, w' = w.drewN n := by
  by_cases c : lo ≤ a
  · have e : decide (lo ≤ a ∧ a ≤ hi) = decide (a ≤ hi) := by simp [c]
    rw [e]
    have hd : decide (lo ≤ a) = true := decide_eq_true c
    clear e c
    go_enter Try.func17, Try.ntmps17
    go_wp2
    go_ret
    exact ⟨by first | rfl | (simp; done) | (simp [*]; done), by first | exact ⟨0, rfl⟩ | exact ⟨_, rfl⟩⟩
  · have e : decide (lo ≤ a ∧ a ≤ hi) = false := by simp; omega
    rw [e]
    have hd : decide (lo ≤ a) = false := decide_eq_false c
    clear e c
    go_enter Try.func17, Try.ntmps17
    go_wp2
    go_ret
    exact ⟨by first | rfl | (simp; done) | (simp [*]; done), by first | exact ⟨0, rfl⟩ | exact ⟨_, rfl⟩⟩
set_option maxHeartbeats 4000000 in
theorem impl_holidaysOf.day (a : Int) (w : World) : Calls Try.prog 15 #[.int .i64 a] w fun e w' => e = .returned (.bool (decide (0 ≤ a ∧ a ≤ 36524))) ∧ ∃ n, w' = w.drewN n := by
  have hm := impl_holidaysOf.within a 0 36524
  generalize decide (0 ≤ a ∧ a ≤ 36524) = v at hm ⊢
  go_enter Try.func15, Try.ntmps15
  go_wp2_with (go_at_call 17; refine (hm _).mono ?_; rintro e w1 ⟨rfl, n1, rfl⟩)
  go_ret
  exact ⟨rfl, n1, rfl⟩
set_option maxHeartbeats 4000000 in
theorem impl_holidaysOf.opens (b : Nat) (h : List Int) (n : Int) (w : World) (ho : impl_holidaysOf.Own w b h) (h0 : 0 ≤ n) (h1 : n ≤ 36525) :
    Calls Try.prog 16 #[.map (some b), .int .i64 n] w fun e w' => e = .returned (.bool (impl_holidaysOf.bus h n)) ∧ Below w.heap.size w w' := by
  obtain ⟨m, hown⟩ := ho
  have HOW := Aside0.mk hown
  have HH := Aside0.mk (impl_holidaysOf.has h n)
  have HK := Aside0.mk (keyOf_int_mk (P := Try.prog) (k := 3) Try.underlying3 (WalkArith.wf_i64 (n := n) (by omega)) : keyOf Try.prog 3 (.int .i64 n) = some (.int .i64 n))
  unfold impl_holidaysOf.bus
  clear hown
  generalize h.contains n = q at HH ⊢
  by_cases c : n % 7 < 5
  · have hd : decide (n % 7 < 5) = true := decide_eq_true c
    rw [hd, Bool.true_and]
    go_enter Try.func16, Try.ntmps16
    go_wp2_with (at_lookup; refine wpList_lookup_own_unit _ rfl _ _ 33 rfl 3 45 impl_holidaysOf.law3 Try.underlying33 (impl_holidaysOf.zeroU _) b m _ rfl HOW.out _ _ rfl HK.out ?_; rw [HH.out])
    go_ret
    exact ⟨by cases q <;> rfl, by repeat (first | exact (Below.refl _ _).alloc (Nat.le_refl _) _ | exact Below.refl _ _ | apply pw_below_drewN)⟩
  · have hd : decide (n % 7 < 5) = false := decide_eq_false c
    rw [hd, Bool.false_and]
    go_enter Try.func16, Try.ntmps16
    go_wp2_with (at_lookup; refine wpList_lookup_own_unit _ rfl _ _ 33 rfl 3 45 impl_holidaysOf.law3 Try.underlying33 (impl_holidaysOf.zeroU _) b m _ rfl HOW.out _ _ rfl HK.out ?_; rw [HH.out])
    go_ret
    exact ⟨rfl, by repeat (first | exact (Below.refl _ _).alloc (Nat.le_refl _) _ | exact Below.refl _ _ | apply pw_below_drewN)⟩
set_option maxHeartbeats 4000000 in
theorem impl_holidaysOf.seeks (b : Nat) (h : List Int) (n : Int) (w : World) (ho : impl_holidaysOf.Own w b h) (h0 : 0 ≤ n) (h1 : n ≤ 36525) :
    Calls Try.prog 18 #[.map (some b), .int .i64 n, .int .i64 1] w fun e w' => e = .returned (.int .i64 (impl_holidaysOf.seekV h n)) ∧ Below w.heap.size w w' := by
  have HO := Aside0.mk ho
  clear ho
  generalize hv : impl_holidaysOf.seekV h n = v
  have HV := Aside0.mk hv
  clear hv
  go_enter Try.func18, Try.ntmps18
  go_wp2
  go_loopg [1] (36525 - n).toNat (fun gg v1 wr => ∃ m : Int, v1 = .int .i64 m ∧ 0 ≤ m ∧ m ≤ 36525 ∧ (36525 - m).toNat ≤ gg ∧ Aside0 (impl_holidaysOf.seekF h (36525 - m).toNat m = v) ∧ Aside0 (Below w.heap.size w wr))
  case atStart => exact ⟨n, rfl, h0, h1, Nat.le_refl _, ⟨HV.out⟩, ⟨Below.refl _ _⟩⟩
  case round =>
    obtain ⟨m, rfl, hm0, hm1, hgg, HS, HB⟩ := hrel
    have hcall := impl_holidaysOf.day m
    by_cases c : m ≤ 36524
    · have hd1 : decide (0 ≤ m ∧ m ≤ 36524) = true := decide_eq_true ⟨hm0, c⟩
      rw [hd1] at hcall
      clear hd1
      have hop := fun w1 (hb : Below w.heap.size w w1) => impl_holidaysOf.opens b h m w1 (HO.out.below hb) hm0 hm1
      obtain ⟨d, hd⟩ : ∃ d, (36525 - m).toNat = d + 1 := ⟨(36525 - m).toNat - 1, by omega⟩
      have hs := HS.out
      rw [hd] at hs
      simp only [impl_holidaysOf.seekF] at hs
      have hd2 : (36525 - (m + 1)).toNat = d := by omega
      by_cases q : impl_holidaysOf.bus h m = true
      · rw [if_pos q] at hs
        rw [q] at hop
        have HOP := Aside0.mk hop
        have HS2 := Aside0.mk hs
        clear hop hs q hd hd2
        go_wp2_with (first | (go_at_call 15; refine (hcall _).mono ?_; rintro e w1 ⟨rfl, nd, rfl⟩) | (go_at_call 16; refine (HOP.out _ (pw_below_drewN HB.out _)).mono ?_; rintro e w2 ⟨rfl, hb2⟩; have HB2 := Aside0.mk ((pw_below_drewN HB.out nd).trans (hb2.mono (pw_below_drewN HB.out nd).size)); clear hb2))
        go_ret
        exact ⟨by first | rfl | (rw [HS2.out]; rfl) | (rw [← HS2.out]; rfl), HB2.out⟩
      · have q2 : impl_holidaysOf.bus h m = false := by simpa using q
        rw [if_neg q] at hs
        rw [q2] at hop
        have HOP := Aside0.mk hop
        have HS2 := Aside0.mk hs
        have HD := Aside0.mk hd2
        have hdl : d + 1 ≤ gk := by omega
        clear hop hs q q2 hd hd2
        go_wp2_with (first | (go_at_call 15; refine (hcall _).mono ?_; rintro e w1 ⟨rfl, nd, rfl⟩) | (go_at_call 16; refine (HOP.out _ (pw_below_drewN HB.out _)).mono ?_; rintro e w2 ⟨rfl, hb2⟩; have HB2 := Aside0.mk ((pw_below_drewN HB.out nd).trans (hb2.mono (pw_below_drewN HB.out nd).size)); clear hb2))
        go_roundg d
        case measure => omega
        case rel => exact ⟨m + 1, rfl, by omega, by omega, by rw [HD.out]; exact Nat.le_refl _, ⟨by rw [HD.out]; exact HS2.out⟩, HB2⟩
    · have hd1 : decide (0 ≤ m ∧ m ≤ 36524) = false := decide_eq_false (by omega)
      rw [hd1] at hcall
      clear hd1
      have hs := HS.out
      rw [show (36525 - m).toNat = 0 by omega] at hs
      have HS2 := Aside0.mk hs
      clear hs
      go_wp2_with (go_at_call 15; refine (hcall _).mono ?_; rintro e w1 ⟨rfl, nd, rfl⟩)
      go_ret
      exact ⟨by rw [← HS2.out]; rfl, pw_below_drewN HB.out _⟩
/-- What the call gives: the holidays' map, or none. -/
def impl_holidaysOf.Post (h : List Int) (w : World) (e : Ending) (w' : World) : Prop :=
  if impl_holidaysOf.okH h = true then e = .returned (.tuple #[.map (some w.heap.size), .bool true]) ∧ impl_holidaysOf.Own w' w.heap.size h ∧ Below w.heap.size w w' else e = .returned (.tuple #[.map none, .bool false]) ∧ Below w.heap.size w w'
/-- The head of each round. -/
def impl_holidaysOf.Rel (h : List Int) (w : World) (gg : Nat) (v13 : Value) (wr : World) : Prop :=
  ∃ n : Nat, n ≤ h.length ∧ v13 = .int .i64 n ∧ h.length - n ≤ gg ∧ (∀ j, j < n → impl_holidaysOf.okE h j = true) ∧ wr.ownsMap Try.prog 3 unitElem w.heap.size n (impl_holidaysOf.Set (h.take n)) ∧ Below w.heap.size w wr
set_option maxHeartbeats 8000000 in
set_option maxRecDepth 100000 in
theorem impl_holidaysOf.calls0 (A : Option Addr) (c : Nat) (h : List Int) (w : World) (hr : Kd.C (Kd.int .i64) w A h.length h) :
    Calls Try.prog 14 #[.slice A h.length c] w (impl_holidaysOf.Post h w) := by
  have HR := Aside0.mk hr
  clear hr
  have hno : impl_holidaysOf.okH h = false → ∀ e w', e = .returned (.tuple #[.map none, .bool false]) → Below w.heap.size w w' → impl_holidaysOf.Post h w e w' := by
    intro h1 e w' h2 h3
    unfold impl_holidaysOf.Post
    rw [if_neg (by rw [h1]; decide)]
    exact ⟨h2, h3⟩
  have hyes : impl_holidaysOf.okH h = true → ∀ w', impl_holidaysOf.Own w' w.heap.size h → Below w.heap.size w w' → impl_holidaysOf.Post h w (.returned (.tuple #[.map (some w.heap.size), .bool true])) w' := by
    intro h1 w' h2 h3
    unfold impl_holidaysOf.Post
    rw [if_pos h1]
    exact ⟨rfl, h2, h3⟩
  have hbad : ∀ n : Nat, n < h.length → impl_holidaysOf.okE h n = false → impl_holidaysOf.okH h = false := by
    intro n hn h1
    unfold impl_holidaysOf.okH
    rw [Bool.and_eq_false_iff]
    refine .inr ?_
    rw [List.all_eq_false]
    exact ⟨n, List.mem_range.2 hn, by rw [h1]; decide⟩
  have hgood : h.length ≤ 12 → (∀ j, j < h.length → impl_holidaysOf.okE h j = true) → impl_holidaysOf.okH h = true := by
    intro h1 h2
    unfold impl_holidaysOf.okH
    rw [decide_eq_true h1, Bool.true_and, List.all_eq_true]
    exact fun j hj => h2 j (List.mem_range.1 hj)
  have hlong : ¬ h.length ≤ 12 → impl_holidaysOf.okH h = false := by
    intro h1
    unfold impl_holidaysOf.okH
    rw [decide_eq_false h1]
    rfl
  generalize impl_holidaysOf.Post h w = PP at hno hyes ⊢
  have HNO := Aside0.mk hno
  have HYES := Aside0.mk hyes
  have HBAD := Aside0.mk hbad
  have HGOOD := Aside0.mk hgood
  have HLONG := Aside0.mk hlong
  clear hno hyes hbad hgood hlong
  by_cases hl : h.length ≤ 12
  · have hd : decide (12 < (h.length : Int)) = false := decide_eq_false (by omega)
    have hmm := @run_makeMap Try.prog
    go_enter Try.func14, Try.ntmps14
    go_wp2
    go_loopg [13] h.length (fun gg v13 wr => impl_holidaysOf.Rel h w gg v13 wr)
    case atStart => exact ⟨0, Nat.zero_le _, rfl, by omega, fun j hj => absurd hj (Nat.not_lt_zero j), World.ownsMap_made _ _ _ _, (Below.refl _ _).alloc (Nat.le_refl _) _⟩
    case round =>
      obtain ⟨n, hn, rfl, hgg, hall, hown, hbr⟩ := hrel
      by_cases hlt : n < h.length
      · have hltz : (n : Int) < (h.length : Int) := by omega
        obtain ⟨ad, rfl, hy0⟩ := Kd.at_int HR.out (n : Int) (by omega) (by omega)
        rw [Int.toNat_natCast] at hy0
        replace hy0 := (hbr.cell (World.block_lt_of_cell? w _ hy0)).trans hy0
        have hok : impl_holidaysOf.okE h n = (decide (0 ≤ rd h (n : Int) ∧ rd h (n : Int) ≤ 36524) && (decide (n = 0) || decide (rd h ((n : Int) - 1) < rd h (n : Int)))) := rfl
        have hpv : 0 < n → wr.cell? (ad.add (n - 1)) = some (.int .i64 (rd h ((n : Int) - 1))) := by
          intro h0
          obtain ⟨ad2, e, hy⟩ := Kd.at_int HR.out ((n : Int) - 1) (by omega) (by omega)
          have e2 : ((n : Int) - 1).toNat = n - 1 := by omega
          rw [e2] at hy
          cases e
          exact (hbr.cell (World.block_lt_of_cell? w _ hy)).trans hy
        have hset : impl_holidaysOf.Set (h.take (n + 1)) = (impl_holidaysOf.Set (h.take n)).put (.int .i64 (rd h (n : Int))) (.agg []) := by
          have e : rd h (n : Int) = h[n] := by
            unfold rd
            rw [List.getD_eq_getElem?_getD, Int.toNat_natCast, List.getElem?_eq_getElem hlt]
            rfl
          unfold impl_holidaysOf.Set impl_holidaysOf.lits
          rw [List.take_succ_eq_append_getElem hlt, List.map_append, List.map_cons, List.map_nil, setOf_snoc, e]
        have HSET := Aside0.mk hset
        have HALL := Aside0.mk hall
        have HOK := Aside0.mk hok
        have HG := Aside0.mk hgg
        have HOW := Aside0.mk hown
        have HBR := Aside0.mk hbr
        clear hall hok hgg hown hbr hset
        have hcall := impl_holidaysOf.day (rd h (n : Int))
        generalize rd h (n : Int) = x at hy0 HOK hpv hcall HSET
        generalize rd h ((n : Int) - 1) = p at HOK hpv
        by_cases h1 : 0 ≤ x ∧ x ≤ 36524
        · have hd1 : decide (0 ≤ x ∧ x ≤ 36524) = true := decide_eq_true h1
          rw [hd1] at hcall
          have HK := Aside0.mk (keyOf_int_mk (P := Try.prog) (k := 3) Try.underlying3 (WalkArith.wf_i64 (n := x) (by omega)) : keyOf Try.prog 3 (.int .i64 x) = some (.int .i64 x))
          by_cases hz : n = 0
          · subst hz
            rw [Addr.add_zero'] at hy0
            clear hpv
            have hyes : impl_holidaysOf.okE h 0 = true := by rw [HOK.out, hd1]; rfl
            have HYE := Aside0.mk hyes
            clear hyes hd1 h1
            go_wp2_with (first
              | (go_at_call 15; refine (hcall _).mono ?_; rintro e w4 ⟨rfl, nd, rfl⟩)
              | (at_mapUpdate; refine wpList_mapUpdate_own _ rfl _ _ _ 33 rfl 3 45 impl_holidaysOf.law3 Try.underlying33 _ w.heap.size 0 _ rfl HOW.out (by unfold maxLen; omega) _ _ _ rfl rfl HK.out _ [] unitElem_mk ?_; intro w5 hown5 hgrow5; have HO5 := Aside0.mk hown5; have HG5 := Aside0.mk hgrow5; clear hown5 hgrow5))
            go_roundg (h.length - 1)
            case measure => have := HG.out; omega
            case rel => exact ⟨1, by omega, by go_num, Nat.le_refl _, (fun j hj => by have e : j = 0 := (by omega); subst e; exact HYE.out), by rw [HSET.out]; exact HO5.out, (pw_below_drewN HBR.out _).grown HG5.out (pw_below_drewN HBR.out nd).size (fun k hk => by cases hk; exact Nat.le_refl _)⟩
          · have hpv2 := hpv (by omega)
            have hn0 : decide (0 < (n : Int)) = true := decide_eq_true (by omega)
            have hw1 : IntKind.i64.wrap ((n : Int) - 1) = (n : Int) - 1 := by rw [IntKind.wrap_i64]; omega
            have hw2 : ((n : Int) - 1).toNat = n - 1 := by omega
            have hw3 : (0 : Int) ≤ (n : Int) - 1 := by omega
            have hw4 : (n : Int) - 1 < (h.length : Int) := by omega
            have hw5 : (1 : Int) ≤ (n : Int) := by omega
            have hw6 : 1 ≤ n := by omega
            have hw7 : 0 < n := by omega
            clear hpv
            by_cases h2 : p < x
            · have hd2 : decide (x ≤ p) = false := decide_eq_false (by omega)
              have hyes : impl_holidaysOf.okE h n = true := by rw [HOK.out, hd1, decide_eq_true h2]; simp
              have HYE := Aside0.mk hyes
              clear hyes hd1 h1
              go_wp2_with (first
                | (go_at_call 15; refine (hcall _).mono ?_; rintro e w4 ⟨rfl, nd, rfl⟩)
                | (at_mapUpdate; refine wpList_mapUpdate_own _ rfl _ _ _ 33 rfl 3 45 impl_holidaysOf.law3 Try.underlying33 _ w.heap.size n _ rfl HOW.out (by unfold maxLen; omega) _ _ _ rfl rfl HK.out _ [] unitElem_mk ?_; intro w5 hown5 hgrow5; have HO5 := Aside0.mk hown5; have HG5 := Aside0.mk hgrow5; clear hown5 hgrow5))
              go_roundg (h.length - (n + 1))
              case measure => have := HG.out; omega
              case rel => exact ⟨n + 1, by omega, by go_num, Nat.le_refl _, (fun j hj => (Nat.lt_succ_iff_lt_or_eq.1 hj).elim (fun h => HALL.out j h) (fun h => h ▸ HYE.out)), by rw [HSET.out]; exact HO5.out, (pw_below_drewN HBR.out _).grown HG5.out (pw_below_drewN HBR.out nd).size (fun k hk => by cases hk; exact Nat.le_refl _)⟩
            · have hd2 : decide (x ≤ p) = true := decide_eq_true (by omega)
              have HB := Aside0.mk (HBAD.out n hlt (by rw [HOK.out, hd1, decide_eq_false h2, decide_eq_false hz]; rfl))
              clear hd1 h1
              go_wp2_with (go_at_call 15; refine (hcall _).mono ?_; rintro e w4 ⟨rfl, nd, rfl⟩)
              (first | go_ret2 | skip)
              exact HNO.out HB.out _ _ rfl (by repeat (first | exact HBR.out | apply pw_below_drewN))
        · have hd1 : decide (0 ≤ x ∧ x ≤ 36524) = false := decide_eq_false h1
          rw [hd1] at hcall
          have HB := Aside0.mk (HBAD.out n hlt (by rw [HOK.out, hd1]; rfl))
          clear hd1 h1 hpv
          go_wp2_with (go_at_call 15; refine (hcall _).mono ?_; rintro e w4 ⟨rfl, nd, rfl⟩)
          (first | go_ret2 | skip)
          exact HNO.out HB.out _ _ rfl (by repeat (first | exact HBR.out | apply pw_below_drewN))
      · have hltz : ¬ (n : Int) < (h.length : Int) := by omega
        obtain rfl : n = h.length := by omega
        rw [List.take_length] at hown
        have HG := Aside0.mk (HGOOD.out hl hall)
        have HOW := Aside0.mk hown
        have HBR := Aside0.mk hbr
        clear hall hown hbr hgg
        go_wp2
        (first | go_ret2 | skip)
        exact HYES.out HG.out _ ⟨_, HOW.out⟩ HBR.out
  · have hd : decide (12 < (h.length : Int)) = true := decide_eq_true (by omega)
    have HL := Aside0.mk (HLONG.out hl)
    go_enter Try.func14, Try.ntmps14
    go_wp2
    (first | go_ret2 | skip)
    exact HNO.out HL.out _ _ rfl (Below.refl _ _)
end


-- NOT PRINTED: function 16 (impl_holidays_open)

-- NOT PRINTED: function 18 (impl_holidays_seek)

/-! ### impl_AddBusiness: function 11 -/
def impl_AddBusiness.addV (h : List Int) : Nat → Int → Int
  | 0, at_ => at_
  | k + 1, at_ => if 0 ≤ at_ then impl_AddBusiness.addV h k (impl_holidaysOf.seekV h (at_ + 1)) else at_
def impl_AddBusiness.v (h : List Int) (n m : Int) : Int := if impl_holidaysOf.okH h = true ∧ (0 ≤ n ∧ n ≤ 36524) ∧ (0 ≤ m ∧ m ≤ 30) then impl_AddBusiness.addV h m.toNat (impl_holidaysOf.seekV h n) else -1
def impl_AddBusiness.f (l0 : List Int) (a1 : Int) (a2 : Int) : Option Int := some (impl_AddBusiness.v l0 a1 a2)
set_option maxHeartbeats 8000000 in
set_option maxRecDepth 100000 in
theorem impl_AddBusiness.calls (A0 : Option Addr) (c0 : Nat) (l0 : List Int) (a1 : Int) (a2 : Int) (r : Int) (w : World) (hr0 : Kd.C (Kd.int .i64) w A0 l0.length l0) (hc0 : l0.length ≤ c0) (h : impl_AddBusiness.f l0 a1 a2 = some r) :
    Calls Try.prog 11 #[.slice A0 l0.length c0, .int .i64 a1, .int .i64 a2] w fun e w' => e = .returned (.int .i64 r) ∧ Below w.heap.size w w' := by
  have HRES := Aside0.mk (Option.some.inj h)
  clear h
  have hq := impl_holidaysOf.calls0 A0 c0 l0 w hr0
  unfold impl_holidaysOf.Post at hq
  clear hr0 hc0
  have hday := impl_holidaysOf.day a1
  have hmany := impl_holidaysOf.within a2 0 30
  by_cases ho : impl_holidaysOf.okH l0 = true
  · simp only [if_pos ho] at hq
    have HQ := Aside0.mk hq
    clear hq
    by_cases hd : 0 ≤ a1 ∧ a1 ≤ 36524
    · have hd1 : decide (0 ≤ a1 ∧ a1 ≤ 36524) = true := decide_eq_true hd
      rw [hd1] at hday
      by_cases hm : 0 ≤ a2 ∧ a2 ≤ 30
      · have hm1 : decide (0 ≤ a2 ∧ a2 ≤ 30) = true := decide_eq_true hm
        rw [hm1] at hmany
        have hres : impl_AddBusiness.addV l0 a2.toNat (impl_holidaysOf.seekV l0 a1) = r := by
          rw [← HRES.out]
          exact (if_pos ⟨ho, hd, hm⟩).symm
        have HR2 := Aside0.mk hres
        clear hres ho hd1 hm1 HRES
        have hsk := fun w1 (ho : impl_holidaysOf.Own w1 w.heap.size l0) (n : Int) (h0 : 0 ≤ n) (h1 : n ≤ 36525) => impl_holidaysOf.seeks w.heap.size l0 n w1 ho h0 h1
        have HSK := Aside0.mk hsk
        clear hsk
        obtain ⟨s0, hs0⟩ : ∃ s, s = impl_holidaysOf.seekV l0 a1 := ⟨_, rfl⟩
        have hsb := impl_holidaysOf.seekV_bd l0 hd.1 (show a1 ≤ 36525 by omega)
        rw [← hs0] at hsb
        have hsb2 : -1 ≤ s0 ∧ s0 ≤ 36524 := by rcases hsb with h | h <;> omega
        have HS0 := Aside0.mk hs0
        obtain ⟨gmax, hgm⟩ : ∃ n : Nat, a2.toNat ≤ n := ⟨_, Nat.le_refl _⟩
        clear hs0 hsb
        go_enter Try.func11, Try.ntmps11
        go_wp2_with (first
          | (go_at_call 14; refine HQ.out.mono ?_; rintro e w1 ⟨rfl, hown, hb1⟩; have HOW := Aside0.mk hown; have HB1 := Aside0.mk hb1; clear hown hb1)
          | (go_at_call 15; refine (hday _).mono ?_; rintro e w2 ⟨rfl, nd, rfl⟩)
          | (go_at_call 17; refine (hmany _).mono ?_; rintro e w3 ⟨rfl, nd2, rfl⟩)
          | (go_at_call 18; refine (HSK.out _ (HOW.out.below (by repeat (first | exact Below.refl _ _ | apply pw_below_drewN))) a1 hd.1 (by omega)).mono ?_; rintro e w4 ⟨rfl, hb4⟩; rw [← HS0.out]; have HB4 := Aside0.mk ((pw_below_drewN HB1.out _).trans (hb4.mono (pw_below_drewN HB1.out _).size)); have HO4 := Aside0.mk ((HOW.out.below (pw_below_drewN (Below.refl _ _) _)).below hb4); clear hb4))
        go_loopg [2, 9] gmax (fun gg v2 v9 wr => ∃ (k : Nat) (s : Int), v2 = .int .i64 k ∧ v9 = .int .i64 s ∧ k ≤ gg ∧ k ≤ 30 ∧ -1 ≤ s ∧ s ≤ 36524 ∧ Aside0 (impl_AddBusiness.addV l0 k s = r) ∧ Aside0 (impl_holidaysOf.Own wr w.heap.size l0) ∧ Aside0 (Below w.heap.size w wr))
        case atStart => exact ⟨a2.toNat, s0, by rw [show ((a2.toNat : Nat) : Int) = a2 by omega], rfl, hgm, by omega, hsb2.1, hsb2.2, ⟨by rw [HS0.out]; exact HR2.out⟩, HO4, HB4⟩
        case round =>
          clear HO4 HB4 HOW HB1
          obtain ⟨k, s, rfl, rfl, hk, hk30, hs1, hs2, HA, HO, HB⟩ := hrel
          by_cases hk0 : 0 < k
          · have hkz : (0 : Int) < (k : Int) := by omega
            obtain ⟨k2, hk2⟩ : ∃ k2, k = k2 + 1 := ⟨k - 1, by omega⟩
            by_cases hs : 0 ≤ s
            · have ha := HA.out
              rw [hk2] at ha
              simp only [impl_AddBusiness.addV] at ha
              rw [if_pos hs] at ha
              have hb := impl_holidaysOf.seekV_bd l0 (show 0 ≤ s + 1 by omega) (show s + 1 ≤ 36525 by omega)
              have hcall := HSK.out wr HO.out (s + 1) (by omega) (by omega)
              generalize impl_holidaysOf.seekV l0 (s + 1) = s3 at ha hb hcall
              have hb2 : -1 ≤ s3 ∧ s3 ≤ 36524 := by rcases hb with h | h <;> omega
              have HA2 := Aside0.mk ha
              have HK2 := Aside0.mk hk2
              clear ha hb hk2
              go_wp2_with (go_at_call 18; refine hcall.mono ?_; rintro e w4 ⟨rfl, hb4⟩; have HB4 := Aside0.mk (HB.out.trans (hb4.mono HB.out.size)); have HO4 := Aside0.mk (HO.out.below hb4); clear hb4)
              go_roundg k2
              case measure => have := HK2.out; omega
              case rel => exact ⟨k2, s3, by have := HK2.out; rw [show (k : Int) - 1 = (k2 : Int) by omega], rfl, Nat.le_refl _, by have := HK2.out; omega, hb2.1, hb2.2, HA2, HO4, HB4⟩
            · have ha := HA.out
              rw [hk2] at ha
              simp only [impl_AddBusiness.addV] at ha
              rw [if_neg hs] at ha
              have HA2 := Aside0.mk ha
              clear ha hk2
              go_wp2
              go_ret
              exact ⟨by rw [← HA2.out]; rfl, HB.out⟩
          · obtain rfl : k = 0 := by omega
            have ha := HA.out
            simp only [impl_AddBusiness.addV] at ha
            have HA2 := Aside0.mk ha
            clear ha
            go_wp2
            go_ret
            exact ⟨by rw [← HA2.out]; rfl, HB.out⟩
      · have hm1 : decide (0 ≤ a2 ∧ a2 ≤ 30) = false := decide_eq_false hm
        rw [hm1] at hmany
        have hres : r = -1 := by
          rw [← HRES.out]
          exact if_neg (fun h => hm h.2.2)
        have HR2 := Aside0.mk hres
        clear hres ho hd1 hm1 HRES hm hd
        go_enter Try.func11, Try.ntmps11
        go_wp2_with (first
          | (go_at_call 14; refine HQ.out.mono ?_; rintro e w1 ⟨rfl, hown, hb1⟩; have HB1 := Aside0.mk hb1; clear hown hb1)
          | (go_at_call 15; refine (hday _).mono ?_; rintro e w2 ⟨rfl, nd, rfl⟩)
          | (go_at_call 17; refine (hmany _).mono ?_; rintro e w3 ⟨rfl, nd2, rfl⟩))
        go_ret
        exact ⟨by rw [HR2.out]; rfl, by repeat (first | exact HB1.out | apply pw_below_drewN)⟩
    · have hd1 : decide (0 ≤ a1 ∧ a1 ≤ 36524) = false := decide_eq_false hd
      rw [hd1] at hday
      have hres : r = -1 := by
        rw [← HRES.out]
        exact if_neg (fun h => hd h.2.1)
      have HR2 := Aside0.mk hres
      clear hres ho hd1 HRES hd
      go_enter Try.func11, Try.ntmps11
      go_wp2_with (first
        | (go_at_call 14; refine HQ.out.mono ?_; rintro e w1 ⟨rfl, hown, hb1⟩; have HB1 := Aside0.mk hb1; clear hown hb1)
        | (go_at_call 15; refine (hday _).mono ?_; rintro e w2 ⟨rfl, nd, rfl⟩))
      go_ret
      exact ⟨by rw [HR2.out]; rfl, by repeat (first | exact HB1.out | apply pw_below_drewN)⟩
  · simp only [if_neg ho] at hq
    have HQ := Aside0.mk hq
    have hres : r = -1 := by
      rw [← HRES.out]
      exact if_neg (fun h => ho h.1)
    have HR2 := Aside0.mk hres
    clear hq ho hres HRES
    go_enter Try.func11, Try.ntmps11
    go_wp2_with (go_at_call 14; refine HQ.out.mono ?_; rintro e w1 ⟨rfl, hb1⟩; have HB1 := Aside0.mk hb1; clear hb1)
    go_ret
    exact ⟨by rw [HR2.out]; rfl, HB1.out⟩


/-! ### impl_SettleDay: function 7 -/
def impl_SettleDay.f (l0 : List Int) (a1 : Int) (a2 : Int) : Option (Int) := (impl_AddBusiness.f l0 a1 a2).bind fun t122 => (some t122)
set_option maxHeartbeats 8000000 in
set_option maxRecDepth 100000 in
theorem impl_SettleDay.calls (A0 : Option Addr) (c0 : Nat) (l0 : List Int) (a1 : Int) (a2 : Int) (r : Int) (w : World) (hr0 : Kd.C (Kd.int .i64) w A0 l0.length l0) (hc0 : l0.length ≤ c0) (h : impl_SettleDay.f l0 a1 a2 = some r) :
    Calls Try.prog 7 #[.slice A0 l0.length c0, .int .i64 a1, .int .i64 a2] w fun e w' => e = .returned (.int .i64 r) ∧ Below w.heap.size w w' := by
  have HR0 := Aside0.mk hr0
  have HC0 := Aside0.mk hc0
  clear hr0 hc0
  have HB := Aside0.mk (Below.refl w.heap.size w)
  have H : ((impl_AddBusiness.f l0 a1 a2).bind fun t122 => (some t122)) = some r := h
  clear h
  replace H := Option.bind_eq_some_iff.mp H
  obtain ⟨t122, A40, H⟩ := H
  replace H : (some t122) = some r := H
  have A4 := Aside0.mk A40
  clear A40
  obtain rfl := Option.some.inj H
  go_enter Try.func7, Try.ntmps7
  go_wp2_with (first | ((with_reducible refine gate_callee (f := 11) rfl ?_); refine goesL_ (some 10) rfl rfl Try.func11 (by kernel_rfl) rfl #[.slice A0 l0.length c0, .int .i64 a1, .int .i64 a2] rfl (by (try simp only [List.map_toArray, List.map_cons, List.map_nil]); first | done | rfl | (simp only [List.length_drop, List.length_take]; rfl)) ?_; (with_reducible refine (impl_AddBusiness.calls _ _ l0 a1 a2 t122 _ ?side1 ?side2 A4.out).mono ?_); (case side1 => repeat (first | exact HR0.out | (with_reducible refine Kd.C_alloc ?_ _) | (with_reducible refine Kd.C_drewN ?_ _) | (with_reducible refine Kd.C_drew ?_))); (case side2 => exact HC0.out); rintro e w5 ⟨rfl, hb⟩; refine ⟨_, rfl, ?_⟩; have n0_ := Aside0.mk (below_step (by repeat (first | (with_reducible first | exact HB.out | apply below_alloc | apply pw_below_drewN | apply below_drew1) | exact HB.out)) hb); clear HB; have HB := n0_; clear n0_; (try clear hb); (try clear hb2); (try clear hk); (try clear hi)))
  go_ret
  exact ⟨by first | rfl | (simp [errW_none, errW_some] <;> rfl) | (simp [*, errW_none, errW_some] <;> rfl), by repeat (first | (with_reducible first | exact HB.out | apply below_alloc | apply pw_below_drewN | apply below_drew1) | exact HB.out)⟩

/-! ### laws_eqIntS: function 8 -/
def laws_eqIntS.l0 : Nat → List Int → List Int → Int → Option (Bool)
  | 0, _, _, _ => none
  | k + 1, x0, x1, x5 => if x5 < (x0.length : Int) then (if 0 ≤ x5 then (if x5 < (x1.length : Int) then (if (rd x0 x5) = (rd x1 x5) then (laws_eqIntS.l0 k x0 x1 (wrap64 (x5 + 1))) else (some false)) else (none)) else (none)) else (some true)
def laws_eqIntS.f (k : Nat) (l0 : List Int) (l1 : List Int) : Option (Bool) := if (l0.length : Int) = (l1.length : Int) then (laws_eqIntS.l0 k l0 l1 0) else (some false)
theorem laws_eqIntS.mono_l : ∀ k, (∀ y0 y1 y2, LeO (laws_eqIntS.l0 k y0 y1 y2) (laws_eqIntS.l0 (k + 1) y0 y1 y2))
  | 0 => fun _ _ _ r h => by simp [laws_eqIntS.l0] at h
  | k + 1 => by
    have ih0 := laws_eqIntS.mono_l k
    · intro y0 y1 y2
      unfold laws_eqIntS.l0
      repeat' first
      | (with_reducible exact ih0 _ _ _)
      | (with_reducible exact LeO.refl _)
      | (with_reducible exact LeO.none _)
      | (with_reducible refine LeO.ite ?_ ?_)
      | (with_reducible refine LeO.bind ?_ (fun _ => ?_))
      | exact ih0 _ _ _
      | exact LeO.none _
      | refine LeO.ite ?_ ?_
      | refine LeO.bind ?_ (fun _ => ?_)
theorem laws_eqIntS.mono : ∀ a0 a1 k, LeO (laws_eqIntS.f k a0 a1) (laws_eqIntS.f (k + 1) a0 a1) := by
  intro a0 a1 k
  have ih0 := laws_eqIntS.mono_l k
  unfold laws_eqIntS.f
  repeat' first
      | (with_reducible exact ih0 _ _ _)
      | (with_reducible exact LeO.refl _)
      | (with_reducible exact LeO.none _)
      | (with_reducible refine LeO.ite ?_ ?_)
      | (with_reducible refine LeO.bind ?_ (fun _ => ?_))
      | exact ih0 _ _ _
      | exact LeO.none _
      | refine LeO.ite ?_ ?_
      | refine LeO.bind ?_ (fun _ => ?_)
set_option maxHeartbeats 8000000 in
set_option maxRecDepth 100000 in
theorem laws_eqIntS.calls (k : Nat) (A0 : Option Addr) (c0 : Nat) (l0 : List Int) (A1 : Option Addr) (c1 : Nat) (l1 : List Int) (r : Bool) (w : World) (hr0 : Kd.C (Kd.int .i64) w A0 l0.length l0) (hc0 : l0.length ≤ c0) (hr1 : Kd.C (Kd.int .i64) w A1 l1.length l1) (hc1 : l1.length ≤ c1) (h : laws_eqIntS.f k l0 l1 = some r) :
    Calls Try.prog 8 #[.slice A0 l0.length c0, .slice A1 l1.length c1] w fun e w' => e = .returned (.bool r) ∧ Drawn0 w w' := by
  have HR0 := Aside0.mk hr0
  have HC0 := Aside0.mk hc0
  clear hr0 hc0
  have HR1 := Aside0.mk hr1
  have HC1 := Aside0.mk hc1
  clear hr1 hc1
  have H : (if (l0.length : Int) = (l1.length : Int) then (laws_eqIntS.l0 k l0 l1 0) else (some false)) = some r := h
  clear h
  by_cases c3 : (l0.length : Int) = (l1.length : Int)
  · rw [if_pos c3] at H
    have c3b0 : ((l0.length : Int) == (l1.length : Int)) = true := beq_iff_eq.mpr c3
    have c3b1 : ((l0.length : Int) != (l1.length : Int)) = false := bne_eq_false_iff_eq.mpr c3
    have c3b2 : (l0.length == l1.length) = true := by first | simpa using c3 | (simp at c3 ⊢; omega)
    clear c3
    have H' := Aside0.mk H
    clear H
    go_enter Try.func8, Try.ntmps8
    go_wp2
    repeat (go_quiet (fail); try go_wp2)
    go_loopg [5] k (fun kq v5 w' => ∃ (x5_1 : Int), v5 = .int .i64 x5_1 ∧ Aside0 (laws_eqIntS.l0 kq l0 l1 x5_1 = some r) ∧ Aside0 (kq ≤ k) ∧ Drawn0 w w')
    case atStart => exact ⟨(0), (by first | rfl | (simp; done) | (simp [*]; done)), H', ⟨Nat.le_refl _⟩, by repeat (first | exact Drawn0.refl _ | apply Drawn0.step)⟩
    case round =>
      clear H'
      try clear c1
      try clear p2
      try clear c3
      try clear c3b0
      try clear c3b1
      try clear c3b2
      obtain ⟨x5_1, rfl, HA, HK1, ⟨m1, rfl⟩⟩ := hrel
      cases gk with
      | zero => exact absurd HA.out (by simp [laws_eqIntS.l0])
      | succ k1 =>
        have H := HA.out
        clear HA
        simp only [laws_eqIntS.l0] at H
        by_cases c4 : x5_1 < (l0.length : Int)
        · rw [if_pos c4] at H
          have c4b0 : decide (x5_1 < (l0.length : Int)) = true := decide_eq_true c4
          clear c4
          by_cases c5 : 0 ≤ x5_1
          · rw [if_pos c5] at H
            have c5b0 : decide (0 ≤ x5_1) = true := decide_eq_true c5
            clear c5
            by_cases c6 : x5_1 < (l1.length : Int)
            · rw [if_pos c6] at H
              have c6b0 : decide (x5_1 < (l1.length : Int)) = true := decide_eq_true c6
              clear c6
              by_cases c7 : (rd l0 x5_1) = (rd l1 x5_1)
              · rw [if_pos c7] at H
                have c7b0 : ((rd l0 x5_1) == (rd l1 x5_1)) = true := beq_iff_eq.mpr c7
                have c7b1 : ((rd l0 x5_1) != (rd l1 x5_1)) = false := bne_eq_false_iff_eq.mpr c7
                clear c7
                have H' := Aside0.mk H
                clear H
                have p123 : 0 ≤ (x5_1 : Int) := of_decide_eq_true (by first | (with_reducible assumption) | assumption)
                have q123 : x5_1 < (l0.length : Int) := of_decide_eq_true (by first | (with_reducible assumption) | assumption)
                obtain ⟨ad123, e123, hx123_0⟩ := Kd.at_int HR0.out x5_1 p123 q123
                cases e123
                replace p123 := eq_true p123
                replace q123 := eq_true q123
                have p124 : 0 ≤ (x5_1 : Int) := of_decide_eq_true (by first | (with_reducible assumption) | assumption)
                have q124 : x5_1 < (l1.length : Int) := of_decide_eq_true (by first | (with_reducible assumption) | assumption)
                obtain ⟨ad124, e124, hx124_0⟩ := Kd.at_int HR1.out x5_1 p124 q124
                cases e124
                replace p124 := eq_true p124
                replace q124 := eq_true q124
                go_wp2
                repeat (go_quiet (fail); try go_wp2)
                go_roundg k1
                case measure => have := HK1.out; omega
                case rel => exact ⟨(wrap64 (x5_1 + 1)), (by first | rfl | (simp; done) | (simp [*]; done) | (simp only [IntKind.wrap_i64]; unfold wrap64; rfl)), H', ⟨by have := HK1.out; omega⟩, by repeat (first | exact Drawn0.refl _ | apply Drawn0.step)⟩
              · rw [if_neg c7] at H
                have c7b0 : ((rd l0 x5_1) == (rd l1 x5_1)) = false := beq_eq_false_iff_ne.mpr c7
                have c7b1 : ((rd l0 x5_1) != (rd l1 x5_1)) = true := bne_iff_ne.mpr c7
                obtain rfl := Option.some.inj H
                have p123 : 0 ≤ (x5_1 : Int) := of_decide_eq_true (by first | (with_reducible assumption) | assumption)
                have q123 : x5_1 < (l0.length : Int) := of_decide_eq_true (by first | (with_reducible assumption) | assumption)
                obtain ⟨ad123, e123, hx123_0⟩ := Kd.at_int HR0.out x5_1 p123 q123
                cases e123
                replace p123 := eq_true p123
                replace q123 := eq_true q123
                have p124 : 0 ≤ (x5_1 : Int) := of_decide_eq_true (by first | (with_reducible assumption) | assumption)
                have q124 : x5_1 < (l1.length : Int) := of_decide_eq_true (by first | (with_reducible assumption) | assumption)
                obtain ⟨ad124, e124, hx124_0⟩ := Kd.at_int HR1.out x5_1 p124 q124
                cases e124
                replace p124 := eq_true p124
                replace q124 := eq_true q124
                go_wp2
                repeat (go_quiet (fail); try go_wp2)
                go_ret
                exact ⟨by first | rfl | (simp; done) | (simp [*]; done), by repeat (first | exact Drawn0.refl _ | apply Drawn0.step)⟩
            · rw [if_neg c6] at H
              exact absurd H (by simp)
          · rw [if_neg c5] at H
            exact absurd H (by simp)
        · rw [if_neg c4] at H
          have c4b0 : decide (x5_1 < (l0.length : Int)) = false := decide_eq_false c4
          clear c4
          obtain rfl := Option.some.inj H
          go_wp2
          repeat (go_quiet (fail); try go_wp2)
          go_ret
          exact ⟨by first | rfl | (simp; done) | (simp [*]; done), by repeat (first | exact Drawn0.refl _ | apply Drawn0.step)⟩
  · rw [if_neg c3] at H
    have c3b0 : ((l0.length : Int) == (l1.length : Int)) = false := beq_eq_false_iff_ne.mpr c3
    have c3b1 : ((l0.length : Int) != (l1.length : Int)) = true := bne_iff_ne.mpr c3
    have c3b2 : (l0.length == l1.length) = false := by first | simpa using c3 | (simp at c3 ⊢; omega)
    obtain rfl := Option.some.inj H
    go_enter Try.func8, Try.ntmps8
    go_wp2
    repeat (go_quiet (fail); try go_wp2)
    go_ret
    exact ⟨by first | rfl | (simp; done) | (simp [*]; done), by repeat (first | exact Drawn0.refl _ | apply Drawn0.step)⟩

end Go.Proofs.Ytgdjckehmlliaaa.PFnExactSettleDay

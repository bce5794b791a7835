/- The functions that FnExactLotsOf reaches, each with a proof that the call does what it says; a part of that statement's proof. Conditions: none. -/
import Derived.Test.YtnapimpnelkhcaaGFnExactLotsOfx0
namespace Go.Proofs.Ytnapimpnelkhcaa.PFnExactLotsOf
open Go.RowKit Go.Proofs.YtnapimpnelkhcaaW.PrintWords Go.Proofs.YtnapimpnelkhcaaW.PrintLast Go.Proofs.YtnapimpnelkhcaaW.PrintMore
attribute [local go_sem] max2_int min2_int max_two min_two max_three min_three max_four min_four   -- for this text's walks alone
set_option linter.unusedVariables false
set_option linter.unusedSimpArgs false

/-! ### impl_within: function 34 -/
def impl_within.f (a0 : Int) (a1 : Int) (a2 : Int) : Option (Bool) := if a0 ≥ a1 then (some (decide (a0 ≤ a2))) else (some false)
set_option maxHeartbeats 8000000 in
set_option maxRecDepth 100000 in
theorem impl_within.calls (a0 : Int) (a1 : Int) (a2 : Int) (r : Bool) (w : World) (h : impl_within.f a0 a1 a2 = some r) :
    Calls Try.prog 34 #[.int .i64 a0, .int .i64 a1, .int .i64 a2] w fun e w' => e = .returned (.bool r) ∧ Drawn0 w w' := by
  have H : (if a0 ≥ a1 then (some (decide (a0 ≤ a2))) else (some false)) = some r := h
  clear h
  by_cases c4 : a0 ≥ a1
  · rw [if_pos c4] at H
    have c4b0 : decide (a1 ≤ a0) = true := decide_eq_true c4
    clear c4
    obtain rfl := Option.some.inj H
    go_enter Try.func34, Try.ntmps34
    go_wp2
    go_ret
    exact ⟨by first | rfl | (simp; done) | (simp [*]; done), by repeat (first | exact Drawn0.refl _ | apply Drawn0.step)⟩
  · rw [if_neg c4] at H
    have c4b0 : decide (a1 ≤ a0) = false := decide_eq_false c4
    clear c4
    obtain rfl := Option.some.inj H
    go_enter Try.func34, Try.ntmps34
    go_wp2
    go_ret
    exact ⟨by first | rfl | (simp; done) | (simp [*]; done), by repeat (first | exact Drawn0.refl _ | apply Drawn0.step)⟩

/-! ### impl_dayValid: function 33 -/
def impl_dayValid.f (a0 : Int) : Option (Bool) := (impl_within.f a0 0 36524).bind fun t101 => (some t101)
set_option maxHeartbeats 8000000 in
set_option maxRecDepth 100000 in
theorem impl_dayValid.calls (a0 : Int) (r : Bool) (w : World) (h : impl_dayValid.f a0 = some r) :
    Calls Try.prog 33 #[.int .i64 a0] w fun e w' => e = .returned (.bool r) ∧ Drawn0 w w' := by
  have H : ((impl_within.f a0 0 36524).bind fun t101 => (some t101)) = some r := h
  clear h
  replace H := Option.bind_eq_some_iff.mp H
  obtain ⟨t101, A20, H⟩ := H
  replace H : (some t101) = some r := H
  have A2 := Aside0.mk A20
  clear A20
  obtain rfl := Option.some.inj H
  go_enter Try.func33, Try.ntmps33
  go_wp2_with (first | ((with_reducible refine gate_callee (f := 34) rfl ?_); refine goesL_ (some 4) rfl rfl Try.func34 (by kernel_rfl) rfl #[.int .i64 a0, .int .i64 0, .int .i64 36524] rfl (by (try simp only [List.map_toArray, List.map_cons, List.map_nil]); first | done | rfl | (simp only [List.length_drop, List.length_take]; rfl)) ?_; (with_reducible refine (impl_within.calls a0 0 36524 t101 _ A2.out).mono ?_); rintro e w' ⟨rfl, ⟨nd, rfl⟩⟩; refine ⟨_, rfl, ?_⟩))
  go_ret
  exact ⟨by first | rfl | (simp; done) | (simp [*]; done), by repeat (first | exact Drawn0.refl _ | apply Drawn0.step)⟩

/-! ### impl_priceValid: function 35 -/
def impl_priceValid.f (a0 : Int) : Option (Bool) := (impl_within.f a0 1 50000).bind fun t102 => (some t102)
set_option maxHeartbeats 8000000 in
set_option maxRecDepth 100000 in
theorem impl_priceValid.calls (a0 : Int) (r : Bool) (w : World) (h : impl_priceValid.f a0 = some r) :
    Calls Try.prog 35 #[.int .i64 a0] w fun e w' => e = .returned (.bool r) ∧ Drawn0 w w' := by
  have H : ((impl_within.f a0 1 50000).bind fun t102 => (some t102)) = some r := h
  clear h
  replace H := Option.bind_eq_some_iff.mp H
  obtain ⟨t102, A20, H⟩ := H
  replace H : (some t102) = some r := H
  have A2 := Aside0.mk A20
  clear A20
  obtain rfl := Option.some.inj H
  go_enter Try.func35, Try.ntmps35
  go_wp2_with (first | ((with_reducible refine gate_callee (f := 34) rfl ?_); refine goesL_ (some 4) rfl rfl Try.func34 (by kernel_rfl) rfl #[.int .i64 a0, .int .i64 1, .int .i64 50000] rfl (by (try simp only [List.map_toArray, List.map_cons, List.map_nil]); first | done | rfl | (simp only [List.length_drop, List.length_take]; rfl)) ?_; (with_reducible refine (impl_within.calls a0 1 50000 t102 _ A2.out).mono ?_); rintro e w' ⟨rfl, ⟨nd, rfl⟩⟩; refine ⟨_, rfl, ?_⟩))
  go_ret
  exact ⟨by first | rfl | (simp; done) | (simp [*]; done), by repeat (first | exact Drawn0.refl _ | apply Drawn0.step)⟩

/-- A state of type 33 at block g of W; what its slices lead to came in by w0. -/
def IsS33 (w0 W : World) (g : Nat) (f0 : Int) (f1 : Int) (f2 : Int) : Prop := W.heap[g]? = some (.cells #[.int .i64 f0, .int .i64 f1, .int .i64 f2] 33 (0, 0)) ∧ w0.heap.size ≤ g
theorem IsS33.grown {w0 W : World} {g : Nat} {f0 : Int} {f1 : Int} {f2 : Int} {W1 : World} {row : Option Nat} (h : IsS33 w0 W g f0 f1 f2) (hw : W.grownBy W1 row) (hne : some g ≠ row) : IsS33 w0 W1 g f0 f1 f2 := by
  obtain ⟨hb, hg⟩ := h
  exact ⟨blk_grown hb hw hne, hg⟩
theorem IsS33.own_neN {w0 W : World} {g : Nat} {f0 : Int} {f1 : Int} {f2 : Int} {α : Type} {d : Kd α} {e : Nat} {base : Nat} {ok : Nat → Prop} {v : Value} {xs : List α} (h : IsS33 w0 W g f0 f1 f2) (ho : Kd.N d e W base ok v xs) (ht : e ≠ 33) : some g ≠ v.ownBlock := by
  obtain ⟨hb, hg⟩ := h
  exact Kd.N_ne ho hb ht
theorem IsS33.fresh {w0 W : World} {g : Nat} {f0 : Int} {f1 : Int} {f2 : Int} (h : IsS33 w0 W g f0 f1 f2) : ∀ k, W.heap.size ≤ k → k ≠ g := by
  obtain ⟨hb, hg⟩ := h
  exact Kd.freshB hb
theorem IsS33.kept {w0 W : World} {g : Nat} {f0 : Int} {f1 : Int} {f2 : Int} {W1 : World} {S : Nat → Prop} (h : IsS33 w0 W g f0 f1 f2) (hk : Kept W W1 S) (hne : ¬ S g) : IsS33 w0 W1 g f0 f1 f2 := by
  obtain ⟨hb, hg⟩ := h
  exact ⟨blk_kept hb hk hne, hg⟩
theorem IsS33.below {w0 W : World} {g : Nat} {f0 : Int} {f1 : Int} {f2 : Int} {W1 : World} (h : IsS33 w0 W g f0 f1 f2) (hw : Below W.heap.size W W1) : IsS33 w0 W1 g f0 f1 f2 := h.grown (grown_of_below hw none) (by simp)
theorem IsS33.alloc {w0 W : World} {g : Nat} {f0 : Int} {f1 : Int} {f2 : Int} (h : IsS33 w0 W g f0 f1 f2) (o : Obj) : IsS33 w0 (W.alloc o) g f0 f1 f2 := h.below (below_alloc (Below.refl _ _) o)
theorem IsS33.drewN {w0 W : World} {g : Nat} {f0 : Int} {f1 : Int} {f2 : Int} (h : IsS33 w0 W g f0 f1 f2) (m : Nat) : IsS33 w0 (W.drewN m) g f0 f1 f2 := h
theorem IsS33.drew {w0 W : World} {g : Nat} {f0 : Int} {f1 : Int} {f2 : Int} (h : IsS33 w0 W g f0 f1 f2) : IsS33 w0 W.drew g f0 f1 f2 := h
theorem IsS33.at_ {w0 W : World} {g : Nat} {f0 : Int} {f1 : Int} {f2 : Int} {w' : World} {m : Nat} (hq : W.drewN m = w') (h : IsS33 w0 W g f0 f1 f2) : IsS33 w0 w' g f0 f1 f2 := by subst hq; exact IsS33.drewN h m
theorem IsS33.apart {w0 W : World} {g : Nat} {f0 : Int} {f1 : Int} {f2 : Int} {α : Type} {d : Kd α} {e : Nat} {base : Nat} {ok : Nat → Prop} {v : Value} {xs : List α} (h : IsS33 w0 W g f0 f1 f2) (ho : d.R e W base ok v xs) (ht : ∀ q, q ∈ e :: d.E → q ≠ 33) : d.R e W base (fun k => ok k ∧ k ≠ g) v xs := by
  obtain ⟨hb, hg⟩ := h
  exact Kd.R_types ho hb ht
theorem IsS33.own_ne {w0 W : World} {g : Nat} {f0 : Int} {f1 : Int} {f2 : Int} {α : Type} {d : Kd α} {e : Nat} {base : Nat} {ok : Nat → Prop} {v : Value} {xs : List α} (h : IsS33 w0 W g f0 f1 f2) (ho : d.R e W base ok v xs) (ht : e ≠ 33) : some g ≠ v.ownBlock := by
  obtain ⟨hb, hg⟩ := h
  exact Kd.R_ne ho hb ht
theorem IsS33.apartQ {w0 W : World} {g : Nat} {f0 : Int} {f1 : Int} {f2 : Int} {α : Type} {d : Kd α} {e : Nat} {base : Nat} {ok : Nat → Prop} {v : Value} {xs : List α} (h : IsS33 w0 W g f0 f1 f2) (ho : d.Q e W base ok v xs) (ht : ∀ q, q ∈ e :: d.E → q ≠ 33) : d.Q e W base (fun k => ok k ∧ k ≠ g) v xs := by
  obtain ⟨hb, hg⟩ := h
  exact Kd.Q_types ho hb ht
theorem IsS33.own_neQ {w0 W : World} {g : Nat} {f0 : Int} {f1 : Int} {f2 : Int} {α : Type} {d : Kd α} {e : Nat} {base : Nat} {ok : Nat → Prop} {v : Value} {xs : List α} (h : IsS33 w0 W g f0 f1 f2) (ho : d.Q e W base ok v xs) (ht : e ≠ 33) : some g ≠ v.ownBlock := by
  obtain ⟨hb, hg⟩ := h
  exact Kd.Q_ne ho hb ht
theorem IsS33.apartS {w0 W : World} {g : Nat} {f0 : Int} {f1 : Int} {f2 : Int} {α : Type} {d : Kd α} {e : Nat} {base : Nat} {ok : Nat → Prop} {v : Value} {xs : List α} (h : IsS33 w0 W g f0 f1 f2) (ho : d.S e W base ok v xs) (ht : ∀ q, q ∈ e :: d.E → q ≠ 33) : d.S e W base (fun k => ok k ∧ k ≠ g) v xs := by
  obtain ⟨hb, hg⟩ := h
  exact Kd.S_types ho hb ht
theorem IsS33.own_neS {w0 W : World} {g : Nat} {f0 : Int} {f1 : Int} {f2 : Int} {α : Type} {d : Kd α} {e : Nat} {base : Nat} {ok : Nat → Prop} {v : Value} {xs : List α} (h : IsS33 w0 W g f0 f1 f2) (ho : d.S e W base ok v xs) (ht : e ≠ 33) : some g ≠ v.ownBlock := by
  obtain ⟨hb, hg⟩ := h
  exact Kd.S_ne ho hb ht
theorem IsS33.lt {w0 W : World} {g : Nat} {f0 : Int} {f1 : Int} {f2 : Int} (h : IsS33 w0 W g f0 f1 f2) : g < W.heap.size := by
  obtain ⟨hb, hg⟩ := h
  exact blk_lt hb
theorem IsS33.ge {w0 W : World} {g : Nat} {f0 : Int} {f1 : Int} {f2 : Int} (h : IsS33 w0 W g f0 f1 f2) : w0.heap.size ≤ g := by
  obtain ⟨hb, hg⟩ := h
  exact hg
theorem IsS33.ne_blk {w0 W : World} {g : Nat} {f0 : Int} {f1 : Int} {f2 : Int} {a : Nat} {cs : Array Value} {t : TypeId} {fr : Nat × Nat} (h : IsS33 w0 W g f0 f1 f2) (hb2 : W.heap[a]? = some (.cells cs t fr)) (ht : t ≠ 33) : g ≠ a := by
  obtain ⟨hb, hg⟩ := h
  rintro rfl
  rw [hb] at hb2
  injection hb2 with hb2
  injection hb2 with _ ht2
  exact ht ht2.symm
theorem IsS33.far {w0 W : World} {g : Nat} {f0 : Int} {f1 : Int} {f2 : Int} {p : Addr} (h : IsS33 w0 W g f0 f1 f2) (hne : g ≠ p.block) (u : Value) : IsS33 w0 (W.setCell p u) g f0 f1 f2 := by
  obtain ⟨hb, hg⟩ := h
  exact ⟨blk_far hb hne u, hg⟩
theorem cellS33_0 {W : World} {g : Nat} {f0 : Int} {f1 : Int} {f2 : Int} (h : W.heap[g]? = some (.cells #[.int .i64 f0, .int .i64 f1, .int .i64 f2] 33 (0, 0))) : W.cell? ⟨g, 0, none⟩ = some (.int .i64 f0) := (blk_cell h 0).trans rfl
theorem IsS33.set_0 {w0 W : World} {g : Nat} {f0 : Int} {f1 : Int} {f2 : Int} (h : IsS33 w0 W g f0 f1 f2) (x : Int) : IsS33 w0 (W.setCell ⟨g, 0, none⟩ (.int .i64 x)) g x f1 f2 := by
  obtain ⟨hb, hg⟩ := h
  exact ⟨by simpa using blk_set hb 0 (.int .i64 x), hg⟩
theorem cellS33_1 {W : World} {g : Nat} {f0 : Int} {f1 : Int} {f2 : Int} (h : W.heap[g]? = some (.cells #[.int .i64 f0, .int .i64 f1, .int .i64 f2] 33 (0, 0))) : W.cell? ⟨g, 1, none⟩ = some (.int .i64 f1) := (blk_cell h 1).trans rfl
theorem IsS33.set_1 {w0 W : World} {g : Nat} {f0 : Int} {f1 : Int} {f2 : Int} (h : IsS33 w0 W g f0 f1 f2) (x : Int) : IsS33 w0 (W.setCell ⟨g, 1, none⟩ (.int .i64 x)) g f0 x f2 := by
  obtain ⟨hb, hg⟩ := h
  exact ⟨by simpa using blk_set hb 1 (.int .i64 x), hg⟩
theorem cellS33_2 {W : World} {g : Nat} {f0 : Int} {f1 : Int} {f2 : Int} (h : W.heap[g]? = some (.cells #[.int .i64 f0, .int .i64 f1, .int .i64 f2] 33 (0, 0))) : W.cell? ⟨g, 2, none⟩ = some (.int .i64 f2) := (blk_cell h 2).trans rfl
theorem IsS33.set_2 {w0 W : World} {g : Nat} {f0 : Int} {f1 : Int} {f2 : Int} (h : IsS33 w0 W g f0 f1 f2) (x : Int) : IsS33 w0 (W.setCell ⟨g, 2, none⟩ (.int .i64 x)) g f0 f1 x := by
  obtain ⟨hb, hg⟩ := h
  exact ⟨by simpa using blk_set hb 2 (.int .i64 x), hg⟩
theorem IsS33.new (w0 W : World) (f0 : Int) (f1 : Int) (f2 : Int) (hB : Below w0.heap.size w0 W) : IsS33 w0 (W.alloc (.cells #[.int .i64 f0, .int .i64 f1, .int .i64 f2] 33)) W.heap.size f0 f1 f2 := ⟨by simpa using heap_alloc_new W _, hB.size⟩

/-! ### impl_ValidTrades: function 14 -/
/-- What a valid trade is. -/
def impl_ValidTrades.okT (p : S33) : Bool := decide ((0 ≤ p.f0 ∧ p.f0 ≤ 36524) ∧ (-9999 ≤ p.f1 ∧ p.f1 ≤ 9999) ∧ p.f1 ≠ 0 ∧ 1 ≤ p.f2 ∧ p.f2 ≤ 50000)
/-- Trade i is valid, and not before the one ahead of it. -/
def impl_ValidTrades.ok (l : List S33) (i : Nat) : Bool := impl_ValidTrades.okT (rd_T33 l (i : Int)) && (decide (i = 0) || decide ((rd_T33 l ((i : Int) - 1)).f0 ≤ (rd_T33 l (i : Int)).f0))
def impl_ValidTrades.v (l : List S33) : Bool := decide (l.length ≤ 16) && (List.range l.length).all (impl_ValidTrades.ok l)
def impl_ValidTrades.f (l : List S33) : Option Bool := some (impl_ValidTrades.v l)
theorem impl_ValidTrades.yes {l : List S33} (hl : l.length ≤ 16) (h : ∀ i, i < l.length → impl_ValidTrades.ok l i = true) : impl_ValidTrades.v l = true := by
  unfold impl_ValidTrades.v
  rw [decide_eq_true hl, Bool.true_and, List.all_eq_true]
  exact fun i hi => h i (List.mem_range.1 hi)
theorem impl_ValidTrades.no {l : List S33} {i : Nat} (hi : i < l.length) (h : impl_ValidTrades.ok l i = false) : impl_ValidTrades.v l = false := by
  unfold impl_ValidTrades.v
  rw [Bool.and_eq_false_iff]
  refine .inr ?_
  rw [List.all_eq_false]
  exact ⟨i, List.mem_range.2 hi, by rw [h]; decide⟩
theorem impl_ValidTrades.wi (a lo hi : Int) : impl_within.f a lo hi = some (decide (lo ≤ a ∧ a ≤ hi)) := by
  unfold impl_within.f
  split <;> rename_i hc <;> simp <;> omega
theorem impl_ValidTrades.day (a : Int) (w : World) : Calls Try.prog 33 #[.int .i64 a] w fun e w' => e = .returned (.bool (decide (0 ≤ a ∧ a ≤ 36524))) ∧ ∃ n, w' = w.drewN n :=
  (impl_dayValid.calls a _ w (by unfold impl_dayValid.f; rw [impl_ValidTrades.wi]; rfl)).mono fun _ _ ⟨he, hw⟩ => ⟨he, hw.out⟩
theorem impl_ValidTrades.many (a lo hi : Int) (w : World) : Calls Try.prog 34 #[.int .i64 a, .int .i64 lo, .int .i64 hi] w fun e w' => e = .returned (.bool (decide (lo ≤ a ∧ a ≤ hi))) ∧ ∃ n, w' = w.drewN n :=
  (impl_within.calls a lo hi _ w (impl_ValidTrades.wi a lo hi)).mono fun _ _ ⟨he, hw⟩ => ⟨he, hw.out⟩
theorem impl_ValidTrades.price (a : Int) (w : World) : Calls Try.prog 35 #[.int .i64 a] w fun e w' => e = .returned (.bool (decide (1 ≤ a ∧ a ≤ 50000))) ∧ ∃ n, w' = w.drewN n :=
  (impl_priceValid.calls a _ w (by unfold impl_priceValid.f; rw [impl_ValidTrades.wi]; rfl)).mono fun _ _ ⟨he, hw⟩ => ⟨he, hw.out⟩
/-- The head of each round. -/
def impl_ValidTrades.Rel (l : List S33) (w : World) (i : Value) (wr : World) : Prop :=
  ∃ n : Nat, n ≤ l.length ∧ i = .int .i64 n ∧ (∀ j, j < n → impl_ValidTrades.ok l j = true) ∧ Below w.heap.size w wr
set_option maxHeartbeats 4000000 in
set_option maxRecDepth 100000 in
theorem impl_ValidTrades.calls (A0 : Option Addr) (c0 : Nat) (l0 : List (S33)) (r : Bool) (w : World) (hr0 : Kd.C k33 w A0 l0.length l0) (hc0 : l0.length ≤ c0) (h : impl_ValidTrades.f l0 = some r) :
    Calls Try.prog 14 #[.slice A0 l0.length c0] w fun e w' => e = .returned (.bool r) ∧ Below w.heap.size w w' := by
  have HR0 := Aside0.mk hr0
  have HC0 := Aside0.mk hc0
  clear hr0 hc0
  have HV := Aside0.mk (Option.some.inj h)
  clear h
  by_cases hl : 16 < l0.length
  · obtain rfl : r = false := by
      rw [← HV.out]
      unfold impl_ValidTrades.v
      rw [decide_eq_false (by omega)]
      rfl
    have hd : decide (16 < (l0.length : Int)) = true := decide_eq_true (by omega)
    go_enter Try.func14, Try.ntmps14
    go_wp2
    go_ret
    exact ⟨rfl, Below.refl _ _⟩
  · have hd : decide (16 < (l0.length : Int)) = false := decide_eq_false (by omega)
    go_enter Try.func14, Try.ntmps14
    go_wp2
    go_loopw [10] (fun i wr => impl_ValidTrades.Rel l0 w i wr) (fun i _ => l0.length - (intOf i).toNat)
    case atStart => exact ⟨0, Nat.zero_le _, rfl, fun j hj => absurd hj (Nat.not_lt_zero j), Below.refl _ _⟩
    case round =>
      obtain ⟨n, hn, rfl, hall, hbr⟩ := hrel
      by_cases hlt : n < l0.length
      · obtain ⟨ad, rfl, hx0, hx1, hx2⟩ := at_T33 HR0.out (n : Int) (by omega) (by omega)
        rw [Int.toNat_natCast] at hx0 hx1 hx2
        replace hx0 := (hbr.cell (World.block_lt_of_cell? w _ hx0)).trans hx0
        replace hx1 := (hbr.cell (World.block_lt_of_cell? w _ hx1)).trans hx1
        replace hx2 := (hbr.cell (World.block_lt_of_cell? w _ hx2)).trans hx2
        have hok : impl_ValidTrades.ok l0 n = (impl_ValidTrades.okT (rd_T33 l0 (n : Int)) && (decide (n = 0) || decide ((rd_T33 l0 ((n : Int) - 1)).f0 ≤ (rd_T33 l0 (n : Int)).f0))) := rfl
        have hpv : 0 < n → ∃ ad2, ad = ad2 ∧ wr.cell? (ad2.add ((n - 1) * 3)) = some (.int .i64 (rd_T33 l0 ((n : Int) - 1)).f0) := by
          intro h0
          obtain ⟨ad2, e, hy0, _, _⟩ := at_T33 HR0.out ((n : Int) - 1) (by omega) (by omega)
          have e2 : ((n : Int) - 1).toNat = n - 1 := by omega
          rw [e2] at hy0
          cases e
          exact ⟨_, rfl, (hbr.cell (World.block_lt_of_cell? w _ hy0)).trans hy0⟩
        have HALL := Aside0.mk hall
        have HBR := Aside0.mk hbr
        have HOK := Aside0.mk hok
        clear hall hbr hok
        generalize rd_T33 l0 (n : Int) = p at hx0 hx1 hx2 HOK hpv
        generalize rd_T33 l0 ((n : Int) - 1) = q at HOK hpv
        by_cases h1 : 0 ≤ p.f0 ∧ p.f0 ≤ 36524
        · have hd1 : decide (0 ≤ p.f0 ∧ p.f0 ≤ 36524) = true := decide_eq_true h1
          by_cases hz : n = 0
          · have hn0 : decide (0 < (n : Int)) = false := decide_eq_false (by omega)
            have hn1 : decide (0 < n) = false := decide_eq_false (by omega)
            have HZ := Aside0.mk (Or.inl hz : n = 0 ∨ q.f0 ≤ p.f0)
            clear hpv hz
            by_cases h3 : p.f1 ≠ 0
            · have hd3 : (p.f1 == 0) = false := by simpa using h3
              by_cases h4 : -9999 ≤ p.f1 ∧ p.f1 ≤ 9999
              · have hd4 : decide (-9999 ≤ p.f1 ∧ p.f1 ≤ 9999) = true := decide_eq_true h4
                by_cases h5 : 1 ≤ p.f2 ∧ p.f2 ≤ 50000
                · have hd5 : decide (1 ≤ p.f2 ∧ p.f2 ≤ 50000) = true := decide_eq_true h5
                  have hyes : impl_ValidTrades.ok l0 n = true := by
                    rw [HOK.out]
                    unfold impl_ValidTrades.okT
                    rw [decide_eq_true ⟨h1, h4, h3, h5⟩]
                    simp only [Bool.true_and, Bool.or_eq_true, decide_eq_true_eq]
                    exact HZ.out
                  have HYES := Aside0.mk hyes
                  clear hyes
                  go_wp2_with fail
                  go_quiet ((first | (go_at_call 33; exact Calls.quiet_of (impl_ValidTrades.day _ _)) | (go_at_call 34; exact Calls.quiet_of (impl_ValidTrades.many _ _ _ _)) | (go_at_call 35; exact Calls.quiet_of (impl_ValidTrades.price _ _))))
                  all_goals
                    go_wp2
                    go_roundw
                    case rel => exact ⟨n + 1, by omega, by go_num, fun j hj => (Nat.lt_succ_iff_lt_or_eq.1 hj).elim (fun h => HALL.out j h) (fun h => h ▸ HYES.out), pw_below_drewN (HBR.out.alloc HBR.out.size _) _⟩
                    case measure => simp [intOf]; omega
                · have hd5 : decide (1 ≤ p.f2 ∧ p.f2 ≤ 50000) = false := decide_eq_false h5
                  obtain rfl : r = false := HV.out.symm.trans (impl_ValidTrades.no hlt (by rw [HOK.out]; unfold impl_ValidTrades.okT; rw [decide_eq_false (fun h => h5 h.2.2.2)]; rfl))
                  go_wp2_with fail
                  go_quiet ((first | (go_at_call 33; exact Calls.quiet_of (impl_ValidTrades.day _ _)) | (go_at_call 34; exact Calls.quiet_of (impl_ValidTrades.many _ _ _ _)) | (go_at_call 35; exact Calls.quiet_of (impl_ValidTrades.price _ _))))
                  all_goals
                    go_wp2
                    go_ret
                    exact ⟨rfl, pw_below_drewN (HBR.out.alloc HBR.out.size _) _⟩
              · have hd4 : decide (-9999 ≤ p.f1 ∧ p.f1 ≤ 9999) = false := decide_eq_false h4
                obtain rfl : r = false := HV.out.symm.trans (impl_ValidTrades.no hlt (by rw [HOK.out]; unfold impl_ValidTrades.okT; rw [decide_eq_false (fun h => h4 h.2.1)]; rfl))
                go_wp2_with fail
                go_quiet ((first | (go_at_call 33; exact Calls.quiet_of (impl_ValidTrades.day _ _)) | (go_at_call 34; exact Calls.quiet_of (impl_ValidTrades.many _ _ _ _)) | (go_at_call 35; exact Calls.quiet_of (impl_ValidTrades.price _ _))))
                all_goals
                  go_wp2
                  go_ret
                  exact ⟨rfl, pw_below_drewN (HBR.out.alloc HBR.out.size _) _⟩
            · have hd3 : (p.f1 == 0) = true := by simpa using h3
              obtain rfl : r = false := HV.out.symm.trans (impl_ValidTrades.no hlt (by rw [HOK.out]; unfold impl_ValidTrades.okT; rw [decide_eq_false (fun h => h3 h.2.2.1)]; rfl))
              go_wp2_with fail
              go_quiet ((first | (go_at_call 33; exact Calls.quiet_of (impl_ValidTrades.day _ _)) | (go_at_call 34; exact Calls.quiet_of (impl_ValidTrades.many _ _ _ _)) | (go_at_call 35; exact Calls.quiet_of (impl_ValidTrades.price _ _))))
              all_goals
                go_wp2
                go_ret
                exact ⟨rfl, pw_below_drewN (HBR.out.alloc HBR.out.size _) _⟩
          · obtain ⟨_, rfl, hy0⟩ := hpv (by omega)
            have hy1 : (wr.alloc (Obj.cells #[.int .i64 p.f0, .int .i64 p.f1, .int .i64 p.f2] 33)).cell? (ad.add ((n - 1) * 3)) = some (.int .i64 q.f0) := (((Below.refl wr.heap.size wr).alloc (Nat.le_refl _) _).cell (World.block_lt_of_cell? wr _ hy0)).trans hy0
            have hn0 : decide (0 < (n : Int)) = true := decide_eq_true (by omega)
            have hn1 : decide (0 < n) = true := decide_eq_true (by omega)
            have hw1 : IntKind.i64.wrap ((n : Int) - 1) = (n : Int) - 1 := by rw [IntKind.wrap_i64]; omega
            have hw2 : ((n : Int) - 1).toNat = n - 1 := by omega
            have hw3 : (0 : Int) ≤ (n : Int) - 1 := by omega
            have hw5 : (1 : Int) ≤ (n : Int) := by omega
            have hw6 : 1 ≤ n := by omega
            have hw7 : 0 < n := by omega
            have hw4 : (n : Int) - 1 < (l0.length : Int) := by omega
            by_cases h2 : q.f0 ≤ p.f0
            · have hd2 : decide (p.f0 < q.f0) = false := decide_eq_false (by omega)
              have HZ := Aside0.mk (Or.inr h2 : n = 0 ∨ q.f0 ≤ p.f0)
              clear hz
              by_cases h3 : p.f1 ≠ 0
              · have hd3 : (p.f1 == 0) = false := by simpa using h3
                by_cases h4 : -9999 ≤ p.f1 ∧ p.f1 ≤ 9999
                · have hd4 : decide (-9999 ≤ p.f1 ∧ p.f1 ≤ 9999) = true := decide_eq_true h4
                  by_cases h5 : 1 ≤ p.f2 ∧ p.f2 ≤ 50000
                  · have hd5 : decide (1 ≤ p.f2 ∧ p.f2 ≤ 50000) = true := decide_eq_true h5
                    have hyes : impl_ValidTrades.ok l0 n = true := by
                      rw [HOK.out]
                      unfold impl_ValidTrades.okT
                      rw [decide_eq_true ⟨h1, h4, h3, h5⟩]
                      simp only [Bool.true_and, Bool.or_eq_true, decide_eq_true_eq]
                      exact HZ.out
                    have HYES := Aside0.mk hyes
                    clear hyes
                    go_wp2_with fail
                    go_quiet ((first | (go_at_call 33; exact Calls.quiet_of (impl_ValidTrades.day _ _)) | (go_at_call 34; exact Calls.quiet_of (impl_ValidTrades.many _ _ _ _)) | (go_at_call 35; exact Calls.quiet_of (impl_ValidTrades.price _ _))))
                    all_goals
                      go_wp2
                      go_roundw
                      case rel => exact ⟨n + 1, by omega, by go_num, fun j hj => (Nat.lt_succ_iff_lt_or_eq.1 hj).elim (fun h => HALL.out j h) (fun h => h ▸ HYES.out), pw_below_drewN (HBR.out.alloc HBR.out.size _) _⟩
                      case measure => simp [intOf]; omega
                  · have hd5 : decide (1 ≤ p.f2 ∧ p.f2 ≤ 50000) = false := decide_eq_false h5
                    obtain rfl : r = false := HV.out.symm.trans (impl_ValidTrades.no hlt (by rw [HOK.out]; unfold impl_ValidTrades.okT; rw [decide_eq_false (fun h => h5 h.2.2.2)]; rfl))
                    go_wp2_with fail
                    go_quiet ((first | (go_at_call 33; exact Calls.quiet_of (impl_ValidTrades.day _ _)) | (go_at_call 34; exact Calls.quiet_of (impl_ValidTrades.many _ _ _ _)) | (go_at_call 35; exact Calls.quiet_of (impl_ValidTrades.price _ _))))
                    all_goals
                      go_wp2
                      go_ret
                      exact ⟨rfl, pw_below_drewN (HBR.out.alloc HBR.out.size _) _⟩
                · have hd4 : decide (-9999 ≤ p.f1 ∧ p.f1 ≤ 9999) = false := decide_eq_false h4
                  obtain rfl : r = false := HV.out.symm.trans (impl_ValidTrades.no hlt (by rw [HOK.out]; unfold impl_ValidTrades.okT; rw [decide_eq_false (fun h => h4 h.2.1)]; rfl))
                  go_wp2_with fail
                  go_quiet ((first | (go_at_call 33; exact Calls.quiet_of (impl_ValidTrades.day _ _)) | (go_at_call 34; exact Calls.quiet_of (impl_ValidTrades.many _ _ _ _)) | (go_at_call 35; exact Calls.quiet_of (impl_ValidTrades.price _ _))))
                  all_goals
                    go_wp2
                    go_ret
                    exact ⟨rfl, pw_below_drewN (HBR.out.alloc HBR.out.size _) _⟩
              · have hd3 : (p.f1 == 0) = true := by simpa using h3
                obtain rfl : r = false := HV.out.symm.trans (impl_ValidTrades.no hlt (by rw [HOK.out]; unfold impl_ValidTrades.okT; rw [decide_eq_false (fun h => h3 h.2.2.1)]; rfl))
                go_wp2_with fail
                go_quiet ((first | (go_at_call 33; exact Calls.quiet_of (impl_ValidTrades.day _ _)) | (go_at_call 34; exact Calls.quiet_of (impl_ValidTrades.many _ _ _ _)) | (go_at_call 35; exact Calls.quiet_of (impl_ValidTrades.price _ _))))
                all_goals
                  go_wp2
                  go_ret
                  exact ⟨rfl, pw_below_drewN (HBR.out.alloc HBR.out.size _) _⟩
            · have hd2 : decide (p.f0 < q.f0) = true := decide_eq_true (by omega)
              obtain rfl : r = false := HV.out.symm.trans (impl_ValidTrades.no hlt (by rw [HOK.out]; unfold impl_ValidTrades.okT; rw [Bool.and_eq_false_iff]; refine .inr ?_; simp only [Bool.or_eq_false_iff, decide_eq_false_iff_not]; exact ⟨hz, h2⟩))
              clear hz
              go_wp2_with fail
              go_quiet ((first | (go_at_call 33; exact Calls.quiet_of (impl_ValidTrades.day _ _)) | (go_at_call 34; exact Calls.quiet_of (impl_ValidTrades.many _ _ _ _)) | (go_at_call 35; exact Calls.quiet_of (impl_ValidTrades.price _ _))))
              all_goals
                go_wp2
                go_ret
                exact ⟨rfl, pw_below_drewN (HBR.out.alloc HBR.out.size _) _⟩
        · have hd1 : decide (0 ≤ p.f0 ∧ p.f0 ≤ 36524) = false := decide_eq_false h1
          clear hpv
          obtain rfl : r = false := HV.out.symm.trans (impl_ValidTrades.no hlt (by rw [HOK.out]; unfold impl_ValidTrades.okT; rw [decide_eq_false (fun h => h1 h.1)]; rfl))
          go_wp2_with fail
          go_quiet ((first | (go_at_call 33; exact Calls.quiet_of (impl_ValidTrades.day _ _)) | (go_at_call 34; exact Calls.quiet_of (impl_ValidTrades.many _ _ _ _)) | (go_at_call 35; exact Calls.quiet_of (impl_ValidTrades.price _ _))))
          all_goals
            go_wp2
            go_ret
            exact ⟨rfl, pw_below_drewN (HBR.out.alloc HBR.out.size _) _⟩
      · obtain rfl : n = l0.length := by omega
        obtain rfl : r = true := HV.out.symm.trans (impl_ValidTrades.yes (by omega) hall)
        have HBR := Aside0.mk hbr
        clear hall hbr
        go_wp2
        go_ret
        exact ⟨rfl, HBR.out⟩


-- NOT PRINTED: function 43 (impl_queue_take)

end Go.Proofs.Ytnapimpnelkhcaa.PFnExactLotsOf

/- The functions that FnExactPostTrades reaches, each with a proof that the call does what it says; a part of that statement's proof. Conditions: none. -/
import Derived.Test.YtdfkdljddjbfnaaGFnExactPostTradesx0
import Derived.Test.YtdfkdljddjbfnaaGFnExactPostTradesx3
namespace Go.Proofs.Ytdfkdljddjbfnaa.PFnExactPostTrades
open Go.RowKit Go.Proofs.YtdfkdljddjbfnaaW.PrintWords Go.Proofs.YtdfkdljddjbfnaaW.PrintLast Go.Proofs.YtdfkdljddjbfnaaW.PrintMore
attribute [local go_sem] max2_int min2_int max_two min_two max_three min_three max_four min_four   -- for this text's walks alone
set_option linter.unusedVariables false
set_option linter.unusedSimpArgs false

/-- A state of type 42 at block g of W; what its slices lead to came in by w0. -/
def IsS42 (w0 W : World) (g : Nat) (f0 : Int) (f1 : Int) (f2 : Int) : Prop := W.heap[g]? = some (.cells #[.int .i64 f0, .int .i64 f1, .int .i64 f2] 42 (0, 0)) ∧ w0.heap.size ≤ g
theorem IsS42.grown {w0 W : World} {g : Nat} {f0 : Int} {f1 : Int} {f2 : Int} {W1 : World} {row : Option Nat} (h : IsS42 w0 W g f0 f1 f2) (hw : W.grownBy W1 row) (hne : some g ≠ row) : IsS42 w0 W1 g f0 f1 f2 := by
  obtain ⟨hb, hg⟩ := h
  exact ⟨blk_grown hb hw hne, hg⟩
theorem IsS42.own_neN {w0 W : World} {g : Nat} {f0 : Int} {f1 : Int} {f2 : Int} {α : Type} {d : Kd α} {e : Nat} {base : Nat} {ok : Nat → Prop} {v : Value} {xs : List α} (h : IsS42 w0 W g f0 f1 f2) (ho : Kd.N d e W base ok v xs) (ht : e ≠ 42) : some g ≠ v.ownBlock := by
  obtain ⟨hb, hg⟩ := h
  exact Kd.N_ne ho hb ht
theorem IsS42.fresh {w0 W : World} {g : Nat} {f0 : Int} {f1 : Int} {f2 : Int} (h : IsS42 w0 W g f0 f1 f2) : ∀ k, W.heap.size ≤ k → k ≠ g := by
  obtain ⟨hb, hg⟩ := h
  exact Kd.freshB hb
theorem IsS42.kept {w0 W : World} {g : Nat} {f0 : Int} {f1 : Int} {f2 : Int} {W1 : World} {S : Nat → Prop} (h : IsS42 w0 W g f0 f1 f2) (hk : Kept W W1 S) (hne : ¬ S g) : IsS42 w0 W1 g f0 f1 f2 := by
  obtain ⟨hb, hg⟩ := h
  exact ⟨blk_kept hb hk hne, hg⟩
theorem IsS42.below {w0 W : World} {g : Nat} {f0 : Int} {f1 : Int} {f2 : Int} {W1 : World} (h : IsS42 w0 W g f0 f1 f2) (hw : Below W.heap.size W W1) : IsS42 w0 W1 g f0 f1 f2 := h.grown (grown_of_below hw none) (by simp)
theorem IsS42.alloc {w0 W : World} {g : Nat} {f0 : Int} {f1 : Int} {f2 : Int} (h : IsS42 w0 W g f0 f1 f2) (o : Obj) : IsS42 w0 (W.alloc o) g f0 f1 f2 := h.below (below_alloc (Below.refl _ _) o)
theorem IsS42.drewN {w0 W : World} {g : Nat} {f0 : Int} {f1 : Int} {f2 : Int} (h : IsS42 w0 W g f0 f1 f2) (m : Nat) : IsS42 w0 (W.drewN m) g f0 f1 f2 := h
theorem IsS42.drew {w0 W : World} {g : Nat} {f0 : Int} {f1 : Int} {f2 : Int} (h : IsS42 w0 W g f0 f1 f2) : IsS42 w0 W.drew g f0 f1 f2 := h
theorem IsS42.at_ {w0 W : World} {g : Nat} {f0 : Int} {f1 : Int} {f2 : Int} {w' : World} {m : Nat} (hq : W.drewN m = w') (h : IsS42 w0 W g f0 f1 f2) : IsS42 w0 w' g f0 f1 f2 := by subst hq; exact IsS42.drewN h m
theorem IsS42.apart {w0 W : World} {g : Nat} {f0 : Int} {f1 : Int} {f2 : Int} {α : Type} {d : Kd α} {e : Nat} {base : Nat} {ok : Nat → Prop} {v : Value} {xs : List α} (h : IsS42 w0 W g f0 f1 f2) (ho : d.R e W base ok v xs) (ht : ∀ q, q ∈ e :: d.E → q ≠ 42) : d.R e W base (fun k => ok k ∧ k ≠ g) v xs := by
  obtain ⟨hb, hg⟩ := h
  exact Kd.R_types ho hb ht
theorem IsS42.own_ne {w0 W : World} {g : Nat} {f0 : Int} {f1 : Int} {f2 : Int} {α : Type} {d : Kd α} {e : Nat} {base : Nat} {ok : Nat → Prop} {v : Value} {xs : List α} (h : IsS42 w0 W g f0 f1 f2) (ho : d.R e W base ok v xs) (ht : e ≠ 42) : some g ≠ v.ownBlock := by
  obtain ⟨hb, hg⟩ := h
  exact Kd.R_ne ho hb ht
theorem IsS42.apartQ {w0 W : World} {g : Nat} {f0 : Int} {f1 : Int} {f2 : Int} {α : Type} {d : Kd α} {e : Nat} {base : Nat} {ok : Nat → Prop} {v : Value} {xs : List α} (h : IsS42 w0 W g f0 f1 f2) (ho : d.Q e W base ok v xs) (ht : ∀ q, q ∈ e :: d.E → q ≠ 42) : d.Q e W base (fun k => ok k ∧ k ≠ g) v xs := by
  obtain ⟨hb, hg⟩ := h
  exact Kd.Q_types ho hb ht
theorem IsS42.own_neQ {w0 W : World} {g : Nat} {f0 : Int} {f1 : Int} {f2 : Int} {α : Type} {d : Kd α} {e : Nat} {base : Nat} {ok : Nat → Prop} {v : Value} {xs : List α} (h : IsS42 w0 W g f0 f1 f2) (ho : d.Q e W base ok v xs) (ht : e ≠ 42) : some g ≠ v.ownBlock := by
  obtain ⟨hb, hg⟩ := h
  exact Kd.Q_ne ho hb ht
theorem IsS42.apartS {w0 W : World} {g : Nat} {f0 : Int} {f1 : Int} {f2 : Int} {α : Type} {d : Kd α} {e : Nat} {base : Nat} {ok : Nat → Prop} {v : Value} {xs : List α} (h : IsS42 w0 W g f0 f1 f2) (ho : d.S e W base ok v xs) (ht : ∀ q, q ∈ e :: d.E → q ≠ 42) : d.S e W base (fun k => ok k ∧ k ≠ g) v xs := by
  obtain ⟨hb, hg⟩ := h
  exact Kd.S_types ho hb ht
theorem IsS42.own_neS {w0 W : World} {g : Nat} {f0 : Int} {f1 : Int} {f2 : Int} {α : Type} {d : Kd α} {e : Nat} {base : Nat} {ok : Nat → Prop} {v : Value} {xs : List α} (h : IsS42 w0 W g f0 f1 f2) (ho : d.S e W base ok v xs) (ht : e ≠ 42) : some g ≠ v.ownBlock := by
  obtain ⟨hb, hg⟩ := h
  exact Kd.S_ne ho hb ht
theorem IsS42.lt {w0 W : World} {g : Nat} {f0 : Int} {f1 : Int} {f2 : Int} (h : IsS42 w0 W g f0 f1 f2) : g < W.heap.size := by
  obtain ⟨hb, hg⟩ := h
  exact blk_lt hb
theorem IsS42.ge {w0 W : World} {g : Nat} {f0 : Int} {f1 : Int} {f2 : Int} (h : IsS42 w0 W g f0 f1 f2) : w0.heap.size ≤ g := by
  obtain ⟨hb, hg⟩ := h
  exact hg
theorem IsS42.ne_blk {w0 W : World} {g : Nat} {f0 : Int} {f1 : Int} {f2 : Int} {a : Nat} {cs : Array Value} {t : TypeId} {fr : Nat × Nat} (h : IsS42 w0 W g f0 f1 f2) (hb2 : W.heap[a]? = some (.cells cs t fr)) (ht : t ≠ 42) : g ≠ a := by
  obtain ⟨hb, hg⟩ := h
  rintro rfl
  rw [hb] at hb2
  injection hb2 with hb2
  injection hb2 with _ ht2
  exact ht ht2.symm
theorem IsS42.far {w0 W : World} {g : Nat} {f0 : Int} {f1 : Int} {f2 : Int} {p : Addr} (h : IsS42 w0 W g f0 f1 f2) (hne : g ≠ p.block) (u : Value) : IsS42 w0 (W.setCell p u) g f0 f1 f2 := by
  obtain ⟨hb, hg⟩ := h
  exact ⟨blk_far hb hne u, hg⟩
theorem cellS42_0 {W : World} {g : Nat} {f0 : Int} {f1 : Int} {f2 : Int} (h : W.heap[g]? = some (.cells #[.int .i64 f0, .int .i64 f1, .int .i64 f2] 42 (0, 0))) : W.cell? ⟨g, 0, none⟩ = some (.int .i64 f0) := (blk_cell h 0).trans rfl
theorem IsS42.set_0 {w0 W : World} {g : Nat} {f0 : Int} {f1 : Int} {f2 : Int} (h : IsS42 w0 W g f0 f1 f2) (x : Int) : IsS42 w0 (W.setCell ⟨g, 0, none⟩ (.int .i64 x)) g x f1 f2 := by
  obtain ⟨hb, hg⟩ := h
  exact ⟨by simpa using blk_set hb 0 (.int .i64 x), hg⟩
theorem cellS42_1 {W : World} {g : Nat} {f0 : Int} {f1 : Int} {f2 : Int} (h : W.heap[g]? = some (.cells #[.int .i64 f0, .int .i64 f1, .int .i64 f2] 42 (0, 0))) : W.cell? ⟨g, 1, none⟩ = some (.int .i64 f1) := (blk_cell h 1).trans rfl
theorem IsS42.set_1 {w0 W : World} {g : Nat} {f0 : Int} {f1 : Int} {f2 : Int} (h : IsS42 w0 W g f0 f1 f2) (x : Int) : IsS42 w0 (W.setCell ⟨g, 1, none⟩ (.int .i64 x)) g f0 x f2 := by
  obtain ⟨hb, hg⟩ := h
  exact ⟨by simpa using blk_set hb 1 (.int .i64 x), hg⟩
theorem cellS42_2 {W : World} {g : Nat} {f0 : Int} {f1 : Int} {f2 : Int} (h : W.heap[g]? = some (.cells #[.int .i64 f0, .int .i64 f1, .int .i64 f2] 42 (0, 0))) : W.cell? ⟨g, 2, none⟩ = some (.int .i64 f2) := (blk_cell h 2).trans rfl
theorem IsS42.set_2 {w0 W : World} {g : Nat} {f0 : Int} {f1 : Int} {f2 : Int} (h : IsS42 w0 W g f0 f1 f2) (x : Int) : IsS42 w0 (W.setCell ⟨g, 2, none⟩ (.int .i64 x)) g f0 f1 x := by
  obtain ⟨hb, hg⟩ := h
  exact ⟨by simpa using blk_set hb 2 (.int .i64 x), hg⟩
theorem IsS42.new (w0 W : World) (f0 : Int) (f1 : Int) (f2 : Int) (hB : Below w0.heap.size w0 W) : IsS42 w0 (W.alloc (.cells #[.int .i64 f0, .int .i64 f1, .int .i64 f2] 42)) W.heap.size f0 f1 f2 := ⟨by simpa using heap_alloc_new W _, hB.size⟩

/-! ### impl_ValidTrades: function 8 -/
/-- What a valid trade is. -/
def impl_ValidTrades.okT (p : S42) : Bool := decide ((0 ≤ p.f0 ∧ p.f0 ≤ 36524) ∧ (-9999 ≤ p.f1 ∧ p.f1 ≤ 9999) ∧ p.f1 ≠ 0 ∧ 1 ≤ p.f2 ∧ p.f2 ≤ 50000)
/-- Trade i is valid, and not before the one ahead of it. -/
def impl_ValidTrades.ok (l : List S42) (i : Nat) : Bool := impl_ValidTrades.okT (rd_T42 l (i : Int)) && (decide (i = 0) || decide ((rd_T42 l ((i : Int) - 1)).f0 ≤ (rd_T42 l (i : Int)).f0))
def impl_ValidTrades.v (l : List S42) : Bool := decide (l.length ≤ 16) && (List.range l.length).all (impl_ValidTrades.ok l)
def impl_ValidTrades.f (l : List S42) : Option Bool := some (impl_ValidTrades.v l)
theorem impl_ValidTrades.yes {l : List S42} (hl : l.length ≤ 16) (h : ∀ i, i < l.length → impl_ValidTrades.ok l i = true) : impl_ValidTrades.v l = true := by
  unfold impl_ValidTrades.v
  rw [decide_eq_true hl, Bool.true_and, List.all_eq_true]
  exact fun i hi => h i (List.mem_range.1 hi)
theorem impl_ValidTrades.no {l : List S42} {i : Nat} (hi : i < l.length) (h : impl_ValidTrades.ok l i = false) : impl_ValidTrades.v l = false := by
  unfold impl_ValidTrades.v
  rw [Bool.and_eq_false_iff]
  refine .inr ?_
  rw [List.all_eq_false]
  exact ⟨i, List.mem_range.2 hi, by rw [h]; decide⟩
theorem impl_ValidTrades.wi (a lo hi : Int) : impl_within.f a lo hi = some (decide (lo ≤ a ∧ a ≤ hi)) := by
  unfold impl_within.f
  split <;> rename_i hc <;> simp <;> omega
theorem impl_ValidTrades.day (a : Int) (w : World) : Calls Try.prog 23 #[.int .i64 a] w fun e w' => e = .returned (.bool (decide (0 ≤ a ∧ a ≤ 36524))) ∧ ∃ n, w' = w.drewN n :=
  (impl_dayValid.calls a _ w (by unfold impl_dayValid.f; rw [impl_ValidTrades.wi]; rfl)).mono fun _ _ ⟨he, hw⟩ => ⟨he, hw.out⟩
theorem impl_ValidTrades.many (a lo hi : Int) (w : World) : Calls Try.prog 24 #[.int .i64 a, .int .i64 lo, .int .i64 hi] w fun e w' => e = .returned (.bool (decide (lo ≤ a ∧ a ≤ hi))) ∧ ∃ n, w' = w.drewN n :=
  (impl_within.calls a lo hi _ w (impl_ValidTrades.wi a lo hi)).mono fun _ _ ⟨he, hw⟩ => ⟨he, hw.out⟩
theorem impl_ValidTrades.price (a : Int) (w : World) : Calls Try.prog 25 #[.int .i64 a] w fun e w' => e = .returned (.bool (decide (1 ≤ a ∧ a ≤ 50000))) ∧ ∃ n, w' = w.drewN n :=
  (impl_priceValid.calls a _ w (by unfold impl_priceValid.f; rw [impl_ValidTrades.wi]; rfl)).mono fun _ _ ⟨he, hw⟩ => ⟨he, hw.out⟩
/-- The head of each round. -/
def impl_ValidTrades.Rel (l : List S42) (w : World) (i : Value) (wr : World) : Prop :=
  ∃ n : Nat, n ≤ l.length ∧ i = .int .i64 n ∧ (∀ j, j < n → impl_ValidTrades.ok l j = true) ∧ Below w.heap.size w wr
set_option maxHeartbeats 4000000 in
set_option maxRecDepth 100000 in
theorem impl_ValidTrades.calls (A0 : Option Addr) (c0 : Nat) (l0 : List (S42)) (r : Bool) (w : World) (hr0 : Kd.C k42 w A0 l0.length l0) (hc0 : l0.length ≤ c0) (h : impl_ValidTrades.f l0 = some r) :
    Calls Try.prog 8 #[.slice A0 l0.length c0] w fun e w' => e = .returned (.bool r) ∧ Below w.heap.size w w' := by
  have HR0 := Aside0.mk hr0
  have HC0 := Aside0.mk hc0
  clear hr0 hc0
  have HV := Aside0.mk (Option.some.inj h)
  clear h
  by_cases hl : 16 < l0.length
  · obtain rfl : r = false := by
      rw [← HV.out]
      unfold impl_ValidTrades.v
      rw [decide_eq_false (by omega)]
      rfl
    have hd : decide (16 < (l0.length : Int)) = true := decide_eq_true (by omega)
    go_enter Try.func8, Try.ntmps8
    go_wp2
    go_ret
    exact ⟨rfl, Below.refl _ _⟩
  · have hd : decide (16 < (l0.length : Int)) = false := decide_eq_false (by omega)
    go_enter Try.func8, Try.ntmps8
    go_wp2
    go_loopw [10] (fun i wr => impl_ValidTrades.Rel l0 w i wr) (fun i _ => l0.length - (intOf i).toNat)
    case atStart => exact ⟨0, Nat.zero_le _, rfl, fun j hj => absurd hj (Nat.not_lt_zero j), Below.refl _ _⟩
    case round =>
      obtain ⟨n, hn, rfl, hall, hbr⟩ := hrel
      by_cases hlt : n < l0.length
      · obtain ⟨ad, rfl, hx0, hx1, hx2⟩ := at_T42 HR0.out (n : Int) (by omega) (by omega)
        rw [Int.toNat_natCast] at hx0 hx1 hx2
        replace hx0 := (hbr.cell (World.block_lt_of_cell? w _ hx0)).trans hx0
        replace hx1 := (hbr.cell (World.block_lt_of_cell? w _ hx1)).trans hx1
        replace hx2 := (hbr.cell (World.block_lt_of_cell? w _ hx2)).trans hx2
        have hok : impl_ValidTrades.ok l0 n = (impl_ValidTrades.okT (rd_T42 l0 (n : Int)) && (decide (n = 0) || decide ((rd_T42 l0 ((n : Int) - 1)).f0 ≤ (rd_T42 l0 (n : Int)).f0))) := rfl
        have hpv : 0 < n → ∃ ad2, ad = ad2 ∧ wr.cell? (ad2.add ((n - 1) * 3)) = some (.int .i64 (rd_T42 l0 ((n : Int) - 1)).f0) := by
          intro h0
          obtain ⟨ad2, e, hy0, _, _⟩ := at_T42 HR0.out ((n : Int) - 1) (by omega) (by omega)
          have e2 : ((n : Int) - 1).toNat = n - 1 := by omega
          rw [e2] at hy0
          cases e
          exact ⟨_, rfl, (hbr.cell (World.block_lt_of_cell? w _ hy0)).trans hy0⟩
        have HALL := Aside0.mk hall
        have HBR := Aside0.mk hbr
        have HOK := Aside0.mk hok
        clear hall hbr hok
        generalize rd_T42 l0 (n : Int) = p at hx0 hx1 hx2 HOK hpv
        generalize rd_T42 l0 ((n : Int) - 1) = q at HOK hpv
        by_cases h1 : 0 ≤ p.f0 ∧ p.f0 ≤ 36524
        · have hd1 : decide (0 ≤ p.f0 ∧ p.f0 ≤ 36524) = true := decide_eq_true h1
          by_cases hz : n = 0
          · have hn0 : decide (0 < (n : Int)) = false := decide_eq_false (by omega)
            have hn1 : decide (0 < n) = false := decide_eq_false (by omega)
            have HZ := Aside0.mk (Or.inl hz : n = 0 ∨ q.f0 ≤ p.f0)
            clear hpv hz
            by_cases h3 : p.f1 ≠ 0
            · have hd3 : (p.f1 == 0) = false := by simpa using h3
              by_cases h4 : -9999 ≤ p.f1 ∧ p.f1 ≤ 9999
              · have hd4 : decide (-9999 ≤ p.f1 ∧ p.f1 ≤ 9999) = true := decide_eq_true h4
                by_cases h5 : 1 ≤ p.f2 ∧ p.f2 ≤ 50000
                · have hd5 : decide (1 ≤ p.f2 ∧ p.f2 ≤ 50000) = true := decide_eq_true h5
                  have hyes : impl_ValidTrades.ok l0 n = true := by
                    rw [HOK.out]
                    unfold impl_ValidTrades.okT
                    rw [decide_eq_true ⟨h1, h4, h3, h5⟩]
                    simp only [Bool.true_and, Bool.or_eq_true, decide_eq_true_eq]
                    exact HZ.out
                  have HYES := Aside0.mk hyes
                  clear hyes
                  go_wp2_with fail
                  go_quiet ((first | (go_at_call 23; exact Calls.quiet_of (impl_ValidTrades.day _ _)) | (go_at_call 24; exact Calls.quiet_of (impl_ValidTrades.many _ _ _ _)) | (go_at_call 25; exact Calls.quiet_of (impl_ValidTrades.price _ _))))
                  all_goals
                    go_wp2
                    go_roundw
                    case rel => exact ⟨n + 1, by omega, by go_num, fun j hj => (Nat.lt_succ_iff_lt_or_eq.1 hj).elim (fun h => HALL.out j h) (fun h => h ▸ HYES.out), pw_below_drewN (HBR.out.alloc HBR.out.size _) _⟩
                    case measure => simp [intOf]; omega
                · have hd5 : decide (1 ≤ p.f2 ∧ p.f2 ≤ 50000) = false := decide_eq_false h5
                  obtain rfl : r = false := HV.out.symm.trans (impl_ValidTrades.no hlt (by rw [HOK.out]; unfold impl_ValidTrades.okT; rw [decide_eq_false (fun h => h5 h.2.2.2)]; rfl))
                  go_wp2_with fail
                  go_quiet ((first | (go_at_call 23; exact Calls.quiet_of (impl_ValidTrades.day _ _)) | (go_at_call 24; exact Calls.quiet_of (impl_ValidTrades.many _ _ _ _)) | (go_at_call 25; exact Calls.quiet_of (impl_ValidTrades.price _ _))))
                  all_goals
                    go_wp2
                    go_ret
                    exact ⟨rfl, pw_below_drewN (HBR.out.alloc HBR.out.size _) _⟩
              · have hd4 : decide (-9999 ≤ p.f1 ∧ p.f1 ≤ 9999) = false := decide_eq_false h4
                obtain rfl : r = false := HV.out.symm.trans (impl_ValidTrades.no hlt (by rw [HOK.out]; unfold impl_ValidTrades.okT; rw [decide_eq_false (fun h => h4 h.2.1)]; rfl))
                go_wp2_with fail
                go_quiet ((first | (go_at_call 23; exact Calls.quiet_of (impl_ValidTrades.day _ _)) | (go_at_call 24; exact Calls.quiet_of (impl_ValidTrades.many _ _ _ _)) | (go_at_call 25; exact Calls.quiet_of (impl_ValidTrades.price _ _))))
                all_goals
                  go_wp2
                  go_ret
                  exact ⟨rfl, pw_below_drewN (HBR.out.alloc HBR.out.size _) _⟩
            · have hd3 : (p.f1 == 0) = true := by simpa using h3
              obtain rfl : r = false := HV.out.symm.trans (impl_ValidTrades.no hlt (by rw [HOK.out]; unfold impl_ValidTrades.okT; rw [decide_eq_false (fun h => h3 h.2.2.1)]; rfl))
              go_wp2_with fail
              go_quiet ((first | (go_at_call 23; exact Calls.quiet_of (impl_ValidTrades.day _ _)) | (go_at_call 24; exact Calls.quiet_of (impl_ValidTrades.many _ _ _ _)) | (go_at_call 25; exact Calls.quiet_of (impl_ValidTrades.price _ _))))
              all_goals
                go_wp2
                go_ret
                exact ⟨rfl, pw_below_drewN (HBR.out.alloc HBR.out.size _) _⟩
          · obtain ⟨_, rfl, hy0⟩ := hpv (by omega)
            have hy1 : (wr.alloc (Obj.cells #[.int .i64 p.f0, .int .i64 p.f1, .int .i64 p.f2] 42)).cell? (ad.add ((n - 1) * 3)) = some (.int .i64 q.f0) := (((Below.refl wr.heap.size wr).alloc (Nat.le_refl _) _).cell (World.block_lt_of_cell? wr _ hy0)).trans hy0
            have hn0 : decide (0 < (n : Int)) = true := decide_eq_true (by omega)
            have hn1 : decide (0 < n) = true := decide_eq_true (by omega)
            have hw1 : IntKind.i64.wrap ((n : Int) - 1) = (n : Int) - 1 := by rw [IntKind.wrap_i64]; omega
            have hw2 : ((n : Int) - 1).toNat = n - 1 := by omega
            have hw3 : (0 : Int) ≤ (n : Int) - 1 := by omega
            have hw5 : (1 : Int) ≤ (n : Int) := by omega
            have hw6 : 1 ≤ n := by omega
            have hw7 : 0 < n := by omega
            have hw4 : (n : Int) - 1 < (l0.length : Int) := by omega
            by_cases h2 : q.f0 ≤ p.f0
            · have hd2 : decide (p.f0 < q.f0) = false := decide_eq_false (by omega)
              have HZ := Aside0.mk (Or.inr h2 : n = 0 ∨ q.f0 ≤ p.f0)
              clear hz
              by_cases h3 : p.f1 ≠ 0
              · have hd3 : (p.f1 == 0) = false := by simpa using h3
                by_cases h4 : -9999 ≤ p.f1 ∧ p.f1 ≤ 9999
                · have hd4 : decide (-9999 ≤ p.f1 ∧ p.f1 ≤ 9999) = true := decide_eq_true h4
                  by_cases h5 : 1 ≤ p.f2 ∧ p.f2 ≤ 50000
                  · have hd5 : decide (1 ≤ p.f2 ∧ p.f2 ≤ 50000) = true := decide_eq_true h5
                    have hyes : impl_ValidTrades.ok l0 n = true := by
                      rw [HOK.out]
                      unfold impl_ValidTrades.okT
                      rw [decide_eq_true ⟨h1, h4, h3, h5⟩]
                      simp only [Bool.true_and, Bool.or_eq_true, decide_eq_true_eq]
                      exact HZ.out
                    have HYES := Aside0.mk hyes
                    clear hyes
                    go_wp2_with fail
                    go_quiet ((first | (go_at_call 23; exact Calls.quiet_of (impl_ValidTrades.day _ _)) | (go_at_call 24; exact Calls.quiet_of (impl_ValidTrades.many _ _ _ _)) | (go_at_call 25; exact Calls.quiet_of (impl_ValidTrades.price _ _))))
                    all_goals
                      go_wp2
                      go_roundw
                      case rel => exact ⟨n + 1, by omega, by go_num, fun j hj => (Nat.lt_succ_iff_lt_or_eq.1 hj).elim (fun h => HALL.out j h) (fun h => h ▸ HYES.out), pw_below_drewN (HBR.out.alloc HBR.out.size _) _⟩
                      case measure => simp [intOf]; omega
                  · have hd5 : decide (1 ≤ p.f2 ∧ p.f2 ≤ 50000) = false := decide_eq_false h5
                    obtain rfl : r = false := HV.out.symm.trans (impl_ValidTrades.no hlt (by rw [HOK.out]; unfold impl_ValidTrades.okT; rw [decide_eq_false (fun h => h5 h.2.2.2)]; rfl))
                    go_wp2_with fail
                    go_quiet ((first | (go_at_call 23; exact Calls.quiet_of (impl_ValidTrades.day _ _)) | (go_at_call 24; exact Calls.quiet_of (impl_ValidTrades.many _ _ _ _)) | (go_at_call 25; exact Calls.quiet_of (impl_ValidTrades.price _ _))))
                    all_goals
                      go_wp2
                      go_ret
                      exact ⟨rfl, pw_below_drewN (HBR.out.alloc HBR.out.size _) _⟩
                · have hd4 : decide (-9999 ≤ p.f1 ∧ p.f1 ≤ 9999) = false := decide_eq_false h4
                  obtain rfl : r = false := HV.out.symm.trans (impl_ValidTrades.no hlt (by rw [HOK.out]; unfold impl_ValidTrades.okT; rw [decide_eq_false (fun h => h4 h.2.1)]; rfl))
                  go_wp2_with fail
                  go_quiet ((first | (go_at_call 23; exact Calls.quiet_of (impl_ValidTrades.day _ _)) | (go_at_call 24; exact Calls.quiet_of (impl_ValidTrades.many _ _ _ _)) | (go_at_call 25; exact Calls.quiet_of (impl_ValidTrades.price _ _))))
                  all_goals
                    go_wp2
                    go_ret
                    exact ⟨rfl, pw_below_drewN (HBR.out.alloc HBR.out.size _) _⟩
              · have hd3 : (p.f1 == 0) = true := by simpa using h3
                obtain rfl : r = false := HV.out.symm.trans (impl_ValidTrades.no hlt (by rw [HOK.out]; unfold impl_ValidTrades.okT; rw [decide_eq_false (fun h => h3 h.2.2.1)]; rfl))
                go_wp2_with fail
                go_quiet ((first | (go_at_call 23; exact Calls.quiet_of (impl_ValidTrades.day _ _)) | (go_at_call 24; exact Calls.quiet_of (impl_ValidTrades.many _ _ _ _)) | (go_at_call 25; exact Calls.quiet_of (impl_ValidTrades.price _ _))))
                all_goals
                  go_wp2
                  go_ret
                  exact ⟨rfl, pw_below_drewN (HBR.out.alloc HBR.out.size _) _⟩
            · have hd2 : decide (p.f0 < q.f0) = true := decide_eq_true (by omega)
              obtain rfl : r = false := HV.out.symm.trans (impl_ValidTrades.no hlt (by rw [HOK.out]; unfold impl_ValidTrades.okT; rw [Bool.and_eq_false_iff]; refine .inr ?_; simp only [Bool.or_eq_false_iff, decide_eq_false_iff_not]; exact ⟨hz, h2⟩))
              clear hz
              go_wp2_with fail
              go_quiet ((first | (go_at_call 23; exact Calls.quiet_of (impl_ValidTrades.day _ _)) | (go_at_call 24; exact Calls.quiet_of (impl_ValidTrades.many _ _ _ _)) | (go_at_call 25; exact Calls.quiet_of (impl_ValidTrades.price _ _))))
              all_goals
                go_wp2
                go_ret
                exact ⟨rfl, pw_below_drewN (HBR.out.alloc HBR.out.size _) _⟩
        · have hd1 : decide (0 ≤ p.f0 ∧ p.f0 ≤ 36524) = false := decide_eq_false h1
          clear hpv
          obtain rfl : r = false := HV.out.symm.trans (impl_ValidTrades.no hlt (by rw [HOK.out]; unfold impl_ValidTrades.okT; rw [decide_eq_false (fun h => h1 h.1)]; rfl))
          go_wp2_with fail
          go_quiet ((first | (go_at_call 23; exact Calls.quiet_of (impl_ValidTrades.day _ _)) | (go_at_call 24; exact Calls.quiet_of (impl_ValidTrades.many _ _ _ _)) | (go_at_call 25; exact Calls.quiet_of (impl_ValidTrades.price _ _))))
          all_goals
            go_wp2
            go_ret
            exact ⟨rfl, pw_below_drewN (HBR.out.alloc HBR.out.size _) _⟩
      · obtain rfl : n = l0.length := by omega
        obtain rfl : r = true := HV.out.symm.trans (impl_ValidTrades.yes (by omega) hall)
        have HBR := Aside0.mk hbr
        clear hall hbr
        go_wp2
        go_ret
        exact ⟨rfl, HBR.out⟩


/-- A state of type 50 at block g of W; what its slices lead to came in by w0. -/
def IsS50 (w0 W : World) (g : Nat) (f0 : Int) (f1 : Int) (f2 : Int) : Prop := W.heap[g]? = some (.cells #[.int .i64 f0, .int .i64 f1, .int .i64 f2] 50 (0, 0)) ∧ w0.heap.size ≤ g
theorem IsS50.grown {w0 W : World} {g : Nat} {f0 : Int} {f1 : Int} {f2 : Int} {W1 : World} {row : Option Nat} (h : IsS50 w0 W g f0 f1 f2) (hw : W.grownBy W1 row) (hne : some g ≠ row) : IsS50 w0 W1 g f0 f1 f2 := by
  obtain ⟨hb, hg⟩ := h
  exact ⟨blk_grown hb hw hne, hg⟩
theorem IsS50.own_neN {w0 W : World} {g : Nat} {f0 : Int} {f1 : Int} {f2 : Int} {α : Type} {d : Kd α} {e : Nat} {base : Nat} {ok : Nat → Prop} {v : Value} {xs : List α} (h : IsS50 w0 W g f0 f1 f2) (ho : Kd.N d e W base ok v xs) (ht : e ≠ 50) : some g ≠ v.ownBlock := by
  obtain ⟨hb, hg⟩ := h
  exact Kd.N_ne ho hb ht
theorem IsS50.fresh {w0 W : World} {g : Nat} {f0 : Int} {f1 : Int} {f2 : Int} (h : IsS50 w0 W g f0 f1 f2) : ∀ k, W.heap.size ≤ k → k ≠ g := by
  obtain ⟨hb, hg⟩ := h
  exact Kd.freshB hb
theorem IsS50.kept {w0 W : World} {g : Nat} {f0 : Int} {f1 : Int} {f2 : Int} {W1 : World} {S : Nat → Prop} (h : IsS50 w0 W g f0 f1 f2) (hk : Kept W W1 S) (hne : ¬ S g) : IsS50 w0 W1 g f0 f1 f2 := by
  obtain ⟨hb, hg⟩ := h
  exact ⟨blk_kept hb hk hne, hg⟩
theorem IsS50.below {w0 W : World} {g : Nat} {f0 : Int} {f1 : Int} {f2 : Int} {W1 : World} (h : IsS50 w0 W g f0 f1 f2) (hw : Below W.heap.size W W1) : IsS50 w0 W1 g f0 f1 f2 := h.grown (grown_of_below hw none) (by simp)
theorem IsS50.alloc {w0 W : World} {g : Nat} {f0 : Int} {f1 : Int} {f2 : Int} (h : IsS50 w0 W g f0 f1 f2) (o : Obj) : IsS50 w0 (W.alloc o) g f0 f1 f2 := h.below (below_alloc (Below.refl _ _) o)
theorem IsS50.drewN {w0 W : World} {g : Nat} {f0 : Int} {f1 : Int} {f2 : Int} (h : IsS50 w0 W g f0 f1 f2) (m : Nat) : IsS50 w0 (W.drewN m) g f0 f1 f2 := h
theorem IsS50.drew {w0 W : World} {g : Nat} {f0 : Int} {f1 : Int} {f2 : Int} (h : IsS50 w0 W g f0 f1 f2) : IsS50 w0 W.drew g f0 f1 f2 := h
theorem IsS50.at_ {w0 W : World} {g : Nat} {f0 : Int} {f1 : Int} {f2 : Int} {w' : World} {m : Nat} (hq : W.drewN m = w') (h : IsS50 w0 W g f0 f1 f2) : IsS50 w0 w' g f0 f1 f2 := by subst hq; exact IsS50.drewN h m
theorem IsS50.apart {w0 W : World} {g : Nat} {f0 : Int} {f1 : Int} {f2 : Int} {α : Type} {d : Kd α} {e : Nat} {base : Nat} {ok : Nat → Prop} {v : Value} {xs : List α} (h : IsS50 w0 W g f0 f1 f2) (ho : d.R e W base ok v xs) (ht : ∀ q, q ∈ e :: d.E → q ≠ 50) : d.R e W base (fun k => ok k ∧ k ≠ g) v xs := by
  obtain ⟨hb, hg⟩ := h
  exact Kd.R_types ho hb ht
theorem IsS50.own_ne {w0 W : World} {g : Nat} {f0 : Int} {f1 : Int} {f2 : Int} {α : Type} {d : Kd α} {e : Nat} {base : Nat} {ok : Nat → Prop} {v : Value} {xs : List α} (h : IsS50 w0 W g f0 f1 f2) (ho : d.R e W base ok v xs) (ht : e ≠ 50) : some g ≠ v.ownBlock := by
  obtain ⟨hb, hg⟩ := h
  exact Kd.R_ne ho hb ht
theorem IsS50.apartQ {w0 W : World} {g : Nat} {f0 : Int} {f1 : Int} {f2 : Int} {α : Type} {d : Kd α} {e : Nat} {base : Nat} {ok : Nat → Prop} {v : Value} {xs : List α} (h : IsS50 w0 W g f0 f1 f2) (ho : d.Q e W base ok v xs) (ht : ∀ q, q ∈ e :: d.E → q ≠ 50) : d.Q e W base (fun k => ok k ∧ k ≠ g) v xs := by
  obtain ⟨hb, hg⟩ := h
  exact Kd.Q_types ho hb ht
theorem IsS50.own_neQ {w0 W : World} {g : Nat} {f0 : Int} {f1 : Int} {f2 : Int} {α : Type} {d : Kd α} {e : Nat} {base : Nat} {ok : Nat → Prop} {v : Value} {xs : List α} (h : IsS50 w0 W g f0 f1 f2) (ho : d.Q e W base ok v xs) (ht : e ≠ 50) : some g ≠ v.ownBlock := by
  obtain ⟨hb, hg⟩ := h
  exact Kd.Q_ne ho hb ht
theorem IsS50.apartS {w0 W : World} {g : Nat} {f0 : Int} {f1 : Int} {f2 : Int} {α : Type} {d : Kd α} {e : Nat} {base : Nat} {ok : Nat → Prop} {v : Value} {xs : List α} (h : IsS50 w0 W g f0 f1 f2) (ho : d.S e W base ok v xs) (ht : ∀ q, q ∈ e :: d.E → q ≠ 50) : d.S e W base (fun k => ok k ∧ k ≠ g) v xs := by
  obtain ⟨hb, hg⟩ := h
  exact Kd.S_types ho hb ht
theorem IsS50.own_neS {w0 W : World} {g : Nat} {f0 : Int} {f1 : Int} {f2 : Int} {α : Type} {d : Kd α} {e : Nat} {base : Nat} {ok : Nat → Prop} {v : Value} {xs : List α} (h : IsS50 w0 W g f0 f1 f2) (ho : d.S e W base ok v xs) (ht : e ≠ 50) : some g ≠ v.ownBlock := by
  obtain ⟨hb, hg⟩ := h
  exact Kd.S_ne ho hb ht
theorem IsS50.lt {w0 W : World} {g : Nat} {f0 : Int} {f1 : Int} {f2 : Int} (h : IsS50 w0 W g f0 f1 f2) : g < W.heap.size := by
  obtain ⟨hb, hg⟩ := h
  exact blk_lt hb
theorem IsS50.ge {w0 W : World} {g : Nat} {f0 : Int} {f1 : Int} {f2 : Int} (h : IsS50 w0 W g f0 f1 f2) : w0.heap.size ≤ g := by
  obtain ⟨hb, hg⟩ := h
  exact hg
theorem IsS50.ne_blk {w0 W : World} {g : Nat} {f0 : Int} {f1 : Int} {f2 : Int} {a : Nat} {cs : Array Value} {t : TypeId} {fr : Nat × Nat} (h : IsS50 w0 W g f0 f1 f2) (hb2 : W.heap[a]? = some (.cells cs t fr)) (ht : t ≠ 50) : g ≠ a := by
  obtain ⟨hb, hg⟩ := h
  rintro rfl
  rw [hb] at hb2
  injection hb2 with hb2
  injection hb2 with _ ht2
  exact ht ht2.symm
theorem IsS50.far {w0 W : World} {g : Nat} {f0 : Int} {f1 : Int} {f2 : Int} {p : Addr} (h : IsS50 w0 W g f0 f1 f2) (hne : g ≠ p.block) (u : Value) : IsS50 w0 (W.setCell p u) g f0 f1 f2 := by
  obtain ⟨hb, hg⟩ := h
  exact ⟨blk_far hb hne u, hg⟩
theorem cellS50_0 {W : World} {g : Nat} {f0 : Int} {f1 : Int} {f2 : Int} (h : W.heap[g]? = some (.cells #[.int .i64 f0, .int .i64 f1, .int .i64 f2] 50 (0, 0))) : W.cell? ⟨g, 0, none⟩ = some (.int .i64 f0) := (blk_cell h 0).trans rfl
theorem IsS50.set_0 {w0 W : World} {g : Nat} {f0 : Int} {f1 : Int} {f2 : Int} (h : IsS50 w0 W g f0 f1 f2) (x : Int) : IsS50 w0 (W.setCell ⟨g, 0, none⟩ (.int .i64 x)) g x f1 f2 := by
  obtain ⟨hb, hg⟩ := h
  exact ⟨by simpa using blk_set hb 0 (.int .i64 x), hg⟩
theorem cellS50_1 {W : World} {g : Nat} {f0 : Int} {f1 : Int} {f2 : Int} (h : W.heap[g]? = some (.cells #[.int .i64 f0, .int .i64 f1, .int .i64 f2] 50 (0, 0))) : W.cell? ⟨g, 1, none⟩ = some (.int .i64 f1) := (blk_cell h 1).trans rfl
theorem IsS50.set_1 {w0 W : World} {g : Nat} {f0 : Int} {f1 : Int} {f2 : Int} (h : IsS50 w0 W g f0 f1 f2) (x : Int) : IsS50 w0 (W.setCell ⟨g, 1, none⟩ (.int .i64 x)) g f0 x f2 := by
  obtain ⟨hb, hg⟩ := h
  exact ⟨by simpa using blk_set hb 1 (.int .i64 x), hg⟩
theorem cellS50_2 {W : World} {g : Nat} {f0 : Int} {f1 : Int} {f2 : Int} (h : W.heap[g]? = some (.cells #[.int .i64 f0, .int .i64 f1, .int .i64 f2] 50 (0, 0))) : W.cell? ⟨g, 2, none⟩ = some (.int .i64 f2) := (blk_cell h 2).trans rfl
theorem IsS50.set_2 {w0 W : World} {g : Nat} {f0 : Int} {f1 : Int} {f2 : Int} (h : IsS50 w0 W g f0 f1 f2) (x : Int) : IsS50 w0 (W.setCell ⟨g, 2, none⟩ (.int .i64 x)) g f0 f1 x := by
  obtain ⟨hb, hg⟩ := h
  exact ⟨by simpa using blk_set hb 2 (.int .i64 x), hg⟩
theorem IsS50.new (w0 W : World) (f0 : Int) (f1 : Int) (f2 : Int) (hB : Below w0.heap.size w0 W) : IsS50 w0 (W.alloc (.cells #[.int .i64 f0, .int .i64 f1, .int .i64 f2] 50)) W.heap.size f0 f1 f2 := ⟨by simpa using heap_alloc_new W _, hB.size⟩

/-! ### impl_PostTrades: function 16 -/
def impl_PostTrades.post (t : S42) : S50 := if t.f1 < 0 then ⟨1, 0, -t.f1 * t.f2⟩ else ⟨0, 1, t.f1 * t.f2⟩
def impl_PostTrades.v (l : List S42) : List S50 := if impl_ValidTrades.v l = true then l.map impl_PostTrades.post else []
def impl_PostTrades.f (l0 : List S42) : Option (List S50) := some (impl_PostTrades.v l0)
theorem impl_PostTrades.infoP : (Try.prog.info? 50).map (fun i => (i.zero, i.size, i.bytes)) = some (some (.agg #[(.int .i64 0), (.int .i64 0), (.int .i64 0)]), 3, 24) := by kernel_rfl
theorem impl_PostTrades.trade_of {l : List S42} (h : impl_ValidTrades.v l = true) : l.length ≤ 16 ∧ ∀ t ∈ l, (-9999 ≤ t.f1 ∧ t.f1 ≤ 9999) ∧ 1 ≤ t.f2 ∧ t.f2 ≤ 50000 := by
  unfold impl_ValidTrades.v at h
  simp only [Bool.and_eq_true, decide_eq_true_eq, List.all_eq_true] at h
  refine ⟨h.1, fun t ht => ?_⟩
  obtain ⟨i, hi, rfl⟩ := List.getElem_of_mem ht
  have h1 := h.2 i (List.mem_range.2 hi)
  unfold impl_ValidTrades.ok at h1
  rw [Bool.and_eq_true] at h1
  have h2 := of_decide_eq_true h1.1
  have e : rd_T42 l (i : Int) = l[i] := by
    unfold rd_T42
    rw [List.getD_eq_getElem?_getD, Int.toNat_natCast, List.getElem?_eq_getElem hi]
    rfl
  rw [e] at h2
  exact ⟨h2.2.1, h2.2.2.2⟩
theorem impl_PostTrades.prod_bd {a b : Int} (ha : -9999 ≤ a ∧ a ≤ 9999) (hb : 1 ≤ b ∧ b ≤ 50000) : (-499950000 ≤ a * b ∧ a * b ≤ 499950000) ∧ (-499950000 ≤ -a * b ∧ -a * b ≤ 499950000) := by
  have h1 : (a * b).natAbs = a.natAbs * b.natAbs := Int.natAbs_mul a b
  have h2 : a.natAbs * b.natAbs ≤ 9999 * 50000 := Nat.mul_le_mul (by omega) (by omega)
  rw [Int.neg_mul]
  omega
/-- The head of each round. -/
def impl_PostTrades.Rel (l : List S42) (w : World) (gg : Nat) (v3 v15 : Value) (wr : World) : Prop :=
  ∃ n : Nat, n ≤ l.length ∧ v15 = .int .i64 n ∧ l.length - n ≤ gg ∧ Kd.R k50 50 wr w.heap.size (fun _ => True) v3 ((l.take n).map impl_PostTrades.post) ∧ Below w.heap.size w wr
set_option maxHeartbeats 8000000 in
set_option maxRecDepth 100000 in
theorem impl_PostTrades.calls (A0 : Option Addr) (c0 : Nat) (l0 : List (S42)) (r : List (S50)) (w : World) (hr0 : Kd.C k42 w A0 l0.length l0) (hc0 : l0.length ≤ c0) (h : impl_PostTrades.f l0 = some r) :
    Calls Try.prog 16 #[.slice A0 l0.length c0] w fun e w' => ∃ v0_ : Value, e = .returned (v0_) ∧ Kd.R k50 50 w' w.heap.size (fun _ => True) v0_ r ∧ Below w.heap.size w w' := by
  obtain rfl := Option.some.inj h
  clear h
  have HR0 := Aside0.mk hr0
  have HC0 := Aside0.mk hc0
  clear hr0 hc0
  obtain ⟨i0, hi, hz0, hz1, hz2⟩ := info_parts impl_PostTrades.infoP
  by_cases hv : impl_ValidTrades.v l0 = true
  · have ht := impl_PostTrades.trade_of hv
    have hln := ht.1
    have hlz : (l0.length : Int) ≤ 16 := by omega
    have HT := Aside0.mk ht.2
    have hq : impl_PostTrades.v l0 = l0.map impl_PostTrades.post := if_pos hv
    rw [hq]
    generalize hres : l0.map impl_PostTrades.post = res
    have HRES := Aside0.mk hres
    have HV := Aside0.mk (show impl_ValidTrades.f l0 = some true by unfold impl_ValidTrades.f; rw [hv])
    clear hv ht hq hres
    have HI := Aside0.mk hi
    have HZ0 := Aside0.mk hz0
    have HZ1 := Aside0.mk hz1
    have HZ2 := Aside0.mk hz2
    clear hi hz0 hz1 hz2
    go_enter Try.func16, Try.ntmps16
    go_wp2_with (first
      | (go_at_call 8; refine (impl_ValidTrades.calls A0 c0 l0 true _ HR0.out HC0.out HV.out).mono ?_; rintro e w1 ⟨rfl, hb1⟩; have HB1 := Aside0.mk hb1; clear hb1)
      | (at_make; refine wpList_make_own _ rfl _ _ 34 rfl w.heap.size 50 i0 (.agg #[(.int .i64 0), (.int .i64 0), (.int .i64 0)]) 3 Try.underlying34 HI.out HZ0.out HZ1.out .i64 .i64 _ l0.length rfl rfl rfl (by rw [HZ2.out]; omega) (by unfold maxLen; omega) HB1.out.size ?_; intro w2 hown2 hgrow2; have HO2 := Aside0.mk hown2; have HB2 := Aside0.mk (HB1.out.grown hgrow2 HB1.out.size (fun k h => by cases h)); clear hown2 hgrow2))
    go_loopg [3, 15] l0.length (fun gg v3 v15 wr => impl_PostTrades.Rel l0 w gg v3 v15 wr)
    case atStart => exact ⟨0, Nat.zero_le _, rfl, by omega, ⟨fun _ _ => trivial, [], HO2.out, Reps.none _ _⟩, HB2.out⟩
    case round =>
      obtain ⟨n, hn, rfl, hgg, hR, hbr⟩ := hrel
      clear HB2 HO2 HB1
      by_cases hlt : n < l0.length
      · have hltz : (n : Int) < (l0.length : Int) := by omega
        obtain ⟨ad, rfl, hx0, hx1, hx2⟩ := at_T42 HR0.out (n : Int) (by omega) (by omega)
        rw [Int.toNat_natCast] at hx0 hx1 hx2
        replace hx0 := (hbr.cell (World.block_lt_of_cell? w _ hx0)).trans hx0
        replace hx1 := (hbr.cell (World.block_lt_of_cell? w _ hx1)).trans hx1
        replace hx2 := (hbr.cell (World.block_lt_of_cell? w _ hx2)).trans hx2
        have hmem : rd_T42 l0 (n : Int) = l0[n] := by
          unfold rd_T42
          rw [List.getD_eq_getElem?_getD, Int.toNat_natCast, List.getElem?_eq_getElem hlt]
          rfl
        rw [hmem] at hx0 hx1 hx2
        have htk : l0.take (n + 1) = l0.take n ++ [l0[n]] := by rw [List.take_succ_eq_append_getElem hlt]
        have hb := HT.out _ (List.getElem_mem hlt)
        have hlk : ((l0.take n).map impl_PostTrades.post).length ≤ 16 := by rw [List.length_map, List.length_take]; omega
        clear hmem
        generalize l0[n] = t at hx0 hx1 hx2 htk hb
        obtain ⟨d, m, pr⟩ := t
        simp only at hx0 hx1 hx2 hb
        have hpb := impl_PostTrades.prod_bd hb.1 hb.2
        have hp1 := hpb.1
        have hp2 := hpb.2
        have HTK := Aside0.mk htk
        have HBR := Aside0.mk hbr
        generalize hys : (l0.take n).map impl_PostTrades.post = ys at hR hlk
        have HYS := Aside0.mk hys
        clear hys
        obtain ⟨A3, c3, rfl⟩ := Kd.R_slice hR
        have HR := Aside0.mk hR
        have HG := Aside0.mk hgg
        have HL := Aside0.mk hlk
        clear htk hbr hR hgg hlk hpb
        by_cases hneg : m < 0
        · have hd : decide (m < 0) = true := decide_eq_true hneg
          go_wp2_with ((with_reducible refine gate_builtin (b := .append) (xs := #[.tmp 35, .tmp 37]) rfl ?_); at_builtin; refine Kd.R_append k50 (w0 := w) w.heap.size rfl (.tmp 35) (.tmp 37) 34 50 (.agg #[(.int .i64 0), (.int .i64 0), (.int .i64 0)]) 24 rfl Try.underlying34 impl_PostTrades.infoP rfl (by decide) (by omega) (.slice A3 ys.length c3) ys (⟨1, 0, -m * pr⟩ : S50) [.int .i64 1, .int .i64 0, .int .i64 (-m * pr)] (fun _ => True) (fun _ => False) rfl (by rw [World.size_alloc, World.size_alloc]; rfl) (k50_mkM _ _ _ (⟨1, 0, -m * pr⟩ : S50)) (fun _ hk => hk.elim) (fun _ _ => trivial) (Kd.R_alloc (Kd.R_alloc HR.out _) _) (below_alloc (below_alloc HBR.out _) _) (below_alloc (below_alloc HBR.out _) _).size (by have := HL.out; omega) ?_; intro v9 w9 ho hbb hgr hat; have HO9 := Aside0.mk ho; have HB9 := Aside0.mk hbb; clear ho hbb hgr hat)
          go_roundg (l0.length - (n + 1))
          case measure => have := HG.out; omega
          case rel =>
            refine ⟨n + 1, by omega, by go_num, Nat.le_refl _, ?_, HB9.out⟩
            have e : impl_PostTrades.post ⟨d, m, pr⟩ = (⟨1, 0, -m * pr⟩ : S50) := if_pos (show m < 0 by omega)
            rw [HTK.out, List.map_append, List.map_cons, List.map_nil, e, HYS.out]
            exact HO9.out
        · have hd : decide (m < 0) = false := decide_eq_false hneg
          go_wp2_with ((with_reducible refine gate_builtin (b := .append) (xs := #[.tmp 35, .tmp 37]) rfl ?_); at_builtin; refine Kd.R_append k50 (w0 := w) w.heap.size rfl (.tmp 35) (.tmp 37) 34 50 (.agg #[(.int .i64 0), (.int .i64 0), (.int .i64 0)]) 24 rfl Try.underlying34 impl_PostTrades.infoP rfl (by decide) (by omega) (.slice A3 ys.length c3) ys (⟨0, 1, m * pr⟩ : S50) [.int .i64 0, .int .i64 1, .int .i64 (m * pr)] (fun _ => True) (fun _ => False) rfl (by rw [World.size_alloc, World.size_alloc]; rfl) (k50_mkM _ _ _ (⟨0, 1, m * pr⟩ : S50)) (fun _ hk => hk.elim) (fun _ _ => trivial) (Kd.R_alloc (Kd.R_alloc HR.out _) _) (below_alloc (below_alloc HBR.out _) _) (below_alloc (below_alloc HBR.out _) _).size (by have := HL.out; omega) ?_; intro v9 w9 ho hbb hgr hat; have HO9 := Aside0.mk ho; have HB9 := Aside0.mk hbb; clear ho hbb hgr hat)
          go_roundg (l0.length - (n + 1))
          case measure => have := HG.out; omega
          case rel =>
            refine ⟨n + 1, by omega, by go_num, Nat.le_refl _, ?_, HB9.out⟩
            have e : impl_PostTrades.post ⟨d, m, pr⟩ = (⟨0, 1, m * pr⟩ : S50) := if_neg (show ¬ m < 0 by omega)
            rw [HTK.out, List.map_append, List.map_cons, List.map_nil, e, HYS.out]
            exact HO9.out
      · have hltz : ¬ (n : Int) < (l0.length : Int) := by omega
        obtain rfl : n = l0.length := by omega
        rw [List.take_length, HRES.out] at hR
        have HR := Aside0.mk hR
        have HBR := Aside0.mk hbr
        clear hR hbr hgg
        go_wp2
        go_ret
        exact ⟨_, rfl, HR.out, HBR.out⟩
  · have hv' : impl_ValidTrades.v l0 = false := by simpa using hv
    have hq : impl_PostTrades.v l0 = [] := if_neg hv
    rw [hq]
    have HV := Aside0.mk (show impl_ValidTrades.f l0 = some false by unfold impl_ValidTrades.f; rw [hv'])
    clear hv hv' hq hi hz0 hz1 hz2
    go_enter Try.func16, Try.ntmps16
    go_wp2_with (go_at_call 8; refine (impl_ValidTrades.calls A0 c0 l0 false _ HR0.out HC0.out HV.out).mono ?_; rintro e w1 ⟨rfl, hb1⟩; have HB1 := Aside0.mk hb1; clear hb1)
    go_ret
    exact ⟨_, rfl, Kd.R_nil _ _ _ _ _, HB1.out⟩


/-! ### laws_eqPost: function 30 -/
def laws_eqPost.f (a0_0 : Int) (a0_1 : Int) (a0_2 : Int) (a1_0 : Int) (a1_1 : Int) (a1_2 : Int) : Option (Bool) := if a0_0 = a1_0 then (if a0_1 = a1_1 then (if a0_2 = a1_2 then (some true) else (some false)) else (some false)) else (some false)
set_option maxHeartbeats 8000000 in
set_option maxRecDepth 100000 in
theorem laws_eqPost.calls (a0_0 : Int) (a0_1 : Int) (a0_2 : Int) (a1_0 : Int) (a1_1 : Int) (a1_2 : Int) (r : Bool) (w : World) (h : laws_eqPost.f a0_0 a0_1 a0_2 a1_0 a1_1 a1_2 = some r) :
    Calls Try.prog 30 #[.agg #[.int .i64 a0_0, .int .i64 a0_1, .int .i64 a0_2], .agg #[.int .i64 a1_0, .int .i64 a1_1, .int .i64 a1_2]] w fun e w' => e = .returned (.bool r) ∧ Below w.heap.size w w' := by
  have hu50 := Try.underlying50
  have HB := Aside0.mk (Below.refl w.heap.size w)
  have H : (if a0_0 = a1_0 then (if a0_1 = a1_1 then (if a0_2 = a1_2 then (some true) else (some false)) else (some false)) else (some false)) = some r := h
  clear h
  by_cases c3 : a0_0 = a1_0
  · rw [if_pos c3] at H
    have c3b0 : (a0_0 == a1_0) = true := beq_iff_eq.mpr c3
    have c3b1 : (a0_0 != a1_0) = false := bne_eq_false_iff_eq.mpr c3
    clear c3
    by_cases c4 : a0_1 = a1_1
    · rw [if_pos c4] at H
      have c4b0 : (a0_1 == a1_1) = true := beq_iff_eq.mpr c4
      have c4b1 : (a0_1 != a1_1) = false := bne_eq_false_iff_eq.mpr c4
      clear c4
      by_cases c5 : a0_2 = a1_2
      · rw [if_pos c5] at H
        have c5b0 : (a0_2 == a1_2) = true := beq_iff_eq.mpr c5
        have c5b1 : (a0_2 != a1_2) = false := bne_eq_false_iff_eq.mpr c5
        clear c5
        obtain rfl := Option.some.inj H
        go_enter Try.func30, Try.ntmps30
        go_wp2_with (first | ((with_reducible refine gate_dst (N := 2) rfl ?_); refine box_event ?hg (N := 2) ?hd (cs := #[.int .i64 a0_0, .int .i64 a0_1, .int .i64 a0_2]) (t := 50) ?hr ?_; (case hd => rfl); (case hg => rfl); (case hr => first | (go_simp; done) | (go_simp; rfl)); intro gb140 hg w6 hbox hb; have n0_ := Aside0.mk (below_step (by repeat (first | (with_reducible first | exact HB.out | apply below_alloc | apply pw_below_drewN | apply below_drew1) | exact HB.out)) hb); have n1_ := Aside0.mk (hbox); have n2_ := Aside0.mk ((by rw [hg]; exact (below_size (by repeat (first | (with_reducible first | exact HB.out | apply below_alloc | apply pw_below_drewN | apply below_drew1) | exact HB.out))) : w.heap.size ≤ gb140)); have n3_ := Aside0.mk ((by rw [hg]; exact (below_size (by repeat (first | (with_reducible first | exact HB.out | apply below_alloc | apply pw_below_drewN | apply below_drew1) | exact HB.out))) : w.heap.size ≤ gb140)); clear HB; have HB := n0_; have BK140 := n1_; have GW140 := n2_; have GE140 := n3_; clear n0_ n1_ n2_ n3_; clear hb hbox hg) | ((with_reducible refine gate_dst (N := 3) rfl ?_); refine box_event ?hg (N := 3) ?hd (cs := #[.int .i64 a1_0, .int .i64 a1_1, .int .i64 a1_2]) (t := 50) ?hr ?_; (case hd => rfl); (case hg => rfl); (case hr => first | (go_simp; done) | (go_simp; rfl)); intro gb141 hg w7 hbox hb; have n0_ := Aside0.mk (blk_below (g := gb140) (o := .cells #[.int .i64 a0_0, .int .i64 a0_1, .int .i64 a0_2] 50 (0, 0)) (by (with_reducible repeat (first | refine blk_drewN ?_ _ | refine blk_drew ?_ | refine blk_alloc ?_ _)); exact BK140.out) hb); have n1_ := Aside0.mk (below_step (by repeat (first | (with_reducible first | exact HB.out | apply below_alloc | apply pw_below_drewN | apply below_drew1 | refine below_set ?_ GE140.out) | exact HB.out)) hb); have n2_ := Aside0.mk (hbox); have n3_ := Aside0.mk ((by rw [hg]; exact (below_size (by repeat (first | (with_reducible first | exact HB.out | apply below_alloc | apply pw_below_drewN | apply below_drew1 | refine below_set ?_ GE140.out) | exact HB.out))) : w.heap.size ≤ gb141)); have n4_ := Aside0.mk ((by rw [hg]; exact (below_size (by repeat (first | (with_reducible first | exact HB.out | apply below_alloc | apply pw_below_drewN | apply below_drew1 | refine below_set ?_ GE140.out) | exact HB.out))) : w.heap.size ≤ gb141)); have n5_ := Aside0.mk ((by rw [hg]; exact Nat.ne_of_lt (blk_lt (g := gb140) (o := .cells #[.int .i64 a0_0, .int .i64 a0_1, .int .i64 a0_2] 50 (0, 0)) (by (with_reducible repeat (first | refine blk_drewN ?_ _ | refine blk_drew ?_ | refine blk_alloc ?_ _)); exact BK140.out)) : gb140 ≠ gb141)); have n6_ := Aside0.mk ((by rw [hg]; exact Nat.ne_of_gt (blk_lt (g := gb140) (o := .cells #[.int .i64 a0_0, .int .i64 a0_1, .int .i64 a0_2] 50 (0, 0)) (by (with_reducible repeat (first | refine blk_drewN ?_ _ | refine blk_drew ?_ | refine blk_alloc ?_ _)); exact BK140.out)) : gb141 ≠ gb140)); clear BK140; clear HB; have BK140 := n0_; have HB := n1_; have BK141 := n2_; have GW141 := n3_; have GE141 := n4_; have NB140_141 := n5_; have NB141_140 := n6_; clear n0_ n1_ n2_ n3_ n4_ n5_ n6_; clear hb hbox hg; have hnb8 := NB140_141.out; have hnc8 := NB141_140.out; have hcz9_0 : w7.cell? ⟨gb140, 0, none⟩ = some (.int .i64 a0_0) := (blk_cell BK140.out 0).trans rfl; have hcz9_1 : w7.cell? ⟨gb140, 1, none⟩ = some (.int .i64 a0_1) := (blk_cell BK140.out 1).trans rfl; have hcz9_2 : w7.cell? ⟨gb140, 2, none⟩ = some (.int .i64 a0_2) := (blk_cell BK140.out 2).trans rfl; have hfz9_0 := blk_frozen BK140.out 0; have hfz9_1 := blk_frozen BK140.out 1; have hfz9_2 := blk_frozen BK140.out 2; have hcz10_0 : w7.cell? ⟨gb141, 0, none⟩ = some (.int .i64 a1_0) := (blk_cell BK141.out 0).trans rfl; have hcz10_1 : w7.cell? ⟨gb141, 1, none⟩ = some (.int .i64 a1_1) := (blk_cell BK141.out 1).trans rfl; have hcz10_2 : w7.cell? ⟨gb141, 2, none⟩ = some (.int .i64 a1_2) := (blk_cell BK141.out 2).trans rfl; have hfz10_0 := blk_frozen BK141.out 0; have hfz10_1 := blk_frozen BK141.out 1; have hfz10_2 := blk_frozen BK141.out 2))
        go_ret
        exact ⟨by first | rfl | (simp [errW_none, errW_some] <;> rfl) | (simp [*, errW_none, errW_some] <;> rfl), by repeat (first | (with_reducible first | exact HB.out | apply below_alloc | apply pw_below_drewN | apply below_drew1 | refine below_set ?_ GE140.out | refine below_set ?_ GE141.out) | exact HB.out)⟩
      · rw [if_neg c5] at H
        have c5b0 : (a0_2 == a1_2) = false := beq_eq_false_iff_ne.mpr c5
        have c5b1 : (a0_2 != a1_2) = true := bne_iff_ne.mpr c5
        obtain rfl := Option.some.inj H
        go_enter Try.func30, Try.ntmps30
        go_wp2_with (first | ((with_reducible refine gate_dst (N := 2) rfl ?_); refine box_event ?hg (N := 2) ?hd (cs := #[.int .i64 a0_0, .int .i64 a0_1, .int .i64 a0_2]) (t := 50) ?hr ?_; (case hd => rfl); (case hg => rfl); (case hr => first | (go_simp; done) | (go_simp; rfl)); intro gb140 hg w11 hbox hb; have n0_ := Aside0.mk (below_step (by repeat (first | (with_reducible first | exact HB.out | apply below_alloc | apply pw_below_drewN | apply below_drew1) | exact HB.out)) hb); have n1_ := Aside0.mk (hbox); have n2_ := Aside0.mk ((by rw [hg]; exact (below_size (by repeat (first | (with_reducible first | exact HB.out | apply below_alloc | apply pw_below_drewN | apply below_drew1) | exact HB.out))) : w.heap.size ≤ gb140)); have n3_ := Aside0.mk ((by rw [hg]; exact (below_size (by repeat (first | (with_reducible first | exact HB.out | apply below_alloc | apply pw_below_drewN | apply below_drew1) | exact HB.out))) : w.heap.size ≤ gb140)); clear HB; have HB := n0_; have BK140 := n1_; have GW140 := n2_; have GE140 := n3_; clear n0_ n1_ n2_ n3_; clear hb hbox hg) | ((with_reducible refine gate_dst (N := 3) rfl ?_); refine box_event ?hg (N := 3) ?hd (cs := #[.int .i64 a1_0, .int .i64 a1_1, .int .i64 a1_2]) (t := 50) ?hr ?_; (case hd => rfl); (case hg => rfl); (case hr => first | (go_simp; done) | (go_simp; rfl)); intro gb141 hg w12 hbox hb; have n0_ := Aside0.mk (blk_below (g := gb140) (o := .cells #[.int .i64 a0_0, .int .i64 a0_1, .int .i64 a0_2] 50 (0, 0)) (by (with_reducible repeat (first | refine blk_drewN ?_ _ | refine blk_drew ?_ | refine blk_alloc ?_ _)); exact BK140.out) hb); have n1_ := Aside0.mk (below_step (by repeat (first | (with_reducible first | exact HB.out | apply below_alloc | apply pw_below_drewN | apply below_drew1 | refine below_set ?_ GE140.out) | exact HB.out)) hb); have n2_ := Aside0.mk (hbox); have n3_ := Aside0.mk ((by rw [hg]; exact (below_size (by repeat (first | (with_reducible first | exact HB.out | apply below_alloc | apply pw_below_drewN | apply below_drew1 | refine below_set ?_ GE140.out) | exact HB.out))) : w.heap.size ≤ gb141)); have n4_ := Aside0.mk ((by rw [hg]; exact (below_size (by repeat (first | (with_reducible first | exact HB.out | apply below_alloc | apply pw_below_drewN | apply below_drew1 | refine below_set ?_ GE140.out) | exact HB.out))) : w.heap.size ≤ gb141)); have n5_ := Aside0.mk ((by rw [hg]; exact Nat.ne_of_lt (blk_lt (g := gb140) (o := .cells #[.int .i64 a0_0, .int .i64 a0_1, .int .i64 a0_2] 50 (0, 0)) (by (with_reducible repeat (first | refine blk_drewN ?_ _ | refine blk_drew ?_ | refine blk_alloc ?_ _)); exact BK140.out)) : gb140 ≠ gb141)); have n6_ := Aside0.mk ((by rw [hg]; exact Nat.ne_of_gt (blk_lt (g := gb140) (o := .cells #[.int .i64 a0_0, .int .i64 a0_1, .int .i64 a0_2] 50 (0, 0)) (by (with_reducible repeat (first | refine blk_drewN ?_ _ | refine blk_drew ?_ | refine blk_alloc ?_ _)); exact BK140.out)) : gb141 ≠ gb140)); clear BK140; clear HB; have BK140 := n0_; have HB := n1_; have BK141 := n2_; have GW141 := n3_; have GE141 := n4_; have NB140_141 := n5_; have NB141_140 := n6_; clear n0_ n1_ n2_ n3_ n4_ n5_ n6_; clear hb hbox hg; have hnb13 := NB140_141.out; have hnc13 := NB141_140.out; have hcz14_0 : w12.cell? ⟨gb140, 0, none⟩ = some (.int .i64 a0_0) := (blk_cell BK140.out 0).trans rfl; have hcz14_1 : w12.cell? ⟨gb140, 1, none⟩ = some (.int .i64 a0_1) := (blk_cell BK140.out 1).trans rfl; have hcz14_2 : w12.cell? ⟨gb140, 2, none⟩ = some (.int .i64 a0_2) := (blk_cell BK140.out 2).trans rfl; have hfz14_0 := blk_frozen BK140.out 0; have hfz14_1 := blk_frozen BK140.out 1; have hfz14_2 := blk_frozen BK140.out 2; have hcz15_0 : w12.cell? ⟨gb141, 0, none⟩ = some (.int .i64 a1_0) := (blk_cell BK141.out 0).trans rfl; have hcz15_1 : w12.cell? ⟨gb141, 1, none⟩ = some (.int .i64 a1_1) := (blk_cell BK141.out 1).trans rfl; have hcz15_2 : w12.cell? ⟨gb141, 2, none⟩ = some (.int .i64 a1_2) := (blk_cell BK141.out 2).trans rfl; have hfz15_0 := blk_frozen BK141.out 0; have hfz15_1 := blk_frozen BK141.out 1; have hfz15_2 := blk_frozen BK141.out 2))
        go_ret
        exact ⟨by first | rfl | (simp [errW_none, errW_some] <;> rfl) | (simp [*, errW_none, errW_some] <;> rfl), by repeat (first | (with_reducible first | exact HB.out | apply below_alloc | apply pw_below_drewN | apply below_drew1 | refine below_set ?_ GE140.out | refine below_set ?_ GE141.out) | exact HB.out)⟩
    · rw [if_neg c4] at H
      have c4b0 : (a0_1 == a1_1) = false := beq_eq_false_iff_ne.mpr c4
      have c4b1 : (a0_1 != a1_1) = true := bne_iff_ne.mpr c4
      obtain rfl := Option.some.inj H
      go_enter Try.func30, Try.ntmps30
      go_wp2_with (first | ((with_reducible refine gate_dst (N := 2) rfl ?_); refine box_event ?hg (N := 2) ?hd (cs := #[.int .i64 a0_0, .int .i64 a0_1, .int .i64 a0_2]) (t := 50) ?hr ?_; (case hd => rfl); (case hg => rfl); (case hr => first | (go_simp; done) | (go_simp; rfl)); intro gb140 hg w16 hbox hb; have n0_ := Aside0.mk (below_step (by repeat (first | (with_reducible first | exact HB.out | apply below_alloc | apply pw_below_drewN | apply below_drew1) | exact HB.out)) hb); have n1_ := Aside0.mk (hbox); have n2_ := Aside0.mk ((by rw [hg]; exact (below_size (by repeat (first | (with_reducible first | exact HB.out | apply below_alloc | apply pw_below_drewN | apply below_drew1) | exact HB.out))) : w.heap.size ≤ gb140)); have n3_ := Aside0.mk ((by rw [hg]; exact (below_size (by repeat (first | (with_reducible first | exact HB.out | apply below_alloc | apply pw_below_drewN | apply below_drew1) | exact HB.out))) : w.heap.size ≤ gb140)); clear HB; have HB := n0_; have BK140 := n1_; have GW140 := n2_; have GE140 := n3_; clear n0_ n1_ n2_ n3_; clear hb hbox hg) | ((with_reducible refine gate_dst (N := 3) rfl ?_); refine box_event ?hg (N := 3) ?hd (cs := #[.int .i64 a1_0, .int .i64 a1_1, .int .i64 a1_2]) (t := 50) ?hr ?_; (case hd => rfl); (case hg => rfl); (case hr => first | (go_simp; done) | (go_simp; rfl)); intro gb141 hg w17 hbox hb; have n0_ := Aside0.mk (blk_below (g := gb140) (o := .cells #[.int .i64 a0_0, .int .i64 a0_1, .int .i64 a0_2] 50 (0, 0)) (by (with_reducible repeat (first | refine blk_drewN ?_ _ | refine blk_drew ?_ | refine blk_alloc ?_ _)); exact BK140.out) hb); have n1_ := Aside0.mk (below_step (by repeat (first | (with_reducible first | exact HB.out | apply below_alloc | apply pw_below_drewN | apply below_drew1 | refine below_set ?_ GE140.out) | exact HB.out)) hb); have n2_ := Aside0.mk (hbox); have n3_ := Aside0.mk ((by rw [hg]; exact (below_size (by repeat (first | (with_reducible first | exact HB.out | apply below_alloc | apply pw_below_drewN | apply below_drew1 | refine below_set ?_ GE140.out) | exact HB.out))) : w.heap.size ≤ gb141)); have n4_ := Aside0.mk ((by rw [hg]; exact (below_size (by repeat (first | (with_reducible first | exact HB.out | apply below_alloc | apply pw_below_drewN | apply below_drew1 | refine below_set ?_ GE140.out) | exact HB.out))) : w.heap.size ≤ gb141)); have n5_ := Aside0.mk ((by rw [hg]; exact Nat.ne_of_lt (blk_lt (g := gb140) (o := .cells #[.int .i64 a0_0, .int .i64 a0_1, .int .i64 a0_2] 50 (0, 0)) (by (with_reducible repeat (first | refine blk_drewN ?_ _ | refine blk_drew ?_ | refine blk_alloc ?_ _)); exact BK140.out)) : gb140 ≠ gb141)); have n6_ := Aside0.mk ((by rw [hg]; exact Nat.ne_of_gt (blk_lt (g := gb140) (o := .cells #[.int .i64 a0_0, .int .i64 a0_1, .int .i64 a0_2] 50 (0, 0)) (by (with_reducible repeat (first | refine blk_drewN ?_ _ | refine blk_drew ?_ | refine blk_alloc ?_ _)); exact BK140.out)) : gb141 ≠ gb140)); clear BK140; clear HB; have BK140 := n0_; have HB := n1_; have BK141 := n2_; have GW141 := n3_; have GE141 := n4_; have NB140_141 := n5_; have NB141_140 := n6_; clear n0_ n1_ n2_ n3_ n4_ n5_ n6_; clear hb hbox hg; have hnb18 := NB140_141.out; have hnc18 := NB141_140.out; have hcz19_0 : w17.cell? ⟨gb140, 0, none⟩ = some (.int .i64 a0_0) := (blk_cell BK140.out 0).trans rfl; have hcz19_1 : w17.cell? ⟨gb140, 1, none⟩ = some (.int .i64 a0_1) := (blk_cell BK140.out 1).trans rfl; have hcz19_2 : w17.cell? ⟨gb140, 2, none⟩ = some (.int .i64 a0_2) := (blk_cell BK140.out 2).trans rfl; have hfz19_0 := blk_frozen BK140.out 0; have hfz19_1 := blk_frozen BK140.out 1; have hfz19_2 := blk_frozen BK140.out 2; have hcz20_0 : w17.cell? ⟨gb141, 0, none⟩ = some (.int .i64 a1_0) := (blk_cell BK141.out 0).trans rfl; have hcz20_1 : w17.cell? ⟨gb141, 1, none⟩ = some (.int .i64 a1_1) := (blk_cell BK141.out 1).trans rfl; have hcz20_2 : w17.cell? ⟨gb141, 2, none⟩ = some (.int .i64 a1_2) := (blk_cell BK141.out 2).trans rfl; have hfz20_0 := blk_frozen BK141.out 0; have hfz20_1 := blk_frozen BK141.out 1; have hfz20_2 := blk_frozen BK141.out 2))
      go_ret
      exact ⟨by first | rfl | (simp [errW_none, errW_some] <;> rfl) | (simp [*, errW_none, errW_some] <;> rfl), by repeat (first | (with_reducible first | exact HB.out | apply below_alloc | apply pw_below_drewN | apply below_drew1 | refine below_set ?_ GE140.out | refine below_set ?_ GE141.out) | exact HB.out)⟩
  · rw [if_neg c3] at H
    have c3b0 : (a0_0 == a1_0) = false := beq_eq_false_iff_ne.mpr c3
    have c3b1 : (a0_0 != a1_0) = true := bne_iff_ne.mpr c3
    obtain rfl := Option.some.inj H
    go_enter Try.func30, Try.ntmps30
    go_wp2_with (first | ((with_reducible refine gate_dst (N := 2) rfl ?_); refine box_event ?hg (N := 2) ?hd (cs := #[.int .i64 a0_0, .int .i64 a0_1, .int .i64 a0_2]) (t := 50) ?hr ?_; (case hd => rfl); (case hg => rfl); (case hr => first | (go_simp; done) | (go_simp; rfl)); intro gb140 hg w21 hbox hb; have n0_ := Aside0.mk (below_step (by repeat (first | (with_reducible first | exact HB.out | apply below_alloc | apply pw_below_drewN | apply below_drew1) | exact HB.out)) hb); have n1_ := Aside0.mk (hbox); have n2_ := Aside0.mk ((by rw [hg]; exact (below_size (by repeat (first | (with_reducible first | exact HB.out | apply below_alloc | apply pw_below_drewN | apply below_drew1) | exact HB.out))) : w.heap.size ≤ gb140)); have n3_ := Aside0.mk ((by rw [hg]; exact (below_size (by repeat (first | (with_reducible first | exact HB.out | apply below_alloc | apply pw_below_drewN | apply below_drew1) | exact HB.out))) : w.heap.size ≤ gb140)); clear HB; have HB := n0_; have BK140 := n1_; have GW140 := n2_; have GE140 := n3_; clear n0_ n1_ n2_ n3_; clear hb hbox hg) | ((with_reducible refine gate_dst (N := 3) rfl ?_); refine box_event ?hg (N := 3) ?hd (cs := #[.int .i64 a1_0, .int .i64 a1_1, .int .i64 a1_2]) (t := 50) ?hr ?_; (case hd => rfl); (case hg => rfl); (case hr => first | (go_simp; done) | (go_simp; rfl)); intro gb141 hg w22 hbox hb; have n0_ := Aside0.mk (blk_below (g := gb140) (o := .cells #[.int .i64 a0_0, .int .i64 a0_1, .int .i64 a0_2] 50 (0, 0)) (by (with_reducible repeat (first | refine blk_drewN ?_ _ | refine blk_drew ?_ | refine blk_alloc ?_ _)); exact BK140.out) hb); have n1_ := Aside0.mk (below_step (by repeat (first | (with_reducible first | exact HB.out | apply below_alloc | apply pw_below_drewN | apply below_drew1 | refine below_set ?_ GE140.out) | exact HB.out)) hb); have n2_ := Aside0.mk (hbox); have n3_ := Aside0.mk ((by rw [hg]; exact (below_size (by repeat (first | (with_reducible first | exact HB.out | apply below_alloc | apply pw_below_drewN | apply below_drew1 | refine below_set ?_ GE140.out) | exact HB.out))) : w.heap.size ≤ gb141)); have n4_ := Aside0.mk ((by rw [hg]; exact (below_size (by repeat (first | (with_reducible first | exact HB.out | apply below_alloc | apply pw_below_drewN | apply below_drew1 | refine below_set ?_ GE140.out) | exact HB.out))) : w.heap.size ≤ gb141)); have n5_ := Aside0.mk ((by rw [hg]; exact Nat.ne_of_lt (blk_lt (g := gb140) (o := .cells #[.int .i64 a0_0, .int .i64 a0_1, .int .i64 a0_2] 50 (0, 0)) (by (with_reducible repeat (first | refine blk_drewN ?_ _ | refine blk_drew ?_ | refine blk_alloc ?_ _)); exact BK140.out)) : gb140 ≠ gb141)); have n6_ := Aside0.mk ((by rw [hg]; exact Nat.ne_of_gt (blk_lt (g := gb140) (o := .cells #[.int .i64 a0_0, .int .i64 a0_1, .int .i64 a0_2] 50 (0, 0)) (by (with_reducible repeat (first | refine blk_drewN ?_ _ | refine blk_drew ?_ | refine blk_alloc ?_ _)); exact BK140.out)) : gb141 ≠ gb140)); clear BK140; clear HB; have BK140 := n0_; have HB := n1_; have BK141 := n2_; have GW141 := n3_; have GE141 := n4_; have NB140_141 := n5_; have NB141_140 := n6_; clear n0_ n1_ n2_ n3_ n4_ n5_ n6_; clear hb hbox hg; have hnb23 := NB140_141.out; have hnc23 := NB141_140.out; have hcz24_0 : w22.cell? ⟨gb140, 0, none⟩ = some (.int .i64 a0_0) := (blk_cell BK140.out 0).trans rfl; have hcz24_1 : w22.cell? ⟨gb140, 1, none⟩ = some (.int .i64 a0_1) := (blk_cell BK140.out 1).trans rfl; have hcz24_2 : w22.cell? ⟨gb140, 2, none⟩ = some (.int .i64 a0_2) := (blk_cell BK140.out 2).trans rfl; have hfz24_0 := blk_frozen BK140.out 0; have hfz24_1 := blk_frozen BK140.out 1; have hfz24_2 := blk_frozen BK140.out 2; have hcz25_0 : w22.cell? ⟨gb141, 0, none⟩ = some (.int .i64 a1_0) := (blk_cell BK141.out 0).trans rfl; have hcz25_1 : w22.cell? ⟨gb141, 1, none⟩ = some (.int .i64 a1_1) := (blk_cell BK141.out 1).trans rfl; have hcz25_2 : w22.cell? ⟨gb141, 2, none⟩ = some (.int .i64 a1_2) := (blk_cell BK141.out 2).trans rfl; have hfz25_0 := blk_frozen BK141.out 0; have hfz25_1 := blk_frozen BK141.out 1; have hfz25_2 := blk_frozen BK141.out 2))
    go_ret
    exact ⟨by first | rfl | (simp [errW_none, errW_some] <;> rfl) | (simp [*, errW_none, errW_some] <;> rfl), by repeat (first | (with_reducible first | exact HB.out | apply below_alloc | apply pw_below_drewN | apply below_drew1 | refine below_set ?_ GE140.out | refine below_set ?_ GE141.out) | exact HB.out)⟩

end Go.Proofs.Ytdfkdljddjbfnaa.PFnExactPostTrades

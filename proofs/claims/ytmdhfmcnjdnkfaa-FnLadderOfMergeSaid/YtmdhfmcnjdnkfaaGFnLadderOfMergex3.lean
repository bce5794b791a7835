/- The functions that FnLadderOfMerge reaches, each with a proof that the call does what it says; a part of that statement's proof. Conditions: none. -/
import Derived.Test.YtmdhfmcnjdnkfaaGFnLadderOfMergex0
import Derived.Test.YtmdhfmcnjdnkfaaGFnLadderOfMergex2
namespace Go.Proofs.Ytmdhfmcnjdnkfaa.PFnLadderOfMerge
open Go.RowKit Go.Proofs.YtmdhfmcnjdnkfaaW.PrintWords Go.Proofs.YtmdhfmcnjdnkfaaW.PrintLast Go.Proofs.YtmdhfmcnjdnkfaaW.PrintMore
attribute [local go_sem] max2_int min2_int max_two min_two max_three min_three max_four min_four   -- for this text's walks alone
set_option linter.unusedVariables false
set_option linter.unusedSimpArgs false

/-! ### impl_LadderOf: function 15 -/
/-- Edge i is a day, behind the one ahead of it. -/
def impl_LadderOf.okE (l : List Int) (i : Nat) : Bool := decide (0 ≤ rd l (i : Int) ∧ rd l (i : Int) ≤ 36524) && (decide (i = 0) || decide (rd l ((i : Int) - 1) < rd l (i : Int)))
def impl_LadderOf.okEs (l : List Int) : Bool := decide (l.length ≤ 10) && (List.range l.length).all (impl_LadderOf.okE l)
/-- Behind how many edges a day lies. -/
def impl_LadderOf.place (l : List Int) (day : Int) : Nat := (l.takeWhile fun e => decide (e ≤ day)).length
def impl_LadderOf.step (es : List Int) (out : List Int) (p : S29) : List Int := out.set (impl_LadderOf.place es p.f0) (rd out (impl_LadderOf.place es p.f0 : Int) + p.f1)
def impl_LadderOf.v (l0 : List S29) (l1 : List Int) : List Int := if impl_flowsValid.v l0 = true ∧ impl_LadderOf.okEs l1 = true then l0.foldl (impl_LadderOf.step l1) (List.replicate (l1.length + 1) 0) else []
def impl_LadderOf.f (l0 : List S29) (l1 : List Int) : Option (List Int) := some (impl_LadderOf.v l0 l1)
theorem impl_LadderOf.infoI : (Try.prog.info? 3).map (fun i => (i.zero, i.size, i.bytes)) = some (some (.int .i64 0), 1, 8) := by kernel_rfl
theorem impl_LadderOf.place_le (l : List Int) (day : Int) : impl_LadderOf.place l day ≤ l.length := (List.takeWhile_sublist _).length_le
theorem impl_LadderOf.rdI (xs : List Int) {i : Nat} (h : i < xs.length) : rd xs (i : Int) = xs[i] := by
  unfold rd
  rw [List.getD_eq_getElem?_getD, Int.toNat_natCast, List.getElem?_eq_getElem h]
  rfl
theorem impl_LadderOf.place_lt (l : List Int) (day : Int) : ∀ j, j < impl_LadderOf.place l day → rd l (j : Int) ≤ day := by
  intro j hj
  have hl := impl_LadderOf.place_le l day
  have hjl : j < l.length := by omega
  rw [impl_LadderOf.rdI l hjl]
  unfold impl_LadderOf.place at hj
  have h1 : (l.takeWhile fun e => decide (e ≤ day))[j]'hj = l[j] := (List.takeWhile_prefix _).getElem hj
  have h2 : (l.takeWhile fun e => decide (e ≤ day))[j]'hj ∈ l.takeWhile fun e => decide (e ≤ day) := List.getElem_mem hj
  have h3 := List.all_eq_true.1 (List.all_takeWhile (l := l) (p := fun e => decide (e ≤ day))) _ h2
  rw [h1] at h3
  exact of_decide_eq_true h3
theorem impl_LadderOf.sorted {l : List Int} (h : ∀ i, i < l.length → impl_LadderOf.okE l i = true) (d : Nat) : ∀ i, i + d < l.length → rd l (i : Int) ≤ rd l ((i + d : Nat) : Int) := by
  induction d with
  | zero => exact fun i _ => Int.le_refl _
  | succ d ih =>
    intro i hi
    have h1 := ih i (by omega)
    have h2 := h (i + d + 1) (by omega)
    unfold impl_LadderOf.okE at h2
    rw [Bool.and_eq_true, Bool.or_eq_true, decide_eq_true_eq, decide_eq_true_eq, decide_eq_true_eq] at h2
    have h3 := h2.2.resolve_left (by omega)
    have e : ((i + d + 1 : Nat) : Int) - 1 = ((i + d : Nat) : Int) := by omega
    rw [e] at h3
    exact Int.le_trans h1 (Int.le_of_lt h3)
theorem impl_LadderOf.place_ge {l : List Int} (h : ∀ i, i < l.length → impl_LadderOf.okE l i = true) (day : Int) : ∀ j, impl_LadderOf.place l day ≤ j → j < l.length → day < rd l (j : Int) := by
  intro j h1 h2
  have hp : impl_LadderOf.place l day < l.length := by omega
  have hs := impl_LadderOf.sorted h (j - impl_LadderOf.place l day) (impl_LadderOf.place l day) (by omega)
  have e : impl_LadderOf.place l day + (j - impl_LadderOf.place l day) = j := by omega
  rw [e] at hs
  refine Int.lt_of_lt_of_le ?_ hs
  rw [impl_LadderOf.rdI l hp]
  have h3 : (l.takeWhile (fun e => decide (e ≤ day)) ++ l.dropWhile (fun e => decide (e ≤ day))) = l := List.takeWhile_append_dropWhile
  have hd : l.dropWhile (fun e => decide (e ≤ day)) ≠ [] := by
    intro he
    rw [he, List.append_nil] at h3
    have : (l.takeWhile (fun e => decide (e ≤ day))).length = l.length := by rw [h3]
    unfold impl_LadderOf.place at hp
    omega
  have h4 : l[impl_LadderOf.place l day]'hp = (l.dropWhile (fun e => decide (e ≤ day))).head hd := by
    have h5 : l[impl_LadderOf.place l day]? = (l.takeWhile (fun e => decide (e ≤ day)) ++ l.dropWhile (fun e => decide (e ≤ day)))[impl_LadderOf.place l day]? := by rw [h3]
    rw [List.getElem?_append_right (by unfold impl_LadderOf.place; omega), List.getElem?_eq_getElem hp] at h5
    unfold impl_LadderOf.place at h5 ⊢
    rw [Nat.sub_self] at h5
    rw [List.head_eq_getElem]
    rw [List.getElem?_eq_getElem (by exact List.length_pos_iff.2 hd)] at h5
    exact Option.some.inj h5
  have h6 := List.head_dropWhile_not (fun e => decide (e ≤ day)) hd
  rw [← h4] at h6
  simpa using h6
set_option maxHeartbeats 4000000 in
theorem impl_LadderOf.clo (ge gf : Nat) (A : Option Addr) (n c : Nat) (es : List Int) (i : Nat) (day : Int) (w : World) (hr : Kd.C (Kd.int .i64) w A n es) (h1 : i < n)
    (hE : w.cell? ⟨ge, 0, none⟩ = some (.slice A n c)) (hF : w.cell? ⟨gf, 0, none⟩ = some (.int .i64 day)) :
    Calls Try.prog 38 #[.int .i64 i, .pointer (some ⟨ge, 0, none⟩), .pointer (some ⟨gf, 0, none⟩)] w fun e w' => e = .returned (.bool (decide (day < rd es (i : Int)))) ∧ ∃ m, w' = w.drewN m := by
  obtain ⟨ad, rfl, hx⟩ := Kd.at_int hr (i : Int) (by omega) (by omega)
  rw [Int.toNat_natCast] at hx
  have h0 : (0 : Int) ≤ (i : Int) := by omega
  have h2 : (i : Int) < (n : Int) := by omega
  clear hr
  generalize rd es (i : Int) = x at hx ⊢
  generalize hb : decide (day < x) = b
  have HB := Aside0.mk hb
  clear hb
  go_enter Try.func38, Try.ntmps38
  go_wp2
  go_quiet (fail)
  go_wp2
  go_ret
  exact ⟨by rw [← HB.out]; rfl, ⟨_, rfl⟩⟩
set_option maxHeartbeats 4000000 in
theorem impl_LadderOf.search (ge gf : Nat) (A : Option Addr) (n c K : Nat) (es : List Int) (day : Int) (w : World) (hr : Kd.C (Kd.int .i64) w A n es) (hn : n ≤ 1000) (hK : K ≤ n)
    (hE : w.cell? ⟨ge, 0, none⟩ = some (.slice A n c)) (hF : w.cell? ⟨gf, 0, none⟩ = some (.int .i64 day)) (hK1 : ∀ j : Nat, j < K → rd es (j : Int) ≤ day) (hK2 : ∀ j : Nat, K ≤ j → j < n → day < rd es (j : Int)) :
    Calls Try.prog 37 #[.int .i64 n, .func (.func 38) #[] #[.pointer (some ⟨ge, 0, none⟩), .pointer (some ⟨gf, 0, none⟩)]] w fun e w' => e = .returned (.int .i64 K) ∧ ∃ m, w' = w.drewN m := by
  have hclo := fun (m i : Nat) (hi : i < n) => impl_LadderOf.clo ge gf A n c es i day (w.drewN m) (Kd.C_drewN hr m) hi hE hF
  have HC := Aside0.mk hclo
  have HK1 := Aside0.mk hK1
  have HK2 := Aside0.mk hK2
  clear hclo hK1 hK2 hr hE hF
  have e37 : ∀ args w, (callFunc 38 args).run Try.prog w = .ok (.enter 38 args) w := enters_of Try.func38 (by kernel_rfl) rfl
  go_enter Try.func37, Try.ntmps37
  go_wp2
  go_loopg [5, 6] n (fun gg s5 s6 wr => ∃ lo hi q : Nat, s5 = .int .i64 lo ∧ s6 = .int .i64 hi ∧ lo ≤ K ∧ K ≤ hi ∧ hi ≤ n ∧ hi - lo ≤ gg ∧ wr = w.drewN q)
  case atStart => exact ⟨0, n, 0, rfl, rfl, Nat.zero_le _, hK, Nat.le_refl _, by omega, rfl⟩
  case round =>
    obtain ⟨lo, hi, q, rfl, rfl, h1, h2, h3, hg, rfl⟩ := hrel
    by_cases hlt : lo < hi
    · have hc := HC.out q ((lo + hi) / 2) (by omega)
      rw [show (((lo + hi) / 2 : Nat) : Int) = ((lo : Int) + (hi : Int)) / 2 by omega] at hc
      by_cases hp : (lo + hi) / 2 < K
      · have hv := HK1.out _ hp
        rw [show (((lo + hi) / 2 : Nat) : Int) = ((lo : Int) + (hi : Int)) / 2 by omega] at hv
        rw [decide_eq_false (by omega)] at hc
        clear hv
        go_wp2_with (go_at_fn 38; refine hc.mono ?_; rintro e w' ⟨rfl, nq, rfl⟩)
        go_roundg (hi - ((lo + hi) / 2 + 1))
        case measure => omega
        case rel => exact ⟨(lo + hi) / 2 + 1, hi, q + nq, by rw [show ((lo : Int) + (hi : Int)) / 2 + 1 = (((lo + hi) / 2 + 1 : Nat) : Int) by omega], rfl, by omega, h2, h3, Nat.le_refl _, by first | rfl | rw [World.drewN_drewN]⟩
      · have hv := HK2.out ((lo + hi) / 2) (by omega) (by omega)
        rw [show (((lo + hi) / 2 : Nat) : Int) = ((lo : Int) + (hi : Int)) / 2 by omega] at hv
        rw [decide_eq_true hv] at hc
        clear hv
        go_wp2_with (go_at_fn 38; refine hc.mono ?_; rintro e w' ⟨rfl, nq, rfl⟩)
        go_roundg ((lo + hi) / 2 - lo)
        case measure => omega
        case rel => exact ⟨lo, (lo + hi) / 2, q + nq, rfl, by rw [show ((lo : Int) + (hi : Int)) / 2 = (((lo + hi) / 2 : Nat) : Int) by omega], h1, by omega, by omega, Nat.le_refl _, by first | rfl | rw [World.drewN_drewN]⟩
    · obtain rfl : lo = K := by omega
      have hlt2 : ¬ (lo : Int) < (hi : Int) := by omega
      go_wp2
      go_ret
      exact ⟨rfl, ⟨_, rfl⟩⟩
theorem impl_LadderOf.step_len (es : List Int) (l : List S29) : ∀ ys : List Int, (l.foldl (impl_LadderOf.step es) ys).length = ys.length := by
  induction l with
  | nil => exact fun _ => rfl
  | cons p l ih => intro ys; rw [List.foldl_cons, ih]; simp [impl_LadderOf.step]
theorem impl_LadderOf.step_bd (es : List Int) (l : List S29) (h : ∀ p ∈ l, -1000000000 ≤ p.f1 ∧ p.f1 ≤ 1000000000) : ∀ (ys : List Int) (b : Int), 0 ≤ b → (∀ y ∈ ys, -b ≤ y ∧ y ≤ b) → ∀ y ∈ l.foldl (impl_LadderOf.step es) ys, -(b + 1000000000 * (l.length : Int)) ≤ y ∧ y ≤ b + 1000000000 * (l.length : Int) := by
  induction l with
  | nil => intro ys b hb hy y h; have := hy y h; simp only [List.length_nil]; omega
  | cons p l ih =>
    intro ys b hb hy y hm
    have hp := h p List.mem_cons_self
    rw [List.foldl_cons] at hm
    have := ih (fun q hq => h q (List.mem_cons_of_mem _ hq)) (impl_LadderOf.step es ys p) (b + 1000000000) (by omega) (fun z hz => ?_) y hm
    · simp only [List.length_cons]; omega
    · unfold impl_LadderOf.step at hz
      have hr : -b ≤ rd ys (impl_LadderOf.place es p.f0 : Int) ∧ rd ys (impl_LadderOf.place es p.f0 : Int) ≤ b := by
        by_cases hl : impl_LadderOf.place es p.f0 < ys.length
        · rw [impl_LadderOf.rdI ys hl]
          exact hy _ (List.getElem_mem hl)
        · have : rd ys (impl_LadderOf.place es p.f0 : Int) = 0 := by
            unfold rd
            rw [List.getD_eq_getElem?_getD, Int.toNat_natCast, List.getElem?_eq_none (by omega)]
            rfl
          rw [this]
          omega
      rcases List.mem_or_eq_of_mem_set hz with hz | hz
      · have := hy z hz
        omega
      · rw [hz]
        omega
/-- The head of each round over edges. -/
def impl_LadderOf.Rel1 (l : List Int) (w3 : World) (gg : Nat) (v20 : Value) (wr : World) : Prop := ∃ n q : Nat, n ≤ l.length ∧ v20 = .int .i64 n ∧ l.length - n ≤ gg ∧ (∀ j, j < n → impl_LadderOf.okE l j = true) ∧ wr = w3.drewN q
/-- The head of each round over payments. -/
def impl_LadderOf.Rel2 (l : List S29) (es : List Int) (w3 : World) (go cap : Nat) (gg : Nat) (v48 : Value) (wr : World) : Prop :=
  ∃ n : Nat, n ≤ l.length ∧ v48 = .int .i64 n ∧ l.length - n ≤ gg ∧ Kd.R (Kd.int .i64) 3 wr w3.heap.size (fun _ => True) (.slice (some ⟨go, 0, none⟩) (es.length + 1) cap) ((l.take n).foldl (impl_LadderOf.step es) (List.replicate (es.length + 1) 0)) ∧ Below w3.heap.size w3 wr
set_option maxHeartbeats 40000000 in
set_option maxRecDepth 100000 in
theorem impl_LadderOf.calls (A0 : Option Addr) (c0 : Nat) (l0 : List (S29)) (A1 : Option Addr) (c1 : Nat) (l1 : List Int) (r : List Int) (w : World) (hr0 : Kd.C k29 w A0 l0.length l0) (hc0 : l0.length ≤ c0) (hr1 : Kd.C (Kd.int .i64) w A1 l1.length l1) (hc1 : l1.length ≤ c1) (h : impl_LadderOf.f l0 l1 = some r) :
    Calls Try.prog 15 #[.slice A0 l0.length c0, .slice A1 l1.length c1] w fun e w' => ∃ v0_ : Value, e = .returned (v0_) ∧ Kd.R (Kd.int .i64) 3 w' w.heap.size (fun _ => True) v0_ r ∧ Below w.heap.size w w' := by
  obtain rfl := Option.some.inj h
  clear h
  have hx : ∀ w3, Below (w.alloc (.cells #[.slice A1 l1.length c1] 36)).heap.size (w.alloc (.cells #[.slice A1 l1.length c1] 36)) w3 →
      w3.cell? ⟨w.heap.size, 0, none⟩ = some (.slice A1 l1.length c1) ∧ Kd.C k29 w3 A0 l0.length l0 ∧ Kd.C (Kd.int .i64) w3 A1 l1.length l1 ∧ Below w.heap.size w w3 ∧ w.heap.size < w3.heap.size := fun w3 hb =>
    ⟨pw_cell_below hb ((blk_cell (heap_alloc_new w _) 0).trans rfl), Kd.C_below (Kd.C_alloc hr0 _) hb, Kd.C_below (Kd.C_alloc hr1 _) hb, ((Below.refl _ _).alloc (Nat.le_refl _) _).trans (hb.mono (by simp)), by have := hb.size; simp at this; omega⟩
  have HX := Aside0.mk hx
  have HR0 := Aside0.mk (Kd.C_alloc hr0 (.cells #[.slice A1 l1.length c1] 36))
  have HC0 := Aside0.mk hc0
  clear hr0 hr1 hx hc0 hc1
  obtain ⟨fv, hfv⟩ : ∃ b, b = impl_flowsValid.v l0 := ⟨_, rfl⟩
  have HV := Aside0.mk (show impl_flowsValid.f l0 = some fv by unfold impl_flowsValid.f; rw [hfv])
  generalize hres : impl_LadderOf.v l0 l1 = res
  unfold impl_LadderOf.v at hres
  rw [← hfv] at hres
  have HFV := Aside0.mk hfv
  clear hfv
  cases fv with
  | false =>
    have hres2 : res = [] := by rw [← hres]; simp
    have HRES := Aside0.mk hres2
    clear hres hres2
    go_enter Try.func15, Try.ntmps15
    go_wp2_with (go_at_call 28; refine (impl_flowsValid.calls A0 c0 l0 false _ HR0.out HC0.out HV.out).mono ?_; rintro e w3 ⟨rfl, hb3⟩; have HB3 := Aside0.mk hb3; clear hb3)
    go_ret
    exact ⟨_, rfl, by rw [HRES.out]; exact Kd.R_nil _ _ _ _ _, (HX.out _ HB3.out).2.2.2.1⟩
  | true =>
    by_cases hl : l1.length ≤ 10
    · have hd : decide (10 < (l1.length : Int)) = false := decide_eq_false (by omega)
      have HRES := Aside0.mk hres
      clear hres
      go_enter Try.func15, Try.ntmps15
      go_wp2_with (go_at_call 28; refine (impl_flowsValid.calls A0 c0 l0 true _ HR0.out HC0.out HV.out).mono ?_; rintro e w3 ⟨rfl, hb3⟩; obtain ⟨hE3, hC3, hD3, hB3, hS3⟩ := HX.out _ hb3; have HC3 := Aside0.mk hC3; have HD3 := Aside0.mk hD3; have HB3 := Aside0.mk hB3; clear hb3 hC3 hD3 hB3)
      go_loopg [20] l1.length (fun gg v20 wr => impl_LadderOf.Rel1 l1 w3 gg v20 wr)
      case atStart => exact ⟨0, 0, Nat.zero_le _, rfl, by omega, fun j hj => absurd hj (Nat.not_lt_zero j), rfl⟩
      case round =>
        obtain ⟨n, q, hn, rfl, hgg, hall, rfl⟩ := hrel
        by_cases hlt : n < l1.length
        · have hltz : (n : Int) < (l1.length : Int) := by omega
          obtain ⟨ad, rfl, hy0⟩ := Kd.at_int HD3.out (n : Int) (by omega) (by omega)
          rw [Int.toNat_natCast] at hy0
          have hok : impl_LadderOf.okE l1 n = (decide (0 ≤ rd l1 (n : Int) ∧ rd l1 (n : Int) ≤ 36524) && (decide (n = 0) || decide (rd l1 ((n : Int) - 1) < rd l1 (n : Int)))) := rfl
          have hpv : 0 < n → w3.cell? (ad.add (n - 1)) = some (.int .i64 (rd l1 ((n : Int) - 1))) := by
            intro h0
            obtain ⟨ad2, e, hy⟩ := Kd.at_int HD3.out ((n : Int) - 1) (by omega) (by omega)
            have e2 : ((n : Int) - 1).toNat = n - 1 := by omega
            rw [e2] at hy
            cases e
            exact hy
          have HALL := Aside0.mk hall
          have HOK := Aside0.mk hok
          have HG := Aside0.mk hgg
          clear hall hok hgg
          have hcall := impl_flowsValid.day (rd l1 (n : Int))
          generalize rd l1 (n : Int) = x at hy0 HOK hpv hcall
          generalize rd l1 ((n : Int) - 1) = p at HOK hpv
          have hno : ∀ b, impl_LadderOf.okE l1 n = b → b = false → res = [] := by
            intro b h1 h2
            rw [← HRES.out]
            refine if_neg (fun h3 => ?_)
            have h4 := h3.2
            unfold impl_LadderOf.okEs at h4
            rw [Bool.and_eq_true, List.all_eq_true] at h4
            have h5 := h4.2 n (List.mem_range.2 hlt)
            rw [h1, h2] at h5
            cases h5
          have HNO := Aside0.mk hno
          clear hno
          by_cases h1 : 0 ≤ x ∧ x ≤ 36524
          · have hd1 : decide (0 ≤ x ∧ x ≤ 36524) = true := decide_eq_true h1
            rw [hd1] at hcall
            by_cases hz : n = 0
            · subst hz
              rw [Addr.add_zero'] at hy0
              clear hpv
              have hyes : impl_LadderOf.okE l1 0 = true := by rw [HOK.out, hd1]; rfl
              have HYES := Aside0.mk hyes
              clear hyes hd1 h1
              go_wp2_with (go_at_call 36; refine (hcall _).mono ?_; rintro e w4 ⟨rfl, nd, rfl⟩)
              go_roundg (l1.length - 1)
              case measure => have := HG.out; omega
              case rel => exact ⟨1, _, by omega, by go_num, Nat.le_refl _, (fun j hj => by have e : j = 0 := (by omega); subst e; exact HYES.out), rfl⟩
            · have hpv2 := hpv (by omega)
              have hn0 : decide (0 < (n : Int)) = true := decide_eq_true (by omega)
              have hw1 : IntKind.i64.wrap ((n : Int) - 1) = (n : Int) - 1 := by rw [IntKind.wrap_i64]; omega
              have hw2 : ((n : Int) - 1).toNat = n - 1 := by omega
              have hw3 : (0 : Int) ≤ (n : Int) - 1 := by omega
              have hw4 : (n : Int) - 1 < (l1.length : Int) := by omega
              have hw5 : (1 : Int) ≤ (n : Int) := by omega
              have hw6 : 1 ≤ n := by omega
              have hw7 : 0 < n := by omega
              clear hpv
              by_cases h2 : p < x
              · have hd2 : decide (x ≤ p) = false := decide_eq_false (by omega)
                have hyes : impl_LadderOf.okE l1 n = true := by rw [HOK.out, hd1, decide_eq_true h2]; simp
                have HYES := Aside0.mk hyes
                clear hyes hd1 h1
                go_wp2_with (go_at_call 36; refine (hcall _).mono ?_; rintro e w4 ⟨rfl, nd, rfl⟩)
                go_roundg (l1.length - (n + 1))
                case measure => have := HG.out; omega
                case rel => exact ⟨n + 1, _, by omega, by go_num, Nat.le_refl _, fun j hj => (Nat.lt_succ_iff_lt_or_eq.1 hj).elim (fun h => HALL.out j h) (fun h => h ▸ HYES.out), rfl⟩
              · have hd2 : decide (x ≤ p) = true := decide_eq_true (by omega)
                have hr := HNO.out _ HOK.out (by rw [hd1, decide_eq_false h2, decide_eq_false hz]; rfl)
                have HR := Aside0.mk hr
                clear hr hd1 h1
                go_wp2_with (go_at_call 36; refine (hcall _).mono ?_; rintro e w4 ⟨rfl, nd, rfl⟩)
                go_ret
                exact ⟨_, rfl, by rw [HR.out]; exact Kd.R_nil _ _ _ _ _, by repeat (first | exact HB3.out | apply pw_below_drewN)⟩
          · have hd1 : decide (0 ≤ x ∧ x ≤ 36524) = false := decide_eq_false h1
            rw [hd1] at hcall
            have hr := HNO.out _ HOK.out (by rw [hd1]; rfl)
            have HR := Aside0.mk hr
            clear hr hd1 h1 hpv
            go_wp2_with (go_at_call 36; refine (hcall _).mono ?_; rintro e w4 ⟨rfl, nd, rfl⟩)
            go_ret
            exact ⟨_, rfl, by rw [HR.out]; exact Kd.R_nil _ _ _ _ _, by repeat (first | exact HB3.out | apply pw_below_drewN)⟩
        · have hltz : ¬ (n : Int) < (l1.length : Int) := by omega
          obtain rfl : n = l1.length := by omega
          have hall2 : impl_LadderOf.okEs l1 = true := by
            unfold impl_LadderOf.okEs
            rw [decide_eq_true hl, Bool.true_and, List.all_eq_true]
            exact fun j hj => hall j (List.mem_range.1 hj)
          have hres2 : res = l0.foldl (impl_LadderOf.step l1) (List.replicate (l1.length + 1) 0) := by
            rw [← HRES.out]
            exact if_pos ⟨trivial, hall2⟩
          have hfl : l0.length ≤ 60 ∧ ∀ p ∈ l0, -1000000000 ≤ p.f1 ∧ p.f1 ≤ 1000000000 := by
            have h := HFV.out.symm
            unfold impl_flowsValid.v at h
            simp only [Bool.and_eq_true, decide_eq_true_eq, List.all_eq_true] at h
            refine ⟨h.1, fun p hp => ?_⟩
            have h2 := h.2 p hp
            unfold impl_flowsValid.okF at h2
            rw [Bool.and_eq_true, decide_eq_true_eq, decide_eq_true_eq] at h2
            exact h2.2
          have HR2 := Aside0.mk hres2
          have HALL := Aside0.mk hall
          have HFL := Aside0.mk hfl.2
          have hl60 := hfl.1
          clear hall2 hres2 hall hfl hgg
          go_wp2_with ((with_reducible refine gate_dst (N := 45) rfl ?_); refine Kd.R_make (Kd.int .i64) _ 3 rfl (N := 45) rfl 36 _ _ rfl ((l1.length : Int) + 1) rfl rfl Try.underlying36 (.int .i64 0) 8 impl_LadderOf.infoI rfl (by decide) (by omega) 0 (ok := fun _ => True) (okp := fun _ => True) rfl (fun _ hk => hk) trivial (by omega) (by omega) (Below.refl _ _) (Nat.le_refl _) ?_; intro v5 w5 ho5 hb5 hg5 hn5; clear hg5 hn5; rw [show ((l1.length : Int) + 1).toNat = l1.length + 1 by omega] at ho5; obtain ⟨go, cap, rfl, hgo1, hgo2, _⟩ := Kd.R_form ho5 (by rw [List.length_replicate]; omega); rw [List.length_replicate] at ho5; have HO5 := Aside0.mk (Kd.R_lower ho5 (show w3.heap.size ≤ (w3.drewN q).heap.size from Nat.le_refl _)); have HB5 := Aside0.mk ((pw_below_drewN (Below.refl w3.heap.size w3) q).trans (hb5.mono (Nat.le_refl _))); have hgo3 : w3.heap.size ≤ go := hgo1; clear ho5 hb5 hgo1 hgo2; simp only [List.length_replicate])
          go_loopg [48] l0.length (fun gg v48 wr => impl_LadderOf.Rel2 l0 l1 w3 go cap gg v48 wr)
          case atStart => exact ⟨0, Nat.zero_le _, rfl, by omega, HO5.out, HB5.out⟩
          case round =>
            clear HO5 HB5
            obtain ⟨n, hn2, rfl, hgg, hR, hbr⟩ := hrel
            by_cases hlt2 : n < l0.length
            · have hltz2 : (n : Int) < (l0.length : Int) := by omega
              obtain ⟨ad0, rfl, hx0, hx1⟩ := at_T29 HC3.out (n : Int) (by omega) (by omega)
              rw [Int.toNat_natCast] at hx0 hx1
              replace hx0 := (hbr.cell (World.block_lt_of_cell? w3 _ hx0)).trans hx0
              replace hx1 := (hbr.cell (World.block_lt_of_cell? w3 _ hx1)).trans hx1
              have hmem : rd_T29 l0 (n : Int) = l0[n] := by
                unfold rd_T29
                rw [List.getD_eq_getElem?_getD, Int.toNat_natCast, List.getElem?_eq_getElem hlt2]
                rfl
              rw [hmem] at hx0 hx1
              have htk : l0.take (n + 1) = l0.take n ++ [l0[n]] := by rw [List.take_succ_eq_append_getElem hlt2]
              have hb := HFL.out _ (List.getElem_mem hlt2)
              have hbd := impl_LadderOf.step_bd l1 (l0.take n) (fun p hp => HFL.out p (List.mem_of_mem_take hp)) (List.replicate (l1.length + 1) 0) 0 (Int.le_refl _) (fun y hy => by rw [(List.mem_replicate.1 hy).2]; omega)
              have hyl := impl_LadderOf.step_len l1 (l0.take n) (List.replicate (l1.length + 1) 0)
              rw [List.length_replicate] at hyl
              have hlk : (l0.take n).length = n := by rw [List.length_take]; omega
              rw [hlk] at hbd
              clear hmem hlk
              generalize hys : (l0.take n).foldl (impl_LadderOf.step l1) (List.replicate (l1.length + 1) 0) = ys at hR hbd hyl
              have HYS := Aside0.mk hys
              generalize l0[n] = t at hx0 hx1 htk hb
              obtain ⟨day, amt⟩ := t
              simp only at hx0 hx1 hb
              have hKl := impl_LadderOf.place_le l1 day
              have hK1 := impl_LadderOf.place_lt l1 day
              have hK2 := impl_LadderOf.place_ge HALL.out day
              have hst : impl_LadderOf.step l1 ys ⟨day, amt⟩ = ys.set (impl_LadderOf.place l1 day) (rd ys (impl_LadderOf.place l1 day : Int) + amt) := rfl
              generalize impl_LadderOf.place l1 day = K at hKl hK1 hK2 hst
              obtain ⟨hyc, hyf⟩ := Kd.R_celln (0 : Int) hR (K : Int) (by omega) (by omega)
              rw [Int.toNat_natCast] at hyc hyf
              have hyb : -60000000000 ≤ rd ys (K : Int) ∧ rd ys (K : Int) ≤ 60000000000 := by
                have h := hbd (rd ys (K : Int)) (by rw [impl_LadderOf.rdI ys (by omega)]; exact List.getElem_mem _)
                omega
              replace hyc : wr.cell? ⟨go, K, none⟩ = some (.int .i64 (rd ys (K : Int))) := hyc
              have HK1 := Aside0.mk hK1
              have HK2 := Aside0.mk hK2
              have HST := Aside0.mk hst
              have HTK := Aside0.mk htk
              have HR := Aside0.mk hR
              have HBR := Aside0.mk hbr
              have HG := Aside0.mk hgg
              have hEr : wr.cell? ⟨w.heap.size, 0, none⟩ = some (.slice A1 l1.length c1) := (hbr.cell (World.block_lt_of_cell? w3 _ hE3)).trans hE3
              have hwr : w3.heap.size ≤ wr.heap.size := hbr.size
              have hgo4 : go < wr.heap.size := World.block_lt_of_cell? wr _ hyc
              generalize rd ys (K : Int) = y at hyc hyb HST
              have hKz : (K : Int) < (l1.length : Int) + 1 := by omega
              have hKn : K < l1.length + 1 := by omega
              have hK0 : (0 : Int) ≤ (K : Int) := by omega
              clear hbd hyl hK1 hK2 hst htk hR hbr hgg hys
              go_wp2
              have hs1 : (wr.alloc (.cells #[.int .i64 day, .int .i64 amt] 29)).cell? ⟨w.heap.size, 0, none⟩ = some (.slice A1 l1.length c1) := pw_cell_below (below_alloc (Below.refl _ _) _) hEr
              have hs2 : (wr.alloc (.cells #[.int .i64 day, .int .i64 amt] 29)).cell? ⟨wr.heap.size, 1, none⟩ = some (.int .i64 amt) := (blk_cell (heap_alloc_new wr _) 1).trans rfl
              have hs3 : (wr.alloc (.cells #[.int .i64 day, .int .i64 amt] 29)).cell? ⟨go, K, none⟩ = some (.int .i64 y) := pw_cell_below (below_alloc (Below.refl _ _) _) hyc
              have hs4 : (wr.alloc (.cells #[.int .i64 day, .int .i64 amt] 29)).cell? ⟨wr.heap.size, 0, none⟩ = some (.int .i64 day) := (blk_cell (heap_alloc_new wr _) 0).trans rfl
              have hfz : (wr.alloc (.cells #[.int .i64 day, .int .i64 amt] 29)).frozen? ⟨go, K, none⟩ = false := ((below_alloc (Below.refl wr.heap.size wr) _).frozen hgo4).trans hyf
              have HCX := Aside0.mk (Kd.C_alloc (Kd.C_below HD3.out HBR.out) (.cells #[.int .i64 day, .int .i64 amt] 29))
              have HRX := Aside0.mk (Kd.R_alloc HR.out (.cells #[.int .i64 day, .int .i64 amt] 29))
              have HBX := Aside0.mk (HBR.out.alloc hwr (.cells #[.int .i64 day, .int .i64 amt] 29))
              clear hEr hyc hyf
              have HS := Aside0.mk (impl_LadderOf.search w.heap.size wr.heap.size A1 l1.length c1 K l1 day ((wr.alloc (.cells #[.int .i64 day, .int .i64 amt] 29)).drew) (Kd.C_drew HCX.out) (by omega) hKl hs1 hs4 HK1.out HK2.out)
              refine start_ (n := 12) (S := fun w' => w'.cell? ⟨w.heap.size, 0, none⟩ = some (.slice A1 l1.length c1) ∧ w'.cell? ⟨wr.heap.size, 1, none⟩ = some (.int .i64 amt) ∧ w'.cell? ⟨go, K, none⟩ = some (.int .i64 y)) (ds := [11]) #[false, false, false, false, false, false, false, false, false, false, false, false] (by kernel_rfl) rfl rfl ⟨hs1, hs2, hs3⟩ (fun hHeld => ?_)
              refine pure_ (i := 0) (N := some 52) (v := ?_) (a' := ?_) #[true, false, false, false, false, false, false, false, false, false, false, false] rfl rfl (by kernel_rfl) (fun _ _ _ h => h) (Or.inl ⟨by rfl, ?_⟩) ?_ ?_
              rotate_left
              · intro w'
                go_simp
                with_reducible rfl
              rotate_left
              · simp only [Act.put, List.setIfInBounds_toArray, List.set_cons_zero, List.set_cons_succ, i64_w, i32_w]
                rfl
              refine take_ (i := 1) (N := some 53) (v := ?_) (a' := ?_) #[true, true, false, false, false, false, false, false, false, false, false, false] rfl rfl (by kernel_rfl) (fun _ _ _ h => h) (Or.inl ⟨by rfl, ?_⟩) hHeld ?_ ?_
              rotate_left
              · rintro w' ⟨s0, s1, s2⟩
                go_simp
                with_reducible rfl
              rotate_left
              · simp only [Act.put, List.setIfInBounds_toArray, List.set_cons_zero, List.set_cons_succ, i64_w, i32_w]
                rfl
              refine pure_ (i := 2) (N := some 54) (v := ?_) (a' := ?_) #[true, true, true, false, false, false, false, false, false, false, false, false] rfl rfl (by kernel_rfl) (fun _ _ _ h => h) (Or.inl ⟨by rfl, ?_⟩) ?_ ?_
              rotate_left
              · intro w'
                go_simp
                with_reducible rfl
              rotate_left
              · simp only [Act.put, List.setIfInBounds_toArray, List.set_cons_zero, List.set_cons_succ, i64_w, i32_w]
                rfl
              refine pure_ (i := 3) (N := some 55) (v := ?_) (a' := ?_) #[true, true, true, true, false, false, false, false, false, false, false, false] rfl rfl (by kernel_rfl) (fun _ _ _ h => h) (Or.inl ⟨by rfl, ?_⟩) ?_ ?_
              rotate_left
              · intro w'
                go_simp
                with_reducible rfl
              rotate_left
              · simp only [Act.put, List.setIfInBounds_toArray, List.set_cons_zero, List.set_cons_succ, i64_w, i32_w]
                rfl
              refine pure_ (i := 7) (N := some 59) (v := ?_) (a' := ?_) #[true, true, true, true, false, false, false, true, false, false, false, false] rfl rfl (by kernel_rfl) (fun _ _ _ h => h) (Or.inl ⟨by rfl, ?_⟩) ?_ ?_
              rotate_left
              · intro w'
                go_simp
                with_reducible rfl
              rotate_left
              · simp only [Act.put, List.setIfInBounds_toArray, List.set_cons_zero, List.set_cons_succ, i64_w, i32_w]
                rfl
              refine take_ (i := 8) (N := some 60) (v := ?_) (a' := ?_) #[true, true, true, true, false, false, false, true, true, false, false, false] rfl rfl (by kernel_rfl) (fun _ _ _ h => h) (Or.inl ⟨by rfl, ?_⟩) hHeld ?_ ?_
              rotate_left
              · rintro w' ⟨s0, s1, s2⟩
                go_simp
                with_reducible rfl
              rotate_left
              · simp only [Act.put, List.setIfInBounds_toArray, List.set_cons_zero, List.set_cons_succ, i64_w, i32_w]
                rfl
              refine one_ (i := 4) (N := some 56) #[true, true, true, true, true, false, false, true, true, false, false, false] rfl rfl (by kernel_rfl) (by decide) (fun K hK => ?_)
              refine goes_ (f := 37) Try.func37 (by kernel_rfl) rfl #[.int .i64 (l1.length : Int), .func (.func 38) #[] #[.pointer (some ⟨w.heap.size, 0, none⟩), .pointer (some ⟨wr.heap.size, 0, none⟩)]] (by rfl) rfl rfl (by simp [Act.eval]; done) ?_
              refine (HS.out).mono ?_
              rintro e w2 ⟨rfl, nd, rfl⟩
              refine ⟨_, rfl, ?_⟩
              refine hK.out _ _ hHeld (fun hHeld => ?_)
              clear hK K
              refine norm_ (a' := ?_) ?_ ?_
              rotate_left
              · show Act.put _ (some 56) _ = _
                simp only [Act.put, List.setIfInBounds_toArray, List.set_cons_zero, List.set_cons_succ, i64_w, i32_w]
                rfl
              refine pure_ (i := 5) (N := some 57) (v := ?_) (a' := ?_) #[true, true, true, true, true, true, false, true, true, false, false, false] rfl rfl (by kernel_rfl) (fun _ _ _ h => h) (Or.inl ⟨by rfl, ?_⟩) ?_ ?_
              rotate_left
              · intro w'
                go_simp
                with_reducible rfl
              rotate_left
              · simp only [Act.put, List.setIfInBounds_toArray, List.set_cons_zero, List.set_cons_succ, i64_w, i32_w]
                rfl
              refine take_ (i := 6) (N := some 58) (v := ?_) (a' := ?_) #[true, true, true, true, true, true, true, true, true, false, false, false] rfl rfl (by kernel_rfl) (fun _ _ _ h => h) (Or.inl ⟨by rfl, ?_⟩) hHeld ?_ ?_
              rotate_left
              · rintro w' ⟨s0, s1, s2⟩
                go_simp
                with_reducible rfl
              rotate_left
              · simp only [Act.put, List.setIfInBounds_toArray, List.set_cons_zero, List.set_cons_succ, i64_w, i32_w]
                rfl
              refine pure_ (i := 9) (N := some 61) (v := ?_) (a' := ?_) #[true, true, true, true, true, true, true, true, true, true, false, false] rfl rfl (by kernel_rfl) (fun _ _ _ h => h) (Or.inl ⟨by rfl, ?_⟩) ?_ ?_
              rotate_left
              · intro w'
                go_simp
                with_reducible rfl
              rotate_left
              · simp only [Act.put, List.setIfInBounds_toArray, List.set_cons_zero, List.set_cons_succ, i64_w, i32_w]
                rfl
              refine pure_ (i := 10) (N := some 62) (v := ?_) (a' := ?_) #[true, true, true, true, true, true, true, true, true, true, true, false] rfl rfl (by kernel_rfl) (fun _ _ _ h => h) (Or.inl ⟨by rfl, ?_⟩) ?_ ?_
              rotate_left
              · intro w'
                go_simp
                with_reducible rfl
              rotate_left
              · simp only [Act.put, List.setIfInBounds_toArray, List.set_cons_zero, List.set_cons_succ, i64_w, i32_w]
                rfl
              refine last_ (i := 11) (N := none) #[true, true, true, true, true, true, true, true, true, true, true, true] rfl rfl (by kernel_rfl) (by decide) (fun K hK => ?_)
              refine skip_ (w1 := ?_) (by rfl) rfl ?_ ?_
              rotate_left
              · go_simp
                rfl
              refine hK.out _ _ ?_
              clear hK K
              refine done_ (by kernel_rfl) ?_
              try go_wp2
              go_roundg (l0.length - (n + 1))
              case measure => have := HG.out; omega
              case rel =>
                have hww : wrap64 (y + amt) = y + amt := by unfold wrap64; omega
                rw [hww]
                clear hww
                refine ⟨n + 1, by omega, by go_num, Nat.le_refl _, ?_, ?_⟩
                · rw [HTK.out, List.foldl_append, HYS.out, List.foldl_cons, List.foldl_nil, HST.out]
                  have h := Kd.R_putn (Kd.R_drewN HRX.out (1 + nd)) (K : Int) (y + amt)
                  rw [Int.toNat_natCast] at h
                  exact h
                · exact (pw_below_drewN HBX.out _).setCell (p := ⟨go, K, none⟩) hgo3 _
            · have hltz2 : ¬ (n : Int) < (l0.length : Int) := by omega
              obtain rfl : n = l0.length := by omega
              rw [List.take_length, ← HR2.out] at hR
              have HR := Aside0.mk hR
              have HBR := Aside0.mk hbr
              clear hR hbr hgg
              go_wp2
              go_ret
              exact ⟨_, rfl, Kd.R_lower HR.out (Nat.le_of_lt hS3), HB3.out.trans (HBR.out.mono (Nat.le_of_lt hS3))⟩
    · have hd : decide (10 < (l1.length : Int)) = true := decide_eq_true (by omega)
      have hres2 : res = [] := by
        rw [← hres]
        refine if_neg (fun h3 => ?_)
        have h4 := h3.2
        unfold impl_LadderOf.okEs at h4
        rw [Bool.and_eq_true, decide_eq_true_eq] at h4
        omega
      have HRES := Aside0.mk hres2
      clear hres hres2
      go_enter Try.func15, Try.ntmps15
      go_wp2_with (go_at_call 28; refine (impl_flowsValid.calls A0 c0 l0 true _ HR0.out HC0.out HV.out).mono ?_; rintro e w3 ⟨rfl, hb3⟩; obtain ⟨hE3, hC3, hD3, hB3, hS3⟩ := HX.out _ hb3; have HB3 := Aside0.mk hB3; clear hb3 hC3 hD3 hB3)
      go_ret
      exact ⟨_, rfl, by rw [HRES.out]; exact Kd.R_nil _ _ _ _ _, HB3.out⟩


/-! ### laws_equalInts: function 16 -/
def laws_equalInts.l0 : Nat → List Int → List Int → Int → Option (Bool)
  | 0, _, _, _ => none
  | k + 1, x0, x1, x5 => if x5 < (x0.length : Int) then (if 0 ≤ x5 then (if x5 < (x1.length : Int) then (if (rd x0 x5) = (rd x1 x5) then (laws_equalInts.l0 k x0 x1 (wrap64 (x5 + 1))) else (some false)) else (none)) else (none)) else (some true)
def laws_equalInts.f (k : Nat) (l0 : List Int) (l1 : List Int) : Option (Bool) := if (l0.length : Int) = (l1.length : Int) then (laws_equalInts.l0 k l0 l1 0) else (some false)
theorem laws_equalInts.mono_l : ∀ k, (∀ y0 y1 y2, LeO (laws_equalInts.l0 k y0 y1 y2) (laws_equalInts.l0 (k + 1) y0 y1 y2))
  | 0 => fun _ _ _ r h => by simp [laws_equalInts.l0] at h
  | k + 1 => by
    have ih0 := laws_equalInts.mono_l k
    · intro y0 y1 y2
      unfold laws_equalInts.l0
      repeat' first
      | (with_reducible exact ih0 _ _ _)
      | (with_reducible exact LeO.refl _)
      | (with_reducible exact LeO.none _)
      | (with_reducible refine LeO.ite ?_ ?_)
      | (with_reducible refine LeO.bind ?_ (fun _ => ?_))
      | exact ih0 _ _ _
      | exact LeO.none _
      | refine LeO.ite ?_ ?_
      | refine LeO.bind ?_ (fun _ => ?_)
theorem laws_equalInts.mono : ∀ a0 a1 k, LeO (laws_equalInts.f k a0 a1) (laws_equalInts.f (k + 1) a0 a1) := by
  intro a0 a1 k
  have ih0 := laws_equalInts.mono_l k
  unfold laws_equalInts.f
  repeat' first
      | (with_reducible exact ih0 _ _ _)
      | (with_reducible exact LeO.refl _)
      | (with_reducible exact LeO.none _)
      | (with_reducible refine LeO.ite ?_ ?_)
      | (with_reducible refine LeO.bind ?_ (fun _ => ?_))
      | exact ih0 _ _ _
      | exact LeO.none _
      | refine LeO.ite ?_ ?_
      | refine LeO.bind ?_ (fun _ => ?_)
set_option maxHeartbeats 8000000 in
set_option maxRecDepth 100000 in
theorem laws_equalInts.calls (k : Nat) (A0 : Option Addr) (c0 : Nat) (l0 : List Int) (A1 : Option Addr) (c1 : Nat) (l1 : List Int) (r : Bool) (w : World) (hr0 : Kd.C (Kd.int .i64) w A0 l0.length l0) (hc0 : l0.length ≤ c0) (hr1 : Kd.C (Kd.int .i64) w A1 l1.length l1) (hc1 : l1.length ≤ c1) (h : laws_equalInts.f k l0 l1 = some r) :
    Calls Try.prog 16 #[.slice A0 l0.length c0, .slice A1 l1.length c1] w fun e w' => e = .returned (.bool r) ∧ Drawn0 w w' := by
  have HR0 := Aside0.mk hr0
  have HC0 := Aside0.mk hc0
  clear hr0 hc0
  have HR1 := Aside0.mk hr1
  have HC1 := Aside0.mk hc1
  clear hr1 hc1
  have H : (if (l0.length : Int) = (l1.length : Int) then (laws_equalInts.l0 k l0 l1 0) else (some false)) = some r := h
  clear h
  by_cases c3 : (l0.length : Int) = (l1.length : Int)
  · rw [if_pos c3] at H
    have c3b0 : ((l0.length : Int) == (l1.length : Int)) = true := beq_iff_eq.mpr c3
    have c3b1 : ((l0.length : Int) != (l1.length : Int)) = false := bne_eq_false_iff_eq.mpr c3
    have c3b2 : (l0.length == l1.length) = true := by first | simpa using c3 | (simp at c3 ⊢; omega)
    clear c3
    have H' := Aside0.mk H
    clear H
    go_enter Try.func16, Try.ntmps16
    go_wp2
    repeat (go_quiet (fail); try go_wp2)
    go_loopg [5] k (fun kq v5 w' => ∃ (x5_1 : Int), v5 = .int .i64 x5_1 ∧ Aside0 (laws_equalInts.l0 kq l0 l1 x5_1 = some r) ∧ Aside0 (kq ≤ k) ∧ Drawn0 w w')
    case atStart => exact ⟨(0), (by first | rfl | (simp; done) | (simp [*]; done)), H', ⟨Nat.le_refl _⟩, by repeat (first | exact Drawn0.refl _ | apply Drawn0.step)⟩
    case round =>
      clear H'
      try clear c1
      try clear p2
      try clear c3
      try clear c3b0
      try clear c3b1
      try clear c3b2
      obtain ⟨x5_1, rfl, HA, HK1, ⟨m1, rfl⟩⟩ := hrel
      cases gk with
      | zero => exact absurd HA.out (by simp [laws_equalInts.l0])
      | succ k1 =>
        have H := HA.out
        clear HA
        simp only [laws_equalInts.l0] at H
        by_cases c4 : x5_1 < (l0.length : Int)
        · rw [if_pos c4] at H
          have c4b0 : decide (x5_1 < (l0.length : Int)) = true := decide_eq_true c4
          clear c4
          by_cases c5 : 0 ≤ x5_1
          · rw [if_pos c5] at H
            have c5b0 : decide (0 ≤ x5_1) = true := decide_eq_true c5
            clear c5
            by_cases c6 : x5_1 < (l1.length : Int)
            · rw [if_pos c6] at H
              have c6b0 : decide (x5_1 < (l1.length : Int)) = true := decide_eq_true c6
              clear c6
              by_cases c7 : (rd l0 x5_1) = (rd l1 x5_1)
              · rw [if_pos c7] at H
                have c7b0 : ((rd l0 x5_1) == (rd l1 x5_1)) = true := beq_iff_eq.mpr c7
                have c7b1 : ((rd l0 x5_1) != (rd l1 x5_1)) = false := bne_eq_false_iff_eq.mpr c7
                clear c7
                have H' := Aside0.mk H
                clear H
                have p188 : 0 ≤ (x5_1 : Int) := of_decide_eq_true (by first | (with_reducible assumption) | assumption)
                have q188 : x5_1 < (l0.length : Int) := of_decide_eq_true (by first | (with_reducible assumption) | assumption)
                obtain ⟨ad188, e188, hx188_0⟩ := Kd.at_int HR0.out x5_1 p188 q188
                cases e188
                replace p188 := eq_true p188
                replace q188 := eq_true q188
                have p189 : 0 ≤ (x5_1 : Int) := of_decide_eq_true (by first | (with_reducible assumption) | assumption)
                have q189 : x5_1 < (l1.length : Int) := of_decide_eq_true (by first | (with_reducible assumption) | assumption)
                obtain ⟨ad189, e189, hx189_0⟩ := Kd.at_int HR1.out x5_1 p189 q189
                cases e189
                replace p189 := eq_true p189
                replace q189 := eq_true q189
                go_wp2
                repeat (go_quiet (fail); try go_wp2)
                go_roundg k1
                case measure => have := HK1.out; omega
                case rel => exact ⟨(wrap64 (x5_1 + 1)), (by first | rfl | (simp; done) | (simp [*]; done) | (simp only [IntKind.wrap_i64]; unfold wrap64; rfl)), H', ⟨by have := HK1.out; omega⟩, by repeat (first | exact Drawn0.refl _ | apply Drawn0.step)⟩
              · rw [if_neg c7] at H
                have c7b0 : ((rd l0 x5_1) == (rd l1 x5_1)) = false := beq_eq_false_iff_ne.mpr c7
                have c7b1 : ((rd l0 x5_1) != (rd l1 x5_1)) = true := bne_iff_ne.mpr c7
                obtain rfl := Option.some.inj H
                have p188 : 0 ≤ (x5_1 : Int) := of_decide_eq_true (by first | (with_reducible assumption) | assumption)
                have q188 : x5_1 < (l0.length : Int) := of_decide_eq_true (by first | (with_reducible assumption) | assumption)
                obtain ⟨ad188, e188, hx188_0⟩ := Kd.at_int HR0.out x5_1 p188 q188
                cases e188
                replace p188 := eq_true p188
                replace q188 := eq_true q188
                have p189 : 0 ≤ (x5_1 : Int) := of_decide_eq_true (by first | (with_reducible assumption) | assumption)
                have q189 : x5_1 < (l1.length : Int) := of_decide_eq_true (by first | (with_reducible assumption) | assumption)
                obtain ⟨ad189, e189, hx189_0⟩ := Kd.at_int HR1.out x5_1 p189 q189
                cases e189
                replace p189 := eq_true p189
                replace q189 := eq_true q189
                go_wp2
                repeat (go_quiet (fail); try go_wp2)
                go_ret
                exact ⟨by first | rfl | (simp; done) | (simp [*]; done), by repeat (first | exact Drawn0.refl _ | apply Drawn0.step)⟩
            · rw [if_neg c6] at H
              exact absurd H (by simp)
          · rw [if_neg c5] at H
            exact absurd H (by simp)
        · rw [if_neg c4] at H
          have c4b0 : decide (x5_1 < (l0.length : Int)) = false := decide_eq_false c4
          clear c4
          obtain rfl := Option.some.inj H
          go_wp2
          repeat (go_quiet (fail); try go_wp2)
          go_ret
          exact ⟨by first | rfl | (simp; done) | (simp [*]; done), by repeat (first | exact Drawn0.refl _ | apply Drawn0.step)⟩
  · rw [if_neg c3] at H
    have c3b0 : ((l0.length : Int) == (l1.length : Int)) = false := beq_eq_false_iff_ne.mpr c3
    have c3b1 : ((l0.length : Int) != (l1.length : Int)) = true := bne_iff_ne.mpr c3
    have c3b2 : (l0.length == l1.length) = false := by first | simpa using c3 | (simp at c3 ⊢; omega)
    obtain rfl := Option.some.inj H
    go_enter Try.func16, Try.ntmps16
    go_wp2
    repeat (go_quiet (fail); try go_wp2)
    go_ret
    exact ⟨by first | rfl | (simp; done) | (simp [*]; done), by repeat (first | exact Drawn0.refl _ | apply Drawn0.step)⟩

/-! ### spec_inRange: function 31 -/
def spec_inRange.f (a0 : Int) (a1 : Int) (a2 : Int) : Option (Bool) := if a1 ≤ a0 then (some (decide (a0 ≤ a2))) else (some false)
set_option maxHeartbeats 8000000 in
set_option maxRecDepth 100000 in
theorem spec_inRange.calls (a0 : Int) (a1 : Int) (a2 : Int) (r : Bool) (w : World) (h : spec_inRange.f a0 a1 a2 = some r) :
    Calls Try.prog 31 #[.int .i64 a0, .int .i64 a1, .int .i64 a2] w fun e w' => e = .returned (.bool r) ∧ Drawn0 w w' := by
  have H : (if a1 ≤ a0 then (some (decide (a0 ≤ a2))) else (some false)) = some r := h
  clear h
  by_cases c4 : a1 ≤ a0
  · rw [if_pos c4] at H
    have c4b0 : decide (a1 ≤ a0) = true := decide_eq_true c4
    clear c4
    obtain rfl := Option.some.inj H
    go_enter Try.func31, Try.ntmps31
    go_wp2
    go_ret
    exact ⟨by first | rfl | (simp; done) | (simp [*]; done), by repeat (first | exact Drawn0.refl _ | apply Drawn0.step)⟩
  · rw [if_neg c4] at H
    have c4b0 : decide (a1 ≤ a0) = false := decide_eq_false c4
    clear c4
    obtain rfl := Option.some.inj H
    go_enter Try.func31, Try.ntmps31
    go_wp2
    go_ret
    exact ⟨by first | rfl | (simp; done) | (simp [*]; done), by repeat (first | exact Drawn0.refl _ | apply Drawn0.step)⟩

/-! ### spec_validFlows: function 30 -/
def spec_validFlows.l0 : Nat → List (S29) → Int → Option (Bool)
  | 0, _, _ => none
  | k + 1, x0, x3 => if x3 < (x0.length : Int) then (if 0 ≤ x3 then ((spec_inRange.f ((rd_T29 x0 x3).f0) 0 36524).bind fun t191 => (if t191 = true then ((spec_inRange.f ((rd_T29 x0 x3).f1) (-1000000000) 1000000000).bind fun t193 => (if t193 = true then (spec_validFlows.l0 k x0 (wrap64 (x3 + 1))) else (some false))) else (some false))) else (none)) else (some (decide ((x0.length : Int) ≤ 60)))
def spec_validFlows.f (k : Nat) (l0 : List (S29)) : Option (Bool) := spec_validFlows.l0 k l0 0
theorem spec_validFlows.mono_l : ∀ k, (∀ y0 y1, LeO (spec_validFlows.l0 k y0 y1) (spec_validFlows.l0 (k + 1) y0 y1))
  | 0 => fun _ _ r h => by simp [spec_validFlows.l0] at h
  | k + 1 => by
    have ih0 := spec_validFlows.mono_l k
    · intro y0 y1
      unfold spec_validFlows.l0
      repeat' first
      | (with_reducible exact ih0 _ _)
      | (with_reducible exact LeO.refl _)
      | (with_reducible exact LeO.none _)
      | (with_reducible refine LeO.ite ?_ ?_)
      | (with_reducible refine LeO.bind ?_ (fun _ => ?_))
      | exact ih0 _ _
      | exact LeO.none _
      | refine LeO.ite ?_ ?_
      | refine LeO.bind ?_ (fun _ => ?_)
theorem spec_validFlows.mono : ∀ a0 k, LeO (spec_validFlows.f k a0) (spec_validFlows.f (k + 1) a0) := by
  intro a0 k
  have ih0 := spec_validFlows.mono_l k
  unfold spec_validFlows.f
  repeat' first
      | (with_reducible exact ih0 _ _)
      | (with_reducible exact LeO.refl _)
      | (with_reducible exact LeO.none _)
      | (with_reducible refine LeO.ite ?_ ?_)
      | (with_reducible refine LeO.bind ?_ (fun _ => ?_))
      | exact ih0 _ _
      | exact LeO.none _
      | refine LeO.ite ?_ ?_
      | refine LeO.bind ?_ (fun _ => ?_)
set_option maxHeartbeats 8000000 in
set_option maxRecDepth 100000 in
theorem spec_validFlows.calls (k : Nat) (A0 : Option Addr) (c0 : Nat) (l0 : List (S29)) (r : Bool) (w : World) (hr0 : Kd.C k29 w A0 l0.length l0) (hc0 : l0.length ≤ c0) (h : spec_validFlows.f k l0 = some r) :
    Calls Try.prog 30 #[.slice A0 l0.length c0] w fun e w' => e = .returned (.bool r) ∧ Drawn0 w w' := by
  have HR0 := Aside0.mk hr0
  have HC0 := Aside0.mk hc0
  clear hr0 hc0
  have H : (spec_validFlows.l0 k l0 0) = some r := h
  clear h
  have H' := Aside0.mk H
  clear H
  go_enter Try.func30, Try.ntmps30
  go_wp2
  go_loopg [3] k (fun kq v3 w' => ∃ (x3_1 : Int), v3 = .int .i64 x3_1 ∧ Aside0 (spec_validFlows.l0 kq l0 x3_1 = some r) ∧ Aside0 (kq ≤ k) ∧ Drawn0 w w')
  case atStart => exact ⟨(0), (by first | rfl | (simp; done) | (simp [*]; done)), H', ⟨Nat.le_refl _⟩, by repeat (first | exact Drawn0.refl _ | apply Drawn0.step)⟩
  case round =>
    clear H'
    obtain ⟨x3_1, rfl, HA, HK1, ⟨m1, rfl⟩⟩ := hrel
    cases gk with
    | zero => exact absurd HA.out (by simp [spec_validFlows.l0])
    | succ k1 =>
      have H := HA.out
      clear HA
      simp only [spec_validFlows.l0] at H
      by_cases c2 : x3_1 < (l0.length : Int)
      · rw [if_pos c2] at H
        have c2b0 : decide (x3_1 < (l0.length : Int)) = true := decide_eq_true c2
        clear c2
        by_cases c3 : 0 ≤ x3_1
        · rw [if_pos c3] at H
          have c3b0 : decide (0 ≤ x3_1) = true := decide_eq_true c3
          clear c3
          replace H := Option.bind_eq_some_iff.mp H
          obtain ⟨t191, A40, H⟩ := H
          replace H : (if t191 = true then ((spec_inRange.f ((rd_T29 l0 x3_1).f1) (-1000000000) 1000000000).bind fun t193 => (if t193 = true then (spec_validFlows.l0 k1 l0 (wrap64 (x3_1 + 1))) else (some false))) else (some false)) = some r := H
          have A4 := Aside0.mk A40
          clear A40
          by_cases c5 : t191 = true
          · subst c5
            have H1 : ((spec_inRange.f ((rd_T29 l0 x3_1).f1) (-1000000000) 1000000000).bind fun t193 => (if t193 = true then (spec_validFlows.l0 k1 l0 (wrap64 (x3_1 + 1))) else (some false))) = some r := by rw [if_pos rfl] at H; exact H
            clear H
            have H := H1
            clear H1
            replace H := Option.bind_eq_some_iff.mp H
            obtain ⟨t193, A60, H⟩ := H
            replace H : (if t193 = true then (spec_validFlows.l0 k1 l0 (wrap64 (x3_1 + 1))) else (some false)) = some r := H
            have A6 := Aside0.mk A60
            clear A60
            by_cases c7 : t193 = true
            · subst c7
              have H1 : (spec_validFlows.l0 k1 l0 (wrap64 (x3_1 + 1))) = some r := by rw [if_pos rfl] at H; exact H
              clear H
              have H := H1
              clear H1
              have H' := Aside0.mk H
              clear H
              have p190 : 0 ≤ (x3_1 : Int) := of_decide_eq_true (by first | (with_reducible assumption) | assumption)
              have q190 : x3_1 < (l0.length : Int) := of_decide_eq_true (by first | (with_reducible assumption) | assumption)
              obtain ⟨ad190, e190, hx190_0, hx190_1⟩ := at_T29 HR0.out x3_1 p190 q190
              cases e190
              replace p190 := eq_true p190
              replace q190 := eq_true q190
              go_wp2_with (first | ((with_reducible refine gate_callee (f := 31) rfl ?_); refine goesL_ (some 15) rfl rfl Try.func31 (by kernel_rfl) rfl #[.int .i64 ((rd_T29 l0 x3_1).f0), .int .i64 0, .int .i64 36524] rfl (by (try simp only [List.map_toArray, List.map_cons, List.map_nil]); first | done | rfl | (simp only [List.length_drop, List.length_take]; rfl)) ?_; (with_reducible refine (spec_inRange.calls ((rd_T29 l0 x3_1).f0) 0 36524 true _ A4.out).mono ?_); rintro e w' ⟨rfl, ⟨nd, rfl⟩⟩; refine ⟨_, rfl, ?_⟩; have p192 : 0 ≤ (x3_1 : Int) := of_decide_eq_true (by first | (with_reducible assumption) | assumption); have q192 : x3_1 < (l0.length : Int) := of_decide_eq_true (by first | (with_reducible assumption) | assumption); obtain ⟨ad192, e192, hx192_0, hx192_1⟩ := at_T29 HR0.out x3_1 p192 q192; obtain rfl : ad190 = ad192 := (by injection e192); replace p192 := eq_true p192; replace q192 := eq_true q192) | (go_at_call 31; (with_reducible refine (spec_inRange.calls ((rd_T29 l0 x3_1).f1) (-1000000000) 1000000000 true _ A6.out).mono ?_); rintro e w' ⟨rfl, ⟨nd, rfl⟩⟩))
              go_roundg k1
              case measure => have := HK1.out; omega
              case rel => exact ⟨(wrap64 (x3_1 + 1)), (by first | rfl | (simp; done) | (simp [*]; done) | (simp only [IntKind.wrap_i64]; unfold wrap64; rfl)), H', ⟨by have := HK1.out; omega⟩, by repeat (first | exact Drawn0.refl _ | apply Drawn0.step)⟩
            · replace c7 := Bool.eq_false_iff.mpr c7
              subst c7
              have H1 : (some false) = some r := by rw [if_neg (show ¬ (false = true) by decide)] at H; exact H
              clear H
              have H := H1
              clear H1
              obtain rfl := Option.some.inj H
              have p190 : 0 ≤ (x3_1 : Int) := of_decide_eq_true (by first | (with_reducible assumption) | assumption)
              have q190 : x3_1 < (l0.length : Int) := of_decide_eq_true (by first | (with_reducible assumption) | assumption)
              obtain ⟨ad190, e190, hx190_0, hx190_1⟩ := at_T29 HR0.out x3_1 p190 q190
              cases e190
              replace p190 := eq_true p190
              replace q190 := eq_true q190
              go_wp2_with (first | ((with_reducible refine gate_callee (f := 31) rfl ?_); refine goesL_ (some 15) rfl rfl Try.func31 (by kernel_rfl) rfl #[.int .i64 ((rd_T29 l0 x3_1).f0), .int .i64 0, .int .i64 36524] rfl (by (try simp only [List.map_toArray, List.map_cons, List.map_nil]); first | done | rfl | (simp only [List.length_drop, List.length_take]; rfl)) ?_; (with_reducible refine (spec_inRange.calls ((rd_T29 l0 x3_1).f0) 0 36524 true _ A4.out).mono ?_); rintro e w' ⟨rfl, ⟨nd, rfl⟩⟩; refine ⟨_, rfl, ?_⟩; have p192 : 0 ≤ (x3_1 : Int) := of_decide_eq_true (by first | (with_reducible assumption) | assumption); have q192 : x3_1 < (l0.length : Int) := of_decide_eq_true (by first | (with_reducible assumption) | assumption); obtain ⟨ad192, e192, hx192_0, hx192_1⟩ := at_T29 HR0.out x3_1 p192 q192; obtain rfl : ad190 = ad192 := (by injection e192); replace p192 := eq_true p192; replace q192 := eq_true q192) | (go_at_call 31; (with_reducible refine (spec_inRange.calls ((rd_T29 l0 x3_1).f1) (-1000000000) 1000000000 false _ A6.out).mono ?_); rintro e w' ⟨rfl, ⟨nd, rfl⟩⟩))
              go_ret
              exact ⟨by first | rfl | (simp; done) | (simp [*]; done), by repeat (first | exact Drawn0.refl _ | apply Drawn0.step)⟩
          · replace c5 := Bool.eq_false_iff.mpr c5
            subst c5
            have H1 : (some false) = some r := by rw [if_neg (show ¬ (false = true) by decide)] at H; exact H
            clear H
            have H := H1
            clear H1
            obtain rfl := Option.some.inj H
            have p190 : 0 ≤ (x3_1 : Int) := of_decide_eq_true (by first | (with_reducible assumption) | assumption)
            have q190 : x3_1 < (l0.length : Int) := of_decide_eq_true (by first | (with_reducible assumption) | assumption)
            obtain ⟨ad190, e190, hx190_0, hx190_1⟩ := at_T29 HR0.out x3_1 p190 q190
            cases e190
            replace p190 := eq_true p190
            replace q190 := eq_true q190
            go_wp2_with (first | ((with_reducible refine gate_callee (f := 31) rfl ?_); refine goesL_ (some 15) rfl rfl Try.func31 (by kernel_rfl) rfl #[.int .i64 ((rd_T29 l0 x3_1).f0), .int .i64 0, .int .i64 36524] rfl (by (try simp only [List.map_toArray, List.map_cons, List.map_nil]); first | done | rfl | (simp only [List.length_drop, List.length_take]; rfl)) ?_; (with_reducible refine (spec_inRange.calls ((rd_T29 l0 x3_1).f0) 0 36524 false _ A4.out).mono ?_); rintro e w' ⟨rfl, ⟨nd, rfl⟩⟩; refine ⟨_, rfl, ?_⟩))
            go_ret
            exact ⟨by first | rfl | (simp; done) | (simp [*]; done), by repeat (first | exact Drawn0.refl _ | apply Drawn0.step)⟩
        · rw [if_neg c3] at H
          exact absurd H (by simp)
      · rw [if_neg c2] at H
        have c2b0 : decide (x3_1 < (l0.length : Int)) = false := decide_eq_false c2
        clear c2
        obtain rfl := Option.some.inj H
        go_wp2
        go_ret
        exact ⟨by first | rfl | (simp; done) | (simp [*]; done), by repeat (first | exact Drawn0.refl _ | apply Drawn0.step)⟩

end Go.Proofs.Ytmdhfmcnjdnkfaa.PFnLadderOfMerge

-- PRINTED BY print.sh 35421559b90ae4d0a3588c463048766b98c2df88dd9212a6774a882060cdf62d: not written by this session
import Derived.Test.YtobkncpmkiaggabPFnPledgeForPricex0
import Derived.Test.YtobkncpmkiaggabPFnPledgeForPricex2
namespace Go.Proofs.Ytobkncpmkiaggab.PFnPledgeForPrice
open Go.RowKit Go.Proofs.YtobkncpmkiaggabW.PrintWords Go.Proofs.YtobkncpmkiaggabW.PrintLast Go.Proofs.YtobkncpmkiaggabW.PrintMore
attribute [local go_sem] max2_int min2_int max_two min_two max_three min_three max_four min_four   -- for this text's walks alone
set_option linter.unusedVariables false
set_option linter.unusedSimpArgs false

/-! ### laws_FnPledgeForPrice: function 10 -/
def laws_FnPledgeForPrice.j0 : Nat → Int → Int → Bool → Int → Int → Int → Int → Int → Option (Bool)
  | 0, _, _, _, _, _, _, _, _ => none
  | k + 1, x4, x5, x27, x216000, x216001, x216002, x216003, x216004 => if x27 = true then ((spec_PledgeFor.f x216000 x216001 x216002 x216003 x216004 x4).bind fun t218 => (some (x5 == t218))) else ((impl_PledgeFor.f x216000 x216001 x216002 x216003 x216004 (mn (wrap64 (x4 + 1)) 50000)).bind fun t219 => ((impl_PledgeFor.f x216000 x216001 x216002 x216003 (mn (wrap64 (x216004 + 1)) 500) x4).bind fun t220 => (if t219 ≤ x5 then (if t220 ≥ x5 then (some (decide (x5 ≥ 1))) else (some false)) else (some false))))
def laws_FnPledgeForPrice.f (k : Nat) (l0 : List Int) : Option (Bool) := if (l0.length : Int) > 1048576 then (some true) else ((spec_DrawPledgeFor.f k l0).bind fun bt209 => ((impl_PledgeFor.f bt209.1 bt209.2.1 bt209.2.2.1 bt209.2.2.2.1 bt209.2.2.2.2.1 bt209.2.2.2.2.2).bind fun t216 => ((spec_PledgeFor.f bt209.1 bt209.2.1 bt209.2.2.1 bt209.2.2.2.1 bt209.2.2.2.2.1 bt209.2.2.2.2.2).bind fun t217 => (if t216 = t217 then (laws_FnPledgeForPrice.j0 k bt209.2.2.2.2.2 t216 (decide (t216 < 0)) bt209.1 bt209.2.1 bt209.2.2.1 bt209.2.2.2.1 bt209.2.2.2.2.1) else (laws_FnPledgeForPrice.j0 k bt209.2.2.2.2.2 t216 true bt209.1 bt209.2.1 bt209.2.2.1 bt209.2.2.2.1 bt209.2.2.2.2.1)))))
theorem laws_FnPledgeForPrice.mono_l : ∀ k, (∀ y0 y1 y2 y3 y4 y5 y6 y7, LeO (laws_FnPledgeForPrice.j0 k y0 y1 y2 y3 y4 y5 y6 y7) (laws_FnPledgeForPrice.j0 (k + 1) y0 y1 y2 y3 y4 y5 y6 y7))
  | 0 => fun _ _ _ _ _ _ _ _ r h => by simp [laws_FnPledgeForPrice.j0] at h
  | k + 1 => by
    have ih0 := laws_FnPledgeForPrice.mono_l k
    · intro y0 y1 y2 y3 y4 y5 y6 y7
      unfold laws_FnPledgeForPrice.j0
      repeat' first
      | (with_reducible exact ih0 _ _ _ _ _ _ _ _)
      | (with_reducible exact spec_DrawPledgeFor.mono _ _)
      | (with_reducible exact LeO.refl _)
      | (with_reducible exact LeO.none _)
      | (with_reducible refine LeO.ite ?_ ?_)
      | (with_reducible refine LeO.bind ?_ (fun _ => ?_))
      | exact ih0 _ _ _ _ _ _ _ _
      | exact spec_DrawPledgeFor.mono _ _
      | exact LeO.none _
      | refine LeO.ite ?_ ?_
      | refine LeO.bind ?_ (fun _ => ?_)
theorem laws_FnPledgeForPrice.mono : ∀ a0 k, LeO (laws_FnPledgeForPrice.f k a0) (laws_FnPledgeForPrice.f (k + 1) a0) := by
  intro a0 k
  have ih0 := laws_FnPledgeForPrice.mono_l k
  unfold laws_FnPledgeForPrice.f
  repeat' first
      | (with_reducible exact ih0 _ _ _ _ _ _ _ _)
      | (with_reducible exact spec_DrawPledgeFor.mono _ _)
      | (with_reducible exact LeO.refl _)
      | (with_reducible exact LeO.none _)
      | (with_reducible refine LeO.ite ?_ ?_)
      | (with_reducible refine LeO.bind ?_ (fun _ => ?_))
      | exact ih0 _ _ _ _ _ _ _ _
      | exact spec_DrawPledgeFor.mono _ _
      | exact LeO.none _
      | refine LeO.ite ?_ ?_
      | refine LeO.bind ?_ (fun _ => ?_)
set_option maxHeartbeats 8000000 in
set_option maxRecDepth 100000 in
theorem laws_FnPledgeForPrice.calls (k : Nat) (A0 : Option Addr) (c0 : Nat) (l0 : List Int) (r : Bool) (w : World) (hr0 : Kd.C (Kd.int .u8) w A0 l0.length l0) (hc0 : l0.length ≤ c0) (h : laws_FnPledgeForPrice.f k l0 = some r) :
    Calls Try.prog 10 #[.slice A0 l0.length c0] w fun e w' => e = .returned (.bool r) ∧ Below w.heap.size w w' := by
  have hu24 := Try.underlying24
  have HR0 := Aside0.mk hr0
  have HC0 := Aside0.mk hc0
  clear hr0 hc0
  have HB := Aside0.mk (Below.refl w.heap.size w)
  have H : (if (l0.length : Int) > 1048576 then (some true) else ((spec_DrawPledgeFor.f k l0).bind fun bt209 => ((impl_PledgeFor.f bt209.1 bt209.2.1 bt209.2.2.1 bt209.2.2.2.1 bt209.2.2.2.2.1 bt209.2.2.2.2.2).bind fun t216 => ((spec_PledgeFor.f bt209.1 bt209.2.1 bt209.2.2.1 bt209.2.2.2.1 bt209.2.2.2.2.1 bt209.2.2.2.2.2).bind fun t217 => (if t216 = t217 then (laws_FnPledgeForPrice.j0 k bt209.2.2.2.2.2 t216 (decide (t216 < 0)) bt209.1 bt209.2.1 bt209.2.2.1 bt209.2.2.2.1 bt209.2.2.2.2.1) else (laws_FnPledgeForPrice.j0 k bt209.2.2.2.2.2 t216 true bt209.1 bt209.2.1 bt209.2.2.1 bt209.2.2.2.1 bt209.2.2.2.2.1)))))) = some r := h
  clear h
  by_cases c2 : (l0.length : Int) > 1048576
  · rw [if_pos c2] at H
    have c2b0 : decide (1048576 < (l0.length : Int)) = true := decide_eq_true c2
    have c2b1 : decide (1048576 < l0.length) = true := decide_eq_true (by omega)
    clear c2
    obtain rfl := Option.some.inj H
    go_enter Try.func10, Try.ntmps10
    go_wp2
    go_ret
    exact ⟨by first | rfl | (simp [errW_none, errW_some] <;> rfl) | (simp [*, errW_none, errW_some] <;> rfl), by repeat (first | (with_reducible first | exact HB.out | apply below_alloc | apply pw_below_drewN | apply below_drew1) | exact HB.out)⟩
  · rw [if_neg c2] at H
    have c2b0 : decide (1048576 < (l0.length : Int)) = false := decide_eq_false c2
    have c2b1 : decide (1048576 < l0.length) = false := decide_eq_false (by omega)
    clear c2
    replace H := Option.bind_eq_some_iff.mp H
    obtain ⟨⟨t209, t210, t211, t212, t213, t214⟩, A30, H⟩ := H
    replace H : ((impl_PledgeFor.f t209 t210 t211 t212 t213 t214).bind fun t216 => ((spec_PledgeFor.f t209 t210 t211 t212 t213 t214).bind fun t217 => (if t216 = t217 then (laws_FnPledgeForPrice.j0 k t214 t216 (decide (t216 < 0)) t209 t210 t211 t212 t213) else (laws_FnPledgeForPrice.j0 k t214 t216 true t209 t210 t211 t212 t213)))) = some r := H
    have A3 := Aside0.mk A30
    clear A30
    replace H := Option.bind_eq_some_iff.mp H
    obtain ⟨t216, A40, H⟩ := H
    replace H : ((spec_PledgeFor.f t209 t210 t211 t212 t213 t214).bind fun t217 => (if t216 = t217 then (laws_FnPledgeForPrice.j0 k t214 t216 (decide (t216 < 0)) t209 t210 t211 t212 t213) else (laws_FnPledgeForPrice.j0 k t214 t216 true t209 t210 t211 t212 t213))) = some r := H
    have A4 := Aside0.mk A40
    clear A40
    have HC5 := Aside0.mk H
    clear H
    go_enter Try.func10, Try.ntmps10
    go_upto_region 5 with (first | ((with_reducible refine gate_callee (f := 28) rfl ?_); refine goesL_ (some 13) rfl rfl Try.func28 (by kernel_rfl) rfl #[.slice A0 l0.length c0] rfl (by (try simp only [List.map_toArray, List.map_cons, List.map_nil]); first | done | rfl | (simp only [List.length_drop, List.length_take]; rfl)) ?_; (with_reducible refine (spec_DrawPledgeFor.calls k _ _ l0 t209 t210 t211 t212 t213 t214 _ ?side1 ?side2 A3.out).mono ?_); (case side1 => repeat (first | exact HR0.out | (with_reducible refine Kd.C_alloc ?_ _) | (with_reducible refine Kd.C_drewN ?_ _) | (with_reducible refine Kd.C_drew ?_))); (case side2 => exact HC0.out); rintro e w6 ⟨rfl, hb⟩; refine ⟨_, rfl, ?_⟩; have n0_ := Aside0.mk (below_step (by repeat (first | (with_reducible first | exact HB.out | apply below_alloc | apply pw_below_drewN | apply below_drew1) | exact HB.out)) hb); clear HB; have HB := n0_; clear n0_; (try clear hb); (try clear hb2); (try clear hk); (try clear hi)) | ((with_reducible refine gate_dst (N := 3) rfl ?_); refine box_event ?hg (N := 3) ?hd (cs := #[.int .i64 0, .int .i64 0, .int .i64 0, .int .i64 0, .int .i64 0]) (t := 24) ?hr ?_; (case hd => rfl); (case hg => rfl); (case hr => first | (go_simp; done) | (go_simp; rfl)); intro gb215 hg w7 hbox hb; have n0_ := Aside0.mk (below_step (by repeat (first | (with_reducible first | exact HB.out | apply below_alloc | apply pw_below_drewN | apply below_drew1) | exact HB.out)) hb); have n1_ := Aside0.mk (hbox); have n2_ := Aside0.mk ((by rw [hg]; exact (below_size (by repeat (first | (with_reducible first | exact HB.out | apply below_alloc | apply pw_below_drewN | apply below_drew1) | exact HB.out))) : w.heap.size ≤ gb215)); have n3_ := Aside0.mk ((by rw [hg]; exact (below_size (by repeat (first | (with_reducible first | exact HB.out | apply below_alloc | apply pw_below_drewN | apply below_drew1) | exact HB.out))) : w.heap.size ≤ gb215)); clear HB; have HB := n0_; have BK215 := n1_; have GW215 := n2_; have GE215 := n3_; clear n0_ n1_ n2_ n3_; clear hb hbox hg; have hcz8_0 : w7.cell? ⟨gb215, 0, none⟩ = some (.int .i64 0) := (blk_cell BK215.out 0).trans rfl; have hcz8_1 : w7.cell? ⟨gb215, 1, none⟩ = some (.int .i64 0) := (blk_cell BK215.out 1).trans rfl; have hcz8_2 : w7.cell? ⟨gb215, 2, none⟩ = some (.int .i64 0) := (blk_cell BK215.out 2).trans rfl; have hcz8_3 : w7.cell? ⟨gb215, 3, none⟩ = some (.int .i64 0) := (blk_cell BK215.out 3).trans rfl; have hcz8_4 : w7.cell? ⟨gb215, 4, none⟩ = some (.int .i64 0) := (blk_cell BK215.out 4).trans rfl; have hfz8_0 := blk_frozen BK215.out 0; have hfz8_1 := blk_frozen BK215.out 1; have hfz8_2 := blk_frozen BK215.out 2; have hfz8_3 := blk_frozen BK215.out 3; have hfz8_4 := blk_frozen BK215.out 4) | ((with_reducible refine gate_callee (f := 29) rfl ?_); refine goesL_ (some 18) rfl rfl Try.func29 (by kernel_rfl) rfl #[.agg #[.int .i64 t209, .int .i64 t210, .int .i64 t211, .int .i64 t212, .int .i64 t213], .int .i64 t214] rfl (by (try simp only [List.map_toArray, List.map_cons, List.map_nil]); first | done | rfl | (simp only [List.length_drop, List.length_take]; rfl)) ?_; (with_reducible refine (impl_PledgeFor.calls t209 t210 t211 t212 t213 t214 t216 _ A4.out).mono ?_); rintro e w9 ⟨rfl, hb⟩; refine ⟨_, rfl, ?_⟩; have n0_ := Aside0.mk (blk_below (g := gb215) (o := .cells #[.int .i64 t209, .int .i64 t210, .int .i64 t211, .int .i64 t212, .int .i64 t213] 24 (0, 0)) (by (with_reducible repeat (first | refine blk_drewN ?_ _ | refine blk_drew ?_ | refine blk_alloc ?_ _)); refine blk_put (cs := #[.int .i64 t209, .int .i64 t210, .int .i64 t211, .int .i64 t212, .int .i64 0]) ?_ 4 _ rfl; (with_reducible repeat (first | refine blk_drewN ?_ _ | refine blk_drew ?_ | refine blk_alloc ?_ _)); refine blk_put (cs := #[.int .i64 t209, .int .i64 t210, .int .i64 t211, .int .i64 0, .int .i64 0]) ?_ 3 _ rfl; (with_reducible repeat (first | refine blk_drewN ?_ _ | refine blk_drew ?_ | refine blk_alloc ?_ _)); refine blk_put (cs := #[.int .i64 t209, .int .i64 t210, .int .i64 0, .int .i64 0, .int .i64 0]) ?_ 2 _ rfl; (with_reducible repeat (first | refine blk_drewN ?_ _ | refine blk_drew ?_ | refine blk_alloc ?_ _)); refine blk_put (cs := #[.int .i64 t209, .int .i64 0, .int .i64 0, .int .i64 0, .int .i64 0]) ?_ 1 _ rfl; (with_reducible repeat (first | refine blk_drewN ?_ _ | refine blk_drew ?_ | refine blk_alloc ?_ _)); refine blk_put (cs := #[.int .i64 0, .int .i64 0, .int .i64 0, .int .i64 0, .int .i64 0]) ?_ 0 _ rfl; (with_reducible repeat (first | refine blk_drewN ?_ _ | refine blk_drew ?_ | refine blk_alloc ?_ _)); exact BK215.out) hb); have n1_ := Aside0.mk (below_step (by repeat (first | (with_reducible first | exact HB.out | apply below_alloc | apply pw_below_drewN | apply below_drew1 | refine below_set ?_ GE215.out) | exact HB.out)) hb); clear BK215; clear HB; have BK215 := n0_; have HB := n1_; clear n0_ n1_; (try clear hb); (try clear hb2); (try clear hk); (try clear hi)))
    (try simp only [Act.put, List.setIfInBounds_toArray, List.set_cons_zero, List.set_cons_succ])
    go_cut [27] (fun v27 wc => ∃ (kq : Nat) (x27_4 : Bool), v27 = .bool x27_4 ∧ Aside0 (laws_FnPledgeForPrice.j0 kq t214 t216 x27_4 t209 t210 t211 t212 t213 = some r) ∧ Aside0 (kq ≤ k) ∧ Aside0 (wc.heap[gb215]? = some (.cells #[.int .i64 t209, .int .i64 t210, .int .i64 t211, .int .i64 t212, .int .i64 t213] 24 (0, 0))) ∧ Aside0 (Below w.heap.size w wc))
    case first =>
      have H := HC5.out
      clear HC5
      replace H := Option.bind_eq_some_iff.mp H
      obtain ⟨t217, A100, H⟩ := H
      replace H : (if t216 = t217 then (laws_FnPledgeForPrice.j0 k t214 t216 (decide (t216 < 0)) t209 t210 t211 t212 t213) else (laws_FnPledgeForPrice.j0 k t214 t216 true t209 t210 t211 t212 t213)) = some r := H
      have A10 := Aside0.mk A100
      clear A100
      by_cases c11 : t216 = t217
      · rw [if_pos c11] at H
        have c11b0 : (t216 == t217) = true := beq_iff_eq.mpr c11
        have c11b1 : (t216 != t217) = false := bne_eq_false_iff_eq.mpr c11
        clear c11
        (first | rw [c11b0] | (simp only [i64_w, i32_w]; rw [c11b0]) | skip)
        have H' := Aside0.mk H
        clear H
        have hcz12_0 : w9.cell? ⟨gb215, 0, none⟩ = some (.int .i64 t209) := (blk_cell BK215.out 0).trans rfl
        have hcz12_1 : w9.cell? ⟨gb215, 1, none⟩ = some (.int .i64 t210) := (blk_cell BK215.out 1).trans rfl
        have hcz12_2 : w9.cell? ⟨gb215, 2, none⟩ = some (.int .i64 t211) := (blk_cell BK215.out 2).trans rfl
        have hcz12_3 : w9.cell? ⟨gb215, 3, none⟩ = some (.int .i64 t212) := (blk_cell BK215.out 3).trans rfl
        have hcz12_4 : w9.cell? ⟨gb215, 4, none⟩ = some (.int .i64 t213) := (blk_cell BK215.out 4).trans rfl
        have hfz12_0 := blk_frozen BK215.out 0
        have hfz12_1 := blk_frozen BK215.out 1
        have hfz12_2 := blk_frozen BK215.out 2
        have hfz12_3 := blk_frozen BK215.out 3
        have hfz12_4 := blk_frozen BK215.out 4
        go_wp2_with (first | ((with_reducible refine gate_callee (f := 30) rfl ?_); refine goesL_ (some 22) rfl rfl Try.func30 (by kernel_rfl) rfl #[.agg #[.int .i64 t209, .int .i64 t210, .int .i64 t211, .int .i64 t212, .int .i64 t213], .int .i64 t214] rfl (by (try simp only [List.map_toArray, List.map_cons, List.map_nil]); first | done | rfl | (simp only [List.length_drop, List.length_take]; rfl)) ?_; (with_reducible refine (spec_PledgeFor.calls t209 t210 t211 t212 t213 t214 t217 _ A10.out).mono ?_); rintro e w13 ⟨rfl, hb⟩; refine ⟨_, rfl, ?_⟩; have n0_ := Aside0.mk (blk_below (g := gb215) (o := .cells #[.int .i64 t209, .int .i64 t210, .int .i64 t211, .int .i64 t212, .int .i64 t213] 24 (0, 0)) (by (with_reducible repeat (first | refine blk_drewN ?_ _ | refine blk_drew ?_ | refine blk_alloc ?_ _)); exact BK215.out) hb); have n1_ := Aside0.mk (below_step (by repeat (first | (with_reducible first | exact HB.out | apply below_alloc | apply pw_below_drewN | apply below_drew1 | refine below_set ?_ GE215.out) | exact HB.out)) hb); clear BK215; clear HB; have BK215 := n0_; have HB := n1_; clear n0_ n1_; (try clear hb); (try clear hb2); (try clear hk); (try clear hi)))
        go_meet
        case rel => exact ⟨_, (decide (t216 < 0)), (by first | rfl | (simp; done) | (simp [*]; done)), H', ⟨by first | omega | exact Nat.le_refl _⟩, ⟨by (with_reducible repeat (first | refine blk_drewN ?_ _ | refine blk_drew ?_ | refine blk_alloc ?_ _)); exact BK215.out⟩, ⟨by repeat (first | (with_reducible first | exact HB.out | apply below_alloc | apply pw_below_drewN | apply below_drew1 | refine below_set ?_ GE215.out) | exact HB.out)⟩⟩
      · rw [if_neg c11] at H
        have c11b0 : (t216 == t217) = false := beq_eq_false_iff_ne.mpr c11
        have c11b1 : (t216 != t217) = true := bne_iff_ne.mpr c11
        (first | rw [c11b0] | (simp only [i64_w, i32_w]; rw [c11b0]) | skip)
        have H' := Aside0.mk H
        clear H
        have hcz14_0 : w9.cell? ⟨gb215, 0, none⟩ = some (.int .i64 t209) := (blk_cell BK215.out 0).trans rfl
        have hcz14_1 : w9.cell? ⟨gb215, 1, none⟩ = some (.int .i64 t210) := (blk_cell BK215.out 1).trans rfl
        have hcz14_2 : w9.cell? ⟨gb215, 2, none⟩ = some (.int .i64 t211) := (blk_cell BK215.out 2).trans rfl
        have hcz14_3 : w9.cell? ⟨gb215, 3, none⟩ = some (.int .i64 t212) := (blk_cell BK215.out 3).trans rfl
        have hcz14_4 : w9.cell? ⟨gb215, 4, none⟩ = some (.int .i64 t213) := (blk_cell BK215.out 4).trans rfl
        have hfz14_0 := blk_frozen BK215.out 0
        have hfz14_1 := blk_frozen BK215.out 1
        have hfz14_2 := blk_frozen BK215.out 2
        have hfz14_3 := blk_frozen BK215.out 3
        have hfz14_4 := blk_frozen BK215.out 4
        go_wp2_with (first | ((with_reducible refine gate_callee (f := 30) rfl ?_); refine goesL_ (some 22) rfl rfl Try.func30 (by kernel_rfl) rfl #[.agg #[.int .i64 t209, .int .i64 t210, .int .i64 t211, .int .i64 t212, .int .i64 t213], .int .i64 t214] rfl (by (try simp only [List.map_toArray, List.map_cons, List.map_nil]); first | done | rfl | (simp only [List.length_drop, List.length_take]; rfl)) ?_; (with_reducible refine (spec_PledgeFor.calls t209 t210 t211 t212 t213 t214 t217 _ A10.out).mono ?_); rintro e w15 ⟨rfl, hb⟩; refine ⟨_, rfl, ?_⟩; have n0_ := Aside0.mk (blk_below (g := gb215) (o := .cells #[.int .i64 t209, .int .i64 t210, .int .i64 t211, .int .i64 t212, .int .i64 t213] 24 (0, 0)) (by (with_reducible repeat (first | refine blk_drewN ?_ _ | refine blk_drew ?_ | refine blk_alloc ?_ _)); exact BK215.out) hb); have n1_ := Aside0.mk (below_step (by repeat (first | (with_reducible first | exact HB.out | apply below_alloc | apply pw_below_drewN | apply below_drew1 | refine below_set ?_ GE215.out) | exact HB.out)) hb); clear BK215; clear HB; have BK215 := n0_; have HB := n1_; clear n0_ n1_; (try clear hb); (try clear hb2); (try clear hk); (try clear hi)))
        go_meet
        case rel => exact ⟨_, (true), (by first | rfl | (simp; done) | (simp [*]; done)), H', ⟨by first | omega | exact Nat.le_refl _⟩, ⟨by (with_reducible repeat (first | refine blk_drewN ?_ _ | refine blk_drew ?_ | refine blk_alloc ?_ _)); exact BK215.out⟩, ⟨by repeat (first | (with_reducible first | exact HB.out | apply below_alloc | apply pw_below_drewN | apply below_drew1 | refine below_set ?_ GE215.out) | exact HB.out)⟩⟩
    case rest =>
      clear HC5
      try clear c1
      try clear c2
      try clear c2b0
      try clear c2b1
      try clear p2
      try clear c3
      try clear c10
      try clear c11
      try clear c11b0
      try clear c11b1
      try clear hcz12_0
      try clear hcz12_1
      try clear hcz12_2
      try clear hcz12_3
      try clear hcz12_4
      try clear hcz14_0
      try clear hcz14_1
      try clear hcz14_2
      try clear hcz14_3
      try clear hcz14_4
      try clear hcz8_0
      try clear hcz8_1
      try clear hcz8_2
      try clear hcz8_3
      try clear hcz8_4
      try clear hfz12_0
      try clear hfz12_1
      try clear hfz12_2
      try clear hfz12_3
      try clear hfz12_4
      try clear hfz14_0
      try clear hfz14_1
      try clear hfz14_2
      try clear hfz14_3
      try clear hfz14_4
      try clear hfz8_0
      try clear hfz8_1
      try clear hfz8_2
      try clear hfz8_3
      try clear hfz8_4
      obtain ⟨kq, x27_4, rfl, HA, HJ4, BK215, HB⟩ := hcut
      cases kq with
      | zero => exact absurd HA.out (by simp [laws_FnPledgeForPrice.j0])
      | succ kj4 =>
        have H := HA.out
        clear HA
        simp only [laws_FnPledgeForPrice.j0] at H
        by_cases c16 : x27_4 = true
        · subst c16
          have H1 : ((spec_PledgeFor.f t209 t210 t211 t212 t213 t214).bind fun t218 => (some (t216 == t218))) = some r := by rw [if_pos rfl] at H; exact H
          clear H
          have H := H1
          clear H1
          replace H := Option.bind_eq_some_iff.mp H
          obtain ⟨t218, A170, H⟩ := H
          replace H : (some (t216 == t218)) = some r := H
          have A17 := Aside0.mk A170
          clear A170
          obtain rfl := Option.some.inj H
          have hcz18_0 : wc.cell? ⟨gb215, 0, none⟩ = some (.int .i64 t209) := (blk_cell BK215.out 0).trans rfl
          have hcz18_1 : wc.cell? ⟨gb215, 1, none⟩ = some (.int .i64 t210) := (blk_cell BK215.out 1).trans rfl
          have hcz18_2 : wc.cell? ⟨gb215, 2, none⟩ = some (.int .i64 t211) := (blk_cell BK215.out 2).trans rfl
          have hcz18_3 : wc.cell? ⟨gb215, 3, none⟩ = some (.int .i64 t212) := (blk_cell BK215.out 3).trans rfl
          have hcz18_4 : wc.cell? ⟨gb215, 4, none⟩ = some (.int .i64 t213) := (blk_cell BK215.out 4).trans rfl
          have hfz18_0 := blk_frozen BK215.out 0
          have hfz18_1 := blk_frozen BK215.out 1
          have hfz18_2 := blk_frozen BK215.out 2
          have hfz18_3 := blk_frozen BK215.out 3
          have hfz18_4 := blk_frozen BK215.out 4
          go_wp2_with (first | ((with_reducible refine gate_callee (f := 30) rfl ?_); refine goesL_ (some 31) rfl rfl Try.func30 (by kernel_rfl) rfl #[.agg #[.int .i64 t209, .int .i64 t210, .int .i64 t211, .int .i64 t212, .int .i64 t213], .int .i64 t214] rfl (by (try simp only [List.map_toArray, List.map_cons, List.map_nil]); first | done | rfl | (simp only [List.length_drop, List.length_take]; rfl)) ?_; (with_reducible refine (spec_PledgeFor.calls t209 t210 t211 t212 t213 t214 t218 _ A17.out).mono ?_); rintro e w19 ⟨rfl, hb⟩; refine ⟨_, rfl, ?_⟩; have n0_ := Aside0.mk (blk_below (g := gb215) (o := .cells #[.int .i64 t209, .int .i64 t210, .int .i64 t211, .int .i64 t212, .int .i64 t213] 24 (0, 0)) (by (with_reducible repeat (first | refine blk_drewN ?_ _ | refine blk_drew ?_ | refine blk_alloc ?_ _)); exact BK215.out) hb); have n1_ := Aside0.mk (below_step (by repeat (first | (with_reducible first | exact HB.out | apply below_alloc | apply pw_below_drewN | apply below_drew1 | refine below_set ?_ GE215.out) | exact HB.out)) hb); clear BK215; clear HB; have BK215 := n0_; have HB := n1_; clear n0_ n1_; (try clear hb); (try clear hb2); (try clear hk); (try clear hi)))
          go_ret
          exact ⟨by first | rfl | (simp [errW_none, errW_some] <;> rfl) | (simp [*, errW_none, errW_some] <;> rfl), by repeat (first | (with_reducible first | exact HB.out | apply below_alloc | apply pw_below_drewN | apply below_drew1 | refine below_set ?_ GE215.out) | exact HB.out)⟩
        · replace c16 := Bool.eq_false_iff.mpr c16
          subst c16
          have H1 : ((impl_PledgeFor.f t209 t210 t211 t212 t213 (mn (wrap64 (t214 + 1)) 50000)).bind fun t219 => ((impl_PledgeFor.f t209 t210 t211 t212 (mn (wrap64 (t213 + 1)) 500) t214).bind fun t220 => (if t219 ≤ t216 then (if t220 ≥ t216 then (some (decide (t216 ≥ 1))) else (some false)) else (some false)))) = some r := by rw [if_neg (show ¬ (false = true) by decide)] at H; exact H
          clear H
          have H := H1
          clear H1
          obtain ⟨ji20, hji20⟩ : ∃ j_ : Int, (mn (wrap64 (t214 + 1)) 50000) = j_ := ⟨_, rfl⟩
          replace H : ((impl_PledgeFor.f t209 t210 t211 t212 t213 (ji20)).bind fun t219 => ((impl_PledgeFor.f t209 t210 t211 t212 (mn (wrap64 (t213 + 1)) 500) t214).bind fun t220 => (if t219 ≤ t216 then (if t220 ≥ t216 then (some (decide (t216 ≥ 1))) else (some false)) else (some false)))) = some r := by first | (rw [hji20] at H; exact H) | (simp only [hji20] at H ⊢; exact H)
          have hji20_ : (if 50000 < (wrap64 (t214 + 1)) then 50000 else (wrap64 (t214 + 1))) = ji20 := hji20
          replace H := Option.bind_eq_some_iff.mp H
          obtain ⟨t219, A210, H⟩ := H
          replace H : ((impl_PledgeFor.f t209 t210 t211 t212 (mn (wrap64 (t213 + 1)) 500) t214).bind fun t220 => (if t219 ≤ t216 then (if t220 ≥ t216 then (some (decide (t216 ≥ 1))) else (some false)) else (some false))) = some r := H
          have A21 := Aside0.mk A210
          clear A210
          obtain ⟨ji22, hji22⟩ : ∃ j_ : Int, (mn (wrap64 (t213 + 1)) 500) = j_ := ⟨_, rfl⟩
          replace H : ((impl_PledgeFor.f t209 t210 t211 t212 (ji22) t214).bind fun t220 => (if t219 ≤ t216 then (if t220 ≥ t216 then (some (decide (t216 ≥ 1))) else (some false)) else (some false))) = some r := by first | (rw [hji22] at H; exact H) | (simp only [hji22] at H ⊢; exact H)
          (try rw [hji22] at A21)
          have hji22_ : (if 500 < (wrap64 (t213 + 1)) then 500 else (wrap64 (t213 + 1))) = ji22 := hji22
          replace H := Option.bind_eq_some_iff.mp H
          obtain ⟨t220, A230, H⟩ := H
          replace H : (if t219 ≤ t216 then (if t220 ≥ t216 then (some (decide (t216 ≥ 1))) else (some false)) else (some false)) = some r := H
          have A23 := Aside0.mk A230
          clear A230
          by_cases c24 : t219 ≤ t216
          · rw [if_pos c24] at H
            have c24b0 : decide (t219 ≤ t216) = true := decide_eq_true c24
            clear c24
            by_cases c25 : t220 ≥ t216
            · rw [if_pos c25] at H
              have c25b0 : decide (t216 ≤ t220) = true := decide_eq_true c25
              clear c25
              obtain rfl := Option.some.inj H
              have hcz26_0 : wc.cell? ⟨gb215, 0, none⟩ = some (.int .i64 t209) := (blk_cell BK215.out 0).trans rfl
              have hcz26_1 : wc.cell? ⟨gb215, 1, none⟩ = some (.int .i64 t210) := (blk_cell BK215.out 1).trans rfl
              have hcz26_2 : wc.cell? ⟨gb215, 2, none⟩ = some (.int .i64 t211) := (blk_cell BK215.out 2).trans rfl
              have hcz26_3 : wc.cell? ⟨gb215, 3, none⟩ = some (.int .i64 t212) := (blk_cell BK215.out 3).trans rfl
              have hcz26_4 : wc.cell? ⟨gb215, 4, none⟩ = some (.int .i64 t213) := (blk_cell BK215.out 4).trans rfl
              have hfz26_0 := blk_frozen BK215.out 0
              have hfz26_1 := blk_frozen BK215.out 1
              have hfz26_2 := blk_frozen BK215.out 2
              have hfz26_3 := blk_frozen BK215.out 3
              have hfz26_4 := blk_frozen BK215.out 4
              go_wp2_with (first | ((with_reducible refine gate_callee (f := 29) rfl ?_); refine goesL_ (some 37) rfl rfl Try.func29 (by kernel_rfl) rfl #[.agg #[.int .i64 t209, .int .i64 t210, .int .i64 t211, .int .i64 t212, .int .i64 t213], .int .i64 ji20] rfl (by (try simp only [List.map_toArray, List.map_cons, List.map_nil]); first | done | (simp only [hji20]; rfl) | rfl | (simp only [List.length_drop, List.length_take]; rfl)) ?_; (with_reducible refine (impl_PledgeFor.calls t209 t210 t211 t212 t213 ji20 t219 _ A21.out).mono ?_); rintro e w27 ⟨rfl, hb⟩; refine ⟨_, rfl, ?_⟩; have n0_ := Aside0.mk (blk_below (g := gb215) (o := .cells #[.int .i64 t209, .int .i64 t210, .int .i64 t211, .int .i64 t212, .int .i64 t213] 24 (0, 0)) (by (with_reducible repeat (first | refine blk_drewN ?_ _ | refine blk_drew ?_ | refine blk_alloc ?_ _)); exact BK215.out) hb); have n1_ := Aside0.mk (below_step (by repeat (first | (with_reducible first | exact HB.out | apply below_alloc | apply pw_below_drewN | apply below_drew1 | refine below_set ?_ GE215.out) | exact HB.out)) hb); clear BK215; clear HB; have BK215 := n0_; have HB := n1_; clear n0_ n1_; (try clear hb); (try clear hb2); (try clear hk); (try clear hi); have hcz28_0 : w27.cell? ⟨gb215, 0, none⟩ = some (.int .i64 t209) := (blk_cell BK215.out 0).trans rfl; have hcz28_1 : w27.cell? ⟨gb215, 1, none⟩ = some (.int .i64 t210) := (blk_cell BK215.out 1).trans rfl; have hcz28_2 : w27.cell? ⟨gb215, 2, none⟩ = some (.int .i64 t211) := (blk_cell BK215.out 2).trans rfl; have hcz28_3 : w27.cell? ⟨gb215, 3, none⟩ = some (.int .i64 t212) := (blk_cell BK215.out 3).trans rfl; have hcz28_4 : w27.cell? ⟨gb215, 4, none⟩ = some (.int .i64 t213) := (blk_cell BK215.out 4).trans rfl; have hfz28_0 := blk_frozen BK215.out 0; have hfz28_1 := blk_frozen BK215.out 1; have hfz28_2 := blk_frozen BK215.out 2; have hfz28_3 := blk_frozen BK215.out 3; have hfz28_4 := blk_frozen BK215.out 4) | ((with_reducible refine gate_callee (f := 29) rfl ?_); refine goesL_ (some 52) rfl rfl Try.func29 (by kernel_rfl) rfl #[.agg #[.int .i64 t209, .int .i64 t210, .int .i64 t211, .int .i64 t212, .int .i64 ji22], .int .i64 t214] rfl (by (try simp only [List.map_toArray, List.map_cons, List.map_nil]); first | done | (simp only [hji22]; rfl) | rfl | (simp only [List.length_drop, List.length_take]; rfl)) ?_; (with_reducible refine (impl_PledgeFor.calls t209 t210 t211 t212 ji22 t214 t220 _ A23.out).mono ?_); rintro e w29 ⟨rfl, hb⟩; refine ⟨_, rfl, ?_⟩; have n0_ := Aside0.mk (blk_below (g := gb215) (o := .cells #[.int .i64 t209, .int .i64 t210, .int .i64 t211, .int .i64 t212, .int .i64 t213] 24 (0, 0)) (by (with_reducible repeat (first | refine blk_drewN ?_ _ | refine blk_drew ?_ | refine blk_alloc ?_ _)); exact BK215.out) hb); have n1_ := Aside0.mk (below_step (by repeat (first | (with_reducible first | exact HB.out | apply below_alloc | apply pw_below_drewN | apply below_drew1 | refine below_set ?_ GE215.out) | exact HB.out)) hb); clear BK215; clear HB; have BK215 := n0_; have HB := n1_; clear n0_ n1_; (try clear hb); (try clear hb2); (try clear hk); (try clear hi)))
              go_ret
              exact ⟨by first | rfl | (simp [errW_none, errW_some] <;> rfl) | (simp only [← hji20, ← hji22]; first | rfl | (simp [errW_none, errW_some] <;> rfl)) | (simp [*, errW_none, errW_some] <;> rfl), by repeat (first | (with_reducible first | exact HB.out | apply below_alloc | apply pw_below_drewN | apply below_drew1 | refine below_set ?_ GE215.out) | exact HB.out)⟩
            · rw [if_neg c25] at H
              have c25b0 : decide (t216 ≤ t220) = false := decide_eq_false c25
              clear c25
              obtain rfl := Option.some.inj H
              have hcz30_0 : wc.cell? ⟨gb215, 0, none⟩ = some (.int .i64 t209) := (blk_cell BK215.out 0).trans rfl
              have hcz30_1 : wc.cell? ⟨gb215, 1, none⟩ = some (.int .i64 t210) := (blk_cell BK215.out 1).trans rfl
              have hcz30_2 : wc.cell? ⟨gb215, 2, none⟩ = some (.int .i64 t211) := (blk_cell BK215.out 2).trans rfl
              have hcz30_3 : wc.cell? ⟨gb215, 3, none⟩ = some (.int .i64 t212) := (blk_cell BK215.out 3).trans rfl
              have hcz30_4 : wc.cell? ⟨gb215, 4, none⟩ = some (.int .i64 t213) := (blk_cell BK215.out 4).trans rfl
              have hfz30_0 := blk_frozen BK215.out 0
              have hfz30_1 := blk_frozen BK215.out 1
              have hfz30_2 := blk_frozen BK215.out 2
              have hfz30_3 := blk_frozen BK215.out 3
              have hfz30_4 := blk_frozen BK215.out 4
              go_wp2_with (first | ((with_reducible refine gate_callee (f := 29) rfl ?_); refine goesL_ (some 37) rfl rfl Try.func29 (by kernel_rfl) rfl #[.agg #[.int .i64 t209, .int .i64 t210, .int .i64 t211, .int .i64 t212, .int .i64 t213], .int .i64 ji20] rfl (by (try simp only [List.map_toArray, List.map_cons, List.map_nil]); first | done | (simp only [hji20]; rfl) | rfl | (simp only [List.length_drop, List.length_take]; rfl)) ?_; (with_reducible refine (impl_PledgeFor.calls t209 t210 t211 t212 t213 ji20 t219 _ A21.out).mono ?_); rintro e w31 ⟨rfl, hb⟩; refine ⟨_, rfl, ?_⟩; have n0_ := Aside0.mk (blk_below (g := gb215) (o := .cells #[.int .i64 t209, .int .i64 t210, .int .i64 t211, .int .i64 t212, .int .i64 t213] 24 (0, 0)) (by (with_reducible repeat (first | refine blk_drewN ?_ _ | refine blk_drew ?_ | refine blk_alloc ?_ _)); exact BK215.out) hb); have n1_ := Aside0.mk (below_step (by repeat (first | (with_reducible first | exact HB.out | apply below_alloc | apply pw_below_drewN | apply below_drew1 | refine below_set ?_ GE215.out) | exact HB.out)) hb); clear BK215; clear HB; have BK215 := n0_; have HB := n1_; clear n0_ n1_; (try clear hb); (try clear hb2); (try clear hk); (try clear hi); have hcz32_0 : w31.cell? ⟨gb215, 0, none⟩ = some (.int .i64 t209) := (blk_cell BK215.out 0).trans rfl; have hcz32_1 : w31.cell? ⟨gb215, 1, none⟩ = some (.int .i64 t210) := (blk_cell BK215.out 1).trans rfl; have hcz32_2 : w31.cell? ⟨gb215, 2, none⟩ = some (.int .i64 t211) := (blk_cell BK215.out 2).trans rfl; have hcz32_3 : w31.cell? ⟨gb215, 3, none⟩ = some (.int .i64 t212) := (blk_cell BK215.out 3).trans rfl; have hcz32_4 : w31.cell? ⟨gb215, 4, none⟩ = some (.int .i64 t213) := (blk_cell BK215.out 4).trans rfl; have hfz32_0 := blk_frozen BK215.out 0; have hfz32_1 := blk_frozen BK215.out 1; have hfz32_2 := blk_frozen BK215.out 2; have hfz32_3 := blk_frozen BK215.out 3; have hfz32_4 := blk_frozen BK215.out 4) | ((with_reducible refine gate_callee (f := 29) rfl ?_); refine goesL_ (some 52) rfl rfl Try.func29 (by kernel_rfl) rfl #[.agg #[.int .i64 t209, .int .i64 t210, .int .i64 t211, .int .i64 t212, .int .i64 ji22], .int .i64 t214] rfl (by (try simp only [List.map_toArray, List.map_cons, List.map_nil]); first | done | (simp only [hji22]; rfl) | rfl | (simp only [List.length_drop, List.length_take]; rfl)) ?_; (with_reducible refine (impl_PledgeFor.calls t209 t210 t211 t212 ji22 t214 t220 _ A23.out).mono ?_); rintro e w33 ⟨rfl, hb⟩; refine ⟨_, rfl, ?_⟩; have n0_ := Aside0.mk (blk_below (g := gb215) (o := .cells #[.int .i64 t209, .int .i64 t210, .int .i64 t211, .int .i64 t212, .int .i64 t213] 24 (0, 0)) (by (with_reducible repeat (first | refine blk_drewN ?_ _ | refine blk_drew ?_ | refine blk_alloc ?_ _)); exact BK215.out) hb); have n1_ := Aside0.mk (below_step (by repeat (first | (with_reducible first | exact HB.out | apply below_alloc | apply pw_below_drewN | apply below_drew1 | refine below_set ?_ GE215.out) | exact HB.out)) hb); clear BK215; clear HB; have BK215 := n0_; have HB := n1_; clear n0_ n1_; (try clear hb); (try clear hb2); (try clear hk); (try clear hi)))
              go_ret
              exact ⟨by first | rfl | (simp [errW_none, errW_some] <;> rfl) | (simp only [← hji20, ← hji22]; first | rfl | (simp [errW_none, errW_some] <;> rfl)) | (simp [*, errW_none, errW_some] <;> rfl), by repeat (first | (with_reducible first | exact HB.out | apply below_alloc | apply pw_below_drewN | apply below_drew1 | refine below_set ?_ GE215.out) | exact HB.out)⟩
          · rw [if_neg c24] at H
            have c24b0 : decide (t219 ≤ t216) = false := decide_eq_false c24
            clear c24
            obtain rfl := Option.some.inj H
            have hcz34_0 : wc.cell? ⟨gb215, 0, none⟩ = some (.int .i64 t209) := (blk_cell BK215.out 0).trans rfl
            have hcz34_1 : wc.cell? ⟨gb215, 1, none⟩ = some (.int .i64 t210) := (blk_cell BK215.out 1).trans rfl
            have hcz34_2 : wc.cell? ⟨gb215, 2, none⟩ = some (.int .i64 t211) := (blk_cell BK215.out 2).trans rfl
            have hcz34_3 : wc.cell? ⟨gb215, 3, none⟩ = some (.int .i64 t212) := (blk_cell BK215.out 3).trans rfl
            have hcz34_4 : wc.cell? ⟨gb215, 4, none⟩ = some (.int .i64 t213) := (blk_cell BK215.out 4).trans rfl
            have hfz34_0 := blk_frozen BK215.out 0
            have hfz34_1 := blk_frozen BK215.out 1
            have hfz34_2 := blk_frozen BK215.out 2
            have hfz34_3 := blk_frozen BK215.out 3
            have hfz34_4 := blk_frozen BK215.out 4
            go_wp2_with (first | ((with_reducible refine gate_callee (f := 29) rfl ?_); refine goesL_ (some 37) rfl rfl Try.func29 (by kernel_rfl) rfl #[.agg #[.int .i64 t209, .int .i64 t210, .int .i64 t211, .int .i64 t212, .int .i64 t213], .int .i64 ji20] rfl (by (try simp only [List.map_toArray, List.map_cons, List.map_nil]); first | done | (simp only [hji20]; rfl) | rfl | (simp only [List.length_drop, List.length_take]; rfl)) ?_; (with_reducible refine (impl_PledgeFor.calls t209 t210 t211 t212 t213 ji20 t219 _ A21.out).mono ?_); rintro e w35 ⟨rfl, hb⟩; refine ⟨_, rfl, ?_⟩; have n0_ := Aside0.mk (blk_below (g := gb215) (o := .cells #[.int .i64 t209, .int .i64 t210, .int .i64 t211, .int .i64 t212, .int .i64 t213] 24 (0, 0)) (by (with_reducible repeat (first | refine blk_drewN ?_ _ | refine blk_drew ?_ | refine blk_alloc ?_ _)); exact BK215.out) hb); have n1_ := Aside0.mk (below_step (by repeat (first | (with_reducible first | exact HB.out | apply below_alloc | apply pw_below_drewN | apply below_drew1 | refine below_set ?_ GE215.out) | exact HB.out)) hb); clear BK215; clear HB; have BK215 := n0_; have HB := n1_; clear n0_ n1_; (try clear hb); (try clear hb2); (try clear hk); (try clear hi); have hcz36_0 : w35.cell? ⟨gb215, 0, none⟩ = some (.int .i64 t209) := (blk_cell BK215.out 0).trans rfl; have hcz36_1 : w35.cell? ⟨gb215, 1, none⟩ = some (.int .i64 t210) := (blk_cell BK215.out 1).trans rfl; have hcz36_2 : w35.cell? ⟨gb215, 2, none⟩ = some (.int .i64 t211) := (blk_cell BK215.out 2).trans rfl; have hcz36_3 : w35.cell? ⟨gb215, 3, none⟩ = some (.int .i64 t212) := (blk_cell BK215.out 3).trans rfl; have hcz36_4 : w35.cell? ⟨gb215, 4, none⟩ = some (.int .i64 t213) := (blk_cell BK215.out 4).trans rfl; have hfz36_0 := blk_frozen BK215.out 0; have hfz36_1 := blk_frozen BK215.out 1; have hfz36_2 := blk_frozen BK215.out 2; have hfz36_3 := blk_frozen BK215.out 3; have hfz36_4 := blk_frozen BK215.out 4) | ((with_reducible refine gate_callee (f := 29) rfl ?_); refine goesL_ (some 52) rfl rfl Try.func29 (by kernel_rfl) rfl #[.agg #[.int .i64 t209, .int .i64 t210, .int .i64 t211, .int .i64 t212, .int .i64 ji22], .int .i64 t214] rfl (by (try simp only [List.map_toArray, List.map_cons, List.map_nil]); first | done | (simp only [hji22]; rfl) | rfl | (simp only [List.length_drop, List.length_take]; rfl)) ?_; (with_reducible refine (impl_PledgeFor.calls t209 t210 t211 t212 ji22 t214 t220 _ A23.out).mono ?_); rintro e w37 ⟨rfl, hb⟩; refine ⟨_, rfl, ?_⟩; have n0_ := Aside0.mk (blk_below (g := gb215) (o := .cells #[.int .i64 t209, .int .i64 t210, .int .i64 t211, .int .i64 t212, .int .i64 t213] 24 (0, 0)) (by (with_reducible repeat (first | refine blk_drewN ?_ _ | refine blk_drew ?_ | refine blk_alloc ?_ _)); exact BK215.out) hb); have n1_ := Aside0.mk (below_step (by repeat (first | (with_reducible first | exact HB.out | apply below_alloc | apply pw_below_drewN | apply below_drew1 | refine below_set ?_ GE215.out) | exact HB.out)) hb); clear BK215; clear HB; have BK215 := n0_; have HB := n1_; clear n0_ n1_; (try clear hb); (try clear hb2); (try clear hk); (try clear hi)))
            go_ret
            exact ⟨by first | rfl | (simp [errW_none, errW_some] <;> rfl) | (simp only [← hji20, ← hji22]; first | rfl | (simp [errW_none, errW_some] <;> rfl)) | (simp [*, errW_none, errW_some] <;> rfl), by repeat (first | (with_reducible first | exact HB.out | apply below_alloc | apply pw_below_drewN | apply below_drew1 | refine below_set ?_ GE215.out) | exact HB.out)⟩

/-- THE ONE PURE STATEMENT of laws_FnPledgeForPrice: yours. -/
def laws_FnPledgeForPrice.Pure : Prop := ∀ (l0 : List Int), l0.length ≤ maxLen → l0.length * 1 ≤ 140737488351232 → (∀ x ∈ l0, (Lit.int .u8 x).wf = true) → ∃ k, laws_FnPledgeForPrice.f k l0 = some true
theorem laws_FnPledgeForPrice.walk (P : laws_FnPledgeForPrice.Pure) (a0 : Option Addr) (len0 cap0 : Nat) (z0 : List Int) (w : World) (w0 : (a0 = none ∧ len0 = 0 ∧ cap0 = 0 ∧ z0 = []) ∨ ∃ x, a0 = some x ∧ len0 ≤ cap0 ∧ cap0 ≤ maxLen ∧ z0.length = cap0 ∧ (∀ i, i < z0.length → w.cell? (x.add i) = some (.int .u8 (z0.getD i 0))) ∧ ∀ n ∈ z0, (Lit.int .u8 n).wf = true) (y0 : len0 * 1 ≤ 140737488351232) :
    Calls Try.prog 10 #[.slice a0 len0 cap0] w fun e w' => e = .returned (.bool true) ∧ Below w.heap.size w w' := by
  obtain ⟨l0, rfl, hr0, hm0, hw0, hc0⟩ := ReadsInt.ofRowC w0
  obtain ⟨k, h⟩ := P l0 hm0 y0 hw0
  refine (laws_FnPledgeForPrice.calls k _ _ l0 true w (Kd.C_of_reads (d := (0 : Int)) (h1 := fun _ => rfl) hr0) hc0 h).mono ?_
  rintro e w' ⟨rfl, hd⟩
  exact ⟨rfl, hd⟩

end Go.Proofs.Ytobkncpmkiaggab.PFnPledgeForPrice

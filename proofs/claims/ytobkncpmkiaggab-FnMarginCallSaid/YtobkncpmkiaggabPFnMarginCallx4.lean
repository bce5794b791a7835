-- PRINTED BY print.sh 35421559b90ae4d0a3588c463048766b98c2df88dd9212a6774a882060cdf62d: not written by this session
import Derived.Test.YtobkncpmkiaggabPFnMarginCallx0
import Derived.Test.YtobkncpmkiaggabPFnMarginCallx1
import Derived.Test.YtobkncpmkiaggabPFnMarginCallx3
namespace Go.Proofs.Ytobkncpmkiaggab.PFnMarginCall
open Go.RowKit Go.Proofs.YtobkncpmkiaggabW.PrintWords Go.Proofs.YtobkncpmkiaggabW.PrintLast Go.Proofs.YtobkncpmkiaggabW.PrintMore
attribute [local go_sem] max2_int min2_int max_two min_two max_three min_three max_four min_four   -- for this text's walks alone
set_option linter.unusedVariables false
set_option linter.unusedSimpArgs false

/-! ### laws_FnMarginCall: function 11 -/
def laws_FnMarginCall.j0 : Nat → Int → Int → Int → Bool → Int → Int → Int → Int → Int → Option (Bool)
  | 0, _, _, _, _, _, _, _, _, _ => none
  | k + 1, x4, x5, x6, x29, x242000, x242001, x242002, x242003, x242004 => if x29 = true then ((spec_MarginCall.f x242000 x242001 x242002 x242003 x242004 x4 x5).bind fun t244 => (some (x6 == t244))) else (if (wrap64 (x5 + x6)) > 1000000000 then (some true) else ((impl_MarginCall.f x242000 x242001 x242002 x242003 x242004 x4 (wrap64 (x5 + x6))).bind fun t245 => (if t245 = 0 then (if x6 = 0 then (some true) else ((impl_PledgeFor.f x242000 x242001 x242002 x242003 x242004 x4).bind fun t246 => (some ((wrap64 (x5 + x6)) == t246)))) else (some false))))
def laws_FnMarginCall.f (k : Nat) (l0 : List Int) : Option (Bool) := if (l0.length : Int) > 1048576 then (some true) else ((spec_DrawMarginCall.f k l0).bind fun bt234 => ((impl_MarginCall.f bt234.1 bt234.2.1 bt234.2.2.1 bt234.2.2.2.1 bt234.2.2.2.2.1 bt234.2.2.2.2.2.1 bt234.2.2.2.2.2.2).bind fun t242 => ((spec_MarginCall.f bt234.1 bt234.2.1 bt234.2.2.1 bt234.2.2.2.1 bt234.2.2.2.2.1 bt234.2.2.2.2.2.1 bt234.2.2.2.2.2.2).bind fun t243 => (if t242 = t243 then (laws_FnMarginCall.j0 k bt234.2.2.2.2.2.1 bt234.2.2.2.2.2.2 t242 (decide (t242 < 0)) bt234.1 bt234.2.1 bt234.2.2.1 bt234.2.2.2.1 bt234.2.2.2.2.1) else (laws_FnMarginCall.j0 k bt234.2.2.2.2.2.1 bt234.2.2.2.2.2.2 t242 true bt234.1 bt234.2.1 bt234.2.2.1 bt234.2.2.2.1 bt234.2.2.2.2.1)))))
theorem laws_FnMarginCall.mono_l : ∀ k, (∀ y0 y1 y2 y3 y4 y5 y6 y7 y8, LeO (laws_FnMarginCall.j0 k y0 y1 y2 y3 y4 y5 y6 y7 y8) (laws_FnMarginCall.j0 (k + 1) y0 y1 y2 y3 y4 y5 y6 y7 y8))
  | 0 => fun _ _ _ _ _ _ _ _ _ r h => by simp [laws_FnMarginCall.j0] at h
  | k + 1 => by
    have ih0 := laws_FnMarginCall.mono_l k
    · intro y0 y1 y2 y3 y4 y5 y6 y7 y8
      unfold laws_FnMarginCall.j0
      repeat' first
      | (with_reducible exact ih0 _ _ _ _ _ _ _ _ _)
      | (with_reducible exact spec_DrawMarginCall.mono _ _)
      | (with_reducible exact LeO.refl _)
      | (with_reducible exact LeO.none _)
      | (with_reducible refine LeO.ite ?_ ?_)
      | (with_reducible refine LeO.bind ?_ (fun _ => ?_))
      | exact ih0 _ _ _ _ _ _ _ _ _
      | exact spec_DrawMarginCall.mono _ _
      | exact LeO.none _
      | refine LeO.ite ?_ ?_
      | refine LeO.bind ?_ (fun _ => ?_)
theorem laws_FnMarginCall.mono : ∀ a0 k, LeO (laws_FnMarginCall.f k a0) (laws_FnMarginCall.f (k + 1) a0) := by
  intro a0 k
  have ih0 := laws_FnMarginCall.mono_l k
  unfold laws_FnMarginCall.f
  repeat' first
      | (with_reducible exact ih0 _ _ _ _ _ _ _ _ _)
      | (with_reducible exact spec_DrawMarginCall.mono _ _)
      | (with_reducible exact LeO.refl _)
      | (with_reducible exact LeO.none _)
      | (with_reducible refine LeO.ite ?_ ?_)
      | (with_reducible refine LeO.bind ?_ (fun _ => ?_))
      | exact ih0 _ _ _ _ _ _ _ _ _
      | exact spec_DrawMarginCall.mono _ _
      | exact LeO.none _
      | refine LeO.ite ?_ ?_
      | refine LeO.bind ?_ (fun _ => ?_)
set_option maxHeartbeats 8000000 in
set_option maxRecDepth 100000 in
theorem laws_FnMarginCall.calls (k : Nat) (A0 : Option Addr) (c0 : Nat) (l0 : List Int) (r : Bool) (w : World) (hr0 : Kd.C (Kd.int .u8) w A0 l0.length l0) (hc0 : l0.length ≤ c0) (h : laws_FnMarginCall.f k l0 = some r) :
    Calls Try.prog 11 #[.slice A0 l0.length c0] w fun e w' => e = .returned (.bool r) ∧ Below w.heap.size w w' := by
  have hu24 := Try.underlying24
  have HR0 := Aside0.mk hr0
  have HC0 := Aside0.mk hc0
  clear hr0 hc0
  have HB := Aside0.mk (Below.refl w.heap.size w)
  have H : (if (l0.length : Int) > 1048576 then (some true) else ((spec_DrawMarginCall.f k l0).bind fun bt234 => ((impl_MarginCall.f bt234.1 bt234.2.1 bt234.2.2.1 bt234.2.2.2.1 bt234.2.2.2.2.1 bt234.2.2.2.2.2.1 bt234.2.2.2.2.2.2).bind fun t242 => ((spec_MarginCall.f bt234.1 bt234.2.1 bt234.2.2.1 bt234.2.2.2.1 bt234.2.2.2.2.1 bt234.2.2.2.2.2.1 bt234.2.2.2.2.2.2).bind fun t243 => (if t242 = t243 then (laws_FnMarginCall.j0 k bt234.2.2.2.2.2.1 bt234.2.2.2.2.2.2 t242 (decide (t242 < 0)) bt234.1 bt234.2.1 bt234.2.2.1 bt234.2.2.2.1 bt234.2.2.2.2.1) else (laws_FnMarginCall.j0 k bt234.2.2.2.2.2.1 bt234.2.2.2.2.2.2 t242 true bt234.1 bt234.2.1 bt234.2.2.1 bt234.2.2.2.1 bt234.2.2.2.2.1)))))) = some r := h
  clear h
  by_cases c2 : (l0.length : Int) > 1048576
  · rw [if_pos c2] at H
    have c2b0 : decide (1048576 < (l0.length : Int)) = true := decide_eq_true c2
    have c2b1 : decide (1048576 < l0.length) = true := decide_eq_true (by omega)
    clear c2
    obtain rfl := Option.some.inj H
    go_enter Try.func11, Try.ntmps11
    go_wp2
    go_ret
    exact ⟨by first | rfl | (simp [errW_none, errW_some] <;> rfl) | (simp [*, errW_none, errW_some] <;> rfl), by repeat (first | (with_reducible first | exact HB.out | apply below_alloc | apply pw_below_drewN | apply below_drew1) | exact HB.out)⟩
  · rw [if_neg c2] at H
    have c2b0 : decide (1048576 < (l0.length : Int)) = false := decide_eq_false c2
    have c2b1 : decide (1048576 < l0.length) = false := decide_eq_false (by omega)
    clear c2
    replace H := Option.bind_eq_some_iff.mp H
    obtain ⟨⟨t234, t235, t236, t237, t238, t239, t240⟩, A30, H⟩ := H
    replace H : ((impl_MarginCall.f t234 t235 t236 t237 t238 t239 t240).bind fun t242 => ((spec_MarginCall.f t234 t235 t236 t237 t238 t239 t240).bind fun t243 => (if t242 = t243 then (laws_FnMarginCall.j0 k t239 t240 t242 (decide (t242 < 0)) t234 t235 t236 t237 t238) else (laws_FnMarginCall.j0 k t239 t240 t242 true t234 t235 t236 t237 t238)))) = some r := H
    have A3 := Aside0.mk A30
    clear A30
    replace H := Option.bind_eq_some_iff.mp H
    obtain ⟨t242, A40, H⟩ := H
    replace H : ((spec_MarginCall.f t234 t235 t236 t237 t238 t239 t240).bind fun t243 => (if t242 = t243 then (laws_FnMarginCall.j0 k t239 t240 t242 (decide (t242 < 0)) t234 t235 t236 t237 t238) else (laws_FnMarginCall.j0 k t239 t240 t242 true t234 t235 t236 t237 t238))) = some r := H
    have A4 := Aside0.mk A40
    clear A40
    have HC5 := Aside0.mk H
    clear H
    go_enter Try.func11, Try.ntmps11
    go_upto_region 5 with (first | ((with_reducible refine gate_callee (f := 31) rfl ?_); refine goesL_ (some 12) rfl rfl Try.func31 (by kernel_rfl) rfl #[.slice A0 l0.length c0] rfl (by (try simp only [List.map_toArray, List.map_cons, List.map_nil]); first | done | rfl | (simp only [List.length_drop, List.length_take]; rfl)) ?_; (with_reducible refine (spec_DrawMarginCall.calls k _ _ l0 t234 t235 t236 t237 t238 t239 t240 _ ?side1 ?side2 A3.out).mono ?_); (case side1 => repeat (first | exact HR0.out | (with_reducible refine Kd.C_alloc ?_ _) | (with_reducible refine Kd.C_drewN ?_ _) | (with_reducible refine Kd.C_drew ?_))); (case side2 => exact HC0.out); rintro e w6 ⟨rfl, hb⟩; refine ⟨_, rfl, ?_⟩; have n0_ := Aside0.mk (below_step (by repeat (first | (with_reducible first | exact HB.out | apply below_alloc | apply pw_below_drewN | apply below_drew1) | exact HB.out)) hb); clear HB; have HB := n0_; clear n0_; (try clear hb); (try clear hb2); (try clear hk); (try clear hi)) | ((with_reducible refine gate_dst (N := 3) rfl ?_); refine box_event ?hg (N := 3) ?hd (cs := #[.int .i64 0, .int .i64 0, .int .i64 0, .int .i64 0, .int .i64 0]) (t := 24) ?hr ?_; (case hd => rfl); (case hg => rfl); (case hr => first | (go_simp; done) | (go_simp; rfl)); intro gb241 hg w7 hbox hb; have n0_ := Aside0.mk (below_step (by repeat (first | (with_reducible first | exact HB.out | apply below_alloc | apply pw_below_drewN | apply below_drew1) | exact HB.out)) hb); have n1_ := Aside0.mk (hbox); have n2_ := Aside0.mk ((by rw [hg]; exact (below_size (by repeat (first | (with_reducible first | exact HB.out | apply below_alloc | apply pw_below_drewN | apply below_drew1) | exact HB.out))) : w.heap.size ≤ gb241)); have n3_ := Aside0.mk ((by rw [hg]; exact (below_size (by repeat (first | (with_reducible first | exact HB.out | apply below_alloc | apply pw_below_drewN | apply below_drew1) | exact HB.out))) : w.heap.size ≤ gb241)); clear HB; have HB := n0_; have BK241 := n1_; have GW241 := n2_; have GE241 := n3_; clear n0_ n1_ n2_ n3_; clear hb hbox hg; have hcz8_0 : w7.cell? ⟨gb241, 0, none⟩ = some (.int .i64 0) := (blk_cell BK241.out 0).trans rfl; have hcz8_1 : w7.cell? ⟨gb241, 1, none⟩ = some (.int .i64 0) := (blk_cell BK241.out 1).trans rfl; have hcz8_2 : w7.cell? ⟨gb241, 2, none⟩ = some (.int .i64 0) := (blk_cell BK241.out 2).trans rfl; have hcz8_3 : w7.cell? ⟨gb241, 3, none⟩ = some (.int .i64 0) := (blk_cell BK241.out 3).trans rfl; have hcz8_4 : w7.cell? ⟨gb241, 4, none⟩ = some (.int .i64 0) := (blk_cell BK241.out 4).trans rfl; have hfz8_0 := blk_frozen BK241.out 0; have hfz8_1 := blk_frozen BK241.out 1; have hfz8_2 := blk_frozen BK241.out 2; have hfz8_3 := blk_frozen BK241.out 3; have hfz8_4 := blk_frozen BK241.out 4) | ((with_reducible refine gate_callee (f := 32) rfl ?_); refine goesL_ (some 19) rfl rfl Try.func32 (by kernel_rfl) rfl #[.agg #[.int .i64 t234, .int .i64 t235, .int .i64 t236, .int .i64 t237, .int .i64 t238], .int .i64 t239, .int .i64 t240] rfl (by (try simp only [List.map_toArray, List.map_cons, List.map_nil]); first | done | rfl | (simp only [List.length_drop, List.length_take]; rfl)) ?_; (with_reducible refine (impl_MarginCall.calls t234 t235 t236 t237 t238 t239 t240 t242 _ A4.out).mono ?_); rintro e w9 ⟨rfl, hb⟩; refine ⟨_, rfl, ?_⟩; have n0_ := Aside0.mk (blk_below (g := gb241) (o := .cells #[.int .i64 t234, .int .i64 t235, .int .i64 t236, .int .i64 t237, .int .i64 t238] 24 (0, 0)) (by (with_reducible repeat (first | refine blk_drewN ?_ _ | refine blk_drew ?_ | refine blk_alloc ?_ _)); refine blk_put (cs := #[.int .i64 t234, .int .i64 t235, .int .i64 t236, .int .i64 t237, .int .i64 0]) ?_ 4 _ rfl; (with_reducible repeat (first | refine blk_drewN ?_ _ | refine blk_drew ?_ | refine blk_alloc ?_ _)); refine blk_put (cs := #[.int .i64 t234, .int .i64 t235, .int .i64 t236, .int .i64 0, .int .i64 0]) ?_ 3 _ rfl; (with_reducible repeat (first | refine blk_drewN ?_ _ | refine blk_drew ?_ | refine blk_alloc ?_ _)); refine blk_put (cs := #[.int .i64 t234, .int .i64 t235, .int .i64 0, .int .i64 0, .int .i64 0]) ?_ 2 _ rfl; (with_reducible repeat (first | refine blk_drewN ?_ _ | refine blk_drew ?_ | refine blk_alloc ?_ _)); refine blk_put (cs := #[.int .i64 t234, .int .i64 0, .int .i64 0, .int .i64 0, .int .i64 0]) ?_ 1 _ rfl; (with_reducible repeat (first | refine blk_drewN ?_ _ | refine blk_drew ?_ | refine blk_alloc ?_ _)); refine blk_put (cs := #[.int .i64 0, .int .i64 0, .int .i64 0, .int .i64 0, .int .i64 0]) ?_ 0 _ rfl; (with_reducible repeat (first | refine blk_drewN ?_ _ | refine blk_drew ?_ | refine blk_alloc ?_ _)); exact BK241.out) hb); have n1_ := Aside0.mk (below_step (by repeat (first | (with_reducible first | exact HB.out | apply below_alloc | apply pw_below_drewN | apply below_drew1 | refine below_set ?_ GE241.out) | exact HB.out)) hb); clear BK241; clear HB; have BK241 := n0_; have HB := n1_; clear n0_ n1_; (try clear hb); (try clear hb2); (try clear hk); (try clear hi)))
    (try simp only [Act.put, List.setIfInBounds_toArray, List.set_cons_zero, List.set_cons_succ])
    go_cut [29] (fun v29 wc => ∃ (kq : Nat) (x29_4 : Bool), v29 = .bool x29_4 ∧ Aside0 (laws_FnMarginCall.j0 kq t239 t240 t242 x29_4 t234 t235 t236 t237 t238 = some r) ∧ Aside0 (kq ≤ k) ∧ Aside0 (wc.heap[gb241]? = some (.cells #[.int .i64 t234, .int .i64 t235, .int .i64 t236, .int .i64 t237, .int .i64 t238] 24 (0, 0))) ∧ Aside0 (Below w.heap.size w wc))
    case first =>
      have H := HC5.out
      clear HC5
      replace H := Option.bind_eq_some_iff.mp H
      obtain ⟨t243, A100, H⟩ := H
      replace H : (if t242 = t243 then (laws_FnMarginCall.j0 k t239 t240 t242 (decide (t242 < 0)) t234 t235 t236 t237 t238) else (laws_FnMarginCall.j0 k t239 t240 t242 true t234 t235 t236 t237 t238)) = some r := H
      have A10 := Aside0.mk A100
      clear A100
      by_cases c11 : t242 = t243
      · rw [if_pos c11] at H
        have c11b0 : (t242 == t243) = true := beq_iff_eq.mpr c11
        have c11b1 : (t242 != t243) = false := bne_eq_false_iff_eq.mpr c11
        clear c11
        (first | rw [c11b0] | (simp only [i64_w, i32_w]; rw [c11b0]) | skip)
        have H' := Aside0.mk H
        clear H
        have hcz12_0 : w9.cell? ⟨gb241, 0, none⟩ = some (.int .i64 t234) := (blk_cell BK241.out 0).trans rfl
        have hcz12_1 : w9.cell? ⟨gb241, 1, none⟩ = some (.int .i64 t235) := (blk_cell BK241.out 1).trans rfl
        have hcz12_2 : w9.cell? ⟨gb241, 2, none⟩ = some (.int .i64 t236) := (blk_cell BK241.out 2).trans rfl
        have hcz12_3 : w9.cell? ⟨gb241, 3, none⟩ = some (.int .i64 t237) := (blk_cell BK241.out 3).trans rfl
        have hcz12_4 : w9.cell? ⟨gb241, 4, none⟩ = some (.int .i64 t238) := (blk_cell BK241.out 4).trans rfl
        have hfz12_0 := blk_frozen BK241.out 0
        have hfz12_1 := blk_frozen BK241.out 1
        have hfz12_2 := blk_frozen BK241.out 2
        have hfz12_3 := blk_frozen BK241.out 3
        have hfz12_4 := blk_frozen BK241.out 4
        go_wp2_with (first | ((with_reducible refine gate_callee (f := 33) rfl ?_); refine goesL_ (some 24) rfl rfl Try.func33 (by kernel_rfl) rfl #[.agg #[.int .i64 t234, .int .i64 t235, .int .i64 t236, .int .i64 t237, .int .i64 t238], .int .i64 t239, .int .i64 t240] rfl (by (try simp only [List.map_toArray, List.map_cons, List.map_nil]); first | done | rfl | (simp only [List.length_drop, List.length_take]; rfl)) ?_; (with_reducible refine (spec_MarginCall.calls t234 t235 t236 t237 t238 t239 t240 t243 _ A10.out).mono ?_); rintro e w13 ⟨rfl, hb⟩; refine ⟨_, rfl, ?_⟩; have n0_ := Aside0.mk (blk_below (g := gb241) (o := .cells #[.int .i64 t234, .int .i64 t235, .int .i64 t236, .int .i64 t237, .int .i64 t238] 24 (0, 0)) (by (with_reducible repeat (first | refine blk_drewN ?_ _ | refine blk_drew ?_ | refine blk_alloc ?_ _)); exact BK241.out) hb); have n1_ := Aside0.mk (below_step (by repeat (first | (with_reducible first | exact HB.out | apply below_alloc | apply pw_below_drewN | apply below_drew1 | refine below_set ?_ GE241.out) | exact HB.out)) hb); clear BK241; clear HB; have BK241 := n0_; have HB := n1_; clear n0_ n1_; (try clear hb); (try clear hb2); (try clear hk); (try clear hi)))
        go_meet
        case rel => exact ⟨_, (decide (t242 < 0)), (by first | rfl | (simp; done) | (simp [*]; done)), H', ⟨by first | omega | exact Nat.le_refl _⟩, ⟨by (with_reducible repeat (first | refine blk_drewN ?_ _ | refine blk_drew ?_ | refine blk_alloc ?_ _)); exact BK241.out⟩, ⟨by repeat (first | (with_reducible first | exact HB.out | apply below_alloc | apply pw_below_drewN | apply below_drew1 | refine below_set ?_ GE241.out) | exact HB.out)⟩⟩
      · rw [if_neg c11] at H
        have c11b0 : (t242 == t243) = false := beq_eq_false_iff_ne.mpr c11
        have c11b1 : (t242 != t243) = true := bne_iff_ne.mpr c11
        (first | rw [c11b0] | (simp only [i64_w, i32_w]; rw [c11b0]) | skip)
        have H' := Aside0.mk H
        clear H
        have hcz14_0 : w9.cell? ⟨gb241, 0, none⟩ = some (.int .i64 t234) := (blk_cell BK241.out 0).trans rfl
        have hcz14_1 : w9.cell? ⟨gb241, 1, none⟩ = some (.int .i64 t235) := (blk_cell BK241.out 1).trans rfl
        have hcz14_2 : w9.cell? ⟨gb241, 2, none⟩ = some (.int .i64 t236) := (blk_cell BK241.out 2).trans rfl
        have hcz14_3 : w9.cell? ⟨gb241, 3, none⟩ = some (.int .i64 t237) := (blk_cell BK241.out 3).trans rfl
        have hcz14_4 : w9.cell? ⟨gb241, 4, none⟩ = some (.int .i64 t238) := (blk_cell BK241.out 4).trans rfl
        have hfz14_0 := blk_frozen BK241.out 0
        have hfz14_1 := blk_frozen BK241.out 1
        have hfz14_2 := blk_frozen BK241.out 2
        have hfz14_3 := blk_frozen BK241.out 3
        have hfz14_4 := blk_frozen BK241.out 4
        go_wp2_with (first | ((with_reducible refine gate_callee (f := 33) rfl ?_); refine goesL_ (some 24) rfl rfl Try.func33 (by kernel_rfl) rfl #[.agg #[.int .i64 t234, .int .i64 t235, .int .i64 t236, .int .i64 t237, .int .i64 t238], .int .i64 t239, .int .i64 t240] rfl (by (try simp only [List.map_toArray, List.map_cons, List.map_nil]); first | done | rfl | (simp only [List.length_drop, List.length_take]; rfl)) ?_; (with_reducible refine (spec_MarginCall.calls t234 t235 t236 t237 t238 t239 t240 t243 _ A10.out).mono ?_); rintro e w15 ⟨rfl, hb⟩; refine ⟨_, rfl, ?_⟩; have n0_ := Aside0.mk (blk_below (g := gb241) (o := .cells #[.int .i64 t234, .int .i64 t235, .int .i64 t236, .int .i64 t237, .int .i64 t238] 24 (0, 0)) (by (with_reducible repeat (first | refine blk_drewN ?_ _ | refine blk_drew ?_ | refine blk_alloc ?_ _)); exact BK241.out) hb); have n1_ := Aside0.mk (below_step (by repeat (first | (with_reducible first | exact HB.out | apply below_alloc | apply pw_below_drewN | apply below_drew1 | refine below_set ?_ GE241.out) | exact HB.out)) hb); clear BK241; clear HB; have BK241 := n0_; have HB := n1_; clear n0_ n1_; (try clear hb); (try clear hb2); (try clear hk); (try clear hi)))
        go_meet
        case rel => exact ⟨_, (true), (by first | rfl | (simp; done) | (simp [*]; done)), H', ⟨by first | omega | exact Nat.le_refl _⟩, ⟨by (with_reducible repeat (first | refine blk_drewN ?_ _ | refine blk_drew ?_ | refine blk_alloc ?_ _)); exact BK241.out⟩, ⟨by repeat (first | (with_reducible first | exact HB.out | apply below_alloc | apply pw_below_drewN | apply below_drew1 | refine below_set ?_ GE241.out) | exact HB.out)⟩⟩
    case rest =>
      clear HC5
      try clear c1
      try clear c2
      try clear c2b0
      try clear c2b1
      try clear p2
      try clear c3
      try clear c11
      try clear c11b0
      try clear c11b1
      try clear hcz12_0
      try clear hcz12_1
      try clear hcz12_2
      try clear hcz12_3
      try clear hcz12_4
      try clear hcz14_0
      try clear hcz14_1
      try clear hcz14_2
      try clear hcz14_3
      try clear hcz14_4
      try clear hcz8_0
      try clear hcz8_1
      try clear hcz8_2
      try clear hcz8_3
      try clear hcz8_4
      try clear hfz12_0
      try clear hfz12_1
      try clear hfz12_2
      try clear hfz12_3
      try clear hfz12_4
      try clear hfz14_0
      try clear hfz14_1
      try clear hfz14_2
      try clear hfz14_3
      try clear hfz14_4
      try clear hfz8_0
      try clear hfz8_1
      try clear hfz8_2
      try clear hfz8_3
      try clear hfz8_4
      obtain ⟨kq, x29_4, rfl, HA, HJ4, BK241, HB⟩ := hcut
      cases kq with
      | zero => exact absurd HA.out (by simp [laws_FnMarginCall.j0])
      | succ kj4 =>
        have H := HA.out
        clear HA
        simp only [laws_FnMarginCall.j0] at H
        by_cases c16 : x29_4 = true
        · subst c16
          have H1 : ((spec_MarginCall.f t234 t235 t236 t237 t238 t239 t240).bind fun t244 => (some (t242 == t244))) = some r := by rw [if_pos rfl] at H; exact H
          clear H
          have H := H1
          clear H1
          replace H := Option.bind_eq_some_iff.mp H
          obtain ⟨t244, A170, H⟩ := H
          replace H : (some (t242 == t244)) = some r := H
          have A17 := Aside0.mk A170
          clear A170
          obtain rfl := Option.some.inj H
          have hcz18_0 : wc.cell? ⟨gb241, 0, none⟩ = some (.int .i64 t234) := (blk_cell BK241.out 0).trans rfl
          have hcz18_1 : wc.cell? ⟨gb241, 1, none⟩ = some (.int .i64 t235) := (blk_cell BK241.out 1).trans rfl
          have hcz18_2 : wc.cell? ⟨gb241, 2, none⟩ = some (.int .i64 t236) := (blk_cell BK241.out 2).trans rfl
          have hcz18_3 : wc.cell? ⟨gb241, 3, none⟩ = some (.int .i64 t237) := (blk_cell BK241.out 3).trans rfl
          have hcz18_4 : wc.cell? ⟨gb241, 4, none⟩ = some (.int .i64 t238) := (blk_cell BK241.out 4).trans rfl
          have hfz18_0 := blk_frozen BK241.out 0
          have hfz18_1 := blk_frozen BK241.out 1
          have hfz18_2 := blk_frozen BK241.out 2
          have hfz18_3 := blk_frozen BK241.out 3
          have hfz18_4 := blk_frozen BK241.out 4
          go_wp2_with (first | ((with_reducible refine gate_callee (f := 33) rfl ?_); refine goesL_ (some 34) rfl rfl Try.func33 (by kernel_rfl) rfl #[.agg #[.int .i64 t234, .int .i64 t235, .int .i64 t236, .int .i64 t237, .int .i64 t238], .int .i64 t239, .int .i64 t240] rfl (by (try simp only [List.map_toArray, List.map_cons, List.map_nil]); first | done | rfl | (simp only [List.length_drop, List.length_take]; rfl)) ?_; (with_reducible refine (spec_MarginCall.calls t234 t235 t236 t237 t238 t239 t240 t244 _ A17.out).mono ?_); rintro e w19 ⟨rfl, hb⟩; refine ⟨_, rfl, ?_⟩; have n0_ := Aside0.mk (blk_below (g := gb241) (o := .cells #[.int .i64 t234, .int .i64 t235, .int .i64 t236, .int .i64 t237, .int .i64 t238] 24 (0, 0)) (by (with_reducible repeat (first | refine blk_drewN ?_ _ | refine blk_drew ?_ | refine blk_alloc ?_ _)); exact BK241.out) hb); have n1_ := Aside0.mk (below_step (by repeat (first | (with_reducible first | exact HB.out | apply below_alloc | apply pw_below_drewN | apply below_drew1 | refine below_set ?_ GE241.out) | exact HB.out)) hb); clear BK241; clear HB; have BK241 := n0_; have HB := n1_; clear n0_ n1_; (try clear hb); (try clear hb2); (try clear hk); (try clear hi)))
          go_ret
          exact ⟨by first | rfl | (simp [errW_none, errW_some] <;> rfl) | (simp [*, errW_none, errW_some] <;> rfl), by repeat (first | (with_reducible first | exact HB.out | apply below_alloc | apply pw_below_drewN | apply below_drew1 | refine below_set ?_ GE241.out) | exact HB.out)⟩
        · replace c16 := Bool.eq_false_iff.mpr c16
          subst c16
          have H1 : (if (wrap64 (t240 + t242)) > 1000000000 then (some true) else ((impl_MarginCall.f t234 t235 t236 t237 t238 t239 (wrap64 (t240 + t242))).bind fun t245 => (if t245 = 0 then (if t242 = 0 then (some true) else ((impl_PledgeFor.f t234 t235 t236 t237 t238 t239).bind fun t246 => (some ((wrap64 (t240 + t242)) == t246)))) else (some false)))) = some r := by rw [if_neg (show ¬ (false = true) by decide)] at H; exact H
          clear H
          have H := H1
          clear H1
          by_cases c20 : (wrap64 (t240 + t242)) > 1000000000
          · rw [if_pos c20] at H
            have c20b0 : decide (1000000000 < (wrap64 (t240 + t242))) = true := decide_eq_true c20
            clear c20
            obtain rfl := Option.some.inj H
            go_wp2
            go_ret
            exact ⟨by first | rfl | (simp [errW_none, errW_some] <;> rfl) | (simp [*, errW_none, errW_some] <;> rfl), by repeat (first | (with_reducible first | exact HB.out | apply below_alloc | apply pw_below_drewN | apply below_drew1 | refine below_set ?_ GE241.out) | exact HB.out)⟩
          · rw [if_neg c20] at H
            have c20b0 : decide (1000000000 < (wrap64 (t240 + t242))) = false := decide_eq_false c20
            clear c20
            replace H := Option.bind_eq_some_iff.mp H
            obtain ⟨t245, A210, H⟩ := H
            replace H : (if t245 = 0 then (if t242 = 0 then (some true) else ((impl_PledgeFor.f t234 t235 t236 t237 t238 t239).bind fun t246 => (some ((wrap64 (t240 + t242)) == t246)))) else (some false)) = some r := H
            have A21 := Aside0.mk A210
            clear A210
            by_cases c22 : t245 = 0
            · rw [if_pos c22] at H
              have c22b0 : (t245 == 0) = true := beq_iff_eq.mpr c22
              have c22b1 : (t245 != 0) = false := bne_eq_false_iff_eq.mpr c22
              clear c22
              by_cases c23 : t242 = 0
              · rw [if_pos c23] at H
                have c23b0 : (t242 == 0) = true := beq_iff_eq.mpr c23
                have c23b1 : (t242 != 0) = false := bne_eq_false_iff_eq.mpr c23
                clear c23
                obtain rfl := Option.some.inj H
                have hcz24_0 : wc.cell? ⟨gb241, 0, none⟩ = some (.int .i64 t234) := (blk_cell BK241.out 0).trans rfl
                have hcz24_1 : wc.cell? ⟨gb241, 1, none⟩ = some (.int .i64 t235) := (blk_cell BK241.out 1).trans rfl
                have hcz24_2 : wc.cell? ⟨gb241, 2, none⟩ = some (.int .i64 t236) := (blk_cell BK241.out 2).trans rfl
                have hcz24_3 : wc.cell? ⟨gb241, 3, none⟩ = some (.int .i64 t237) := (blk_cell BK241.out 3).trans rfl
                have hcz24_4 : wc.cell? ⟨gb241, 4, none⟩ = some (.int .i64 t238) := (blk_cell BK241.out 4).trans rfl
                have hfz24_0 := blk_frozen BK241.out 0
                have hfz24_1 := blk_frozen BK241.out 1
                have hfz24_2 := blk_frozen BK241.out 2
                have hfz24_3 := blk_frozen BK241.out 3
                have hfz24_4 := blk_frozen BK241.out 4
                go_wp2_with (first | (go_at_call 32; (with_reducible refine (impl_MarginCall.calls t234 t235 t236 t237 t238 t239 (wrap64 (t240 + t242)) t245 _ A21.out).mono ?_); rintro e w25 ⟨rfl, hb⟩; have n0_ := Aside0.mk (blk_below (g := gb241) (o := .cells #[.int .i64 t234, .int .i64 t235, .int .i64 t236, .int .i64 t237, .int .i64 t238] 24 (0, 0)) (by (with_reducible repeat (first | refine blk_drewN ?_ _ | refine blk_drew ?_ | refine blk_alloc ?_ _)); exact BK241.out) hb); have n1_ := Aside0.mk (below_step (by repeat (first | (with_reducible first | exact HB.out | apply below_alloc | apply pw_below_drewN | apply below_drew1 | refine below_set ?_ GE241.out) | exact HB.out)) hb); clear BK241; clear HB; have BK241 := n0_; have HB := n1_; clear n0_ n1_; (try clear hb); (try clear hb2); (try clear hk); (try clear hi)))
                go_ret
                exact ⟨by first | rfl | (simp [errW_none, errW_some] <;> rfl) | (simp [*, errW_none, errW_some] <;> rfl), by repeat (first | (with_reducible first | exact HB.out | apply below_alloc | apply pw_below_drewN | apply below_drew1 | refine below_set ?_ GE241.out) | exact HB.out)⟩
              · rw [if_neg c23] at H
                have c23b0 : (t242 == 0) = false := beq_eq_false_iff_ne.mpr c23
                have c23b1 : (t242 != 0) = true := bne_iff_ne.mpr c23
                replace H := Option.bind_eq_some_iff.mp H
                obtain ⟨t246, A260, H⟩ := H
                replace H : (some ((wrap64 (t240 + t242)) == t246)) = some r := H
                have A26 := Aside0.mk A260
                clear A260
                obtain rfl := Option.some.inj H
                have hcz27_0 : wc.cell? ⟨gb241, 0, none⟩ = some (.int .i64 t234) := (blk_cell BK241.out 0).trans rfl
                have hcz27_1 : wc.cell? ⟨gb241, 1, none⟩ = some (.int .i64 t235) := (blk_cell BK241.out 1).trans rfl
                have hcz27_2 : wc.cell? ⟨gb241, 2, none⟩ = some (.int .i64 t236) := (blk_cell BK241.out 2).trans rfl
                have hcz27_3 : wc.cell? ⟨gb241, 3, none⟩ = some (.int .i64 t237) := (blk_cell BK241.out 3).trans rfl
                have hcz27_4 : wc.cell? ⟨gb241, 4, none⟩ = some (.int .i64 t238) := (blk_cell BK241.out 4).trans rfl
                have hfz27_0 := blk_frozen BK241.out 0
                have hfz27_1 := blk_frozen BK241.out 1
                have hfz27_2 := blk_frozen BK241.out 2
                have hfz27_3 := blk_frozen BK241.out 3
                have hfz27_4 := blk_frozen BK241.out 4
                go_wp2_with (first | (go_at_call 32; (with_reducible refine (impl_MarginCall.calls t234 t235 t236 t237 t238 t239 (wrap64 (t240 + t242)) t245 _ A21.out).mono ?_); rintro e w28 ⟨rfl, hb⟩; have n0_ := Aside0.mk (blk_below (g := gb241) (o := .cells #[.int .i64 t234, .int .i64 t235, .int .i64 t236, .int .i64 t237, .int .i64 t238] 24 (0, 0)) (by (with_reducible repeat (first | refine blk_drewN ?_ _ | refine blk_drew ?_ | refine blk_alloc ?_ _)); exact BK241.out) hb); have n1_ := Aside0.mk (below_step (by repeat (first | (with_reducible first | exact HB.out | apply below_alloc | apply pw_below_drewN | apply below_drew1 | refine below_set ?_ GE241.out) | exact HB.out)) hb); clear BK241; clear HB; have BK241 := n0_; have HB := n1_; clear n0_ n1_; (try clear hb); (try clear hb2); (try clear hk); (try clear hi); have hcz29_0 : w28.cell? ⟨gb241, 0, none⟩ = some (.int .i64 t234) := (blk_cell BK241.out 0).trans rfl; have hcz29_1 : w28.cell? ⟨gb241, 1, none⟩ = some (.int .i64 t235) := (blk_cell BK241.out 1).trans rfl; have hcz29_2 : w28.cell? ⟨gb241, 2, none⟩ = some (.int .i64 t236) := (blk_cell BK241.out 2).trans rfl; have hcz29_3 : w28.cell? ⟨gb241, 3, none⟩ = some (.int .i64 t237) := (blk_cell BK241.out 3).trans rfl; have hcz29_4 : w28.cell? ⟨gb241, 4, none⟩ = some (.int .i64 t238) := (blk_cell BK241.out 4).trans rfl; have hfz29_0 := blk_frozen BK241.out 0; have hfz29_1 := blk_frozen BK241.out 1; have hfz29_2 := blk_frozen BK241.out 2; have hfz29_3 := blk_frozen BK241.out 3; have hfz29_4 := blk_frozen BK241.out 4) | (go_at_call 29; (with_reducible refine (impl_PledgeFor.calls t234 t235 t236 t237 t238 t239 t246 _ A26.out).mono ?_); rintro e w30 ⟨rfl, hb⟩; have n0_ := Aside0.mk (blk_below (g := gb241) (o := .cells #[.int .i64 t234, .int .i64 t235, .int .i64 t236, .int .i64 t237, .int .i64 t238] 24 (0, 0)) (by (with_reducible repeat (first | refine blk_drewN ?_ _ | refine blk_drew ?_ | refine blk_alloc ?_ _)); exact BK241.out) hb); have n1_ := Aside0.mk (below_step (by repeat (first | (with_reducible first | exact HB.out | apply below_alloc | apply pw_below_drewN | apply below_drew1 | refine below_set ?_ GE241.out) | exact HB.out)) hb); clear BK241; clear HB; have BK241 := n0_; have HB := n1_; clear n0_ n1_; (try clear hb); (try clear hb2); (try clear hk); (try clear hi)))
                go_ret
                exact ⟨by first | rfl | (simp [errW_none, errW_some] <;> rfl) | (simp [*, errW_none, errW_some] <;> rfl), by repeat (first | (with_reducible first | exact HB.out | apply below_alloc | apply pw_below_drewN | apply below_drew1 | refine below_set ?_ GE241.out) | exact HB.out)⟩
            · rw [if_neg c22] at H
              have c22b0 : (t245 == 0) = false := beq_eq_false_iff_ne.mpr c22
              have c22b1 : (t245 != 0) = true := bne_iff_ne.mpr c22
              obtain rfl := Option.some.inj H
              have hcz31_0 : wc.cell? ⟨gb241, 0, none⟩ = some (.int .i64 t234) := (blk_cell BK241.out 0).trans rfl
              have hcz31_1 : wc.cell? ⟨gb241, 1, none⟩ = some (.int .i64 t235) := (blk_cell BK241.out 1).trans rfl
              have hcz31_2 : wc.cell? ⟨gb241, 2, none⟩ = some (.int .i64 t236) := (blk_cell BK241.out 2).trans rfl
              have hcz31_3 : wc.cell? ⟨gb241, 3, none⟩ = some (.int .i64 t237) := (blk_cell BK241.out 3).trans rfl
              have hcz31_4 : wc.cell? ⟨gb241, 4, none⟩ = some (.int .i64 t238) := (blk_cell BK241.out 4).trans rfl
              have hfz31_0 := blk_frozen BK241.out 0
              have hfz31_1 := blk_frozen BK241.out 1
              have hfz31_2 := blk_frozen BK241.out 2
              have hfz31_3 := blk_frozen BK241.out 3
              have hfz31_4 := blk_frozen BK241.out 4
              go_wp2_with (first | (go_at_call 32; (with_reducible refine (impl_MarginCall.calls t234 t235 t236 t237 t238 t239 (wrap64 (t240 + t242)) t245 _ A21.out).mono ?_); rintro e w32 ⟨rfl, hb⟩; have n0_ := Aside0.mk (blk_below (g := gb241) (o := .cells #[.int .i64 t234, .int .i64 t235, .int .i64 t236, .int .i64 t237, .int .i64 t238] 24 (0, 0)) (by (with_reducible repeat (first | refine blk_drewN ?_ _ | refine blk_drew ?_ | refine blk_alloc ?_ _)); exact BK241.out) hb); have n1_ := Aside0.mk (below_step (by repeat (first | (with_reducible first | exact HB.out | apply below_alloc | apply pw_below_drewN | apply below_drew1 | refine below_set ?_ GE241.out) | exact HB.out)) hb); clear BK241; clear HB; have BK241 := n0_; have HB := n1_; clear n0_ n1_; (try clear hb); (try clear hb2); (try clear hk); (try clear hi)))
              go_ret
              exact ⟨by first | rfl | (simp [errW_none, errW_some] <;> rfl) | (simp [*, errW_none, errW_some] <;> rfl), by repeat (first | (with_reducible first | exact HB.out | apply below_alloc | apply pw_below_drewN | apply below_drew1 | refine below_set ?_ GE241.out) | exact HB.out)⟩

/-- THE ONE PURE STATEMENT of laws_FnMarginCall: yours. -/
def laws_FnMarginCall.Pure : Prop := ∀ (l0 : List Int), l0.length ≤ maxLen → l0.length * 1 ≤ 140737488351232 → (∀ x ∈ l0, (Lit.int .u8 x).wf = true) → ∃ k, laws_FnMarginCall.f k l0 = some true
theorem laws_FnMarginCall.walk (P : laws_FnMarginCall.Pure) (a0 : Option Addr) (len0 cap0 : Nat) (z0 : List Int) (w : World) (w0 : (a0 = none ∧ len0 = 0 ∧ cap0 = 0 ∧ z0 = []) ∨ ∃ x, a0 = some x ∧ len0 ≤ cap0 ∧ cap0 ≤ maxLen ∧ z0.length = cap0 ∧ (∀ i, i < z0.length → w.cell? (x.add i) = some (.int .u8 (z0.getD i 0))) ∧ ∀ n ∈ z0, (Lit.int .u8 n).wf = true) (y0 : len0 * 1 ≤ 140737488351232) :
    Calls Try.prog 11 #[.slice a0 len0 cap0] w fun e w' => e = .returned (.bool true) ∧ Below w.heap.size w w' := by
  obtain ⟨l0, rfl, hr0, hm0, hw0, hc0⟩ := ReadsInt.ofRowC w0
  obtain ⟨k, h⟩ := P l0 hm0 y0 hw0
  refine (laws_FnMarginCall.calls k _ _ l0 true w (Kd.C_of_reads (d := (0 : Int)) (h1 := fun _ => rfl) hr0) hc0 h).mono ?_
  rintro e w' ⟨rfl, hd⟩
  exact ⟨rfl, hd⟩

end Go.Proofs.Ytobkncpmkiaggab.PFnMarginCall

/- The functions that FnRatioDistribute reaches, each with a proof that the call does what it says; a part of that statement's proof. Conditions: none. -/
import Derived.Test.YtekaceennnphfaaPFnRatioDistributex0
import Derived.Test.YtekaceennnphfaaPFnRatioDistributex1
import Derived.Test.YtekaceennnphfaaPFnRatioDistributex2
import Derived.Test.YtekaceennnphfaaPFnRatioDistributex3
namespace Go.Proofs.Ytekaceennnphfaa.PFnRatioDistribute
open Go.RowKit Go.Proofs.YtekaceennnphfaaW.PrintWords Go.Proofs.YtekaceennnphfaaW.PrintLast Go.Proofs.YtekaceennnphfaaW.PrintMore
attribute [local go_sem] max2_int min2_int max_two min_two max_three min_three max_four min_four   -- for this text's walks alone
set_option linter.unusedVariables false
set_option linter.unusedSimpArgs false


theorem eqA23 (d : Nat) (w : World) (x0 y0 : Int) (x1 y1 : Int) :
    (Op.equalIn (d + 2) 23 (.agg #[.int .i64 x0, .int .i64 x1]) (.agg #[.int .i64 y0, .int .i64 y1])).run Try.prog w = .ok (x0 == y0 && (x1 == y1)) w := by
  refine eqA_of Try.underlying23 (by kernel_rfl) ?_
  refine eqf_cons (by rfl) (by go_simp; rfl) (by go_simp; rfl) (by go_simp) ?_
  exact eqf_last (by rfl) (by go_simp; rfl) (by go_simp; rfl) (by go_simp)

attribute [local go_sem high] eqA23
/-! ### laws_FnRatioDistribute: function 11 -/
def laws_FnRatioDistribute.j0 : Nat → Bool → Bool → Bool → Int → Int → Int → Int → Int → Int → Int → Int → Option (Bool)
  | 0, _, _, _, _, _, _, _, _, _, _, _ => none
  | k + 1, x6, x8, x49, x196000, x196001, x197000, x197001, x201000, x201001, x205000, x205001 => if x49 = true then (if (x201000 == x205000 && (x201001 == x205001)) = true then (some (x6 == x8)) else (some false)) else ((impl_MulRatio.f k x201000 x201001 2 3).bind fun bt206 => ((impl_MulRatio.f k x196000 x196001 2 3).bind fun bt210 => ((impl_MulRatio.f k x197000 x197001 2 3).bind fun bt214 => ((impl_AddRatio.f k bt210.1 bt210.2.1 bt214.1 bt214.2.1).bind fun bt218 => (if bt206.2.2 = true then (if bt210.2.2 = true then (if bt214.2.2 = true then (if bt218.2.2 = true then (some (bt218.1 == bt206.1 && (bt218.2.1 == bt206.2.1))) else (some true)) else (some true)) else (some true)) else (some true))))))
def laws_FnRatioDistribute.f (k : Nat) (l0 : List Int) : Option (Bool) := if (l0.length : Int) > 1048576 then (some true) else ((spec_DrawAddRatio.f k l0).bind fun bt191 => ((impl_AddRatio.f k bt191.1 bt191.2.1 bt191.2.2.1 bt191.2.2.2).bind fun bt197 => ((spec_AddRatio.f k bt191.1 bt191.2.1 bt191.2.2.1 bt191.2.2.2).bind fun bt201 => (if (!(bt197.1 == bt201.1) || (!(bt197.2.1 == bt201.2.1))) = true then (laws_FnRatioDistribute.j0 k bt197.2.2 bt201.2.2 true bt191.1 bt191.2.1 bt191.2.2.1 bt191.2.2.2 bt197.1 bt197.2.1 bt201.1 bt201.2.1) else (if (bt197.2.2 != bt201.2.2) = true then (laws_FnRatioDistribute.j0 k bt197.2.2 bt201.2.2 true bt191.1 bt191.2.1 bt191.2.2.1 bt191.2.2.2 bt197.1 bt197.2.1 bt201.1 bt201.2.1) else (laws_FnRatioDistribute.j0 k bt197.2.2 bt201.2.2 (!bt197.2.2) bt191.1 bt191.2.1 bt191.2.2.1 bt191.2.2.2 bt197.1 bt197.2.1 bt201.1 bt201.2.1))))))
theorem laws_FnRatioDistribute.mono_l : ∀ k, (∀ y0 y1 y2 y3 y4 y5 y6 y7 y8 y9 y10, LeO (laws_FnRatioDistribute.j0 k y0 y1 y2 y3 y4 y5 y6 y7 y8 y9 y10) (laws_FnRatioDistribute.j0 (k + 1) y0 y1 y2 y3 y4 y5 y6 y7 y8 y9 y10))
  | 0 => fun _ _ _ _ _ _ _ _ _ _ _ r h => by simp [laws_FnRatioDistribute.j0] at h
  | k + 1 => by
    have ih0 := laws_FnRatioDistribute.mono_l k
    · intro y0 y1 y2 y3 y4 y5 y6 y7 y8 y9 y10
      unfold laws_FnRatioDistribute.j0
      repeat' first
      | (with_reducible exact ih0 _ _ _ _ _ _ _ _ _ _ _)
      | (with_reducible exact impl_AddRatio.mono _ _ _ _ _)
      | (with_reducible exact impl_MulRatio.mono _ _ _ _ _)
      | (with_reducible exact spec_AddRatio.mono _ _ _ _ _)
      | (with_reducible exact spec_DrawAddRatio.mono _ _)
      | (with_reducible exact LeO.refl _)
      | (with_reducible exact LeO.none _)
      | (with_reducible refine LeO.ite ?_ ?_)
      | (with_reducible refine LeO.bind ?_ (fun _ => ?_))
      | exact ih0 _ _ _ _ _ _ _ _ _ _ _
      | exact impl_AddRatio.mono _ _ _ _ _
      | exact impl_MulRatio.mono _ _ _ _ _
      | exact spec_AddRatio.mono _ _ _ _ _
      | exact spec_DrawAddRatio.mono _ _
      | exact LeO.none _
      | refine LeO.ite ?_ ?_
      | refine LeO.bind ?_ (fun _ => ?_)
theorem laws_FnRatioDistribute.mono : ∀ a0 k, LeO (laws_FnRatioDistribute.f k a0) (laws_FnRatioDistribute.f (k + 1) a0) := by
  intro a0 k
  have ih0 := laws_FnRatioDistribute.mono_l k
  unfold laws_FnRatioDistribute.f
  repeat' first
      | (with_reducible exact ih0 _ _ _ _ _ _ _ _ _ _ _)
      | (with_reducible exact impl_AddRatio.mono _ _ _ _ _)
      | (with_reducible exact impl_MulRatio.mono _ _ _ _ _)
      | (with_reducible exact spec_AddRatio.mono _ _ _ _ _)
      | (with_reducible exact spec_DrawAddRatio.mono _ _)
      | (with_reducible exact LeO.refl _)
      | (with_reducible exact LeO.none _)
      | (with_reducible refine LeO.ite ?_ ?_)
      | (with_reducible refine LeO.bind ?_ (fun _ => ?_))
      | exact ih0 _ _ _ _ _ _ _ _ _ _ _
      | exact impl_AddRatio.mono _ _ _ _ _
      | exact impl_MulRatio.mono _ _ _ _ _
      | exact spec_AddRatio.mono _ _ _ _ _
      | exact spec_DrawAddRatio.mono _ _
      | exact LeO.none _
      | refine LeO.ite ?_ ?_
      | refine LeO.bind ?_ (fun _ => ?_)

end Go.Proofs.Ytekaceennnphfaa.PFnRatioDistribute

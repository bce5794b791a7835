/- FnExactCashAt holds at every input: the row, over the printed functions. Conditions: none. -/
import Derived.Test.YtmdhfmcnjdnkfaaRows
import Derived.Test.YtmdhfmcnjdnkfaaGFnExactCashAtx2
import Derived.Test.YtmdhfmcnjdnkfaaPureFnExactCashAt
import Derived.Test.YtmdhfmcnjdnkfaaOpen
import Derived.WalkKit
import Derived.ProofKit
import Derived.OpenShut
import Derived.ShutString
import Derived.ChangeOld
import Derived.Below
import Derived.SizedLaws
namespace Go.Proofs.Ytmdhfmcnjdnkfaa.fnExactCashAt
open Go.ChangeShapes Go.WideShapes Go.ChangeAt Go.RowKit
set_option linter.unusedVariables false
set_option linter.unusedSimpArgs false
theorem own : ownKnob Try.prog.godebug = none := by kernel_rfl
theorem laidOut : laidOutB Try.prog = true := by kernel_rfl
def conv0 : List Int → PFnExactCashAt.S54
  | [a0, a1] => ⟨a0, a1⟩
  | _ => PFnExactCashAt.z54
theorem row0 {W : World} {A : Option Addr} {len cap : Nat} {zs : List (List Int)} (hl : zs.length = len) (hm : cap ≤ maxLen) (hc : len ≤ cap) (hw : ∀ z ∈ zs, z.length = 2 ∧ ∀ x ∈ z, (Lit.int .i64 x).wf = true)
    (hr : 0 < len → ∃ ad, A = some ad ∧ ∀ (j : Nat) (z : List Int), zs[j]? = some z → ∀ (i : Nat) (x : Int), z[i]? = some x → W.cell? (ad.add (j * 2 + i)) = some (.int .i64 x)) :
    ∃ l : List PFnExactCashAt.S54, (l.length = len ∧ l.length ≤ maxLen) ∧ l.length ≤ cap ∧ Go.Proofs.YtmdhfmcnjdnkfaaW.PrintWords.Kd.C PFnExactCashAt.k54 W A l.length l := by
  have h1 : (zs.map conv0).length = len := by rw [List.length_map, hl]
  refine ⟨zs.map conv0, ⟨h1, by omega⟩, by omega, rfl, by unfold maxLen at hm; omega, fun h0 => ?_⟩
  obtain ⟨ad, rfl, hc⟩ := hr (by omega)
  refine ⟨ad, rfl, fun j p hp => ?_⟩
  rw [List.getElem?_map] at hp
  obtain ⟨z, hz, rfl⟩ := Option.map_eq_some_iff.1 hp
  have hzm : z ∈ zs := List.mem_of_getElem? hz
  obtain ⟨a0, a1, rfl⟩ := Open.len2 (hw z hzm).1
  refine ⟨[.int .i64 a0, .int .i64 a1], rfl, ⟨_, _, rfl, rfl, rfl⟩, fun i u hu => ?_⟩
  have hx := hc j _ hz
  match i, hu with
  | 0, hu => simp only [List.getElem?_cons_zero, List.getElem?_cons_succ, Option.some.injEq] at hu; subst hu; exact hx 0 _ rfl
  | 1, hu => simp only [List.getElem?_cons_zero, List.getElem?_cons_succ, Option.some.injEq] at hu; subst hu; exact hx 1 _ rfl
  | n + 2, hu => simp at hu
set_option maxRecDepth 100000 in
theorem lifted (os : Os) (started : os.Started) (H : Type) (enc : TypeId × Value → H) :
    ReturnsInHanded {} Try.checked os 4 .any (Rows.fnExactCashAtSpec.pre6 enc Try.prog Try.f4 Rows.fnExactCashAtRow.domain false) (Rows.fnExactCashAtSpec.post enc Try.prog Try.f4 false true false false) := by
  refine returnsInHanded_of_change (C := Try.checked) own started (by kernel_rfl) Try.func4
    (ChangeSpec.witness6 (enc := enc) (C := Try.checked) false ⟨#[], #[.slice none 0 0, .int .i64 0, .int .i64 0], []⟩ 8 (by kernel_rfl) (by kernel_rfl) (by kernel_rfl) (by kernel_rfl)) ?_
  intro W base args ds gs before hval0 hW hcnd _
  have hval : ∀ (j : Nat) t v, Try.f4.params[j]? = some t → args[j]? = some v → Value.okWide Try.prog W .any base t v := hval0
  have hW' := hW
  obtain ⟨p, q, hA0, hV, rfl, hfz, hnd⟩ := hW
  have hA : DataW.TrodAll enc Try.prog W 0 (fun _ => true) true Try.f4.params.toList args.toList ds p := hA0
  rw [Try.params4] at hA hval
  obtain ⟨v0, vs0, d0, ds0, p0, q0, hargs, rfl, rfl, h0, r0⟩ := trodAll_cons hA
  obtain ⟨v1, vs1, d1, ds1, p1, q1, rfl, rfl, rfl, h1, r1⟩ := trodAll_cons r0
  obtain ⟨v2, vs2, d2, ds2, p2, q2, rfl, rfl, rfl, h2, r2⟩ := trodAll_cons r1
  obtain ⟨rfl, rfl, rfl⟩ := trodAll_nil r2
  obtain rfl : args = #[v0, v1, v2] := by cases args; simp_all
  obtain ⟨rfl, rfl⟩ := trodVars_none hV
  have k0 := h0
  have lt0 : ∀ x ∈ p0, x.block < W.heap.size := by obtain ⟨m, hm⟩ := k0; exact DataW.trod_lt m _ _ _ hm
  obtain ⟨A0, len0, cap0, rfl⟩ := okWide_slice Try.underlying31 (hval 0 31 v0 rfl rfl)
  obtain ⟨z0, zl0, zc0, zm0, zw0, zr0⟩ := Open.open_slice_structs Try.underlying31 Try.underlying54 (by kernel_rfl) (by kernel_rfl) Try.underlying3 (by kernel_rfl) h0
  obtain ⟨l0, lm0, lc0, lr0⟩ := row0 zl0 zm0 zc0 zw0 zr0
  obtain rfl : len0 = l0.length := lm0.1.symm
  have k1 := h1
  have lt1 : ∀ x ∈ p1, x.block < W.heap.size := by obtain ⟨m, hm⟩ := k1; exact DataW.trod_lt m _ _ _ hm
  have e1 : ∃ a : Int, v1 = .int .i64 a ∧ (Lit.int .i64 a).wf = true := by
    obtain ⟨a, ha, _, _, wa⟩ := open_int Try.underlying3 (hval 1 3 v1 rfl rfl) h1
    exact ⟨a, ha, wa⟩
  obtain ⟨a1, rfl, wa1⟩ := e1
  have k2 := h2
  have lt2 : ∀ x ∈ p2, x.block < W.heap.size := by obtain ⟨m, hm⟩ := k2; exact DataW.trod_lt m _ _ _ hm
  have e2 : ∃ a : Int, v2 = .int .i64 a ∧ (Lit.int .i64 a).wf = true := by
    obtain ⟨a, ha, _, _, wa⟩ := open_int Try.underlying3 (hval 2 3 v2 rfl rfl) h2
    exact ⟨a, ha, wa⟩
  obtain ⟨a2, rfl, wa2⟩ := e2
  clear hA0 hval0
  obtain ⟨k, hk⟩ := Pure.FnExactCashAt l0 a1 a2 lm0.2 wa1 wa2
  refine (PFnExactCashAt.laws_FnExactCashAt.calls k _ _ l0 a1 a2 true W lr0 lc0 hk).mono fun e W' ⟨he, bel⟩ => ?_
  subst he
  exact ⟨_, rfl, _, _, _, [], _, [], hW', trodAll_mk1 (shut_bool Try.underlying4 _), (trodAll_cons_mk (Below.trod laidOut (by kernel_rfl) (of_decide_eq_true (by kernel_rfl)) k0 bel lt0) (trodAll_cons_mk (Below.trod laidOut (by kernel_rfl) (of_decide_eq_true (by kernel_rfl)) k1 bel lt1) (trodAll_cons_mk (Below.trod laidOut (by kernel_rfl) (of_decide_eq_true (by kernel_rfl)) k2 bel lt2) trodAll_mk0))), rfl, bel.frame _, fun h => by cases h⟩
theorem over : Rows.fnExactCashAtRow.holds Try.pinned (OpenSpec.ofChange Rows.fnExactCashAtSpec) :=
  OpenClaim.holds_of_wide 4 Try.f4 rfl rfl rfl rfl rfl rfl rfl ⟨rfl, rfl, rfl, rfl, rfl⟩ rfl rfl rfl rfl rfl (by kernel_rfl) Try.func4 (by kernel_rfl)
    (of_decide_eq_true (by kernel_rfl)) (by unfold Func.isWrapper; first | (rw [if_pos (by decide +kernel)]; kernel_rfl) | (rw [if_neg (by decide +kernel)]; exact ⟨rfl, rfl⟩))
    (fun os started H enc _ => lifted os started H enc)
theorem proved : Rows.FnExactCashAtSaid := over
end Go.Proofs.Ytmdhfmcnjdnkfaa.fnExactCashAt
namespace Go.Proofs.Ytmdhfmcnjdnkfaa
/-- The row, under a short name, for the claim. -/
theorem fnExactCashAt_holds : Rows.FnExactCashAtSaid := fnExactCashAt.proved
#print axioms fnExactCashAt_holds
end Go.Proofs.Ytmdhfmcnjdnkfaa

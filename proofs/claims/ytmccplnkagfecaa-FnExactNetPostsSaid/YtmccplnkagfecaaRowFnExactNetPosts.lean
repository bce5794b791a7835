/- FnExactNetPosts holds at every input: the row, over the printed functions. Conditions: none. -/
import Derived.Test.YtmccplnkagfecaaRows
import Derived.Test.YtmccplnkagfecaaGFnExactNetPostsx7
import Derived.Test.YtmccplnkagfecaaPureFnExactNetPosts
import Derived.Test.YtmccplnkagfecaaOpen
import Derived.WalkKit
import Derived.ProofKit
import Derived.OpenShut
import Derived.ShutString
import Derived.ChangeOld
import Derived.Below
import Derived.SizedLaws
namespace Go.Proofs.Ytmccplnkagfecaa.fnExactNetPosts
open Go.ChangeShapes Go.WideShapes Go.ChangeAt Go.RowKit
set_option linter.unusedVariables false
set_option linter.unusedSimpArgs false
theorem own : ownKnob Try.prog.godebug = none := by kernel_rfl
theorem laidOut : laidOutB Try.prog = true := by kernel_rfl
def conv0 : List Int → PFnExactNetPosts.S46
  | [a0, a1, a2] => ⟨a0, a1, a2⟩
  | _ => PFnExactNetPosts.z46
theorem row0 {W : World} {A : Option Addr} {len cap : Nat} {zs : List (List Int)} (hl : zs.length = len) (hm : cap ≤ maxLen) (hc : len ≤ cap) (hw : ∀ z ∈ zs, z.length = 3 ∧ ∀ x ∈ z, (Lit.int .i64 x).wf = true)
    (hr : 0 < len → ∃ ad, A = some ad ∧ ∀ (j : Nat) (z : List Int), zs[j]? = some z → ∀ (i : Nat) (x : Int), z[i]? = some x → W.cell? (ad.add (j * 3 + i)) = some (.int .i64 x)) :
    ∃ l : List PFnExactNetPosts.S46, (l.length = len ∧ l.length ≤ maxLen) ∧ l.length ≤ cap ∧ Go.Proofs.YtmccplnkagfecaaW.PrintWords.Kd.C PFnExactNetPosts.k46 W A l.length l := by
  have h1 : (zs.map conv0).length = len := by rw [List.length_map, hl]
  refine ⟨zs.map conv0, ⟨h1, by omega⟩, by omega, rfl, by unfold maxLen at hm; omega, fun h0 => ?_⟩
  obtain ⟨ad, rfl, hc⟩ := hr (by omega)
  refine ⟨ad, rfl, fun j p hp => ?_⟩
  rw [List.getElem?_map] at hp
  obtain ⟨z, hz, rfl⟩ := Option.map_eq_some_iff.1 hp
  have hzm : z ∈ zs := List.mem_of_getElem? hz
  obtain ⟨a0, a1, a2, rfl⟩ := Open.len3 (hw z hzm).1
  refine ⟨[.int .i64 a0, .int .i64 a1, .int .i64 a2], rfl, ⟨_, _, rfl, rfl, ⟨_, _, rfl, rfl, rfl⟩⟩, fun i u hu => ?_⟩
  have hx := hc j _ hz
  match i, hu with
  | 0, hu => simp only [List.getElem?_cons_zero, List.getElem?_cons_succ, Option.some.injEq] at hu; subst hu; exact hx 0 _ rfl
  | 1, hu => simp only [List.getElem?_cons_zero, List.getElem?_cons_succ, Option.some.injEq] at hu; subst hu; exact hx 1 _ rfl
  | 2, hu => simp only [List.getElem?_cons_zero, List.getElem?_cons_succ, Option.some.injEq] at hu; subst hu; exact hx 2 _ rfl
  | n + 3, hu => simp at hu
set_option maxRecDepth 100000 in
theorem lifted (os : Os) (started : os.Started) (H : Type) (enc : TypeId × Value → H) :
    ReturnsInHanded {} Try.checked os 9 .any (Rows.fnExactNetPostsSpec.pre6 enc Try.prog Try.f9 Rows.fnExactNetPostsRow.domain false) (Rows.fnExactNetPostsSpec.post enc Try.prog Try.f9 false true false false) := by
  refine returnsInHanded_of_change (C := Try.checked) own started (by kernel_rfl) Try.func9
    (ChangeSpec.witness6 (enc := enc) (C := Try.checked) false ⟨#[], #[.slice none 0 0], []⟩ 8 (by kernel_rfl) (by kernel_rfl) (by kernel_rfl) (by kernel_rfl)) ?_
  intro W base args ds gs before hval0 hW hcnd _
  have hval : ∀ (j : Nat) t v, Try.f9.params[j]? = some t → args[j]? = some v → Value.okWide Try.prog W .any base t v := hval0
  have hW' := hW
  obtain ⟨p, q, hA0, hV, rfl, hfz, hnd⟩ := hW
  have hA : DataW.TrodAll enc Try.prog W 0 (fun _ => true) true Try.f9.params.toList args.toList ds p := hA0
  rw [Try.params9] at hA hval
  obtain ⟨v0, vs0, d0, ds0, p0, q0, hargs, rfl, rfl, h0, r0⟩ := trodAll_cons hA
  obtain ⟨rfl, rfl, rfl⟩ := trodAll_nil r0
  obtain rfl : args = #[v0] := by cases args; simp_all
  obtain ⟨rfl, rfl⟩ := trodVars_none hV
  have k0 := h0
  have lt0 : ∀ x ∈ p0, x.block < W.heap.size := by obtain ⟨m, hm⟩ := k0; exact DataW.trod_lt m _ _ _ hm
  obtain ⟨A0, len0, cap0, rfl⟩ := okWide_slice Try.underlying29 (hval 0 29 v0 rfl rfl)
  obtain ⟨z0, zl0, zc0, zm0, zw0, zr0⟩ := Open.open_slice_structs Try.underlying29 Try.underlying46 (by kernel_rfl) (by kernel_rfl) Try.underlying3 (by kernel_rfl) h0
  obtain ⟨l0, lm0, lc0, lr0⟩ := row0 zl0 zm0 zc0 zw0 zr0
  obtain rfl : len0 = l0.length := lm0.1.symm
  clear hA0 hval0
  obtain ⟨k, hk⟩ := Pure.FnExactNetPosts l0 lm0.2
  refine (PFnExactNetPosts.laws_FnExactNetPosts.calls k _ _ l0 true W lr0 lc0 hk).mono fun e W' ⟨he, bel⟩ => ?_
  subst he
  exact ⟨_, rfl, _, _, _, [], _, [], hW', trodAll_mk1 (shut_bool Try.underlying4 _), (trodAll_cons_mk (Below.trod laidOut (by kernel_rfl) (of_decide_eq_true (by kernel_rfl)) k0 bel lt0) trodAll_mk0), rfl, bel.frame _, fun h => by cases h⟩
theorem over : Rows.fnExactNetPostsRow.holds Try.pinned (OpenSpec.ofChange Rows.fnExactNetPostsSpec) :=
  OpenClaim.holds_of_wide 9 Try.f9 rfl rfl rfl rfl rfl rfl rfl ⟨rfl, rfl, rfl, rfl, rfl⟩ rfl rfl rfl rfl rfl (by kernel_rfl) Try.func9 (by kernel_rfl)
    (of_decide_eq_true (by kernel_rfl)) (by unfold Func.isWrapper; first | (rw [if_pos (by decide +kernel)]; kernel_rfl) | (rw [if_neg (by decide +kernel)]; exact ⟨rfl, rfl⟩))
    (fun os started H enc _ => lifted os started H enc)
theorem proved : Rows.FnExactNetPostsSaid := over
end Go.Proofs.Ytmccplnkagfecaa.fnExactNetPosts
namespace Go.Proofs.Ytmccplnkagfecaa
/-- The row, under a short name, for the claim. -/
theorem fnExactNetPosts_holds : Rows.FnExactNetPostsSaid := fnExactNetPosts.proved
#print axioms fnExactNetPosts_holds
end Go.Proofs.Ytmccplnkagfecaa

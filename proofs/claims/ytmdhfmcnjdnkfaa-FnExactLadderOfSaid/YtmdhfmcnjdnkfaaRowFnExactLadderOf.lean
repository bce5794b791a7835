/- FnExactLadderOf holds at every input: the row, over the printed functions. Conditions: none. -/
import Derived.Test.YtmdhfmcnjdnkfaaRows
import Derived.Test.YtmdhfmcnjdnkfaaGFnExactLadderOfx6
import Derived.Test.YtmdhfmcnjdnkfaaPureFnExactLadderOf
import Derived.Test.YtmdhfmcnjdnkfaaOpen
import Derived.WalkKit
import Derived.ProofKit
import Derived.OpenShut
import Derived.ShutString
import Derived.ChangeOld
import Derived.Below
import Derived.SizedLaws
namespace Go.Proofs.Ytmdhfmcnjdnkfaa.fnExactLadderOf
open Go.ChangeShapes Go.WideShapes Go.ChangeAt Go.RowKit
set_option linter.unusedVariables false
set_option linter.unusedSimpArgs false
theorem own : ownKnob Try.prog.godebug = none := by kernel_rfl
theorem laidOut : laidOutB Try.prog = true := by kernel_rfl
def IsRow (k : IntKind) (w : World) (a : Option Addr) (len cap : Nat) (zs : List Int) : Prop :=
  (a = none ∧ len = 0 ∧ cap = 0 ∧ zs = []) ∨
  ∃ x, a = some x ∧ len ≤ cap ∧ cap ≤ maxLen ∧ zs.length = cap ∧ (∀ i, i < zs.length → w.cell? (x.add i) = some (.int k (zs.getD i 0))) ∧ ∀ n ∈ zs, (Lit.int k n).wf = true
def conv0 : List Int → PFnExactLadderOf.S54
  | [a0, a1] => ⟨a0, a1⟩
  | _ => PFnExactLadderOf.z54
theorem row0 {W : World} {A : Option Addr} {len cap : Nat} {zs : List (List Int)} (hl : zs.length = len) (hm : cap ≤ maxLen) (hc : len ≤ cap) (hw : ∀ z ∈ zs, z.length = 2 ∧ ∀ x ∈ z, (Lit.int .i64 x).wf = true)
    (hr : 0 < len → ∃ ad, A = some ad ∧ ∀ (j : Nat) (z : List Int), zs[j]? = some z → ∀ (i : Nat) (x : Int), z[i]? = some x → W.cell? (ad.add (j * 2 + i)) = some (.int .i64 x)) :
    ∃ l : List PFnExactLadderOf.S54, (l.length = len ∧ l.length ≤ maxLen) ∧ l.length ≤ cap ∧ Go.Proofs.YtmdhfmcnjdnkfaaW.PrintWords.Kd.C PFnExactLadderOf.k54 W A l.length l := by
  have h1 : (zs.map conv0).length = len := by rw [List.length_map, hl]
  refine ⟨zs.map conv0, ⟨h1, by omega⟩, by omega, rfl, by unfold maxLen at hm; omega, fun h0 => ?_⟩
  obtain ⟨ad, rfl, hc⟩ := hr (by omega)
  refine ⟨ad, rfl, fun j p hp => ?_⟩
  rw [List.getElem?_map] at hp
  obtain ⟨z, hz, rfl⟩ := Option.map_eq_some_iff.1 hp
  have hzm : z ∈ zs := List.mem_of_getElem? hz
  obtain ⟨a0, a1, rfl⟩ := Open.len2 (hw z hzm).1
  refine ⟨[.int .i64 a0, .int .i64 a1], rfl, ⟨_, _, rfl, rfl, rfl⟩, fun i u hu => ?_⟩
  have hx := hc j _ hz
  match i, hu with
  | 0, hu => simp only [List.getElem?_cons_zero, List.getElem?_cons_succ, Option.some.injEq] at hu; subst hu; exact hx 0 _ rfl
  | 1, hu => simp only [List.getElem?_cons_zero, List.getElem?_cons_succ, Option.some.injEq] at hu; subst hu; exact hx 1 _ rfl
  | n + 2, hu => simp at hu
set_option maxRecDepth 100000 in
theorem lifted (os : Os) (started : os.Started) (H : Type) (enc : TypeId × Value → H) :
    ReturnsInHanded {} Try.checked os 7 .any (Rows.fnExactLadderOfSpec.pre6 enc Try.prog Try.f7 Rows.fnExactLadderOfRow.domain false) (Rows.fnExactLadderOfSpec.post enc Try.prog Try.f7 false true false false) := by
  refine returnsInHanded_of_change (C := Try.checked) own started (by kernel_rfl) Try.func7
    (ChangeSpec.witness6 (enc := enc) (C := Try.checked) false ⟨#[], #[.slice none 0 0, .slice none 0 0], []⟩ 8 (by kernel_rfl) (by kernel_rfl) (by kernel_rfl) (by kernel_rfl)) ?_
  intro W base args ds gs before hval0 hW hcnd _
  have hval : ∀ (j : Nat) t v, Try.f7.params[j]? = some t → args[j]? = some v → Value.okWide Try.prog W .any base t v := hval0
  have hW' := hW
  obtain ⟨p, q, hA0, hV, rfl, hfz, hnd⟩ := hW
  have hA : DataW.TrodAll enc Try.prog W 0 (fun _ => true) true Try.f7.params.toList args.toList ds p := hA0
  rw [Try.params7] at hA hval
  obtain ⟨v0, vs0, d0, ds0, p0, q0, hargs, rfl, rfl, h0, r0⟩ := trodAll_cons hA
  obtain ⟨v1, vs1, d1, ds1, p1, q1, rfl, rfl, rfl, h1, r1⟩ := trodAll_cons r0
  obtain ⟨rfl, rfl, rfl⟩ := trodAll_nil r1
  obtain rfl : args = #[v0, v1] := by cases args; simp_all
  obtain ⟨rfl, rfl⟩ := trodVars_none hV
  have k0 := h0
  have lt0 : ∀ x ∈ p0, x.block < W.heap.size := by obtain ⟨m, hm⟩ := k0; exact DataW.trod_lt m _ _ _ hm
  obtain ⟨A0, len0, cap0, rfl⟩ := okWide_slice Try.underlying31 (hval 0 31 v0 rfl rfl)
  obtain ⟨z0, zl0, zc0, zm0, zw0, zr0⟩ := Open.open_slice_structs Try.underlying31 Try.underlying54 (by kernel_rfl) (by kernel_rfl) Try.underlying3 (by kernel_rfl) h0
  obtain ⟨l0, lm0, lc0, lr0⟩ := row0 zl0 zm0 zc0 zw0 zr0
  obtain rfl : len0 = l0.length := lm0.1.symm
  have k1 := h1
  have lt1 : ∀ x ∈ p1, x.block < W.heap.size := by obtain ⟨m, hm⟩ := k1; exact DataW.trod_lt m _ _ _ hm
  obtain ⟨A1, len1, cap1, rfl⟩ := okWide_slice Try.underlying36 (hval 1 36 v1 rfl rfl)
  have w1 : ∃ zs, IsRow .i64 W A1 len1 cap1 zs := by
    obtain ⟨fuel, hf⟩ := h1
    rcases open_ints Try.underlying36 Try.underlying3 (by kernel_rfl) hf with ⟨hcs, _⟩ | ⟨x, l, c, zs, hcs, _, hl, hm, hz, _, hcell, hwz⟩
    · simp [Value.cells] at hcs
      obtain ⟨rfl, rfl, rfl⟩ := hcs
      exact ⟨[], .inl ⟨rfl, rfl, rfl, rfl⟩⟩
    · simp [Value.cells] at hcs
      obtain ⟨rfl, rfl, rfl⟩ := hcs
      exact ⟨zs, .inr ⟨_, rfl, hl, hm, by simpa using hz, hcell, hwz⟩⟩
  obtain ⟨z1, w1⟩ := w1
  obtain ⟨l1, rfl, hr1, hm1, hw1, lc1⟩ := Go.Proofs.YtmdhfmcnjdnkfaaW.PrintWords.ReadsInt.ofRowC w1
  have lr1 := Go.Proofs.YtmdhfmcnjdnkfaaW.PrintWords.Kd.C_of_reads (d := (0 : Int)) (h1 := fun _ => rfl) hr1
  clear hA0 hval0
  obtain ⟨k, hk⟩ := Pure.FnExactLadderOf l0 l1 lm0.2 hm1 hw1
  refine (PFnExactLadderOf.laws_FnExactLadderOf.calls k _ _ l0 _ _ l1 true W lr0 lc0 lr1 lc1 hk).mono fun e W' ⟨he, bel⟩ => ?_
  subst he
  exact ⟨_, rfl, _, _, _, [], _, [], hW', trodAll_mk1 (shut_bool Try.underlying4 _), (trodAll_cons_mk (Below.trod laidOut (by kernel_rfl) (of_decide_eq_true (by kernel_rfl)) k0 bel lt0) (trodAll_cons_mk (Below.trod laidOut (by kernel_rfl) (of_decide_eq_true (by kernel_rfl)) k1 bel lt1) trodAll_mk0)), rfl, bel.frame _, fun h => by cases h⟩
theorem over : Rows.fnExactLadderOfRow.holds Try.pinned (OpenSpec.ofChange Rows.fnExactLadderOfSpec) :=
  OpenClaim.holds_of_wide 7 Try.f7 rfl rfl rfl rfl rfl rfl rfl ⟨rfl, rfl, rfl, rfl, rfl⟩ rfl rfl rfl rfl rfl (by kernel_rfl) Try.func7 (by kernel_rfl)
    (of_decide_eq_true (by kernel_rfl)) (by unfold Func.isWrapper; first | (rw [if_pos (by decide +kernel)]; kernel_rfl) | (rw [if_neg (by decide +kernel)]; exact ⟨rfl, rfl⟩))
    (fun os started H enc _ => lifted os started H enc)
theorem proved : Rows.FnExactLadderOfSaid := over
end Go.Proofs.Ytmdhfmcnjdnkfaa.fnExactLadderOf
namespace Go.Proofs.Ytmdhfmcnjdnkfaa
/-- The row, under a short name, for the claim. -/
theorem fnExactLadderOf_holds : Rows.FnExactLadderOfSaid := fnExactLadderOf.proved
#print axioms fnExactLadderOf_holds
end Go.Proofs.Ytmdhfmcnjdnkfaa

/-
  No cell of these rows narrows 'for every input' (looked for: loops, veiled, ifaces, maps, wideKeys, modest, calm, conditions, laid).
  DERIVED. THE GIVEN ROWS OF THIS SEAT. 9 by the template 'for every input the law returns true; each argument reads behind the call as it read before'; 0 by the template 'total and deterministic' (their statements: YtekaceennnphfaaTotals.lean).
  GIVEN WITH THE SEED: the statements are not yours to turn. If you find one false, say at which input.
  Laid BY PROGRAM, IN A SANDBOX (cutbox-rows.mjs): the forced cells as the released guide's own fill.sh prints them over the translation c127d6fb97c0f2bc… (all of the seat's roots in one cut). By AI agents, Wed Nov 11 2026. No macro, syntax, notation, axiom, sorry.
-/
import Derived.Test.YtekaceennnphfaaChecked
import GoSem.Claim
import GoSem.ClaimJoined
import GoSem.ClaimMapViews
import Derived.JoinedTies
import Derived.KernelRfl
namespace Go.Proofs.Ytekaceennnphfaa
/- THE CELL 'sum', in the pinned program and in every row, IS THE sha256 OF THE DUMP (.gsa) THAT YtekaceennnphfaaProg.lean LOADS. Nothing in Lean hashes anything: it is a label: what it is worth is what the hold of that sum in a sandbox is worth. -/
noncomputable def Try.pinned : Pinned := { name := "ytekaceennnphfaa", sum := "c127d6fb97c0f2bcc81170a06c5dbbc9a1138ba1db3438a3669dbc727f09b492", checked := Try.checked }
namespace Rows
def none {H : Type} : Left H := { results := [], args := [] }

/-- 'laws.FnExactMakeRatio': WHATEVER THE INPUT: true; the input reads as it did. -/
def fnExactMakeRatioSpec : ChangeSpec := { name := "fnExactMakeRatio", fn := fun _ => fun
  | [d1, d2] => { results := [.lit (.bool true)], args := [d1, d2] }
  | _ => none }
def fnExactMakeRatioRow : OpenClaim := { program := "ytekaceennnphfaa", sum := "c127d6fb97c0f2bcc81170a06c5dbbc9a1138ba1db3438a3669dbc727f09b492", func := "loop.example/bonddesk/laws.FnExactMakeRatio", spec := "fnExactMakeRatio", apart := false }
def FnExactMakeRatioSaid : Prop := fnExactMakeRatioRow.holds Try.pinned (OpenSpec.ofChange fnExactMakeRatioSpec)

/-- ITS FALSE NEIGHBOUR: 'it returns false'. Refute it at one input. -/
def fnExactMakeRatioWrong : ChangeSpec := { name := "fnExactMakeRatio", fn := fun _ => fun
  | [d1, d2] => { results := [.lit (.bool false)], args := [d1, d2] }
  | _ => none }
def FnExactMakeRatioWrongFalsely : Prop := fnExactMakeRatioRow.holds Try.pinned (OpenSpec.ofChange fnExactMakeRatioWrong)

/-- 'laws.FnExactShareOf': WHATEVER THE INPUT: true; the input reads as it did. -/
def fnExactShareOfSpec : ChangeSpec := { name := "fnExactShareOf", fn := fun _ => fun
  | [d1, d2] => { results := [.lit (.bool true)], args := [d1, d2] }
  | _ => none }
def fnExactShareOfRow : OpenClaim := { program := "ytekaceennnphfaa", sum := "c127d6fb97c0f2bcc81170a06c5dbbc9a1138ba1db3438a3669dbc727f09b492", func := "loop.example/bonddesk/laws.FnExactShareOf", spec := "fnExactShareOf", apart := false }
def FnExactShareOfSaid : Prop := fnExactShareOfRow.holds Try.pinned (OpenSpec.ofChange fnExactShareOfSpec)

/-- ITS FALSE NEIGHBOUR: 'it returns false'. Refute it at one input. -/
def fnExactShareOfWrong : ChangeSpec := { name := "fnExactShareOf", fn := fun _ => fun
  | [d1, d2] => { results := [.lit (.bool false)], args := [d1, d2] }
  | _ => none }
def FnExactShareOfWrongFalsely : Prop := fnExactShareOfRow.holds Try.pinned (OpenSpec.ofChange fnExactShareOfWrong)

/-- 'laws.FnExactAddRatio': WHATEVER THE INPUT: true; the input reads as it did. -/
def fnExactAddRatioSpec : ChangeSpec := { name := "fnExactAddRatio", fn := fun _ => fun
  | [d1, d2] => { results := [.lit (.bool true)], args := [d1, d2] }
  | _ => none }
def fnExactAddRatioRow : OpenClaim := { program := "ytekaceennnphfaa", sum := "c127d6fb97c0f2bcc81170a06c5dbbc9a1138ba1db3438a3669dbc727f09b492", func := "loop.example/bonddesk/laws.FnExactAddRatio", spec := "fnExactAddRatio", apart := false }
def FnExactAddRatioSaid : Prop := fnExactAddRatioRow.holds Try.pinned (OpenSpec.ofChange fnExactAddRatioSpec)

/-- ITS FALSE NEIGHBOUR: 'it returns false'. Refute it at one input. -/
def fnExactAddRatioWrong : ChangeSpec := { name := "fnExactAddRatio", fn := fun _ => fun
  | [d1, d2] => { results := [.lit (.bool false)], args := [d1, d2] }
  | _ => none }
def FnExactAddRatioWrongFalsely : Prop := fnExactAddRatioRow.holds Try.pinned (OpenSpec.ofChange fnExactAddRatioWrong)

/-- 'laws.FnExactMulRatio': WHATEVER THE INPUT: true; the input reads as it did. -/
def fnExactMulRatioSpec : ChangeSpec := { name := "fnExactMulRatio", fn := fun _ => fun
  | [d1, d2] => { results := [.lit (.bool true)], args := [d1, d2] }
  | _ => none }
def fnExactMulRatioRow : OpenClaim := { program := "ytekaceennnphfaa", sum := "c127d6fb97c0f2bcc81170a06c5dbbc9a1138ba1db3438a3669dbc727f09b492", func := "loop.example/bonddesk/laws.FnExactMulRatio", spec := "fnExactMulRatio", apart := false }
def FnExactMulRatioSaid : Prop := fnExactMulRatioRow.holds Try.pinned (OpenSpec.ofChange fnExactMulRatioSpec)

/-- ITS FALSE NEIGHBOUR: 'it returns false'. Refute it at one input. -/
def fnExactMulRatioWrong : ChangeSpec := { name := "fnExactMulRatio", fn := fun _ => fun
  | [d1, d2] => { results := [.lit (.bool false)], args := [d1, d2] }
  | _ => none }
def FnExactMulRatioWrongFalsely : Prop := fnExactMulRatioRow.holds Try.pinned (OpenSpec.ofChange fnExactMulRatioWrong)

/-- 'laws.FnExactCompareRatio': WHATEVER THE INPUT: true; the input reads as it did. -/
def fnExactCompareRatioSpec : ChangeSpec := { name := "fnExactCompareRatio", fn := fun _ => fun
  | [d1, d2] => { results := [.lit (.bool true)], args := [d1, d2] }
  | _ => none }
def fnExactCompareRatioRow : OpenClaim := { program := "ytekaceennnphfaa", sum := "c127d6fb97c0f2bcc81170a06c5dbbc9a1138ba1db3438a3669dbc727f09b492", func := "loop.example/bonddesk/laws.FnExactCompareRatio", spec := "fnExactCompareRatio", apart := false }
def FnExactCompareRatioSaid : Prop := fnExactCompareRatioRow.holds Try.pinned (OpenSpec.ofChange fnExactCompareRatioSpec)

/-- ITS FALSE NEIGHBOUR: 'it returns false'. Refute it at one input. -/
def fnExactCompareRatioWrong : ChangeSpec := { name := "fnExactCompareRatio", fn := fun _ => fun
  | [d1, d2] => { results := [.lit (.bool false)], args := [d1, d2] }
  | _ => none }
def FnExactCompareRatioWrongFalsely : Prop := fnExactCompareRatioRow.holds Try.pinned (OpenSpec.ofChange fnExactCompareRatioWrong)

/-- 'laws.FnMakeRatio': WHATEVER THE INPUT: true; the input reads as it did. -/
def fnMakeRatioSpec : ChangeSpec := { name := "fnMakeRatio", fn := fun _ => fun
  | [d] => { results := [.lit (.bool true)], args := [d] }
  | _ => none }
def fnMakeRatioRow : OpenClaim := { program := "ytekaceennnphfaa", sum := "c127d6fb97c0f2bcc81170a06c5dbbc9a1138ba1db3438a3669dbc727f09b492", func := "loop.example/bonddesk/laws.FnMakeRatio", spec := "fnMakeRatio", apart := false }
def FnMakeRatioSaid : Prop := fnMakeRatioRow.holds Try.pinned (OpenSpec.ofChange fnMakeRatioSpec)

/-- ITS FALSE NEIGHBOUR: 'it returns false'. Refute it at one input. -/
def fnMakeRatioWrong : ChangeSpec := { name := "fnMakeRatio", fn := fun _ => fun
  | [d] => { results := [.lit (.bool false)], args := [d] }
  | _ => none }
def FnMakeRatioWrongFalsely : Prop := fnMakeRatioRow.holds Try.pinned (OpenSpec.ofChange fnMakeRatioWrong)

/-- 'laws.FnAddRatio': WHATEVER THE INPUT: true; the input reads as it did. -/
def fnAddRatioSpec : ChangeSpec := { name := "fnAddRatio", fn := fun _ => fun
  | [d] => { results := [.lit (.bool true)], args := [d] }
  | _ => none }
def fnAddRatioRow : OpenClaim := { program := "ytekaceennnphfaa", sum := "c127d6fb97c0f2bcc81170a06c5dbbc9a1138ba1db3438a3669dbc727f09b492", func := "loop.example/bonddesk/laws.FnAddRatio", spec := "fnAddRatio", apart := false }
def FnAddRatioSaid : Prop := fnAddRatioRow.holds Try.pinned (OpenSpec.ofChange fnAddRatioSpec)

/-- ITS FALSE NEIGHBOUR: 'it returns false'. Refute it at one input. -/
def fnAddRatioWrong : ChangeSpec := { name := "fnAddRatio", fn := fun _ => fun
  | [d] => { results := [.lit (.bool false)], args := [d] }
  | _ => none }
def FnAddRatioWrongFalsely : Prop := fnAddRatioRow.holds Try.pinned (OpenSpec.ofChange fnAddRatioWrong)

/-- 'laws.FnMulRatio': WHATEVER THE INPUT: true; the input reads as it did. -/
def fnMulRatioSpec : ChangeSpec := { name := "fnMulRatio", fn := fun _ => fun
  | [d] => { results := [.lit (.bool true)], args := [d] }
  | _ => none }
def fnMulRatioRow : OpenClaim := { program := "ytekaceennnphfaa", sum := "c127d6fb97c0f2bcc81170a06c5dbbc9a1138ba1db3438a3669dbc727f09b492", func := "loop.example/bonddesk/laws.FnMulRatio", spec := "fnMulRatio", apart := false }
def FnMulRatioSaid : Prop := fnMulRatioRow.holds Try.pinned (OpenSpec.ofChange fnMulRatioSpec)

/-- ITS FALSE NEIGHBOUR: 'it returns false'. Refute it at one input. -/
def fnMulRatioWrong : ChangeSpec := { name := "fnMulRatio", fn := fun _ => fun
  | [d] => { results := [.lit (.bool false)], args := [d] }
  | _ => none }
def FnMulRatioWrongFalsely : Prop := fnMulRatioRow.holds Try.pinned (OpenSpec.ofChange fnMulRatioWrong)

/-- 'laws.FnRatioDistribute': WHATEVER THE INPUT: true; the input reads as it did. -/
def fnRatioDistributeSpec : ChangeSpec := { name := "fnRatioDistribute", fn := fun _ => fun
  | [d] => { results := [.lit (.bool true)], args := [d] }
  | _ => none }
def fnRatioDistributeRow : OpenClaim := { program := "ytekaceennnphfaa", sum := "c127d6fb97c0f2bcc81170a06c5dbbc9a1138ba1db3438a3669dbc727f09b492", func := "loop.example/bonddesk/laws.FnRatioDistribute", spec := "fnRatioDistribute", apart := false }
def FnRatioDistributeSaid : Prop := fnRatioDistributeRow.holds Try.pinned (OpenSpec.ofChange fnRatioDistributeSpec)

/-- ITS FALSE NEIGHBOUR: 'it returns false'. Refute it at one input. -/
def fnRatioDistributeWrong : ChangeSpec := { name := "fnRatioDistribute", fn := fun _ => fun
  | [d] => { results := [.lit (.bool false)], args := [d] }
  | _ => none }
def FnRatioDistributeWrongFalsely : Prop := fnRatioDistributeRow.holds Try.pinned (OpenSpec.ofChange fnRatioDistributeWrong)

/- THE SECOND FORM. 'bulk': how many values and letters a reading holds, each counted each time it is reached (what is shared counts as often as it is met; a slice's spare places count too). A statement '..UptoSaid' is the law's where the arguments, and the package variables that the reading takes, are together of bulk at most 1048576: NARROWER than '..Said'. Prove '..Said' where nothing that the law and all that it calls make is longer than what came in: it says more and counts as full. Else prove '..UptoSaid'. A law counts once. -/
mutual
def uptoBulk {H : Type} : DataW H → Nat
  | .lit (.string bytes) => bytes.length + 1
  | .lit _ => 1
  | .nil => 1
  | .ptr d => uptoBulk d + 1
  | .slice elems spare => uptoBulkAll elems + uptoBulkAll spare + 1
  | .agg parts => uptoBulkAll parts + 1
  | .iface _ d => uptoBulk d + 1
  | .map entries => uptoBulkEntries entries + 1
  | .held _ => 1
def uptoBulkAll {H : Type} : List (DataW H) → Nat
  | [] => 0
  | d :: r => uptoBulk d + uptoBulkAll r
def uptoBulkEntries {H : Type} : List (Lit × DataW H) → Nat
  | [] => 0
  | x :: r => uptoBulkEntry x + uptoBulkEntries r
def uptoBulkEntry {H : Type} : Lit × DataW H → Nat
  | (.string bytes, d) => bytes.length + uptoBulk d + 1
  | (_, d) => uptoBulk d + 1
 end
def uptoSmall : (H : Type) → List (DataW H) → Bool := fun _ ds => decide (uptoBulkAll ds ≤ 1048576)
def OpenSpec.upto (s : _root_.Go.ChangeSpec) : _root_.Go.OpenSpec := { _root_.Go.OpenSpec.ofChange s with cond := some uptoSmall }

/-- 'laws.FnExactMakeRatio', WHERE WHAT IT READS IS OF BULK AT MOST 1048576: true; the input reads as it did. -/
def fnExactMakeRatioUptoRow : OpenClaim := { program := "ytekaceennnphfaa", sum := "c127d6fb97c0f2bcc81170a06c5dbbc9a1138ba1db3438a3669dbc727f09b492", func := "loop.example/bonddesk/laws.FnExactMakeRatio", spec := "fnExactMakeRatio", apart := false, narrowed := true }
def FnExactMakeRatioUptoSaid : Prop := fnExactMakeRatioUptoRow.holds Try.pinned (OpenSpec.upto fnExactMakeRatioSpec)

/-- 'laws.FnExactShareOf', WHERE WHAT IT READS IS OF BULK AT MOST 1048576: true; the input reads as it did. -/
def fnExactShareOfUptoRow : OpenClaim := { program := "ytekaceennnphfaa", sum := "c127d6fb97c0f2bcc81170a06c5dbbc9a1138ba1db3438a3669dbc727f09b492", func := "loop.example/bonddesk/laws.FnExactShareOf", spec := "fnExactShareOf", apart := false, narrowed := true }
def FnExactShareOfUptoSaid : Prop := fnExactShareOfUptoRow.holds Try.pinned (OpenSpec.upto fnExactShareOfSpec)

/-- 'laws.FnExactAddRatio', WHERE WHAT IT READS IS OF BULK AT MOST 1048576: true; the input reads as it did. -/
def fnExactAddRatioUptoRow : OpenClaim := { program := "ytekaceennnphfaa", sum := "c127d6fb97c0f2bcc81170a06c5dbbc9a1138ba1db3438a3669dbc727f09b492", func := "loop.example/bonddesk/laws.FnExactAddRatio", spec := "fnExactAddRatio", apart := false, narrowed := true }
def FnExactAddRatioUptoSaid : Prop := fnExactAddRatioUptoRow.holds Try.pinned (OpenSpec.upto fnExactAddRatioSpec)

/-- 'laws.FnExactMulRatio', WHERE WHAT IT READS IS OF BULK AT MOST 1048576: true; the input reads as it did. -/
def fnExactMulRatioUptoRow : OpenClaim := { program := "ytekaceennnphfaa", sum := "c127d6fb97c0f2bcc81170a06c5dbbc9a1138ba1db3438a3669dbc727f09b492", func := "loop.example/bonddesk/laws.FnExactMulRatio", spec := "fnExactMulRatio", apart := false, narrowed := true }
def FnExactMulRatioUptoSaid : Prop := fnExactMulRatioUptoRow.holds Try.pinned (OpenSpec.upto fnExactMulRatioSpec)

/-- 'laws.FnExactCompareRatio', WHERE WHAT IT READS IS OF BULK AT MOST 1048576: true; the input reads as it did. -/
def fnExactCompareRatioUptoRow : OpenClaim := { program := "ytekaceennnphfaa", sum := "c127d6fb97c0f2bcc81170a06c5dbbc9a1138ba1db3438a3669dbc727f09b492", func := "loop.example/bonddesk/laws.FnExactCompareRatio", spec := "fnExactCompareRatio", apart := false, narrowed := true }
def FnExactCompareRatioUptoSaid : Prop := fnExactCompareRatioUptoRow.holds Try.pinned (OpenSpec.upto fnExactCompareRatioSpec)

/-- 'laws.FnMakeRatio', WHERE WHAT IT READS IS OF BULK AT MOST 1048576: true; the input reads as it did. -/
def fnMakeRatioUptoRow : OpenClaim := { program := "ytekaceennnphfaa", sum := "c127d6fb97c0f2bcc81170a06c5dbbc9a1138ba1db3438a3669dbc727f09b492", func := "loop.example/bonddesk/laws.FnMakeRatio", spec := "fnMakeRatio", apart := false, narrowed := true }
def FnMakeRatioUptoSaid : Prop := fnMakeRatioUptoRow.holds Try.pinned (OpenSpec.upto fnMakeRatioSpec)

/-- 'laws.FnAddRatio', WHERE WHAT IT READS IS OF BULK AT MOST 1048576: true; the input reads as it did. -/
def fnAddRatioUptoRow : OpenClaim := { program := "ytekaceennnphfaa", sum := "c127d6fb97c0f2bcc81170a06c5dbbc9a1138ba1db3438a3669dbc727f09b492", func := "loop.example/bonddesk/laws.FnAddRatio", spec := "fnAddRatio", apart := false, narrowed := true }
def FnAddRatioUptoSaid : Prop := fnAddRatioUptoRow.holds Try.pinned (OpenSpec.upto fnAddRatioSpec)

/-- 'laws.FnMulRatio', WHERE WHAT IT READS IS OF BULK AT MOST 1048576: true; the input reads as it did. -/
def fnMulRatioUptoRow : OpenClaim := { program := "ytekaceennnphfaa", sum := "c127d6fb97c0f2bcc81170a06c5dbbc9a1138ba1db3438a3669dbc727f09b492", func := "loop.example/bonddesk/laws.FnMulRatio", spec := "fnMulRatio", apart := false, narrowed := true }
def FnMulRatioUptoSaid : Prop := fnMulRatioUptoRow.holds Try.pinned (OpenSpec.upto fnMulRatioSpec)

/-- 'laws.FnRatioDistribute', WHERE WHAT IT READS IS OF BULK AT MOST 1048576: true; the input reads as it did. -/
def fnRatioDistributeUptoRow : OpenClaim := { program := "ytekaceennnphfaa", sum := "c127d6fb97c0f2bcc81170a06c5dbbc9a1138ba1db3438a3669dbc727f09b492", func := "loop.example/bonddesk/laws.FnRatioDistribute", spec := "fnRatioDistribute", apart := false, narrowed := true }
def FnRatioDistributeUptoSaid : Prop := fnRatioDistributeUptoRow.holds Try.pinned (OpenSpec.upto fnRatioDistributeSpec)

end Rows
end Go.Proofs.Ytekaceennnphfaa

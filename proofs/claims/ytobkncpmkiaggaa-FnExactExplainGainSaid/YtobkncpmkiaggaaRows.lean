/-
  No cell of these rows narrows 'for every input' (looked for: loops, veiled, ifaces, maps, wideKeys, modest, calm, conditions, laid).
  DERIVED. THE GIVEN ROWS OF THIS SEAT. 9 by the template 'for every input the law returns true; each argument reads behind the call as it read before'; 0 by the template 'total and deterministic' (their statements: YtobkncpmkiaggaaTotals.lean).
  GIVEN WITH THE SEED: the statements are not yours to turn. If you find one false, say at which input.
  Laid BY PROGRAM, IN A SANDBOX (cutbox-rows.mjs): the forced cells as the released guide's own fill.sh prints them over the translation 50aa4a1558fa92fb… (all of the seat's roots in one cut). By AI agents, Wed Nov 11 2026. No macro, syntax, notation, axiom, sorry.
-/
import Derived.Test.YtobkncpmkiaggaaChecked
import GoSem.Claim
import GoSem.ClaimJoined
import GoSem.ClaimMapViews
import Derived.JoinedTies
import Derived.KernelRfl
namespace Go.Proofs.Ytobkncpmkiaggaa
/- THE CELL 'sum', in the pinned program and in every row, IS THE sha256 OF THE DUMP (.gsa) THAT YtobkncpmkiaggaaProg.lean LOADS. Nothing in Lean hashes anything: it is a label: what it is worth is what the hold of that sum in a sandbox is worth. -/
noncomputable def Try.pinned : Pinned := { name := "ytobkncpmkiaggaa", sum := "50aa4a1558fa92fbcc0092802944cd01b39158d98ff9c02a418214b3a9011861", checked := Try.checked }
namespace Rows
def none {H : Type} : Left H := { results := [], args := [] }

/-- 'laws.FnExactValidRepo': WHATEVER THE INPUT: true; the input reads as it did. -/
def fnExactValidRepoSpec : ChangeSpec := { name := "fnExactValidRepo", fn := fun _ => fun
  | [d] => { results := [.lit (.bool true)], args := [d] }
  | _ => none }
def fnExactValidRepoRow : OpenClaim := { program := "ytobkncpmkiaggaa", sum := "50aa4a1558fa92fbcc0092802944cd01b39158d98ff9c02a418214b3a9011861", func := "loop.example/bonddesk/laws.FnExactValidRepo", spec := "fnExactValidRepo", apart := false }
def FnExactValidRepoSaid : Prop := fnExactValidRepoRow.holds Try.pinned (OpenSpec.ofChange fnExactValidRepoSpec)

/-- ITS FALSE NEIGHBOUR: 'it returns false'. Refute it at one input. -/
def fnExactValidRepoWrong : ChangeSpec := { name := "fnExactValidRepo", fn := fun _ => fun
  | [d] => { results := [.lit (.bool false)], args := [d] }
  | _ => none }
def FnExactValidRepoWrongFalsely : Prop := fnExactValidRepoRow.holds Try.pinned (OpenSpec.ofChange fnExactValidRepoWrong)

/-- 'laws.FnExactRateAt': WHATEVER THE INPUT: true; the input reads as it did. -/
def fnExactRateAtSpec : ChangeSpec := { name := "fnExactRateAt", fn := fun _ => fun
  | [d1, d2, d3] => { results := [.lit (.bool true)], args := [d1, d2, d3] }
  | _ => none }
def fnExactRateAtRow : OpenClaim := { program := "ytobkncpmkiaggaa", sum := "50aa4a1558fa92fbcc0092802944cd01b39158d98ff9c02a418214b3a9011861", func := "loop.example/bonddesk/laws.FnExactRateAt", spec := "fnExactRateAt", apart := false }
def FnExactRateAtSaid : Prop := fnExactRateAtRow.holds Try.pinned (OpenSpec.ofChange fnExactRateAtSpec)

/-- ITS FALSE NEIGHBOUR: 'it returns false'. Refute it at one input. -/
def fnExactRateAtWrong : ChangeSpec := { name := "fnExactRateAt", fn := fun _ => fun
  | [d1, d2, d3] => { results := [.lit (.bool false)], args := [d1, d2, d3] }
  | _ => none }
def FnExactRateAtWrongFalsely : Prop := fnExactRateAtRow.holds Try.pinned (OpenSpec.ofChange fnExactRateAtWrong)

/-- 'laws.FnExactWorthOf': WHATEVER THE INPUT: true; the input reads as it did. -/
def fnExactWorthOfSpec : ChangeSpec := { name := "fnExactWorthOf", fn := fun _ => fun
  | [d] => { results := [.lit (.bool true)], args := [d] }
  | _ => none }
def fnExactWorthOfRow : OpenClaim := { program := "ytobkncpmkiaggaa", sum := "50aa4a1558fa92fbcc0092802944cd01b39158d98ff9c02a418214b3a9011861", func := "loop.example/bonddesk/laws.FnExactWorthOf", spec := "fnExactWorthOf", apart := false }
def FnExactWorthOfSaid : Prop := fnExactWorthOfRow.holds Try.pinned (OpenSpec.ofChange fnExactWorthOfSpec)

/-- ITS FALSE NEIGHBOUR: 'it returns false'. Refute it at one input. -/
def fnExactWorthOfWrong : ChangeSpec := { name := "fnExactWorthOf", fn := fun _ => fun
  | [d] => { results := [.lit (.bool false)], args := [d] }
  | _ => none }
def FnExactWorthOfWrongFalsely : Prop := fnExactWorthOfRow.holds Try.pinned (OpenSpec.ofChange fnExactWorthOfWrong)

/-- 'laws.FnExactGainBetween': WHATEVER THE INPUT: true; the input reads as it did. -/
def fnExactGainBetweenSpec : ChangeSpec := { name := "fnExactGainBetween", fn := fun _ => fun
  | [d1, d2, d3, d4] => { results := [.lit (.bool true)], args := [d1, d2, d3, d4] }
  | _ => none }
def fnExactGainBetweenRow : OpenClaim := { program := "ytobkncpmkiaggaa", sum := "50aa4a1558fa92fbcc0092802944cd01b39158d98ff9c02a418214b3a9011861", func := "loop.example/bonddesk/laws.FnExactGainBetween", spec := "fnExactGainBetween", apart := false }
def FnExactGainBetweenSaid : Prop := fnExactGainBetweenRow.holds Try.pinned (OpenSpec.ofChange fnExactGainBetweenSpec)

/-- ITS FALSE NEIGHBOUR: 'it returns false'. Refute it at one input. -/
def fnExactGainBetweenWrong : ChangeSpec := { name := "fnExactGainBetween", fn := fun _ => fun
  | [d1, d2, d3, d4] => { results := [.lit (.bool false)], args := [d1, d2, d3, d4] }
  | _ => none }
def FnExactGainBetweenWrongFalsely : Prop := fnExactGainBetweenRow.holds Try.pinned (OpenSpec.ofChange fnExactGainBetweenWrong)

/-- 'laws.FnExactPledgeFor': WHATEVER THE INPUT: true; the input reads as it did. -/
def fnExactPledgeForSpec : ChangeSpec := { name := "fnExactPledgeFor", fn := fun _ => fun
  | [d1, d2] => { results := [.lit (.bool true)], args := [d1, d2] }
  | _ => none }
def fnExactPledgeForRow : OpenClaim := { program := "ytobkncpmkiaggaa", sum := "50aa4a1558fa92fbcc0092802944cd01b39158d98ff9c02a418214b3a9011861", func := "loop.example/bonddesk/laws.FnExactPledgeFor", spec := "fnExactPledgeFor", apart := false }
def FnExactPledgeForSaid : Prop := fnExactPledgeForRow.holds Try.pinned (OpenSpec.ofChange fnExactPledgeForSpec)

/-- ITS FALSE NEIGHBOUR: 'it returns false'. Refute it at one input. -/
def fnExactPledgeForWrong : ChangeSpec := { name := "fnExactPledgeFor", fn := fun _ => fun
  | [d1, d2] => { results := [.lit (.bool false)], args := [d1, d2] }
  | _ => none }
def FnExactPledgeForWrongFalsely : Prop := fnExactPledgeForRow.holds Try.pinned (OpenSpec.ofChange fnExactPledgeForWrong)

/-- 'laws.FnExactExplainGain': WHATEVER THE INPUT: true; the input reads as it did. -/
def fnExactExplainGainSpec : ChangeSpec := { name := "fnExactExplainGain", fn := fun _ => fun
  | [d1, d2, d3, d4] => { results := [.lit (.bool true)], args := [d1, d2, d3, d4] }
  | _ => none }
def fnExactExplainGainRow : OpenClaim := { program := "ytobkncpmkiaggaa", sum := "50aa4a1558fa92fbcc0092802944cd01b39158d98ff9c02a418214b3a9011861", func := "loop.example/bonddesk/laws.FnExactExplainGain", spec := "fnExactExplainGain", apart := false }
def FnExactExplainGainSaid : Prop := fnExactExplainGainRow.holds Try.pinned (OpenSpec.ofChange fnExactExplainGainSpec)

/-- ITS FALSE NEIGHBOUR: 'it returns false'. Refute it at one input. -/
def fnExactExplainGainWrong : ChangeSpec := { name := "fnExactExplainGain", fn := fun _ => fun
  | [d1, d2, d3, d4] => { results := [.lit (.bool false)], args := [d1, d2, d3, d4] }
  | _ => none }
def FnExactExplainGainWrongFalsely : Prop := fnExactExplainGainRow.holds Try.pinned (OpenSpec.ofChange fnExactExplainGainWrong)

/-- 'laws.FnExactFailCost': WHATEVER THE INPUT: true; the input reads as it did. -/
def fnExactFailCostSpec : ChangeSpec := { name := "fnExactFailCost", fn := fun _ => fun
  | [d1, d2, d3] => { results := [.lit (.bool true)], args := [d1, d2, d3] }
  | _ => none }
def fnExactFailCostRow : OpenClaim := { program := "ytobkncpmkiaggaa", sum := "50aa4a1558fa92fbcc0092802944cd01b39158d98ff9c02a418214b3a9011861", func := "loop.example/bonddesk/laws.FnExactFailCost", spec := "fnExactFailCost", apart := false }
def FnExactFailCostSaid : Prop := fnExactFailCostRow.holds Try.pinned (OpenSpec.ofChange fnExactFailCostSpec)

/-- ITS FALSE NEIGHBOUR: 'it returns false'. Refute it at one input. -/
def fnExactFailCostWrong : ChangeSpec := { name := "fnExactFailCost", fn := fun _ => fun
  | [d1, d2, d3] => { results := [.lit (.bool false)], args := [d1, d2, d3] }
  | _ => none }
def FnExactFailCostWrongFalsely : Prop := fnExactFailCostRow.holds Try.pinned (OpenSpec.ofChange fnExactFailCostWrong)

/-- 'laws.FnExactMarginCall': WHATEVER THE INPUT: true; the input reads as it did. -/
def fnExactMarginCallSpec : ChangeSpec := { name := "fnExactMarginCall", fn := fun _ => fun
  | [d1, d2, d3] => { results := [.lit (.bool true)], args := [d1, d2, d3] }
  | _ => none }
def fnExactMarginCallRow : OpenClaim := { program := "ytobkncpmkiaggaa", sum := "50aa4a1558fa92fbcc0092802944cd01b39158d98ff9c02a418214b3a9011861", func := "loop.example/bonddesk/laws.FnExactMarginCall", spec := "fnExactMarginCall", apart := false }
def FnExactMarginCallSaid : Prop := fnExactMarginCallRow.holds Try.pinned (OpenSpec.ofChange fnExactMarginCallSpec)

/-- ITS FALSE NEIGHBOUR: 'it returns false'. Refute it at one input. -/
def fnExactMarginCallWrong : ChangeSpec := { name := "fnExactMarginCall", fn := fun _ => fun
  | [d1, d2, d3] => { results := [.lit (.bool false)], args := [d1, d2, d3] }
  | _ => none }
def FnExactMarginCallWrongFalsely : Prop := fnExactMarginCallRow.holds Try.pinned (OpenSpec.ofChange fnExactMarginCallWrong)

/-- 'laws.FnWorthOf': WHATEVER THE INPUT: true; the input reads as it did. -/
def fnWorthOfSpec : ChangeSpec := { name := "fnWorthOf", fn := fun _ => fun
  | [d] => { results := [.lit (.bool true)], args := [d] }
  | _ => none }
def fnWorthOfRow : OpenClaim := { program := "ytobkncpmkiaggaa", sum := "50aa4a1558fa92fbcc0092802944cd01b39158d98ff9c02a418214b3a9011861", func := "loop.example/bonddesk/laws.FnWorthOf", spec := "fnWorthOf", apart := false }
def FnWorthOfSaid : Prop := fnWorthOfRow.holds Try.pinned (OpenSpec.ofChange fnWorthOfSpec)

/-- ITS FALSE NEIGHBOUR: 'it returns false'. Refute it at one input. -/
def fnWorthOfWrong : ChangeSpec := { name := "fnWorthOf", fn := fun _ => fun
  | [d] => { results := [.lit (.bool false)], args := [d] }
  | _ => none }
def FnWorthOfWrongFalsely : Prop := fnWorthOfRow.holds Try.pinned (OpenSpec.ofChange fnWorthOfWrong)

/- THE SECOND FORM. 'bulk': how many values and letters a reading holds, each counted each time it is reached (what is shared counts as often as it is met; a slice's spare places count too). A statement '..UptoSaid' is the law's where the arguments, and the package variables that the reading takes, are together of bulk at most 1048576: NARROWER than '..Said'. Prove '..Said' where nothing that the law and all that it calls make is longer than what came in: it says more and counts as full. Else prove '..UptoSaid'. A law counts once. -/
mutual
def uptoBulk {H : Type} : DataW H → Nat
  | .lit (.string bytes) => bytes.length + 1
  | .lit _ => 1
  | .nil => 1
  | .ptr d => uptoBulk d + 1
  | .slice elems spare => uptoBulkAll elems + uptoBulkAll spare + 1
  | .agg parts => uptoBulkAll parts + 1
  | .iface _ d => uptoBulk d + 1
  | .map entries => uptoBulkEntries entries + 1
  | .held _ => 1
def uptoBulkAll {H : Type} : List (DataW H) → Nat
  | [] => 0
  | d :: r => uptoBulk d + uptoBulkAll r
def uptoBulkEntries {H : Type} : List (Lit × DataW H) → Nat
  | [] => 0
  | x :: r => uptoBulkEntry x + uptoBulkEntries r
def uptoBulkEntry {H : Type} : Lit × DataW H → Nat
  | (.string bytes, d) => bytes.length + uptoBulk d + 1
  | (_, d) => uptoBulk d + 1
 end
def uptoSmall : (H : Type) → List (DataW H) → Bool := fun _ ds => decide (uptoBulkAll ds ≤ 1048576)
def OpenSpec.upto (s : _root_.Go.ChangeSpec) : _root_.Go.OpenSpec := { _root_.Go.OpenSpec.ofChange s with cond := some uptoSmall }

/-- 'laws.FnExactValidRepo', WHERE WHAT IT READS IS OF BULK AT MOST 1048576: true; the input reads as it did. -/
def fnExactValidRepoUptoRow : OpenClaim := { program := "ytobkncpmkiaggaa", sum := "50aa4a1558fa92fbcc0092802944cd01b39158d98ff9c02a418214b3a9011861", func := "loop.example/bonddesk/laws.FnExactValidRepo", spec := "fnExactValidRepo", apart := false, narrowed := true }
def FnExactValidRepoUptoSaid : Prop := fnExactValidRepoUptoRow.holds Try.pinned (OpenSpec.upto fnExactValidRepoSpec)

/-- 'laws.FnExactRateAt', WHERE WHAT IT READS IS OF BULK AT MOST 1048576: true; the input reads as it did. -/
def fnExactRateAtUptoRow : OpenClaim := { program := "ytobkncpmkiaggaa", sum := "50aa4a1558fa92fbcc0092802944cd01b39158d98ff9c02a418214b3a9011861", func := "loop.example/bonddesk/laws.FnExactRateAt", spec := "fnExactRateAt", apart := false, narrowed := true }
def FnExactRateAtUptoSaid : Prop := fnExactRateAtUptoRow.holds Try.pinned (OpenSpec.upto fnExactRateAtSpec)

/-- 'laws.FnExactWorthOf', WHERE WHAT IT READS IS OF BULK AT MOST 1048576: true; the input reads as it did. -/
def fnExactWorthOfUptoRow : OpenClaim := { program := "ytobkncpmkiaggaa", sum := "50aa4a1558fa92fbcc0092802944cd01b39158d98ff9c02a418214b3a9011861", func := "loop.example/bonddesk/laws.FnExactWorthOf", spec := "fnExactWorthOf", apart := false, narrowed := true }
def FnExactWorthOfUptoSaid : Prop := fnExactWorthOfUptoRow.holds Try.pinned (OpenSpec.upto fnExactWorthOfSpec)

/-- 'laws.FnExactGainBetween', WHERE WHAT IT READS IS OF BULK AT MOST 1048576: true; the input reads as it did. -/
def fnExactGainBetweenUptoRow : OpenClaim := { program := "ytobkncpmkiaggaa", sum := "50aa4a1558fa92fbcc0092802944cd01b39158d98ff9c02a418214b3a9011861", func := "loop.example/bonddesk/laws.FnExactGainBetween", spec := "fnExactGainBetween", apart := false, narrowed := true }
def FnExactGainBetweenUptoSaid : Prop := fnExactGainBetweenUptoRow.holds Try.pinned (OpenSpec.upto fnExactGainBetweenSpec)

/-- 'laws.FnExactPledgeFor', WHERE WHAT IT READS IS OF BULK AT MOST 1048576: true; the input reads as it did. -/
def fnExactPledgeForUptoRow : OpenClaim := { program := "ytobkncpmkiaggaa", sum := "50aa4a1558fa92fbcc0092802944cd01b39158d98ff9c02a418214b3a9011861", func := "loop.example/bonddesk/laws.FnExactPledgeFor", spec := "fnExactPledgeFor", apart := false, narrowed := true }
def FnExactPledgeForUptoSaid : Prop := fnExactPledgeForUptoRow.holds Try.pinned (OpenSpec.upto fnExactPledgeForSpec)

/-- 'laws.FnExactExplainGain', WHERE WHAT IT READS IS OF BULK AT MOST 1048576: true; the input reads as it did. -/
def fnExactExplainGainUptoRow : OpenClaim := { program := "ytobkncpmkiaggaa", sum := "50aa4a1558fa92fbcc0092802944cd01b39158d98ff9c02a418214b3a9011861", func := "loop.example/bonddesk/laws.FnExactExplainGain", spec := "fnExactExplainGain", apart := false, narrowed := true }
def FnExactExplainGainUptoSaid : Prop := fnExactExplainGainUptoRow.holds Try.pinned (OpenSpec.upto fnExactExplainGainSpec)

/-- 'laws.FnExactFailCost', WHERE WHAT IT READS IS OF BULK AT MOST 1048576: true; the input reads as it did. -/
def fnExactFailCostUptoRow : OpenClaim := { program := "ytobkncpmkiaggaa", sum := "50aa4a1558fa92fbcc0092802944cd01b39158d98ff9c02a418214b3a9011861", func := "loop.example/bonddesk/laws.FnExactFailCost", spec := "fnExactFailCost", apart := false, narrowed := true }
def FnExactFailCostUptoSaid : Prop := fnExactFailCostUptoRow.holds Try.pinned (OpenSpec.upto fnExactFailCostSpec)

/-- 'laws.FnExactMarginCall', WHERE WHAT IT READS IS OF BULK AT MOST 1048576: true; the input reads as it did. -/
def fnExactMarginCallUptoRow : OpenClaim := { program := "ytobkncpmkiaggaa", sum := "50aa4a1558fa92fbcc0092802944cd01b39158d98ff9c02a418214b3a9011861", func := "loop.example/bonddesk/laws.FnExactMarginCall", spec := "fnExactMarginCall", apart := false, narrowed := true }
def FnExactMarginCallUptoSaid : Prop := fnExactMarginCallUptoRow.holds Try.pinned (OpenSpec.upto fnExactMarginCallSpec)

/-- 'laws.FnWorthOf', WHERE WHAT IT READS IS OF BULK AT MOST 1048576: true; the input reads as it did. -/
def fnWorthOfUptoRow : OpenClaim := { program := "ytobkncpmkiaggaa", sum := "50aa4a1558fa92fbcc0092802944cd01b39158d98ff9c02a418214b3a9011861", func := "loop.example/bonddesk/laws.FnWorthOf", spec := "fnWorthOf", apart := false, narrowed := true }
def FnWorthOfUptoSaid : Prop := fnWorthOfUptoRow.holds Try.pinned (OpenSpec.upto fnWorthOfSpec)

end Rows
end Go.Proofs.Ytobkncpmkiaggaa

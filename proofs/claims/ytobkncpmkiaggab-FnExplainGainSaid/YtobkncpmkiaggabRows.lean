/-
  No cell of these rows narrows 'for every input' (looked for: loops, veiled, ifaces, maps, wideKeys, modest, calm, conditions, laid).
  DERIVED. THE GIVEN ROWS OF THIS SEAT. 9 by the template 'for every input the law returns true; each argument reads behind the call as it read before'; 0 by the template 'total and deterministic' (their statements: YtobkncpmkiaggabTotals.lean).
  GIVEN WITH THE SEED: the statements are not yours to turn. If you find one false, say at which input.
  Laid BY PROGRAM, IN A SANDBOX (cutbox-rows.mjs): the forced cells as the released guide's own fill.sh prints them over the translation 3fb111f619ff8ecc… (all of the seat's roots in one cut). By AI agents, Wed Nov 11 2026. No macro, syntax, notation, axiom, sorry.
-/
import Derived.Test.YtobkncpmkiaggabChecked
import GoSem.Claim
import GoSem.ClaimJoined
import GoSem.ClaimMapViews
import Derived.JoinedTies
import Derived.KernelRfl
namespace Go.Proofs.Ytobkncpmkiaggab
/- THE CELL 'sum', in the pinned program and in every row, IS THE sha256 OF THE DUMP (.gsa) THAT YtobkncpmkiaggabProg.lean LOADS. Nothing in Lean hashes anything: it is a label: what it is worth is what the hold of that sum in a sandbox is worth. -/
noncomputable def Try.pinned : Pinned := { name := "ytobkncpmkiaggab", sum := "3fb111f619ff8eccc73016b37b29f7b9c42b20ff3a4b8f056cebc7b84b238e9f", checked := Try.checked }
namespace Rows
def none {H : Type} : Left H := { results := [], args := [] }

/-- 'laws.FnValidRepo': WHATEVER THE INPUT: true; the input reads as it did. -/
def fnValidRepoSpec : ChangeSpec := { name := "fnValidRepo", fn := fun _ => fun
  | [d] => { results := [.lit (.bool true)], args := [d] }
  | _ => none }
def fnValidRepoRow : OpenClaim := { program := "ytobkncpmkiaggab", sum := "3fb111f619ff8eccc73016b37b29f7b9c42b20ff3a4b8f056cebc7b84b238e9f", func := "loop.example/bonddesk/laws.FnValidRepo", spec := "fnValidRepo", apart := false }
def FnValidRepoSaid : Prop := fnValidRepoRow.holds Try.pinned (OpenSpec.ofChange fnValidRepoSpec)

/-- ITS FALSE NEIGHBOUR: 'it returns false'. Refute it at one input. -/
def fnValidRepoWrong : ChangeSpec := { name := "fnValidRepo", fn := fun _ => fun
  | [d] => { results := [.lit (.bool false)], args := [d] }
  | _ => none }
def FnValidRepoWrongFalsely : Prop := fnValidRepoRow.holds Try.pinned (OpenSpec.ofChange fnValidRepoWrong)

/-- 'laws.FnRateAt': WHATEVER THE INPUT: true; the input reads as it did. -/
def fnRateAtSpec : ChangeSpec := { name := "fnRateAt", fn := fun _ => fun
  | [d] => { results := [.lit (.bool true)], args := [d] }
  | _ => none }
def fnRateAtRow : OpenClaim := { program := "ytobkncpmkiaggab", sum := "3fb111f619ff8eccc73016b37b29f7b9c42b20ff3a4b8f056cebc7b84b238e9f", func := "loop.example/bonddesk/laws.FnRateAt", spec := "fnRateAt", apart := false }
def FnRateAtSaid : Prop := fnRateAtRow.holds Try.pinned (OpenSpec.ofChange fnRateAtSpec)

/-- ITS FALSE NEIGHBOUR: 'it returns false'. Refute it at one input. -/
def fnRateAtWrong : ChangeSpec := { name := "fnRateAt", fn := fun _ => fun
  | [d] => { results := [.lit (.bool false)], args := [d] }
  | _ => none }
def FnRateAtWrongFalsely : Prop := fnRateAtRow.holds Try.pinned (OpenSpec.ofChange fnRateAtWrong)

/-- 'laws.FnExplainGainSame': WHATEVER THE INPUT: true; the input reads as it did. -/
def fnExplainGainSameSpec : ChangeSpec := { name := "fnExplainGainSame", fn := fun _ => fun
  | [d] => { results := [.lit (.bool true)], args := [d] }
  | _ => none }
def fnExplainGainSameRow : OpenClaim := { program := "ytobkncpmkiaggab", sum := "3fb111f619ff8eccc73016b37b29f7b9c42b20ff3a4b8f056cebc7b84b238e9f", func := "loop.example/bonddesk/laws.FnExplainGainSame", spec := "fnExplainGainSame", apart := false }
def FnExplainGainSameSaid : Prop := fnExplainGainSameRow.holds Try.pinned (OpenSpec.ofChange fnExplainGainSameSpec)

/-- ITS FALSE NEIGHBOUR: 'it returns false'. Refute it at one input. -/
def fnExplainGainSameWrong : ChangeSpec := { name := "fnExplainGainSame", fn := fun _ => fun
  | [d] => { results := [.lit (.bool false)], args := [d] }
  | _ => none }
def FnExplainGainSameWrongFalsely : Prop := fnExplainGainSameRow.holds Try.pinned (OpenSpec.ofChange fnExplainGainSameWrong)

/-- 'laws.FnExplainGain': WHATEVER THE INPUT: true; the input reads as it did. -/
def fnExplainGainSpec : ChangeSpec := { name := "fnExplainGain", fn := fun _ => fun
  | [d] => { results := [.lit (.bool true)], args := [d] }
  | _ => none }
def fnExplainGainRow : OpenClaim := { program := "ytobkncpmkiaggab", sum := "3fb111f619ff8eccc73016b37b29f7b9c42b20ff3a4b8f056cebc7b84b238e9f", func := "loop.example/bonddesk/laws.FnExplainGain", spec := "fnExplainGain", apart := false }
def FnExplainGainSaid : Prop := fnExplainGainRow.holds Try.pinned (OpenSpec.ofChange fnExplainGainSpec)

/-- ITS FALSE NEIGHBOUR: 'it returns false'. Refute it at one input. -/
def fnExplainGainWrong : ChangeSpec := { name := "fnExplainGain", fn := fun _ => fun
  | [d] => { results := [.lit (.bool false)], args := [d] }
  | _ => none }
def FnExplainGainWrongFalsely : Prop := fnExplainGainRow.holds Try.pinned (OpenSpec.ofChange fnExplainGainWrong)

/-- 'laws.FnFailCost': WHATEVER THE INPUT: true; the input reads as it did. -/
def fnFailCostSpec : ChangeSpec := { name := "fnFailCost", fn := fun _ => fun
  | [d] => { results := [.lit (.bool true)], args := [d] }
  | _ => none }
def fnFailCostRow : OpenClaim := { program := "ytobkncpmkiaggab", sum := "3fb111f619ff8eccc73016b37b29f7b9c42b20ff3a4b8f056cebc7b84b238e9f", func := "loop.example/bonddesk/laws.FnFailCost", spec := "fnFailCost", apart := false }
def FnFailCostSaid : Prop := fnFailCostRow.holds Try.pinned (OpenSpec.ofChange fnFailCostSpec)

/-- ITS FALSE NEIGHBOUR: 'it returns false'. Refute it at one input. -/
def fnFailCostWrong : ChangeSpec := { name := "fnFailCost", fn := fun _ => fun
  | [d] => { results := [.lit (.bool false)], args := [d] }
  | _ => none }
def FnFailCostWrongFalsely : Prop := fnFailCostRow.holds Try.pinned (OpenSpec.ofChange fnFailCostWrong)

/-- 'laws.FnGainBetween': WHATEVER THE INPUT: true; the input reads as it did. -/
def fnGainBetweenSpec : ChangeSpec := { name := "fnGainBetween", fn := fun _ => fun
  | [d] => { results := [.lit (.bool true)], args := [d] }
  | _ => none }
def fnGainBetweenRow : OpenClaim := { program := "ytobkncpmkiaggab", sum := "3fb111f619ff8eccc73016b37b29f7b9c42b20ff3a4b8f056cebc7b84b238e9f", func := "loop.example/bonddesk/laws.FnGainBetween", spec := "fnGainBetween", apart := false }
def FnGainBetweenSaid : Prop := fnGainBetweenRow.holds Try.pinned (OpenSpec.ofChange fnGainBetweenSpec)

/-- ITS FALSE NEIGHBOUR: 'it returns false'. Refute it at one input. -/
def fnGainBetweenWrong : ChangeSpec := { name := "fnGainBetween", fn := fun _ => fun
  | [d] => { results := [.lit (.bool false)], args := [d] }
  | _ => none }
def FnGainBetweenWrongFalsely : Prop := fnGainBetweenRow.holds Try.pinned (OpenSpec.ofChange fnGainBetweenWrong)

/-- 'laws.FnPledgeFor': WHATEVER THE INPUT: true; the input reads as it did. -/
def fnPledgeForSpec : ChangeSpec := { name := "fnPledgeFor", fn := fun _ => fun
  | [d] => { results := [.lit (.bool true)], args := [d] }
  | _ => none }
def fnPledgeForRow : OpenClaim := { program := "ytobkncpmkiaggab", sum := "3fb111f619ff8eccc73016b37b29f7b9c42b20ff3a4b8f056cebc7b84b238e9f", func := "loop.example/bonddesk/laws.FnPledgeFor", spec := "fnPledgeFor", apart := false }
def FnPledgeForSaid : Prop := fnPledgeForRow.holds Try.pinned (OpenSpec.ofChange fnPledgeForSpec)

/-- ITS FALSE NEIGHBOUR: 'it returns false'. Refute it at one input. -/
def fnPledgeForWrong : ChangeSpec := { name := "fnPledgeFor", fn := fun _ => fun
  | [d] => { results := [.lit (.bool false)], args := [d] }
  | _ => none }
def FnPledgeForWrongFalsely : Prop := fnPledgeForRow.holds Try.pinned (OpenSpec.ofChange fnPledgeForWrong)

/-- 'laws.FnPledgeForPrice': WHATEVER THE INPUT: true; the input reads as it did. -/
def fnPledgeForPriceSpec : ChangeSpec := { name := "fnPledgeForPrice", fn := fun _ => fun
  | [d] => { results := [.lit (.bool true)], args := [d] }
  | _ => none }
def fnPledgeForPriceRow : OpenClaim := { program := "ytobkncpmkiaggab", sum := "3fb111f619ff8eccc73016b37b29f7b9c42b20ff3a4b8f056cebc7b84b238e9f", func := "loop.example/bonddesk/laws.FnPledgeForPrice", spec := "fnPledgeForPrice", apart := false }
def FnPledgeForPriceSaid : Prop := fnPledgeForPriceRow.holds Try.pinned (OpenSpec.ofChange fnPledgeForPriceSpec)

/-- ITS FALSE NEIGHBOUR: 'it returns false'. Refute it at one input. -/
def fnPledgeForPriceWrong : ChangeSpec := { name := "fnPledgeForPrice", fn := fun _ => fun
  | [d] => { results := [.lit (.bool false)], args := [d] }
  | _ => none }
def FnPledgeForPriceWrongFalsely : Prop := fnPledgeForPriceRow.holds Try.pinned (OpenSpec.ofChange fnPledgeForPriceWrong)

/-- 'laws.FnMarginCall': WHATEVER THE INPUT: true; the input reads as it did. -/
def fnMarginCallSpec : ChangeSpec := { name := "fnMarginCall", fn := fun _ => fun
  | [d] => { results := [.lit (.bool true)], args := [d] }
  | _ => none }
def fnMarginCallRow : OpenClaim := { program := "ytobkncpmkiaggab", sum := "3fb111f619ff8eccc73016b37b29f7b9c42b20ff3a4b8f056cebc7b84b238e9f", func := "loop.example/bonddesk/laws.FnMarginCall", spec := "fnMarginCall", apart := false }
def FnMarginCallSaid : Prop := fnMarginCallRow.holds Try.pinned (OpenSpec.ofChange fnMarginCallSpec)

/-- ITS FALSE NEIGHBOUR: 'it returns false'. Refute it at one input. -/
def fnMarginCallWrong : ChangeSpec := { name := "fnMarginCall", fn := fun _ => fun
  | [d] => { results := [.lit (.bool false)], args := [d] }
  | _ => none }
def FnMarginCallWrongFalsely : Prop := fnMarginCallRow.holds Try.pinned (OpenSpec.ofChange fnMarginCallWrong)

/- THE SECOND FORM. 'bulk': how many values and letters a reading holds, each counted each time it is reached (what is shared counts as often as it is met; a slice's spare places count too). A statement '..UptoSaid' is the law's where the arguments, and the package variables that the reading takes, are together of bulk at most 1048576: NARROWER than '..Said'. Prove '..Said' where nothing that the law and all that it calls make is longer than what came in: it says more and counts as full. Else prove '..UptoSaid'. A law counts once. -/
mutual
def uptoBulk {H : Type} : DataW H → Nat
  | .lit (.string bytes) => bytes.length + 1
  | .lit _ => 1
  | .nil => 1
  | .ptr d => uptoBulk d + 1
  | .slice elems spare => uptoBulkAll elems + uptoBulkAll spare + 1
  | .agg parts => uptoBulkAll parts + 1
  | .iface _ d => uptoBulk d + 1
  | .map entries => uptoBulkEntries entries + 1
  | .held _ => 1
def uptoBulkAll {H : Type} : List (DataW H) → Nat
  | [] => 0
  | d :: r => uptoBulk d + uptoBulkAll r
def uptoBulkEntries {H : Type} : List (Lit × DataW H) → Nat
  | [] => 0
  | x :: r => uptoBulkEntry x + uptoBulkEntries r
def uptoBulkEntry {H : Type} : Lit × DataW H → Nat
  | (.string bytes, d) => bytes.length + uptoBulk d + 1
  | (_, d) => uptoBulk d + 1
 end
def uptoSmall : (H : Type) → List (DataW H) → Bool := fun _ ds => decide (uptoBulkAll ds ≤ 1048576)
def OpenSpec.upto (s : _root_.Go.ChangeSpec) : _root_.Go.OpenSpec := { _root_.Go.OpenSpec.ofChange s with cond := some uptoSmall }

/-- 'laws.FnValidRepo', WHERE WHAT IT READS IS OF BULK AT MOST 1048576: true; the input reads as it did. -/
def fnValidRepoUptoRow : OpenClaim := { program := "ytobkncpmkiaggab", sum := "3fb111f619ff8eccc73016b37b29f7b9c42b20ff3a4b8f056cebc7b84b238e9f", func := "loop.example/bonddesk/laws.FnValidRepo", spec := "fnValidRepo", apart := false, narrowed := true }
def FnValidRepoUptoSaid : Prop := fnValidRepoUptoRow.holds Try.pinned (OpenSpec.upto fnValidRepoSpec)

/-- 'laws.FnRateAt', WHERE WHAT IT READS IS OF BULK AT MOST 1048576: true; the input reads as it did. -/
def fnRateAtUptoRow : OpenClaim := { program := "ytobkncpmkiaggab", sum := "3fb111f619ff8eccc73016b37b29f7b9c42b20ff3a4b8f056cebc7b84b238e9f", func := "loop.example/bonddesk/laws.FnRateAt", spec := "fnRateAt", apart := false, narrowed := true }
def FnRateAtUptoSaid : Prop := fnRateAtUptoRow.holds Try.pinned (OpenSpec.upto fnRateAtSpec)

/-- 'laws.FnExplainGainSame', WHERE WHAT IT READS IS OF BULK AT MOST 1048576: true; the input reads as it did. -/
def fnExplainGainSameUptoRow : OpenClaim := { program := "ytobkncpmkiaggab", sum := "3fb111f619ff8eccc73016b37b29f7b9c42b20ff3a4b8f056cebc7b84b238e9f", func := "loop.example/bonddesk/laws.FnExplainGainSame", spec := "fnExplainGainSame", apart := false, narrowed := true }
def FnExplainGainSameUptoSaid : Prop := fnExplainGainSameUptoRow.holds Try.pinned (OpenSpec.upto fnExplainGainSameSpec)

/-- 'laws.FnExplainGain', WHERE WHAT IT READS IS OF BULK AT MOST 1048576: true; the input reads as it did. -/
def fnExplainGainUptoRow : OpenClaim := { program := "ytobkncpmkiaggab", sum := "3fb111f619ff8eccc73016b37b29f7b9c42b20ff3a4b8f056cebc7b84b238e9f", func := "loop.example/bonddesk/laws.FnExplainGain", spec := "fnExplainGain", apart := false, narrowed := true }
def FnExplainGainUptoSaid : Prop := fnExplainGainUptoRow.holds Try.pinned (OpenSpec.upto fnExplainGainSpec)

/-- 'laws.FnFailCost', WHERE WHAT IT READS IS OF BULK AT MOST 1048576: true; the input reads as it did. -/
def fnFailCostUptoRow : OpenClaim := { program := "ytobkncpmkiaggab", sum := "3fb111f619ff8eccc73016b37b29f7b9c42b20ff3a4b8f056cebc7b84b238e9f", func := "loop.example/bonddesk/laws.FnFailCost", spec := "fnFailCost", apart := false, narrowed := true }
def FnFailCostUptoSaid : Prop := fnFailCostUptoRow.holds Try.pinned (OpenSpec.upto fnFailCostSpec)

/-- 'laws.FnGainBetween', WHERE WHAT IT READS IS OF BULK AT MOST 1048576: true; the input reads as it did. -/
def fnGainBetweenUptoRow : OpenClaim := { program := "ytobkncpmkiaggab", sum := "3fb111f619ff8eccc73016b37b29f7b9c42b20ff3a4b8f056cebc7b84b238e9f", func := "loop.example/bonddesk/laws.FnGainBetween", spec := "fnGainBetween", apart := false, narrowed := true }
def FnGainBetweenUptoSaid : Prop := fnGainBetweenUptoRow.holds Try.pinned (OpenSpec.upto fnGainBetweenSpec)

/-- 'laws.FnPledgeFor', WHERE WHAT IT READS IS OF BULK AT MOST 1048576: true; the input reads as it did. -/
def fnPledgeForUptoRow : OpenClaim := { program := "ytobkncpmkiaggab", sum := "3fb111f619ff8eccc73016b37b29f7b9c42b20ff3a4b8f056cebc7b84b238e9f", func := "loop.example/bonddesk/laws.FnPledgeFor", spec := "fnPledgeFor", apart := false, narrowed := true }
def FnPledgeForUptoSaid : Prop := fnPledgeForUptoRow.holds Try.pinned (OpenSpec.upto fnPledgeForSpec)

/-- 'laws.FnPledgeForPrice', WHERE WHAT IT READS IS OF BULK AT MOST 1048576: true; the input reads as it did. -/
def fnPledgeForPriceUptoRow : OpenClaim := { program := "ytobkncpmkiaggab", sum := "3fb111f619ff8eccc73016b37b29f7b9c42b20ff3a4b8f056cebc7b84b238e9f", func := "loop.example/bonddesk/laws.FnPledgeForPrice", spec := "fnPledgeForPrice", apart := false, narrowed := true }
def FnPledgeForPriceUptoSaid : Prop := fnPledgeForPriceUptoRow.holds Try.pinned (OpenSpec.upto fnPledgeForPriceSpec)

/-- 'laws.FnMarginCall', WHERE WHAT IT READS IS OF BULK AT MOST 1048576: true; the input reads as it did. -/
def fnMarginCallUptoRow : OpenClaim := { program := "ytobkncpmkiaggab", sum := "3fb111f619ff8eccc73016b37b29f7b9c42b20ff3a4b8f056cebc7b84b238e9f", func := "loop.example/bonddesk/laws.FnMarginCall", spec := "fnMarginCall", apart := false, narrowed := true }
def FnMarginCallUptoSaid : Prop := fnMarginCallUptoRow.holds Try.pinned (OpenSpec.upto fnMarginCallSpec)

end Rows
end Go.Proofs.Ytobkncpmkiaggab

/-
  No cell of these rows narrows 'for every input' (looked for: loops, veiled, ifaces, maps, wideKeys, modest, calm, conditions, laid).
  DERIVED. THE GIVEN ROWS OF THIS SEAT. 4 by the template 'for every input the law returns true; each argument reads behind the call as it read before'; 0 by the template 'total and deterministic' (their statements: YtdfkdljddjbfnaaTotals.lean).
  GIVEN WITH THE SEED: the statements are not yours to turn. If you find one false, say at which input.
  Laid BY PROGRAM, IN A SANDBOX (cutbox-rows.mjs): the forced cells as the released guide's own fill.sh prints them over the translation bf0bcafc15e94b43… (all of the seat's roots in one cut). By AI agents, Wed Nov 11 2026. No macro, syntax, notation, axiom, sorry.
-/
import Derived.Test.YtdfkdljddjbfnaaChecked
import GoSem.Claim
import GoSem.ClaimJoined
import GoSem.ClaimMapViews
import Derived.JoinedTies
import Derived.KernelRfl
namespace Go.Proofs.Ytdfkdljddjbfnaa
/- THE CELL 'sum', in the pinned program and in every row, IS THE sha256 OF THE DUMP (.gsa) THAT YtdfkdljddjbfnaaProg.lean LOADS. Nothing in Lean hashes anything: it is a label: what it is worth is what the hold of that sum in a sandbox is worth. -/
noncomputable def Try.pinned : Pinned := { name := "ytdfkdljddjbfnaa", sum := "bf0bcafc15e94b434b058081f7563bb499434d0e20641d64c0ad7294a99e6aa4", checked := Try.checked }
namespace Rows
def none {H : Type} : Left H := { results := [], args := [] }

/-- 'laws.FnValidTrades': WHATEVER THE INPUT: true; the input reads as it did. -/
def fnValidTradesSpec : ChangeSpec := { name := "fnValidTrades", fn := fun _ => fun
  | [d] => { results := [.lit (.bool true)], args := [d] }
  | _ => none }
def fnValidTradesRow : OpenClaim := { program := "ytdfkdljddjbfnaa", sum := "bf0bcafc15e94b434b058081f7563bb499434d0e20641d64c0ad7294a99e6aa4", func := "loop.example/bonddesk/laws.FnValidTrades", spec := "fnValidTrades", apart := false }
def FnValidTradesSaid : Prop := fnValidTradesRow.holds Try.pinned (OpenSpec.ofChange fnValidTradesSpec)

/-- ITS FALSE NEIGHBOUR: 'it returns false'. Refute it at one input. -/
def fnValidTradesWrong : ChangeSpec := { name := "fnValidTrades", fn := fun _ => fun
  | [d] => { results := [.lit (.bool false)], args := [d] }
  | _ => none }
def FnValidTradesWrongFalsely : Prop := fnValidTradesRow.holds Try.pinned (OpenSpec.ofChange fnValidTradesWrong)

/-- 'laws.FnExactValidTrades': WHATEVER THE INPUT: true; the input reads as it did. -/
def fnExactValidTradesSpec : ChangeSpec := { name := "fnExactValidTrades", fn := fun _ => fun
  | [d] => { results := [.lit (.bool true)], args := [d] }
  | _ => none }
def fnExactValidTradesRow : OpenClaim := { program := "ytdfkdljddjbfnaa", sum := "bf0bcafc15e94b434b058081f7563bb499434d0e20641d64c0ad7294a99e6aa4", func := "loop.example/bonddesk/laws.FnExactValidTrades", spec := "fnExactValidTrades", apart := false }
def FnExactValidTradesSaid : Prop := fnExactValidTradesRow.holds Try.pinned (OpenSpec.ofChange fnExactValidTradesSpec)

/-- ITS FALSE NEIGHBOUR: 'it returns false'. Refute it at one input. -/
def fnExactValidTradesWrong : ChangeSpec := { name := "fnExactValidTrades", fn := fun _ => fun
  | [d] => { results := [.lit (.bool false)], args := [d] }
  | _ => none }
def FnExactValidTradesWrongFalsely : Prop := fnExactValidTradesRow.holds Try.pinned (OpenSpec.ofChange fnExactValidTradesWrong)

/-- 'laws.FnExactPositionAt': WHATEVER THE INPUT: true; the input reads as it did. -/
def fnExactPositionAtSpec : ChangeSpec := { name := "fnExactPositionAt", fn := fun _ => fun
  | [d1, d2] => { results := [.lit (.bool true)], args := [d1, d2] }
  | _ => none }
def fnExactPositionAtRow : OpenClaim := { program := "ytdfkdljddjbfnaa", sum := "bf0bcafc15e94b434b058081f7563bb499434d0e20641d64c0ad7294a99e6aa4", func := "loop.example/bonddesk/laws.FnExactPositionAt", spec := "fnExactPositionAt", apart := false }
def FnExactPositionAtSaid : Prop := fnExactPositionAtRow.holds Try.pinned (OpenSpec.ofChange fnExactPositionAtSpec)

/-- ITS FALSE NEIGHBOUR: 'it returns false'. Refute it at one input. -/
def fnExactPositionAtWrong : ChangeSpec := { name := "fnExactPositionAt", fn := fun _ => fun
  | [d1, d2] => { results := [.lit (.bool false)], args := [d1, d2] }
  | _ => none }
def FnExactPositionAtWrongFalsely : Prop := fnExactPositionAtRow.holds Try.pinned (OpenSpec.ofChange fnExactPositionAtWrong)

/-- 'laws.FnExactPostTrades': WHATEVER THE INPUT: true; the input reads as it did. -/
def fnExactPostTradesSpec : ChangeSpec := { name := "fnExactPostTrades", fn := fun _ => fun
  | [d] => { results := [.lit (.bool true)], args := [d] }
  | _ => none }
def fnExactPostTradesRow : OpenClaim := { program := "ytdfkdljddjbfnaa", sum := "bf0bcafc15e94b434b058081f7563bb499434d0e20641d64c0ad7294a99e6aa4", func := "loop.example/bonddesk/laws.FnExactPostTrades", spec := "fnExactPostTrades", apart := false }
def FnExactPostTradesSaid : Prop := fnExactPostTradesRow.holds Try.pinned (OpenSpec.ofChange fnExactPostTradesSpec)

/-- ITS FALSE NEIGHBOUR: 'it returns false'. Refute it at one input. -/
def fnExactPostTradesWrong : ChangeSpec := { name := "fnExactPostTrades", fn := fun _ => fun
  | [d] => { results := [.lit (.bool false)], args := [d] }
  | _ => none }
def FnExactPostTradesWrongFalsely : Prop := fnExactPostTradesRow.holds Try.pinned (OpenSpec.ofChange fnExactPostTradesWrong)

/- THE SECOND FORM. 'bulk': how many values and letters a reading holds, each counted each time it is reached (what is shared counts as often as it is met; a slice's spare places count too). A statement '..UptoSaid' is the law's where the arguments, and the package variables that the reading takes, are together of bulk at most 1048576: NARROWER than '..Said'. Prove '..Said' where nothing that the law and all that it calls make is longer than what came in: it says more and counts as full. Else prove '..UptoSaid'. A law counts once. -/
mutual
def uptoBulk {H : Type} : DataW H → Nat
  | .lit (.string bytes) => bytes.length + 1
  | .lit _ => 1
  | .nil => 1
  | .ptr d => uptoBulk d + 1
  | .slice elems spare => uptoBulkAll elems + uptoBulkAll spare + 1
  | .agg parts => uptoBulkAll parts + 1
  | .iface _ d => uptoBulk d + 1
  | .map entries => uptoBulkEntries entries + 1
  | .held _ => 1
def uptoBulkAll {H : Type} : List (DataW H) → Nat
  | [] => 0
  | d :: r => uptoBulk d + uptoBulkAll r
def uptoBulkEntries {H : Type} : List (Lit × DataW H) → Nat
  | [] => 0
  | x :: r => uptoBulkEntry x + uptoBulkEntries r
def uptoBulkEntry {H : Type} : Lit × DataW H → Nat
  | (.string bytes, d) => bytes.length + uptoBulk d + 1
  | (_, d) => uptoBulk d + 1
 end
def uptoSmall : (H : Type) → List (DataW H) → Bool := fun _ ds => decide (uptoBulkAll ds ≤ 1048576)
def OpenSpec.upto (s : _root_.Go.ChangeSpec) : _root_.Go.OpenSpec := { _root_.Go.OpenSpec.ofChange s with cond := some uptoSmall }

/-- 'laws.FnValidTrades', WHERE WHAT IT READS IS OF BULK AT MOST 1048576: true; the input reads as it did. -/
def fnValidTradesUptoRow : OpenClaim := { program := "ytdfkdljddjbfnaa", sum := "bf0bcafc15e94b434b058081f7563bb499434d0e20641d64c0ad7294a99e6aa4", func := "loop.example/bonddesk/laws.FnValidTrades", spec := "fnValidTrades", apart := false, narrowed := true }
def FnValidTradesUptoSaid : Prop := fnValidTradesUptoRow.holds Try.pinned (OpenSpec.upto fnValidTradesSpec)

/-- 'laws.FnExactValidTrades', WHERE WHAT IT READS IS OF BULK AT MOST 1048576: true; the input reads as it did. -/
def fnExactValidTradesUptoRow : OpenClaim := { program := "ytdfkdljddjbfnaa", sum := "bf0bcafc15e94b434b058081f7563bb499434d0e20641d64c0ad7294a99e6aa4", func := "loop.example/bonddesk/laws.FnExactValidTrades", spec := "fnExactValidTrades", apart := false, narrowed := true }
def FnExactValidTradesUptoSaid : Prop := fnExactValidTradesUptoRow.holds Try.pinned (OpenSpec.upto fnExactValidTradesSpec)

/-- 'laws.FnExactPositionAt', WHERE WHAT IT READS IS OF BULK AT MOST 1048576: true; the input reads as it did. -/
def fnExactPositionAtUptoRow : OpenClaim := { program := "ytdfkdljddjbfnaa", sum := "bf0bcafc15e94b434b058081f7563bb499434d0e20641d64c0ad7294a99e6aa4", func := "loop.example/bonddesk/laws.FnExactPositionAt", spec := "fnExactPositionAt", apart := false, narrowed := true }
def FnExactPositionAtUptoSaid : Prop := fnExactPositionAtUptoRow.holds Try.pinned (OpenSpec.upto fnExactPositionAtSpec)

/-- 'laws.FnExactPostTrades', WHERE WHAT IT READS IS OF BULK AT MOST 1048576: true; the input reads as it did. -/
def fnExactPostTradesUptoRow : OpenClaim := { program := "ytdfkdljddjbfnaa", sum := "bf0bcafc15e94b434b058081f7563bb499434d0e20641d64c0ad7294a99e6aa4", func := "loop.example/bonddesk/laws.FnExactPostTrades", spec := "fnExactPostTrades", apart := false, narrowed := true }
def FnExactPostTradesUptoSaid : Prop := fnExactPostTradesUptoRow.holds Try.pinned (OpenSpec.upto fnExactPostTradesSpec)

end Rows
end Go.Proofs.Ytdfkdljddjbfnaa

/-
  No cell of these rows narrows 'for every input' (looked for: loops, veiled, ifaces, maps, wideKeys, modest, calm, conditions, laid).
  DERIVED. THE GIVEN ROWS OF THIS SEAT. 2 by the template 'for every input the law returns true; each argument reads behind the call as it read before'; 0 by the template 'total and deterministic' (their statements: YtgdjckehmlliaaaTotals.lean).
  GIVEN WITH THE SEED: the statements are not yours to turn. If you find one false, say at which input.
  Laid BY PROGRAM, IN A SANDBOX (cutbox-rows.mjs): the forced cells as the released guide's own fill.sh prints them over the translation 3383ab39759d7711… (all of the seat's roots in one cut). By AI agents, Wed Nov 11 2026. No macro, syntax, notation, axiom, sorry.
-/
import Derived.Test.YtgdjckehmlliaaaChecked
import GoSem.Claim
import GoSem.ClaimJoined
import GoSem.ClaimMapViews
import Derived.JoinedTies
import Derived.KernelRfl
namespace Go.Proofs.Ytgdjckehmlliaaa
/- THE CELL 'sum', in the pinned program and in every row, IS THE sha256 OF THE DUMP (.gsa) THAT YtgdjckehmlliaaaProg.lean LOADS. Nothing in Lean hashes anything: it is a label: what it is worth is what the hold of that sum in a sandbox is worth. -/
noncomputable def Try.pinned : Pinned := { name := "ytgdjckehmlliaaa", sum := "3383ab39759d7711d5e4819e9e0a79f805fa02dc521d571b42fdbed6577b4ae8", checked := Try.checked }
namespace Rows
def none {H : Type} : Left H := { results := [], args := [] }

/-- 'laws.FnExactSettleDay': WHATEVER THE INPUT: true; the input reads as it did. -/
def fnExactSettleDaySpec : ChangeSpec := { name := "fnExactSettleDay", fn := fun _ => fun
  | [d1, d2, d3] => { results := [.lit (.bool true)], args := [d1, d2, d3] }
  | _ => none }
def fnExactSettleDayRow : OpenClaim := { program := "ytgdjckehmlliaaa", sum := "3383ab39759d7711d5e4819e9e0a79f805fa02dc521d571b42fdbed6577b4ae8", func := "loop.example/bonddesk/laws.FnExactSettleDay", spec := "fnExactSettleDay", apart := false }
def FnExactSettleDaySaid : Prop := fnExactSettleDayRow.holds Try.pinned (OpenSpec.ofChange fnExactSettleDaySpec)

/-- ITS FALSE NEIGHBOUR: 'it returns false'. Refute it at one input. -/
def fnExactSettleDayWrong : ChangeSpec := { name := "fnExactSettleDay", fn := fun _ => fun
  | [d1, d2, d3] => { results := [.lit (.bool false)], args := [d1, d2, d3] }
  | _ => none }
def FnExactSettleDayWrongFalsely : Prop := fnExactSettleDayRow.holds Try.pinned (OpenSpec.ofChange fnExactSettleDayWrong)

/-- 'laws.FnSettleDay': WHATEVER THE INPUT: true; the input reads as it did. -/
def fnSettleDaySpec : ChangeSpec := { name := "fnSettleDay", fn := fun _ => fun
  | [d] => { results := [.lit (.bool true)], args := [d] }
  | _ => none }
def fnSettleDayRow : OpenClaim := { program := "ytgdjckehmlliaaa", sum := "3383ab39759d7711d5e4819e9e0a79f805fa02dc521d571b42fdbed6577b4ae8", func := "loop.example/bonddesk/laws.FnSettleDay", spec := "fnSettleDay", apart := false }
def FnSettleDaySaid : Prop := fnSettleDayRow.holds Try.pinned (OpenSpec.ofChange fnSettleDaySpec)

/-- ITS FALSE NEIGHBOUR: 'it returns false'. Refute it at one input. -/
def fnSettleDayWrong : ChangeSpec := { name := "fnSettleDay", fn := fun _ => fun
  | [d] => { results := [.lit (.bool false)], args := [d] }
  | _ => none }
def FnSettleDayWrongFalsely : Prop := fnSettleDayRow.holds Try.pinned (OpenSpec.ofChange fnSettleDayWrong)

/- THE SECOND FORM. 'bulk': how many values and letters a reading holds, each counted each time it is reached (what is shared counts as often as it is met; a slice's spare places count too). A statement '..UptoSaid' is the law's where the arguments, and the package variables that the reading takes, are together of bulk at most 1048576: NARROWER than '..Said'. Prove '..Said' where nothing that the law and all that it calls make is longer than what came in: it says more and counts as full. Else prove '..UptoSaid'. A law counts once. -/
mutual
def uptoBulk {H : Type} : DataW H → Nat
  | .lit (.string bytes) => bytes.length + 1
  | .lit _ => 1
  | .nil => 1
  | .ptr d => uptoBulk d + 1
  | .slice elems spare => uptoBulkAll elems + uptoBulkAll spare + 1
  | .agg parts => uptoBulkAll parts + 1
  | .iface _ d => uptoBulk d + 1
  | .map entries => uptoBulkEntries entries + 1
  | .held _ => 1
def uptoBulkAll {H : Type} : List (DataW H) → Nat
  | [] => 0
  | d :: r => uptoBulk d + uptoBulkAll r
def uptoBulkEntries {H : Type} : List (Lit × DataW H) → Nat
  | [] => 0
  | x :: r => uptoBulkEntry x + uptoBulkEntries r
def uptoBulkEntry {H : Type} : Lit × DataW H → Nat
  | (.string bytes, d) => bytes.length + uptoBulk d + 1
  | (_, d) => uptoBulk d + 1
 end
def uptoSmall : (H : Type) → List (DataW H) → Bool := fun _ ds => decide (uptoBulkAll ds ≤ 1048576)
def OpenSpec.upto (s : _root_.Go.ChangeSpec) : _root_.Go.OpenSpec := { _root_.Go.OpenSpec.ofChange s with cond := some uptoSmall }

/-- 'laws.FnExactSettleDay', WHERE WHAT IT READS IS OF BULK AT MOST 1048576: true; the input reads as it did. -/
def fnExactSettleDayUptoRow : OpenClaim := { program := "ytgdjckehmlliaaa", sum := "3383ab39759d7711d5e4819e9e0a79f805fa02dc521d571b42fdbed6577b4ae8", func := "loop.example/bonddesk/laws.FnExactSettleDay", spec := "fnExactSettleDay", apart := false, narrowed := true }
def FnExactSettleDayUptoSaid : Prop := fnExactSettleDayUptoRow.holds Try.pinned (OpenSpec.upto fnExactSettleDaySpec)

/-- 'laws.FnSettleDay', WHERE WHAT IT READS IS OF BULK AT MOST 1048576: true; the input reads as it did. -/
def fnSettleDayUptoRow : OpenClaim := { program := "ytgdjckehmlliaaa", sum := "3383ab39759d7711d5e4819e9e0a79f805fa02dc521d571b42fdbed6577b4ae8", func := "loop.example/bonddesk/laws.FnSettleDay", spec := "fnSettleDay", apart := false, narrowed := true }
def FnSettleDayUptoSaid : Prop := fnSettleDayUptoRow.holds Try.pinned (OpenSpec.upto fnSettleDaySpec)

end Rows
end Go.Proofs.Ytgdjckehmlliaaa

/-
  No cell of these rows narrows 'for every input' (looked for: loops, veiled, ifaces, maps, wideKeys, modest, calm, conditions, laid).
  DERIVED. THE GIVEN ROWS OF THIS SEAT. 8 by the template 'for every input the law returns true; each argument reads behind the call as it read before'; 0 by the template 'total and deterministic' (their statements: YtnapimpnelkhcaaTotals.lean).
  GIVEN WITH THE SEED: the statements are not yours to turn. If you find one false, say at which input.
  Laid BY PROGRAM, IN A SANDBOX (cutbox-rows.mjs): the forced cells as the released guide's own fill.sh prints them over the translation 71f3fea08fc19f7b… (all of the seat's roots in one cut). By AI agents, Wed Nov 11 2026. No macro, syntax, notation, axiom, sorry.
-/
import Derived.Test.YtnapimpnelkhcaaChecked
import GoSem.Claim
import GoSem.ClaimJoined
import GoSem.ClaimMapViews
import Derived.JoinedTies
import Derived.KernelRfl
namespace Go.Proofs.Ytnapimpnelkhcaa
/- THE CELL 'sum', in the pinned program and in every row, IS THE sha256 OF THE DUMP (.gsa) THAT YtnapimpnelkhcaaProg.lean LOADS. Nothing in Lean hashes anything: it is a label: what it is worth is what the hold of that sum in a sandbox is worth. -/
noncomputable def Try.pinned : Pinned := { name := "ytnapimpnelkhcaa", sum := "71f3fea08fc19f7be45bb47cf634e0b3f8e4b729a0f1e72457091b4aa0f7ccbd", checked := Try.checked }
namespace Rows
def none {H : Type} : Left H := { results := [], args := [] }

/-- 'laws.FnPositionAt': WHATEVER THE INPUT: true; the input reads as it did. -/
def fnPositionAtSpec : ChangeSpec := { name := "fnPositionAt", fn := fun _ => fun
  | [d] => { results := [.lit (.bool true)], args := [d] }
  | _ => none }
def fnPositionAtRow : OpenClaim := { program := "ytnapimpnelkhcaa", sum := "71f3fea08fc19f7be45bb47cf634e0b3f8e4b729a0f1e72457091b4aa0f7ccbd", func := "loop.example/bonddesk/laws.FnPositionAt", spec := "fnPositionAt", apart := false }
def FnPositionAtSaid : Prop := fnPositionAtRow.holds Try.pinned (OpenSpec.ofChange fnPositionAtSpec)

/-- ITS FALSE NEIGHBOUR: 'it returns false'. Refute it at one input. -/
def fnPositionAtWrong : ChangeSpec := { name := "fnPositionAt", fn := fun _ => fun
  | [d] => { results := [.lit (.bool false)], args := [d] }
  | _ => none }
def FnPositionAtWrongFalsely : Prop := fnPositionAtRow.holds Try.pinned (OpenSpec.ofChange fnPositionAtWrong)

/-- 'laws.FnGainOfFlat': WHATEVER THE INPUT: true; the input reads as it did. -/
def fnGainOfFlatSpec : ChangeSpec := { name := "fnGainOfFlat", fn := fun _ => fun
  | [d] => { results := [.lit (.bool true)], args := [d] }
  | _ => none }
def fnGainOfFlatRow : OpenClaim := { program := "ytnapimpnelkhcaa", sum := "71f3fea08fc19f7be45bb47cf634e0b3f8e4b729a0f1e72457091b4aa0f7ccbd", func := "loop.example/bonddesk/laws.FnGainOfFlat", spec := "fnGainOfFlat", apart := false }
def FnGainOfFlatSaid : Prop := fnGainOfFlatRow.holds Try.pinned (OpenSpec.ofChange fnGainOfFlatSpec)

/-- ITS FALSE NEIGHBOUR: 'it returns false'. Refute it at one input. -/
def fnGainOfFlatWrong : ChangeSpec := { name := "fnGainOfFlat", fn := fun _ => fun
  | [d] => { results := [.lit (.bool false)], args := [d] }
  | _ => none }
def FnGainOfFlatWrongFalsely : Prop := fnGainOfFlatRow.holds Try.pinned (OpenSpec.ofChange fnGainOfFlatWrong)

/-- 'laws.FnGainOf': WHATEVER THE INPUT: true; the input reads as it did. -/
def fnGainOfSpec : ChangeSpec := { name := "fnGainOf", fn := fun _ => fun
  | [d] => { results := [.lit (.bool true)], args := [d] }
  | _ => none }
def fnGainOfRow : OpenClaim := { program := "ytnapimpnelkhcaa", sum := "71f3fea08fc19f7be45bb47cf634e0b3f8e4b729a0f1e72457091b4aa0f7ccbd", func := "loop.example/bonddesk/laws.FnGainOf", spec := "fnGainOf", apart := false }
def FnGainOfSaid : Prop := fnGainOfRow.holds Try.pinned (OpenSpec.ofChange fnGainOfSpec)

/-- ITS FALSE NEIGHBOUR: 'it returns false'. Refute it at one input. -/
def fnGainOfWrong : ChangeSpec := { name := "fnGainOf", fn := fun _ => fun
  | [d] => { results := [.lit (.bool false)], args := [d] }
  | _ => none }
def FnGainOfWrongFalsely : Prop := fnGainOfRow.holds Try.pinned (OpenSpec.ofChange fnGainOfWrong)

/-- 'laws.FnExactGainOf': WHATEVER THE INPUT: true; the input reads as it did. -/
def fnExactGainOfSpec : ChangeSpec := { name := "fnExactGainOf", fn := fun _ => fun
  | [d] => { results := [.lit (.bool true)], args := [d] }
  | _ => none }
def fnExactGainOfRow : OpenClaim := { program := "ytnapimpnelkhcaa", sum := "71f3fea08fc19f7be45bb47cf634e0b3f8e4b729a0f1e72457091b4aa0f7ccbd", func := "loop.example/bonddesk/laws.FnExactGainOf", spec := "fnExactGainOf", apart := false }
def FnExactGainOfSaid : Prop := fnExactGainOfRow.holds Try.pinned (OpenSpec.ofChange fnExactGainOfSpec)

/-- ITS FALSE NEIGHBOUR: 'it returns false'. Refute it at one input. -/
def fnExactGainOfWrong : ChangeSpec := { name := "fnExactGainOf", fn := fun _ => fun
  | [d] => { results := [.lit (.bool false)], args := [d] }
  | _ => none }
def FnExactGainOfWrongFalsely : Prop := fnExactGainOfRow.holds Try.pinned (OpenSpec.ofChange fnExactGainOfWrong)

/-- 'laws.FnLotsOf': WHATEVER THE INPUT: true; the input reads as it did. -/
def fnLotsOfSpec : ChangeSpec := { name := "fnLotsOf", fn := fun _ => fun
  | [d] => { results := [.lit (.bool true)], args := [d] }
  | _ => none }
def fnLotsOfRow : OpenClaim := { program := "ytnapimpnelkhcaa", sum := "71f3fea08fc19f7be45bb47cf634e0b3f8e4b729a0f1e72457091b4aa0f7ccbd", func := "loop.example/bonddesk/laws.FnLotsOf", spec := "fnLotsOf", apart := false }
def FnLotsOfSaid : Prop := fnLotsOfRow.holds Try.pinned (OpenSpec.ofChange fnLotsOfSpec)

/-- ITS FALSE NEIGHBOUR: 'it returns false'. Refute it at one input. -/
def fnLotsOfWrong : ChangeSpec := { name := "fnLotsOf", fn := fun _ => fun
  | [d] => { results := [.lit (.bool false)], args := [d] }
  | _ => none }
def FnLotsOfWrongFalsely : Prop := fnLotsOfRow.holds Try.pinned (OpenSpec.ofChange fnLotsOfWrong)

/-- 'laws.FnLotsOfClose': WHATEVER THE INPUT: true; the input reads as it did. -/
def fnLotsOfCloseSpec : ChangeSpec := { name := "fnLotsOfClose", fn := fun _ => fun
  | [d] => { results := [.lit (.bool true)], args := [d] }
  | _ => none }
def fnLotsOfCloseRow : OpenClaim := { program := "ytnapimpnelkhcaa", sum := "71f3fea08fc19f7be45bb47cf634e0b3f8e4b729a0f1e72457091b4aa0f7ccbd", func := "loop.example/bonddesk/laws.FnLotsOfClose", spec := "fnLotsOfClose", apart := false }
def FnLotsOfCloseSaid : Prop := fnLotsOfCloseRow.holds Try.pinned (OpenSpec.ofChange fnLotsOfCloseSpec)

/-- ITS FALSE NEIGHBOUR: 'it returns false'. Refute it at one input. -/
def fnLotsOfCloseWrong : ChangeSpec := { name := "fnLotsOfClose", fn := fun _ => fun
  | [d] => { results := [.lit (.bool false)], args := [d] }
  | _ => none }
def FnLotsOfCloseWrongFalsely : Prop := fnLotsOfCloseRow.holds Try.pinned (OpenSpec.ofChange fnLotsOfCloseWrong)

/-- 'laws.FnLotsOfAgain': WHATEVER THE INPUT: true; the input reads as it did. -/
def fnLotsOfAgainSpec : ChangeSpec := { name := "fnLotsOfAgain", fn := fun _ => fun
  | [d] => { results := [.lit (.bool true)], args := [d] }
  | _ => none }
def fnLotsOfAgainRow : OpenClaim := { program := "ytnapimpnelkhcaa", sum := "71f3fea08fc19f7be45bb47cf634e0b3f8e4b729a0f1e72457091b4aa0f7ccbd", func := "loop.example/bonddesk/laws.FnLotsOfAgain", spec := "fnLotsOfAgain", apart := false }
def FnLotsOfAgainSaid : Prop := fnLotsOfAgainRow.holds Try.pinned (OpenSpec.ofChange fnLotsOfAgainSpec)

/-- ITS FALSE NEIGHBOUR: 'it returns false'. Refute it at one input. -/
def fnLotsOfAgainWrong : ChangeSpec := { name := "fnLotsOfAgain", fn := fun _ => fun
  | [d] => { results := [.lit (.bool false)], args := [d] }
  | _ => none }
def FnLotsOfAgainWrongFalsely : Prop := fnLotsOfAgainRow.holds Try.pinned (OpenSpec.ofChange fnLotsOfAgainWrong)

/-- 'laws.FnExactLotsOf': WHATEVER THE INPUT: true; the input reads as it did. -/
def fnExactLotsOfSpec : ChangeSpec := { name := "fnExactLotsOf", fn := fun _ => fun
  | [d] => { results := [.lit (.bool true)], args := [d] }
  | _ => none }
def fnExactLotsOfRow : OpenClaim := { program := "ytnapimpnelkhcaa", sum := "71f3fea08fc19f7be45bb47cf634e0b3f8e4b729a0f1e72457091b4aa0f7ccbd", func := "loop.example/bonddesk/laws.FnExactLotsOf", spec := "fnExactLotsOf", apart := false }
def FnExactLotsOfSaid : Prop := fnExactLotsOfRow.holds Try.pinned (OpenSpec.ofChange fnExactLotsOfSpec)

/-- ITS FALSE NEIGHBOUR: 'it returns false'. Refute it at one input. -/
def fnExactLotsOfWrong : ChangeSpec := { name := "fnExactLotsOf", fn := fun _ => fun
  | [d] => { results := [.lit (.bool false)], args := [d] }
  | _ => none }
def FnExactLotsOfWrongFalsely : Prop := fnExactLotsOfRow.holds Try.pinned (OpenSpec.ofChange fnExactLotsOfWrong)

/- THE SECOND FORM. 'bulk': how many values and letters a reading holds, each counted each time it is reached (what is shared counts as often as it is met; a slice's spare places count too). A statement '..UptoSaid' is the law's where the arguments, and the package variables that the reading takes, are together of bulk at most 1048576: NARROWER than '..Said'. Prove '..Said' where nothing that the law and all that it calls make is longer than what came in: it says more and counts as full. Else prove '..UptoSaid'. A law counts once. -/
mutual
def uptoBulk {H : Type} : DataW H → Nat
  | .lit (.string bytes) => bytes.length + 1
  | .lit _ => 1
  | .nil => 1
  | .ptr d => uptoBulk d + 1
  | .slice elems spare => uptoBulkAll elems + uptoBulkAll spare + 1
  | .agg parts => uptoBulkAll parts + 1
  | .iface _ d => uptoBulk d + 1
  | .map entries => uptoBulkEntries entries + 1
  | .held _ => 1
def uptoBulkAll {H : Type} : List (DataW H) → Nat
  | [] => 0
  | d :: r => uptoBulk d + uptoBulkAll r
def uptoBulkEntries {H : Type} : List (Lit × DataW H) → Nat
  | [] => 0
  | x :: r => uptoBulkEntry x + uptoBulkEntries r
def uptoBulkEntry {H : Type} : Lit × DataW H → Nat
  | (.string bytes, d) => bytes.length + uptoBulk d + 1
  | (_, d) => uptoBulk d + 1
 end
def uptoSmall : (H : Type) → List (DataW H) → Bool := fun _ ds => decide (uptoBulkAll ds ≤ 1048576)
def OpenSpec.upto (s : _root_.Go.ChangeSpec) : _root_.Go.OpenSpec := { _root_.Go.OpenSpec.ofChange s with cond := some uptoSmall }

/-- 'laws.FnPositionAt', WHERE WHAT IT READS IS OF BULK AT MOST 1048576: true; the input reads as it did. -/
def fnPositionAtUptoRow : OpenClaim := { program := "ytnapimpnelkhcaa", sum := "71f3fea08fc19f7be45bb47cf634e0b3f8e4b729a0f1e72457091b4aa0f7ccbd", func := "loop.example/bonddesk/laws.FnPositionAt", spec := "fnPositionAt", apart := false, narrowed := true }
def FnPositionAtUptoSaid : Prop := fnPositionAtUptoRow.holds Try.pinned (OpenSpec.upto fnPositionAtSpec)

/-- 'laws.FnGainOfFlat', WHERE WHAT IT READS IS OF BULK AT MOST 1048576: true; the input reads as it did. -/
def fnGainOfFlatUptoRow : OpenClaim := { program := "ytnapimpnelkhcaa", sum := "71f3fea08fc19f7be45bb47cf634e0b3f8e4b729a0f1e72457091b4aa0f7ccbd", func := "loop.example/bonddesk/laws.FnGainOfFlat", spec := "fnGainOfFlat", apart := false, narrowed := true }
def FnGainOfFlatUptoSaid : Prop := fnGainOfFlatUptoRow.holds Try.pinned (OpenSpec.upto fnGainOfFlatSpec)

/-- 'laws.FnGainOf', WHERE WHAT IT READS IS OF BULK AT MOST 1048576: true; the input reads as it did. -/
def fnGainOfUptoRow : OpenClaim := { program := "ytnapimpnelkhcaa", sum := "71f3fea08fc19f7be45bb47cf634e0b3f8e4b729a0f1e72457091b4aa0f7ccbd", func := "loop.example/bonddesk/laws.FnGainOf", spec := "fnGainOf", apart := false, narrowed := true }
def FnGainOfUptoSaid : Prop := fnGainOfUptoRow.holds Try.pinned (OpenSpec.upto fnGainOfSpec)

/-- 'laws.FnExactGainOf', WHERE WHAT IT READS IS OF BULK AT MOST 1048576: true; the input reads as it did. -/
def fnExactGainOfUptoRow : OpenClaim := { program := "ytnapimpnelkhcaa", sum := "71f3fea08fc19f7be45bb47cf634e0b3f8e4b729a0f1e72457091b4aa0f7ccbd", func := "loop.example/bonddesk/laws.FnExactGainOf", spec := "fnExactGainOf", apart := false, narrowed := true }
def FnExactGainOfUptoSaid : Prop := fnExactGainOfUptoRow.holds Try.pinned (OpenSpec.upto fnExactGainOfSpec)

/-- 'laws.FnLotsOf', WHERE WHAT IT READS IS OF BULK AT MOST 1048576: true; the input reads as it did. -/
def fnLotsOfUptoRow : OpenClaim := { program := "ytnapimpnelkhcaa", sum := "71f3fea08fc19f7be45bb47cf634e0b3f8e4b729a0f1e72457091b4aa0f7ccbd", func := "loop.example/bonddesk/laws.FnLotsOf", spec := "fnLotsOf", apart := false, narrowed := true }
def FnLotsOfUptoSaid : Prop := fnLotsOfUptoRow.holds Try.pinned (OpenSpec.upto fnLotsOfSpec)

/-- 'laws.FnLotsOfClose', WHERE WHAT IT READS IS OF BULK AT MOST 1048576: true; the input reads as it did. -/
def fnLotsOfCloseUptoRow : OpenClaim := { program := "ytnapimpnelkhcaa", sum := "71f3fea08fc19f7be45bb47cf634e0b3f8e4b729a0f1e72457091b4aa0f7ccbd", func := "loop.example/bonddesk/laws.FnLotsOfClose", spec := "fnLotsOfClose", apart := false, narrowed := true }
def FnLotsOfCloseUptoSaid : Prop := fnLotsOfCloseUptoRow.holds Try.pinned (OpenSpec.upto fnLotsOfCloseSpec)

/-- 'laws.FnLotsOfAgain', WHERE WHAT IT READS IS OF BULK AT MOST 1048576: true; the input reads as it did. -/
def fnLotsOfAgainUptoRow : OpenClaim := { program := "ytnapimpnelkhcaa", sum := "71f3fea08fc19f7be45bb47cf634e0b3f8e4b729a0f1e72457091b4aa0f7ccbd", func := "loop.example/bonddesk/laws.FnLotsOfAgain", spec := "fnLotsOfAgain", apart := false, narrowed := true }
def FnLotsOfAgainUptoSaid : Prop := fnLotsOfAgainUptoRow.holds Try.pinned (OpenSpec.upto fnLotsOfAgainSpec)

/-- 'laws.FnExactLotsOf', WHERE WHAT IT READS IS OF BULK AT MOST 1048576: true; the input reads as it did. -/
def fnExactLotsOfUptoRow : OpenClaim := { program := "ytnapimpnelkhcaa", sum := "71f3fea08fc19f7be45bb47cf634e0b3f8e4b729a0f1e72457091b4aa0f7ccbd", func := "loop.example/bonddesk/laws.FnExactLotsOf", spec := "fnExactLotsOf", apart := false, narrowed := true }
def FnExactLotsOfUptoSaid : Prop := fnExactLotsOfUptoRow.holds Try.pinned (OpenSpec.upto fnExactLotsOfSpec)

end Rows
end Go.Proofs.Ytnapimpnelkhcaa

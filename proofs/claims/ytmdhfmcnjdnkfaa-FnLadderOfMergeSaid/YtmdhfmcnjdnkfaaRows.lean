/-
  No cell of these rows narrows 'for every input' (looked for: loops, veiled, ifaces, maps, wideKeys, modest, calm, conditions, laid).
  DERIVED. THE GIVEN ROWS OF THIS SEAT. 5 by the template 'for every input the law returns true; each argument reads behind the call as it read before'; 0 by the template 'total and deterministic' (their statements: YtmdhfmcnjdnkfaaTotals.lean).
  GIVEN WITH THE SEED: the statements are not yours to turn. If you find one false, say at which input.
  Laid BY PROGRAM, IN A SANDBOX (cutbox-rows.mjs): the forced cells as the released guide's own fill.sh prints them over the translation ce8491fb6d0e2064… (all of the seat's roots in one cut). By AI agents, Wed Nov 11 2026. No macro, syntax, notation, axiom, sorry.
-/
import Derived.Test.YtmdhfmcnjdnkfaaChecked
import GoSem.Claim
import GoSem.ClaimJoined
import GoSem.ClaimMapViews
import Derived.JoinedTies
import Derived.KernelRfl
namespace Go.Proofs.Ytmdhfmcnjdnkfaa
/- THE CELL 'sum', in the pinned program and in every row, IS THE sha256 OF THE DUMP (.gsa) THAT YtmdhfmcnjdnkfaaProg.lean LOADS. Nothing in Lean hashes anything: it is a label: what it is worth is what the hold of that sum in a sandbox is worth. -/
noncomputable def Try.pinned : Pinned := { name := "ytmdhfmcnjdnkfaa", sum := "ce8491fb6d0e20645c14a541f0d3d3a0cd8eb6f23a096f55f2977834cd32b04b", checked := Try.checked }
namespace Rows
def none {H : Type} : Left H := { results := [], args := [] }

/-- 'laws.FnCashAt': WHATEVER THE INPUT: true; the input reads as it did. -/
def fnCashAtSpec : ChangeSpec := { name := "fnCashAt", fn := fun _ => fun
  | [d] => { results := [.lit (.bool true)], args := [d] }
  | _ => none }
def fnCashAtRow : OpenClaim := { program := "ytmdhfmcnjdnkfaa", sum := "ce8491fb6d0e20645c14a541f0d3d3a0cd8eb6f23a096f55f2977834cd32b04b", func := "loop.example/bonddesk/laws.FnCashAt", spec := "fnCashAt", unfollowed := true, recurses := true, apart := false }
def FnCashAtSaid : Prop := fnCashAtRow.holds Try.pinned (OpenSpec.ofChange fnCashAtSpec)

/-- ITS FALSE NEIGHBOUR: 'it returns false'. Refute it at one input. -/
def fnCashAtWrong : ChangeSpec := { name := "fnCashAt", fn := fun _ => fun
  | [d] => { results := [.lit (.bool false)], args := [d] }
  | _ => none }
def FnCashAtWrongFalsely : Prop := fnCashAtRow.holds Try.pinned (OpenSpec.ofChange fnCashAtWrong)

/-- 'laws.FnExactCashAt': WHATEVER THE INPUT: true; the input reads as it did. -/
def fnExactCashAtSpec : ChangeSpec := { name := "fnExactCashAt", fn := fun _ => fun
  | [d1, d2, d3] => { results := [.lit (.bool true)], args := [d1, d2, d3] }
  | _ => none }
def fnExactCashAtRow : OpenClaim := { program := "ytmdhfmcnjdnkfaa", sum := "ce8491fb6d0e20645c14a541f0d3d3a0cd8eb6f23a096f55f2977834cd32b04b", func := "loop.example/bonddesk/laws.FnExactCashAt", spec := "fnExactCashAt", unfollowed := true, recurses := true, apart := false }
def FnExactCashAtSaid : Prop := fnExactCashAtRow.holds Try.pinned (OpenSpec.ofChange fnExactCashAtSpec)

/-- ITS FALSE NEIGHBOUR: 'it returns false'. Refute it at one input. -/
def fnExactCashAtWrong : ChangeSpec := { name := "fnExactCashAt", fn := fun _ => fun
  | [d1, d2, d3] => { results := [.lit (.bool false)], args := [d1, d2, d3] }
  | _ => none }
def FnExactCashAtWrongFalsely : Prop := fnExactCashAtRow.holds Try.pinned (OpenSpec.ofChange fnExactCashAtWrong)

/-- 'laws.FnLadderOfMerge': WHATEVER THE INPUT: true; the input reads as it did. -/
def fnLadderOfMergeSpec : ChangeSpec := { name := "fnLadderOfMerge", fn := fun _ => fun
  | [d] => { results := [.lit (.bool true)], args := [d] }
  | _ => none }
def fnLadderOfMergeRow : OpenClaim := { program := "ytmdhfmcnjdnkfaa", sum := "ce8491fb6d0e20645c14a541f0d3d3a0cd8eb6f23a096f55f2977834cd32b04b", func := "loop.example/bonddesk/laws.FnLadderOfMerge", spec := "fnLadderOfMerge", unfollowed := true, recurses := true, apart := false }
def FnLadderOfMergeSaid : Prop := fnLadderOfMergeRow.holds Try.pinned (OpenSpec.ofChange fnLadderOfMergeSpec)

/-- ITS FALSE NEIGHBOUR: 'it returns false'. Refute it at one input. -/
def fnLadderOfMergeWrong : ChangeSpec := { name := "fnLadderOfMerge", fn := fun _ => fun
  | [d] => { results := [.lit (.bool false)], args := [d] }
  | _ => none }
def FnLadderOfMergeWrongFalsely : Prop := fnLadderOfMergeRow.holds Try.pinned (OpenSpec.ofChange fnLadderOfMergeWrong)

/-- 'laws.FnLadderOf': WHATEVER THE INPUT: true; the input reads as it did. -/
def fnLadderOfSpec : ChangeSpec := { name := "fnLadderOf", fn := fun _ => fun
  | [d] => { results := [.lit (.bool true)], args := [d] }
  | _ => none }
def fnLadderOfRow : OpenClaim := { program := "ytmdhfmcnjdnkfaa", sum := "ce8491fb6d0e20645c14a541f0d3d3a0cd8eb6f23a096f55f2977834cd32b04b", func := "loop.example/bonddesk/laws.FnLadderOf", spec := "fnLadderOf", unfollowed := true, recurses := true, apart := false }
def FnLadderOfSaid : Prop := fnLadderOfRow.holds Try.pinned (OpenSpec.ofChange fnLadderOfSpec)

/-- ITS FALSE NEIGHBOUR: 'it returns false'. Refute it at one input. -/
def fnLadderOfWrong : ChangeSpec := { name := "fnLadderOf", fn := fun _ => fun
  | [d] => { results := [.lit (.bool false)], args := [d] }
  | _ => none }
def FnLadderOfWrongFalsely : Prop := fnLadderOfRow.holds Try.pinned (OpenSpec.ofChange fnLadderOfWrong)

/-- 'laws.FnExactLadderOf': WHATEVER THE INPUT: true; the input reads as it did. -/
def fnExactLadderOfSpec : ChangeSpec := { name := "fnExactLadderOf", fn := fun _ => fun
  | [d1, d2] => { results := [.lit (.bool true)], args := [d1, d2] }
  | _ => none }
def fnExactLadderOfRow : OpenClaim := { program := "ytmdhfmcnjdnkfaa", sum := "ce8491fb6d0e20645c14a541f0d3d3a0cd8eb6f23a096f55f2977834cd32b04b", func := "loop.example/bonddesk/laws.FnExactLadderOf", spec := "fnExactLadderOf", unfollowed := true, recurses := true, apart := false }
def FnExactLadderOfSaid : Prop := fnExactLadderOfRow.holds Try.pinned (OpenSpec.ofChange fnExactLadderOfSpec)

/-- ITS FALSE NEIGHBOUR: 'it returns false'. Refute it at one input. -/
def fnExactLadderOfWrong : ChangeSpec := { name := "fnExactLadderOf", fn := fun _ => fun
  | [d1, d2] => { results := [.lit (.bool false)], args := [d1, d2] }
  | _ => none }
def FnExactLadderOfWrongFalsely : Prop := fnExactLadderOfRow.holds Try.pinned (OpenSpec.ofChange fnExactLadderOfWrong)

/- THE SECOND FORM. 'bulk': how many values and letters a reading holds, each counted each time it is reached (what is shared counts as often as it is met; a slice's spare places count too). A statement '..UptoSaid' is the law's where the arguments, and the package variables that the reading takes, are together of bulk at most 1048576: NARROWER than '..Said'. Prove '..Said' where nothing that the law and all that it calls make is longer than what came in: it says more and counts as full. Else prove '..UptoSaid'. A law counts once. -/
mutual
def uptoBulk {H : Type} : DataW H → Nat
  | .lit (.string bytes) => bytes.length + 1
  | .lit _ => 1
  | .nil => 1
  | .ptr d => uptoBulk d + 1
  | .slice elems spare => uptoBulkAll elems + uptoBulkAll spare + 1
  | .agg parts => uptoBulkAll parts + 1
  | .iface _ d => uptoBulk d + 1
  | .map entries => uptoBulkEntries entries + 1
  | .held _ => 1
def uptoBulkAll {H : Type} : List (DataW H) → Nat
  | [] => 0
  | d :: r => uptoBulk d + uptoBulkAll r
def uptoBulkEntries {H : Type} : List (Lit × DataW H) → Nat
  | [] => 0
  | x :: r => uptoBulkEntry x + uptoBulkEntries r
def uptoBulkEntry {H : Type} : Lit × DataW H → Nat
  | (.string bytes, d) => bytes.length + uptoBulk d + 1
  | (_, d) => uptoBulk d + 1
 end
def uptoSmall : (H : Type) → List (DataW H) → Bool := fun _ ds => decide (uptoBulkAll ds ≤ 1048576)
def OpenSpec.upto (s : _root_.Go.ChangeSpec) : _root_.Go.OpenSpec := { _root_.Go.OpenSpec.ofChange s with cond := some uptoSmall }

/-- 'laws.FnCashAt', WHERE WHAT IT READS IS OF BULK AT MOST 1048576: true; the input reads as it did. -/
def fnCashAtUptoRow : OpenClaim := { program := "ytmdhfmcnjdnkfaa", sum := "ce8491fb6d0e20645c14a541f0d3d3a0cd8eb6f23a096f55f2977834cd32b04b", func := "loop.example/bonddesk/laws.FnCashAt", spec := "fnCashAt", unfollowed := true, recurses := true, apart := false, narrowed := true }
def FnCashAtUptoSaid : Prop := fnCashAtUptoRow.holds Try.pinned (OpenSpec.upto fnCashAtSpec)

/-- 'laws.FnExactCashAt', WHERE WHAT IT READS IS OF BULK AT MOST 1048576: true; the input reads as it did. -/
def fnExactCashAtUptoRow : OpenClaim := { program := "ytmdhfmcnjdnkfaa", sum := "ce8491fb6d0e20645c14a541f0d3d3a0cd8eb6f23a096f55f2977834cd32b04b", func := "loop.example/bonddesk/laws.FnExactCashAt", spec := "fnExactCashAt", unfollowed := true, recurses := true, apart := false, narrowed := true }
def FnExactCashAtUptoSaid : Prop := fnExactCashAtUptoRow.holds Try.pinned (OpenSpec.upto fnExactCashAtSpec)

/-- 'laws.FnLadderOfMerge', WHERE WHAT IT READS IS OF BULK AT MOST 1048576: true; the input reads as it did. -/
def fnLadderOfMergeUptoRow : OpenClaim := { program := "ytmdhfmcnjdnkfaa", sum := "ce8491fb6d0e20645c14a541f0d3d3a0cd8eb6f23a096f55f2977834cd32b04b", func := "loop.example/bonddesk/laws.FnLadderOfMerge", spec := "fnLadderOfMerge", unfollowed := true, recurses := true, apart := false, narrowed := true }
def FnLadderOfMergeUptoSaid : Prop := fnLadderOfMergeUptoRow.holds Try.pinned (OpenSpec.upto fnLadderOfMergeSpec)

/-- 'laws.FnLadderOf', WHERE WHAT IT READS IS OF BULK AT MOST 1048576: true; the input reads as it did. -/
def fnLadderOfUptoRow : OpenClaim := { program := "ytmdhfmcnjdnkfaa", sum := "ce8491fb6d0e20645c14a541f0d3d3a0cd8eb6f23a096f55f2977834cd32b04b", func := "loop.example/bonddesk/laws.FnLadderOf", spec := "fnLadderOf", unfollowed := true, recurses := true, apart := false, narrowed := true }
def FnLadderOfUptoSaid : Prop := fnLadderOfUptoRow.holds Try.pinned (OpenSpec.upto fnLadderOfSpec)

/-- 'laws.FnExactLadderOf', WHERE WHAT IT READS IS OF BULK AT MOST 1048576: true; the input reads as it did. -/
def fnExactLadderOfUptoRow : OpenClaim := { program := "ytmdhfmcnjdnkfaa", sum := "ce8491fb6d0e20645c14a541f0d3d3a0cd8eb6f23a096f55f2977834cd32b04b", func := "loop.example/bonddesk/laws.FnExactLadderOf", spec := "fnExactLadderOf", unfollowed := true, recurses := true, apart := false, narrowed := true }
def FnExactLadderOfUptoSaid : Prop := fnExactLadderOfUptoRow.holds Try.pinned (OpenSpec.upto fnExactLadderOfSpec)

end Rows
end Go.Proofs.Ytmdhfmcnjdnkfaa

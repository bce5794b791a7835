/-
  No cell of these rows narrows 'for every input' (looked for: loops, veiled, ifaces, maps, wideKeys, modest, calm, conditions, laid).
  DERIVED. THE GIVEN ROWS OF THIS SEAT. 5 by the template 'for every input the law returns true; each argument reads behind the call as it read before'; 0 by the template 'total and deterministic' (their statements: YtdhlocboaokobaaTotals.lean).
  GIVEN WITH THE SEED: the statements are not yours to turn. If you find one false, say at which input.
  Laid BY PROGRAM, IN A SANDBOX (cutbox-rows.mjs): the forced cells as the released guide's own fill.sh prints them over the translation edd7f67ded022672… (all of the seat's roots in one cut). By AI agents, Wed Nov 11 2026. No macro, syntax, notation, axiom, sorry.
-/
import Derived.Test.YtdhlocboaokobaaChecked
import GoSem.Claim
import GoSem.ClaimJoined
import GoSem.ClaimMapViews
import Derived.JoinedTies
import Derived.KernelRfl
namespace Go.Proofs.Ytdhlocboaokobaa
/- THE CELL 'sum', in the pinned program and in every row, IS THE sha256 OF THE DUMP (.gsa) THAT YtdhlocboaokobaaProg.lean LOADS. Nothing in Lean hashes anything: it is a label: what it is worth is what the hold of that sum in a sandbox is worth. -/
noncomputable def Try.pinned : Pinned := { name := "ytdhlocboaokobaa", sum := "edd7f67ded022672b605ed3c18c9f251b8e92f6a5fc2b47cc61647dfffcda05e", checked := Try.checked }
namespace Rows
def none {H : Type} : Left H := { results := [], args := [] }

/-- 'laws.FnExactHedgeError': WHATEVER THE INPUT: true; the input reads as it did. -/
def fnExactHedgeErrorSpec : ChangeSpec := { name := "fnExactHedgeError", fn := fun _ => fun
  | [d1, d2, d3] => { results := [.lit (.bool true)], args := [d1, d2, d3] }
  | _ => none }
def fnExactHedgeErrorRow : OpenClaim := { program := "ytdhlocboaokobaa", sum := "edd7f67ded022672b605ed3c18c9f251b8e92f6a5fc2b47cc61647dfffcda05e", func := "loop.example/bonddesk/laws.FnExactHedgeError", spec := "fnExactHedgeError", unfollowed := true, recurses := true, apart := false }
def FnExactHedgeErrorSaid : Prop := fnExactHedgeErrorRow.holds Try.pinned (OpenSpec.ofChange fnExactHedgeErrorSpec)

/-- ITS FALSE NEIGHBOUR: 'it returns false'. Refute it at one input. -/
def fnExactHedgeErrorWrong : ChangeSpec := { name := "fnExactHedgeError", fn := fun _ => fun
  | [d1, d2, d3] => { results := [.lit (.bool false)], args := [d1, d2, d3] }
  | _ => none }
def FnExactHedgeErrorWrongFalsely : Prop := fnExactHedgeErrorRow.holds Try.pinned (OpenSpec.ofChange fnExactHedgeErrorWrong)

/-- 'laws.FnHedgeError': WHATEVER THE INPUT: true; the input reads as it did. -/
def fnHedgeErrorSpec : ChangeSpec := { name := "fnHedgeError", fn := fun _ => fun
  | [d] => { results := [.lit (.bool true)], args := [d] }
  | _ => none }
def fnHedgeErrorRow : OpenClaim := { program := "ytdhlocboaokobaa", sum := "edd7f67ded022672b605ed3c18c9f251b8e92f6a5fc2b47cc61647dfffcda05e", func := "loop.example/bonddesk/laws.FnHedgeError", spec := "fnHedgeError", unfollowed := true, recurses := true, apart := false }
def FnHedgeErrorSaid : Prop := fnHedgeErrorRow.holds Try.pinned (OpenSpec.ofChange fnHedgeErrorSpec)

/-- ITS FALSE NEIGHBOUR: 'it returns false'. Refute it at one input. -/
def fnHedgeErrorWrong : ChangeSpec := { name := "fnHedgeError", fn := fun _ => fun
  | [d] => { results := [.lit (.bool false)], args := [d] }
  | _ => none }
def FnHedgeErrorWrongFalsely : Prop := fnHedgeErrorRow.holds Try.pinned (OpenSpec.ofChange fnHedgeErrorWrong)

/-- 'laws.FnExactBestHedge': WHATEVER THE INPUT: true; the input reads as it did. -/
def fnExactBestHedgeSpec : ChangeSpec := { name := "fnExactBestHedge", fn := fun _ => fun
  | [d1, d2] => { results := [.lit (.bool true)], args := [d1, d2] }
  | _ => none }
def fnExactBestHedgeRow : OpenClaim := { program := "ytdhlocboaokobaa", sum := "edd7f67ded022672b605ed3c18c9f251b8e92f6a5fc2b47cc61647dfffcda05e", func := "loop.example/bonddesk/laws.FnExactBestHedge", spec := "fnExactBestHedge", unfollowed := true, recurses := true, apart := false }
def FnExactBestHedgeSaid : Prop := fnExactBestHedgeRow.holds Try.pinned (OpenSpec.ofChange fnExactBestHedgeSpec)

/-- ITS FALSE NEIGHBOUR: 'it returns false'. Refute it at one input. -/
def fnExactBestHedgeWrong : ChangeSpec := { name := "fnExactBestHedge", fn := fun _ => fun
  | [d1, d2] => { results := [.lit (.bool false)], args := [d1, d2] }
  | _ => none }
def FnExactBestHedgeWrongFalsely : Prop := fnExactBestHedgeRow.holds Try.pinned (OpenSpec.ofChange fnExactBestHedgeWrong)

/-- 'laws.FnBestHedgeSign': WHATEVER THE INPUT: true; the input reads as it did. -/
def fnBestHedgeSignSpec : ChangeSpec := { name := "fnBestHedgeSign", fn := fun _ => fun
  | [d] => { results := [.lit (.bool true)], args := [d] }
  | _ => none }
def fnBestHedgeSignRow : OpenClaim := { program := "ytdhlocboaokobaa", sum := "edd7f67ded022672b605ed3c18c9f251b8e92f6a5fc2b47cc61647dfffcda05e", func := "loop.example/bonddesk/laws.FnBestHedgeSign", spec := "fnBestHedgeSign", unfollowed := true, recurses := true, apart := false }
def FnBestHedgeSignSaid : Prop := fnBestHedgeSignRow.holds Try.pinned (OpenSpec.ofChange fnBestHedgeSignSpec)

/-- ITS FALSE NEIGHBOUR: 'it returns false'. Refute it at one input. -/
def fnBestHedgeSignWrong : ChangeSpec := { name := "fnBestHedgeSign", fn := fun _ => fun
  | [d] => { results := [.lit (.bool false)], args := [d] }
  | _ => none }
def FnBestHedgeSignWrongFalsely : Prop := fnBestHedgeSignRow.holds Try.pinned (OpenSpec.ofChange fnBestHedgeSignWrong)

/-- 'laws.FnBestHedge': WHATEVER THE INPUT: true; the input reads as it did. -/
def fnBestHedgeSpec : ChangeSpec := { name := "fnBestHedge", fn := fun _ => fun
  | [d] => { results := [.lit (.bool true)], args := [d] }
  | _ => none }
def fnBestHedgeRow : OpenClaim := { program := "ytdhlocboaokobaa", sum := "edd7f67ded022672b605ed3c18c9f251b8e92f6a5fc2b47cc61647dfffcda05e", func := "loop.example/bonddesk/laws.FnBestHedge", spec := "fnBestHedge", unfollowed := true, recurses := true, apart := false }
def FnBestHedgeSaid : Prop := fnBestHedgeRow.holds Try.pinned (OpenSpec.ofChange fnBestHedgeSpec)

/-- ITS FALSE NEIGHBOUR: 'it returns false'. Refute it at one input. -/
def fnBestHedgeWrong : ChangeSpec := { name := "fnBestHedge", fn := fun _ => fun
  | [d] => { results := [.lit (.bool false)], args := [d] }
  | _ => none }
def FnBestHedgeWrongFalsely : Prop := fnBestHedgeRow.holds Try.pinned (OpenSpec.ofChange fnBestHedgeWrong)

/- THE SECOND FORM. 'bulk': how many values and letters a reading holds, each counted each time it is reached (what is shared counts as often as it is met; a slice's spare places count too). A statement '..UptoSaid' is the law's where the arguments, and the package variables that the reading takes, are together of bulk at most 1048576: NARROWER than '..Said'. Prove '..Said' where nothing that the law and all that it calls make is longer than what came in: it says more and counts as full. Else prove '..UptoSaid'. A law counts once. -/
mutual
def uptoBulk {H : Type} : DataW H → Nat
  | .lit (.string bytes) => bytes.length + 1
  | .lit _ => 1
  | .nil => 1
  | .ptr d => uptoBulk d + 1
  | .slice elems spare => uptoBulkAll elems + uptoBulkAll spare + 1
  | .agg parts => uptoBulkAll parts + 1
  | .iface _ d => uptoBulk d + 1
  | .map entries => uptoBulkEntries entries + 1
  | .held _ => 1
def uptoBulkAll {H : Type} : List (DataW H) → Nat
  | [] => 0
  | d :: r => uptoBulk d + uptoBulkAll r
def uptoBulkEntries {H : Type} : List (Lit × DataW H) → Nat
  | [] => 0
  | x :: r => uptoBulkEntry x + uptoBulkEntries r
def uptoBulkEntry {H : Type} : Lit × DataW H → Nat
  | (.string bytes, d) => bytes.length + uptoBulk d + 1
  | (_, d) => uptoBulk d + 1
 end
def uptoSmall : (H : Type) → List (DataW H) → Bool := fun _ ds => decide (uptoBulkAll ds ≤ 1048576)
def OpenSpec.upto (s : _root_.Go.ChangeSpec) : _root_.Go.OpenSpec := { _root_.Go.OpenSpec.ofChange s with cond := some uptoSmall }

/-- 'laws.FnExactHedgeError', WHERE WHAT IT READS IS OF BULK AT MOST 1048576: true; the input reads as it did. -/
def fnExactHedgeErrorUptoRow : OpenClaim := { program := "ytdhlocboaokobaa", sum := "edd7f67ded022672b605ed3c18c9f251b8e92f6a5fc2b47cc61647dfffcda05e", func := "loop.example/bonddesk/laws.FnExactHedgeError", spec := "fnExactHedgeError", unfollowed := true, recurses := true, apart := false, narrowed := true }
def FnExactHedgeErrorUptoSaid : Prop := fnExactHedgeErrorUptoRow.holds Try.pinned (OpenSpec.upto fnExactHedgeErrorSpec)

/-- 'laws.FnHedgeError', WHERE WHAT IT READS IS OF BULK AT MOST 1048576: true; the input reads as it did. -/
def fnHedgeErrorUptoRow : OpenClaim := { program := "ytdhlocboaokobaa", sum := "edd7f67ded022672b605ed3c18c9f251b8e92f6a5fc2b47cc61647dfffcda05e", func := "loop.example/bonddesk/laws.FnHedgeError", spec := "fnHedgeError", unfollowed := true, recurses := true, apart := false, narrowed := true }
def FnHedgeErrorUptoSaid : Prop := fnHedgeErrorUptoRow.holds Try.pinned (OpenSpec.upto fnHedgeErrorSpec)

/-- 'laws.FnExactBestHedge', WHERE WHAT IT READS IS OF BULK AT MOST 1048576: true; the input reads as it did. -/
def fnExactBestHedgeUptoRow : OpenClaim := { program := "ytdhlocboaokobaa", sum := "edd7f67ded022672b605ed3c18c9f251b8e92f6a5fc2b47cc61647dfffcda05e", func := "loop.example/bonddesk/laws.FnExactBestHedge", spec := "fnExactBestHedge", unfollowed := true, recurses := true, apart := false, narrowed := true }
def FnExactBestHedgeUptoSaid : Prop := fnExactBestHedgeUptoRow.holds Try.pinned (OpenSpec.upto fnExactBestHedgeSpec)

/-- 'laws.FnBestHedgeSign', WHERE WHAT IT READS IS OF BULK AT MOST 1048576: true; the input reads as it did. -/
def fnBestHedgeSignUptoRow : OpenClaim := { program := "ytdhlocboaokobaa", sum := "edd7f67ded022672b605ed3c18c9f251b8e92f6a5fc2b47cc61647dfffcda05e", func := "loop.example/bonddesk/laws.FnBestHedgeSign", spec := "fnBestHedgeSign", unfollowed := true, recurses := true, apart := false, narrowed := true }
def FnBestHedgeSignUptoSaid : Prop := fnBestHedgeSignUptoRow.holds Try.pinned (OpenSpec.upto fnBestHedgeSignSpec)

/-- 'laws.FnBestHedge', WHERE WHAT IT READS IS OF BULK AT MOST 1048576: true; the input reads as it did. -/
def fnBestHedgeUptoRow : OpenClaim := { program := "ytdhlocboaokobaa", sum := "edd7f67ded022672b605ed3c18c9f251b8e92f6a5fc2b47cc61647dfffcda05e", func := "loop.example/bonddesk/laws.FnBestHedge", spec := "fnBestHedge", unfollowed := true, recurses := true, apart := false, narrowed := true }
def FnBestHedgeUptoSaid : Prop := fnBestHedgeUptoRow.holds Try.pinned (OpenSpec.upto fnBestHedgeSpec)

end Rows
end Go.Proofs.Ytdhlocboaokobaa

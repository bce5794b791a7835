/-
  No cell of these rows narrows 'for every input' (looked for: loops, veiled, ifaces, maps, wideKeys, modest, calm, conditions, laid).
  DERIVED. THE GIVEN ROWS OF THIS SEAT. 7 by the template 'for every input the law returns true; each argument reads behind the call as it read before'; 0 by the template 'total and deterministic' (their statements: YtmccplnkagfecaaTotals.lean).
  GIVEN WITH THE SEED: the statements are not yours to turn. If you find one false, say at which input.
  Laid BY PROGRAM, IN A SANDBOX (cutbox-rows.mjs): the forced cells as the released guide's own fill.sh prints them over the translation eadb9b0bbd6e71cb… (all of the seat's roots in one cut). By AI agents, Wed Nov 11 2026. No macro, syntax, notation, axiom, sorry.
-/
import Derived.Test.YtmccplnkagfecaaChecked
import GoSem.Claim
import GoSem.ClaimJoined
import GoSem.ClaimMapViews
import Derived.JoinedTies
import Derived.KernelRfl
namespace Go.Proofs.Ytmccplnkagfecaa
/- THE CELL 'sum', in the pinned program and in every row, IS THE sha256 OF THE DUMP (.gsa) THAT YtmccplnkagfecaaProg.lean LOADS. Nothing in Lean hashes anything: it is a label: what it is worth is what the hold of that sum in a sandbox is worth. -/
noncomputable def Try.pinned : Pinned := { name := "ytmccplnkagfecaa", sum := "eadb9b0bbd6e71cb8f7f7940700162ec75c4092022d699437c6828ca7997e91e", checked := Try.checked }
namespace Rows
def none {H : Type} : Left H := { results := [], args := [] }

/-- 'laws.FnValidPosts': WHATEVER THE INPUT: true; the input reads as it did. -/
def fnValidPostsSpec : ChangeSpec := { name := "fnValidPosts", fn := fun _ => fun
  | [d] => { results := [.lit (.bool true)], args := [d] }
  | _ => none }
def fnValidPostsRow : OpenClaim := { program := "ytmccplnkagfecaa", sum := "eadb9b0bbd6e71cb8f7f7940700162ec75c4092022d699437c6828ca7997e91e", func := "loop.example/bonddesk/laws.FnValidPosts", spec := "fnValidPosts", plainKeys := false, apart := false }
def FnValidPostsSaid : Prop := fnValidPostsRow.holds Try.pinned (OpenSpec.ofChange fnValidPostsSpec)

/-- ITS FALSE NEIGHBOUR: 'it returns false'. Refute it at one input. -/
def fnValidPostsWrong : ChangeSpec := { name := "fnValidPosts", fn := fun _ => fun
  | [d] => { results := [.lit (.bool false)], args := [d] }
  | _ => none }
def FnValidPostsWrongFalsely : Prop := fnValidPostsRow.holds Try.pinned (OpenSpec.ofChange fnValidPostsWrong)

/-- 'laws.FnExactValidPosts': WHATEVER THE INPUT: true; the input reads as it did. -/
def fnExactValidPostsSpec : ChangeSpec := { name := "fnExactValidPosts", fn := fun _ => fun
  | [d] => { results := [.lit (.bool true)], args := [d] }
  | _ => none }
def fnExactValidPostsRow : OpenClaim := { program := "ytmccplnkagfecaa", sum := "eadb9b0bbd6e71cb8f7f7940700162ec75c4092022d699437c6828ca7997e91e", func := "loop.example/bonddesk/laws.FnExactValidPosts", spec := "fnExactValidPosts", plainKeys := false, apart := false }
def FnExactValidPostsSaid : Prop := fnExactValidPostsRow.holds Try.pinned (OpenSpec.ofChange fnExactValidPostsSpec)

/-- ITS FALSE NEIGHBOUR: 'it returns false'. Refute it at one input. -/
def fnExactValidPostsWrong : ChangeSpec := { name := "fnExactValidPosts", fn := fun _ => fun
  | [d] => { results := [.lit (.bool false)], args := [d] }
  | _ => none }
def FnExactValidPostsWrongFalsely : Prop := fnExactValidPostsRow.holds Try.pinned (OpenSpec.ofChange fnExactValidPostsWrong)

/-- 'laws.FnBalanceOf': WHATEVER THE INPUT: true; the input reads as it did. -/
def fnBalanceOfSpec : ChangeSpec := { name := "fnBalanceOf", fn := fun _ => fun
  | [d] => { results := [.lit (.bool true)], args := [d] }
  | _ => none }
def fnBalanceOfRow : OpenClaim := { program := "ytmccplnkagfecaa", sum := "eadb9b0bbd6e71cb8f7f7940700162ec75c4092022d699437c6828ca7997e91e", func := "loop.example/bonddesk/laws.FnBalanceOf", spec := "fnBalanceOf", plainKeys := false, apart := false }
def FnBalanceOfSaid : Prop := fnBalanceOfRow.holds Try.pinned (OpenSpec.ofChange fnBalanceOfSpec)

/-- ITS FALSE NEIGHBOUR: 'it returns false'. Refute it at one input. -/
def fnBalanceOfWrong : ChangeSpec := { name := "fnBalanceOf", fn := fun _ => fun
  | [d] => { results := [.lit (.bool false)], args := [d] }
  | _ => none }
def FnBalanceOfWrongFalsely : Prop := fnBalanceOfRow.holds Try.pinned (OpenSpec.ofChange fnBalanceOfWrong)

/-- 'laws.FnBalanceOfReverse': WHATEVER THE INPUT: true; the input reads as it did. -/
def fnBalanceOfReverseSpec : ChangeSpec := { name := "fnBalanceOfReverse", fn := fun _ => fun
  | [d] => { results := [.lit (.bool true)], args := [d] }
  | _ => none }
def fnBalanceOfReverseRow : OpenClaim := { program := "ytmccplnkagfecaa", sum := "eadb9b0bbd6e71cb8f7f7940700162ec75c4092022d699437c6828ca7997e91e", func := "loop.example/bonddesk/laws.FnBalanceOfReverse", spec := "fnBalanceOfReverse", plainKeys := false, apart := false }
def FnBalanceOfReverseSaid : Prop := fnBalanceOfReverseRow.holds Try.pinned (OpenSpec.ofChange fnBalanceOfReverseSpec)

/-- ITS FALSE NEIGHBOUR: 'it returns false'. Refute it at one input. -/
def fnBalanceOfReverseWrong : ChangeSpec := { name := "fnBalanceOfReverse", fn := fun _ => fun
  | [d] => { results := [.lit (.bool false)], args := [d] }
  | _ => none }
def FnBalanceOfReverseWrongFalsely : Prop := fnBalanceOfReverseRow.holds Try.pinned (OpenSpec.ofChange fnBalanceOfReverseWrong)

/-- 'laws.FnExactBalanceOf': WHATEVER THE INPUT: true; the input reads as it did. -/
def fnExactBalanceOfSpec : ChangeSpec := { name := "fnExactBalanceOf", fn := fun _ => fun
  | [d1, d2] => { results := [.lit (.bool true)], args := [d1, d2] }
  | _ => none }
def fnExactBalanceOfRow : OpenClaim := { program := "ytmccplnkagfecaa", sum := "eadb9b0bbd6e71cb8f7f7940700162ec75c4092022d699437c6828ca7997e91e", func := "loop.example/bonddesk/laws.FnExactBalanceOf", spec := "fnExactBalanceOf", plainKeys := false, apart := false }
def FnExactBalanceOfSaid : Prop := fnExactBalanceOfRow.holds Try.pinned (OpenSpec.ofChange fnExactBalanceOfSpec)

/-- ITS FALSE NEIGHBOUR: 'it returns false'. Refute it at one input. -/
def fnExactBalanceOfWrong : ChangeSpec := { name := "fnExactBalanceOf", fn := fun _ => fun
  | [d1, d2] => { results := [.lit (.bool false)], args := [d1, d2] }
  | _ => none }
def FnExactBalanceOfWrongFalsely : Prop := fnExactBalanceOfRow.holds Try.pinned (OpenSpec.ofChange fnExactBalanceOfWrong)

/-- 'laws.FnNetPosts': WHATEVER THE INPUT: true; the input reads as it did. -/
def fnNetPostsSpec : ChangeSpec := { name := "fnNetPosts", fn := fun _ => fun
  | [d] => { results := [.lit (.bool true)], args := [d] }
  | _ => none }
def fnNetPostsRow : OpenClaim := { program := "ytmccplnkagfecaa", sum := "eadb9b0bbd6e71cb8f7f7940700162ec75c4092022d699437c6828ca7997e91e", func := "loop.example/bonddesk/laws.FnNetPosts", spec := "fnNetPosts", plainKeys := false, apart := false }
def FnNetPostsSaid : Prop := fnNetPostsRow.holds Try.pinned (OpenSpec.ofChange fnNetPostsSpec)

/-- ITS FALSE NEIGHBOUR: 'it returns false'. Refute it at one input. -/
def fnNetPostsWrong : ChangeSpec := { name := "fnNetPosts", fn := fun _ => fun
  | [d] => { results := [.lit (.bool false)], args := [d] }
  | _ => none }
def FnNetPostsWrongFalsely : Prop := fnNetPostsRow.holds Try.pinned (OpenSpec.ofChange fnNetPostsWrong)

/-- 'laws.FnExactNetPosts': WHATEVER THE INPUT: true; the input reads as it did. -/
def fnExactNetPostsSpec : ChangeSpec := { name := "fnExactNetPosts", fn := fun _ => fun
  | [d] => { results := [.lit (.bool true)], args := [d] }
  | _ => none }
def fnExactNetPostsRow : OpenClaim := { program := "ytmccplnkagfecaa", sum := "eadb9b0bbd6e71cb8f7f7940700162ec75c4092022d699437c6828ca7997e91e", func := "loop.example/bonddesk/laws.FnExactNetPosts", spec := "fnExactNetPosts", plainKeys := false, apart := false }
def FnExactNetPostsSaid : Prop := fnExactNetPostsRow.holds Try.pinned (OpenSpec.ofChange fnExactNetPostsSpec)

/-- ITS FALSE NEIGHBOUR: 'it returns false'. Refute it at one input. -/
def fnExactNetPostsWrong : ChangeSpec := { name := "fnExactNetPosts", fn := fun _ => fun
  | [d] => { results := [.lit (.bool false)], args := [d] }
  | _ => none }
def FnExactNetPostsWrongFalsely : Prop := fnExactNetPostsRow.holds Try.pinned (OpenSpec.ofChange fnExactNetPostsWrong)

/- THE SECOND FORM. 'bulk': how many values and letters a reading holds, each counted each time it is reached (what is shared counts as often as it is met; a slice's spare places count too). A statement '..UptoSaid' is the law's where the arguments, and the package variables that the reading takes, are together of bulk at most 1048576: NARROWER than '..Said'. Prove '..Said' where nothing that the law and all that it calls make is longer than what came in: it says more and counts as full. Else prove '..UptoSaid'. A law counts once. -/
mutual
def uptoBulk {H : Type} : DataW H → Nat
  | .lit (.string bytes) => bytes.length + 1
  | .lit _ => 1
  | .nil => 1
  | .ptr d => uptoBulk d + 1
  | .slice elems spare => uptoBulkAll elems + uptoBulkAll spare + 1
  | .agg parts => uptoBulkAll parts + 1
  | .iface _ d => uptoBulk d + 1
  | .map entries => uptoBulkEntries entries + 1
  | .held _ => 1
def uptoBulkAll {H : Type} : List (DataW H) → Nat
  | [] => 0
  | d :: r => uptoBulk d + uptoBulkAll r
def uptoBulkEntries {H : Type} : List (Lit × DataW H) → Nat
  | [] => 0
  | x :: r => uptoBulkEntry x + uptoBulkEntries r
def uptoBulkEntry {H : Type} : Lit × DataW H → Nat
  | (.string bytes, d) => bytes.length + uptoBulk d + 1
  | (_, d) => uptoBulk d + 1
 end
def uptoSmall : (H : Type) → List (DataW H) → Bool := fun _ ds => decide (uptoBulkAll ds ≤ 1048576)
def OpenSpec.upto (s : _root_.Go.ChangeSpec) : _root_.Go.OpenSpec := { _root_.Go.OpenSpec.ofChange s with cond := some uptoSmall }

/-- 'laws.FnValidPosts', WHERE WHAT IT READS IS OF BULK AT MOST 1048576: true; the input reads as it did. -/
def fnValidPostsUptoRow : OpenClaim := { program := "ytmccplnkagfecaa", sum := "eadb9b0bbd6e71cb8f7f7940700162ec75c4092022d699437c6828ca7997e91e", func := "loop.example/bonddesk/laws.FnValidPosts", spec := "fnValidPosts", plainKeys := false, apart := false, narrowed := true }
def FnValidPostsUptoSaid : Prop := fnValidPostsUptoRow.holds Try.pinned (OpenSpec.upto fnValidPostsSpec)

/-- 'laws.FnExactValidPosts', WHERE WHAT IT READS IS OF BULK AT MOST 1048576: true; the input reads as it did. -/
def fnExactValidPostsUptoRow : OpenClaim := { program := "ytmccplnkagfecaa", sum := "eadb9b0bbd6e71cb8f7f7940700162ec75c4092022d699437c6828ca7997e91e", func := "loop.example/bonddesk/laws.FnExactValidPosts", spec := "fnExactValidPosts", plainKeys := false, apart := false, narrowed := true }
def FnExactValidPostsUptoSaid : Prop := fnExactValidPostsUptoRow.holds Try.pinned (OpenSpec.upto fnExactValidPostsSpec)

/-- 'laws.FnBalanceOf', WHERE WHAT IT READS IS OF BULK AT MOST 1048576: true; the input reads as it did. -/
def fnBalanceOfUptoRow : OpenClaim := { program := "ytmccplnkagfecaa", sum := "eadb9b0bbd6e71cb8f7f7940700162ec75c4092022d699437c6828ca7997e91e", func := "loop.example/bonddesk/laws.FnBalanceOf", spec := "fnBalanceOf", plainKeys := false, apart := false, narrowed := true }
def FnBalanceOfUptoSaid : Prop := fnBalanceOfUptoRow.holds Try.pinned (OpenSpec.upto fnBalanceOfSpec)

/-- 'laws.FnBalanceOfReverse', WHERE WHAT IT READS IS OF BULK AT MOST 1048576: true; the input reads as it did. -/
def fnBalanceOfReverseUptoRow : OpenClaim := { program := "ytmccplnkagfecaa", sum := "eadb9b0bbd6e71cb8f7f7940700162ec75c4092022d699437c6828ca7997e91e", func := "loop.example/bonddesk/laws.FnBalanceOfReverse", spec := "fnBalanceOfReverse", plainKeys := false, apart := false, narrowed := true }
def FnBalanceOfReverseUptoSaid : Prop := fnBalanceOfReverseUptoRow.holds Try.pinned (OpenSpec.upto fnBalanceOfReverseSpec)

/-- 'laws.FnExactBalanceOf', WHERE WHAT IT READS IS OF BULK AT MOST 1048576: true; the input reads as it did. -/
def fnExactBalanceOfUptoRow : OpenClaim := { program := "ytmccplnkagfecaa", sum := "eadb9b0bbd6e71cb8f7f7940700162ec75c4092022d699437c6828ca7997e91e", func := "loop.example/bonddesk/laws.FnExactBalanceOf", spec := "fnExactBalanceOf", plainKeys := false, apart := false, narrowed := true }
def FnExactBalanceOfUptoSaid : Prop := fnExactBalanceOfUptoRow.holds Try.pinned (OpenSpec.upto fnExactBalanceOfSpec)

/-- 'laws.FnNetPosts', WHERE WHAT IT READS IS OF BULK AT MOST 1048576: true; the input reads as it did. -/
def fnNetPostsUptoRow : OpenClaim := { program := "ytmccplnkagfecaa", sum := "eadb9b0bbd6e71cb8f7f7940700162ec75c4092022d699437c6828ca7997e91e", func := "loop.example/bonddesk/laws.FnNetPosts", spec := "fnNetPosts", plainKeys := false, apart := false, narrowed := true }
def FnNetPostsUptoSaid : Prop := fnNetPostsUptoRow.holds Try.pinned (OpenSpec.upto fnNetPostsSpec)

/-- 'laws.FnExactNetPosts', WHERE WHAT IT READS IS OF BULK AT MOST 1048576: true; the input reads as it did. -/
def fnExactNetPostsUptoRow : OpenClaim := { program := "ytmccplnkagfecaa", sum := "eadb9b0bbd6e71cb8f7f7940700162ec75c4092022d699437c6828ca7997e91e", func := "loop.example/bonddesk/laws.FnExactNetPosts", spec := "fnExactNetPosts", plainKeys := false, apart := false, narrowed := true }
def FnExactNetPostsUptoSaid : Prop := fnExactNetPostsUptoRow.holds Try.pinned (OpenSpec.upto fnExactNetPostsSpec)

end Rows
end Go.Proofs.Ytmccplnkagfecaa

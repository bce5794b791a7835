-- PRINTED BY print.sh 35421559b90ae4d0a3588c463048766b98c2df88dd9212a6774a882060cdf62d: not written by this session
import Derived.Test.YtekaceennnphfaaProg
import Derived.Below
import Derived.Deep.Draws
import Derived.Deep.AppendLies
import Derived.Maps.AppendAt
import Derived.OwnWalk
import Derived.Laws.BytesArg
import Derived.Laws.MakeOwn
import Derived.Laws.OwnMore
import Derived.Deep.OwnRows
import Derived.Tactics
import Derived.Lib.ConvBytes
import Derived.Laws.Slices
import Derived.WalkKit
import Derived.KernelRfl
import Derived.RowKit3
import Derived.Deep.LoopGhost
import Derived.Deep.QuietTactic
import Derived.BigQuiet
import Derived.WideLaws
import Derived.Deep.DeepCutAuto
import Derived.Deep.CutBlock
import Derived.Deep.RegionHeld3
import Derived.Laws.Rows
import Derived.Lib.AppendStr
import Derived.ArgAppend
import Derived.Laws.IdiomCopy
import Derived.OrdersHeld
import Derived.Laws.BitsLemmas
import Derived.RowKit
import Derived.Test.YtekaceennnphfaaWWords
import Derived.Test.YtekaceennnphfaaWLast
import Derived.Test.YtekaceennnphfaaWTab
import Derived.Test.YtekaceennnphfaaWFour
import Derived.Test.YtekaceennnphfaaWQPut
import Derived.Test.YtekaceennnphfaaWApart
import Derived.Test.YtekaceennnphfaaWArr
import Derived.Test.YtekaceennnphfaaWZeros
import Derived.Test.YtekaceennnphfaaWFoot
import Derived.Test.YtekaceennnphfaaWKept
import Derived.Test.YtekaceennnphfaaWShare
import Derived.Test.YtekaceennnphfaaWN
import Derived.Test.YtekaceennnphfaaWFootNe
import Derived.Test.YtekaceennnphfaaWAt
import Derived.Test.YtekaceennnphfaaWEqStruct
import Derived.Test.YtekaceennnphfaaWRepsOne
import Derived.Test.YtekaceennnphfaaWInv
import Derived.Test.YtekaceennnphfaaWInvWords
import Derived.Test.YtekaceennnphfaaWGuard
import Derived.Test.YtekaceennnphfaaWNEv
import Derived.Test.YtekaceennnphfaaWMore
namespace Go.Proofs.Ytekaceennnphfaa.PFnRatioDistribute
open Go.RowKit Go.Proofs.YtekaceennnphfaaW.PrintWords Go.Proofs.YtekaceennnphfaaW.PrintLast Go.Proofs.YtekaceennnphfaaW.PrintMore
attribute [local go_sem] max2_int min2_int max_two min_two max_three min_three max_four min_four   -- for this text's walks alone
set_option linter.unusedVariables false
set_option linter.unusedSimpArgs false



def errW : Option Int → Value
  | none => .nilIface
  | some c => .iface 0 (.int .i64 c)
theorem errW_none : errW none = .nilIface := rfl
theorem errW_some (c : Int) : errW (some c) = .iface 0 (.int .i64 c) := rfl

theorem info3 : (Try.prog.info? 3).map (fun i => (i.zero, i.size, i.bytes)) = some (some (.int .i64 0), 1, 8) := by kernel_rfl
theorem info5 : (Try.prog.info? 5).map (fun i => (i.zero, i.size, i.bytes)) = some (some (.int .u8 0), 1, 1) := by kernel_rfl
-- the values' own types

end Go.Proofs.Ytekaceennnphfaa.PFnRatioDistribute

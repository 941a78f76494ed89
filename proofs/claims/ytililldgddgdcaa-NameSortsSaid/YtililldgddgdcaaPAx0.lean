-- written by a program of this claim's session (gprint.py); Lean checks it
import Derived.Test.YtililldgddgdcaaProg
import Derived.Below
import Derived.Deep.Draws
import Derived.Deep.AppendLies
import Derived.Maps.AppendAt
import Derived.OwnWalk
import Derived.Laws.BytesArg
import Derived.Laws.MakeOwn
import Derived.Laws.OwnMore
import Derived.Deep.OwnRows
import Derived.Tactics
import Derived.Lib.ConvBytes
import Derived.Laws.Slices
import Derived.WalkKit
import Derived.KernelRfl
import Derived.RowKit3
import Derived.Deep.LoopGhost
import Derived.Deep.QuietTactic
import Derived.BigQuiet
import Derived.WideLaws
import Derived.Deep.DeepCutAuto
import Derived.Deep.CutBlock
import Derived.Deep.RegionHeld3
import Derived.Laws.Rows
import Derived.Lib.AppendStr
import Derived.ArgAppend
import Derived.Laws.IdiomCopy
import Derived.OrdersHeld
import Derived.Laws.BitsLemmas
import Derived.RowKit
import Derived.Test.YtililldgddgdcaaWWords
import Derived.Test.YtililldgddgdcaaWLast
import Derived.Test.YtililldgddgdcaaWTab
import Derived.Test.YtililldgddgdcaaWFour
import Derived.Test.YtililldgddgdcaaWQPut
import Derived.Test.YtililldgddgdcaaWApart
import Derived.Test.YtililldgddgdcaaWArr
import Derived.Test.YtililldgddgdcaaWZeros
import Derived.Test.YtililldgddgdcaaWFoot
import Derived.Test.YtililldgddgdcaaWKept
import Derived.Test.YtililldgddgdcaaWShare
import Derived.Test.YtililldgddgdcaaWN
import Derived.Test.YtililldgddgdcaaWFootNe
import Derived.Test.YtililldgddgdcaaWAt
import Derived.Test.YtililldgddgdcaaWEqStruct
import Derived.Test.YtililldgddgdcaaWRepsOne
import Derived.Test.YtililldgddgdcaaWInv
import Derived.Test.YtililldgddgdcaaWInvWords
import Derived.Test.YtililldgddgdcaaWGuard
import Derived.Test.YtililldgddgdcaaWNEv
import Derived.Test.YtililldgddgdcaaWMore
namespace Go.Proofs.Ytililldgddgdcaa.PA
open Go.RowKit Go.Proofs.YtililldgddgdcaaW.PrintWords Go.Proofs.YtililldgddgdcaaW.PrintLast Go.Proofs.YtililldgddgdcaaW.PrintMore
attribute [local go_sem] max2_int min2_int max_two min_two max_three min_three max_four min_four   -- for this text's walks alone
set_option linter.unusedVariables false
set_option linter.unusedSimpArgs false



def errW : Option Int → Value
  | none => .nilIface
  | some c => .iface 0 (.int .i64 c)
theorem errW_none : errW none = .nilIface := rfl
theorem errW_some (c : Int) : errW (some c) = .iface 0 (.int .i64 c) := rfl

theorem info5 : (Try.prog.info? 5).map (fun i => (i.zero, i.size, i.bytes)) = some (some (.int .u8 0), 1, 1) := by kernel_rfl
theorem info9 : (Try.prog.info? 9).map (fun i => (i.zero, i.size, i.bytes)) = some (some (.string ⟨#[]⟩), 1, 16) := by kernel_rfl
-- the values' own types

end Go.Proofs.Ytililldgddgdcaa.PA

-- Written by a program of this session: a turned copy of the kit's print (wip/print/fork.py), whose words lie beside.
import Derived.Test.YtdagmhgmegpdpaaProg
import Derived.Below
import Derived.Deep.Draws
import Derived.Deep.AppendLies
import Derived.Maps.AppendAt
import Derived.OwnWalk
import Derived.Laws.BytesArg
import Derived.Laws.MakeOwn
import Derived.Laws.OwnMore
import Derived.Deep.OwnRows
import Derived.Tactics
import Derived.Lib.ConvBytes
import Derived.Laws.Slices
import Derived.WalkKit
import Derived.KernelRfl
import Derived.RowKit3
import Derived.Deep.LoopGhost
import Derived.Deep.QuietTactic
import Derived.BigQuiet
import Derived.WideLaws
import Derived.Deep.DeepCutAuto
import Derived.Deep.CutBlock
import Derived.Deep.RegionHeld3
import Derived.Laws.Rows
import Derived.Lib.AppendStr
import Derived.ArgAppend
import Derived.Laws.IdiomCopy
import Derived.OrdersHeld
import Derived.Laws.BitsLemmas
import Derived.RowKit
import Derived.Lib.BitFns
import Derived.Test.YtdagmhgmegpdpaaBits
import Derived.Test.YtdagmhgmegpdpaaWWords
import Derived.Test.YtdagmhgmegpdpaaWLast
import Derived.Test.YtdagmhgmegpdpaaWTab
import Derived.Test.YtdagmhgmegpdpaaWFour
import Derived.Test.YtdagmhgmegpdpaaWQPut
import Derived.Test.YtdagmhgmegpdpaaWApart
import Derived.Test.YtdagmhgmegpdpaaWArr
import Derived.Test.YtdagmhgmegpdpaaWZeros
import Derived.Test.YtdagmhgmegpdpaaWFoot
import Derived.Test.YtdagmhgmegpdpaaWKept
import Derived.Test.YtdagmhgmegpdpaaWShare
import Derived.Test.YtdagmhgmegpdpaaWN
import Derived.Test.YtdagmhgmegpdpaaWFootNe
import Derived.Test.YtdagmhgmegpdpaaWAt
import Derived.Test.YtdagmhgmegpdpaaWEqStruct
import Derived.Test.YtdagmhgmegpdpaaWRepsOne
import Derived.Test.YtdagmhgmegpdpaaWInv
import Derived.Test.YtdagmhgmegpdpaaWInvWords
import Derived.Test.YtdagmhgmegpdpaaWGuard
import Derived.Test.YtdagmhgmegpdpaaWNEv
import Derived.Test.YtdagmhgmegpdpaaWMore
namespace Go.Proofs.Ytdagmhgmegpdpaa.Q
open Go.RowKit Go.Proofs.YtdagmhgmegpdpaaW.PrintWords Go.Proofs.YtdagmhgmegpdpaaW.PrintLast Go.Proofs.YtdagmhgmegpdpaaW.PrintMore
attribute [local go_sem] max2_int min2_int max_two min_two max_three min_three max_four min_four   -- for this text's walks alone
set_option linter.unusedVariables false
set_option linter.unusedSimpArgs false



def errW : Option Int → Value
  | none => .nilIface
  | some c => .iface 0 (.int .i64 c)
theorem errW_none : errW none = .nilIface := rfl
theorem errW_some (c : Int) : errW (some c) = .iface 0 (.int .i64 c) := rfl

theorem info4 : (Try.prog.info? 4).map (fun i => (i.zero, i.size, i.bytes)) = some (some (.bool false), 1, 1) := by kernel_rfl
theorem info22 : (Try.prog.info? 22).map (fun i => (i.zero, i.size, i.bytes)) = some (some (.int .u32 0), 1, 4) := by kernel_rfl
-- the values' own types

end Go.Proofs.Ytdagmhgmegpdpaa.Q

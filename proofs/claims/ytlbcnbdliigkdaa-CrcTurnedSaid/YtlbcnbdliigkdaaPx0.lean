-- Written by a program of this session (an adapted printer) out of the translation; Lean checks it.
import Derived.Test.YtlbcnbdliigkdaaProg
import Derived.Below
import Derived.Deep.Draws
import Derived.Deep.AppendLies
import Derived.Maps.AppendAt
import Derived.OwnWalk
import Derived.Laws.BytesArg
import Derived.Laws.MakeOwn
import Derived.Laws.OwnMore
import Derived.Deep.OwnRows
import Derived.Tactics
import Derived.Lib.ConvBytes
import Derived.Laws.Slices
import Derived.WalkKit
import Derived.KernelRfl
import Derived.RowKit3
import Derived.Deep.LoopGhost
import Derived.Deep.QuietTactic
import Derived.BigQuiet
import Derived.WideLaws
import Derived.Deep.DeepCutAuto
import Derived.Deep.CutBlock
import Derived.Deep.RegionHeld3
import Derived.Laws.Rows
import Derived.Lib.AppendStr
import Derived.ArgAppend
import Derived.Laws.IdiomCopy
import Derived.OrdersHeld
import Derived.Laws.BitsLemmas
import Derived.RowKit
import Derived.Test.YtlbcnbdliigkdaaTools
import Derived.Test.YtlbcnbdliigkdaaWWords
import Derived.Test.YtlbcnbdliigkdaaWLast
import Derived.Test.YtlbcnbdliigkdaaWTab
import Derived.Test.YtlbcnbdliigkdaaWFour
import Derived.Test.YtlbcnbdliigkdaaWQPut
import Derived.Test.YtlbcnbdliigkdaaWApart
import Derived.Test.YtlbcnbdliigkdaaWArr
import Derived.Test.YtlbcnbdliigkdaaWZeros
import Derived.Test.YtlbcnbdliigkdaaWFoot
import Derived.Test.YtlbcnbdliigkdaaWKept
import Derived.Test.YtlbcnbdliigkdaaWShare
import Derived.Test.YtlbcnbdliigkdaaWN
import Derived.Test.YtlbcnbdliigkdaaWFootNe
import Derived.Test.YtlbcnbdliigkdaaWAt
import Derived.Test.YtlbcnbdliigkdaaWEqStruct
import Derived.Test.YtlbcnbdliigkdaaWRepsOne
import Derived.Test.YtlbcnbdliigkdaaWInv
import Derived.Test.YtlbcnbdliigkdaaWInvWords
import Derived.Test.YtlbcnbdliigkdaaWGuard
import Derived.Test.YtlbcnbdliigkdaaWNEv
import Derived.Test.YtlbcnbdliigkdaaWMore
namespace Go.Proofs.Ytlbcnbdliigkdaa.P
open Go.RowKit Go.Proofs.YtlbcnbdliigkdaaW.PrintWords Go.Proofs.YtlbcnbdliigkdaaW.PrintLast Go.Proofs.YtlbcnbdliigkdaaW.PrintMore
attribute [local go_sem] max2_int min2_int max_two min_two max_three min_three max_four min_four   -- for this text's walks alone
set_option linter.unusedVariables false
set_option linter.unusedSimpArgs false



def errW : Option Int → Value
  | none => .nilIface
  | some c => .iface 0 (.int .i64 c)
theorem errW_none : errW none = .nilIface := rfl
theorem errW_some (c : Int) : errW (some c) = .iface 0 (.int .i64 c) := rfl

theorem info5 : (Try.prog.info? 5).map (fun i => (i.zero, i.size, i.bytes)) = some (some (.int .u8 0), 1, 1) := by kernel_rfl
-- the values' own types

end Go.Proofs.Ytlbcnbdliigkdaa.P

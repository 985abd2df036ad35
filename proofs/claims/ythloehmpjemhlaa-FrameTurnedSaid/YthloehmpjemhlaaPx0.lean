-- Written by a program of this session (an adapted printer) out of the translation; Lean checks it.
import Derived.Test.YthloehmpjemhlaaProg
import Derived.Below
import Derived.Deep.Draws
import Derived.Deep.AppendLies
import Derived.Maps.AppendAt
import Derived.OwnWalk
import Derived.Laws.BytesArg
import Derived.Laws.MakeOwn
import Derived.Laws.OwnMore
import Derived.Deep.OwnRows
import Derived.Tactics
import Derived.Lib.ConvBytes
import Derived.Laws.Slices
import Derived.WalkKit
import Derived.KernelRfl
import Derived.RowKit3
import Derived.Deep.LoopGhost
import Derived.Deep.QuietTactic
import Derived.BigQuiet
import Derived.WideLaws
import Derived.Deep.DeepCutAuto
import Derived.Deep.CutBlock
import Derived.Deep.RegionHeld3
import Derived.Laws.Rows
import Derived.Lib.AppendStr
import Derived.ArgAppend
import Derived.Laws.IdiomCopy
import Derived.OrdersHeld
import Derived.Laws.BitsLemmas
import Derived.RowKit
import Derived.Test.YthloehmpjemhlaaTools
import Derived.Test.YthloehmpjemhlaaWWords
import Derived.Test.YthloehmpjemhlaaWLast
import Derived.Test.YthloehmpjemhlaaWTab
import Derived.Test.YthloehmpjemhlaaWFour
import Derived.Test.YthloehmpjemhlaaWQPut
import Derived.Test.YthloehmpjemhlaaWApart
import Derived.Test.YthloehmpjemhlaaWArr
import Derived.Test.YthloehmpjemhlaaWZeros
import Derived.Test.YthloehmpjemhlaaWFoot
import Derived.Test.YthloehmpjemhlaaWKept
import Derived.Test.YthloehmpjemhlaaWShare
import Derived.Test.YthloehmpjemhlaaWN
import Derived.Test.YthloehmpjemhlaaWFootNe
import Derived.Test.YthloehmpjemhlaaWAt
import Derived.Test.YthloehmpjemhlaaWEqStruct
import Derived.Test.YthloehmpjemhlaaWRepsOne
import Derived.Test.YthloehmpjemhlaaWInv
import Derived.Test.YthloehmpjemhlaaWInvWords
import Derived.Test.YthloehmpjemhlaaWGuard
import Derived.Test.YthloehmpjemhlaaWNEv
import Derived.Test.YthloehmpjemhlaaWMore
namespace Go.Proofs.Ythloehmpjemhlaa.P
open Go.RowKit Go.Proofs.YthloehmpjemhlaaW.PrintWords Go.Proofs.YthloehmpjemhlaaW.PrintLast Go.Proofs.YthloehmpjemhlaaW.PrintMore
attribute [local go_sem] max2_int min2_int max_two min_two max_three min_three max_four min_four   -- for this text's walks alone
set_option linter.unusedVariables false
set_option linter.unusedSimpArgs false



def errW : Option Int → Value
  | none => .nilIface
  | some c => .iface 0 (.int .i64 c)
theorem errW_none : errW none = .nilIface := rfl
theorem errW_some (c : Int) : errW (some c) = .iface 0 (.int .i64 c) := rfl

theorem info5 : (Try.prog.info? 5).map (fun i => (i.zero, i.size, i.bytes)) = some (some (.int .u8 0), 1, 1) := by kernel_rfl
theorem info9 : (Try.prog.info? 9).map (fun i => (i.zero, i.size, i.bytes)) = some (some (.string ⟨#[]⟩), 1, 16) := by kernel_rfl
-- the values' own types

end Go.Proofs.Ythloehmpjemhlaa.P

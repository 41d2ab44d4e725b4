-- Written by a program of mine (inj.py: the kit's printer, some functions told by hand).
import Derived.Test.YtfeddgeihpfjfaaProg
import Derived.Below
import Derived.Deep.Draws
import Derived.Deep.AppendLies
import Derived.Maps.AppendAt
import Derived.OwnWalk
import Derived.Laws.BytesArg
import Derived.Laws.MakeOwn
import Derived.Laws.OwnMore
import Derived.Deep.OwnRows
import Derived.Tactics
import Derived.Lib.ConvBytes
import Derived.Laws.Slices
import Derived.WalkKit
import Derived.KernelRfl
import Derived.RowKit3
import Derived.Deep.LoopGhost
import Derived.Deep.QuietTactic
import Derived.BigQuiet
import Derived.WideLaws
import Derived.Deep.DeepCutAuto
import Derived.Deep.CutBlock
import Derived.Deep.RegionHeld3
import Derived.Laws.Rows
import Derived.Lib.AppendStr
import Derived.ArgAppend
import Derived.Laws.IdiomCopy
import Derived.OrdersHeld
import Derived.Laws.BitsLemmas
import Derived.RowKit
import Derived.Test.YtfeddgeihpfjfaaBitsB
import Derived.Test.YtfeddgeihpfjfaaBinS
import Derived.Test.YtfeddgeihpfjfaaBits
import Derived.Test.YtfeddgeihpfjfaaBuild
import Derived.Test.YtfeddgeihpfjfaaShelf
import Derived.Test.YtfeddgeihpfjfaaWWords
import Derived.Test.YtfeddgeihpfjfaaWLast
import Derived.Test.YtfeddgeihpfjfaaWTab
import Derived.Test.YtfeddgeihpfjfaaWFour
import Derived.Test.YtfeddgeihpfjfaaWQPut
import Derived.Test.YtfeddgeihpfjfaaWApart
import Derived.Test.YtfeddgeihpfjfaaWArr
import Derived.Test.YtfeddgeihpfjfaaWZeros
import Derived.Test.YtfeddgeihpfjfaaWFoot
import Derived.Test.YtfeddgeihpfjfaaWKept
import Derived.Test.YtfeddgeihpfjfaaWShare
import Derived.Test.YtfeddgeihpfjfaaWN
import Derived.Test.YtfeddgeihpfjfaaWFootNe
import Derived.Test.YtfeddgeihpfjfaaWAt
import Derived.Test.YtfeddgeihpfjfaaWEqStruct
import Derived.Test.YtfeddgeihpfjfaaWRepsOne
import Derived.Test.YtfeddgeihpfjfaaWInv
import Derived.Test.YtfeddgeihpfjfaaWInvWords
import Derived.Test.YtfeddgeihpfjfaaWGuard
import Derived.Test.YtfeddgeihpfjfaaWNEv
import Derived.Test.YtfeddgeihpfjfaaWMore
namespace Go.Proofs.Ytfeddgeihpfjfaa.JBitsSays
open Go.RowKit Go.Proofs.YtfeddgeihpfjfaaW.PrintWords Go.Proofs.YtfeddgeihpfjfaaW.PrintLast Go.Proofs.YtfeddgeihpfjfaaW.PrintMore
attribute [local go_sem] max2_int min2_int max_two min_two max_three min_three max_four min_four   -- for this text's walks alone
set_option linter.unusedVariables false
set_option linter.unusedSimpArgs false



def errW : Option Int → Value
  | none => .nilIface
  | some c => .iface 0 (.int .i64 c)
theorem errW_none : errW none = .nilIface := rfl
theorem errW_some (c : Int) : errW (some c) = .iface 0 (.int .i64 c) := rfl

theorem info5 : (Try.prog.info? 5).map (fun i => (i.zero, i.size, i.bytes)) = some (some (.int .u8 0), 1, 1) := by kernel_rfl
-- the values' own types

end Go.Proofs.Ytfeddgeihpfjfaa.JBitsSays

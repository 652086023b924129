-- Printed by hprint.py, a program of this session that runs over the kit printer, out of the translation. Not trusted: Lean checks it.
import Derived.Test.YtnnpjkpmankeiaaProg
import Derived.Below
import Derived.Deep.Draws
import Derived.Deep.AppendLies
import Derived.Maps.AppendAt
import Derived.OwnWalk
import Derived.Laws.BytesArg
import Derived.Laws.MakeOwn
import Derived.Laws.OwnMore
import Derived.Deep.OwnRows
import Derived.Tactics
import Derived.Lib.ConvBytes
import Derived.Laws.Slices
import Derived.WalkKit
import Derived.KernelRfl
import Derived.RowKit3
import Derived.Deep.LoopGhost
import Derived.Deep.QuietTactic
import Derived.BigQuiet
import Derived.WideLaws
import Derived.Deep.DeepCutAuto
import Derived.Deep.CutBlock
import Derived.Deep.RegionHeld3
import Derived.Laws.Rows
import Derived.Lib.AppendStr
import Derived.ArgAppend
import Derived.Laws.IdiomCopy
import Derived.OrdersHeld
import Derived.Laws.BitsLemmas
import Derived.RowKit
import Derived.Test.YtnnpjkpmankeiaaHCheck
import Derived.Test.YtnnpjkpmankeiaaHPieces
import Derived.Test.YtnnpjkpmankeiaaWWords
import Derived.Test.YtnnpjkpmankeiaaWLast
import Derived.Test.YtnnpjkpmankeiaaWTab
import Derived.Test.YtnnpjkpmankeiaaWFour
import Derived.Test.YtnnpjkpmankeiaaWQPut
import Derived.Test.YtnnpjkpmankeiaaWApart
import Derived.Test.YtnnpjkpmankeiaaWArr
import Derived.Test.YtnnpjkpmankeiaaWZeros
import Derived.Test.YtnnpjkpmankeiaaWFoot
import Derived.Test.YtnnpjkpmankeiaaWKept
import Derived.Test.YtnnpjkpmankeiaaWShare
import Derived.Test.YtnnpjkpmankeiaaWN
import Derived.Test.YtnnpjkpmankeiaaWFootNe
import Derived.Test.YtnnpjkpmankeiaaWAt
import Derived.Test.YtnnpjkpmankeiaaWEqStruct
import Derived.Test.YtnnpjkpmankeiaaWRepsOne
import Derived.Test.YtnnpjkpmankeiaaWInv
import Derived.Test.YtnnpjkpmankeiaaWInvWords
import Derived.Test.YtnnpjkpmankeiaaWGuard
import Derived.Test.YtnnpjkpmankeiaaWNEv
import Derived.Test.YtnnpjkpmankeiaaWMore
namespace Go.Proofs.Ytnnpjkpmankeiaa.PSplit
open Go.RowKit Go.Proofs.Ytnnpjkpmankeiaa.Hand Go.Proofs.YtnnpjkpmankeiaaW.PrintWords Go.Proofs.YtnnpjkpmankeiaaW.PrintLast Go.Proofs.YtnnpjkpmankeiaaW.PrintMore
attribute [local go_sem] max2_int min2_int max_two min_two max_three min_three max_four min_four   -- for this text's walks alone
set_option linter.unusedVariables false
set_option linter.unusedSimpArgs false



def errW : Option Int → Value
  | none => .nilIface
  | some c => .iface 0 (.int .i64 c)
theorem errW_none : errW none = .nilIface := rfl
theorem errW_some (c : Int) : errW (some c) = .iface 0 (.int .i64 c) := rfl

-- the values' own types

end Go.Proofs.Ytnnpjkpmankeiaa.PSplit

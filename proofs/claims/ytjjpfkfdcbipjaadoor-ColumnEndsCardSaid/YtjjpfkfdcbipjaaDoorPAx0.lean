-- printed by the kit's printer, turned by a program of this session (wip/tools/mkprint.py)
import Derived.Test.YtjjpfkfdcbipjaaDoorProg
import Derived.Below
import Derived.Deep.Draws
import Derived.Deep.AppendLies
import Derived.Maps.AppendAt
import Derived.OwnWalk
import Derived.Laws.BytesArg
import Derived.Laws.MakeOwn
import Derived.Laws.OwnMore
import Derived.Deep.OwnRows
import Derived.Tactics
import Derived.Lib.ConvBytes
import Derived.Laws.Slices
import Derived.WalkKit
import Derived.KernelRfl
import Derived.RowKit3
import Derived.Deep.LoopGhost
import Derived.Deep.QuietTactic
import Derived.BigQuiet
import Derived.WideLaws
import Derived.Deep.DeepCutAuto
import Derived.Deep.CutBlock
import Derived.Deep.RegionHeld3
import Derived.Laws.Rows
import Derived.Lib.AppendStr
import Derived.ArgAppend
import Derived.Laws.IdiomCopy
import Derived.OrdersHeld
import Derived.Laws.BitsLemmas
import Derived.RowKit
import Derived.Test.YtjjpfkfdcbipjaaDoorWWords
import Derived.Test.YtjjpfkfdcbipjaaDoorWLast
import Derived.Test.YtjjpfkfdcbipjaaDoorWTab
import Derived.Test.YtjjpfkfdcbipjaaDoorWFour
import Derived.Test.YtjjpfkfdcbipjaaDoorWQPut
import Derived.Test.YtjjpfkfdcbipjaaDoorWApart
import Derived.Test.YtjjpfkfdcbipjaaDoorWArr
import Derived.Test.YtjjpfkfdcbipjaaDoorWZeros
import Derived.Test.YtjjpfkfdcbipjaaDoorWFoot
import Derived.Test.YtjjpfkfdcbipjaaDoorWKept
import Derived.Test.YtjjpfkfdcbipjaaDoorWShare
import Derived.Test.YtjjpfkfdcbipjaaDoorWN
import Derived.Test.YtjjpfkfdcbipjaaDoorWFootNe
import Derived.Test.YtjjpfkfdcbipjaaDoorWAt
import Derived.Test.YtjjpfkfdcbipjaaDoorWEqStruct
import Derived.Test.YtjjpfkfdcbipjaaDoorWRepsOne
import Derived.Test.YtjjpfkfdcbipjaaDoorWInv
import Derived.Test.YtjjpfkfdcbipjaaDoorWInvWords
import Derived.Test.YtjjpfkfdcbipjaaDoorWGuard
import Derived.Test.YtjjpfkfdcbipjaaDoorWNEv
import Derived.Test.YtjjpfkfdcbipjaaDoorWMore
namespace Go.Proofs.YtjjpfkfdcbipjaaDoor.PA
open Go.RowKit Go.Proofs.YtjjpfkfdcbipjaaDoorW.PrintWords Go.Proofs.YtjjpfkfdcbipjaaDoorW.PrintLast Go.Proofs.YtjjpfkfdcbipjaaDoorW.PrintMore
attribute [local go_sem] max2_int min2_int max_two min_two max_three min_three max_four min_four   -- for this text's walks alone
set_option linter.unusedVariables false
set_option linter.unusedSimpArgs false



def errW : Option Int → Value
  | none => .nilIface
  | some c => .iface 0 (.int .i64 c)
theorem errW_none : errW none = .nilIface := rfl
theorem errW_some (c : Int) : errW (some c) = .iface 0 (.int .i64 c) := rfl

-- the values' own types

end Go.Proofs.YtjjpfkfdcbipjaaDoor.PA

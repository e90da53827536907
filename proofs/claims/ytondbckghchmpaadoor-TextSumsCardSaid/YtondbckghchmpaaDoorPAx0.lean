-- printed by the kit's printer, turned by a program of this session (wip/tools/mkprint.py)
import Derived.Test.YtondbckghchmpaaDoorProg
import Derived.Below
import Derived.Deep.Draws
import Derived.Deep.AppendLies
import Derived.Maps.AppendAt
import Derived.OwnWalk
import Derived.Laws.BytesArg
import Derived.Laws.MakeOwn
import Derived.Laws.OwnMore
import Derived.Deep.OwnRows
import Derived.Tactics
import Derived.Lib.ConvBytes
import Derived.Laws.Slices
import Derived.WalkKit
import Derived.KernelRfl
import Derived.RowKit3
import Derived.Deep.LoopGhost
import Derived.Deep.QuietTactic
import Derived.BigQuiet
import Derived.WideLaws
import Derived.Deep.DeepCutAuto
import Derived.Deep.CutBlock
import Derived.Deep.RegionHeld3
import Derived.Laws.Rows
import Derived.Lib.AppendStr
import Derived.ArgAppend
import Derived.Laws.IdiomCopy
import Derived.OrdersHeld
import Derived.Laws.BitsLemmas
import Derived.RowKit
import Derived.Test.YtondbckghchmpaaDoorWWords
import Derived.Test.YtondbckghchmpaaDoorWLast
import Derived.Test.YtondbckghchmpaaDoorWTab
import Derived.Test.YtondbckghchmpaaDoorWFour
import Derived.Test.YtondbckghchmpaaDoorWQPut
import Derived.Test.YtondbckghchmpaaDoorWApart
import Derived.Test.YtondbckghchmpaaDoorWArr
import Derived.Test.YtondbckghchmpaaDoorWZeros
import Derived.Test.YtondbckghchmpaaDoorWFoot
import Derived.Test.YtondbckghchmpaaDoorWKept
import Derived.Test.YtondbckghchmpaaDoorWShare
import Derived.Test.YtondbckghchmpaaDoorWN
import Derived.Test.YtondbckghchmpaaDoorWFootNe
import Derived.Test.YtondbckghchmpaaDoorWAt
import Derived.Test.YtondbckghchmpaaDoorWEqStruct
import Derived.Test.YtondbckghchmpaaDoorWRepsOne
import Derived.Test.YtondbckghchmpaaDoorWInv
import Derived.Test.YtondbckghchmpaaDoorWInvWords
import Derived.Test.YtondbckghchmpaaDoorWGuard
import Derived.Test.YtondbckghchmpaaDoorWNEv
import Derived.Test.YtondbckghchmpaaDoorWMore
namespace Go.Proofs.YtondbckghchmpaaDoor.PA
open Go.RowKit Go.Proofs.YtondbckghchmpaaDoorW.PrintWords Go.Proofs.YtondbckghchmpaaDoorW.PrintLast Go.Proofs.YtondbckghchmpaaDoorW.PrintMore
attribute [local go_sem] max2_int min2_int max_two min_two max_three min_three max_four min_four   -- for this text's walks alone
set_option linter.unusedVariables false
set_option linter.unusedSimpArgs false



def errW : Option Int → Value
  | none => .nilIface
  | some c => .iface 0 (.int .i64 c)
theorem errW_none : errW none = .nilIface := rfl
theorem errW_some (c : Int) : errW (some c) = .iface 0 (.int .i64 c) := rfl

theorem info5 : (Tryd.prog.info? 5).map (fun i => (i.zero, i.size, i.bytes)) = some (some (.int .u8 0), 1, 1) := by kernel_rfl
theorem info9 : (Tryd.prog.info? 9).map (fun i => (i.zero, i.size, i.bytes)) = some (some (.string ⟨#[]⟩), 1, 16) := by kernel_rfl
-- the values' own types

end Go.Proofs.YtondbckghchmpaaDoor.PA

/-
  The lock of sync.Once in this program: the numbers of the lock's functions and types. No condition.
-/
import Derived.Test.YtinpchebcnkckaaGreatDoorProg
import Derived.Conc.MuLone
import Derived.KernelRfl
namespace Go.Proofs.YtinpchebcnkckaaGreatDoor.PA
open Go.Conc.Locks

abbrev muLink : MuLink := { lock := 55, unlock := 56, ilock := 69, iunlock := 70, lockSlow := 85, unlockSlow := 88, disable := 81, enable := 83, acquire := 84, relMerge := 86, cas32 := 82, add32 := 87, tMutex := 55, tIMutex := 53, tPMutex := 110, tPIMutex := 126, tPI32 := 128, tUP := 75, tNoCopy := 47, tU32 := 49 }
set_option maxRecDepth 100000 in
theorem muLib : MuLib Tryz.prog muLink := ⟨Tryz.func55, Tryz.func56, Tryz.func69, Tryz.func70, Tryz.func81, Tryz.func83, Tryz.func84, Tryz.func86, Tryz.func82, Tryz.func87, Tryz.underlying53, Tryz.runUnderlying53, Tryz.sizeOf53, Tryz.isAgg53, Tryz.zeroValue53, Tryz.underlying55, Tryz.runUnderlying55, Tryz.sizeOf55, Tryz.isAgg55, Tryz.zeroValue55, Tryz.underlying110, Tryz.runUnderlying110, Tryz.sizeOf110, Tryz.isAgg110, Tryz.zeroValue110, Tryz.underlying126, Tryz.runUnderlying126, Tryz.sizeOf126, Tryz.isAgg126, Tryz.zeroValue126, Tryz.underlying128, Tryz.runUnderlying128, Tryz.sizeOf128, Tryz.isAgg128, Tryz.zeroValue128, Tryz.underlying75, Tryz.runUnderlying75, Tryz.sizeOf75, Tryz.isAgg75, Tryz.zeroValue75, Tryz.underlying47, Tryz.runUnderlying47, Tryz.sizeOf47, Tryz.isAgg47, Tryz.zeroValue47, Tryz.underlying21, Tryz.runUnderlying21, Tryz.sizeOf21, Tryz.isAgg21, Tryz.zeroValue21, (by kernel_rfl)⟩
end Go.Proofs.YtinpchebcnkckaaGreatDoor.PA

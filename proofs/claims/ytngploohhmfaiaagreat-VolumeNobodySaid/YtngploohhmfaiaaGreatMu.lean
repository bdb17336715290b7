/- The numbers under which this program holds sync.Mutex's texts, and that it holds them. -/
import Derived.Test.YtngploohhmfaiaaGreatProg
import Derived.Conc.MuLib
import Derived.KernelRfl
namespace Go.Proofs
abbrev Tryz.muLink : Go.Conc.Locks.MuLink := { lock := 113, unlock := 69, ilock := 172, iunlock := 124, lockSlow := 222, unlockSlow := 186, disable := 184, enable := 187, acquire := 221, relMerge := 183, cas32 := 220, add32 := 185, tMutex := 29, tIMutex := 27, tPMutex := 186, tPIMutex := 248, tPI32 := 252, tUP := 250, tNoCopy := 24, tU32 := 25 }
theorem Tryz.muLib : Go.Conc.Locks.MuLib Tryz.prog Tryz.muLink :=
  ⟨Tryz.func113, Tryz.func69, Tryz.func172, Tryz.func124, Tryz.func184, Tryz.func187, Tryz.func221, Tryz.func183, Tryz.func220, Tryz.func185, Tryz.underlying27, Tryz.runUnderlying27, Tryz.sizeOf27, Tryz.isAgg27, Tryz.zeroValue27, Tryz.underlying29, Tryz.runUnderlying29, Tryz.sizeOf29, Tryz.isAgg29, Tryz.zeroValue29, Tryz.underlying186, Tryz.runUnderlying186, Tryz.sizeOf186, Tryz.isAgg186, Tryz.zeroValue186, Tryz.underlying248, Tryz.runUnderlying248, Tryz.sizeOf248, Tryz.isAgg248, Tryz.zeroValue248, Tryz.underlying252, Tryz.runUnderlying252, Tryz.sizeOf252, Tryz.isAgg252, Tryz.zeroValue252, Tryz.underlying250, Tryz.runUnderlying250, Tryz.sizeOf250, Tryz.isAgg250, Tryz.zeroValue250, Tryz.underlying24, Tryz.runUnderlying24, Tryz.sizeOf24, Tryz.isAgg24, Tryz.zeroValue24, Tryz.underlying21, Tryz.runUnderlying21, Tryz.sizeOf21, Tryz.isAgg21, Tryz.zeroValue21, (by kernel_rfl)⟩
end Go.Proofs

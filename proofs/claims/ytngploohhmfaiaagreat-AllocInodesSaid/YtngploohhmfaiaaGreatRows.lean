/-
  No cell of these rows narrows 'for every input' (looked for: loops, veiled, ifaces, maps, wideKeys, modest, calm, conditions, laid).
  DERIVED. THE GIVEN ROWS OF THIS SEAT. 12 by the template 'for every input the law returns true; each argument reads behind the call as it read before'; 0 by the template 'total and deterministic' (their statements: YtngploohhmfaiaaGreatTotals.lean).
  GIVEN WITH THE SEED: the statements are not yours to turn. If you find one false, say at which input.
  Laid BY PROGRAM, IN A SANDBOX (cutbox-rows.mjs): the forced cells as the released guide's own fill.sh prints them over the translation 46ef8f05f8771a86… (all of the seat's roots in one cut). By AI agents, Wed Nov 11 2026. No macro, syntax, notation, axiom, sorry.
-/
import Derived.Test.YtngploohhmfaiaaGreatChecked
import GoSem.Claim
import GoSem.ClaimJoined
import GoSem.ClaimMapViews
import Derived.JoinedTies
import Derived.KernelRfl
namespace Go.Proofs.YtngploohhmfaiaaGreat
/- THE CELL 'sum', in the pinned program and in every row, IS THE sha256 OF THE DUMP (.gsa) THAT YtngploohhmfaiaaGreatProg.lean LOADS. Nothing in Lean hashes anything: it is a label: what it is worth is what the hold of that sum in a sandbox is worth. -/
noncomputable def Tryz.pinned : Pinned := { name := "ytngploohhmfaiaagreat", sum := "46ef8f05f8771a86e2bb2371a4b17b051942808096b86de2321b8a876545fb23", checked := Tryz.checked }
namespace Rows
def none {H : Type} : Left H := { results := [], args := [] }

/-- 'bollardlaw10.SnapNobody': WHATEVER THE INPUT: true; the input reads as it did. -/
def snapNobodySpec : ChangeSpec := { name := "snapNobody", fn := fun _ => fun
  | [d] => { results := [.lit (.bool true)], args := [d] }
  | _ => none }
def snapNobodyRow : OpenClaim := { program := "ytngploohhmfaiaagreat", sum := "46ef8f05f8771a86e2bb2371a4b17b051942808096b86de2321b8a876545fb23", func := "bollard/bollardlaw10.SnapNobody", spec := "snapNobody", inPlace := ["(*internal/sync.Mutex).Lock", "internal/race.Disable", "sync/atomic.CompareAndSwapInt32", "internal/race.Enable", "internal/race.Acquire", "(*internal/sync.Mutex).lockSlow", "internal/sync.runtime_canSpin", "internal/sync.runtime_doSpin", "internal/sync.throw", "internal/sync.runtime_nanotime", "internal/sync.runtime_SemacquireMutex", "sync/atomic.AddInt32", "(*internal/sync.Mutex).Unlock", "internal/race.ReleaseMerge", "(*internal/sync.Mutex).unlockSlow", "internal/sync.fatal", "internal/sync.runtime_Semrelease"], unfollowed := true, recurses := true, apart := false }
def SnapNobodySaid : Prop := snapNobodyRow.holds Tryz.pinned (OpenSpec.ofChange snapNobodySpec)

/-- ITS FALSE NEIGHBOUR: 'it returns false'. Refute it at one input. -/
def snapNobodyWrong : ChangeSpec := { name := "snapNobody", fn := fun _ => fun
  | [d] => { results := [.lit (.bool false)], args := [d] }
  | _ => none }
def SnapNobodyWrongFalsely : Prop := snapNobodyRow.holds Tryz.pinned (OpenSpec.ofChange snapNobodyWrong)

/-- 'bollardlaw10.SnapFull': WHATEVER THE INPUT: true; the input reads as it did. -/
def snapFullSpec : ChangeSpec := { name := "snapFull", fn := fun _ => fun
  | [d1, d2, d3] => { results := [.lit (.bool true)], args := [d1, d2, d3] }
  | _ => none }
def snapFullRow : OpenClaim := { program := "ytngploohhmfaiaagreat", sum := "46ef8f05f8771a86e2bb2371a4b17b051942808096b86de2321b8a876545fb23", func := "bollard/bollardlaw10.SnapFull", spec := "snapFull", inPlace := ["(*internal/sync.Mutex).Lock", "internal/race.Disable", "sync/atomic.CompareAndSwapInt32", "internal/race.Enable", "internal/race.Acquire", "(*internal/sync.Mutex).lockSlow", "internal/sync.runtime_canSpin", "internal/sync.runtime_doSpin", "internal/sync.throw", "internal/sync.runtime_nanotime", "internal/sync.runtime_SemacquireMutex", "sync/atomic.AddInt32", "(*internal/sync.Mutex).Unlock", "internal/race.ReleaseMerge", "(*internal/sync.Mutex).unlockSlow", "internal/sync.fatal", "internal/sync.runtime_Semrelease"], unfollowed := true, recurses := true, apart := false }
def SnapFullSaid : Prop := snapFullRow.holds Tryz.pinned (OpenSpec.ofChange snapFullSpec)

/-- ITS FALSE NEIGHBOUR: 'it returns false'. Refute it at one input. -/
def snapFullWrong : ChangeSpec := { name := "snapFull", fn := fun _ => fun
  | [d1, d2, d3] => { results := [.lit (.bool false)], args := [d1, d2, d3] }
  | _ => none }
def SnapFullWrongFalsely : Prop := snapFullRow.holds Tryz.pinned (OpenSpec.ofChange snapFullWrong)

/-- 'bollardlaw11.AllocNear': WHATEVER THE INPUT: true; the input reads as it did. -/
def allocNearSpec : ChangeSpec := { name := "allocNear", fn := fun _ => fun
  | [d1, d2] => { results := [.lit (.bool true)], args := [d1, d2] }
  | _ => none }
def allocNearRow : OpenClaim := { program := "ytngploohhmfaiaagreat", sum := "46ef8f05f8771a86e2bb2371a4b17b051942808096b86de2321b8a876545fb23", func := "bollard/bollardlaw11.AllocNear", spec := "allocNear", inPlace := ["(*internal/sync.Mutex).Lock", "internal/race.Disable", "sync/atomic.CompareAndSwapInt32", "internal/race.Enable", "internal/race.Acquire", "(*internal/sync.Mutex).lockSlow", "internal/sync.runtime_canSpin", "internal/sync.runtime_doSpin", "internal/sync.throw", "internal/sync.runtime_nanotime", "internal/sync.runtime_SemacquireMutex", "sync/atomic.AddInt32", "(*internal/sync.Mutex).Unlock", "internal/race.ReleaseMerge", "(*internal/sync.Mutex).unlockSlow", "internal/sync.fatal", "internal/sync.runtime_Semrelease"], unfollowed := true, recurses := true, apart := false }
def AllocNearSaid : Prop := allocNearRow.holds Tryz.pinned (OpenSpec.ofChange allocNearSpec)

/-- ITS FALSE NEIGHBOUR: 'it returns false'. Refute it at one input. -/
def allocNearWrong : ChangeSpec := { name := "allocNear", fn := fun _ => fun
  | [d1, d2] => { results := [.lit (.bool false)], args := [d1, d2] }
  | _ => none }
def AllocNearWrongFalsely : Prop := allocNearRow.holds Tryz.pinned (OpenSpec.ofChange allocNearWrong)

/-- 'bollardlaw09.VolumeCrash': WHATEVER THE INPUT: true; the input reads as it did. -/
def volumeCrashSpec : ChangeSpec := { name := "volumeCrash", fn := fun _ => fun
  | [d1, d2, d3] => { results := [.lit (.bool true)], args := [d1, d2, d3] }
  | _ => none }
def volumeCrashRow : OpenClaim := { program := "ytngploohhmfaiaagreat", sum := "46ef8f05f8771a86e2bb2371a4b17b051942808096b86de2321b8a876545fb23", func := "bollard/bollardlaw09.VolumeCrash", spec := "volumeCrash", inPlace := ["(*internal/sync.Mutex).Lock", "internal/race.Disable", "sync/atomic.CompareAndSwapInt32", "internal/race.Enable", "internal/race.Acquire", "(*internal/sync.Mutex).lockSlow", "internal/sync.runtime_canSpin", "internal/sync.runtime_doSpin", "internal/sync.throw", "internal/sync.runtime_nanotime", "internal/sync.runtime_SemacquireMutex", "sync/atomic.AddInt32", "(*internal/sync.Mutex).Unlock", "internal/race.ReleaseMerge", "(*internal/sync.Mutex).unlockSlow", "internal/sync.fatal", "internal/sync.runtime_Semrelease"], unfollowed := true, recurses := true, apart := false }
def VolumeCrashSaid : Prop := volumeCrashRow.holds Tryz.pinned (OpenSpec.ofChange volumeCrashSpec)

/-- ITS FALSE NEIGHBOUR: 'it returns false'. Refute it at one input. -/
def volumeCrashWrong : ChangeSpec := { name := "volumeCrash", fn := fun _ => fun
  | [d1, d2, d3] => { results := [.lit (.bool false)], args := [d1, d2, d3] }
  | _ => none }
def VolumeCrashWrongFalsely : Prop := volumeCrashRow.holds Tryz.pinned (OpenSpec.ofChange volumeCrashWrong)

/-- 'bollardlaw11.AllocInodes': WHATEVER THE INPUT: true; the input reads as it did. -/
def allocInodesSpec : ChangeSpec := { name := "allocInodes", fn := fun _ => fun
  | [d1, d2, d3] => { results := [.lit (.bool true)], args := [d1, d2, d3] }
  | _ => none }
def allocInodesRow : OpenClaim := { program := "ytngploohhmfaiaagreat", sum := "46ef8f05f8771a86e2bb2371a4b17b051942808096b86de2321b8a876545fb23", func := "bollard/bollardlaw11.AllocInodes", spec := "allocInodes", inPlace := ["(*internal/sync.Mutex).Lock", "internal/race.Disable", "sync/atomic.CompareAndSwapInt32", "internal/race.Enable", "internal/race.Acquire", "(*internal/sync.Mutex).lockSlow", "internal/sync.runtime_canSpin", "internal/sync.runtime_doSpin", "internal/sync.throw", "internal/sync.runtime_nanotime", "internal/sync.runtime_SemacquireMutex", "sync/atomic.AddInt32", "(*internal/sync.Mutex).Unlock", "internal/race.ReleaseMerge", "(*internal/sync.Mutex).unlockSlow", "internal/sync.fatal", "internal/sync.runtime_Semrelease"], unfollowed := true, recurses := true, apart := false }
def AllocInodesSaid : Prop := allocInodesRow.holds Tryz.pinned (OpenSpec.ofChange allocInodesSpec)

/-- ITS FALSE NEIGHBOUR: 'it returns false'. Refute it at one input. -/
def allocInodesWrong : ChangeSpec := { name := "allocInodes", fn := fun _ => fun
  | [d1, d2, d3] => { results := [.lit (.bool false)], args := [d1, d2, d3] }
  | _ => none }
def AllocInodesWrongFalsely : Prop := allocInodesRow.holds Tryz.pinned (OpenSpec.ofChange allocInodesWrong)

/-- 'bollardlaw11.AllocOnce': WHATEVER THE INPUT: true; the input reads as it did. -/
def allocOnceSpec : ChangeSpec := { name := "allocOnce", fn := fun _ => fun
  | [d1, d2] => { results := [.lit (.bool true)], args := [d1, d2] }
  | _ => none }
def allocOnceRow : OpenClaim := { program := "ytngploohhmfaiaagreat", sum := "46ef8f05f8771a86e2bb2371a4b17b051942808096b86de2321b8a876545fb23", func := "bollard/bollardlaw11.AllocOnce", spec := "allocOnce", inPlace := ["(*internal/sync.Mutex).Lock", "internal/race.Disable", "sync/atomic.CompareAndSwapInt32", "internal/race.Enable", "internal/race.Acquire", "(*internal/sync.Mutex).lockSlow", "internal/sync.runtime_canSpin", "internal/sync.runtime_doSpin", "internal/sync.throw", "internal/sync.runtime_nanotime", "internal/sync.runtime_SemacquireMutex", "sync/atomic.AddInt32", "(*internal/sync.Mutex).Unlock", "internal/race.ReleaseMerge", "(*internal/sync.Mutex).unlockSlow", "internal/sync.fatal", "internal/sync.runtime_Semrelease"], unfollowed := true, recurses := true, apart := false }
def AllocOnceSaid : Prop := allocOnceRow.holds Tryz.pinned (OpenSpec.ofChange allocOnceSpec)

/-- ITS FALSE NEIGHBOUR: 'it returns false'. Refute it at one input. -/
def allocOnceWrong : ChangeSpec := { name := "allocOnce", fn := fun _ => fun
  | [d1, d2] => { results := [.lit (.bool false)], args := [d1, d2] }
  | _ => none }
def AllocOnceWrongFalsely : Prop := allocOnceRow.holds Tryz.pinned (OpenSpec.ofChange allocOnceWrong)

/-- 'bollardlaw09.VolumeNow': WHATEVER THE INPUT: true; the input reads as it did. -/
def volumeNowSpec : ChangeSpec := { name := "volumeNow", fn := fun _ => fun
  | [d1, d2, d3] => { results := [.lit (.bool true)], args := [d1, d2, d3] }
  | _ => none }
def volumeNowRow : OpenClaim := { program := "ytngploohhmfaiaagreat", sum := "46ef8f05f8771a86e2bb2371a4b17b051942808096b86de2321b8a876545fb23", func := "bollard/bollardlaw09.VolumeNow", spec := "volumeNow", inPlace := ["internal/bytealg.MakeNoZero", "(*internal/sync.Mutex).Lock", "internal/race.Disable", "sync/atomic.CompareAndSwapInt32", "internal/race.Enable", "internal/race.Acquire", "(*internal/sync.Mutex).lockSlow", "internal/sync.runtime_canSpin", "internal/sync.runtime_doSpin", "internal/sync.throw", "internal/sync.runtime_nanotime", "internal/sync.runtime_SemacquireMutex", "sync/atomic.AddInt32", "(*internal/sync.Mutex).Unlock", "internal/race.ReleaseMerge", "(*internal/sync.Mutex).unlockSlow", "internal/sync.fatal", "internal/sync.runtime_Semrelease"], unfollowed := true, recurses := true, apart := false }
def VolumeNowSaid : Prop := volumeNowRow.holds Tryz.pinned (OpenSpec.ofChange volumeNowSpec)

/-- ITS FALSE NEIGHBOUR: 'it returns false'. Refute it at one input. -/
def volumeNowWrong : ChangeSpec := { name := "volumeNow", fn := fun _ => fun
  | [d1, d2, d3] => { results := [.lit (.bool false)], args := [d1, d2, d3] }
  | _ => none }
def VolumeNowWrongFalsely : Prop := volumeNowRow.holds Tryz.pinned (OpenSpec.ofChange volumeNowWrong)

/-- 'bollardlaw10.SnapStays': WHATEVER THE INPUT: true; the input reads as it did. -/
def snapStaysSpec : ChangeSpec := { name := "snapStays", fn := fun _ => fun
  | [d1, d2, d3] => { results := [.lit (.bool true)], args := [d1, d2, d3] }
  | _ => none }
def snapStaysRow : OpenClaim := { program := "ytngploohhmfaiaagreat", sum := "46ef8f05f8771a86e2bb2371a4b17b051942808096b86de2321b8a876545fb23", func := "bollard/bollardlaw10.SnapStays", spec := "snapStays", inPlace := ["(*internal/sync.Mutex).Lock", "internal/race.Disable", "sync/atomic.CompareAndSwapInt32", "internal/race.Enable", "internal/race.Acquire", "(*internal/sync.Mutex).lockSlow", "internal/sync.runtime_canSpin", "internal/sync.runtime_doSpin", "internal/sync.throw", "internal/sync.runtime_nanotime", "internal/sync.runtime_SemacquireMutex", "sync/atomic.AddInt32", "(*internal/sync.Mutex).Unlock", "internal/race.ReleaseMerge", "(*internal/sync.Mutex).unlockSlow", "internal/sync.fatal", "internal/sync.runtime_Semrelease"], unfollowed := true, recurses := true, apart := false }
def SnapStaysSaid : Prop := snapStaysRow.holds Tryz.pinned (OpenSpec.ofChange snapStaysSpec)

/-- ITS FALSE NEIGHBOUR: 'it returns false'. Refute it at one input. -/
def snapStaysWrong : ChangeSpec := { name := "snapStays", fn := fun _ => fun
  | [d1, d2, d3] => { results := [.lit (.bool false)], args := [d1, d2, d3] }
  | _ => none }
def SnapStaysWrongFalsely : Prop := snapStaysRow.holds Tryz.pinned (OpenSpec.ofChange snapStaysWrong)

/-- 'bollardlaw11.AllocNobody': WHATEVER THE INPUT: true; the input reads as it did. -/
def allocNobodySpec : ChangeSpec := { name := "allocNobody", fn := fun _ => fun
  | [d1, d2] => { results := [.lit (.bool true)], args := [d1, d2] }
  | _ => none }
def allocNobodyRow : OpenClaim := { program := "ytngploohhmfaiaagreat", sum := "46ef8f05f8771a86e2bb2371a4b17b051942808096b86de2321b8a876545fb23", func := "bollard/bollardlaw11.AllocNobody", spec := "allocNobody", inPlace := ["(*internal/sync.Mutex).Lock", "internal/race.Disable", "sync/atomic.CompareAndSwapInt32", "internal/race.Enable", "internal/race.Acquire", "(*internal/sync.Mutex).lockSlow", "internal/sync.runtime_canSpin", "internal/sync.runtime_doSpin", "internal/sync.throw", "internal/sync.runtime_nanotime", "internal/sync.runtime_SemacquireMutex", "sync/atomic.AddInt32", "(*internal/sync.Mutex).Unlock", "internal/race.ReleaseMerge", "(*internal/sync.Mutex).unlockSlow", "internal/sync.fatal", "internal/sync.runtime_Semrelease"], unfollowed := true, recurses := true, apart := false }
def AllocNobodySaid : Prop := allocNobodyRow.holds Tryz.pinned (OpenSpec.ofChange allocNobodySpec)

/-- ITS FALSE NEIGHBOUR: 'it returns false'. Refute it at one input. -/
def allocNobodyWrong : ChangeSpec := { name := "allocNobody", fn := fun _ => fun
  | [d1, d2] => { results := [.lit (.bool false)], args := [d1, d2] }
  | _ => none }
def AllocNobodyWrongFalsely : Prop := allocNobodyRow.holds Tryz.pinned (OpenSpec.ofChange allocNobodyWrong)

/-- 'bollardlaw09.VolumeFrozen': WHATEVER THE INPUT: true; the input reads as it did. -/
def volumeFrozenSpec : ChangeSpec := { name := "volumeFrozen", fn := fun _ => fun
  | [d1, d2, d3] => { results := [.lit (.bool true)], args := [d1, d2, d3] }
  | _ => none }
def volumeFrozenRow : OpenClaim := { program := "ytngploohhmfaiaagreat", sum := "46ef8f05f8771a86e2bb2371a4b17b051942808096b86de2321b8a876545fb23", func := "bollard/bollardlaw09.VolumeFrozen", spec := "volumeFrozen", inPlace := ["internal/bytealg.MakeNoZero", "(*internal/sync.Mutex).Lock", "internal/race.Disable", "sync/atomic.CompareAndSwapInt32", "internal/race.Enable", "internal/race.Acquire", "(*internal/sync.Mutex).lockSlow", "internal/sync.runtime_canSpin", "internal/sync.runtime_doSpin", "internal/sync.throw", "internal/sync.runtime_nanotime", "internal/sync.runtime_SemacquireMutex", "sync/atomic.AddInt32", "(*internal/sync.Mutex).Unlock", "internal/race.ReleaseMerge", "(*internal/sync.Mutex).unlockSlow", "internal/sync.fatal", "internal/sync.runtime_Semrelease"], unfollowed := true, recurses := true, apart := false }
def VolumeFrozenSaid : Prop := volumeFrozenRow.holds Tryz.pinned (OpenSpec.ofChange volumeFrozenSpec)

/-- ITS FALSE NEIGHBOUR: 'it returns false'. Refute it at one input. -/
def volumeFrozenWrong : ChangeSpec := { name := "volumeFrozen", fn := fun _ => fun
  | [d1, d2, d3] => { results := [.lit (.bool false)], args := [d1, d2, d3] }
  | _ => none }
def VolumeFrozenWrongFalsely : Prop := volumeFrozenRow.holds Tryz.pinned (OpenSpec.ofChange volumeFrozenWrong)

/-- 'bollardlaw09.VolumeSynced': WHATEVER THE INPUT: true; the input reads as it did. -/
def volumeSyncedSpec : ChangeSpec := { name := "volumeSynced", fn := fun _ => fun
  | [d1, d2] => { results := [.lit (.bool true)], args := [d1, d2] }
  | _ => none }
def volumeSyncedRow : OpenClaim := { program := "ytngploohhmfaiaagreat", sum := "46ef8f05f8771a86e2bb2371a4b17b051942808096b86de2321b8a876545fb23", func := "bollard/bollardlaw09.VolumeSynced", spec := "volumeSynced", inPlace := ["internal/bytealg.MakeNoZero", "(*internal/sync.Mutex).Lock", "internal/race.Disable", "sync/atomic.CompareAndSwapInt32", "internal/race.Enable", "internal/race.Acquire", "(*internal/sync.Mutex).lockSlow", "internal/sync.runtime_canSpin", "internal/sync.runtime_doSpin", "internal/sync.throw", "internal/sync.runtime_nanotime", "internal/sync.runtime_SemacquireMutex", "sync/atomic.AddInt32", "(*internal/sync.Mutex).Unlock", "internal/race.ReleaseMerge", "(*internal/sync.Mutex).unlockSlow", "internal/sync.fatal", "internal/sync.runtime_Semrelease"], unfollowed := true, recurses := true, apart := false }
def VolumeSyncedSaid : Prop := volumeSyncedRow.holds Tryz.pinned (OpenSpec.ofChange volumeSyncedSpec)

/-- ITS FALSE NEIGHBOUR: 'it returns false'. Refute it at one input. -/
def volumeSyncedWrong : ChangeSpec := { name := "volumeSynced", fn := fun _ => fun
  | [d1, d2] => { results := [.lit (.bool false)], args := [d1, d2] }
  | _ => none }
def VolumeSyncedWrongFalsely : Prop := volumeSyncedRow.holds Tryz.pinned (OpenSpec.ofChange volumeSyncedWrong)

/-- 'bollardlaw09.VolumeNobody': WHATEVER THE INPUT: true; the input reads as it did. -/
def volumeNobodySpec : ChangeSpec := { name := "volumeNobody", fn := fun _ => fun
  | [d1, d2] => { results := [.lit (.bool true)], args := [d1, d2] }
  | _ => none }
def volumeNobodyRow : OpenClaim := { program := "ytngploohhmfaiaagreat", sum := "46ef8f05f8771a86e2bb2371a4b17b051942808096b86de2321b8a876545fb23", func := "bollard/bollardlaw09.VolumeNobody", spec := "volumeNobody", inPlace := ["(*internal/sync.Mutex).Lock", "internal/race.Disable", "sync/atomic.CompareAndSwapInt32", "internal/race.Enable", "internal/race.Acquire", "(*internal/sync.Mutex).lockSlow", "internal/sync.runtime_canSpin", "internal/sync.runtime_doSpin", "internal/sync.throw", "internal/sync.runtime_nanotime", "internal/sync.runtime_SemacquireMutex", "sync/atomic.AddInt32", "(*internal/sync.Mutex).Unlock", "internal/race.ReleaseMerge", "(*internal/sync.Mutex).unlockSlow", "internal/sync.fatal", "internal/sync.runtime_Semrelease", "internal/bytealg.MakeNoZero"], unfollowed := true, recurses := true, apart := false }
def VolumeNobodySaid : Prop := volumeNobodyRow.holds Tryz.pinned (OpenSpec.ofChange volumeNobodySpec)

/-- ITS FALSE NEIGHBOUR: 'it returns false'. Refute it at one input. -/
def volumeNobodyWrong : ChangeSpec := { name := "volumeNobody", fn := fun _ => fun
  | [d1, d2] => { results := [.lit (.bool false)], args := [d1, d2] }
  | _ => none }
def VolumeNobodyWrongFalsely : Prop := volumeNobodyRow.holds Tryz.pinned (OpenSpec.ofChange volumeNobodyWrong)

/- THE SECOND FORM. 'bulk': how many values and letters a reading holds, each counted each time it is reached (what is shared counts as often as it is met; a slice's spare places count too). A statement '..UptoSaid' is the law's where the arguments, and the package variables that the reading takes, are together of bulk at most 1048576: NARROWER than '..Said'. Prove '..Said' where nothing that the law and all that it calls make is longer than what came in: it says more and counts as full. Else prove '..UptoSaid'. A law counts once. -/
mutual
def uptoBulk {H : Type} : DataW H → Nat
  | .lit (.string bytes) => bytes.length + 1
  | .lit _ => 1
  | .nil => 1
  | .ptr d => uptoBulk d + 1
  | .slice elems spare => uptoBulkAll elems + uptoBulkAll spare + 1
  | .agg parts => uptoBulkAll parts + 1
  | .iface _ d => uptoBulk d + 1
  | .map entries => uptoBulkEntries entries + 1
  | .held _ => 1
def uptoBulkAll {H : Type} : List (DataW H) → Nat
  | [] => 0
  | d :: r => uptoBulk d + uptoBulkAll r
def uptoBulkEntries {H : Type} : List (Lit × DataW H) → Nat
  | [] => 0
  | x :: r => uptoBulkEntry x + uptoBulkEntries r
def uptoBulkEntry {H : Type} : Lit × DataW H → Nat
  | (.string bytes, d) => bytes.length + uptoBulk d + 1
  | (_, d) => uptoBulk d + 1
 end
def uptoSmall : (H : Type) → List (DataW H) → Bool := fun _ ds => decide (uptoBulkAll ds ≤ 1048576)
def OpenSpec.upto (s : _root_.Go.ChangeSpec) : _root_.Go.OpenSpec := { _root_.Go.OpenSpec.ofChange s with cond := some uptoSmall }

/-- 'bollardlaw10.SnapNobody', WHERE WHAT IT READS IS OF BULK AT MOST 1048576: true; the input reads as it did. -/
def snapNobodyUptoRow : OpenClaim := { program := "ytngploohhmfaiaagreat", sum := "46ef8f05f8771a86e2bb2371a4b17b051942808096b86de2321b8a876545fb23", func := "bollard/bollardlaw10.SnapNobody", spec := "snapNobody", inPlace := ["(*internal/sync.Mutex).Lock", "internal/race.Disable", "sync/atomic.CompareAndSwapInt32", "internal/race.Enable", "internal/race.Acquire", "(*internal/sync.Mutex).lockSlow", "internal/sync.runtime_canSpin", "internal/sync.runtime_doSpin", "internal/sync.throw", "internal/sync.runtime_nanotime", "internal/sync.runtime_SemacquireMutex", "sync/atomic.AddInt32", "(*internal/sync.Mutex).Unlock", "internal/race.ReleaseMerge", "(*internal/sync.Mutex).unlockSlow", "internal/sync.fatal", "internal/sync.runtime_Semrelease"], unfollowed := true, recurses := true, apart := false, narrowed := true }
def SnapNobodyUptoSaid : Prop := snapNobodyUptoRow.holds Tryz.pinned (OpenSpec.upto snapNobodySpec)

/-- 'bollardlaw10.SnapFull', WHERE WHAT IT READS IS OF BULK AT MOST 1048576: true; the input reads as it did. -/
def snapFullUptoRow : OpenClaim := { program := "ytngploohhmfaiaagreat", sum := "46ef8f05f8771a86e2bb2371a4b17b051942808096b86de2321b8a876545fb23", func := "bollard/bollardlaw10.SnapFull", spec := "snapFull", inPlace := ["(*internal/sync.Mutex).Lock", "internal/race.Disable", "sync/atomic.CompareAndSwapInt32", "internal/race.Enable", "internal/race.Acquire", "(*internal/sync.Mutex).lockSlow", "internal/sync.runtime_canSpin", "internal/sync.runtime_doSpin", "internal/sync.throw", "internal/sync.runtime_nanotime", "internal/sync.runtime_SemacquireMutex", "sync/atomic.AddInt32", "(*internal/sync.Mutex).Unlock", "internal/race.ReleaseMerge", "(*internal/sync.Mutex).unlockSlow", "internal/sync.fatal", "internal/sync.runtime_Semrelease"], unfollowed := true, recurses := true, apart := false, narrowed := true }
def SnapFullUptoSaid : Prop := snapFullUptoRow.holds Tryz.pinned (OpenSpec.upto snapFullSpec)

/-- 'bollardlaw11.AllocNear', WHERE WHAT IT READS IS OF BULK AT MOST 1048576: true; the input reads as it did. -/
def allocNearUptoRow : OpenClaim := { program := "ytngploohhmfaiaagreat", sum := "46ef8f05f8771a86e2bb2371a4b17b051942808096b86de2321b8a876545fb23", func := "bollard/bollardlaw11.AllocNear", spec := "allocNear", inPlace := ["(*internal/sync.Mutex).Lock", "internal/race.Disable", "sync/atomic.CompareAndSwapInt32", "internal/race.Enable", "internal/race.Acquire", "(*internal/sync.Mutex).lockSlow", "internal/sync.runtime_canSpin", "internal/sync.runtime_doSpin", "internal/sync.throw", "internal/sync.runtime_nanotime", "internal/sync.runtime_SemacquireMutex", "sync/atomic.AddInt32", "(*internal/sync.Mutex).Unlock", "internal/race.ReleaseMerge", "(*internal/sync.Mutex).unlockSlow", "internal/sync.fatal", "internal/sync.runtime_Semrelease"], unfollowed := true, recurses := true, apart := false, narrowed := true }
def AllocNearUptoSaid : Prop := allocNearUptoRow.holds Tryz.pinned (OpenSpec.upto allocNearSpec)

/-- 'bollardlaw09.VolumeCrash', WHERE WHAT IT READS IS OF BULK AT MOST 1048576: true; the input reads as it did. -/
def volumeCrashUptoRow : OpenClaim := { program := "ytngploohhmfaiaagreat", sum := "46ef8f05f8771a86e2bb2371a4b17b051942808096b86de2321b8a876545fb23", func := "bollard/bollardlaw09.VolumeCrash", spec := "volumeCrash", inPlace := ["(*internal/sync.Mutex).Lock", "internal/race.Disable", "sync/atomic.CompareAndSwapInt32", "internal/race.Enable", "internal/race.Acquire", "(*internal/sync.Mutex).lockSlow", "internal/sync.runtime_canSpin", "internal/sync.runtime_doSpin", "internal/sync.throw", "internal/sync.runtime_nanotime", "internal/sync.runtime_SemacquireMutex", "sync/atomic.AddInt32", "(*internal/sync.Mutex).Unlock", "internal/race.ReleaseMerge", "(*internal/sync.Mutex).unlockSlow", "internal/sync.fatal", "internal/sync.runtime_Semrelease"], unfollowed := true, recurses := true, apart := false, narrowed := true }
def VolumeCrashUptoSaid : Prop := volumeCrashUptoRow.holds Tryz.pinned (OpenSpec.upto volumeCrashSpec)

/-- 'bollardlaw11.AllocInodes', WHERE WHAT IT READS IS OF BULK AT MOST 1048576: true; the input reads as it did. -/
def allocInodesUptoRow : OpenClaim := { program := "ytngploohhmfaiaagreat", sum := "46ef8f05f8771a86e2bb2371a4b17b051942808096b86de2321b8a876545fb23", func := "bollard/bollardlaw11.AllocInodes", spec := "allocInodes", inPlace := ["(*internal/sync.Mutex).Lock", "internal/race.Disable", "sync/atomic.CompareAndSwapInt32", "internal/race.Enable", "internal/race.Acquire", "(*internal/sync.Mutex).lockSlow", "internal/sync.runtime_canSpin", "internal/sync.runtime_doSpin", "internal/sync.throw", "internal/sync.runtime_nanotime", "internal/sync.runtime_SemacquireMutex", "sync/atomic.AddInt32", "(*internal/sync.Mutex).Unlock", "internal/race.ReleaseMerge", "(*internal/sync.Mutex).unlockSlow", "internal/sync.fatal", "internal/sync.runtime_Semrelease"], unfollowed := true, recurses := true, apart := false, narrowed := true }
def AllocInodesUptoSaid : Prop := allocInodesUptoRow.holds Tryz.pinned (OpenSpec.upto allocInodesSpec)

/-- 'bollardlaw11.AllocOnce', WHERE WHAT IT READS IS OF BULK AT MOST 1048576: true; the input reads as it did. -/
def allocOnceUptoRow : OpenClaim := { program := "ytngploohhmfaiaagreat", sum := "46ef8f05f8771a86e2bb2371a4b17b051942808096b86de2321b8a876545fb23", func := "bollard/bollardlaw11.AllocOnce", spec := "allocOnce", inPlace := ["(*internal/sync.Mutex).Lock", "internal/race.Disable", "sync/atomic.CompareAndSwapInt32", "internal/race.Enable", "internal/race.Acquire", "(*internal/sync.Mutex).lockSlow", "internal/sync.runtime_canSpin", "internal/sync.runtime_doSpin", "internal/sync.throw", "internal/sync.runtime_nanotime", "internal/sync.runtime_SemacquireMutex", "sync/atomic.AddInt32", "(*internal/sync.Mutex).Unlock", "internal/race.ReleaseMerge", "(*internal/sync.Mutex).unlockSlow", "internal/sync.fatal", "internal/sync.runtime_Semrelease"], unfollowed := true, recurses := true, apart := false, narrowed := true }
def AllocOnceUptoSaid : Prop := allocOnceUptoRow.holds Tryz.pinned (OpenSpec.upto allocOnceSpec)

/-- 'bollardlaw09.VolumeNow', WHERE WHAT IT READS IS OF BULK AT MOST 1048576: true; the input reads as it did. -/
def volumeNowUptoRow : OpenClaim := { program := "ytngploohhmfaiaagreat", sum := "46ef8f05f8771a86e2bb2371a4b17b051942808096b86de2321b8a876545fb23", func := "bollard/bollardlaw09.VolumeNow", spec := "volumeNow", inPlace := ["internal/bytealg.MakeNoZero", "(*internal/sync.Mutex).Lock", "internal/race.Disable", "sync/atomic.CompareAndSwapInt32", "internal/race.Enable", "internal/race.Acquire", "(*internal/sync.Mutex).lockSlow", "internal/sync.runtime_canSpin", "internal/sync.runtime_doSpin", "internal/sync.throw", "internal/sync.runtime_nanotime", "internal/sync.runtime_SemacquireMutex", "sync/atomic.AddInt32", "(*internal/sync.Mutex).Unlock", "internal/race.ReleaseMerge", "(*internal/sync.Mutex).unlockSlow", "internal/sync.fatal", "internal/sync.runtime_Semrelease"], unfollowed := true, recurses := true, apart := false, narrowed := true }
def VolumeNowUptoSaid : Prop := volumeNowUptoRow.holds Tryz.pinned (OpenSpec.upto volumeNowSpec)

/-- 'bollardlaw10.SnapStays', WHERE WHAT IT READS IS OF BULK AT MOST 1048576: true; the input reads as it did. -/
def snapStaysUptoRow : OpenClaim := { program := "ytngploohhmfaiaagreat", sum := "46ef8f05f8771a86e2bb2371a4b17b051942808096b86de2321b8a876545fb23", func := "bollard/bollardlaw10.SnapStays", spec := "snapStays", inPlace := ["(*internal/sync.Mutex).Lock", "internal/race.Disable", "sync/atomic.CompareAndSwapInt32", "internal/race.Enable", "internal/race.Acquire", "(*internal/sync.Mutex).lockSlow", "internal/sync.runtime_canSpin", "internal/sync.runtime_doSpin", "internal/sync.throw", "internal/sync.runtime_nanotime", "internal/sync.runtime_SemacquireMutex", "sync/atomic.AddInt32", "(*internal/sync.Mutex).Unlock", "internal/race.ReleaseMerge", "(*internal/sync.Mutex).unlockSlow", "internal/sync.fatal", "internal/sync.runtime_Semrelease"], unfollowed := true, recurses := true, apart := false, narrowed := true }
def SnapStaysUptoSaid : Prop := snapStaysUptoRow.holds Tryz.pinned (OpenSpec.upto snapStaysSpec)

/-- 'bollardlaw11.AllocNobody', WHERE WHAT IT READS IS OF BULK AT MOST 1048576: true; the input reads as it did. -/
def allocNobodyUptoRow : OpenClaim := { program := "ytngploohhmfaiaagreat", sum := "46ef8f05f8771a86e2bb2371a4b17b051942808096b86de2321b8a876545fb23", func := "bollard/bollardlaw11.AllocNobody", spec := "allocNobody", inPlace := ["(*internal/sync.Mutex).Lock", "internal/race.Disable", "sync/atomic.CompareAndSwapInt32", "internal/race.Enable", "internal/race.Acquire", "(*internal/sync.Mutex).lockSlow", "internal/sync.runtime_canSpin", "internal/sync.runtime_doSpin", "internal/sync.throw", "internal/sync.runtime_nanotime", "internal/sync.runtime_SemacquireMutex", "sync/atomic.AddInt32", "(*internal/sync.Mutex).Unlock", "internal/race.ReleaseMerge", "(*internal/sync.Mutex).unlockSlow", "internal/sync.fatal", "internal/sync.runtime_Semrelease"], unfollowed := true, recurses := true, apart := false, narrowed := true }
def AllocNobodyUptoSaid : Prop := allocNobodyUptoRow.holds Tryz.pinned (OpenSpec.upto allocNobodySpec)

/-- 'bollardlaw09.VolumeFrozen', WHERE WHAT IT READS IS OF BULK AT MOST 1048576: true; the input reads as it did. -/
def volumeFrozenUptoRow : OpenClaim := { program := "ytngploohhmfaiaagreat", sum := "46ef8f05f8771a86e2bb2371a4b17b051942808096b86de2321b8a876545fb23", func := "bollard/bollardlaw09.VolumeFrozen", spec := "volumeFrozen", inPlace := ["internal/bytealg.MakeNoZero", "(*internal/sync.Mutex).Lock", "internal/race.Disable", "sync/atomic.CompareAndSwapInt32", "internal/race.Enable", "internal/race.Acquire", "(*internal/sync.Mutex).lockSlow", "internal/sync.runtime_canSpin", "internal/sync.runtime_doSpin", "internal/sync.throw", "internal/sync.runtime_nanotime", "internal/sync.runtime_SemacquireMutex", "sync/atomic.AddInt32", "(*internal/sync.Mutex).Unlock", "internal/race.ReleaseMerge", "(*internal/sync.Mutex).unlockSlow", "internal/sync.fatal", "internal/sync.runtime_Semrelease"], unfollowed := true, recurses := true, apart := false, narrowed := true }
def VolumeFrozenUptoSaid : Prop := volumeFrozenUptoRow.holds Tryz.pinned (OpenSpec.upto volumeFrozenSpec)

/-- 'bollardlaw09.VolumeSynced', WHERE WHAT IT READS IS OF BULK AT MOST 1048576: true; the input reads as it did. -/
def volumeSyncedUptoRow : OpenClaim := { program := "ytngploohhmfaiaagreat", sum := "46ef8f05f8771a86e2bb2371a4b17b051942808096b86de2321b8a876545fb23", func := "bollard/bollardlaw09.VolumeSynced", spec := "volumeSynced", inPlace := ["internal/bytealg.MakeNoZero", "(*internal/sync.Mutex).Lock", "internal/race.Disable", "sync/atomic.CompareAndSwapInt32", "internal/race.Enable", "internal/race.Acquire", "(*internal/sync.Mutex).lockSlow", "internal/sync.runtime_canSpin", "internal/sync.runtime_doSpin", "internal/sync.throw", "internal/sync.runtime_nanotime", "internal/sync.runtime_SemacquireMutex", "sync/atomic.AddInt32", "(*internal/sync.Mutex).Unlock", "internal/race.ReleaseMerge", "(*internal/sync.Mutex).unlockSlow", "internal/sync.fatal", "internal/sync.runtime_Semrelease"], unfollowed := true, recurses := true, apart := false, narrowed := true }
def VolumeSyncedUptoSaid : Prop := volumeSyncedUptoRow.holds Tryz.pinned (OpenSpec.upto volumeSyncedSpec)

/-- 'bollardlaw09.VolumeNobody', WHERE WHAT IT READS IS OF BULK AT MOST 1048576: true; the input reads as it did. -/
def volumeNobodyUptoRow : OpenClaim := { program := "ytngploohhmfaiaagreat", sum := "46ef8f05f8771a86e2bb2371a4b17b051942808096b86de2321b8a876545fb23", func := "bollard/bollardlaw09.VolumeNobody", spec := "volumeNobody", inPlace := ["(*internal/sync.Mutex).Lock", "internal/race.Disable", "sync/atomic.CompareAndSwapInt32", "internal/race.Enable", "internal/race.Acquire", "(*internal/sync.Mutex).lockSlow", "internal/sync.runtime_canSpin", "internal/sync.runtime_doSpin", "internal/sync.throw", "internal/sync.runtime_nanotime", "internal/sync.runtime_SemacquireMutex", "sync/atomic.AddInt32", "(*internal/sync.Mutex).Unlock", "internal/race.ReleaseMerge", "(*internal/sync.Mutex).unlockSlow", "internal/sync.fatal", "internal/sync.runtime_Semrelease", "internal/bytealg.MakeNoZero"], unfollowed := true, recurses := true, apart := false, narrowed := true }
def VolumeNobodyUptoSaid : Prop := volumeNobodyUptoRow.holds Tryz.pinned (OpenSpec.upto volumeNobodySpec)

end Rows
end Go.Proofs.YtngploohhmfaiaaGreat

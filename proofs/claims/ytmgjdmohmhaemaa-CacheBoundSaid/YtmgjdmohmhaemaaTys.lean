/- Contracts of functions. -/
import Derived.Test.YtmgjdmohmhaemaaProg
import Derived.KernelRfl
import Derived.Test.YtmgjdmohmhaemaaLib2
import Derived.Test.YtmgjdmohmhaemaaLib6
namespace Go.Proofs.Ytmgjdmohmhaemaa.E
open Go Go.Proofs
set_option linter.unusedVariables false
theorem u32 : Try.prog.underlying 32 = some (.map 34 4) := by kernel_rfl
theorem u33 : Try.prog.underlying 33 = some (.map 3 4) := by kernel_rfl
theorem u59 : Try.prog.underlying 59 = some (.map 3 48) := by kernel_rfl
theorem u69 : Try.prog.underlying 69 = some (.map 3 115) := by kernel_rfl
theorem u75 : Try.prog.underlying 75 = some (.map 3 3) := by kernel_rfl
theorem u177 : Try.prog.underlying 177 = some (.map 9 178) := by kernel_rfl
theorem z3 (w : World) : (zeroValue 3).run Try.prog w = .ok (.int .i64 0) w := by kernel_rfl
theorem sz3 (w : World) : (sizeOf 3).run Try.prog w = .ok 1 w := by kernel_rfl
theorem z4 (w : World) : (zeroValue 4).run Try.prog w = .ok (.bool false) w := by kernel_rfl
theorem sz4 (w : World) : (sizeOf 4).run Try.prog w = .ok 1 w := by kernel_rfl
theorem z5 (w : World) : (zeroValue 5).run Try.prog w = .ok (.int .u8 0) w := by kernel_rfl
theorem sz5 (w : World) : (sizeOf 5).run Try.prog w = .ok 1 w := by kernel_rfl
theorem u3 : Try.prog.underlying 3 = some (.int .i64) := by kernel_rfl
theorem u5 : Try.prog.underlying 5 = some (.int .u8) := by kernel_rfl
theorem u34 : Try.prog.underlying 34 = some (.array 2 3) := by kernel_rfl
theorem z15 (w : World) : (zeroValue 15).run Try.prog w = .ok (.pointer none) w := by kernel_rfl
theorem z16 (w : World) : (zeroValue 16).run Try.prog w = .ok (.pointer none) w := by kernel_rfl
theorem z17 (w : World) : (zeroValue 17).run Try.prog w = .ok (.pointer none) w := by kernel_rfl
theorem u26 : Try.prog.underlying 26 = some (.slice 3) := by kernel_rfl
theorem z26 (w : World) : (zeroValue 26).run Try.prog w = .ok (.slice none 0 0) w := by kernel_rfl
theorem u37 : Try.prog.underlying 37 = some (.slice 48) := by kernel_rfl
theorem z37 (w : World) : (zeroValue 37).run Try.prog w = .ok (.slice none 0 0) w := by kernel_rfl
theorem z42 (w : World) : (zeroValue 42).run Try.prog w = .ok (.pointer none) w := by kernel_rfl
theorem z43 (w : World) : (zeroValue 43).run Try.prog w = .ok (.pointer none) w := by kernel_rfl
theorem z44 (w : World) : (zeroValue 44).run Try.prog w = .ok (.pointer none) w := by kernel_rfl
theorem z45 (w : World) : (zeroValue 45).run Try.prog w = .ok (.pointer none) w := by kernel_rfl
theorem u48 : Try.prog.underlying 48 = some (.slice 5) := by kernel_rfl
theorem z48 (w : World) : (zeroValue 48).run Try.prog w = .ok (.slice none 0 0) w := by kernel_rfl
theorem u58 : Try.prog.underlying 58 = some (.slice 61) := by kernel_rfl
theorem z58 (w : World) : (zeroValue 58).run Try.prog w = .ok (.slice none 0 0) w := by kernel_rfl
theorem u72 : Try.prog.underlying 72 = some (.slice 42) := by kernel_rfl
theorem z72 (w : World) : (zeroValue 72).run Try.prog w = .ok (.slice none 0 0) w := by kernel_rfl
theorem u74 : Try.prog.underlying 74 = some (.slice 149) := by kernel_rfl
theorem z74 (w : World) : (zeroValue 74).run Try.prog w = .ok (.slice none 0 0) w := by kernel_rfl
theorem u78 : Try.prog.underlying 78 = some (.slice 44) := by kernel_rfl
theorem z78 (w : World) : (zeroValue 78).run Try.prog w = .ok (.slice none 0 0) w := by kernel_rfl
theorem u103 : Try.prog.underlying 103 = some (.slice 102) := by kernel_rfl
theorem z103 (w : World) : (zeroValue 103).run Try.prog w = .ok (.slice none 0 0) w := by kernel_rfl
theorem z115 (w : World) : (zeroValue 115).run Try.prog w = .ok (.pointer none) w := by kernel_rfl
theorem u135 : Try.prog.underlying 135 = some (.slice 134) := by kernel_rfl
theorem z135 (w : World) : (zeroValue 135).run Try.prog w = .ok (.slice none 0 0) w := by kernel_rfl
theorem u154 : Try.prog.underlying 154 = some (.slice 218) := by kernel_rfl
theorem z154 (w : World) : (zeroValue 154).run Try.prog w = .ok (.slice none 0 0) w := by kernel_rfl
theorem z190 (w : World) : (zeroValue 190).run Try.prog w = .ok (.pointer none) w := by kernel_rfl
theorem z198 (w : World) : (zeroValue 198).run Try.prog w = .ok (.pointer none) w := by kernel_rfl
theorem z212 (w : World) : (zeroValue 212).run Try.prog w = .ok (.pointer none) w := by kernel_rfl
theorem in5 : (Try.prog.info? 5).map (fun i => (i.zero, i.size, i.bytes)) = some (some (.int .u8 0), 1, 1) := by kernel_rfl
theorem in3 : (Try.prog.info? 3).map (fun i => (i.zero, i.size, i.bytes)) = some (some (.int .i64 0), 1, 8) := by kernel_rfl
theorem in48 : (Try.prog.info? 48).map (fun i => (i.zero, i.size, i.bytes)) = some (some (.slice none 0 0), 1, 24) := by kernel_rfl
theorem in149 : (Try.prog.info? 149).map (fun i => (i.zero, i.size, i.bytes)) = some (some (.agg #[.int .i64 0, .int .i64 0, .slice none 0 0]), 3, 40) := by kernel_rfl
theorem keyI : KeyOk Try.prog 3 (Value.int .i64) := keyInt u3
theorem keyP : KeyOk Try.prog 34 pairV := keyPair u34 u3 sz3
end Go.Proofs.Ytmgjdmohmhaemaa.E

/- Contracts of functions. -/
import Derived.Test.YtngploohhmfaiaaGreatProg
import Derived.KernelRfl
import Derived.Test.YtngploohhmfaiaaGreatLib2
import Derived.Test.YtngploohhmfaiaaGreatLib6
namespace Go.Proofs.YtngploohhmfaiaaGreat.E
open Go Go.Proofs
set_option linter.unusedVariables false
theorem u52 : Tryz.prog.underlying 52 = some (.map 3 153) := by kernel_rfl
theorem u53 : Tryz.prog.underlying 53 = some (.map 3 38) := by kernel_rfl
theorem u99 : Tryz.prog.underlying 99 = some (.map 3 4) := by kernel_rfl
theorem u131 : Tryz.prog.underlying 131 = some (.map 3 3) := by kernel_rfl
theorem u189 : Tryz.prog.underlying 189 = some (.map 3 23) := by kernel_rfl
theorem u190 : Tryz.prog.underlying 190 = some (.map 3 194) := by kernel_rfl
theorem u201 : Tryz.prog.underlying 201 = some (.map 3 254) := by kernel_rfl
theorem z3 (w : World) : (zeroValue 3).run Tryz.prog w = .ok (.int .i64 0) w := by kernel_rfl
theorem sz3 (w : World) : (sizeOf 3).run Tryz.prog w = .ok 1 w := by kernel_rfl
theorem z4 (w : World) : (zeroValue 4).run Tryz.prog w = .ok (.bool false) w := by kernel_rfl
theorem sz4 (w : World) : (sizeOf 4).run Tryz.prog w = .ok 1 w := by kernel_rfl
theorem z5 (w : World) : (zeroValue 5).run Tryz.prog w = .ok (.int .u8 0) w := by kernel_rfl
theorem sz5 (w : World) : (sizeOf 5).run Tryz.prog w = .ok 1 w := by kernel_rfl
theorem u3 : Tryz.prog.underlying 3 = some (.int .i64) := by kernel_rfl
theorem u5 : Tryz.prog.underlying 5 = some (.int .u8) := by kernel_rfl
theorem z15 (w : World) : (zeroValue 15).run Tryz.prog w = .ok (.pointer none) w := by kernel_rfl
theorem z16 (w : World) : (zeroValue 16).run Tryz.prog w = .ok (.pointer none) w := by kernel_rfl
theorem z17 (w : World) : (zeroValue 17).run Tryz.prog w = .ok (.pointer none) w := by kernel_rfl
theorem z22 (w : World) : (zeroValue 22).run Tryz.prog w = .ok (.pointer none) w := by kernel_rfl
theorem z30 (w : World) : (zeroValue 30).run Tryz.prog w = .ok (.pointer none) w := by kernel_rfl
theorem u37 : Tryz.prog.underlying 37 = some (.slice 22) := by kernel_rfl
theorem z37 (w : World) : (zeroValue 37).run Tryz.prog w = .ok (.slice none 0 0) w := by kernel_rfl
theorem u38 : Tryz.prog.underlying 38 = some (.slice 5) := by kernel_rfl
theorem z38 (w : World) : (zeroValue 38).run Tryz.prog w = .ok (.slice none 0 0) w := by kernel_rfl
theorem u42 : Tryz.prog.underlying 42 = some (.slice 38) := by kernel_rfl
theorem z42 (w : World) : (zeroValue 42).run Tryz.prog w = .ok (.slice none 0 0) w := by kernel_rfl
theorem z49 (w : World) : (zeroValue 49).run Tryz.prog w = .ok (.pointer none) w := by kernel_rfl
theorem z50 (w : World) : (zeroValue 50).run Tryz.prog w = .ok (.pointer none) w := by kernel_rfl
theorem z51 (w : World) : (zeroValue 51).run Tryz.prog w = .ok (.pointer none) w := by kernel_rfl
theorem u58 : Tryz.prog.underlying 58 = some (.slice 30) := by kernel_rfl
theorem z58 (w : World) : (zeroValue 58).run Tryz.prog w = .ok (.slice none 0 0) w := by kernel_rfl
theorem z61 (w : World) : (zeroValue 61).run Tryz.prog w = .ok (.pointer none) w := by kernel_rfl
theorem z64 (w : World) : (zeroValue 64).run Tryz.prog w = .ok (.pointer none) w := by kernel_rfl
theorem z65 (w : World) : (zeroValue 65).run Tryz.prog w = .ok (.pointer none) w := by kernel_rfl
theorem u73 : Tryz.prog.underlying 73 = some (.slice 3) := by kernel_rfl
theorem z73 (w : World) : (zeroValue 73).run Tryz.prog w = .ok (.slice none 0 0) w := by kernel_rfl
theorem u84 : Tryz.prog.underlying 84 = some (.slice 73) := by kernel_rfl
theorem z84 (w : World) : (zeroValue 84).run Tryz.prog w = .ok (.slice none 0 0) w := by kernel_rfl
theorem u93 : Tryz.prog.underlying 93 = some (.slice 96) := by kernel_rfl
theorem z93 (w : World) : (zeroValue 93).run Tryz.prog w = .ok (.slice none 0 0) w := by kernel_rfl
theorem u103 : Tryz.prog.underlying 103 = some (.slice 105) := by kernel_rfl
theorem z103 (w : World) : (zeroValue 103).run Tryz.prog w = .ok (.slice none 0 0) w := by kernel_rfl
theorem u110 : Tryz.prog.underlying 110 = some (.slice 125) := by kernel_rfl
theorem z110 (w : World) : (zeroValue 110).run Tryz.prog w = .ok (.slice none 0 0) w := by kernel_rfl
theorem u116 : Tryz.prog.underlying 116 = some (.slice 118) := by kernel_rfl
theorem z116 (w : World) : (zeroValue 116).run Tryz.prog w = .ok (.slice none 0 0) w := by kernel_rfl
theorem u122 : Tryz.prog.underlying 122 = some (.slice 39) := by kernel_rfl
theorem z122 (w : World) : (zeroValue 122).run Tryz.prog w = .ok (.slice none 0 0) w := by kernel_rfl
theorem u134 : Tryz.prog.underlying 134 = some (.slice 49) := by kernel_rfl
theorem z134 (w : World) : (zeroValue 134).run Tryz.prog w = .ok (.slice none 0 0) w := by kernel_rfl
theorem u162 : Tryz.prog.underlying 162 = some (.slice 77) := by kernel_rfl
theorem z162 (w : World) : (zeroValue 162).run Tryz.prog w = .ok (.slice none 0 0) w := by kernel_rfl
theorem u181 : Tryz.prog.underlying 181 = some (.slice 180) := by kernel_rfl
theorem z181 (w : World) : (zeroValue 181).run Tryz.prog w = .ok (.slice none 0 0) w := by kernel_rfl
theorem z186 (w : World) : (zeroValue 186).run Tryz.prog w = .ok (.pointer none) w := by kernel_rfl
theorem z218 (w : World) : (zeroValue 218).run Tryz.prog w = .ok (.pointer none) w := by kernel_rfl
theorem z219 (w : World) : (zeroValue 219).run Tryz.prog w = .ok (.pointer none) w := by kernel_rfl
theorem u220 : Tryz.prog.underlying 220 = some (.slice 271) := by kernel_rfl
theorem z220 (w : World) : (zeroValue 220).run Tryz.prog w = .ok (.slice none 0 0) w := by kernel_rfl
theorem u221 : Tryz.prog.underlying 221 = some (.slice 225) := by kernel_rfl
theorem z221 (w : World) : (zeroValue 221).run Tryz.prog w = .ok (.slice none 0 0) w := by kernel_rfl
theorem u245 : Tryz.prog.underlying 245 = some (.slice 194) := by kernel_rfl
theorem z245 (w : World) : (zeroValue 245).run Tryz.prog w = .ok (.slice none 0 0) w := by kernel_rfl
theorem z252 (w : World) : (zeroValue 252).run Tryz.prog w = .ok (.pointer none) w := by kernel_rfl
theorem z254 (w : World) : (zeroValue 254).run Tryz.prog w = .ok (.pointer none) w := by kernel_rfl
theorem u279 : Tryz.prog.underlying 279 = some (.slice 299) := by kernel_rfl
theorem z279 (w : World) : (zeroValue 279).run Tryz.prog w = .ok (.slice none 0 0) w := by kernel_rfl
theorem z284 (w : World) : (zeroValue 284).run Tryz.prog w = .ok (.pointer none) w := by kernel_rfl
theorem z309 (w : World) : (zeroValue 309).run Tryz.prog w = .ok (.pointer none) w := by kernel_rfl
theorem z311 (w : World) : (zeroValue 311).run Tryz.prog w = .ok (.pointer none) w := by kernel_rfl
theorem z335 (w : World) : (zeroValue 335).run Tryz.prog w = .ok (.pointer none) w := by kernel_rfl
theorem in5 : (Tryz.prog.info? 5).map (fun i => (i.zero, i.size, i.bytes)) = some (some (.int .u8 0), 1, 1) := by kernel_rfl
theorem in3 : (Tryz.prog.info? 3).map (fun i => (i.zero, i.size, i.bytes)) = some (some (.int .i64 0), 1, 8) := by kernel_rfl
theorem in38 : (Tryz.prog.info? 38).map (fun i => (i.zero, i.size, i.bytes)) = some (some (.slice none 0 0), 1, 24) := by kernel_rfl
theorem in96 : (Tryz.prog.info? 96).map (fun i => (i.zero, i.size, i.bytes)) = some (some (.agg #[.int .i64 0, .int .i64 0, .slice none 0 0]), 3, 40) := by kernel_rfl
theorem keyI : KeyOk Tryz.prog 3 (Value.int .i64) := keyInt u3
end Go.Proofs.YtngploohhmfaiaaGreat.E

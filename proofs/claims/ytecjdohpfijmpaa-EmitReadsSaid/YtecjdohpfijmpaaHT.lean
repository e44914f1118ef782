/- What the types and functions of the program are, as the rules ask it. No condition. -/
import Derived.Test.YtecjdohpfijmpaaXC
import Derived.Test.YtecjdohpfijmpaaProg
import Derived.KernelRfl
namespace Go.Proofs.Ytecjdohpfijmpaa.X
open Go Go.Proofs
theorem mixed : Try.prog.follows .mixedOrders = true := by kernel_rfl
theorem fn10 : isFn Try.prog 10 = true := by kernel_rfl
theorem fn11 : isFn Try.prog 11 = true := by kernel_rfl
theorem fn12 : isFn Try.prog 12 = true := by kernel_rfl
theorem fn13 : isFn Try.prog 13 = true := by kernel_rfl
theorem fn14 : isFn Try.prog 14 = true := by kernel_rfl
theorem fn31 : isFn Try.prog 31 = true := by kernel_rfl
theorem fn36 : isFn Try.prog 36 = true := by kernel_rfl
theorem fn37 : isFn Try.prog 37 = true := by kernel_rfl
theorem fn38 : isFn Try.prog 38 = true := by kernel_rfl
theorem fn39 : isFn Try.prog 39 = true := by kernel_rfl
theorem fn40 : isFn Try.prog 40 = true := by kernel_rfl
theorem fn41 : isFn Try.prog 41 = true := by kernel_rfl
theorem fn46 : isFn Try.prog 46 = true := by kernel_rfl
theorem fn58 : isFn Try.prog 58 = true := by kernel_rfl
theorem fn59 : isFn Try.prog 59 = true := by kernel_rfl
theorem fn63 : isFn Try.prog 63 = true := by kernel_rfl
theorem fn64 : isFn Try.prog 64 = true := by kernel_rfl
theorem fn9 : isFn Try.prog 9 = true := by kernel_rfl
theorem fo59_0 : fo Try.prog 59 0 = some 0 := by kernel_rfl
theorem fo59_1 : fo Try.prog 59 1 = some 1 := by kernel_rfl
theorem fo59_2 : fo Try.prog 59 2 = some 2 := by kernel_rfl
theorem ie22 : ie Try.prog 22 = some 1 := by kernel_rfl
theorem ie54 : ie Try.prog 54 = some 1 := by kernel_rfl
theorem lk22 : lk Try.prog 22 = some (false, 1) := by kernel_rfl
theorem lk4 : lk Try.prog 4 = some (false, 1) := by kernel_rfl
theorem lk5 : lk Try.prog 5 = some (false, 1) := by kernel_rfl
theorem lk57 : lk Try.prog 57 = some (false, 1) := by kernel_rfl
theorem lk91 : lk Try.prog 91 = some (true, 8) := by kernel_rfl
theorem se22 : se Try.prog 22 = some (5, 1, 1) := by kernel_rfl
theorem se57 : se Try.prog 57 = some (72, 2, 16) := by kernel_rfl
theorem spl59 : spl Try.prog 59 = some [(0, 1), (1, 1), (2, 1)] := by kernel_rfl
theorem spl72 : spl Try.prog 72 = some [(0, 1), (1, 1)] := by kernel_rfl
theorem un21 : Try.prog.underlying 21 = some (TypeDesc.int IntKind.i32) := Try.underlying21
theorem un22 : Try.prog.underlying 22 = some (TypeDesc.slice 5) := Try.underlying22
theorem un3 : Try.prog.underlying 3 = some (TypeDesc.int IntKind.i64) := Try.underlying3
theorem un4 : Try.prog.underlying 4 = some TypeDesc.bool := Try.underlying4
theorem un5 : Try.prog.underlying 5 = some (TypeDesc.int IntKind.u8) := Try.underlying5
theorem un50 : Try.prog.underlying 50 = some (TypeDesc.int IntKind.u64) := Try.underlying50
theorem un54 : Try.prog.underlying 54 = some (TypeDesc.slice 22) := Try.underlying54
theorem un57 : Try.prog.underlying 57 = some (TypeDesc.slice 72) := Try.underlying57
theorem un62 : Try.prog.underlying 62 = some (TypeDesc.int IntKind.u32) := Try.underlying62
theorem un9 : Try.prog.underlying 9 = some TypeDesc.string := Try.underlying9
theorem unel22 : Try.prog.underlying 5 = some (TypeDesc.int IntKind.u8) := Try.underlying5
theorem zA91 : zeroA Try.prog 91 = some [AV.int IntKind.u8 (0), AV.int IntKind.u8 (0), AV.int IntKind.u8 (0), AV.int IntKind.u8 (0), AV.int IntKind.u8 (0), AV.int IntKind.u8 (0), AV.int IntKind.u8 (0), AV.int IntKind.u8 (0)] := by kernel_rfl
theorem zAe22 : zeroA Try.prog 5 = some [AV.int IntKind.u8 (0)] := by kernel_rfl
theorem zAe57 : zeroA Try.prog 72 = some [AV.int IntKind.i64 (0), AV.int IntKind.i64 (0)] := by kernel_rfl
end Go.Proofs.Ytecjdohpfijmpaa.X

/- What the types and functions of the program are, as the rules ask it. No condition. -/
import Derived.Test.YtecjdohpfijmpaaXC
import Derived.Test.YtecjdohpfijmpaaProg
import Derived.KernelRfl
namespace Go.Proofs.Ytecjdohpfijmpaa.X
open Go Go.Proofs
theorem mixed : Try.prog.follows .mixedOrders = true := by kernel_rfl
theorem fn10 : isFn Try.prog 10 = true := by kernel_rfl
theorem fn11 : isFn Try.prog 11 = true := by kernel_rfl
theorem fn12 : isFn Try.prog 12 = true := by kernel_rfl
theorem fn13 : isFn Try.prog 13 = true := by kernel_rfl
theorem fn14 : isFn Try.prog 14 = true := by kernel_rfl
theorem fn36 : isFn Try.prog 36 = true := by kernel_rfl
theorem fn37 : isFn Try.prog 37 = true := by kernel_rfl
theorem fn38 : isFn Try.prog 38 = true := by kernel_rfl
theorem fn39 : isFn Try.prog 39 = true := by kernel_rfl
theorem fn9 : isFn Try.prog 9 = true := by kernel_rfl
theorem ie22 : ie Try.prog 22 = some 1 := by kernel_rfl
theorem lk5 : lk Try.prog 5 = some (false, 1) := by kernel_rfl
theorem se22 : se Try.prog 22 = some (5, 1, 1) := by kernel_rfl
theorem un21 : Try.prog.underlying 21 = some (TypeDesc.int IntKind.i32) := Try.underlying21
theorem un22 : Try.prog.underlying 22 = some (TypeDesc.slice 5) := Try.underlying22
theorem un3 : Try.prog.underlying 3 = some (TypeDesc.int IntKind.i64) := Try.underlying3
theorem un4 : Try.prog.underlying 4 = some TypeDesc.bool := Try.underlying4
theorem un5 : Try.prog.underlying 5 = some (TypeDesc.int IntKind.u8) := Try.underlying5
theorem un9 : Try.prog.underlying 9 = some TypeDesc.string := Try.underlying9
theorem unel22 : Try.prog.underlying 5 = some (TypeDesc.int IntKind.u8) := Try.underlying5
theorem zAe22 : zeroA Try.prog 5 = some [AV.int IntKind.u8 (0)] := by kernel_rfl
end Go.Proofs.Ytecjdohpfijmpaa.X

/-
  What all laws of this seat share: the loaded program's facts, and an argument's reading.
-/
import Derived.Test.YtnpgipmbionmgaaRows
import Derived.Test.YtnpgipmbionmgaaSndT
import Derived.Test.YtnpgipmbionmgaaEngU
set_option linter.all false
namespace Go.Proofs.Ytnpgipmbionmgaa
open Go.ChangeShapes Go.WideShapes Go.ChangeAt Go.RowKit Go.Eng
theorem own : ownKnob Try.prog.godebug = none := by kernel_rfl
theorem laidOut : laidOutB Try.prog = true := by kernel_rfl
theorem mix : Try.prog.follows .mixedOrders = true := by kernel_rfl
theorem row25 : rowT Try.prog 6 25 = some rowSh := by kernel_rfl
theorem row34 : rowT Try.prog 6 34 = some rowP := by kernel_rfl
theorem row41 : rowT Try.prog 6 41 = some rowSpot := by kernel_rfl
theorem row46 : rowT Try.prog 6 46 = some (.pr (.int .i64) (.pr (.int .i64) (.pr (.int .i64) .nil))) := by kernel_rfl
theorem row51 : rowT Try.prog 6 51 = some (.pr (.int .i64) (.pr (.int .i64) (.pr (.int .i64) (.pr (.int .i64) .nil)))) := by kernel_rfl
end Go.Proofs.Ytnpgipmbionmgaa

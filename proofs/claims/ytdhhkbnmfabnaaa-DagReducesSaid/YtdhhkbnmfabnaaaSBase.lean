/-
 What all laws of this seat share: the loaded program's facts, and an argument's reading.
-/
import Derived.Test.YtdhhkbnmfabnaaaRows
import Derived.Test.YtdhhkbnmfabnaaaSndT
import Derived.Test.YtdhhkbnmfabnaaaEngU
set_option linter.all false
set_option maxRecDepth 100000
namespace Go.Proofs.Ytdhhkbnmfabnaaa
open Go.ChangeShapes Go.WideShapes Go.ChangeAt Go.RowKit Go.Eng
theorem own : ownKnob Try.prog.godebug = none := by kernel_rfl
theorem laidOut : laidOutB Try.prog = true := by kernel_rfl
theorem mix : Try.prog.follows .mixedOrders = true := by kernel_rfl
def rowA22 : Kd := (.pr (.sl (.pr (.int .i64) (.pr (.int .i64) .nil))) .nil)
theorem row22 : rowT Try.prog 12 22 = some rowA22 := by kernel_rfl
end Go.Proofs.Ytdhhkbnmfabnaaa

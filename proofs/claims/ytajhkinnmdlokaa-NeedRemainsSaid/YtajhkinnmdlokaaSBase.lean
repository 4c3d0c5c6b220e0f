/-
 What all laws of this seat share: the loaded program's facts, and an argument's reading.
-/
import Derived.Test.YtajhkinnmdlokaaRows
import Derived.Test.YtajhkinnmdlokaaSndT
import Derived.Test.YtajhkinnmdlokaaEngU
set_option linter.all false
set_option maxRecDepth 100000
namespace Go.Proofs.Ytajhkinnmdlokaa
open Go.ChangeShapes Go.WideShapes Go.ChangeAt Go.RowKit Go.Eng
theorem own : ownKnob Try.prog.godebug = none := by kernel_rfl
theorem laidOut : laidOutB Try.prog = true := by kernel_rfl
theorem mix : Try.prog.follows .mixedOrders = true := by kernel_rfl
def rowA31 : Kd := (.pr (.sl (.pr .str .nil)) .nil)
theorem row31 : rowT Try.prog 12 31 = some rowA31 := by kernel_rfl
def rowA41 : Kd := (.pr .str (.pr (.sl (.pr .str (.pr (.int .i64) (.pr .str .nil)))) (.pr (.sl (.pr .str (.pr (.int .i64) (.pr (.int .i64) (.pr .str (.pr .str (.pr (.int .i64) (.pr (.sl (.pr (.int .i64) (.pr (.int .i64) .nil))) (.pr (.sl (.pr (.sl (.pr (.int .i64) (.pr (.int .i64) .nil))) .nil)) (.pr .str (.pr (.int .i64) (.pr (.int .i64) (.pr (.int .i64) (.pr (.int .i64) (.pr (.int .i64) (.pr (.int .i64) (.pr (.int .i64) (.pr (.int .i64) (.pr (.int .i64) .nil))))))))))))))))))) (.pr (.sl (.pr .str (.pr .str (.pr .str (.pr (.int .i64) (.pr (.int .i64) (.pr (.int .i64) .nil))))))) (.pr (.sl (.pr .str (.pr .str (.pr (.sl (.pr .str .nil)) (.pr (.int .i64) (.pr (.sl (.pr .str .nil)) .nil)))))) (.pr (.sl (.pr (.int .i64) (.pr .str (.pr .str .nil)))) (.pr (.sl (.pr .str .nil)) (.pr (.sl (.pr .str .nil)) (.pr .str .nil)))))))))
theorem row41 : rowT Try.prog 12 41 = some rowA41 := by kernel_rfl
theorem chain41 : rowA41.chain = true := rfl
end Go.Proofs.Ytajhkinnmdlokaa

/-
 What all laws of this seat share: the loaded program's facts, and an argument's reading.
-/
import Derived.Test.YtmpnfnngjeojlaaRows
import Derived.Test.YtmpnfnngjeojlaaSndT
import Derived.Test.YtmpnfnngjeojlaaEngU
set_option linter.all false
set_option maxRecDepth 100000
namespace Go.Proofs.Ytmpnfnngjeojlaa
open Go.ChangeShapes Go.WideShapes Go.ChangeAt Go.RowKit Go.Eng
theorem own : ownKnob Try.prog.godebug = none := by kernel_rfl
theorem laidOut : laidOutB Try.prog = true := by kernel_rfl
theorem mix : Try.prog.follows .mixedOrders = true := by kernel_rfl
def rowA29 : Kd := (.pr .str (.pr (.int .i64) (.pr (.sl (.pr .str (.pr (.int .i64) (.pr (.int .i64) (.pr (.int .i64) (.pr .bool .nil)))))) (.pr .str (.pr .str (.pr (.int .i64) (.pr (.int .i64) (.pr (.int .i64) (.pr .str (.pr (.sl (.pr .str (.pr (.int .i64) (.pr (.int .i64) (.pr .str (.pr .str (.pr (.int .i64) (.pr (.sl (.pr (.int .i64) (.pr (.int .i64) .nil))) (.pr (.sl (.pr (.sl (.pr (.int .i64) (.pr (.int .i64) .nil))) .nil)) (.pr .str (.pr (.int .i64) (.pr (.int .i64) (.pr (.int .i64) (.pr (.int .i64) (.pr (.int .i64) (.pr (.int .i64) (.pr (.int .i64) (.pr (.int .i64) (.pr (.int .i64) .nil))))))))))))))))))) .nil))))))))))
theorem row29 : rowT Try.prog 8 29 = some rowA29 := by kernel_rfl
theorem chain29 : rowA29.chain = true := rfl
end Go.Proofs.Ytmpnfnngjeojlaa

/-
 The package variables that the program's functions read: nester.budget alone.
-/
import Derived.Test.YtkknnlhhchielaaGreatDoorEngA0
set_option linter.all false
namespace Go.Eng
open Go
def Wp (g:Nat):Option (Kd × (Nat->CV)) :=
 match g with
 | 0=>some (.pr (.int .i64) (.pr (.int .i64) (.pr (.int .i64) (.pr (.int .i64) (.pr (.int .i64) .nil)))),au [.i .i64 1,.i .i64 3,.i .i64 21,.i .i64 343,.i .i64 10473])
 | _=>none
end Go.Eng

/-
 The package variables that the program's functions read: vec.probe alone.
-/
import Derived.Test.YtbjfmobjdipehaaGreatDoorEngA0
set_option linter.all false
namespace Go.Eng
open Go
def gtab (g : Nat) : Option (Kd × (Nat → CV)) :=
 match g with
 | 0 => some (.pr (.int .i64) (.pr (.int .i64) (.pr (.int .i64) .nil)), listF [.i .i64 1, .i .i64 2, .i .i64 3])
 | _ => none
end Go.Eng

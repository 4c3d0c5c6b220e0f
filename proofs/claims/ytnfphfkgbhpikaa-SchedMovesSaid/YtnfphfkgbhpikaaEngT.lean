/-
 The package variables that the program's functions read: none.
-/
import Derived.Test.YtnfphfkgbhpikaaEngA0
set_option linter.all false
namespace Go.Eng
open Go
def gtab (_:Nat):Option (Kd × (Nat→CV)):=none
end Go.Eng

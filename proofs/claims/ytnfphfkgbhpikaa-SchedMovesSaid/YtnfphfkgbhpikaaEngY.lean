/-
 Functions that turn the rows of a slice in place and return the first ones of them.
-/
import Derived.Test.YtnfphfkgbhpikaaEngV
set_option linter.all false
namespace Go.Eng
open Go Go.RowKit
variable {df : DF}
theorem FreshDen.weaken {P:Program} {f:FuncId} {r:Kd} {args args' : List A} {n:Nat} {g:Nat→Nat→CV} (h:WkL args args') (hd:FreshDen P f r args' n g):FreshDen P f r args n g :=
 ⟨hd.1,fun w okA vs h1 h2 h3=>hd.2 w okA vs h1 h2 (h.ars h3)⟩
end Go.Eng

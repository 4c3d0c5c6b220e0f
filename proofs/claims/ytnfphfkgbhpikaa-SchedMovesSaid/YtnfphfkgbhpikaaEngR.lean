/-
 Functions that turn the rows of a slice in place.
-/
import Derived.Test.YtnfphfkgbhpikaaEngQ
set_option linter.all false
namespace Go.Eng
open Go Go.RowKit
variable {df : DF}
end Go.Eng

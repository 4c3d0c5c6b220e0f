/-
 A contour in the opposite order.
-/
import Derived.Test.YtngjgbhdhaopmaaPlPlace
import Derived.Test.YtngjgbhdhaopmaaGeo6
set_option linter.all false
namespace Go.Eng.R13
open Go Go.RowKit Go.Eng Geo
end Go.Eng.R13

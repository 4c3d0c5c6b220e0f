/-
 RegionChecks: the plain law;what a shape that is accepted looks like.
-/
import Derived.Test.YtngjgbhdhaopmaaPlWhere
set_option linter.all false
namespace Go.Eng.R13
open Go Go.RowKit Go.Eng Geo
end Go.Eng.R13

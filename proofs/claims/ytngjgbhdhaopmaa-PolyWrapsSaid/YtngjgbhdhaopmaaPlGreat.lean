/-
 What 'great' leaves;the examples of the chapter.
-/
import Derived.Test.YtngjgbhdhaopmaaDecT0
import Derived.Test.YtngjgbhdhaopmaaEngU
set_option linter.all false
namespace Go.Eng.R13
open Go Go.RowKit Go.Eng
end Go.Eng.R13

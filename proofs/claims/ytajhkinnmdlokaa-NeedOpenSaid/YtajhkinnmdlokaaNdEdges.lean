/-
 need.Edges: what the program computes is the precedence of the reference.
-/
import Derived.Test.YtajhkinnmdlokaaNdBase
set_option linter.all false
namespace Go.Eng.R13
open Go Go.RowKit Go.Eng
section
variable {ρ : Type}
end
end Go.Eng.R13

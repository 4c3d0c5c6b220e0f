/-
 RegionSums: the plain law.
-/
import Derived.Test.YtngjgbhdhaopmaaPlGreat
import Derived.Test.YtngjgbhdhaopmaaPlCheck
import Derived.Test.YtngjgbhdhaopmaaPlBounds
set_option linter.all false
namespace Go.Eng.R13
open Go Go.RowKit Go.Eng Geo
def Ext (z : Int) (g : Nat → Nat → CV) (i : Nat) (a b : Int) : Prop :=
 (a ≤ z ∧ z ≤ b ∧ ∀ j,j < i → a ≤ CV.int (g j 0) ∧ CV.int (g j 0) ≤ b) ∧ (a = z ∨ ∃ j,j < i ∧ CV.int (g j 0) = a) ∧ (b = z ∨ ∃ j,j < i ∧ CV.int (g j 0) = b)
end Go.Eng.R13

/-
 RegionWheres: the plain law.
-/
import Derived.Test.YtngjgbhdhaopmaaPlCheck
import Derived.Test.YtngjgbhdhaopmaaGeo6
set_option linter.all false
namespace Go.Eng.R13
open Go Go.RowKit Go.Eng Geo
theorem Valid.ne {n : Nat} {f : Nat → Nat → CV} (V : Valid n f) : ∀ i,i < n → pt f i ≠ pt f (nx n i) :=
 fun i hi => V.simple.dist i (nx n i) hi (nx_lt V.big) (fun h => nx_ne V.big hi h.symm)
end Go.Eng.R13

/-
 A shape at a spot.
-/
import Derived.Test.YtngjgbhdhaopmaaDecT1
import Derived.Test.YtngjgbhdhaopmaaEngU
set_option linter.all false
namespace Go.Eng.R13
open Go Go.RowKit Go.Eng
def rot : Nat → Int → Int → Int × Int
 | 0,x,y => (x,y)
 | n + 1,x,y => rot n (w64 (0 - y)) x
def tp (fl : Bool) (t : Nat) (tx ty x y : Int) : Int × Int :=
 (w64 ((rot t (bif fl then w64 (0 - x) else x) y).1 + tx),w64 ((rot t (bif fl then w64 (0 - x) else x) y).2 + ty))
def Are (P : Nat → Int × Int) (g : Nat → Nat → CV) (i : Nat) : Prop := ∀ j,j < i → g j 0 = .i .i64 (P j).1 ∧ g j 1 = .i .i64 (P j).2
def cp (fl : Bool) (t : Nat) (tx ty : Int) (f : Nat → Nat → CV) (j : Nat) : Int × Int := tp fl t tx ty (CV.int (f j 0)) (CV.int (f j 1))
end Go.Eng.R13

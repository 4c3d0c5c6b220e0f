/-
 A contour in the opposite order.
-/
import Derived.Test.YtmpnfnngjeojlaaPlPlace
import Derived.Test.YtmpnfnngjeojlaaGeo6
set_option linter.all false
namespace Go.Eng.R13
open Go Go.RowKit Go.Eng Geo
theorem jn (n : Nat) (f g : Nat → Nat → CV) (j c : Nat) (h : n ≤ j) : joinF n f g j c = g (j - n) c:=by
 unfold joinF
 rw [bif_f]
 cases hq : Nat.blt j n with
 | false => rfl
 | true => simp [Nat.blt_eq] at hq;omega
end Go.Eng.R13

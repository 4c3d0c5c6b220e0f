/-
 Words for the plain forms: counters,bounds,64-bit numbers;what came in.
-/
import Derived.Test.YtajhkinnmdlokaaGreatEngS
import Derived.IntWalk
set_option linter.all false
namespace Go.Eng
open Go Go.RowKit
theorem w64_of {n:Int} (h1 : -9223372036854775808≤n) (h2:n≤9223372036854775807):w64 n=n:=IntWalk.i64_in n ⟨h1,h2⟩
theorem inb_true {i:Int} {n:Nat} (h1:0≤i) (h2:i<n):inb i n=true:=by
 unfold inb;simp [h1,h2]
theorem bif_t {α:Type} {c:Bool} (h:c=true) (x y:α):(bif c then x else y)=x:=by rw [h];rfl
theorem bif_f {α:Type} {c:Bool} (h:c=false) (x y:α):(bif c then x else y)=y:=by rw [h];rfl
end Go.Eng

/-
 Valid contours that do not touch.
-/
import Derived.Test.YtmpnfnngjeojlaaPlPlace
import Derived.Test.YtmpnfnngjeojlaaGeo6
set_option linter.all false
namespace Go.Eng.R13
open Go Go.RowKit Go.Eng Geo
theorem onK_C {n : Nat} {p : Nat → Pt} {q : Pt} : OnC n p q 0 ↔ OnK n p q := ⟨fun ⟨j, _, a, b⟩ => ⟨j, a, b⟩, fun ⟨j, a, b⟩ => ⟨j, Nat.zero_le j, a, b⟩⟩
end Go.Eng.R13

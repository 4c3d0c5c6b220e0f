/-
 Valid contours that do not touch.
-/
import Derived.Test.YtmpnfnngjeojlaaPlPlace
import Derived.Test.YtmpnfnngjeojlaaGeo6
set_option linter.all false
namespace Go.Eng.R13
open Go Go.RowKit Go.Eng Geo
theorem onK_C {n : Nat} {p : Nat → Pt} {q : Pt} : OnC n p q 0 ↔ OnK n p q := ⟨fun ⟨j, _, a, b⟩ => ⟨j, a, b⟩, fun ⟨j, a, b⟩ => ⟨j, Nat.zero_le j, a, b⟩⟩
theorem noTouch {n n' : Nat} {f g : Nat → Nat → CV} (V : Valid n f) (W : Valid n' g) (h : ¬ Touch n (pt f) n' (pt g)) : NoTouch n (pt f) n' (pt g) :=
 ⟨V.big, W.big, fun i hi k hk hm => h ⟨i, k, hi, hk, hm⟩, V.ne, W.ne⟩
end Go.Eng.R13

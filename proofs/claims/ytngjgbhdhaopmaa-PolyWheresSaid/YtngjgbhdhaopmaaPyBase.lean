/-
 The examples of the chapter;Check,Where.
-/
import Derived.Test.YtngjgbhdhaopmaaPlSums
import Derived.Test.YtngjgbhdhaopmaaPySort
set_option linter.all false
set_option maxRecDepth 100000
namespace Go.Eng.R13
open Go Go.RowKit Go.Eng Geo
theorem awake_law : F207 100 = some true:=by kernel_rfl
theorem wheres12 (n : Nat) (f : Nat → Nat → CV) (_ : SlIn (.pr (.int .i64) (.pr (.int .i64) .nil)) n f) (x y : Int) (_ : I64 x) (_ : I64 y) : F211 100 n f x y = some true:=by
 unfold F211
 obtain ⟨c,h1,h2,_⟩ := where_law n f x y
 rw [h1,h2,awake_law]
 simp only [ob_some]
 rw [bif_t (c:=((c == c) == true)) (by simp)]
 cases (decide ((Int.ofNat n) > 60) == false) <;> rfl
end Go.Eng.R13

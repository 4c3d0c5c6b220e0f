/-
  RegionWheres: the plain law.
-/
import Derived.Test.YtnpgipmbionmgaaPlPlace
set_option linter.all false
namespace Go.Eng.R13
open Go Go.RowKit Go.Eng Geo

theorem wheres_law (n1 : Nat) (f1 : Nat → Nat → CV) (n2 : Nat) (f2 : Nat → Nat → CV) (_ : ShapeIn n1 f1 n2 f2) (qx qy : Int) (_ : I64 qx) (_ : I64 qy) : F5 100 n1 f1 n2 f2 qx qy = some true := by
  unfold F5 D5
  rcases great_law n1 n2 f1 f2 with h | ⟨h, _, _, _⟩
  · rw [h, ob_some, bif_f (by simp), alive_law, ob_some]
  · obtain ⟨z, h1, h2⟩ := place_law n1 f1 n2 f2 qx qy
    rw [h, ob_some, bif_t (by simp), h1, ob_some, h2, ob_some, bif_t (by simp), alive_law, ob_some]
end Go.Eng.R13

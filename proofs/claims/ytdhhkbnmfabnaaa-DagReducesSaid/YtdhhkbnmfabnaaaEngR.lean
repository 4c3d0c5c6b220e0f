/-
 Functions that turn the rows of a slice in place.
-/
import Derived.Test.YtdhhkbnmfabnaaaEngQ
set_option linter.all false
namespace Go.Eng
open Go Go.RowKit
variable {df : DF}
theorem Kd.mark_len : ∀ r : Kd, r.mark.len = r.len
 | .pr a r => by simp [Kd.mark, Kd.len, Kd.mark_len r]
 | .nil => rfl
 | .int _ => rfl
 | .bool => rfl
 | .str => rfl
 | .oth => rfl
 | .sl _ => rfl
theorem Kd.mark_tagged : ∀ r : Kd, r.mark.tagged = true
 | .pr a r => by simp [Kd.mark, Kd.tagged, Kd.mark_tagged r]
 | .nil => rfl
 | .int _ => rfl
 | .bool => rfl
 | .str => rfl
 | .oth => rfl
 | .sl _ => rfl
theorem Kd.mark_nth : ∀ (r : Kd) (j : Nat), j < r.len → r.mark.nth j = r.nth j
 | .pr a r, 0, _ => rfl
 | .pr a r, j + 1, h => by
  simp only [Kd.len] at h
  simp only [Kd.mark, Kd.nth]
  exact Kd.mark_nth r j (by omega)
 | .nil, _, h => by simp [Kd.len] at h
 | .int _, _, h => by simp [Kd.len] at h
 | .bool, _, h => by simp [Kd.len] at h
 | .str, _, h => by simp [Kd.len] at h
 | .oth, _, h => by simp [Kd.len] at h
 | .sl _, _, h => by simp [Kd.len] at h
end Go.Eng

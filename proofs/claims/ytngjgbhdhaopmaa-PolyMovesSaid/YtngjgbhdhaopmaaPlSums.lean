/-
 RegionSums: the plain law.
-/
import Derived.Test.YtngjgbhdhaopmaaPlGreat
import Derived.Test.YtngjgbhdhaopmaaPlCheck
import Derived.Test.YtngjgbhdhaopmaaPlBounds
set_option linter.all false
namespace Go.Eng.R13
open Go Go.RowKit Go.Eng Geo
theorem joinF_o (n : Nat) (f g : Nat → Nat → CV) (j c : Nat) (h : j < n) : joinF n f g j c = f j c:=by
 unfold joinF
 rw [bif_t (by simpa [Nat.blt_eq] using h)]
theorem joinF_n (n : Nat) (f g : Nat → Nat → CV) (j c : Nat) (h : n ≤ j) : joinF n f g j c = g (j - n) c:=by
 unfold joinF
 rw [bif_f]
 cases hq : Nat.blt j n with
 | false => rfl
 | true => simp [Nat.blt_eq] at hq;omega
def Col (f : Nat → Nat → CV) (c : Nat) (g : Nat → Nat → CV) (i : Nat) : Prop := ∀ j,j < i → CV.int (g j 0) = CV.int (f j c)
theorem Col.snoc {f g : Nat → Nat → CV} {c i : Nat} (h : Col f c g i) : Col f c (joinF i g (rowsF 1 [.i .i64 (CV.int (f i c))])) (i + 1):=by
 intro j hj
 by_cases e : j = i
 ·subst e
  rw [joinF_n _ _ _ _ _ (Nat.le_refl j),Nat.sub_self];rfl
 ·rw [joinF_o _ _ _ _ _ (by omega)]
  exact h j (by omega)
def Ext (z : Int) (g : Nat → Nat → CV) (i : Nat) (a b : Int) : Prop :=
 (a ≤ z ∧ z ≤ b ∧ ∀ j,j < i → a ≤ CV.int (g j 0) ∧ CV.int (g j 0) ≤ b) ∧ (a = z ∨ ∃ j,j < i ∧ CV.int (g j 0) = a) ∧ (b = z ∨ ∃ j,j < i ∧ CV.int (g j 0) = b)
end Go.Eng.R13

/-
 A shape at a spot.
-/
import Derived.Test.YtngjgbhdhaopmaaDecT0
import Derived.Test.YtngjgbhdhaopmaaEngU
set_option linter.all false
namespace Go.Eng.R13
open Go Go.RowKit Go.Eng
theorem joinF_old (n : Nat) (f g : Nat → Nat → CV) (j c : Nat) (h : j < n) : joinF n f g j c = f j c:=by
 unfold joinF
 rw [bif_t (by simpa [Nat.blt_eq] using h)]
theorem joinF_new (n : Nat) (f g : Nat → Nat → CV) (j c : Nat) (h : n ≤ j) : joinF n f g j c = g (j - n) c:=by
 unfold joinF
 rw [bif_f]
 cases hq : Nat.blt j n with
 | false => rfl
 | true => simp [Nat.blt_eq] at hq;omega
theorem ble_ok {n : Nat} (h : n ≤ 1073741824) : Nat.ble n 1073741824 = true:=by rw [Nat.ble_eq];exact h
def rot : Nat → Int → Int → Int × Int
 | 0,x,y => (x,y)
 | n + 1,x,y => rot n (w64 (0 - y)) x
def tp (fl : Bool) (t : Nat) (tx ty x y : Int) : Int × Int :=
 (w64 ((rot t (bif fl then w64 (0 - x) else x) y).1 + tx),w64 ((rot t (bif fl then w64 (0 - x) else x) y).2 + ty))
def Are (P : Nat → Int × Int) (g : Nat → Nat → CV) (i : Nat) : Prop := ∀ j,j < i → g j 0 = .i .i64 (P j).1 ∧ g j 1 = .i .i64 (P j).2
def cp (fl : Bool) (t : Nat) (tx ty : Int) (f : Nat → Nat → CV) (j : Nat) : Int × Int := tp fl t tx ty (CV.int (f j 0)) (CV.int (f j 1))
end Go.Eng.R13

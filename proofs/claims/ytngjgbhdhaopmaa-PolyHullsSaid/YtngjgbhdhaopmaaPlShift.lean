/-
 A shape at a spot.
-/
import Derived.Test.YtngjgbhdhaopmaaDecT0
import Derived.Test.YtngjgbhdhaopmaaEngU
set_option linter.all false
namespace Go.Eng.R13
open Go Go.RowKit Go.Eng
theorem joinF_old (n : Nat) (f g : Nat → Nat → CV) (j c : Nat) (h : j < n) : joinF n f g j c = f j c:=by
 unfold joinF
 rw [bif_t (by simpa [Nat.blt_eq] using h)]
theorem joinF_new (n : Nat) (f g : Nat → Nat → CV) (j c : Nat) (h : n ≤ j) : joinF n f g j c = g (j - n) c:=by
 unfold joinF
 rw [bif_f]
 cases hq : Nat.blt j n with
 | false => rfl
 | true => simp [Nat.blt_eq] at hq;omega
theorem ble_ok {n : Nat} (h : n ≤ 1073741824) : Nat.ble n 1073741824 = true:=by rw [Nat.ble_eq];exact h
def rot : Nat → Int → Int → Int × Int
 | 0,x,y => (x,y)
 | n + 1,x,y => rot n (w64 (0 - y)) x
def tp (fl : Bool) (t : Nat) (tx ty x y : Int) : Int × Int :=
 (w64 ((rot t (bif fl then w64 (0 - x) else x) y).1 + tx),w64 ((rot t (bif fl then w64 (0 - x) else x) y).2 + ty))
def Are (P : Nat → Int × Int) (g : Nat → Nat → CV) (i : Nat) : Prop := ∀ j,j < i → g j 0 = .i .i64 (P j).1 ∧ g j 1 = .i .i64 (P j).2
theorem Are.snoc {P : Nat → Int × Int} {g : Nat → Nat → CV} {i : Nat} (h : Are P g i) {a b : Int} (hp : P i = (a,b)) : Are P (joinF i g (rowsF 2 [.i .i64 a,.i .i64 b])) (i + 1):=by
 intro j hj
 by_cases e : j = i
 ·subst e
  rw [joinF_new _ _ _ _ _ (Nat.le_refl j),joinF_new _ _ _ _ _ (Nat.le_refl j),Nat.sub_self,hp]
  exact ⟨rfl,rfl⟩
 ·rw [joinF_old _ _ _ _ _ (by omega),joinF_old _ _ _ _ _ (by omega)]
  exact h j (by omega)
def cp (fl : Bool) (t : Nat) (tx ty : Int) (f : Nat → Nat → CV) (j : Nat) : Int × Int := tp fl t tx ty (CV.int (f j 0)) (CV.int (f j 1))
def cq (fl : Bool) (t : Nat) (tx ty : Int) (n : Nat) (f : Nat → Nat → CV) (j : Nat) : Int × Int := cp fl t tx ty f (bif fl then n - 1 - j else j)
def Holes (fl : Bool) (t : Nat) (tx ty : Int) (f g : Nat → Nat → CV) (i : Nat) : Prop :=
 ∀ j,j < i → CV.len (g j 0) = CV.len (f j 0) ∧ Are (cq fl t tx ty (CV.len (f j 0)) (CV.el (f j 0))) (CV.el (g j 0)) (CV.len (f j 0))
theorem Holes.snoc {fl : Bool} {t : Nat} {tx ty : Int} {f g : Nat → Nat → CV} {i n : Nat} (h : Holes fl t tx ty f g i) {x : Nat → Nat → CV} {r : Kd} {b : Bool} (hn : n = CV.len (f i 0)) (hx : Are (cq fl t tx ty n (CV.el (f i 0))) x n) :
  Holes fl t tx ty f (joinF i g (rowsF 1 [.ro b r n x])) (i + 1):=by
 intro j hj
 by_cases e : j = i
 ·subst e
  rw [joinF_new _ _ _ _ _ (Nat.le_refl j),Nat.sub_self]
  subst hn
  exact ⟨rfl,hx⟩
 ·rw [joinF_old _ _ _ _ _ (by omega)]
  exact h j (by omega)
end Go.Eng.R13

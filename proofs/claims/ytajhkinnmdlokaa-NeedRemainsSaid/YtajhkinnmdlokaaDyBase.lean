/-
 Precedences: words; the errors of edges.
-/
import Derived.Test.YtajhkinnmdlokaaDySort
set_option linter.all false
namespace Go.Eng.R13
open Go Go.RowKit Go.Eng
abbrev ea (f : FF) (i : Nat) : Int := CV.int (f i 0)
abbrev eb (f : FF) (i : Nat) : Int := CV.int (f i 1)
abbrev iv (g : FF) (i : Nat) : Int := CV.int (g i 0)
abbrev bv (g : FF) (i : Nat) : Bool := CV.bool (g i 0)
theorem setB (g : FF) (i j : Nat) (z : Bool) : bv (setF g (0 + i) 0 1 (listF [.b z])) j = if j = i then z else bv g j := by
 unfold bv setF
 rw [Nat.zero_add]
 by_cases h : j = i
 ·subst h; simp [listF, CV.bool]; rfl
 ·have : Nat.beq j i = false := by
   cases hq : Nat.beq j i with
   | false => rfl
   | true => exact (h (Nat.eq_of_beq_eq_true hq)).elim
  simp [this, h]
def badE (n a b : Int) : Int := if a < 0 ∨ a ≥ n ∨ b < 0 ∨ b ≥ n then 9 else if a = b then 2 else 0
def errE (n : Int) (f : FF) : Nat → Nat → Int
 | _, 0 => 0
 | i, d + 1 => if badE n (ea f i) (eb f i) = 0 then errE n f (i + 1) d else badE n (ea f i) (eb f i)
def Good (n : Int) (m : Nat) (f : FF) : Prop := ∀ i, i < m → 0 ≤ ea f i ∧ ea f i < n ∧ 0 ≤ eb f i ∧ eb f i < n ∧ ea f i ≠ eb f i
theorem badE_zero {n a b : Int} : badE n a b = 0 ↔ 0 ≤ a ∧ a < n ∧ 0 ≤ b ∧ b < n ∧ a ≠ b := by
 unfold badE
 split
 ·constructor
  ·intro h; cases h
  ·intro h; omega
 ·split
  ·constructor
   ·intro h; cases h
   ·intro h; omega
  ·constructor
   ·intro _; omega
   ·intro _; rfl
theorem errE_zero {n : Int} {f : FF} : ∀ {d i : Nat}, errE n f i d = 0 ↔ ∀ j, i ≤ j → j < i + d → 0 ≤ ea f j ∧ ea f j < n ∧ 0 ≤ eb f j ∧ eb f j < n ∧ ea f j ≠ eb f j
 | 0, i => by simp [errE]; intro j h1 h2; omega
 | d + 1, i => by
  unfold errE
  split
  ·rename_i h
   rw [errE_zero (d := d) (i := i + 1)]
   constructor
   ·intro hh j h1 h2
    by_cases e : j = i
    ·subst e; exact badE_zero.1 h
    ·exact hh j (by omega) (by omega)
   ·intro hh j h1 h2
    exact hh j (by omega) (by omega)
  ·rename_i h
   constructor
   ·intro hh; exact (h hh).elim
   ·intro hh; exact (h (badE_zero.2 (hh i (Nat.le_refl _) (by omega)))).elim
theorem good_iff {n : Int} {m : Nat} {f : FF} : errE n f 0 m = 0 ↔ Good n m f := by
 rw [errE_zero]
 exact ⟨fun h i hi => h i (Nat.zero_le _) (by omega), fun h j _ hj => h j (by omega)⟩
end Go.Eng.R13

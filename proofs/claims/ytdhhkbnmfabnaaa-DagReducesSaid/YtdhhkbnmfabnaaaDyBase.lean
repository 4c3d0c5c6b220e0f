/-
 Precedences: words; the errors of edges.
-/
import Derived.Test.YtdhhkbnmfabnaaaDySort
set_option linter.all false
namespace Go.Eng.R13
open Go Go.RowKit Go.Eng
abbrev ea (f : FF) (i : Nat) : Int := CV.int (f i 0)
abbrev eb (f : FF) (i : Nat) : Int := CV.int (f i 1)
abbrev iv (g : FF) (i : Nat) : Int := CV.int (g i 0)
abbrev bv (g : FF) (i : Nat) : Bool := CV.bool (g i 0)
theorem setI (g : FF) (i j : Nat) (z : Int) : iv (setF g (0 + i) 0 1 (listF [.i .i64 z])) j = if j = i then z else iv g j := by
 unfold iv setF
 rw [Nat.zero_add]
 by_cases h : j = i
 ·subst h; simp [listF, CV.int]; rfl
 ·have : Nat.beq j i = false := by
   cases hq : Nat.beq j i with
   | false => rfl
   | true => exact (h (Nat.eq_of_beq_eq_true hq)).elim
  simp [this, h]
theorem setB (g : FF) (i j : Nat) (z : Bool) : bv (setF g (0 + i) 0 1 (listF [.b z])) j = if j = i then z else bv g j := by
 unfold bv setF
 rw [Nat.zero_add]
 by_cases h : j = i
 ·subst h; simp [listF, CV.bool]; rfl
 ·have : Nat.beq j i = false := by
   cases hq : Nat.beq j i with
   | false => rfl
   | true => exact (h (Nat.eq_of_beq_eq_true hq)).elim
  simp [this, h]
theorem joinI (k : Nat) (g : FF) (z : Int) (j : Nat) (h : j ≤ k) : iv (joinF k g (rowsF 1 [.i .i64 z])) j = if j = k then z else iv g j := by
 unfold iv joinF
 by_cases hk : j = k
 ·subst hk
  have : Nat.blt j j = false := by
   cases h : Nat.blt j j with
   | false => rfl
   | true => rw [Nat.blt_eq] at h; omega
  simp [this, rowsF, listF, CV.int]
 ·have : Nat.blt j k = true := by rw [Nat.blt_eq]; omega
  simp [this, hk]
def badE (n a b : Int) : Int := if a < 0 ∨ a ≥ n ∨ b < 0 ∨ b ≥ n then 9 else if a = b then 2 else 0
def errE (n : Int) (f : FF) : Nat → Nat → Int
 | _, 0 => 0
 | i, d + 1 => if badE n (ea f i) (eb f i) = 0 then errE n f (i + 1) d else badE n (ea f i) (eb f i)
def Good (n : Int) (m : Nat) (f : FF) : Prop := ∀ i, i < m → 0 ≤ ea f i ∧ ea f i < n ∧ 0 ≤ eb f i ∧ eb f i < n ∧ ea f i ≠ eb f i
theorem badE_zero {n a b : Int} : badE n a b = 0 ↔ 0 ≤ a ∧ a < n ∧ 0 ≤ b ∧ b < n ∧ a ≠ b := by
 unfold badE
 split
 ·constructor
  ·intro h; cases h
  ·intro h; omega
 ·split
  ·constructor
   ·intro h; cases h
   ·intro h; omega
  ·constructor
   ·intro _; omega
   ·intro _; rfl
theorem errE_zero {n : Int} {f : FF} : ∀ {d i : Nat}, errE n f i d = 0 ↔ ∀ j, i ≤ j → j < i + d → 0 ≤ ea f j ∧ ea f j < n ∧ 0 ≤ eb f j ∧ eb f j < n ∧ ea f j ≠ eb f j
 | 0, i => by simp [errE]; intro j h1 h2; omega
 | d + 1, i => by
  unfold errE
  split
  ·rename_i h
   rw [errE_zero (d := d) (i := i + 1)]
   constructor
   ·intro hh j h1 h2
    by_cases e : j = i
    ·subst e; exact badE_zero.1 h
    ·exact hh j (by omega) (by omega)
   ·intro hh j h1 h2
    exact hh j (by omega) (by omega)
  ·rename_i h
   constructor
   ·intro hh; exact (h hh).elim
   ·intro hh; exact (h (badE_zero.2 (hh i (Nat.le_refl _) (by omega)))).elim
theorem good_iff {n : Int} {m : Nat} {f : FF} : errE n f 0 m = 0 ↔ Good n m f := by
 rw [errE_zero]
 exact ⟨fun h i hi => h i (Nat.zero_le _) (by omega), fun h j _ hj => h j (by omega)⟩
theorem l224 {ρ : Type} (u : Nat) (n : Int) (m : Nat) (f : FF) (hm : m ≤ 1000000) (k0 : Int → Int → Int → Option ρ) (k1 : Option ρ) (k : Int → Option ρ) (hk0 : ∀ e a b, e ≠ 0 → k0 e a b = k e) (hk1 : k1 = k 0) :
  ∀ (d i t : Nat) (x : Int), x = (i : Int) → i + d = m → d < t → L224v1 u n m f (Int.ofNat m) t x k0 k1 = k (errE n f i d)
 | 0, i, t + 1, x, hx, hi, ht => by
  unfold L224v1
  have h1 : decide (x < Int.ofNat m) = false := decide_eq_false (by simp only [Int.ofNat_eq_natCast]; omega)
  rw [h1, cond_false, hk1]; rfl
 | d + 1, i, t + 1, x, hx, hi, ht => by
  have ih := l224 u n m f hm k0 k1 k hk0 hk1 d (i + 1) t (w64 (x + 1)) (by rw [w64_of (by omega) (by omega)]; omega) (by omega) (by omega)
  unfold L224v1 errE
  have h1 : decide (x < Int.ofNat m) = true := decide_eq_true (by simp only [Int.ofNat_eq_natCast]; omega)
  have h2 : inb x m = true := inb_true (by omega) (by omega)
  have h3 : Int.toNat x = i := by omega
  rw [h1, cond_true, h2, cond_true, h3, ih]
  show _ = k (if badE n (CV.int (f i 0)) (CV.int (f i 1)) = 0 then errE n f (i + 1) d else badE n (CV.int (f i 0)) (CV.int (f i 1)))
  generalize CV.int (f i 0) = a
  generalize CV.int (f i 1) = b
  by_cases q1 : a < 0
  ·rw [decide_eq_true q1]
   simp [badE, q1, hk0]
  ·rw [decide_eq_false q1]
   by_cases q2 : a ≥ n
   ·rw [decide_eq_true q2]
    simp [badE, q1, q2, hk0]
   ·rw [decide_eq_false q2]
    by_cases q3 : b < 0
    ·rw [decide_eq_true q3]
     simp [badE, q1, q2, q3, hk0]
    ·rw [decide_eq_false q3]
     by_cases q4 : b ≥ n
     ·rw [decide_eq_true q4]
      simp [badE, q1, q2, q3, q4, hk0]
     ·rw [decide_eq_false q4]
      by_cases q5 : a = b
      ·subst q5
       simp [badE, q1, q2, hk0]
      ·have : (a == b) = false := by simp [q5]
       rw [this]
       simp [badE, q1, q2, q3, q4, q5]
theorem ends224 (u : Nat) (n : Int) (m : Nat) (f : FF) (hm : m ≤ 1000000) (hu : m < u) : F224 u n m f = some (errE n f 0 m) := by
 unfold F224
 exact l224 u n m f hm _ _ (fun e => some e) (fun _ _ _ _ => rfl) rfl m 0 u 0 rfl (by omega) hu
theorem l228 {ρ : Type} (u : Nat) (n : Int) (m : Nat) (f : FF) (hm : m ≤ 1000000) (k0 : Int → Option ρ) (k1 : Option ρ) (k : Int → Option ρ) (hk0 : ∀ e, e ≠ 0 → k0 e = k e) (hk1 : k1 = k 0) :
  ∀ (d i t : Nat) (x : Int), x = (i : Int) → i + d = m → d < t → L228v1 u n m f t x k0 k1 = k (errE n f i d)
 | 0, i, t + 1, x, hx, hi, ht => by
  unfold L228v1
  have h1 : decide (x < Int.ofNat m) = false := decide_eq_false (by simp only [Int.ofNat_eq_natCast]; omega)
  rw [h1, cond_false, hk1]; rfl
 | d + 1, i, t + 1, x, hx, hi, ht => by
  have ih := l228 u n m f hm k0 k1 k hk0 hk1 d (i + 1) t (w64 (x + 1)) (by rw [w64_of (by omega) (by omega)]; omega) (by omega) (by omega)
  unfold L228v1 errE
  have h1 : decide (x < Int.ofNat m) = true := decide_eq_true (by simp only [Int.ofNat_eq_natCast]; omega)
  have h2 : inb x m = true := inb_true (by omega) (by omega)
  have h3 : Int.toNat x = i := by omega
  rw [h1, cond_true, h2, cond_true, cond_true, h3, ih]
  show _ = k (if badE n (CV.int (f i 0)) (CV.int (f i 1)) = 0 then errE n f (i + 1) d else badE n (CV.int (f i 0)) (CV.int (f i 1)))
  generalize CV.int (f i 0) = a
  generalize CV.int (f i 1) = b
  by_cases q1 : a < 0
  ·rw [decide_eq_true q1]
   simp [badE, q1, hk0]
  ·rw [decide_eq_false q1]
   by_cases q2 : a ≥ n
   ·rw [decide_eq_true q2]
    simp [badE, q1, q2, hk0]
   ·rw [decide_eq_false q2]
    by_cases q3 : b < 0
    ·rw [decide_eq_true q3]
     simp [badE, q1, q2, q3, hk0]
    ·rw [decide_eq_false q3]
     by_cases q4 : b ≥ n
     ·rw [decide_eq_true q4]
      simp [badE, q1, q2, q3, q4, hk0]
     ·rw [decide_eq_false q4]
      by_cases q5 : a = b
      ·subst q5
       simp [badE, q1, q2, hk0]
      ·have : (a == b) = false := by simp [q5]
       rw [this]
       simp [badE, q1, q2, q3, q4, q5]
theorem check228 (u : Nat) (n : Int) (m : Nat) (f : FF) (hm : m ≤ 1000000) (hu : m < u) : F228 u n m f = some (errE n f 0 m) := by
 unfold F228
 exact l228 u n m f hm _ _ (fun e => some e) (fun _ _ => rfl) rfl m 0 u 0 rfl (by omega) hu
end Go.Eng.R13

/-
 Bounds: the reference's loop.
-/
import Derived.Test.YtngjgbhdhaopmaaDecT0
import Derived.Test.YtngjgbhdhaopmaaEngU
set_option linter.all false
namespace Go.Eng.R13
open Go Go.RowKit Go.Eng
def Bds (f : Nat → Nat → CV) (i : Nat) (a b c d : Int) : Prop :=
 (∀ j,j < i → a ≤ CV.int (f j 0) ∧ b ≤ CV.int (f j 1) ∧ CV.int (f j 0) ≤ c ∧ CV.int (f j 1) ≤ d) ∧
 (0 < i → (∃ j,j < i ∧ CV.int (f j 0) = a) ∧ (∃ j,j < i ∧ CV.int (f j 1) = b) ∧ (∃ j,j < i ∧ CV.int (f j 0) = c) ∧ (∃ j,j < i ∧ CV.int (f j 1) = d))
theorem Bds.step {f : Nat → Nat → CV} {i : Nat} {a b c d a' b' c' d' : Int} (hi : 0 < i) (h : Bds f i a b c d)
  (ha : a' = if CV.int (f i 0) < a then CV.int (f i 0) else a) (hb : b' = if CV.int (f i 1) < b then CV.int (f i 1) else b)
  (hc : c' = if CV.int (f i 0) > c then CV.int (f i 0) else c) (hd : d' = if CV.int (f i 1) > d then CV.int (f i 1) else d) : Bds f (i + 1) a' b' c' d':=by
 obtain ⟨h1,h2⟩ := h
 obtain ⟨⟨j1,k1,e1⟩,⟨j2,k2,e2⟩,⟨j3,k3,e3⟩,⟨j4,k4,e4⟩⟩ := h2 hi
 have q1 : a' ≤ a ∧ a' ≤ CV.int (f i 0):=by rw [ha];split <;> omega
 have q2 : b' ≤ b ∧ b' ≤ CV.int (f i 1):=by rw [hb];split <;> omega
 have q3 : c ≤ c' ∧ CV.int (f i 0) ≤ c':=by rw [hc];split <;> omega
 have q4 : d ≤ d' ∧ CV.int (f i 1) ≤ d':=by rw [hd];split <;> omega
 refine ⟨fun j hj => ?_,fun _ => ⟨?_,?_,?_,?_⟩⟩
 ·by_cases e : j = i
  ·rw [e];exact ⟨q1.2,q2.2,q3.2,q4.2⟩
  ·obtain ⟨p1,p2,p3,p4⟩ := h1 j (by omega)
   exact ⟨by omega,by omega,by omega,by omega⟩
 ·by_cases e : CV.int (f i 0) < a
  ·exact ⟨i,by omega,by rw [ha,if_pos e]⟩
  ·exact ⟨j1,by omega,by rw [ha,if_neg e];exact e1⟩
 ·by_cases e : CV.int (f i 1) < b
  ·exact ⟨i,by omega,by rw [hb,if_pos e]⟩
  ·exact ⟨j2,by omega,by rw [hb,if_neg e];exact e2⟩
 ·by_cases e : CV.int (f i 0) > c
  ·exact ⟨i,by omega,by rw [hc,if_pos e]⟩
  ·exact ⟨j3,by omega,by rw [hc,if_neg e];exact e3⟩
 ·by_cases e : CV.int (f i 1) > d
  ·exact ⟨i,by omega,by rw [hd,if_pos e]⟩
  ·exact ⟨j4,by omega,by rw [hd,if_neg e];exact e4⟩
end Go.Eng.R13

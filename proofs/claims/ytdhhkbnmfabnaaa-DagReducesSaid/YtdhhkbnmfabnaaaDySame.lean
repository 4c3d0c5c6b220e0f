/-
 DagSame: a reduction keeps Before, and is its own reduction.
-/
import Derived.Test.YtdhhkbnmfabnaaaDyRed
set_option linter.all false
namespace Go.Eng.R13
open Go Go.RowKit Go.Eng
section
variable {N m : Nat} {f : FF}
end
section
variable {N m : Nat} {f : FF} {p : Nat → Nat}
end
section
variable {n : Int} {m k : Nat} {f g : FF}
end
theorem l240 {ρ : Type} {u : Nat} (k : Nat) (g g' : FF) (hk : k ≤ 1000000) (h : ∀ i, i < k → ea g i = ea g' i ∧ eb g i = eb g' i) (k0 k1 : Option ρ) : ∀ (d i t : Nat) (x : Int), x = (i : Int) → i + d = k → d < t → L240v1 u k g k g' t x k0 k1 = k1
 | 0, i, t + 1, x, hx, hi, ht => by
  unfold L240v1
  rw [decide_eq_false (show ¬ x < Int.ofNat k by simp only [Int.ofNat_eq_natCast]; omega), cond_false]
 | d + 1, i, t + 1, x, hx, hi, ht => by
  have h2 : inb x k = true := inb_true (by omega) (by omega)
  have h3 : Int.toNat x = i := by omega
  obtain ⟨q1, q2⟩ := h i (by omega)
  have q1 : CV.int (g i 0) = CV.int (g' i 0) := q1
  have q2 : CV.int (g i 1) = CV.int (g' i 1) := q2
  unfold L240v1
  rw [decide_eq_true (show x < Int.ofNat k by simp only [Int.ofNat_eq_natCast]; omega), cond_true, h2, cond_true, cond_true, h3, show (!((CV.int (g i 0) == CV.int (g' i 0)) && ((CV.int (g i 1) == CV.int (g' i 1)) && true))) = false by rw [q1, q2]; simp, cond_false]
  exact l240 k g g' hk h k0 k1 d (i + 1) t _ (by rw [w64_of (by omega) (by omega)]; omega) (by omega) (by omega)
theorem edges240 {u : Nat} {k k' : Nat} {g g' : FF} (hk : k ≤ 1000000) (hu : k < u) (h : prsP k g = prsP k' g') : F240 u k g k' g' = some true := by
 have hkk : k = k' := by have := congrArg List.length h; rw [prsP_len, prsP_len] at this; exact this
 subst hkk
 unfold F240
 rw [show ((Int.ofNat k) != (Int.ofNat k)) = false by simp, cond_false]
 refine l240 k g g' hk (fun i hi => ?_) _ _ k 0 u 0 rfl (by omega) hu
 have h1 := prsP_at (g := g) hi
 have h2 := prsP_at (g := g') hi
 rw [h, h2] at h1
 have e := Option.some.inj h1
 rw [prP_e, prP_e] at e
 exact ⟨(congrArg Prod.fst e).symm, (congrArg Prod.snd e).symm⟩
end Go.Eng.R13

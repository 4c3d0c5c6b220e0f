/-
  What 'great' leaves; the examples of the chapter.
-/
import Derived.Test.YtnpgipmbionmgaaDecT3
import Derived.Test.YtnpgipmbionmgaaEngU
set_option linter.all false
namespace Go.Eng.R13
open Go Go.RowKit Go.Eng
theorem great_loop (a n : Nat) (b f : Nat → Nat → CV) (hn : n ≤ 12) : ∀ (m i : Nat), n < m + i → i ≤ n →
    L12v1 100 a b n f m (Int.ofNat i) (some true) (some false) = some true ∨
    (L12v1 100 a b n f m (Int.ofNat i) (some true) (some false) = some false ∧ ∀ j, i ≤ j → j < n → CV.len (f j 0) ≤ 40) := by
  intro m
  induction m with
  | zero => intro i h1 h2; omega
  | succ m ih =>
    intro i h1 h2
    unfold L12v1
    rw [lt_nat, inb_nat, toNat_nat]
    by_cases h : i < n
    · rw [bif_t (by simpa using h), bif_t (by simpa using h), w64_succ (by omega)]
      by_cases h3 : CV.len (f i 0) ≤ 40
      · rw [bif_f (by simp; omega)]
        rcases ih (i + 1) (by omega) (by omega) with h4 | ⟨h4, h5⟩
        · exact .inl h4
        · refine .inr ⟨h4, fun j h6 h7 => ?_⟩
          by_cases e : j = i
          · rw [e]; exact h3
          · exact h5 j (by omega) h7
      · rw [bif_t (by simp; omega)]
        exact .inl rfl
    · rw [bif_f (by simpa using h)]
      exact .inr ⟨rfl, fun j h6 h7 => by omega⟩
theorem great_law (n1 n2 : Nat) (f1 f2 : Nat → Nat → CV) :
    F12 100 n1 f1 n2 f2 = some true ∨ (F12 100 n1 f1 n2 f2 = some false ∧ n1 ≤ 40 ∧ n2 ≤ 12 ∧ ∀ j, j < n2 → CV.len (f2 j 0) ≤ 40) := by
  unfold F12 D12
  by_cases h1 : n2 ≤ 12
  · rw [bif_t (by simp; omega)]
    by_cases h2 : n1 ≤ 40
    · rw [bif_f (by simp; omega)]
      rcases great_loop n1 n2 f1 f2 h1 100 0 (by omega) (by omega) with h | ⟨h, h3⟩
      · exact .inl h
      · exact .inr ⟨h, h2, h1, fun j hj => h3 j (by omega) hj⟩
    · rw [bif_t (by simp; omega)]
      exact .inl rfl
  · rw [bif_f (by simp; omega)]
    exact .inl rfl
theorem alive_law : F15 100 = some true := by kernel_rfl
end Go.Eng.R13

/-
 Order: what the reference computes; DagOrders.
-/
import Derived.Test.YtajhkinnmdlokaaDyOrd
set_option linter.all false
namespace Go.Eng.R13
open Go Go.RowKit Go.Eng
section
variable {ρ : Type} {n : Int} {m : Nat} {f : FF}
theorem OrdR.same {k k' : Nat} {g g' : FF} {c c' : Int} (h : OrdR n m f k g c) (h' : OrdR n m f k' g' c') : k = k' ∧ c = c' ∧ ∀ i, i < k → iv g i = iv g' i := by
 have z : ∀ i, i < 0 → iv g i = iv g' i := fun i hi => by omega
 cases h with
 | range _ h =>
  cases h' with
  | range => exact ⟨rfl, rfl, z⟩
  | bad _ h' => omega
  | cycle _ h' => omega
  | order _ _ h' => omega
 | bad _ h he =>
  cases h' with
  | range _ h' => omega
  | bad => exact ⟨rfl, rfl, z⟩
  | cycle _ _ hg => exact (he (good_iff.2 hg)).elim
  | order _ _ _ hg => exact (he (good_iff.2 hg)).elim
 | cycle _ h hg hr =>
  cases h' with
  | range _ h' => omega
  | bad _ _ he => exact (he (good_iff.2 hg)).elim
  | cycle => exact ⟨rfl, rfl, z⟩
  | order _ _ _ _ hr' => rw [hr] at hr'; cases hr'
 | order _ l h hg hr hl =>
  cases h' with
  | range _ h' => omega
  | bad _ _ he => exact (he (good_iff.2 hg)).elim
  | cycle _ _ _ hr' => rw [hr] at hr'; cases hr'
  | order _ l' _ _ hr' hl' =>
   rw [hr] at hr'; cases hr'
   exact ⟨rfl, rfl, fun i hi => by rw [hl i hi, hl' i hi]⟩
theorem OrdR.len {k : Nat} {g : FF} {c : Int} (h : OrdR n m f k g c) : k ≤ 256 := by cases h <;> omega
end
end Go.Eng.R13

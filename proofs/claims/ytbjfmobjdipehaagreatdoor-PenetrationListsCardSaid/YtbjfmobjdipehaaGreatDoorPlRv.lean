/-
 A contour in the opposite order.
-/
import Derived.Test.YtbjfmobjdipehaaGreatDoorPlPlace
import Derived.Test.YtbjfmobjdipehaaGreatDoorGeo6
set_option linter.all false
namespace Go.Eng.R13
open Go Go.RowKit Go.Eng Geo
theorem jo (n : Nat) (f g : Nat → Nat → CV) (j c : Nat) (h : j < n) : joinF n f g j c = f j c := by
 unfold joinF
 rw [bif_t (by simpa [Nat.blt_eq] using h)]
theorem jn (n : Nat) (f g : Nat → Nat → CV) (j c : Nat) (h : n ≤ j) : joinF n f g j c = g (j - n) c := by
 unfold joinF
 rw [bif_f]
 cases hq : Nat.blt j n with
 | false => rfl
 | true => simp [Nat.blt_eq] at hq; omega
theorem rev_valid {n : Nat} {H h : Nat → Nat → CV} (V : Valid n H) (e : ∀ j, j < n → pt h j = pt H (n - 1 - j)) : Valid n h := by
 have hb := V.big
 refine ⟨V.big, V.small, fun j hj => ?_, simple_congr (fun j hj => (e j hj).symm) (rv_simple V.simple)⟩
 have h1 := V.near (n - 1 - j) (by omega)
 have h2 := e j hj
 rw [show CV.int (h j 0) = CV.int (H (n - 1 - j) 0) from congrArg Prod.fst h2, show CV.int (h j 1) = CV.int (H (n - 1 - j) 1) from congrArg Prod.snd h2]
 exact h1
theorem rev_area {n : Nat} {H h : Nat → Nat → CV} (V : Valid n H) (e : ∀ j, j < n → pt h j = pt H (n - 1 - j)) : area n (pt h) = - area n (pt H) := by
 have hb := V.big
 rw [area_congr (by omega) e]
 exact rv_area n (pt H)
theorem rev_onK {n : Nat} {H h : Nat → Nat → CV} (V : Valid n H) (e : ∀ j, j < n → pt h j = pt H (n - 1 - j)) (q : Pt) : OnK n (pt h) q ↔ OnK n (pt H) q := by
 have hb := V.big
 rw [onK_congr (by omega) e]
 exact rv_onK (p := pt H)
theorem rev_par {n : Nat} {H h : Nat → Nat → CV} (V : Valid n H) (e : ∀ j, j < n → pt h j = pt H (n - 1 - j)) {q : Pt} (hq : ¬ OnK n (pt H) q) : par n (pt h) q = par n (pt H) q := by
 have hb := V.big
 rw [par_congr (by omega) e]
 exact rv_par hq
theorem IsPlace.single {n : Nat} {f g : Nat → Nat → CV} {q : Pt} {z : Int} (h : IsPlace n f 0 g q z) : IsWhere n f q z := by
 obtain ⟨w, W, hw, _, _, _, h3⟩ := h
 rcases h3 with h | ⟨j, hj, _⟩
 ·rw [h]; exact hw
 ·omega
end Go.Eng.R13

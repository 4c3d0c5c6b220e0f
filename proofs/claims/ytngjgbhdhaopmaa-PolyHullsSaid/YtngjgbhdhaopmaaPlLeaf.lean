/-
 The small functions on points: crosses,signs,edges that meet.
-/
import Derived.Test.YtngjgbhdhaopmaaDecT0
import Derived.Test.YtngjgbhdhaopmaaEngU
import Derived.Test.YtngjgbhdhaopmaaGeo6
set_option linter.all false
namespace Go.Eng.R13
open Go Go.RowKit Go.Eng Geo
abbrev pt (f : Nat → Nat → CV) (i : Nat) : Pt:=(CV.int (f i 0),CV.int (f i 1))
theorem w_cross {x1 x2 x3 x4 x5 x6 : Int} (ha : nr x1 x2) (hb : nr x3 x4) (hc : nr x5 x6) :
  w64 (w64 (w64 (x3 - x1) * w64 (x6 - x2)) - w64 (w64 (x4 - x2) * w64 (x5 - x1))) = cross (x1,x2) (x3,x4) (x5,x6):=by
 unfold nr at *
 have h1 := mul_bd (x := x3 - x1) (y := x6 - x2) (A := 65536) (B := 65536) (by omega) (by omega) (by omega) (by omega)
 have h2 := mul_bd (x := x4 - x2) (y := x5 - x1) (A := 65536) (B := 65536) (by omega) (by omega) (by omega) (by omega)
 rw [w64_of (n := x3 - x1) (by omega) (by omega),w64_of (n := x6 - x2) (by omega) (by omega),w64_of (n := x4 - x2) (by omega) (by omega),w64_of (n := x5 - x1) (by omega) (by omega)]
 rw [w64_of (n:=(x3 - x1) * (x6 - x2)) (by omega) (by omega),w64_of (n:=(x4 - x2) * (x5 - x1)) (by omega) (by omega),w64_of (by omega) (by omega)]
 rfl
theorem cross79 {x1 x2 x3 x4 x5 x6 : Int} (ha : nr x1 x2) (hb : nr x3 x4) (hc : nr x5 x6) : F79 100 x1 x2 x3 x4 x5 x6 = some (cross (x1,x2) (x3,x4) (x5,x6)):=by
 unfold F79;rw [w_cross ha hb hc]
theorem cross71 {x1 x2 x3 x4 x5 x6 : Int} (ha : nr x1 x2) (hb : nr x3 x4) (hc : nr x5 x6) : F71 100 x1 x2 x3 x4 x5 x6 = some (cross (x1,x2) (x3,x4) (x5,x6)):=by
 unfold F71;rw [w_cross ha hb hc]
theorem far61 (x y : Int) : ∃ b,F61 100 x y = some b ∧ (b = false ↔ nr x y):=by
 unfold F61 nr
 by_cases h1 : x < -32768
 ·rw [bif_f (by simpa using h1)]
  exact ⟨true,rfl,by simp;omega⟩
 ·rw [bif_t (by simpa using h1)]
  by_cases h2 : x > 32768
  ·rw [bif_f (by simpa using h2)]
   exact ⟨true,rfl,by simp;omega⟩
  ·rw [bif_t (by simpa using h2)]
   by_cases h3 : y < -32768
   ·rw [bif_f (by simpa using h3)]
    exact ⟨true,rfl,by simp;omega⟩
   ·rw [bif_t (by simpa using h3)]
    exact ⟨_,rfl,by rw [decide_eq_false_iff_not];omega⟩
theorem near69 (x y : Int) : ∃ b,F69 100 x y = some b ∧ (b = true ↔ nr x y):=by
 unfold F69 nr
 by_cases h1 : x ≥ -32768
 ·rw [bif_t (by simpa using h1)]
  by_cases h2 : x ≤ 32768
  ·rw [bif_t (by simpa using h2)]
   by_cases h3 : y ≥ -32768
   ·rw [bif_t (by simpa using h3)]
    exact ⟨_,rfl,by rw [decide_eq_true_iff];omega⟩
   ·rw [bif_f (by simpa using h3)]
    exact ⟨false,rfl,by simp;omega⟩
  ·rw [bif_f (by simpa using h2)]
   exact ⟨false,rfl,by simp;omega⟩
 ·rw [bif_f (by simpa using h1)]
  exact ⟨false,rfl,by simp;omega⟩
end Go.Eng.R13

/-
 The small functions on points: crosses,signs,edges that meet.
-/
import Derived.Test.YtngjgbhdhaopmaaDecT0
import Derived.Test.YtngjgbhdhaopmaaEngU
import Derived.Test.YtngjgbhdhaopmaaGeo6
set_option linter.all false
namespace Go.Eng.R13
open Go Go.RowKit Go.Eng Geo
abbrev pt (f : Nat → Nat → CV) (i : Nat) : Pt:=(CV.int (f i 0),CV.int (f i 1))
theorem w_cross {x1 x2 x3 x4 x5 x6 : Int} (ha : nr x1 x2) (hb : nr x3 x4) (hc : nr x5 x6) :
  w64 (w64 (w64 (x3 - x1) * w64 (x6 - x2)) - w64 (w64 (x4 - x2) * w64 (x5 - x1))) = cross (x1,x2) (x3,x4) (x5,x6):=by
 unfold nr at *
 have h1 := mul_bd (x := x3 - x1) (y := x6 - x2) (A := 65536) (B := 65536) (by omega) (by omega) (by omega) (by omega)
 have h2 := mul_bd (x := x4 - x2) (y := x5 - x1) (A := 65536) (B := 65536) (by omega) (by omega) (by omega) (by omega)
 rw [w64_of (n := x3 - x1) (by omega) (by omega),w64_of (n := x6 - x2) (by omega) (by omega),w64_of (n := x4 - x2) (by omega) (by omega),w64_of (n := x5 - x1) (by omega) (by omega)]
 rw [w64_of (n:=(x3 - x1) * (x6 - x2)) (by omega) (by omega),w64_of (n:=(x4 - x2) * (x5 - x1)) (by omega) (by omega),w64_of (by omega) (by omega)]
 rfl
def sgn (x : Int) : Int := if x < 0 then -1 else if 0 < x then 1 else 0
theorem sgn_neg {x : Int} (h : x < 0) : sgn x = -1:=by unfold sgn;rw [if_pos h]
theorem sgn_pos {x : Int} (h : 0 < x) : sgn x = 1:=by unfold sgn;rw [if_neg (by omega),if_pos h]
theorem sgn_opp (s t : Int) : decide (w64 (sgn s * sgn t) < 0) = decide (opp s t):=by
 have e : ∀ x,sgn x = -1 ∧ x < 0 ∨ sgn x = 0 ∧ x = 0 ∨ sgn x = 1 ∧ 0 < x:=by
  intro x
  rcases Int.lt_trichotomy x 0 with h | h | h
  ·exact .inl ⟨sgn_neg h,h⟩
  ·exact .inr (.inl ⟨by rw [h];rfl,h⟩)
  ·exact .inr (.inr ⟨sgn_pos h,h⟩)
 have key : (w64 (sgn s * sgn t) < 0) ↔ opp s t:=by
  unfold opp
  rcases e s with ⟨h1,h2⟩ | ⟨h1,h2⟩ | ⟨h1,h2⟩ <;> rcases e t with ⟨h3,h4⟩ | ⟨h3,h4⟩ | ⟨h3,h4⟩ <;> rw [h1,h3,w64_of (by decide) (by decide)] <;> simp <;> omega
 exact decide_eq_decide.2 key
theorem cross79 {x1 x2 x3 x4 x5 x6 : Int} (ha : nr x1 x2) (hb : nr x3 x4) (hc : nr x5 x6) : F79 100 x1 x2 x3 x4 x5 x6 = some (cross (x1,x2) (x3,x4) (x5,x6)):=by
 unfold F79;rw [w_cross ha hb hc]
theorem cross71 {x1 x2 x3 x4 x5 x6 : Int} (ha : nr x1 x2) (hb : nr x3 x4) (hc : nr x5 x6) : F71 100 x1 x2 x3 x4 x5 x6 = some (cross (x1,x2) (x3,x4) (x5,x6)):=by
 unfold F71;rw [w_cross ha hb hc]
theorem sign86 (x : Int) : F86 100 x = some (sgn x):=by
 unfold F86 F89 F90
 rw [ob_some,ob_some]
 have e1 : (x != x) = false:=by simp
 have e2 : ((0 : Int) != 0) = false := rfl
 rw [e1,e2,bif_f rfl,bif_f rfl]
 rcases Int.lt_trichotomy x 0 with h | h | h
 ·rw [sgn_neg h,bif_t (by simpa using h)];rfl
 ·rw [h];rfl
 ·rw [sgn_pos h,bif_f (by simp;omega),bif_t (by simpa using h)];rfl
theorem sign88 (x : Int) : F88 100 x = some (sgn x):=by
 unfold F88
 rcases Int.lt_trichotomy x 0 with h | h | h
 ·rw [sgn_neg h,bif_t (by simpa using h)]
 ·rw [h];rfl
 ·rw [sgn_pos h,bif_f (by simp;omega),bif_t (by simpa using h)]
theorem btwB (a b q : Int) : (decide ((if b < a then b else a) ≤ q) && decide (q ≤ (if b > a then b else a))) = decide (btw a b q):=by
 rw [Bool.eq_iff_iff,Bool.and_eq_true,decide_eq_true_iff,decide_eq_true_iff,decide_eq_true_iff]
 unfold btw
 split <;> split <;> omega
theorem within87 (x1 x2 x3 x4 x5 x6 : Int) : F87 100 x1 x2 x3 x4 x5 x6 = some (decide (btw x1 x3 x5) && decide (btw x2 x4 x6)):=by
 unfold F87
 rw [← btwB x1 x3 x5,← btwB x2 x4 x6]
 cases decide ((if x3 < x1 then x3 else x1) ≤ x5) <;> cases decide (x5 ≤ (if x3 > x1 then x3 else x1)) <;> cases decide ((if x4 < x2 then x4 else x2) ≤ x6) <;> cases decide (x6 ≤ (if x4 > x2 then x4 else x2)) <;> rfl
theorem onB (x1 x2 x3 x4 x5 x6 : Int) : decide (On (x5,x6) (x1,x2) (x3,x4)) = ((cross (x1,x2) (x3,x4) (x5,x6) == 0) && (decide (btw x1 x3 x5) && decide (btw x2 x4 x6))):=by
 rw [Bool.eq_iff_iff,Bool.and_eq_true,Bool.and_eq_true,decide_eq_true_iff,decide_eq_true_iff,decide_eq_true_iff,beq_iff_eq]
 rfl
theorem on81 {x1 x2 x3 x4 x5 x6 : Int} (ha : nr x1 x2) (hb : nr x3 x4) (hc : nr x5 x6) : F81 100 x1 x2 x3 x4 x5 x6 = some (decide (On (x5,x6) (x1,x2) (x3,x4))):=by
 unfold F81
 rw [cross79 ha hb hc,ob_some,within87,ob_some,onB]
 cases (cross (x1,x2) (x3,x4) (x5,x6) == 0) <;> rfl
theorem on70 {x1 x2 x3 x4 x5 x6 : Int} (ha : nr x1 x2) (hb : nr x3 x4) (hc : nr x5 x6) : F70 100 x1 x2 x3 x4 x5 x6 = some (decide (On (x1,x2) (x3,x4) (x5,x6))):=by
 unfold F70
 rw [cross71 hb hc ha,ob_some,onB,← btwB x3 x5 x1,← btwB x4 x6 x2]
 cases (cross (x3,x4) (x5,x6) (x1,x2) == 0) <;> cases decide ((if x5 < x3 then x5 else x3) ≤ x1) <;> cases decide (x1 ≤ (if x5 > x3 then x5 else x3)) <;> cases decide ((if x6 < x4 then x6 else x4) ≤ x2) <;> cases decide (x2 ≤ (if x6 > x4 then x6 else x4)) <;> rfl
theorem meetB (x1 x2 x3 x4 x5 x6 x7 x8 : Int) : decide (Meet (x1,x2) (x3,x4) (x5,x6) (x7,x8)) =
  (decide (On (x5,x6) (x1,x2) (x3,x4)) || (decide (On (x7,x8) (x1,x2) (x3,x4)) || (decide (On (x1,x2) (x5,x6) (x7,x8)) || (decide (On (x3,x4) (x5,x6) (x7,x8)) ||
   (decide (opp (cross (x1,x2) (x3,x4) (x5,x6)) (cross (x1,x2) (x3,x4) (x7,x8))) && decide (opp (cross (x5,x6) (x7,x8) (x1,x2)) (cross (x5,x6) (x7,x8) (x3,x4)))))))):=by
 rw [Bool.eq_iff_iff]
 simp only [Bool.or_eq_true,Bool.and_eq_true,decide_eq_true_iff]
 rfl
theorem meet80 {x1 x2 x3 x4 x5 x6 x7 x8 : Int} (ha : nr x1 x2) (hb : nr x3 x4) (hc : nr x5 x6) (hd : nr x7 x8) : F80 100 x1 x2 x3 x4 x5 x6 x7 x8 = some (decide (Meet (x1,x2) (x3,x4) (x5,x6) (x7,x8))):=by
 unfold F80
 rw [on81 ha hb hc,on81 ha hb hd,on81 hc hd ha,on81 hc hd hb,cross79 ha hb hc,cross79 ha hb hd,cross79 hc hd ha,cross79 hc hd hb]
 simp only [ob_some,sign86,sgn_opp]
 rw [meetB]
 cases decide (On (x5,x6) (x1,x2) (x3,x4)) <;> cases decide (On (x7,x8) (x1,x2) (x3,x4)) <;> cases decide (On (x1,x2) (x5,x6) (x7,x8)) <;> cases decide (On (x3,x4) (x5,x6) (x7,x8)) <;>
  cases decide (opp (cross (x1,x2) (x3,x4) (x5,x6)) (cross (x1,x2) (x3,x4) (x7,x8))) <;> rfl
theorem meet82 {x1 x2 x3 x4 x5 x6 x7 x8 : Int} (ha : nr x1 x2) (hb : nr x3 x4) (hc : nr x5 x6) (hd : nr x7 x8) : F82 100 x1 x2 x3 x4 x5 x6 x7 x8 = some (decide (Meet (x1,x2) (x3,x4) (x5,x6) (x7,x8))):=by
 unfold F82
 rw [on70 ha hc hd,on70 hb hc hd,on70 hc ha hb,on70 hd ha hb,cross71 ha hb hc,cross71 ha hb hd,cross71 hc hd ha,cross71 hc hd hb]
 simp only [ob_some,sign88,sgn_opp]
 rw [meetB]
 cases decide (On (x5,x6) (x1,x2) (x3,x4)) <;> cases decide (On (x7,x8) (x1,x2) (x3,x4)) <;> cases decide (On (x1,x2) (x5,x6) (x7,x8)) <;> cases decide (On (x3,x4) (x5,x6) (x7,x8)) <;>
  cases decide (opp (cross (x1,x2) (x3,x4) (x5,x6)) (cross (x1,x2) (x3,x4) (x7,x8))) <;> rfl
theorem far61 (x y : Int) : ∃ b,F61 100 x y = some b ∧ (b = false ↔ nr x y):=by
 unfold F61 nr
 by_cases h1 : x < -32768
 ·rw [bif_f (by simpa using h1)]
  exact ⟨true,rfl,by simp;omega⟩
 ·rw [bif_t (by simpa using h1)]
  by_cases h2 : x > 32768
  ·rw [bif_f (by simpa using h2)]
   exact ⟨true,rfl,by simp;omega⟩
  ·rw [bif_t (by simpa using h2)]
   by_cases h3 : y < -32768
   ·rw [bif_f (by simpa using h3)]
    exact ⟨true,rfl,by simp;omega⟩
   ·rw [bif_t (by simpa using h3)]
    exact ⟨_,rfl,by rw [decide_eq_false_iff_not];omega⟩
theorem near69 (x y : Int) : ∃ b,F69 100 x y = some b ∧ (b = true ↔ nr x y):=by
 unfold F69 nr
 by_cases h1 : x ≥ -32768
 ·rw [bif_t (by simpa using h1)]
  by_cases h2 : x ≤ 32768
  ·rw [bif_t (by simpa using h2)]
   by_cases h3 : y ≥ -32768
   ·rw [bif_t (by simpa using h3)]
    exact ⟨_,rfl,by rw [decide_eq_true_iff];omega⟩
   ·rw [bif_f (by simpa using h3)]
    exact ⟨false,rfl,by simp;omega⟩
  ·rw [bif_f (by simpa using h2)]
   exact ⟨false,rfl,by simp;omega⟩
 ·rw [bif_f (by simpa using h1)]
  exact ⟨false,rfl,by simp;omega⟩
end Go.Eng.R13

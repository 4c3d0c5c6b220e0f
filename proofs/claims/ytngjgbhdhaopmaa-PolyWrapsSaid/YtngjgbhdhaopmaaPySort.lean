/-
 The order of Hull's closure: by the first coordinate,then by the second one.
-/
import Derived.Test.YtngjgbhdhaopmaaPyCut
set_option linter.all false
namespace Go.Eng.R13
open Go Go.RowKit Go.Eng
def cfI (p q : Int) : Int := bif p != 0 then p else bif q != 0 then q else 0
theorem or_law {ρ : Type} (fuel m : Nat) (p q : Int) (k0 : Int → Option ρ) (k1 : Option ρ) : L201v1 fuel 2 (rowsF 1 [(.i .i64 p),(.i .i64 q)]) (Int.ofNat 2) (m + 3) 0 k0 k1 = bif p != 0 then k0 p else bif q != 0 then k0 q else k1:=by
 have e0 : CV.int (rowsF 1 [(.i .i64 p),(.i .i64 q)] (Int.toNat 0) 0) = p := rfl
 have e1 : CV.int (rowsF 1 [(.i .i64 p),(.i .i64 q)] (Int.toNat (w64 (0 + 1))) 0) = q := rfl
 have w1 : w64 (0 + 1) = 1 := rfl
 have w2 : w64 (1 + 1) = 2 := rfl
 have e1 : CV.int (rowsF 1 [(.i .i64 p),(.i .i64 q)] (Int.toNat 1) 0) = q := rfl
 unfold L201v1
 rw [bif_t (by rfl),bif_t (by rfl),e0,w1]
 congr 1
theorem clo_law (a b c d : Int) : F202 100 a b c d = some (cfI (w64 (a - c)) (w64 (b - d))):=by
 unfold F202 F201
 rw [show L201v1 100 2 (rowsF 1 [(.i .i64 (w64 (a - c))),(.i .i64 (w64 (b - d)))]) (Int.ofNat 2) 100 0 (fun x11 => some x11) (some 0) = _ from or_law 100 97 _ _ _ _]
 unfold cfI
 cases (w64 (a - c) != 0) with
 | true => rfl
 | false =>
  cases (w64 (b - d) != 0) with
  | true => rfl
  | false => rfl
theorem cfI_neg {p q : Int} : cfI p q < 0 ↔ p < 0 ∨ p = 0 ∧ q < 0:=by
 unfold cfI
 by_cases h : p = 0
 ·subst h
  by_cases h2 : q = 0
  ·subst h2;simp
  ·have e : (q != 0) = true:=by simp [h2]
   rw [bif_f (by rfl),e];simp
 ·have e : (p != 0) = true:=by simp [h]
  rw [e];simp [h]
theorem clo_neg (x y : PB) : cfI (w64 (x.1.1 - y.1.1)) (w64 (x.1.2 - y.1.2)) < 0 ↔ ltP x.1 y.1 = true:=by
 obtain ⟨⟨a,b⟩,hx⟩ := x
 obtain ⟨⟨c,d⟩,hy⟩ := y
 have h1 : inB (a,b) = true := hx
 have h2 : inB (c,d) = true := hy
 simp only [inB,Bool.and_eq_true,decide_eq_true_eq] at h1 h2
 have hl : sortLim = 2305843009213693952 := rfl
 rw [hl] at h1 h2
 show cfI (w64 (a - c)) (w64 (b - d)) < 0 ↔ ltP (a,b) (c,d) = true
 rw [cfI_neg,ltP_iff,w64_of (by omega) (by omega),w64_of (by omega) (by omega)]
 show _ ↔ a < c ∨ a = c ∧ b < d
 omega
end Go.Eng.R13

/-
 The functions of the program,run on symbols; printed by decomp.py.
-/
import Derived.Test.YtngjgbhdhaopmaaDecT0
set_option linter.all false
set_option maxRecDepth 1000000
set_option maxHeartbeats 4000000
namespace Go.Eng.R13
open Go Go.RowKit Go.Eng
variable {ρ σ : Type} (u m : Nat) (k : Ex → St → Option ρ) (ng : ρ → Option σ) (n0 n1 n2 : Nat) (f0 f1 f2 : FF) (i0 i1 i2 i3 i4 i5 i6 i7 i8 : Int) (b0 b1 : Bool)
/- Functions that the plain texts alone name. -/
def L38v1 {ρ : Type} (u : Nat) (x0 : Nat) (x1 : FF) : Nat → Int → Int → (Int → Option ρ) → Option ρ
 | 0,_,_,_ => none
 | m + 1,x2,x3,k0 =>
  (bif (decide (x3 < (Int.ofNat x0))) then (bif (inb x3 x0) then (bif ((Int.ofNat x0) == 0) then none else (bif (inb (Int.tmod (w64 (x3 + 1)) (Int.ofNat x0)) x0) then (L38v1 u x0 x1 m (w64 ((w64 (x2 + (w64 ((x1 x3.toNat 0).int * (CV.int (x1 (Int.toNat (Int.tmod (w64 (x3 + 1)) (Int.ofNat x0))) 1)))))) - (w64 ((x1 x3.toNat 1).int * (CV.int (x1 (Int.toNat (Int.tmod (w64 (x3 + 1)) (Int.ofNat x0))) 0)))))) (w64 (x3 + 1)) k0) else none)) else none) else (k0 x2))
def F38 (x0 : Nat) (x1 : FF) : Option (Int) :=
 (ob (F37 100 x0 x1) fun x2 => (bif (x2 != 0) then (some 0) else (L38v1 u x0 x1 u 0 0
  (fun x3 => (some x3)))))
def L40v1 {ρ : Type} (u : Nat) (x0 : Nat) (x1 : FF) (x2 x3 : Int) : Nat → Bool → Int → (Int → Int → Int → Int → Option ρ) → (Bool → Option ρ) → Option ρ
 | 0,_,_,_,_ => none
 | m + 1,x4,x5,k0,k1 =>
  (bif (decide (x5 < (Int.ofNat x0))) then (bif (inb x5 x0) then (bif ((Int.ofNat x0) == 0) then none else (bif (inb (Int.tmod (w64 (x5 + 1)) (Int.ofNat x0)) x0) then (ob (F70 100 x2 x3 (x1 x5.toNat 0).int (x1 x5.toNat 1).int (CV.int (x1 (Int.toNat (Int.tmod (w64 (x5 + 1)) (Int.ofNat x0))) 0)) (CV.int (x1 (Int.toNat (Int.tmod (w64 (x5 + 1)) (Int.ofNat x0))) 1))) fun x6 => (bif x6 then (k0 (x1 x5.toNat 0).int (x1 x5.toNat 1).int (CV.int (x1 (Int.toNat (Int.tmod (w64 (x5 + 1)) (Int.ofNat x0))) 0)) (CV.int (x1 (Int.toNat (Int.tmod (w64 (x5 + 1)) (Int.ofNat x0))) 1))) else (bif ((decide ((x1 x5.toNat 1).int ≤ x3)) == true) then (bif ((decide (x3 < (CV.int (x1 (Int.toNat (Int.tmod (w64 (x5 + 1)) (Int.ofNat x0))) 1)))) == true) then (ob (F71 100 (x1 x5.toNat 0).int (x1 x5.toNat 1).int (CV.int (x1 (Int.toNat (Int.tmod (w64 (x5 + 1)) (Int.ofNat x0))) 0)) (CV.int (x1 (Int.toNat (Int.tmod (w64 (x5 + 1)) (Int.ofNat x0))) 1)) x2 x3) fun x7 => (bif ((decide ((CV.int (x1 (Int.toNat (Int.tmod (w64 (x5 + 1)) (Int.ofNat x0))) 1)) ≤ x3)) == true) then (bif ((decide (x3 < (x1 x5.toNat 1).int)) == true) then (ob (F71 100 (x1 x5.toNat 0).int (x1 x5.toNat 1).int (CV.int (x1 (Int.toNat (Int.tmod (w64 (x5 + 1)) (Int.ofNat x0))) 0)) (CV.int (x1 (Int.toNat (Int.tmod (w64 (x5 + 1)) (Int.ofNat x0))) 1)) x2 x3) fun x8 => (bif ((decide (x7 > 0)) == false) then (bif (decide (x8 < 0)) then (L40v1 u x0 x1 x2 x3 m (!x4) (w64 (x5 + 1)) k0 k1) else (L40v1 u x0 x1 x2 x3 m x4 (w64 (x5 + 1)) k0 k1)) else (L40v1 u x0 x1 x2 x3 m (!x4) (w64 (x5 + 1)) k0 k1))) else (bif ((decide (x7 > 0)) == false) then (L40v1 u x0 x1 x2 x3 m x4 (w64 (x5 + 1)) k0 k1) else (L40v1 u x0 x1 x2 x3 m (!x4) (w64 (x5 + 1)) k0 k1))) else (bif ((decide (x7 > 0)) == false) then (L40v1 u x0 x1 x2 x3 m x4 (w64 (x5 + 1)) k0 k1) else (L40v1 u x0 x1 x2 x3 m (!x4) (w64 (x5 + 1)) k0 k1)))) else (bif ((decide ((CV.int (x1 (Int.toNat (Int.tmod (w64 (x5 + 1)) (Int.ofNat x0))) 1)) ≤ x3)) == true) then (bif ((decide (x3 < (x1 x5.toNat 1).int)) == true) then (ob (F71 100 (x1 x5.toNat 0).int (x1 x5.toNat 1).int (CV.int (x1 (Int.toNat (Int.tmod (w64 (x5 + 1)) (Int.ofNat x0))) 0)) (CV.int (x1 (Int.toNat (Int.tmod (w64 (x5 + 1)) (Int.ofNat x0))) 1)) x2 x3) fun x9 => (bif (decide (x9 < 0)) then (L40v1 u x0 x1 x2 x3 m (!x4) (w64 (x5 + 1)) k0 k1) else (L40v1 u x0 x1 x2 x3 m x4 (w64 (x5 + 1)) k0 k1))) else (L40v1 u x0 x1 x2 x3 m x4 (w64 (x5 + 1)) k0 k1)) else (L40v1 u x0 x1 x2 x3 m x4 (w64 (x5 + 1)) k0 k1))) else (bif ((decide ((CV.int (x1 (Int.toNat (Int.tmod (w64 (x5 + 1)) (Int.ofNat x0))) 1)) ≤ x3)) == true) then (bif ((decide (x3 < (x1 x5.toNat 1).int)) == true) then (ob (F71 100 (x1 x5.toNat 0).int (x1 x5.toNat 1).int (CV.int (x1 (Int.toNat (Int.tmod (w64 (x5 + 1)) (Int.ofNat x0))) 0)) (CV.int (x1 (Int.toNat (Int.tmod (w64 (x5 + 1)) (Int.ofNat x0))) 1)) x2 x3) fun xA => (bif (decide (xA < 0)) then (L40v1 u x0 x1 x2 x3 m (!x4) (w64 (x5 + 1)) k0 k1) else (L40v1 u x0 x1 x2 x3 m x4 (w64 (x5 + 1)) k0 k1))) else (L40v1 u x0 x1 x2 x3 m x4 (w64 (x5 + 1)) k0 k1)) else (L40v1 u x0 x1 x2 x3 m x4 (w64 (x5 + 1)) k0 k1))))) else none)) else none) else (k1 x4))
def F40 (x0 : Nat) (x1 : FF) (x2 x3 : Int) : Option (Int) :=
 (ob (F37 100 x0 x1) fun x4 => (bif ((x4 != 0) == false) then (ob (F69 100 x2 x3) fun x5 => (bif (!x5) then (some (-1)) else (L40v1 u x0 x1 x2 x3 u false 0
  (fun x6 x7 x8 x9 => (some 0))
  (fun xA => (bif xA then (some 1) else (some (-1))))))) else (some (-1))))
end Go.Eng.R13

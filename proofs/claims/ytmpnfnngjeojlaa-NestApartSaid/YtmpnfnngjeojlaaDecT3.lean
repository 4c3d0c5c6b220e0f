/-
 The functions of the program,run on symbols; printed by decomp.py.
-/
import Derived.Test.YtmpnfnngjeojlaaDecT2
set_option linter.all false
set_option maxRecDepth 1000000
set_option maxHeartbeats 4000000
namespace Go.Eng.R13
open Go Go.RowKit Go.Eng
variable {ρ σ : Type} (u m : Nat) (k : Ex → St → Option ρ) (ng : ρ → Option σ) (n0 n1 n2 n3 n4 n5 n6 : Nat) (f0 f1 f2 f3 f4 f5 f6 : FF) (i0 i1 i2 i3 i4 i5 i6 i7 i8 i9 iA iB iC iD iE iF iG iH iI iJ iK iL iM : Int) (b0 b1 : Bool) (w0 w1 w2 w3 w4 w5 w6 w7 w8 : ByteArray) (g0 g1 : Nat → CV)
/- Functions that the plain texts alone name. -/
def L19v1 {ρ : Type} (u : Nat) (x0 : Nat) (x1 : FF) (x2 : Nat) (x3 : FF) (x4 : Nat) (x5 : FF) : Nat → Int → Int → (Int → Option ρ) → Option ρ
 | 0,_,_,_ => none
 | m + 1,x6,x7,k0 =>
  (bif (decide (x7 < (Int.ofNat x0))) then (bif (inb x7 x0) then (ob (F38 u (x1 x7.toNat 0).len (x1 x7.toNat 0).el) fun x8 => (L19v1 u x0 x1 x2 x3 x4 x5 m (w64 (x6 + x8)) (w64 (x7 + 1)) k0)) else none) else (k0 x6))
def F19 (x0 : Nat) (x1 : FF) (x2 : Nat) (x3 : FF) : Option (Int) :=
 (ob (F14 u x0 x1 x2 x3) fun x4 => (bif (x4 != 0) then (some 0) else (ob (F44 u x0 x1 x2 x3) fun x5 => (L19v1 u x5.1 x5.2 x0 x1 x2 x3 u 0 0
  (fun x6 => (some x6))))))
def L192v1 {ρ : Type} (u : Nat) (x0 : Nat) (x1 : FF) (x2 : ByteArray) (x3 : Int) (x4 : Nat) (x5 : FF) : Nat → Int → Int → (Int → Option ρ) → Option ρ
 | 0,_,_,_ => none
 | m + 1,x6,x7,k0 =>
  (bif (decide (x7 < (Int.ofNat x4))) then (bif (inb x7 x4) then (ob (F176 u x0 x1 (x5 x7.toNat 0).str) fun x8 => (bif (decide (x8 ≥ 0)) then (bif (inb x8 x0) then (ob (F19 u (x1 x8.toNat 6).len (x1 x8.toNat 6).el (x1 x8.toNat 7).len (x1 x8.toNat 7).el) fun x9 => (L192v1 u x0 x1 x2 x3 x4 x5 m (w64 (x6 + x9)) (w64 (x7 + 1)) k0)) else none) else (L192v1 u x0 x1 x2 x3 x4 x5 m x6 (w64 (x7 + 1)) k0))) else none) else (k0 x6))
def F192 (x0 : ByteArray) (x1 : Int) (x2 : Nat) (x3 : FF) (x4 : Nat) (x5 : FF) : Option (Int) :=
 (bif (decide ((Int.ofNat x2) > 32)) then (some 0) else (L192v1 u x4 x5 x0 x1 x2 x3 u 0 0
  (fun x6 => (some x6))))
def F193 (x0 : ByteArray) (x1 : Int) (x2 : Nat) (x3 : FF) (x4 x5 : ByteArray) (x6 x7 x8 : Int) (x9 : ByteArray) (xA : Nat) (xB : FF) : Option (Int) :=
 (bif ((decide (x7 < 1)) == false) then (bif ((decide (x7 > 32768)) == false) then (bif ((decide (x8 < 1)) == false) then (bif (decide (x8 > 32768)) then (some 0) else (ob (F192 u x0 x1 x2 x3 xA xB) fun xC => (bif ((w64 ((w64 (2 * x7)) * x8)) == 0) then none else (some (w64 (Int.tdiv (w64 (xC * 1000)) (w64 ((w64 (2 * x7)) * x8)))))))) else (some 0)) else (some 0)) else (some 0))
end Go.Eng.R13

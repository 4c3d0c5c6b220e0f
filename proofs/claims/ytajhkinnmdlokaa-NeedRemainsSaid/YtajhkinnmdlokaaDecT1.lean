/-
 The functions of the program,run on symbols; printed by decomp.py.
-/
import Derived.Test.YtajhkinnmdlokaaDecT0
set_option linter.all false
set_option maxRecDepth 1000000
set_option maxHeartbeats 4000000
namespace Go.Eng.R13
open Go Go.RowKit Go.Eng
variable {ρ σ : Type} (u m : Nat) (k : Ex → St → Option ρ) (ng : ρ → Option σ) (n0 n1 n2 n3 n4 n5 n6 n7 n8 : Nat) (f0 f1 f2 f3 f4 f5 f6 f7 f8 : FF) (i0 i1 i2 i3 i4 i5 i6 i7 : Int) (b0 b1 : Bool) (w0 w1 w2 : ByteArray) (g0 g1 : Nat → CV)
/- Functions that the plain texts alone name. -/
def L252v1 {ρ : Type} (u : Nat) (x0 : ByteArray) (x1 : Nat) (x2 : FF) (x3 : Nat) (x4 : FF) (x5 : Nat) (x6 : FF) (x7 : Nat) (x8 : FF) (x9 : Nat) (xA : FF) : Nat → Nat → Int → FF → (Nat → FF → Option ρ) → Option ρ
 | 0,_,_,_,_ => none
 | m + 1,xB,xC,xD,k0 =>
  (bif (decide (xC < (Int.ofNat x1))) then (bif (inb xC x1) then (bif ((x2 xC.toNat 1).int == 1) then (bif (inb xC x1) then (bif (Nat.ble (xB + 1) 1073741824) then (L252v1 u x0 x1 x2 x3 x4 x5 x6 x7 x8 x9 xA m (xB + 1) (w64 (xC + 1)) (joinF xB xD (rowsF 1 [(.s (x2 xC.toNat 0).str)])) k0) else none) else none) else (L252v1 u x0 x1 x2 x3 x4 x5 x6 x7 x8 x9 xA m xB (w64 (xC + 1)) xD k0)) else none) else (k0 xB xD))
def F252 (x0 : ByteArray) (x1 : Nat) (x2 : FF) (x3 : Nat) (x4 : FF) (x5 : Nat) (x6 : FF) (x7 : Nat) (x8 : FF) (x9 : Nat) (xA : FF) : Option (Nat × FF) :=
 (L252v1 u x0 x1 x2 x3 x4 x5 x6 x7 x8 x9 xA u 0 0 (fun _ _ => .any)
  (fun xB xC => (some (xB,xC))))
def L264v1 {ρ : Type} (u : Nat) (x0 : Nat) (x1 : FF) (x2 : ByteArray) : Nat → Int → (Option ρ) → (Option ρ) → Option ρ
 | 0,_,_,_ => none
 | m + 1,x3,k0,k1 =>
  (bif (decide (x3 < (Int.ofNat x0))) then (bif (inb x3 x0) then (bif (ByteArray.toList (x1 x3.toNat 0).str == ByteArray.toList x2) then k0 else (L264v1 u x0 x1 x2 m (w64 (x3 + 1)) k0 k1)) else none) else k1)
def F264 (x0 : Nat) (x1 : FF) (x2 : ByteArray) : Option (Bool) :=
 (L264v1 u x0 x1 x2 u 0
  (some true)
  (some false))
def F265 (x0 : Int) (x1 x2 : ByteArray) (x3 : Nat) (x4 : FF) (x5 : Nat) (x6 : FF) : Option (Bool) :=
 (bif (x0 == 1) then (bif ((ByteArray.toList x2 == ByteArray.toList ByteArray.empty) == false) then (ob (F264 u x3 x4 x2) fun x7 => (some x7)) else (some true)) else (bif (x0 == 2) then (ob (F264 u x3 x4 x2) fun x8 => (some (!x8))) else (bif (x0 == 3) then (ob (F264 u x5 x6 x2) fun x9 => (some x9)) else (some true))))
def L266v1 {ρ : Type} (u : Nat) (x0 : Nat) (x1 : FF) (x2 : Nat) (x3 : FF) (x4 x5 : ByteArray) (x6 : Nat) (x7 : FF) (x8 : Nat) (x9 : FF) (xA : Nat) (xB : FF) (xC : Nat) (xD : FF) (xE : Nat) (xF : FF) : Nat → Nat → Int → FF → (Nat → FF → Option ρ) → Option ρ
 | 0,_,_,_,_ => none
 | m + 1,xG,xH,xI,k0 =>
  (bif (decide (xH < (Int.ofNat xE))) then (bif (inb xH xE) then (bif ((ByteArray.toList (xF xH.toNat 1).str == ByteArray.toList x4) == true) then (bif (inb xH xE) then (ob (F265 u (xF xH.toNat 0).int (xF xH.toNat 1).str (xF xH.toNat 2).str x0 x1 x2 x3) fun xJ => (bif (!xJ) then (bif (inb xH xE) then (bif (Nat.ble (xG + 1) 1073741824) then (L266v1 u x0 x1 x2 x3 x4 x5 x6 x7 x8 x9 xA xB xC xD xE xF m (xG + 1) (w64 (xH + 1)) (joinF xG xI (rowsF 3 [(.i .i64 (xF xH.toNat 0).int),(.s (xF xH.toNat 1).str),(.s (xF xH.toNat 2).str)])) k0) else none) else none) else (L266v1 u x0 x1 x2 x3 x4 x5 x6 x7 x8 x9 xA xB xC xD xE xF m xG (w64 (xH + 1)) xI k0))) else none) else (L266v1 u x0 x1 x2 x3 x4 x5 x6 x7 x8 x9 xA xB xC xD xE xF m xG (w64 (xH + 1)) xI k0)) else none) else (k0 xG xI))
def F266 (x0 : ByteArray) (x1 : Nat) (x2 : FF) (x3 : Nat) (x4 : FF) (x5 : Nat) (x6 : FF) (x7 : Nat) (x8 : FF) (x9 : Nat) (xA : FF) (xB : Nat) (xC : FF) (xD : Nat) (xE : FF) (xF : ByteArray) : Option (Nat × FF) :=
 (L266v1 u xB xC xD xE xF x0 x1 x2 x3 x4 x5 x6 x7 x8 x9 xA u 0 0 (fun _ _ => .any)
  (fun xG xH => (some (xG,xH))))
def L267v2 {ρ : Type} (u : Nat) (x0 : Nat) (x1 : FF) (x2 : Int) (x3 : ByteArray) (x4 : Nat) (x5 : FF) (x6 : Nat) (x7 : FF) (x8 : Nat) (x9 : FF) (xA : Nat) (xB : FF) (xC : Nat) (xD : FF) : Nat → Int → (Option ρ) → (Option ρ) → Option ρ
 | 0,_,_,_ => none
 | m + 1,xE,k0,k1 =>
  (bif (decide (xE < (Int.ofNat x0))) then (bif (inb xE x0) then (bif ((x1 xE.toNat 0).int == x2) then (bif (inb x2 4) then k0 else none) else (L267v2 u x0 x1 x2 x3 x4 x5 x6 x7 x8 x9 xA xB xC xD m (w64 (xE + 1)) k0 k1)) else none) else k1)
def L267v3 {ρ : Type} (u : Nat) (x0 : Nat) (x1 : FF) (x2 : ByteArray) (x3 : Nat) (x4 : FF) (x5 : Nat) (x6 : FF) (x7 : Nat) (x8 : FF) (x9 : Nat) (xA : FF) (xB : Nat) (xC : FF) : Nat → Int → (Int → Option ρ) → (Option ρ) → Option ρ
 | 0,_,_,_ => none
 | m + 1,xD,k0,k1 =>
  (bif (decide (xD ≤ 3)) then (L267v2 u x0 x1 xD x2 x3 x4 x5 x6 x7 x8 x9 xA xB xC u 0
  (k0 (CV.int ((rowsF 1 [(.i .i64 0),(.i .i64 26),(.i .i64 27),(.i .i64 28)]) (0 + xD.toNat) 0)))
  (L267v3 u x0 x1 x2 x3 x4 x5 x6 x7 x8 x9 xA xB xC m (w64 (xD + 1)) k0 k1)) else k1)
def F267 (x0 : ByteArray) (x1 : Nat) (x2 : FF) (x3 : Nat) (x4 : FF) (x5 : Nat) (x6 : FF) (x7 : Nat) (x8 : FF) (x9 : Nat) (xA : FF) (xB : Nat) (xC : FF) (xD : Nat) (xE : FF) (xF : ByteArray) : Option (Int) :=
 (ob (F252 u x0 x1 x2 x3 x4 x5 x6 x7 x8 x9 xA) fun xG => (ob (F264 u xG.1 xG.2 xF) fun xH => (bif (!xH) then (some 8) else (ob (F264 u xB xC xF) fun xI => (bif xI then (some 14) else (ob (F266 u x0 x1 x2 x3 x4 x5 x6 x7 x8 x9 xA xB xC xD xE xF) fun xJ => (L267v3 u xJ.1 xJ.2 x0 x1 x2 x3 x4 x5 x6 x7 x8 x9 xA u 1
  (fun xK => (some xK))
  (some 0))))))))
end Go.Eng.R13

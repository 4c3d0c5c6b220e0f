/-
 The functions of the program,run on symbols; printed by decomp.py.
-/
import Derived.Test.YtmpnfnngjeojlaaDecT2
set_option linter.all false
set_option maxRecDepth 1000000
set_option maxHeartbeats 4000000
namespace Go.Eng.R13
open Go Go.RowKit Go.Eng
variable {ρ σ : Type} (u m : Nat) (k : Ex → St → Option ρ) (ng : ρ → Option σ) (n0 n1 n2 n3 n4 n5 n6 : Nat) (f0 f1 f2 f3 f4 f5 f6 : FF) (i0 i1 i2 i3 i4 i5 i6 i7 i8 i9 iA iB iC iD iE iF iG iH iI iJ iK iL iM : Int) (b0 b1 : Bool) (w0 w1 w2 w3 w4 w5 w6 w7 w8 : ByteArray) (g0 g1 : Nat → CV)
/- Functions that the plain texts alone name. -/
def F22 (x0 : Nat) (x1 : FF) (x2 : Nat) (x3 : FF) (x4 x5 : Int) : Option (Int) :=
 (ob (F13 u x0 x1 x2 x3) fun x6 => (bif (x6 != 0) then (some (-1)) else (ob (F47 u x0 x1 x2 x3 x4 x5) fun x7 => (some x7))))
end Go.Eng.R13

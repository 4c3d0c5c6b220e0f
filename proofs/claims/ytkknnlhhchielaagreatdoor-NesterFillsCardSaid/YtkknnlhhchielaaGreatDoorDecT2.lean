/-
 The functions of the program,run on symbols;printed by decomp.py.
-/
import Derived.Test.YtkknnlhhchielaaGreatDoorDecT1
import Derived.Test.YtkknnlhhchielaaGreatDoorEngAn
import Derived.Test.YtkknnlhhchielaaGreatDoorProg
set_option linter.all false
set_option maxRecDepth 1000000
set_option maxHeartbeats 4000000
namespace Go.Eng.R13
open Go Go.RowKit Go.Eng
open Go.Proofs
variable {ρ σ : Type} (u m : Nat) (k : Ex → St → Option ρ) (ng : ρ → Option σ) (n0 n1 n2 n3 n4 n5 n6 n7 : Nat) (f0 f1 f2 f3 f4 f5 f6 f7 : FF) (i0 i1 i2 i3 i4 i5 i6 i7 i8 i9 iA iB iC iD iE iF iG iH iI iJ iK iL iM : Int) (b0 b1 : Bool) (w0 w1 w2 w3 w4 w5 w6 w7 w8 w9 : ByteArray) (g0 g1 : Nat → CV)
/- Functions that the plain texts alone name. -/
end Go.Eng.R13

/-
 The functions of the program,run on symbols;printed by decomp.py.
-/
import Derived.Test.YtnfphfkgbhpikaaDecT2
set_option linter.all false
set_option maxRecDepth 1000000
set_option maxHeartbeats 4000000
namespace Go.Eng.R13
open Go Go.RowKit Go.Eng
variable {ρ σ : Type} (u m : Nat) (k : Ex → St → Option ρ) (ng : ρ → Option σ) (n0 n1 n2 n3 n4 n5 n6 n7 n8 n9 nA : Nat) (f0 f1 f2 f3 f4 f5 f6 f7 f8 f9 fA : FF) (i0 i1 i2 i3 i4 i5 i6 i7 : Int) (b0 b1 b2 : Bool) (w0 w1 w2 : ByteArray) (g0 g1 g2 : Nat → CV) (u0 u1 : Nat → Nat)
/- Functions that the plain texts alone name. -/
end Go.Eng.R13

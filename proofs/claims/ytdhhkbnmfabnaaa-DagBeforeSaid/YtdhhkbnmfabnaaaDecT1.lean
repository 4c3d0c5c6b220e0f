/-
 The functions of the program,run on symbols; printed by decomp.py.
-/
import Derived.Test.YtdhhkbnmfabnaaaDecT0
set_option linter.all false
set_option maxRecDepth 1000000
set_option maxHeartbeats 4000000
namespace Go.Eng.R13
open Go Go.RowKit Go.Eng
variable {ρ σ : Type} (u m : Nat) (k : Ex → St → Option ρ) (ng : ρ → Option σ) (n0 n1 n2 n3 : Nat) (f0 f1 f2 f3 f4 : FF) (i0 i1 i2 i3 i4 i5 i6 i7 : Int) (b0 : Bool) (u0 : Nat → Nat)
/- Functions that the plain texts alone name. -/
end Go.Eng.R13

/-
 Operations,part 7: arrays of one kind of cells,with places that are not told apart.
-/
import Derived.Test.YtkknnlhhchielaaGreatDoorEngJ2
set_option linter.all false
namespace Go.Eng
open Go Go.RowKit
variable {df : DF}
section
variable {ρ : Type} {P : Program} {C : ao} {hb : Nat} {w0 : cD} {okA : Nat -> Prop} {μ : Nat -> Option Nat} {ok : Nat -> Prop} {st : St} {a : Act} {w : World}
 {o:Oper} {k:V->St->Option ρ} {r:ρ} {next:Act->World->Prop} {Q:Exit->Act->World->Prop}
end
end Go.Eng

/-
 The iterators at the seat's program.
-/
import Derived.Test.YtkknnlhhchielaaDoorNsLib
set_option linter.all false
namespace Go.Eng
open Go Go.RowKit Go.Proofs
theorem fitTg:FFits Tryd.prog 23 tgF:=ffits_of Tryd.func23 (by kernel_rfl) rfl (by kernel_rfl) rfl
theorem fitTu:FFits Tryd.prog 34 tuF:=ffits_of Tryd.func34 (by kernel_rfl) rfl (by kernel_rfl) rfl
theorem fitOg:FFits Tryd.prog 24 ogF:=ffits_of Tryd.func24 (by kernel_rfl) rfl (by kernel_rfl) rfl
theorem fitOd:FFits Tryd.prog 36 odF:=ffits_of Tryd.func36 (by kernel_rfl) rfl (by kernel_rfl) rfl
theorem fitNx:FFits Tryd.prog 37 nxF:=ffits_of Tryd.func37 (by kernel_rfl) rfl (by kernel_rfl) rfl
theorem fitCl:FFits Tryd.prog 35 clAF:=ffits_of Tryd.func35 (by kernel_rfl) rfl (by kernel_rfl) rfl
theorem fitGr:FFits Tryd.prog 50 grAF:=ffits_of Tryd.func50 (by kernel_rfl) rfl (by kernel_rfl) rfl
theorem fitCo:FFits Tryd.prog 38 coAF:=ffits_of Tryd.func38 (by kernel_rfl) rfl (by kernel_rfl) rfl
theorem itLib (h:Tryd.prog.follows .mixedOrders=true):ItLib Tryd.prog:=lib_of h Tryd.underlying75 fitCl fitGr fitCo
theorem itT_at (h:Tryd.prog.follows .mixedOrders=true):ItOk Tryd.prog 23 itT:=itT_ok h fitTg fitTu (itLib h)
theorem itP_at (h:Tryd.prog.follows .mixedOrders=true):ItOk Tryd.prog 24 itP:=itP_ok h fitOg fitOd fitNx (itLib h)
end Go.Eng

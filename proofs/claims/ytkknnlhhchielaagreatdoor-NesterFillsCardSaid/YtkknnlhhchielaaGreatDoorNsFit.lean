/-
 The iterators at the seat's program.
-/
import Derived.Test.YtkknnlhhchielaaGreatDoorNsLib
set_option linter.all false
namespace Go.Eng
open Go Go.RowKit Go.Proofs
theorem fitTg:FFits Tryz.prog 31 tgF:=ffits_of Tryz.func31 (by kernel_rfl) rfl (by kernel_rfl) rfl
theorem fitTu:FFits Tryz.prog 53 tuF:=ffits_of Tryz.func53 (by kernel_rfl) rfl (by kernel_rfl) rfl
theorem fitOg:FFits Tryz.prog 32 ogF:=ffits_of Tryz.func32 (by kernel_rfl) rfl (by kernel_rfl) rfl
theorem fitOd:FFits Tryz.prog 55 odF:=ffits_of Tryz.func55 (by kernel_rfl) rfl (by kernel_rfl) rfl
theorem fitNx:FFits Tryz.prog 56 nxF:=ffits_of Tryz.func56 (by kernel_rfl) rfl (by kernel_rfl) rfl
theorem fitCl:FFits Tryz.prog 54 clAF:=ffits_of Tryz.func54 (by kernel_rfl) rfl (by kernel_rfl) rfl
theorem fitGr:FFits Tryz.prog 89 grAF:=ffits_of Tryz.func89 (by kernel_rfl) rfl (by kernel_rfl) rfl
theorem fitCo:FFits Tryz.prog 57 coAF:=ffits_of Tryz.func57 (by kernel_rfl) rfl (by kernel_rfl) rfl
theorem itLib (h:Tryz.prog.follows .mixedOrders=true):ItLib Tryz.prog:=lib_of h Tryz.underlying79 fitCl fitGr fitCo
theorem itT_at (h:Tryz.prog.follows .mixedOrders=true):ItOk Tryz.prog 31 itT:=itT_ok h fitTg fitTu (itLib h)
theorem itP_at (h:Tryz.prog.follows .mixedOrders=true):ItOk Tryz.prog 32 itP:=itP_ok h fitOg fitOd fitNx (itLib h)
end Go.Eng

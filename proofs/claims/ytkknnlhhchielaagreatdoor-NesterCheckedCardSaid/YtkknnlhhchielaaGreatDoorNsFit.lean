/-
 The iterators at the seat's program.
-/
import Derived.Test.YtkknnlhhchielaaGreatDoorNsLib
set_option linter.all false
namespace Go.Eng
open Go Go.RowKit Go.Proofs
theorem YN:ck Tryz.prog 31 tgF:=dv Tryz.func31 (by kernel_rfl) rfl (by kernel_rfl) rfl
theorem YM:ck Tryz.prog 53 tuF:=dv Tryz.func53 (by kernel_rfl) rfl (by kernel_rfl) rfl
theorem YO:ck Tryz.prog 32 ogF:=dv Tryz.func32 (by kernel_rfl) rfl (by kernel_rfl) rfl
theorem YP:ck Tryz.prog 55 odF:=dv Tryz.func55 (by kernel_rfl) rfl (by kernel_rfl) rfl
theorem YQ:ck Tryz.prog 56 nxF:=dv Tryz.func56 (by kernel_rfl) rfl (by kernel_rfl) rfl
theorem YT:ck Tryz.prog 54 YX:=dv Tryz.func54 (by kernel_rfl) rfl (by kernel_rfl) rfl
theorem YR:ck Tryz.prog 89 N9:=dv Tryz.func89 (by kernel_rfl) rfl (by kernel_rfl) rfl
theorem YS:ck Tryz.prog 57 WV:=dv Tryz.func57 (by kernel_rfl) rfl (by kernel_rfl) rfl
theorem SZ (h:Tryz.prog.follows .mixedOrders=true):sy Tryz.prog:=Wq h Tryz.underlying79 YT YR YS
theorem Wu (h:Tryz.prog.follows .mixedOrders=true):FN Tryz.prog 31 itT:=Wt h YN YM (SZ h)
theorem N0 (h:Tryz.prog.follows .mixedOrders=true):FN Tryz.prog 32 itP:=Wv h YO YP YQ (SZ h)
end Go.Eng

/-
 The iterators at the seat's program.
-/
import Derived.Test.YtkknnlhhchielaaGreatDoorNsLib
set_option linter.all false
namespace Go.Eng
open Go Go.RowKit Go.Proofs
theorem Yt:cd Tryz.prog 31 tgF:=di Tryz.func31 (by kernel_rfl) rfl (by kernel_rfl) rfl
theorem Ys:cd Tryz.prog 53 tuF:=di Tryz.func53 (by kernel_rfl) rfl (by kernel_rfl) rfl
theorem Yu:cd Tryz.prog 32 ogF:=di Tryz.func32 (by kernel_rfl) rfl (by kernel_rfl) rfl
theorem Yv:cd Tryz.prog 55 odF:=di Tryz.func55 (by kernel_rfl) rfl (by kernel_rfl) rfl
theorem Yw:cd Tryz.prog 56 nxF:=di Tryz.func56 (by kernel_rfl) rfl (by kernel_rfl) rfl
theorem Yz:cd Tryz.prog 54 YN:=di Tryz.func54 (by kernel_rfl) rfl (by kernel_rfl) rfl
theorem Yx:cd Tryz.prog 89 Om:=di Tryz.func89 (by kernel_rfl) rfl (by kernel_rfl) rfl
theorem Yy:cd Tryz.prog 57 WR:=di Tryz.func57 (by kernel_rfl) rfl (by kernel_rfl) rfl
theorem Td (h:Tryz.prog.follows .mixedOrders=true):sj Tryz.prog:=Wi h Tryz.underlying79 Yz Yx Yy
theorem Wn (h:Tryz.prog.follows .mixedOrders=true):FP Tryz.prog 31 itT:=Wm h Yt Ys (Td h)
theorem Oe (h:Tryz.prog.follows .mixedOrders=true):FP Tryz.prog 32 itP:=Wo h Yu Yv Yw (Td h)
end Go.Eng

/-
 The iterators at the seat's program.
-/
import Derived.Test.YtkknnlhhchielaaGreatDoorNsLib
set_option linter.all false
namespace Go.Eng
open Go Go.RowKit Go.Proofs
theorem Ys:cd Tryz.prog 31 tgF:=di Tryz.func31 (by kernel_rfl) rfl (by kernel_rfl) rfl
theorem Yr:cd Tryz.prog 53 tuF:=di Tryz.func53 (by kernel_rfl) rfl (by kernel_rfl) rfl
theorem Yt:cd Tryz.prog 32 ogF:=di Tryz.func32 (by kernel_rfl) rfl (by kernel_rfl) rfl
theorem Yu:cd Tryz.prog 55 odF:=di Tryz.func55 (by kernel_rfl) rfl (by kernel_rfl) rfl
theorem Yv:cd Tryz.prog 56 nxF:=di Tryz.func56 (by kernel_rfl) rfl (by kernel_rfl) rfl
theorem Yy:cd Tryz.prog 54 YM:=di Tryz.func54 (by kernel_rfl) rfl (by kernel_rfl) rfl
theorem Yw:cd Tryz.prog 89 Ol:=di Tryz.func89 (by kernel_rfl) rfl (by kernel_rfl) rfl
theorem Yx:cd Tryz.prog 57 WQ:=di Tryz.func57 (by kernel_rfl) rfl (by kernel_rfl) rfl
theorem Tc (h:Tryz.prog.follows .mixedOrders=true):sj Tryz.prog:=Wh h Tryz.underlying79 Yy Yw Yx
theorem Wm (h:Tryz.prog.follows .mixedOrders=true):FP Tryz.prog 31 itT:=Wl h Ys Yr (Tc h)
theorem Od (h:Tryz.prog.follows .mixedOrders=true):FP Tryz.prog 32 itP:=Wn h Yt Yu Yv (Tc h)
end Go.Eng

/-
 DERIVED: THE SHELF's CONTRACTS AT THIS DUMP, IN PLAIN WORDS (tools/lay-plain.mjs out of 'DyLayS.lean', which tools/lay-shelf.mjs wrote): THE SAME DECLARATIONS UNDER THE SAME NAMES: 'import', 'namespace', 'open', 'def', 'theorem' AND NOTHING ELSE: no command of the shelf's: FOR A HAND-IN. Each laying: the table of numbers ('.._ren') and one theorem, a field a fact of the dump's own or the kernel's comparison; each contract: ONE APPLICATION.
-/
import Derived.Shelf.SlLaysF0
import Derived.Ground.SlsfProg
import Derived.Test.YtdhhkbnmfabnaaaProg
set_option linter.all false
namespace Go.Proofs
open Go.Shelf
def Try.sortL_ren : Go.Shelf.Ren := ⟨fun | 6 => 35 | 15 => 42 | 14 => 41 | 28 => 52 | 29 => 53 | 20 => 44 | 21 => 45 | 22 => 46 | 23 => 47 | 24 => 48 | 25 => 49 | 26 => 50 | 27 => 51 | 46 => 54 | 47 => 55 | 48 => 56 | 49 => 57 | 50 => 58 | 57 => 59 | n => n, fun | 22 => 22 | 24 => 31 | 25 => 55 | 3 => 3 | 39 => 59 | 0 => 0 | 53 => 70 | 55 => 72 | 4 => 4 | 46 => 63 | 45 => 62 | 50 => 67 | 5 => 5 | 9 => 9 | 66 => 73 | 70 => 77 | 76 => 79 | 77 => 80 | n => n, fun | n => n⟩
theorem Try.sortL : Go.Proofs.SlLaysF0.n6 Try.prog Try.sortL_ren := {
 mixed := by kernel_rfl
 f6 := ⟨Try.f35.name, by decide, Try.func35.trans (congrArg some (by kernel_rfl))⟩
 f14 := ⟨Try.f41.name, by decide, Try.func41.trans (congrArg some (by kernel_rfl))⟩
 f15 := Try.func42.trans (congrArg some (by kernel_rfl))
 f20 := ⟨Try.f44.name, by decide, Try.func44.trans (congrArg some (by kernel_rfl))⟩
 f21 := ⟨Try.f45.name, by decide, Try.func45.trans (congrArg some (by kernel_rfl))⟩
 f22 := ⟨Try.f46.name, by decide, Try.func46.trans (congrArg some (by kernel_rfl))⟩
 f23 := ⟨Try.f47.name, by decide, Try.func47.trans (congrArg some (by kernel_rfl))⟩
 f24 := ⟨Try.f48.name, by decide, Try.func48.trans (congrArg some (by kernel_rfl))⟩
 f25 := ⟨Try.f49.name, by decide, Try.func49.trans (congrArg some (by kernel_rfl))⟩
 f26 := ⟨Try.f50.name, by decide, Try.func50.trans (congrArg some (by kernel_rfl))⟩
 f27 := ⟨Try.f51.name, by decide, Try.func51.trans (congrArg some (by kernel_rfl))⟩
 f28 := Try.func52.trans (congrArg some (by kernel_rfl))
 f29 := Try.func53.trans (congrArg some (by kernel_rfl))
 f46 := ⟨Try.f54.name, by decide, Try.func54.trans (congrArg some (by kernel_rfl))⟩
 f47 := Try.func55.trans (congrArg some (by kernel_rfl))
 f48 := Try.func56.trans (congrArg some (by kernel_rfl))
 f49 := ⟨Try.f57.name, by decide, Try.func57.trans (congrArg some (by kernel_rfl))⟩
 f50 := ⟨Try.f58.name, by decide, Try.func58.trans (congrArg some (by kernel_rfl))⟩
 f57 := ⟨Try.f59.name, by decide, Try.func59.trans (congrArg some (by kernel_rfl))⟩
 t0 := Try.underlying0
 a0 := Try.isAgg0
 z0 := Try.sizeOf0
 v0 := Try.zeroValue0
 t3 := Try.underlying3
 a3 := Try.isAgg3
 z3 := Try.sizeOf3
 v3 := Try.zeroValue3
 t4 := Try.underlying4
 a4 := Try.isAgg4
 z4 := Try.sizeOf4
 v4 := Try.zeroValue4
 t5 := Try.underlying5
 a5 := Try.isAgg5
 z5 := Try.sizeOf5
 v5 := Try.zeroValue5
 t9 := Try.underlying9
 a9 := Try.isAgg9
 z9 := Try.sizeOf9
 v9 := Try.zeroValue9
 t22 := Try.underlying22
 a22 := Try.isAgg22
 z22 := Try.sizeOf22
 v22 := Try.zeroValue22
 t25 := Try.underlying55
 a25 := Try.isAgg55
 z25 := Try.sizeOf55
 v25 := Try.zeroValue55
 t39 := Try.underlying59
 a39 := Try.isAgg59
 z39 := Try.sizeOf59
 v39 := Try.zeroValue59
 t45 := Try.underlying62
 a45 := Try.isAgg62
 z45 := Try.sizeOf62
 v45 := Try.zeroValue62
 t46 := Try.underlying63
 a46 := Try.isAgg63
 z46 := Try.sizeOf63
 v46 := Try.zeroValue63
 t50 := Try.underlying67
 a50 := Try.isAgg67
 z50 := Try.sizeOf67
 v50 := Try.zeroValue67
 t53 := Try.underlying70
 a53 := Try.isAgg70
 z53 := Try.sizeOf70
 v53 := Try.zeroValue70
 t55 := Try.underlying72
 a55 := Try.isAgg72
 z55 := Try.sizeOf72
 v55 := Try.zeroValue72
 t66 := Try.underlying73
 a66 := Try.isAgg73
 z66 := Try.sizeOf73
 v66 := Try.zeroValue73
 t70 := Try.underlying77
 a70 := Try.isAgg77
 z70 := Try.sizeOf77
 v70 := Try.zeroValue77
 t76 := Try.underlying79
 a76 := Try.isAgg79
 z76 := Try.sizeOf79
 v76 := Try.zeroValue79
 t77 := Try.underlying80
 a77 := Try.isAgg80
 z77 := Try.sizeOf80
 v77 := Try.zeroValue80 }
end Go.Proofs

/-
 DERIVED: THE SHELF's CONTRACTS AT THIS DUMP,IN PLAIN WORDS (tools/lay-plain.mjs out of 'PyLay.lean',which tools/lay-shelf.mjs wrote): THE SAME DECLARATIONS UNDER THE SAME NAMES: 'import', 'namespace', 'open', 'def', 'theorem' AND NOTHING ELSE: no command of the shelf's: FOR A HAND-IN. Each laying: the table of numbers ('.._ren') and one theorem,a field a fact of the dump's own or the kernel's comparison;each contract: ONE APPLICATION.
-/
import Derived.Shelf.SlLaysF0
import Derived.Ground.SlsfProg
import Derived.Test.YtngjgbhdhaopmaaProg
set_option linter.all false
namespace Go.Proofs
open Go.Shelf
def Try.sortL_ren : Go.Shelf.Ren := ⟨fun | 6 => 41 | 15 => 56 | 14 => 55 | 28 => 67 | 29 => 68 | 20 => 59 | 21 => 60 | 22 => 61 | 23 => 62 | 24 => 63 | 25 => 64 | 26 => 65 | 27 => 66 | 46 => 69 | 47 => 70 | 48 => 71 | 49 => 72 | 50 => 73 | 57 => 74 | n => n,fun | 22 => 22 | 24 => 31 | 25 => 50 | 3 => 3 | 39 => 60 | 0 => 0 | 53 => 71 | 55 => 73 | 4 => 4 | 46 => 64 | 45 => 63 | 50 => 68 | 5 => 5 | 9 => 9 | 66 => 74 | 70 => 78 | 76 => 80 | 77 => 27 | n => n,fun | n => n⟩
theorem Try.sortL : Go.Proofs.SlLaysF0.n6 Try.prog Try.sortL_ren := {
 mixed:=by kernel_rfl
 f6 := ⟨Try.f41.name,by decide,Try.func41.trans (congrArg some (by kernel_rfl))⟩
 f14 := ⟨Try.f55.name,by decide,Try.func55.trans (congrArg some (by kernel_rfl))⟩
 f15 := Try.func56.trans (congrArg some (by kernel_rfl))
 f20 := ⟨Try.f59.name,by decide,Try.func59.trans (congrArg some (by kernel_rfl))⟩
 f21 := ⟨Try.f60.name,by decide,Try.func60.trans (congrArg some (by kernel_rfl))⟩
 f22 := ⟨Try.f61.name,by decide,Try.func61.trans (congrArg some (by kernel_rfl))⟩
 f23 := ⟨Try.f62.name,by decide,Try.func62.trans (congrArg some (by kernel_rfl))⟩
 f24 := ⟨Try.f63.name,by decide,Try.func63.trans (congrArg some (by kernel_rfl))⟩
 f25 := ⟨Try.f64.name,by decide,Try.func64.trans (congrArg some (by kernel_rfl))⟩
 f26 := ⟨Try.f65.name,by decide,Try.func65.trans (congrArg some (by kernel_rfl))⟩
 f27 := ⟨Try.f66.name,by decide,Try.func66.trans (congrArg some (by kernel_rfl))⟩
 f28 := Try.func67.trans (congrArg some (by kernel_rfl))
 f29 := Try.func68.trans (congrArg some (by kernel_rfl))
 f46 := ⟨Try.f69.name,by decide,Try.func69.trans (congrArg some (by kernel_rfl))⟩
 f47 := Try.func70.trans (congrArg some (by kernel_rfl))
 f48 := Try.func71.trans (congrArg some (by kernel_rfl))
 f49 := ⟨Try.f72.name,by decide,Try.func72.trans (congrArg some (by kernel_rfl))⟩
 f50 := ⟨Try.f73.name,by decide,Try.func73.trans (congrArg some (by kernel_rfl))⟩
 f57 := ⟨Try.f74.name,by decide,Try.func74.trans (congrArg some (by kernel_rfl))⟩
 t0 := Try.underlying0
 a0 := Try.isAgg0
 z0 := Try.sizeOf0
 v0 := Try.zeroValue0
 t3 := Try.underlying3
 a3 := Try.isAgg3
 z3 := Try.sizeOf3
 v3 := Try.zeroValue3
 t4 := Try.underlying4
 a4 := Try.isAgg4
 z4 := Try.sizeOf4
 v4 := Try.zeroValue4
 t5 := Try.underlying5
 a5 := Try.isAgg5
 z5 := Try.sizeOf5
 v5 := Try.zeroValue5
 t9 := Try.underlying9
 a9 := Try.isAgg9
 z9 := Try.sizeOf9
 v9 := Try.zeroValue9
 t22 := Try.underlying22
 a22 := Try.isAgg22
 z22 := Try.sizeOf22
 v22 := Try.zeroValue22
 t25 := Try.underlying50
 a25 := Try.isAgg50
 z25 := Try.sizeOf50
 v25 := Try.zeroValue50
 t39 := Try.underlying60
 a39 := Try.isAgg60
 z39 := Try.sizeOf60
 v39 := Try.zeroValue60
 t45 := Try.underlying63
 a45 := Try.isAgg63
 z45 := Try.sizeOf63
 v45 := Try.zeroValue63
 t46 := Try.underlying64
 a46 := Try.isAgg64
 z46 := Try.sizeOf64
 v46 := Try.zeroValue64
 t50 := Try.underlying68
 a50 := Try.isAgg68
 z50 := Try.sizeOf68
 v50 := Try.zeroValue68
 t53 := Try.underlying71
 a53 := Try.isAgg71
 z53 := Try.sizeOf71
 v53 := Try.zeroValue71
 t55 := Try.underlying73
 a55 := Try.isAgg73
 z55 := Try.sizeOf73
 v55 := Try.zeroValue73
 t66 := Try.underlying74
 a66 := Try.isAgg74
 z66 := Try.sizeOf74
 v66 := Try.zeroValue74
 t70 := Try.underlying78
 a70 := Try.isAgg78
 z70 := Try.sizeOf78
 v70 := Try.zeroValue78
 t76 := Try.underlying80
 a76 := Try.isAgg80
 z76 := Try.sizeOf80
 v76 := Try.zeroValue80
 t77 := Try.underlying27
 a77 := Try.isAgg27
 z77 := Try.sizeOf27
 v77 := Try.zeroValue27 }
end Go.Proofs

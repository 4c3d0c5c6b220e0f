/-
 DERIVED: THE SHELF's CONTRACTS AT THIS DUMP,IN PLAIN WORDS (tools/lay-plain.mjs out of 'NsLayS.lean',which tools/lay-shelf.mjs wrote): THE SAME DECLARATIONS UNDER THE SAME NAMES: 'import','namespace','open','def','theorem' AND NOTHING ELSE: no command of the shelf's: FOR A HAND-IN. Each laying: the table of numbers ('.._ren') and one theorem,a field a fact of the dump's own or the kernel's comparison;each contract: ONE APPLICATION.
-/
import Derived.Shelf.Sort.Plain
import Derived.Test.YtkknnlhhchielaaDoorProg
set_option linter.all false
namespace Go.Proofs
open Go.Shelf
def Tryd.sortI_ren:Go.Shelf.Ren:=⟨fun | 189=>44 | 125=>53 | 257=>52 | 128=>73 | 129=>74 | 294=>64 | 295=>65 | 296=>66 | 297=>67 | 298=>68 | 299=>69 | 216=>70 | 300=>71 | 301=>72 | 328=>82 | 329=>83 | 330=>84 | 331=>85 | 332=>86 | 215=>87 | 343=>90 | n=>n,fun | 28=>75 | 3=>3 | 46=>108 | 0=>0 | 51=>127 | 53=>129 | 4=>4 | 183=>119 | 182=>118 | 131=>124 | 5=>5 | 9=>9 | 218=>134 | 222=>138 | 228=>141 | 229=>39 | n=>n,fun | n=>n⟩
theorem Tryd.sortI:Go.Proofs.Lays.n189 Tryd.prog Tryd.sortI_ren:={
 mixed:=by kernel_rfl
 f125:=Tryd.func53.trans (congrArg some (by kernel_rfl))
 f128:=Tryd.func73.trans (congrArg some (by kernel_rfl))
 f129:=Tryd.func74.trans (congrArg some (by kernel_rfl))
 f189:=Tryd.func44.trans (congrArg some (by kernel_rfl))
 f215:=Tryd.func87.trans (congrArg some (by kernel_rfl))
 f216:=Tryd.func70.trans (congrArg some (by kernel_rfl))
 f257:=Tryd.func52.trans (congrArg some (by kernel_rfl))
 f294:=Tryd.func64.trans (congrArg some (by kernel_rfl))
 f295:=Tryd.func65.trans (congrArg some (by kernel_rfl))
 f296:=Tryd.func66.trans (congrArg some (by kernel_rfl))
 f297:=Tryd.func67.trans (congrArg some (by kernel_rfl))
 f298:=Tryd.func68.trans (congrArg some (by kernel_rfl))
 f299:=Tryd.func69.trans (congrArg some (by kernel_rfl))
 f300:=Tryd.func71.trans (congrArg some (by kernel_rfl))
 f301:=Tryd.func72.trans (congrArg some (by kernel_rfl))
 f328:=Tryd.func82.trans (congrArg some (by kernel_rfl))
 f329:=Tryd.func83.trans (congrArg some (by kernel_rfl))
 f330:=Tryd.func84.trans (congrArg some (by kernel_rfl))
 f331:=Tryd.func85.trans (congrArg some (by kernel_rfl))
 f332:=Tryd.func86.trans (congrArg some (by kernel_rfl))
 f343:=Tryd.func90.trans (congrArg some (by kernel_rfl))
 t0:=Tryd.underlying0
 a0:=Tryd.isAgg0
 z0:=Tryd.sizeOf0
 v0:=Tryd.zeroValue0
 t3:=Tryd.underlying3
 a3:=Tryd.isAgg3
 z3:=Tryd.sizeOf3
 v3:=Tryd.zeroValue3
 t4:=Tryd.underlying4
 a4:=Tryd.isAgg4
 z4:=Tryd.sizeOf4
 v4:=Tryd.zeroValue4
 t5:=Tryd.underlying5
 a5:=Tryd.isAgg5
 z5:=Tryd.sizeOf5
 v5:=Tryd.zeroValue5
 t9:=Tryd.underlying9
 a9:=Tryd.isAgg9
 z9:=Tryd.sizeOf9
 v9:=Tryd.zeroValue9
 t28:=Tryd.underlying75
 a28:=Tryd.isAgg75
 z28:=Tryd.sizeOf75
 v28:=Tryd.zeroValue75
 t46:=Tryd.underlying108
 a46:=Tryd.isAgg108
 z46:=Tryd.sizeOf108
 v46:=Tryd.zeroValue108
 t51:=Tryd.underlying127
 a51:=Tryd.isAgg127
 z51:=Tryd.sizeOf127
 v51:=Tryd.zeroValue127
 t53:=Tryd.underlying129
 a53:=Tryd.isAgg129
 z53:=Tryd.sizeOf129
 v53:=Tryd.zeroValue129
 t131:=Tryd.underlying124
 a131:=Tryd.isAgg124
 z131:=Tryd.sizeOf124
 v131:=Tryd.zeroValue124
 t182:=Tryd.underlying118
 a182:=Tryd.isAgg118
 z182:=Tryd.sizeOf118
 v182:=Tryd.zeroValue118
 t183:=Tryd.underlying119
 a183:=Tryd.isAgg119
 z183:=Tryd.sizeOf119
 v183:=Tryd.zeroValue119
 t218:=Tryd.underlying134
 a218:=Tryd.isAgg134
 z218:=Tryd.sizeOf134
 v218:=Tryd.zeroValue134
 t222:=Tryd.underlying138
 a222:=Tryd.isAgg138
 z222:=Tryd.sizeOf138
 v222:=Tryd.zeroValue138
 t228:=Tryd.underlying141
 a228:=Tryd.isAgg141
 z228:=Tryd.sizeOf141
 v228:=Tryd.zeroValue141
 t229:=Tryd.underlying39
 a229:=Tryd.isAgg39
 z229:=Tryd.sizeOf39
 v229:=Tryd.zeroValue39 }
end Go.Proofs

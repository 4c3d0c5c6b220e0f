/-
 DERIVED: THE SHELF's CONTRACTS AT THIS DUMP,IN PLAIN WORDS (tools/lay-plain.mjs out of 'NsLayzS.lean',which tools/lay-shelf.mjs wrote): THE SAME DECLARATIONS UNDER THE SAME NAMES: 'import','namespace','open','def','theorem' AND NOTHING ELSE: no command of the shelf's: FOR A HAND-IN. Each laying: the table of numbers ('.._ren') and one theorem,a field a fact of the dump's own or the kernel's comparison;each contract: ONE APPLICATION.
-/
import Derived.Shelf.Sort.Plain
import Derived.Test.YtkknnlhhchielaaGreatDoorProg
set_option linter.all false
namespace Go.Proofs
open Go.Shelf
def Tryz.sortI_ren:Go.Shelf.Ren:=⟨fun | 189=>51 | 125=>84 | 257=>83 | 128=>111 | 129=>112 | 294=>102 | 295=>103 | 296=>104 | 297=>105 | 298=>106 | 299=>107 | 216=>108 | 300=>109 | 301=>110 | 328=>123 | 329=>124 | 330=>125 | 331=>126 | 332=>127 | 215=>128 | 343=>134 | n=>n,fun | 28=>79 | 3=>3 | 46=>126 | 0=>0 | 51=>146 | 53=>148 | 4=>4 | 183=>138 | 182=>137 | 131=>143 | 5=>5 | 9=>9 | 218=>149 | 222=>153 | 228=>155 | 229=>61 | n=>n,fun | n=>n⟩
theorem Tryz.sortI:Go.Proofs.Lays.n189 Tryz.prog Tryz.sortI_ren:={
 mixed:=by kernel_rfl
 f125:=Tryz.func84.trans (congrArg some (by kernel_rfl))
 f128:=Tryz.func111.trans (congrArg some (by kernel_rfl))
 f129:=Tryz.func112.trans (congrArg some (by kernel_rfl))
 f189:=Tryz.func51.trans (congrArg some (by kernel_rfl))
 f215:=Tryz.func128.trans (congrArg some (by kernel_rfl))
 f216:=Tryz.func108.trans (congrArg some (by kernel_rfl))
 f257:=Tryz.func83.trans (congrArg some (by kernel_rfl))
 f294:=Tryz.func102.trans (congrArg some (by kernel_rfl))
 f295:=Tryz.func103.trans (congrArg some (by kernel_rfl))
 f296:=Tryz.func104.trans (congrArg some (by kernel_rfl))
 f297:=Tryz.func105.trans (congrArg some (by kernel_rfl))
 f298:=Tryz.func106.trans (congrArg some (by kernel_rfl))
 f299:=Tryz.func107.trans (congrArg some (by kernel_rfl))
 f300:=Tryz.func109.trans (congrArg some (by kernel_rfl))
 f301:=Tryz.func110.trans (congrArg some (by kernel_rfl))
 f328:=Tryz.func123.trans (congrArg some (by kernel_rfl))
 f329:=Tryz.func124.trans (congrArg some (by kernel_rfl))
 f330:=Tryz.func125.trans (congrArg some (by kernel_rfl))
 f331:=Tryz.func126.trans (congrArg some (by kernel_rfl))
 f332:=Tryz.func127.trans (congrArg some (by kernel_rfl))
 f343:=Tryz.func134.trans (congrArg some (by kernel_rfl))
 t0:=Tryz.underlying0
 a0:=Tryz.isAgg0
 z0:=Tryz.sizeOf0
 v0:=Tryz.zeroValue0
 t3:=Tryz.underlying3
 a3:=Tryz.isAgg3
 z3:=Tryz.sizeOf3
 v3:=Tryz.zeroValue3
 t4:=Tryz.underlying4
 a4:=Tryz.isAgg4
 z4:=Tryz.sizeOf4
 v4:=Tryz.zeroValue4
 t5:=Tryz.underlying5
 a5:=Tryz.isAgg5
 z5:=Tryz.sizeOf5
 v5:=Tryz.zeroValue5
 t9:=Tryz.underlying9
 a9:=Tryz.isAgg9
 z9:=Tryz.sizeOf9
 v9:=Tryz.zeroValue9
 t28:=Tryz.underlying79
 a28:=Tryz.isAgg79
 z28:=Tryz.sizeOf79
 v28:=Tryz.zeroValue79
 t46:=Tryz.underlying126
 a46:=Tryz.isAgg126
 z46:=Tryz.sizeOf126
 v46:=Tryz.zeroValue126
 t51:=Tryz.underlying146
 a51:=Tryz.isAgg146
 z51:=Tryz.sizeOf146
 v51:=Tryz.zeroValue146
 t53:=Tryz.underlying148
 a53:=Tryz.isAgg148
 z53:=Tryz.sizeOf148
 v53:=Tryz.zeroValue148
 t131:=Tryz.underlying143
 a131:=Tryz.isAgg143
 z131:=Tryz.sizeOf143
 v131:=Tryz.zeroValue143
 t182:=Tryz.underlying137
 a182:=Tryz.isAgg137
 z182:=Tryz.sizeOf137
 v182:=Tryz.zeroValue137
 t183:=Tryz.underlying138
 a183:=Tryz.isAgg138
 z183:=Tryz.sizeOf138
 v183:=Tryz.zeroValue138
 t218:=Tryz.underlying149
 a218:=Tryz.isAgg149
 z218:=Tryz.sizeOf149
 v218:=Tryz.zeroValue149
 t222:=Tryz.underlying153
 a222:=Tryz.isAgg153
 z222:=Tryz.sizeOf153
 v222:=Tryz.zeroValue153
 t228:=Tryz.underlying155
 a228:=Tryz.isAgg155
 z228:=Tryz.sizeOf155
 v228:=Tryz.zeroValue155
 t229:=Tryz.underlying61
 a229:=Tryz.isAgg61
 z229:=Tryz.sizeOf61
 v229:=Tryz.zeroValue61 }
end Go.Proofs

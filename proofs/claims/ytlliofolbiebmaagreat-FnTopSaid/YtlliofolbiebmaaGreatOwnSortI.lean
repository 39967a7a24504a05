/-
  DERIVED: THE SHELF's CONTRACTS AT THIS DUMP, IN PLAIN WORDS (tools/lay-plain.mjs out of 'TryShelf.lean', which tools/lay-shelf.mjs wrote): THE SAME DECLARATIONS UNDER THE SAME NAMES: 'import', 'namespace', 'open', 'def', 'theorem' AND NOTHING ELSE: no command of the shelf's: FOR A HAND-IN. Each laying: the table of numbers ('.._ren') and one theorem, a field a fact of the dump's own or the kernel's comparison; each contract: ONE APPLICATION.
-/
import Derived.Shelf.Sort.Plain
import Derived.Shelf.Slices.CompactI
import Derived.Shelf.Slices.In.SortNone
import Derived.Test.YtlliofolbiebmaaGreatProg
namespace Go.Proofs
open Go.Shelf
def Tryz.lays189_ren : Go.Shelf.Ren := ⟨fun | 189 => 86 | 125 => 83 | 257 => 109 | 128 => 105 | 129 => 106 | 294 => 119 | 295 => 120 | 296 => 121 | 297 => 122 | 298 => 123 | 299 => 124 | 216 => 125 | 300 => 126 | 301 => 127 | 328 => 139 | 329 => 115 | 330 => 116 | 331 => 140 | 332 => 141 | 215 => 142 | 343 => 146 | n => n, fun | 28 => 39 | 3 => 3 | 46 => 98 | 0 => 0 | 51 => 117 | 53 => 119 | 4 => 4 | 183 => 110 | 182 => 109 | 131 => 114 | 5 => 5 | 9 => 9 | 218 => 122 | 222 => 126 | 228 => 138 | 229 => 105 | n => n, fun | n => n⟩
theorem Tryz.lays189 : Go.Proofs.Lays.n189 Tryz.prog Tryz.lays189_ren := {
 mixed := by kernel_rfl
 f125 := Tryz.func83.trans (congrArg some (by kernel_rfl))
 f128 := Tryz.func105.trans (congrArg some (by kernel_rfl))
 f129 := Tryz.func106.trans (congrArg some (by kernel_rfl))
 f189 := Tryz.func86.trans (congrArg some (by kernel_rfl))
 f215 := Tryz.func142.trans (congrArg some (by kernel_rfl))
 f216 := Tryz.func125.trans (congrArg some (by kernel_rfl))
 f257 := Tryz.func109.trans (congrArg some (by kernel_rfl))
 f294 := Tryz.func119.trans (congrArg some (by kernel_rfl))
 f295 := Tryz.func120.trans (congrArg some (by kernel_rfl))
 f296 := Tryz.func121.trans (congrArg some (by kernel_rfl))
 f297 := Tryz.func122.trans (congrArg some (by kernel_rfl))
 f298 := Tryz.func123.trans (congrArg some (by kernel_rfl))
 f299 := Tryz.func124.trans (congrArg some (by kernel_rfl))
 f300 := Tryz.func126.trans (congrArg some (by kernel_rfl))
 f301 := Tryz.func127.trans (congrArg some (by kernel_rfl))
 f328 := Tryz.func139.trans (congrArg some (by kernel_rfl))
 f329 := Tryz.func115.trans (congrArg some (by kernel_rfl))
 f330 := Tryz.func116.trans (congrArg some (by kernel_rfl))
 f331 := Tryz.func140.trans (congrArg some (by kernel_rfl))
 f332 := Tryz.func141.trans (congrArg some (by kernel_rfl))
 f343 := Tryz.func146.trans (congrArg some (by kernel_rfl))
 t0 := Tryz.underlying0
 a0 := Tryz.isAgg0
 z0 := Tryz.sizeOf0
 v0 := Tryz.zeroValue0
 t3 := Tryz.underlying3
 a3 := Tryz.isAgg3
 z3 := Tryz.sizeOf3
 v3 := Tryz.zeroValue3
 t4 := Tryz.underlying4
 a4 := Tryz.isAgg4
 z4 := Tryz.sizeOf4
 v4 := Tryz.zeroValue4
 t5 := Tryz.underlying5
 a5 := Tryz.isAgg5
 z5 := Tryz.sizeOf5
 v5 := Tryz.zeroValue5
 t9 := Tryz.underlying9
 a9 := Tryz.isAgg9
 z9 := Tryz.sizeOf9
 v9 := Tryz.zeroValue9
 t28 := Tryz.underlying39
 a28 := Tryz.isAgg39
 z28 := Tryz.sizeOf39
 v28 := Tryz.zeroValue39
 t46 := Tryz.underlying98
 a46 := Tryz.isAgg98
 z46 := Tryz.sizeOf98
 v46 := Tryz.zeroValue98
 t51 := Tryz.underlying117
 a51 := Tryz.isAgg117
 z51 := Tryz.sizeOf117
 v51 := Tryz.zeroValue117
 t53 := Tryz.underlying119
 a53 := Tryz.isAgg119
 z53 := Tryz.sizeOf119
 v53 := Tryz.zeroValue119
 t131 := Tryz.underlying114
 a131 := Tryz.isAgg114
 z131 := Tryz.sizeOf114
 v131 := Tryz.zeroValue114
 t182 := Tryz.underlying109
 a182 := Tryz.isAgg109
 z182 := Tryz.sizeOf109
 v182 := Tryz.zeroValue109
 t183 := Tryz.underlying110
 a183 := Tryz.isAgg110
 z183 := Tryz.sizeOf110
 v183 := Tryz.zeroValue110
 t218 := Tryz.underlying122
 a218 := Tryz.isAgg122
 z218 := Tryz.sizeOf122
 v218 := Tryz.zeroValue122
 t222 := Tryz.underlying126
 a222 := Tryz.isAgg126
 z222 := Tryz.sizeOf126
 v222 := Tryz.zeroValue126
 t228 := Tryz.underlying138
 a228 := Tryz.isAgg138
 z228 := Tryz.sizeOf138
 v228 := Tryz.zeroValue138
 t229 := Tryz.underlying105
 a229 := Tryz.isAgg105
 z229 := Tryz.sizeOf105
 v229 := Tryz.zeroValue105 }
def Tryz.laysC_ren : Go.Shelf.Ren := ⟨fun | 20 => 87 | n => n, fun | 22 => 39 | 3 => 3 | 4 => 4 | 0 => 0 | n => n, fun | n => n⟩
theorem Tryz.laysC : Go.Proofs.Lays2.n20 Tryz.prog Tryz.laysC_ren := {
 mixed := by kernel_rfl
 f20 := Tryz.func87.trans (congrArg some (by kernel_rfl))
 t0 := Tryz.underlying0
 a0 := Tryz.isAgg0
 z0 := Tryz.sizeOf0
 v0 := Tryz.zeroValue0
 t3 := Tryz.underlying3
 a3 := Tryz.isAgg3
 z3 := Tryz.sizeOf3
 v3 := Tryz.zeroValue3
 t4 := Tryz.underlying4
 a4 := Tryz.isAgg4
 z4 := Tryz.sizeOf4
 v4 := Tryz.zeroValue4
 t22 := Tryz.underlying39
 a22 := Tryz.isAgg39
 z22 := Tryz.sizeOf39
 v22 := Tryz.zeroValue39
 i3 := by kernel_rfl }
end Go.Proofs

/-
  DERIVED: THE SHELF's CONTRACTS AT THIS DUMP, IN PLAIN WORDS (tools/lay-plain.mjs out of 'TryShelf.lean', which tools/lay-shelf.mjs wrote): THE SAME DECLARATIONS UNDER THE SAME NAMES: 'import', 'namespace', 'open', 'def', 'theorem' AND NOTHING ELSE: no command of the shelf's: FOR A HAND-IN. Each laying: the table of numbers ('.._ren') and one theorem, a field a fact of the dump's own or the kernel's comparison; each contract: ONE APPLICATION.
-/
import Derived.Shelf.Sort.Plain
import Derived.Shelf.Slices.CompactI
import Derived.Shelf.Slices.In.SortNone
import Derived.Test.YthopcpiecbofcaaGreatProg
namespace Go.Proofs
open Go.Shelf
def Tryz.lays189_ren : Go.Shelf.Ren := ⟨fun | 189 => 121 | 125 => 110 | 257 => 148 | 128 => 133 | 129 => 134 | 294 => 159 | 295 => 160 | 296 => 161 | 297 => 162 | 298 => 163 | 299 => 164 | 216 => 165 | 300 => 166 | 301 => 167 | 328 => 170 | 329 => 150 | 330 => 151 | 331 => 171 | 332 => 172 | 215 => 173 | 343 => 174 | n => n, fun | 28 => 30 | 3 => 3 | 46 => 116 | 0 => 0 | 51 => 130 | 53 => 132 | 4 => 4 | 183 => 123 | 182 => 122 | 131 => 127 | 5 => 5 | 9 => 9 | 218 => 142 | 222 => 146 | 228 => 155 | 229 => 133 | n => n, fun | n => n⟩
theorem Tryz.lays189 : Go.Proofs.Lays.n189 Tryz.prog Tryz.lays189_ren := {
 mixed := by kernel_rfl
 f125 := Tryz.func110.trans (congrArg some (by kernel_rfl))
 f128 := Tryz.func133.trans (congrArg some (by kernel_rfl))
 f129 := Tryz.func134.trans (congrArg some (by kernel_rfl))
 f189 := Tryz.func121.trans (congrArg some (by kernel_rfl))
 f215 := Tryz.func173.trans (congrArg some (by kernel_rfl))
 f216 := Tryz.func165.trans (congrArg some (by kernel_rfl))
 f257 := Tryz.func148.trans (congrArg some (by kernel_rfl))
 f294 := Tryz.func159.trans (congrArg some (by kernel_rfl))
 f295 := Tryz.func160.trans (congrArg some (by kernel_rfl))
 f296 := Tryz.func161.trans (congrArg some (by kernel_rfl))
 f297 := Tryz.func162.trans (congrArg some (by kernel_rfl))
 f298 := Tryz.func163.trans (congrArg some (by kernel_rfl))
 f299 := Tryz.func164.trans (congrArg some (by kernel_rfl))
 f300 := Tryz.func166.trans (congrArg some (by kernel_rfl))
 f301 := Tryz.func167.trans (congrArg some (by kernel_rfl))
 f328 := Tryz.func170.trans (congrArg some (by kernel_rfl))
 f329 := Tryz.func150.trans (congrArg some (by kernel_rfl))
 f330 := Tryz.func151.trans (congrArg some (by kernel_rfl))
 f331 := Tryz.func171.trans (congrArg some (by kernel_rfl))
 f332 := Tryz.func172.trans (congrArg some (by kernel_rfl))
 f343 := Tryz.func174.trans (congrArg some (by kernel_rfl))
 t0 := Tryz.underlying0
 a0 := Tryz.isAgg0
 z0 := Tryz.sizeOf0
 v0 := Tryz.zeroValue0
 t3 := Tryz.underlying3
 a3 := Tryz.isAgg3
 z3 := Tryz.sizeOf3
 v3 := Tryz.zeroValue3
 t4 := Tryz.underlying4
 a4 := Tryz.isAgg4
 z4 := Tryz.sizeOf4
 v4 := Tryz.zeroValue4
 t5 := Tryz.underlying5
 a5 := Tryz.isAgg5
 z5 := Tryz.sizeOf5
 v5 := Tryz.zeroValue5
 t9 := Tryz.underlying9
 a9 := Tryz.isAgg9
 z9 := Tryz.sizeOf9
 v9 := Tryz.zeroValue9
 t28 := Tryz.underlying30
 a28 := Tryz.isAgg30
 z28 := Tryz.sizeOf30
 v28 := Tryz.zeroValue30
 t46 := Tryz.underlying116
 a46 := Tryz.isAgg116
 z46 := Tryz.sizeOf116
 v46 := Tryz.zeroValue116
 t51 := Tryz.underlying130
 a51 := Tryz.isAgg130
 z51 := Tryz.sizeOf130
 v51 := Tryz.zeroValue130
 t53 := Tryz.underlying132
 a53 := Tryz.isAgg132
 z53 := Tryz.sizeOf132
 v53 := Tryz.zeroValue132
 t131 := Tryz.underlying127
 a131 := Tryz.isAgg127
 z131 := Tryz.sizeOf127
 v131 := Tryz.zeroValue127
 t182 := Tryz.underlying122
 a182 := Tryz.isAgg122
 z182 := Tryz.sizeOf122
 v182 := Tryz.zeroValue122
 t183 := Tryz.underlying123
 a183 := Tryz.isAgg123
 z183 := Tryz.sizeOf123
 v183 := Tryz.zeroValue123
 t218 := Tryz.underlying142
 a218 := Tryz.isAgg142
 z218 := Tryz.sizeOf142
 v218 := Tryz.zeroValue142
 t222 := Tryz.underlying146
 a222 := Tryz.isAgg146
 z222 := Tryz.sizeOf146
 v222 := Tryz.zeroValue146
 t228 := Tryz.underlying155
 a228 := Tryz.isAgg155
 z228 := Tryz.sizeOf155
 v228 := Tryz.zeroValue155
 t229 := Tryz.underlying133
 a229 := Tryz.isAgg133
 z229 := Tryz.sizeOf133
 v229 := Tryz.zeroValue133 }
def Tryz.laysC_ren : Go.Shelf.Ren := ⟨fun | 20 => 122 | n => n, fun | 22 => 30 | 3 => 3 | 4 => 4 | 0 => 0 | n => n, fun | n => n⟩
theorem Tryz.laysC : Go.Proofs.Lays2.n20 Tryz.prog Tryz.laysC_ren := {
 mixed := by kernel_rfl
 f20 := Tryz.func122.trans (congrArg some (by kernel_rfl))
 t0 := Tryz.underlying0
 a0 := Tryz.isAgg0
 z0 := Tryz.sizeOf0
 v0 := Tryz.zeroValue0
 t3 := Tryz.underlying3
 a3 := Tryz.isAgg3
 z3 := Tryz.sizeOf3
 v3 := Tryz.zeroValue3
 t4 := Tryz.underlying4
 a4 := Tryz.isAgg4
 z4 := Tryz.sizeOf4
 v4 := Tryz.zeroValue4
 t22 := Tryz.underlying30
 a22 := Tryz.isAgg30
 z22 := Tryz.sizeOf30
 v22 := Tryz.zeroValue30
 i3 := by kernel_rfl }
end Go.Proofs

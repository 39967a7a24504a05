/-
  DERIVED: THE SHELF's CONTRACTS AT THIS DUMP, IN PLAIN WORDS (tools/lay-plain.mjs out of 'TryShelf.lean', which tools/lay-shelf.mjs wrote): THE SAME DECLARATIONS UNDER THE SAME NAMES: 'import', 'namespace', 'open', 'def', 'theorem' AND NOTHING ELSE: no command of the shelf's: FOR A HAND-IN. Each laying: the table of numbers ('.._ren') and one theorem, a field a fact of the dump's own or the kernel's comparison; each contract: ONE APPLICATION.
-/
import Derived.Shelf.Sort.Plain
import Derived.Shelf.Slices.CompactI
import Derived.Shelf.Slices.In.SortNone
import Derived.Test.YtjembhkhgahhiaaGreatProg
namespace Go.Proofs
open Go.Shelf
def Tryz.lays189_ren : Go.Shelf.Ren := ⟨fun | 189 => 131 | 125 => 111 | 257 => 161 | 128 => 151 | 129 => 152 | 294 => 169 | 295 => 170 | 296 => 171 | 297 => 172 | 298 => 173 | 299 => 174 | 216 => 175 | 300 => 176 | 301 => 177 | 328 => 181 | 329 => 165 | 330 => 166 | 331 => 182 | 332 => 183 | 215 => 153 | 343 => 186 | n => n, fun | 28 => 25 | 3 => 3 | 46 => 110 | 0 => 0 | 51 => 135 | 53 => 137 | 4 => 4 | 183 => 128 | 182 => 127 | 131 => 132 | 5 => 5 | 9 => 9 | 218 => 140 | 222 => 144 | 228 => 152 | 229 => 83 | n => n, fun | n => n⟩
theorem Tryz.lays189 : Go.Proofs.Lays.n189 Tryz.prog Tryz.lays189_ren := {
 mixed := by kernel_rfl
 f125 := Tryz.func111.trans (congrArg some (by kernel_rfl))
 f128 := Tryz.func151.trans (congrArg some (by kernel_rfl))
 f129 := Tryz.func152.trans (congrArg some (by kernel_rfl))
 f189 := Tryz.func131.trans (congrArg some (by kernel_rfl))
 f215 := Tryz.func153.trans (congrArg some (by kernel_rfl))
 f216 := Tryz.func175.trans (congrArg some (by kernel_rfl))
 f257 := Tryz.func161.trans (congrArg some (by kernel_rfl))
 f294 := Tryz.func169.trans (congrArg some (by kernel_rfl))
 f295 := Tryz.func170.trans (congrArg some (by kernel_rfl))
 f296 := Tryz.func171.trans (congrArg some (by kernel_rfl))
 f297 := Tryz.func172.trans (congrArg some (by kernel_rfl))
 f298 := Tryz.func173.trans (congrArg some (by kernel_rfl))
 f299 := Tryz.func174.trans (congrArg some (by kernel_rfl))
 f300 := Tryz.func176.trans (congrArg some (by kernel_rfl))
 f301 := Tryz.func177.trans (congrArg some (by kernel_rfl))
 f328 := Tryz.func181.trans (congrArg some (by kernel_rfl))
 f329 := Tryz.func165.trans (congrArg some (by kernel_rfl))
 f330 := Tryz.func166.trans (congrArg some (by kernel_rfl))
 f331 := Tryz.func182.trans (congrArg some (by kernel_rfl))
 f332 := Tryz.func183.trans (congrArg some (by kernel_rfl))
 f343 := Tryz.func186.trans (congrArg some (by kernel_rfl))
 t0 := Tryz.underlying0
 a0 := Tryz.isAgg0
 z0 := Tryz.sizeOf0
 v0 := Tryz.zeroValue0
 t3 := Tryz.underlying3
 a3 := Tryz.isAgg3
 z3 := Tryz.sizeOf3
 v3 := Tryz.zeroValue3
 t4 := Tryz.underlying4
 a4 := Tryz.isAgg4
 z4 := Tryz.sizeOf4
 v4 := Tryz.zeroValue4
 t5 := Tryz.underlying5
 a5 := Tryz.isAgg5
 z5 := Tryz.sizeOf5
 v5 := Tryz.zeroValue5
 t9 := Tryz.underlying9
 a9 := Tryz.isAgg9
 z9 := Tryz.sizeOf9
 v9 := Tryz.zeroValue9
 t28 := Tryz.underlying25
 a28 := Tryz.isAgg25
 z28 := Tryz.sizeOf25
 v28 := Tryz.zeroValue25
 t46 := Tryz.underlying110
 a46 := Tryz.isAgg110
 z46 := Tryz.sizeOf110
 v46 := Tryz.zeroValue110
 t51 := Tryz.underlying135
 a51 := Tryz.isAgg135
 z51 := Tryz.sizeOf135
 v51 := Tryz.zeroValue135
 t53 := Tryz.underlying137
 a53 := Tryz.isAgg137
 z53 := Tryz.sizeOf137
 v53 := Tryz.zeroValue137
 t131 := Tryz.underlying132
 a131 := Tryz.isAgg132
 z131 := Tryz.sizeOf132
 v131 := Tryz.zeroValue132
 t182 := Tryz.underlying127
 a182 := Tryz.isAgg127
 z182 := Tryz.sizeOf127
 v182 := Tryz.zeroValue127
 t183 := Tryz.underlying128
 a183 := Tryz.isAgg128
 z183 := Tryz.sizeOf128
 v183 := Tryz.zeroValue128
 t218 := Tryz.underlying140
 a218 := Tryz.isAgg140
 z218 := Tryz.sizeOf140
 v218 := Tryz.zeroValue140
 t222 := Tryz.underlying144
 a222 := Tryz.isAgg144
 z222 := Tryz.sizeOf144
 v222 := Tryz.zeroValue144
 t228 := Tryz.underlying152
 a228 := Tryz.isAgg152
 z228 := Tryz.sizeOf152
 v228 := Tryz.zeroValue152
 t229 := Tryz.underlying83
 a229 := Tryz.isAgg83
 z229 := Tryz.sizeOf83
 v229 := Tryz.zeroValue83 }
def Tryz.laysC_ren : Go.Shelf.Ren := ⟨fun | 20 => 132 | n => n, fun | 22 => 25 | 3 => 3 | 4 => 4 | 0 => 0 | n => n, fun | n => n⟩
theorem Tryz.laysC : Go.Proofs.Lays2.n20 Tryz.prog Tryz.laysC_ren := {
 mixed := by kernel_rfl
 f20 := Tryz.func132.trans (congrArg some (by kernel_rfl))
 t0 := Tryz.underlying0
 a0 := Tryz.isAgg0
 z0 := Tryz.sizeOf0
 v0 := Tryz.zeroValue0
 t3 := Tryz.underlying3
 a3 := Tryz.isAgg3
 z3 := Tryz.sizeOf3
 v3 := Tryz.zeroValue3
 t4 := Tryz.underlying4
 a4 := Tryz.isAgg4
 z4 := Tryz.sizeOf4
 v4 := Tryz.zeroValue4
 t22 := Tryz.underlying25
 a22 := Tryz.isAgg25
 z22 := Tryz.sizeOf25
 v22 := Tryz.zeroValue25
 i3 := by kernel_rfl }
end Go.Proofs

/-
  DERIVED: THE SHELF's CONTRACTS AT THIS DUMP, IN PLAIN WORDS (tools/lay-plain.mjs out of 'YtdkcgggnkhbkkaaDoorShBusy.lean', which tools/lay-shelf.mjs wrote): THE SAME DECLARATIONS UNDER THE SAME NAMES: 'import', 'namespace', 'open', 'def', 'theorem' AND NOTHING ELSE: no command of the shelf's: FOR A HAND-IN. Each laying: the table of numbers ('.._ren') and one theorem, a field a fact of the dump's own or the kernel's comparison; each contract: ONE APPLICATION.
-/
import Derived.Shelf.SlSortCmp.NoneTotal
import Derived.Shelf.SlicesE.Clone
import Derived.Shelf.SlicesQ.IndexFunc
import Derived.Shelf.SlGeneric
import Derived.Ground.SlsfProg
import Derived.Ground.SlgnProg
import Derived.Ground.SlgfProg
import Derived.Test.YtdkcgggnkhbkkaaDoorProg
namespace Go.Proofs
open Go.Shelf
def Tryd.sortBusy_ren : Go.Shelf.Ren := ⟨fun | 6 => 111 | 15 => 119 | 14 => 160 | 28 => 170 | 29 => 171 | 20 => 209 | 21 => 210 | 22 => 211 | 23 => 212 | 24 => 213 | 25 => 214 | 26 => 215 | 27 => 216 | 46 => 246 | 47 => 218 | 48 => 219 | 49 => 247 | 50 => 248 | 57 => 264 | n => n, fun | 22 => 37 | 24 => 41 | 25 => 160 | 3 => 3 | 39 => 168 | 0 => 0 | 53 => 226 | 55 => 228 | 4 => 4 | 46 => 219 | 45 => 218 | 50 => 223 | 5 => 5 | 9 => 9 | 66 => 276 | 70 => 280 | 76 => 309 | 77 => 51 | n => n, fun | n => n⟩
theorem Tryd.sortBusy : Go.Proofs.SlLaysF0.n6 Tryd.prog Tryd.sortBusy_ren := {
  mixed := by kernel_rfl
  f6 := ⟨Tryd.f111.name, by decide, Tryd.func111.trans (congrArg some (by kernel_rfl))⟩
  f14 := ⟨Tryd.f160.name, by decide, Tryd.func160.trans (congrArg some (by kernel_rfl))⟩
  f15 := Tryd.func119.trans (congrArg some (by kernel_rfl))
  f20 := ⟨Tryd.f209.name, by decide, Tryd.func209.trans (congrArg some (by kernel_rfl))⟩
  f21 := ⟨Tryd.f210.name, by decide, Tryd.func210.trans (congrArg some (by kernel_rfl))⟩
  f22 := ⟨Tryd.f211.name, by decide, Tryd.func211.trans (congrArg some (by kernel_rfl))⟩
  f23 := ⟨Tryd.f212.name, by decide, Tryd.func212.trans (congrArg some (by kernel_rfl))⟩
  f24 := ⟨Tryd.f213.name, by decide, Tryd.func213.trans (congrArg some (by kernel_rfl))⟩
  f25 := ⟨Tryd.f214.name, by decide, Tryd.func214.trans (congrArg some (by kernel_rfl))⟩
  f26 := ⟨Tryd.f215.name, by decide, Tryd.func215.trans (congrArg some (by kernel_rfl))⟩
  f27 := ⟨Tryd.f216.name, by decide, Tryd.func216.trans (congrArg some (by kernel_rfl))⟩
  f28 := Tryd.func170.trans (congrArg some (by kernel_rfl))
  f29 := Tryd.func171.trans (congrArg some (by kernel_rfl))
  f46 := ⟨Tryd.f246.name, by decide, Tryd.func246.trans (congrArg some (by kernel_rfl))⟩
  f47 := Tryd.func218.trans (congrArg some (by kernel_rfl))
  f48 := Tryd.func219.trans (congrArg some (by kernel_rfl))
  f49 := ⟨Tryd.f247.name, by decide, Tryd.func247.trans (congrArg some (by kernel_rfl))⟩
  f50 := ⟨Tryd.f248.name, by decide, Tryd.func248.trans (congrArg some (by kernel_rfl))⟩
  f57 := ⟨Tryd.f264.name, by decide, Tryd.func264.trans (congrArg some (by kernel_rfl))⟩
  t0 := Tryd.underlying0
  a0 := Tryd.isAgg0
  z0 := Tryd.sizeOf0
  v0 := Tryd.zeroValue0
  t3 := Tryd.underlying3
  a3 := Tryd.isAgg3
  z3 := Tryd.sizeOf3
  v3 := Tryd.zeroValue3
  t4 := Tryd.underlying4
  a4 := Tryd.isAgg4
  z4 := Tryd.sizeOf4
  v4 := Tryd.zeroValue4
  t5 := Tryd.underlying5
  a5 := Tryd.isAgg5
  z5 := Tryd.sizeOf5
  v5 := Tryd.zeroValue5
  t9 := Tryd.underlying9
  a9 := Tryd.isAgg9
  z9 := Tryd.sizeOf9
  v9 := Tryd.zeroValue9
  t22 := Tryd.underlying37
  a22 := Tryd.isAgg37
  z22 := Tryd.sizeOf37
  v22 := Tryd.zeroValue37
  t25 := Tryd.underlying160
  a25 := Tryd.isAgg160
  z25 := Tryd.sizeOf160
  v25 := Tryd.zeroValue160
  t39 := Tryd.underlying168
  a39 := Tryd.isAgg168
  z39 := Tryd.sizeOf168
  v39 := Tryd.zeroValue168
  t45 := Tryd.underlying218
  a45 := Tryd.isAgg218
  z45 := Tryd.sizeOf218
  v45 := Tryd.zeroValue218
  t46 := Tryd.underlying219
  a46 := Tryd.isAgg219
  z46 := Tryd.sizeOf219
  v46 := Tryd.zeroValue219
  t50 := Tryd.underlying223
  a50 := Tryd.isAgg223
  z50 := Tryd.sizeOf223
  v50 := Tryd.zeroValue223
  t53 := Tryd.underlying226
  a53 := Tryd.isAgg226
  z53 := Tryd.sizeOf226
  v53 := Tryd.zeroValue226
  t55 := Tryd.underlying228
  a55 := Tryd.isAgg228
  z55 := Tryd.sizeOf228
  v55 := Tryd.zeroValue228
  t66 := Tryd.underlying276
  a66 := Tryd.isAgg276
  z66 := Tryd.sizeOf276
  v66 := Tryd.zeroValue276
  t70 := Tryd.underlying280
  a70 := Tryd.isAgg280
  z70 := Tryd.sizeOf280
  v70 := Tryd.zeroValue280
  t76 := Tryd.underlying309
  a76 := Tryd.isAgg309
  z76 := Tryd.sizeOf309
  v76 := Tryd.zeroValue309
  t77 := Tryd.underlying51
  a77 := Tryd.isAgg51
  z77 := Tryd.sizeOf51
  v77 := Tryd.zeroValue51 }
def Tryd.cloneBusy_ren : Go.Shelf.Ren := ⟨fun | 41 => 110 | n => n, fun | 22 => 37 | 23 => 41 | 4 => 4 | n => n, fun | n => n⟩
theorem Tryd.cloneBusy : Go.Proofs.SlLaysE0.n41 Tryd.prog Tryd.cloneBusy_ren := {
  mixed := by kernel_rfl
  f41 := ⟨Tryd.f110.name, by decide, Tryd.func110.trans (congrArg some (by kernel_rfl))⟩
  t4 := Tryd.underlying4
  a4 := Tryd.isAgg4
  z4 := Tryd.sizeOf4
  v4 := Tryd.zeroValue4
  t22 := Tryd.underlying37
  a22 := Tryd.isAgg37
  z22 := Tryd.sizeOf37
  v22 := Tryd.zeroValue37 }
def Tryd.idxBusy_ren : Go.Shelf.Ren := ⟨fun | 6 => 114 | n => n, fun | 22 => 37 | 23 => 41 | 25 => 163 | 3 => 3 | 0 => 0 | 4 => 4 | n => n, fun | n => n⟩
theorem Tryd.idxBusy : Go.Proofs.SlLaysH0.n6 Tryd.prog Tryd.idxBusy_ren := {
  mixed := by kernel_rfl
  f6 := ⟨Tryd.f114.name, by decide, Tryd.func114.trans (congrArg some (by kernel_rfl))⟩
  t0 := Tryd.underlying0
  a0 := Tryd.isAgg0
  z0 := Tryd.sizeOf0
  v0 := Tryd.zeroValue0
  t3 := Tryd.underlying3
  a3 := Tryd.isAgg3
  z3 := Tryd.sizeOf3
  v3 := Tryd.zeroValue3
  t4 := Tryd.underlying4
  a4 := Tryd.isAgg4
  z4 := Tryd.sizeOf4
  v4 := Tryd.zeroValue4
  t22 := Tryd.underlying37
  a22 := Tryd.isAgg37
  z22 := Tryd.sizeOf37
  v22 := Tryd.zeroValue37
  t25 := Tryd.underlying163
  a25 := Tryd.isAgg163
  z25 := Tryd.sizeOf163
  v25 := Tryd.zeroValue163 }
end Go.Proofs

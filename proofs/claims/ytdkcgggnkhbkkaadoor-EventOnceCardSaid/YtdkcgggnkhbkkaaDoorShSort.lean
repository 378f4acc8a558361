/- Contracts of the library's functions slices_Sort_int, slices_Sort_int_none, slices_Compact_int, slices_Compact_int_empty, laid off the shelf at this program, in plain words (lay-plain.mjs). No condition but those that each states. -/
import Derived.Shelf.Strings.Builder1
import Derived.Shelf.Strings.Builder2
import Derived.Shelf.Small.Utf8
import Derived.Shelf.Small.Bits
import Derived.Shelf.Small.Strs
import Derived.Shelf.Small.Wraps
import Derived.Shelf.Strings.BuilderF
import Derived.Shelf.Strings.BuilderK
import Derived.Shelf.Strings.Builder2Cap
import Derived.Shelf.Strconv.Atoi
import Derived.Shelf.Strconv.Itoa0
import Derived.Shelf.Strconv.Itoa1
import Derived.Shelf.LaysM
import Derived.Shelf.Strconv.Itoa2
import Derived.Shelf.Strconv.Itoa3
import Derived.Shelf.Strconv.AtoiErrFast
import Derived.Shelf.Strconv.ParseIntEmpty
import Derived.Shelf.Strconv.AtoiFail
import Derived.Shelf.Strconv.Clone
import Derived.Shelf.Strconv.SyntaxError
import Derived.Shelf.LaysC
import Derived.Shelf.Strconv.ToError
import Derived.Shelf.Strconv.AtoiErr
import Derived.Shelf.Strconv.ErrVar
import Derived.Shelf.Strings.Search1
import Derived.Shelf.Sort.Plain
import Derived.Shelf.Strings.Prefix
import Derived.Shelf.Strings.Runes
import Derived.Shelf.Strings.IndexAny
import Derived.Shelf.Strings.AsciiSet
import Derived.Shelf.Strings.IndexAnyAll
import Derived.Shelf.Bits.Mul64
import Derived.Shelf.Strings.Repeat
import Derived.Shelf.Slices.Turned
import Derived.Ground.Names2Prog
import Derived.Shelf.Slices.CompactI
import Derived.Shelf.Slices.SearchI
import Derived.Shelf.Slices.Cells
import Derived.Shelf.Slices.In.SortNone
import Derived.Ground.SlgnProg
import Derived.Shelf.SlicesE.Compact
import Derived.Ground.SlgfProg
import Derived.Shelf.SlicesE.IndexFunc
import Derived.Shelf.SlicesE.DeleteFunc
import Derived.Test.YtdkcgggnkhbkkaaDoorProg
namespace Go.Proofs
open Go.Shelf
def Tryd.lays189_ren : Go.Shelf.Ren := ⟨fun | 189 => 134 | 125 => 119 | 257 => 188 | 128 => 170 | 129 => 171 | 294 => 226 | 295 => 227 | 296 => 228 | 297 => 229 | 298 => 230 | 299 => 231 | 216 => 232 | 300 => 233 | 301 => 234 | 328 => 254 | 329 => 218 | 330 => 219 | 331 => 255 | 332 => 256 | 215 => 107 | 343 => 265 | n => n, fun | 28 => 57 | 3 => 3 | 46 => 168 | 0 => 0 | 51 => 226 | 53 => 228 | 4 => 4 | 183 => 219 | 182 => 218 | 131 => 223 | 5 => 5 | 9 => 9 | 218 => 276 | 222 => 280 | 228 => 309 | 229 => 51 | n => n, fun | n => n⟩
theorem Tryd.lays189 : Go.Proofs.Lays.n189 Tryd.prog Tryd.lays189_ren := {
  mixed := by kernel_rfl
  f125 := Tryd.func119.trans (congrArg some (by kernel_rfl))
  f128 := Tryd.func170.trans (congrArg some (by kernel_rfl))
  f129 := Tryd.func171.trans (congrArg some (by kernel_rfl))
  f189 := Tryd.func134.trans (congrArg some (by kernel_rfl))
  f215 := Tryd.func107.trans (congrArg some (by kernel_rfl))
  f216 := Tryd.func232.trans (congrArg some (by kernel_rfl))
  f257 := Tryd.func188.trans (congrArg some (by kernel_rfl))
  f294 := Tryd.func226.trans (congrArg some (by kernel_rfl))
  f295 := Tryd.func227.trans (congrArg some (by kernel_rfl))
  f296 := Tryd.func228.trans (congrArg some (by kernel_rfl))
  f297 := Tryd.func229.trans (congrArg some (by kernel_rfl))
  f298 := Tryd.func230.trans (congrArg some (by kernel_rfl))
  f299 := Tryd.func231.trans (congrArg some (by kernel_rfl))
  f300 := Tryd.func233.trans (congrArg some (by kernel_rfl))
  f301 := Tryd.func234.trans (congrArg some (by kernel_rfl))
  f328 := Tryd.func254.trans (congrArg some (by kernel_rfl))
  f329 := Tryd.func218.trans (congrArg some (by kernel_rfl))
  f330 := Tryd.func219.trans (congrArg some (by kernel_rfl))
  f331 := Tryd.func255.trans (congrArg some (by kernel_rfl))
  f332 := Tryd.func256.trans (congrArg some (by kernel_rfl))
  f343 := Tryd.func265.trans (congrArg some (by kernel_rfl))
  t0 := Tryd.underlying0
  a0 := Tryd.isAgg0
  z0 := Tryd.sizeOf0
  v0 := Tryd.zeroValue0
  t3 := Tryd.underlying3
  a3 := Tryd.isAgg3
  z3 := Tryd.sizeOf3
  v3 := Tryd.zeroValue3
  t4 := Tryd.underlying4
  a4 := Tryd.isAgg4
  z4 := Tryd.sizeOf4
  v4 := Tryd.zeroValue4
  t5 := Tryd.underlying5
  a5 := Tryd.isAgg5
  z5 := Tryd.sizeOf5
  v5 := Tryd.zeroValue5
  t9 := Tryd.underlying9
  a9 := Tryd.isAgg9
  z9 := Tryd.sizeOf9
  v9 := Tryd.zeroValue9
  t28 := Tryd.underlying57
  a28 := Tryd.isAgg57
  z28 := Tryd.sizeOf57
  v28 := Tryd.zeroValue57
  t46 := Tryd.underlying168
  a46 := Tryd.isAgg168
  z46 := Tryd.sizeOf168
  v46 := Tryd.zeroValue168
  t51 := Tryd.underlying226
  a51 := Tryd.isAgg226
  z51 := Tryd.sizeOf226
  v51 := Tryd.zeroValue226
  t53 := Tryd.underlying228
  a53 := Tryd.isAgg228
  z53 := Tryd.sizeOf228
  v53 := Tryd.zeroValue228
  t131 := Tryd.underlying223
  a131 := Tryd.isAgg223
  z131 := Tryd.sizeOf223
  v131 := Tryd.zeroValue223
  t182 := Tryd.underlying218
  a182 := Tryd.isAgg218
  z182 := Tryd.sizeOf218
  v182 := Tryd.zeroValue218
  t183 := Tryd.underlying219
  a183 := Tryd.isAgg219
  z183 := Tryd.sizeOf219
  v183 := Tryd.zeroValue219
  t218 := Tryd.underlying276
  a218 := Tryd.isAgg276
  z218 := Tryd.sizeOf276
  v218 := Tryd.zeroValue276
  t222 := Tryd.underlying280
  a222 := Tryd.isAgg280
  z222 := Tryd.sizeOf280
  v222 := Tryd.zeroValue280
  t228 := Tryd.underlying309
  a228 := Tryd.isAgg309
  z228 := Tryd.sizeOf309
  v228 := Tryd.zeroValue309
  t229 := Tryd.underlying51
  a229 := Tryd.isAgg51
  z229 := Tryd.sizeOf51
  v229 := Tryd.zeroValue51 }
open Go.Sort Go.RowKit in
theorem Tryd.slices_Sort_int (blk off cap : Nat) (zs : List Int) (w : World) (hH : Holds (Value.int .i64) w blk off zs.toArray) (hblk : blk < w.heap.size) (hsz : zs.length < 4611686018427387904) :
    Calls Tryd.prog 134 #[.slice (some ⟨blk, off, none⟩) zs.length cap] w fun e w' =>
      e = .returned (.tuple #[]) ∧ ∃ n os, w' = grow (putRow (Value.int .i64) (Sort.ahead w n) blk off (zs.mergeSort fun x y => decide (x ≤ y)).toArray) os := Any.slices_Sort_int Tryd.lays189 blk off cap zs w hH hblk hsz
def Tryd.laysNm220_ren : Go.Shelf.Ren := ⟨fun | 20 => 136 | n => n, fun | 22 => 57 | 3 => 3 | 4 => 4 | 0 => 0 | n => n, fun | n => n⟩
theorem Tryd.laysNm220 : Go.Proofs.Lays2.n20 Tryd.prog Tryd.laysNm220_ren := {
  mixed := by kernel_rfl
  f20 := Tryd.func136.trans (congrArg some (by kernel_rfl))
  t0 := Tryd.underlying0
  a0 := Tryd.isAgg0
  z0 := Tryd.sizeOf0
  v0 := Tryd.zeroValue0
  t3 := Tryd.underlying3
  a3 := Tryd.isAgg3
  z3 := Tryd.sizeOf3
  v3 := Tryd.zeroValue3
  t4 := Tryd.underlying4
  a4 := Tryd.isAgg4
  z4 := Tryd.sizeOf4
  v4 := Tryd.zeroValue4
  t22 := Tryd.underlying57
  a22 := Tryd.isAgg57
  z22 := Tryd.sizeOf57
  v22 := Tryd.zeroValue57
  i3 := by kernel_rfl }
open Go.RowKit Go.Lib Go.Sort in
/-- slices.Compact at []int: "Compact replaces consecutive runs of equal elements with a single copy. This is like the uniq command found on Unix. Compact modifies the contents of the slice s and returns the modified slice, which may have a smaller length. Compact zeroes the elements between the new length and the original length. The result preserves the nilness of s.": IT RETURNS THE SLICE CUT TO 'Lib.compact zs'; ITS CELLS HOLD 'Lib.compact zs', THEN ZERO VALUES up to the old length; all else is as it was, but for the count of draws. IN THE WORDS OF slices.Sort's CONTRACT ('Holds', 'putRow'): so the everyday 'slices.Sort(xs); xs = slices.Compact(xs)' goes from the one contract to the other. It asks 'zs.length ≤ cap' (every slice's: the reslicing 's[:k]' looks at it). Length 0, nil: '.._empty'. (LAID: no walk: one application.) -/
theorem Tryd.slices_Compact_int (blk off cap : Nat) (zs : List Int) (w : World) (hH : Holds (Value.int .i64) w blk off zs.toArray) (hsz : zs.length ≤ 9223372036854775807) (hcap : zs.length ≤ cap) :
    Calls Tryd.prog 136 #[.slice (some ⟨blk, off, none⟩) zs.length cap] w fun e w' => e = .returned (.slice (some ⟨blk, off, none⟩) (Lib.compact zs).length cap) ∧ ∃ q, w' = putRow (Value.int .i64) (Sort.ahead w q) blk off (Lib.compact zs ++ List.replicate (zs.length - (Lib.compact zs).length) 0).toArray := Any.slices_Compact_int Tryd.laysNm220 blk off cap zs w hH hsz hcap
open Go.RowKit Go.Lib Go.Sort in
/-- The same at a slice of length 0, a nil one too: it comes back as it is. (LAID: no walk: one application.) -/
theorem Tryd.slices_Compact_int_empty (a : Option Addr) (cap : Nat) (w : World) :
    Calls Tryd.prog 136 #[.slice a 0 cap] w fun e w' => e = .returned (.slice a 0 cap) ∧ w' = w := Any.slices_Compact_int_empty Tryd.laysNm220 a cap w
open Go.RowKit Go.Sort in
/-- .. and plain. (LAID: no walk: one application.) -/
theorem Tryd.slices_Sort_int_none (p : Option Addr) (cap : Nat) (w : World) :
    Calls Tryd.prog 134 #[.slice p 0 cap] w fun e w' => e = .returned (.tuple #[]) ∧ w' = w := Any.slices_Sort_int_none Tryd.lays189 p cap w
end Go.Proofs

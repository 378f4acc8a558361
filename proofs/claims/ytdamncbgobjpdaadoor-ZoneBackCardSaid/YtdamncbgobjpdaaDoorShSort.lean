/- Contracts of the library's functions slices_Sort_int, slices_Sort_int_none, slices_Compact_int, slices_Compact_int_empty, laid off the shelf at this program, in plain words (lay-plain.mjs). No condition but those that each states. -/
import Derived.Shelf.Small.Bits
import Derived.Shelf.Small.Strs
import Derived.Shelf.Small.Wraps
import Derived.Shelf.Strconv.Itoa0
import Derived.Shelf.Strings.Search1
import Derived.Shelf.Strings.Search2
import Derived.Shelf.Strings.Cut
import Derived.Shelf.LaysM
import Derived.Shelf.Strings.Shaped
import Derived.Shelf.Sort.Plain
import Derived.Shelf.Strings.Prefix
import Derived.Shelf.Bits.Mul64
import Derived.Shelf.Slices.Turned
import Derived.Ground.Names2Prog
import Derived.Shelf.Slices.CompactI
import Derived.Shelf.Slices.In.SortNone
import Derived.Ground.SlgfProg
import Derived.Shelf.SlicesE.IndexFunc
import Derived.Test.YtdamncbgobjpdaaDoorProg
namespace Go.Proofs
open Go.Shelf
def Tryd.lays189_ren : Go.Shelf.Ren := ⟨fun | 189 => 132 | 125 => 159 | 257 => 158 | 128 => 181 | 129 => 182 | 294 => 172 | 295 => 173 | 296 => 174 | 297 => 175 | 298 => 176 | 299 => 177 | 216 => 178 | 300 => 179 | 301 => 180 | 328 => 190 | 329 => 191 | 330 => 192 | 331 => 193 | 332 => 194 | 215 => 108 | 343 => 199 | n => n, fun | 28 => 59 | 3 => 3 | 46 => 194 | 0 => 0 | 51 => 216 | 53 => 219 | 4 => 4 | 183 => 224 | 182 => 223 | 131 => 227 | 5 => 5 | 9 => 9 | 218 => 237 | 222 => 241 | 228 => 246 | 229 => 50 | n => n, fun | n => n⟩
theorem Tryd.lays189 : Go.Proofs.Lays.n189 Tryd.prog Tryd.lays189_ren := {
  mixed := by kernel_rfl
  f125 := Tryd.func159.trans (congrArg some (by kernel_rfl))
  f128 := Tryd.func181.trans (congrArg some (by kernel_rfl))
  f129 := Tryd.func182.trans (congrArg some (by kernel_rfl))
  f189 := Tryd.func132.trans (congrArg some (by kernel_rfl))
  f215 := Tryd.func108.trans (congrArg some (by kernel_rfl))
  f216 := Tryd.func178.trans (congrArg some (by kernel_rfl))
  f257 := Tryd.func158.trans (congrArg some (by kernel_rfl))
  f294 := Tryd.func172.trans (congrArg some (by kernel_rfl))
  f295 := Tryd.func173.trans (congrArg some (by kernel_rfl))
  f296 := Tryd.func174.trans (congrArg some (by kernel_rfl))
  f297 := Tryd.func175.trans (congrArg some (by kernel_rfl))
  f298 := Tryd.func176.trans (congrArg some (by kernel_rfl))
  f299 := Tryd.func177.trans (congrArg some (by kernel_rfl))
  f300 := Tryd.func179.trans (congrArg some (by kernel_rfl))
  f301 := Tryd.func180.trans (congrArg some (by kernel_rfl))
  f328 := Tryd.func190.trans (congrArg some (by kernel_rfl))
  f329 := Tryd.func191.trans (congrArg some (by kernel_rfl))
  f330 := Tryd.func192.trans (congrArg some (by kernel_rfl))
  f331 := Tryd.func193.trans (congrArg some (by kernel_rfl))
  f332 := Tryd.func194.trans (congrArg some (by kernel_rfl))
  f343 := Tryd.func199.trans (congrArg some (by kernel_rfl))
  t0 := Tryd.underlying0
  a0 := Tryd.isAgg0
  z0 := Tryd.sizeOf0
  v0 := Tryd.zeroValue0
  t3 := Tryd.underlying3
  a3 := Tryd.isAgg3
  z3 := Tryd.sizeOf3
  v3 := Tryd.zeroValue3
  t4 := Tryd.underlying4
  a4 := Tryd.isAgg4
  z4 := Tryd.sizeOf4
  v4 := Tryd.zeroValue4
  t5 := Tryd.underlying5
  a5 := Tryd.isAgg5
  z5 := Tryd.sizeOf5
  v5 := Tryd.zeroValue5
  t9 := Tryd.underlying9
  a9 := Tryd.isAgg9
  z9 := Tryd.sizeOf9
  v9 := Tryd.zeroValue9
  t28 := Tryd.underlying59
  a28 := Tryd.isAgg59
  z28 := Tryd.sizeOf59
  v28 := Tryd.zeroValue59
  t46 := Tryd.underlying194
  a46 := Tryd.isAgg194
  z46 := Tryd.sizeOf194
  v46 := Tryd.zeroValue194
  t51 := Tryd.underlying216
  a51 := Tryd.isAgg216
  z51 := Tryd.sizeOf216
  v51 := Tryd.zeroValue216
  t53 := Tryd.underlying219
  a53 := Tryd.isAgg219
  z53 := Tryd.sizeOf219
  v53 := Tryd.zeroValue219
  t131 := Tryd.underlying227
  a131 := Tryd.isAgg227
  z131 := Tryd.sizeOf227
  v131 := Tryd.zeroValue227
  t182 := Tryd.underlying223
  a182 := Tryd.isAgg223
  z182 := Tryd.sizeOf223
  v182 := Tryd.zeroValue223
  t183 := Tryd.underlying224
  a183 := Tryd.isAgg224
  z183 := Tryd.sizeOf224
  v183 := Tryd.zeroValue224
  t218 := Tryd.underlying237
  a218 := Tryd.isAgg237
  z218 := Tryd.sizeOf237
  v218 := Tryd.zeroValue237
  t222 := Tryd.underlying241
  a222 := Tryd.isAgg241
  z222 := Tryd.sizeOf241
  v222 := Tryd.zeroValue241
  t228 := Tryd.underlying246
  a228 := Tryd.isAgg246
  z228 := Tryd.sizeOf246
  v228 := Tryd.zeroValue246
  t229 := Tryd.underlying50
  a229 := Tryd.isAgg50
  z229 := Tryd.sizeOf50
  v229 := Tryd.zeroValue50 }
open Go.Sort Go.RowKit in
theorem Tryd.slices_Sort_int (blk off cap : Nat) (zs : List Int) (w : World) (hH : Holds (Value.int .i64) w blk off zs.toArray) (hblk : blk < w.heap.size) (hsz : zs.length < 4611686018427387904) :
    Calls Tryd.prog 132 #[.slice (some ⟨blk, off, none⟩) zs.length cap] w fun e w' =>
      e = .returned (.tuple #[]) ∧ ∃ n os, w' = grow (putRow (Value.int .i64) (Sort.ahead w n) blk off (zs.mergeSort fun x y => decide (x ≤ y)).toArray) os := Any.slices_Sort_int Tryd.lays189 blk off cap zs w hH hblk hsz
def Tryd.laysNm220_ren : Go.Shelf.Ren := ⟨fun | 20 => 133 | n => n, fun | 22 => 59 | 3 => 3 | 4 => 4 | 0 => 0 | n => n, fun | n => n⟩
theorem Tryd.laysNm220 : Go.Proofs.Lays2.n20 Tryd.prog Tryd.laysNm220_ren := {
  mixed := by kernel_rfl
  f20 := Tryd.func133.trans (congrArg some (by kernel_rfl))
  t0 := Tryd.underlying0
  a0 := Tryd.isAgg0
  z0 := Tryd.sizeOf0
  v0 := Tryd.zeroValue0
  t3 := Tryd.underlying3
  a3 := Tryd.isAgg3
  z3 := Tryd.sizeOf3
  v3 := Tryd.zeroValue3
  t4 := Tryd.underlying4
  a4 := Tryd.isAgg4
  z4 := Tryd.sizeOf4
  v4 := Tryd.zeroValue4
  t22 := Tryd.underlying59
  a22 := Tryd.isAgg59
  z22 := Tryd.sizeOf59
  v22 := Tryd.zeroValue59
  i3 := by kernel_rfl }
open Go.RowKit Go.Lib Go.Sort in
/-- slices.Compact at []int: "Compact replaces consecutive runs of equal elements with a single copy. This is like the uniq command found on Unix. Compact modifies the contents of the slice s and returns the modified slice, which may have a smaller length. Compact zeroes the elements between the new length and the original length. The result preserves the nilness of s.": IT RETURNS THE SLICE CUT TO 'Lib.compact zs'; ITS CELLS HOLD 'Lib.compact zs', THEN ZERO VALUES up to the old length; all else is as it was, but for the count of draws. IN THE WORDS OF slices.Sort's CONTRACT ('Holds', 'putRow'): so the everyday 'slices.Sort(xs); xs = slices.Compact(xs)' goes from the one contract to the other. It asks 'zs.length ≤ cap' (every slice's: the reslicing 's[:k]' looks at it). Length 0, nil: '.._empty'. (LAID: no walk: one application.) -/
theorem Tryd.slices_Compact_int (blk off cap : Nat) (zs : List Int) (w : World) (hH : Holds (Value.int .i64) w blk off zs.toArray) (hsz : zs.length ≤ 9223372036854775807) (hcap : zs.length ≤ cap) :
    Calls Tryd.prog 133 #[.slice (some ⟨blk, off, none⟩) zs.length cap] w fun e w' => e = .returned (.slice (some ⟨blk, off, none⟩) (Lib.compact zs).length cap) ∧ ∃ q, w' = putRow (Value.int .i64) (Sort.ahead w q) blk off (Lib.compact zs ++ List.replicate (zs.length - (Lib.compact zs).length) 0).toArray := Any.slices_Compact_int Tryd.laysNm220 blk off cap zs w hH hsz hcap
open Go.RowKit Go.Lib Go.Sort in
/-- The same at a slice of length 0, a nil one too: it comes back as it is. (LAID: no walk: one application.) -/
theorem Tryd.slices_Compact_int_empty (a : Option Addr) (cap : Nat) (w : World) :
    Calls Tryd.prog 133 #[.slice a 0 cap] w fun e w' => e = .returned (.slice a 0 cap) ∧ w' = w := Any.slices_Compact_int_empty Tryd.laysNm220 a cap w
open Go.RowKit Go.Sort in
/-- .. and plain. (LAID: no walk: one application.) -/
theorem Tryd.slices_Sort_int_none (p : Option Addr) (cap : Nat) (w : World) :
    Calls Tryd.prog 132 #[.slice p 0 cap] w fun e w' => e = .returned (.tuple #[]) ∧ w' = w := Any.slices_Sort_int_none Tryd.lays189 p cap w
end Go.Proofs

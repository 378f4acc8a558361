/- Contracts of the library's functions strconv_Atoi, strconv_Atoi_err, strconv_Itoa, laid off the shelf at this program, in plain words (lay-plain.mjs). No condition but those that each states. -/
import Derived.Shelf.Strings.Builder1
import Derived.Shelf.Small.Utf8
import Derived.Shelf.Small.Bits
import Derived.Shelf.Small.Strs
import Derived.Shelf.Small.Wraps
import Derived.Shelf.Strings.BuilderF
import Derived.Shelf.Strings.BuilderK
import Derived.Shelf.Strconv.Atoi
import Derived.Shelf.Strconv.Itoa0
import Derived.Shelf.Strconv.Itoa1
import Derived.Shelf.LaysM
import Derived.Shelf.Strconv.Itoa2
import Derived.Shelf.Strconv.Itoa3
import Derived.Shelf.Strconv.AtoiErrFast
import Derived.Shelf.Strconv.ParseIntEmpty
import Derived.Shelf.Strconv.AtoiFail
import Derived.Shelf.Strconv.Clone
import Derived.Shelf.Strconv.SyntaxError
import Derived.Shelf.LaysC
import Derived.Shelf.Strconv.ToError
import Derived.Shelf.Strconv.AtoiErr
import Derived.Shelf.Strconv.ErrVar
import Derived.Shelf.Strings.Search1
import Derived.Shelf.Strings.Prefix
import Derived.Shelf.Strings.Runes
import Derived.Shelf.Strings.IndexAny
import Derived.Shelf.Strings.AsciiSet
import Derived.Shelf.Strings.IndexAnyAll
import Derived.Shelf.Bits.Mul64
import Derived.Shelf.Slices.Turned
import Derived.Ground.Names2Prog
import Derived.Shelf.Slices.CompactI
import Derived.Shelf.Slices.Cells
import Derived.Ground.SlgfProg
import Derived.Shelf.SlicesE.IndexFunc
import Derived.Test.YtdkcgggnkhbkkaaDoorProg
namespace Go.Proofs
open Go.Shelf
def Tryd.lays172_ren : Go.Shelf.Ren := ⟨fun | 172 => 91 | 244 => 144 | 245 => 145 | 247 => 194 | 279 => 195 | 280 => 196 | 281 => 197 | 282 => 198 | 287 => 235 | 316 => 236 | 171 => 93 | 205 => 237 | 321 => 257 | 322 => 258 | 243 => 147 | 246 => 200 | 283 => 238 | 284 => 239 | 285 => 240 | 286 => 241 | 129 => 171 | 317 => 259 | 318 => 260 | 319 => 261 | 320 => 262 | 337 => 266 | 338 => 267 | n => n, fun | 9 => 9 | 3 => 3 | 75 => 28 | 76 => 45 | 4 => 4 | 5 => 5 | 167 => 247 | 37 => 171 | 0 => 0 | 85 => 248 | 2 => 2 | 168 => 250 | 53 => 228 | 175 => 292 | 46 => 168 | 210 => 296 | 127 => 256 | 145 => 320 | 143 => 318 | 21 => 21 | 171 => 298 | 173 => 300 | 212 => 322 | 51 => 226 | 20 => 20 | 213 => 323 | 232 => 327 | 233 => 328 | 80 => 201 | n => n, fun | 15 => 3 | 16 => 4 | 17 => 5 | 18 => 6 | 19 => 7 | n => n⟩
theorem Tryd.lays172 : Go.Proofs.Lays.n172 Tryd.prog Tryd.lays172_ren := {
  mixed := by kernel_rfl
  f129 := Tryd.func171.trans (congrArg some (by kernel_rfl))
  f171 := Tryd.func93.trans (congrArg some (by kernel_rfl))
  f172 := Tryd.func91.trans (congrArg some (by kernel_rfl))
  f205 := Tryd.func237.trans (congrArg some (by kernel_rfl))
  f243 := Tryd.func147.trans (congrArg some (by kernel_rfl))
  f244 := Tryd.func144.trans (congrArg some (by kernel_rfl))
  f245 := Tryd.func145.trans (congrArg some (by kernel_rfl))
  f246 := Tryd.func200.trans (congrArg some (by kernel_rfl))
  f247 := Tryd.func194.trans (congrArg some (by kernel_rfl))
  f279 := Tryd.func195.trans (congrArg some (by kernel_rfl))
  f280 := Tryd.func196.trans (congrArg some (by kernel_rfl))
  f281 := Tryd.func197.trans (congrArg some (by kernel_rfl))
  f282 := Tryd.func198.trans (congrArg some (by kernel_rfl))
  f283 := Tryd.func238.trans (congrArg some (by kernel_rfl))
  f284 := Tryd.func239.trans (congrArg some (by kernel_rfl))
  f285 := Tryd.func240.trans (congrArg some (by kernel_rfl))
  f286 := Tryd.func241.trans (congrArg some (by kernel_rfl))
  f287 := Tryd.func235.trans (congrArg some (by kernel_rfl))
  f316 := Tryd.func236.trans (congrArg some (by kernel_rfl))
  f317 := Tryd.func259.trans (congrArg some (by kernel_rfl))
  f318 := Tryd.func260.trans (congrArg some (by kernel_rfl))
  f319 := Tryd.func261.trans (congrArg some (by kernel_rfl))
  f320 := Tryd.func262.trans (congrArg some (by kernel_rfl))
  f321 := Tryd.func257.trans (congrArg some (by kernel_rfl))
  f322 := Tryd.func258.trans (congrArg some (by kernel_rfl))
  f337 := Tryd.func266.trans (congrArg some (by kernel_rfl))
  f338 := Tryd.func267.trans (congrArg some (by kernel_rfl))
  t0 := Tryd.underlying0
  a0 := Tryd.isAgg0
  z0 := Tryd.sizeOf0
  v0 := Tryd.zeroValue0
  t2 := Tryd.underlying2
  a2 := Tryd.isAgg2
  z2 := Tryd.sizeOf2
  v2 := Tryd.zeroValue2
  t3 := Tryd.underlying3
  a3 := Tryd.isAgg3
  z3 := Tryd.sizeOf3
  v3 := Tryd.zeroValue3
  t4 := Tryd.underlying4
  a4 := Tryd.isAgg4
  z4 := Tryd.sizeOf4
  v4 := Tryd.zeroValue4
  t5 := Tryd.underlying5
  a5 := Tryd.isAgg5
  z5 := Tryd.sizeOf5
  v5 := Tryd.zeroValue5
  t9 := Tryd.underlying9
  a9 := Tryd.isAgg9
  z9 := Tryd.sizeOf9
  v9 := Tryd.zeroValue9
  t20 := Tryd.underlying20
  a20 := Tryd.isAgg20
  z20 := Tryd.sizeOf20
  v20 := Tryd.zeroValue20
  t21 := Tryd.underlying21
  a21 := Tryd.isAgg21
  z21 := Tryd.sizeOf21
  v21 := Tryd.zeroValue21
  t37 := Tryd.underlying171
  a37 := Tryd.isAgg171
  z37 := Tryd.sizeOf171
  v37 := Tryd.zeroValue171
  t46 := Tryd.underlying168
  a46 := Tryd.isAgg168
  z46 := Tryd.sizeOf168
  v46 := Tryd.zeroValue168
  t51 := Tryd.underlying226
  a51 := Tryd.isAgg226
  z51 := Tryd.sizeOf226
  v51 := Tryd.zeroValue226
  t53 := Tryd.underlying228
  a53 := Tryd.isAgg228
  z53 := Tryd.sizeOf228
  v53 := Tryd.zeroValue228
  t75 := Tryd.underlying28
  a75 := Tryd.isAgg28
  z75 := Tryd.sizeOf28
  v75 := Tryd.zeroValue28
  t76 := Tryd.underlying45
  a76 := Tryd.isAgg45
  z76 := Tryd.sizeOf45
  v76 := Tryd.zeroValue45
  t85 := Tryd.underlying248
  a85 := Tryd.isAgg248
  z85 := Tryd.sizeOf248
  v85 := Tryd.zeroValue248
  t127 := Tryd.underlying256
  a127 := Tryd.isAgg256
  z127 := Tryd.sizeOf256
  v127 := Tryd.zeroValue256
  t143 := Tryd.underlying318
  a143 := Tryd.isAgg318
  z143 := Tryd.sizeOf318
  v143 := Tryd.zeroValue318
  t145 := Tryd.underlying320
  a145 := Tryd.isAgg320
  z145 := Tryd.sizeOf320
  v145 := Tryd.zeroValue320
  t167 := Tryd.underlying247
  a167 := Tryd.isAgg247
  z167 := Tryd.sizeOf247
  v167 := Tryd.zeroValue247
  t168 := Tryd.underlying250
  a168 := Tryd.isAgg250
  z168 := Tryd.sizeOf250
  v168 := Tryd.zeroValue250
  t171 := Tryd.underlying298
  a171 := Tryd.isAgg298
  z171 := Tryd.sizeOf298
  v171 := Tryd.zeroValue298
  t173 := Tryd.underlying300
  a173 := Tryd.isAgg300
  z173 := Tryd.sizeOf300
  v173 := Tryd.zeroValue300
  t175 := Tryd.underlying292
  a175 := Tryd.isAgg292
  z175 := Tryd.sizeOf292
  v175 := Tryd.zeroValue292
  t210 := Tryd.underlying296
  a210 := Tryd.isAgg296
  z210 := Tryd.sizeOf296
  v210 := Tryd.zeroValue296
  t212 := Tryd.underlying322
  a212 := Tryd.isAgg322
  z212 := Tryd.sizeOf322
  v212 := Tryd.zeroValue322
  t213 := Tryd.underlying323
  a213 := Tryd.isAgg323
  z213 := Tryd.sizeOf323
  t232 := Tryd.underlying327
  a232 := Tryd.isAgg327
  z232 := Tryd.sizeOf327
  v232 := Tryd.zeroValue327
  t233 := Tryd.underlying328
  a233 := Tryd.isAgg328
  z233 := Tryd.sizeOf328
  v233 := Tryd.zeroValue328
  g15 := by kernel_rfl
  g16 := by kernel_rfl
  g17 := by kernel_rfl
  g18 := by kernel_rfl
  g19 := by kernel_rfl }
open Go.RowKit in
/-- strconv.Atoi: "Atoi is equivalent to ParseInt(s, 10, 0), converted to type int.": AT A DECIMAL NUMERAL OF AT MOST 18 BYTES: its value, and a nil error. The world behind the call: the one new row that the library's '[]byte(s)' lays. (LAID: no walk: one application.) -/
theorem Tryd.strconv_Atoi (s : ByteArray) (n : Int) (hl : s.size ≤ 18) (h : Lib.atoi s.data.toList = some n) (w : World) :
    Calls Tryd.prog 91 #[.string s] w fun e w' => e = .returned (.tuple #[.int .i64 n, .nilIface]) ∧ ∃ t, w' = Lib.bytesWorld w 5 t := Any.strconv_Atoi Tryd.lays172 s n hl h w
def Tryd.laysM171_ren : Go.Shelf.Ren := ⟨fun | 171 => 93 | 243 => 147 | 246 => 200 | 283 => 238 | 284 => 239 | 285 => 240 | 286 => 241 | 129 => 171 | 317 => 259 | 318 => 260 | 319 => 261 | 320 => 262 | 337 => 266 | 338 => 267 | n => n, fun | 3 => 3 | 9 => 9 | 2 => 2 | 4 => 4 | 171 => 298 | 0 => 0 | 53 => 228 | 37 => 171 | 5 => 5 | 173 => 300 | 212 => 322 | 51 => 226 | 20 => 20 | 213 => 323 | 46 => 168 | 232 => 327 | 233 => 328 | n => n, fun | 17 => 5 | 18 => 6 | 19 => 7 | n => n⟩
theorem Tryd.laysM171 : Go.Proofs.LaysM.n171 Tryd.prog Tryd.laysM171_ren := {
  mixed := by kernel_rfl
  f129 := Tryd.func171.trans (congrArg some (by kernel_rfl))
  f171 := Tryd.func93.trans (congrArg some (by kernel_rfl))
  f243 := Tryd.func147.trans (congrArg some (by kernel_rfl))
  f246 := Tryd.func200.trans (congrArg some (by kernel_rfl))
  f283 := Tryd.func238.trans (congrArg some (by kernel_rfl))
  f284 := Tryd.func239.trans (congrArg some (by kernel_rfl))
  f285 := Tryd.func240.trans (congrArg some (by kernel_rfl))
  f286 := Tryd.func241.trans (congrArg some (by kernel_rfl))
  f317 := Tryd.func259.trans (congrArg some (by kernel_rfl))
  f318 := Tryd.func260.trans (congrArg some (by kernel_rfl))
  f319 := Tryd.func261.trans (congrArg some (by kernel_rfl))
  f320 := Tryd.func262.trans (congrArg some (by kernel_rfl))
  f337 := Tryd.func266.trans (congrArg some (by kernel_rfl))
  f338 := Tryd.func267.trans (congrArg some (by kernel_rfl))
  t0 := Tryd.underlying0
  a0 := Tryd.isAgg0
  z0 := Tryd.sizeOf0
  v0 := Tryd.zeroValue0
  t2 := Tryd.underlying2
  a2 := Tryd.isAgg2
  z2 := Tryd.sizeOf2
  v2 := Tryd.zeroValue2
  t3 := Tryd.underlying3
  a3 := Tryd.isAgg3
  z3 := Tryd.sizeOf3
  v3 := Tryd.zeroValue3
  t4 := Tryd.underlying4
  a4 := Tryd.isAgg4
  z4 := Tryd.sizeOf4
  v4 := Tryd.zeroValue4
  t5 := Tryd.underlying5
  a5 := Tryd.isAgg5
  z5 := Tryd.sizeOf5
  v5 := Tryd.zeroValue5
  t9 := Tryd.underlying9
  a9 := Tryd.isAgg9
  z9 := Tryd.sizeOf9
  v9 := Tryd.zeroValue9
  t20 := Tryd.underlying20
  a20 := Tryd.isAgg20
  z20 := Tryd.sizeOf20
  v20 := Tryd.zeroValue20
  t37 := Tryd.underlying171
  a37 := Tryd.isAgg171
  z37 := Tryd.sizeOf171
  v37 := Tryd.zeroValue171
  t46 := Tryd.underlying168
  a46 := Tryd.isAgg168
  z46 := Tryd.sizeOf168
  v46 := Tryd.zeroValue168
  t51 := Tryd.underlying226
  a51 := Tryd.isAgg226
  z51 := Tryd.sizeOf226
  v51 := Tryd.zeroValue226
  t53 := Tryd.underlying228
  a53 := Tryd.isAgg228
  z53 := Tryd.sizeOf228
  v53 := Tryd.zeroValue228
  t171 := Tryd.underlying298
  a171 := Tryd.isAgg298
  z171 := Tryd.sizeOf298
  v171 := Tryd.zeroValue298
  t173 := Tryd.underlying300
  a173 := Tryd.isAgg300
  z173 := Tryd.sizeOf300
  v173 := Tryd.zeroValue300
  t212 := Tryd.underlying322
  a212 := Tryd.isAgg322
  z212 := Tryd.sizeOf322
  v212 := Tryd.zeroValue322
  t213 := Tryd.underlying323
  a213 := Tryd.isAgg323
  z213 := Tryd.sizeOf323
  t232 := Tryd.underlying327
  a232 := Tryd.isAgg327
  z232 := Tryd.sizeOf327
  v232 := Tryd.zeroValue327
  t233 := Tryd.underlying328
  a233 := Tryd.isAgg328
  z233 := Tryd.sizeOf328
  v233 := Tryd.zeroValue328
  g17 := by kernel_rfl
  g18 := by kernel_rfl
  g19 := by kernel_rfl
  i0 := by kernel_rfl
  i2 := by kernel_rfl
  i3 := by kernel_rfl
  i4 := by kernel_rfl
  i5 := by kernel_rfl
  i9 := by kernel_rfl
  i20 := by kernel_rfl
  i37 := by kernel_rfl
  i46 := by kernel_rfl
  i51 := by kernel_rfl
  i53 := by kernel_rfl
  i171 := by kernel_rfl
  i173 := by kernel_rfl
  i212 := by kernel_rfl
  i232 := by kernel_rfl
  i233 := by kernel_rfl
  m17 := by kernel_rfl
  m18 := by kernel_rfl
  m19 := by kernel_rfl }
open Go.RowKit Go.Sort Go.Lib in
/-- strconv.Itoa: "Itoa is equivalent to FormatInt(int64(i), 10).": i's DECIMAL NUMERAL ('Lib.itoa': a '-' where i is negative, then the digits), FOR EVERY int. The world behind the call: the world before it, new blocks behind the heap (the library's 'var a [24]byte'), draws. (LAID: no walk: one application.) -/
theorem Tryd.strconv_Itoa (n : Int) (h0 : -9223372036854775808 ≤ n) (h1 : n ≤ 9223372036854775807) (w : World) (htab : Lib.TabIs Tryd.prog w "internal/strconv.uint64pow10" .u64 Lib.pow10Tab) :
    Calls Tryd.prog 93 #[.int .i64 n] w fun e w' => e = .returned (.string ⟨(Lib.itoa n).toArray⟩) ∧ ∃ k os, w' = grow (w.drewN k) os := Any.strconv_Itoa Tryd.laysM171 n h0 h1 w htab
def Tryd.laysC172_ren : Go.Shelf.Ren := ⟨fun | 172 => 91 | 244 => 144 | 245 => 145 | 247 => 194 | 279 => 195 | 280 => 196 | 281 => 197 | 282 => 198 | 287 => 235 | 316 => 236 | 171 => 93 | 205 => 237 | 321 => 257 | 322 => 258 | 243 => 147 | 246 => 200 | 283 => 238 | 284 => 239 | 285 => 240 | 286 => 241 | 129 => 171 | 317 => 259 | 318 => 260 | 319 => 261 | 320 => 262 | 337 => 266 | 338 => 267 | n => n, fun | 9 => 9 | 3 => 3 | 75 => 28 | 76 => 45 | 4 => 4 | 5 => 5 | 167 => 247 | 37 => 171 | 0 => 0 | 85 => 248 | 2 => 2 | 168 => 250 | 53 => 228 | 175 => 292 | 46 => 168 | 210 => 296 | 127 => 256 | 145 => 320 | 143 => 318 | 21 => 21 | 171 => 298 | 173 => 300 | 212 => 322 | 51 => 226 | 20 => 20 | 213 => 323 | 232 => 327 | 233 => 328 | 80 => 201 | n => n, fun | 15 => 3 | 16 => 4 | 17 => 5 | 18 => 6 | 19 => 7 | n => n⟩
theorem Tryd.laysC172 : Go.Proofs.LaysC.n172 Tryd.prog Tryd.laysC172_ren := {
  mixed := by kernel_rfl
  f129 := Tryd.func171.trans (congrArg some (by kernel_rfl))
  f171 := Tryd.func93.trans (congrArg some (by kernel_rfl))
  f172 := Tryd.func91.trans (congrArg some (by kernel_rfl))
  f205 := Tryd.func237.trans (congrArg some (by kernel_rfl))
  f243 := Tryd.func147.trans (congrArg some (by kernel_rfl))
  f244 := Tryd.func144.trans (congrArg some (by kernel_rfl))
  f245 := Tryd.func145.trans (congrArg some (by kernel_rfl))
  f246 := Tryd.func200.trans (congrArg some (by kernel_rfl))
  f247 := Tryd.func194.trans (congrArg some (by kernel_rfl))
  f279 := Tryd.func195.trans (congrArg some (by kernel_rfl))
  f280 := Tryd.func196.trans (congrArg some (by kernel_rfl))
  f281 := Tryd.func197.trans (congrArg some (by kernel_rfl))
  f282 := Tryd.func198.trans (congrArg some (by kernel_rfl))
  f283 := Tryd.func238.trans (congrArg some (by kernel_rfl))
  f284 := Tryd.func239.trans (congrArg some (by kernel_rfl))
  f285 := Tryd.func240.trans (congrArg some (by kernel_rfl))
  f286 := Tryd.func241.trans (congrArg some (by kernel_rfl))
  f287 := Tryd.func235.trans (congrArg some (by kernel_rfl))
  f316 := Tryd.func236.trans (congrArg some (by kernel_rfl))
  f317 := Tryd.func259.trans (congrArg some (by kernel_rfl))
  f318 := Tryd.func260.trans (congrArg some (by kernel_rfl))
  f319 := Tryd.func261.trans (congrArg some (by kernel_rfl))
  f320 := Tryd.func262.trans (congrArg some (by kernel_rfl))
  f321 := Tryd.func257.trans (congrArg some (by kernel_rfl))
  f322 := Tryd.func258.trans (congrArg some (by kernel_rfl))
  f337 := Tryd.func266.trans (congrArg some (by kernel_rfl))
  f338 := Tryd.func267.trans (congrArg some (by kernel_rfl))
  t0 := Tryd.underlying0
  a0 := Tryd.isAgg0
  z0 := Tryd.sizeOf0
  v0 := Tryd.zeroValue0
  t2 := Tryd.underlying2
  a2 := Tryd.isAgg2
  z2 := Tryd.sizeOf2
  v2 := Tryd.zeroValue2
  t3 := Tryd.underlying3
  a3 := Tryd.isAgg3
  z3 := Tryd.sizeOf3
  v3 := Tryd.zeroValue3
  t4 := Tryd.underlying4
  a4 := Tryd.isAgg4
  z4 := Tryd.sizeOf4
  v4 := Tryd.zeroValue4
  t5 := Tryd.underlying5
  a5 := Tryd.isAgg5
  z5 := Tryd.sizeOf5
  v5 := Tryd.zeroValue5
  t9 := Tryd.underlying9
  a9 := Tryd.isAgg9
  z9 := Tryd.sizeOf9
  v9 := Tryd.zeroValue9
  t20 := Tryd.underlying20
  a20 := Tryd.isAgg20
  z20 := Tryd.sizeOf20
  v20 := Tryd.zeroValue20
  t21 := Tryd.underlying21
  a21 := Tryd.isAgg21
  z21 := Tryd.sizeOf21
  v21 := Tryd.zeroValue21
  t37 := Tryd.underlying171
  a37 := Tryd.isAgg171
  z37 := Tryd.sizeOf171
  v37 := Tryd.zeroValue171
  t46 := Tryd.underlying168
  a46 := Tryd.isAgg168
  z46 := Tryd.sizeOf168
  v46 := Tryd.zeroValue168
  t51 := Tryd.underlying226
  a51 := Tryd.isAgg226
  z51 := Tryd.sizeOf226
  v51 := Tryd.zeroValue226
  t53 := Tryd.underlying228
  a53 := Tryd.isAgg228
  z53 := Tryd.sizeOf228
  v53 := Tryd.zeroValue228
  t75 := Tryd.underlying28
  a75 := Tryd.isAgg28
  z75 := Tryd.sizeOf28
  v75 := Tryd.zeroValue28
  t76 := Tryd.underlying45
  a76 := Tryd.isAgg45
  z76 := Tryd.sizeOf45
  v76 := Tryd.zeroValue45
  t85 := Tryd.underlying248
  a85 := Tryd.isAgg248
  z85 := Tryd.sizeOf248
  v85 := Tryd.zeroValue248
  t127 := Tryd.underlying256
  a127 := Tryd.isAgg256
  z127 := Tryd.sizeOf256
  v127 := Tryd.zeroValue256
  t143 := Tryd.underlying318
  a143 := Tryd.isAgg318
  z143 := Tryd.sizeOf318
  v143 := Tryd.zeroValue318
  t145 := Tryd.underlying320
  a145 := Tryd.isAgg320
  z145 := Tryd.sizeOf320
  v145 := Tryd.zeroValue320
  t167 := Tryd.underlying247
  a167 := Tryd.isAgg247
  z167 := Tryd.sizeOf247
  v167 := Tryd.zeroValue247
  t168 := Tryd.underlying250
  a168 := Tryd.isAgg250
  z168 := Tryd.sizeOf250
  v168 := Tryd.zeroValue250
  t171 := Tryd.underlying298
  a171 := Tryd.isAgg298
  z171 := Tryd.sizeOf298
  v171 := Tryd.zeroValue298
  t173 := Tryd.underlying300
  a173 := Tryd.isAgg300
  z173 := Tryd.sizeOf300
  v173 := Tryd.zeroValue300
  t175 := Tryd.underlying292
  a175 := Tryd.isAgg292
  z175 := Tryd.sizeOf292
  v175 := Tryd.zeroValue292
  t210 := Tryd.underlying296
  a210 := Tryd.isAgg296
  z210 := Tryd.sizeOf296
  v210 := Tryd.zeroValue296
  t212 := Tryd.underlying322
  a212 := Tryd.isAgg322
  z212 := Tryd.sizeOf322
  v212 := Tryd.zeroValue322
  t213 := Tryd.underlying323
  a213 := Tryd.isAgg323
  z213 := Tryd.sizeOf323
  t232 := Tryd.underlying327
  a232 := Tryd.isAgg327
  z232 := Tryd.sizeOf327
  v232 := Tryd.zeroValue327
  t233 := Tryd.underlying328
  a233 := Tryd.isAgg328
  z233 := Tryd.sizeOf328
  v233 := Tryd.zeroValue328
  g15 := by kernel_rfl
  g16 := by kernel_rfl
  g17 := by kernel_rfl
  g18 := by kernel_rfl
  g19 := by kernel_rfl
  t80 := Tryd.underlying201
  a80 := Tryd.isAgg201
  z80 := Tryd.sizeOf201
  v80 := Tryd.zeroValue201
  i0 := by kernel_rfl
  i2 := by kernel_rfl
  i3 := by kernel_rfl
  i4 := by kernel_rfl
  i5 := by kernel_rfl
  i9 := by kernel_rfl
  i20 := by kernel_rfl
  i21 := by kernel_rfl
  i37 := by kernel_rfl
  i46 := by kernel_rfl
  i51 := by kernel_rfl
  i53 := by kernel_rfl
  i75 := by kernel_rfl
  i76 := by kernel_rfl
  i80 := by kernel_rfl
  i85 := by kernel_rfl
  i127 := by kernel_rfl
  i143 := by kernel_rfl
  i145 := by kernel_rfl
  i167 := by kernel_rfl
  i168 := by kernel_rfl
  i171 := by kernel_rfl
  i173 := by kernel_rfl
  i175 := by kernel_rfl
  i210 := by kernel_rfl
  i212 := by kernel_rfl
  i232 := by kernel_rfl
  i233 := by kernel_rfl
  m15 := by kernel_rfl
  m16 := by kernel_rfl
  m17 := by kernel_rfl
  m18 := by kernel_rfl
  m19 := by kernel_rfl
  c0 := by kernel_rfl
  c2 := by kernel_rfl
  c3 := by kernel_rfl
  c4 := by kernel_rfl
  c5 := by kernel_rfl
  c9 := by kernel_rfl
  c20 := by kernel_rfl
  c21 := by kernel_rfl
  c37 := by kernel_rfl
  c46 := by kernel_rfl
  c51 := by kernel_rfl
  c53 := by kernel_rfl
  c75 := by kernel_rfl
  c76 := by kernel_rfl
  c80 := by kernel_rfl
  c85 := by kernel_rfl
  c127 := by kernel_rfl
  c143 := by kernel_rfl
  c145 := by kernel_rfl
  c167 := by kernel_rfl
  c168 := by kernel_rfl
  c171 := by kernel_rfl
  c173 := by kernel_rfl
  c175 := by kernel_rfl
  c210 := by kernel_rfl
  c212 := by kernel_rfl
  c213 := by kernel_rfl
  c232 := by kernel_rfl
  c233 := by kernel_rfl }
open Go.RowKit in
/-- strconv.Atoi, AT EVERY STRING OF AT MOST 18 BYTES THAT IS NO DECIMAL NUMERAL (the empty one too): 0, AND AN ERROR THAT IS NOT nil: a *NumError in a new block N: {Func: "Atoi", Num: s's bytes, Err: what the variable ErrSyntax holds}. Of what was there nothing has turned. (LAID: no walk: one application.) -/
theorem Tryd.strconv_Atoi_err (s : ByteArray) (hl : s.size ≤ 18) (h : Lib.atoi s.data.toList = none) (ev : Value) (w : World) (hv : w.cell? ⟨3, 0, none⟩ = some ev) (hev : ev = .nilIface ∨ ∃ te pe, ev = .iface te pe) :
    Calls Tryd.prog 91 #[.string s] w fun e w' => ∃ N, e = .returned (.tuple #[.int .i64 0, .iface 250 (.pointer (some ⟨N, 0, none⟩))]) ∧ w.heap.size ≤ N ∧ w'.heap[N]? = some (.cells #[.string ⟨#[65, 116, 111, 105]⟩, .string s, ev] 296 (0, 0)) ∧ Below w.heap.size w w' := Any.strconv_Atoi_err Tryd.laysC172 s hl h ev w hv hev
end Go.Proofs

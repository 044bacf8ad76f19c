/-
  Contracts of functions of the library, laid for this program by the kit.
  Conditions: as each says.
-/
import Derived.Shelf.Strings.Builder1
import Derived.Shelf.Strings.Builder2
import Derived.Shelf.Strings.OnBuilder
import Derived.Shelf.Small.Utf8
import Derived.Shelf.Small.Bits
import Derived.Shelf.Small.Strs
import Derived.Shelf.Strings.BuilderF
import Derived.Shelf.Strings.BuilderK
import Derived.Shelf.Strings.BuilderRune
import Derived.Shelf.Utf8.RuneCount
import Derived.Shelf.Strings.Builder2Cap
import Derived.Shelf.Strconv.Itoa0
import Derived.Shelf.Strconv.Itoa1
import Derived.Shelf.LaysM
import Derived.Shelf.Strconv.Itoa2
import Derived.Shelf.Strconv.Itoa3
import Derived.Shelf.Strings.Search1
import Derived.Shelf.Strings.Search2
import Derived.Shelf.Strings.Search3
import Derived.Shelf.Strings.Count
import Derived.Shelf.Strings.Shaped
import Derived.Shelf.Strings.Prefix
import Derived.Shelf.Strings.Split
import Derived.Shelf.Strings.Replace
import Derived.Shelf.Strings.SplitShaped
import Derived.Shelf.Unicode.Latin
import Derived.Shelf.Unicode.Decode
import Derived.Shelf.Strings.RuneCount
import Derived.Shelf.Bits.Mul64
import Derived.Shelf.Strings.Repeat
import Derived.Shelf.Unicode.DecodeSlow
import Derived.Shelf.Unicode.DecodeAny
import Derived.Shelf.Unicode.CaseLookup
import Derived.Shelf.Unicode.CaseConvert
import Derived.Shelf.Unicode.CaseTo
import Derived.Shelf.Unicode.CaseLaid
import Derived.Shelf.Strings.MapAny
import Derived.Shelf.Strings.CaseAny
import Derived.Ground.Names2Prog
import Derived.Shelf.Slices.Clone
import Derived.Ground.SlgnProg
import Derived.Shelf.SlicesE.Clone
import Derived.Shelf.SlSortCmp.NoneTotal
import Derived.Ground.SlsfProg
import Derived.Shelf.SlGeneric
import Derived.Shelf.Spec.SearchS
import Derived.Test.YtdkckikobefekaaGreatDoorProg
namespace Go.Proofs
open Go.Shelf
open Go.RowKit in
open Go.RowKit in
open Go.RowKit in
open Go.RowKit in
open Go.RowKit in
open Go.RowKit in
def Tryz.lays159_ren : Go.Shelf.Ren := ⟨fun | 159 => 294 | 165 => 327 | 166 => 301 | 167 => 249 | 169 => 251 | 230 => 328 | 204 => 329 | 240 => 300 | 241 => 351 | 197 => 352 | 118 => 353 | 168 => 354 | 270 => 355 | 262 => 356 | 276 => 335 | 277 => 368 | 260 => 369 | 242 => 370 | 313 => 371 | 278 => 379 | 274 => 380 | 275 => 381 | n => n, fun | 9 => 9 | 4 => 4 | 3 => 3 | 5 => 5 | 72 => 289 | 0 => 0 | 76 => 335 | 75 => 291 | 107 => 358 | 70 => 287 | 20 => 20 | 37 => 209 | 127 => 331 | 21 => 21 | 105 => 374 | 164 => 359 | 162 => 394 | 203 => 392 | 119 => 401 | 46 => 318 | 139 => 404 | 138 => 403 | 51 => 352 | 160 => 405 | 208 => 411 | 206 => 409 | 80 => 227 | n => n, fun | 13 => 0 | 3 => 3 | 4 => 4 | n => n⟩
theorem Tryz.lays159 : Go.Proofs.Lays.n159 Tryz.prog Tryz.lays159_ren := {
 mixed := by kernel_rfl
 f118 := Tryz.func353.trans (congrArg some (by kernel_rfl))
 f159 := Tryz.func294.trans (congrArg some (by kernel_rfl))
 f165 := Tryz.func327.trans (congrArg some (by kernel_rfl))
 f166 := Tryz.func301.trans (congrArg some (by kernel_rfl))
 f167 := Tryz.func249.trans (congrArg some (by kernel_rfl))
 f168 := Tryz.func354.trans (congrArg some (by kernel_rfl))
 f169 := Tryz.func251.trans (congrArg some (by kernel_rfl))
 f197 := Tryz.func352.trans (congrArg some (by kernel_rfl))
 f204 := Tryz.func329.trans (congrArg some (by kernel_rfl))
 f230 := Tryz.func328.trans (congrArg some (by kernel_rfl))
 f240 := Tryz.func300.trans (congrArg some (by kernel_rfl))
 f241 := Tryz.func351.trans (congrArg some (by kernel_rfl))
 f242 := Tryz.func370.trans (congrArg some (by kernel_rfl))
 f260 := Tryz.func369.trans (congrArg some (by kernel_rfl))
 f262 := Tryz.func356.trans (congrArg some (by kernel_rfl))
 f270 := Tryz.func355.trans (congrArg some (by kernel_rfl))
 f274 := Tryz.func380.trans (congrArg some (by kernel_rfl))
 f275 := Tryz.func381.trans (congrArg some (by kernel_rfl))
 f276 := Tryz.func335.trans (congrArg some (by kernel_rfl))
 f277 := Tryz.func368.trans (congrArg some (by kernel_rfl))
 f278 := Tryz.func379.trans (congrArg some (by kernel_rfl))
 f313 := Tryz.func371.trans (congrArg some (by kernel_rfl))
 t0 := Tryz.underlying0
 a0 := Tryz.isAgg0
 z0 := Tryz.sizeOf0
 v0 := Tryz.zeroValue0
 t3 := Tryz.underlying3
 a3 := Tryz.isAgg3
 z3 := Tryz.sizeOf3
 v3 := Tryz.zeroValue3
 t4 := Tryz.underlying4
 a4 := Tryz.isAgg4
 z4 := Tryz.sizeOf4
 v4 := Tryz.zeroValue4
 t5 := Tryz.underlying5
 a5 := Tryz.isAgg5
 z5 := Tryz.sizeOf5
 v5 := Tryz.zeroValue5
 t9 := Tryz.underlying9
 a9 := Tryz.isAgg9
 z9 := Tryz.sizeOf9
 v9 := Tryz.zeroValue9
 t20 := Tryz.underlying20
 a20 := Tryz.isAgg20
 z20 := Tryz.sizeOf20
 v20 := Tryz.zeroValue20
 t21 := Tryz.underlying21
 a21 := Tryz.isAgg21
 z21 := Tryz.sizeOf21
 v21 := Tryz.zeroValue21
 t37 := Tryz.underlying209
 a37 := Tryz.isAgg209
 z37 := Tryz.sizeOf209
 v37 := Tryz.zeroValue209
 t46 := Tryz.underlying318
 a46 := Tryz.isAgg318
 z46 := Tryz.sizeOf318
 v46 := Tryz.zeroValue318
 t51 := Tryz.underlying352
 a51 := Tryz.isAgg352
 z51 := Tryz.sizeOf352
 v51 := Tryz.zeroValue352
 t70 := Tryz.underlying287
 a70 := Tryz.isAgg287
 z70 := Tryz.sizeOf287
 v70 := Tryz.zeroValue287
 t72 := Tryz.underlying289
 a72 := Tryz.isAgg289
 z72 := Tryz.sizeOf289
 v72 := Tryz.zeroValue289
 t75 := Tryz.underlying291
 a75 := Tryz.isAgg291
 z75 := Tryz.sizeOf291
 v75 := Tryz.zeroValue291
 t76 := Tryz.underlying335
 a76 := Tryz.isAgg335
 z76 := Tryz.sizeOf335
 v76 := Tryz.zeroValue335
 t105 := Tryz.underlying374
 a105 := Tryz.isAgg374
 z105 := Tryz.sizeOf374
 v105 := Tryz.zeroValue374
 t107 := Tryz.underlying358
 a107 := Tryz.isAgg358
 z107 := Tryz.sizeOf358
 v107 := Tryz.zeroValue358
 t119 := Tryz.underlying401
 a119 := Tryz.isAgg401
 z119 := Tryz.sizeOf401
 t127 := Tryz.underlying331
 a127 := Tryz.isAgg331
 z127 := Tryz.sizeOf331
 v127 := Tryz.zeroValue331
 t138 := Tryz.underlying403
 a138 := Tryz.isAgg403
 z138 := Tryz.sizeOf403
 v138 := Tryz.zeroValue403
 t139 := Tryz.underlying404
 a139 := Tryz.isAgg404
 z139 := Tryz.sizeOf404
 v139 := Tryz.zeroValue404
 t160 := Tryz.underlying405
 a160 := Tryz.isAgg405
 z160 := Tryz.sizeOf405
 v160 := Tryz.zeroValue405
 t162 := Tryz.underlying394
 a162 := Tryz.isAgg394
 z162 := Tryz.sizeOf394
 v162 := Tryz.zeroValue394
 t164 := Tryz.underlying359
 a164 := Tryz.isAgg359
 z164 := Tryz.sizeOf359
 v164 := Tryz.zeroValue359
 t203 := Tryz.underlying392
 a203 := Tryz.isAgg392
 z203 := Tryz.sizeOf392
 v203 := Tryz.zeroValue392
 t206 := Tryz.underlying409
 a206 := Tryz.isAgg409
 z206 := Tryz.sizeOf409
 v206 := Tryz.zeroValue409
 t208 := Tryz.underlying411
 a208 := Tryz.isAgg411
 z208 := Tryz.sizeOf411
 v208 := Tryz.zeroValue411
 g3 := by kernel_rfl
 g4 := by kernel_rfl
 g13 := by kernel_rfl }
theorem Tryz.Builder_Extra_159 : Builder.Extra Tryz.prog Tryz.lays159_ren := {
 sizeBuilder := by kernel_rfl
 liesBuilder := by kernel_rfl
 t5 := Tryz.underlying5
 a5 := Tryz.isAgg5
 z5 := Tryz.sizeOf5
 v5 := Tryz.zeroValue5
 infoByte := by kernel_rfl
 cellsByte := by kernel_rfl
 sizeByte := by kernel_rfl
 neB5 := by decide }
open Go.RowKit in
theorem Tryz.strings_ToLower_ascii (s : ByteArray) (w : World) (hs : s.size ≤ 140737488355328) (hascii : ∀ (j : Nat) (b : UInt8), s.data.toList[j]? = some b → b.toNat < 128) :
   Calls Tryz.prog 294 #[.string s] w fun e w' => e = .returned (.string ⟨(Lib.toLowerA s.data.toList).toArray⟩) ∧ Below w.heap.size w w' := Any.strings_ToLower_ascii Tryz.lays159 Tryz.Builder_Extra_159 s w hs hascii
def Tryz.lays137_ren : Go.Shelf.Ren := ⟨fun | 137 => 298 | 217 => 334 | 266 => 357 | n => n, fun | 9 => 9 | 5 => 5 | 3 => 3 | n => n, fun | n => n⟩
theorem Tryz.lays137 : Go.Proofs.Lays.n137 Tryz.prog Tryz.lays137_ren := {
 mixed := by kernel_rfl
 f137 := Tryz.func298.trans (congrArg some (by kernel_rfl))
 f217 := Tryz.func334.trans (congrArg some (by kernel_rfl))
 f266 := Tryz.func357.trans (congrArg some (by kernel_rfl))
 t3 := Tryz.underlying3
 a3 := Tryz.isAgg3
 z3 := Tryz.sizeOf3
 v3 := Tryz.zeroValue3
 t5 := Tryz.underlying5
 a5 := Tryz.isAgg5
 z5 := Tryz.sizeOf5
 v5 := Tryz.zeroValue5
 t9 := Tryz.underlying9
 a9 := Tryz.isAgg9
 z9 := Tryz.sizeOf9
 v9 := Tryz.zeroValue9 }
open Go.RowKit in
theorem Tryz.strings_IndexByte (s : ByteArray) (c : Int) (w : World) :
   Calls Tryz.prog 298 #[.string s, .int .u8 c] w fun e w' => e = .returned (.int .i64 (Lib.indexByte s.data.toList c.toNat.toUInt8)) ∧ w' = w := Any.strings_IndexByte Tryz.lays137 s c w
open Go.RowKit in
open Go.RowKit in
open Go.RowKit in
open Go.RowKit in
open Go.RowKit in
open Go.RowKit in
open Go.RowKit in
open Go.RowKit in
open Go.RowKit in
open Go.RowKit in
open Go.Lib in
open Go.Lib in
open Go.Lib in
open Go.Lib in
open Go.RowKit Go.Sort Go.Lib in
open Go.RowKit Go.Sort Go.Lib in
open Go.RowKit Go.Sort Go.Lib in
open Go.RowKit Go.Lib in
open Go.RowKit Go.Lib in
open Go.RowKit Go.Lib in
open Go.RowKit Go.Lib in
open Go.RowKit Go.Lib in
open Go.RowKit Go.Lib in
open Go.RowKit Go.Lib in
open Go.RowKit Go.Lib in
open Go.RowKit Go.Lib in
open Go.RowKit Go.Lib in
open Go.RowKit Go.Lib in
open Go.RowKit Go.Lib in
open Go.RowKit Go.Lib in
open Go.RowKit Go.Lib in
open Go.RowKit Go.Lib in
open Go.RowKit Go.Lib in
open Go.RowKit Go.Lib in
open Go.RowKit Go.Lib in
open Go.RowKit Go.Lib in
open Go.RowKit Go.Lib in
def Tryz.lays155_ren : Go.Shelf.Ren := ⟨fun | 155 => 304 | 154 => 339 | 138 => 361 | 165 => 327 | 143 => 362 | 166 => 301 | 197 => 352 | 169 => 251 | 195 => 372 | 218 => 373 | 240 => 300 | 241 => 351 | 219 => 374 | 260 => 369 | 276 => 335 | 277 => 368 | 217 => 334 | 225 => 382 | 224 => 383 | 267 => 384 | 266 => 357 | 314 => 387 | n => n, fun | 9 => 9 | 3 => 3 | 4 => 4 | 72 => 289 | 0 => 0 | 76 => 335 | 105 => 374 | 21 => 21 | 5 => 5 | 70 => 287 | 20 => 20 | 37 => 209 | 75 => 291 | 127 => 331 | 164 => 359 | 46 => 318 | 119 => 401 | 139 => 404 | 138 => 403 | 146 => 379 | 51 => 352 | 80 => 227 | n => n, fun | 1 => 1 | 3 => 3 | 4 => 4 | n => n⟩
theorem Tryz.lays155 : Go.Proofs.Lays.n155 Tryz.prog Tryz.lays155_ren := {
 mixed := by kernel_rfl
 f138 := Tryz.func361.trans (congrArg some (by kernel_rfl))
 f143 := Tryz.func362.trans (congrArg some (by kernel_rfl))
 f154 := Tryz.func339.trans (congrArg some (by kernel_rfl))
 f155 := Tryz.func304.trans (congrArg some (by kernel_rfl))
 f165 := Tryz.func327.trans (congrArg some (by kernel_rfl))
 f166 := Tryz.func301.trans (congrArg some (by kernel_rfl))
 f169 := Tryz.func251.trans (congrArg some (by kernel_rfl))
 f195 := Tryz.func372.trans (congrArg some (by kernel_rfl))
 f197 := Tryz.func352.trans (congrArg some (by kernel_rfl))
 f217 := Tryz.func334.trans (congrArg some (by kernel_rfl))
 f218 := Tryz.func373.trans (congrArg some (by kernel_rfl))
 f219 := Tryz.func374.trans (congrArg some (by kernel_rfl))
 f224 := Tryz.func383.trans (congrArg some (by kernel_rfl))
 f225 := Tryz.func382.trans (congrArg some (by kernel_rfl))
 f240 := Tryz.func300.trans (congrArg some (by kernel_rfl))
 f241 := Tryz.func351.trans (congrArg some (by kernel_rfl))
 f260 := Tryz.func369.trans (congrArg some (by kernel_rfl))
 f266 := Tryz.func357.trans (congrArg some (by kernel_rfl))
 f267 := Tryz.func384.trans (congrArg some (by kernel_rfl))
 f276 := Tryz.func335.trans (congrArg some (by kernel_rfl))
 f277 := Tryz.func368.trans (congrArg some (by kernel_rfl))
 f314 := Tryz.func387.trans (congrArg some (by kernel_rfl))
 t0 := Tryz.underlying0
 a0 := Tryz.isAgg0
 z0 := Tryz.sizeOf0
 v0 := Tryz.zeroValue0
 t3 := Tryz.underlying3
 a3 := Tryz.isAgg3
 z3 := Tryz.sizeOf3
 v3 := Tryz.zeroValue3
 t4 := Tryz.underlying4
 a4 := Tryz.isAgg4
 z4 := Tryz.sizeOf4
 v4 := Tryz.zeroValue4
 t5 := Tryz.underlying5
 a5 := Tryz.isAgg5
 z5 := Tryz.sizeOf5
 v5 := Tryz.zeroValue5
 t9 := Tryz.underlying9
 a9 := Tryz.isAgg9
 z9 := Tryz.sizeOf9
 v9 := Tryz.zeroValue9
 t20 := Tryz.underlying20
 a20 := Tryz.isAgg20
 z20 := Tryz.sizeOf20
 v20 := Tryz.zeroValue20
 t21 := Tryz.underlying21
 a21 := Tryz.isAgg21
 z21 := Tryz.sizeOf21
 v21 := Tryz.zeroValue21
 t37 := Tryz.underlying209
 a37 := Tryz.isAgg209
 z37 := Tryz.sizeOf209
 v37 := Tryz.zeroValue209
 t46 := Tryz.underlying318
 a46 := Tryz.isAgg318
 z46 := Tryz.sizeOf318
 v46 := Tryz.zeroValue318
 t51 := Tryz.underlying352
 a51 := Tryz.isAgg352
 z51 := Tryz.sizeOf352
 v51 := Tryz.zeroValue352
 t70 := Tryz.underlying287
 a70 := Tryz.isAgg287
 z70 := Tryz.sizeOf287
 v70 := Tryz.zeroValue287
 t72 := Tryz.underlying289
 a72 := Tryz.isAgg289
 z72 := Tryz.sizeOf289
 v72 := Tryz.zeroValue289
 t75 := Tryz.underlying291
 a75 := Tryz.isAgg291
 z75 := Tryz.sizeOf291
 v75 := Tryz.zeroValue291
 t76 := Tryz.underlying335
 a76 := Tryz.isAgg335
 z76 := Tryz.sizeOf335
 v76 := Tryz.zeroValue335
 t105 := Tryz.underlying374
 a105 := Tryz.isAgg374
 z105 := Tryz.sizeOf374
 v105 := Tryz.zeroValue374
 t119 := Tryz.underlying401
 a119 := Tryz.isAgg401
 z119 := Tryz.sizeOf401
 t127 := Tryz.underlying331
 a127 := Tryz.isAgg331
 z127 := Tryz.sizeOf331
 v127 := Tryz.zeroValue331
 t138 := Tryz.underlying403
 a138 := Tryz.isAgg403
 z138 := Tryz.sizeOf403
 v138 := Tryz.zeroValue403
 t139 := Tryz.underlying404
 a139 := Tryz.isAgg404
 z139 := Tryz.sizeOf404
 v139 := Tryz.zeroValue404
 t146 := Tryz.underlying379
 a146 := Tryz.isAgg379
 z146 := Tryz.sizeOf379
 v146 := Tryz.zeroValue379
 t164 := Tryz.underlying359
 a164 := Tryz.isAgg359
 z164 := Tryz.sizeOf359
 v164 := Tryz.zeroValue359
 g1 := by kernel_rfl
 g3 := by kernel_rfl
 g4 := by kernel_rfl }
theorem Tryz.Builder_Extra_155 : Builder.Extra Tryz.prog Tryz.lays155_ren := {
 sizeBuilder := by kernel_rfl
 liesBuilder := by kernel_rfl
 t5 := Tryz.underlying5
 a5 := Tryz.isAgg5
 z5 := Tryz.sizeOf5
 v5 := Tryz.zeroValue5
 infoByte := by kernel_rfl
 cellsByte := by kernel_rfl
 sizeByte := by kernel_rfl
 neB5 := by decide }
open Go.RowKit Go.Lib in
theorem Tryz.strings_ReplaceAll (s old new : ByteArray) (m : Int) (w : World) (hs : s.size < 4294967281) (hm : w.cell? ⟨1, 0, none⟩ = some (.int .i64 m)) (h1 : 1 ≤ old.size) (hlen : s.size + Lib.countB s old * new.size ≤ 140737488355328) :
   Calls Tryz.prog 304 #[.string s, .string old, .string new] w fun e w' =>
     e = .returned (.string ⟨(Lib.replaceAll s.data.toList old.data.toList new.data.toList).toArray⟩) ∧ Below w.heap.size w w' := Any.strings_ReplaceAll Tryz.lays155 Tryz.Builder_Extra_155 s old new m w hs hm h1 hlen
open Go.RowKit Go.Lib in
open Go.RowKit Go.Lib in
open Go.RowKit Go.Lib in
open Go.RowKit Go.Lib in
open Go.RowKit Go.Lib in
open Go.RowKit Go.Lib in
open Go.RowKit Go.Lib in
open Go.RowKit Go.Lib in
open Go.RowKit Go.Lib in
open Go.RowKit Go.Lib in
open Go.RowKit Go.Lib in
open Go.RowKit Go.Lib in
open Go.RowKit Go.Lib in
open Go.RowKit Go.Lib in
open Go.RowKit Go.Lib in
open Go.RowKit Go.Lib in
open Go.RowKit Go.Lib in
open Go.RowKit Go.Lib in
open Go.RowKit Go.Lib in
open Go.RowKit Go.Lib in
open Go.RowKit Go.Lib in
open Go.RowKit Go.Lib in
open Go.RowKit Go.Lib in
open Go.RowKit Go.Lib in
open Go.RowKit Go.Lib in
open Go.RowKit Go.Lib in
open Go.RowKit Go.Lib in
open Go.RowKit Go.Lib in
open Go.RowKit Go.Lib in
open Go.RowKit Go.Lib in
open Go.RowKit Go.Lib in
open Go.RowKit Go.Lib in
open Go.RowKit Go.Lib in
def Tryz.sortF213_ren : Go.Shelf.Ren := ⟨fun | 6 => 213 | 15 => 284 | 14 => 283 | 28 => 322 | 29 => 323 | 20 => 314 | 21 => 315 | 22 => 316 | 23 => 317 | 24 => 318 | 25 => 319 | 26 => 320 | 27 => 321 | 46 => 344 | 47 => 345 | 48 => 346 | 49 => 347 | 50 => 348 | 57 => 367 | n => n, fun | 22 => 194 | 24 => 61 | 25 => 261 | 3 => 3 | 39 => 318 | 0 => 0 | 53 => 352 | 55 => 354 | 4 => 4 | 46 => 346 | 45 => 345 | 50 => 325 | 5 => 5 | 9 => 9 | 66 => 368 | 70 => 372 | 76 => 387 | 77 => 388 | n => n, fun | n => n⟩
theorem Tryz.sortF213 : Go.Proofs.SlLaysF0.n6 Tryz.prog Tryz.sortF213_ren := {
 mixed := by kernel_rfl
 f6 := ⟨Tryz.f213.name, by decide, Tryz.func213.trans (congrArg some (by kernel_rfl))⟩
 f14 := ⟨Tryz.f283.name, by decide, Tryz.func283.trans (congrArg some (by kernel_rfl))⟩
 f15 := Tryz.func284.trans (congrArg some (by kernel_rfl))
 f20 := ⟨Tryz.f314.name, by decide, Tryz.func314.trans (congrArg some (by kernel_rfl))⟩
 f21 := ⟨Tryz.f315.name, by decide, Tryz.func315.trans (congrArg some (by kernel_rfl))⟩
 f22 := ⟨Tryz.f316.name, by decide, Tryz.func316.trans (congrArg some (by kernel_rfl))⟩
 f23 := ⟨Tryz.f317.name, by decide, Tryz.func317.trans (congrArg some (by kernel_rfl))⟩
 f24 := ⟨Tryz.f318.name, by decide, Tryz.func318.trans (congrArg some (by kernel_rfl))⟩
 f25 := ⟨Tryz.f319.name, by decide, Tryz.func319.trans (congrArg some (by kernel_rfl))⟩
 f26 := ⟨Tryz.f320.name, by decide, Tryz.func320.trans (congrArg some (by kernel_rfl))⟩
 f27 := ⟨Tryz.f321.name, by decide, Tryz.func321.trans (congrArg some (by kernel_rfl))⟩
 f28 := Tryz.func322.trans (congrArg some (by kernel_rfl))
 f29 := Tryz.func323.trans (congrArg some (by kernel_rfl))
 f46 := ⟨Tryz.f344.name, by decide, Tryz.func344.trans (congrArg some (by kernel_rfl))⟩
 f47 := Tryz.func345.trans (congrArg some (by kernel_rfl))
 f48 := Tryz.func346.trans (congrArg some (by kernel_rfl))
 f49 := ⟨Tryz.f347.name, by decide, Tryz.func347.trans (congrArg some (by kernel_rfl))⟩
 f50 := ⟨Tryz.f348.name, by decide, Tryz.func348.trans (congrArg some (by kernel_rfl))⟩
 f57 := ⟨Tryz.f367.name, by decide, Tryz.func367.trans (congrArg some (by kernel_rfl))⟩
 t0 := Tryz.underlying0
 a0 := Tryz.isAgg0
 z0 := Tryz.sizeOf0
 v0 := Tryz.zeroValue0
 t3 := Tryz.underlying3
 a3 := Tryz.isAgg3
 z3 := Tryz.sizeOf3
 v3 := Tryz.zeroValue3
 t4 := Tryz.underlying4
 a4 := Tryz.isAgg4
 z4 := Tryz.sizeOf4
 v4 := Tryz.zeroValue4
 t5 := Tryz.underlying5
 a5 := Tryz.isAgg5
 z5 := Tryz.sizeOf5
 v5 := Tryz.zeroValue5
 t9 := Tryz.underlying9
 a9 := Tryz.isAgg9
 z9 := Tryz.sizeOf9
 v9 := Tryz.zeroValue9
 t22 := Tryz.underlying194
 a22 := Tryz.isAgg194
 z22 := Tryz.sizeOf194
 v22 := Tryz.zeroValue194
 t25 := Tryz.underlying261
 a25 := Tryz.isAgg261
 z25 := Tryz.sizeOf261
 v25 := Tryz.zeroValue261
 t39 := Tryz.underlying318
 a39 := Tryz.isAgg318
 z39 := Tryz.sizeOf318
 v39 := Tryz.zeroValue318
 t45 := Tryz.underlying345
 a45 := Tryz.isAgg345
 z45 := Tryz.sizeOf345
 v45 := Tryz.zeroValue345
 t46 := Tryz.underlying346
 a46 := Tryz.isAgg346
 z46 := Tryz.sizeOf346
 v46 := Tryz.zeroValue346
 t50 := Tryz.underlying325
 a50 := Tryz.isAgg325
 z50 := Tryz.sizeOf325
 v50 := Tryz.zeroValue325
 t53 := Tryz.underlying352
 a53 := Tryz.isAgg352
 z53 := Tryz.sizeOf352
 v53 := Tryz.zeroValue352
 t55 := Tryz.underlying354
 a55 := Tryz.isAgg354
 z55 := Tryz.sizeOf354
 v55 := Tryz.zeroValue354
 t66 := Tryz.underlying368
 a66 := Tryz.isAgg368
 z66 := Tryz.sizeOf368
 v66 := Tryz.zeroValue368
 t70 := Tryz.underlying372
 a70 := Tryz.isAgg372
 z70 := Tryz.sizeOf372
 v70 := Tryz.zeroValue372
 t76 := Tryz.underlying387
 a76 := Tryz.isAgg387
 z76 := Tryz.sizeOf387
 v76 := Tryz.zeroValue387
 t77 := Tryz.underlying388
 a77 := Tryz.isAgg388
 z77 := Tryz.sizeOf388
 v77 := Tryz.zeroValue388 }
def Tryz.searchS_ren : Go.Shelf.Ren := ⟨fun | 26 => 296 | 33 => 330 | 34 => 331 | 38 => 350 | n => n, fun | 24 => 22 | 9 => 9 | 3 => 3 | 4 => 4 | 40 => 318 | 0 => 0 | n => n, fun | n => n⟩
theorem Tryz.searchS : Go.Proofs.Lays2.n26 Tryz.prog Tryz.searchS_ren := {
 mixed := by kernel_rfl
 f26 := Tryz.func296.trans (congrArg some (by kernel_rfl))
 f33 := Tryz.func330.trans (congrArg some (by kernel_rfl))
 f34 := Tryz.func331.trans (congrArg some (by kernel_rfl))
 f38 := Tryz.func350.trans (congrArg some (by kernel_rfl))
 t0 := Tryz.underlying0
 a0 := Tryz.isAgg0
 z0 := Tryz.sizeOf0
 v0 := Tryz.zeroValue0
 t3 := Tryz.underlying3
 a3 := Tryz.isAgg3
 z3 := Tryz.sizeOf3
 v3 := Tryz.zeroValue3
 t4 := Tryz.underlying4
 a4 := Tryz.isAgg4
 z4 := Tryz.sizeOf4
 v4 := Tryz.zeroValue4
 t9 := Tryz.underlying9
 a9 := Tryz.isAgg9
 z9 := Tryz.sizeOf9
 v9 := Tryz.zeroValue9
 t24 := Tryz.underlying22
 a24 := Tryz.isAgg22
 z24 := Tryz.sizeOf22
 v24 := Tryz.zeroValue22
 t40 := Tryz.underlying318
 a40 := Tryz.isAgg318
 z40 := Tryz.sizeOf318
 v40 := Tryz.zeroValue318 }
end Go.Proofs

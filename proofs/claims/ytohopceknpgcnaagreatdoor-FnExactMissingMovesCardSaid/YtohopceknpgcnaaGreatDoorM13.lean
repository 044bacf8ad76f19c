/-
  Contracts of functions of the library, laid for this program by the kit.
  Conditions: as each says.
-/
import Derived.Shelf.Strings.Builder1
import Derived.Shelf.Strings.Builder2
import Derived.Shelf.Strings.OnBuilder
import Derived.Shelf.Small.Utf8
import Derived.Shelf.Small.Bits
import Derived.Shelf.Small.Strs
import Derived.Shelf.Strings.BuilderF
import Derived.Shelf.Strings.BuilderK
import Derived.Shelf.Strings.BuilderRune
import Derived.Shelf.Strings.Builder2Cap
import Derived.Shelf.Strconv.Itoa0
import Derived.Shelf.Strings.Search1
import Derived.Shelf.Strings.Search2
import Derived.Shelf.Strings.Search3
import Derived.Shelf.Strings.Count
import Derived.Shelf.LaysM
import Derived.Shelf.Strings.Shaped
import Derived.Shelf.Strings.Split
import Derived.Shelf.Strings.Replace
import Derived.Shelf.Strings.SplitShaped
import Derived.Shelf.Unicode.Latin
import Derived.Shelf.Unicode.DecodeSlow
import Derived.Shelf.Unicode.DecodeAny
import Derived.Shelf.Unicode.CaseLookup
import Derived.Shelf.Unicode.CaseConvert
import Derived.Shelf.Unicode.CaseTo
import Derived.Shelf.Unicode.CaseLaid
import Derived.Shelf.Strings.MapAny
import Derived.Shelf.Strings.CaseAny
import Derived.Shelf.SlSortCmp.NoneTotal
import Derived.Ground.SlsfProg
import Derived.Shelf.SlGeneric
import Derived.Shelf.Spec.SearchS
import Derived.Ground.Names2Prog
import Derived.Test.YtohopceknpgcnaaGreatDoorProg
namespace Go.Proofs
open Go.Shelf
open Go.RowKit in
open Go.RowKit in
open Go.RowKit in
open Go.RowKit in
open Go.RowKit in
def Tryz.lays159_ren : Go.Shelf.Ren := ⟨fun | 159 => 128 | 165 => 175 | 166 => 176 | 167 => 177 | 169 => 178 | 230 => 179 | 204 => 180 | 240 => 207 | 241 => 208 | 197 => 209 | 118 => 210 | 168 => 211 | 270 => 212 | 262 => 213 | 276 => 223 | 277 => 224 | 260 => 225 | 242 => 226 | 313 => 227 | 278 => 230 | 274 => 231 | 275 => 232 | n => n, fun | 9 => 9 | 4 => 4 | 3 => 3 | 5 => 5 | 72 => 214 | 0 => 0 | 76 => 217 | 75 => 216 | 107 => 221 | 70 => 212 | 20 => 20 | 37 => 111 | 127 => 236 | 21 => 21 | 105 => 237 | 164 => 250 | 162 => 256 | 203 => 254 | 119 => 259 | 46 => 142 | 139 => 262 | 138 => 261 | 51 => 182 | 160 => 263 | 208 => 269 | 206 => 267 | 80 => 170 | n => n, fun | 13 => 1 | 3 => 2 | 4 => 3 | n => n⟩
theorem Tryz.lays159 : Go.Proofs.Lays.n159 Tryz.prog Tryz.lays159_ren := {
 mixed := by kernel_rfl
 f118 := Tryz.func210.trans (congrArg some (by kernel_rfl))
 f159 := Tryz.func128.trans (congrArg some (by kernel_rfl))
 f165 := Tryz.func175.trans (congrArg some (by kernel_rfl))
 f166 := Tryz.func176.trans (congrArg some (by kernel_rfl))
 f167 := Tryz.func177.trans (congrArg some (by kernel_rfl))
 f168 := Tryz.func211.trans (congrArg some (by kernel_rfl))
 f169 := Tryz.func178.trans (congrArg some (by kernel_rfl))
 f197 := Tryz.func209.trans (congrArg some (by kernel_rfl))
 f204 := Tryz.func180.trans (congrArg some (by kernel_rfl))
 f230 := Tryz.func179.trans (congrArg some (by kernel_rfl))
 f240 := Tryz.func207.trans (congrArg some (by kernel_rfl))
 f241 := Tryz.func208.trans (congrArg some (by kernel_rfl))
 f242 := Tryz.func226.trans (congrArg some (by kernel_rfl))
 f260 := Tryz.func225.trans (congrArg some (by kernel_rfl))
 f262 := Tryz.func213.trans (congrArg some (by kernel_rfl))
 f270 := Tryz.func212.trans (congrArg some (by kernel_rfl))
 f274 := Tryz.func231.trans (congrArg some (by kernel_rfl))
 f275 := Tryz.func232.trans (congrArg some (by kernel_rfl))
 f276 := Tryz.func223.trans (congrArg some (by kernel_rfl))
 f277 := Tryz.func224.trans (congrArg some (by kernel_rfl))
 f278 := Tryz.func230.trans (congrArg some (by kernel_rfl))
 f313 := Tryz.func227.trans (congrArg some (by kernel_rfl))
 t0 := Tryz.underlying0
 a0 := Tryz.isAgg0
 z0 := Tryz.sizeOf0
 v0 := Tryz.zeroValue0
 t3 := Tryz.underlying3
 a3 := Tryz.isAgg3
 z3 := Tryz.sizeOf3
 v3 := Tryz.zeroValue3
 t4 := Tryz.underlying4
 a4 := Tryz.isAgg4
 z4 := Tryz.sizeOf4
 v4 := Tryz.zeroValue4
 t5 := Tryz.underlying5
 a5 := Tryz.isAgg5
 z5 := Tryz.sizeOf5
 v5 := Tryz.zeroValue5
 t9 := Tryz.underlying9
 a9 := Tryz.isAgg9
 z9 := Tryz.sizeOf9
 v9 := Tryz.zeroValue9
 t20 := Tryz.underlying20
 a20 := Tryz.isAgg20
 z20 := Tryz.sizeOf20
 v20 := Tryz.zeroValue20
 t21 := Tryz.underlying21
 a21 := Tryz.isAgg21
 z21 := Tryz.sizeOf21
 v21 := Tryz.zeroValue21
 t37 := Tryz.underlying111
 a37 := Tryz.isAgg111
 z37 := Tryz.sizeOf111
 v37 := Tryz.zeroValue111
 t46 := Tryz.underlying142
 a46 := Tryz.isAgg142
 z46 := Tryz.sizeOf142
 v46 := Tryz.zeroValue142
 t51 := Tryz.underlying182
 a51 := Tryz.isAgg182
 z51 := Tryz.sizeOf182
 v51 := Tryz.zeroValue182
 t70 := Tryz.underlying212
 a70 := Tryz.isAgg212
 z70 := Tryz.sizeOf212
 v70 := Tryz.zeroValue212
 t72 := Tryz.underlying214
 a72 := Tryz.isAgg214
 z72 := Tryz.sizeOf214
 v72 := Tryz.zeroValue214
 t75 := Tryz.underlying216
 a75 := Tryz.isAgg216
 z75 := Tryz.sizeOf216
 v75 := Tryz.zeroValue216
 t76 := Tryz.underlying217
 a76 := Tryz.isAgg217
 z76 := Tryz.sizeOf217
 v76 := Tryz.zeroValue217
 t105 := Tryz.underlying237
 a105 := Tryz.isAgg237
 z105 := Tryz.sizeOf237
 v105 := Tryz.zeroValue237
 t107 := Tryz.underlying221
 a107 := Tryz.isAgg221
 z107 := Tryz.sizeOf221
 v107 := Tryz.zeroValue221
 t119 := Tryz.underlying259
 a119 := Tryz.isAgg259
 z119 := Tryz.sizeOf259
 t127 := Tryz.underlying236
 a127 := Tryz.isAgg236
 z127 := Tryz.sizeOf236
 v127 := Tryz.zeroValue236
 t138 := Tryz.underlying261
 a138 := Tryz.isAgg261
 z138 := Tryz.sizeOf261
 v138 := Tryz.zeroValue261
 t139 := Tryz.underlying262
 a139 := Tryz.isAgg262
 z139 := Tryz.sizeOf262
 v139 := Tryz.zeroValue262
 t160 := Tryz.underlying263
 a160 := Tryz.isAgg263
 z160 := Tryz.sizeOf263
 v160 := Tryz.zeroValue263
 t162 := Tryz.underlying256
 a162 := Tryz.isAgg256
 z162 := Tryz.sizeOf256
 v162 := Tryz.zeroValue256
 t164 := Tryz.underlying250
 a164 := Tryz.isAgg250
 z164 := Tryz.sizeOf250
 v164 := Tryz.zeroValue250
 t203 := Tryz.underlying254
 a203 := Tryz.isAgg254
 z203 := Tryz.sizeOf254
 v203 := Tryz.zeroValue254
 t206 := Tryz.underlying267
 a206 := Tryz.isAgg267
 z206 := Tryz.sizeOf267
 v206 := Tryz.zeroValue267
 t208 := Tryz.underlying269
 a208 := Tryz.isAgg269
 z208 := Tryz.sizeOf269
 v208 := Tryz.zeroValue269
 g3 := by kernel_rfl
 g4 := by kernel_rfl
 g13 := by kernel_rfl }
theorem Tryz.Builder_Extra_159 : Builder.Extra Tryz.prog Tryz.lays159_ren := {
 sizeBuilder := by kernel_rfl
 liesBuilder := by kernel_rfl
 t5 := Tryz.underlying5
 a5 := Tryz.isAgg5
 z5 := Tryz.sizeOf5
 v5 := Tryz.zeroValue5
 infoByte := by kernel_rfl
 cellsByte := by kernel_rfl
 sizeByte := by kernel_rfl
 neB5 := by decide }
open Go.RowKit in
theorem Tryz.strings_ToLower_ascii (s : ByteArray) (w : World) (hs : s.size ≤ 140737488355328) (hascii : ∀ (j : Nat) (b : UInt8), s.data.toList[j]? = some b → b.toNat < 128) :
   Calls Tryz.prog 128 #[.string s] w fun e w' => e = .returned (.string ⟨(Lib.toLowerA s.data.toList).toArray⟩) ∧ Below w.heap.size w w' := Any.strings_ToLower_ascii Tryz.lays159 Tryz.Builder_Extra_159 s w hs hascii
def Tryz.lays137_ren : Go.Shelf.Ren := ⟨fun | 137 => 124 | 217 => 174 | 266 => 206 | n => n, fun | 9 => 9 | 5 => 5 | 3 => 3 | n => n, fun | n => n⟩
theorem Tryz.lays137 : Go.Proofs.Lays.n137 Tryz.prog Tryz.lays137_ren := {
 mixed := by kernel_rfl
 f137 := Tryz.func124.trans (congrArg some (by kernel_rfl))
 f217 := Tryz.func174.trans (congrArg some (by kernel_rfl))
 f266 := Tryz.func206.trans (congrArg some (by kernel_rfl))
 t3 := Tryz.underlying3
 a3 := Tryz.isAgg3
 z3 := Tryz.sizeOf3
 v3 := Tryz.zeroValue3
 t5 := Tryz.underlying5
 a5 := Tryz.isAgg5
 z5 := Tryz.sizeOf5
 v5 := Tryz.zeroValue5
 t9 := Tryz.underlying9
 a9 := Tryz.isAgg9
 z9 := Tryz.sizeOf9
 v9 := Tryz.zeroValue9 }
open Go.RowKit in
theorem Tryz.strings_IndexByte (s : ByteArray) (c : Int) (w : World) :
   Calls Tryz.prog 124 #[.string s, .int .u8 c] w fun e w' => e = .returned (.int .i64 (Lib.indexByte s.data.toList c.toNat.toUInt8)) ∧ w' = w := Any.strings_IndexByte Tryz.lays137 s c w
open Go.RowKit in
open Go.RowKit in
open Go.RowKit in
open Go.RowKit in
open Go.RowKit in
open Go.RowKit in
open Go.RowKit in
open Go.RowKit in
open Go.RowKit Go.Lib in
open Go.RowKit Go.Lib in
open Go.RowKit Go.Lib in
open Go.RowKit Go.Lib in
open Go.RowKit Go.Lib in
open Go.RowKit Go.Lib in
open Go.RowKit Go.Lib in
open Go.RowKit Go.Lib in
open Go.RowKit Go.Lib in
open Go.RowKit Go.Lib in
open Go.RowKit Go.Lib in
open Go.RowKit Go.Lib in
open Go.RowKit Go.Lib in
open Go.RowKit Go.Lib in
open Go.RowKit Go.Lib in
open Go.RowKit Go.Lib in
open Go.RowKit Go.Lib in
open Go.RowKit Go.Lib in
def Tryz.lays155_ren : Go.Shelf.Ren := ⟨fun | 155 => 214 | 154 => 228 | 138 => 233 | 165 => 175 | 143 => 234 | 166 => 176 | 197 => 209 | 169 => 178 | 195 => 235 | 218 => 236 | 240 => 207 | 241 => 208 | 219 => 237 | 260 => 225 | 276 => 223 | 277 => 224 | 217 => 174 | 225 => 238 | 224 => 239 | 267 => 240 | 266 => 206 | 314 => 241 | n => n, fun | 9 => 9 | 3 => 3 | 4 => 4 | 72 => 214 | 0 => 0 | 76 => 217 | 105 => 237 | 21 => 21 | 5 => 5 | 70 => 212 | 20 => 20 | 37 => 111 | 75 => 216 | 127 => 236 | 164 => 250 | 46 => 142 | 119 => 259 | 139 => 262 | 138 => 261 | 146 => 272 | 51 => 182 | 80 => 170 | n => n, fun | 1 => 0 | 3 => 2 | 4 => 3 | n => n⟩
theorem Tryz.lays155 : Go.Proofs.Lays.n155 Tryz.prog Tryz.lays155_ren := {
 mixed := by kernel_rfl
 f138 := Tryz.func233.trans (congrArg some (by kernel_rfl))
 f143 := Tryz.func234.trans (congrArg some (by kernel_rfl))
 f154 := Tryz.func228.trans (congrArg some (by kernel_rfl))
 f155 := Tryz.func214.trans (congrArg some (by kernel_rfl))
 f165 := Tryz.func175.trans (congrArg some (by kernel_rfl))
 f166 := Tryz.func176.trans (congrArg some (by kernel_rfl))
 f169 := Tryz.func178.trans (congrArg some (by kernel_rfl))
 f195 := Tryz.func235.trans (congrArg some (by kernel_rfl))
 f197 := Tryz.func209.trans (congrArg some (by kernel_rfl))
 f217 := Tryz.func174.trans (congrArg some (by kernel_rfl))
 f218 := Tryz.func236.trans (congrArg some (by kernel_rfl))
 f219 := Tryz.func237.trans (congrArg some (by kernel_rfl))
 f224 := Tryz.func239.trans (congrArg some (by kernel_rfl))
 f225 := Tryz.func238.trans (congrArg some (by kernel_rfl))
 f240 := Tryz.func207.trans (congrArg some (by kernel_rfl))
 f241 := Tryz.func208.trans (congrArg some (by kernel_rfl))
 f260 := Tryz.func225.trans (congrArg some (by kernel_rfl))
 f266 := Tryz.func206.trans (congrArg some (by kernel_rfl))
 f267 := Tryz.func240.trans (congrArg some (by kernel_rfl))
 f276 := Tryz.func223.trans (congrArg some (by kernel_rfl))
 f277 := Tryz.func224.trans (congrArg some (by kernel_rfl))
 f314 := Tryz.func241.trans (congrArg some (by kernel_rfl))
 t0 := Tryz.underlying0
 a0 := Tryz.isAgg0
 z0 := Tryz.sizeOf0
 v0 := Tryz.zeroValue0
 t3 := Tryz.underlying3
 a3 := Tryz.isAgg3
 z3 := Tryz.sizeOf3
 v3 := Tryz.zeroValue3
 t4 := Tryz.underlying4
 a4 := Tryz.isAgg4
 z4 := Tryz.sizeOf4
 v4 := Tryz.zeroValue4
 t5 := Tryz.underlying5
 a5 := Tryz.isAgg5
 z5 := Tryz.sizeOf5
 v5 := Tryz.zeroValue5
 t9 := Tryz.underlying9
 a9 := Tryz.isAgg9
 z9 := Tryz.sizeOf9
 v9 := Tryz.zeroValue9
 t20 := Tryz.underlying20
 a20 := Tryz.isAgg20
 z20 := Tryz.sizeOf20
 v20 := Tryz.zeroValue20
 t21 := Tryz.underlying21
 a21 := Tryz.isAgg21
 z21 := Tryz.sizeOf21
 v21 := Tryz.zeroValue21
 t37 := Tryz.underlying111
 a37 := Tryz.isAgg111
 z37 := Tryz.sizeOf111
 v37 := Tryz.zeroValue111
 t46 := Tryz.underlying142
 a46 := Tryz.isAgg142
 z46 := Tryz.sizeOf142
 v46 := Tryz.zeroValue142
 t51 := Tryz.underlying182
 a51 := Tryz.isAgg182
 z51 := Tryz.sizeOf182
 v51 := Tryz.zeroValue182
 t70 := Tryz.underlying212
 a70 := Tryz.isAgg212
 z70 := Tryz.sizeOf212
 v70 := Tryz.zeroValue212
 t72 := Tryz.underlying214
 a72 := Tryz.isAgg214
 z72 := Tryz.sizeOf214
 v72 := Tryz.zeroValue214
 t75 := Tryz.underlying216
 a75 := Tryz.isAgg216
 z75 := Tryz.sizeOf216
 v75 := Tryz.zeroValue216
 t76 := Tryz.underlying217
 a76 := Tryz.isAgg217
 z76 := Tryz.sizeOf217
 v76 := Tryz.zeroValue217
 t105 := Tryz.underlying237
 a105 := Tryz.isAgg237
 z105 := Tryz.sizeOf237
 v105 := Tryz.zeroValue237
 t119 := Tryz.underlying259
 a119 := Tryz.isAgg259
 z119 := Tryz.sizeOf259
 t127 := Tryz.underlying236
 a127 := Tryz.isAgg236
 z127 := Tryz.sizeOf236
 v127 := Tryz.zeroValue236
 t138 := Tryz.underlying261
 a138 := Tryz.isAgg261
 z138 := Tryz.sizeOf261
 v138 := Tryz.zeroValue261
 t139 := Tryz.underlying262
 a139 := Tryz.isAgg262
 z139 := Tryz.sizeOf262
 v139 := Tryz.zeroValue262
 t146 := Tryz.underlying272
 a146 := Tryz.isAgg272
 z146 := Tryz.sizeOf272
 v146 := Tryz.zeroValue272
 t164 := Tryz.underlying250
 a164 := Tryz.isAgg250
 z164 := Tryz.sizeOf250
 v164 := Tryz.zeroValue250
 g1 := by kernel_rfl
 g3 := by kernel_rfl
 g4 := by kernel_rfl }
theorem Tryz.Builder_Extra_155 : Builder.Extra Tryz.prog Tryz.lays155_ren := {
 sizeBuilder := by kernel_rfl
 liesBuilder := by kernel_rfl
 t5 := Tryz.underlying5
 a5 := Tryz.isAgg5
 z5 := Tryz.sizeOf5
 v5 := Tryz.zeroValue5
 infoByte := by kernel_rfl
 cellsByte := by kernel_rfl
 sizeByte := by kernel_rfl
 neB5 := by decide }
open Go.RowKit Go.Lib in
theorem Tryz.strings_ReplaceAll (s old new : ByteArray) (m : Int) (w : World) (hs : s.size < 4294967281) (hm : w.cell? ⟨0, 0, none⟩ = some (.int .i64 m)) (h1 : 1 ≤ old.size) (hlen : s.size + Lib.countB s old * new.size ≤ 140737488355328) :
   Calls Tryz.prog 214 #[.string s, .string old, .string new] w fun e w' =>
     e = .returned (.string ⟨(Lib.replaceAll s.data.toList old.data.toList new.data.toList).toArray⟩) ∧ Below w.heap.size w w' := Any.strings_ReplaceAll Tryz.lays155 Tryz.Builder_Extra_155 s old new m w hs hm h1 hlen
open Go.RowKit Go.Lib in
open Go.RowKit Go.Lib in
open Go.RowKit Go.Lib in
open Go.RowKit Go.Lib in
open Go.RowKit Go.Lib in
open Go.RowKit Go.Lib in
open Go.RowKit Go.Lib in
open Go.RowKit Go.Lib in
open Go.RowKit Go.Lib in
open Go.RowKit Go.Lib in
open Go.RowKit Go.Lib in
open Go.RowKit Go.Lib in
open Go.RowKit Go.Lib in
open Go.RowKit Go.Lib in
open Go.RowKit Go.Lib in
def Tryz.sortF61_ren : Go.Shelf.Ren := ⟨fun | 6 => 61 | 15 => 98 | 14 => 97 | 28 => 145 | 29 => 146 | 20 => 137 | 21 => 138 | 22 => 139 | 23 => 140 | 24 => 141 | 25 => 142 | 26 => 143 | 27 => 144 | 46 => 185 | 47 => 186 | 48 => 187 | 49 => 188 | 50 => 189 | 57 => 217 | n => n, fun | 22 => 65 | 24 => 69 | 25 => 104 | 3 => 3 | 39 => 142 | 0 => 0 | 53 => 182 | 55 => 184 | 4 => 4 | 46 => 175 | 45 => 174 | 50 => 179 | 5 => 5 | 9 => 9 | 66 => 224 | 70 => 228 | 76 => 244 | 77 => 245 | n => n, fun | n => n⟩
theorem Tryz.sortF61 : Go.Proofs.SlLaysF0.n6 Tryz.prog Tryz.sortF61_ren := {
 mixed := by kernel_rfl
 f6 := ⟨Tryz.f61.name, by decide, Tryz.func61.trans (congrArg some (by kernel_rfl))⟩
 f14 := ⟨Tryz.f97.name, by decide, Tryz.func97.trans (congrArg some (by kernel_rfl))⟩
 f15 := Tryz.func98.trans (congrArg some (by kernel_rfl))
 f20 := ⟨Tryz.f137.name, by decide, Tryz.func137.trans (congrArg some (by kernel_rfl))⟩
 f21 := ⟨Tryz.f138.name, by decide, Tryz.func138.trans (congrArg some (by kernel_rfl))⟩
 f22 := ⟨Tryz.f139.name, by decide, Tryz.func139.trans (congrArg some (by kernel_rfl))⟩
 f23 := ⟨Tryz.f140.name, by decide, Tryz.func140.trans (congrArg some (by kernel_rfl))⟩
 f24 := ⟨Tryz.f141.name, by decide, Tryz.func141.trans (congrArg some (by kernel_rfl))⟩
 f25 := ⟨Tryz.f142.name, by decide, Tryz.func142.trans (congrArg some (by kernel_rfl))⟩
 f26 := ⟨Tryz.f143.name, by decide, Tryz.func143.trans (congrArg some (by kernel_rfl))⟩
 f27 := ⟨Tryz.f144.name, by decide, Tryz.func144.trans (congrArg some (by kernel_rfl))⟩
 f28 := Tryz.func145.trans (congrArg some (by kernel_rfl))
 f29 := Tryz.func146.trans (congrArg some (by kernel_rfl))
 f46 := ⟨Tryz.f185.name, by decide, Tryz.func185.trans (congrArg some (by kernel_rfl))⟩
 f47 := Tryz.func186.trans (congrArg some (by kernel_rfl))
 f48 := Tryz.func187.trans (congrArg some (by kernel_rfl))
 f49 := ⟨Tryz.f188.name, by decide, Tryz.func188.trans (congrArg some (by kernel_rfl))⟩
 f50 := ⟨Tryz.f189.name, by decide, Tryz.func189.trans (congrArg some (by kernel_rfl))⟩
 f57 := ⟨Tryz.f217.name, by decide, Tryz.func217.trans (congrArg some (by kernel_rfl))⟩
 t0 := Tryz.underlying0
 a0 := Tryz.isAgg0
 z0 := Tryz.sizeOf0
 v0 := Tryz.zeroValue0
 t3 := Tryz.underlying3
 a3 := Tryz.isAgg3
 z3 := Tryz.sizeOf3
 v3 := Tryz.zeroValue3
 t4 := Tryz.underlying4
 a4 := Tryz.isAgg4
 z4 := Tryz.sizeOf4
 v4 := Tryz.zeroValue4
 t5 := Tryz.underlying5
 a5 := Tryz.isAgg5
 z5 := Tryz.sizeOf5
 v5 := Tryz.zeroValue5
 t9 := Tryz.underlying9
 a9 := Tryz.isAgg9
 z9 := Tryz.sizeOf9
 v9 := Tryz.zeroValue9
 t22 := Tryz.underlying65
 a22 := Tryz.isAgg65
 z22 := Tryz.sizeOf65
 v22 := Tryz.zeroValue65
 t25 := Tryz.underlying104
 a25 := Tryz.isAgg104
 z25 := Tryz.sizeOf104
 v25 := Tryz.zeroValue104
 t39 := Tryz.underlying142
 a39 := Tryz.isAgg142
 z39 := Tryz.sizeOf142
 v39 := Tryz.zeroValue142
 t45 := Tryz.underlying174
 a45 := Tryz.isAgg174
 z45 := Tryz.sizeOf174
 v45 := Tryz.zeroValue174
 t46 := Tryz.underlying175
 a46 := Tryz.isAgg175
 z46 := Tryz.sizeOf175
 v46 := Tryz.zeroValue175
 t50 := Tryz.underlying179
 a50 := Tryz.isAgg179
 z50 := Tryz.sizeOf179
 v50 := Tryz.zeroValue179
 t53 := Tryz.underlying182
 a53 := Tryz.isAgg182
 z53 := Tryz.sizeOf182
 v53 := Tryz.zeroValue182
 t55 := Tryz.underlying184
 a55 := Tryz.isAgg184
 z55 := Tryz.sizeOf184
 v55 := Tryz.zeroValue184
 t66 := Tryz.underlying224
 a66 := Tryz.isAgg224
 z66 := Tryz.sizeOf224
 v66 := Tryz.zeroValue224
 t70 := Tryz.underlying228
 a70 := Tryz.isAgg228
 z70 := Tryz.sizeOf228
 v70 := Tryz.zeroValue228
 t76 := Tryz.underlying244
 a76 := Tryz.isAgg244
 z76 := Tryz.sizeOf244
 v76 := Tryz.zeroValue244
 t77 := Tryz.underlying245
 a77 := Tryz.isAgg245
 z77 := Tryz.sizeOf245
 v77 := Tryz.zeroValue245 }
def Tryz.searchS_ren : Go.Shelf.Ren := ⟨fun | 26 => 184 | 33 => 215 | 34 => 216 | 38 => 191 | n => n, fun | 24 => 22 | 9 => 9 | 3 => 3 | 4 => 4 | 40 => 142 | 0 => 0 | n => n, fun | n => n⟩
theorem Tryz.searchS : Go.Proofs.Lays2.n26 Tryz.prog Tryz.searchS_ren := {
 mixed := by kernel_rfl
 f26 := Tryz.func184.trans (congrArg some (by kernel_rfl))
 f33 := Tryz.func215.trans (congrArg some (by kernel_rfl))
 f34 := Tryz.func216.trans (congrArg some (by kernel_rfl))
 f38 := Tryz.func191.trans (congrArg some (by kernel_rfl))
 t0 := Tryz.underlying0
 a0 := Tryz.isAgg0
 z0 := Tryz.sizeOf0
 v0 := Tryz.zeroValue0
 t3 := Tryz.underlying3
 a3 := Tryz.isAgg3
 z3 := Tryz.sizeOf3
 v3 := Tryz.zeroValue3
 t4 := Tryz.underlying4
 a4 := Tryz.isAgg4
 z4 := Tryz.sizeOf4
 v4 := Tryz.zeroValue4
 t9 := Tryz.underlying9
 a9 := Tryz.isAgg9
 z9 := Tryz.sizeOf9
 v9 := Tryz.zeroValue9
 t24 := Tryz.underlying22
 a24 := Tryz.isAgg22
 z24 := Tryz.sizeOf22
 v24 := Tryz.zeroValue22
 t40 := Tryz.underlying142
 a40 := Tryz.isAgg142
 z40 := Tryz.sizeOf142
 v40 := Tryz.zeroValue142 }
end Go.Proofs

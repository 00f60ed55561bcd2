/- Part 20 of the proof of bytes_card: contracts, walks, plain laws; no condition is assumed beyond those that a statement names. -/
import Derived.Test.YtdjkdcokjoiokaaGreatDoorQ13
import Derived.Shelf.SlicesQ.IndexFunc
import Derived.Shelf.Strings.Builder1
import Derived.Shelf.Strings.Builder2
import Derived.Shelf.Strings.OnBuilder
import Derived.Shelf.Small.Bits
import Derived.Shelf.Small.Strs
import Derived.Shelf.Strings.BuilderF
import Derived.Shelf.Strconv.Atoi
import Derived.Shelf.Strconv.Itoa0
import Derived.Shelf.Strconv.Itoa1
import Derived.Shelf.LaysM
import Derived.Shelf.Strconv.Itoa2
import Derived.Shelf.Strconv.Itoa3
import Derived.Shelf.Strconv.AtoiErrFast
import Derived.Shelf.Strconv.ParseIntEmpty
import Derived.Shelf.Strconv.AtoiFail
import Derived.Shelf.Strconv.Clone
import Derived.Shelf.Strconv.SyntaxError
import Derived.Shelf.LaysC
import Derived.Shelf.Strconv.ToError
import Derived.Shelf.Strconv.Lower
import Derived.Shelf.Strconv.ParseUint10
import Derived.Shelf.Strconv.ParseUint10Empty
import Derived.Shelf.Strconv.ParseUint10Any
import Derived.Shelf.Strconv.ParseInt10
import Derived.Shelf.Strconv.AtoiLong
import Derived.Shelf.Strconv.AtoiInnerAll
import Derived.Shelf.Strconv.RangeError
import Derived.Shelf.Strconv.ToErrorRange
import Derived.Shelf.Strconv.AtoiAll
import Derived.Shelf.Strings.Search1
import Derived.Shelf.Strings.Search2
import Derived.Shelf.Strings.Search3
import Derived.Shelf.Strings.Cut
import Derived.Shelf.Strings.Count
import Derived.Shelf.Strings.Shaped
import Derived.Shelf.GgClosure.StringsIndexFunc
import Derived.Ground.GgwProg
import Derived.Shelf.GgClosure.StringsIndexFuncTop
import Derived.Shelf.GgClosure.StringsRunes
import Derived.Shelf.Strings.Prefix
import Derived.Shelf.Strings.Split
import Derived.Shelf.Bits.Mul64
import Derived.Shelf.Strings.Repeat
import Derived.Shelf.Unicode.DecodeSlow
import Derived.Shelf.Unicode.DecodeAny
import Derived.Ground.SlgnProg
import Derived.Shelf.SlicesE.Clone
set_option linter.all false
namespace Go.Proofs
open Go.Shelf
def Tryz.lays170_ren : Go.Shelf.Ren := ⟨fun | 170 => 303 | n => n, fun | 70 => 336 | 3 => 3 | 0 => 0 | 72 => 338 | 37 => 197 | 5 => 5 | n => n, fun | n => n⟩
theorem Tryz.lays170 : Go.Proofs.Lays.n170 Tryz.prog Tryz.lays170_ren := {
 mixed := by kernel_rfl
 f170 := Tryz.func303.trans (congrArg some (by kernel_rfl))
 t0 := Tryz.underlying0
 a0 := Tryz.isAgg0
 z0 := Tryz.sizeOf0
 v0 := Tryz.zeroValue0
 t3 := Tryz.underlying3
 a3 := Tryz.isAgg3
 z3 := Tryz.sizeOf3
 v3 := Tryz.zeroValue3
 t37 := Tryz.underlying197
 a37 := Tryz.isAgg197
 z37 := Tryz.sizeOf197
 v37 := Tryz.zeroValue197
 t70 := Tryz.underlying336
 a70 := Tryz.isAgg336
 z70 := Tryz.sizeOf336
 v70 := Tryz.zeroValue336
 t72 := Tryz.underlying338
 a72 := Tryz.isAgg338
 z72 := Tryz.sizeOf338
 v72 := Tryz.zeroValue338 }
open Go.RowKit in
theorem Tryz.Builder_Len (B b : Nat) (bs : List Value) (w : World) (h : Lib.IsBuilder 338 5 B b bs w) :
 Calls Tryz.prog 303 #[.pointer (some ⟨b, 0, none⟩)] w fun e w' => e = .returned (.int .i64 bs.length) /\ w' = w := Any.Builder_Len Tryz.lays170 B b bs w h
def Tryz.lays169_ren : Go.Shelf.Ren := ⟨fun | 169 => 304 | n => n, fun | 70 => 336 | 9 => 9 | 0 => 0 | 72 => 338 | 37 => 197 | 127 => 326 | 3 => 3 | 5 => 5 | n => n, fun | n => n⟩
theorem Tryz.lays169 : Go.Proofs.Lays.n169 Tryz.prog Tryz.lays169_ren := {
 mixed := by kernel_rfl
 f169 := Tryz.func304.trans (congrArg some (by kernel_rfl))
 t0 := Tryz.underlying0
 a0 := Tryz.isAgg0
 z0 := Tryz.sizeOf0
 v0 := Tryz.zeroValue0
 t3 := Tryz.underlying3
 a3 := Tryz.isAgg3
 z3 := Tryz.sizeOf3
 v3 := Tryz.zeroValue3
 t9 := Tryz.underlying9
 a9 := Tryz.isAgg9
 z9 := Tryz.sizeOf9
 v9 := Tryz.zeroValue9
 t37 := Tryz.underlying197
 a37 := Tryz.isAgg197
 z37 := Tryz.sizeOf197
 v37 := Tryz.zeroValue197
 t70 := Tryz.underlying336
 a70 := Tryz.isAgg336
 z70 := Tryz.sizeOf336
 v70 := Tryz.zeroValue336
 t72 := Tryz.underlying338
 a72 := Tryz.isAgg338
 z72 := Tryz.sizeOf338
 v72 := Tryz.zeroValue338
 t127 := Tryz.underlying326
 a127 := Tryz.isAgg326
 z127 := Tryz.sizeOf326
 v127 := Tryz.zeroValue326 }
theorem Tryz.Builder_Extra_169 : Builder.Extra Tryz.prog Tryz.lays169_ren := {
 sizeBuilder := by kernel_rfl
 liesBuilder := by kernel_rfl
 t5 := Tryz.underlying5
 a5 := Tryz.isAgg5
 z5 := Tryz.sizeOf5
 v5 := Tryz.zeroValue5
 infoByte := by kernel_rfl
 cellsByte := by kernel_rfl
 sizeByte := by kernel_rfl
 neB5 := by decide }
open Go.RowKit in
theorem Tryz.Builder_String_any (B b : Nat) (l : List UInt8) (w : World) (h : Lib.IsBuilder 338 5 B b (Lib.byteCells l) w) (hBw : B <= w.heap.size) :
 Calls Tryz.prog 304 #[.pointer (some ⟨b, 0, none⟩)] w fun e w' => e = .returned (.string ⟨l.toArray⟩) /\ Below B w w' := Any.Builder_String_any Tryz.lays169 Tryz.Builder_Extra_169 B b l w h hBw
def Tryz.lays156_ren : Go.Shelf.Ren := ⟨fun | 156 => 300 | 165 => 335 | 166 => 301 | 169 => 304 | 240 => 336 | 241 => 360 | 276 => 361 | 277 => 390 | n => n, fun | 31 => 35 | 9 => 9 | 3 => 3 | 4 => 4 | 0 => 0 | 20 => 20 | 72 => 338 | 76 => 233 | 70 => 336 | 37 => 197 | 75 => 232 | 127 => 326 | 164 => 387 | 5 => 5 | 80 => 341 | n => n, fun | n => n⟩
theorem Tryz.lays156 : Go.Proofs.Lays.n156 Tryz.prog Tryz.lays156_ren := {
 mixed := by kernel_rfl
 f156 := Tryz.func300.trans (congrArg some (by kernel_rfl))
 f165 := Tryz.func335.trans (congrArg some (by kernel_rfl))
 f166 := Tryz.func301.trans (congrArg some (by kernel_rfl))
 f169 := Tryz.func304.trans (congrArg some (by kernel_rfl))
 f240 := Tryz.func336.trans (congrArg some (by kernel_rfl))
 f241 := Tryz.func360.trans (congrArg some (by kernel_rfl))
 f276 := Tryz.func361.trans (congrArg some (by kernel_rfl))
 f277 := Tryz.func390.trans (congrArg some (by kernel_rfl))
 t0 := Tryz.underlying0
 a0 := Tryz.isAgg0
 z0 := Tryz.sizeOf0
 v0 := Tryz.zeroValue0
 t3 := Tryz.underlying3
 a3 := Tryz.isAgg3
 z3 := Tryz.sizeOf3
 v3 := Tryz.zeroValue3
 t4 := Tryz.underlying4
 a4 := Tryz.isAgg4
 z4 := Tryz.sizeOf4
 v4 := Tryz.zeroValue4
 t9 := Tryz.underlying9
 a9 := Tryz.isAgg9
 z9 := Tryz.sizeOf9
 v9 := Tryz.zeroValue9
 t20 := Tryz.underlying20
 a20 := Tryz.isAgg20
 z20 := Tryz.sizeOf20
 v20 := Tryz.zeroValue20
 t31 := Tryz.underlying35
 a31 := Tryz.isAgg35
 z31 := Tryz.sizeOf35
 v31 := Tryz.zeroValue35
 t37 := Tryz.underlying197
 a37 := Tryz.isAgg197
 z37 := Tryz.sizeOf197
 v37 := Tryz.zeroValue197
 t70 := Tryz.underlying336
 a70 := Tryz.isAgg336
 z70 := Tryz.sizeOf336
 v70 := Tryz.zeroValue336
 t72 := Tryz.underlying338
 a72 := Tryz.isAgg338
 z72 := Tryz.sizeOf338
 v72 := Tryz.zeroValue338
 t75 := Tryz.underlying232
 a75 := Tryz.isAgg232
 z75 := Tryz.sizeOf232
 v75 := Tryz.zeroValue232
 t76 := Tryz.underlying233
 a76 := Tryz.isAgg233
 z76 := Tryz.sizeOf233
 v76 := Tryz.zeroValue233
 t127 := Tryz.underlying326
 a127 := Tryz.isAgg326
 z127 := Tryz.sizeOf326
 v127 := Tryz.zeroValue326
 t164 := Tryz.underlying387
 a164 := Tryz.isAgg387
 z164 := Tryz.sizeOf387
 v164 := Tryz.zeroValue387 }
theorem Tryz.Builder_Extra_156 : Builder.Extra Tryz.prog Tryz.lays156_ren := {
 sizeBuilder := by kernel_rfl
 liesBuilder := by kernel_rfl
 t5 := Tryz.underlying5
 a5 := Tryz.isAgg5
 z5 := Tryz.sizeOf5
 v5 := Tryz.zeroValue5
 infoByte := by kernel_rfl
 cellsByte := by kernel_rfl
 sizeByte := by kernel_rfl
 neB5 := by decide }
open Go.RowKit in
theorem Tryz.strings_Join_none (a : Option Addr) (c : Nat) (sep : ByteArray) (w : World) :
 Calls Tryz.prog 300 #[.slice a 0 c, .string sep] w fun e w' => e = .returned (.string ⟨#[]⟩) /\ w' = w := Any.strings_Join_none Tryz.lays156 Tryz.Builder_Extra_156 a c sep w
open Go.RowKit in
theorem Tryz.strings_Join (bk o c : Nat) (xs : List ByteArray) (sep : ByteArray) (w : World) (hcells : ∀ (j : Nat) x, xs[j]? = some x -> w.cell? ⟨bk, o + j, none⟩ = some (.string x)) (hbk : bk < w.heap.size) (hN : xs.length <= 140737488355328) (hcap : xs.length <= c) (hlen : (Lib.join (xs.map (·.data.toList)) sep.data.toList).length <= 140737488355328) :
 Calls Tryz.prog 300 #[.slice (some ⟨bk, o, none⟩) xs.length c, .string sep] w fun e w' => e = .returned (.string ⟨(Lib.join (xs.map (·.data.toList)) sep.data.toList).toArray⟩) /\ Below w.heap.size w w' := Any.strings_Join Tryz.lays156 Tryz.Builder_Extra_156 bk o c xs sep w hcells hbk hN hcap hlen
def Tryz.laysM171_ren : Go.Shelf.Ren := ⟨fun | 171 => 242 | 243 => 298 | 246 => 332 | 283 => 353 | 284 => 354 | 285 => 355 | 286 => 356 | 129 => 375 | 317 => 385 | 318 => 386 | 319 => 387 | 320 => 388 | 337 => 401 | 338 => 402 | n => n, fun | 3 => 3 | 9 => 9 | 2 => 2 | 4 => 4 | 171 => 380 | 0 => 0 | 53 => 359 | 37 => 197 | 5 => 5 | 173 => 383 | 212 => 406 | 51 => 353 | 20 => 20 | 213 => 407 | 46 => 320 | 232 => 426 | 233 => 427 | n => n, fun | 17 => 3 | 18 => 6 | 19 => 7 | n => n⟩
theorem Tryz.laysM171 : Go.Proofs.LaysM.n171 Tryz.prog Tryz.laysM171_ren := {
 mixed := by kernel_rfl
 f129 := Tryz.func375.trans (congrArg some (by kernel_rfl))
 f171 := Tryz.func242.trans (congrArg some (by kernel_rfl))
 f243 := Tryz.func298.trans (congrArg some (by kernel_rfl))
 f246 := Tryz.func332.trans (congrArg some (by kernel_rfl))
 f283 := Tryz.func353.trans (congrArg some (by kernel_rfl))
 f284 := Tryz.func354.trans (congrArg some (by kernel_rfl))
 f285 := Tryz.func355.trans (congrArg some (by kernel_rfl))
 f286 := Tryz.func356.trans (congrArg some (by kernel_rfl))
 f317 := Tryz.func385.trans (congrArg some (by kernel_rfl))
 f318 := Tryz.func386.trans (congrArg some (by kernel_rfl))
 f319 := Tryz.func387.trans (congrArg some (by kernel_rfl))
 f320 := Tryz.func388.trans (congrArg some (by kernel_rfl))
 f337 := Tryz.func401.trans (congrArg some (by kernel_rfl))
 f338 := Tryz.func402.trans (congrArg some (by kernel_rfl))
 t0 := Tryz.underlying0
 a0 := Tryz.isAgg0
 z0 := Tryz.sizeOf0
 v0 := Tryz.zeroValue0
 t2 := Tryz.underlying2
 a2 := Tryz.isAgg2
 z2 := Tryz.sizeOf2
 v2 := Tryz.zeroValue2
 t3 := Tryz.underlying3
 a3 := Tryz.isAgg3
 z3 := Tryz.sizeOf3
 v3 := Tryz.zeroValue3
 t4 := Tryz.underlying4
 a4 := Tryz.isAgg4
 z4 := Tryz.sizeOf4
 v4 := Tryz.zeroValue4
 t5 := Tryz.underlying5
 a5 := Tryz.isAgg5
 z5 := Tryz.sizeOf5
 v5 := Tryz.zeroValue5
 t9 := Tryz.underlying9
 a9 := Tryz.isAgg9
 z9 := Tryz.sizeOf9
 v9 := Tryz.zeroValue9
 t20 := Tryz.underlying20
 a20 := Tryz.isAgg20
 z20 := Tryz.sizeOf20
 v20 := Tryz.zeroValue20
 t37 := Tryz.underlying197
 a37 := Tryz.isAgg197
 z37 := Tryz.sizeOf197
 v37 := Tryz.zeroValue197
 t46 := Tryz.underlying320
 a46 := Tryz.isAgg320
 z46 := Tryz.sizeOf320
 v46 := Tryz.zeroValue320
 t51 := Tryz.underlying353
 a51 := Tryz.isAgg353
 z51 := Tryz.sizeOf353
 v51 := Tryz.zeroValue353
 t53 := Tryz.underlying359
 a53 := Tryz.isAgg359
 z53 := Tryz.sizeOf359
 v53 := Tryz.zeroValue359
 t171 := Tryz.underlying380
 a171 := Tryz.isAgg380
 z171 := Tryz.sizeOf380
 v171 := Tryz.zeroValue380
 t173 := Tryz.underlying383
 a173 := Tryz.isAgg383
 z173 := Tryz.sizeOf383
 v173 := Tryz.zeroValue383
 t212 := Tryz.underlying406
 a212 := Tryz.isAgg406
 z212 := Tryz.sizeOf406
 v212 := Tryz.zeroValue406
 t213 := Tryz.underlying407
 a213 := Tryz.isAgg407
 z213 := Tryz.sizeOf407
 t232 := Tryz.underlying426
 a232 := Tryz.isAgg426
 z232 := Tryz.sizeOf426
 v232 := Tryz.zeroValue426
 t233 := Tryz.underlying427
 a233 := Tryz.isAgg427
 z233 := Tryz.sizeOf427
 v233 := Tryz.zeroValue427
 g17 := by kernel_rfl
 g18 := by kernel_rfl
 g19 := by kernel_rfl
 i0 := by kernel_rfl
 i2 := by kernel_rfl
 i3 := by kernel_rfl
 i4 := by kernel_rfl
 i5 := by kernel_rfl
 i9 := by kernel_rfl
 i20 := by kernel_rfl
 i37 := by kernel_rfl
 i46 := by kernel_rfl
 i51 := by kernel_rfl
 i53 := by kernel_rfl
 i171 := by kernel_rfl
 i173 := by kernel_rfl
 i212 := by kernel_rfl
 i232 := by kernel_rfl
 i233 := by kernel_rfl
 m17 := by kernel_rfl
 m18 := by kernel_rfl
 m19 := by kernel_rfl }
open Go.RowKit Go.Sort Go.Lib in
theorem Tryz.strconv_Itoa (n : Int) (h0 : -9223372036854775808 <= n) (h1 : n <= 9223372036854775807) (w : World) (htab : Lib.TabIs Tryz.prog w "internal/strconv.uint64pow10" .u64 Lib.pow10Tab) :
 Calls Tryz.prog 242 #[.int .i64 n] w fun e w' => e = .returned (.string ⟨(Lib.itoa n).toArray⟩) /\ ∃ k os, w' = grow (w.drewN k) os := Any.strconv_Itoa Tryz.laysM171 n h0 h1 w htab
def Tryz.laysM316_ren : Go.Shelf.Ren := ⟨fun | 316 => 239 | n => n, fun | 9 => 9 | 3 => 3 | 4 => 4 | 37 => 197 | 0 => 0 | 127 => 326 | 5 => 5 | n => n, fun | n => n⟩
theorem Tryz.laysM316 : Go.Proofs.LaysM.n316 Tryz.prog Tryz.laysM316_ren := {
 mixed := by kernel_rfl
 f316 := Tryz.func239.trans (congrArg some (by kernel_rfl))
 t0 := Tryz.underlying0
 a0 := Tryz.isAgg0
 z0 := Tryz.sizeOf0
 v0 := Tryz.zeroValue0
 t3 := Tryz.underlying3
 a3 := Tryz.isAgg3
 z3 := Tryz.sizeOf3
 v3 := Tryz.zeroValue3
 t4 := Tryz.underlying4
 a4 := Tryz.isAgg4
 z4 := Tryz.sizeOf4
 v4 := Tryz.zeroValue4
 t9 := Tryz.underlying9
 a9 := Tryz.isAgg9
 z9 := Tryz.sizeOf9
 v9 := Tryz.zeroValue9
 t37 := Tryz.underlying197
 a37 := Tryz.isAgg197
 z37 := Tryz.sizeOf197
 v37 := Tryz.zeroValue197
 t127 := Tryz.underlying326
 a127 := Tryz.isAgg326
 z127 := Tryz.sizeOf326
 v127 := Tryz.zeroValue326
 t5 := Tryz.underlying5
 a5 := Tryz.isAgg5
 z5 := Tryz.sizeOf5
 v5 := Tryz.zeroValue5
 i0 := by kernel_rfl
 i3 := by kernel_rfl
 i4 := by kernel_rfl
 i5 := by kernel_rfl
 i9 := by kernel_rfl
 i37 := by kernel_rfl
 i127 := by kernel_rfl }
open Go.RowKit in
theorem Tryz.stringslite_Clone (s : ByteArray) (w : World) (hlim : s.size <= 281474976710656) :
 Calls Tryz.prog 239 #[.string s] w fun e w' => e = .returned (.string s) /\ Below w.heap.size w w' := Any.stringslite_Clone Tryz.laysM316 s w hlim
def Tryz.laysC172_ren : Go.Shelf.Ren := ⟨fun | 172 => 168 | 244 => 240 | 245 => 241 | 247 => 293 | 279 => 294 | 280 => 295 | 281 => 296 | 282 => 297 | 287 => 330 | 316 => 239 | 171 => 242 | 205 => 331 | 321 => 351 | 322 => 352 | 243 => 298 | 246 => 332 | 283 => 353 | 284 => 354 | 285 => 355 | 286 => 356 | 129 => 375 | 317 => 385 | 318 => 386 | 319 => 387 | 320 => 388 | 337 => 401 | 338 => 402 | n => n, fun | 9 => 9 | 3 => 3 | 75 => 232 | 76 => 233 | 4 => 4 | 5 => 5 | 167 => 327 | 37 => 197 | 0 => 0 | 85 => 328 | 2 => 2 | 168 => 330 | 53 => 359 | 175 => 360 | 46 => 320 | 210 => 363 | 127 => 326 | 145 => 379 | 143 => 377 | 21 => 21 | 171 => 380 | 173 => 383 | 212 => 406 | 51 => 353 | 20 => 20 | 213 => 407 | 232 => 426 | 233 => 427 | 80 => 341 | n => n, fun | 15 => 1 | 16 => 2 | 17 => 3 | 18 => 6 | 19 => 7 | n => n⟩
theorem Tryz.laysC172 : Go.Proofs.LaysC.n172 Tryz.prog Tryz.laysC172_ren := {
 mixed := by kernel_rfl
 f129 := Tryz.func375.trans (congrArg some (by kernel_rfl))
 f171 := Tryz.func242.trans (congrArg some (by kernel_rfl))
 f172 := Tryz.func168.trans (congrArg some (by kernel_rfl))
 f205 := Tryz.func331.trans (congrArg some (by kernel_rfl))
 f243 := Tryz.func298.trans (congrArg some (by kernel_rfl))
 f244 := Tryz.func240.trans (congrArg some (by kernel_rfl))
 f245 := Tryz.func241.trans (congrArg some (by kernel_rfl))
 f246 := Tryz.func332.trans (congrArg some (by kernel_rfl))
 f247 := Tryz.func293.trans (congrArg some (by kernel_rfl))
 f279 := Tryz.func294.trans (congrArg some (by kernel_rfl))
 f280 := Tryz.func295.trans (congrArg some (by kernel_rfl))
 f281 := Tryz.func296.trans (congrArg some (by kernel_rfl))
 f282 := Tryz.func297.trans (congrArg some (by kernel_rfl))
 f283 := Tryz.func353.trans (congrArg some (by kernel_rfl))
 f284 := Tryz.func354.trans (congrArg some (by kernel_rfl))
 f285 := Tryz.func355.trans (congrArg some (by kernel_rfl))
 f286 := Tryz.func356.trans (congrArg some (by kernel_rfl))
 f287 := Tryz.func330.trans (congrArg some (by kernel_rfl))
 f316 := Tryz.func239.trans (congrArg some (by kernel_rfl))
 f317 := Tryz.func385.trans (congrArg some (by kernel_rfl))
 f318 := Tryz.func386.trans (congrArg some (by kernel_rfl))
 f319 := Tryz.func387.trans (congrArg some (by kernel_rfl))
 f320 := Tryz.func388.trans (congrArg some (by kernel_rfl))
 f321 := Tryz.func351.trans (congrArg some (by kernel_rfl))
 f322 := Tryz.func352.trans (congrArg some (by kernel_rfl))
 f337 := Tryz.func401.trans (congrArg some (by kernel_rfl))
 f338 := Tryz.func402.trans (congrArg some (by kernel_rfl))
 t0 := Tryz.underlying0
 a0 := Tryz.isAgg0
 z0 := Tryz.sizeOf0
 v0 := Tryz.zeroValue0
 t2 := Tryz.underlying2
 a2 := Tryz.isAgg2
 z2 := Tryz.sizeOf2
 v2 := Tryz.zeroValue2
 t3 := Tryz.underlying3
 a3 := Tryz.isAgg3
 z3 := Tryz.sizeOf3
 v3 := Tryz.zeroValue3
 t4 := Tryz.underlying4
 a4 := Tryz.isAgg4
 z4 := Tryz.sizeOf4
 v4 := Tryz.zeroValue4
 t5 := Tryz.underlying5
 a5 := Tryz.isAgg5
 z5 := Tryz.sizeOf5
 v5 := Tryz.zeroValue5
 t9 := Tryz.underlying9
 a9 := Tryz.isAgg9
 z9 := Tryz.sizeOf9
 v9 := Tryz.zeroValue9
 t20 := Tryz.underlying20
 a20 := Tryz.isAgg20
 z20 := Tryz.sizeOf20
 v20 := Tryz.zeroValue20
 t21 := Tryz.underlying21
 a21 := Tryz.isAgg21
 z21 := Tryz.sizeOf21
 v21 := Tryz.zeroValue21
 t37 := Tryz.underlying197
 a37 := Tryz.isAgg197
 z37 := Tryz.sizeOf197
 v37 := Tryz.zeroValue197
 t46 := Tryz.underlying320
 a46 := Tryz.isAgg320
 z46 := Tryz.sizeOf320
 v46 := Tryz.zeroValue320
 t51 := Tryz.underlying353
 a51 := Tryz.isAgg353
 z51 := Tryz.sizeOf353
 v51 := Tryz.zeroValue353
 t53 := Tryz.underlying359
 a53 := Tryz.isAgg359
 z53 := Tryz.sizeOf359
 v53 := Tryz.zeroValue359
 t75 := Tryz.underlying232
 a75 := Tryz.isAgg232
 z75 := Tryz.sizeOf232
 v75 := Tryz.zeroValue232
 t76 := Tryz.underlying233
 a76 := Tryz.isAgg233
 z76 := Tryz.sizeOf233
 v76 := Tryz.zeroValue233
 t85 := Tryz.underlying328
 a85 := Tryz.isAgg328
 z85 := Tryz.sizeOf328
 v85 := Tryz.zeroValue328
 t127 := Tryz.underlying326
 a127 := Tryz.isAgg326
 z127 := Tryz.sizeOf326
 v127 := Tryz.zeroValue326
 t143 := Tryz.underlying377
 a143 := Tryz.isAgg377
 z143 := Tryz.sizeOf377
 v143 := Tryz.zeroValue377
 t145 := Tryz.underlying379
 a145 := Tryz.isAgg379
 z145 := Tryz.sizeOf379
 v145 := Tryz.zeroValue379
 t167 := Tryz.underlying327
 a167 := Tryz.isAgg327
 z167 := Tryz.sizeOf327
 v167 := Tryz.zeroValue327
 t168 := Tryz.underlying330
 a168 := Tryz.isAgg330
 z168 := Tryz.sizeOf330
 v168 := Tryz.zeroValue330
 t171 := Tryz.underlying380
 a171 := Tryz.isAgg380
 z171 := Tryz.sizeOf380
 v171 := Tryz.zeroValue380
 t173 := Tryz.underlying383
 a173 := Tryz.isAgg383
 z173 := Tryz.sizeOf383
 v173 := Tryz.zeroValue383
 t175 := Tryz.underlying360
 a175 := Tryz.isAgg360
 z175 := Tryz.sizeOf360
 v175 := Tryz.zeroValue360
 t210 := Tryz.underlying363
 a210 := Tryz.isAgg363
 z210 := Tryz.sizeOf363
 v210 := Tryz.zeroValue363
 t212 := Tryz.underlying406
 a212 := Tryz.isAgg406
 z212 := Tryz.sizeOf406
 v212 := Tryz.zeroValue406
 t213 := Tryz.underlying407
 a213 := Tryz.isAgg407
 z213 := Tryz.sizeOf407
 t232 := Tryz.underlying426
 a232 := Tryz.isAgg426
 z232 := Tryz.sizeOf426
 v232 := Tryz.zeroValue426
 t233 := Tryz.underlying427
 a233 := Tryz.isAgg427
 z233 := Tryz.sizeOf427
 v233 := Tryz.zeroValue427
 g15 := by kernel_rfl
 g16 := by kernel_rfl
 g17 := by kernel_rfl
 g18 := by kernel_rfl
 g19 := by kernel_rfl
 t80 := Tryz.underlying341
 a80 := Tryz.isAgg341
 z80 := Tryz.sizeOf341
 v80 := Tryz.zeroValue341
 i0 := by kernel_rfl
 i2 := by kernel_rfl
 i3 := by kernel_rfl
 i4 := by kernel_rfl
 i5 := by kernel_rfl
 i9 := by kernel_rfl
 i20 := by kernel_rfl
 i21 := by kernel_rfl
 i37 := by kernel_rfl
 i46 := by kernel_rfl
 i51 := by kernel_rfl
 i53 := by kernel_rfl
 i75 := by kernel_rfl
 i76 := by kernel_rfl
 i80 := by kernel_rfl
 i85 := by kernel_rfl
 i127 := by kernel_rfl
 i143 := by kernel_rfl
 i145 := by kernel_rfl
 i167 := by kernel_rfl
 i168 := by kernel_rfl
 i171 := by kernel_rfl
 i173 := by kernel_rfl
 i175 := by kernel_rfl
 i210 := by kernel_rfl
 i212 := by kernel_rfl
 i232 := by kernel_rfl
 i233 := by kernel_rfl
 m15 := by kernel_rfl
 m16 := by kernel_rfl
 m17 := by kernel_rfl
 m18 := by kernel_rfl
 m19 := by kernel_rfl
 c0 := by kernel_rfl
 c2 := by kernel_rfl
 c3 := by kernel_rfl
 c4 := by kernel_rfl
 c5 := by kernel_rfl
 c9 := by kernel_rfl
 c20 := by kernel_rfl
 c21 := by kernel_rfl
 c37 := by kernel_rfl
 c46 := by kernel_rfl
 c51 := by kernel_rfl
 c53 := by kernel_rfl
 c75 := by kernel_rfl
 c76 := by kernel_rfl
 c80 := by kernel_rfl
 c85 := by kernel_rfl
 c127 := by kernel_rfl
 c143 := by kernel_rfl
 c145 := by kernel_rfl
 c167 := by kernel_rfl
 c168 := by kernel_rfl
 c171 := by kernel_rfl
 c173 := by kernel_rfl
 c175 := by kernel_rfl
 c210 := by kernel_rfl
 c212 := by kernel_rfl
 c213 := by kernel_rfl
 c232 := by kernel_rfl
 c233 := by kernel_rfl }
open Go.RowKit in
theorem Tryz.strconv_Atoi_ok (s : ByteArray) (hmax : s.size <= 9223372036854775806) (v : Int) (h : Lib.atoiAll s.data.toList = .ok v) (w : World) :
 Calls Tryz.prog 168 #[.string s] w fun e w' => e = .returned (.tuple #[.int .i64 v, .nilIface]) /\ (w' = w ∨ ∃ t, w' = Lib.bytesWorld w 5 t) := Any.strconv_Atoi_ok Tryz.laysC172 s hmax v h w
open Go.RowKit in
theorem Tryz.strconv_Atoi_syntax (s : ByteArray) (hlim : s.size <= 281474976710656) (h : Lib.atoiAll s.data.toList = Lib.atoiAll []) (ev : Value) (w : World) (hv : w.cell? ⟨1, 0, none⟩ = some ev) (hev : ev = .nilIface ∨ ∃ te pe, ev = .iface te pe) :
 Calls Tryz.prog 168 #[.string s] w fun e w' => ∃ N, e = .returned (.tuple #[.int .i64 (0), .iface 330 (.pointer (some ⟨N, 0, none⟩))]) /\ w.heap.size <= N /\ w'.heap[N]? = some (.cells #[.string ⟨#[65, 116, 111, 105]⟩, .string s, ev] 363 (0, 0)) /\ Below w.heap.size w w' := Any.strconv_Atoi_syntax Tryz.laysC172 s hlim h ev w hv hev
open Go.RowKit in
theorem Tryz.strconv_Atoi_range (s : ByteArray) (hlim : s.size <= 281474976710656) (h : Lib.atoiAll s.data.toList = .range) (ev : Value) (w : World) (hv : w.cell? ⟨2, 0, none⟩ = some ev) (hev : ev = .nilIface ∨ ∃ te pe, ev = .iface te pe) :
 Calls Tryz.prog 168 #[.string s] w fun e w' => ∃ N, e = .returned (.tuple #[.int .i64 (Lib.atoiSat s.data.toList), .iface 330 (.pointer (some ⟨N, 0, none⟩))]) /\ w.heap.size <= N /\ w'.heap[N]? = some (.cells #[.string ⟨#[65, 116, 111, 105]⟩, .string s, ev] 363 (0, 0)) /\ Below w.heap.size w w' := Any.strconv_Atoi_range Tryz.laysC172 s hlim h ev w hv hev
def Tryz.lays145_ren : Go.Shelf.Ren := ⟨fun | 145 => 166 | 220 => 238 | 219 => 207 | 217 => 277 | 225 => 278 | 224 => 279 | 267 => 280 | 266 => 323 | 314 => 324 | n => n, fun | 9 => 9 | 4 => 4 | 59 => 228 | 3 => 3 | 5 => 5 | 46 => 320 | 146 => 354 | 51 => 353 | n => n, fun | 1 => 0 | n => n⟩
theorem Tryz.lays145 : Go.Proofs.Lays.n145 Tryz.prog Tryz.lays145_ren := {
 mixed := by kernel_rfl
 f145 := Tryz.func166.trans (congrArg some (by kernel_rfl))
 f217 := Tryz.func277.trans (congrArg some (by kernel_rfl))
 f219 := Tryz.func207.trans (congrArg some (by kernel_rfl))
 f220 := Tryz.func238.trans (congrArg some (by kernel_rfl))
 f224 := Tryz.func279.trans (congrArg some (by kernel_rfl))
 f225 := Tryz.func278.trans (congrArg some (by kernel_rfl))
 f266 := Tryz.func323.trans (congrArg some (by kernel_rfl))
 f267 := Tryz.func280.trans (congrArg some (by kernel_rfl))
 f314 := Tryz.func324.trans (congrArg some (by kernel_rfl))
 t3 := Tryz.underlying3
 a3 := Tryz.isAgg3
 z3 := Tryz.sizeOf3
 v3 := Tryz.zeroValue3
 t4 := Tryz.underlying4
 a4 := Tryz.isAgg4
 z4 := Tryz.sizeOf4
 v4 := Tryz.zeroValue4
 t5 := Tryz.underlying5
 a5 := Tryz.isAgg5
 z5 := Tryz.sizeOf5
 v5 := Tryz.zeroValue5
 t9 := Tryz.underlying9
 a9 := Tryz.isAgg9
 z9 := Tryz.sizeOf9
 v9 := Tryz.zeroValue9
 t46 := Tryz.underlying320
 a46 := Tryz.isAgg320
 z46 := Tryz.sizeOf320
 v46 := Tryz.zeroValue320
 t51 := Tryz.underlying353
 a51 := Tryz.isAgg353
 z51 := Tryz.sizeOf353
 v51 := Tryz.zeroValue353
 t59 := Tryz.underlying228
 a59 := Tryz.isAgg228
 z59 := Tryz.sizeOf228
 v59 := Tryz.zeroValue228
 t146 := Tryz.underlying354
 a146 := Tryz.isAgg354
 z146 := Tryz.sizeOf354
 v146 := Tryz.zeroValue354
 g1 := by kernel_rfl }
open Go.RowKit Go.Lib in
theorem Tryz.strings_Cut (s sep : ByteArray) (m : Int) (w : World) (hs : s.size < 4294967281) (hm : w.cell? ⟨0, 0, none⟩ = some (.int .i64 m)) :
 Calls Tryz.prog 166 #[.string s, .string sep] w fun e w' => e = .returned (.tuple #[.string ⟨(Lib.cut s.data.toList sep.data.toList).1.toArray⟩, .string ⟨(Lib.cut s.data.toList sep.data.toList).2.1.toArray⟩, .bool (Lib.cut s.data.toList sep.data.toList).2.2]) /\ ∃ n, w' = w.drewN n := Any.strings_Cut Tryz.lays145 s sep m w hs hm
def Tryz.lays146_ren : Go.Shelf.Ren := ⟨fun | 146 => 243 | 221 => 299 | 268 => 333 | 138 => 334 | 143 => 134 | 195 => 357 | 197 => 358 | 218 => 359 | 219 => 207 | 260 => 389 | 217 => 277 | 225 => 278 | 224 => 279 | 267 => 280 | 266 => 323 | 314 => 324 | n => n, fun | 9 => 9 | 31 => 35 | 3 => 3 | 4 => 4 | 0 => 0 | 105 => 385 | 21 => 21 | 5 => 5 | 46 => 320 | 119 => 419 | 139 => 422 | 138 => 421 | 146 => 354 | 51 => 353 | n => n, fun | 1 => 0 | 3 => 4 | 4 => 5 | n => n⟩
theorem Tryz.lays146 : Go.Proofs.Lays.n146 Tryz.prog Tryz.lays146_ren := {
 mixed := by kernel_rfl
 f138 := Tryz.func334.trans (congrArg some (by kernel_rfl))
 f143 := Tryz.func134.trans (congrArg some (by kernel_rfl))
 f146 := Tryz.func243.trans (congrArg some (by kernel_rfl))
 f195 := Tryz.func357.trans (congrArg some (by kernel_rfl))
 f197 := Tryz.func358.trans (congrArg some (by kernel_rfl))
 f217 := Tryz.func277.trans (congrArg some (by kernel_rfl))
 f218 := Tryz.func359.trans (congrArg some (by kernel_rfl))
 f219 := Tryz.func207.trans (congrArg some (by kernel_rfl))
 f221 := Tryz.func299.trans (congrArg some (by kernel_rfl))
 f224 := Tryz.func279.trans (congrArg some (by kernel_rfl))
 f225 := Tryz.func278.trans (congrArg some (by kernel_rfl))
 f260 := Tryz.func389.trans (congrArg some (by kernel_rfl))
 f266 := Tryz.func323.trans (congrArg some (by kernel_rfl))
 f267 := Tryz.func280.trans (congrArg some (by kernel_rfl))
 f268 := Tryz.func333.trans (congrArg some (by kernel_rfl))
 f314 := Tryz.func324.trans (congrArg some (by kernel_rfl))
 t0 := Tryz.underlying0
 a0 := Tryz.isAgg0
 z0 := Tryz.sizeOf0
 v0 := Tryz.zeroValue0
 t3 := Tryz.underlying3
 a3 := Tryz.isAgg3
 z3 := Tryz.sizeOf3
 v3 := Tryz.zeroValue3
 t4 := Tryz.underlying4
 a4 := Tryz.isAgg4
 z4 := Tryz.sizeOf4
 v4 := Tryz.zeroValue4
 t5 := Tryz.underlying5
 a5 := Tryz.isAgg5
 z5 := Tryz.sizeOf5
 v5 := Tryz.zeroValue5
 t9 := Tryz.underlying9
 a9 := Tryz.isAgg9
 z9 := Tryz.sizeOf9
 v9 := Tryz.zeroValue9
 t21 := Tryz.underlying21
 a21 := Tryz.isAgg21
 z21 := Tryz.sizeOf21
 v21 := Tryz.zeroValue21
 t31 := Tryz.underlying35
 a31 := Tryz.isAgg35
 z31 := Tryz.sizeOf35
 v31 := Tryz.zeroValue35
 t46 := Tryz.underlying320
 a46 := Tryz.isAgg320
 z46 := Tryz.sizeOf320
 v46 := Tryz.zeroValue320
 t51 := Tryz.underlying353
 a51 := Tryz.isAgg353
 z51 := Tryz.sizeOf353
 v51 := Tryz.zeroValue353
 t105 := Tryz.underlying385
 a105 := Tryz.isAgg385
 z105 := Tryz.sizeOf385
 v105 := Tryz.zeroValue385
 t119 := Tryz.underlying419
 a119 := Tryz.isAgg419
 z119 := Tryz.sizeOf419
 t138 := Tryz.underlying421
 a138 := Tryz.isAgg421
 z138 := Tryz.sizeOf421
 v138 := Tryz.zeroValue421
 t139 := Tryz.underlying422
 a139 := Tryz.isAgg422
 z139 := Tryz.sizeOf422
 v139 := Tryz.zeroValue422
 t146 := Tryz.underlying354
 a146 := Tryz.isAgg354
 z146 := Tryz.sizeOf354
 v146 := Tryz.zeroValue354
 g1 := by kernel_rfl
 g3 := by kernel_rfl
 g4 := by kernel_rfl }
open Go.RowKit Go.Lib in
theorem Tryz.strings_Split (s sep : ByteArray) (m : Int) (w : World) (hs : s.size < 4294967281) (hm : w.cell? ⟨0, 0, none⟩ = some (.int .i64 m)) (h1 : 1 <= sep.size) :
 Calls Tryz.prog 243 #[.string s, .string sep] w fun e w' =>
  e = .returned (.slice (some ⟨w.heap.size, 0, none⟩) (Lib.countB s sep + 1) (Lib.countB s sep + 1)) /\ w' = w.alloc (.cells ((Lib.splitB sep 0 (Lib.countB s sep) s).map Value.string).toArray 9) := Any.strings_Split Tryz.lays146 (by kernel_rfl) s sep m w hs hm h1
def Tryz.laysB_ren : Go.Shelf.Ren := ⟨fun | 167 => 302 | n => Tryz.lays156_ren.f n, Tryz.lays156_ren.t, Tryz.lays156_ren.g⟩
theorem Tryz.lays166 : Lays.n166 Tryz.prog Tryz.lays156_ren := { Tryz.lays156 with }
theorem Tryz.lays167 : Lays.n167 Tryz.prog Tryz.laysB_ren := {
 mixed := by kernel_rfl
 f167 := Tryz.func302.trans (congrArg some (by kernel_rfl))
 f240 := Tryz.lays156.f240
 f276 := Tryz.lays156.f276
 t0 := Tryz.lays156.t0
 a0 := Tryz.lays156.a0
 z0 := Tryz.lays156.z0
 v0 := Tryz.lays156.v0
 t4 := Tryz.lays156.t4
 a4 := Tryz.lays156.a4
 z4 := Tryz.lays156.z4
 v4 := Tryz.lays156.v4
 t5 := Tryz.Builder_Extra_156.t5
 a5 := Tryz.Builder_Extra_156.a5
 z5 := Tryz.Builder_Extra_156.z5
 v5 := Tryz.Builder_Extra_156.v5
 t9 := Tryz.lays156.t9
 a9 := Tryz.lays156.a9
 z9 := Tryz.lays156.z9
 v9 := Tryz.lays156.v9
 t20 := Tryz.lays156.t20
 a20 := Tryz.lays156.a20
 z20 := Tryz.lays156.z20
 v20 := Tryz.lays156.v20
 t37 := Tryz.lays156.t37
 a37 := Tryz.lays156.a37
 z37 := Tryz.lays156.z37
 v37 := Tryz.lays156.v37
 t70 := Tryz.lays156.t70
 a70 := Tryz.lays156.a70
 z70 := Tryz.lays156.z70
 v70 := Tryz.lays156.v70
 t72 := Tryz.lays156.t72
 a72 := Tryz.lays156.a72
 z72 := Tryz.lays156.z72
 v72 := Tryz.lays156.v72
 t75 := Tryz.lays156.t75
 a75 := Tryz.lays156.a75
 z75 := Tryz.lays156.z75
 v75 := Tryz.lays156.v75
 t164 := Tryz.lays156.t164
 a164 := Tryz.lays156.a164
 z164 := Tryz.lays156.z164
 v164 := Tryz.lays156.v164 }
theorem Tryz.Builder_Extra_B : Builder.Extra Tryz.prog Tryz.laysB_ren := {
 sizeBuilder := by kernel_rfl
 liesBuilder := by kernel_rfl
 t5 := Tryz.Builder_Extra_156.t5
 a5 := Tryz.Builder_Extra_156.a5
 z5 := Tryz.Builder_Extra_156.z5
 v5 := Tryz.Builder_Extra_156.v5
 infoByte := by kernel_rfl
 cellsByte := by kernel_rfl
 sizeByte := by kernel_rfl
 neB5 := by decide }
open Go.RowKit in
theorem Tryz.Builder_WriteString (B b : Nat) (bs : List Value) (s : ByteArray) (w : World) (h : Lib.IsBuilder 338 5 B b bs w) (hlen : bs.length + s.size <= 140737488355328) (hBw : B <= w.heap.size) :
 Calls Tryz.prog 301 #[.pointer (some ⟨b, 0, none⟩), .string s] w fun e w' => e = .returned (.tuple #[.int .i64 s.size, .nilIface]) /\ (Lib.BuilderAt 338 5 B b (.pointer (some ⟨b, 0, none⟩)) (bs ++ Lib.strCells s) w' /\ Below B w w') :=
 Any.Builder_WriteString Tryz.lays166 Tryz.Builder_Extra_156 B b bs s w h hlen hBw
open Go.RowKit in
theorem Tryz.Builder_WriteByte (B b : Nat) (bs : List Value) (c : Int) (w : World) (h : Lib.IsBuilder 338 5 B b bs w) (hlen : bs.length + 1 <= 140737488355328) (hBw : B <= w.heap.size) :
 Calls Tryz.prog 302 #[.pointer (some ⟨b, 0, none⟩), .int .u8 c] w fun e w' => e = .returned .nilIface /\ (Lib.BuilderAt 338 5 B b (.pointer (some ⟨b, 0, none⟩)) (bs ++ [.int .u8 c]) w' /\ Below B w w') :=
 Any.Builder_WriteByte Tryz.lays167 Tryz.Builder_Extra_B B b bs c w h hlen hBw
end Go.Proofs
namespace Go.Proofs.YtdjkdcokjoiokaaGreatDoor
open Go.RowKit
namespace Pm
theorem if_yes {c : Prop} [Decidable c] {a b : Prop} (hc : c) (h : a) : if c then a else b := by rw [if_pos hc]; exact h
end Pm
end Go.Proofs.YtdjkdcokjoiokaaGreatDoor
namespace Go.Proofs
open Go.Shelf
def Tryz.lays106_ren : Go.Shelf.Ren := ⟨fun | 106 => 320 | 213 => 348 | 265 => 376 | n => n, fun | 9 => 9 | 3 => 3 | n => n, fun | n => n⟩
theorem Tryz.lays106 : Go.Proofs.Lays.n106 Tryz.prog Tryz.lays106_ren := {
 mixed := by kernel_rfl
 f106 := Tryz.func320.trans (congrArg some (by kernel_rfl))
 f213 := Tryz.func348.trans (congrArg some (by kernel_rfl))
 f265 := Tryz.func376.trans (congrArg some (by kernel_rfl))
 t3 := Tryz.underlying3
 a3 := Tryz.isAgg3
 z3 := Tryz.sizeOf3
 v3 := Tryz.zeroValue3
 t9 := Tryz.underlying9
 a9 := Tryz.isAgg9
 z9 := Tryz.sizeOf9
 v9 := Tryz.zeroValue9 }
open Go.RowKit in
theorem Tryz.strings_Compare (a b : ByteArray) (w : World) :
 Calls Tryz.prog 320 #[.string a, .string b] w fun e w' => e = .returned (.int .i64 (Lib.compareBytes a.data.toList b.data.toList)) /\ w' = w := Any.strings_Compare Tryz.lays106 a b w
def Tryz.laysGw15_ren : Go.Shelf.Ren := ⟨fun | 15 => 325 | 20 => 350 | n => n, fun | 9 => 9 | 23 => 357 | 3 => 3 | 4 => 4 | 0 => 0 | 21 => 21 | n => n, fun | n => n⟩
theorem Tryz.laysGw15 : Go.Proofs.LaysGw.n15 Tryz.prog Tryz.laysGw15_ren := {
 mixed := by kernel_rfl
 f15 := Tryz.func325.trans (congrArg some (by kernel_rfl))
 f20 := Tryz.func350.trans (congrArg some (by kernel_rfl))
 t0 := Tryz.underlying0
 a0 := Tryz.isAgg0
 z0 := Tryz.sizeOf0
 v0 := Tryz.zeroValue0
 i0 := by kernel_rfl
 t3 := Tryz.underlying3
 a3 := Tryz.isAgg3
 z3 := Tryz.sizeOf3
 v3 := Tryz.zeroValue3
 i3 := by kernel_rfl
 t4 := Tryz.underlying4
 a4 := Tryz.isAgg4
 z4 := Tryz.sizeOf4
 v4 := Tryz.zeroValue4
 i4 := by kernel_rfl
 t9 := Tryz.underlying9
 a9 := Tryz.isAgg9
 z9 := Tryz.sizeOf9
 v9 := Tryz.zeroValue9
 i9 := by kernel_rfl
 t21 := Tryz.underlying21
 a21 := Tryz.isAgg21
 z21 := Tryz.sizeOf21
 v21 := Tryz.zeroValue21
 i21 := by kernel_rfl
 t23 := Tryz.underlying357
 a23 := Tryz.isAgg357
 z23 := Tryz.sizeOf357
 v23 := Tryz.zeroValue357
 i23 := by kernel_rfl }
open Go.RowKit Go.Lib in
theorem Tryz.strings_IndexFunc_runes (g : Nat) (lb : Array Value) (eg : ∀ args w, (callFunc g args).run Tryz.prog w = .ok (.enter g args) w) (p : Nat -> Bool) (s : ByteArray) (w : World) (hp : PredAtRunes Tryz.prog g lb p w) :
 Calls Tryz.prog 325 #[.string s, .func (.func g) #[] lb] w fun e w' => e = .returned (.int .i64 (Lib.idxFunc p true s)) /\ Below w.heap.size w w' := Any.strings_IndexFunc_runes Tryz.laysGw15 g lb eg p s w hp
def Tryz.lays100_ren : Go.Shelf.Ren := ⟨fun | 100 => 312 | 207 => 339 | n => n, fun | 9 => 9 | 4 => 4 | 3 => 3 | n => n, fun | n => n⟩
theorem Tryz.lays100 : Go.Proofs.Lays.n100 Tryz.prog Tryz.lays100_ren := {
 mixed := by kernel_rfl
 f100 := Tryz.func312.trans (congrArg some (by kernel_rfl))
 f207 := Tryz.func339.trans (congrArg some (by kernel_rfl))
 t3 := Tryz.underlying3
 a3 := Tryz.isAgg3
 z3 := Tryz.sizeOf3
 v3 := Tryz.zeroValue3
 t4 := Tryz.underlying4
 a4 := Tryz.isAgg4
 z4 := Tryz.sizeOf4
 v4 := Tryz.zeroValue4
 t9 := Tryz.underlying9
 a9 := Tryz.isAgg9
 z9 := Tryz.sizeOf9
 v9 := Tryz.zeroValue9 }
open Go.RowKit Go.Lib in
theorem Tryz.strings_HasSuffix (s p : ByteArray) (w : World) (hs : s.size <= 9223372036854775807) :
 Calls Tryz.prog 312 #[.string s, .string p] w fun e w' => e = .returned (.bool (Lib.hasSuffix s.data.toList p.data.toList)) /\ w' = w := Any.strings_HasSuffix Tryz.lays100 s p w hs
def Tryz.lays105_ren : Go.Shelf.Ren := ⟨fun | 105 => 338 | 212 => 362 | 99 => 363 | 165 => 335 | 166 => 301 | 170 => 303 | 169 => 304 | 263 => 391 | 264 => 392 | 206 => 364 | 240 => 336 | 241 => 360 | 276 => 361 | 277 => 390 | n => n, fun | 9 => 9 | 3 => 3 | 4 => 4 | 20 => 20 | 0 => 0 | 46 => 320 | 109 => 389 | 5 => 5 | 72 => 338 | 76 => 233 | 51 => 353 | 146 => 354 | 53 => 359 | 148 => 410 | 70 => 336 | 37 => 197 | 75 => 232 | 127 => 326 | 164 => 387 | 80 => 341 | n => n, fun | n => n⟩
theorem Tryz.lays105 : Go.Proofs.Lays.n105 Tryz.prog Tryz.lays105_ren := {
 mixed := by kernel_rfl
 f99 := Tryz.func363.trans (congrArg some (by kernel_rfl))
 f105 := Tryz.func338.trans (congrArg some (by kernel_rfl))
 f165 := Tryz.func335.trans (congrArg some (by kernel_rfl))
 f166 := Tryz.func301.trans (congrArg some (by kernel_rfl))
 f169 := Tryz.func304.trans (congrArg some (by kernel_rfl))
 f170 := Tryz.func303.trans (congrArg some (by kernel_rfl))
 f206 := Tryz.func364.trans (congrArg some (by kernel_rfl))
 f212 := Tryz.func362.trans (congrArg some (by kernel_rfl))
 f240 := Tryz.func336.trans (congrArg some (by kernel_rfl))
 f241 := Tryz.func360.trans (congrArg some (by kernel_rfl))
 f263 := Tryz.func391.trans (congrArg some (by kernel_rfl))
 f264 := Tryz.func392.trans (congrArg some (by kernel_rfl))
 f276 := Tryz.func361.trans (congrArg some (by kernel_rfl))
 f277 := Tryz.func390.trans (congrArg some (by kernel_rfl))
 t0 := Tryz.underlying0
 a0 := Tryz.isAgg0
 z0 := Tryz.sizeOf0
 v0 := Tryz.zeroValue0
 t3 := Tryz.underlying3
 a3 := Tryz.isAgg3
 z3 := Tryz.sizeOf3
 v3 := Tryz.zeroValue3
 t4 := Tryz.underlying4
 a4 := Tryz.isAgg4
 z4 := Tryz.sizeOf4
 v4 := Tryz.zeroValue4
 t5 := Tryz.underlying5
 a5 := Tryz.isAgg5
 z5 := Tryz.sizeOf5
 v5 := Tryz.zeroValue5
 t9 := Tryz.underlying9
 a9 := Tryz.isAgg9
 z9 := Tryz.sizeOf9
 v9 := Tryz.zeroValue9
 t20 := Tryz.underlying20
 a20 := Tryz.isAgg20
 z20 := Tryz.sizeOf20
 v20 := Tryz.zeroValue20
 t37 := Tryz.underlying197
 a37 := Tryz.isAgg197
 z37 := Tryz.sizeOf197
 v37 := Tryz.zeroValue197
 t46 := Tryz.underlying320
 a46 := Tryz.isAgg320
 z46 := Tryz.sizeOf320
 v46 := Tryz.zeroValue320
 t51 := Tryz.underlying353
 a51 := Tryz.isAgg353
 z51 := Tryz.sizeOf353
 v51 := Tryz.zeroValue353
 t53 := Tryz.underlying359
 a53 := Tryz.isAgg359
 z53 := Tryz.sizeOf359
 v53 := Tryz.zeroValue359
 t70 := Tryz.underlying336
 a70 := Tryz.isAgg336
 z70 := Tryz.sizeOf336
 v70 := Tryz.zeroValue336
 t72 := Tryz.underlying338
 a72 := Tryz.isAgg338
 z72 := Tryz.sizeOf338
 v72 := Tryz.zeroValue338
 t75 := Tryz.underlying232
 a75 := Tryz.isAgg232
 z75 := Tryz.sizeOf232
 v75 := Tryz.zeroValue232
 t76 := Tryz.underlying233
 a76 := Tryz.isAgg233
 z76 := Tryz.sizeOf233
 v76 := Tryz.zeroValue233
 t109 := Tryz.underlying389
 a109 := Tryz.isAgg389
 z109 := Tryz.sizeOf389
 v109 := Tryz.zeroValue389
 t127 := Tryz.underlying326
 a127 := Tryz.isAgg326
 z127 := Tryz.sizeOf326
 v127 := Tryz.zeroValue326
 t146 := Tryz.underlying354
 a146 := Tryz.isAgg354
 z146 := Tryz.sizeOf354
 v146 := Tryz.zeroValue354
 t148 := Tryz.underlying410
 a148 := Tryz.isAgg410
 z148 := Tryz.sizeOf410
 v148 := Tryz.zeroValue410
 t164 := Tryz.underlying387
 a164 := Tryz.isAgg387
 z164 := Tryz.sizeOf387
 v164 := Tryz.zeroValue387 }
theorem Tryz.Builder_Extra_105 : Builder.Extra Tryz.prog Tryz.lays105_ren := {
 sizeBuilder := by kernel_rfl
 liesBuilder := by kernel_rfl
 t5 := Tryz.underlying5
 a5 := Tryz.isAgg5
 z5 := Tryz.sizeOf5
 v5 := Tryz.zeroValue5
 infoByte := by kernel_rfl
 cellsByte := by kernel_rfl
 sizeByte := by kernel_rfl
 neB5 := by decide }
open Go.RowKit Go.Lib in
theorem Tryz.strings_Repeat (s : ByteArray) (c : Nat) (w : World) (hc : c <= 9223372036854775807) (hlen : s.size * c <= 140737488355328) :
 Calls Tryz.prog 338 #[.string s, .int .i64 c] w fun e w' => e = .returned (.string ⟨(Lib.repeatL s.data.toList c).toArray⟩) /\ Below w.heap.size w w' := Any.strings_Repeat Tryz.lays105 Tryz.Builder_Extra_105 s c w hc hlen
end Go.Proofs

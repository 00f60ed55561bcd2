/- Part 27 of seek_card: contracts, walks, laws; no condition beyond the statement's. -/
import Derived.Test.YtdjkdcokjoiokaaGreatDoorW03
import Derived.Shelf.Strings.Builder1
import Derived.Shelf.Strings.Builder2
import Derived.Shelf.Strings.OnBuilder
import Derived.Shelf.Small.Bits
import Derived.Shelf.Small.Strs
import Derived.Shelf.Strings.BuilderF
import Derived.Shelf.Strconv.Atoi
import Derived.Shelf.Strconv.Itoa0
import Derived.Shelf.Strconv.Itoa1
import Derived.Shelf.LaysM
import Derived.Shelf.Strconv.Itoa2
import Derived.Shelf.Strconv.Itoa3
import Derived.Shelf.Strconv.AtoiErrFast
import Derived.Shelf.Strconv.ParseIntEmpty
import Derived.Shelf.Strconv.AtoiFail
import Derived.Shelf.Strconv.Clone
import Derived.Shelf.Strconv.SyntaxError
import Derived.Shelf.LaysC
import Derived.Shelf.Strconv.ToError
import Derived.Shelf.Strconv.Lower
import Derived.Shelf.Strconv.ParseUint10
import Derived.Shelf.Strconv.ParseUint10Empty
import Derived.Shelf.Strconv.ParseUint10Any
import Derived.Shelf.Strconv.ParseInt10
import Derived.Shelf.Strconv.AtoiLong
import Derived.Shelf.Strconv.AtoiInnerAll
import Derived.Shelf.Strconv.RangeError
import Derived.Shelf.Strconv.ToErrorRange
import Derived.Shelf.Strconv.AtoiAll
import Derived.Shelf.Strings.Search1
import Derived.Shelf.Strings.Search2
import Derived.Shelf.Strings.Search3
import Derived.Shelf.Strings.Cut
import Derived.Shelf.Strings.Count
import Derived.Shelf.Strings.Shaped
import Derived.Shelf.GgClosure.StringsIndexFunc
import Derived.Ground.GgwProg
import Derived.Shelf.GgClosure.StringsIndexFuncTop
import Derived.Shelf.GgClosure.StringsRunes
import Derived.Shelf.Strings.Prefix
import Derived.Shelf.Strings.Split
import Derived.Shelf.Bits.Mul64
import Derived.Shelf.Strings.Repeat
import Derived.Shelf.Unicode.DecodeSlow
import Derived.Shelf.Unicode.DecodeAny
import Derived.Ground.SlgnProg
import Derived.Shelf.SlicesE.Clone
import Derived.Shelf.SlSortCmp.WholeK
import Derived.Deep.QuietTactic
import Derived.BigQuiet
import Derived.Deep.RegionHeld3
import Derived.KernelRfl
import Derived.Shelf.Utf8.RuneCount
import Derived.Shelf.Strings.SplitShaped
import Derived.Shelf.Unicode.Decode
import Derived.Shelf.Strings.RuneCount
import Derived.Shelf.Strings.Explode
import Derived.Ground.Names2Prog
import Derived.Shelf.Slices.Clone
import Derived.Shelf.Slices.SearchI
set_option linter.all false
set_option maxRecDepth 100000
set_option maxHeartbeats 1000000
namespace Go.Proofs
open Go.Shelf
def Tryz.lays106_ren : Go.Shelf.Ren := ⟨fun | 106 => 320 | 213 => 348 | 265 => 376 | n => n, fun | 9 => 9 | 3 => 3 | n => n, fun | n => n⟩
theorem Tryz.lays106 : Go.Proofs.Lays.n106 Tryz.prog Tryz.lays106_ren := {
 mixed := by kernel_rfl
 f106 := Tryz.func320.trans (congrArg some (by kernel_rfl))
 f213 := Tryz.func348.trans (congrArg some (by kernel_rfl))
 f265 := Tryz.func376.trans (congrArg some (by kernel_rfl))
 t3 := Tryz.underlying3
 a3 := Tryz.isAgg3
 z3 := Tryz.sizeOf3
 v3 := Tryz.zeroValue3
 t9 := Tryz.underlying9
 a9 := Tryz.isAgg9
 z9 := Tryz.sizeOf9
 v9 := Tryz.zeroValue9 }
open Go.RowKit in
theorem Tryz.strings_Compare (a b : ByteArray) (w : World) :
 Calls Tryz.prog 320 #[.string a, .string b] w fun e w' => e = .returned (.int .i64 (Lib.compareBytes a.data.toList b.data.toList)) /\ w' = w := Any.strings_Compare Tryz.lays106 a b w
def Tryz.laysGw15_ren : Go.Shelf.Ren := ⟨fun | 15 => 325 | 20 => 350 | n => n, fun | 9 => 9 | 23 => 357 | 3 => 3 | 4 => 4 | 0 => 0 | 21 => 21 | n => n, fun | n => n⟩
theorem Tryz.laysGw15 : Go.Proofs.LaysGw.n15 Tryz.prog Tryz.laysGw15_ren := {
 mixed := by kernel_rfl
 f15 := Tryz.func325.trans (congrArg some (by kernel_rfl))
 f20 := Tryz.func350.trans (congrArg some (by kernel_rfl))
 t0 := Tryz.underlying0
 a0 := Tryz.isAgg0
 z0 := Tryz.sizeOf0
 v0 := Tryz.zeroValue0
 i0 := by kernel_rfl
 t3 := Tryz.underlying3
 a3 := Tryz.isAgg3
 z3 := Tryz.sizeOf3
 v3 := Tryz.zeroValue3
 i3 := by kernel_rfl
 t4 := Tryz.underlying4
 a4 := Tryz.isAgg4
 z4 := Tryz.sizeOf4
 v4 := Tryz.zeroValue4
 i4 := by kernel_rfl
 t9 := Tryz.underlying9
 a9 := Tryz.isAgg9
 z9 := Tryz.sizeOf9
 v9 := Tryz.zeroValue9
 i9 := by kernel_rfl
 t21 := Tryz.underlying21
 a21 := Tryz.isAgg21
 z21 := Tryz.sizeOf21
 v21 := Tryz.zeroValue21
 i21 := by kernel_rfl
 t23 := Tryz.underlying357
 a23 := Tryz.isAgg357
 z23 := Tryz.sizeOf357
 v23 := Tryz.zeroValue357
 i23 := by kernel_rfl }
open Go.RowKit Go.Lib in
theorem Tryz.strings_IndexFunc_runes (g : Nat) (lb : Array Value) (eg : ∀ args w, (callFunc g args).run Tryz.prog w = .ok (.enter g args) w) (p : Nat -> Bool) (s : ByteArray) (w : World) (hp : PredAtRunes Tryz.prog g lb p w) :
 Calls Tryz.prog 325 #[.string s, .func (.func g) #[] lb] w fun e w' => e = .returned (.int .i64 (Lib.idxFunc p true s)) /\ Below w.heap.size w w' := Any.strings_IndexFunc_runes Tryz.laysGw15 g lb eg p s w hp
def Tryz.lays100_ren : Go.Shelf.Ren := ⟨fun | 100 => 312 | 207 => 339 | n => n, fun | 9 => 9 | 4 => 4 | 3 => 3 | n => n, fun | n => n⟩
theorem Tryz.lays100 : Go.Proofs.Lays.n100 Tryz.prog Tryz.lays100_ren := {
 mixed := by kernel_rfl
 f100 := Tryz.func312.trans (congrArg some (by kernel_rfl))
 f207 := Tryz.func339.trans (congrArg some (by kernel_rfl))
 t3 := Tryz.underlying3
 a3 := Tryz.isAgg3
 z3 := Tryz.sizeOf3
 v3 := Tryz.zeroValue3
 t4 := Tryz.underlying4
 a4 := Tryz.isAgg4
 z4 := Tryz.sizeOf4
 v4 := Tryz.zeroValue4
 t9 := Tryz.underlying9
 a9 := Tryz.isAgg9
 z9 := Tryz.sizeOf9
 v9 := Tryz.zeroValue9 }
open Go.RowKit Go.Lib in
theorem Tryz.strings_HasSuffix (s p : ByteArray) (w : World) (hs : s.size <= 9223372036854775807) :
 Calls Tryz.prog 312 #[.string s, .string p] w fun e w' => e = .returned (.bool (Lib.hasSuffix s.data.toList p.data.toList)) /\ w' = w := Any.strings_HasSuffix Tryz.lays100 s p w hs
def Tryz.lays105_ren : Go.Shelf.Ren := ⟨fun | 105 => 338 | 212 => 362 | 99 => 363 | 165 => 335 | 166 => 301 | 170 => 303 | 169 => 304 | 263 => 391 | 264 => 392 | 206 => 364 | 240 => 336 | 241 => 360 | 276 => 361 | 277 => 390 | n => n, fun | 9 => 9 | 3 => 3 | 4 => 4 | 20 => 20 | 0 => 0 | 46 => 320 | 109 => 389 | 5 => 5 | 72 => 338 | 76 => 233 | 51 => 353 | 146 => 354 | 53 => 359 | 148 => 410 | 70 => 336 | 37 => 197 | 75 => 232 | 127 => 326 | 164 => 387 | 80 => 341 | n => n, fun | n => n⟩
theorem Tryz.lays105 : Go.Proofs.Lays.n105 Tryz.prog Tryz.lays105_ren := {
 mixed := by kernel_rfl
 f99 := Tryz.func363.trans (congrArg some (by kernel_rfl))
 f105 := Tryz.func338.trans (congrArg some (by kernel_rfl))
 f165 := Tryz.func335.trans (congrArg some (by kernel_rfl))
 f166 := Tryz.func301.trans (congrArg some (by kernel_rfl))
 f169 := Tryz.func304.trans (congrArg some (by kernel_rfl))
 f170 := Tryz.func303.trans (congrArg some (by kernel_rfl))
 f206 := Tryz.func364.trans (congrArg some (by kernel_rfl))
 f212 := Tryz.func362.trans (congrArg some (by kernel_rfl))
 f240 := Tryz.func336.trans (congrArg some (by kernel_rfl))
 f241 := Tryz.func360.trans (congrArg some (by kernel_rfl))
 f263 := Tryz.func391.trans (congrArg some (by kernel_rfl))
 f264 := Tryz.func392.trans (congrArg some (by kernel_rfl))
 f276 := Tryz.func361.trans (congrArg some (by kernel_rfl))
 f277 := Tryz.func390.trans (congrArg some (by kernel_rfl))
 t0 := Tryz.underlying0
 a0 := Tryz.isAgg0
 z0 := Tryz.sizeOf0
 v0 := Tryz.zeroValue0
 t3 := Tryz.underlying3
 a3 := Tryz.isAgg3
 z3 := Tryz.sizeOf3
 v3 := Tryz.zeroValue3
 t4 := Tryz.underlying4
 a4 := Tryz.isAgg4
 z4 := Tryz.sizeOf4
 v4 := Tryz.zeroValue4
 t5 := Tryz.underlying5
 a5 := Tryz.isAgg5
 z5 := Tryz.sizeOf5
 v5 := Tryz.zeroValue5
 t9 := Tryz.underlying9
 a9 := Tryz.isAgg9
 z9 := Tryz.sizeOf9
 v9 := Tryz.zeroValue9
 t20 := Tryz.underlying20
 a20 := Tryz.isAgg20
 z20 := Tryz.sizeOf20
 v20 := Tryz.zeroValue20
 t37 := Tryz.underlying197
 a37 := Tryz.isAgg197
 z37 := Tryz.sizeOf197
 v37 := Tryz.zeroValue197
 t46 := Tryz.underlying320
 a46 := Tryz.isAgg320
 z46 := Tryz.sizeOf320
 v46 := Tryz.zeroValue320
 t51 := Tryz.underlying353
 a51 := Tryz.isAgg353
 z51 := Tryz.sizeOf353
 v51 := Tryz.zeroValue353
 t53 := Tryz.underlying359
 a53 := Tryz.isAgg359
 z53 := Tryz.sizeOf359
 v53 := Tryz.zeroValue359
 t70 := Tryz.underlying336
 a70 := Tryz.isAgg336
 z70 := Tryz.sizeOf336
 v70 := Tryz.zeroValue336
 t72 := Tryz.underlying338
 a72 := Tryz.isAgg338
 z72 := Tryz.sizeOf338
 v72 := Tryz.zeroValue338
 t75 := Tryz.underlying232
 a75 := Tryz.isAgg232
 z75 := Tryz.sizeOf232
 v75 := Tryz.zeroValue232
 t76 := Tryz.underlying233
 a76 := Tryz.isAgg233
 z76 := Tryz.sizeOf233
 v76 := Tryz.zeroValue233
 t109 := Tryz.underlying389
 a109 := Tryz.isAgg389
 z109 := Tryz.sizeOf389
 v109 := Tryz.zeroValue389
 t127 := Tryz.underlying326
 a127 := Tryz.isAgg326
 z127 := Tryz.sizeOf326
 v127 := Tryz.zeroValue326
 t146 := Tryz.underlying354
 a146 := Tryz.isAgg354
 z146 := Tryz.sizeOf354
 v146 := Tryz.zeroValue354
 t148 := Tryz.underlying410
 a148 := Tryz.isAgg410
 z148 := Tryz.sizeOf410
 v148 := Tryz.zeroValue410
 t164 := Tryz.underlying387
 a164 := Tryz.isAgg387
 z164 := Tryz.sizeOf387
 v164 := Tryz.zeroValue387 }
theorem Tryz.Builder_Extra_105 : Builder.Extra Tryz.prog Tryz.lays105_ren := {
 sizeBuilder := by kernel_rfl
 liesBuilder := by kernel_rfl
 t5 := Tryz.underlying5
 a5 := Tryz.isAgg5
 z5 := Tryz.sizeOf5
 v5 := Tryz.zeroValue5
 infoByte := by kernel_rfl
 cellsByte := by kernel_rfl
 sizeByte := by kernel_rfl
 neB5 := by decide }
open Go.RowKit Go.Lib in
theorem Tryz.strings_Repeat (s : ByteArray) (c : Nat) (w : World) (hc : c <= 9223372036854775807) (hlen : s.size * c <= 140737488355328) :
 Calls Tryz.prog 338 #[.string s, .int .i64 c] w fun e w' => e = .returned (.string ⟨(Lib.repeatL s.data.toList c).toArray⟩) /\ Below w.heap.size w w' := Any.strings_Repeat Tryz.lays105 Tryz.Builder_Extra_105 s c w hc hlen
def Tryz.laysSortFunc_Found_ren : Go.Shelf.Ren := ⟨fun | 6 => 318 | 15 => 347 | 14 => 346 | 28 => 374 | 29 => 375 | 20 => 366 | 21 => 367 | 22 => 368 | 23 => 369 | 24 => 370 | 25 => 371 | 26 => 372 | 27 => 373 | 46 => 393 | 47 => 394 | 48 => 395 | 49 => 396 | 50 => 397 | 57 => 403 | n => n, fun | 22 => 116 | 24 => 126 | 25 => 350 | 3 => 3 | 39 => 320 | 0 => 0 | 53 => 353 | 55 => 359 | 4 => 4 | 46 => 394 | 45 => 393 | 50 => 47 | 5 => 5 | 9 => 9 | 66 => 412 | 70 => 305 | 76 => 423 | 77 => 315 | n => n, fun | n => n⟩
theorem Tryz.laysSortFunc_Found : Go.Proofs.SlLaysF0.n6 Tryz.prog Tryz.laysSortFunc_Found_ren := {
 mixed := by kernel_rfl
 f6 := ⟨Tryz.f318.name, by decide, Tryz.func318.trans (congrArg some (by kernel_rfl))⟩
 f14 := ⟨Tryz.f346.name, by decide, Tryz.func346.trans (congrArg some (by kernel_rfl))⟩
 f15 := Tryz.func347.trans (congrArg some (by kernel_rfl))
 f20 := ⟨Tryz.f366.name, by decide, Tryz.func366.trans (congrArg some (by kernel_rfl))⟩
 f21 := ⟨Tryz.f367.name, by decide, Tryz.func367.trans (congrArg some (by kernel_rfl))⟩
 f22 := ⟨Tryz.f368.name, by decide, Tryz.func368.trans (congrArg some (by kernel_rfl))⟩
 f23 := ⟨Tryz.f369.name, by decide, Tryz.func369.trans (congrArg some (by kernel_rfl))⟩
 f24 := ⟨Tryz.f370.name, by decide, Tryz.func370.trans (congrArg some (by kernel_rfl))⟩
 f25 := ⟨Tryz.f371.name, by decide, Tryz.func371.trans (congrArg some (by kernel_rfl))⟩
 f26 := ⟨Tryz.f372.name, by decide, Tryz.func372.trans (congrArg some (by kernel_rfl))⟩
 f27 := ⟨Tryz.f373.name, by decide, Tryz.func373.trans (congrArg some (by kernel_rfl))⟩
 f28 := Tryz.func374.trans (congrArg some (by kernel_rfl))
 f29 := Tryz.func375.trans (congrArg some (by kernel_rfl))
 f46 := ⟨Tryz.f393.name, by decide, Tryz.func393.trans (congrArg some (by kernel_rfl))⟩
 f47 := Tryz.func394.trans (congrArg some (by kernel_rfl))
 f48 := Tryz.func395.trans (congrArg some (by kernel_rfl))
 f49 := ⟨Tryz.f396.name, by decide, Tryz.func396.trans (congrArg some (by kernel_rfl))⟩
 f50 := ⟨Tryz.f397.name, by decide, Tryz.func397.trans (congrArg some (by kernel_rfl))⟩
 f57 := ⟨Tryz.f403.name, by decide, Tryz.func403.trans (congrArg some (by kernel_rfl))⟩
 t0 := Tryz.underlying0
 a0 := Tryz.isAgg0
 z0 := Tryz.sizeOf0
 v0 := Tryz.zeroValue0
 t3 := Tryz.underlying3
 a3 := Tryz.isAgg3
 z3 := Tryz.sizeOf3
 v3 := Tryz.zeroValue3
 t4 := Tryz.underlying4
 a4 := Tryz.isAgg4
 z4 := Tryz.sizeOf4
 v4 := Tryz.zeroValue4
 t5 := Tryz.underlying5
 a5 := Tryz.isAgg5
 z5 := Tryz.sizeOf5
 v5 := Tryz.zeroValue5
 t9 := Tryz.underlying9
 a9 := Tryz.isAgg9
 z9 := Tryz.sizeOf9
 v9 := Tryz.zeroValue9
 t22 := Tryz.underlying116
 a22 := Tryz.isAgg116
 z22 := Tryz.sizeOf116
 v22 := Tryz.zeroValue116
 t25 := Tryz.underlying350
 a25 := Tryz.isAgg350
 z25 := Tryz.sizeOf350
 v25 := Tryz.zeroValue350
 t39 := Tryz.underlying320
 a39 := Tryz.isAgg320
 z39 := Tryz.sizeOf320
 v39 := Tryz.zeroValue320
 t45 := Tryz.underlying393
 a45 := Tryz.isAgg393
 z45 := Tryz.sizeOf393
 v45 := Tryz.zeroValue393
 t46 := Tryz.underlying394
 a46 := Tryz.isAgg394
 z46 := Tryz.sizeOf394
 v46 := Tryz.zeroValue394
 t50 := Tryz.underlying47
 a50 := Tryz.isAgg47
 z50 := Tryz.sizeOf47
 v50 := Tryz.zeroValue47
 t53 := Tryz.underlying353
 a53 := Tryz.isAgg353
 z53 := Tryz.sizeOf353
 v53 := Tryz.zeroValue353
 t55 := Tryz.underlying359
 a55 := Tryz.isAgg359
 z55 := Tryz.sizeOf359
 v55 := Tryz.zeroValue359
 t66 := Tryz.underlying412
 a66 := Tryz.isAgg412
 z66 := Tryz.sizeOf412
 v66 := Tryz.zeroValue412
 t70 := Tryz.underlying305
 a70 := Tryz.isAgg305
 z70 := Tryz.sizeOf305
 v70 := Tryz.zeroValue305
 t76 := Tryz.underlying423
 a76 := Tryz.isAgg423
 z76 := Tryz.sizeOf423
 v76 := Tryz.zeroValue423
 t77 := Tryz.underlying315
 a77 := Tryz.isAgg315
 z77 := Tryz.sizeOf315
 v77 := Tryz.zeroValue315 }
def Tryz.laysSortFunc_Thing_ren : Go.Shelf.Ren := ⟨fun | 6 => 321 | 15 => 347 | 14 => 349 | 28 => 374 | 29 => 375 | 20 => 377 | 21 => 378 | 22 => 379 | 23 => 380 | 24 => 381 | 25 => 382 | 26 => 383 | 27 => 384 | 46 => 398 | 47 => 394 | 48 => 395 | 49 => 399 | 50 => 400 | 57 => 404 | n => n, fun | 22 => 117 | 24 => 123 | 25 => 352 | 3 => 3 | 39 => 320 | 0 => 0 | 53 => 353 | 55 => 359 | 4 => 4 | 46 => 394 | 45 => 393 | 50 => 47 | 5 => 5 | 9 => 9 | 66 => 412 | 70 => 305 | 76 => 423 | 77 => 315 | n => n, fun | n => n⟩
theorem Tryz.laysSortFunc_Thing : Go.Proofs.SlLaysF0.n6 Tryz.prog Tryz.laysSortFunc_Thing_ren := {
 mixed := by kernel_rfl
 f6 := ⟨Tryz.f321.name, by decide, Tryz.func321.trans (congrArg some (by kernel_rfl))⟩
 f14 := ⟨Tryz.f349.name, by decide, Tryz.func349.trans (congrArg some (by kernel_rfl))⟩
 f15 := Tryz.func347.trans (congrArg some (by kernel_rfl))
 f20 := ⟨Tryz.f377.name, by decide, Tryz.func377.trans (congrArg some (by kernel_rfl))⟩
 f21 := ⟨Tryz.f378.name, by decide, Tryz.func378.trans (congrArg some (by kernel_rfl))⟩
 f22 := ⟨Tryz.f379.name, by decide, Tryz.func379.trans (congrArg some (by kernel_rfl))⟩
 f23 := ⟨Tryz.f380.name, by decide, Tryz.func380.trans (congrArg some (by kernel_rfl))⟩
 f24 := ⟨Tryz.f381.name, by decide, Tryz.func381.trans (congrArg some (by kernel_rfl))⟩
 f25 := ⟨Tryz.f382.name, by decide, Tryz.func382.trans (congrArg some (by kernel_rfl))⟩
 f26 := ⟨Tryz.f383.name, by decide, Tryz.func383.trans (congrArg some (by kernel_rfl))⟩
 f27 := ⟨Tryz.f384.name, by decide, Tryz.func384.trans (congrArg some (by kernel_rfl))⟩
 f28 := Tryz.func374.trans (congrArg some (by kernel_rfl))
 f29 := Tryz.func375.trans (congrArg some (by kernel_rfl))
 f46 := ⟨Tryz.f398.name, by decide, Tryz.func398.trans (congrArg some (by kernel_rfl))⟩
 f47 := Tryz.func394.trans (congrArg some (by kernel_rfl))
 f48 := Tryz.func395.trans (congrArg some (by kernel_rfl))
 f49 := ⟨Tryz.f399.name, by decide, Tryz.func399.trans (congrArg some (by kernel_rfl))⟩
 f50 := ⟨Tryz.f400.name, by decide, Tryz.func400.trans (congrArg some (by kernel_rfl))⟩
 f57 := ⟨Tryz.f404.name, by decide, Tryz.func404.trans (congrArg some (by kernel_rfl))⟩
 t0 := Tryz.underlying0
 a0 := Tryz.isAgg0
 z0 := Tryz.sizeOf0
 v0 := Tryz.zeroValue0
 t3 := Tryz.underlying3
 a3 := Tryz.isAgg3
 z3 := Tryz.sizeOf3
 v3 := Tryz.zeroValue3
 t4 := Tryz.underlying4
 a4 := Tryz.isAgg4
 z4 := Tryz.sizeOf4
 v4 := Tryz.zeroValue4
 t5 := Tryz.underlying5
 a5 := Tryz.isAgg5
 z5 := Tryz.sizeOf5
 v5 := Tryz.zeroValue5
 t9 := Tryz.underlying9
 a9 := Tryz.isAgg9
 z9 := Tryz.sizeOf9
 v9 := Tryz.zeroValue9
 t22 := Tryz.underlying117
 a22 := Tryz.isAgg117
 z22 := Tryz.sizeOf117
 v22 := Tryz.zeroValue117
 t25 := Tryz.underlying352
 a25 := Tryz.isAgg352
 z25 := Tryz.sizeOf352
 v25 := Tryz.zeroValue352
 t39 := Tryz.underlying320
 a39 := Tryz.isAgg320
 z39 := Tryz.sizeOf320
 v39 := Tryz.zeroValue320
 t45 := Tryz.underlying393
 a45 := Tryz.isAgg393
 z45 := Tryz.sizeOf393
 v45 := Tryz.zeroValue393
 t46 := Tryz.underlying394
 a46 := Tryz.isAgg394
 z46 := Tryz.sizeOf394
 v46 := Tryz.zeroValue394
 t50 := Tryz.underlying47
 a50 := Tryz.isAgg47
 z50 := Tryz.sizeOf47
 v50 := Tryz.zeroValue47
 t53 := Tryz.underlying353
 a53 := Tryz.isAgg353
 z53 := Tryz.sizeOf353
 v53 := Tryz.zeroValue353
 t55 := Tryz.underlying359
 a55 := Tryz.isAgg359
 z55 := Tryz.sizeOf359
 v55 := Tryz.zeroValue359
 t66 := Tryz.underlying412
 a66 := Tryz.isAgg412
 z66 := Tryz.sizeOf412
 v66 := Tryz.zeroValue412
 t70 := Tryz.underlying305
 a70 := Tryz.isAgg305
 z70 := Tryz.sizeOf305
 v70 := Tryz.zeroValue305
 t76 := Tryz.underlying423
 a76 := Tryz.isAgg423
 z76 := Tryz.sizeOf423
 v76 := Tryz.zeroValue423
 t77 := Tryz.underlying315
 a77 := Tryz.isAgg315
 z77 := Tryz.sizeOf315
 v77 := Tryz.zeroValue315 }
end Go.Proofs
namespace Go.Proofs.YtdjkdcokjoiokaaGreatDoor
open Go.RowKit
namespace Pm
open Pl (dec dch)
def mt (k : Nat) : Str := 109 :: dec k
theorem QmG (k : Nat) (w : World) (h0 : 0 < k) (h1 : k <= 4294967296) :
 Calls Tryz.prog 76 #[.int .i64 k] w fun e w' => e = .returned (vstr (mt k)) /\ Below w.heap.size w w' := by
 go_enter Tryz.func76, Tryz.ntmps76
 go_wp2
 go_loopw [0, 3] (fun kv ov wr => ∃ (n : Nat) (out : Str), n <= k /\ kv = .int .i64 n /\ ov = vstr out /\ Hid (dec k = if n = 0 then out else dec n ++ out) /\ out.length + n <= k /\ Below w.heap.size w wr) (fun kv _ _ => (intOf kv).toNat)
 case atStart => exact ⟨k, [], by omega, rfl, rfl, hid (by rw [if_neg (by omega)]; simp), by simp, Below.refl _ _⟩
 case round =>
  obtain ⟨n, out, hn, rfl, rfl, Hd, hl, hbel⟩ := hrel
  by_cases hz : 0 < n
  ·simp only [vstr]
   have hd : ((dch (n % 10)).toNat : Int) = 48 + (n : Int) % 10 := by rw [Pl.Qda (by omega)]; omega
   have hcv := run_convert_bytes_back (P := Tryz.prog) (wr.alloc (.cells #[.int .u8 (48 + (n : Int) % 10)] 5)) 197 9 5 ⟨wr.heap.size, 0, none⟩ 1 [dch (n % 10)] Tryz.underlying197 Tryz.underlying5 Tryz.underlying9 (by
    intro j hj;have : j = 0 := by simp at hj; exact hj
    subst this;simp only [Addr.add, List.getElem_cons_zero, if_true];rw [hd]
    exact (Row.new wr #[.int .u8 (48 + (n : Int) % 10)] 5).get 0 rfl)
   have hba := Qes [dch (n % 10)] out;have Hdd := hid hd;clear hd;simp only [List.length_singleton] at hcv
   go_wp2
   go_roundw
   case rel =>
    refine ⟨n / 10, dch (n % 10) :: out, by omega, by go_num, rfl, ?_, by simp only [List.length_cons]; omega, bal hbel _⟩;show _ = _;have hdk := Hd.out;rw [hdk, if_neg (by omega)]
    by_cases h10 : n < 10
    ·rw [if_pos (by omega), Pl.QbV h10, Nat.mod_eq_of_lt h10]; rfl
    ·rw [if_neg (by omega), Pl.Qd0 h10]; simp
   case measure => simp [intOf]; omega
  ·have hz' : n = 0 := by omega
   subst hz';simp only [vstr];have hba := Qes [109] out;have hdk := Hd.out;rw [if_pos rfl] at hdk;have Hk := hid hdk;clear hdk Hd
   go_wp2
   go_ret
   exact ⟨by rw [mt, Hk.out]; rfl, hbel⟩
theorem markText' (k : Nat) (w : World) (h0 : 0 < k) (h1 : k <= 4294967296) :
 Calls Tryz.prog 76 #[.int .i64 k] w fun e w' => e = .returned (.string ⟨(mt k).toArray⟩) /\ Below w.heap.size w w' := QmG k w h0 h1
end Pm
end Go.Proofs.YtdjkdcokjoiokaaGreatDoor
namespace Go.Proofs
open Go.Shelf
def Tryz.lays144_ren : Go.Shelf.Ren := ⟨fun | 144 => 79 | 143 => 134 | 219 => 207 | 217 => 277 | 225 => 278 | 224 => 279 | 267 => 280 | 266 => 323 | 314 => 324 | n => n, fun | 9 => 9 | 4 => 4 | 3 => 3 | 5 => 5 | 46 => 320 | 146 => 354 | 51 => 353 | n => n, fun | 1 => 0 | n => n⟩
theorem Tryz.lays144 : Go.Proofs.Lays.n144 Tryz.prog Tryz.lays144_ren := {
 mixed := by kernel_rfl
 f143 := Tryz.func134.trans (congrArg some (by kernel_rfl))
 f144 := Tryz.func79.trans (congrArg some (by kernel_rfl))
 f217 := Tryz.func277.trans (congrArg some (by kernel_rfl))
 f219 := Tryz.func207.trans (congrArg some (by kernel_rfl))
 f224 := Tryz.func279.trans (congrArg some (by kernel_rfl))
 f225 := Tryz.func278.trans (congrArg some (by kernel_rfl))
 f266 := Tryz.func323.trans (congrArg some (by kernel_rfl))
 f267 := Tryz.func280.trans (congrArg some (by kernel_rfl))
 f314 := Tryz.func324.trans (congrArg some (by kernel_rfl))
 t3 := Tryz.underlying3
 a3 := Tryz.isAgg3
 z3 := Tryz.sizeOf3
 v3 := Tryz.zeroValue3
 t4 := Tryz.underlying4
 a4 := Tryz.isAgg4
 z4 := Tryz.sizeOf4
 v4 := Tryz.zeroValue4
 t5 := Tryz.underlying5
 a5 := Tryz.isAgg5
 z5 := Tryz.sizeOf5
 v5 := Tryz.zeroValue5
 t9 := Tryz.underlying9
 a9 := Tryz.isAgg9
 z9 := Tryz.sizeOf9
 v9 := Tryz.zeroValue9
 t46 := Tryz.underlying320
 a46 := Tryz.isAgg320
 z46 := Tryz.sizeOf320
 v46 := Tryz.zeroValue320
 t51 := Tryz.underlying353
 a51 := Tryz.isAgg353
 z51 := Tryz.sizeOf353
 v51 := Tryz.zeroValue353
 t146 := Tryz.underlying354
 a146 := Tryz.isAgg354
 z146 := Tryz.sizeOf354
 v146 := Tryz.zeroValue354
 g1 := by kernel_rfl }
open Go.RowKit Go.Lib in
theorem Tryz.strings_Contains (s sub : ByteArray) (m : Int) (w : World) (hs : s.size < 4294967281) (hm : w.cell? ⟨0, 0, none⟩ = some (.int .i64 m)) :
 Calls Tryz.prog 79 #[.string s, .string sub] w fun e w' => e = .returned (.bool (Lib.contains s.data.toList sub.data.toList)) /\ w' = w := Any.strings_Contains Tryz.lays144 s sub m w hs hm
end Go.Proofs

/- Parts of the proof of ScriptRaws. -/
import Derived.Shelf.Strings.Runes
import Derived.Shelf.Strings.IndexAnyAll
import Derived.Ground.SlgmProg
import Derived.Shelf.Strings.Search1
import Derived.Shelf.Strings.Search2
import Derived.Shelf.Strings.Search3
import Derived.Shelf.Strings.Count
import Derived.Shelf.Strings.Split
import Derived.Shelf.Strings.RuneCount
import Derived.Test.YtkghejaimhoboaaGreatDoorPr01
set_option linter.unusedSimpArgs false
set_option linter.unusedVariables false
set_option maxRecDepth 100000
set_option maxHeartbeats 8000000
namespace Go.Proofs.YtkghejaimhoboaaGreatDoor
open Go.RowKit Go.Shelf Go.Proofs.Tryz
section
open Go.Shelf
def Tryz.lays152_ren:Go.Shelf.Ren:=⟨fun | 152=>280 | 137=>301 | 119=>302 | 224=>303 | 225=>304 | 217=>328 | 266=>350 | n=>n,fun | 9=>9 | 21=>21 | 3=>3 | 4=>4 | 5=>5 | 0=>0 | 46=>144 | n=>n,fun | n=>n⟩
theorem Tryz.lays152:Go.Proofs.Lays.n152 prog Tryz.lays152_ren:={
 mixed:=by kernel_rfl
 f119:=func302.trans (congrArg some (by kernel_rfl))
 f137:=func301.trans (congrArg some (by kernel_rfl))
 f152:=func280.trans (congrArg some (by kernel_rfl))
 f217:=func328.trans (congrArg some (by kernel_rfl))
 f224:=func303.trans (congrArg some (by kernel_rfl))
 f225:=func304.trans (congrArg some (by kernel_rfl))
 f266:=func350.trans (congrArg some (by kernel_rfl))
 t0:=underlying0
 a0:=Tryz.isAgg0
 z0:=Tryz.sizeOf0
 v0:=Tryz.zeroValue0
 t3:=underlying3
 a3:=Tryz.isAgg3
 z3:=Tryz.sizeOf3
 v3:=Tryz.zeroValue3
 t4:=underlying4
 a4:=Tryz.isAgg4
 z4:=Tryz.sizeOf4
 v4:=Tryz.zeroValue4
 t5:=underlying5
 a5:=Tryz.isAgg5
 z5:=Tryz.sizeOf5
 v5:=Tryz.zeroValue5
 t9:=underlying9
 a9:=Tryz.isAgg9
 z9:=Tryz.sizeOf9
 v9:=Tryz.zeroValue9
 t21:=underlying21
 a21:=Tryz.isAgg21
 z21:=Tryz.sizeOf21
 v21:=Tryz.zeroValue21
 t46:=underlying144
 a46:=Tryz.isAgg144
 z46:=Tryz.sizeOf144
 v46:=Tryz.zeroValue144}
def Tryz.lays153_ren:Go.Shelf.Ren:=⟨fun | 153=>240 | 152=>280 | 226=>281 | 227=>282 | 228=>283 | 137=>301 | 119=>302 | 224=>303 | 225=>304 | 217=>328 | 266=>350 | n=>n,fun | 9=>9 | 3=>3 | 4=>4 | 5=>5 | 21=>21 | 117=>332 | 116=>331 | 0=>0 | 46=>144 | 124=>350 | n=>n,fun | n=>n⟩
theorem Tryz.lays153:Go.Proofs.Lays.n153 prog Tryz.lays153_ren:={
 mixed:=by kernel_rfl
 f119:=func302.trans (congrArg some (by kernel_rfl))
 f137:=func301.trans (congrArg some (by kernel_rfl))
 f152:=func280.trans (congrArg some (by kernel_rfl))
 f153:=func240.trans (congrArg some (by kernel_rfl))
 f217:=func328.trans (congrArg some (by kernel_rfl))
 f224:=func303.trans (congrArg some (by kernel_rfl))
 f225:=func304.trans (congrArg some (by kernel_rfl))
 f226:=func281.trans (congrArg some (by kernel_rfl))
 f227:=func282.trans (congrArg some (by kernel_rfl))
 f228:=func283.trans (congrArg some (by kernel_rfl))
 f266:=func350.trans (congrArg some (by kernel_rfl))
 t0:=underlying0
 a0:=Tryz.isAgg0
 z0:=Tryz.sizeOf0
 v0:=Tryz.zeroValue0
 t3:=underlying3
 a3:=Tryz.isAgg3
 z3:=Tryz.sizeOf3
 v3:=Tryz.zeroValue3
 t4:=underlying4
 a4:=Tryz.isAgg4
 z4:=Tryz.sizeOf4
 v4:=Tryz.zeroValue4
 t5:=underlying5
 a5:=Tryz.isAgg5
 z5:=Tryz.sizeOf5
 v5:=Tryz.zeroValue5
 t9:=underlying9
 a9:=Tryz.isAgg9
 z9:=Tryz.sizeOf9
 v9:=Tryz.zeroValue9
 t21:=underlying21
 a21:=Tryz.isAgg21
 z21:=Tryz.sizeOf21
 v21:=Tryz.zeroValue21
 t46:=underlying144
 a46:=Tryz.isAgg144
 z46:=Tryz.sizeOf144
 v46:=Tryz.zeroValue144
 t116:=underlying331
 a116:=Tryz.isAgg331
 z116:=Tryz.sizeOf331
 t117:=underlying332
 a117:=Tryz.isAgg332
 z117:=Tryz.sizeOf332
 v117:=Tryz.zeroValue332
 t124:=underlying350
 a124:=Tryz.isAgg350
 z124:=Tryz.sizeOf350
 v124:=Tryz.zeroValue350}
end
section
open Go.Shelf
def Tryz.lays143_ren:Go.Shelf.Ren:=⟨fun | 143=>300 | 219=>327 | 217=>328 | 225=>304 | 224=>303 | 267=>349 | 266=>350 | 314=>361 | n=>n,fun | 9=>9 | 3=>3 | 4=>4 | 5=>5 | 46=>144 | 146=>409 | 51=>334 | n=>n,fun | 1=>0 | n=>n⟩
theorem Tryz.lays143:Go.Proofs.Lays.n143 prog Tryz.lays143_ren:={
 mixed:=by kernel_rfl
 f143:=func300.trans (congrArg some (by kernel_rfl))
 f217:=func328.trans (congrArg some (by kernel_rfl))
 f219:=func327.trans (congrArg some (by kernel_rfl))
 f224:=func303.trans (congrArg some (by kernel_rfl))
 f225:=func304.trans (congrArg some (by kernel_rfl))
 f266:=func350.trans (congrArg some (by kernel_rfl))
 f267:=func349.trans (congrArg some (by kernel_rfl))
 f314:=func361.trans (congrArg some (by kernel_rfl))
 t3:=underlying3
 a3:=Tryz.isAgg3
 z3:=Tryz.sizeOf3
 v3:=Tryz.zeroValue3
 t4:=underlying4
 a4:=Tryz.isAgg4
 z4:=Tryz.sizeOf4
 v4:=Tryz.zeroValue4
 t5:=underlying5
 a5:=Tryz.isAgg5
 z5:=Tryz.sizeOf5
 v5:=Tryz.zeroValue5
 t9:=underlying9
 a9:=Tryz.isAgg9
 z9:=Tryz.sizeOf9
 v9:=Tryz.zeroValue9
 t46:=underlying144
 a46:=Tryz.isAgg144
 z46:=Tryz.sizeOf144
 v46:=Tryz.zeroValue144
 t51:=underlying334
 a51:=Tryz.isAgg334
 z51:=Tryz.sizeOf334
 v51:=Tryz.zeroValue334
 t146:=underlying409
 a146:=Tryz.isAgg409
 z146:=Tryz.sizeOf409
 v146:=Tryz.zeroValue409
 g1:=by kernel_rfl}
open Go.RowKit Go.Lib in
theorem Tryz.strings_Index_one(s:ByteArray)(c:UInt8)(w:World):
  Calls prog 300 #[.string s,.string ⟨#[c]⟩] w fun e w'=>e=.returned (.int .i64 (Lib.indexByte s.data.toList c))/\w'=w:=Any.strings_Index_one Tryz.lays143 s c w
def Tryz.lays138_ren:Go.Shelf.Ren:=⟨fun | 138=>299 | 195=>324 | 218=>326 | 143=>300 | 219=>327 | 217=>328 | 225=>304 | 224=>303 | 267=>349 | 266=>350 | 314=>361 | n=>n,fun | 9=>9 | 3=>3 | 4=>4 | 5=>5 | 0=>0 | 46=>144 | 146=>409 | 51=>334 | n=>n,fun | 1=>0 | n=>n⟩
theorem Tryz.lays138:Go.Proofs.Lays.n138 prog Tryz.lays138_ren:={
 mixed:=by kernel_rfl
 f138:=func299.trans (congrArg some (by kernel_rfl))
 f143:=func300.trans (congrArg some (by kernel_rfl))
 f195:=func324.trans (congrArg some (by kernel_rfl))
 f217:=func328.trans (congrArg some (by kernel_rfl))
 f218:=func326.trans (congrArg some (by kernel_rfl))
 f219:=func327.trans (congrArg some (by kernel_rfl))
 f224:=func303.trans (congrArg some (by kernel_rfl))
 f225:=func304.trans (congrArg some (by kernel_rfl))
 f266:=func350.trans (congrArg some (by kernel_rfl))
 f267:=func349.trans (congrArg some (by kernel_rfl))
 f314:=func361.trans (congrArg some (by kernel_rfl))
 t0:=underlying0
 a0:=Tryz.isAgg0
 z0:=Tryz.sizeOf0
 v0:=Tryz.zeroValue0
 t3:=underlying3
 a3:=Tryz.isAgg3
 z3:=Tryz.sizeOf3
 v3:=Tryz.zeroValue3
 t4:=underlying4
 a4:=Tryz.isAgg4
 z4:=Tryz.sizeOf4
 v4:=Tryz.zeroValue4
 t5:=underlying5
 a5:=Tryz.isAgg5
 z5:=Tryz.sizeOf5
 v5:=Tryz.zeroValue5
 t9:=underlying9
 a9:=Tryz.isAgg9
 z9:=Tryz.sizeOf9
 v9:=Tryz.zeroValue9
 t46:=underlying144
 a46:=Tryz.isAgg144
 z46:=Tryz.sizeOf144
 v46:=Tryz.zeroValue144
 t51:=underlying334
 a51:=Tryz.isAgg334
 z51:=Tryz.sizeOf334
 v51:=Tryz.zeroValue334
 t146:=underlying409
 a146:=Tryz.isAgg409
 z146:=Tryz.sizeOf409
 v146:=Tryz.zeroValue409
 g1:=by kernel_rfl}
open Go.RowKit Go.Lib in
theorem Tryz.strings_Count_one(s:ByteArray)(c:UInt8)(w:World):
  Calls prog 299 #[.string s,.string ⟨#[c]⟩] w fun e w'=>e=.returned (.int .i64 (Lib.countByte s.data.toList c))/\w'=w:=Any.strings_Count_one Tryz.lays138 s c w
def Tryz.lays221_ren:Go.Shelf.Ren:=⟨fun | 221=>279 | 268=>298 | 138=>299 | 143=>300 | 195=>324 | 197=>325 | 218=>326 | 219=>327 | 260=>348 | 217=>328 | 225=>304 | 224=>303 | 267=>349 | 266=>350 | 314=>361 | n=>n,fun | 9=>9 | 3=>3 | 31=>50 | 4=>4 | 0=>0 | 105=>326 | 21=>21 | 5=>5 | 46=>144 | 119=>405 | 139=>408 | 138=>407 | 146=>409 | 51=>334 | n=>n,fun | 1=>0 | 3=>2 | 4=>3 | n=>n⟩
theorem Tryz.lays221:Go.Proofs.Lays.n221 prog Tryz.lays221_ren:={
 mixed:=by kernel_rfl
 f138:=func299.trans (congrArg some (by kernel_rfl))
 f143:=func300.trans (congrArg some (by kernel_rfl))
 f195:=func324.trans (congrArg some (by kernel_rfl))
 f197:=func325.trans (congrArg some (by kernel_rfl))
 f217:=func328.trans (congrArg some (by kernel_rfl))
 f218:=func326.trans (congrArg some (by kernel_rfl))
 f219:=func327.trans (congrArg some (by kernel_rfl))
 f221:=func279.trans (congrArg some (by kernel_rfl))
 f224:=func303.trans (congrArg some (by kernel_rfl))
 f225:=func304.trans (congrArg some (by kernel_rfl))
 f260:=func348.trans (congrArg some (by kernel_rfl))
 f266:=func350.trans (congrArg some (by kernel_rfl))
 f267:=func349.trans (congrArg some (by kernel_rfl))
 f268:=func298.trans (congrArg some (by kernel_rfl))
 f314:=func361.trans (congrArg some (by kernel_rfl))
 t0:=underlying0
 a0:=Tryz.isAgg0
 z0:=Tryz.sizeOf0
 v0:=Tryz.zeroValue0
 t3:=underlying3
 a3:=Tryz.isAgg3
 z3:=Tryz.sizeOf3
 v3:=Tryz.zeroValue3
 t4:=underlying4
 a4:=Tryz.isAgg4
 z4:=Tryz.sizeOf4
 v4:=Tryz.zeroValue4
 t5:=underlying5
 a5:=Tryz.isAgg5
 z5:=Tryz.sizeOf5
 v5:=Tryz.zeroValue5
 t9:=underlying9
 a9:=Tryz.isAgg9
 z9:=Tryz.sizeOf9
 v9:=Tryz.zeroValue9
 t21:=underlying21
 a21:=Tryz.isAgg21
 z21:=Tryz.sizeOf21
 v21:=Tryz.zeroValue21
 t31:=underlying50
 a31:=Tryz.isAgg50
 z31:=Tryz.sizeOf50
 v31:=Tryz.zeroValue50
 t46:=underlying144
 a46:=Tryz.isAgg144
 z46:=Tryz.sizeOf144
 v46:=Tryz.zeroValue144
 t51:=underlying334
 a51:=Tryz.isAgg334
 z51:=Tryz.sizeOf334
 v51:=Tryz.zeroValue334
 t105:=underlying326
 a105:=Tryz.isAgg326
 z105:=Tryz.sizeOf326
 v105:=Tryz.zeroValue326
 t119:=underlying405
 a119:=Tryz.isAgg405
 z119:=Tryz.sizeOf405
 t138:=underlying407
 a138:=Tryz.isAgg407
 z138:=Tryz.sizeOf407
 v138:=Tryz.zeroValue407
 t139:=underlying408
 a139:=Tryz.isAgg408
 z139:=Tryz.sizeOf408
 v139:=Tryz.zeroValue408
 t146:=underlying409
 a146:=Tryz.isAgg409
 z146:=Tryz.sizeOf409
 v146:=Tryz.zeroValue409
 g1:=by kernel_rfl
 g3:=by kernel_rfl
 g4:=by kernel_rfl}
end
end Go.Proofs.YtkghejaimhoboaaGreatDoor

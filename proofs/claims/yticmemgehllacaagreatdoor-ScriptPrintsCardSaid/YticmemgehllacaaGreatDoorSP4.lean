/- Texts that the law leans on. -/
import Derived.Test.YticmemgehllacaaGreatDoorSP3
import Derived.Test.YticmemgehllacaaGreatDoorSP2
import Derived.Shelf.Strings.OnBuilder
import Derived.Shelf.Strconv.Itoa0
import Derived.Shelf.Strconv.Itoa1
import Derived.Shelf.LaysM
import Derived.Shelf.Strconv.Itoa2
import Derived.Shelf.Strconv.Itoa3
import Derived.Shelf.Strings.Search1
import Derived.Shelf.Strings.Search3
import Derived.Shelf.Strings.Cut
import Derived.Test.YticmemgehllacaaGreatDoorProg
import Derived.Lib.IndexMore
import Derived.Laws.AppendOwn
import Derived.Laws.CopyRow
import Derived.Below
import Derived.Deep.RegionLaw
import Derived.Laws.BytesString
import Derived.Laws.IdiomStrings
import Derived.WalkKit
import Derived.WalkSpells
import Derived.WalkLawsBesides
import Derived.Lib.Walk
import Derived.BigCall
import Derived.BigGuard
import Derived.Lib.ItoaMem
import Derived.Laws.Externs
import Derived.Lib.Builder
import Derived.Lib.UnsafeStr
import Derived.Shelf.RegionOpenPlain
set_option linter.unusedVariables false
set_option linter.unusedSimpArgs false
section
namespace Go.Proofs
open Go.Shelf
def Tryz.lays156_ren:Go.Shelf.Ren:=⟨fun | 156=>376 | 165=>243 | 166=>21 | 169=>23 | 240=>54 | 241=>324 | 276=>118 | 277=>411 | n=>n,fun | 31=>57 | 9=>9 | 3=>3 | 4=>4 | 0=>0 | 20=>20 | 72=>74 | 76=>79 | 70=>72 | 37=>35 | 75=>78 | 127=>123 | 164=>213 | 5=>5 | 80=>82 | n=>n,fun | n=>n⟩
theorem Tryz.lays156:Go.Proofs.Lays.n156 Tryz.prog Tryz.lays156_ren:={
 mixed:=by kernel_rfl
 f156:=Tryz.func376.trans (congrArg some (by kernel_rfl))
 f165:=Tryz.func243.trans (congrArg some (by kernel_rfl))
 f166:=Tryz.func21.trans (congrArg some (by kernel_rfl))
 f169:=Tryz.func23.trans (congrArg some (by kernel_rfl))
 f240:=Tryz.func54.trans (congrArg some (by kernel_rfl))
 f241:=Tryz.func324.trans (congrArg some (by kernel_rfl))
 f276:=Tryz.func118.trans (congrArg some (by kernel_rfl))
 f277:=Tryz.func411.trans (congrArg some (by kernel_rfl))
 t0:=Tryz.underlying0
 a0:=Tryz.isAgg0
 z0:=Tryz.sizeOf0
 v0:=Tryz.zeroValue0
 t3:=Tryz.underlying3
 a3:=Tryz.isAgg3
 z3:=Tryz.sizeOf3
 v3:=Tryz.zeroValue3
 t4:=Tryz.underlying4
 a4:=Tryz.isAgg4
 z4:=Tryz.sizeOf4
 v4:=Tryz.zeroValue4
 t9:=Tryz.underlying9
 a9:=Tryz.isAgg9
 z9:=Tryz.sizeOf9
 v9:=Tryz.zeroValue9
 t20:=Tryz.underlying20
 a20:=Tryz.isAgg20
 z20:=Tryz.sizeOf20
 v20:=Tryz.zeroValue20
 t31:=Tryz.underlying57
 a31:=Tryz.isAgg57
 z31:=Tryz.sizeOf57
 v31:=Tryz.zeroValue57
 t37:=Tryz.underlying35
 a37:=Tryz.isAgg35
 z37:=Tryz.sizeOf35
 v37:=Tryz.zeroValue35
 t70:=Tryz.underlying72
 a70:=Tryz.isAgg72
 z70:=Tryz.sizeOf72
 v70:=Tryz.zeroValue72
 t72:=Tryz.underlying74
 a72:=Tryz.isAgg74
 z72:=Tryz.sizeOf74
 v72:=Tryz.zeroValue74
 t75:=Tryz.underlying78
 a75:=Tryz.isAgg78
 z75:=Tryz.sizeOf78
 v75:=Tryz.zeroValue78
 t76:=Tryz.underlying79
 a76:=Tryz.isAgg79
 z76:=Tryz.sizeOf79
 v76:=Tryz.zeroValue79
 t127:=Tryz.underlying123
 a127:=Tryz.isAgg123
 z127:=Tryz.sizeOf123
 v127:=Tryz.zeroValue123
 t164:=Tryz.underlying213
 a164:=Tryz.isAgg213
 z164:=Tryz.sizeOf213
 v164:=Tryz.zeroValue213 }
theorem Tryz.Builder_Extra_156:Builder.Extra Tryz.prog Tryz.lays156_ren:={
 sizeBuilder:=by kernel_rfl
 liesBuilder:=by kernel_rfl
 t5:=Tryz.underlying5
 a5:=Tryz.isAgg5
 z5:=Tryz.sizeOf5
 v5:=Tryz.zeroValue5
 infoByte:=by kernel_rfl
 cellsByte:=by kernel_rfl
 sizeByte:=by kernel_rfl
 neB5:=by decide }
open Go.RowKit in
theorem Tryz.strings_Join_none (a:Option Addr) (c:Nat) (sep:ByteArray) (w:World) :
  Calls Tryz.prog 376 #[.slice a 0 c,.string sep] w fun e w'=>e=.returned (.string ⟨#[]⟩)∧w'=w:=Any.strings_Join_none Tryz.lays156 Tryz.Builder_Extra_156 a c sep w
open Go.RowKit in
theorem Tryz.strings_Join (bk o c:Nat) (xs:List ByteArray) (sep:ByteArray) (w:World) (hcells:∀(j:Nat) x,xs[j]?=some x→w.cell? ⟨bk,o+j,none⟩=some (.string x)) (hbk:bk<w.heap.size) (hN:xs.length≤140737488355328) (hcap:xs.length≤c) (hlen:(Lib.join (xs.map (·.data.toList)) sep.data.toList).length≤140737488355328) :
  Calls Tryz.prog 376 #[.slice (some ⟨bk,o,none⟩) xs.length c,.string sep] w fun e w'=>e=.returned (.string ⟨(Lib.join (xs.map (·.data.toList)) sep.data.toList).toArray⟩)∧Below w.heap.size w w':=Any.strings_Join Tryz.lays156 Tryz.Builder_Extra_156 bk o c xs sep w hcells hbk hN hcap hlen
def Tryz.lays129_ren:Go.Shelf.Ren:=⟨fun | 129=>370 | n=>n,fun | 53=>255 | 3=>3 | 4=>4 | 46=>126 | 5=>5 | 9=>9 | n=>n,fun | n=>n⟩
theorem Tryz.lays129:Go.Proofs.Lays.n129 Tryz.prog Tryz.lays129_ren:={
 mixed:=by kernel_rfl
 f129:=Tryz.func370.trans (congrArg some (by kernel_rfl))
 t3:=Tryz.underlying3
 a3:=Tryz.isAgg3
 z3:=Tryz.sizeOf3
 v3:=Tryz.zeroValue3
 t4:=Tryz.underlying4
 a4:=Tryz.isAgg4
 z4:=Tryz.sizeOf4
 v4:=Tryz.zeroValue4
 t5:=Tryz.underlying5
 a5:=Tryz.isAgg5
 z5:=Tryz.sizeOf5
 v5:=Tryz.zeroValue5
 t9:=Tryz.underlying9
 a9:=Tryz.isAgg9
 z9:=Tryz.sizeOf9
 v9:=Tryz.zeroValue9
 t46:=Tryz.underlying126
 a46:=Tryz.isAgg126
 z46:=Tryz.sizeOf126
 v46:=Tryz.zeroValue126
 t53:=Tryz.underlying255
 a53:=Tryz.isAgg255
 z53:=Tryz.sizeOf255
 v53:=Tryz.zeroValue255 }
theorem Tryz.bits_Len64 (x:Int) (w:World) (h0:0≤x) (h1:x≤18446744073709551615) :
  Calls Tryz.prog 370 #[.int .u64 x] w fun e w'=>e=.returned (.int .i64 (Lib.bitLen x.toNat))∧w'=w:=Any.bits_Len64 Tryz.lays129 x w h0 h1
def Tryz.lays317_ren:Go.Shelf.Ren:=⟨fun | 317=>369 | n=>n,fun | 3=>3 | 46=>126 | n=>n,fun | n=>n⟩
theorem Tryz.lays317:Go.Proofs.Lays.n317 Tryz.prog Tryz.lays317_ren:={
 mixed:=by kernel_rfl
 f317:=Tryz.func369.trans (congrArg some (by kernel_rfl))
 t3:=Tryz.underlying3
 a3:=Tryz.isAgg3
 z3:=Tryz.sizeOf3
 v3:=Tryz.zeroValue3
 t46:=Tryz.underlying126
 a46:=Tryz.isAgg126
 z46:=Tryz.sizeOf126
 v46:=Tryz.zeroValue126 }
open Go.Lib in
theorem Tryz.internal_strconv_log10Pow2 (x:Nat) (h:x≤64) (w:World) :
  Calls Tryz.prog 369 #[.int .i64 x] w fun e w'=>e=.returned (.int .i64 (Lib.l10 x))∧w'=w:=Any.internal_strconv_log10Pow2 Tryz.lays317 x h w
def Tryz.lays318_ren:Go.Shelf.Ren:=⟨fun | 318=>371 | n=>n,fun | 3=>3 | 4=>4 | n=>n,fun | n=>n⟩
theorem Tryz.lays318:Go.Proofs.Lays.n318 Tryz.prog Tryz.lays318_ren:={
 mixed:=by kernel_rfl
 f318:=Tryz.func371.trans (congrArg some (by kernel_rfl))
 t3:=Tryz.underlying3
 a3:=Tryz.isAgg3
 z3:=Tryz.sizeOf3
 v3:=Tryz.zeroValue3
 t4:=Tryz.underlying4
 a4:=Tryz.isAgg4
 z4:=Tryz.sizeOf4
 v4:=Tryz.zeroValue4 }
open Go.Lib in
theorem Tryz.internal_strconv_bool2_int (b:Bool) (w:World) :
  Calls Tryz.prog 371 #[.bool b] w fun e w'=>e=.returned (.int .i64 (if b then 1 else 0))∧w'=w:=Any.internal_strconv_bool2_int Tryz.lays318 b w
def Tryz.lays285_ren:Go.Shelf.Ren:=⟨fun | 285=>293 | n=>n,fun | 37=>35 | 53=>255 | 3=>3 | 4=>4 | 51=>355 | 9=>9 | 5=>5 | 0=>0 | n=>n,fun | n=>n⟩
theorem Tryz.lays285:Go.Proofs.Lays.n285 Tryz.prog Tryz.lays285_ren:={
 mixed:=by kernel_rfl
 f285:=Tryz.func293.trans (congrArg some (by kernel_rfl))
 t0:=Tryz.underlying0
 a0:=Tryz.isAgg0
 z0:=Tryz.sizeOf0
 v0:=Tryz.zeroValue0
 t3:=Tryz.underlying3
 a3:=Tryz.isAgg3
 z3:=Tryz.sizeOf3
 v3:=Tryz.zeroValue3
 t4:=Tryz.underlying4
 a4:=Tryz.isAgg4
 z4:=Tryz.sizeOf4
 v4:=Tryz.zeroValue4
 t5:=Tryz.underlying5
 a5:=Tryz.isAgg5
 z5:=Tryz.sizeOf5
 v5:=Tryz.zeroValue5
 t9:=Tryz.underlying9
 a9:=Tryz.isAgg9
 z9:=Tryz.sizeOf9
 v9:=Tryz.zeroValue9
 t37:=Tryz.underlying35
 a37:=Tryz.isAgg35
 z37:=Tryz.sizeOf35
 v37:=Tryz.zeroValue35
 t51:=Tryz.underlying355
 a51:=Tryz.isAgg355
 z51:=Tryz.sizeOf355
 v51:=Tryz.zeroValue355
 t53:=Tryz.underlying255
 a53:=Tryz.isAgg255
 z53:=Tryz.sizeOf255
 v53:=Tryz.zeroValue255 }
open Go.RowKit Go.Sort Go.Lib in
theorem Tryz.internal_strconv_formatBase10 (blk off cap:Nat) (u:Nat) (d:Array UInt8) (w:World) (hH:Holds (fun (b:UInt8)=>Value.int .u8 (b.toNat:Int)) w blk off d) (hu:u<10 ^ d.size) (hu64:u<18446744073709551616) (hsz:d.size<4611686018427387904) :
  Calls Tryz.prog 293 #[.slice (some ⟨blk,off,none⟩) d.size cap,.int .u64 u] w fun e w'=>
   e=.returned (.tuple #[])∧∃(n v':Nat) (dk:Array UInt8),w'=(putRow (fun (b:UInt8)=>Value.int .u8 (b.toNat:Int)) w blk off dk).drewN n∧FmtInv d.size u 0 v' dk:=Any.internal_strconv_formatBase10 Tryz.lays285 blk off cap u d w hH hu hu64 hsz
def Tryz.lays171_ren:Go.Shelf.Ren:=⟨fun | 171=>52 | 243=>117 | 246=>201 | 283=>291 | 284=>292 | 285=>293 | 286=>294 | 129=>370 | 317=>369 | 318=>371 | 319=>372 | 320=>373 | 337=>438 | 338=>439 | n=>n,fun | 3=>3 | 9=>9 | 2=>2 | 4=>4 | 171=>350 | 0=>0 | 53=>255 | 37=>35 | 5=>5 | 173=>353 | 212=>430 | 51=>355 | 20=>20 | 213=>431 | 46=>126 | 232=>513 | 233=>514 | n=>n,fun | 17=>2 | 18=>5 | 19=>6 | n=>n⟩
theorem Tryz.lays171:Go.Proofs.Lays.n171 Tryz.prog Tryz.lays171_ren:={
 mixed:=by kernel_rfl
 f129:=Tryz.func370.trans (congrArg some (by kernel_rfl))
 f171:=Tryz.func52.trans (congrArg some (by kernel_rfl))
 f243:=Tryz.func117.trans (congrArg some (by kernel_rfl))
 f246:=Tryz.func201.trans (congrArg some (by kernel_rfl))
 f283:=Tryz.func291.trans (congrArg some (by kernel_rfl))
 f284:=Tryz.func292.trans (congrArg some (by kernel_rfl))
 f285:=Tryz.func293.trans (congrArg some (by kernel_rfl))
 f286:=Tryz.func294.trans (congrArg some (by kernel_rfl))
 f317:=Tryz.func369.trans (congrArg some (by kernel_rfl))
 f318:=Tryz.func371.trans (congrArg some (by kernel_rfl))
 f319:=Tryz.func372.trans (congrArg some (by kernel_rfl))
 f320:=Tryz.func373.trans (congrArg some (by kernel_rfl))
 f337:=Tryz.func438.trans (congrArg some (by kernel_rfl))
 f338:=Tryz.func439.trans (congrArg some (by kernel_rfl))
 t0:=Tryz.underlying0
 a0:=Tryz.isAgg0
 z0:=Tryz.sizeOf0
 v0:=Tryz.zeroValue0
 t2:=Tryz.underlying2
 a2:=Tryz.isAgg2
 z2:=Tryz.sizeOf2
 v2:=Tryz.zeroValue2
 t3:=Tryz.underlying3
 a3:=Tryz.isAgg3
 z3:=Tryz.sizeOf3
 v3:=Tryz.zeroValue3
 t4:=Tryz.underlying4
 a4:=Tryz.isAgg4
 z4:=Tryz.sizeOf4
 v4:=Tryz.zeroValue4
 t5:=Tryz.underlying5
 a5:=Tryz.isAgg5
 z5:=Tryz.sizeOf5
 v5:=Tryz.zeroValue5
 t9:=Tryz.underlying9
 a9:=Tryz.isAgg9
 z9:=Tryz.sizeOf9
 v9:=Tryz.zeroValue9
 t20:=Tryz.underlying20
 a20:=Tryz.isAgg20
 z20:=Tryz.sizeOf20
 v20:=Tryz.zeroValue20
 t37:=Tryz.underlying35
 a37:=Tryz.isAgg35
 z37:=Tryz.sizeOf35
 v37:=Tryz.zeroValue35
 t46:=Tryz.underlying126
 a46:=Tryz.isAgg126
 z46:=Tryz.sizeOf126
 v46:=Tryz.zeroValue126
 t51:=Tryz.underlying355
 a51:=Tryz.isAgg355
 z51:=Tryz.sizeOf355
 v51:=Tryz.zeroValue355
 t53:=Tryz.underlying255
 a53:=Tryz.isAgg255
 z53:=Tryz.sizeOf255
 v53:=Tryz.zeroValue255
 t171:=Tryz.underlying350
 a171:=Tryz.isAgg350
 z171:=Tryz.sizeOf350
 v171:=Tryz.zeroValue350
 t173:=Tryz.underlying353
 a173:=Tryz.isAgg353
 z173:=Tryz.sizeOf353
 v173:=Tryz.zeroValue353
 t212:=Tryz.underlying430
 a212:=Tryz.isAgg430
 z212:=Tryz.sizeOf430
 v212:=Tryz.zeroValue430
 t213:=Tryz.underlying431
 a213:=Tryz.isAgg431
 z213:=Tryz.sizeOf431
 t232:=Tryz.underlying513
 a232:=Tryz.isAgg513
 z232:=Tryz.sizeOf513
 v232:=Tryz.zeroValue513
 t233:=Tryz.underlying514
 a233:=Tryz.isAgg514
 z233:=Tryz.sizeOf514
 v233:=Tryz.zeroValue514
 g17:=by kernel_rfl
 g18:=by kernel_rfl
 g19:=by kernel_rfl }
open Go.RowKit Go.Sort Go.Lib in
theorem Tryz.strconv_Itoa_small (i:Nat) (hi:i<100) (w:World) :
  Calls Tryz.prog 52 #[.int .i64 i] w fun e w'=>e=.returned (.string ⟨(Lib.decDigits i).toArray⟩)∧w'=w:=Any.strconv_Itoa_small Tryz.lays171 i hi w
def Tryz.lays217_ren:Go.Shelf.Ren:=⟨fun | 217=>57 | 266=>119 | n=>n,fun | 9=>9 | 5=>5 | 3=>3 | n=>n,fun | n=>n⟩
theorem Tryz.lays217:Go.Proofs.Lays.n217 Tryz.prog Tryz.lays217_ren:={
 mixed:=by kernel_rfl
 f217:=Tryz.func57.trans (congrArg some (by kernel_rfl))
 f266:=Tryz.func119.trans (congrArg some (by kernel_rfl))
 t3:=Tryz.underlying3
 a3:=Tryz.isAgg3
 z3:=Tryz.sizeOf3
 v3:=Tryz.zeroValue3
 t5:=Tryz.underlying5
 a5:=Tryz.isAgg5
 z5:=Tryz.sizeOf5
 v5:=Tryz.zeroValue5
 t9:=Tryz.underlying9
 a9:=Tryz.isAgg9
 z9:=Tryz.sizeOf9
 v9:=Tryz.zeroValue9 }
open Go.RowKit Go.Lib in
theorem Tryz.stringslite_IndexByte (s:ByteArray) (c:Int) (w:World) :
  Calls Tryz.prog 57 #[.string s,.int .u8 c] w fun e w'=>e=.returned (.int .i64 (Lib.indexByte s.data.toList c.toNat.toUInt8))∧w'=w:=Any.stringslite_IndexByte Tryz.lays217 s c w
def Tryz.lays145_ren:Go.Shelf.Ren:=⟨fun | 145=>27 | 220=>58 | 219=>120 | 217=>57 | 225=>202 | 224=>203 | 267=>204 | 266=>119 | 314=>295 | n=>n,fun | 9=>9 | 4=>4 | 59=>85 | 3=>3 | 5=>5 | 46=>126 | 146=>356 | 51=>355 | n=>n,fun | 1=>0 | n=>n⟩
theorem Tryz.lays145:Go.Proofs.Lays.n145 Tryz.prog Tryz.lays145_ren:={
 mixed:=by kernel_rfl
 f145:=Tryz.func27.trans (congrArg some (by kernel_rfl))
 f217:=Tryz.func57.trans (congrArg some (by kernel_rfl))
 f219:=Tryz.func120.trans (congrArg some (by kernel_rfl))
 f220:=Tryz.func58.trans (congrArg some (by kernel_rfl))
 f224:=Tryz.func203.trans (congrArg some (by kernel_rfl))
 f225:=Tryz.func202.trans (congrArg some (by kernel_rfl))
 f266:=Tryz.func119.trans (congrArg some (by kernel_rfl))
 f267:=Tryz.func204.trans (congrArg some (by kernel_rfl))
 f314:=Tryz.func295.trans (congrArg some (by kernel_rfl))
 t3:=Tryz.underlying3
 a3:=Tryz.isAgg3
 z3:=Tryz.sizeOf3
 v3:=Tryz.zeroValue3
 t4:=Tryz.underlying4
 a4:=Tryz.isAgg4
 z4:=Tryz.sizeOf4
 v4:=Tryz.zeroValue4
 t5:=Tryz.underlying5
 a5:=Tryz.isAgg5
 z5:=Tryz.sizeOf5
 v5:=Tryz.zeroValue5
 t9:=Tryz.underlying9
 a9:=Tryz.isAgg9
 z9:=Tryz.sizeOf9
 v9:=Tryz.zeroValue9
 t46:=Tryz.underlying126
 a46:=Tryz.isAgg126
 z46:=Tryz.sizeOf126
 v46:=Tryz.zeroValue126
 t51:=Tryz.underlying355
 a51:=Tryz.isAgg355
 z51:=Tryz.sizeOf355
 v51:=Tryz.zeroValue355
 t59:=Tryz.underlying85
 a59:=Tryz.isAgg85
 z59:=Tryz.sizeOf85
 v59:=Tryz.zeroValue85
 t146:=Tryz.underlying356
 a146:=Tryz.isAgg356
 z146:=Tryz.sizeOf356
 v146:=Tryz.zeroValue356
 g1:=by kernel_rfl }
open Go.RowKit Go.Lib in
theorem Tryz.strings_Cut (s sep:ByteArray) (m:Int) (w:World) (hs:s.size<4294967281) (hm:w.cell? ⟨0,0,none⟩=some (.int .i64 m)) :
  Calls Tryz.prog 27 #[.string s,.string sep] w fun e w'=>e=.returned (.tuple #[.string ⟨(Lib.cut s.data.toList sep.data.toList).1.toArray⟩,.string ⟨(Lib.cut s.data.toList sep.data.toList).2.1.toArray⟩,.bool (Lib.cut s.data.toList sep.data.toList).2.2])∧∃n,w'=w.drewN n:=Any.strings_Cut Tryz.lays145 s sep m w hs hm
end Go.Proofs
end
section
namespace Go.Proofs.YticmemgehllacaaGreatDoor
open Go Go.Eng Go.RowKit
noncomputable def g57 (a0:ByteArray) (a1:Int):Option Int:=some (Lib.indexByte a0.data.toList a1.toNat.toUInt8)
noncomputable def k57:Eng.CS:={ f:=57,calm:=true,more:=0,ι:=ByteArray×Int×Int,ok:=fun i=>g57 i.1 i.2.1=some i.2.2,rds:=fun i=>[],args:=fun i=>[.w (.v (.string i.1)),.w (.v (.int .u8 i.2.1))],res:=fun i=>.v (.int .i64 i.2.2),rn:=[] }
theorem k57_ok:CalmOk Tryz.prog k57:=by
 refine ⟨fun args w=>?_,?_⟩
 ·have hname' : ¬ Tryz.f57.name = "runtime.NumGoroutine" := by simpa using (nq9 Tryz.func57)
  obtain ⟨c,hc⟩:=Option.isSome_iff_exists.1 (show Tryz.f57.body.isSome=true from rfl)
  have hP:=Tryz.func57
  simp [callFunc,k57,hP,hname',hc]
 ·rintro w q S ⟨a0,a1,r⟩ vs hok hrds hm hargs
  have hr:Lib.indexByte a0.data.toList a1.toNat.toUInt8=r:=Option.some.inj hok
  subst hr
  match vs,hargs with
  | [v,s],hargs=>
  obtain ⟨hv,hs,_⟩:=hargs
  have hv:v=.string a0:=hv
  have hs:s=.int .u8 a1:=hs
  subst hs hv
  refine (Tryz.stringslite_IndexByte a0 a1 w).mono ?_
  rintro e w' ⟨rfl,rfl⟩
  exact ⟨by simp [k57,den],Below.refl _ _⟩
noncomputable def cut23 (a0 a1:ByteArray):ByteArray×ByteArray×Bool:=(⟨(Lib.cut a0.data.toList a1.data.toList).1.toArray⟩,⟨(Lib.cut a0.data.toList a1.data.toList).2.1.toArray⟩,(Lib.cut a0.data.toList a1.data.toList).2.2)
noncomputable def g27 (a0:ByteArray) (a1:ByteArray):Option (ByteArray×ByteArray×Bool):=ck (a0.size<4294967281) <| some (cut23 a0 a1)
noncomputable def k27:Eng.CS:={ f:=27,calm:=true,more:=0,ι:=ByteArray×ByteArray×(ByteArray×ByteArray×Bool)×Int,ok:=fun i=>g27 i.1 i.2.1=some i.2.2.1,rds:=fun i=>[(some ⟨0,0,none⟩,[.int .i64 i.2.2.2])],args:=fun i=>[.w (.v (.string i.1)),.w (.v (.string i.2.1))],res:=fun i=>.tup [.v (.string i.2.2.1.1),.v (.string i.2.2.1.2.1),bS i.2.2.1.2.2],rn:=[] }
theorem k27_ok:CalmOk Tryz.prog k27:=by
 refine ⟨fun args w=>?_,?_⟩
 ·have hname' : ¬ Tryz.f27.name = "runtime.NumGoroutine" := by simpa using (nq9 Tryz.func27)
  obtain ⟨c,hc⟩:=Option.isSome_iff_exists.1 (show Tryz.f27.body.isSome=true from rfl)
  have hP:=Tryz.func27
  simp [callFunc,k27,hP,hname',hc]
 ·rintro w q S ⟨a0,a1,r,m⟩ vs hok hrds hm hargs
  have hr:a0.size<4294967281∧cut23 a0 a1=r:=by
   have:g27 a0 a1=some r:=hok
   unfold g27 ck at this
   split at this
   ·rename_i h1;cases this;exact ⟨h1,rfl⟩
   ·cases this
  obtain ⟨h1,rfl⟩:=hr
  match vs,hargs with
  | [v,s],hargs=>
  obtain ⟨hv,hs,_⟩:=hargs
  have hv:v=.string a0:=hv
  have hs:s=.string a1:=hs
  subst hs hv
  have hR:Reads q (some ⟨0,0,none⟩) [.int .i64 m]:=hrds.1
  have h0:q 0 0=some (.int .i64 m):=hR 0 (Nat.zero_lt_succ 0)
  refine (Tryz.strings_Cut a0 a1 m w h1 (hm 0 0 _ h0)).mono ?_
  rintro e w' ⟨rfl,n,rfl⟩
  exact ⟨by simp [k27,cut23,bS,den,denL],(Below.refl _ _).trans ⟨rfl,rfl,rfl,Nat.le_refl _,fun _ _=>rfl⟩⟩
end Go.Proofs.YticmemgehllacaaGreatDoor
end
section
set_option maxRecDepth 8000
set_option maxHeartbeats 4000000
namespace Go.Proofs.YticmemgehllacaaGreatDoor
open Go Go.Eng
theorem mo1TA1 {p q:Prop} (k:q) (h:p:=by first | exact rfl | exact Iff.rfl | exact ⟨rfl,rfl⟩ | exact decide_eq_true_iff | (constructor<;>first | exact rfl | (simp only [ei,eb,es,ec,gmin,gmax,List.map_append,List.flatMap_append,List.nil_append,List.append_nil,List.append_assoc];done) | omega | (simp only [List.nil_append,List.length_append,List.length_cons,List.length_nil];omega) | (simp [ei,eb,es,ec,gmin,gmax];done)) | exact rfl | (simp only [ei,eb,es,ec,gmin,gmax,List.map_append,List.flatMap_append,List.nil_append,List.append_nil,List.append_assoc];done) | omega | (simp only [List.nil_append,List.length_append,List.length_cons,List.length_nil];omega) | (simp [ei,eb,es,ec,gmin,gmax];done) | simp [ei,eb,es,ec,gmin,gmax]):Ob p∧q:=⟨⟨h⟩,k⟩
theorem mf1TA1 {p q:Prop} (k:q) (h:p:=by first | (rw [←hfin]<;>first | exact rfl | exact Iff.rfl | exact ⟨rfl,rfl⟩ | exact decide_eq_true_iff | (constructor<;>first | exact rfl | (simp only [ei,eb,es,ec,gmin,gmax,List.map_append,List.flatMap_append,List.nil_append,List.append_nil,List.append_assoc];done) | omega | (simp only [List.nil_append,List.length_append,List.length_cons,List.length_nil];omega) | (simp [ei,eb,es,ec,gmin,gmax];done)) | exact rfl | (simp only [ei,eb,es,ec,gmin,gmax,List.map_append,List.flatMap_append,List.nil_append,List.append_nil,List.append_assoc];done) | omega | (simp only [List.nil_append,List.length_append,List.length_cons,List.length_nil];omega) | (simp [ei,eb,es,ec,gmin,gmax];done) | simp [ei,eb,es,ec,gmin,gmax]) | first | exact rfl | exact Iff.rfl | exact ⟨rfl,rfl⟩ | exact decide_eq_true_iff | (constructor<;>first | exact rfl | (simp only [ei,eb,es,ec,gmin,gmax,List.map_append,List.flatMap_append,List.nil_append,List.append_nil,List.append_assoc];done) | omega | (simp only [List.nil_append,List.length_append,List.length_cons,List.length_nil];omega) | (simp [ei,eb,es,ec,gmin,gmax];done)) | exact rfl | (simp only [ei,eb,es,ec,gmin,gmax,List.map_append,List.flatMap_append,List.nil_append,List.append_nil,List.append_assoc];done) | omega | (simp only [List.nil_append,List.length_append,List.length_cons,List.length_nil];omega) | (simp [ei,eb,es,ec,gmin,gmax];done) | simp [ei,eb,es,ec,gmin,gmax]):Ob p∧q:=⟨⟨h⟩,k⟩
noncomputable def g26 (a0:ByteArray) (a1:Int):Option (Int):=
 (g57 a0 a1).bind fun v1=>
 some v1
noncomputable def k26:Eng.CS:={ f:=26,calm:=true,more:=0,ι:=ByteArray×Int×Int,ok:=fun i=>g26 i.1 i.2.1=some i.2.2,rds:=fun _=>[],args:=fun i=>[.w (.v (.string (i.1))),.w (.v (.int .u8 (i.2.1)))],res:=fun i=>.v (.int .i64 (i.2.2)) }
theorem k26_ok:CalmOk Tryz.prog k26:=by
 refine R.calmspec Tryz.func26 (nq9 Tryz.func26) rfl ?_
 rintro ⟨a0,a1,r⟩ hok q _ args hargs
 match args,hargs with
 | [_,_],hargs=>
 obtain ⟨rfl,rfl,_⟩:=hargs
 refine ⟨envC [k57] false [],6,envC_ok (css_cons ⟨fun _=>k57_ok,nofun⟩ (css_nil)),rfl,(by intro x hx;simp only [List.mem_cons,List.not_mem_nil,or_false] at hx;rcases hx with rfl | rfl<;>rfl),?_⟩
 have H:Gives (g26 a0 a1) (fun a=>a=r):=⟨r,hok,rfl⟩
 unfold g26 at H
 clear hok
 obtain ⟨v1,hv2,H⟩:=call_st H
 refine ⟨(a0,a1,v1),⟨hv2⟩,⟨trivial⟩,?_⟩
 iterate 2 refine ⟨⟨rfl⟩,?_⟩
 have hfin:=fin_st H
 repeat refine mf1TA1 ?_
 trivial
noncomputable def g59 (a0:ByteArray):Option (Int×Bool):=
 if (a0.size:Int)<1 then
  some (0,false)
 else
  (
   if 3<(a0.size:Int) then
    some (0,false)
   else
    (
     ck (0≤(0:Int)∧0<(a0.size:Int)) <|
     if ((a0.data.toList[(0:Int).toNat]?.getD 0).toNat:Int)=48 then
      some (0,false)
     else
      (
       jn (α:=_) (β:=Int) (fun k73=>
         (loopO (σ:=Int×Int) (ρ:=(Unit) ⊕ (Int)) (fun s76=>
           if s76.2<(a0.size:Int) then
            (
             ck (0≤s76.2∧s76.2<(a0.size:Int)) <|
             if ((a0.data.toList[s76.2.toNat]?.getD 0).toNat:Int)<48 then
              some (.out (.inl (())))
             else
              (
               ck (0≤s76.2∧s76.2<(a0.size:Int)) <|
               if 57<((a0.data.toList[s76.2.toNat]?.getD 0).toNat:Int) then
                some (.out (.inl (())))
               else
                (
                 ck (inR .i64 (s76.1 * 10)) <|
                 ck (0≤s76.2∧s76.2<(a0.size:Int)) <|
                 ck (inR .u8 (((a0.data.toList[s76.2.toNat]?.getD 0).toNat:Int)-48)) <|
                 ck (inR .i64 (((a0.data.toList[s76.2.toNat]?.getD 0).toNat:Int)-48)) <|
                 ck (inR .i64 ((s76.1 * 10)+(((a0.data.toList[s76.2.toNat]?.getD 0).toNat:Int)-48))) <|
                 ck (inR .i64 (s76.2+1)) <|
                 some (.go ((s76.1 * 10)+(((a0.data.toList[s76.2.toNat]?.getD 0).toNat:Int)-48),s76.2+1))
                )
              )
            )
           else
            some (.out (.inr (s76.1)))
          ) (0,0)).bind fun o100=>
         sm o100 (fun o112=>
           some (0,false)
          ) (fun o113=>
           k73 o113
          )
       ) (fun v72=>
        some (v72,(decide (v72≤500)))
       )
      )
    )
  )
noncomputable def k59:Eng.CS:={ f:=59,calm:=true,more:=0,ι:=ByteArray×(Int×Bool),ok:=fun i=>g59 i.1=some i.2,rds:=fun _=>[],args:=fun i=>[.w (.v (.string (i.1)))],res:=fun i=>.tup [.v (.int .i64 (i.2.1)),bS i.2.2] }
theorem k59_ok:CalmOk Tryz.prog k59:=by
 refine R.calmspec Tryz.func59 (nq9 Tryz.func59) rfl ?_
 rintro ⟨a0,r⟩ hok q _ args hargs
 match args,hargs with
 | [_],hargs=>
 obtain ⟨rfl,_⟩:=hargs
 refine ⟨envC [] false [(59,10)],6,envC_ok (css_nil),rfl,(by intro x hx;simp only [List.mem_cons,List.not_mem_nil,or_false] at hx;rcases hx with rfl<;>rfl),?_⟩
 have H:Gives (g59 a0) (fun a=>a=r):=⟨r,hok,rfl⟩
 unfold g59 at H
 clear hok
 refine if_st H ?_ ?_<;>intro h10 H
 ·have hfin:=fin_st H
  repeat refine mf1TA1 ?_
  trivial
 ·refine if_st H ?_ ?_<;>intro h11 H
  ·have hfin:=fin_st H
   repeat refine mf1TA1 ?_
   trivial
  ·refine ob_ck H fun h12 H=>?_
   refine if_st H ?_ ?_<;>intro h13 H
   ·have hfin:=fin_st H
    repeat refine mf1TA1 ?_
    trivial
   ·refine R.cut_fam H 23 [] [] (fun v72=>[(4,.v (.int .i64 (v72)))]) (fun v72=>[]) [] 0 (fun H=>?_)
    refine And.intro ?_ ?_
    ·refine R.loop_fam (bind_st H) [0] [] (fun _ s76=>[(4,.v (.int .i64 (s76.1))),(5,.v (.int .i64 (s76.2)))]) (fun _ s76=>[]) 0 (fun n114 H=>?_)
     refine ⟨(n114,_),⟨H⟩,⟨trivial⟩,?_⟩
     repeat refine mo1TA1 ?_
     rintro ⟨m0,s76⟩ H _
     obtain ⟨m77,hm0,H⟩:=IG_succ H
     dsimp only at hm0
     subst hm0
     try dsimp only at H
     refine if_st H ?_ ?_<;>intro h101 H
     ·refine ob_ck H fun h102 H=>?_
      refine if_st H ?_ ?_<;>intro h103 H
      ·replace H:=some_st H
       dsimp only [stp,sm] at H
       have hfin:=fin_st H
       repeat refine mf1TA1 ?_
       trivial
      ·refine ob_ck H fun h104 H=>?_
       refine if_st H ?_ ?_<;>intro h105 H
       ·replace H:=some_st H
        dsimp only [stp,sm] at H
        have hfin:=fin_st H
        repeat refine mf1TA1 ?_
        trivial
       ·refine ob_ck H fun h106 H=>?_
        refine ob_ck H fun h107 H=>?_
        refine ob_ck H fun h108 H=>?_
        refine ob_ck H fun h109 H=>?_
        refine ob_ck H fun h110 H=>?_
        refine ob_ck H fun h111 H=>?_
        replace H:=some_st H
        refine ⟨(m77,((s76.1 * 10)+(((a0.data.toList[s76.2.toNat]?.getD 0).toNat:Int)-48),s76.2+1)),⟨H,Nat.lt_succ_self _⟩,⟨trivial⟩,⟨rfl⟩,?_⟩
        repeat refine mo1TA1 ?_
        trivial
     ·replace H:=some_st H
      dsimp only [stp,sm] at H
      refine ⟨s76.1,⟨H⟩,⟨rfl⟩,?_⟩
      repeat refine mo1TA1 ?_
      trivial
    ·intro v72 H
     have hfin:=fin_st H
     repeat refine mf1TA1 ?_
     trivial
noncomputable def g29 (a0:ByteArray):Option (Bool):=
 jn (α:=_) (β:=Unit) (fun k150=>
   (loopO (σ:=Int) (ρ:=(Unit) ⊕ (Unit)) (fun s153=>
     if s153<(a0.size:Int) then
      (
       ck (0≤s153∧s153<(a0.size:Int)) <|
       if ((a0.data.toList[s153.toNat]?.getD 0).toNat:Int)<32 then
        some (.out (.inl (())))
       else
        (
         ck (0≤s153∧s153<(a0.size:Int)) <|
         if 126<((a0.data.toList[s153.toNat]?.getD 0).toNat:Int) then
          some (.out (.inl (())))
         else
          (
           ck (inR .i64 (s153+1)) <|
           some (.go (s153+1))
          )
        )
      )
     else
      some (.out (.inr (())))
    ) 0).bind fun o167=>
   sm o167 (fun o174=>
     some false
    ) (fun o175=>
     k150 ()
    )
 ) (fun v149=>
  some (decide (¬(a0.data.toList=(lit []).data.toList)))
 )
noncomputable def k29:Eng.CS:={ f:=29,calm:=true,more:=0,ι:=ByteArray×Bool,ok:=fun i=>g29 i.1=some i.2,rds:=fun _=>[],args:=fun i=>[.w (.v (.string (i.1)))],res:=fun i=>bS i.2 }
theorem k29_ok:CalmOk Tryz.prog k29:=by
 refine R.calmspec Tryz.func29 (nq9 Tryz.func29) rfl ?_
 rintro ⟨a0,r⟩ hok q _ args hargs
 match args,hargs with
 | [_],hargs=>
 obtain ⟨rfl,_⟩:=hargs
 refine ⟨envC [] false [(29,6)],6,envC_ok (css_nil),rfl,(by intro x hx;simp only [List.mem_cons,List.not_mem_nil,or_false] at hx;rcases hx with rfl<;>rfl),?_⟩
 have H:Gives (g29 a0) (fun a=>a=r):=⟨r,hok,rfl⟩
 unfold g29 at H
 clear hok
 refine R.cut_fam H 8 [0] [] (fun v149=>[]) (fun v149=>[]) [] 0 (fun H=>?_)
 refine And.intro ?_ ?_
 ·refine R.loop_fam (bind_st H) [0] [] (fun _ s153=>[(3,.v (.int .i64 (s153)))]) (fun _ s153=>[]) 0 (fun n176 H=>?_)
  refine ⟨(n176,_),⟨H⟩,⟨trivial⟩,?_⟩
  repeat refine mo1TA1 ?_
  rintro ⟨m0,s153⟩ H _
  obtain ⟨m154,hm0,H⟩:=IG_succ H
  dsimp only at hm0
  subst hm0
  try dsimp only at H
  refine if_st H ?_ ?_<;>intro h168 H
  ·refine ob_ck H fun h169 H=>?_
   refine if_st H ?_ ?_<;>intro h170 H
   ·replace H:=some_st H
    dsimp only [stp,sm] at H
    have hfin:=fin_st H
    repeat refine mf1TA1 ?_
    trivial
   ·refine ob_ck H fun h171 H=>?_
    refine if_st H ?_ ?_<;>intro h172 H
    ·replace H:=some_st H
     dsimp only [stp,sm] at H
     have hfin:=fin_st H
     repeat refine mf1TA1 ?_
     trivial
    ·refine ob_ck H fun h173 H=>?_
     replace H:=some_st H
     refine ⟨(m154,s153+1),⟨H,Nat.lt_succ_self _⟩,⟨trivial⟩,⟨rfl⟩,?_⟩
     repeat refine mo1TA1 ?_
     trivial
  ·replace H:=some_st H
   dsimp only [stp,sm] at H
   refine ⟨(),⟨H⟩,⟨rfl⟩,?_⟩
   repeat refine mo1TA1 ?_
   trivial
 ·intro v149 H
  have hfin:=fin_st H
  repeat refine mf1TA1 ?_
  trivial
noncomputable def g30 (a0:ByteArray):Option (List Int×Bool):=
 if ¬(Int.tmod (a0.size:Int) 2)=0 then
  some (([]:List Int),false)
 else
  (
   jn (α:=_) (β:=List Int) (fun k258=>
     (loopO (σ:=List Int×Int) (ρ:=(Unit) ⊕ (List Int)) (fun s261=>
       ck (inR .i64 (s261.2+1)) <|
       if (s261.2+1)<(a0.size:Int) then
        (
         ck (0≤s261.2∧s261.2<(a0.size:Int)) <|
         (g26 (lit [48,49,50,51,52,53,54,55,56,57,97,98,99,100,101,102]) ((a0.data.toList[s261.2.toNat]?.getD 0).toNat:Int)).bind fun v301=>
         ck (inR .i64 (s261.2+1)) <|
         ck (0≤s261.2+1∧s261.2+1<(a0.size:Int)) <|
         (g26 (lit [48,49,50,51,52,53,54,55,56,57,97,98,99,100,101,102]) ((a0.data.toList[(s261.2+1).toNat]?.getD 0).toNat:Int)).bind fun v305=>
         if v301<0 then
          some (.out (.inl (())))
         else
          (
           if v305<0 then
            some (.out (.inl (())))
           else
            (
             ck ((s261.1.length+1) * 1≤140737488355328) <|
             ck (inR .i64 (s261.2+2)) <|
             some (.go ((s261.1++[IntKind.wrap .u8 (bits .or .i64 (IntKind.wrap .i64 (v301 * 2 ^ (4:Int).toNat)) v305)]),s261.2+2))
            )
          )
        )
       else
        some (.out (.inr (s261.1)))
      ) ([],0)).bind fun o297=>
     sm o297 (fun o315=>
       some (([]:List Int),false)
      ) (fun o316=>
       k258 o316
      )
   ) (fun v257=>
    some (v257,true)
   )
  )
noncomputable def k30:Eng.CS:={ f:=30,calm:=false,more:=0,ι:=ByteArray×(List Int×Bool),ok:=fun i=>g30 i.1=some i.2,rds:=fun _=>[],args:=fun i=>[.w (.v (.string (i.1)))],res:=fun _=>.bad,rn:=[],gr:=true,γ:=(Option Addr×Nat),resG:=fun i g=>.tup [.v (.slice g.1 i.2.1.length g.2),bS i.2.2],LG:=fun i g=>[],okG:=fun i g=>i.2.1.length≤g.2,rdsG:=fun i g=>[(g.1,ei .u8 i.2.1)],fzr:=[(0,0)] }
theorem k30_ok:CSOk Tryz.prog k30:=by
 refine R.cspecG Tryz.func30 (nq9 Tryz.func30) rfl rfl (fun _=>rfl) ?_
 rintro ⟨a0,r⟩ hok q hrds args hargs
 dsimp only [k30] at hargs ⊢
 match args,hargs with
 | [_],hargs=>
 obtain ⟨rfl,_⟩:=hargs
 refine ⟨envC [k26] false [(30,11)],6,envC_ok (css_cons ⟨fun _=>k26_ok,nofun⟩ (css_nil)),?_⟩
 have H:Gives (g30 a0) (fun a=>a=r):=⟨r,hok,rfl⟩
 unfold g30 at H
 clear hok
 refine And.intro ⟨by decide⟩ ?_
 refine if_st H ?_ ?_<;>intro h178 H
 ·have hfin:=fin_st H
  first | subst hfin | rw [←hfin]
  refine ⟨(none,0),⟨Nat.le_refl _⟩,⟨⟨Reads.nil,trivial⟩⟩,?_⟩
  repeat refine mo1TA1 ?_
  trivial
 ·refine R.cut_fam H 18 [] [] (fun v257=>[(4,.own 18)]) (fun v257=>[(18,.arr 5 1 (v257.length) (ei .u8 (v257)))]) [] 1 (fun H=>?_)
  refine And.intro ?_ ?_
  ·refine R.loop_fam (bind_st H) [0] [(4,0,5,1)] (fun _ s261=>[(4,.own 9),(5,.v (.int .i64 (s261.2)))]) (fun _ s261=>[(9,.arr 5 1 (s261.1.length) (ei .u8 (s261.1)))]) 1 (fun n317 H=>?_)
   refine ⟨(n317,_),⟨H⟩,⟨trivial⟩,?_⟩
   repeat refine mo1TA1 ?_
   rintro ⟨m0,s261⟩ H _
   obtain ⟨m262,hm0,H⟩:=IG_succ H
   dsimp only at hm0
   subst hm0
   try dsimp only at H
   refine ob_ck H fun h298 H=>?_
   refine if_st H ?_ ?_<;>intro h299 H
   ·refine And.intro ⟨by kernel_rfl⟩ ?_
    refine ob_ck H fun h300 H=>?_
    obtain ⟨v301,hv302,H⟩:=call_st H
    refine ⟨((lit [48,49,50,51,52,53,54,55,56,57,97,98,99,100,101,102]),((a0.data.toList[s261.2.toNat]?.getD 0).toNat:Int),v301),⟨hv302⟩,⟨trivial⟩,?_⟩
    iterate 2 refine ⟨⟨rfl⟩,?_⟩
    refine ob_ck H fun h303 H=>?_
    refine ob_ck H fun h304 H=>?_
    obtain ⟨v305,hv306,H⟩:=call_st H
    refine ⟨((lit [48,49,50,51,52,53,54,55,56,57,97,98,99,100,101,102]),((a0.data.toList[(s261.2+1).toNat]?.getD 0).toNat:Int),v305),⟨hv306⟩,⟨trivial⟩,?_⟩
    iterate 2 refine ⟨⟨rfl⟩,?_⟩
    refine if_st H ?_ ?_<;>intro h307 H
    ·replace H:=some_st H
     dsimp only [stp,sm] at H
     have hfin:=fin_st H
     first | subst hfin | rw [←hfin]
     refine ⟨(none,0),⟨Nat.le_refl _⟩,⟨⟨Reads.nil,trivial⟩⟩,?_⟩
     repeat refine mo1TA1 ?_
     trivial
    ·refine if_st H ?_ ?_<;>intro h308 H
     ·replace H:=some_st H
      dsimp only [stp,sm] at H
      have hfin:=fin_st H
      first | subst hfin | rw [←hfin]
      refine ⟨(none,0),⟨Nat.le_refl _⟩,⟨⟨Reads.nil,trivial⟩⟩,?_⟩
      repeat refine mo1TA1 ?_
      trivial
     ·refine And.intro ⟨by decide⟩ ?_
      refine ob_app (by decide) (by first | exact ei_one | ((repeat (refine List.forall_mem_cons.2 ⟨rfl,?_⟩));intro y hy;cases hy;done) | (intro y hy;simp [ei,eb,es,ec] at hy;(first | (rcases hy with rfl | hy) | subst hy | skip);all_goals first | rfl | simp_all [Value.oneCell'])) H fun h309 H=>?_
      intro n310 zs312 hn311 hz313
      obtain rfl:n310=(s261.1++[IntKind.wrap .u8 (bits .or .i64 (IntKind.wrap .i64 (v301 * 2 ^ (4:Int).toNat)) v305)]).length:=hn311.trans (by first | exact List.length_append.symm | (simp;done) | (simp;omega))
      obtain rfl:zs312=ei .u8 (s261.1++[IntKind.wrap .u8 (bits .or .i64 (IntKind.wrap .i64 (v301 * 2 ^ (4:Int).toNat)) v305)]):=by first | exact hz313.trans (ei_app (xs:=s261.1) (ys:=([IntKind.wrap .u8 (bits .or .i64 (IntKind.wrap .i64 (v301 * 2 ^ (4:Int).toNat)) v305)]))).symm | (rw [hz313,ei_vw];first | exact ei_app.symm | exact (ei_app (xs:=s261.1)).symm) | (rw [hz313];simp [ei,eb,es,ec])
      refine ob_ck H fun h314 H=>?_
      replace H:=some_st H
      refine ⟨(m262,((s261.1++[IntKind.wrap .u8 (bits .or .i64 (IntKind.wrap .i64 (v301 * 2 ^ (4:Int).toNat)) v305)]),s261.2+2)),⟨H,Nat.lt_succ_self _⟩,⟨trivial⟩,⟨rfl⟩,?_⟩
      repeat refine mo1TA1 ?_
      trivial
   ·replace H:=some_st H
    dsimp only [stp,sm] at H
    refine ⟨s261.1,⟨H⟩,⟨rfl⟩,?_⟩
    repeat refine mo1TA1 ?_
    trivial
  ·intro v257 H
   intro q318 A319 c320 hq321 hc322 hR323
   replace hR323:Reads q318 A319 (ei .u8 v257):=Eq.mp (congrArg (Reads q318 A319) (by first | exact rfl | (simp only [ei,eb,es,ec,gmin,gmax,List.map_append,List.flatMap_append,List.nil_append,List.append_nil,List.append_assoc];done))) hR323
   have hfin:=fin_st H
   first | subst hfin | rw [←hfin]
   refine ⟨(A319,c320),⟨hc322⟩,⟨⟨hR323,trivial⟩⟩,?_⟩
   repeat refine mo1TA1 ?_
   trivial
noncomputable def g28 (a0:ByteArray):Option ((Int×List Int×Int×Int)×Bool):=
 (g27 a0 (lit [32])).bind fun v324=>
 (g59 v324.1).bind fun v326=>
 (g59 v324.2.1).bind fun v328=>
 if v326.2=true then
  some ((3,([]:List Int),v326.1,v328.1),v328.2)
 else
  some ((3,([]:List Int),v326.1,v328.1),false)
noncomputable def k28:Eng.CS:={ f:=28,calm:=false,more:=0,ι:=ByteArray×((Int×List Int×Int×Int)×Bool)×Int,ok:=fun i=>g28 i.1=some i.2.1,rds:=fun i=>[(some ⟨0,0,none⟩,[.int .i64 i.2.2])],args:=fun i=>[.w (.v (.string (i.1)))],res:=fun _=>.bad,rn:=[],gr:=true,γ:=(Option Addr×Nat),resG:=fun i g=>.tup [.agg [.v (.int .i64 (i.2.1.1.1)),.v (.slice g.1 i.2.1.1.2.1.length g.2),.v (.int .i64 (i.2.1.1.2.2.1)),.v (.int .i64 (i.2.1.1.2.2.2))],bS i.2.1.2],LG:=fun i g=>[],okG:=fun i g=>i.2.1.1.2.1.length≤g.2,rdsG:=fun i g=>[(g.1,ei .u8 i.2.1.1.2.1)],fzr:=[(0,1)] }
theorem k28_ok:CSOk Tryz.prog k28:=by
 refine R.cspecG Tryz.func28 (nq9 Tryz.func28) rfl rfl (fun _=>rfl) ?_
 rintro ⟨a0,r,mM⟩ hok q hrds args hargs
 obtain ⟨hM,_⟩:=hrds
 dsimp only [k28] at hargs ⊢
 match args,hargs with
 | [_],hargs=>
 obtain ⟨rfl,_⟩:=hargs
 refine ⟨envC [k27,k59] false [],6,envC_ok (css_cons ⟨fun _=>k27_ok,nofun⟩ (css_cons ⟨fun _=>k59_ok,nofun⟩ (css_nil))),?_⟩
 have H:Gives (g28 a0) (fun a=>a=r):=⟨r,hok,rfl⟩
 unfold g28 at H
 clear hok
 obtain ⟨v324,hv325,H⟩:=call_st H
 refine ⟨(a0,(lit [32]),v324,mM),⟨hv325⟩,⟨⟨hM,trivial⟩⟩,?_⟩
 iterate 2 refine ⟨⟨rfl⟩,?_⟩
 obtain ⟨v326,hv327,H⟩:=call_st H
 refine ⟨(v324.1,v326),⟨hv327⟩,⟨trivial⟩,?_⟩
 refine ⟨⟨rfl⟩,?_⟩
 obtain ⟨v328,hv329,H⟩:=call_st H
 refine ⟨(v324.2.1,v328),⟨hv329⟩,⟨trivial⟩,?_⟩
 refine ⟨⟨rfl⟩,?_⟩
 refine if_st H ?_ ?_<;>intro h330 H
 ·have hfin:=fin_st H
  first | subst hfin | rw [←hfin]
  refine ⟨(none,0),⟨Nat.le_refl _⟩,⟨⟨Reads.nil,trivial⟩⟩,?_⟩
  repeat refine mo1TA1 ?_
  trivial
 ·have hfin:=fin_st H
  first | subst hfin | rw [←hfin]
  refine ⟨(none,0),⟨Nat.le_refl _⟩,⟨⟨Reads.nil,trivial⟩⟩,?_⟩
  repeat refine mo1TA1 ?_
  trivial
noncomputable def g14 (a0:ByteArray):Option ((Int×List Int×Int×Int)×Bool):=
 (g27 a0 (lit [32])).bind fun v331=>
 if v331.1.data.toList=(lit [116,105,99,107]).data.toList then
  some ((2,([]:List Int),0,0),(decide (¬(v331.2.2=true))))
 else
  (
   if v331.1.data.toList=(lit [99,108,111,115,101]).data.toList then
    some ((4,([]:List Int),0,0),(decide (¬(v331.2.2=true))))
   else
    (
     if v331.1.data.toList=(lit [114,101,115,105,122,101]).data.toList then
      (
       (g28 v331.2.1).bind fun v377=>
       some ((v377.1.1,v377.1.2.1,v377.1.2.2.1,v377.1.2.2.2),v377.2)
      )
     else
      (
       if v331.1.data.toList=(lit [116,121,112,101]).data.toList then
        (
         ck (v331.2.1.size≤140737488355328) <|
         (g29 v331.2.1).bind fun v398=>
         some ((1,bytesOf v331.2.1,0,0),v398)
        )
       else
        (
         if v331.1.data.toList=(lit [98,121,116,101,115]).data.toList then
          (
           (g30 v331.2.1).bind fun v401=>
           if v401.2=true then
            (
             if 0<((v401.1.length:Nat):Int) then
              some ((1,v401.1,0,0),true)
             else
              some ((1,v401.1,0,0),(decide (¬(v331.2.2=true))))
            )
           else
            some ((1,v401.1,0,0),false)
          )
         else
          (
           if v331.1.data.toList=(lit [107,101,121]).data.toList then
            none
           else
            some ((0,([]:List Int),0,0),false)
          )
        )
      )
    )
  )
noncomputable def k14:Eng.CS:={ f:=14,calm:=false,more:=0,ι:=ByteArray×((Int×List Int×Int×Int)×Bool)×Int,ok:=fun i=>g14 i.1=some i.2.1,rds:=fun i=>[(some ⟨0,0,none⟩,[.int .i64 i.2.2])],args:=fun i=>[.w (.v (.string (i.1)))],res:=fun _=>.bad,rn:=[],gr:=true,γ:=(Option Addr×Nat),resG:=fun i g=>.tup [.agg [.v (.int .i64 (i.2.1.1.1)),.v (.slice g.1 i.2.1.1.2.1.length g.2),.v (.int .i64 (i.2.1.1.2.2.1)),.v (.int .i64 (i.2.1.1.2.2.2))],bS i.2.1.2],LG:=fun i g=>[],okG:=fun i g=>i.2.1.1.2.1.length≤g.2,rdsG:=fun i g=>[(g.1,ei .u8 i.2.1.1.2.1)],fzr:=[(0,1)] }
theorem k14_ok:CSOk Tryz.prog k14:=by
 refine R.cspecG Tryz.func14 (nq9 Tryz.func14) rfl rfl (fun _=>rfl) ?_
 rintro ⟨a0,r,mM⟩ hok q hrds args hargs
 obtain ⟨hM,_⟩:=hrds
 dsimp only [k14] at hargs ⊢
 match args,hargs with
 | [_],hargs=>
 obtain ⟨rfl,_⟩:=hargs
 refine ⟨envC [k27,k28,k29,k30] false [],6,envC_ok (css_cons ⟨fun _=>k27_ok,nofun⟩ (css_cons ⟨nofun,fun _=>k28_ok⟩ (css_cons ⟨fun _=>k29_ok,nofun⟩ (css_cons ⟨nofun,fun _=>k30_ok⟩ (css_nil))))),?_⟩
 have H:Gives (g14 a0) (fun a=>a=r):=⟨r,hok,rfl⟩
 unfold g14 at H
 clear hok
 obtain ⟨v331,hv332,H⟩:=call_st H
 refine ⟨(a0,(lit [32]),v331,mM),⟨hv332⟩,⟨⟨hM,trivial⟩⟩,?_⟩
 iterate 2 refine ⟨⟨rfl⟩,?_⟩
 refine if_st H ?_ ?_<;>intro h374 H
 ·have hfin:=fin_st H
  first | subst hfin | rw [←hfin]
  refine ⟨(none,0),⟨Nat.le_refl _⟩,⟨⟨Reads.nil,trivial⟩⟩,?_⟩
  repeat refine mo1TA1 ?_
  trivial
 ·refine if_st H ?_ ?_<;>intro h375 H
  ·have hfin:=fin_st H
   first | subst hfin | rw [←hfin]
   refine ⟨(none,0),⟨Nat.le_refl _⟩,⟨⟨Reads.nil,trivial⟩⟩,?_⟩
   repeat refine mo1TA1 ?_
   trivial
  ·refine if_st H ?_ ?_<;>intro h376 H
   ·obtain ⟨v377,hv378,H⟩:=call_st H
    refine ⟨(v331.2.1,v377,mM),⟨hv378⟩,⟨⟨hM,trivial⟩⟩,?_⟩
    refine ⟨⟨rfl⟩,?_⟩
    intro q379 g380 hq381 hok382 hrd383
    obtain ⟨A384,c385⟩:=g380
    have hc386:=hok382
    obtain ⟨hR387,_⟩:=hrd383
    try dsimp only at hc386 hR387
    have hfin:=fin_st H
    first | subst hfin | rw [←hfin]
    refine ⟨(A384,c385),⟨hc386⟩,⟨⟨hR387,trivial⟩⟩,?_⟩
    repeat refine mo1TA1 ?_
    trivial
   ·refine if_st H ?_ ?_<;>intro h388 H
    ·refine ob_sb H fun h394 H q395 A389 c390 hq391 hc392 hR393=>?_
     intro n396 hn397
     obtain rfl:n396=(bytesOf v331.2.1).length:=hn397.trans (bytesOf_len v331.2.1).symm
     obtain ⟨v398,hv399,H⟩:=call_st H
     refine ⟨(v331.2.1,v398),⟨hv399⟩,⟨trivial⟩,?_⟩
     refine ⟨⟨rfl⟩,?_⟩
     have hfin:=fin_st H
     first | subst hfin | rw [←hfin]
     refine ⟨(A389,c390),⟨(Nat.le_trans (Nat.le_of_eq (bytesOf_len v331.2.1)) hc392)⟩,⟨⟨hR393,trivial⟩⟩,?_⟩
     repeat refine mo1TA1 ?_
     trivial
    ·refine if_st H ?_ ?_<;>intro h400 H
     ·obtain ⟨v401,hv402,H⟩:=call_st H
      refine ⟨(v331.2.1,v401),⟨hv402⟩,⟨trivial⟩,?_⟩
      refine ⟨⟨rfl⟩,?_⟩
      intro q403 g404 hq405 hok406 hrd407
      obtain ⟨A408,c409⟩:=g404
      have hc410:=hok406
      obtain ⟨hR411,_⟩:=hrd407
      try dsimp only at hc410 hR411
      refine if_st H ?_ ?_<;>intro h412 H
      ·refine if_st H ?_ ?_<;>intro h413 H
       ·have hfin:=fin_st H
        first | subst hfin | rw [←hfin]
        refine ⟨(A408,c409),⟨hc410⟩,⟨⟨hR411,trivial⟩⟩,?_⟩
        repeat refine mo1TA1 ?_
        trivial
       ·have hfin:=fin_st H
        first | subst hfin | rw [←hfin]
        refine ⟨(A408,c409),⟨hc410⟩,⟨⟨hR411,trivial⟩⟩,?_⟩
        repeat refine mo1TA1 ?_
        trivial
      ·have hfin:=fin_st H
       first | subst hfin | rw [←hfin]
       refine ⟨(A408,c409),⟨hc410⟩,⟨⟨hR411,trivial⟩⟩,?_⟩
       repeat refine mo1TA1 ?_
       trivial
     ·refine if_st H ?_ ?_<;>intro h414 H
      ·exact (none_st H).elim
      ·have hfin:=fin_st H
       first | subst hfin | rw [←hfin]
       refine ⟨(none,0),⟨Nat.le_refl _⟩,⟨⟨Reads.nil,trivial⟩⟩,?_⟩
       repeat refine mo1TA1 ?_
       trivial
end Go.Proofs.YticmemgehllacaaGreatDoor
end
section
set_option maxRecDepth 8000
set_option maxHeartbeats 4000000
namespace Go.Proofs.YticmemgehllacaaGreatDoor
open Go Go.Eng
def c37 (p:(Int×((Option Addr×Nat)×List Int)×Int×Int)):List Value:=[.int .i64 p.1,.slice p.2.1.1.1 p.2.1.2.length p.2.1.1.2,.int .i64 p.2.2.1,.int .i64 p.2.2.2]
theorem c37_len:∀a,(c37 a).length=4:=fun _=>rfl
theorem c37_one:∀a,∀y∈c37 a,y.oneCell'=true:=by intro a y hy;simp only [c37,List.mem_cons,List.not_mem_nil,or_false] at hy;rcases hy with rfl | rfl | rfl | rfl<;>rfl
def e37 (p:(Int×((Option Addr×Nat)×List Int)×Int×Int)):(Int×List Int×Int×Int):=(p.1,p.2.1.2,p.2.2.1,p.2.2.2)
def P37 (q:PH) (p:(Int×((Option Addr×Nat)×List Int)×Int×Int)):Prop:=Reads q p.2.1.1.1 (ei .u8 p.2.1.2)∧p.2.1.2.length≤p.2.1.1.2
def R37 (p:(Int×((Option Addr×Nat)×List Int)×Int×Int)):List (Option Addr×List Value):=[(p.2.1.1.1,ei .u8 p.2.1.2)]
def cap37 (p:(Int×((Option Addr×Nat)×List Int)×Int×Int)):Prop:=p.2.1.2.length≤p.2.1.1.2
theorem P37.mono {q q':PH} (h:q.le q') {p:(Int×((Option Addr×Nat)×List Int)×Int×Int)} (hp:P37 q p):P37 q' p:=⟨Reads.mono h hp.1,hp.2⟩
theorem P37.of {q:PH} {l:List ((Int×((Option Addr×Nat)×List Int)×Int×Int))} (h:Eng.RdsOk q (l.flatMap R37)) (hc:∀p∈l,cap37 p):∀p∈l,P37 q p:=fun p hp=>⟨rds_mem (x:=(p.2.1.1.1,ei .u8 p.2.1.2)) h (List.mem_flatMap.2 ⟨p,hp,by simp [R37]⟩),(hc p hp)⟩
theorem P37.rds {q:PH} {l:List ((Int×((Option Addr×Nat)×List Int)×Int×Int))} (h:∀p∈l,P37 q p):RdsOk q (l.flatMap R37):=rds_of fun x hx=>by obtain ⟨p,hp,hx⟩:=List.mem_flatMap.1 hx;have h:=h p hp;simp only [R37,List.mem_cons,List.not_mem_nil,or_false] at hx;rcases hx with rfl;exact h.1
theorem P37.cap {q:PH} {l:List ((Int×((Option Addr×Nat)×List Int)×Int×Int))} (h:∀p∈l,P37 q p):∀p∈l,cap37 p:=fun p hp=>(h p hp).2
theorem mo1TA2 {p q:Prop} (k:q) (h:p:=by first | exact rfl | exact Iff.rfl | exact ⟨rfl,rfl⟩ | exact decide_eq_true_iff | (constructor<;>first | exact rfl | (simp only [ei,eb,es,ec,c37,gmin,gmax,List.map_append,List.flatMap_append,List.nil_append,List.append_nil,List.append_assoc];done) | omega | (simp only [List.nil_append,List.length_append,List.length_cons,List.length_nil];omega) | (simp [ei,eb,es,ec,c37,gmin,gmax];done)) | exact rfl | (simp only [ei,eb,es,ec,c37,gmin,gmax,List.map_append,List.flatMap_append,List.nil_append,List.append_nil,List.append_assoc];done) | omega | (simp only [List.nil_append,List.length_append,List.length_cons,List.length_nil];omega) | (simp [ei,eb,es,ec,c37,gmin,gmax];done) | simp [ei,eb,es,ec,c37,gmin,gmax]):Ob p∧q:=⟨⟨h⟩,k⟩
theorem mf1TA2 {p q:Prop} (k:q) (h:p:=by first | (rw [←hfin]<;>first | exact rfl | exact Iff.rfl | exact ⟨rfl,rfl⟩ | exact decide_eq_true_iff | (constructor<;>first | exact rfl | (simp only [ei,eb,es,ec,c37,gmin,gmax,List.map_append,List.flatMap_append,List.nil_append,List.append_nil,List.append_assoc];done) | omega | (simp only [List.nil_append,List.length_append,List.length_cons,List.length_nil];omega) | (simp [ei,eb,es,ec,c37,gmin,gmax];done)) | exact rfl | (simp only [ei,eb,es,ec,c37,gmin,gmax,List.map_append,List.flatMap_append,List.nil_append,List.append_nil,List.append_assoc];done) | omega | (simp only [List.nil_append,List.length_append,List.length_cons,List.length_nil];omega) | (simp [ei,eb,es,ec,c37,gmin,gmax];done) | simp [ei,eb,es,ec,c37,gmin,gmax]) | first | exact rfl | exact Iff.rfl | exact ⟨rfl,rfl⟩ | exact decide_eq_true_iff | (constructor<;>first | exact rfl | (simp only [ei,eb,es,ec,c37,gmin,gmax,List.map_append,List.flatMap_append,List.nil_append,List.append_nil,List.append_assoc];done) | omega | (simp only [List.nil_append,List.length_append,List.length_cons,List.length_nil];omega) | (simp [ei,eb,es,ec,c37,gmin,gmax];done)) | exact rfl | (simp only [ei,eb,es,ec,c37,gmin,gmax,List.map_append,List.flatMap_append,List.nil_append,List.append_nil,List.append_assoc];done) | omega | (simp only [List.nil_append,List.length_append,List.length_cons,List.length_nil];omega) | (simp [ei,eb,es,ec,c37,gmin,gmax];done) | simp [ei,eb,es,ec,c37,gmin,gmax]):Ob p∧q:=⟨⟨h⟩,k⟩
noncomputable def g5 (a0:ByteArray):Option (List (Int×(List Int)×Int×Int)×Int×Int):=
 if 65536<(a0.size:Int) then
  some (([]:List (Int×(List Int)×Int×Int)),0,2)
 else
  (
   jn (α:=_) (β:=Int) (fun k80=>
     (loopO (σ:=Int×Int×ByteArray) (ρ:=Int) (fun s83=>
       if 0<(s83.2.2.size:Int) then
        (
         jn (α:=_) (β:=ByteArray×ByteArray) (fun k134=>
           (g26 s83.2.2 10).bind fun v135=>
           if 0≤v135 then
            (
             ck (0≤(0:Int)∧(0:Int)≤v135∧v135≤(s83.2.2.size:Int)) <|
             ck (inR .i64 (v135+1)) <|
             ck (0≤v135+1∧v135+1≤(s83.2.2.size:Int)∧(s83.2.2.size:Int)≤(s83.2.2.size:Int)) <|
             k134 (s83.2.2.extract (v135+1).toNat (s83.2.2.size:Int).toNat,s83.2.2.extract (0:Int).toNat v135.toNat)
            )
           else
            k134 ((lit []),s83.2.2)
         ) (fun v133=>
          ck (inR .i64 (s83.2.1+1)) <|
          if v133.2.data.toList=(lit []).data.toList then
           some (.go (s83.1,s83.2.1+1,v133.1))
          else
           (
            ck (0≤(0:Int)∧0<(v133.2.size:Int)) <|
            if ((v133.2.data.toList[(0:Int).toNat]?.getD 0).toNat:Int)=35 then
             some (.go (s83.1,s83.2.1+1,v133.1))
            else
             (
              ck (inR .i64 (s83.1+1)) <|
              some (.go (s83.1+1,s83.2.1+1,v133.1))
             )
           )
         )
        )
       else
        some (.out s83.1)
      ) (0,0,a0)).bind fun o125=>
      k80 o125
   ) (fun v79=>
    if 4096<v79 then
     some (([]:List (Int×(List Int)×Int×Int)),0,3)
    else
     (
      jn (α:=_) (β:=List (Int×(List Int)×Int×Int)) (fun k290=>
        (loopO (σ:=List (Int×(List Int)×Int×Int)×Int×ByteArray) (ρ:=(Int×List (Int×(List Int)×Int×Int)) ⊕ (List (Int×(List Int)×Int×Int))) (fun s293=>
          if 0<(s293.2.2.size:Int) then
           (
            jn (α:=_) (β:=ByteArray×ByteArray) (fun k387=>
              (g26 s293.2.2 10).bind fun v388=>
              if 0≤v388 then
               (
                ck (0≤(0:Int)∧(0:Int)≤v388∧v388≤(s293.2.2.size:Int)) <|
                ck (inR .i64 (v388+1)) <|
                ck (0≤v388+1∧v388+1≤(s293.2.2.size:Int)∧(s293.2.2.size:Int)≤(s293.2.2.size:Int)) <|
                k387 (s293.2.2.extract (v388+1).toNat (s293.2.2.size:Int).toNat,s293.2.2.extract (0:Int).toNat v388.toNat)
               )
              else
               k387 ((lit []),s293.2.2)
            ) (fun v386=>
             ck (inR .i64 (s293.2.1+1)) <|
             if v386.2.data.toList=(lit []).data.toList then
              some (.go (s293.1,s293.2.1+1,v386.1))
             else
              (
               ck (0≤(0:Int)∧0<(v386.2.size:Int)) <|
               if ((v386.2.data.toList[(0:Int).toNat]?.getD 0).toNat:Int)=35 then
                some (.go (s293.1,s293.2.1+1,v386.1))
               else
                (
                 (g14 v386.2).bind fun v398=>
                 if ¬(v398.2=true) then
                  some (.out (.inl ((s293.2.1+1,s293.1))))
                 else
                  (
                   ck ((s293.1.length+1) * 48≤140737488355328) <|
                   some (.go ((s293.1++([(v398.1.1,v398.1.2.1,v398.1.2.2.1,v398.1.2.2.2)]:List (Int×(List Int)×Int×Int))),s293.2.1+1,v386.1))
                  )
                )
              )
            )
           )
          else
           some (.out (.inr (s293.1)))
         ) ([],0,a0)).bind fun o378=>
        sm o378 (fun o419=>
          some (([]:List (Int×(List Int)×Int×Int)),o419.1,290)
         ) (fun o423=>
          k290 o423
         )
      ) (fun v289=>
       some (v289,0,0)
      )
     )
   )
  )
noncomputable def k5:Eng.CS:={ f:=5,calm:=false,more:=0,ι:=ByteArray×(List (Int×(List Int)×Int×Int)×Int×Int)×Int,ok:=fun i=>g5 i.1=some i.2.1,rds:=fun i=>[(some ⟨0,0,none⟩,[.int .i64 i.2.2])],args:=fun i=>[.w (.v (.string (i.1)))],res:=fun _=>.bad,rn:=[],gr:=true,γ:=(Option Addr×Nat)×(List (Int×((Option Addr×Nat)×List Int)×Int×Int)),resG:=fun i g=>.tup [.v (.slice g.1.1 i.2.1.1.length g.1.2),.v (.int .i64 (i.2.1.2.1)),.v (.int .i64 (i.2.1.2.2))],LG:=fun i g=>[],okG:=fun i g=>i.2.1.1.length≤g.1.2∧g.2.map e37=i.2.1.1∧(∀p∈g.2,cap37 p),rdsG:=fun i g=>[(g.1.1,ec c37 g.2)]++(g.2).flatMap R37,fzr:=[(0,0)] }
theorem k5_ok:CSOk Tryz.prog k5:=by
 refine R.cspecG Tryz.func5 (nq9 Tryz.func5) rfl rfl (fun _=>rfl) ?_
 rintro ⟨a0,r,mM⟩ hok q hrds args hargs
 obtain ⟨hM,_⟩:=hrds
 dsimp only [k5] at hargs ⊢
 match args,hargs with
 | [_],hargs=>
 obtain ⟨rfl,_⟩:=hargs
 refine ⟨envC [k14,k26] false [(5,6),(5,16),(25,9)],6,envC_ok (css_cons ⟨nofun,fun _=>k14_ok⟩ (css_cons ⟨fun _=>k26_ok,nofun⟩ (css_nil))),?_⟩
 have H:Gives (g5 a0) (fun a=>a=r):=⟨r,hok,rfl⟩
 unfold g5 at H
 clear hok
 refine if_st H ?_ ?_<;>intro h2 H
 ·have hfin:=fin_st H
  first | subst hfin | rw [←hfin]
  refine ⟨((none,0),([]:List (Int×((Option Addr×Nat)×List Int)×Int×Int))),⟨⟨Nat.le_refl _,(show List.map e37 []=[] from rfl),pin_nil⟩⟩,⟨(rdsOk_app.2 ⟨⟨Reads.nil,trivial⟩,P37.rds pin_nil⟩)⟩,?_⟩
  repeat refine mo1TA2 ?_
  trivial
 ·refine R.cut_fam H 24 [0,2,3,4,5] [] (fun v79=>[]) (fun v79=>[(6,.cells 3 [.v (.int .i64 (v79))])]) [(0,.cells 22 [.v (.slice none 0 0)]),(1,.cells 3 [.v (.int .i64 (0))]),(2,.cells 23 [.v (.int .i64 (0))])] 0 (fun H=>?_)
  refine And.intro ?_ ?_
  ·refine R.loop_fam (bind_st H) [0] [] (fun _ s83=>[(3,.v (.int .i64 (s83.2.1))),(4,.v (.string (s83.2.2)))]) (fun _ s83=>[(6,.cells 3 [.v (.int .i64 (s83.1))])]) 0 (fun n146 H=>?_)
   refine ⟨(n146,_),⟨H⟩,⟨trivial⟩,?_⟩
   repeat refine mo1TA2 ?_
   rintro ⟨m0,s83⟩ H _
   obtain ⟨m84,hm0,H⟩:=IG_succ H
   dsimp only at hm0
   subst hm0
   try dsimp only at H
   refine if_st H ?_ ?_<;>intro h126 H
   ·refine R.cut_fam H 39 [0,3] [] (fun v133=>[(4,.v (.string (v133.1))),(5,.v (.string (v133.2)))]) (fun v133=>[]) [(6,.cells 3 [.v (.int .i64 (s83.1))]),(0,.cells 22 [.v (.slice none 0 0)]),(1,.cells 3 [.v (.int .i64 (0))]),(2,.cells 23 [.v (.int .i64 (0))]),(10,.cells 9 [.v (.string (a0))]),(14,.loop .ready none),(15,.dfr)] 0 (fun H=>?_)
    refine And.intro ?_ ?_
    ·obtain ⟨v135,hv136,H⟩:=call_st H
     refine ⟨(s83.2.2,10,v135),⟨hv136⟩,⟨trivial⟩,?_⟩
     iterate 2 refine ⟨⟨rfl⟩,?_⟩
     refine if_st H ?_ ?_<;>intro h137 H
     ·refine ob_ck H fun h138 H=>?_
      refine ob_ck H fun h139 H=>?_
      refine ob_ck H fun h140 H=>?_
      refine ⟨_,⟨H⟩,⟨rfl⟩,?_⟩
      repeat refine mo1TA2 ?_
      trivial
     ·refine ⟨((lit []),s83.2.2),⟨H⟩,⟨rfl⟩,?_⟩
      repeat refine mo1TA2 ?_
      trivial
    ·intro v133 H
     refine ob_ck H fun h141 H=>?_
     refine if_st H ?_ ?_<;>intro h142 H
     ·replace H:=some_st H
      refine ⟨(m84,(s83.1,s83.2.1+1,v133.1)),⟨H,Nat.lt_succ_self _⟩,⟨trivial⟩,⟨rfl⟩,?_⟩
      repeat refine mo1TA2 ?_
      trivial
     ·refine ob_ck H fun h143 H=>?_
      refine if_st H ?_ ?_<;>intro h144 H
      ·replace H:=some_st H
       refine ⟨(m84,(s83.1,s83.2.1+1,v133.1)),⟨H,Nat.lt_succ_self _⟩,⟨trivial⟩,⟨rfl⟩,?_⟩
       repeat refine mo1TA2 ?_
       trivial
      ·refine ob_ck H fun h145 H=>?_
       replace H:=some_st H
       refine ⟨(m84,(s83.1+1,s83.2.1+1,v133.1)),⟨H,Nat.lt_succ_self _⟩,⟨trivial⟩,⟨rfl⟩,?_⟩
       repeat refine mo1TA2 ?_
       trivial
   ·replace H:=some_st H
    dsimp only [stp,sm] at H
    refine ⟨s83.1,⟨H⟩,⟨rfl⟩,?_⟩
    repeat refine mo1TA2 ?_
    trivial
  ·intro v79 H
   refine if_st H ?_ ?_<;>intro h148 H
   ·have hfin:=fin_st H
    first | subst hfin | rw [←hfin]
    refine ⟨((none,0),([]:List (Int×((Option Addr×Nat)×List Int)×Int×Int))),⟨⟨Nat.le_refl _,(show List.map e37 []=[] from rfl),pin_nil⟩⟩,⟨(rdsOk_app.2 ⟨⟨Reads.nil,trivial⟩,P37.rds pin_nil⟩)⟩,?_⟩
    repeat refine mo1TA2 ?_
    trivial
   ·refine R.cut_famXG H 46 [2,3,4,6] [] [] (fun (v289:List (Int×(List Int)×Int×Int)) (g:(List (Int×((Option Addr×Nat)×List Int)×Int×Int)))=>[]) (fun (v289:List (Int×(List Int)×Int×Int)) (g:(List (Int×((Option Addr×Nat)×List Int)×Int×Int)))=>[(26,.cells 22 [.own 46]),(46,.arr 37 4 (v289.length) (ec c37 ((g))))]) [(6,.cells 3 [.v (.int .i64 (v79))]),(0,.cells 22 [.v (.slice none 0 0)]),(1,.cells 3 [.v (.int .i64 (0))]),(2,.cells 23 [.v (.int .i64 (0))])] 1 (fun q (v289:List (Int×(List Int)×Int×Int)) (g:(List (Int×((Option Addr×Nat)×List Int)×Int×Int)))=>g.map e37=v289∧(∀p∈g,P37 q p)) (fun H=>?_)
    refine And.intro ?_ ?_
    ·refine R.loop_famXG (bind_st H) [0] [(100026,0,37,4)] [] (fun _=>fun (s293:List (Int×(List Int)×Int×Int)×Int×ByteArray) (g:(List (Int×((Option Addr×Nat)×List Int)×Int×Int)))=>[(3,.v (.int .i64 (s293.2.1))),(4,.v (.string (s293.2.2)))]) (fun _=>fun (s293:List (Int×(List Int)×Int×Int)×Int×ByteArray) (g:(List (Int×((Option Addr×Nat)×List Int)×Int×Int)))=>[(26,.cells 22 [.own 39]),(39,.arr 37 4 (s293.1.length) (ec c37 ((g))))]) 1 (fun q (s293:List (Int×(List Int)×Int×Int)×Int×ByteArray) (g:(List (Int×((Option Addr×Nat)×List Int)×Int×Int)))=>g.map e37=s293.1∧(∀p∈g,P37 q p)) (fun n427 H=>?_)
     refine ⟨(n427,_,([]:List (Int×((Option Addr×Nat)×List Int)×Int×Int))),⟨H⟩,⟨(show List.map e37 []=[] from rfl),pin_nil⟩,?_⟩
     repeat refine mo1TA2 ?_
     rintro q292 hq291 ⟨m0,s293,X336⟩ H hrd
     obtain ⟨hE337,hin335⟩:=hrd
     obtain ⟨m294,hm0,H⟩:=IG_succ H
     dsimp only at hm0 hin335 hE337
     subst hm0
     try dsimp only at H
     refine if_st H ?_ ?_<;>intro h379 H
     ·refine R.cut_fam H 60 [0,3] [] (fun v386=>[(4,.v (.string (v386.1))),(5,.v (.string (v386.2)))]) (fun v386=>[]) [(26,.cells 22 [.own 39]),(39,.arr 37 4 (s293.1.length) (ec c37 (X336))),(6,.cells 3 [.v (.int .i64 (v79))]),(0,.cells 22 [.v (.slice none 0 0)]),(1,.cells 3 [.v (.int .i64 (0))]),(2,.cells 23 [.v (.int .i64 (0))]),(29,.cells 9 [.v (.string (a0))]),(33,.loop .ready none),(34,.dfr)] 0 (fun H=>?_)
      refine And.intro ?_ ?_
      ·obtain ⟨v388,hv389,H⟩:=call_st H
       refine ⟨(s293.2.2,10,v388),⟨hv389⟩,⟨trivial⟩,?_⟩
       iterate 2 refine ⟨⟨rfl⟩,?_⟩
       refine if_st H ?_ ?_<;>intro h390 H
       ·refine ob_ck H fun h391 H=>?_
        refine ob_ck H fun h392 H=>?_
        refine ob_ck H fun h393 H=>?_
        refine ⟨_,⟨H⟩,⟨rfl⟩,?_⟩
        repeat refine mo1TA2 ?_
        trivial
       ·refine ⟨((lit []),s293.2.2),⟨H⟩,⟨rfl⟩,?_⟩
        repeat refine mo1TA2 ?_
        trivial
      ·intro v386 H
       refine ob_ck H fun h394 H=>?_
       refine if_st H ?_ ?_<;>intro h395 H
       ·replace H:=some_st H
        refine ⟨(m294,(s293.1,s293.2.1+1,v386.1),X336),⟨H,Nat.lt_succ_self _⟩,⟨hE337,hin335⟩,⟨fun _ _ _ h=>(hq291 _ _ _ h)⟩,?_⟩
        repeat refine mo1TA2 ?_
        trivial
       ·refine ob_ck H fun h396 H=>?_
        refine if_st H ?_ ?_<;>intro h397 H
        ·replace H:=some_st H
         refine ⟨(m294,(s293.1,s293.2.1+1,v386.1),X336),⟨H,Nat.lt_succ_self _⟩,⟨hE337,hin335⟩,⟨fun _ _ _ h=>(hq291 _ _ _ h)⟩,?_⟩
         repeat refine mo1TA2 ?_
         trivial
        ·obtain ⟨v398,hv399,H⟩:=call_st H
         refine ⟨(v386.2,v398,mM),⟨hv399⟩,⟨⟨(Reads.mono hq291 hM),trivial⟩⟩,?_⟩
         refine ⟨⟨rfl⟩,?_⟩
         intro q400 g401 hq402 hok403 hrd404
         obtain ⟨A405,c406⟩:=g401
         have hc407:=hok403
         obtain ⟨hR408,_⟩:=hrd404
         try dsimp only at hc407 hR408
         refine if_st H ?_ ?_<;>intro h409 H
         ·replace H:=some_st H
          dsimp only [stp,sm] at H
          have hfin:=fin_st H
          first | subst hfin | rw [←hfin]
          refine ⟨((none,0),([]:List (Int×((Option Addr×Nat)×List Int)×Int×Int))),⟨⟨Nat.le_refl _,(show List.map e37 []=[] from rfl),pin_nil⟩⟩,⟨(rdsOk_app.2 ⟨⟨Reads.nil,trivial⟩,P37.rds pin_nil⟩)⟩,?_⟩
          repeat refine mo1TA2 ?_
          trivial
         ·refine ob_app (by decide) (by first | exact (ec_one c37_one) | ((repeat (refine List.forall_mem_cons.2 ⟨rfl,?_⟩));intro y hy;cases hy;done) | (intro y hy;simp [ei,eb,es,ec,c37] at hy;(first | (rcases hy with rfl | hy) | subst hy | skip);all_goals first | rfl | simp_all [Value.oneCell'])) H fun h410 H=>?_
          intro n411 zs413 hn412 hz414
          obtain rfl:n411=(s293.1++([(v398.1.1,v398.1.2.1,v398.1.2.2.1,v398.1.2.2.2)]:List (Int×(List Int)×Int×Int))).length:=hn412.trans (by first | exact List.length_append.symm | (simp;done) | (simp;omega))
          obtain ⟨X415,hE416,hP417,hl418,rfl⟩:=nx (f:=e37) (C:=c37) (P:=P37 _) (zs:=zs413) (er_app hE337 (show List.map e37 ([(v398.1.1,((A405,c406),v398.1.2.1),v398.1.2.2.1,v398.1.2.2.2)]:List (Int×((Option Addr×Nat)×List Int)×Int×Int))=([(v398.1.1,v398.1.2.1,v398.1.2.2.1,v398.1.2.2.2)]:List (Int×(List Int)×Int×Int)) from rfl)) (pin_app (fun p hp=>P37.mono hq402 (hin335 p hp)) (pin_one ⟨hR408,hc407⟩)) (by first | exact hz414.trans (ec_app (c:=c37) (xs:=X336) (ys:=([(v398.1.1,((A405,c406),v398.1.2.1),v398.1.2.2.1,v398.1.2.2.2)]:List (Int×((Option Addr×Nat)×List Int)×Int×Int)))).symm | (rw [hz414,(ec_vw c37_len)];exact (ec_app (c:=c37) (xs:=X336) (ys:=([(v398.1.1,((A405,c406),v398.1.2.1),v398.1.2.2.1,v398.1.2.2.2)]:List (Int×((Option Addr×Nat)×List Int)×Int×Int)))).symm) | (refine hz414.trans (Eq.trans ?_ (ec_app (c:=c37) (xs:=X336) (ys:=([(v398.1.1,((A405,c406),v398.1.2.1),v398.1.2.2.1,v398.1.2.2.2)]:List (Int×((Option Addr×Nat)×List Int)×Int×Int)))).symm);refine congrArg (_ ++ ·) ?_;simp [ec,c37];done))
          replace H:=some_st H
          refine ⟨(m294,((s293.1++([(v398.1.1,v398.1.2.1,v398.1.2.2.1,v398.1.2.2.2)]:List (Int×(List Int)×Int×Int))),s293.2.1+1,v386.1),X415),⟨H,Nat.lt_succ_self _⟩,⟨hE416,hP417⟩,⟨fun _ _ _ h=>(hq402 _ _ _ (hq291 _ _ _ h))⟩,?_⟩
          repeat refine mo1TA2 ?_
          trivial
     ·replace H:=some_st H
      dsimp only [stp,sm] at H
      refine ⟨(s293.1,X336),⟨H,hE337,hin335⟩,⟨fun _ _ _ h=>(hq291 _ _ _ h)⟩,?_⟩
      repeat refine mo1TA2 ?_
      trivial
    ·rintro q288 hq287 ⟨v289,X429⟩ ⟨H,hE430,hin428⟩
     dsimp only at H hin428 hE430
     intro q431 A432 c433 hq434 hc435 hR436
     replace hR436:Reads q431 A432 (ec c37 X429):=Eq.mp (congrArg (Reads q431 A432) (by first | exact rfl | (simp only [ei,eb,es,ec,c37,gmin,gmax,List.map_append,List.flatMap_append,List.nil_append,List.append_nil,List.append_assoc];done))) hR436
     have hfin:=fin_st H
     first | subst hfin | rw [←hfin]
     refine ⟨((A432,c433),X429),⟨⟨hc435,hE430,P37.cap (fun p hp=>P37.mono hq434 (hin428 p hp))⟩⟩,⟨(rdsOk_app.2 ⟨⟨hR436,trivial⟩,P37.rds (fun p hp=>P37.mono hq434 (hin428 p hp))⟩)⟩,?_⟩
     repeat refine mo1TA2 ?_
     trivial
end Go.Proofs.YticmemgehllacaaGreatDoor
end
section
namespace Go.Proofs.YticmemgehllacaaGreatDoor
open Go Go.Eng
abbrev Ev:=Int×(List Int)×Int×Int
def ba (l:List UInt8):ByteArray:=⟨l.toArray⟩
theorem ba_of (s:ByteArray):ba s.data.toList=s:=by cases s;rfl
theorem ba_size (l:List UInt8):(ba l).size=l.length:=by simp [ba,ByteArray.size]
def emit (n:Int) (cur:List UInt8):List (Int×List UInt8):=if cur=[]∨cur.head?=some 35 then [] else [(n,cur)]
def lns:Int→List UInt8→List UInt8→List (Int×List UInt8)
 | n,cur,[]=>emit n cur
 | n,cur,c::t=>if c=10 then emit n cur++lns (n+1) [] t else lns n (cur++[c]) t
theorem lns_cut:∀(a:List UInt8) (n:Int) (cur b:List UInt8),(10:UInt8) ∉ a→lns n cur (a++10::b)=emit n (cur++a)++lns (n+1) [] b
 | [],n,cur,b,_=>by simp [lns]
 | c::t,n,cur,b,h=>by
  have hc:¬c=10:=fun e=>h (by subst e;exact List.mem_cons_self)
  rw [List.cons_append,lns,if_neg hc,lns_cut t n (cur++[c]) b (fun m=>h (List.mem_cons_of_mem _ m)),List.append_assoc,List.singleton_append]
theorem lns_end:∀(a:List UInt8) (n:Int) (cur:List UInt8),(10:UInt8) ∉ a→lns n cur a=emit n (cur++a)
 | [],n,cur,_=>by simp [lns]
 | c::t,n,cur,h=>by
  have hc:¬c=10:=fun e=>h (by subst e;exact List.mem_cons_self)
  rw [lns,if_neg hc,lns_end t n (cur++[c]) (fun m=>h (List.mem_cons_of_mem _ m)),List.append_assoc,List.singleton_append]
theorem ib_no:∀{l:List UInt8} {c:UInt8},c ∉ l→Lib.indexByte l c=-1
 | [],c,_=>rfl
 | x::t,c,h=>by
  have hx:(x == c)=false:=by rw [beq_eq_false_iff_ne];intro e;exact h (by subst e;exact List.mem_cons_self)
  simp [Lib.indexByte,hx,ib_no (fun m=>h (List.mem_cons_of_mem _ m))]
theorem ib_at:∀{a:List UInt8} {c:UInt8} {b:List UInt8},c ∉ a→Lib.indexByte (a++c::b) c=a.length
 | [],c,b,_=>by simp [Lib.indexByte]
 | x::t,c,b,h=>by
  have hx:(x == c)=false:=by rw [beq_eq_false_iff_ne];intro e;exact h (by subst e;exact List.mem_cons_self)
  have ih:=ib_at (b:=b) (fun m=>h (List.mem_cons_of_mem _ m))
  have hne:((t.length:Int) == -1)=false:=by rw [beq_eq_false_iff_ne];omega
  simp [Lib.indexByte,hx,ih,hne]
theorem at_byte:∀(l:List UInt8) (c:UInt8),c ∉ l∨∃a b,l=a++c::b∧c ∉ a
 | [],c=>.inl (by simp)
 | x::t,c=>by
  by_cases e:x=c
  ·exact .inr ⟨[],t,by rw [e];rfl,by simp⟩
  ·rcases at_byte t c with h | ⟨a,b,h1,h2⟩
   ·exact .inl (by simp [h,Ne.symm e])
   ·exact .inr ⟨x::a,b,by rw [h1];rfl,by simp [h2,Ne.symm e]⟩
theorem g26_eq (s:ByteArray):g26 s 10=some (Lib.indexByte s.data.toList 10):=by
 unfold g26 g57
 rfl
theorem ext_take (s:ByteArray) (k:Nat):(s.extract (0:Int).toNat ((k:Int)).toNat).data.toList=s.data.toList.take k:=by
 rw [ByteArray.data_extract,Array.toList_extract]
 simp [List.extract]
theorem ext_drop (s:ByteArray) (k:Nat):(s.extract ((k:Int)+1).toNat ((s.size:Int)).toNat).data.toList=s.data.toList.drop (k+1):=by
 have e:((k:Int)+1).toNat=k+1:=by omega
 rw [e,ByteArray.data_extract,Array.toList_extract,Int.toNat_natCast,List.extract]
 refine List.take_of_length_le ?_
 rw [List.length_drop]
 show s.data.toList.length-_≤s.data.size-_
 rw [Array.length_toList]
 exact Nat.le_refl _
def cutl (s:ByteArray):ByteArray×ByteArray:=if 0≤Lib.indexByte s.data.toList 10 then (ba (s.data.toList.drop ((Lib.indexByte s.data.toList 10).toNat+1)),ba (s.data.toList.take (Lib.indexByte s.data.toList 10).toNat)) else (lit [],s)
theorem cut_step {α:Type} {Φ:α→Prop} {k:ByteArray×ByteArray→Option α} (s:ByteArray) (hs:s.size≤65536) (h:Gives (k (cutl s)) Φ) :
  Gives ((g26 s 10).bind fun v=>if 0≤v then ck (0≤(0:Int)∧(0:Int)≤v∧v≤(s.size:Int)) <| ck (inR .i64 (v+1)) <| ck (0≤v+1∧v+1≤(s.size:Int)∧(s.size:Int)≤(s.size:Int)) <| k (s.extract (v+1).toNat (s.size:Int).toNat,s.extract (0:Int).toNat v.toNat) else k (lit [],s)) Φ:=by
 refine g_call (g26_eq s) ?_
 rcases at_byte s.data.toList 10 with hn | ⟨a,b,e,hn⟩
 ·have hi:=ib_no hn
  unfold cutl at h
  rw [hi] at h ⊢
  exact g_f (by omega) (by rw [if_neg (by omega)] at h;exact h)
 ·have hi:Lib.indexByte s.data.toList 10=a.length:=by rw [e];exact ib_at hn
  have hl:a.length+1≤s.size:=by
   have:s.data.toList.length=s.size:=Array.length_toList
   rw [e] at this;simp at this;omega
  have e1:s.extract ((a.length:Int)+1).toNat (s.size:Int).toNat=ba (s.data.toList.drop (a.length+1)):=by
   rw [←ba_of (s.extract _ _),ext_drop]
  have e2:s.extract (0:Int).toNat ((a.length:Int)).toNat=ba (s.data.toList.take a.length):=by
   rw [←ba_of (s.extract _ _),ext_take]
  unfold cutl at h
  rw [hi] at h ⊢
  rw [if_pos (by omega),Int.toNat_natCast] at h
  refine g_t (by omega) (g_ck (by omega) (g_i64 (by omega) (g_ck (by omega) ?_)))
  rw [e1,e2]
  exact h
theorem cutl_lns (s:ByteArray) (hs:0<s.size) (n:Int):lns n [] s.data.toList=emit n (cutl s).2.data.toList++lns (n+1) [] (cutl s).1.data.toList∧(cutl s).1.size+1≤s.size∧(cutl s).2.size≤s.size:=by
 have hz:s.data.toList.length=s.size:=Array.length_toList
 rcases at_byte s.data.toList 10 with hn | ⟨a,b,e,hn⟩
 ·have hi:=ib_no hn
  unfold cutl
  rw [hi,if_neg (by omega)]
  refine ⟨?_,by show 0+1≤_;omega,Nat.le_refl _⟩
  rw [lns_end _ _ _ hn]
  show emit n s.data.toList=emit n s.data.toList++lns (n+1) [] []
  rw [show lns (n+1) [] []=[] from rfl,List.append_nil]
 ·have hi:Lib.indexByte s.data.toList 10=a.length:=by rw [e];exact ib_at hn
  unfold cutl
  rw [hi,if_pos (by omega),Int.toNat_natCast]
  dsimp only
  rw [ba_size,ba_size]
  rw [e] at hz ⊢
  have t1:(a++10::b).take a.length=a:=by simp
  have t2:(a++10::b).drop (a.length+1)=b:=by simp
  rw [t1,t2]
  simp at hz
  exact ⟨lns_cut a n [] b hn,by omega,by omega⟩
def prs (ev:List UInt8→Ev×Bool):List (Int×List UInt8)→List Ev→List Ev×Int×Int
 | [],acc=>(acc,0,0)
 | (n,l)::t,acc=>if (ev l).2 then prs ev t (acc++[(ev l).1]) else ([],n,290)
theorem emit_cases (n:Int) (cur:ByteArray):(cur.data.toList=(lit []).data.toList∧emit n cur.data.toList=[])∨(¬cur.data.toList=(lit []).data.toList∧0<cur.size ∧
  ((((cur.data.toList[(0:Int).toNat]?.getD 0).toNat:Int)=35∧emit n cur.data.toList=[])∨(¬((cur.data.toList[(0:Int).toNat]?.getD 0).toNat:Int)=35∧emit n cur.data.toList=[(n,cur.data.toList)]))):=by
 have hz:cur.data.toList.length=cur.size:=Array.length_toList
 generalize cur.data.toList=l at *
 cases l with
 | nil=>exact .inl ⟨rfl,rfl⟩
 | cons c t=>
  refine .inr ⟨by simp [lit],by rw [←hz];simp,?_⟩
  have e:(((c::t)[(0:Int).toNat]?.getD 0).toNat:Int)=(c.toNat:Int):=rfl
  rw [e]
  by_cases h:c=35
  ·exact .inl ⟨by rw [h];rfl,by simp [emit,h]⟩
  ·refine .inr ⟨fun hc=>h (UInt8.toNat_inj.1 (by show c.toNat=35;omega)),by simp [emit,h]⟩
set_option maxHeartbeats 1000000 in
theorem parse_eq (ev:List UInt8→Ev×Bool) (s:ByteArray) (hs:s.size≤65536) (hev:∀x∈lns 1 [] s.data.toList,g14 (ba x.2)=some (ev x.2)) :
  g5 s=some (if 4096<(lns 1 [] s.data.toList).length then ([],0,3) else prs ev (lns 1 [] s.data.toList) []):=by
 refine g_eq ?_
 unfold g5
 refine g_f (by omega) (g_jn (fun v=>v=((lns 1 [] s.data.toList).length:Int)) (fun k hk=>?_) fun v hv=>?_)
 ·refine g_bind (Ω:=fun o=>o=((lns 1 [] s.data.toList).length:Int)) (g_loop (fun t:Int×Int×ByteArray=>0≤t.1∧t.1≤t.2.1∧t.2.1+t.2.2.size≤65536∧t.1+(lns (t.2.1+1) [] t.2.2.data.toList).length=(lns 1 [] s.data.toList).length) (fun t=>t.2.2.size) ?_ ⟨Int.le_refl _,Int.le_refl _,by show (0:Int)+(s.size:Int)≤_;omega,by show (0:Int)+((lns (0+1) [] s.data.toList).length:Int)=_;rw [Int.zero_add,Int.zero_add]⟩) fun o ho=>hk _ ho
  rintro ⟨m,n,r⟩ ⟨h1,h2,h3,h4⟩
  dsimp only at h1 h2 h3 h4 ⊢
  refine g_if (fun hr=>?_) fun hr=>?_
  ·obtain ⟨c1,c2,c3⟩:=cutl_lns r (by omega) (n+1)
   refine g_jn (fun v=>v=cutl r) (fun k hk=>cut_step r (by omega) (hk _ rfl)) fun v hv=>?_
   subst hv
   rw [c1] at h4
   refine g_i64 (by omega) ?_
   rcases emit_cases (n+1) (cutl r).2 with ⟨e1,e2⟩ | ⟨e1,e0,⟨e3,e2⟩ | ⟨e3,e2⟩⟩
   ·rw [e2] at h4
    exact g_t e1 (g_go ⟨h1,by show m≤n+1;omega,by show n+1+((cutl r).1.size:Int)≤65536;omega,h4⟩ (by show (cutl r).1.size<_;omega))
   ·rw [e2] at h4
    exact g_f e1 (g_ck (by omega) (g_t e3 (g_go ⟨h1,by show m≤n+1;omega,by show n+1+((cutl r).1.size:Int)≤65536;omega,h4⟩ (by show (cutl r).1.size<_;omega))))
   ·rw [e2] at h4
    refine g_f e1 (g_ck (by omega) (g_f e3 (g_i64 (by omega) (g_go ⟨by show 0≤m+1;omega,by show m+1≤n+1;omega,by show n+1+((cutl r).1.size:Int)≤65536;omega,?_⟩ (by show (cutl r).1.size<_;omega)))))
    simp at h4 ⊢
    omega
  ·have hz:r.data.toList=[]:=by
    have:r.data.toList.length=r.size:=Array.length_toList
    exact List.eq_nil_of_length_eq_zero (by omega)
   rw [hz] at h4
   refine g_out ?_
   show m=_
   rw [show lns (n+1) [] []=[] from rfl] at h4
   simp at h4
   exact h4
 subst hv
 refine g_if (fun h=>?_) fun h=>?_
 ·rw [if_pos (by omega)];exact g_some rfl
 rw [if_neg (by omega)]
 have hlen:(lns 1 [] s.data.toList).length≤4096:=by omega
 refine g_jo ?_
 refine g_bind (Ω:=fun o=>prs ev (lns 1 [] s.data.toList) []=sm o (fun o=>([],o.1,290)) (fun o=>(o,0,0))) (g_loop (fun t:List Ev×Int×ByteArray=>t.1.length+(lns (t.2.1+1) [] t.2.2.data.toList).length=(lns 1 [] s.data.toList).length∧0≤t.2.1∧t.2.1+t.2.2.size≤65536∧(∀x∈lns (t.2.1+1) [] t.2.2.data.toList,g14 (ba x.2)=some (ev x.2))∧prs ev (lns 1 [] s.data.toList) []=prs ev (lns (t.2.1+1) [] t.2.2.data.toList) t.1) (fun t=>t.2.2.size) ?_ ⟨by show 0+(lns (0+1) [] s.data.toList).length=_;rw [Nat.zero_add,Int.zero_add],Int.le_refl _,by show (0:Int)+(s.size:Int)≤_;omega,by show ∀x∈lns (0+1) [] s.data.toList,g14 (ba x.2)=some (ev x.2);rw [Int.zero_add];exact hev,by show _=prs ev (lns (0+1) [] s.data.toList) [];rw [Int.zero_add]⟩) ?_
 ·rintro ⟨l,n,r⟩ ⟨h1,h2,h3,h4,h5⟩
  dsimp only at h1 h2 h3 h4 h5 ⊢
  refine g_if (fun hr=>?_) fun hr=>?_
  ·obtain ⟨c1,c2,c3⟩:=cutl_lns r (by omega) (n+1)
   refine g_jn (fun v=>v=cutl r) (fun k hk=>cut_step r (by omega) (hk _ rfl)) fun v hv=>?_
   subst hv
   rw [c1] at h1 h4 h5
   refine g_i64 (by omega) ?_
   rcases emit_cases (n+1) (cutl r).2 with ⟨e1,e2⟩ | ⟨e1,e0,⟨e3,e2⟩ | ⟨e3,e2⟩⟩
   ·rw [e2] at h1 h4 h5
    exact g_t e1 (g_go ⟨h1,by show 0≤n+1;omega,by show n+1+((cutl r).1.size:Int)≤65536;omega,h4,h5⟩ (by show (cutl r).1.size<_;omega))
   ·rw [e2] at h1 h4 h5
    exact g_f e1 (g_ck (by omega) (g_t e3 (g_go ⟨h1,by show 0≤n+1;omega,by show n+1+((cutl r).1.size:Int)≤65536;omega,h4,h5⟩ (by show (cutl r).1.size<_;omega))))
   ·rw [e2] at h1 h4 h5
    have hg:=h4 (n+1,(cutl r).2.data.toList) (by simp)
    dsimp only at hg
    rw [ba_of] at hg
    refine g_f e1 (g_ck (by omega) (g_f e3 (g_call hg ?_)))
    rw [List.singleton_append,prs] at h5
    refine g_if (fun hb=>?_) fun hb=>?_
    ·rw [if_neg hb] at h5
     exact g_out h5
    ·have hb:(ev (cutl r).2.data.toList).2=true:=by
      cases hq:(ev (cutl r).2.data.toList).2 with
      | true=>rfl
      | false=>exact absurd (by rw [hq];simp) hb
     rw [if_pos hb] at h5
     refine g_ck (by simp at h1;omega) (g_go ⟨?_,by show 0≤n+1;omega,by show n+1+((cutl r).1.size:Int)≤65536;omega,fun x hx=>h4 x (List.mem_append_right _ hx),h5⟩ (by show (cutl r).1.size<_;omega))
     simp at h1 ⊢
     omega
  ·have hz:r.data.toList=[]:=by
    have:r.data.toList.length=r.size:=Array.length_toList
    exact List.eq_nil_of_length_eq_zero (by omega)
   rw [hz,show lns (n+1) [] []=[] from rfl] at h5
   exact g_out h5
 ·intro o ho
  refine g_sm (fun b hb=>?_) fun c hc=>?_
  ·subst hb;exact g_some ho.symm
  ·subst hc;exact g_some ho.symm
end Go.Proofs.YticmemgehllacaaGreatDoor
end
section
namespace Go.Proofs.YticmemgehllacaaGreatDoor
open Go Go.Eng
theorem tl_len (s:ByteArray):s.data.toList.length=s.size:=Array.length_toList
theorem byte_drop {l:List UInt8} {i:Nat} (h:i<l.length):∃c,l.drop i=c::l.drop (i+1)∧l[i]?=some c:=⟨l[i],List.drop_eq_getElem_cons h,List.getElem?_eq_getElem h⟩
theorem u8_lt (c:UInt8):c.toNat<256:=c.toNat_lt
def vl:Int→List UInt8→Option Int
 | n,[]=>some n
 | n,c::t=>if c.toNat<48∨57<c.toNat then none else vl (n * 10+((c.toNat:Int)-48)) t
def sdP (l:List UInt8):Int×Bool:=
 if l.length<1∨3<l.length∨l.head?=some 48 then (0,false) else match vl 0 l with
 | none=>(0,false)
 | some v=>(v,decide (v≤500))
theorem side_eq (s:ByteArray):g59 s=some (sdP s.data.toList):=by
 have hz:=tl_len s
 generalize hl:s.data.toList=l at hz
 refine g_eq ?_
 unfold g59 sdP
 rw [hl]
 refine g_if (fun h=>by rw [if_pos (.inl (by omega))];exact g_some rfl) fun h1=>?_
 refine g_if (fun h=>by rw [if_pos (.inr (.inl (by omega)))];exact g_some rfl) fun h2=>?_
 obtain ⟨c0,h0,h0'⟩:=byte_drop (l:=l) (i:=0) (by omega)
 have hh:l.head?=some c0:=by rw [List.head?_eq_getElem?];exact h0'
 refine g_ck (by omega) (g_if (fun h=>?_) fun h=>?_)
 ·have:l.head?=some 48:=?_
  ·rw [if_pos (.inr (.inr this))];exact g_some rfl
  rw [hh]
  have e:((l[(0:Int).toNat]?.getD 0).toNat:Int)=c0.toNat:=by rw [show (0:Int).toNat=0 from rfl,h0'];rfl
  rw [e] at h
  congr 1
  exact UInt8.toNat_inj.1 (by show c0.toNat=48;omega)
 have hn0:¬l.head?=some 48:=by
  rw [hh]
  intro e
  refine h ?_
  rw [show (0:Int).toNat=0 from rfl,h0',Option.some.inj e];rfl
 rw [if_neg (by rintro (h | h | h)<;>first | omega | exact hn0 h)]
 refine g_jo ?_
 refine g_bind (Ω:=fun o=>(match vl 0 l with | none=>((0:Int),false) | some v=>(v,decide (v≤500)))=sm o (fun _=>((0:Int),false)) (fun v=>(v,decide (v≤500)))) (g_loop (fun t:Int×Int=>∃i:Nat,t.2=i∧i≤l.length∧0≤t.1∧t.1<10 ^ i∧vl 0 l=vl t.1 (l.drop i)) (fun t=>l.length-t.2.toNat) ?_ ⟨0,rfl,Nat.zero_le _,Int.le_refl _,by decide,rfl⟩) ?_
 ·rintro ⟨v,_⟩ ⟨i,rfl,hi,hv0,hv1,hv⟩
  dsimp only at hv0 hv1 hv ⊢
  refine g_if (fun hr=>?_) fun hr=>?_
  ·obtain ⟨c,h3,h4⟩:=byte_drop (l:=l) (i:=i) (by omega)
   have e:((l[((i:Int)).toNat]?.getD 0).toNat:Int)=c.toNat:=by rw [Int.toNat_natCast,h4];rfl
   have hc:=u8_lt c
   rw [h3,vl] at hv
   rw [e]
   refine g_ck (by omega) (g_if (fun h=>?_) fun h=>?_)
   ·rw [if_pos (.inl (by omega))] at hv;exact g_out (by rw [hv];rfl)
   refine g_ck (by omega) (g_if (fun h=>?_) fun h=>?_)
   ·rw [if_pos (.inr (by omega))] at hv;exact g_out (by rw [hv];rfl)
   rw [if_neg (by omega)] at hv
   have hi3:i≤2:=by omega
   have hp:v<1000:=by
    have:(10:Int) ^ i≤10 ^ 2:=by
     rcases (show i=0∨i=1∨i=2 by omega) with h | h | h<;>subst h<;>decide
    omega
   have hp':(10:Int) ^ (i+1)=10 * 10 ^ i:=by rw [Int.pow_succ,Int.mul_comm]
   refine g_i64 (by omega) (g_ck (by omega) (g_u8 (by omega) (g_i64 (by omega) (g_i64 (by omega) (g_i64 (by omega) (g_go ⟨i+1,by show (i:Int)+1=_;omega,by omega,by show 0≤v * 10+((c.toNat:Int)-48);omega,by show v * 10+((c.toNat:Int)-48)<_;rw [hp'];omega,hv⟩ (by show l.length-((i:Int)+1).toNat<l.length-((i:Int)).toNat;omega)))))))
  ·have:l.drop i=[]:=by rw [List.drop_eq_nil_iff];omega
   rw [this,vl] at hv
   exact g_out (by rw [hv];rfl)
 ·intro o ho
  rw [ho]
  refine g_sm (fun b hb=>?_) fun c hc=>?_
  ·subst hb;exact g_some rfl
  ·subst hc;exact g_some rfl
def ptP (l:List UInt8):Bool:=l.all (fun c=>decide (32≤c.toNat∧c.toNat≤126)) && decide (l≠[])
theorem print_eq (s:ByteArray) (hs:s.size≤140737488355328):g29 s=some (ptP s.data.toList):=by
 have hz:=tl_len s
 generalize hl:s.data.toList=l at hz
 refine g_eq ?_
 unfold g29 ptP
 rw [hl]
 refine g_jo ?_
 refine g_bind (Ω:=fun o=>l.all (fun c=>decide (32≤c.toNat∧c.toNat≤126))=sm o (fun _=>false) (fun _=>true)) (g_loop (fun t:Int=>∃i:Nat,t=i∧i≤l.length∧l.all (fun c=>decide (32≤c.toNat∧c.toNat≤126))=(l.drop i).all (fun c=>decide (32≤c.toNat∧c.toNat≤126))) (fun t=>l.length-t.toNat) ?_ ⟨0,rfl,Nat.zero_le _,rfl⟩) ?_
 ·rintro _ ⟨i,rfl,hi,hv⟩
  refine g_if (fun hr=>?_) fun hr=>?_
  ·obtain ⟨c,h3,h4⟩:=byte_drop (l:=l) (i:=i) (by omega)
   have e:((l[((i:Int)).toNat]?.getD 0).toNat:Int)=c.toNat:=by rw [Int.toNat_natCast,h4];rfl
   rw [h3,List.all_cons] at hv
   rw [e]
   refine g_ck (by omega) (g_if (fun h=>?_) fun h=>?_)
   ·rw [decide_eq_false (by omega),Bool.false_and] at hv;exact g_out hv
   refine g_ck (by omega) (g_if (fun h=>?_) fun h=>?_)
   ·rw [decide_eq_false (by omega),Bool.false_and] at hv;exact g_out hv
   rw [decide_eq_true (by omega),Bool.true_and] at hv
   exact g_i64 (by omega) (g_go ⟨i+1,by omega,by omega,hv⟩ (by show l.length-((i:Int)+1).toNat<l.length-((i:Int)).toNat;omega))
  ·have:l.drop i=[]:=by rw [List.drop_eq_nil_iff];omega
   rw [this] at hv
   exact g_out hv
 ·intro o ho
  rw [ho]
  refine g_sm (fun b hb=>?_) fun c hc=>?_
  ·subst hb;exact g_some rfl
  ·subst hc;refine g_some ?_
   show decide (¬l=(lit []).data.toList)=(true && decide (l≠[]))
   rfl
def hxd (c:UInt8):Int:=Lib.indexByte [48,49,50,51,52,53,54,55,56,57,97,98,99,100,101,102] c
theorem hxd_rng (c:UInt8):-1≤hxd c∧hxd c≤15:=by
 rcases at_byte [48,49,50,51,52,53,54,55,56,57,97,98,99,100,101,102] c with h | ⟨a,b,h1,h2⟩
 ·unfold hxd;rw [ib_no h];omega
 ·have hl:=congrArg List.length h1
  simp at hl
  unfold hxd;rw [h1,ib_at h2];omega
theorem hx_call (c:UInt8):g26 (lit [48,49,50,51,52,53,54,55,56,57,97,98,99,100,101,102]) (c.toNat:Int)=some (hxd c):=by
 unfold g26 g57 hxd
 have e:((c.toNat:Int)).toNat.toUInt8=c:=by rw [Int.toNat_natCast];exact UInt8.toNat_inj.1 (by simp [Nat.toUInt8])
 rw [e]
 rfl
def hxl:List UInt8→Option (List Int)
 | a::b::t=>if hxd a<0∨hxd b<0 then none else (hxl t).map fun r=>(16 * hxd a+hxd b)::r
 | _=>some []
def hxP (l:List UInt8):List Int×Bool:=if l.length % 2≠0 then ([],false) else match hxl l with | none=>([],false) | some r=>(r,true)
theorem bits_hx:∀a b:Fin 16,IntKind.wrap .u8 (bits .or .i64 (IntKind.wrap .i64 ((a.val:Int) * 2 ^ (4:Int).toNat)) (b.val:Int))=16 * (a.val:Int)+(b.val:Int):=by decide +kernel
theorem bits_hxi {a b:Int} (ha:0≤a∧a≤15) (hb:0≤b∧b≤15):IntKind.wrap .u8 (bits .or .i64 (IntKind.wrap .i64 (a * 2 ^ (4:Int).toNat)) b)=16 * a+b:=by
 have:=bits_hx ⟨a.toNat,by omega⟩ ⟨b.toNat,by omega⟩
 dsimp only at this
 rwa [Int.toNat_of_nonneg ha.1,Int.toNat_of_nonneg hb.1] at this
theorem hex_eq (s:ByteArray) (hs:s.size≤140737488355328):g30 s=some (hxP s.data.toList):=by
 have hz:=tl_len s
 generalize hl:s.data.toList=l at hz
 refine g_eq ?_
 unfold g30 hxP
 rw [hl]
 have hm:Int.tmod (s.size:Int) 2=((l.length % 2:Nat):Int):=by
  have:=Int.tmod_eq_emod_of_nonneg (a:=(s.size:Int)) (b:=2) (by omega);omega
 rw [hm]
 refine g_if (fun h=>by rw [if_pos (by omega)];exact g_some rfl) fun h=>?_
 rw [if_neg (by omega)]
 refine g_jo ?_
 refine g_bind (Ω:=fun o=>(match hxl l with | none=>(([]:List Int),false) | some r=>(r,true))=sm o (fun _=>(([]:List Int),false)) (fun r=>(r,true))) (g_loop (fun t:List Int×Int=>∃i:Nat,t.2=i∧i≤l.length∧i % 2=0∧t.1.length≤i∧hxl l=(hxl (l.drop i)).map (t.1 ++ ·)) (fun t=>l.length-t.2.toNat) ?_ ⟨0,rfl,Nat.zero_le _,rfl,Nat.zero_le _,by show hxl l=(hxl l).map fun x=>x;cases hxl l<;>rfl⟩) ?_
 ·rintro ⟨r,_⟩ ⟨i,rfl,hi,hi2,hr,hv⟩
  dsimp only at hr hv ⊢
  refine g_i64 (by omega) (g_if (fun hq=>?_) fun hq=>?_)
  ·obtain ⟨a,h3,h4⟩:=byte_drop (l:=l) (i:=i) (by omega)
   obtain ⟨b,h5,h6⟩:=byte_drop (l:=l) (i:=i+1) (by omega)
   have e1:((l[((i:Int)).toNat]?.getD 0).toNat:Int)=a.toNat:=by rw [Int.toNat_natCast,h4];rfl
   have e2:((l[((i:Int)+1).toNat]?.getD 0).toNat:Int)=b.toNat:=by rw [show ((i:Int)+1).toNat=i+1 by omega,h6];rfl
   rw [h3,h5,hxl] at hv
   rw [e1,e2]
   obtain ⟨ra1,ra2⟩:=hxd_rng a
   obtain ⟨rb1,rb2⟩:=hxd_rng b
   refine g_ck (by omega) (g_call (hx_call a) (g_i64 (by omega) (g_ck (by omega) (g_call (hx_call b) ?_))))
   refine g_if (fun h=>?_) fun h=>?_
   ·rw [if_pos (.inl h)] at hv;exact g_out (by rw [hv];rfl)
   refine g_if (fun h=>?_) fun h=>?_
   ·rw [if_pos (.inr h)] at hv;exact g_out (by rw [hv];rfl)
   rw [if_neg (by omega)] at hv
   rw [bits_hxi (by omega) (by omega)]
   refine g_ck (by omega) (g_i64 (by omega) (g_go ⟨i+2,by show (i:Int)+2=_;omega,by omega,by omega,by show (r++[_]).length≤_;simp;omega,?_⟩ (by show l.length-((i:Int)+2).toNat<l.length-((i:Int)).toNat;omega)))
   rw [hv,Option.map_map]
   congr 1
   funext x
   simp
  ·have:l.drop i=[]:=by rw [List.drop_eq_nil_iff];omega
   rw [this,show hxl []=some [] from rfl] at hv
   refine g_out ?_
   rw [hv]
   show (r++[],true)=(r,true)
   rw [List.append_nil]
 ·intro o ho
  rw [ho]
  refine g_sm (fun b hb=>?_) fun c hc=>?_
  ·subst hb;exact g_some rfl
  ·subst hc;exact g_some rfl
end Go.Proofs.YticmemgehllacaaGreatDoor
end
section
namespace Go.Proofs.YticmemgehllacaaGreatDoor
open Go Go.Eng
theorem index_one (c:UInt8):∀l:List UInt8,Lib.index l [c]=Lib.indexByte l c
 | []=>rfl
 | x::t=>by
  rw [Lib.index,Lib.indexByte,index_one c t]
  have e:([c]:List UInt8).isPrefixOf (x::t)=(x == c):=by
   simp [List.isPrefixOf]
   exact Bool.beq_comm
  rw [e]
theorem cut_at {a b:List UInt8} {c:UInt8} (h:c ∉ a):Lib.cut (a++c::b) [c]=(a,b,true):=by
 unfold Lib.cut
 rw [index_one,ib_at h,if_pos (by omega),Int.toNat_natCast]
 simp
theorem cut_no {a:List UInt8} {c:UInt8} (h:c ∉ a):Lib.cut a [c]=(a,[],false):=by
 unfold Lib.cut
 rw [index_one,ib_no h,if_neg (by omega)]
def rsP (l:List UInt8):Ev×Bool:=((3,([]:List Int),(sdP (Lib.cut l [32]).1).1,(sdP (Lib.cut l [32]).2.1).1),(sdP (Lib.cut l [32]).1).2 && (sdP (Lib.cut l [32]).2.1).2)
theorem cut_sizes (s:ByteArray):(ba (Lib.cut s.data.toList [32]).1).size≤s.size∧(ba (Lib.cut s.data.toList [32]).2.1).size≤s.size:=by
 rw [ba_size,ba_size,←tl_len s]
 rcases at_byte s.data.toList 32 with h | ⟨a,b,h1,h2⟩
 ·rw [cut_no h];exact ⟨Nat.le_refl _,Nat.zero_le _⟩
 ·rw [h1,cut_at h2];simp;omega
theorem g27_eq (s:ByteArray) (hs:s.size≤65536):g27 s (lit [32])=some (ba (Lib.cut s.data.toList [32]).1,ba (Lib.cut s.data.toList [32]).2.1,(Lib.cut s.data.toList [32]).2.2):=by
 unfold g27 ck
 rw [if_pos (by omega)]
 rfl
theorem resize_eq (s:ByteArray) (hs:s.size≤65536):g28 s=some (rsP s.data.toList):=by
 refine g_eq ?_
 unfold g28 rsP
 refine g_call (g27_eq s hs) (g_call (side_eq _) (g_call (side_eq _) ?_))
 dsimp only [ba]
 refine g_if (fun h=>?_) fun h=>?_
 ·rw [h,Bool.true_and];exact g_some rfl
 ·have h:(sdP (Lib.cut s.data.toList [32]).1).2=false:=by
   cases hq:(sdP (Lib.cut s.data.toList [32]).1).2 with
   | false=>rfl
   | true=>exact absurd hq h
  rw [h,Bool.false_and];exact g_some rfl
def btE (l:List Int):Ev:=(1,l,0,0)
def evP (key:List UInt8→Ev×Bool) (l:List UInt8):Ev×Bool:=
 let x:=Lib.cut l [32]
 if x.1=[116,105,99,107] then ((2,[],0,0),!x.2.2)
 else if x.1=[99,108,111,115,101] then ((4,[],0,0),!x.2.2)
 else if x.1=[114,101,115,105,122,101] then rsP x.2.1
 else if x.1=[116,121,112,101] then (btE (bytesOf (ba x.2.1)),ptP x.2.1)
 else if x.1=[98,121,116,101,115] then (btE (hxP x.2.1).1,(hxP x.2.1).2 && (decide (0<(hxP x.2.1).1.length) || !x.2.2))
 else if x.1=[107,101,121] then key x.2.1
 else ((0,[],0,0),false)
theorem dec_not (b:Bool):decide (¬(b=true))=!b:=by cases b<;>rfl
theorem event_eq (key:List UInt8→Ev×Bool) (s:ByteArray) (hs:s.size≤65536) (hk:¬(Lib.cut s.data.toList [32]).1=[107,101,121]):g14 s=some (evP key s.data.toList):=by
 obtain ⟨z1,z2⟩:=cut_sizes s
 refine g_eq ?_
 unfold g14 evP
 refine g_call (g27_eq s hs) ?_
 generalize Lib.cut s.data.toList [32]=x at *
 dsimp only [ba] at z1 z2 ⊢
 refine g_if (fun h=>by rw [if_pos (show x.1=[116,105,99,107] from h),dec_not];exact g_some rfl) fun h1=>?_
 rw [if_neg (show ¬x.1=[116,105,99,107] from h1)]
 refine g_if (fun h=>by rw [if_pos (show x.1=[99,108,111,115,101] from h),dec_not];exact g_some rfl) fun h2=>?_
 rw [if_neg (show ¬x.1=[99,108,111,115,101] from h2)]
 refine g_if (fun h=>by rw [if_pos (show x.1=[114,101,115,105,122,101] from h)];exact g_call (resize_eq _ (by omega)) (g_some rfl)) fun h3=>?_
 rw [if_neg (show ¬x.1=[114,101,115,105,122,101] from h3)]
 refine g_if (fun h=>by rw [if_pos (show x.1=[116,121,112,101] from h)];exact g_ck (by omega) (g_call (print_eq _ (by omega)) (g_some rfl))) fun h4=>?_
 rw [if_neg (show ¬x.1=[116,121,112,101] from h4)]
 refine g_if (fun h=>?_) fun h5=>?_
 ·rw [if_pos (show x.1=[98,121,116,101,115] from h)]
  refine g_call (hex_eq _ (by omega)) ?_
  dsimp only
  refine g_if (fun h=>?_) fun h=>?_
  ·rw [h,Bool.true_and]
   refine g_if (fun h6=>?_) fun h6=>?_
   ·rw [decide_eq_true (show 0<(hxP x.2.1).1.length by omega),Bool.true_or];exact g_some rfl
   ·rw [decide_eq_false (show ¬0<(hxP x.2.1).1.length by omega),Bool.false_or,dec_not];exact g_some rfl
  ·have h:(hxP x.2.1).2=false:=by
    cases hq:(hxP x.2.1).2 with
    | false=>rfl
    | true=>exact absurd hq h
   rw [h,Bool.false_and];exact g_some rfl
 rw [if_neg (show ¬x.1=[98,121,116,101,115] from h5)]
 refine g_f hk (g_some ?_)
 rw [if_neg hk]
end Go.Proofs.YticmemgehllacaaGreatDoor
end
section
namespace Go.Proofs.YticmemgehllacaaGreatDoor
open Go Go.Eng
def decN (n:Nat):List UInt8:=
 if n<10 then [UInt8.ofNat (48+n)] else if n<100 then [UInt8.ofNat (48+n / 10),UInt8.ofNat (48+n % 10)] else [UInt8.ofNat (48+n / 100),UInt8.ofNat (48+n / 10 % 10),UInt8.ofNat (48+n % 10)]
theorem dec_side:∀n:Fin 501,1≤n.val→sdP (decN n.val)=((n.val:Int),true):=by decide +kernel
theorem dec_signs:∀n:Fin 1000,(decN n.val).all (fun c=>decide (48≤c.toNat∧c.toNat≤57))=true:=by decide +kernel
theorem dec_len:∀n:Fin 1000,(decN n.val).length≤3:=by decide +kernel
theorem dec_rng {n:Nat} (h:n<1000) {c:UInt8} (hc:c∈decN n):48≤c.toNat∧c.toNat≤57:=by
 have:=List.all_eq_true.1 (dec_signs ⟨n,h⟩) c hc
 exact of_decide_eq_true this
def hxs (n:Nat):UInt8:=if n<10 then UInt8.ofNat (48+n) else UInt8.ofNat (87+n)
def dgs:List UInt8→List UInt8
 | []=>[]
 | c::t=>hxs (c.toNat / 16)::hxs (c.toNat % 16)::dgs t
theorem hxd_hxs:∀n:Fin 16,hxd (hxs n.val)=(n.val:Int):=by decide +kernel
theorem hxs_rng:∀n:Fin 16,48≤(hxs n.val).toNat:=by decide +kernel
theorem hxl_dgs:∀l:List UInt8,hxl (dgs l)=some (l.map fun c=>(c.toNat:Int))
 | []=>rfl
 | c::t=>by
  have hc:=u8_lt c
  have h1:=hxd_hxs ⟨c.toNat / 16,by omega⟩
  have h2:=hxd_hxs ⟨c.toNat % 16,by omega⟩
  dsimp only at h1 h2
  rw [dgs,hxl,h1,h2,if_neg (by omega),hxl_dgs t]
  simp
  omega
theorem dgs_len:∀l:List UInt8,(dgs l).length=2 * l.length
 | []=>rfl
 | c::t=>by rw [dgs,List.length_cons,List.length_cons,dgs_len t,List.length_cons];omega
theorem dgs_rng:∀{l:List UInt8} {c:UInt8},c∈dgs l→48≤c.toNat
 | [],c,h=>by cases h
 | x::t,c,h=>by
  have hx:=u8_lt x
  rw [dgs] at h
  rcases List.mem_cons.1 h with rfl | h
  ·exact hxs_rng ⟨x.toNat / 16,by omega⟩
  rcases List.mem_cons.1 h with rfl | h
  ·exact hxs_rng ⟨x.toNat % 16,by omega⟩
  exact dgs_rng h
def byt (l:List Int):List UInt8:=l.map fun n=>UInt8.ofNat n.toNat
theorem byt_back {l:List Int} (h:isBytes l):(byt l).map (fun c=>(c.toNat:Int))=l:=by
 induction l with
 | nil=>rfl
 | cons n t ih=>
  have hn:=h n List.mem_cons_self
  unfold byt at ih ⊢
  rw [List.map_cons,List.map_cons,ih (fun c hc=>h c (List.mem_cons_of_mem _ hc))]
  congr 1
  rw [UInt8.toNat_ofNat']
  omega
def lineP (e:Ev):List UInt8×Bool:=
 if e.1=2 then ([116,105,99,107],true)
 else if e.1=4 then ([99,108,111,115,101],true)
 else if e.1=3 then (if e.2.2.1<1∨500<e.2.2.1∨e.2.2.2<1∨500<e.2.2.2 then ([],false) else ([114,101,115,105,122,101,32]++decN e.2.2.1.toNat++[32]++decN e.2.2.2.toNat,true))
 else if e.1=1 then (if ptP (byt e.2.1)=true then [116,121,112,101,32]++byt e.2.1 else if e.2.1.length=0 then [98,121,116,101,115] else [98,121,116,101,115,32]++dgs (byt e.2.1),true)
 else ([],false)
def norm (e:Ev):Ev:=if e.1=3 then (3,[],e.2.2.1,e.2.2.2) else if e.1=1 then btE e.2.1 else (e.1,[],0,0)
theorem line_reads (key:List UInt8→Ev×Bool) {e:Ev} (hb:isBytes e.2.1) (hl:(lineP e).2=true):(10:UInt8) ∉ (lineP e).1∧(∃c t,(lineP e).1=c::t∧c≠35)∧evP key (lineP e).1=(norm e,true)∧¬(Lib.cut (lineP e).1 [32]).1=[107,101,121]:=by
 obtain ⟨w,l,W,H⟩:=e
 dsimp only at hb
 unfold lineP at hl ⊢
 dsimp only at hl ⊢
 by_cases h2:w=2
 ·subst h2
  rw [if_pos rfl]
  refine ⟨by decide,⟨_,_,rfl,by decide⟩,?_⟩
  have hc:Lib.cut [116,105,99,107] [32]=([116,105,99,107],[],false):=cut_no (by decide)
  unfold evP
  rw [hc]
  exact ⟨rfl,by decide⟩
 rw [if_neg h2] at hl ⊢
 by_cases h4:w=4
 ·subst h4
  rw [if_pos rfl]
  refine ⟨by decide,⟨_,_,rfl,by decide⟩,?_⟩
  have hc:Lib.cut [99,108,111,115,101] [32]=([99,108,111,115,101],[],false):=cut_no (by decide)
  unfold evP
  rw [hc]
  exact ⟨rfl,by decide⟩
 rw [if_neg h4] at hl ⊢
 by_cases h3:w=3
 ·subst h3
  rw [if_pos rfl] at hl ⊢
  by_cases hr:W<1∨500<W∨H<1∨500<H
  ·rw [if_pos hr] at hl;cases hl
  rw [if_neg hr]
  obtain ⟨a,rfl⟩:=Int.eq_ofNat_of_zero_le (show 0≤W by omega)
  obtain ⟨b,rfl⟩:=Int.eq_ofNat_of_zero_le (show 0≤H by omega)
  simp only [Int.toNat_natCast]
  have ha:a≤500:=by omega
  have hb2:b≤500:=by omega
  have no32:∀n,n≤500→(32:UInt8) ∉ decN n:=fun n hn hm=>by
   have:=dec_rng (show n<1000 by omega) hm;have e:(32:UInt8).toNat=32:=rfl;omega
  have no10:∀n,n≤500→(10:UInt8) ∉ decN n:=fun n hn hm=>by
   have:=dec_rng (show n<1000 by omega) hm;have e:(10:UInt8).toNat=10:=rfl;omega
  refine ⟨?_,⟨114,_,rfl,by decide⟩,?_⟩
  ·intro hm
   simp only [List.mem_append] at hm
   rcases hm with ((hm | hm) | hm) | hm
   ·revert hm;decide
   ·exact no10 a ha hm
   ·revert hm;decide
   ·exact no10 b hb2 hm
  have e1:[114,101,115,105,122,101,32]++decN a++[32]++decN b=[114,101,115,105,122,101]++32::(decN a++32::decN b):=by simp
  have hc:Lib.cut ([114,101,115,105,122,101]++32::(decN a++32::decN b)) [32]=([114,101,115,105,122,101],decN a++32::decN b,true):=cut_at (by decide)
  have hc2:Lib.cut (decN a++32::decN b) [32]=(decN a,decN b,true):=cut_at (no32 a ha)
  have s1:=dec_side ⟨a,by omega⟩ (by dsimp only;omega)
  have s2:=dec_side ⟨b,by omega⟩ (by dsimp only;omega)
  dsimp only at s1 s2
  rw [e1]
  unfold evP
  rw [hc]
  refine ⟨?_,by dsimp only;decide⟩
  show rsP (decN a++32::decN b)=_
  unfold rsP
  rw [hc2]
  dsimp only
  rw [s1,s2]
  rfl
 rw [if_neg h3] at hl ⊢
 by_cases h1:w=1
 ·subst h1
  rw [if_pos rfl]
  have hbk:=byt_back hb
  by_cases hp:ptP (byt l)=true
  ·rw [if_pos hp]
   have hc:Lib.cut ([116,121,112,101]++32::byt l) [32]=([116,121,112,101],byt l,true):=cut_at (by decide)
   have e1:[116,121,112,101,32]++byt l=[116,121,112,101]++32::byt l:=by simp
   refine ⟨?_,⟨116,_,rfl,by decide⟩,?_⟩
   ·intro hm
    rcases List.mem_append.1 hm with hm | hm
    ·revert hm;decide
    ·have:=of_decide_eq_true (List.all_eq_true.1 (Bool.and_eq_true_iff.1 hp).1 _ hm)
     have e:(10:UInt8).toNat=10:=rfl
     omega
   rw [e1]
   unfold evP
   rw [hc]
   refine ⟨?_,by dsimp only;decide⟩
   show (btE (bytesOf (ba (byt l))),ptP (byt l))=_
   rw [hp]
   unfold bytesOf ba
   rw [hbk]
   rfl
  rw [if_neg hp]
  by_cases h0:l.length=0
  ·rw [if_pos h0]
   have hz:l=[]:=List.eq_nil_of_length_eq_zero h0
   subst hz
   have hc:Lib.cut [98,121,116,101,115] [32]=([98,121,116,101,115],[],false):=cut_no (by decide)
   refine ⟨by decide,⟨_,_,rfl,by decide⟩,?_⟩
   unfold evP
   rw [hc]
   exact ⟨rfl,by decide⟩
  rw [if_neg h0]
  have hc:Lib.cut ([98,121,116,101,115]++32::dgs (byt l)) [32]=([98,121,116,101,115],dgs (byt l),true):=cut_at (by decide)
  have e1:[98,121,116,101,115,32]++dgs (byt l)=[98,121,116,101,115]++32::dgs (byt l):=by simp
  refine ⟨?_,⟨98,_,rfl,by decide⟩,?_⟩
  ·intro hm
   rcases List.mem_append.1 hm with hm | hm
   ·revert hm;decide
   ·have:=dgs_rng hm
    have e:(10:UInt8).toNat=10:=rfl
    omega
  have hx:hxP (dgs (byt l))=(l,true):=by
   unfold hxP
   rw [if_neg (by rw [dgs_len];omega),hxl_dgs,hbk]
  rw [e1]
  unfold evP
  rw [hc]
  refine ⟨?_,by dsimp only;decide⟩
  show (btE (hxP (dgs (byt l))).1,(hxP (dgs (byt l))).2 && (decide (0<(hxP (dgs (byt l))).1.length) || !true))=_
  rw [hx]
  dsimp only
  rw [decide_eq_true (by omega)]
  rfl
 ·rw [if_neg h1] at hl;cases hl
def txt (l:List Ev):List UInt8:=l.flatMap fun e=>(lineP e).1++[10]
theorem lns_txt:∀(l:List Ev) (n:Int),(∀e∈l,isBytes e.2.1∧(lineP e).2=true)→∃L:List (Int×List UInt8),lns n [] (txt l)=L∧L.map (·.2)=l.map (fun e=>(lineP e).1)
 | [],n,_=>⟨_,rfl,rfl⟩
 | e::t,n,h=>by
  obtain ⟨hb,hl⟩:=h e List.mem_cons_self
  obtain ⟨h10,⟨c,r,hcr,hne⟩,_,_⟩:=line_reads (fun _=>((0,[],0,0),false)) hb hl
  obtain ⟨L,hL,hm⟩:=lns_txt t (n+1) fun e he=>h e (List.mem_cons_of_mem _ he)
  have e1:txt (e::t)=(lineP e).1++10::txt t:=by simp [txt]
  refine ⟨(n,(lineP e).1)::L,?_,by rw [List.map_cons,List.map_cons,hm]⟩
  rw [e1,lns_cut _ _ _ _ h10,hL,List.nil_append]
  unfold emit
  rw [if_neg,List.singleton_append]
  rw [hcr]
  rintro (h | h)
  ·cases h
  ·exact hne (Option.some.inj h)
theorem prs_map (ev:List UInt8→Ev×Bool):∀(L:List (Int×List UInt8)) (acc:List Ev),(∀x∈L,(ev x.2).2=true)→prs ev L acc=(acc++L.map (fun x=>(ev x.2).1),0,0)
 | [],acc,_=>by simp [prs]
 | (n,l)::t,acc,h=>by
  rw [prs,if_pos (h (n,l) List.mem_cons_self),prs_map ev t _ fun x hx=>h x (List.mem_cons_of_mem _ hx)]
  simp
theorem parse_txt (l:List Ev) (h:∀e∈l,isBytes e.2.1∧(lineP e).2=true) (hs:(txt l).length≤65536) (hl:l.length≤4096):g5 (ba (txt l))=some (l.map norm,0,0):=by
 let key:List UInt8→Ev×Bool:=fun _=>((0,[],0,0),false)
 obtain ⟨L,hL,hm⟩:=lns_txt l 1 h
 have hrd:∀x∈L,∃e∈l,x.2=(lineP e).1:=fun x hx=>by
  have:x.2∈L.map (·.2):=List.mem_map_of_mem hx
  rw [hm] at this
  obtain ⟨e,he,h1⟩:=List.mem_map.1 this
  exact ⟨e,he,h1.symm⟩
 have hlen:L.length=l.length:=by have:=congrArg List.length hm;simpa using this
 have hsz:∀x∈L,x.2.length≤65536:=fun x hx=>by
  obtain ⟨e,he,h1⟩:=hrd x hx
  have:(lineP e).1.length≤(txt l).length:=by
   obtain ⟨a,b,rfl⟩:=List.append_of_mem he
   simp [txt];omega
  rw [h1];omega
 rw [parse_eq (evP key) (ba (txt l)) (by rw [ba_size];exact hs) ?_]
 ·show some (if 4096<(lns 1 [] (txt l)).length then _ else prs (evP key) (lns 1 [] (txt l)) [])=_
  rw [hL,if_neg (by omega),prs_map]
  ·have e1:L.map (fun x=>(evP key x.2).1)=(L.map (·.2)).map fun x=>(evP key x).1:=by rw [List.map_map];rfl
   rw [List.nil_append,e1,hm,List.map_map]
   congr 2
   refine List.map_congr_left fun e he=>?_
   obtain ⟨hb,hl⟩:=h e he
   show (evP key (lineP e).1).1=_
   rw [(line_reads key hb hl).2.2.1]
  ·intro x hx
   obtain ⟨e,he,h1⟩:=hrd x hx
   obtain ⟨hb,hl⟩:=h e he
   rw [h1,(line_reads key hb hl).2.2.1]
 ·intro x hx
  replace hx:x∈lns 1 [] (txt l):=hx
  rw [hL] at hx
  obtain ⟨e,he,h1⟩:=hrd x hx
  obtain ⟨hb,hl⟩:=h e he
  have:=hsz x hx
  exact event_eq key (ba x.2) (by rw [ba_size];exact this) (by show ¬(Lib.cut x.2 [32]).1=_;rw [h1];exact (line_reads key hb hl).2.2.2)
end Go.Proofs.YticmemgehllacaaGreatDoor
end
section
set_option maxRecDepth 8000
set_option maxHeartbeats 4000000
namespace Go.Proofs.YticmemgehllacaaGreatDoor
open Go Go.Eng
noncomputable def g55a (a0:Int):Option (ByteArray):=
 if a0<0 then
  none
 else
  (
   if a0<10 then
    (
     ck (inR .i64 (48+a0)) <|
     ck (isBytes ([IntKind.wrap .u8 (48+a0)])) <|
     some (strOf ([IntKind.wrap .u8 (48+a0)]))
    )
   else
    none
  )
noncomputable def k55a:Eng.CS:={ f:=55,calm:=true,more:=0,ι:=Int×ByteArray,ok:=fun i=>g55a i.1=some i.2,rds:=fun _=>[],args:=fun i=>[.w (.v (.int .i64 (i.1)))],res:=fun i=>.v (.string (i.2)) }
theorem k55a_ok:CalmOk Tryz.prog k55a:=by
 refine R.calmspec Tryz.func55 (nq9 Tryz.func55) rfl ?_
 rintro ⟨a0,r⟩ hok q _ args hargs
 match args,hargs with
 | [_],hargs=>
 obtain ⟨rfl,_⟩:=hargs
 refine ⟨envC [] false [],6,envC_ok (css_nil),rfl,(by intro x hx;simp only [List.mem_cons,List.not_mem_nil,or_false] at hx;rcases hx with rfl<;>rfl),?_⟩
 have H:Gives (g55a a0) (fun a=>a=r):=⟨r,hok,rfl⟩
 unfold g55a at H
 clear hok
 refine if_st H ?_ ?_<;>intro h6 H
 ·exact (none_st H).elim
 ·refine if_st H ?_ ?_<;>intro h8 H
  ·refine ob_ck H fun h9 H=>?_
   refine ob_str (l:=[IntKind.wrap .u8 (48+a0)]) H fun h10 H=>?_
   have hfin:=fin_st H
   repeat refine mf1TA1 ?_
   trivial
  ·exact (none_st H).elim
end Go.Proofs.YticmemgehllacaaGreatDoor
end
section
set_option maxRecDepth 8000
set_option maxHeartbeats 4000000
namespace Go.Proofs.YticmemgehllacaaGreatDoor
open Go Go.Eng
noncomputable def g55b (a0:Int):Option (ByteArray):=
 if a0<0 then
  (
   ck (inR .i64 (0-a0)) <|
   (g55a (0-a0)).bind fun v11=>
   ck ((lit [45]).size+v11.size≤9223372036854775807) <|
   some ((lit [45])++v11)
  )
 else
  (
   if a0<10 then
    (
     ck (inR .i64 (48+a0)) <|
     ck (isBytes ([IntKind.wrap .u8 (48+a0)])) <|
     some (strOf ([IntKind.wrap .u8 (48+a0)]))
    )
   else
    (
     ck (inR .i64 (Int.tdiv a0 10)) <|
     (g55a (Int.tdiv a0 10)).bind fun v18=>
     ck (inR .i64 (48+(Int.tmod a0 10))) <|
     ck (isBytes ([IntKind.wrap .u8 (48+(Int.tmod a0 10))])) <|
     ck (v18.size+(strOf ([IntKind.wrap .u8 (48+(Int.tmod a0 10))])).size≤9223372036854775807) <|
     some (v18++(strOf ([IntKind.wrap .u8 (48+(Int.tmod a0 10))])))
    )
  )
noncomputable def k55b:Eng.CS:={ f:=55,calm:=true,more:=0,ι:=Int×ByteArray,ok:=fun i=>g55b i.1=some i.2,rds:=fun _=>[],args:=fun i=>[.w (.v (.int .i64 (i.1)))],res:=fun i=>.v (.string (i.2)) }
theorem k55b_ok:CalmOk Tryz.prog k55b:=by
 refine R.calmspec Tryz.func55 (nq9 Tryz.func55) rfl ?_
 rintro ⟨a0,r⟩ hok q _ args hargs
 match args,hargs with
 | [_],hargs=>
 obtain ⟨rfl,_⟩:=hargs
 refine ⟨envC [k55a] false [],6,envC_ok (css_cons ⟨fun _=>k55a_ok,nofun⟩ (css_nil)),rfl,(by intro x hx;simp only [List.mem_cons,List.not_mem_nil,or_false] at hx;rcases hx with rfl<;>rfl),?_⟩
 have H:Gives (g55b a0) (fun a=>a=r):=⟨r,hok,rfl⟩
 unfold g55b at H
 clear hok
 refine if_st H ?_ ?_<;>intro h9 H
 ·refine ob_ck H fun h10 H=>?_
  obtain ⟨v11,hv12,H⟩:=call_st H
  refine ⟨(0-a0,v11),⟨hv12⟩,⟨trivial⟩,?_⟩
  refine ⟨⟨rfl⟩,?_⟩
  refine ob_ck H fun h13 H=>?_
  have hfin:=fin_st H
  repeat refine mf1TA1 ?_
  trivial
 ·refine if_st H ?_ ?_<;>intro h14 H
  ·refine ob_ck H fun h15 H=>?_
   refine ob_str (l:=[IntKind.wrap .u8 (48+a0)]) H fun h16 H=>?_
   have hfin:=fin_st H
   repeat refine mf1TA1 ?_
   trivial
  ·refine And.intro ⟨by kernel_rfl⟩ ?_
   refine ⟨(Pn.calm 0 (Pn.calm 1 (Pn.calm 2 (Pn.calm 3 (Pn.calm 4 (Pn.calm 5 (Pn.calm 6 (Pn.eff 7 [6,5,4,3] (Pn.calm 8 (Pn.calm 9 (Pn.calm 10 Pn.done))) Pn.no)))))))),⟨by kernel_rfl⟩,?_⟩
   refine And.intro ⟨by decide⟩ ?_
   refine ob_ck H fun h17 H=>?_
   obtain ⟨v18,hv19,H⟩:=call_st H
   refine ⟨(Int.tdiv a0 10,v18),⟨hv19⟩,⟨trivial⟩,?_⟩
   refine ⟨⟨rfl⟩,?_⟩
   refine And.intro ⟨by decide⟩ ?_
   refine ob_ck H fun h20 H=>?_
   refine And.intro ?_ trivial
   refine And.intro ⟨fun _ _ _ h=>h⟩ ?_
   refine ob_str (l:=[IntKind.wrap .u8 (48+(Int.tmod a0 10))]) H fun h21 H=>?_
   refine ob_ck H fun h22 H=>?_
   have hfin:=fin_st H
   repeat refine mf1TA1 ?_
   trivial
end Go.Proofs.YticmemgehllacaaGreatDoor
end
section
set_option maxRecDepth 8000
set_option maxHeartbeats 4000000
namespace Go.Proofs.YticmemgehllacaaGreatDoor
open Go Go.Eng
noncomputable def g55 (a0:Int):Option (ByteArray):=
 if a0<0 then
  (
   ck (inR .i64 (0-a0)) <|
   (g55b (0-a0)).bind fun v11=>
   ck ((lit [45]).size+v11.size≤9223372036854775807) <|
   some ((lit [45])++v11)
  )
 else
  (
   if a0<10 then
    (
     ck (inR .i64 (48+a0)) <|
     ck (isBytes ([IntKind.wrap .u8 (48+a0)])) <|
     some (strOf ([IntKind.wrap .u8 (48+a0)]))
    )
   else
    (
     ck (inR .i64 (Int.tdiv a0 10)) <|
     (g55b (Int.tdiv a0 10)).bind fun v18=>
     ck (inR .i64 (48+(Int.tmod a0 10))) <|
     ck (isBytes ([IntKind.wrap .u8 (48+(Int.tmod a0 10))])) <|
     ck (v18.size+(strOf ([IntKind.wrap .u8 (48+(Int.tmod a0 10))])).size≤9223372036854775807) <|
     some (v18++(strOf ([IntKind.wrap .u8 (48+(Int.tmod a0 10))])))
    )
  )
noncomputable def k55:Eng.CS:={ f:=55,calm:=true,more:=0,ι:=Int×ByteArray,ok:=fun i=>g55 i.1=some i.2,rds:=fun _=>[],args:=fun i=>[.w (.v (.int .i64 (i.1)))],res:=fun i=>.v (.string (i.2)) }
theorem k55_ok:CalmOk Tryz.prog k55:=by
 refine R.calmspec Tryz.func55 (nq9 Tryz.func55) rfl ?_
 rintro ⟨a0,r⟩ hok q _ args hargs
 match args,hargs with
 | [_],hargs=>
 obtain ⟨rfl,_⟩:=hargs
 refine ⟨envC [k55b] false [],6,envC_ok (css_cons ⟨fun _=>k55b_ok,nofun⟩ (css_nil)),rfl,(by intro x hx;simp only [List.mem_cons,List.not_mem_nil,or_false] at hx;rcases hx with rfl<;>rfl),?_⟩
 have H:Gives (g55 a0) (fun a=>a=r):=⟨r,hok,rfl⟩
 unfold g55 at H
 clear hok
 refine if_st H ?_ ?_<;>intro h9 H
 ·refine ob_ck H fun h10 H=>?_
  obtain ⟨v11,hv12,H⟩:=call_st H
  refine ⟨(0-a0,v11),⟨hv12⟩,⟨trivial⟩,?_⟩
  refine ⟨⟨rfl⟩,?_⟩
  refine ob_ck H fun h13 H=>?_
  have hfin:=fin_st H
  repeat refine mf1TA1 ?_
  trivial
 ·refine if_st H ?_ ?_<;>intro h14 H
  ·refine ob_ck H fun h15 H=>?_
   refine ob_str (l:=[IntKind.wrap .u8 (48+a0)]) H fun h16 H=>?_
   have hfin:=fin_st H
   repeat refine mf1TA1 ?_
   trivial
  ·refine And.intro ⟨by kernel_rfl⟩ ?_
   refine ⟨(Pn.calm 0 (Pn.calm 1 (Pn.calm 2 (Pn.calm 3 (Pn.calm 4 (Pn.calm 5 (Pn.calm 6 (Pn.eff 7 [6,5,4,3] (Pn.calm 8 (Pn.calm 9 (Pn.calm 10 Pn.done))) Pn.no)))))))),⟨by kernel_rfl⟩,?_⟩
   refine And.intro ⟨by decide⟩ ?_
   refine ob_ck H fun h17 H=>?_
   obtain ⟨v18,hv19,H⟩:=call_st H
   refine ⟨(Int.tdiv a0 10,v18),⟨hv19⟩,⟨trivial⟩,?_⟩
   refine ⟨⟨rfl⟩,?_⟩
   refine And.intro ⟨by decide⟩ ?_
   refine ob_ck H fun h20 H=>?_
   refine And.intro ?_ trivial
   refine And.intro ⟨fun _ _ _ h=>h⟩ ?_
   refine ob_str (l:=[IntKind.wrap .u8 (48+(Int.tmod a0 10))]) H fun h21 H=>?_
   refine ob_ck H fun h22 H=>?_
   have hfin:=fin_st H
   repeat refine mf1TA1 ?_
   trivial
end Go.Proofs.YticmemgehllacaaGreatDoor
end
section
namespace Go.Eng
open Go Go.RowKit
theorem seg_step {α:Type}:∀(l:List α) (k:Nat) (v:α) (rest:List α),k+1+rest.length≤l.length→(l.set k v).take (k+1)++rest++(l.set k v).drop (k+1+rest.length)=l.take k++v::rest++l.drop (k+(rest.length+1))
 | [],k,v,rest,h=>by simp at h
 | x::t,0,v,rest,h=>by
  simp only [List.set_cons_zero,List.take_succ_cons,List.take_zero,Nat.zero_add]
  rw [show 1+rest.length=rest.length+1 by omega]
  simp
 | x::t,k+1,v,rest,h=>by
  have ih:=seg_step t k v rest (by simp at h;omega)
  rw [List.set_cons_succ,List.take_succ_cons,show k+1+1+rest.length=(k+1+rest.length)+1 by omega,List.drop_succ_cons,List.take_succ_cons,show k+1+(rest.length+1)=(k+(rest.length+1))+1 by omega,List.drop_succ_cons]
  simp only [List.cons_append]
  rw [←ih]
theorem store_free (P:Program) (g o:Nat) (t:TypeId) (fz:Nat×Nat):∀(vs:List Value) (i:Nat) (cur:Array Value) (w:World),w.heap[g]?=some (.cells cur t fz)→(∀j,j<cur.size→¬(fz.1≤j∧j<fz.2))→o+i+vs.length≤cur.size→(∀v∈vs,v.oneCell'=true) →
  (storeCells ⟨g,o,none⟩ vs i).run P w=.ok () (w.setRow g (cur.toList.take (o+i)++vs++cur.toList.drop (o+i+vs.length)).toArray)
 | [],i,cur,w,hg,_,_,_=>by
  simp only [storeCells,List.append_nil,List.length_nil,Nat.add_zero,List.take_append_drop,Array.toArray_toList]
  rw [setRow_self w g cur t fz hg]
  rfl
 | v::rest,i,cur,w,hg,hz,hl,h1=>by
  have hl':o+i+(rest.length+1)≤cur.size:=by rw [List.length_cons] at hl;exact hl
  have hadd:(⟨g,o,none⟩:Addr).add i=⟨g,o+i,none⟩:=by unfold Addr.add;split<;>simp_all
  have hcell:w.cell? ⟨g,o+i,none⟩=some cur[o+i]:=by simp [World.cell?,hg]
  have hfro:w.frozen? ⟨g,o+i,none⟩=false:=by
   have:=hz (o+i) (by omega)
   obtain ⟨lo,hi⟩:=fz
   simp only [World.frozen?,hg]
   simpa using this
  have hst:(store ((⟨g,o,none⟩:Addr).add i) v).run P w=.ok () (w.setRow g (cur.setIfInBounds (o+i) v)):=by
   rw [hadd,run_store P w _ v _ (h1 v List.mem_cons_self),hcell]
   simp [hfro,setCell_eq_setRow w g (o+i) cur t fz v hg]
  have ih:=store_free P g o t fz rest (i+1) (cur.setIfInBounds (o+i) v) (w.setRow g (cur.setIfInBounds (o+i) v)) (setRow_heap w g cur _ t _ hg) (by rw [Array.size_setIfInBounds];exact hz) (by rw [Array.size_setIfInBounds];omega) (fun x hx=>h1 x (List.mem_cons_of_mem _ hx))
  simp only [storeCells,Sem.run_bind,hst,Result.andThen_ok,ih,setRow_setRow]
  congr 3
  have e:=seg_step cur.toList (o+i) v rest (by have:=Array.length_toList (xs:=cur);omega)
  simpa [Array.toList_setIfInBounds,Nat.add_assoc,Nat.add_comm,Nat.add_left_comm] using e
def OwnF (B:Nat) (e:TypeId) (w0 w:World) (v:Value) (xs:List Value):Prop:=
 Below B w0 w∧∃g cap cur fz,v=.slice (some ⟨g,0,none⟩) xs.length cap∧B≤g∧w.heap[g]?=some (.cells cur e fz)∧xs.length≤cap∧cap≤maxLen∧cur.size=cap∧cur.toList.take xs.length=xs∧(∀j,j<cap→¬(fz.1≤j∧j<fz.2))
theorem OwnF.row {B:Nat} {e:TypeId} {w0 w:World} {v:Value} {xs:List Value} (h:OwnF B e w0 w v xs):∃g cap,v=.slice (some ⟨g,0,none⟩) xs.length cap∧∀j u,xs[j]?=some u→w.cell? ⟨g,j,none⟩=some u:=by
 obtain ⟨_,g,cap,cur,fz,hv,_,hg,_,_,_,ht,_⟩:=h
 refine ⟨g,cap,hv,fun j u hj=>?_⟩
 have hjl:=(List.getElem?_eq_some_iff.1 hj).1
 have e1:w.cell? ⟨g,j,none⟩=cur.toList[j]?:=by simp [World.cell?,hg]
 rw [e1]
 have e2:(cur.toList.take xs.length)[j]?=cur.toList[j]?:=by rw [List.getElem?_take,if_pos hjl]
 rw [←e2,ht];exact hj
theorem app_free {P:Program} (w:World) (t ty e:TypeId) (i:TypeInfo) (z:Value) (ht:P.underlying t=some (.slice e)) (hi:P.info? e=some i) (hz:i.zero=some z)
  (hsize:i.size=1) (hby:i.bytes=1) (hzs:z.cells.size=1) {B:Nat} {w0:World} {v:Value} {xs:List Value} (h:OwnF B e w0 w v xs) (hB:B≤w.heap.size)
  (a:Addr) (m c:Nat) (news:List Value) (hl:news.length=m) (hnews:∀j u,news[j]?=some u→w.cell? (a.add j)=some u) (h1:∀u∈news,u.oneCell'=true)
  (hbig:xs.length+m≤1000000) :
  ∃v' w',(Builtin.append_ #[t,t] ty #[v,.slice (some a) m c]).run P w=.ok v' w'∧OwnF B e w0 w' v' (xs++news):=by
 have hrow:=h.row
 obtain ⟨hb,g,cap,cur,fz,rfl,hBg,hg,hxc,hcm,hcs,htk,hfz⟩:=h
 have hlen:(xs++news).length=xs.length+m:=by rw [List.length_append,hl]
 by_cases hroom:xs.length+m≤cap
 ·have hf:=run_firstCells_some (P:=P) w i.size m a m c news (by rw [hl,hsize,Nat.mul_one]) hnews
  have hst:=store_free P g xs.length e fz news 0 cur w hg (by rw [hcs];exact hfz) (by rw [hl,hcs];omega) h1
  simp only [Nat.add_zero] at hst
  refine ⟨.slice (some ⟨g,0,none⟩) (xs.length+m) cap,w.setRow g (cur.toList.take xs.length++news++cur.toList.drop (xs.length+news.length)).toArray,?_,?_,g,cap,_,fz,by rw [hlen],hBg,setRow_heap w g cur _ e fz hg,by rw [hlen];exact hroom,hcm,?_,?_,hfz⟩
  ·rw [hsize] at hf
   simp [Builtin.append_,run_underlying ht,sizeOf,typeInfo,hi,hsize,Builtin.lenOf,hroom,hf,Addr.add_lit,hst]
  ·exact hb.trans ⟨rfl,rfl,rfl,by simp [World.setRow],fun k hk=>setRow_other w g k _ (by omega)⟩
  ·simp only [List.size_toArray,List.length_append,List.length_take,List.length_drop,Array.length_toList,hl]
   omega
  ·rw [htk]
   exact List.take_left
 ·have hr:=run_append_grow (P:=P) w t ty e i z ht hi hz ⟨g,0,none⟩ xs.length cap xs (by rw [hsize,Nat.mul_one]) (fun j u hj=>by
   obtain ⟨g',cap',hv',hc'⟩:=hrow
   cases hv'
   rw [Addr.add_lit,Nat.zero_add];exact hc' j u hj) a m c news (by rw [hl,hsize,Nat.mul_one]) hnews (by omega) (by omega) (by rw [hby];exact growslice_fits (by omega) (by omega))
  have hge:=grownCap_ge w (xs.length+m) cap e
  refine ⟨_,_,hr,?_,w.heap.size,_,_,(0,0),by rw [hlen],hB,heap_alloc_new w.drew _,by rw [hlen];exact hge,grownCap_le_maxLen w _ _ e (by unfold maxLen;omega),?_,?_,fun j _=>by simp⟩
  ·have hb2:Below B w0 w.drew:=hb.trans ⟨rfl,rfl,rfl,Nat.le_refl _,fun _ _=>rfl⟩
   exact hb2.alloc hB _
  ·simp only [Array.size_append,List.size_toArray,size_zeroCells,hzs,hl]
   omega
  ·simp only [Array.toList_append,List.append_assoc]
   rw [←List.append_assoc]
   exact List.take_left
theorem OwnF.later {B:Nat} {e:TypeId} {w0 w w':World} {v:Value} {xs:List Value} (h:OwnF B e w0 w v xs) (hb:Below w.heap.size w w') (hB:B≤w.heap.size):OwnF B e w0 w' v xs:=by
 obtain ⟨h0,g,cap,cur,fz,hv,hBg,hg,h1,h2,h3,h4,h5⟩:=h
 refine ⟨h0.trans (hb.mono hB),g,cap,cur,fz,hv,hBg,?_,h1,h2,h3,h4,h5⟩
 rw [hb.block g (Array.getElem?_eq_some_iff.1 hg).1]
 exact hg
theorem step_append_free {P:Program} {ops:Array Oper} {o:Oper} {a:Act} {w:World} {K:Act→World→Prop} {Q:Exit→Act→World→Prop} {E:Prop}
  (hg:o.guard=none) (s x:Operand) (t:TypeId) (hop:o.op=Op.call { callee:=Callee.builtin Builtin.append,args:=#[s,x],argTypes:=#[t,t] })
  (e:TypeId) (i:TypeInfo) (z:Value) (h1:P.underlying t=some (.slice e)) (h2:P.info? e=some i) (h3:i.zero=some z) (h4:i.size=1) (h5:i.bytes=1) (h6:z.cells.size=1)
  {B:Nat} {w0:World} {v:Value} {xs:List Value} (hs:a.eval s=v) (hO:OwnF B e w0 w v xs) (hB:B≤w.heap.size)
  (ad:Addr) (m c:Nat) (news:List Value) (hx:a.eval x=.slice (some ad) m c) (hn:news.length=m) (hc:∀j u,news[j]?=some u→w.cell? (ad.add j)=some u) (h1c:∀u∈news,u.oneCell'=true)
  (hbig:xs.length+m≤1000000)
  (hK:∀v' w',OwnF B e w0 w' v' (xs++news)→K (a.put o.dst v') w') :
  if Region.wanted o (yielded ops a.tmps)=true then Oper.wp P o a w K Q else E:=by
 have hw:Region.wanted o (yielded ops a.tmps)=true:=by simp [Region.wanted,hg]
 rw [if_pos hw]
 obtain ⟨v',w',hrun,r1⟩:=app_free (P:=P) w t o.type e i z h1 h2 h3 h4 h5 h6 hO hB ad m c news hn hc h1c hbig
 unfold Oper.wp
 simp [execOp,hop,resolve,invoke,builtin,hs,hx,hrun,Result.andThen]
 exact hK v' w' r1
theorem new_cells (w:World) (xs:List Value) (t:TypeId):∀j u,xs[j]?=some u→(w.alloc (.cells xs.toArray t)).cell? ((⟨w.heap.size,0,none⟩:Addr).add j)=some u:=fun j u h=>by
 have hh:(w.alloc (.cells xs.toArray t)).heap[w.heap.size]?=some (.cells xs.toArray t (0,0)):=heap_alloc_new w _
 rw [Addr.add_lit,Nat.zero_add]
 unfold World.cell?
 rw [hh]
 show xs.toArray[j]?=_
 rw [List.getElem?_toArray]
 exact h
end Go.Eng
end
section
namespace Go.Proofs.YticmemgehllacaaGreatDoor
open Go Go.Eng Go.RowKit
def bytesP (l:List Int):List UInt8:=if ptP (byt l)=true then [116,121,112,101,32]++byt l else if l.length=0 then [98,121,116,101,115] else [98,121,116,101,115,32]++dgs (byt l)
def RowB (A:Option Addr) (l:List Int) (w:World):Prop:=∀j x,l[j]?=some x→∃b o,A=some ⟨b,o,none⟩∧w.cell? ⟨b,o+j,none⟩=some (.int .u8 x)
theorem strB (l:List Int):strOf l=ba (byt l):=rfl
theorem conv_any {A:Option Addr} {l:List Int} {c:Nat} {w:World} (h:RowB A l w):(convert 35 9 (.slice A l.length c)).run Tryz.prog w=.ok (.string (ba (byt l))) w:=by
 have hb:(Conv.bytesToString (.slice A l.length c)).run Tryz.prog w=.ok (.string (ba (byt l))) w:=by
  cases A with
  | none=>
   have:l=[]:=by
    cases l with
    | nil=>rfl
    | cons x t=>obtain ⟨b,o,e,_⟩:=h 0 x rfl;cases e
   subst this
   rfl
  | some ad=>
   have hl:(loadCells ad (l.map (Value.int .u8)).length).run Tryz.prog w=.ok (l.map (Value.int .u8)).toArray w:=by
    refine run_loadCells_list w ad (l.map (Value.int .u8)) fun j v hv=>?_
    rw [List.getElem?_map] at hv
    cases hx:l[j]? with
    | none=>rw [hx] at hv;cases hv
    | some x=>
     rw [hx] at hv
     cases hv
     obtain ⟨b,o,e,hc⟩:=h j x hx
     cases e
     rw [Addr.add_lit]
     exact hc
   rw [List.length_map] at hl
   rw [run_bytesToString w ad _ c _ hl]
   have hp:=push_all (l.map fun n=>UInt8.ofNat n.toNat) ByteArray.empty
   rw [List.foldl_map] at hp
   rw [hp]
   simp [ba,byt]
 rw [run_convert_bytes_string w 35 9 5 _ _ _ Tryz.underlying35 Tryz.underlying5 Tryz.underlying9]
 exact hb
def rowK (l:List Int) (k:Nat):List Value:=([98,121,116,101,115,32]++dgs (byt (l.take k))).map fun b:UInt8=>Value.int .u8 (b.toNat:Int)
theorem rowK0 (l:List Int):rowK l 0=[Value.int IntKind.u8 98,Value.int IntKind.u8 121,Value.int IntKind.u8 116,Value.int IntKind.u8 101,Value.int IntKind.u8 115,Value.int IntKind.u8 32]:=by
 unfold rowK;rw [List.take_zero];rfl
theorem rowK_len (l:List Int) (k:Nat):(rowK l k).length≤2 * k+6:=by
 unfold rowK
 rw [List.length_map,List.length_append,dgs_len]
 simp [byt]
 omega
def hxB:ByteArray:=⟨#[48,49,50,51,52,53,54,55,56,57,97,98,99,100,101,102]⟩
theorem hxB_at:∀(n:Fin 16),hxB.data.toList[n.val]?=some (hxs n.val):=by decide +kernel
theorem hx_get {i:Int} (h0:0≤i∧i<16) (h:i.toNat<(⟨#[48,49,50,51,52,53,54,55,56,57,97,98,99,100,101,102]⟩:ByteArray).size):(⟨#[48,49,50,51,52,53,54,55,56,57,97,98,99,100,101,102]⟩:ByteArray)[i.toNat]'h=hxs i.toNat:=by
 have h1:=hxB_at ⟨i.toNat,by omega⟩
 dsimp only at h1
 have h2:hxB.data.toList[i.toNat]?=some (hxB.data.toList[i.toNat]'(by rw [Array.length_toList];exact h)):=List.getElem?_eq_getElem _
 rw [h2] at h1
 exact Option.some.inj h1
theorem bits_and:∀n:Fin 256,bits .and .u8 (n.val:Int) 15=(n.val:Int) % 16:=by decide +kernel
theorem rowK_next {l:List Int} {k:Nat} (hb:isBytes l) (h:k<l.length):rowK l (k+1)=rowK l k++[Value.int .u8 ((hxs (l.getD k 0 / 16).toNat).toNat:Int),Value.int .u8 ((hxs (l.getD k 0 % 16).toNat).toNat:Int)]:=by
 have hx:=hb (l.getD k 0) (by rw [List.getD_eq_getElem?_getD,List.getElem?_eq_getElem h];exact List.getElem_mem h)
 have e:l.take (k+1)=l.take k++[l.getD k 0]:=by
  rw [List.take_add_one,List.getD_eq_getElem?_getD,List.getElem?_eq_getElem h];rfl
 have da:∀a b:List UInt8,dgs (a++b)=dgs a++dgs b:=fun a b=>by
  induction a with
  | nil=>rfl
  | cons c t ih=>rw [List.cons_append,dgs,dgs,ih];rfl
 unfold rowK
 rw [e]
 have eb:byt (l.take k++[l.getD k 0])=byt (l.take k)++[UInt8.ofNat (l.getD k 0).toNat]:=by simp [byt]
 rw [eb,da,←List.append_assoc,List.map_append]
 congr 1
 have en:(UInt8.ofNat (l.getD k 0).toNat).toNat=(l.getD k 0).toNat:=by rw [UInt8.toNat_ofNat'];omega
 show [Value.int .u8 _,Value.int .u8 _]=_
 rw [en,show (l.getD k 0 / 16).toNat=(l.getD k 0).toNat / 16 by omega,show (l.getD k 0 % 16).toNat=(l.getD k 0).toNat % 16 by omega]
theorem conv_same (w:World) (cs:Array Value) (hs:cs.size=6):(convert 35 35 (.slice (some ⟨w.heap.size,0,none⟩) 6 6)).run Tryz.prog (w.alloc (.cells cs 5))=.ok (.slice (some ⟨w.heap.size,0,none⟩) 6 6) ((w.alloc (.cells cs 5)).freeze ⟨w.heap.size,6,none⟩ 1):=by
 have hh:(w.alloc (.cells cs 5)).heap[w.heap.size]?=some (.cells cs 5 (0,0)):=heap_alloc_new w _
 have hsh:(w.alloc (.cells cs 5)).shape? w.heap.size=some (5,6):=by unfold World.shape?;rw [hh];show some (5,cs.size)=_;rw [hs]
 simp [convert,run_underlying Tryz.underlying35,run_underlying Tryz.underlying5,markStringish,hsh]
theorem own_lit (w:World) (l:List Int):OwnF w.heap.size 5 w ((w.alloc (.cells #[Value.int IntKind.u8 98,Value.int IntKind.u8 121,Value.int IntKind.u8 116,Value.int IntKind.u8 101,Value.int IntKind.u8 115,Value.int IntKind.u8 32] 5)).freeze ⟨w.heap.size,6,none⟩ 1) (.slice (some ⟨w.heap.size,0,none⟩) 6 6) (rowK l 0):=by
 rw [rowK0]
 have hh:(w.alloc (.cells #[Value.int IntKind.u8 98,Value.int IntKind.u8 121,Value.int IntKind.u8 116,Value.int IntKind.u8 101,Value.int IntKind.u8 115,Value.int IntKind.u8 32] 5)).heap[w.heap.size]?=some (.cells _ 5 (0,0)):=heap_alloc_new w _
 have hb:=(Below.refl w.heap.size w).alloc (Nat.le_refl _) (.cells #[Value.int IntKind.u8 98,Value.int IntKind.u8 121,Value.int IntKind.u8 116,Value.int IntKind.u8 101,Value.int IntKind.u8 115,Value.int IntKind.u8 32] 5)
 refine ⟨hb.trans ⟨rfl,rfl,rfl,by simp [World.freeze],fun k hk=>?_⟩,w.heap.size,6,#[Value.int IntKind.u8 98,Value.int IntKind.u8 121,Value.int IntKind.u8 116,Value.int IntKind.u8 101,Value.int IntKind.u8 115,Value.int IntKind.u8 32],(6,7),rfl,Nat.le_refl _,?_,Nat.le_refl 6,by unfold maxLen;omega,rfl,rfl,fun j hj=>by dsimp only;omega⟩
 ·simp only [World.freeze,Array.getElem?_modify]
  rw [if_neg (by decide)]
  simp only [Array.getElem?_modify]
  rw [if_neg (by omega)]
 ·simp only [World.freeze]
  rw [if_neg (by decide)]
  simp only [Array.getElem?_modify,hh]
  simp
theorem info5:(Tryz.prog.info? 5).map (fun i=>(i.zero,i.size,i.bytes))=some (some (.int .u8 0),1,1):=by kernel_rfl
set_option maxHeartbeats 2000000 in
set_option maxRecDepth 100000 in
theorem bytes_walk (l:List Int) (hb:isBytes l) (hn:l.length≤100000) (A:Option Addr) (c:Nat) (w:World) (hR:∀w1,Below w.heap.size w w1→RowB A l w1)
  (hcl:∀w1,Calls Tryz.prog 29 #[.string (ba (byt l))] w1 fun e w'=>e=.returned (.bool (ptP (byt l)))∧Below w1.heap.size w1 w') :
  Calls Tryz.prog 53 #[.slice A l.length c] w fun e w'=>e=.returned (.string (ba (bytesP l)))∧Below w.heap.size w w':=by
 obtain ⟨i0,hi0,he0⟩:=Option.map_eq_some_iff.1 info5
 have hz0:i0.zero=some (.int .u8 0):=congrArg (fun x=>x.1) he0
 have hs0:i0.size=1:=congrArg (fun x=>x.2.1) he0
 have hb0:i0.bytes=1:=congrArg (fun x=>x.2.2) he0
 clear he0
 have hc0:=conv_any (c:=c) (hR w (Below.refl _ w))
 have hsz:¬9223372036854775807<5+(ba (byt l)).size:=by rw [ba_size];simp [byt];omega
 by_cases hp:ptP (byt l)=true
 ·have hr:ba (bytesP l)=⟨#[116,121,112,101,32]⟩++ba (byt l):=by
   unfold bytesP;rw [if_pos hp]
   apply ByteArray.ext;apply Array.ext';simp [ba]
  rw [hr]
  clear hr
  rw [hp] at hcl
  go_enter Tryz.func53,Tryz.ntmps53
  go_wp2_with (first | (go_at_call 29;refine (hcl _).mono ?_;rintro e w' ⟨rfl,hb'⟩;have hc1:=conv_any (c:=c) (hR w' hb')))
  go_ret
  exact ⟨rfl,hb'⟩
 have hp':ptP (byt l)=false:=Bool.eq_false_iff.2 hp
 rw [hp'] at hcl
 by_cases h0:l.length=0
 ·have hr:ba (bytesP l)=⟨#[98,121,116,101,115]⟩:=by unfold bytesP;rw [if_neg hp,if_pos h0];rfl
  rw [hr]
  clear hr
  rw [h0] at hc0 ⊢
  have hR':∀w1,Below w.heap.size w w1→(convert 35 9 (.slice A 0 c)).run Tryz.prog w1=.ok (.string (ba (byt l))) w1:=fun w1 h1=>by
   have:=conv_any (c:=c) (hR w1 h1)
   rwa [h0] at this
  go_enter Tryz.func53,Tryz.ntmps53
  go_wp2_with (first | (go_at_call 29;refine (hcl _).mono ?_;rintro e w' ⟨rfl,hb'⟩;have hc1:=hR' w' hb'))
  go_ret
  exact ⟨rfl,hb'⟩
 have e0:((l.length:Int) == 0)=false:=by rw [beq_eq_false_iff_ne];omega
 obtain ⟨x0,hx0⟩:∃x0,l[0]?=some x0:=⟨l[0]'(by omega),List.getElem?_eq_getElem _⟩
 obtain ⟨b,o,rfl,_⟩:=hR w (Below.refl _ w) 0 x0 hx0
 have hcell:∀w1,Below w.heap.size w w1→∀j (hj:j<l.length),w1.cell? ⟨b,o+j,none⟩=some (.int .u8 (l.getD j 0)):=fun w1 h1 j hj=>by
  obtain ⟨b',o',e,h⟩:=hR w1 h1 j l[j] (List.getElem?_eq_getElem hj)
  cases e
  rw [List.getD_eq_getElem?_getD,List.getElem?_eq_getElem hj]
  exact h
 go_enter Tryz.func53,Tryz.ntmps53
 go_wp2_with (first | (go_at_call 29;refine (hcl _).mono ?_;rintro e w' ⟨rfl,hb'⟩;have hc1:=conv_any (c:=c) (hR w' hb')))
 rw [conv_same w' _ rfl]
 have hO:=own_lit w' l
 generalize hW:(w'.alloc (.cells #[Value.int IntKind.u8 98,Value.int IntKind.u8 121,Value.int IntKind.u8 116,Value.int IntKind.u8 101,Value.int IntKind.u8 115,Value.int IntKind.u8 32] 5)).freeze ⟨w'.heap.size,6,none⟩ 1=W at hO ⊢
 simp only [Result.andThen]
 rw [Oper.upon_value]
 go_wp2
 go_loopw [3,19] (fun v i wr=>∃k:Nat,k≤l.length∧i=.int .i64 k∧OwnF w'.heap.size 5 w' wr v (rowK l k)) (fun _ i _=>l.length-(intOf i).toNat)
 case atStart=>exact ⟨0,Nat.zero_le _,rfl,hO⟩
 case round=>
  obtain ⟨k,hk,rfl,hf⟩:=hrel
  have hbw:Below w.heap.size w wr:=hb'.trans (hf.1.mono hb'.size)
  have hcx:∀(hj:k<l.length),wr.cell? ⟨b,o+k,none⟩=some (.int .u8 (l.getD k 0)):=fun hj=>hcell wr hbw k hj
  have hrow:=fun h:k<l.length=>rowK_next hb h
  have hX:0≤l.getD k 0∧l.getD k 0≤255:=by
   by_cases h:k<l.length
   ·exact hb _ (by rw [List.getD_eq_getElem?_getD,List.getElem?_eq_getElem h];exact List.getElem_mem h)
   ·rw [List.getD_eq_getElem?_getD,List.getElem?_eq_none (by omega)];decide
  generalize l.getD k 0=X at hcx hrow hX
  have q1:0≤X / 16∧X / 16<16:=by omega
  have q2:0≤X % 16∧X % 16<16:=by omega
  have q3:bits .and .u8 X 15=X % 16:=by
   have:=bits_and ⟨X.toNat,by omega⟩
   dsimp only at this
   rwa [Int.toNat_of_nonneg hX.1] at this
  have g1:=hx_get q1
  have g2:=hx_get q2
  have hBr:w'.heap.size≤wr.heap.size:=hf.1.size
  have hbig:(rowK l k).length+2≤1000000:=by have:=rowK_len l k;omega
  have hHf:=Any.hidJ (And.intro hf (And.intro hrow hbw))
  clear hf hrow hbw hO
  go_wp2
  ·go_region_law (refine step_append_free rfl (.tmp 23) (.tmp 30) 35 rfl 5 i0 (.int .u8 0) Tryz.underlying35 hi0 hz0 hs0 hb0 rfl (B:=w'.heap.size) (w0:=w') (v:=u3) (xs:=rowK l k) (by simp [Act.eval,Act.put]) (hHf.out.1.later (by first | exact ((Below.refl _ wr).drew).alloc (Nat.le_refl _) _ | exact ((Below.refl _ wr).alloc (Nat.le_refl _) _).drew) hBr) (by simp;omega) ⟨wr.heap.size,0,none⟩ 2 2 [Value.int .u8 ((hxs (X / 16).toNat).toNat:Int),Value.int .u8 ((hxs (X % 16).toNat).toNat:Int)] (by simp [Act.eval,Act.put]) rfl (by first | exact new_cells wr.drew _ 5 | exact new_cells wr _ 5) (by intro u hu;simp at hu;rcases hu with rfl | rfl<;>rfl) hbig ?_;intro vN wN hN)
   all_goals (
    go_wp2
    have hlt:k<l.length:=by assumption
    refine ⟨⟨k+1,by omega,by simp,?_⟩,by simp [intOf];omega⟩
    rw [hHf.out.2.1 hlt]
    exact hN)
  ·have hkl:k=l.length:=by omega
   obtain ⟨hf,_,hbw⟩:=hHf.out
   obtain ⟨g,cap,rfl,hc⟩:=hf.row
   subst hkl
   have hLI:rowK l l.length=(([98,121,116,101,115,32]++dgs (byt l)).map fun c:UInt8=>(c.toNat:Int)).map (Value.int .u8):=by
    unfold rowK;rw [List.take_of_length_le (Nat.le_refl _),List.map_map];rfl
   have hcv:=conv_any (A:=some ⟨g,0,none⟩) (l:=([98,121,116,101,115,32]++dgs (byt l)).map fun c:UInt8=>(c.toNat:Int)) (c:=cap) (w:=wr) (fun j x h=>⟨g,0,rfl,by
    rw [Nat.zero_add]
    refine hc j _ ?_
    rw [hLI,List.getElem?_map,h];rfl⟩)
   have hln:(rowK l l.length).length=(([98,121,116,101,115,32]++dgs (byt l)).map fun c:UInt8=>(c.toNat:Int)).length:=by rw [hLI,List.length_map]
   have hst:ba (byt (([98,121,116,101,115,32]++dgs (byt l)).map fun c:UInt8=>(c.toNat:Int)))=ba (bytesP l):=by
    unfold bytesP
    rw [if_neg hp,if_neg h0]
    congr 1
    unfold byt
    rw [List.map_map]
    refine (List.map_congr_left (g:=id) (fun c _=>?_)).trans (List.map_id _)
    exact UInt8.toNat_inj.1 (by simp)
   rw [hst] at hcv
   rw [hln,hcv]
   simp only [Result.andThen]
   rw [Oper.upon_value]
   clear hf hc hcv hHf
   go_wp2
   go_ret
   exact ⟨rfl,hbw⟩
noncomputable def g53 (a0:List Int):Option ByteArray:=ck (isBytes a0∧a0.length≤100000) <| some (ba (bytesP a0))
noncomputable def k53:Eng.CS:={ f:=53,calm:=true,more:=0,ι:=List Int×ByteArray,ok:=fun i=>g53 i.1=some i.2,rds:=fun _=>[],args:=fun i=>[.sl 1 i.1.length (ei .u8 i.1)],res:=fun i=>.v (.string i.2),rn:=[] }
theorem k53_ok:CalmOk Tryz.prog k53:=by
 refine ⟨fun args w=>?_,?_⟩
 ·have hname' : ¬ Tryz.f53.name = "runtime.NumGoroutine" := by simpa using (nq9 Tryz.func53)
  obtain ⟨c,hc⟩:=Option.isSome_iff_exists.1 (show Tryz.f53.body.isSome=true from rfl)
  have hP:=Tryz.func53
  simp [callFunc,k53,hP,hname',hc]
 ·rintro w q S ⟨a0,r⟩ vs hok _ hm hargs
  have hr:(isBytes a0∧a0.length≤100000)∧ba (bytesP a0)=r:=by
   have:g53 a0=some r:=hok
   unfold g53 ck at this
   split at this
   ·rename_i h1;cases this;exact ⟨h1,rfl⟩
   ·cases this
  obtain ⟨⟨hb,hn⟩,rfl⟩:=hr
  match vs,hargs with
  | [v],hargs=>
  obtain ⟨⟨A,c,rfl,hc,_,hR⟩,_⟩:=hargs
  have hpr:g29 (ba (byt a0))=some (ptP (byt a0)):=by
   have:=print_eq (ba (byt a0)) (by rw [ba_size];simp [byt];omega)
   exact this
  refine (bytes_walk a0 hb hn A c w (fun w1 h1 j x hj=>?_) (fun w1=>(k29_ok.2 w1 (fun _ _=>none) S (ba (byt a0),ptP (byt a0)) [.string (ba (byt a0))] hpr trivial (fun _ _ _ h=>by cases h) ⟨rfl,trivial⟩).mono fun e w' h=>?_)).mono fun e w' h=>?_
  ·obtain ⟨⟨b,o,sp⟩,rfl,hs,hlt,hw⟩:=hR j (.int .u8 x) (by show (ei .u8 a0)[j]?=_;unfold ei;rw [List.getElem?_map,hj];rfl)
   cases hs
   refine ⟨b,o,rfl,?_⟩
   have hlt:b<w.heap.size:=hlt
   have hw:w.cell? ⟨b,o+j,none⟩=some (.int .u8 x):=hw
   unfold World.cell? at hw ⊢
   rw [h1.block b hlt]
   exact hw
  ·obtain ⟨rfl,hbl⟩:=h
   refine ⟨?_,hbl⟩
   cases ptP (byt a0)<;>simp [k29,bS,den]
  ·exact ⟨by rw [h.1];simp [k53,den],h.2⟩
end Go.Proofs.YticmemgehllacaaGreatDoor
end
section
namespace Go.Proofs.YticmemgehllacaaGreatDoor
open Go Go.Eng Go.RowKit
open Go.Sort (putRow cell?_putRow)
def Pow10 (w:World):Prop:=∀i,i<20→w.cell? ⟨2,i,none⟩=some (.int .u64 ((10 ^ i:Nat):Int))
set_option maxRecDepth 100000 in
theorem num_walk (u:Nat) (h1:1≤u) (h2:u<18446744073709551616) (w:World) (ht:Pow10 w) :
  Calls Tryz.prog 292 #[.int .u64 u] w fun e w'=>e=.returned (.int .i64 (Lib.nDigits u))∧w'=w:=by
 obtain ⟨hn,h19⟩:=Lib.numDigits_eq u h1 h2
 have hL:Lib.bitLen u≤64:=Lib.bitLen_le u 64 (Nat.le_refl _) h2
 have hto:((u:Int)).toNat=u:=Int.toNat_natCast u
 have hcell:=ht (Lib.l10 (Lib.bitLen u)) (by omega)
 generalize hq:Lib.l10 (Lib.bitLen u)=q at hn h19 hcell
 generalize hT:10 ^ q=T at hn hcell
 have Hn:=Lib.hid hn
 clear hn ht
 go_enter Tryz.func292,Tryz.ntmps292
 go_wp2_with (first
  | (go_at_call 370;refine (Tryz.bits_Len64 _ _ (by omega) (by omega)).mono ?_;rintro e w' ⟨rfl,rfl⟩)
  | (go_at_call 369;refine (Tryz.internal_strconv_log10Pow2 _ (by first | exact hL | (rw [hto];exact hL)) _).mono ?_;rintro e w' ⟨rfl,rfl⟩)
  | (go_at_call 371;refine (Tryz.internal_strconv_bool2_int _ _).mono ?_;rintro e w' ⟨rfl,rfl⟩))
 all_goals go_ret
 all_goals (
  refine ⟨?_,rfl⟩
  have hn:=Hn.out
  congr 2
  split at hn<;>simp_all<;>omega)
theorem sl_run3 (B:Nat) (k:Int) (hk:1+k≤24) (h0:0≤k) (w:World):(Instr.sliceAt 350 (.pointer (some ⟨B,0,none⟩)) (some (.int .i64 1)) (some (.int .i64 (1+k))) none).run Tryz.prog w=.ok (.slice (some ⟨B,1,none⟩) k.toNat 23) w:=by
 have b1:=fun k' code=>run_bnd (P:=Tryz.prog) k' (1:Int) 24 code (by omega) (by omega) w
 have b2:=fun k' code=>run_bnd (P:=Tryz.prog) k' (1+k:Int) 24 code (by omega) (by omega) w
 have b3:=fun k' code=>run_bnd (P:=Tryz.prog) k' (1:Int) (1+k).toNat code (by omega) (by omega) w
 have hd:(ty tab 350).d=.arr 24 5:=by kernel_rfl
 have hz:(ty tab 5).sz=1:=by kernel_rfl
 obtain ⟨ht,_,j,hj,hsz,_⟩:descOk Tryz.prog tab 350 (.arr 24 5):=by rw [←hd];exact (tab_ok 350 (by rw [hd];simp)).d
 simp [Instr.sliceAt,Instr.sliceBounds,run_underlying ht,Instr.sureAddr,sizeOf,typeInfo,hj,hsz,hz,b1,b2,b3,Addr.add_lit]
 omega
theorem digits3 {u:Nat} (h1:100≤u) (h2:u<1000):Lib.nDigits u=3:=Lib.nDigits_unique 2 u (by omega) (by omega)
theorem num3 (u:Nat) (h1:100≤u) (h2:u<1000) (w:World) (ht:Pow10 w):Calls Tryz.prog 292 #[.int .u64 u] w fun e w'=>e=.returned (.int .i64 3)∧w'=w:=by
 refine (num_walk u (by omega) (by omega) w ht).mono ?_
 rintro e w' ⟨rfl,rfl⟩
 rw [digits3 h1 h2]
 exact ⟨rfl,rfl⟩
theorem Pow10.alloc {w:World} (h:Pow10 w) (o:Obj) (hw:2<w.heap.size):Pow10 (w.alloc o):=fun i hi=>by
 have:=h i hi
 unfold World.cell? at this ⊢
 rw [RowKit.Below.heap_alloc w o 2 hw]
 exact this
set_option maxHeartbeats 1000000 in
set_option maxRecDepth 100000 in
theorem fmt_walk (u:Nat) (h1:100≤u) (h2:u<1000) (w:World) (ht:Pow10 w) (hw:2<w.heap.size) :
  Calls Tryz.prog 201 #[.int .i64 u,.int .i64 10] w fun e w'=>e=.returned (.string ⟨(Lib.decDigits u).toArray⟩)∧Below w.heap.size w w':=by
 have e0:(decide ((0:Int)≤u))=true:=by simp
 have e1:(decide ((u:Int)<100))=false:=by simp;omega
 have e2:(decide ((u:Int)<0))=false:=by simp
 have hA:∀o,Pow10 (w.alloc o):=fun o=>ht.alloc o hw
 have hd3:=digits3 h1 h2
 have hH0:=Lib.holds_zero w 350 3 (by omega)
 have hfmt:=Tryz.internal_strconv_formatBase10 w.heap.size 1 23 u (Array.replicate 3 0) (w.alloc (.cells Lib.zeros24 350)) hH0 (by rw [Array.size_replicate];omega) (by omega) (by rw [Array.size_replicate];omega)
 rw [Array.size_replicate] at hfmt
 have HH0:=Lib.hid hH0
 have hs:∀W,(Instr.sliceAt 350 (.pointer (some ⟨w.heap.size,0,none⟩)) (some (.int .i64 1)) (some (.int .i64 4)) none).run Tryz.prog W=.ok (.slice (some ⟨w.heap.size,1,none⟩) 3 23) W:=fun W=>sl_run3 w.heap.size 3 (by omega) (by omega) W
 clear hH0 ht
 go_enter Tryz.func201,Tryz.ntmps201
 go_wp2_with (first | (go_at_call 292;refine (num3 u h1 h2 _ (hA _)).mono ?_;rintro e w' ⟨rfl,rfl⟩))
 go_at_call 293
 refine hfmt.mono ?_
 rintro e w' ⟨rfl,k,v',dk,rfl,hF⟩
 have hl3:(Lib.decDigits u).length=3:=by rw [Lib.decDigits_length,hd3]
 have hcv:(convert 35 9 (.slice (some ⟨w.heap.size,1,none⟩) 3 23)).run Tryz.prog ((putRow (fun (b:UInt8)=>Value.int .u8 (b.toNat:Int)) (w.alloc (.cells Lib.zeros24 350)) w.heap.size 1 dk).drewN k)=.ok (.string ⟨(Lib.decDigits u).toArray⟩) ((putRow (fun (b:UInt8)=>Value.int .u8 (b.toNat:Int)) (w.alloc (.cells Lib.zeros24 350)) w.heap.size 1 dk).drewN k):=by
  have h:=run_convert_bytes_back (P:=Tryz.prog) ((putRow (fun (b:UInt8)=>Value.int .u8 (b.toNat:Int)) (w.alloc (.cells Lib.zeros24 350)) w.heap.size 1 dk).drewN k) 35 9 5 ⟨w.heap.size,1,none⟩ 23 (Lib.decDigits u) Tryz.underlying35 Tryz.underlying5 Tryz.underlying9 (fun j hj=>by
   have hj3:j<3:=by omega
   have hF':Lib.FmtInv (Lib.nDigits u) u 0 v' dk:=by rw [hd3];exact hF
   rw [Lib.row_is_numeral hF' j hj,Lib.add_plain,World.cell?_drewN]
   exact cell?_putRow (fun (b:UInt8)=>Value.int .u8 (b.toNat:Int)) _ w.heap.size 1 _ dk HH0.out (by rw [hF.size,Array.size_replicate]) j (by rw [hF.size];exact hj3))
  rw [hl3] at h
  exact h
 go_wp2
 go_ret
 refine ⟨rfl,?_⟩
 obtain ⟨os,eo⟩:=Lib.fin_pos w (.cells Lib.zeros24 350) dk k
 rw [eo]
 refine ⟨rfl,rfl,rfl,by simp [Go.Sort.grow],fun j hj=>?_⟩
 simp [Go.Sort.grow,Array.getElem?_append,hj]
theorem ito_walk (u:Nat) (h1:100≤u) (h2:u<1000) (w:World) (ht:Pow10 w) (hw:2<w.heap.size) :
  Calls Tryz.prog 52 #[.int .i64 u] w fun e w'=>e=.returned (.string ⟨(Lib.decDigits u).toArray⟩)∧Below w.heap.size w w':=by
 have hf:=fmt_walk u h1 h2
 have hi:∀w,Pow10 w→2<w.heap.size→Calls Tryz.prog 117 #[.int .i64 u] w fun e w'=>e=.returned (.string ⟨(Lib.decDigits u).toArray⟩)∧Below w.heap.size w w':=by
  intro w ht hw
  go_enter Tryz.func117,Tryz.ntmps117
  go_wp2_with (first | (go_at_call 201;refine (hf _ ht hw).mono ?_;rintro e w' ⟨rfl,hb⟩))
  go_ret
  exact ⟨rfl,hb⟩
 go_enter Tryz.func52,Tryz.ntmps52
 go_wp2_with (first | (go_at_call 117;refine (hi _ ht hw).mono ?_;rintro e w' ⟨rfl,hb⟩))
 go_ret
 exact ⟨rfl,hb⟩
noncomputable def g52 (a0:Int):Option ByteArray:=ck (0≤a0∧a0<1000) <| some ⟨(Lib.decDigits a0.toNat).toArray⟩
noncomputable def k52:Eng.CS:={ f:=52,calm:=true,more:=0,ι:=Int×ByteArray,ok:=fun i=>g52 i.1=some i.2,rds:=fun i=>[(some ⟨2,0,none⟩,ei .u64 Lib.pow10Tab)],args:=fun i=>[.w (.v (.int .i64 i.1))],res:=fun i=>.v (.string i.2),rn:=[] }
theorem k52_ok:CalmOk Tryz.prog k52:=by
 refine ⟨fun args w=>?_,?_⟩
 ·have hname' : ¬ Tryz.f52.name = "runtime.NumGoroutine" := by simpa using (nq9 Tryz.func52)
  obtain ⟨c,hc⟩:=Option.isSome_iff_exists.1 (show Tryz.f52.body.isSome=true from rfl)
  have hP:=Tryz.func52
  simp [callFunc,k52,hP,hname',hc]
 ·rintro w q S ⟨a0,r⟩ vs hok hrds hm hargs
  have hr:(0≤a0∧a0<1000)∧(⟨(Lib.decDigits a0.toNat).toArray⟩:ByteArray)=r:=by
   have:g52 a0=some r:=hok
   unfold g52 ck at this
   split at this
   ·rename_i h1;cases this;exact ⟨h1,rfl⟩
   ·cases this
  obtain ⟨h1,rfl⟩:=hr
  match vs,hargs with
  | [v],hargs=>
  obtain ⟨hv,_⟩:=hargs
  have hv:v=.int .i64 a0:=hv
  subst hv
  obtain ⟨u,rfl⟩:=Int.eq_ofNat_of_zero_le h1.1
  rw [Int.toNat_natCast]
  by_cases hs:u<100
  ·refine (Tryz.strconv_Itoa_small u hs w).mono ?_
   rintro e w' ⟨rfl,rfl⟩
   exact ⟨by simp [k52,den],Below.refl _ _⟩
  ·have hR:Reads q (some ⟨2,0,none⟩) (ei .u64 Lib.pow10Tab):=hrds.1
   have ht:Pow10 w:=fun i hi=>by
    have:=hR i (by rw [ei_len,Lib.pow10Tab_length];exact hi)
    refine hm 2 i _ (Eq.trans ?_ (this.trans ?_))
    ·simp [rd]
    ·rw [ei_get (by rw [Lib.pow10Tab_length];exact hi)]
     have:=Lib.pow10Tab_at i hi
     rw [this]
   have hw:2<w.heap.size:=by
    have:=ht 0 (by omega)
    unfold World.cell? at this
    rcases Nat.lt_or_ge 2 w.heap.size with h | h
    ·exact h
    ·rw [Array.getElem?_eq_none h] at this;simp at this
   refine (ito_walk u (by omega) (by omega) w ht hw).mono ?_
   rintro e w' ⟨rfl,hb⟩
   exact ⟨by simp [k52,den],hb⟩
end Go.Proofs.YticmemgehllacaaGreatDoor
end
section
namespace Go.Proofs.YticmemgehllacaaGreatDoor
open Go Go.Eng Go.RowKit
set_option maxHeartbeats 1000000 in
set_option maxRecDepth 100000 in
theorem lcc_used (b:Nat) (w:World) (h0:w.cell? ⟨b,0,none⟩=some (.pointer (some ⟨b,0,none⟩))) :
  Calls Tryz.prog 54 #[.pointer (some ⟨b,0,none⟩)] w fun e w'=>e=.returned (.tuple #[])∧w'=w:=by
 have hj:(Tryz.prog.info? 74).map (·.size)=some 2:=by kernel_rfl
 obtain ⟨j,hj,hjs⟩:=Option.map_eq_some_iff.1 hj
 go_enter Tryz.func54,Tryz.ntmps54
 go_wp2
 rw [Lib.run_neq_ptr_same w _ Tryz.underlying72 hj]
 go_wp2
 go_end0
 exact ⟨rfl,rfl⟩
set_option maxHeartbeats 1000000 in
set_option maxRecDepth 100000 in
theorem lcc_fresh (b:Nat) (w:World) (h0:w.cell? ⟨b,0,none⟩=some (.pointer none)) (hsh:w.shape? b=some (74,2)) (hfz:w.frozen? ⟨b,0,none⟩=false) :
  Calls Tryz.prog 54 #[.pointer (some ⟨b,0,none⟩)] w fun e w'=>e=.returned (.tuple #[])∧w'=w.setCell ⟨b,0,none⟩ (.pointer (some ⟨b,0,none⟩)):=by
 have hj:(Tryz.prog.info? 74).map (·.size)=some 2:=by kernel_rfl
 obtain ⟨j,hj,hjs⟩:=Option.map_eq_some_iff.1 hj
 go_enter Tryz.func54,Tryz.ntmps54
 go_wp2
 rw [Lib.run_to_unsafe w ⟨b,0,none⟩ Tryz.underlying72 Tryz.underlying213 hj (by rw [hjs];decide) hsh (Nat.zero_lt_succ 1)]
 simp only [Result.andThen]
 rw [Oper.upon_value]
 go_wp2
 rw [run_callFunc_extern Tryz.func118 (by kernel_rfl) (by kernel_rfl) (by kernel_rfl) (e:=Extern.AbiNoEscape.same) (by kernel_rfl)]
 rw [Lib.run_noEscape]
 simp only [Result.andThen]
 rw [Oper.upon_value]
 go_wp2
 rw [Lib.run_from_unsafe w ⟨b,0,none⟩ Tryz.underlying213 Tryz.underlying72 hj hsh (by kernel_rfl)]
 simp only [Result.andThen]
 rw [Oper.upon_value]
 go_wp2
 go_end0
 exact ⟨rfl,rfl⟩
theorem lus_nil (W:World) (q:Option Addr):(Builtin.unsafeString_ #[123,3] 9 #[.pointer q,.int .i64 0]).run Tryz.prog W=.ok (.string .empty) W:=
 Lib.run_unsafeString_none W _ _ _ q
set_option maxHeartbeats 2000000 in
set_option maxRecDepth 100000 in
theorem lstr_nil (b:Nat) (p:Value) (w:World) (hbk:w.heap[b]?=some (.cells #[p,.slice none 0 0] 74 (0,0))) :
  Calls Tryz.prog 23 #[.pointer (some ⟨b,0,none⟩)] w fun e w'=>e=.returned (.string ⟨#[]⟩)∧w.grownBy w' none:=by
 have mixed:Tryz.prog.follows Departure.mixedOrders=true:=by kernel_rfl
 have hUS:=lus_nil
 have c1:w.drew.cell? ⟨b,1,none⟩=some (.slice none 0 0):=by
  have:w.drew.heap[b]?=some (.cells #[p,.slice none 0 0] 74 (0,0)):=hbk
  rw [Lib.cell_of_heap this];rfl
 have hSD:(Builtin.unsafeSliceData_ #[35] 123 #[.slice none 0 0]).run Tryz.prog w.drew=.ok (.pointer none) w.drew:=rfl
 go_enter Tryz.func23,Tryz.ntmps23
 go_wp2
 go_region_o
 all_goals (go_wp2;go_ret;exact ⟨rfl,rfl,rfl,rfl,Nat.le_refl _,fun _ _ _=>rfl⟩)
set_option maxHeartbeats 2000000 in
set_option maxRecDepth 100000 in
theorem lstr_noroom (b g:Nat) (p:Value) (cur:Array Value) (w:World) (hbk:w.heap[b]?=some (.cells #[p,.slice (some ⟨g,0,none⟩) 0 0] 74 (0,0))) (hg:w.heap[g]?=some (.cells cur 5 (0,0))) :
  Calls Tryz.prog 23 #[.pointer (some ⟨b,0,none⟩)] w fun e w'=>e=.returned (.string ⟨#[]⟩)∧w.grownBy w' (some g):=by
 have mixed:Tryz.prog.follows Departure.mixedOrders=true:=by kernel_rfl
 have hUS:=lus_nil
 have hlt:b<w.heap.size:=(Array.getElem?_eq_some_iff.1 hbk).1
 have c1:w.drew.cell? ⟨b,1,none⟩=some (.slice (some ⟨g,0,none⟩) 0 0):=by
  have:w.drew.heap[b]?=some (.cells #[p,.slice (some ⟨g,0,none⟩) 0 0] 74 (0,0)):=hbk
  rw [Lib.cell_of_heap this];rfl
 have hSD:(Builtin.unsafeSliceData_ #[35] 123 #[.slice (some ⟨g,0,none⟩) 0 0]).run Tryz.prog w.drew=.ok (.pointer (some ⟨w.drew.heap.size,0,none⟩)) (w.drew.alloc (.view ⟨g,0,none⟩ 5)):=
  Lib.run_unsafeSliceData_zero w.drew _ _ 5 Tryz.underlying123 ⟨g,0,none⟩ 0 (5,cur.size) (by have hg':w.drew.heap[g]?=some (.cells cur 5 (0,0)):=hg;simp [World.shape?,hg'])
 have c2:(w.drew.alloc (.view ⟨g,0,none⟩ 5)).cell? ⟨b,1,none⟩=some (.slice (some ⟨g,0,none⟩) 0 0):=by
  have:(w.drew.alloc (.view ⟨g,0,none⟩ 5)).heap[b]?=_:=(Lib.alloc_old w.drew _ b hlt).trans hbk
  rw [Lib.cell_of_heap this];rfl
 have c3:(w.alloc (.view ⟨g,0,none⟩ 5)).drew.cell? ⟨b,1,none⟩=some (.slice (some ⟨g,0,none⟩) 0 0):=c2
 have c0:w.cell? ⟨b,1,none⟩=some (.slice (some ⟨g,0,none⟩) 0 0):=c1
 go_enter Tryz.func23,Tryz.ntmps23
 go_wp2
 go_region_o
 all_goals (go_wp2;go_ret;exact ⟨rfl,rfl,rfl,rfl,by simp,fun k hk _=>heap_alloc_old w.drew _ hk⟩)
set_option maxHeartbeats 2000000 in
set_option maxRecDepth 100000 in
theorem lstr_room (b g cap:Nat) (p:Value) (w:World) (hc0:cap≠0) (hbk:w.heap[b]?=some (.cells #[p,.slice (some ⟨g,0,none⟩) 0 cap] 74 (0,0))) :
  Calls Tryz.prog 23 #[.pointer (some ⟨b,0,none⟩)] w fun e w'=>e=.returned (.string ⟨#[]⟩)∧w.grownBy w' (some g):=by
 have mixed:Tryz.prog.follows Departure.mixedOrders=true:=by kernel_rfl
 have hUS:=lus_nil
 have c1:w.drew.cell? ⟨b,1,none⟩=some (.slice (some ⟨g,0,none⟩) 0 cap):=by
  have:w.drew.heap[b]?=some (.cells #[p,.slice (some ⟨g,0,none⟩) 0 cap] 74 (0,0)):=hbk
  rw [Lib.cell_of_heap this];rfl
 have hSD:(Builtin.unsafeSliceData_ #[35] 123 #[.slice (some ⟨g,0,none⟩) 0 cap]).run Tryz.prog w.drew=.ok (.pointer (some ⟨g,0,none⟩)) w.drew:=
  Lib.run_unsafeSliceData_row _ _ _ _ _ _ hc0
 clear hc0
 go_enter Tryz.func23,Tryz.ntmps23
 go_wp2
 go_region_o
 all_goals (go_wp2;go_ret;exact ⟨rfl,rfl,rfl,rfl,Nat.le_refl _,fun _ _ _=>rfl⟩)
set_option maxHeartbeats 2000000 in
set_option maxRecDepth 100000 in
theorem lstr_some (b g cap:Nat) (p:Value) (cur:Array Value) (l:List UInt8) (w:World) (h0:l≠[]) (hbk:w.heap[b]?=some (.cells #[p,.slice (some ⟨g,0,none⟩) l.length cap] 74 (0,0))) (hg:w.heap[g]?=some (.cells cur 5 (0,0)))
  (hnc:l.length≤cap) (hcm:cap≤maxLen) (hcs:cur.size=cap) (hcell:∀j x,l[j]?=some x→w.cell? ((⟨g,0,none⟩:Addr).add j)=some (.int .u8 x.toNat)) :
  Calls Tryz.prog 23 #[.pointer (some ⟨b,0,none⟩)] w fun e w'=>e=.returned (.string ⟨l.toArray⟩)∧w.grownBy w' (some g):=by
 have mixed:Tryz.prog.follows Departure.mixedOrders=true:=by kernel_rfl
 have hl0:l.length≠0:=by simpa using h0
 have c1:w.drew.cell? ⟨b,1,none⟩=some (.slice (some ⟨g,0,none⟩) l.length cap):=by
  have:w.drew.heap[b]?=some (.cells #[p,.slice (some ⟨g,0,none⟩) l.length cap] 74 (0,0)):=hbk
  rw [Lib.cell_of_heap this];rfl
 have hSD:(Builtin.unsafeSliceData_ #[35] 123 #[.slice (some ⟨g,0,none⟩) l.length cap]).run Tryz.prog w.drew=.ok (.pointer (some ⟨g,0,none⟩)) w.drew:=
  Lib.run_unsafeSliceData_row _ _ _ _ _ _ (by omega)
 have hUS:(Builtin.unsafeString_ #[123,3] 9 #[.pointer (some ⟨g,0,none⟩),.int .i64 l.length]).run Tryz.prog w.drew=.ok (.string ⟨l.toArray⟩) (w.drew.freeze ⟨g,0,none⟩ l.length):=by
  refine Lib.run_unsafeString_row w.drew 123 3 9 5 Tryz.underlying123 (by kernel_rfl) g cur.size (by have hg':w.drew.heap[g]?=some (.cells cur 5 (0,0)):=hg;simp [World.shape?,hg']) l h0 (by omega) (by unfold maxLen at hcm;omega) ?_
  intro j x hx
  exact hcell j x hx
 have hfz:w.grownBy (w.drew.freeze ⟨g,0,none⟩ l.length) (some g):=by
  unfold World.freeze
  rw [if_neg hl0]
  refine ⟨rfl,rfl,rfl,by simp,fun k _ hk=>?_⟩
  have hne:g≠k:=fun e=>hk (by rw [e])
  show (Array.modify _ g _)[k]?=_
  rw [Array.getElem?_modify,if_neg hne]
  rfl
 clear hcell hcs hnc hcm h0
 go_enter Tryz.func23,Tryz.ntmps23
 go_wp2
 go_region_o
 all_goals (go_wp2;go_ret;exact ⟨rfl,hfz⟩)
noncomputable def g54 (a0:List Int):Option (List Int):=some a0
noncomputable def k54:Eng.CS:={ f:=54,calm:=false,more:=3,ι:=(List Int)×List Int,ok:=fun i=>g54 i.1=some i.2,rds:=fun _=>[],args:=fun i=>[.w (.lp 0 0)],res:=fun i=>.tup [],L':=fun i=>[(0,.cells 74 [.lq 0,.own 2]),(2,.arr 5 1 i.2.length (ei .u8 i.2))],rn:=[],keys:=2,L:=fun i=>[(0,.cells 74 [.lq 0,.own 1]),(1,.arr 5 1 i.1.length (ei .u8 i.1))] }
theorem lbld_cells {S:Pl} {w:World} {n:Nat} {xs:List Value} (h0:chunk 0 S 0 (.cells 74 [.lq 0,.own 1]) w) :
  ∃p,w.heap[(S 0).b]?=some (.cells #[p,.slice (S 1).A (S 1).n (S 1).c] 74 (0,0))∧(p=.pointer none∨p=.pointer (some ⟨(S 0).b,0,none⟩)):=by
 obtain ⟨_,vs,hh,hok⟩:=h0
 match vs,hok with
 | [p,u],hok=>
  obtain ⟨h1,h2,_⟩:=hok
  have h2:u=.slice (S 1).A (S 1).n (S 1).c:=h2
  subst h2
  exact ⟨p,hh,h1⟩
theorem k54_ok:CSOk Tryz.prog k54:=by
 refine CSOk.plain (fun args w=>?_) ?_
 ·have hname' : ¬ Tryz.f54.name = "runtime.NumGoroutine" := by simpa using (nq9 Tryz.func54)
  obtain ⟨c,hc⟩:=Option.isSome_iff_exists.1 (show Tryz.f54.body.isSome=true from rfl)
  have hP:=Tryz.func54
  simp [callFunc,k54,hP,hname',hc]
 ·rintro w q S ⟨a0,r⟩ vs hok _ hm hargs
  have hr:r=a0:=by
   have:g54 a0=some r:=hok
   unfold g54 at this
   cases this;rfl
  subst hr
  match vs,hargs with
  | [v],hargs=>
  have hv:v=.pointer (some ⟨(S 0).b,0,none⟩):=hargs.1
  subst hv
  obtain ⟨p,hh,hp⟩:=lbld_cells (n:=0) (xs:=[]) (hm.ch 0 _ rfl)
  have fin:∀w',Mem (frameW q w S (k54.L (r,r))) q S [(0,.cells 74 [.lp 0 0,.own 1]),(1,.arr 5 1 r.length (ei .u8 r))] w' →
    ∃v S',Ending.returned (.tuple #[])=.returned v∧okv S' (k54.res (r,r)) v∧(∀k,k<k54.keys→S' k=S k)∧Mem (frameW q w S (k54.L (r,r))) q S' (k54.L' (r,r)) w':=fun w' hm'=>by
   obtain ⟨S',_,h2,h3⟩:=resM_fin (s:=k54) (i:=(r,r)) (fr:=[]) (tf:=[]) (vs:=[]) (nk:=3) hm' (fun t=>by simp [get_n,okv]) (by
    rw [←R.nilF_eq,←R.mFr_eq,←R.mLL_eq]
    exact ⟨⟨rfl,rfl⟩,trivial⟩)
   exact ⟨_,S',rfl,⟨[],rfl,trivial⟩,h2,h3⟩
  rcases hp with rfl | rfl
  ·refine (lcc_fresh (S 0).b w ?_ ?_ ?_).mono ?_
   ·rw [Lib.cell_of_heap hh];rfl
   ·simp [World.shape?,hh]
   ·exact Lib.frozen_of_heap hh 0
   ·rintro e w' ⟨rfl,rfl⟩
    refine fin _ ?_
    have hset:w.setCell ⟨(S 0).b,0,none⟩ (.pointer (some ⟨(S 0).b,0,none⟩))=w.setRow (S 0).b #[.pointer (some ⟨(S 0).b,0,none⟩),.slice (S 1).A (S 1).n (S 1).c]:=setCell_eq_setRow w _ 0 _ _ _ _ hh
    rw [hset]
    refine hm.turn (k:=0) (lb':=.cells 74 [.lp 0 0,.own 1]) rfl rfl ⟨rfl,rfl,rfl,by simp,fun k _ hk=>setRow_other w _ k _ (fun e=>hk (by rw [e]))⟩ ?_ rfl
    exact ⟨Nat.zero_le _,[_,_],setRow_heap w _ _ _ _ _ hh,rfl,rfl,trivial⟩
  ·refine (lcc_used (S 0).b w ?_).mono ?_
   ·rw [Lib.cell_of_heap hh];rfl
   ·rintro e w' ⟨rfl,rfl⟩
    refine fin _ ?_
    exact hm.relabel (k:=0) (lb':=.cells 74 [.lp 0 0,.own 1]) rfl ⟨Nat.zero_le _,[_,_],hh,rfl,rfl,trivial⟩ rfl
noncomputable def g23 (a0:List Int):Option ByteArray:=ck (isBytes a0) <| some ⟨(a0.map fun n=>UInt8.ofNat n.toNat).toArray⟩
noncomputable def k23:Eng.CS:={ f:=23,calm:=false,more:=2,ι:=(List Int)×ByteArray,ok:=fun i=>g23 i.1=some i.2,rds:=fun _=>[],args:=fun i=>[.w (.lp 0 0)],res:=fun i=>.v (.string i.2),L':=fun i=>[],rn:=[],keys:=2,L:=fun i=>[(0,.cells 74 [.lq 0,.own 1]),(1,.arr 5 1 i.1.length (ei .u8 i.1))] }
theorem k23_ok:CSOk Tryz.prog k23:=by
 refine CSOk.plain (fun args w=>?_) ?_
 ·have hname' : ¬ Tryz.f23.name = "runtime.NumGoroutine" := by simpa using (nq9 Tryz.func23)
  obtain ⟨c,hc⟩:=Option.isSome_iff_exists.1 (show Tryz.f23.body.isSome=true from rfl)
  have hP:=Tryz.func23
  simp [callFunc,k23,hP,hname',hc]
 ·rintro w q S ⟨a0,r⟩ vs hok _ hm hargs
  have hr:isBytes a0∧r=⟨(a0.map fun n=>UInt8.ofNat n.toNat).toArray⟩:=by
   have:g23 a0=some r:=hok
   unfold g23 ck at this
   split at this
   ·rename_i h;cases this;exact ⟨h,rfl⟩
   ·cases this
  obtain ⟨hb,rfl⟩:=hr
  match vs,hargs with
  | [v],hargs=>
  have hv:v=.pointer (some ⟨(S 0).b,0,none⟩):=hargs.1
  subst hv
  obtain ⟨p,hh,hp⟩:=lbld_cells (n:=0) (xs:=[]) (hm.ch 0 _ rfl)
  obtain ⟨hown,hn,_,_,hA⟩:w.ownsRow 0 5 1 (.slice (S 1).A (S 1).n (S 1).c) a0.length (ei .u8 a0)∧(S 1).n=a0.length∧0<1∧(∀x∈ei .u8 a0,x.oneCell'=true)∧((S 1).A=none∨(S 1).A=some ⟨(S 1).b,0,none⟩):=hm.ch 1 _ rfl
  rw [hn] at hh hown
  have e0:∀{w'},Mem (frameW q w S (k23.L (a0,⟨(a0.map fun n=>UInt8.ofNat n.toNat).toArray⟩))) q S [(0,.cells 74 [.lq 0,.own 1])] w'→Mem (frameW q w S (k23.L (a0,⟨(a0.map fun n=>UInt8.ofNat n.toNat).toArray⟩))) q S [] w':=fun h=>h.rem 0
  rcases hown.2 with ⟨hv,h0⟩ | ⟨g,cap,cur,hv,_,hg,hnc,hcm,hcs,htake⟩
  ·injection hv with e1 e2 e3
   have ha:a0=[]:=List.eq_nil_of_length_eq_zero e2
   subst ha
   rw [e1,e3] at hh
   refine (lstr_nil (S 0).b p w hh).mono ?_
   rintro e w' ⟨rfl,hgr⟩
   exact ⟨_,S,rfl,rfl,fun _ _=>rfl,e0 ((hm.below ((Below.refl _ w).grown hgr (Nat.le_refl _) (fun k e=>by cases e))).rem 1)⟩
  ·injection hv with e1 e2 e3
   rw [e1,e3] at hh
   have done:∀e w',(e=Ending.returned (.string ⟨(a0.map fun n=>UInt8.ofNat n.toNat).toArray⟩)∧w.grownBy w' (some g))→∃v S',e=.returned v∧okv S' (k23.res (a0,⟨(a0.map fun n=>UInt8.ofNat n.toNat).toArray⟩)) v∧(∀k,k<k23.keys→S' k=S k)∧Mem (frameW q w S (k23.L (a0,⟨(a0.map fun n=>UInt8.ofNat n.toNat).toArray⟩))) q S' (k23.L' (a0,⟨(a0.map fun n=>UInt8.ofNat n.toNat).toArray⟩)) w':=by
    rintro e w' ⟨rfl,hgr⟩
    exact ⟨_,S,rfl,rfl,fun _ _=>rfl,e0 (hm.lose (k:=1) rfl (by simp [blk,e1]) hgr)⟩
   by_cases h0:a0=[]
   ·subst h0
    by_cases hc:cap=0
    ·subst hc
     exact (lstr_noroom (S 0).b g p cur w hh hg).mono done
    ·exact (lstr_room (S 0).b g cap p w hc hh).mono done
   ·have hl:(a0.map fun n=>UInt8.ofNat n.toNat).length=a0.length:=by simp
    refine (lstr_some (S 0).b g cap p cur (a0.map fun n=>UInt8.ofNat n.toNat) w (by simpa using h0) (by rw [hl];exact hh) hg (by rw [hl];exact hnc) hcm (by simpa using hcs) fun j x hx=>?_).mono done
    have hcell:=hown.cells (g:=g) (by rw [e1];rfl) j (.int .u8 x.toNat) (by
     rw [bv_bytes hb,List.getElem?_map,hx]
     rfl)
    exact hcell
end Go.Proofs.YticmemgehllacaaGreatDoor
end
section
set_option maxRecDepth 8000
set_option maxHeartbeats 4000000
namespace Go.Proofs.YticmemgehllacaaGreatDoor
open Go Go.Eng
noncomputable def g34 (a0:ByteArray):Option (Bool):=
 jn (α:=_) (β:=Unit) (fun k36=>
   (loopO (σ:=Int) (ρ:=(Unit) ⊕ (Unit)) (fun s39=>
     if s39<(a0.size:Int) then
      (
       ck (0≤s39∧s39<(a0.size:Int)) <|
       if ((a0.data.toList[s39.toNat]?.getD 0).toNat:Int)<32 then
        some (.out (.inl (())))
       else
        (
         ck (0≤s39∧s39<(a0.size:Int)) <|
         if 126<((a0.data.toList[s39.toNat]?.getD 0).toNat:Int) then
          some (.out (.inl (())))
         else
          (
           ck (inR .i64 (s39+1)) <|
           some (.go (s39+1))
          )
        )
      )
     else
      some (.out (.inr (())))
    ) 0).bind fun o53=>
   sm o53 (fun o60=>
     some false
    ) (fun o61=>
     k36 ()
    )
 ) (fun v35=>
  some (decide (¬(a0.data.toList=(lit []).data.toList)))
 )
noncomputable def k34:Eng.CS:={ f:=34,calm:=true,more:=0,ι:=ByteArray×Bool,ok:=fun i=>g34 i.1=some i.2,rds:=fun _=>[],args:=fun i=>[.w (.v (.string (i.1)))],res:=fun i=>bS i.2 }
theorem k34_ok:CalmOk Tryz.prog k34:=by
 refine R.calmspec Tryz.func34 (nq9 Tryz.func34) rfl ?_
 rintro ⟨a0,r⟩ hok q _ args hargs
 match args,hargs with
 | [_],hargs=>
 obtain ⟨rfl,_⟩:=hargs
 refine ⟨envC [] false [(34,6)],6,envC_ok (css_nil),rfl,(by intro x hx;simp only [List.mem_cons,List.not_mem_nil,or_false] at hx;rcases hx with rfl<;>rfl),?_⟩
 have H:Gives (g34 a0) (fun a=>a=r):=⟨r,hok,rfl⟩
 unfold g34 at H
 clear hok
 refine R.cut_fam H 8 [0] [] (fun v35=>[]) (fun v35=>[]) [] 0 (fun H=>?_)
 refine And.intro ?_ ?_
 ·refine R.loop_fam (bind_st H) [0] [] (fun _ s39=>[(3,.v (.int .i64 (s39)))]) (fun _ s39=>[]) 0 (fun n62 H=>?_)
  refine ⟨(n62,_),⟨H⟩,⟨trivial⟩,?_⟩
  repeat refine mo1TA2 ?_
  rintro ⟨m0,s39⟩ H _
  obtain ⟨m40,hm0,H⟩:=IG_succ H
  dsimp only at hm0
  subst hm0
  try dsimp only at H
  refine if_st H ?_ ?_<;>intro h54 H
  ·refine ob_ck H fun h55 H=>?_
   refine if_st H ?_ ?_<;>intro h56 H
   ·replace H:=some_st H
    dsimp only [stp,sm] at H
    have hfin:=fin_st H
    repeat refine mf1TA2 ?_
    trivial
   ·refine ob_ck H fun h57 H=>?_
    refine if_st H ?_ ?_<;>intro h58 H
    ·replace H:=some_st H
     dsimp only [stp,sm] at H
     have hfin:=fin_st H
     repeat refine mf1TA2 ?_
     trivial
    ·refine ob_ck H fun h59 H=>?_
     replace H:=some_st H
     refine ⟨(m40,s39+1),⟨H,Nat.lt_succ_self _⟩,⟨trivial⟩,⟨rfl⟩,?_⟩
     repeat refine mo1TA2 ?_
     trivial
  ·replace H:=some_st H
   dsimp only [stp,sm] at H
   refine ⟨(),⟨H⟩,⟨rfl⟩,?_⟩
   repeat refine mo1TA2 ?_
   trivial
 ·intro v35 H
  have hfin:=fin_st H
  repeat refine mf1TA2 ?_
  trivial
noncomputable def g56 (a0:List Int):Option (ByteArray):=
 jn (α:=_) (β:=List Int) (fun k117=>
   (loopO (σ:=List Int×Int) (ρ:=List Int) (fun s120=>
     if s120.2<((a0.length:Nat):Int) then
      (
       ck (0≤s120.2∧s120.2<((a0.length:Nat):Int)) <|
       ck (inR .u8 (Int.tdiv (a0.getD s120.2.toNat 0) 16)) <|
       ck (0≤Int.tdiv (a0.getD s120.2.toNat 0) 16∧Int.tdiv (a0.getD s120.2.toNat 0) 16<((lit [48,49,50,51,52,53,54,55,56,57,97,98,99,100,101,102]).size:Int)) <|
       ck (0≤s120.2∧s120.2<((a0.length:Nat):Int)) <|
       ck (0≤Int.tmod (a0.getD s120.2.toNat 0) 16∧Int.tmod (a0.getD s120.2.toNat 0) 16<((lit [48,49,50,51,52,53,54,55,56,57,97,98,99,100,101,102]).size:Int)) <|
       ck ((s120.1.length+2) * 1≤140737488355328) <|
       ck (inR .i64 (s120.2+1)) <|
       some (.go ((s120.1++[(((lit [48,49,50,51,52,53,54,55,56,57,97,98,99,100,101,102]).data.toList[(Int.tdiv (a0.getD s120.2.toNat 0) 16).toNat]?.getD 0).toNat:Int),(((lit [48,49,50,51,52,53,54,55,56,57,97,98,99,100,101,102]).data.toList[(Int.tmod (a0.getD s120.2.toNat 0) 16).toNat]?.getD 0).toNat:Int)]),s120.2+1))
      )
     else
      some (.out s120.1)
    ) ([],0)).bind fun o146=>
    k117 o146
 ) (fun v116=>
  ck (isBytes v116) <|
  some (strOf v116)
 )
noncomputable def k56:Eng.CS:={ f:=56,calm:=true,more:=0,ι:=(List Int)×ByteArray,ok:=fun i=>g56 i.1=some i.2,rds:=fun _=>[],args:=fun i=>[.sl 1 i.1.length (ei .u8 i.1)],res:=fun i=>.v (.string (i.2)) }
theorem k56_ok:CalmOk Tryz.prog k56:=by
 refine R.calmspec Tryz.func56 (nq9 Tryz.func56) rfl ?_
 rintro ⟨a0,r⟩ hok q _ args hargs
 match args,hargs with
 | [_],hargs=>
 obtain ⟨⟨A0,cp0,rfl,hc0,_,hR0⟩,_⟩:=hargs
 refine ⟨envC [] false [(56,7)],6,envC_ok (css_nil),rfl,(by intro x hx;simp only [List.mem_cons,List.not_mem_nil,or_false] at hx;rcases hx with rfl<;>rfl),?_⟩
 have H:Gives (g56 a0) (fun a=>a=r):=⟨r,hok,rfl⟩
 unfold g56 at H
 clear hok
 refine R.cut_fam H 13 [] [] (fun v116=>[(3,.own 13)]) (fun v116=>[(13,.arr 5 1 (v116.length) (ei .u8 (v116)))]) [] 1 (fun H=>?_)
 refine And.intro ?_ ?_
 ·refine R.loop_fam (bind_st H) [0,4] [(3,0,5,1)] (fun _ s120=>[(3,.own 5),(5,.v (.int .i64 (s120.2)))]) (fun _ s120=>[(5,.arr 5 1 (s120.1.length) (ei .u8 (s120.1)))]) 1 (fun n159 H=>?_)
  refine ⟨(n159,_),⟨H⟩,⟨trivial⟩,?_⟩
  repeat refine mo1TA2 ?_
  rintro ⟨m0,s120⟩ H _
  obtain ⟨m121,hm0,H⟩:=IG_succ H
  dsimp only at hm0
  subst hm0
  try dsimp only at H
  refine if_st H ?_ ?_<;>intro h147 H
  ·refine And.intro ⟨by kernel_rfl⟩ ?_
   refine ⟨(Pn.calm 0 (Pn.calm 1 (Pn.calm 2 (Pn.calm 3 (Pn.calm 4 (Pn.calm 5 (Pn.calm 6 (Pn.calm 7 (Pn.calm 8 (Pn.calm 9 (Pn.calm 10 (Pn.calm 11 (Pn.calm 12 (Pn.calm 13 (Pn.calm 14 (Pn.eff 15 [7,14,1,6,8,13,5,12,4,11,2,3,9,10] (Pn.eff 16 [0,15,7,14,1,6,8,13,5,12,4,11,2,3,9,10] (Pn.calm 17 Pn.done) Pn.no) Pn.no)))))))))))))))),⟨by kernel_rfl⟩,?_⟩
   refine ob_ix hR0 (fun h=>ei0 h) H fun h148 H=>?_
   refine ld_int (e:=a0.getD s120.2.toNat 0) (rd_get hR0 (ei_get (l:=a0) (tn h148))) ?_
   refine And.intro ⟨by decide⟩ ?_
   refine ob_ck H fun h149 H=>?_
   refine ob_ck H fun h150 H=>?_
   refine ob_ix hR0 (fun h=>ei0 h) H fun h151 H=>?_
   refine ld_int (e:=a0.getD s120.2.toNat 0) (rd_get hR0 (ei_get (l:=a0) (tn h151))) ?_
   refine And.intro ⟨by decide⟩ ?_
   refine ob_ck H fun h152 H=>?_
   refine And.intro ?_ trivial
   refine And.intro ⟨fun _ _ _ h=>h⟩ ?_
   refine And.intro ?_ trivial
   refine ob_app (by decide) (by first | exact ei_one | ((repeat (refine List.forall_mem_cons.2 ⟨rfl,?_⟩));intro y hy;cases hy;done) | (intro y hy;simp [ei,eb,es,ec,c37] at hy;(first | (rcases hy with rfl | hy) | subst hy | skip);all_goals first | rfl | simp_all [Value.oneCell'])) H fun h153 H=>?_
   intro n154 zs156 hn155 hz157
   obtain rfl:n154=(s120.1++[(((lit [48,49,50,51,52,53,54,55,56,57,97,98,99,100,101,102]).data.toList[(Int.tdiv (a0.getD s120.2.toNat 0) 16).toNat]?.getD 0).toNat:Int),(((lit [48,49,50,51,52,53,54,55,56,57,97,98,99,100,101,102]).data.toList[(Int.tmod (a0.getD s120.2.toNat 0) 16).toNat]?.getD 0).toNat:Int)]).length:=hn155.trans (by first | exact List.length_append.symm | (simp;done) | (simp;omega))
   obtain rfl:zs156=ei .u8 (s120.1++[(((lit [48,49,50,51,52,53,54,55,56,57,97,98,99,100,101,102]).data.toList[(Int.tdiv (a0.getD s120.2.toNat 0) 16).toNat]?.getD 0).toNat:Int),(((lit [48,49,50,51,52,53,54,55,56,57,97,98,99,100,101,102]).data.toList[(Int.tmod (a0.getD s120.2.toNat 0) 16).toNat]?.getD 0).toNat:Int)]):=by first | exact hz157.trans (ei_app (xs:=s120.1) (ys:=([(((lit [48,49,50,51,52,53,54,55,56,57,97,98,99,100,101,102]).data.toList[(Int.tdiv (a0.getD s120.2.toNat 0) 16).toNat]?.getD 0).toNat:Int),(((lit [48,49,50,51,52,53,54,55,56,57,97,98,99,100,101,102]).data.toList[(Int.tmod (a0.getD s120.2.toNat 0) 16).toNat]?.getD 0).toNat:Int)]))).symm | (rw [hz157,ei_vw];first | exact ei_app.symm | exact (ei_app (xs:=s120.1)).symm) | (rw [hz157];simp [ei,eb,es,ec,c37])
   refine And.intro ⟨fun _ _ _ h=>h⟩ ?_
   refine ob_ck H fun h158 H=>?_
   replace H:=some_st H
   refine ⟨(m121,((s120.1++[(((lit [48,49,50,51,52,53,54,55,56,57,97,98,99,100,101,102]).data.toList[(Int.tdiv (a0.getD s120.2.toNat 0) 16).toNat]?.getD 0).toNat:Int),(((lit [48,49,50,51,52,53,54,55,56,57,97,98,99,100,101,102]).data.toList[(Int.tmod (a0.getD s120.2.toNat 0) 16).toNat]?.getD 0).toNat:Int)]),s120.2+1)),⟨H,Nat.lt_succ_self _⟩,⟨trivial⟩,⟨rfl⟩,?_⟩
   repeat refine mo1TA2 ?_
   trivial
  ·replace H:=some_st H
   dsimp only [stp,sm] at H
   refine ⟨s120.1,⟨H⟩,⟨rfl⟩,?_⟩
   repeat refine mo1TA2 ?_
   trivial
 ·intro v116 H
  refine ob_str (l:=v116) H fun h160 H=>?_
  have hfin:=fin_st H
  repeat refine mf1TA2 ?_
  trivial
noncomputable def g24 (a0:(Int×List Int×Int×Int)):Option (ByteArray×Bool):=
 if a0.1=2 then
  some ((lit [116,105,99,107]),true)
 else
  (
   if a0.1=4 then
    some ((lit [99,108,111,115,101]),true)
   else
    (
     if a0.1=3 then
      (
       jn (α:=_) (β:=Bool) (fun k209=>
         if 1≤a0.2.2.1 then
          (
           if a0.2.2.1≤500 then
            (
             if 1≤a0.2.2.2 then
              k209 (decide (a0.2.2.2≤500))
             else
              k209 false
            )
           else
            k209 false
          )
         else
          k209 false
       ) (fun v208=>
        if ¬(v208=true) then
         some ((lit []),false)
        else
         (
          (g55 a0.2.2.1).bind fun v214=>
          ck ((lit [114,101,115,105,122,101,32]).size+v214.size≤9223372036854775807) <|
          ck (((lit [114,101,115,105,122,101,32])++v214).size+(lit [32]).size≤9223372036854775807) <|
          (g55 a0.2.2.2).bind fun v218=>
          ck ((((lit [114,101,115,105,122,101,32])++v214)++(lit [32])).size+v218.size≤9223372036854775807) <|
          some ((((lit [114,101,115,105,122,101,32])++v214)++(lit [32]))++v218,true)
         )
       )
      )
     else
      (
       if a0.1=1 then
        (
         ck (isBytes a0.2.1) <|
         (g34 (strOf a0.2.1)).bind fun v223=>
         if v223=true then
          (
           ck (isBytes a0.2.1) <|
           ck ((lit [116,121,112,101,32]).size+(strOf a0.2.1).size≤9223372036854775807) <|
           some ((lit [116,121,112,101,32])++(strOf a0.2.1),true)
          )
         else
          (
           if ((a0.2.1.length:Nat):Int)=0 then
            some ((lit [98,121,116,101,115]),true)
           else
            (
             (g56 a0.2.1).bind fun v229=>
             ck ((lit [98,121,116,101,115,32]).size+v229.size≤9223372036854775807) <|
             some ((lit [98,121,116,101,115,32])++v229,true)
            )
          )
        )
       else
        some ((lit []),false)
      )
    )
  )
noncomputable def k24:Eng.CS:={ f:=24,calm:=false,more:=0,ι:=(Int×List Int×Int×Int)×(ByteArray×Bool)×((Option Addr×Nat)),ok:=fun i=>g24 i.1=some i.2.1∧i.1.2.1.length≤i.2.2.2,rds:=fun i=>[(i.2.2.1,ei .u8 i.1.2.1)],args:=fun i=>[.w (.agg [.v (.int .i64 (i.1.1)),.v (.slice i.2.2.1 i.1.2.1.length i.2.2.2),.v (.int .i64 (i.1.2.2.1)),.v (.int .i64 (i.1.2.2.2))])],res:=fun _=>.bad,rn:=[],gr:=true,γ:=Unit,resG:=fun i _=>.tup [.v (.string (i.2.1.1)),bS i.2.1.2],LG:=fun i _=>[],okG:=fun i _=>True,rdsG:=fun i _=>[],fzr:=[] }
theorem k24_ok:CSOk Tryz.prog k24:=by
 refine R.cspecG Tryz.func24 (nq9 Tryz.func24) rfl rfl (fun _=>rfl) ?_
 rintro ⟨a0,r,⟨A0_1,cp0_1⟩⟩ ⟨hok,hc0_1⟩ q hrds args hargs
 obtain ⟨hR0_1,_⟩:=hrds
 dsimp only at hR0_1 hc0_1
 dsimp only [k24] at hargs ⊢
 match args,hargs with
 | [_],hargs=>
 obtain ⟨rfl,_⟩:=hargs
 refine ⟨envC [k34,k55,k56] false [(24,8)],6,envC_ok (css_cons ⟨fun _=>k34_ok,nofun⟩ (css_cons ⟨fun _=>k55_ok,nofun⟩ (css_cons ⟨fun _=>k56_ok,nofun⟩ (css_nil)))),?_⟩
 have H:Gives (g24 a0) (fun a=>a=r):=⟨r,hok,rfl⟩
 unfold g24 at H
 clear hok
 refine if_st H ?_ ?_<;>intro h202 H
 ·have hfin:=fin_st H
  first | subst hfin | rw [←hfin]
  refine ⟨(),⟨trivial⟩,⟨trivial⟩,?_⟩
  repeat refine mo1TA2 ?_
  trivial
 ·refine if_st H ?_ ?_<;>intro h203 H
  ·have hfin:=fin_st H
   first | subst hfin | rw [←hfin]
   refine ⟨(),⟨trivial⟩,⟨trivial⟩,?_⟩
   repeat refine mo1TA2 ?_
   trivial
  ·refine if_st H ?_ ?_<;>intro h204 H
   ·refine R.cut_fam H 31 [1] [] (fun v208=>[(4,bS v208)]) (fun v208=>[]) [(0,.cells 37 [.v (.int .i64 (a0.1)),.v (.slice (A0_1) (a0.2.1.length) (cp0_1)),.v (.int .i64 (a0.2.2.1)),.v (.int .i64 (a0.2.2.2))])] 0 (fun H=>?_)
    refine And.intro ?_ ?_
    ·refine if_st H ?_ ?_<;>intro h210 H
     ·refine if_st H ?_ ?_<;>intro h211 H
      ·refine if_st H ?_ ?_<;>intro h212 H
       ·refine ⟨_,⟨H⟩,⟨rfl⟩,?_⟩
        repeat refine mo1TA2 ?_
        trivial
       ·refine ⟨false,⟨H⟩,⟨rfl⟩,?_⟩
        repeat refine mo1TA2 ?_
        trivial
      ·refine ⟨false,⟨H⟩,⟨rfl⟩,?_⟩
       repeat refine mo1TA2 ?_
       trivial
     ·refine ⟨false,⟨H⟩,⟨rfl⟩,?_⟩
      repeat refine mo1TA2 ?_
      trivial
    ·intro v208 H
     refine if_st H ?_ ?_<;>intro h213 H
     ·have hfin:=fin_st H
      first | subst hfin | rw [←hfin]
      refine ⟨(),⟨trivial⟩,⟨trivial⟩,?_⟩
      repeat refine mo1TA2 ?_
      trivial
     ·refine And.intro ⟨by kernel_rfl⟩ ?_
      obtain ⟨v214,hv215,H⟩:=call_st H
      refine ⟨(a0.2.2.1,v214),⟨hv215⟩,⟨trivial⟩,?_⟩
      refine ⟨⟨rfl⟩,?_⟩
      refine ob_ck H fun h216 H=>?_
      refine ob_ck H fun h217 H=>?_
      obtain ⟨v218,hv219,H⟩:=call_st H
      refine ⟨(a0.2.2.2,v218),⟨hv219⟩,⟨trivial⟩,?_⟩
      refine ⟨⟨rfl⟩,?_⟩
      refine ob_ck H fun h220 H=>?_
      have hfin:=fin_st H
      first | subst hfin | rw [←hfin]
      refine ⟨(),⟨trivial⟩,⟨trivial⟩,?_⟩
      repeat refine mo1TA2 ?_
      trivial
   ·refine if_st H ?_ ?_<;>intro h221 H
    ·refine rs_st hR0_1 (by rw [ei_len,Nat.mul_one]) ?_
     refine ob_str (l:=a0.2.1) H fun h222 H=>?_
     obtain ⟨v223,hv224,H⟩:=call_st H
     refine ⟨(strOf a0.2.1,v223),⟨hv224⟩,⟨trivial⟩,?_⟩
     refine ⟨⟨rfl⟩,?_⟩
     refine if_st H ?_ ?_<;>intro h225 H
     ·refine rs_st hR0_1 (by rw [ei_len,Nat.mul_one]) ?_
      refine ob_str (l:=a0.2.1) H fun h226 H=>?_
      refine ob_ck H fun h227 H=>?_
      have hfin:=fin_st H
      first | subst hfin | rw [←hfin]
      refine ⟨(),⟨trivial⟩,⟨trivial⟩,?_⟩
      repeat refine mo1TA2 ?_
      trivial
     ·refine if_st H ?_ ?_<;>intro h228 H
      ·have hfin:=fin_st H
       first | subst hfin | rw [←hfin]
       refine ⟨(),⟨trivial⟩,⟨trivial⟩,?_⟩
       repeat refine mo1TA2 ?_
       trivial
      ·obtain ⟨v229,hv230,H⟩:=call_st H
       refine ⟨(a0.2.1,v229),⟨hv230⟩,⟨trivial⟩,?_⟩
       refine And.intro ⟨rfl,hc0_1,ei_len.trans ((show _=_ from rfl).trans (Nat.mul_one _).symm),hR0_1⟩ ?_
       refine ob_ck H fun h231 H=>?_
       have hfin:=fin_st H
       first | subst hfin | rw [←hfin]
       refine ⟨(),⟨trivial⟩,⟨trivial⟩,?_⟩
       repeat refine mo1TA2 ?_
       trivial
    ·have hfin:=fin_st H
     first | subst hfin | rw [←hfin]
     refine ⟨(),⟨trivial⟩,⟨trivial⟩,?_⟩
     repeat refine mo1TA2 ?_
     trivial
noncomputable def g12 (a0:List (Int×(List Int)×Int×Int)):Option (ByteArray×Int):=
 jn (α:=_) (β:=ByteArray) (fun k335=>
   (loopO (σ:=ByteArray×Int) (ρ:=(Unit) ⊕ (ByteArray)) (fun s338=>
     if s338.2<((a0.length:Nat):Int) then
      (
       ck (0≤s338.2∧s338.2<((a0.length:Nat):Int)) <|
       (g24 ((a0.getD s338.2.toNat default).1,(a0.getD s338.2.toNat default).2.1,(a0.getD s338.2.toNat default).2.2.1,(a0.getD s338.2.toNat default).2.2.2)).bind fun v399=>
       if ¬(v399.2=true) then
        some (.out (.inl (())))
       else
        (
         ck (s338.1.size+v399.1.size≤9223372036854775807) <|
         ck ((s338.1++v399.1).size+(lit [10]).size≤9223372036854775807) <|
         ck (inR .i64 (s338.2+1)) <|
         some (.go ((s338.1++v399.1)++(lit [10]),s338.2+1))
        )
      )
     else
      some (.out (.inr (s338.1)))
    ) ((lit []),0)).bind fun o386=>
   sm o386 (fun o410=>
     some ((lit []),290)
    ) (fun o411=>
     k335 o411
    )
 ) (fun v334=>
  some (v334,0)
 )
noncomputable def k12:Eng.CS:={ f:=12,calm:=false,more:=0,ι:=(List (Int×(List Int)×Int×Int))×(ByteArray×Int)×((Option Addr×Nat))×(List (Int×((Option Addr×Nat)×List Int)×Int×Int)),ok:=fun i=>g12 i.1=some i.2.1∧i.1.length≤i.2.2.1.2∧i.2.2.2.map e37=i.1∧(∀p∈i.2.2.2,cap37 p),rds:=fun i=>[(i.2.2.1.1,ec c37 i.2.2.2)]++(i.2.2.2).flatMap R37,args:=fun i=>[.w (.v (.slice i.2.2.1.1 i.1.length i.2.2.1.2))],res:=fun _=>.bad,rn:=[],gr:=true,γ:=Unit,resG:=fun i _=>.tup [.v (.string (i.2.1.1)),.v (.int .i64 (i.2.1.2))],LG:=fun i _=>[],okG:=fun i _=>True,rdsG:=fun i _=>[],fzr:=[] }
theorem k12_ok:CSOk Tryz.prog k12:=by
 refine R.cspecG Tryz.func12 (nq9 Tryz.func12) rfl rfl (fun _=>rfl) ?_
 rintro ⟨a0,r,⟨A0_0,cp0_0⟩,X0_0⟩ ⟨hok,hc0_0,hE0_0,hC0_0⟩ q hrds args hargs
 obtain ⟨hrds,hF0_0⟩:=rdsOk_app.1 hrds
 obtain ⟨hR0_0,_⟩:=hrds
 dsimp only at hR0_0 hc0_0 hC0_0 hF0_0 hE0_0
 dsimp only [k12] at hargs ⊢
 match args,hargs with
 | [_],hargs=>
 obtain ⟨rfl,_⟩:=hargs
 refine ⟨envC [k24] false [(12,9)],6,envC_ok (css_cons ⟨nofun,fun _=>k24_ok⟩ (css_nil)),?_⟩
 have H:Gives (g12 a0) (fun a=>a=r):=⟨r,hok,rfl⟩
 unfold g12 at H
 clear hok
 refine R.cut_famG H 10 [] [] [] (fun v334=>[(4,.v (.string (v334)))]) (fun v334=>[]) [] 0 (fun H=>?_)
 refine And.intro ?_ ?_
 ·refine R.loop_famG (bind_st H) [0] [] [] (fun _ s338=>[(4,.v (.string (s338.1))),(5,.v (.int .i64 (s338.2)))]) (fun _ s338=>[]) 0 (fun n412 H=>?_)
  refine ⟨(n412,_),⟨H⟩,⟨trivial⟩,?_⟩
  repeat refine mo1TA2 ?_
  rintro q337 hq336 ⟨m0,s338⟩ H _
  obtain ⟨m339,hm0,H⟩:=IG_succ H
  dsimp only at hm0
  subst hm0
  try dsimp only at H
  refine if_st H ?_ ?_<;>intro h387 H
  ·refine ob_ix (Reads.mono hq336 hR0_0) (fun h=>(er_len hE0_0).symm.trans (ec0 c37_len (by decide) h)) H fun h388 H=>?_
   have hel389:e37 (X0_0.getD s338.2.toNat default)=a0.getD s338.2.toNat default:=er_get hE0_0 (tn h388)
   have hr390:(X0_0.getD s338.2.toNat default).1=(a0.getD s338.2.toNat default).1:=congrArg (fun z=>z.1) hel389
   refine ld_int (e:=(a0.getD s338.2.toNat default).1) ((rd_get (Reads.mono hq336 hR0_0) ((ec_get (i:=s338.2.toNat) (o:=0) c37_len (Nat.lt_of_lt_of_eq (tn h388) (er_len hE0_0).symm) (by decide)).trans rfl)).trans (congrArg (fun z=>some (Value.int .i64 z)) hr390)) ?_
   have hr391:(X0_0.getD s338.2.toNat default).2.1.2=(a0.getD s338.2.toNat default).2.1:=congrArg (fun z=>z.2.1) hel389
   obtain ⟨A392,c393,hA394⟩:∃A c,(A=(X0_0.getD s338.2.toNat default).2.1.1.1∧c=(X0_0.getD s338.2.toNat default).2.1.1.2):=⟨_,_,rfl,rfl⟩
   have hR395:=rd_eq (f:=ei .u8) hr391 ((fun p hp=>P37.mono hq336 ((P37.of hF0_0 hC0_0) p hp)) _ (getD_mem (Nat.lt_of_lt_of_eq (tn h388) (er_len hE0_0).symm))).1
   rw [←hA394.1] at hR395
   have hc396:((a0.getD s338.2.toNat default).2.1).length≤c393:=by rw [hA394.2];exact Nat.le_trans (Nat.le_of_eq (congrArg List.length hr391.symm)) ((fun p hp=>P37.mono hq336 ((P37.of hF0_0 hC0_0) p hp)) _ (getD_mem (Nat.lt_of_lt_of_eq (tn h388) (er_len hE0_0).symm))).2
   refine ld_sl (A:=A392) (n:=((a0.getD s338.2.toNat default).2.1).length) (c:=c393) (by rw [hA394.1,hA394.2];exact (rd_get (Reads.mono hq336 hR0_0) ((ec_get (i:=s338.2.toNat) (o:=1) c37_len (Nat.lt_of_lt_of_eq (tn h388) (er_len hE0_0).symm) (by decide)).trans rfl)).trans (congrArg (fun z=>some (Value.slice (X0_0.getD s338.2.toNat default).2.1.1.1 z (X0_0.getD s338.2.toNat default).2.1.1.2)) (congrArg List.length hr391))) ?_
   have hr397:(X0_0.getD s338.2.toNat default).2.2.1=(a0.getD s338.2.toNat default).2.2.1:=congrArg (fun z=>z.2.2.1) hel389
   refine ld_int (e:=(a0.getD s338.2.toNat default).2.2.1) ((rd_get (Reads.mono hq336 hR0_0) ((ec_get (i:=s338.2.toNat) (o:=2) c37_len (Nat.lt_of_lt_of_eq (tn h388) (er_len hE0_0).symm) (by decide)).trans rfl)).trans (congrArg (fun z=>some (Value.int .i64 z)) hr397)) ?_
   have hr398:(X0_0.getD s338.2.toNat default).2.2.2=(a0.getD s338.2.toNat default).2.2.2:=congrArg (fun z=>z.2.2.2) hel389
   refine ld_int (e:=(a0.getD s338.2.toNat default).2.2.2) ((rd_get (Reads.mono hq336 hR0_0) ((ec_get (i:=s338.2.toNat) (o:=3) c37_len (Nat.lt_of_lt_of_eq (tn h388) (er_len hE0_0).symm) (by decide)).trans rfl)).trans (congrArg (fun z=>some (Value.int .i64 z)) hr398)) ?_
   obtain ⟨v399,hv400,H⟩:=call_st H
   refine ⟨(((a0.getD s338.2.toNat default).1,(a0.getD s338.2.toNat default).2.1,(a0.getD s338.2.toNat default).2.2.1,(a0.getD s338.2.toNat default).2.2.2),v399,(A392,c393)),⟨hv400,hc396⟩,⟨⟨hR395,trivial⟩⟩,?_⟩
   iterate 4 refine ⟨⟨rfl⟩,?_⟩
   intro q401 g402 hq403 hok404 hrd405
   refine if_st H ?_ ?_<;>intro h406 H
   ·replace H:=some_st H
    dsimp only [stp,sm] at H
    have hfin:=fin_st H
    first | subst hfin | rw [←hfin]
    refine ⟨(),⟨trivial⟩,⟨trivial⟩,?_⟩
    repeat refine mo1TA2 ?_
    trivial
   ·refine ob_ck H fun h407 H=>?_
    refine ob_ck H fun h408 H=>?_
    refine ob_ck H fun h409 H=>?_
    replace H:=some_st H
    refine ⟨(m339,((s338.1++v399.1)++(lit [10]),s338.2+1)),⟨H,Nat.lt_succ_self _⟩,⟨trivial⟩,⟨fun _ _ _ h=>(hq403 _ _ _ (hq336 _ _ _ h))⟩,?_⟩
    repeat refine mo1TA2 ?_
    trivial
  ·replace H:=some_st H
   dsimp only [stp,sm] at H
   refine ⟨s338.1,⟨H⟩,⟨fun _ _ _ h=>(hq336 _ _ _ h)⟩,?_⟩
   repeat refine mo1TA2 ?_
   trivial
 ·intro q333 hq332 v334 H
  have hfin:=fin_st H
  first | subst hfin | rw [←hfin]
  refine ⟨(),⟨trivial⟩,⟨trivial⟩,?_⟩
  repeat refine mo1TA2 ?_
  trivial
noncomputable def g20 (a0:(Int×List Int×Int×Int)):Option (ByteArray×Bool):=
 if a0.1=2 then
  some ((lit [116,105,99,107]),true)
 else
  (
   if a0.1=4 then
    some ((lit [99,108,111,115,101]),true)
   else
    (
     if a0.1=3 then
      (
       if a0.2.2.1<1 then
        some ((lit []),false)
       else
        (
         if 500<a0.2.2.1 then
          some ((lit []),false)
         else
          (
           if a0.2.2.2<1 then
            some ((lit []),false)
           else
            (
             if 500<a0.2.2.2 then
              some ((lit []),false)
             else
              (
               (g52 a0.2.2.1).bind fun v444=>
               ck ((lit [114,101,115,105,122,101,32]).size+v444.size≤9223372036854775807) <|
               ck (((lit [114,101,115,105,122,101,32])++v444).size+(lit [32]).size≤9223372036854775807) <|
               (g52 a0.2.2.2).bind fun v448=>
               ck ((((lit [114,101,115,105,122,101,32])++v444)++(lit [32])).size+v448.size≤9223372036854775807) <|
               some ((((lit [114,101,115,105,122,101,32])++v444)++(lit [32]))++v448,true)
              )
            )
          )
        )
      )
     else
      (
       if a0.1=1 then
        (
         (g53 a0.2.1).bind fun v452=>
         some (v452,true)
        )
       else
        some ((lit []),false)
      )
    )
  )
noncomputable def k20:Eng.CS:={ f:=20,calm:=false,more:=0,ι:=(Int×List Int×Int×Int)×(ByteArray×Bool)×((Option Addr×Nat)),ok:=fun i=>g20 i.1=some i.2.1∧i.1.2.1.length≤i.2.2.2,rds:=fun i=>[(i.2.2.1,ei .u8 i.1.2.1),(some ⟨2,0,none⟩,ei .u64 Lib.pow10Tab)],args:=fun i=>[.w (.agg [.v (.int .i64 (i.1.1)),.v (.slice i.2.2.1 i.1.2.1.length i.2.2.2),.v (.int .i64 (i.1.2.2.1)),.v (.int .i64 (i.1.2.2.2))])],res:=fun _=>.bad,rn:=[],gr:=true,γ:=Unit,resG:=fun i _=>.tup [.v (.string (i.2.1.1)),bS i.2.1.2],LG:=fun i _=>[],okG:=fun i _=>True,rdsG:=fun i _=>[],fzr:=[] }
theorem k20_ok:CSOk Tryz.prog k20:=by
 refine R.cspecG Tryz.func20 (nq9 Tryz.func20) rfl rfl (fun _=>rfl) ?_
 rintro ⟨a0,r,⟨A0_1,cp0_1⟩⟩ ⟨hok,hc0_1⟩ q hrds args hargs
 obtain ⟨hR0_1,hT,_⟩:=hrds
 dsimp only at hR0_1 hc0_1
 dsimp only [k20] at hargs ⊢
 match args,hargs with
 | [_],hargs=>
 obtain ⟨rfl,_⟩:=hargs
 refine ⟨envC [k52,k53] false [],6,envC_ok (css_cons ⟨fun _=>k52_ok,nofun⟩ (css_cons ⟨fun _=>k53_ok,nofun⟩ (css_nil))),?_⟩
 have H:Gives (g20 a0) (fun a=>a=r):=⟨r,hok,rfl⟩
 unfold g20 at H
 clear hok
 refine if_st H ?_ ?_<;>intro h437 H
 ·have hfin:=fin_st H
  first | subst hfin | rw [←hfin]
  refine ⟨(),⟨trivial⟩,⟨trivial⟩,?_⟩
  repeat refine mo1TA2 ?_
  trivial
 ·refine if_st H ?_ ?_<;>intro h438 H
  ·have hfin:=fin_st H
   first | subst hfin | rw [←hfin]
   refine ⟨(),⟨trivial⟩,⟨trivial⟩,?_⟩
   repeat refine mo1TA2 ?_
   trivial
  ·refine if_st H ?_ ?_<;>intro h439 H
   ·refine if_st H ?_ ?_<;>intro h440 H
    ·have hfin:=fin_st H
     first | subst hfin | rw [←hfin]
     refine ⟨(),⟨trivial⟩,⟨trivial⟩,?_⟩
     repeat refine mo1TA2 ?_
     trivial
    ·refine if_st H ?_ ?_<;>intro h441 H
     ·have hfin:=fin_st H
      first | subst hfin | rw [←hfin]
      refine ⟨(),⟨trivial⟩,⟨trivial⟩,?_⟩
      repeat refine mo1TA2 ?_
      trivial
     ·refine if_st H ?_ ?_<;>intro h442 H
      ·have hfin:=fin_st H
       first | subst hfin | rw [←hfin]
       refine ⟨(),⟨trivial⟩,⟨trivial⟩,?_⟩
       repeat refine mo1TA2 ?_
       trivial
      ·refine if_st H ?_ ?_<;>intro h443 H
       ·have hfin:=fin_st H
        first | subst hfin | rw [←hfin]
        refine ⟨(),⟨trivial⟩,⟨trivial⟩,?_⟩
        repeat refine mo1TA2 ?_
        trivial
       ·refine And.intro ⟨by kernel_rfl⟩ ?_
        obtain ⟨v444,hv445,H⟩:=call_st H
        refine ⟨(a0.2.2.1,v444),⟨hv445⟩,⟨⟨hT,trivial⟩⟩,?_⟩
        refine ⟨⟨rfl⟩,?_⟩
        refine ob_ck H fun h446 H=>?_
        refine ob_ck H fun h447 H=>?_
        obtain ⟨v448,hv449,H⟩:=call_st H
        refine ⟨(a0.2.2.2,v448),⟨hv449⟩,⟨⟨hT,trivial⟩⟩,?_⟩
        refine ⟨⟨rfl⟩,?_⟩
        refine ob_ck H fun h450 H=>?_
        have hfin:=fin_st H
        first | subst hfin | rw [←hfin]
        refine ⟨(),⟨trivial⟩,⟨trivial⟩,?_⟩
        repeat refine mo1TA2 ?_
        trivial
   ·refine if_st H ?_ ?_<;>intro h451 H
    ·obtain ⟨v452,hv453,H⟩:=call_st H
     refine ⟨(a0.2.1,v452),⟨hv453⟩,⟨trivial⟩,?_⟩
     refine And.intro ⟨rfl,hc0_1,ei_len.trans ((show _=_ from rfl).trans (Nat.mul_one _).symm),hR0_1⟩ ?_
     have hfin:=fin_st H
     first | subst hfin | rw [←hfin]
     refine ⟨(),⟨trivial⟩,⟨trivial⟩,?_⟩
     repeat refine mo1TA2 ?_
     trivial
    ·have hfin:=fin_st H
     first | subst hfin | rw [←hfin]
     refine ⟨(),⟨trivial⟩,⟨trivial⟩,?_⟩
     repeat refine mo1TA2 ?_
     trivial
noncomputable def g11 (a0:List (Int×(List Int)×Int×Int)):Option (ByteArray×Int):=
 jn (α:=_) (β:=List Int) (fun k612=>
   (loopO (σ:=List Int×Int) (ρ:=(List Int) ⊕ (List Int)) (fun s615=>
     if s615.2<((a0.length:Nat):Int) then
      (
       ck (0≤s615.2∧s615.2<((a0.length:Nat):Int)) <|
       (g20 ((a0.getD s615.2.toNat default).1,(a0.getD s615.2.toNat default).2.1,(a0.getD s615.2.toNat default).2.2.1,(a0.getD s615.2.toNat default).2.2.2)).bind fun v700=>
       if ¬(v700.2=true) then
        some (.out (.inl (s615.1)))
       else
        (
         (g54 s615.1).bind fun v708=>
         ck (v708.length+v700.1.size≤140737488355328) <|
         (g54 (v708++bytesOf v700.1)).bind fun v715=>
         ck ((v715.length+1) * 1≤140737488355328) <|
         ck (inR .i64 (s615.2+1)) <|
         some (.go ((v715++[10]),s615.2+1))
        )
      )
     else
      some (.out (.inr (s615.1)))
    ) ([],0)).bind fun o687=>
   sm o687 (fun o723=>
     some ((lit []),290)
    ) (fun o724=>
     k612 o724
    )
 ) (fun v611=>
  (g23 v611).bind fun v726=>
  some (v726,0)
 )
noncomputable def k11:Eng.CS:={ f:=11,calm:=false,more:=0,ι:=(List (Int×(List Int)×Int×Int))×(ByteArray×Int)×((Option Addr×Nat))×(List (Int×((Option Addr×Nat)×List Int)×Int×Int)),ok:=fun i=>g11 i.1=some i.2.1∧i.1.length≤i.2.2.1.2∧i.2.2.2.map e37=i.1∧(∀p∈i.2.2.2,cap37 p),rds:=fun i=>[(i.2.2.1.1,ec c37 i.2.2.2),(some ⟨2,0,none⟩,ei .u64 Lib.pow10Tab)]++(i.2.2.2).flatMap R37,args:=fun i=>[.w (.v (.slice i.2.2.1.1 i.1.length i.2.2.1.2))],res:=fun _=>.bad,rn:=[],gr:=true,γ:=Unit,resG:=fun i _=>.tup [.v (.string (i.2.1.1)),.v (.int .i64 (i.2.1.2))],LG:=fun i _=>[],okG:=fun i _=>True,rdsG:=fun i _=>[],fzr:=[] }
theorem k11_ok:CSOk Tryz.prog k11:=by
 refine R.cspecG Tryz.func11 (nq9 Tryz.func11) rfl rfl (fun _=>rfl) ?_
 rintro ⟨a0,r,⟨A0_0,cp0_0⟩,X0_0⟩ ⟨hok,hc0_0,hE0_0,hC0_0⟩ q hrds args hargs
 obtain ⟨hrds,hF0_0⟩:=rdsOk_app.1 hrds
 obtain ⟨hR0_0,hT,_⟩:=hrds
 dsimp only at hR0_0 hc0_0 hC0_0 hF0_0 hE0_0
 dsimp only [k11] at hargs ⊢
 match args,hargs with
 | [_],hargs=>
 obtain ⟨rfl,_⟩:=hargs
 refine ⟨envC [k20,k23,k54] false [(11,11)],6,envC_ok (css_cons ⟨nofun,fun _=>k20_ok⟩ (css_cons ⟨nofun,fun _=>k23_ok⟩ (css_cons ⟨nofun,fun _=>k54_ok⟩ (css_nil)))),?_⟩
 have H:Gives (g11 a0) (fun a=>a=r):=⟨r,hok,rfl⟩
 unfold g11 at H
 clear hok
 refine R.cut_famG H 12 [4] [] [] (fun v611=>[]) (fun v611=>[(2,.cells 74 [.lq 2,.own 12]),(12,.arr 5 1 (v611.length) (ei .u8 (v611)))]) [] 1 (fun H=>?_)
 refine And.intro ?_ ?_
 ·refine R.loop_famG (bind_st H) [4,9,10] [(100002,1,5,1)] [] (fun _ s615=>[(11,.v (.int .i64 (s615.2)))]) (fun _ s615=>[(2,.cells 74 [.lq 2,.own 7]),(7,.arr 5 1 (s615.1.length) (ei .u8 (s615.1)))]) 1 (fun n725 H=>?_)
  refine ⟨(n725,_),⟨H⟩,⟨trivial⟩,?_⟩
  repeat refine mo1TA2 ?_
  rintro q614 hq613 ⟨m0,s615⟩ H _
  obtain ⟨m616,hm0,H⟩:=IG_succ H
  dsimp only at hm0
  subst hm0
  try dsimp only at H
  refine if_st H ?_ ?_<;>intro h688 H
  ·refine ob_ix (Reads.mono hq613 hR0_0) (fun h=>(er_len hE0_0).symm.trans (ec0 c37_len (by decide) h)) H fun h689 H=>?_
   have hel690:e37 (X0_0.getD s615.2.toNat default)=a0.getD s615.2.toNat default:=er_get hE0_0 (tn h689)
   have hr691:(X0_0.getD s615.2.toNat default).1=(a0.getD s615.2.toNat default).1:=congrArg (fun z=>z.1) hel690
   refine ld_int (e:=(a0.getD s615.2.toNat default).1) ((rd_get (Reads.mono hq613 hR0_0) ((ec_get (i:=s615.2.toNat) (o:=0) c37_len (Nat.lt_of_lt_of_eq (tn h689) (er_len hE0_0).symm) (by decide)).trans rfl)).trans (congrArg (fun z=>some (Value.int .i64 z)) hr691)) ?_
   have hr692:(X0_0.getD s615.2.toNat default).2.1.2=(a0.getD s615.2.toNat default).2.1:=congrArg (fun z=>z.2.1) hel690
   obtain ⟨A693,c694,hA695⟩:∃A c,(A=(X0_0.getD s615.2.toNat default).2.1.1.1∧c=(X0_0.getD s615.2.toNat default).2.1.1.2):=⟨_,_,rfl,rfl⟩
   have hR696:=rd_eq (f:=ei .u8) hr692 ((fun p hp=>P37.mono hq613 ((P37.of hF0_0 hC0_0) p hp)) _ (getD_mem (Nat.lt_of_lt_of_eq (tn h689) (er_len hE0_0).symm))).1
   rw [←hA695.1] at hR696
   have hc697:((a0.getD s615.2.toNat default).2.1).length≤c694:=by rw [hA695.2];exact Nat.le_trans (Nat.le_of_eq (congrArg List.length hr692.symm)) ((fun p hp=>P37.mono hq613 ((P37.of hF0_0 hC0_0) p hp)) _ (getD_mem (Nat.lt_of_lt_of_eq (tn h689) (er_len hE0_0).symm))).2
   refine ld_sl (A:=A693) (n:=((a0.getD s615.2.toNat default).2.1).length) (c:=c694) (by rw [hA695.1,hA695.2];exact (rd_get (Reads.mono hq613 hR0_0) ((ec_get (i:=s615.2.toNat) (o:=1) c37_len (Nat.lt_of_lt_of_eq (tn h689) (er_len hE0_0).symm) (by decide)).trans rfl)).trans (congrArg (fun z=>some (Value.slice (X0_0.getD s615.2.toNat default).2.1.1.1 z (X0_0.getD s615.2.toNat default).2.1.1.2)) (congrArg List.length hr692))) ?_
   have hr698:(X0_0.getD s615.2.toNat default).2.2.1=(a0.getD s615.2.toNat default).2.2.1:=congrArg (fun z=>z.2.2.1) hel690
   refine ld_int (e:=(a0.getD s615.2.toNat default).2.2.1) ((rd_get (Reads.mono hq613 hR0_0) ((ec_get (i:=s615.2.toNat) (o:=2) c37_len (Nat.lt_of_lt_of_eq (tn h689) (er_len hE0_0).symm) (by decide)).trans rfl)).trans (congrArg (fun z=>some (Value.int .i64 z)) hr698)) ?_
   have hr699:(X0_0.getD s615.2.toNat default).2.2.2=(a0.getD s615.2.toNat default).2.2.2:=congrArg (fun z=>z.2.2.2) hel690
   refine ld_int (e:=(a0.getD s615.2.toNat default).2.2.2) ((rd_get (Reads.mono hq613 hR0_0) ((ec_get (i:=s615.2.toNat) (o:=3) c37_len (Nat.lt_of_lt_of_eq (tn h689) (er_len hE0_0).symm) (by decide)).trans rfl)).trans (congrArg (fun z=>some (Value.int .i64 z)) hr699)) ?_
   obtain ⟨v700,hv701,H⟩:=call_st H
   refine ⟨(((a0.getD s615.2.toNat default).1,(a0.getD s615.2.toNat default).2.1,(a0.getD s615.2.toNat default).2.2.1,(a0.getD s615.2.toNat default).2.2.2),v700,(A693,c694)),⟨hv701,hc697⟩,⟨⟨hR696,(Reads.mono hq613 hT),trivial⟩⟩,?_⟩
   iterate 4 refine ⟨⟨rfl⟩,?_⟩
   intro q702 g703 hq704 hok705 hrd706
   refine if_st H ?_ ?_<;>intro h707 H
   ·replace H:=some_st H
    dsimp only [stp,sm] at H
    have hfin:=fin_st H
    first | subst hfin | rw [←hfin]
    refine ⟨(),⟨trivial⟩,⟨trivial⟩,?_⟩
    repeat refine mo1TA2 ?_
    trivial
   ·obtain ⟨v708,hv709,H⟩:=call_st H
    refine ⟨(s615.1,v708),⟨hv709⟩,⟨trivial⟩,?_⟩
    refine ⟨⟨rfl⟩,?_⟩
    refine mo1TA2 ?_
    refine ob_ck H fun h710 H=>?_
    intro n711 zs713 hn712 hz714
    obtain rfl:n711=(v708++bytesOf v700.1).length:=hn712.trans (len_appS (xs:=v708) (s:=v700.1))
    obtain rfl:zs713=ei .u8 (v708++bytesOf v700.1):=hz714.trans (ei_appS (xs:=v708) (s:=v700.1))
    obtain ⟨v715,hv716,H⟩:=call_st H
    refine ⟨((v708++bytesOf v700.1),v715),⟨hv716⟩,⟨trivial⟩,?_⟩
    refine ⟨⟨rfl⟩,?_⟩
    refine mo1TA2 ?_
    refine ob_app (by decide) (by first | exact ei_one | ((repeat (refine List.forall_mem_cons.2 ⟨rfl,?_⟩));intro y hy;cases hy;done) | (intro y hy;simp [ei,eb,es,ec,c37] at hy;(first | (rcases hy with rfl | hy) | subst hy | skip);all_goals first | rfl | simp_all [Value.oneCell'])) H fun h717 H=>?_
    intro n718 zs720 hn719 hz721
    obtain rfl:n718=(v715++[10]).length:=hn719.trans (by first | exact List.length_append.symm | (simp;done) | (simp;omega))
    obtain rfl:zs720=ei .u8 (v715++[10]):=by first | exact hz721.trans (ei_app (xs:=v715) (ys:=([10]))).symm | (rw [hz721,ei_vw];first | exact ei_app.symm | exact (ei_app (xs:=v715)).symm) | (rw [hz721];simp [ei,eb,es,ec,c37])
    refine ob_ck H fun h722 H=>?_
    replace H:=some_st H
    refine ⟨(m616,((v715++[10]),s615.2+1)),⟨H,Nat.lt_succ_self _⟩,⟨trivial⟩,⟨fun _ _ _ h=>(hq704 _ _ _ (hq613 _ _ _ h))⟩,?_⟩
    repeat refine mo1TA2 ?_
    trivial
  ·replace H:=some_st H
   dsimp only [stp,sm] at H
   refine ⟨s615.1,⟨H⟩,⟨fun _ _ _ h=>(hq613 _ _ _ h)⟩,?_⟩
   repeat refine mo1TA2 ?_
   trivial
 ·intro q610 hq609 v611 H
  obtain ⟨v726,hv727,H⟩:=call_st H
  refine ⟨(v611,v726),⟨hv727⟩,⟨trivial⟩,?_⟩
  refine ⟨⟨rfl⟩,?_⟩
  refine mo1TA2 ?_
  have hfin:=fin_st H
  first | subst hfin | rw [←hfin]
  refine ⟨(),⟨trivial⟩,⟨trivial⟩,?_⟩
  repeat refine mo1TA2 ?_
  trivial
noncomputable def g16 (a0:(Int×List Int×Int×Int)) (a1:(Int×List Int×Int×Int)):Option (Bool):=
 if ¬a0.1=a1.1 then
  some false
 else
  (
   if a0.1=3 then
    (
     if a0.2.2.1=a1.2.2.1 then
      some (decide (a0.2.2.2=a1.2.2.2))
     else
      some false
    )
   else
    (
     if ¬a0.1=1 then
      some true
     else
      (
       ck (isBytes a0.2.1) <|
       ck (isBytes a1.2.1) <|
       some (decide ((strOf a0.2.1).data.toList=(strOf a1.2.1).data.toList))
      )
    )
  )
noncomputable def k16:Eng.CS:={ f:=16,calm:=false,more:=0,ι:=(Int×List Int×Int×Int)×(Int×List Int×Int×Int)×Bool×((Option Addr×Nat)×(Option Addr×Nat)),ok:=fun i=>g16 i.1 i.2.1=some i.2.2.1∧i.1.2.1.length≤i.2.2.2.1.2∧i.2.1.2.1.length≤i.2.2.2.2.2,rds:=fun i=>[(i.2.2.2.1.1,ei .u8 i.1.2.1),(i.2.2.2.2.1,ei .u8 i.2.1.2.1)],args:=fun i=>[.w (.agg [.v (.int .i64 (i.1.1)),.v (.slice i.2.2.2.1.1 i.1.2.1.length i.2.2.2.1.2),.v (.int .i64 (i.1.2.2.1)),.v (.int .i64 (i.1.2.2.2))]),.w (.agg [.v (.int .i64 (i.2.1.1)),.v (.slice i.2.2.2.2.1 i.2.1.2.1.length i.2.2.2.2.2),.v (.int .i64 (i.2.1.2.2.1)),.v (.int .i64 (i.2.1.2.2.2))])],res:=fun _=>.bad,rn:=[],gr:=true,γ:=Unit,resG:=fun i _=>bS i.2.2.1,LG:=fun i _=>[],okG:=fun i _=>True,rdsG:=fun i _=>[],fzr:=[] }
theorem k16_ok:CSOk Tryz.prog k16:=by
 refine R.cspecG Tryz.func16 (nq9 Tryz.func16) rfl rfl (fun _=>rfl) ?_
 rintro ⟨a0,a1,r,⟨⟨A0_1,cp0_1⟩,⟨A1_1,cp1_1⟩⟩⟩ ⟨hok,hc0_1,hc1_1⟩ q hrds args hargs
 obtain ⟨hR0_1,hR1_1,_⟩:=hrds
 dsimp only at hR0_1 hc0_1 hR1_1 hc1_1
 dsimp only [k16] at hargs ⊢
 match args,hargs with
 | [_,_],hargs=>
 obtain ⟨rfl,rfl,_⟩:=hargs
 refine ⟨envC [] false [],6,envC_ok (css_nil),?_⟩
 have H:Gives (g16 a0 a1) (fun a=>a=r):=⟨r,hok,rfl⟩
 unfold g16 at H
 clear hok
 refine if_st H ?_ ?_<;>intro h729 H
 ·have hfin:=fin_st H
  first | subst hfin | rw [←hfin]
  refine ⟨(),⟨trivial⟩,⟨trivial⟩,?_⟩
  repeat refine mo1TA2 ?_
  trivial
 ·refine if_st H ?_ ?_<;>intro h732 H
  ·refine if_st H ?_ ?_<;>intro h733 H
   ·have hfin:=fin_st H
    first | subst hfin | rw [←hfin]
    refine ⟨(),⟨trivial⟩,⟨trivial⟩,?_⟩
    repeat refine mo1TA2 ?_
    trivial
   ·have hfin:=fin_st H
    first | subst hfin | rw [←hfin]
    refine ⟨(),⟨trivial⟩,⟨trivial⟩,?_⟩
    repeat refine mo1TA2 ?_
    trivial
  ·refine if_st H ?_ ?_<;>intro h734 H
   ·have hfin:=fin_st H
    first | subst hfin | rw [←hfin]
    refine ⟨(),⟨trivial⟩,⟨trivial⟩,?_⟩
    repeat refine mo1TA2 ?_
    trivial
   ·refine rs_st hR0_1 (by rw [ei_len,Nat.mul_one]) ?_
    refine ob_str (l:=a0.2.1) H fun h735 H=>?_
    refine rs_st hR1_1 (by rw [ei_len,Nat.mul_one]) ?_
    refine ob_str (l:=a1.2.1) H fun h736 H=>?_
    have hfin:=fin_st H
    first | subst hfin | rw [←hfin]
    refine ⟨(),⟨trivial⟩,⟨trivial⟩,?_⟩
    repeat refine mo1TA2 ?_
    trivial
noncomputable def g8 (a0:List (Int×(List Int)×Int×Int)) (a1:List (Int×(List Int)×Int×Int)):Option (Bool):=
 if ¬((a0.length:Nat):Int)=((a1.length:Nat):Int) then
  some false
 else
  (
   jn (α:=_) (β:=Unit) (fun k877=>
     (loopO (σ:=Int) (ρ:=(Unit) ⊕ (Unit)) (fun s880=>
       if s880<((a0.length:Nat):Int) then
        (
         ck (0≤s880∧s880<((a0.length:Nat):Int)) <|
         ck (0≤s880∧s880<((a1.length:Nat):Int)) <|
         (g16 ((a0.getD s880.toNat default).1,(a0.getD s880.toNat default).2.1,(a0.getD s880.toNat default).2.2.1,(a0.getD s880.toNat default).2.2.2) ((a1.getD s880.toNat default).1,(a1.getD s880.toNat default).2.1,(a1.getD s880.toNat default).2.2.1,(a1.getD s880.toNat default).2.2.2)).bind fun v970=>
         if ¬(v970=true) then
          some (.out (.inl (())))
         else
          (
           ck (inR .i64 (s880+1)) <|
           some (.go (s880+1))
          )
        )
       else
        some (.out (.inr (())))
      ) 0).bind fun o946=>
     sm o946 (fun o979=>
       some false
      ) (fun o980=>
       k877 ()
      )
   ) (fun v876=>
    some true
   )
  )
noncomputable def k8:Eng.CS:={ f:=8,calm:=false,more:=0,ι:=(List (Int×(List Int)×Int×Int))×(List (Int×(List Int)×Int×Int))×Bool×((Option Addr×Nat)×(Option Addr×Nat))×(List (Int×((Option Addr×Nat)×List Int)×Int×Int)×List (Int×((Option Addr×Nat)×List Int)×Int×Int)),ok:=fun i=>g8 i.1 i.2.1=some i.2.2.1∧i.1.length≤i.2.2.2.1.1.2∧i.2.1.length≤i.2.2.2.1.2.2∧i.2.2.2.2.1.map e37=i.1∧(∀p∈i.2.2.2.2.1,cap37 p)∧i.2.2.2.2.2.map e37=i.2.1∧(∀p∈i.2.2.2.2.2,cap37 p),rds:=fun i=>[(i.2.2.2.1.1.1,ec c37 i.2.2.2.2.1),(i.2.2.2.1.2.1,ec c37 i.2.2.2.2.2)]++(i.2.2.2.2.1).flatMap R37++(i.2.2.2.2.2).flatMap R37,args:=fun i=>[.w (.v (.slice i.2.2.2.1.1.1 i.1.length i.2.2.2.1.1.2)),.w (.v (.slice i.2.2.2.1.2.1 i.2.1.length i.2.2.2.1.2.2))],res:=fun _=>.bad,rn:=[],gr:=true,γ:=Unit,resG:=fun i _=>bS i.2.2.1,LG:=fun i _=>[],okG:=fun i _=>True,rdsG:=fun i _=>[],fzr:=[] }
theorem k8_ok:CSOk Tryz.prog k8:=by
 refine R.cspecG Tryz.func8 (nq9 Tryz.func8) rfl rfl (fun _=>rfl) ?_
 rintro ⟨a0,a1,r,⟨⟨A0_0,cp0_0⟩,⟨A1_0,cp1_0⟩⟩,⟨X0_0,X1_0⟩⟩ ⟨hok,hc0_0,hc1_0,hE0_0,hC0_0,hE1_0,hC1_0⟩ q hrds args hargs
 obtain ⟨hrds,hF1_0⟩:=rdsOk_app.1 hrds
 obtain ⟨hrds,hF0_0⟩:=rdsOk_app.1 hrds
 obtain ⟨hR0_0,hR1_0,_⟩:=hrds
 dsimp only at hR0_0 hc0_0 hR1_0 hc1_0 hC0_0 hF0_0 hE0_0 hC1_0 hF1_0 hE1_0
 dsimp only [k8] at hargs ⊢
 match args,hargs with
 | [_,_],hargs=>
 obtain ⟨rfl,rfl,_⟩:=hargs
 refine ⟨envC [k16] false [(8,8)],6,envC_ok (css_cons ⟨nofun,fun _=>k16_ok⟩ (css_nil)),?_⟩
 have H:Gives (g8 a0 a1) (fun a=>a=r):=⟨r,hok,rfl⟩
 unfold g8 at H
 clear hok
 refine if_st H ?_ ?_<;>intro h738 H
 ·have hfin:=fin_st H
  first | subst hfin | rw [←hfin]
  refine ⟨(),⟨trivial⟩,⟨trivial⟩,?_⟩
  repeat refine mo1TA2 ?_
  trivial
 ·refine R.cut_famG H 13 [] [] [] (fun v876=>[]) (fun v876=>[]) [] 0 (fun H=>?_)
  refine And.intro ?_ ?_
  ·refine R.loop_famG (bind_st H) [0,1] [] [] (fun _ s880=>[(5,.v (.int .i64 (s880)))]) (fun _ s880=>[]) 0 (fun n981 H=>?_)
   refine ⟨(n981,_),⟨H⟩,⟨trivial⟩,?_⟩
   repeat refine mo1TA2 ?_
   rintro q879 hq878 ⟨m0,s880⟩ H _
   obtain ⟨m881,hm0,H⟩:=IG_succ H
   dsimp only at hm0
   subst hm0
   try dsimp only at H
   refine if_st H ?_ ?_<;>intro h947 H
   ·refine And.intro ⟨by kernel_rfl⟩ ?_
    refine ⟨(Pn.calm 0 (Pn.calm 1 (Pn.calm 2 (Pn.calm 3 (Pn.calm 4 (Pn.calm 5 (Pn.calm 6 (Pn.calm 7 (Pn.eff 8 [3,7,2,6,0,1,4,5] (Pn.calm 9 Pn.done) Pn.no))))))))),⟨by kernel_rfl⟩,?_⟩
    refine ob_ix (Reads.mono hq878 hR0_0) (fun h=>(er_len hE0_0).symm.trans (ec0 c37_len (by decide) h)) H fun h948 H=>?_
    have hel949:e37 (X0_0.getD s880.toNat default)=a0.getD s880.toNat default:=er_get hE0_0 (tn h948)
    have hr950:(X0_0.getD s880.toNat default).1=(a0.getD s880.toNat default).1:=congrArg (fun z=>z.1) hel949
    refine ld_int (e:=(a0.getD s880.toNat default).1) ((rd_get (Reads.mono hq878 hR0_0) ((ec_get (i:=s880.toNat) (o:=0) c37_len (Nat.lt_of_lt_of_eq (tn h948) (er_len hE0_0).symm) (by decide)).trans rfl)).trans (congrArg (fun z=>some (Value.int .i64 z)) hr950)) ?_
    have hr951:(X0_0.getD s880.toNat default).2.1.2=(a0.getD s880.toNat default).2.1:=congrArg (fun z=>z.2.1) hel949
    obtain ⟨A952,c953,hA954⟩:∃A c,(A=(X0_0.getD s880.toNat default).2.1.1.1∧c=(X0_0.getD s880.toNat default).2.1.1.2):=⟨_,_,rfl,rfl⟩
    have hR955:=rd_eq (f:=ei .u8) hr951 ((fun p hp=>P37.mono hq878 ((P37.of hF0_0 hC0_0) p hp)) _ (getD_mem (Nat.lt_of_lt_of_eq (tn h948) (er_len hE0_0).symm))).1
    rw [←hA954.1] at hR955
    have hc956:((a0.getD s880.toNat default).2.1).length≤c953:=by rw [hA954.2];exact Nat.le_trans (Nat.le_of_eq (congrArg List.length hr951.symm)) ((fun p hp=>P37.mono hq878 ((P37.of hF0_0 hC0_0) p hp)) _ (getD_mem (Nat.lt_of_lt_of_eq (tn h948) (er_len hE0_0).symm))).2
    refine ld_sl (A:=A952) (n:=((a0.getD s880.toNat default).2.1).length) (c:=c953) (by rw [hA954.1,hA954.2];exact (rd_get (Reads.mono hq878 hR0_0) ((ec_get (i:=s880.toNat) (o:=1) c37_len (Nat.lt_of_lt_of_eq (tn h948) (er_len hE0_0).symm) (by decide)).trans rfl)).trans (congrArg (fun z=>some (Value.slice (X0_0.getD s880.toNat default).2.1.1.1 z (X0_0.getD s880.toNat default).2.1.1.2)) (congrArg List.length hr951))) ?_
    have hr957:(X0_0.getD s880.toNat default).2.2.1=(a0.getD s880.toNat default).2.2.1:=congrArg (fun z=>z.2.2.1) hel949
    refine ld_int (e:=(a0.getD s880.toNat default).2.2.1) ((rd_get (Reads.mono hq878 hR0_0) ((ec_get (i:=s880.toNat) (o:=2) c37_len (Nat.lt_of_lt_of_eq (tn h948) (er_len hE0_0).symm) (by decide)).trans rfl)).trans (congrArg (fun z=>some (Value.int .i64 z)) hr957)) ?_
    have hr958:(X0_0.getD s880.toNat default).2.2.2=(a0.getD s880.toNat default).2.2.2:=congrArg (fun z=>z.2.2.2) hel949
    refine ld_int (e:=(a0.getD s880.toNat default).2.2.2) ((rd_get (Reads.mono hq878 hR0_0) ((ec_get (i:=s880.toNat) (o:=3) c37_len (Nat.lt_of_lt_of_eq (tn h948) (er_len hE0_0).symm) (by decide)).trans rfl)).trans (congrArg (fun z=>some (Value.int .i64 z)) hr958)) ?_
    refine ob_ix (Reads.mono hq878 hR1_0) (fun h=>(er_len hE1_0).symm.trans (ec0 c37_len (by decide) h)) H fun h959 H=>?_
    have hel960:e37 (X1_0.getD s880.toNat default)=a1.getD s880.toNat default:=er_get hE1_0 (tn h959)
    have hr961:(X1_0.getD s880.toNat default).1=(a1.getD s880.toNat default).1:=congrArg (fun z=>z.1) hel960
    refine ld_int (e:=(a1.getD s880.toNat default).1) ((rd_get (Reads.mono hq878 hR1_0) ((ec_get (i:=s880.toNat) (o:=0) c37_len (Nat.lt_of_lt_of_eq (tn h959) (er_len hE1_0).symm) (by decide)).trans rfl)).trans (congrArg (fun z=>some (Value.int .i64 z)) hr961)) ?_
    have hr962:(X1_0.getD s880.toNat default).2.1.2=(a1.getD s880.toNat default).2.1:=congrArg (fun z=>z.2.1) hel960
    obtain ⟨A963,c964,hA965⟩:∃A c,(A=(X1_0.getD s880.toNat default).2.1.1.1∧c=(X1_0.getD s880.toNat default).2.1.1.2):=⟨_,_,rfl,rfl⟩
    have hR966:=rd_eq (f:=ei .u8) hr962 ((fun p hp=>P37.mono hq878 ((P37.of hF1_0 hC1_0) p hp)) _ (getD_mem (Nat.lt_of_lt_of_eq (tn h959) (er_len hE1_0).symm))).1
    rw [←hA965.1] at hR966
    have hc967:((a1.getD s880.toNat default).2.1).length≤c964:=by rw [hA965.2];exact Nat.le_trans (Nat.le_of_eq (congrArg List.length hr962.symm)) ((fun p hp=>P37.mono hq878 ((P37.of hF1_0 hC1_0) p hp)) _ (getD_mem (Nat.lt_of_lt_of_eq (tn h959) (er_len hE1_0).symm))).2
    refine ld_sl (A:=A963) (n:=((a1.getD s880.toNat default).2.1).length) (c:=c964) (by rw [hA965.1,hA965.2];exact (rd_get (Reads.mono hq878 hR1_0) ((ec_get (i:=s880.toNat) (o:=1) c37_len (Nat.lt_of_lt_of_eq (tn h959) (er_len hE1_0).symm) (by decide)).trans rfl)).trans (congrArg (fun z=>some (Value.slice (X1_0.getD s880.toNat default).2.1.1.1 z (X1_0.getD s880.toNat default).2.1.1.2)) (congrArg List.length hr962))) ?_
    have hr968:(X1_0.getD s880.toNat default).2.2.1=(a1.getD s880.toNat default).2.2.1:=congrArg (fun z=>z.2.2.1) hel960
    refine ld_int (e:=(a1.getD s880.toNat default).2.2.1) ((rd_get (Reads.mono hq878 hR1_0) ((ec_get (i:=s880.toNat) (o:=2) c37_len (Nat.lt_of_lt_of_eq (tn h959) (er_len hE1_0).symm) (by decide)).trans rfl)).trans (congrArg (fun z=>some (Value.int .i64 z)) hr968)) ?_
    have hr969:(X1_0.getD s880.toNat default).2.2.2=(a1.getD s880.toNat default).2.2.2:=congrArg (fun z=>z.2.2.2) hel960
    refine ld_int (e:=(a1.getD s880.toNat default).2.2.2) ((rd_get (Reads.mono hq878 hR1_0) ((ec_get (i:=s880.toNat) (o:=3) c37_len (Nat.lt_of_lt_of_eq (tn h959) (er_len hE1_0).symm) (by decide)).trans rfl)).trans (congrArg (fun z=>some (Value.int .i64 z)) hr969)) ?_
    refine And.intro ?_ trivial
    obtain ⟨v970,hv971,H⟩:=call_st H
    refine ⟨(((a0.getD s880.toNat default).1,(a0.getD s880.toNat default).2.1,(a0.getD s880.toNat default).2.2.1,(a0.getD s880.toNat default).2.2.2),((a1.getD s880.toNat default).1,(a1.getD s880.toNat default).2.1,(a1.getD s880.toNat default).2.2.1,(a1.getD s880.toNat default).2.2.2),v970,((A952,c953),(A963,c964))),⟨hv971,hc956,hc967⟩,⟨⟨hR955,hR966,trivial⟩⟩,?_⟩
    iterate 8 refine ⟨⟨rfl⟩,?_⟩
    intro q972 g973 hq974 hok975 hrd976
    refine And.intro ⟨fun _ _ _ h=>(hq974 _ _ _ h)⟩ ?_
    refine if_st H ?_ ?_<;>intro h977 H
    ·replace H:=some_st H
     dsimp only [stp,sm] at H
     have hfin:=fin_st H
     first | subst hfin | rw [←hfin]
     refine ⟨(),⟨trivial⟩,⟨trivial⟩,?_⟩
     repeat refine mo1TA2 ?_
     trivial
    ·refine ob_ck H fun h978 H=>?_
     replace H:=some_st H
     refine ⟨(m881,s880+1),⟨H,Nat.lt_succ_self _⟩,⟨trivial⟩,⟨fun _ _ _ h=>(hq974 _ _ _ (hq878 _ _ _ h))⟩,?_⟩
     repeat refine mo1TA2 ?_
     trivial
   ·replace H:=some_st H
    dsimp only [stp,sm] at H
    refine ⟨(),⟨H⟩,⟨fun _ _ _ h=>(hq878 _ _ _ h)⟩,?_⟩
    repeat refine mo1TA2 ?_
    trivial
  ·intro q875 hq874 v876 H
   have hfin:=fin_st H
   first | subst hfin | rw [←hfin]
   refine ⟨(),⟨trivial⟩,⟨trivial⟩,?_⟩
   repeat refine mo1TA2 ?_
   trivial
end Go.Proofs.YticmemgehllacaaGreatDoor
end
section
namespace Go.Eng
open Go Go.RowKit
namespace Exe
noncomputable section
theorem fVal_eq (x:Value) (K:Value→Prop):fVal x K=K x:=by cases x<;>rfl
theorem fSV0_eq' (x:SV) (K:SV→Prop):fSV0 x K=K x:=by
 cases x<;>first | rfl | exact fVal_eq _ _ | (rename_i b;cases b<;>rfl)
theorem fSVL_eq':∀(l:List SV) (K:List SV→Prop),fSVL l K=K l
 | [],K=>rfl
 | x::r,K=>by rw [fSVL_c,fSV0_eq',fSVL_eq' r]
theorem fSV_eq' (x:SV) (K:SV→Prop):fSV x K=K x:=by
 cases x<;>first | rfl | exact fVal_eq _ _ | exact fSVL_eq' _ _ | (rename_i b;cases b<;>rfl)
def tru:SV→Option Bool
 | .bb b=>some b
 | .b p d=>some (@decide p d)
 | _=>none
def xar (wr:Bool) (k:IntKind) (n:Int):SV:=.v (.int k (k.wrap n))
def xint (op:BinOp) (k:IntKind) (a b:Int):Option SV:=
 match op with
 | .add=>some (xar true k (a+b))
 | .sub=>some (xar true k (a-b))
 | .mul=>some (xar true k (a * b))
 | .quo=>(match decide (b=0) with | true=>none | false=>some (xar true k (a.tdiv b)))
 | .rem=>(match decide (b=0) with | true=>none | false=>some (.v (.int k (a.tmod b))))
 | .and=>some (.v (.int k (bits .and k a b)))
 | .or=>some (.v (.int k (bits .or k a b)))
 | .xor=>some (.v (.int k (bits .xor k a b)))
 | .eql=>some (.b (a=b) (Int.instDecidableEq a b))
 | .neq=>some (.b (¬a=b) (@instDecidableNot _ (Int.instDecidableEq a b)))
 | .lss=>some (.b (a<b) (Int.decLt a b))
 | .leq=>some (.b (a≤b) (Int.decLe a b))
 | .gtr=>some (.b (b<a) (Int.decLt b a))
 | .geq=>some (.b (b≤a) (Int.decLe b a))
 | _=>none
theorem xint_ok {op:BinOp} {k:IntKind} {a b:Int} {y:SV} (h:xint op k a b=some y) {K:SV→Prop} (hK:K y):intK op true k a b K:=by
  cases op<;>simp only [xint] at h<;>simp only [intK,arK]<;>first
    | (cases h;exact hK)
    | (split at h
       · cases h
       · rename_i e;cases h;exact ⟨⟨of_decide_eq_false e⟩,hK⟩)
    | cases h
def xsh (op:BinOp) (k:IntKind) (a b:Int):Option SV:=
 match op with
 | .shl=>(match decide (0≤b∧b≤k.bits) with | true=>some (.v (.int k (k.wrap (a * 2 ^ b.toNat)))) | false=>none)
 | .shr=>(match decide (0≤b∧b≤k.bits) with | true=>some (.v (.int k (a / 2 ^ b.toNat))) | false=>none)
 | _=>none
theorem xsh_ok {op:BinOp} {k:IntKind} {a b:Int} {y:SV} (h:xsh op k a b=some y) {K:SV→Prop} (hK:K y):shK op k a b K:=by
  cases op<;>simp only [xsh] at h<;>simp only [shK]<;>first
    | (split at h
       · rename_i e;cases h;exact ⟨⟨of_decide_eq_true e⟩,hK⟩
       · cases h)
    | cases h
def xstr (op:BinOp) (a b:ByteArray):Option SV:=
 match op with
 | .add=>(match decide (a.size+b.size≤9223372036854775807) with | true=>some (.v (.string (a++b))) | false=>none)
 | .eql=>some (.b (a.data.toList=b.data.toList) (decStr a b))
 | .neq=>some (.b (¬a.data.toList=b.data.toList) (@instDecidableNot _ (decStr a b)))
 | _=>none
theorem xstr_ok {op:BinOp} {a b:ByteArray} {y:SV} (h:xstr op a b=some y) {K:SV→Prop} (hK:K y):strK op a b K:=by
  cases op<;>simp only [xstr] at h<;>simp only [strK]<;>first
    | (cases h;exact hK)
    | (split at h
       · rename_i e;cases h;exact ⟨⟨of_decide_eq_true e⟩,hK⟩
       · cases h)
    | cases h
def xflr (k:FloatKind) (x:Option Nat):Option SV:=match x with | some r=>some (.v (.float k r)) | none=>none
theorem xflr_ok {k:FloatKind} {x:Option Nat} {y:SV} (h:xflr k x=some y) {K:SV→Prop} (hK:K y):flrK k x K:=by
 unfold xflr at h
 split at h
 ·rename_i r;cases h;exact ⟨⟨r,rfl⟩,fun r' e=>by cases e;exact hK⟩
 ·cases h
def xflt (op:BinOp) (k:FloatKind) (a b:Nat):Option SV:=
 match op with
 | .add=>xflr k (k.format.add a b)
 | .sub=>xflr k (k.format.sub a b)
 | .mul=>xflr k (k.format.mul a b)
 | .quo=>xflr k (k.format.div a b)
 | .eql=>some (.b (k.format.order a b=some .eq) (decOrd _ _))
 | .neq=>some (.b (¬k.format.order a b=some .eq) (@instDecidableNot _ (decOrd _ _)))
 | .lss=>some (.b (k.format.order a b=some .lt) (decOrd _ _))
 | .leq=>some (.b (k.format.order a b=some .lt∨k.format.order a b=some .eq) (@instDecidableOr _ _ (decOrd _ _) (decOrd _ _)))
 | .gtr=>some (.b (k.format.order a b=some .gt) (decOrd _ _))
 | .geq=>some (.b (k.format.order a b=some .gt∨k.format.order a b=some .eq) (@instDecidableOr _ _ (decOrd _ _) (decOrd _ _)))
 | _=>none
theorem xflt_ok {op:BinOp} {k:FloatKind} {a b:Nat} {y:SV} (h:xflt op k a b=some y) {K:SV→Prop} (hK:K y):fltK op k a b K:=by
 cases op<;>simp only [xflt] at h<;>simp only [fltK]<;>first
  | (cases h;exact hK)
  | exact xflr_ok h hK
  | cases h
def xeq (d:Ty) (x y:SV):Option SV:=
 match d with
 | .bool=>(match x,y with
  | .bb true,.bb true=>some (.bb true) | .bb false,.bb false=>some (.bb true) | .bb true,.bb false=>some (.bb false) | .bb false,.bb true=>some (.bb false)
  | .b p d,.bb true=>some (.b p d)
  | .b p d,.bb false=>some (.b (¬p) (@instDecidableNot _ d))
  | .bb true,.b p d=>some (.b p d)
  | .bb false,.b p d=>some (.b (¬p) (@instDecidableNot _ d))
  | .b p d,.b p' d'=>some (.b (p↔p') (@instDecidableIff _ _ d d'))
  | _,_=>none)
 | .ptr _=>(match x,y with
  | .lp _ _,.v (.pointer none)=>some (.bb false)
  | .v (.pointer none),.lp _ _=>some (.bb false)
  | .v (.pointer none),.v (.pointer none)=>some (.bb true)
  | _,_=>none)
 | .func=>(match x,y with
  | .fn _ _,.v .nilFunc=>some (.bb false)
  | .v .nilFunc,.v .nilFunc=>some (.bb true)
  | _,_=>none)
 | .map _ _=>(match x,y with
  | .mr _,.v (.map none)=>some (.bb false)
  | .v (.map none),.v (.map none)=>some (.bb true)
  | _,_=>none)
 | .slice _=>(match x,y with
  | .v (.slice none _ _),.v (.slice none _ _)=>some (.b ((none:Option Addr)=none) (decNone none))
  | _,_=>none)
 | _=>none
theorem xeq_ok {d:Ty} {x y z:SV} (h:xeq d x y=some z) {K:SV→Prop} (hK:K z):eqK d x y K:=by
 unfold xeq at h
 split at h
 ·split at h<;>first | (cases h;exact hK) | cases h
 ·split at h<;>first | (cases h;exact hK) | cases h
 ·split at h<;>first | (cases h;exact hK) | cases h
 ·split at h<;>first | (cases h;exact hK) | cases h
 ·split at h<;>first | (cases h;exact hK) | cases h
 ·cases h
def xnot (x:SV):Option SV:=
 match x with
 | .bb true=>some (.bb false)
 | .bb false=>some (.bb true)
 | .b p d=>some (.b (¬p) (@instDecidableNot _ d))
 | _=>none
theorem xnot_ok {x z:SV} (h:xnot x=some z) {K:SV→Prop} (hK:K z):notK x K:=by
 unfold xnot at h
 split at h<;>first | (cases h;exact hK) | cases h
def xbin (d:Ty) (op:BinOp) (x y:SV):Option SV:=
 match x,y with
 | .v (.int k a),.v (.int k' b)=>
  (match op with
  | .shl=>xsh .shl k a b
  | .shr=>xsh .shr k a b
  | op=>match Nat.beq (kc k) (kc k') with | true=>xint op k a b | false=>none)
 | .v (.string a),.v (.string b)=>xstr op a b
 | .v (.float k a),.v (.float k' b)=>(match fkc k k' with | true=>xflt op k a b | false=>none)
 | .agg _,_=>none
 | x,y=>
  (match op with
  | .eql=>xeq d x y
  | .neq=>(match xeq d x y with | some r=>xnot r | none=>none)
  | _=>none)
theorem eqsK_of {c:List Ty} {d:Ty} {x y:SV} {K:SV→Prop} (hx:∀l,x≠.agg l) (h:eqK d x y K):eqsK c d x y K:=by
 unfold eqsK
 split
 ·exact absurd rfl (hx _)
 ·exact h
theorem xbin_ok {c:List Ty} {d:Ty} {op:BinOp} {x y z:SV} (h:xbin d op x y=some z) {K:SV→Prop} (hK:K z):binK c d op true x y K:=by
  unfold xbin at h
  split at h
  · cases op<;>first
      | exact xsh_ok h hK
      | (simp only at h
         unfold binK
         dsimp only
         split at h
         · rename_i e;rw [e];exact xint_ok h hK
         · cases h)
  · exact xstr_ok h hK
  · split at h
    · rename_i e
      unfold binK
      simp only [e]
      exact xflt_ok h hK
    · cases h
  · cases h
  · rename_i N4 N1 N2 N3
    unfold binK
    split
    · exact (N1 _ _ _ _ rfl rfl).elim
    · exact (N2 _ _ rfl rfl).elim
    · exact (N3 _ _ _ _ rfl rfl).elim
    · split at h
      · exact eqsK_of (fun l e=>(N4 l e).elim) (xeq_ok h hK)
      · split at h
        · rename_i r e
          exact eqsK_of (fun l e=>(N4 l e).elim) (xeq_ok e (xnot_ok h hK))
        · cases h
      · cases h
def xbq (a b:SV) (K:(p:Prop)→Decidable p→Option SV):Option SV:=
 match a,b with
 | .bb true,.bb true=>K True instDecidableTrue
 | .bb false,.bb false=>K True instDecidableTrue
 | .bb true,.bb false=>K False instDecidableFalse
 | .bb false,.bb true=>K False instDecidableFalse
 | _,_=>none
def xeqL (c:List Ty):List SV→List SV→((p:Prop)→Decidable p→Option SV)→Option SV:=
 List.rec (motive:=fun _=>List SV→List SV→((p:Prop)→Decidable p→Option SV)→Option SV)
  (fun x y K=>match x,y with | [],[]=>K True instDecidableTrue | _,_=>none)
  (fun t _ ih x y K=>match t,x,y with
   | .int _,.v (.int k m)::s,.v (.int k' n)::r=>(match Nat.beq (kc k) (kc k') with | true=>ih s r fun p i=>K (m=n∧p) (@instDecidableAnd _ _ (Int.instDecidableEq m n) i) | false=>none)
   | .str,.v (.string a)::s,.v (.string b)::r=>ih s r fun p i=>K (a.data.toList=b.data.toList∧p) (@instDecidableAnd _ _ (decStr a b) i)
   | .bool,a::s,b::r=>xbq a b fun q d=>ih s r fun p i=>K (q∧p) (@instDecidableAnd _ _ d i)
   | _,_,_=>none) c
theorem xeqL_n {xs ys:List SV} {J:(p:Prop)→Decidable p→Option SV}:xeqL [] xs ys J=(match xs,ys with | [],[]=>J True instDecidableTrue | _,_=>none):=rfl
theorem xeqL_c {t:Ty} {c:List Ty} {xs ys:List SV} {J:(p:Prop)→Decidable p→Option SV}:xeqL (t::c) xs ys J=(match t,xs,ys with
   | .int _,.v (.int k m)::s,.v (.int k' n)::r=>(match Nat.beq (kc k) (kc k') with | true=>xeqL c s r fun p i=>J (m=n∧p) (@instDecidableAnd _ _ (Int.instDecidableEq m n) i) | false=>none)
   | .str,.v (.string a)::s,.v (.string b)::r=>xeqL c s r fun p i=>J (a.data.toList=b.data.toList∧p) (@instDecidableAnd _ _ (decStr a b) i)
   | .bool,a::s,b::r=>xbq a b fun q d=>xeqL c s r fun p i=>J (q∧p) (@instDecidableAnd _ _ d i)
   | _,_,_=>none):=rfl
theorem xqn {xs ys:List SV} {K:(p:Prop)→Decidable p→Prop}:eqsL [] xs ys K=(match xs,ys with | [],[]=>K True instDecidableTrue | _,_=>False):=rfl
theorem xqc {t:Ty} {c:List Ty} {xs ys:List SV} {K:(p:Prop)→Decidable p→Prop}:eqsL (t::c) xs ys K=(match t,xs,ys with
   | .int _,.v (.int k m)::s,.v (.int k' n)::r=>(match Nat.beq (kc k) (kc k') with | true=>eqsL c s r fun p i=>K (m=n∧p) (@instDecidableAnd _ _ (Int.instDecidableEq m n) i) | false=>False)
   | .str,.v (.string a)::s,.v (.string b)::r=>eqsL c s r fun p i=>K (a.data.toList=b.data.toList∧p) (@instDecidableAnd _ _ (decStr a b) i)
   | .bool,a::s,b::r=>bqK a b fun q d=>eqsL c s r fun p i=>K (q∧p) (@instDecidableAnd _ _ d i)
   | _,_,_=>False):=rfl
theorem xeqL_ok {z:SV}:∀{c:List Ty} {xs ys:List SV} {J:(p:Prop)→Decidable p→Option SV} {K:(p:Prop)→Decidable p→Prop},(∀p i,J p i=some z→K p i)→xeqL c xs ys J=some z→eqsL c xs ys K
 | [],xs,ys,J,K,hJ,h=>by
  rw [xeqL_n] at h
  rw [xqn]
  split at h
  ·exact hJ _ _ h
  ·cases h
 | t::c,xs,ys,J,K,hJ,h=>by
  rw [xeqL_c] at h
  rw [xqc]
  split at h
  ·split at h
   ·rename_i e;exact xeqL_ok (fun p i=>hJ _ _) h
   ·cases h
  ·exact xeqL_ok (fun p i=>hJ _ _) h
  ·unfold xbq at h
   split at h<;>first
    | exact xeqL_ok (fun p i=>hJ _ _) h
    | cases h
  ·cases h
def xbin2 (c:List Ty) (d:Ty) (op:BinOp) (x y:SV):Option SV:=
 match x,y with
 | .agg xs,.agg ys=>(match c,d,op with
  | t::c,.struct _,.eql=>xeqL (t::c) xs ys fun p i=>some (.b p i)
  | t::c,.struct _,.neq=>xeqL (t::c) xs ys fun p i=>some (.b (¬p) (@instDecidableNot _ i))
  | _,_,_=>none)
 | x,y=>xbin d op x y
theorem xbin2_ok {c:List Ty} {d:Ty} {op:BinOp} {x y z:SV} (h:xbin2 c d op x y=some z) {K:SV→Prop} (hK:K z):binK c d op true x y K:=by
 unfold xbin2 at h
 split at h
 ·rename_i xs ys
  split at h
  ·exact xeqL_ok (K:=fun p i=>K (.b p i)) (fun p i e=>by cases e;exact hK) h
  ·exact xeqL_ok (K:=fun p i=>K (.b (¬p) (@instDecidableNot _ i))) (fun p i e=>by cases e;exact hK) h
  ·cases h
 ·exact xbin_ok h hK
def xun (op:UnOp) (x:SV):Option SV:=
 match op,x with
 | .not,x=>xnot x
 | .neg,.v (.int k n)=>some (xar true k (0-n))
 | _,_=>none
theorem xun_ok {op:UnOp} {x z:SV} (h:xun op x=some z) {K:SV→Prop} (hK:K z):unK op true x K:=by
 unfold xun at h
 split at h
 ·exact xnot_ok h hK
 ·cases h;exact hK
 ·cases h
def xpick (c a b:SV):Option SV:=
 match tru c with
 | some true=>some a
 | some false=>some b
 | none=>none
theorem xpick_ok {c a b z:SV} (h:xpick c a b=some z) {K:SV→Prop} (hK:K z):pickK c a b K:=by
 unfold xpick at h
 cases c with
 | bb x=>cases x<;>(cases h;simp only [pickK,fSV_eq'];exact hK)
 | b p d=>
  simp only [pickK,fSV_eq']
  by_cases hp:p
  ·have e:tru (.b p d)=some true:=congrArg some (decide_eq_true hp)
   rw [e] at h;cases h;exact ⟨fun _=>hK,fun n=>absurd hp n⟩
  ·have e:tru (.b p d)=some false:=congrArg some (decide_eq_false hp)
   rw [e] at h;cases h;exact ⟨fun n=>absurd n hp,fun _=>hK⟩
 | _=>cases h
abbrev Mg:=Nat→Option LB
def xtake (cs:List SV) (o sz:Nat):Option (List SV):=
 match sz with
 | 0=>none
 | sz=>(match Nat.beq (takeN (dropN cs o) sz).length sz with | true=>some (takeN (dropN cs o) sz) | false=>none)
theorem xtake_ok {cs l:List SV} {o sz:Nat} (h:xtake cs o sz=some l):Nat.ble (o+sz) cs.length=true∧l=takeN (dropN cs o) sz:=by
 unfold xtake at h
 split at h
 ·cases h
 ·rename_i hne
  split at h
  ·rename_i e
   cases h
   refine ⟨?_,rfl⟩
   have e:=Nat.eq_of_beq_eq_true e
   rw [length_takeN,length_dropN] at e
   have:sz≠0:=fun h=>hne h
   exact Nat.ble_eq_true_of_le (by omega)
  ·cases h
def xload (T:Tab) (M:Mg) (t:Nat) (x:SV):Option SV:=
 match ty T t with
 | ⟨.other,_,_,_,_,_⟩=>none
 | ⟨d,sz,_,_,_,_⟩=>(match x with
  | .lp k o=>(match M k with
   | some (.cells _ cs)=>(match xtake cs o sz with | some l=>some (ofCells d l) | none=>none)
   | some (.row _ _ _ cs)=>(match xtake cs o sz with | some l=>some (ofCells d l) | none=>none)
   | _=>none)
  | _=>none)
section
variable {T:Tab} {q:PH} {L:LL} {M:Mg} {K:SV→Prop} {Γ:List Spec} {Δ:List CS} {fr:Fr}
theorem xload_ok (hM:∀k,getL L k=M k) {t:Nat} {x y:SV} (h:xload T M t x=some y) (hK:K y):loadK T q L t x K:=by
 unfold xload at h
 unfold loadK
 split at h
 ·cases h
 ·rename_i d sz byt z fl cm hne e
  have main:loadK1 d sz fl q L x K:=by
   unfold loadK1
   split at h
   ·rename_i k o
    dsimp only
    rw [hM k]
    split at h
    ·rename_i T' cs e'
     rw [e']
     split at h
     ·rename_i l hl
      cases h
      obtain ⟨h1,rfl⟩:=xtake_ok hl
      dsimp only
      rw [h1]
      simp only [fSV_eq']
      exact hK
     ·cases h
    ·rename_i E' s' n' cs e'
     rw [e']
     split at h
     ·rename_i l hl
      cases h
      obtain ⟨h1,rfl⟩:=xtake_ok hl
      dsimp only
      rw [h1]
      simp only [fSV_eq']
      exact hK
     ·cases h
    ·cases h
   ·cases h
  rw [e]
  cases d<;>first | exact main | exact absurd rfl hne
def xlen (d:Ty) (M:Mg) (x:SV):Option SV:=
 match d,x with
 | .slice _,.v (.slice _ n _)=>some (.v (.int .i64 n))
 | .str,.v (.string s)=>some (.v (.int .i64 s.size))
 | .slice _,.own k=>(match M k with | some (.row _ _ n _)=>some (.v (.int .i64 n)) | _=>none)
 | .slice _,.vw _ _ _ n _=>some (.v (.int .i64 n))
 | _,_=>none
theorem xlen_ok (hM:∀k,getL L k=M k) {d:Ty} {x y:SV} (h:xlen d M x=some y) (hK:K y):lenK d L x K:=by
 unfold xlen at h
 unfold lenK
 split at h
 ·cases h;exact hK
 ·cases h;exact hK
 ·rename_i k
  dsimp only
  rw [hM k]
  split at h
  ·rename_i e;rw [e];cases h;exact hK
  ·cases h
 ·cases h;exact hK
 ·cases h
theorem arrK_of {sz k o:Nat} {i:Int}:∀(n j:Nat),(j:Int)≤i→i<((j+n:Nat):Int)→K (.lp k (o+i.toNat * sz))→arrK sz k o i K n j
 | 0,j,h1,h2,_=>by omega
 | n+1,j,h1,h2,hK=>by
  show (i=(j:Int)→match o+j * sz with | 0=>K (.lp k 0) | m+1=>K (.lp k (m+1)))∧arrK sz k o i K n (j+1)
  refine ⟨fun e=>?_,?_⟩
  ·have:i.toNat=j:=by omega
   rw [this] at hK
   generalize o+j * sz=m at hK ⊢
   cases m<;>exact hK
  ·by_cases e:i=(j:Int)
   ·have:∀(n j':Nat),i<(j':Int)→arrK sz k o i K n j':=by
     intro n
     induction n with
     | zero=>intro _ _;trivial
     | succ n ih=>intro j' hj;exact ⟨fun e=>by omega,ih (j'+1) (by omega)⟩
    exact this n (j+1) (by omega)
   ·exact arrK_of n (j+1) (by omega) (by omega) hK
def inI (i:Int) (n:Nat):Bool:=@decide (0≤i∧i<(n:Int)) (instDecidableAnd)
def xidx (T:Tab) (M:Mg) (t:Nat) (x i:SV):Option SV:=
 match (ty T t).d,x,i with
 | .slice e,.own k,.v (.int _ i)=>(match M k with | some (.row _ _ n _)=>(match inI i n with | true=>some (.lp k (i.toNat * (ty T e).sz)) | false=>none) | _=>none)
 | .slice e,.vw k lo sz m _,.v (.int _ i)=>(match M k with
  | some (.row _ _ n _)=>(match Nat.beq sz (ty T e).sz,inI i m,Nat.ble (lo+m) n with | true,true,true=>some (.lp k ((lo+i.toNat) * (ty T e).sz)) | _,_,_=>none)
  | _=>none)
 | .arr n e,.lp k o,.v (.int _ i)=>(match inI i n with | true=>some (.lp k (o+i.toNat * (ty T e).sz)) | false=>none)
 | _,_,_=>none
theorem inI_ok {i:Int} {n:Nat} (h:inI i n=true):0≤i∧i<(n:Int):=of_decide_eq_true h
theorem xidx_ok (hM:∀k,getL L k=M k) {t:Nat} {x i y:SV} (h:xidx T M t x i=some y) (hK:K y):idxK T L t x i K:=by
 unfold xidx at h
 unfold idxK
 split at h
 ·rename_i e k ki i hd
  rw [hd]
  dsimp only
  rw [hM k]
  split at h
  ·rename_i e' ; rw [e']
   split at h
   ·rename_i hi;cases h;exact ⟨⟨inI_ok hi⟩,by rw [elK_eq];exact hK⟩
   ·cases h
  ·cases h
 ·rename_i e k lo sz m ex ki i hd
  rw [hd]
  dsimp only
  rw [hM k]
  split at h
  ·rename_i e';rw [e']
   split at h
   ·rename_i h1 h2 h3
    cases h
    dsimp only
    rw [h1]
    exact ⟨⟨(inI_ok h2).1,(inI_ok h2).2,Nat.le_of_ble_eq_true h3⟩,by rw [elK_eq];exact hK⟩
   ·cases h
  ·cases h
 ·rename_i n e k o ki i hd
  rw [hd]
  dsimp only
  split at h
  ·rename_i hi;cases h;exact ⟨⟨inI_ok hi⟩,arrK_of n 0 (inI_ok hi).1 (by simpa using (inI_ok hi).2) hK⟩
  ·cases h
 ·cases h
def xstrIdx (T:Tab) (t:Nat) (x i:SV):Option SV:=
 match (ty T t).d,x,i with
 | .str,.v (.string s),.v (.int _ i)=>(match inI i s.size with | true=>some (.v (.int .u8 ((s.data.toList[i.toNat]?.getD 0).toNat:Int))) | false=>none)
 | _,_,_=>none
theorem xstrIdx_ok {t:Nat} {x i y:SV} (h:xstrIdx T t x i=some y) (hK:K y):strIdxK T t x i K:=by
 unfold xstrIdx at h
 unfold strIdxK
 split at h
 ·rename_i s ki i hd
  rw [hd]
  split at h
  ·rename_i hi;cases h;exact ⟨⟨inI_ok hi⟩,hK⟩
  ·cases h
 ·cases h
def xbnd (x:Option SV) (d:Int):Option Int:=
 match x with
 | none=>some d
 | some (.v (.int _ i))=>some i
 | _=>none
theorem xbnd_ok {x:Option SV} {d i:Int} (h:xbnd x d=some i) {K:Int→Prop} (hK:K i):bndK x d K:=by
 unfold xbnd at h
 split at h
 ·cases h;exact hK
 ·cases h;exact hK
 ·cases h
def in3 (l h:Int) (n:Nat):Bool:=@decide (0≤l∧l≤h∧h≤(n:Int)) (instDecidableAnd)
theorem in3_ok {l h:Int} {n:Nat} (e:in3 l h n=true):0≤l∧l≤h∧h≤(n:Int):=of_decide_eq_true e
def xslc (T:Tab) (M:Mg) (t:Nat) (x:SV) (lo hi:Option SV):Option SV:=
 match (ty T t).d,x with
 | .str,.v (.string s)=>(match xbnd lo 0,xbnd hi s.size with
  | some l,some h=>(match in3 l h s.size with | true=>some (.v (.string (s.extract l.toNat h.toNat))) | false=>none)
  | _,_=>none)
 | .slice e,.v (.slice none 0 0)=>(match xbnd lo 0,xbnd hi 0 with
  | some l,some h=>(match in3 l h 0 with | true=>some (.v (.slice none 0 0)) | false=>none)
  | _,_=>none)
 | .slice e,.own k=>(match M k with
  | some (.row _ sz n _)=>(match Nat.beq sz (ty T e).sz,xbnd lo 0,xbnd hi n with
   | true,some l,some h=>(match in3 l h n with | true=>some (.vw k l.toNat sz (h.toNat-l.toNat) true) | false=>none)
   | _,_,_=>none)
  | _=>none)
 | .slice e,.vw k lo0 sz n _=>(match Nat.beq sz (ty T e).sz,xbnd lo 0,xbnd hi n with
   | true,some l,some h=>(match in3 l h n with | true=>some (.vw k (lo0+l.toNat) sz (h.toNat-l.toNat) false) | false=>none)
   | _,_,_=>none)
 | _,_=>none
theorem xslc_ok (hM:∀k,getL L k=M k) {t:Nat} {x y:SV} {lo hi:Option SV} (h:xslc T M t x lo hi=some y) (hK:K y):slcK T L t x lo hi K:=by
 unfold xslc at h
 unfold slcK
 split at h
 ·rename_i s hd
  rw [hd]
  dsimp only
  split at h
  ·rename_i l h' h1 h2
   split at h
   ·rename_i h3;cases h;exact xbnd_ok h1 (xbnd_ok h2 ⟨⟨in3_ok h3⟩,hK⟩)
   ·cases h
  ·cases h
 ·rename_i e hd
  rw [hd]
  dsimp only
  split at h
  ·rename_i l h' h1 h2
   split at h
   ·rename_i h3
    cases h
    refine xbnd_ok h1 (xbnd_ok h2 ⟨⟨in3_ok h3⟩,?_⟩)
    rw [elK_eq]
    intro m hm
    have h3:=in3_ok h3
    have:m=0:=by omega
    subst this
    have e1:(if 0=l.toNat then (none:Option Addr) else none.map (fun x:Addr=>x.add (l.toNat * (ty T e).sz)))=none:=by split<;>rfl
    rw [e1]
    simpa using hK
   ·cases h
  ·cases h
 ·rename_i e k hd
  rw [hd]
  dsimp only
  rw [hM k]
  split at h
  ·rename_i e' sz n cs ek
   rw [ek]
   split at h
   ·rename_i l h' h0 h1 h2
    split at h
    ·rename_i h3
     cases h
     dsimp only
     rw [h0]
     exact xbnd_ok h1 (xbnd_ok h2 ⟨⟨in3_ok h3⟩,fun m hm=>by subst hm;exact hK⟩)
    ·cases h
   ·cases h
  ·cases h
 ·rename_i e k lo0 sz n ex hd
  rw [hd]
  dsimp only
  split at h
  ·rename_i l h' h0 h1 h2
   split at h
   ·rename_i h3
    cases h
    rw [h0]
    exact xbnd_ok h1 (xbnd_ok h2 ⟨⟨in3_ok h3⟩,fun m hm=>by subst hm;exact hK⟩)
   ·cases h
  ·cases h
 ·cases h
def in4 (l h x:Int) (n:Nat):Bool:=@decide (0≤l∧l≤h∧h≤x∧x≤(n:Int)) (instDecidableAnd)
def xslc3 (T:Tab) (M:Mg) (t:Nat) (x:SV) (lo hi:Option SV) (mx:SV):Option SV:=
 match (ty T t).d,x,hi with
 | .slice e,.own k,some hi=>(match M k with
  | some (.row _ sz n _)=>(match Nat.beq sz (ty T e).sz,xbnd lo 0,xbnd (some hi) 0,xbnd (some mx) 0 with
   | true,some l,some h,some x=>(match in4 l h x n with | true=>some (.vw k l.toNat sz (h.toNat-l.toNat) false) | false=>none)
   | _,_,_,_=>none)
  | _=>none)
 | _,_,_=>none
theorem xslc3_ok (hM:∀k,getL L k=M k) {t:Nat} {x y mx:SV} {lo hi:Option SV} (h:xslc3 T M t x lo hi mx=some y) (hK:K y):slc3K T L t x lo hi mx K:=by
 unfold xslc3 at h
 unfold slc3K
 split at h
 ·rename_i e k hi hd
  rw [hd]
  dsimp only
  rw [hM k]
  split at h
  ·rename_i e' sz n cs ek
   rw [ek]
   split at h
   ·rename_i l h' x' h0 h1 h2 h3
    split at h
    ·rename_i h4
     cases h
     dsimp only
     rw [h0]
     exact xbnd_ok h1 (xbnd_ok h2 (xbnd_ok h3 ⟨⟨of_decide_eq_true h4⟩,fun m hm=>by subst hm;exact hK⟩))
    ·cases h
   ·cases h
  ·cases h
 ·cases h
def xbytes (l:List Value):Option (List UInt8):=List.rec (motive:=fun _=>Option (List UInt8)) (some [])
 (fun x _ ih=>match x with
  | .int .u8 n=>(match inI n 256,ih with | true,some s=>some (UInt8.ofNat n.toNat::s) | _,_=>none)
  | _=>none) l
theorem xbytes_c {x:Value} {r:List Value}:xbytes (x::r)=(match x with
   | .int .u8 n=>(match inI n 256,xbytes r with | true,some s=>some (UInt8.ofNat n.toNat::s) | _,_=>none)
   | _=>none):=rfl
theorem xbytes_ok:∀{l:List Value} {bs:List UInt8},xbytes l=some bs→l=bs.map bv
 | [],bs,h=>by cases h;rfl
 | x::r,bs,h=>by
  rw [xbytes_c] at h
  split at h
  ·rename_i n
   split at h
   ·rename_i s h1 h2
    cases h
    have h1:=inI_ok h1
    rw [List.map_cons,←xbytes_ok h2]
    congr 1
    unfold bv
    have:(UInt8.ofNat n.toNat).toNat=n.toNat:=by simp;omega
    rw [this,Int.toNat_of_nonneg h1.1]
   ·cases h
  ·cases h
def xinR (k:IntKind) (n:Int):Bool:=
 match k with
 | .i8=>in2 (-128) 127 n | .i16=>in2 (-32768) 32767 n | .i32=>in2 (-2147483648) 2147483647 n | .i64=>in2 (-9223372036854775808) 9223372036854775807 n
 | .u8=>in2 0 255 n | .u16=>in2 0 65535 n | .u32=>in2 0 4294967295 n | .u64=>in2 0 18446744073709551615 n
where in2 (a b n:Int):Bool:=@decide (a≤n∧n≤b) (instDecidableAnd)
theorem xinR_ok {k:IntKind} {n:Int} (h:xinR k n=true):inR k n:=by
 cases k<;>(have:=of_decide_eq_true h;exact this)
def xconv (T:Tab) (M:Mg) (src dst:Nat) (x:SV):Option SV:=
 match (ty T src).d,(ty T dst).d,x with
 | .int _,.int k',.v (.int k n)=>(match widens k k' with | true=>(match xinR k' n with | true=>some (.v (.int k' n)) | false=>none) | false=>some (.v (.int k' (k'.wrap n))))
 | .str,.str,.v (.string s)=>some (.v (.string s))
 | .int _,.flt k',.v (.int _ n)=>some (.v (.float k' (k'.nearest n)))
 | .slice e,.str,.own k=>(match (ty T e).d,M k with
  | .int .u8,some (.row _ sz' _ cs)=>(match Nat.beq sz' 1,rowVL cs with
   | true,some xs=>(match xbytes xs with | some bs=>some (.v (.string ⟨bs.toArray⟩)) | none=>none)
   | _,_=>none)
  | _,_=>none)
 | .slice e,.str,.vw k lo sz' m _=>(match (ty T e).d,M k with
  | .int .u8,some (.row _ sz'' n cs)=>(match Nat.beq sz' 1,Nat.beq sz'' 1,Nat.ble (lo+m) n,rowVL (vwS cs lo 1 m) with
   | true,true,true,some xs=>(match xbytes xs with | some bs=>some (.v (.string ⟨bs.toArray⟩)) | none=>none)
   | _,_,_,_=>none)
  | _,_=>none)
 | .slice e,.str,.v (.slice none 0 _)=>(match (ty T e).d with
  | .int .u8=>some (.v (.string ⟨#[]⟩))
  | _=>none)
 | _,_,_=>none
theorem sl_bytes {xs:List Value} {bs:List UInt8} (h:xbytes xs=some bs) (hK:K (.v (.string ⟨bs.toArray⟩))):Ob (∃bs:List UInt8,xs=bs.map bv)∧∀bs:List UInt8,xs=bs.map bv→K (.v (.string ⟨bs.toArray⟩)):=by
 have e:=xbytes_ok h
 refine ⟨⟨⟨bs,e⟩⟩,fun bs' e'=>?_⟩
 have inj:∀(a b:List UInt8),a.map bv=b.map bv→a=b:=by
  intro a
  induction a with
  | nil=>intro b hb;cases b with
   | nil=>rfl
   | cons _ _=>simp at hb
  | cons x r ih=>intro b hb;cases b with
   | nil=>simp at hb
   | cons y s=>
    simp only [List.map_cons,List.cons.injEq] at hb
    obtain ⟨h1,h2⟩:=hb
    rw [ih s h2]
    congr 1
    simp only [bv,Value.int.injEq,true_and] at h1
    exact UInt8.toNat_inj.1 (by omega)
 rw [←inj bs bs' (e.symm.trans e')]
 exact hK
theorem xconv_ok (hM:∀k,getL L k=M k) {src dst:Nat} {x y:SV} (h:xconv T M src dst x=some y) (hK:K y):convK T q L src dst x K:=by
 unfold xconv at h
 unfold convK
 split at h
 ·rename_i k0 k' k n h1 h2
  rw [h1,h2]
  dsimp only
  split at h
  ·rename_i e
   rw [e]
   split at h
   ·rename_i e2;cases h;exact ⟨⟨xinR_ok e2⟩,hK⟩
   ·cases h
  ·rename_i e;rw [e];cases h;exact hK
 ·rename_i s h1 h2;rw [h1,h2];cases h;exact hK
 ·rename_i k0 k' k n h1 h2;rw [h1,h2];cases h;exact hK
 ·rename_i e k h1 h2
  rw [h1,h2]
  dsimp only
  split at h
  ·rename_i E' sz' n' cs h3 h4
   rw [h3]
   split at h
   ·rename_i xs h5 h6
    split at h
    ·rename_i bs hb
     cases h
     unfold sliceK
     dsimp only
     rw [hM k,h4]
     dsimp only
     rw [h5,h6]
     exact sl_bytes hb hK
    ·cases h
   ·cases h
  ·cases h
 ·rename_i e k lo sz' m ex h1 h2
  rw [h1,h2]
  dsimp only
  split at h
  ·rename_i E' sz'' n' cs h3 h4
   rw [h3]
   split at h
   ·rename_i xs h5 h5' h5'' h6
    split at h
    ·rename_i bs hb
     cases h
     unfold sliceK
     dsimp only
     rw [hM k,h4]
     dsimp only
     rw [h5,h5',h6]
     exact ⟨⟨Nat.le_of_ble_eq_true h5''⟩,sl_bytes hb hK⟩
    ·cases h
   ·cases h
  ·cases h
 ·rename_i e c h1 h2
  rw [h1,h2]
  dsimp only
  split at h
  ·rename_i h3
   cases h
   rw [h3]
   refine ⟨⟨[],by simp,fun j hj=>by simp at hj⟩,fun xs hl _=>?_⟩
   have:xs=[]:=List.eq_nil_of_length_eq_zero (by simpa using hl)
   subst this
   exact sl_bytes (bs:=[]) rfl hK
  ·cases h
 ·cases h
def xextr (x:SV) (i:Nat):Option SV:=
 match x with
 | .tup cs=>nth cs i
 | _=>none
theorem xextr_ok {x y:SV} {i:Nat} (h:xextr x i=some y) (hK:K y):extrK x i K:=by
 unfold xextr at h
 split at h
 ·unfold extrK;dsimp only;rw [h];simp only [fSV_eq'];exact hK
 ·cases h
def xfield (T:Tab) (t f:Nat) (x:SV):Option SV:=
 match fieldOf T t f,x with
 | some (off,ft),.agg cs=>(match ty T ft with
  | ⟨.other,_,_,_,_,_⟩=>none
  | ⟨d,sz,_,_,_,_⟩=>(match xtake cs off sz with | some l=>some (ofCells d l) | none=>none))
 | _,_=>none
theorem xfield_ok {t f:Nat} {x y:SV} (h:xfield T t f x=some y) (hK:K y):fieldK T t f x K:=by
 unfold xfield at h
 unfold fieldK
 split at h
 ·rename_i off ft cs e
  rw [e]
  dsimp only
  split at h
  ·cases h
  ·rename_i d sz b z fl cm hne e2
   split at h
   ·rename_i l hl
    cases h
    obtain ⟨h1,rfl⟩:=xtake_ok hl
    rw [e2]
    have main:(match Nat.ble (off+sz) cs.length with | true=>fSV (ofCells d (takeN (dropN cs off) sz)) K | false=>False):=by
     rw [h1]
     simp only [fSV_eq']
     exact hK
    cases d<;>first | exact main | exact absurd rfl hne
   ·cases h
 ·cases h
def xfaddr (T:Tab) (t f:Nat) (x:SV):Option SV:=
 match fieldOf T t f,x with
 | some (off,_),.lp k o=>some (.lp k (o+off))
 | _,_=>none
theorem xfaddr_ok {t f:Nat} {x y:SV} (h:xfaddr T t f x=some y) (hK:K y):faddrK T t f x K:=by
 unfold xfaddr at h
 unfold faddrK
 split at h
 ·rename_i off ft k o e;rw [e];cases h;exact hK
 ·cases h
def xnilc (x:SV):Option SV:=
 match x with
 | .lp k o=>some (.lp k o)
 | .fn f cs=>some (.fn f cs)
 | .yl k=>some (.yl k)
 | _=>none
theorem xnilc_ok {x y:SV} (h:xnilc x=some y) (hK:K y):nilcK x K:=by
 unfold xnilc at h
 split at h<;>first | (cases h;exact hK) | cases h
def xparts (T:Tab) (fs:List (Nat×Nat)) (fr:Fr) (ps:List (Nat×Operand)):List SV→Option (List SV):=
 List.rec (motive:=fun _=>List SV→Option (List SV)) (fun cs=>some cs)
  (fun p _ ih cs=>match p with
   | (i,x)=>(match nth fs i with
    | some (off,t)=>(match opv fr x with
     | .agg l=>(match Nat.beq l.length (ty T t).sz,Nat.ble (off+l.length) cs.length with | true,true=>ih (takeN cs off++l++dropN cs (off+l.length)) | _,_=>none)
     | .tup _=>none
     | .bad=>none
     | .v (.agg _)=>none
     | .v (.tuple _)=>none
     | y=>(match Nat.beq (ty T t).sz 1,Nat.blt off cs.length with | true,true=>ih (setN cs off y) | _,_=>none))
    | none=>none)) ps
theorem xparts_c {fs:List (Nat×Nat)} {i:Nat} {x:Operand} {r:List (Nat×Operand)} {cs:List SV}:xparts T fs fr ((i,x)::r) cs=(match nth fs i with
  | some (off,t)=>(match opv fr x with
   | .agg l=>(match Nat.beq l.length (ty T t).sz,Nat.ble (off+l.length) cs.length with | true,true=>xparts T fs fr r (takeN cs off++l++dropN cs (off+l.length)) | _,_=>none)
   | .tup _=>none
   | .bad=>none
   | .v (.agg _)=>none
   | .v (.tuple _)=>none
   | y=>(match Nat.beq (ty T t).sz 1,Nat.blt off cs.length with | true,true=>xparts T fs fr r (setN cs off y) | _,_=>none))
  | none=>none):=rfl
theorem xparts_ok {fs:List (Nat×Nat)} {K:List SV→Prop}:∀{ps:List (Nat×Operand)} {cs l:List SV},xparts T fs fr ps cs=some l→K l→partsK T fs fr ps cs K
 | [],cs,l,h,hK=>by cases h;exact hK
 | (i,x)::r,cs,l,h,hK=>by
  rw [xparts_c] at h
  unfold partsK
  split at h
  ·rename_i off t hn
   rw [hn]
   dsimp only
   rw [fSV_eq']
   split at h
   ·rename_i l' hx
    rw [hx]
    split at h
    ·rename_i h1 h2
     dsimp only
     rw [h1,h2]
     dsimp only
     rw [fSVL_eq']
     exact xparts_ok h hK
    ·cases h
   ·cases h
   ·cases h
   ·cases h
   ·cases h
   ·rename_i N1 N2 N3 N4 N5
    split at h
    ·rename_i h1 h2
     have:=xparts_ok h hK
     generalize opv fr x=y at N1 N2 N3 N4 N5 this
     rw [h1,h2]
     split
     ·exact absurd rfl (N1 _)
     ·exact absurd rfl (N2 _)
     ·exact absurd rfl N3
     ·exact absurd rfl (N4 _)
     ·exact absurd rfl (N5 _)
     ·rw [fSVL_eq'];exact this
    ·cases h
  ·cases h
def xbuild (T:Tab) (t:Nat) (fr:Fr) (ps:List (Nat×Operand)):Option SV:=
 match (ty T t).d with
 | .struct fs=>(match xparts T fs fr ps (valL (ty T t).zero) with | some cs=>some (.agg cs) | none=>none)
 | _=>none
theorem xbuild_ok {t:Nat} {ps:List (Nat×Operand)} {y:SV} (h:xbuild T t fr ps=some y) (hK:K y):buildK T t fr ps K:=by
 unfold xbuild at h
 unfold buildK
 split at h
 ·rename_i fs hd
  rw [hd]
  split at h
  ·rename_i cs hc;cases h;exact xparts_ok hc hK
  ·cases h
 ·cases h
def xmkf (fn:Fn) (first cs:List SV):Option SV:=
 match fn,first with
 | .func f,[]=>some (.fn f cs)
 | _,_=>none
theorem xmkf_ok {fn:Fn} {first cs:List SV} {y:SV} (h:xmkf fn first cs=some y) (hK:K y):mkfK fn first cs K:=by
 unfold xmkf at h
 unfold mkfK
 split at h
 ·cases h;dsimp only;rw [fSVL_eq'];exact hK
 ·cases h
def ltZ (a b:Int):Bool:=Int.rec (motive:=fun _=>Bool) (fun m=>Int.rec (motive:=fun _=>Bool) (fun n=>Nat.blt m n) (fun _=>false) b) (fun m=>Int.rec (motive:=fun _=>Bool) (fun _=>true) (fun n=>Nat.blt n m) b) a
theorem ltZ_eq {a b:Int}:ltZ a b=decide (a<b):=by
 cases a with
 | ofNat m=>
  cases b with
  | ofNat n=>show Nat.blt m n=_;rw [Bool.eq_iff_iff];simp [Nat.blt_eq]
  | negSucc n=>show false=_;rw [Bool.eq_iff_iff];simp;omega
 | negSucc m=>
  cases b with
  | ofNat n=>show true=_;rw [Bool.eq_iff_iff];simp;omega
  | negSucc n=>show Nat.blt n m=_;rw [Bool.eq_iff_iff];simp [Nat.blt_eq];omega
theorem ltZ_if {a b:Int} {α:Type} {x y:α}:(match ltZ a b with | true=>x | false=>y)=if a<b then x else y:=by
 rw [ltZ_eq]
 by_cases h:a<b
 ·simp [h]
 ·simp [h]
def xmin (mx:Bool) (x y:SV):Option SV:=
 match x,y with
 | .v (.int k a),.v (.int k' b)=>(match Nat.beq (kc k) (kc k') with
  | true=>(match mx with | true=>some (.v (.int k (match ltZ a b with | true=>b | false=>a))) | false=>some (.v (.int k (match ltZ b a with | true=>b | false=>a))))
  | false=>none)
 | _,_=>none
def xbuilt (T:Tab) (b:Builtin) (xs:List SV) (ts:List Nat) (M:Mg):Option SV:=
 match b,xs,ts with
 | .len,[x],[t]=>xlen (ty T t).d M x
 | .min,[x,y],_=>xmin false x y
 | .max,[x,y],_=>xmin true x y
 | _,_,_=>none
theorem xmin_ok {mx:Bool} {x y z:SV} (h:xmin mx x y=some z) (hK:K z):minK mx x y K:=by
 unfold xmin at h
 unfold minK
 split at h
 ·split at h
  ·rename_i e
   dsimp only
   rw [e]
   split at h
   ·cases h
    rw [ltZ_if] at hK
    exact hK
   ·cases h
    rw [ltZ_if] at hK
    exact hK
  ·cases h
 ·cases h
theorem xbuilt_ok (hM:∀k,getL L k=M k) {b:Builtin} {xs:List SV} {ts:List Nat} {y:SV} (h:xbuilt T b xs ts M=some y) (hK:K y):builtK T b xs ts L K:=by
 unfold xbuilt at h
 split at h
 ·exact xlen_ok hM h hK
 ·exact xmin_ok h hK
 ·exact xmin_ok h hK
 ·cases h
def xcalm (T:Tab) (op:Op) (fr:Fr) (M:Mg):Option SV:=
 match op with
 | .move x=>some (opv fr x)
 | .assign x=>some (opv fr x)
 | .pick c a b=>xpick (opv fr c) (opv fr a) (opv fr b)
 | .binOp op t x y _=>xbin2 (ty T t).cmp (ty T t).d op (opv fr x) (opv fr y)
 | .unOp op _ x=>xun op (opv fr x)
 | .convert src dst x=>xconv T M src dst (opv fr x)
 | .extract x i=>xextr (opv fr x) i
 | .field t x f=>xfield T t f (opv fr x)
 | .fieldAddr t x f=>xfaddr T t f (opv fr x)
 | .nilCheck x=>xnilc (opv fr x)
 | .indexAddr t x i=>xidx T M t (opv fr x) (opv fr i)
 | .index t x i=>xstrIdx T t (opv fr x) (opv fr i)
 | .load t x=>xload T M t (opv fr x)
 | .slice t x lo hi none=>xslc T M t (opv fr x) (optv fr lo) (optv fr hi)
 | .slice t x lo hi (some mx)=>xslc3 T M t (opv fr x) (optv fr lo) (optv fr hi) (opv fr mx)
 | .build t ps=>xbuild T t fr ps.toList
 | .makeFunc fn first cs=>xmkf fn (opvs fr first.toList) (opvs fr cs.toList)
 | .call ⟨.builtin b,xs,ts⟩=>xbuilt T b (opvs fr xs.toList) ts.toList M
 | _=>none
theorem xcalm_ok (hM:∀k,getL L k=M k) {op:Op} {y:SV} (h:xcalm T op fr M=some y) (hK:K y):calmK T Γ Δ true q op fr L K:=by
 unfold xcalm at h
 split at h<;>simp only [calmK,sliceOpK,optv]
 ·rw [fSV_eq'];cases h;exact hK
 ·rw [fSV_eq'];cases h;exact hK
 ·exact xpick_ok h hK
 ·exact xbin2_ok h hK
 ·exact xun_ok h hK
 ·exact xconv_ok hM h hK
 ·exact xextr_ok h hK
 ·exact xfield_ok h hK
 ·exact xfaddr_ok h hK
 ·exact xnilc_ok h hK
 ·exact xidx_ok hM h hK
 ·exact xstrIdx_ok h hK
 ·exact xload_ok hM h hK
 ·exact xslc_ok hM h hK
 ·exact xslc3_ok hM h hK
 ·exact xbuild_ok h hK
 ·exact xmkf_ok h hK
 ·exact xbuilt_ok hM h hK
 ·cases h
end
end
end Exe
end Go.Eng
end

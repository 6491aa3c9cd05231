/- Lemmas for ResolveSettles, printed small: Sh. -/
import Derived.Shelf.Sort.Plain
import Derived.Shelf.Strings.Fields
import Derived.Shelf.Slices.Turned
import Derived.Ground.Names2Prog
import Derived.Shelf.Slices.CompactI
import Derived.Shelf.Slices.In.SortNone
import Derived.Test.YtfaecpkocgcofaaGreatDoorProg
set_option linter.all false
set_option maxRecDepth 100000
set_option maxHeartbeats 8000000
namespace Go.Proofs
open Tryz
open Go.Shelf
def Tryz.lays189_ren:Go.Shelf.Ren:=⟨fun | 189=>84 | 125=>154 | 257=>153 | 128=>225 | 129=>226 | 294=>216 | 295=>217 | 296=>218 | 297=>219 | 298=>220 | 299=>221 | 216=>222 | 300=>223 | 301=>224 | 328=>264 | 329=>265 | 330=>266 | 331=>267 | 332=>268 | 215=>269 | 343=>285 | n=>n,fun | 28=>31 | 3=>3 | 46=>228 | 0=>0 | 51=>101 | 53=>213 | 4=>4 | 183=>288 | 182=>287 | 131=>158 | 5=>5 | 9=>9 | 218=>323 | 222=>327 | 228=>343 | 229=>344 | n=>n,fun | n=>n⟩
theorem Tryz.lays189:Go.Proofs.Lays.n189 prog Tryz.lays189_ren:={
 mixed:=by kernel_rfl
 f125:=func154.trans (congrArg some (by kernel_rfl))
 f128:=func225.trans (congrArg some (by kernel_rfl))
 f129:=func226.trans (congrArg some (by kernel_rfl))
 f189:=func84.trans (congrArg some (by kernel_rfl))
 f215:=func269.trans (congrArg some (by kernel_rfl))
 f216:=func222.trans (congrArg some (by kernel_rfl))
 f257:=func153.trans (congrArg some (by kernel_rfl))
 f294:=func216.trans (congrArg some (by kernel_rfl))
 f295:=func217.trans (congrArg some (by kernel_rfl))
 f296:=func218.trans (congrArg some (by kernel_rfl))
 f297:=func219.trans (congrArg some (by kernel_rfl))
 f298:=func220.trans (congrArg some (by kernel_rfl))
 f299:=func221.trans (congrArg some (by kernel_rfl))
 f300:=func223.trans (congrArg some (by kernel_rfl))
 f301:=func224.trans (congrArg some (by kernel_rfl))
 f328:=func264.trans (congrArg some (by kernel_rfl))
 f329:=func265.trans (congrArg some (by kernel_rfl))
 f330:=func266.trans (congrArg some (by kernel_rfl))
 f331:=func267.trans (congrArg some (by kernel_rfl))
 f332:=func268.trans (congrArg some (by kernel_rfl))
 f343:=func285.trans (congrArg some (by kernel_rfl))
 t0:=underlying0
 a0:=Tryz.isAgg0
 z0:=Tryz.sizeOf0
 v0:=Tryz.zeroValue0
 t3:=underlying3
 a3:=Tryz.isAgg3
 z3:=Tryz.sizeOf3
 v3:=Tryz.zeroValue3
 t4:=underlying4
 a4:=Tryz.isAgg4
 z4:=Tryz.sizeOf4
 v4:=Tryz.zeroValue4
 t5:=underlying5
 a5:=Tryz.isAgg5
 z5:=Tryz.sizeOf5
 v5:=Tryz.zeroValue5
 t9:=underlying9
 a9:=Tryz.isAgg9
 z9:=Tryz.sizeOf9
 v9:=Tryz.zeroValue9
 t28:=underlying31
 a28:=Tryz.isAgg31
 z28:=Tryz.sizeOf31
 v28:=Tryz.zeroValue31
 t46:=underlying228
 a46:=Tryz.isAgg228
 z46:=Tryz.sizeOf228
 v46:=Tryz.zeroValue228
 t51:=underlying101
 a51:=Tryz.isAgg101
 z51:=Tryz.sizeOf101
 v51:=Tryz.zeroValue101
 t53:=underlying213
 a53:=Tryz.isAgg213
 z53:=Tryz.sizeOf213
 v53:=Tryz.zeroValue213
 t131:=underlying158
 a131:=Tryz.isAgg158
 z131:=Tryz.sizeOf158
 v131:=Tryz.zeroValue158
 t182:=underlying287
 a182:=Tryz.isAgg287
 z182:=Tryz.sizeOf287
 v182:=Tryz.zeroValue287
 t183:=underlying288
 a183:=Tryz.isAgg288
 z183:=Tryz.sizeOf288
 v183:=Tryz.zeroValue288
 t218:=underlying323
 a218:=Tryz.isAgg323
 z218:=Tryz.sizeOf323
 v218:=Tryz.zeroValue323
 t222:=underlying327
 a222:=Tryz.isAgg327
 z222:=Tryz.sizeOf327
 v222:=Tryz.zeroValue327
 t228:=underlying343
 a228:=Tryz.isAgg343
 z228:=Tryz.sizeOf343
 v228:=Tryz.zeroValue343
 t229:=underlying344
 a229:=Tryz.isAgg344
 z229:=Tryz.sizeOf344
 v229:=Tryz.zeroValue344}
open Go.Sort Go.RowKit in
theorem Tryz.slices_Sort_int (blk off cap:Nat) (zs:List Int) (w:World) (hH:Holds (Value.int .i64) w blk off zs.toArray) (hblk:blk < w.heap.size) (hsz:zs.length < 4611686018427387904):
 Calls prog 84 #[.slice (some ⟨blk,off,none⟩) zs.length cap] w fun e w'=>
  e= .returned (.tuple #[])∧∃n os,w'=grow (putRow (Value.int .i64) (Sort.ahead w n) blk off (zs.mergeSort fun x y=>decide (x≤y)).toArray) os:=Any.slices_Sort_int Tryz.lays189 blk off cap zs w hH hblk hsz
def Tryz.lays157_ren:Go.Shelf.Ren:=⟨fun | 157=>292 | 229=>303 | 199=>304 | 261=>308 | 311=>310 | 312=>311 | n=>n,fun | 9=>9 | 31=>81 | 3=>3 | 5=>5 | 4=>4 | 119=>360 | 0=>0 | 40=>362 | 152=>365 | 21=>21 | 154=>367 | 51=>101 | 141=>369 | 196=>374 | 193=>371 | 198=>377 | 49=>375 | 194=>372 | 201=>380 | 226=>382 | 46=>228 | 227=>383 | n=>n,fun | 0=>1 | 6=>2 | n=>n⟩
theorem Tryz.lays157:Go.Proofs.Lays.n157 prog Tryz.lays157_ren:={
 mixed:=by kernel_rfl
 f157:=func292.trans (congrArg some (by kernel_rfl))
 f199:=func304.trans (congrArg some (by kernel_rfl))
 f229:=func303.trans (congrArg some (by kernel_rfl))
 f261:=func308.trans (congrArg some (by kernel_rfl))
 f311:=func310.trans (congrArg some (by kernel_rfl))
 f312:=func311.trans (congrArg some (by kernel_rfl))
 t0:=underlying0
 a0:=Tryz.isAgg0
 z0:=Tryz.sizeOf0
 v0:=Tryz.zeroValue0
 t3:=underlying3
 a3:=Tryz.isAgg3
 z3:=Tryz.sizeOf3
 v3:=Tryz.zeroValue3
 t4:=underlying4
 a4:=Tryz.isAgg4
 z4:=Tryz.sizeOf4
 v4:=Tryz.zeroValue4
 t5:=underlying5
 a5:=Tryz.isAgg5
 z5:=Tryz.sizeOf5
 v5:=Tryz.zeroValue5
 t9:=underlying9
 a9:=Tryz.isAgg9
 z9:=Tryz.sizeOf9
 v9:=Tryz.zeroValue9
 t21:=underlying21
 a21:=Tryz.isAgg21
 z21:=Tryz.sizeOf21
 v21:=Tryz.zeroValue21
 t31:=underlying81
 a31:=Tryz.isAgg81
 z31:=Tryz.sizeOf81
 v31:=Tryz.zeroValue81
 t40:=underlying362
 a40:=Tryz.isAgg362
 z40:=Tryz.sizeOf362
 v40:=Tryz.zeroValue362
 t46:=underlying228
 a46:=Tryz.isAgg228
 z46:=Tryz.sizeOf228
 v46:=Tryz.zeroValue228
 t49:=underlying375
 a49:=Tryz.isAgg375
 z49:=Tryz.sizeOf375
 v49:=Tryz.zeroValue375
 t51:=underlying101
 a51:=Tryz.isAgg101
 z51:=Tryz.sizeOf101
 v51:=Tryz.zeroValue101
 t119:=underlying360
 a119:=Tryz.isAgg360
 z119:=Tryz.sizeOf360
 t141:=underlying369
 a141:=Tryz.isAgg369
 z141:=Tryz.sizeOf369
 v141:=Tryz.zeroValue369
 t152:=underlying365
 a152:=Tryz.isAgg365
 z152:=Tryz.sizeOf365
 v152:=Tryz.zeroValue365
 t154:=underlying367
 a154:=Tryz.isAgg367
 z154:=Tryz.sizeOf367
 v154:=Tryz.zeroValue367
 t193:=underlying371
 a193:=Tryz.isAgg371
 z193:=Tryz.sizeOf371
 v193:=Tryz.zeroValue371
 t194:=underlying372
 a194:=Tryz.isAgg372
 z194:=Tryz.sizeOf372
 v194:=Tryz.zeroValue372
 t196:=underlying374
 a196:=Tryz.isAgg374
 z196:=Tryz.sizeOf374
 v196:=Tryz.zeroValue374
 t198:=underlying377
 a198:=Tryz.isAgg377
 z198:=Tryz.sizeOf377
 v198:=Tryz.zeroValue377
 t201:=underlying380
 a201:=Tryz.isAgg380
 z201:=Tryz.sizeOf380
 v201:=Tryz.zeroValue380
 t226:=underlying382
 a226:=Tryz.isAgg382
 z226:=Tryz.sizeOf382
 v226:=Tryz.zeroValue382
 t227:=underlying383
 a227:=Tryz.isAgg383
 z227:=Tryz.sizeOf383
 v227:=Tryz.zeroValue383
 g0:=by kernel_rfl
 g6:=by kernel_rfl}
open Go.RowKit Go.Lib in
theorem Tryz.strings_Fields (s:ByteArray) (w:World) (hs:s.size < 4294967281) (hascii:∀(j:Nat) b,s.data.toList[j]? =some b→b.toNat < 128) (htab:Lib.TabIs prog w "strings.asciiSpace" .u8 Lib.asciiSpaceTab):
 Calls prog 292 #[.string s] w fun e w'=>
  e= .returned (.slice (some ⟨w.heap.size,0,none⟩) (Lib.fields s.data.toList).length (Lib.fields s.data.toList).length)∧w'=w.alloc (.cells ((Lib.fields s.data.toList).map fun l=>Value.string ⟨l.toArray⟩).toArray 9):=Any.strings_Fields Tryz.lays157 (by kernel_rfl) (by kernel_rfl) s w hs hascii htab
def Tryz.lays110_ren:Go.Shelf.Ren:=⟨fun | 110=>174 | 109=>247 | n=>n,fun | 31=>81 | 9=>9 | 4=>4 | 3=>3 | 0=>0 | n=>n,fun | n=>n⟩
theorem Tryz.lays110:Go.Proofs.Lays.n110 prog Tryz.lays110_ren:={
 mixed:=by kernel_rfl
 f109:=func247.trans (congrArg some (by kernel_rfl))
 f110:=func174.trans (congrArg some (by kernel_rfl))
 t0:=underlying0
 a0:=Tryz.isAgg0
 z0:=Tryz.sizeOf0
 v0:=Tryz.zeroValue0
 t3:=underlying3
 a3:=Tryz.isAgg3
 z3:=Tryz.sizeOf3
 v3:=Tryz.zeroValue3
 t4:=underlying4
 a4:=Tryz.isAgg4
 z4:=Tryz.sizeOf4
 v4:=Tryz.zeroValue4
 t9:=underlying9
 a9:=Tryz.isAgg9
 z9:=Tryz.sizeOf9
 v9:=Tryz.zeroValue9
 t31:=underlying81
 a31:=Tryz.isAgg81
 z31:=Tryz.sizeOf81
 v31:=Tryz.zeroValue81}
open Go.Lib in
theorem Tryz.slices_Contains_string (b off n c:Nat) (zs:List ByteArray) (x:ByteArray) (w:World) (hz:n≤zs.length) (hbig:n≤9223372036854775807) (hc:∀j,j < zs.length→w.cell? ⟨b,off+j,none⟩=some (.string (zs.getD j ByteArray.empty))):
 Calls prog 174 #[.slice (some ⟨b,off,none⟩) n c,.string x] w fun e w'=>e= .returned (.bool (Lib.containsS (zs.take n) x))∧w'=w:=Any.slices_Contains_string Tryz.lays110 b off n c zs x w hz hbig hc
def Tryz.laysNm220_ren:Go.Shelf.Ren:=⟨fun | 20=>85 | n=>n,fun | 22=>31 | 3=>3 | 4=>4 | 0=>0 | n=>n,fun | n=>n⟩
theorem Tryz.laysNm220:Go.Proofs.Lays2.n20 prog Tryz.laysNm220_ren:={
 mixed:=by kernel_rfl
 f20:=func85.trans (congrArg some (by kernel_rfl))
 t0:=underlying0
 a0:=Tryz.isAgg0
 z0:=Tryz.sizeOf0
 v0:=Tryz.zeroValue0
 t3:=underlying3
 a3:=Tryz.isAgg3
 z3:=Tryz.sizeOf3
 v3:=Tryz.zeroValue3
 t4:=underlying4
 a4:=Tryz.isAgg4
 z4:=Tryz.sizeOf4
 v4:=Tryz.zeroValue4
 t22:=underlying31
 a22:=Tryz.isAgg31
 z22:=Tryz.sizeOf31
 v22:=Tryz.zeroValue31
 i3:=by kernel_rfl}
open Go.RowKit Go.Lib Go.Sort in
open Go.RowKit Go.Lib Go.Sort in
theorem Tryz.slices_Compact_int (blk off cap:Nat) (zs:List Int) (w:World) (hH:Holds (Value.int .i64) w blk off zs.toArray) (hsz:zs.length≤9223372036854775807) (hcap:zs.length≤cap):
 Calls prog 85 #[.slice (some ⟨blk,off,none⟩) zs.length cap] w fun e w'=>e= .returned (.slice (some ⟨blk,off,none⟩) (Lib.compact zs).length cap)∧∃q,w'=putRow (Value.int .i64) (Sort.ahead w q) blk off (Lib.compact zs++List.replicate (zs.length - (Lib.compact zs).length) 0).toArray:=Any.slices_Compact_int Tryz.laysNm220 blk off cap zs w hH hsz hcap
open Go.RowKit Go.Lib Go.Sort in
theorem Tryz.slices_Compact_int_empty (a:Option Addr) (cap:Nat) (w:World):
 Calls prog 85 #[.slice a 0 cap] w fun e w'=>e= .returned (.slice a 0 cap)∧w'=w:=Any.slices_Compact_int_empty Tryz.laysNm220 a cap w
open Go.RowKit Go.Sort in
theorem Tryz.slices_Sort_int_none (p:Option Addr) (cap:Nat) (w:World):
 Calls prog 84 #[.slice p 0 cap] w fun e w'=>e= .returned (.tuple #[])∧w'=w:=Any.slices_Sort_int_none Tryz.lays189 p cap w
end Go.Proofs

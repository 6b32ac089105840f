/- PROVED HERE: contracts of functions of the library, laid at this dump. No condition beyond the lemmas' own premises. -/
import Derived.Test.YtjfkhpkicioakaaGreatDoorZLx1
import Derived.Shelf.Strings.OnBuilder
import Derived.Shelf.Sort.Plain
import Derived.Shelf.Strings.Prefix
import Derived.Shelf.Slices.Turned
import Derived.Shelf.Slices.In.SortNone
import Derived.Test.YtjfkhpkicioakaaGreatDoorProg
namespace Go.Proofs
open Go.Shelf YtjfkhpkicioakaaGreatDoor
def Tryz.layz156_ren:Go.Shelf.Ren:=⟨fun|156=>65|165=>106|166=>107|169=>108|240=>149|241=>150|276=>183|277=>184|n=>n,fun|31=>22|9=>9|3=>3|4=>4|0=>0|20=>20|72=>138|76=>141|70=>135|37=>136|75=>140|127=>161|164=>180|5=>5|80=>127|n=>n,fun|n=>n⟩
theorem Tryz.layz156:Go.Proofs.Lays.n156 Tryz.prog Tryz.layz156_ren:={
 mixed:=by kernel_rfl
 f156:=Q'0 Tryz.func65
 f165:=Q'0 Tryz.func106
 f166:=Q'0 Tryz.func107
 f169:=Q'0 Tryz.func108
 f240:=Q'0 Tryz.func149
 f241:=Q'0 Tryz.func150
 f276:=Q'0 Tryz.func183
 f277:=Q'0 Tryz.func184
 t0:=Tryz.underlying0
 a0:=Tryz.isAgg0
 z0:=Tryz.sizeOf0
 v0:=Tryz.zeroValue0
 t3:=Tryz.underlying3
 a3:=Tryz.isAgg3
 z3:=Tryz.sizeOf3
 v3:=Tryz.zeroValue3
 t4:=Tryz.underlying4
 a4:=Tryz.isAgg4
 z4:=Tryz.sizeOf4
 v4:=Tryz.zeroValue4
 t9:=Tryz.underlying9
 a9:=Tryz.isAgg9
 z9:=Tryz.sizeOf9
 v9:=Tryz.zeroValue9
 t20:=Tryz.underlying20
 a20:=Tryz.isAgg20
 z20:=Tryz.sizeOf20
 v20:=Tryz.zeroValue20
 t31:=Tryz.underlying22
 a31:=Tryz.isAgg22
 z31:=Tryz.sizeOf22
 v31:=Tryz.zeroValue22
 t37:=Tryz.underlying136
 a37:=Tryz.isAgg136
 z37:=Tryz.sizeOf136
 v37:=Tryz.zeroValue136
 t70:=Tryz.underlying135
 a70:=Tryz.isAgg135
 z70:=Tryz.sizeOf135
 v70:=Tryz.zeroValue135
 t72:=Tryz.underlying138
 a72:=Tryz.isAgg138
 z72:=Tryz.sizeOf138
 v72:=Tryz.zeroValue138
 t75:=Tryz.underlying140
 a75:=Tryz.isAgg140
 z75:=Tryz.sizeOf140
 v75:=Tryz.zeroValue140
 t76:=Tryz.underlying141
 a76:=Tryz.isAgg141
 z76:=Tryz.sizeOf141
 v76:=Tryz.zeroValue141
 t127:=Tryz.underlying161
 a127:=Tryz.isAgg161
 z127:=Tryz.sizeOf161
 v127:=Tryz.zeroValue161
 t164:=Tryz.underlying180
 a164:=Tryz.isAgg180
 z164:=Tryz.sizeOf180
 v164:=Tryz.zeroValue180}
def Tryz.layz190_ren:Go.Shelf.Ren:=⟨fun|190=>32|125=>67|258=>66|128=>118|129=>119|302=>109|303=>110|304=>111|305=>112|306=>113|307=>114|308=>115|309=>116|310=>117|333=>151|329=>152|330=>153|334=>154|335=>155|336=>156|344=>185|n=>n,fun|31=>22|9=>9|3=>3|46=>85|0=>0|51=>117|53=>120|4=>4|183=>145|182=>144|131=>60|5=>5|218=>162|222=>166|228=>183|229=>184|n=>n,fun|n=>n⟩
theorem Tryz.layz190:Go.Proofs.Lays.n190 Tryz.prog Tryz.layz190_ren:={
 mixed:=by kernel_rfl
 f125:=Q'0 Tryz.func67
 f128:=Q'0 Tryz.func118
 f129:=Q'0 Tryz.func119
 f190:=Q'0 Tryz.func32
 f258:=Q'0 Tryz.func66
 f302:=Q'0 Tryz.func109
 f303:=Q'0 Tryz.func110
 f304:=Q'0 Tryz.func111
 f305:=Q'0 Tryz.func112
 f306:=Q'0 Tryz.func113
 f307:=Q'0 Tryz.func114
 f308:=Q'0 Tryz.func115
 f309:=Q'0 Tryz.func116
 f310:=Q'0 Tryz.func117
 f329:=Q'0 Tryz.func152
 f330:=Q'0 Tryz.func153
 f333:=Q'0 Tryz.func151
 f334:=Q'0 Tryz.func154
 f335:=Q'0 Tryz.func155
 f336:=Q'0 Tryz.func156
 f344:=Q'0 Tryz.func185
 t0:=Tryz.underlying0
 a0:=Tryz.isAgg0
 z0:=Tryz.sizeOf0
 v0:=Tryz.zeroValue0
 t3:=Tryz.underlying3
 a3:=Tryz.isAgg3
 z3:=Tryz.sizeOf3
 v3:=Tryz.zeroValue3
 t4:=Tryz.underlying4
 a4:=Tryz.isAgg4
 z4:=Tryz.sizeOf4
 v4:=Tryz.zeroValue4
 t5:=Tryz.underlying5
 a5:=Tryz.isAgg5
 z5:=Tryz.sizeOf5
 v5:=Tryz.zeroValue5
 t9:=Tryz.underlying9
 a9:=Tryz.isAgg9
 z9:=Tryz.sizeOf9
 v9:=Tryz.zeroValue9
 t31:=Tryz.underlying22
 a31:=Tryz.isAgg22
 z31:=Tryz.sizeOf22
 v31:=Tryz.zeroValue22
 t46:=Tryz.underlying85
 a46:=Tryz.isAgg85
 z46:=Tryz.sizeOf85
 v46:=Tryz.zeroValue85
 t51:=Tryz.underlying117
 a51:=Tryz.isAgg117
 z51:=Tryz.sizeOf117
 v51:=Tryz.zeroValue117
 t53:=Tryz.underlying120
 a53:=Tryz.isAgg120
 z53:=Tryz.sizeOf120
 v53:=Tryz.zeroValue120
 t131:=Tryz.underlying60
 a131:=Tryz.isAgg60
 z131:=Tryz.sizeOf60
 v131:=Tryz.zeroValue60
 t182:=Tryz.underlying144
 a182:=Tryz.isAgg144
 z182:=Tryz.sizeOf144
 v182:=Tryz.zeroValue144
 t183:=Tryz.underlying145
 a183:=Tryz.isAgg145
 z183:=Tryz.sizeOf145
 v183:=Tryz.zeroValue145
 t218:=Tryz.underlying162
 a218:=Tryz.isAgg162
 z218:=Tryz.sizeOf162
 v218:=Tryz.zeroValue162
 t222:=Tryz.underlying166
 a222:=Tryz.isAgg166
 z222:=Tryz.sizeOf166
 v222:=Tryz.zeroValue166
 t228:=Tryz.underlying183
 a228:=Tryz.isAgg183
 z228:=Tryz.sizeOf183
 v228:=Tryz.zeroValue183
 t229:=Tryz.underlying184
 a229:=Tryz.isAgg184
 z229:=Tryz.sizeOf184
 v229:=Tryz.zeroValue184}
def Tryz.layz101_ren:Go.Shelf.Ren:=⟨fun|101=>161|208=>188|206=>134|n=>n,fun|9=>9|4=>4|3=>3|n=>n,fun|n=>n⟩
theorem Tryz.layz101:Go.Proofs.Lays.n101 Tryz.prog Tryz.layz101_ren:={
 mixed:=by kernel_rfl
 f101:=Q'0 Tryz.func161
 f206:=Q'0 Tryz.func134
 f208:=Q'0 Tryz.func188
 t3:=Tryz.underlying3
 a3:=Tryz.isAgg3
 z3:=Tryz.sizeOf3
 v3:=Tryz.zeroValue3
 t4:=Tryz.underlying4
 a4:=Tryz.isAgg4
 z4:=Tryz.sizeOf4
 v4:=Tryz.zeroValue4
 t9:=Tryz.underlying9
 a9:=Tryz.isAgg9
 z9:=Tryz.sizeOf9
 v9:=Tryz.zeroValue9}
def Tryz.layz110_ren:Go.Shelf.Ren:=⟨fun|110=>136|109=>174|n=>n,fun|31=>22|9=>9|4=>4|3=>3|0=>0|n=>n,fun|n=>n⟩
theorem Tryz.layz110:Go.Proofs.Lays.n110 Tryz.prog Tryz.layz110_ren:={
 mixed:=by kernel_rfl
 f109:=Q'0 Tryz.func174
 f110:=Q'0 Tryz.func136
 t0:=Tryz.underlying0
 a0:=Tryz.isAgg0
 z0:=Tryz.sizeOf0
 v0:=Tryz.zeroValue0
 t3:=Tryz.underlying3
 a3:=Tryz.isAgg3
 z3:=Tryz.sizeOf3
 v3:=Tryz.zeroValue3
 t4:=Tryz.underlying4
 a4:=Tryz.isAgg4
 z4:=Tryz.sizeOf4
 v4:=Tryz.zeroValue4
 t9:=Tryz.underlying9
 a9:=Tryz.isAgg9
 z9:=Tryz.sizeOf9
 v9:=Tryz.zeroValue9
 t31:=Tryz.underlying22
 a31:=Tryz.isAgg22
 z31:=Tryz.sizeOf22
 v31:=Tryz.zeroValue22}
theorem Tryz.Builder_Extra_156:Builder.Extra Tryz.prog Tryz.layz156_ren:={
 sizeBuilder:=by kernel_rfl
 liesBuilder:=by kernel_rfl
 t5:=Tryz.underlying5
 a5:=Tryz.isAgg5
 z5:=Tryz.sizeOf5
 v5:=Tryz.zeroValue5
 infoByte:=by kernel_rfl
 cellsByte:=by kernel_rfl
 sizeByte:=by kernel_rfl
 neB5:=by decide}
open Go.RowKit in
theorem Tryz.strings_Join (bk o c:Nat) (xs:List ByteArray) (sep:ByteArray) (w:World) (hcells: ∀(j:Nat) x,xs[j]?=some x->w.cell? ⟨bk,o+j,none⟩=some (.string x)) (hbk:bk<w.heap.size) (hN:xs.length<=140737488355328) (hcap:xs.length<=c) (hlen:(Lib.join (xs.map (·.data.toList)) sep.data.toList).length<=140737488355328):
    Calls Tryz.prog 65 #[.slice (some ⟨bk,o,none⟩) xs.length c,.string sep] w fun e w'=>e= .returned (.string ⟨(Lib.join (xs.map (·.data.toList)) sep.data.toList).toArray⟩)/\Below w.heap.size w w':=Any.strings_Join Tryz.layz156 Tryz.Builder_Extra_156 bk o c xs sep w hcells hbk hN hcap hlen
open Go.RowKit in
theorem Tryz.strings_Join_none (a:Option Addr) (c:Nat) (sep:ByteArray) (w:World):
    Calls Tryz.prog 65 #[.slice a 0 c,.string sep] w fun e w'=>e= .returned (.string ⟨#[]⟩)/\w'=w:=Any.strings_Join_none Tryz.layz156 Tryz.Builder_Extra_156 a c sep w
open Go.Sort Go.RowKit in
theorem Tryz.slices_Sort_string (blk off cap:Nat) (ss:List (List UInt8)) (w:World) (hH:Holds encStr w blk off ss.toArray) (hblk:blk<w.heap.size) (hsz:ss.length<4611686018427387904):
    Calls Tryz.prog 32 #[.slice (some ⟨blk,off,none⟩) ss.length cap] w fun e w'=>
      e= .returned (.tuple #[])/\ ∃n os,w'=grow (putRow encStr (Sort.ahead w n) blk off (ss.mergeSort fun x y=>decide (x<=y)).toArray) os:=Any.slices_Sort_string Tryz.layz190 blk off cap ss w hH hblk hsz
open Go.RowKit Go.Lib in
theorem Tryz.strings_TrimPrefix (s p:ByteArray) (w:World):
    Calls Tryz.prog 161 #[.string s,.string p] w fun e w'=>e= .returned (.string ⟨(Lib.trimPrefix s.data.toList p.data.toList).toArray⟩)/\w'=w:=Any.strings_TrimPrefix Tryz.layz101 s p w
open Go.Lib in
theorem Tryz.slices_Contains_string_empty (a:Option Addr) (c:Nat) (x:ByteArray) (w:World):
    Calls Tryz.prog 136 #[.slice a 0 c,.string x] w fun e w'=>e= .returned (.bool false)/\w'=w:=Any.slices_Contains_string_empty Tryz.layz110 a c x w
end Go.Proofs

/- PROVED HERE: contracts of functions of the library, laid at this dump. No condition beyond the lemmas' own premises. -/
import Derived.Test.YtjfkhpkicioakaaGreatDoorZLx1
import Derived.Shelf.Strings.OnBuilder
import Derived.Shelf.Small.Wraps
import Derived.Shelf.Strings.Search3
import Derived.Shelf.Sort.Plain
import Derived.Shelf.Strings.Prefix
import Derived.Shelf.Slices.Turned
import Derived.Shelf.Slices.In.SortNone
import Derived.Test.YtjfkhpkicioakaaGreatDoorProg
namespace Go.Proofs
open Go.Shelf YtjfkhpkicioakaaGreatDoor
def Tryz.layy103_ren:Go.Shelf.Ren:=⟨fun|103=>193|210=>215|206=>134|n=>n,fun|9=>9|4=>4|24=>71|3=>3|n=>n,fun|n=>n⟩
theorem Tryz.layy103:Go.Proofs.Lays.n103 Tryz.prog Tryz.layy103_ren:={
 mixed:=by kernel_rfl
 f103:=Q'0 Tryz.func193
 f206:=Q'0 Tryz.func134
 f210:=Q'0 Tryz.func215
 t3:=Tryz.underlying3
 a3:=Tryz.isAgg3
 z3:=Tryz.sizeOf3
 v3:=Tryz.zeroValue3
 t4:=Tryz.underlying4
 a4:=Tryz.isAgg4
 z4:=Tryz.sizeOf4
 v4:=Tryz.zeroValue4
 t9:=Tryz.underlying9
 a9:=Tryz.isAgg9
 z9:=Tryz.sizeOf9
 v9:=Tryz.zeroValue9
 t24:=Tryz.underlying71
 a24:=Tryz.isAgg71
 z24:=Tryz.sizeOf71
 v24:=Tryz.zeroValue71}
def Tryz.layy144_ren:Go.Shelf.Ren:=⟨fun|144=>231|143=>238|219=>241|217=>247|225=>248|224=>249|267=>250|266=>255|314=>256|n=>n,fun|9=>9|4=>4|3=>3|5=>5|46=>85|146=>118|51=>117|n=>n,fun|1=>4|n=>n⟩
theorem Tryz.layy144:Go.Proofs.Lays.n144 Tryz.prog Tryz.layy144_ren:={
 mixed:=by kernel_rfl
 f143:=Q'0 Tryz.func238
 f144:=Q'0 Tryz.func231
 f217:=Q'0 Tryz.func247
 f219:=Q'0 Tryz.func241
 f224:=Q'0 Tryz.func249
 f225:=Q'0 Tryz.func248
 f266:=Q'0 Tryz.func255
 f267:=Q'0 Tryz.func250
 f314:=Q'0 Tryz.func256
 t3:=Tryz.underlying3
 a3:=Tryz.isAgg3
 z3:=Tryz.sizeOf3
 v3:=Tryz.zeroValue3
 t4:=Tryz.underlying4
 a4:=Tryz.isAgg4
 z4:=Tryz.sizeOf4
 v4:=Tryz.zeroValue4
 t5:=Tryz.underlying5
 a5:=Tryz.isAgg5
 z5:=Tryz.sizeOf5
 v5:=Tryz.zeroValue5
 t9:=Tryz.underlying9
 a9:=Tryz.isAgg9
 z9:=Tryz.sizeOf9
 v9:=Tryz.zeroValue9
 t46:=Tryz.underlying85
 a46:=Tryz.isAgg85
 z46:=Tryz.sizeOf85
 v46:=Tryz.zeroValue85
 t51:=Tryz.underlying117
 a51:=Tryz.isAgg117
 z51:=Tryz.sizeOf117
 v51:=Tryz.zeroValue117
 t146:=Tryz.underlying118
 a146:=Tryz.isAgg118
 z146:=Tryz.sizeOf118
 v146:=Tryz.zeroValue118
 g1:=by kernel_rfl}
def Tryz.layy107_ren:Go.Shelf.Ren:=⟨fun|107=>160|108=>187|n=>n,fun|28=>28|3=>3|4=>4|0=>0|n=>n,fun|n=>n⟩
theorem Tryz.layy107:Go.Proofs.Lays.n107 Tryz.prog Tryz.layy107_ren:={
 mixed:=by kernel_rfl
 f107:=Q'0 Tryz.func160
 f108:=Q'0 Tryz.func187
 t0:=Tryz.underlying0
 a0:=Tryz.isAgg0
 z0:=Tryz.sizeOf0
 v0:=Tryz.zeroValue0
 t3:=Tryz.underlying3
 a3:=Tryz.isAgg3
 z3:=Tryz.sizeOf3
 v3:=Tryz.zeroValue3
 t4:=Tryz.underlying4
 a4:=Tryz.isAgg4
 z4:=Tryz.sizeOf4
 v4:=Tryz.zeroValue4
 t28:=Tryz.underlying28
 a28:=Tryz.isAgg28
 z28:=Tryz.sizeOf28
 v28:=Tryz.zeroValue28}
open Go.RowKit in
theorem Tryz.strings_CutPrefix (s p:ByteArray) (w:World):
    Calls Tryz.prog 193 #[.string s,.string p] w fun e w'=>e= .returned (.tuple #[.string ⟨(Lib.trimPrefix s.data.toList p.data.toList).toArray⟩,.bool (Lib.hasPrefix s.data.toList p.data.toList)])/\w'=w:=Any.strings_CutPrefix Tryz.layy103 s p w
open Go.RowKit Go.Lib in
theorem Tryz.strings_Contains (s sub:ByteArray) (m:Int) (w:World) (hs:s.size<4294967281) (hm:w.cell? ⟨4,0,none⟩=some (.int .i64 m)):
    Calls Tryz.prog 231 #[.string s,.string sub] w fun e w'=>e= .returned (.bool (Lib.contains s.data.toList sub.data.toList))/\w'=w:=Any.strings_Contains Tryz.layy144 s sub m w hs hm
open Go.Lib in
theorem Tryz.slices_Contains_int (b off n c:Nat) (zs:List Int) (x:Int) (w:World) (hz:n<=zs.length) (hbig:n<=9223372036854775807) (hc: ∀j,j<zs.length->w.cell? ⟨b,off+j,none⟩=some (.int .i64 (zs.getD j 0))):
    Calls Tryz.prog 160 #[.slice (some ⟨b,off,none⟩) n c,.int .i64 x] w fun e w'=>e= .returned (.bool ((zs.take n).contains x))/\w'=w:=Any.slices_Contains_int Tryz.layy107 b off n c zs x w hz hbig hc
end Go.Proofs

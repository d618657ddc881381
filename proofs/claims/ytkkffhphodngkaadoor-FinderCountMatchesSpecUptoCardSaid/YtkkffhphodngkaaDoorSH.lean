import Derived.Shelf.Small.Bits
import Derived.Shelf.Strconv.Itoa0
import Derived.Shelf.Sort.Plain
import Derived.Shelf.Slices.Turned
import Derived.Shelf.Slices.CompactS
import Derived.Ground.Names2Prog
import Derived.Shelf.Slices.SearchI
import Derived.Shelf.Slices.Cells
import Derived.Shelf.Slices.In.SortNone
import Derived.Shelf.SlSortCmp.WholeK
import Derived.Shelf.SlSortCmp.NoneTotal
import Derived.Ground.SlsfProg
import Derived.Test.YtkkffhphodngkaaDoorProg
namespace Go.Proofs
open Go.Shelf
def Tryd.lays190_ren:Go.Shelf.Ren:=⟨fun|190=>59|125=>83|258=>82|128=>97|129=>98|302=>88|303=>89|304=>90|305=>91|306=>92|307=>93|308=>94|309=>95|310=>96|333=>107|329=>108|330=>109|334=>110|335=>111|336=>85|344=>115|n=>n,fun|31=>27|9=>9|3=>3|46=>100|0=>0|51=>130|53=>132|4=>4|183=>123|182=>122|131=>69|5=>5|218=>138|222=>142|228=>146|229=>147|n=>n,fun|n=>n⟩
theorem Tryd.lays190:Go.Proofs.Lays.n190 Tryd.prog Tryd.lays190_ren:={
 mixed:=by kernel_rfl
 f125:=Tryd.func83.trans (congrArg some (by kernel_rfl))
 f128:=Tryd.func97.trans (congrArg some (by kernel_rfl))
 f129:=Tryd.func98.trans (congrArg some (by kernel_rfl))
 f190:=Tryd.func59.trans (congrArg some (by kernel_rfl))
 f258:=Tryd.func82.trans (congrArg some (by kernel_rfl))
 f302:=Tryd.func88.trans (congrArg some (by kernel_rfl))
 f303:=Tryd.func89.trans (congrArg some (by kernel_rfl))
 f304:=Tryd.func90.trans (congrArg some (by kernel_rfl))
 f305:=Tryd.func91.trans (congrArg some (by kernel_rfl))
 f306:=Tryd.func92.trans (congrArg some (by kernel_rfl))
 f307:=Tryd.func93.trans (congrArg some (by kernel_rfl))
 f308:=Tryd.func94.trans (congrArg some (by kernel_rfl))
 f309:=Tryd.func95.trans (congrArg some (by kernel_rfl))
 f310:=Tryd.func96.trans (congrArg some (by kernel_rfl))
 f329:=Tryd.func108.trans (congrArg some (by kernel_rfl))
 f330:=Tryd.func109.trans (congrArg some (by kernel_rfl))
 f333:=Tryd.func107.trans (congrArg some (by kernel_rfl))
 f334:=Tryd.func110.trans (congrArg some (by kernel_rfl))
 f335:=Tryd.func111.trans (congrArg some (by kernel_rfl))
 f336:=Tryd.func85.trans (congrArg some (by kernel_rfl))
 f344:=Tryd.func115.trans (congrArg some (by kernel_rfl))
 t0:=Tryd.underlying0
 a0:=Tryd.isAgg0
 z0:=Tryd.sizeOf0
 v0:=Tryd.zeroValue0
 t3:=Tryd.underlying3
 a3:=Tryd.isAgg3
 z3:=Tryd.sizeOf3
 v3:=Tryd.zeroValue3
 t4:=Tryd.underlying4
 a4:=Tryd.isAgg4
 z4:=Tryd.sizeOf4
 v4:=Tryd.zeroValue4
 t5:=Tryd.underlying5
 a5:=Tryd.isAgg5
 z5:=Tryd.sizeOf5
 v5:=Tryd.zeroValue5
 t9:=Tryd.underlying9
 a9:=Tryd.isAgg9
 z9:=Tryd.sizeOf9
 v9:=Tryd.zeroValue9
 t31:=Tryd.underlying27
 a31:=Tryd.isAgg27
 z31:=Tryd.sizeOf27
 v31:=Tryd.zeroValue27
 t46:=Tryd.underlying100
 a46:=Tryd.isAgg100
 z46:=Tryd.sizeOf100
 v46:=Tryd.zeroValue100
 t51:=Tryd.underlying130
 a51:=Tryd.isAgg130
 z51:=Tryd.sizeOf130
 v51:=Tryd.zeroValue130
 t53:=Tryd.underlying132
 a53:=Tryd.isAgg132
 z53:=Tryd.sizeOf132
 v53:=Tryd.zeroValue132
 t131:=Tryd.underlying69
 a131:=Tryd.isAgg69
 z131:=Tryd.sizeOf69
 v131:=Tryd.zeroValue69
 t182:=Tryd.underlying122
 a182:=Tryd.isAgg122
 z182:=Tryd.sizeOf122
 v182:=Tryd.zeroValue122
 t183:=Tryd.underlying123
 a183:=Tryd.isAgg123
 z183:=Tryd.sizeOf123
 v183:=Tryd.zeroValue123
 t218:=Tryd.underlying138
 a218:=Tryd.isAgg138
 z218:=Tryd.sizeOf138
 v218:=Tryd.zeroValue138
 t222:=Tryd.underlying142
 a222:=Tryd.isAgg142
 z222:=Tryd.sizeOf142
 v222:=Tryd.zeroValue142
 t228:=Tryd.underlying146
 a228:=Tryd.isAgg146
 z228:=Tryd.sizeOf146
 v228:=Tryd.zeroValue146
 t229:=Tryd.underlying147
 a229:=Tryd.isAgg147
 z229:=Tryd.sizeOf147
 v229:=Tryd.zeroValue147}
open Go.Sort Go.RowKit in
theorem Tryd.slices_Sort_string (blk off cap:Nat)(ss:List (List UInt8))(w:World)(hH:Holds encStr w blk off ss.toArray)(hblk:blk<w.heap.size)(hsz:ss.length<4611686018427387904):
  Calls Tryd.prog 59 #[.slice (some ⟨blk,off,none⟩) ss.length cap] w fun e w'=>
   e= .returned (.tuple #[])∧∃n os,w'=grow (putRow encStr (Sort.ahead w n) blk off (ss.mergeSort fun x y=>decide (x≤y)).toArray) os:=Any.slices_Sort_string Tryd.lays190 blk off cap ss w hH hblk hsz
open Go.RowKit Go.Sort in
theorem Tryd.slices_Sort_string_none (p:Option Addr)(cap:Nat)(w:World):
  Calls Tryd.prog 59 #[.slice p 0 cap] w fun e w'=>e= .returned (.tuple #[])∧w'=w:=Any.slices_Sort_string_none Tryd.lays190 p cap w
def Tryd.lays194_ren:Go.Shelf.Ren:=⟨fun|194=>60|n=>n,fun|31=>27|9=>9|3=>3|4=>4|0=>0|n=>n,fun|n=>n⟩
theorem Tryd.lays194:Go.Proofs.Lays.n194 Tryd.prog Tryd.lays194_ren:={
 mixed:=by kernel_rfl
 f194:=Tryd.func60.trans (congrArg some (by kernel_rfl))
 t0:=Tryd.underlying0
 a0:=Tryd.isAgg0
 z0:=Tryd.sizeOf0
 v0:=Tryd.zeroValue0
 t3:=Tryd.underlying3
 a3:=Tryd.isAgg3
 z3:=Tryd.sizeOf3
 v3:=Tryd.zeroValue3
 t4:=Tryd.underlying4
 a4:=Tryd.isAgg4
 z4:=Tryd.sizeOf4
 v4:=Tryd.zeroValue4
 t9:=Tryd.underlying9
 a9:=Tryd.isAgg9
 z9:=Tryd.sizeOf9
 v9:=Tryd.zeroValue9
 t31:=Tryd.underlying27
 a31:=Tryd.isAgg27
 z31:=Tryd.sizeOf27
 v31:=Tryd.zeroValue27}
open Go.RowKit Go.Lib Go.Sort in
theorem Tryd.slices_Compact_string (blk off cap:Nat)(zs:List (List UInt8))(w:World)(hH:Holds encStr w blk off zs.toArray)(hsz:zs.length≤9223372036854775807)(hcap:zs.length≤cap):
  Calls Tryd.prog 60 #[.slice (some ⟨blk,off,none⟩) zs.length cap] w fun e w'=>e= .returned (.slice (some ⟨blk,off,none⟩) (Lib.compact zs).length cap)∧∃q,w'=putRow encStr (Sort.ahead w q) blk off (Lib.compact zs++List.replicate (zs.length-(Lib.compact zs).length) []).toArray:=Any.slices_Compact_string Tryd.lays194 blk off cap zs w hH hsz hcap
open Go.RowKit Go.Lib Go.Sort in
theorem Tryd.slices_Compact_string_empty (a:Option Addr)(cap:Nat)(w:World):
  Calls Tryd.prog 60 #[.slice a 0 cap] w fun e w'=>e= .returned (.slice a 0 cap)∧w'=w:=Any.slices_Compact_string_empty Tryd.lays194 a cap w
def Tryd.laysSlsf6_f61_ren:Go.Shelf.Ren:=⟨fun|6=>61|15=>83|14=>84|28=>97|29=>98|20=>99|21=>100|22=>101|23=>102|24=>103|25=>104|26=>105|27=>106|46=>112|47=>108|48=>109|49=>113|50=>114|57=>116|n=>n,fun|22=>40|24=>62|25=>82|3=>3|39=>100|0=>0|53=>130|55=>132|4=>4|46=>123|45=>122|50=>69|5=>5|9=>9|66=>138|70=>142|76=>146|77=>147|n=>n,fun|n=>n⟩
theorem Tryd.laysSlsf6_f61:Go.Proofs.SlLaysF0.n6 Tryd.prog Tryd.laysSlsf6_f61_ren:={
 mixed:=by kernel_rfl
 f6:=⟨Tryd.f61.name,by decide,Tryd.func61.trans (congrArg some (by kernel_rfl))⟩
 f14:=⟨Tryd.f84.name,by decide,Tryd.func84.trans (congrArg some (by kernel_rfl))⟩
 f15:=Tryd.func83.trans (congrArg some (by kernel_rfl))
 f20:=⟨Tryd.f99.name,by decide,Tryd.func99.trans (congrArg some (by kernel_rfl))⟩
 f21:=⟨Tryd.f100.name,by decide,Tryd.func100.trans (congrArg some (by kernel_rfl))⟩
 f22:=⟨Tryd.f101.name,by decide,Tryd.func101.trans (congrArg some (by kernel_rfl))⟩
 f23:=⟨Tryd.f102.name,by decide,Tryd.func102.trans (congrArg some (by kernel_rfl))⟩
 f24:=⟨Tryd.f103.name,by decide,Tryd.func103.trans (congrArg some (by kernel_rfl))⟩
 f25:=⟨Tryd.f104.name,by decide,Tryd.func104.trans (congrArg some (by kernel_rfl))⟩
 f26:=⟨Tryd.f105.name,by decide,Tryd.func105.trans (congrArg some (by kernel_rfl))⟩
 f27:=⟨Tryd.f106.name,by decide,Tryd.func106.trans (congrArg some (by kernel_rfl))⟩
 f28:=Tryd.func97.trans (congrArg some (by kernel_rfl))
 f29:=Tryd.func98.trans (congrArg some (by kernel_rfl))
 f46:=⟨Tryd.f112.name,by decide,Tryd.func112.trans (congrArg some (by kernel_rfl))⟩
 f47:=Tryd.func108.trans (congrArg some (by kernel_rfl))
 f48:=Tryd.func109.trans (congrArg some (by kernel_rfl))
 f49:=⟨Tryd.f113.name,by decide,Tryd.func113.trans (congrArg some (by kernel_rfl))⟩
 f50:=⟨Tryd.f114.name,by decide,Tryd.func114.trans (congrArg some (by kernel_rfl))⟩
 f57:=⟨Tryd.f116.name,by decide,Tryd.func116.trans (congrArg some (by kernel_rfl))⟩
 t0:=Tryd.underlying0
 a0:=Tryd.isAgg0
 z0:=Tryd.sizeOf0
 v0:=Tryd.zeroValue0
 t3:=Tryd.underlying3
 a3:=Tryd.isAgg3
 z3:=Tryd.sizeOf3
 v3:=Tryd.zeroValue3
 t4:=Tryd.underlying4
 a4:=Tryd.isAgg4
 z4:=Tryd.sizeOf4
 v4:=Tryd.zeroValue4
 t5:=Tryd.underlying5
 a5:=Tryd.isAgg5
 z5:=Tryd.sizeOf5
 v5:=Tryd.zeroValue5
 t9:=Tryd.underlying9
 a9:=Tryd.isAgg9
 z9:=Tryd.sizeOf9
 v9:=Tryd.zeroValue9
 t22:=Tryd.underlying40
 a22:=Tryd.isAgg40
 z22:=Tryd.sizeOf40
 v22:=Tryd.zeroValue40
 t25:=Tryd.underlying82
 a25:=Tryd.isAgg82
 z25:=Tryd.sizeOf82
 v25:=Tryd.zeroValue82
 t39:=Tryd.underlying100
 a39:=Tryd.isAgg100
 z39:=Tryd.sizeOf100
 v39:=Tryd.zeroValue100
 t45:=Tryd.underlying122
 a45:=Tryd.isAgg122
 z45:=Tryd.sizeOf122
 v45:=Tryd.zeroValue122
 t46:=Tryd.underlying123
 a46:=Tryd.isAgg123
 z46:=Tryd.sizeOf123
 v46:=Tryd.zeroValue123
 t50:=Tryd.underlying69
 a50:=Tryd.isAgg69
 z50:=Tryd.sizeOf69
 v50:=Tryd.zeroValue69
 t53:=Tryd.underlying130
 a53:=Tryd.isAgg130
 z53:=Tryd.sizeOf130
 v53:=Tryd.zeroValue130
 t55:=Tryd.underlying132
 a55:=Tryd.isAgg132
 z55:=Tryd.sizeOf132
 v55:=Tryd.zeroValue132
 t66:=Tryd.underlying138
 a66:=Tryd.isAgg138
 z66:=Tryd.sizeOf138
 v66:=Tryd.zeroValue138
 t70:=Tryd.underlying142
 a70:=Tryd.isAgg142
 z70:=Tryd.sizeOf142
 v70:=Tryd.zeroValue142
 t76:=Tryd.underlying146
 a76:=Tryd.isAgg146
 z76:=Tryd.sizeOf146
 v76:=Tryd.zeroValue146
 t77:=Tryd.underlying147
 a77:=Tryd.isAgg147
 z77:=Tryd.sizeOf147
 v77:=Tryd.zeroValue147}
open Go.Sort Go.RowKit in
theorem Tryd.slices_SortFunc_f61 {α:Type}[Inhabited α](enc:α→List Value)(hk:∀x,(enc x).length=3)(h1:∀x,∀v∈enc x,v.oneCell'=true)(cf:α→α→Int)(hO:SWO (ltOf cf))(g:Nat)(cb:Array Value)(blk off cap:Nat)(d:Array α)(w:World)(eg:∀args w,(callFunc g args).run Tryd.prog w= .ok (.enter g args) w)(hcmp:CmpLays Tryd.prog g cb enc 3 cf blk off d.size w)(hH:HoldsK enc 3 w blk off d)(hblk:blk<w.heap.size)(hsz:d.size<4611686018427387904):
  Calls Tryd.prog 61 #[.slice (some ⟨blk,off,none⟩) d.size cap,.func (.func g) #[] cb] w fun e w'=>e= .returned (.tuple #[])∧∃d' n os,PermIn 0 d.size d d'∧SortedIn (ltOf cf) 0 d.size d'∧w'=sortWorldK enc 3 w blk off n d' os:=AnyQ.slices_SortFunc Tryd.laysSlsf6_f61 3 (fun _=>by kernel_rfl) (fun _=>by kernel_rfl) enc hk h1 cf hO g cb blk off cap d w eg hcmp hH hblk hsz
theorem Tryd.slices_SortFunc_none_f61 (p:Option Addr)(cap:Nat)(fv:Value)(w:World):
  Calls Tryd.prog 61 #[.slice p 0 cap,fv] w fun e w'=>e= .returned (.tuple #[])∧w'=w:=AnyF.slices_SortFunc_none Tryd.laysSlsf6_f61 p cap fv w
end Go.Proofs

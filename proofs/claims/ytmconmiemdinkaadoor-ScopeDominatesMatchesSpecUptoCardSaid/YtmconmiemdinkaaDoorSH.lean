import Derived.Shelf.Small.Bits
import Derived.Shelf.Strconv.Itoa0
import Derived.Shelf.Sort.Plain
import Derived.Shelf.Slices.Turned
import Derived.Shelf.Slices.CompactS
import Derived.Shelf.Slices.Cells
import Derived.Shelf.Slices.In.SortNone
import Derived.Ground.SlgnProg
import Derived.Shelf.SlicesE.Clone
import Derived.Test.YtmconmiemdinkaaDoorProg
namespace Go.Proofs
open Go.Shelf
def Tryd.lays190_ren:Go.Shelf.Ren:=⟨fun|190=>55|125=>59|258=>58|128=>69|129=>70|302=>60|303=>61|304=>62|305=>63|306=>64|307=>65|308=>66|309=>67|310=>68|333=>71|329=>72|330=>73|334=>74|335=>75|336=>76|344=>77|n=>n,fun|31=>24|9=>9|3=>3|46=>94|0=>0|51=>105|53=>107|4=>4|183=>97|182=>96|131=>102|5=>5|218=>108|222=>112|228=>114|229=>69|n=>n,fun|n=>n⟩
theorem Tryd.lays190:Go.Proofs.Lays.n190 Tryd.prog Tryd.lays190_ren:={
 mixed:=by kernel_rfl
 f125:=Tryd.func59.trans (congrArg some (by kernel_rfl))
 f128:=Tryd.func69.trans (congrArg some (by kernel_rfl))
 f129:=Tryd.func70.trans (congrArg some (by kernel_rfl))
 f190:=Tryd.func55.trans (congrArg some (by kernel_rfl))
 f258:=Tryd.func58.trans (congrArg some (by kernel_rfl))
 f302:=Tryd.func60.trans (congrArg some (by kernel_rfl))
 f303:=Tryd.func61.trans (congrArg some (by kernel_rfl))
 f304:=Tryd.func62.trans (congrArg some (by kernel_rfl))
 f305:=Tryd.func63.trans (congrArg some (by kernel_rfl))
 f306:=Tryd.func64.trans (congrArg some (by kernel_rfl))
 f307:=Tryd.func65.trans (congrArg some (by kernel_rfl))
 f308:=Tryd.func66.trans (congrArg some (by kernel_rfl))
 f309:=Tryd.func67.trans (congrArg some (by kernel_rfl))
 f310:=Tryd.func68.trans (congrArg some (by kernel_rfl))
 f329:=Tryd.func72.trans (congrArg some (by kernel_rfl))
 f330:=Tryd.func73.trans (congrArg some (by kernel_rfl))
 f333:=Tryd.func71.trans (congrArg some (by kernel_rfl))
 f334:=Tryd.func74.trans (congrArg some (by kernel_rfl))
 f335:=Tryd.func75.trans (congrArg some (by kernel_rfl))
 f336:=Tryd.func76.trans (congrArg some (by kernel_rfl))
 f344:=Tryd.func77.trans (congrArg some (by kernel_rfl))
 t0:=Tryd.underlying0
 a0:=Tryd.isAgg0
 z0:=Tryd.sizeOf0
 v0:=Tryd.zeroValue0
 t3:=Tryd.underlying3
 a3:=Tryd.isAgg3
 z3:=Tryd.sizeOf3
 v3:=Tryd.zeroValue3
 t4:=Tryd.underlying4
 a4:=Tryd.isAgg4
 z4:=Tryd.sizeOf4
 v4:=Tryd.zeroValue4
 t5:=Tryd.underlying5
 a5:=Tryd.isAgg5
 z5:=Tryd.sizeOf5
 v5:=Tryd.zeroValue5
 t9:=Tryd.underlying9
 a9:=Tryd.isAgg9
 z9:=Tryd.sizeOf9
 v9:=Tryd.zeroValue9
 t31:=Tryd.underlying24
 a31:=Tryd.isAgg24
 z31:=Tryd.sizeOf24
 v31:=Tryd.zeroValue24
 t46:=Tryd.underlying94
 a46:=Tryd.isAgg94
 z46:=Tryd.sizeOf94
 v46:=Tryd.zeroValue94
 t51:=Tryd.underlying105
 a51:=Tryd.isAgg105
 z51:=Tryd.sizeOf105
 v51:=Tryd.zeroValue105
 t53:=Tryd.underlying107
 a53:=Tryd.isAgg107
 z53:=Tryd.sizeOf107
 v53:=Tryd.zeroValue107
 t131:=Tryd.underlying102
 a131:=Tryd.isAgg102
 z131:=Tryd.sizeOf102
 v131:=Tryd.zeroValue102
 t182:=Tryd.underlying96
 a182:=Tryd.isAgg96
 z182:=Tryd.sizeOf96
 v182:=Tryd.zeroValue96
 t183:=Tryd.underlying97
 a183:=Tryd.isAgg97
 z183:=Tryd.sizeOf97
 v183:=Tryd.zeroValue97
 t218:=Tryd.underlying108
 a218:=Tryd.isAgg108
 z218:=Tryd.sizeOf108
 v218:=Tryd.zeroValue108
 t222:=Tryd.underlying112
 a222:=Tryd.isAgg112
 z222:=Tryd.sizeOf112
 v222:=Tryd.zeroValue112
 t228:=Tryd.underlying114
 a228:=Tryd.isAgg114
 z228:=Tryd.sizeOf114
 v228:=Tryd.zeroValue114
 t229:=Tryd.underlying69
 a229:=Tryd.isAgg69
 z229:=Tryd.sizeOf69
 v229:=Tryd.zeroValue69}
open Go.Sort Go.RowKit in
theorem Tryd.slices_Sort_string (blk off cap:Nat)(ss:List (List UInt8))(w:World)(hH:Holds encStr w blk off ss.toArray)(hblk:blk<w.heap.size)(hsz:ss.length<4611686018427387904):
  Calls Tryd.prog 55 #[.slice (some ⟨blk,off,none⟩) ss.length cap] w fun e w'=>
   e= .returned (.tuple #[])∧∃n os,w'=grow (putRow encStr (Sort.ahead w n) blk off (ss.mergeSort fun x y=>decide (x≤y)).toArray) os:=Any.slices_Sort_string Tryd.lays190 blk off cap ss w hH hblk hsz
open Go.RowKit Go.Sort in
theorem Tryd.slices_Sort_string_none (p:Option Addr)(cap:Nat)(w:World):
  Calls Tryd.prog 55 #[.slice p 0 cap] w fun e w'=>e= .returned (.tuple #[])∧w'=w:=Any.slices_Sort_string_none Tryd.lays190 p cap w
def Tryd.lays194_ren:Go.Shelf.Ren:=⟨fun|194=>56|n=>n,fun|31=>24|9=>9|3=>3|4=>4|0=>0|n=>n,fun|n=>n⟩
theorem Tryd.lays194:Go.Proofs.Lays.n194 Tryd.prog Tryd.lays194_ren:={
 mixed:=by kernel_rfl
 f194:=Tryd.func56.trans (congrArg some (by kernel_rfl))
 t0:=Tryd.underlying0
 a0:=Tryd.isAgg0
 z0:=Tryd.sizeOf0
 v0:=Tryd.zeroValue0
 t3:=Tryd.underlying3
 a3:=Tryd.isAgg3
 z3:=Tryd.sizeOf3
 v3:=Tryd.zeroValue3
 t4:=Tryd.underlying4
 a4:=Tryd.isAgg4
 z4:=Tryd.sizeOf4
 v4:=Tryd.zeroValue4
 t9:=Tryd.underlying9
 a9:=Tryd.isAgg9
 z9:=Tryd.sizeOf9
 v9:=Tryd.zeroValue9
 t31:=Tryd.underlying24
 a31:=Tryd.isAgg24
 z31:=Tryd.sizeOf24
 v31:=Tryd.zeroValue24}
open Go.RowKit Go.Lib Go.Sort in
theorem Tryd.slices_Compact_string (blk off cap:Nat)(zs:List (List UInt8))(w:World)(hH:Holds encStr w blk off zs.toArray)(hsz:zs.length≤9223372036854775807)(hcap:zs.length≤cap):
  Calls Tryd.prog 56 #[.slice (some ⟨blk,off,none⟩) zs.length cap] w fun e w'=>e= .returned (.slice (some ⟨blk,off,none⟩) (Lib.compact zs).length cap)∧∃q,w'=putRow encStr (Sort.ahead w q) blk off (Lib.compact zs++List.replicate (zs.length-(Lib.compact zs).length) []).toArray:=Any.slices_Compact_string Tryd.lays194 blk off cap zs w hH hsz hcap
open Go.RowKit Go.Lib Go.Sort in
theorem Tryd.slices_Compact_string_empty (a:Option Addr)(cap:Nat)(w:World):
  Calls Tryd.prog 56 #[.slice a 0 cap] w fun e w'=>e= .returned (.slice a 0 cap)∧w'=w:=Any.slices_Compact_string_empty Tryd.lays194 a cap w
end Go.Proofs

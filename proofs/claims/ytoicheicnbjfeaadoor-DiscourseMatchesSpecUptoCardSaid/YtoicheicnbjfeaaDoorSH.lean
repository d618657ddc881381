import Derived.Shelf.Small.Bits
import Derived.Shelf.Strconv.Itoa0
import Derived.Shelf.Strconv.Itoa1
import Derived.Shelf.LaysM
import Derived.Shelf.Strconv.Itoa2
import Derived.Shelf.Strconv.Itoa3
import Derived.Shelf.Sort.Plain
import Derived.Shelf.Slices.Equal
import Derived.Ground.Names2Prog
import Derived.Shelf.Slices.Clone
import Derived.Shelf.Slices.CompactS
import Derived.Shelf.Slices.SearchI
import Derived.Shelf.Slices.Cells
import Derived.Shelf.Slices.In.SortNone
import Derived.Ground.SlgnProg
import Derived.Shelf.SlicesE.Clone
import Derived.Test.YtoicheicnbjfeaaDoorProg
namespace Go.Proofs
open Go.Shelf
def Tryd.laysM171_ren : Go.Shelf.Ren := ⟨fun | 171 => 110 | 243 => 179 | 246 => 211 | 283 => 224 | 284 => 225 | 285 => 226 | 286 => 227 | 129 => 238 | 317 => 239 | 318 => 240 | 319 => 241 | 320 => 242 | 337 => 248 | 338 => 249 | n => n, fun | 3 => 3 | 9 => 9 | 2 => 2 | 4 => 4 | 171 => 238 | 0 => 0 | 53 => 239 | 37 => 206 | 5 => 5 | 173 => 242 | 212 => 255 | 51 => 253 | 20 => 20 | 213 => 256 | 46 => 233 | 232 => 264 | 233 => 265 | n => n, fun | 17 => 1 | 18 => 2 | 19 => 3 | n => n⟩
theorem Tryd.laysM171 : Go.Proofs.LaysM.n171 Tryd.prog Tryd.laysM171_ren := {
  mixed := by kernel_rfl
  f129 := Tryd.func238.trans (congrArg some (by kernel_rfl))
  f171 := Tryd.func110.trans (congrArg some (by kernel_rfl))
  f243 := Tryd.func179.trans (congrArg some (by kernel_rfl))
  f246 := Tryd.func211.trans (congrArg some (by kernel_rfl))
  f283 := Tryd.func224.trans (congrArg some (by kernel_rfl))
  f284 := Tryd.func225.trans (congrArg some (by kernel_rfl))
  f285 := Tryd.func226.trans (congrArg some (by kernel_rfl))
  f286 := Tryd.func227.trans (congrArg some (by kernel_rfl))
  f317 := Tryd.func239.trans (congrArg some (by kernel_rfl))
  f318 := Tryd.func240.trans (congrArg some (by kernel_rfl))
  f319 := Tryd.func241.trans (congrArg some (by kernel_rfl))
  f320 := Tryd.func242.trans (congrArg some (by kernel_rfl))
  f337 := Tryd.func248.trans (congrArg some (by kernel_rfl))
  f338 := Tryd.func249.trans (congrArg some (by kernel_rfl))
  t0 := Tryd.underlying0
  a0 := Tryd.isAgg0
  z0 := Tryd.sizeOf0
  v0 := Tryd.zeroValue0
  t2 := Tryd.underlying2
  a2 := Tryd.isAgg2
  z2 := Tryd.sizeOf2
  v2 := Tryd.zeroValue2
  t3 := Tryd.underlying3
  a3 := Tryd.isAgg3
  z3 := Tryd.sizeOf3
  v3 := Tryd.zeroValue3
  t4 := Tryd.underlying4
  a4 := Tryd.isAgg4
  z4 := Tryd.sizeOf4
  v4 := Tryd.zeroValue4
  t5 := Tryd.underlying5
  a5 := Tryd.isAgg5
  z5 := Tryd.sizeOf5
  v5 := Tryd.zeroValue5
  t9 := Tryd.underlying9
  a9 := Tryd.isAgg9
  z9 := Tryd.sizeOf9
  v9 := Tryd.zeroValue9
  t20 := Tryd.underlying20
  a20 := Tryd.isAgg20
  z20 := Tryd.sizeOf20
  v20 := Tryd.zeroValue20
  t37 := Tryd.underlying206
  a37 := Tryd.isAgg206
  z37 := Tryd.sizeOf206
  v37 := Tryd.zeroValue206
  t46 := Tryd.underlying233
  a46 := Tryd.isAgg233
  z46 := Tryd.sizeOf233
  v46 := Tryd.zeroValue233
  t51 := Tryd.underlying253
  a51 := Tryd.isAgg253
  z51 := Tryd.sizeOf253
  v51 := Tryd.zeroValue253
  t53 := Tryd.underlying239
  a53 := Tryd.isAgg239
  z53 := Tryd.sizeOf239
  v53 := Tryd.zeroValue239
  t171 := Tryd.underlying238
  a171 := Tryd.isAgg238
  z171 := Tryd.sizeOf238
  v171 := Tryd.zeroValue238
  t173 := Tryd.underlying242
  a173 := Tryd.isAgg242
  z173 := Tryd.sizeOf242
  v173 := Tryd.zeroValue242
  t212 := Tryd.underlying255
  a212 := Tryd.isAgg255
  z212 := Tryd.sizeOf255
  v212 := Tryd.zeroValue255
  t213 := Tryd.underlying256
  a213 := Tryd.isAgg256
  z213 := Tryd.sizeOf256
  t232 := Tryd.underlying264
  a232 := Tryd.isAgg264
  z232 := Tryd.sizeOf264
  v232 := Tryd.zeroValue264
  t233 := Tryd.underlying265
  a233 := Tryd.isAgg265
  z233 := Tryd.sizeOf265
  v233 := Tryd.zeroValue265
  g17 := by kernel_rfl
  g18 := by kernel_rfl
  g19 := by kernel_rfl
  i0 := by kernel_rfl
  i2 := by kernel_rfl
  i3 := by kernel_rfl
  i4 := by kernel_rfl
  i5 := by kernel_rfl
  i9 := by kernel_rfl
  i20 := by kernel_rfl
  i37 := by kernel_rfl
  i46 := by kernel_rfl
  i51 := by kernel_rfl
  i53 := by kernel_rfl
  i171 := by kernel_rfl
  i173 := by kernel_rfl
  i212 := by kernel_rfl
  i232 := by kernel_rfl
  i233 := by kernel_rfl
  m17 := by kernel_rfl
  m18 := by kernel_rfl
  m19 := by kernel_rfl }
open Go.RowKit Go.Sort Go.Lib in
theorem Tryd.strconv_Itoa (n : Int) (h0 : -9223372036854775808 ≤ n) (h1 : n ≤ 9223372036854775807) (w : World) (htab : Lib.TabIs Tryd.prog w "internal/strconv.uint64pow10" .u64 Lib.pow10Tab) :
    Calls Tryd.prog 110 #[.int .i64 n] w fun e w' => e = .returned (.string ⟨(Lib.itoa n).toArray⟩) ∧ ∃ k os, w' = grow (w.drewN k) os := Any.strconv_Itoa Tryd.laysM171 n h0 h1 w htab
def Tryd.lays190_ren : Go.Shelf.Ren := ⟨fun | 190 => 203 | 125 => 221 | 258 => 220 | 128 => 237 | 129 => 238 | 302 => 228 | 303 => 229 | 304 => 230 | 305 => 231 | 306 => 232 | 307 => 233 | 308 => 234 | 309 => 235 | 310 => 236 | 333 => 243 | 329 => 244 | 330 => 245 | 334 => 246 | 335 => 247 | 336 => 222 | 344 => 250 | n => n, fun | 31 => 22 | 9 => 9 | 3 => 3 | 46 => 233 | 0 => 0 | 51 => 253 | 53 => 239 | 4 => 4 | 183 => 246 | 182 => 245 | 131 => 210 | 5 => 5 | 218 => 257 | 222 => 107 | 228 => 262 | 229 => 187 | n => n, fun | n => n⟩
theorem Tryd.lays190 : Go.Proofs.Lays.n190 Tryd.prog Tryd.lays190_ren := {
  mixed := by kernel_rfl
  f125 := Tryd.func221.trans (congrArg some (by kernel_rfl))
  f128 := Tryd.func237.trans (congrArg some (by kernel_rfl))
  f129 := Tryd.func238.trans (congrArg some (by kernel_rfl))
  f190 := Tryd.func203.trans (congrArg some (by kernel_rfl))
  f258 := Tryd.func220.trans (congrArg some (by kernel_rfl))
  f302 := Tryd.func228.trans (congrArg some (by kernel_rfl))
  f303 := Tryd.func229.trans (congrArg some (by kernel_rfl))
  f304 := Tryd.func230.trans (congrArg some (by kernel_rfl))
  f305 := Tryd.func231.trans (congrArg some (by kernel_rfl))
  f306 := Tryd.func232.trans (congrArg some (by kernel_rfl))
  f307 := Tryd.func233.trans (congrArg some (by kernel_rfl))
  f308 := Tryd.func234.trans (congrArg some (by kernel_rfl))
  f309 := Tryd.func235.trans (congrArg some (by kernel_rfl))
  f310 := Tryd.func236.trans (congrArg some (by kernel_rfl))
  f329 := Tryd.func244.trans (congrArg some (by kernel_rfl))
  f330 := Tryd.func245.trans (congrArg some (by kernel_rfl))
  f333 := Tryd.func243.trans (congrArg some (by kernel_rfl))
  f334 := Tryd.func246.trans (congrArg some (by kernel_rfl))
  f335 := Tryd.func247.trans (congrArg some (by kernel_rfl))
  f336 := Tryd.func222.trans (congrArg some (by kernel_rfl))
  f344 := Tryd.func250.trans (congrArg some (by kernel_rfl))
  t0 := Tryd.underlying0
  a0 := Tryd.isAgg0
  z0 := Tryd.sizeOf0
  v0 := Tryd.zeroValue0
  t3 := Tryd.underlying3
  a3 := Tryd.isAgg3
  z3 := Tryd.sizeOf3
  v3 := Tryd.zeroValue3
  t4 := Tryd.underlying4
  a4 := Tryd.isAgg4
  z4 := Tryd.sizeOf4
  v4 := Tryd.zeroValue4
  t5 := Tryd.underlying5
  a5 := Tryd.isAgg5
  z5 := Tryd.sizeOf5
  v5 := Tryd.zeroValue5
  t9 := Tryd.underlying9
  a9 := Tryd.isAgg9
  z9 := Tryd.sizeOf9
  v9 := Tryd.zeroValue9
  t31 := Tryd.underlying22
  a31 := Tryd.isAgg22
  z31 := Tryd.sizeOf22
  v31 := Tryd.zeroValue22
  t46 := Tryd.underlying233
  a46 := Tryd.isAgg233
  z46 := Tryd.sizeOf233
  v46 := Tryd.zeroValue233
  t51 := Tryd.underlying253
  a51 := Tryd.isAgg253
  z51 := Tryd.sizeOf253
  v51 := Tryd.zeroValue253
  t53 := Tryd.underlying239
  a53 := Tryd.isAgg239
  z53 := Tryd.sizeOf239
  v53 := Tryd.zeroValue239
  t131 := Tryd.underlying210
  a131 := Tryd.isAgg210
  z131 := Tryd.sizeOf210
  v131 := Tryd.zeroValue210
  t182 := Tryd.underlying245
  a182 := Tryd.isAgg245
  z182 := Tryd.sizeOf245
  v182 := Tryd.zeroValue245
  t183 := Tryd.underlying246
  a183 := Tryd.isAgg246
  z183 := Tryd.sizeOf246
  v183 := Tryd.zeroValue246
  t218 := Tryd.underlying257
  a218 := Tryd.isAgg257
  z218 := Tryd.sizeOf257
  v218 := Tryd.zeroValue257
  t222 := Tryd.underlying107
  a222 := Tryd.isAgg107
  z222 := Tryd.sizeOf107
  v222 := Tryd.zeroValue107
  t228 := Tryd.underlying262
  a228 := Tryd.isAgg262
  z228 := Tryd.sizeOf262
  v228 := Tryd.zeroValue262
  t229 := Tryd.underlying187
  a229 := Tryd.isAgg187
  z229 := Tryd.sizeOf187
  v229 := Tryd.zeroValue187 }
open Go.Sort Go.RowKit in
theorem Tryd.slices_Sort_string (blk off cap : Nat) (ss : List (List UInt8)) (w : World) (hH : Holds encStr w blk off ss.toArray) (hblk : blk < w.heap.size) (hsz : ss.length < 4611686018427387904) :
    Calls Tryd.prog 203 #[.slice (some ⟨blk, off, none⟩) ss.length cap] w fun e w' =>
      e = .returned (.tuple #[]) ∧ ∃ n os, w' = grow (putRow encStr (Sort.ahead w n) blk off (ss.mergeSort fun x y => decide (x ≤ y)).toArray) os := Any.slices_Sort_string Tryd.lays190 blk off cap ss w hH hblk hsz
open Go.RowKit Go.Sort in
theorem Tryd.slices_Sort_string_none (p : Option Addr) (cap : Nat) (w : World) :
    Calls Tryd.prog 203 #[.slice p 0 cap] w fun e w' => e = .returned (.tuple #[]) ∧ w' = w := Any.slices_Sort_string_none Tryd.lays190 p cap w
def Tryd.lays194_ren : Go.Shelf.Ren := ⟨fun | 194 => 204 | n => n, fun | 31 => 22 | 9 => 9 | 3 => 3 | 4 => 4 | 0 => 0 | n => n, fun | n => n⟩
theorem Tryd.lays194 : Go.Proofs.Lays.n194 Tryd.prog Tryd.lays194_ren := {
  mixed := by kernel_rfl
  f194 := Tryd.func204.trans (congrArg some (by kernel_rfl))
  t0 := Tryd.underlying0
  a0 := Tryd.isAgg0
  z0 := Tryd.sizeOf0
  v0 := Tryd.zeroValue0
  t3 := Tryd.underlying3
  a3 := Tryd.isAgg3
  z3 := Tryd.sizeOf3
  v3 := Tryd.zeroValue3
  t4 := Tryd.underlying4
  a4 := Tryd.isAgg4
  z4 := Tryd.sizeOf4
  v4 := Tryd.zeroValue4
  t9 := Tryd.underlying9
  a9 := Tryd.isAgg9
  z9 := Tryd.sizeOf9
  v9 := Tryd.zeroValue9
  t31 := Tryd.underlying22
  a31 := Tryd.isAgg22
  z31 := Tryd.sizeOf22
  v31 := Tryd.zeroValue22 }
open Go.RowKit Go.Lib Go.Sort in
theorem Tryd.slices_Compact_string (blk off cap : Nat) (zs : List (List UInt8)) (w : World) (hH : Holds encStr w blk off zs.toArray) (hsz : zs.length ≤ 9223372036854775807) (hcap : zs.length ≤ cap) :
    Calls Tryd.prog 204 #[.slice (some ⟨blk, off, none⟩) zs.length cap] w fun e w' => e = .returned (.slice (some ⟨blk, off, none⟩) (Lib.compact zs).length cap) ∧ ∃ q, w' = putRow encStr (Sort.ahead w q) blk off (Lib.compact zs ++ List.replicate (zs.length - (Lib.compact zs).length) []).toArray := Any.slices_Compact_string Tryd.lays194 blk off cap zs w hH hsz hcap
open Go.RowKit Go.Lib Go.Sort in
theorem Tryd.slices_Compact_string_empty (a : Option Addr) (cap : Nat) (w : World) :
    Calls Tryd.prog 204 #[.slice a 0 cap] w fun e w' => e = .returned (.slice a 0 cap) ∧ w' = w := Any.slices_Compact_string_empty Tryd.lays194 a cap w
end Go.Proofs

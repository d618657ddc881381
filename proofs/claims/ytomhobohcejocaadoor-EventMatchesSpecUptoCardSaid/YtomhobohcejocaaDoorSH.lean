import Derived.Shelf.Small.Bits
import Derived.Shelf.Strconv.Itoa0
import Derived.Shelf.Strconv.Itoa1
import Derived.Shelf.LaysM
import Derived.Shelf.Strconv.Itoa2
import Derived.Shelf.Strconv.Itoa3
import Derived.Shelf.Sort.Plain
import Derived.Shelf.Slices.Equal
import Derived.Ground.Names2Prog
import Derived.Shelf.Slices.Clone
import Derived.Shelf.Slices.CompactS
import Derived.Shelf.Slices.SearchI
import Derived.Shelf.Slices.Cells
import Derived.Shelf.Slices.In.SortNone
import Derived.Ground.SlgnProg
import Derived.Shelf.SlicesE.Clone
import Derived.Test.YtomhobohcejocaaDoorProg
namespace Go.Proofs
open Go.Shelf
def Tryd.laysM171_ren : Go.Shelf.Ren := ⟨fun | 171 => 137 | 243 => 187 | 246 => 216 | 283 => 226 | 284 => 227 | 285 => 228 | 286 => 229 | 129 => 240 | 317 => 241 | 318 => 242 | 319 => 243 | 320 => 244 | 337 => 250 | 338 => 251 | n => n, fun | 3 => 3 | 9 => 9 | 2 => 2 | 4 => 4 | 171 => 237 | 0 => 0 | 53 => 238 | 37 => 205 | 5 => 5 | 173 => 241 | 212 => 254 | 51 => 252 | 20 => 20 | 213 => 255 | 46 => 232 | 232 => 263 | 233 => 264 | n => n, fun | 17 => 1 | 18 => 2 | 19 => 3 | n => n⟩
theorem Tryd.laysM171 : Go.Proofs.LaysM.n171 Tryd.prog Tryd.laysM171_ren := {
  mixed := by kernel_rfl
  f129 := Tryd.func240.trans (congrArg some (by kernel_rfl))
  f171 := Tryd.func137.trans (congrArg some (by kernel_rfl))
  f243 := Tryd.func187.trans (congrArg some (by kernel_rfl))
  f246 := Tryd.func216.trans (congrArg some (by kernel_rfl))
  f283 := Tryd.func226.trans (congrArg some (by kernel_rfl))
  f284 := Tryd.func227.trans (congrArg some (by kernel_rfl))
  f285 := Tryd.func228.trans (congrArg some (by kernel_rfl))
  f286 := Tryd.func229.trans (congrArg some (by kernel_rfl))
  f317 := Tryd.func241.trans (congrArg some (by kernel_rfl))
  f318 := Tryd.func242.trans (congrArg some (by kernel_rfl))
  f319 := Tryd.func243.trans (congrArg some (by kernel_rfl))
  f320 := Tryd.func244.trans (congrArg some (by kernel_rfl))
  f337 := Tryd.func250.trans (congrArg some (by kernel_rfl))
  f338 := Tryd.func251.trans (congrArg some (by kernel_rfl))
  t0 := Tryd.underlying0
  a0 := Tryd.isAgg0
  z0 := Tryd.sizeOf0
  v0 := Tryd.zeroValue0
  t2 := Tryd.underlying2
  a2 := Tryd.isAgg2
  z2 := Tryd.sizeOf2
  v2 := Tryd.zeroValue2
  t3 := Tryd.underlying3
  a3 := Tryd.isAgg3
  z3 := Tryd.sizeOf3
  v3 := Tryd.zeroValue3
  t4 := Tryd.underlying4
  a4 := Tryd.isAgg4
  z4 := Tryd.sizeOf4
  v4 := Tryd.zeroValue4
  t5 := Tryd.underlying5
  a5 := Tryd.isAgg5
  z5 := Tryd.sizeOf5
  v5 := Tryd.zeroValue5
  t9 := Tryd.underlying9
  a9 := Tryd.isAgg9
  z9 := Tryd.sizeOf9
  v9 := Tryd.zeroValue9
  t20 := Tryd.underlying20
  a20 := Tryd.isAgg20
  z20 := Tryd.sizeOf20
  v20 := Tryd.zeroValue20
  t37 := Tryd.underlying205
  a37 := Tryd.isAgg205
  z37 := Tryd.sizeOf205
  v37 := Tryd.zeroValue205
  t46 := Tryd.underlying232
  a46 := Tryd.isAgg232
  z46 := Tryd.sizeOf232
  v46 := Tryd.zeroValue232
  t51 := Tryd.underlying252
  a51 := Tryd.isAgg252
  z51 := Tryd.sizeOf252
  v51 := Tryd.zeroValue252
  t53 := Tryd.underlying238
  a53 := Tryd.isAgg238
  z53 := Tryd.sizeOf238
  v53 := Tryd.zeroValue238
  t171 := Tryd.underlying237
  a171 := Tryd.isAgg237
  z171 := Tryd.sizeOf237
  v171 := Tryd.zeroValue237
  t173 := Tryd.underlying241
  a173 := Tryd.isAgg241
  z173 := Tryd.sizeOf241
  v173 := Tryd.zeroValue241
  t212 := Tryd.underlying254
  a212 := Tryd.isAgg254
  z212 := Tryd.sizeOf254
  v212 := Tryd.zeroValue254
  t213 := Tryd.underlying255
  a213 := Tryd.isAgg255
  z213 := Tryd.sizeOf255
  t232 := Tryd.underlying263
  a232 := Tryd.isAgg263
  z232 := Tryd.sizeOf263
  v232 := Tryd.zeroValue263
  t233 := Tryd.underlying264
  a233 := Tryd.isAgg264
  z233 := Tryd.sizeOf264
  v233 := Tryd.zeroValue264
  g17 := by kernel_rfl
  g18 := by kernel_rfl
  g19 := by kernel_rfl
  i0 := by kernel_rfl
  i2 := by kernel_rfl
  i3 := by kernel_rfl
  i4 := by kernel_rfl
  i5 := by kernel_rfl
  i9 := by kernel_rfl
  i20 := by kernel_rfl
  i37 := by kernel_rfl
  i46 := by kernel_rfl
  i51 := by kernel_rfl
  i53 := by kernel_rfl
  i171 := by kernel_rfl
  i173 := by kernel_rfl
  i212 := by kernel_rfl
  i232 := by kernel_rfl
  i233 := by kernel_rfl
  m17 := by kernel_rfl
  m18 := by kernel_rfl
  m19 := by kernel_rfl }
open Go.RowKit Go.Sort Go.Lib in
theorem Tryd.strconv_Itoa (n : Int) (h0 : -9223372036854775808 ≤ n) (h1 : n ≤ 9223372036854775807) (w : World) (htab : Lib.TabIs Tryd.prog w "internal/strconv.uint64pow10" .u64 Lib.pow10Tab) :
    Calls Tryd.prog 137 #[.int .i64 n] w fun e w' => e = .returned (.string ⟨(Lib.itoa n).toArray⟩) ∧ ∃ k os, w' = grow (w.drewN k) os := Any.strconv_Itoa Tryd.laysM171 n h0 h1 w htab
def Tryd.lays190_ren : Go.Shelf.Ren := ⟨fun | 190 => 202 | 125 => 220 | 258 => 219 | 128 => 239 | 129 => 240 | 302 => 230 | 303 => 231 | 304 => 232 | 305 => 233 | 306 => 234 | 307 => 235 | 308 => 236 | 309 => 237 | 310 => 238 | 333 => 245 | 329 => 246 | 330 => 247 | 334 => 248 | 335 => 249 | 336 => 221 | 344 => 252 | n => n, fun | 31 => 22 | 9 => 9 | 3 => 3 | 46 => 232 | 0 => 0 | 51 => 252 | 53 => 238 | 4 => 4 | 183 => 245 | 182 => 244 | 131 => 221 | 5 => 5 | 218 => 256 | 222 => 111 | 228 => 261 | 229 => 185 | n => n, fun | n => n⟩
theorem Tryd.lays190 : Go.Proofs.Lays.n190 Tryd.prog Tryd.lays190_ren := {
  mixed := by kernel_rfl
  f125 := Tryd.func220.trans (congrArg some (by kernel_rfl))
  f128 := Tryd.func239.trans (congrArg some (by kernel_rfl))
  f129 := Tryd.func240.trans (congrArg some (by kernel_rfl))
  f190 := Tryd.func202.trans (congrArg some (by kernel_rfl))
  f258 := Tryd.func219.trans (congrArg some (by kernel_rfl))
  f302 := Tryd.func230.trans (congrArg some (by kernel_rfl))
  f303 := Tryd.func231.trans (congrArg some (by kernel_rfl))
  f304 := Tryd.func232.trans (congrArg some (by kernel_rfl))
  f305 := Tryd.func233.trans (congrArg some (by kernel_rfl))
  f306 := Tryd.func234.trans (congrArg some (by kernel_rfl))
  f307 := Tryd.func235.trans (congrArg some (by kernel_rfl))
  f308 := Tryd.func236.trans (congrArg some (by kernel_rfl))
  f309 := Tryd.func237.trans (congrArg some (by kernel_rfl))
  f310 := Tryd.func238.trans (congrArg some (by kernel_rfl))
  f329 := Tryd.func246.trans (congrArg some (by kernel_rfl))
  f330 := Tryd.func247.trans (congrArg some (by kernel_rfl))
  f333 := Tryd.func245.trans (congrArg some (by kernel_rfl))
  f334 := Tryd.func248.trans (congrArg some (by kernel_rfl))
  f335 := Tryd.func249.trans (congrArg some (by kernel_rfl))
  f336 := Tryd.func221.trans (congrArg some (by kernel_rfl))
  f344 := Tryd.func252.trans (congrArg some (by kernel_rfl))
  t0 := Tryd.underlying0
  a0 := Tryd.isAgg0
  z0 := Tryd.sizeOf0
  v0 := Tryd.zeroValue0
  t3 := Tryd.underlying3
  a3 := Tryd.isAgg3
  z3 := Tryd.sizeOf3
  v3 := Tryd.zeroValue3
  t4 := Tryd.underlying4
  a4 := Tryd.isAgg4
  z4 := Tryd.sizeOf4
  v4 := Tryd.zeroValue4
  t5 := Tryd.underlying5
  a5 := Tryd.isAgg5
  z5 := Tryd.sizeOf5
  v5 := Tryd.zeroValue5
  t9 := Tryd.underlying9
  a9 := Tryd.isAgg9
  z9 := Tryd.sizeOf9
  v9 := Tryd.zeroValue9
  t31 := Tryd.underlying22
  a31 := Tryd.isAgg22
  z31 := Tryd.sizeOf22
  v31 := Tryd.zeroValue22
  t46 := Tryd.underlying232
  a46 := Tryd.isAgg232
  z46 := Tryd.sizeOf232
  v46 := Tryd.zeroValue232
  t51 := Tryd.underlying252
  a51 := Tryd.isAgg252
  z51 := Tryd.sizeOf252
  v51 := Tryd.zeroValue252
  t53 := Tryd.underlying238
  a53 := Tryd.isAgg238
  z53 := Tryd.sizeOf238
  v53 := Tryd.zeroValue238
  t131 := Tryd.underlying221
  a131 := Tryd.isAgg221
  z131 := Tryd.sizeOf221
  v131 := Tryd.zeroValue221
  t182 := Tryd.underlying244
  a182 := Tryd.isAgg244
  z182 := Tryd.sizeOf244
  v182 := Tryd.zeroValue244
  t183 := Tryd.underlying245
  a183 := Tryd.isAgg245
  z183 := Tryd.sizeOf245
  v183 := Tryd.zeroValue245
  t218 := Tryd.underlying256
  a218 := Tryd.isAgg256
  z218 := Tryd.sizeOf256
  v218 := Tryd.zeroValue256
  t222 := Tryd.underlying111
  a222 := Tryd.isAgg111
  z222 := Tryd.sizeOf111
  v222 := Tryd.zeroValue111
  t228 := Tryd.underlying261
  a228 := Tryd.isAgg261
  z228 := Tryd.sizeOf261
  v228 := Tryd.zeroValue261
  t229 := Tryd.underlying185
  a229 := Tryd.isAgg185
  z229 := Tryd.sizeOf185
  v229 := Tryd.zeroValue185 }
open Go.Sort Go.RowKit in
theorem Tryd.slices_Sort_string (blk off cap : Nat) (ss : List (List UInt8)) (w : World) (hH : Holds encStr w blk off ss.toArray) (hblk : blk < w.heap.size) (hsz : ss.length < 4611686018427387904) :
    Calls Tryd.prog 202 #[.slice (some ⟨blk, off, none⟩) ss.length cap] w fun e w' =>
      e = .returned (.tuple #[]) ∧ ∃ n os, w' = grow (putRow encStr (Sort.ahead w n) blk off (ss.mergeSort fun x y => decide (x ≤ y)).toArray) os := Any.slices_Sort_string Tryd.lays190 blk off cap ss w hH hblk hsz
open Go.RowKit Go.Sort in
theorem Tryd.slices_Sort_string_none (p : Option Addr) (cap : Nat) (w : World) :
    Calls Tryd.prog 202 #[.slice p 0 cap] w fun e w' => e = .returned (.tuple #[]) ∧ w' = w := Any.slices_Sort_string_none Tryd.lays190 p cap w
def Tryd.lays194_ren : Go.Shelf.Ren := ⟨fun | 194 => 203 | n => n, fun | 31 => 22 | 9 => 9 | 3 => 3 | 4 => 4 | 0 => 0 | n => n, fun | n => n⟩
theorem Tryd.lays194 : Go.Proofs.Lays.n194 Tryd.prog Tryd.lays194_ren := {
  mixed := by kernel_rfl
  f194 := Tryd.func203.trans (congrArg some (by kernel_rfl))
  t0 := Tryd.underlying0
  a0 := Tryd.isAgg0
  z0 := Tryd.sizeOf0
  v0 := Tryd.zeroValue0
  t3 := Tryd.underlying3
  a3 := Tryd.isAgg3
  z3 := Tryd.sizeOf3
  v3 := Tryd.zeroValue3
  t4 := Tryd.underlying4
  a4 := Tryd.isAgg4
  z4 := Tryd.sizeOf4
  v4 := Tryd.zeroValue4
  t9 := Tryd.underlying9
  a9 := Tryd.isAgg9
  z9 := Tryd.sizeOf9
  v9 := Tryd.zeroValue9
  t31 := Tryd.underlying22
  a31 := Tryd.isAgg22
  z31 := Tryd.sizeOf22
  v31 := Tryd.zeroValue22 }
open Go.RowKit Go.Lib Go.Sort in
theorem Tryd.slices_Compact_string (blk off cap : Nat) (zs : List (List UInt8)) (w : World) (hH : Holds encStr w blk off zs.toArray) (hsz : zs.length ≤ 9223372036854775807) (hcap : zs.length ≤ cap) :
    Calls Tryd.prog 203 #[.slice (some ⟨blk, off, none⟩) zs.length cap] w fun e w' => e = .returned (.slice (some ⟨blk, off, none⟩) (Lib.compact zs).length cap) ∧ ∃ q, w' = putRow encStr (Sort.ahead w q) blk off (Lib.compact zs ++ List.replicate (zs.length - (Lib.compact zs).length) []).toArray := Any.slices_Compact_string Tryd.lays194 blk off cap zs w hH hsz hcap
open Go.RowKit Go.Lib Go.Sort in
theorem Tryd.slices_Compact_string_empty (a : Option Addr) (cap : Nat) (w : World) :
    Calls Tryd.prog 203 #[.slice a 0 cap] w fun e w' => e = .returned (.slice a 0 cap) ∧ w' = w := Any.slices_Compact_string_empty Tryd.lays194 a cap w
end Go.Proofs

import Derived.Test.YtkkffhphodngkaaDoorNM
set_option linter.unusedSimpArgs false
namespace Go.Abs
open Go
def zdI (k:Int):Int:=if k=1∨k=2∨k=3 then 0 else if k=4∨k=8∨k=9 then 1 else if k=5∨k=6∨k=7 then 2 else-1
def named (f:zac):Bool:=decide (f.kind=2∨f.kind=8∨f.kind=9∨f.kind=10)
def zda (f:zac):Bool:=if f.kind=2 then decide (f.words.length≤3)else if f.kind=3 then decide (f.words.length=2)else decide (f.words.length=0)
def zba (op:Bool)(f:zac):Int:=if f.kind=10∧op=true then 0 else zdI f.kind
def zc7 (op:Bool)(f:zac)(depth:Int)(n:Nat):Int:=
 if 200<n+1∨40<depth then 1 else if zba op f<0 then 4 else if¬((f.subs.length:Int)=zba op f∧zda f=true)then 9
 else if named f=true∧zaq f.name=false then 10 else if named f=false∧f.name≠⟨[]⟩then 5 else if f.words.all zaq=false then 10 else 0
mutual
def chk (op:Bool):zac→Int→Nat→zcV×Nat
 | .mk k nm w s,depth,n=>if zc7 op (.mk k nm w s) depth n≠0 then(⟨zc7 op (.mk k nm w s) depth n,n⟩,n+1)else zdZ op s (depth+1) (n+1)
def zdZ (op:Bool):List zac→Int→Nat→zcV×Nat
 |[],_,n=>(⟨0,0⟩,n)
 |f::fs,depth,n=>if(chk op f depth n).1.code≠0 then chk op f depth n else zdZ op fs depth (chk op f depth n).2
end
def zaz (op:Bool)(f:zac):zcV:=(chk op f 1 0).1
theorem zqs {op:Bool}{f:zac}{depth:Int}{n:Nat}:chk op f depth n=if zc7 op f depth n≠0 then(⟨zc7 op f depth n,n⟩,n+1)else zdZ op f.subs (depth+1) (n+1):=by
 cases f;rw[chk];rfl
mutual
theorem zqu {op:Bool}:∀(f:zac) (depth:Int) (n:Nat),((chk op f depth n).1.code=0→(chk op f depth n).1=⟨0,0⟩∧(chk op f depth n).2≤200∧n<(chk op f depth n).2)
 | .mk k nm w s,depth,n=>by
  rw[chk]
  split
  ·rename_i h;intro h2;exact absurd h2 h
  ·rename_i h
   intro h2
   have hn:n+1≤200:=by
    unfold zc7 at h
    split at h
    ·simp at h
    ·omega
   have:=zuf s (depth+1) (n+1) hn h2
   exact⟨this.1,this.2.1,by omega⟩
theorem zuf {op:Bool}:∀(fs:List zac) (depth:Int) (n:Nat),n≤200→((zdZ op fs depth n).1.code=0→(zdZ op fs depth n).1=⟨0,0⟩∧(zdZ op fs depth n).2≤200∧n≤(zdZ op fs depth n).2)
 |[],depth,n,hn=>by rw[zdZ];intro _;exact⟨rfl,hn,Nat.le_refl _⟩
 |f::fs,depth,n,hn=>by
  rw[zdZ]
  split
  ·rename_i h;intro h2;exact absurd h2 h
  ·rename_i h
   have h3:=zqu f depth n (Decidable.not_not.1 h)
   intro h2
   have:=zuf fs depth _ h3.2.1 h2
   exact⟨this.1,this.2.1,by omega⟩
end
def zhU (op:Bool):List (zac×Int)→Nat→zcV
 |[],_=>⟨0,0⟩
 |(f,d)::st,n=>if(chk op f d n).1.code≠0 then(chk op f d n).1 else zhU op st (chk op f d n).2
theorem zlv {op:Bool}{d:Int}{st:List (zac×Int)}:∀(fs:List zac) (n:Nat),zhU op (fs.map (fun g=>(g,d))++st) n=if(zdZ op fs d n).1.code≠0 then(zdZ op fs d n).1 else zhU op st (zdZ op fs d n).2
 |[],n=>by simp[zdZ]
 |f::fs,n=>by
  rw[List.map_cons,List.cons_append,zhU,zdZ]
  split
  ·rfl
  ·exact zlv fs _
theorem zpz {op:Bool}{f:zac}{d:Int}{st:List (zac×Int)}{n:Nat}:zhU op ((f,d)::st) n=if zc7 op f d n≠0 then⟨zc7 op f d n,n⟩else zhU op (f.subs.map (fun g=>(g,d+1))++st) (n+1):=by
 rw[zhU,zlv,zqs]
 by_cases h:zc7 op f d n≠0
 ·rw[if_pos h,if_pos h,if_pos h]
 ·rw[if_neg h,if_neg h]
theorem zrH {op:Bool}{f:zac}:zhU op [(f,1)] 0=zaz op f:=by
 unfold zaz
 rw[zhU,zhU]
 split
 ·rfl
 ·rename_i h;exact((zqu f 1 0 (Decidable.not_not.1 h)).1).symm
theorem zeU {op:Bool}{f:zac}(h:(zaz op f).code=0):zaz op f=⟨0,0⟩:=(zqu f 1 0 h).1
end Go.Abs

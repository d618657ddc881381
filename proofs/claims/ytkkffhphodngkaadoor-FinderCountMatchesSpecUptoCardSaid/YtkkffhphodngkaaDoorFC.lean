import Derived.Test.YtkkffhphodngkaaDoorNM
set_option linter.unusedSimpArgs false
namespace Go.Abs
open Go
def zd3 (k:Int):Int:=if k=1∨k=2∨k=3 then 0 else if k=4∨k=8∨k=9 then 1 else if k=5∨k=6∨k=7 then 2 else-1
def named (f:zaf):Bool:=decide (f.kind=2∨f.kind=8∨f.kind=9∨f.kind=10)
def zdn (f:zaf):Bool:=if f.kind=2 then decide (f.words.length≤3)else if f.kind=3 then decide (f.words.length=2)else decide (f.words.length=0)
def zbl (op:Bool)(f:zaf):Int:=if f.kind=10∧op=true then 0 else zd3 f.kind
def zdj (op:Bool)(f:zaf)(depth:Int)(n:Nat):Int:=
 if 200<n+1∨40<depth then 1 else if zbl op f<0 then 4 else if¬((f.subs.length:Int)=zbl op f∧zdn f=true)then 9
 else if named f=true∧zax f.name=false then 10 else if named f=false∧f.name≠⟨[]⟩then 5 else if f.words.all zax=false then 10 else 0
mutual
def chk (op:Bool):zaf→Int→Nat→zcD×Nat
 | .mk k nm w s,depth,n=>if zdj op (.mk k nm w s) depth n≠0 then(⟨zdj op (.mk k nm w s) depth n,n⟩,n+1)else zek op s (depth+1) (n+1)
def zek (op:Bool):List zaf→Int→Nat→zcD×Nat
 |[],_,n=>(⟨0,0⟩,n)
 |f::fs,depth,n=>if(chk op f depth n).1.code≠0 then chk op f depth n else zek op fs depth (chk op f depth n).2
end
def zaA (op:Bool)(f:zaf):zcD:=(chk op f 1 0).1
theorem zrl {op:Bool}{f:zaf}{depth:Int}{n:Nat}:chk op f depth n=if zdj op f depth n≠0 then(⟨zdj op f depth n,n⟩,n+1)else zek op f.subs (depth+1) (n+1):=by
 cases f;rw[chk];rfl
mutual
theorem zrn {op:Bool}:∀(f:zaf) (depth:Int) (n:Nat),((chk op f depth n).1.code=0→(chk op f depth n).1=⟨0,0⟩∧(chk op f depth n).2≤200∧n<(chk op f depth n).2)
 | .mk k nm w s,depth,n=>by
  rw[chk]
  split
  ·rename_i h;intro h2;exact absurd h2 h
  ·rename_i h
   intro h2
   have hn:n+1≤200:=by
    unfold zdj at h
    split at h
    ·simp at h
    ·omega
   have:=zvq s (depth+1) (n+1) hn h2
   exact⟨this.1,this.2.1,by omega⟩
theorem zvq {op:Bool}:∀(fs:List zaf) (depth:Int) (n:Nat),n≤200→((zek op fs depth n).1.code=0→(zek op fs depth n).1=⟨0,0⟩∧(zek op fs depth n).2≤200∧n≤(zek op fs depth n).2)
 |[],depth,n,hn=>by rw[zek];intro _;exact⟨rfl,hn,Nat.le_refl _⟩
 |f::fs,depth,n,hn=>by
  rw[zek]
  split
  ·rename_i h;intro h2;exact absurd h2 h
  ·rename_i h
   have h3:=zrn f depth n (Decidable.not_not.1 h)
   intro h2
   have:=zvq fs depth _ h3.2.1 h2
   exact⟨this.1,this.2.1,by omega⟩
end
def ziA (op:Bool):List (zaf×Int)→Nat→zcD
 |[],_=>⟨0,0⟩
 |(f,d)::st,n=>if(chk op f d n).1.code≠0 then(chk op f d n).1 else ziA op st (chk op f d n).2
theorem zmg {op:Bool}{d:Int}{st:List (zaf×Int)}:∀(fs:List zaf) (n:Nat),ziA op (fs.map (fun g=>(g,d))++st) n=if(zek op fs d n).1.code≠0 then(zek op fs d n).1 else ziA op st (zek op fs d n).2
 |[],n=>by simp[zek]
 |f::fs,n=>by
  rw[List.map_cons,List.cons_append,ziA,zek]
  split
  ·rfl
  ·exact zmg fs _
theorem zqs {op:Bool}{f:zaf}{d:Int}{st:List (zaf×Int)}{n:Nat}:ziA op ((f,d)::st) n=if zdj op f d n≠0 then⟨zdj op f d n,n⟩else ziA op (f.subs.map (fun g=>(g,d+1))++st) (n+1):=by
 rw[ziA,zmg,zrl]
 by_cases h:zdj op f d n≠0
 ·rw[if_pos h,if_pos h,if_pos h]
 ·rw[if_neg h,if_neg h]
theorem zsC {op:Bool}{f:zaf}:ziA op [(f,1)] 0=zaA op f:=by
 unfold zaA
 rw[ziA,ziA]
 split
 ·rfl
 ·rename_i h;exact((zrn f 1 0 (Decidable.not_not.1 h)).1).symm
theorem zfg {op:Bool}{f:zaf}(h:(zaA op f).code=0):zaA op f=⟨0,0⟩:=(zrn f 1 0 h).1
end Go.Abs

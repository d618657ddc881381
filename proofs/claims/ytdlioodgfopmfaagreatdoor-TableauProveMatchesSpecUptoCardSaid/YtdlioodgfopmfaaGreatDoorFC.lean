import Derived.Test.YtdlioodgfopmfaaGreatDoorNM
set_option linter.unusedSimpArgs false
namespace Go.Abs
open Go
def zdH (k:Int):Int:=if k=1∨k=2∨k=3 then 0 else if k=4∨k=8∨k=9 then 1 else if k=5∨k=6∨k=7 then 2 else-1
def named (f:zac):Bool:=decide (f.kind=2∨f.kind=8∨f.kind=9∨f.kind=10)
def zdc (f:zac):Bool:=if f.kind=2 then decide (f.words.length≤3)else if f.kind=3 then decide (f.words.length=2)else decide (f.words.length=0)
def zbt (op:Bool)(f:zac):Int:=if f.kind=10∧op=true then 0 else zdH f.kind
def zdA (op:Bool)(f:zac)(depth:Int)(n:Nat):Int:=
 if 200<n+1∨40<depth then 1 else if zbt op f<0 then 4 else if¬((f.subs.length:Int)=zbt op f∧zdc f=true)then 9
 else if named f=true∧zas f.name=false then 10 else if named f=false∧f.name≠⟨[]⟩then 5 else if f.words.all zas=false then 10 else 0
mutual
def chk (op:Bool):zac→Int→Nat→zeR×Nat
 | .mk k nm w s,depth,n=>if zdA op (.mk k nm w s) depth n≠0 then(⟨zdA op (.mk k nm w s) depth n,n⟩,n+1)else zeH op s (depth+1) (n+1)
def zeH (op:Bool):List zac→Int→Nat→zeR×Nat
 |[],_,n=>(⟨0,0⟩,n)
 |f::fs,depth,n=>if(chk op f depth n).1.code≠0 then chk op f depth n else zeH op fs depth (chk op f depth n).2
end
def zaE (op:Bool)(f:zac):zeR:=(chk op f 1 0).1
theorem zsg {op:Bool}{f:zac}{depth:Int}{n:Nat}:chk op f depth n=if zdA op f depth n≠0 then(⟨zdA op f depth n,n⟩,n+1)else zeH op f.subs (depth+1) (n+1):=by
 cases f;rw[chk];rfl
mutual
theorem zsi {op:Bool}:∀(f:zac) (depth:Int) (n:Nat),((chk op f depth n).1.code=0→(chk op f depth n).1=⟨0,0⟩∧(chk op f depth n).2≤200∧n<(chk op f depth n).2)
 | .mk k nm w s,depth,n=>by
  rw[chk]
  split
  ·rename_i h;intro h2;exact absurd h2 h
  ·rename_i h
   intro h2
   have hn:n+1≤200:=by
    unfold zdA at h
    split at h
    ·simp at h
    ·omega
   have:=zw5 s (depth+1) (n+1) hn h2
   exact⟨this.1,this.2.1,by omega⟩
theorem zw5 {op:Bool}:∀(fs:List zac) (depth:Int) (n:Nat),n≤200→((zeH op fs depth n).1.code=0→(zeH op fs depth n).1=⟨0,0⟩∧(zeH op fs depth n).2≤200∧n≤(zeH op fs depth n).2)
 |[],depth,n,hn=>by rw[zeH];intro _;exact⟨rfl,hn,Nat.le_refl _⟩
 |f::fs,depth,n,hn=>by
  rw[zeH]
  split
  ·rename_i h;intro h2;exact absurd h2 h
  ·rename_i h
   have h3:=zsi f depth n (Decidable.not_not.1 h)
   intro h2
   have:=zw5 fs depth _ h3.2.1 h2
   exact⟨this.1,this.2.1,by omega⟩
end
def zi0 (op:Bool):List (zac×Int)→Nat→zeR
 |[],_=>⟨0,0⟩
 |(f,d)::st,n=>if(chk op f d n).1.code≠0 then(chk op f d n).1 else zi0 op st (chk op f d n).2
theorem zm9 {op:Bool}{d:Int}{st:List (zac×Int)}:∀(fs:List zac) (n:Nat),zi0 op (fs.map (fun g=>(g,d))++st) n=if(zeH op fs d n).1.code≠0 then(zeH op fs d n).1 else zi0 op st (zeH op fs d n).2
 |[],n=>by simp[zeH]
 |f::fs,n=>by
  rw[List.map_cons,List.cons_append,zi0,zeH]
  split
  ·rfl
  ·exact zm9 fs _
theorem zrd {op:Bool}{f:zac}{d:Int}{st:List (zac×Int)}{n:Nat}:zi0 op ((f,d)::st) n=if zdA op f d n≠0 then⟨zdA op f d n,n⟩else zi0 op (f.subs.map (fun g=>(g,d+1))++st) (n+1):=by
 rw[zi0,zm9,zsg]
 by_cases h:zdA op f d n≠0
 ·rw[if_pos h,if_pos h,if_pos h]
 ·rw[if_neg h,if_neg h]
theorem ztS {op:Bool}{f:zac}:zi0 op [(f,1)] 0=zaE op f:=by
 unfold zaE
 rw[zi0,zi0]
 split
 ·rfl
 ·rename_i h;exact((zsi f 1 0 (Decidable.not_not.1 h)).1).symm
theorem zet {op:Bool}{f:zac}(h:(zaE op f).code=0):zaE op f=⟨0,0⟩:=(zsi f 1 0 h).1
end Go.Abs

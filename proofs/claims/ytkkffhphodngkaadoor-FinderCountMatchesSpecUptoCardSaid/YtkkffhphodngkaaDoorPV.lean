import Derived.Test.YtkkffhphodngkaaDoorTK
set_option linter.unusedSimpArgs false
namespace Go.Abs
open Go
structure Brn where
 list:List zaf
 used:List Bool
 seen:List (List Str)
 rounds:Int
def zwn (b:Brn):FD:= .agg [.sl (b.list.map enc),.sl (b.used.map enc),.sl (b.seen.map enc),.i .i64 b.rounds]
def zwl:FD→Brn
 | .agg [l,u,s,.i _ r]=>⟨dec l,dec u,dec s,r⟩
 |_=>⟨[],[],[],0⟩
theorem zm6 (b:Brn):zwl (zwn b)=b:=by
 have h1:dec (.sl (b.list.map enc))=b.list:=dec_enc b.list
 have h2:dec (.sl (b.used.map enc))=b.used:=dec_enc b.used
 have h3:dec (.sl (b.seen.map enc))=b.seen:=dec_enc b.seen
 unfold zwl zwn
 simp only[h1,h2,h3]
instance:Enc Brn:=⟨zwn,zwl,zm6⟩
@[go_sem] theorem zCG {b:Brn}:enc b= .agg [.sl (b.list.map enc),.sl (b.used.map enc),.sl (b.seen.map enc),.i .i64 b.rounds]:=rfl
@[go_sem] theorem zCC {l u s:FD}{i:IntKind}{r:Int}:dec (α:=Brn) (.agg [l,u,s,.i i r])=⟨dec l,dec u,dec s,r⟩:=rfl
@[go_sem] theorem zAX {l u s r}:(Brn.mk l u s r).list=l:=rfl
@[go_sem] theorem zAZ {l u s r}:(Brn.mk l u s r).used=u:=rfl
@[go_sem] theorem zAY {l u s r}:(Brn.mk l u s r).seen=s:=rfl
@[go_sem] theorem zxP {l u s r}:(Brn.mk l u s r).rounds=r:=rfl
@[go_sem] theorem zCy {b:Brn}:Brn.mk b.list b.used b.seen b.rounds=b:=by cases b;rfl
def zEE (b:Brn)(fs:List zaf):Brn:=⟨b.list++fs,b.used++List.replicate fs.length false,b.seen++List.replicate fs.length [],b.rounds⟩
def zbu (l:List zaf):List Str:=(zda (zgL ((l.flatMap zbH).map (·.l)))).map Str.mk
structure Res where
 p:Prf
 ok:Bool
 lim:Bool
 added:Int
def zAg (b:Brn)(i:Nat):Brn:=⟨b.list,b.used.set i true,b.seen,b.rounds⟩
structure GS where
 c:Brn
 steps:List Prf
 added:Int
inductive GR where
 |lim (a:Int)
 |go (s:GS)
def saw (c:Brn)(i:Nat)(w:Str):Brn:=⟨c.list,c.used,c.seen.set i (c.seen.getD i []++[w]),c.rounds⟩
def GR.bind (r:GR)(k:GS→GR):GR:=match r with
 | .lim a=> .lim a
 | .go s=>k s
section
variable {r1 r2:Brn→Int→Res}
end
end Go.Abs

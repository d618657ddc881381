import Derived.Test.YtkkffhphodngkaaDoorTK
set_option linter.unusedSimpArgs false
namespace Go.Abs
open Go
structure Brn where
 list:List zac
 used:List Bool
 seen:List (List Str)
 rounds:Int
def zva (b:Brn):FD:= .agg [.sl (b.list.map enc),.sl (b.used.map enc),.sl (b.seen.map enc),.i .i64 b.rounds]
def zu8:FD→Brn
 | .agg [l,u,s,.i _ r]=>⟨dec l,dec u,dec s,r⟩
 |_=>⟨[],[],[],0⟩
theorem zmf (b:Brn):zu8 (zva b)=b:=by
 have h1:dec (.sl (b.list.map enc))=b.list:=dec_enc b.list
 have h2:dec (.sl (b.used.map enc))=b.used:=dec_enc b.used
 have h3:dec (.sl (b.seen.map enc))=b.seen:=dec_enc b.seen
 unfold zu8 zva
 simp only[h1,h2,h3]
instance:Enc Brn:=⟨zva,zu8,zmf⟩
@[go_sem] theorem zBr {b:Brn}:enc b= .agg [.sl (b.list.map enc),.sl (b.used.map enc),.sl (b.seen.map enc),.i .i64 b.rounds]:=rfl
@[go_sem] theorem zBn {l u s:FD}{i:IntKind}{r:Int}:dec (α:=Brn) (.agg [l,u,s,.i i r])=⟨dec l,dec u,dec s,r⟩:=rfl
@[go_sem] theorem zzI {l u s r}:(Brn.mk l u s r).list=l:=rfl
@[go_sem] theorem zzK {l u s r}:(Brn.mk l u s r).used=u:=rfl
@[go_sem] theorem zzJ {l u s r}:(Brn.mk l u s r).seen=s:=rfl
@[go_sem] theorem zwA {l u s r}:(Brn.mk l u s r).rounds=r:=rfl
@[go_sem] theorem zBj {b:Brn}:Brn.mk b.list b.used b.seen b.rounds=b:=by cases b;rfl
def zDl (b:Brn)(fs:List zac):Brn:=⟨b.list++fs,b.used++List.replicate fs.length false,b.seen++List.replicate fs.length [],b.rounds⟩
def zbz (l:List zac):List Str:=(zcZ (zf9 ((l.flatMap zbv).map (·.l)))).map Str.mk
structure Res where
 p:Prf
 ok:Bool
 lim:Bool
 added:Int
def zy4 (b:Brn)(i:Nat):Brn:=⟨b.list,b.used.set i true,b.seen,b.rounds⟩
structure GS where
 c:Brn
 steps:List Prf
 added:Int
inductive GR where
 |lim (a:Int)
 |go (s:GS)
def saw (c:Brn)(i:Nat)(w:Str):Brn:=⟨c.list,c.used,c.seen.set i (c.seen.getD i []++[w]),c.rounds⟩
def GR.bind (r:GR)(k:GS→GR):GR:=match r with
 | .lim a=> .lim a
 | .go s=>k s
section
variable {r1 r2:Brn→Int→Res}
end
end Go.Abs

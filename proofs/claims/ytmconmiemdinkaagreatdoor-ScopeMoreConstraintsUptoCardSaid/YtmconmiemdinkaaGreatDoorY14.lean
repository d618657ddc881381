/- several texts of this proof in one; no conditions -/
import Derived.Test.YtmconmiemdinkaaGreatDoorY6
set_option linter.unusedSimpArgs false
namespace Go.Abs
open Go
inductive zab where
 |mk (kind:Int) (name:Str) (words:List Str) (subs:List zab)
namespace zab
def kind:zab→Int|mk k _ _ _=>k
def name:zab→Str|mk _ n _ _=>n
def words:zab→List Str|mk _ _ w _=>w
def subs:zab→List zab|mk _ _ _ s=>s
end zab
@[go_sem] theorem zae {k n w s}:(zab.mk k n w s).kind=k:=rfl
@[go_sem] theorem zbg {k n w s}:(zab.mk k n w s).name=n:=rfl
@[go_sem] theorem zbJ {k n w s}:(zab.mk k n w s).words=w:=rfl
@[go_sem] theorem zaR {k n w s}:(zab.mk k n w s).subs=s:=rfl
@[go_sem] theorem zac {f:zab}:zab.mk f.kind f.name f.words f.subs=f:=by cases f;rfl
mutual
def zyT:zab→FD
 | .mk k n w s=> .agg [.i .i64 k,.s n.l,.sl (w.map enc),.sl (zpW s)]
def zpW:List zab→List FD
 |[]=>[]
 |f::fs=>zyT f::zpW fs
end
mutual
def zyM:FD→zab
 | .agg [.i _ k,.s n,.sl w,.sl s]=> .mk k ⟨n⟩ (w.map dec) (zpN s)
 |_=> .mk 0 ⟨[]⟩ [] []
def zpN:List FD→List zab
 |[]=>[]
 |x::xs=>zyM x::zpN xs
end
theorem zbE {α:Type}[Enc α](l:List α):(l.map enc).map dec=l:=by
 rw[List.map_map,show(dec∘enc:α→α)=id from funext fun a=>dec_enc a];simp
mutual
theorem zlv:∀f,zyM (zyT f)=f
 | .mk k n w s=>by
  simp only[zyT,zyM,zbE,zhK s]
theorem zhK:∀s,zpN (zpW s)=s
 |[]=>rfl
 |f::fs=>by simp only[zpW,zpN,zlv f,zhK fs]
end
instance:Enc zab:=⟨zyT,zyM,zlv⟩
theorem zlD:∀s:List zab,zpW s=s.map enc
 |[]=>rfl
 |f::fs=>by rw[zpW,zlD fs];rfl
theorem zlw:∀s:List FD,zpN s=dec (α:=List zab) (.sl s)
 |[]=>rfl
 |f::fs=>by rw[zpN,zlw fs];rfl
@[go_sem] theorem zaD {f:zab}:enc f= .agg [.i .i64 f.kind,.s f.name.l,.sl (f.words.map enc),.sl (f.subs.map enc)]:=by
 cases f with
 |mk k n w s=>show zyT _=_;rw[zyT,zlD];rfl
@[go_sem] theorem zBY {i k n w s}:dec (α:=zab) (.agg [.i i k,.s n,.sl w,.sl s])= .mk k ⟨n⟩ (dec (.sl w)) (dec (.sl s)):=by
 show zyM _=_;rw[zyM,zlw];rfl
instance:Kc zab 4:=⟨fun f=>by rw[zaD];rfl⟩
@[go_sem] theorem zzv {l:List zab}:zbB (l.map enc) 4=True:=eq_true (zdt l)
@[go_sem] theorem znz {l:List zab}:(zaf (l.map enc)).all zcf=true:=by
 rw[List.all_eq_true]
 intro d hd
 simp only[zaf,List.mem_flatMap,List.mem_map]at hd
 obtain⟨_,⟨a,_,rfl⟩,x,hx,rfl⟩:=hd
 simp only[zaD,FD.cells,List.mem_cons,List.not_mem_nil,or_false]at hx
 rcases hx with rfl|rfl|rfl|rfl<;>rfl
mutual
def zab.beq:zab→zab→Bool
 | .mk k n w s,.mk k' n' w' s'=>decide (k=k')&&decide (n=n')&&decide (w=w')&&zab.beqs s s'
def zab.beqs:List zab→List zab→Bool
 |[],[]=>true
 |f::fs,g::gs=>zab.beq f g&&zab.beqs fs gs
 |[],_::_=>false
 |_::_,[]=>false
end
mutual
theorem zab.beq_iff:∀f g:zab,zab.beq f g=true↔f=g
 | .mk k n w s,.mk k' n' w' s'=>by
  simp only[zab.beq,Bool.and_eq_true,decide_eq_true_eq,zab.beqs_iff s s',zab.mk.injEq]
  constructor
  ·rintro⟨⟨⟨a,b⟩,c⟩,d⟩;exact⟨a,b,c,d⟩
  ·rintro⟨a,b,c,d⟩;exact⟨⟨⟨a,b⟩,c⟩,d⟩
theorem zab.beqs_iff:∀f g:List zab,zab.beqs f g=true↔f=g
 |[],[]=>by simp[zab.beqs]
 |f::fs,g::gs=>by simp only[zab.beqs,Bool.and_eq_true,zab.beq_iff f g,zab.beqs_iff fs gs,List.cons.injEq]
 |[],_::_=>by simp[zab.beqs]
 |_::_,[]=>by simp[zab.beqs]
end
instance:DecidableEq zab:=fun f g=>decidable_of_iff _ (zab.beq_iff f g)
instance:Inhabited zab:=⟨.mk 0 ⟨[]⟩ [] []⟩
mutual
def zab.size:zab→Nat
 | .mk _ _ _ s=>zab.sizes s+1
def zab.sizes:List zab→Nat
 |[]=>0
 |f::fs=>f.size+zab.sizes fs
end
theorem zab.size_mem:∀{l:List zab} {f:zab},f∈l→f.size≤zab.sizes l
 |g::l,f,h=>by
  rw[zab.sizes]
  rcases List.mem_cons.1 h with rfl|h
  ·omega
  ·have:=zab.size_mem h;omega
theorem zab.size_sub {f g:zab}(h:g∈f.subs):g.size<f.size:=by
 cases f with
 |mk k n w s=>rw[zab.size];have:=zab.size_mem (show g∈s from h);omega
theorem zab.size_pos (f:zab):0<f.size:=by cases f;rw[zab.size];omega
section
variable {P:Program} {G:Nat→List FD} {T:Tbl}
theorem zyg {α ρ:Type}[Enc α][Enc ρ]{f:FuncId}{g:α→ρ}{pre:α→Prop}(m:α→Nat)(hc:zal P f)(hT:zai P G T)
  (h:∀n,zai P G (T.add f (sp1 g fun a=>m a<n∧pre a))→∀a,m a=n→pre a→(enc a).Wf→zaH P G f [.fz (enc a)] (hpL []) 0 (fun d _ _=>D.val d=some (.fz (enc (g a))))):zai P G (T.add f (sp1 g pre)):=by
 have key:∀n,zai P G (T.add f (sp1 g fun a=>m a<n∧pre a)):=by
  intro n
  induction n with
  |zero=>exact zdd hc hT fun a ha=>by omega
  |succ n ih=>
   refine zdd hc hT fun a ha hw=>?_
   rcases Nat.lt_or_ge (m a) n with h1|h1
   ·have h2:=ih f (sp1 g fun a=>m a<n∧pre a) [enc a] _ _ (by simp[Tbl.add]) (zER) ⟨by rw[dec_enc],by rw[dec_enc];exact⟨h1,ha.2⟩⟩
    rw[dec_enc,zft]at h2
    exact h2
   ·exact h n ih a (by omega) ha.2 hw
 refine zdd hc hT fun a ha hw=>h (m a) (key _) a rfl ha hw
end
end Go.Abs
namespace Go.Abs
open Go
def zkj (c:UInt8):Prop:=97≤(c.toNat:Int)∧(c.toNat:Int)≤122
def okc (c:UInt8):Prop:=zkj c∨(48≤(c.toNat:Int)∧(c.toNat:Int)≤57)∨(c.toNat:Int)=95∨(c.toNat:Int)=45
instance (c:UInt8):Decidable (zkj c):=inferInstanceAs (Decidable (_∧_))
instance (c:UInt8):Decidable (okc c):=inferInstanceAs (Decidable (_∨_))
def zaq (s:Str):Bool:=decide (1≤s.l.length∧s.l.length≤30∧zkj (s.l.getD 0 0)∧∀j,j<s.l.length→okc (s.l.getD j 0))
theorem zrx {p:Nat→Prop}{i:Nat}(h:∀j,j<i→p j)(hi:p i):∀j,j<i+1→p j:=fun j hj=>by
 rcases Nat.lt_or_ge j i with h'|h'
 ·exact h j h'
 ·obtain rfl:j=i:=by omega
  exact hi
theorem zeR {s:Str}(h:¬(1≤s.l.length∧s.l.length≤30∧zkj (s.l.getD 0 0))):zaq s=false:=by
 unfold zaq
 exact decide_eq_false fun hh=>h ⟨hh.1,hh.2.1,hh.2.2.1⟩
theorem zvf {s:Str}{j:Nat}(hj:j<s.l.length)(h:¬okc (s.l.getD j 0)):zaq s=false:=by
 unfold zaq
 exact decide_eq_false fun hh=>h (hh.2.2.2 j hj)
theorem zmc {s:Str}(h1:1≤s.l.length)(h2:s.l.length≤30)(h3:zkj (s.l.getD 0 0))(h4:∀j,j<s.l.length→okc (s.l.getD j 0)):zaq s=true:=by
 unfold zaq
 exact decide_eq_true ⟨h1,h2,h3,h4⟩
structure zg4 (n:Nat)(p:Nat→Prop) where
 i:Nat
 hi:i≤n
 hp:p i
structure zjB (n n0:Nat)(p:Nat→Prop) where
 i:Nat
 m:Nat
 hi:i≤n
 hm:n0≤m
 hp:p i
structure zg3 (n n0:Nat)(p:Nat→Prop) where
 i:Nat
 g:Nat
 m:Nat
 hi:i≤n
 hg:g<m
 hm:n0≤m
 hp:p i
def idx (l:List Str)(s:Str):Int:=if s∈l then(l.idxOf s:Int)else-1
theorem zst {s:Str}:∀{l:List Str} {i:Nat} (h:i<l.length),s∉l.take i→l[i]=s→l.idxOf s=i
 |[],i,h,_,_=>by simp at h
 |x::l,0,h,_,e=>by simp at e;simp[e]
 |x::l,i+1,h,h1,e=>by
  simp only[List.take_succ_cons,List.mem_cons,not_or]at h1
  have:=zst (s:=s) (l:=l) (i:=i) (by simpa using h) h1.2 (by simpa using e)
  rw[List.idxOf_cons]
  have hne:(x==s)=false:=by simpa using fun e=>h1.1 e.symm
  simp[hne,this]
theorem zdI {α:Type}{l:List α}{i:Nat}{s:α}(h:i<l.length)(h1:s∉l.take i)(h2:¬l[i]=s):s∉l.take (i+1):=by
 rw[List.take_succ_eq_append_getElem h,List.mem_append,List.mem_singleton]
 rintro(h'|h')
 ·exact h1 h'
 ·exact h2 h'.symm
theorem zey {α:Type}{l:List α}{i:Nat}{s:α}(h:¬i<l.length)(h1:s∉l.take i):s∉l:=by
 rwa [List.take_of_length_le (by omega)]at h1
theorem zmN {α:Type}{a b:List α}{i:Nat}(h1:i<a.length)(h2:i<b.length)(h:a.take i=b.take i)(e:a[i]=b[i]):a.take (i+1)=b.take (i+1):=by
 rw[List.take_succ_eq_append_getElem h1,List.take_succ_eq_append_getElem h2,h,e]
theorem zvK {α:Type}{a b:List α}{i:Nat}(h1:i<a.length)(h2:i<b.length)(h:¬a[i]=b[i]):¬a=b:=by
 rintro rfl;exact h rfl
theorem zmM {α:Type}{a b:List α}{i:Nat}(hl:a.length=b.length)(h:¬i<a.length)(e:a.take i=b.take i):a=b:=by
 rw[List.take_of_length_le (by omega),List.take_of_length_le (by omega)]at e
 exact e
theorem zjI {α:Type}{O:List α}{f:α→Bool}{j:Nat}(h:j<O.length):(O.take (j+1)).all f=((O.take j).all f&&f O[j]):=by
 rw[List.take_succ_eq_append_getElem h,List.all_append];simp
end Go.Abs
namespace Go.Abs
open Go
def zcw (k:Int):Int:=if k=1∨k=2∨k=3 then 0 else if k=4∨k=8∨k=9 then 1 else if k=5∨k=6∨k=7 then 2 else-1
def named (f:zab):Bool:=decide (f.kind=2∨f.kind=8∨f.kind=9∨f.kind=10)
def zdf (f:zab):Bool:=if f.kind=2 then decide (f.words.length≤3)else if f.kind=3 then decide (f.words.length=2)else decide (f.words.length=0)
def zbe (op:Bool)(f:zab):Int:=if f.kind=10∧op=true then 0 else zcw f.kind
def zeb (op:Bool)(f:zab)(depth:Int)(n:Nat):Int:=
 if 200<n+1∨40<depth then 1 else if zbe op f<0 then 4 else if¬((f.subs.length:Int)=zbe op f∧zdf f=true)then 9
 else if named f=true∧zaq f.name=false then 10 else if named f=false∧f.name≠⟨[]⟩then 5 else if f.words.all zaq=false then 10 else 0
mutual
def chk (op:Bool):zab→Int→Nat→zg2×Nat
 | .mk k nm w s,depth,n=>if zeb op (.mk k nm w s) depth n≠0 then(⟨zeb op (.mk k nm w s) depth n,n⟩,n+1)else zea op s (depth+1) (n+1)
def zea (op:Bool):List zab→Int→Nat→zg2×Nat
 |[],_,n=>(⟨0,0⟩,n)
 |f::fs,depth,n=>if(chk op f depth n).1.code≠0 then chk op f depth n else zea op fs depth (chk op f depth n).2
end
def zaX (op:Bool)(f:zab):zg2:=(chk op f 1 0).1
theorem zwb {op:Bool}{f:zab}{depth:Int}{n:Nat}:chk op f depth n=if zeb op f depth n≠0 then(⟨zeb op f depth n,n⟩,n+1)else zea op f.subs (depth+1) (n+1):=by
 cases f;rw[chk];rfl
mutual
theorem zuj {op:Bool}:∀(f:zab) (depth:Int) (n:Nat),((chk op f depth n).1.code=0→(chk op f depth n).1=⟨0,0⟩∧(chk op f depth n).2≤200∧n<(chk op f depth n).2)
 | .mk k nm w s,depth,n=>by
  rw[chk]
  split
  ·rename_i h;intro h2;exact absurd h2 h
  ·rename_i h
   intro h2
   have hn:n+1≤200:=by
    unfold zeb at h
    split at h
    ·simp at h
    ·omega
   have:=zwd s (depth+1) (n+1) hn h2
   exact⟨this.1,this.2.1,by omega⟩
theorem zwd {op:Bool}:∀(fs:List zab) (depth:Int) (n:Nat),n≤200→((zea op fs depth n).1.code=0→(zea op fs depth n).1=⟨0,0⟩∧(zea op fs depth n).2≤200∧n≤(zea op fs depth n).2)
 |[],depth,n,hn=>by rw[zea];intro _;exact⟨rfl,hn,Nat.le_refl _⟩
 |f::fs,depth,n,hn=>by
  rw[zea]
  split
  ·rename_i h;intro h2;exact absurd h2 h
  ·rename_i h
   have h3:=zuj f depth n (Decidable.not_not.1 h)
   intro h2
   have:=zwd fs depth _ h3.2.1 h2
   exact⟨this.1,this.2.1,by omega⟩
end
theorem zfa {op:Bool}{f:zab}(h:(zaX op f).code=0):zaX op f=⟨0,0⟩:=(zuj f 1 0 h).1
end Go.Abs
namespace Go.Abs
open Go
mutual
inductive zcY where
 |mk (kind:Int) (name:Str) (form:zab) (boxes:List Box)
inductive Box where
 |mk (refs:List Str) (conds:List zcY)
end
def zcY.kind:zcY→Int| .mk k _ _ _=>k
def zcY.name:zcY→Str| .mk _ n _ _=>n
def zcY.form:zcY→zab| .mk _ _ f _=>f
def zcY.boxes:zcY→List Box| .mk _ _ _ b=>b
def Box.refs:Box→List Str| .mk r _=>r
def Box.conds:Box→List zcY| .mk _ c=>c
@[go_sem] theorem zz1 {k n f b}:(zcY.mk k n f b).kind=k:=rfl
@[go_sem] theorem zz2 {k n f b}:(zcY.mk k n f b).name=n:=rfl
@[go_sem] theorem zz0 {k n f b}:(zcY.mk k n f b).form=f:=rfl
@[go_sem] theorem zyI {k n f b}:(zcY.mk k n f b).boxes=b:=rfl
@[go_sem] theorem zBT {r c}:(Box.mk r c).refs=r:=rfl
@[go_sem] theorem zzS {r c}:(Box.mk r c).conds=c:=rfl
@[go_sem] theorem zBU {c:zcY}:zcY.mk c.kind c.name c.form c.boxes=c:=by cases c;rfl
@[go_sem] theorem zDw {b:Box}:Box.mk b.refs b.conds=b:=by cases b;rfl
mutual
def zyS:zcY→FD
 | .mk k n f b=> .agg [.i .i64 k,.s n.l,.i .i64 f.kind,.s f.name.l,.sl (f.words.map enc),.sl (f.subs.map enc),.sl (zpU b)]
def zyR:Box→FD
 | .mk r c=> .agg [.sl (r.map enc),.sl (zpV c)]
def zpU:List Box→List FD
 |[]=>[]
 |b::bs=>zyR b::zpU bs
def zpV:List zcY→List FD
 |[]=>[]
 |c::cs=>zyS c::zpV cs
end
mutual
def zyL:FD→zcY
 | .agg [.i _ k,.s n,.i _ fk,.s fn,.sl fw,.sl fs,.sl b]=> .mk k ⟨n⟩ (.mk fk ⟨fn⟩ (fw.map dec) (fs.map dec)) (zpL b)
 |_=> .mk 0 ⟨[]⟩ (.mk 0 ⟨[]⟩ [] []) []
def zyK:FD→Box
 | .agg [.sl r,.sl c]=> .mk (r.map dec) (zpM c)
 |_=> .mk [] []
def zpL:List FD→List Box
 |[]=>[]
 |x::xs=>zyK x::zpL xs
def zpM:List FD→List zcY
 |[]=>[]
 |x::xs=>zyL x::zpM xs
end
mutual
theorem zlt:∀c,zyL (zyS c)=c
 | .mk k n f b=>by simp only[zyS,zyL,zbE,zhI b,zad,zac]
theorem zlr:∀b,zyK (zyR b)=b
 | .mk r c=>by simp only[zyR,zyK,zbE,zhJ c]
theorem zhI:∀b,zpL (zpU b)=b
 |[]=>rfl
 |b::bs=>by simp only[zpU,zpL,zlr b,zhI bs]
theorem zhJ:∀c,zpM (zpV c)=c
 |[]=>rfl
 |c::cs=>by simp only[zpV,zpM,zlt c,zhJ cs]
end
instance:Enc zcY:=⟨zyS,zyL,zlt⟩
instance:Enc Box:=⟨zyR,zyK,zlr⟩
theorem zlB:∀s:List Box,zpU s=s.map enc
 |[]=>rfl
 |f::fs=>by rw[zpU,zlB fs];rfl
theorem zlC:∀s:List zcY,zpV s=s.map enc
 |[]=>rfl
 |f::fs=>by rw[zpV,zlC fs];rfl
theorem zls:∀s:List FD,zpL s=dec (α:=List Box) (.sl s)
 |[]=>rfl
 |f::fs=>by rw[zpL,zls fs];rfl
theorem zlu:∀s:List FD,zpM s=dec (α:=List zcY) (.sl s)
 |[]=>rfl
 |f::fs=>by rw[zpM,zlu fs];rfl
@[go_sem] theorem zoC {c:zcY}:enc c= .agg [.i .i64 c.kind,.s c.name.l,.i .i64 c.form.kind,.s c.form.name.l,.sl (c.form.words.map enc),.sl (c.form.subs.map enc),.sl (c.boxes.map enc)]:=by
 cases c with
 |mk k n f b=>show zyS _=_;rw[zyS,zlB];rfl
@[go_sem] theorem zr5 {b:Box}:enc b= .agg [.sl (b.refs.map enc),.sl (b.conds.map enc)]:=by
 cases b with
 |mk r c=>show zyR _=_;rw[zyR,zlC];rfl
@[go_sem] theorem zBX {i j k n fk fn fw fs b}:dec (α:=zcY) (.agg [.i i k,.s n,.i j fk,.s fn,.sl fw,.sl fs,.sl b])= .mk k ⟨n⟩ (.mk fk ⟨fn⟩ (dec (.sl fw)) (dec (.sl fs))) (dec (.sl b)):=by
 show zyL _=_;rw[zyL,zls];rfl
@[go_sem] theorem zDA {r c}:dec (α:=Box) (.agg [.sl r,.sl c])= .mk (dec (.sl r)) (dec (.sl c)):=by
 show zyK _=_;rw[zyK,zlu];rfl
instance:Kc zcY 7:=⟨fun f=>by rw[zoC];rfl⟩
instance:Kc Box 2:=⟨fun f=>by rw[zr5];rfl⟩
@[go_sem] theorem zzu {l:List zcY}:zbB (l.map enc) 7=True:=eq_true (zdt l)
@[go_sem] theorem zzt {l:List Box}:zbB (l.map enc) 2=True:=eq_true (zdt l)
@[go_sem] theorem zxp {l:List zcY}:(zaf (l.map enc)).all zcf=true:=by
 rw[List.all_eq_true]
 intro d hd
 simp only[zaf,List.mem_flatMap,List.mem_map]at hd
 obtain⟨_,⟨a,_,rfl⟩,x,hx,rfl⟩:=hd
 simp only[zoC,FD.cells,List.mem_cons,List.not_mem_nil,or_false]at hx
 rcases hx with rfl|rfl|rfl|rfl|rfl|rfl|rfl<;>rfl
@[go_sem] theorem zxo {l:List Box}:(zaf (l.map enc)).all zcf=true:=by
 rw[List.all_eq_true]
 intro d hd
 simp only[zaf,List.mem_flatMap,List.mem_map]at hd
 obtain⟨_,⟨a,_,rfl⟩,x,hx,rfl⟩:=hd
 simp only[zr5,FD.cells,List.mem_cons,List.not_mem_nil,or_false]at hx
 rcases hx with rfl|rfl<;>rfl
mutual
def zcY.size:zcY→Nat
 | .mk _ _ _ b=>Box.sizes b+1
def Box.size:Box→Nat
 | .mk _ c=>zcY.sizes c+1
def Box.sizes:List Box→Nat
 |[]=>0
 |b::bs=>b.size+Box.sizes bs
def zcY.sizes:List zcY→Nat
 |[]=>0
 |c::cs=>c.size+zcY.sizes cs
end
theorem Box.size_mem:∀{l:List Box} {f:Box},f∈l→f.size≤Box.sizes l
 |g::l,f,h=>by
  rw[Box.sizes]
  rcases List.mem_cons.1 h with rfl|h
  ·omega
  ·have:=Box.size_mem h;omega
theorem zcY.size_mem:∀{l:List zcY} {f:zcY},f∈l→f.size≤zcY.sizes l
 |g::l,f,h=>by
  rw[zcY.sizes]
  rcases List.mem_cons.1 h with rfl|h
  ·omega
  ·have:=zcY.size_mem h;omega
theorem Box.size_sub {b:Box}{c:zcY}(h:c∈b.conds):c.size<b.size:=by
 cases b with
 |mk r cs=>rw[Box.size];have:=zcY.size_mem (show c∈cs from h);omega
theorem zcY.size_sub {c:zcY}{b:Box}(h:b∈c.boxes):b.size<c.size:=by
 cases c with
 |mk k n f bs=>rw[zcY.size];have:=Box.size_mem (show b∈bs from h);omega
def zoh (k:Int):Int:=if k=1∨k=5 then 0 else if k=2∨k=6 then 1 else if k=3∨k=4 then 2 else-1
def zBj (f:zab):Bool:=decide (f.kind=0)&&decide (f.name=⟨[]⟩)&&decide (f.words.length=0)&&decide (f.subs.length=0)
def zzZ (c:zcY)(refs:List Str):Int:=
 if zoh c.kind<0 then 4 else if¬(c.boxes.length:Int)=zoh c.kind then 9 else if c.kind≠5∧c.name≠⟨[]⟩∨0<zoh c.kind∧zBj c.form=false then 5
 else if 0<zoh c.kind then 0 else if(zaX false c.form).code≠0 then(zaX false c.form).code
 else if c.kind=1∧c.form.kind≠2∧c.form.kind≠3∨c.kind=5∧(c.form.kind≠2∨c.form.words.length≠0)then 5 else if c.kind=5∧c.name∉refs then 6 else 0
def zmq:List Str→List Str→Int×List Str
 |refs,[]=>(0,refs)
 |refs,x::xs=>if zaq x=false then(10,refs)else if x∈refs then(7,refs)else zmq (refs++[x]) xs
structure BS where
 e:zg2
 n:Nat
 refs:List Str
mutual
def zBS:Box→Int→Int→Nat→List Str→BS
 | .mk r cs,depth,most,n,refs=>
  if 200<n+1∨10<depth then⟨⟨1,n⟩,n+1,refs⟩
  else if most<r.length∨200<refs.length+r.length then⟨⟨2,n⟩,n+1,refs⟩
  else if(zmq refs r).1≠0 then⟨⟨(zmq refs r).1,n⟩,n+1,(zmq refs r).2⟩
  else zwe r cs depth (n+1) (zmq refs r).2
def zwe:List Str→List zcY→Int→Nat→List Str→BS
 |_,[],_,n,refs=>⟨⟨0,0⟩,n,refs⟩
 |r,c::cs,depth,n,refs=>if(zum r c depth n refs).e.code≠0 then zum r c depth n refs else zwe r cs depth (zum r c depth n refs).n (zum r c depth n refs).refs
def zum:List Str→zcY→Int→Nat→List Str→BS
 |r,.mk k nm f bs,depth,n,refs=>
  if 200<n+1 then⟨⟨1,n⟩,n+1,refs⟩else if zzZ (.mk k nm f bs) r≠0 then⟨⟨zzZ (.mk k nm f bs) r,n⟩,n+1,refs⟩
  else zzT bs (depth+1) (if k=6 then 2 else 200) (n+1) refs
def zzT:List Box→Int→Int→Nat→List Str→BS
 |[],_,_,n,refs=>⟨⟨0,0⟩,n,refs⟩
 |b::bs,depth,most,n,refs=>if(zBS b depth most n refs).e.code≠0 then zBS b depth most n refs else zzT bs depth most (zBS b depth most n refs).n (zBS b depth most n refs).refs
end
end Go.Abs

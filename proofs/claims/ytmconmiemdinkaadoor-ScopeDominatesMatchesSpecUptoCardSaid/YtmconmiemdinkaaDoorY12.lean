/- several texts of this proof in one; no conditions -/
import Derived.Test.YtmconmiemdinkaaDoorY6
set_option linter.unusedSimpArgs false
namespace Go.Abs
open Go
inductive zab where
 |mk (kind:Int) (name:Str) (words:List Str) (subs:List zab)
namespace zab
def kind:zab→Int|mk k _ _ _=>k
def name:zab→Str|mk _ n _ _=>n
def words:zab→List Str|mk _ _ w _=>w
def subs:zab→List zab|mk _ _ _ s=>s
end zab
@[go_sem] theorem zaR {k n w s}:(zab.mk k n w s).kind=k:=rfl
@[go_sem] theorem zei {k n w s}:(zab.mk k n w s).name=n:=rfl
@[go_sem] theorem ziy {k n w s}:(zab.mk k n w s).words=w:=rfl
@[go_sem] theorem zby {k n w s}:(zab.mk k n w s).subs=s:=rfl
@[go_sem] theorem zac {f:zab}:zab.mk f.kind f.name f.words f.subs=f:=by cases f;rfl
mutual
def zu6:zab→FD
 | .mk k n w s=> .agg [.i .i64 k,.s n.l,.sl (w.map enc),.sl (zn0 s)]
def zn0:List zab→List FD
 |[]=>[]
 |f::fs=>zu6 f::zn0 fs
end
mutual
def zuZ:FD→zab
 | .agg [.i _ k,.s n,.sl w,.sl s]=> .mk k ⟨n⟩ (w.map dec) (znT s)
 |_=> .mk 0 ⟨[]⟩ [] []
def znT:List FD→List zab
 |[]=>[]
 |x::xs=>zuZ x::znT xs
end
theorem zbz {α:Type}[Enc α](l:List α):(l.map enc).map dec=l:=by
 rw[List.map_map,show(dec∘enc:α→α)=id from funext fun a=>dec_enc a];simp
mutual
theorem zkg:∀f,zuZ (zu6 f)=f
 | .mk k n w s=>by
  simp only[zu6,zuZ,zbz,zhc s]
theorem zhc:∀s,znT (zn0 s)=s
 |[]=>rfl
 |f::fs=>by simp only[zn0,znT,zkg f,zhc fs]
end
instance:Enc zab:=⟨zu6,zuZ,zkg⟩
theorem zko:∀s:List zab,zn0 s=s.map enc
 |[]=>rfl
 |f::fs=>by rw[zn0,zko fs];rfl
theorem zkh:∀s:List FD,znT s=dec (α:=List zab) (.sl s)
 |[]=>rfl
 |f::fs=>by rw[znT,zkh fs];rfl
@[go_sem] theorem zaJ {f:zab}:enc f= .agg [.i .i64 f.kind,.s f.name.l,.sl (f.words.map enc),.sl (f.subs.map enc)]:=by
 cases f with
 |mk k n w s=>show zu6 _=_;rw[zu6,zko];rfl
@[go_sem] theorem zx4 {i k n w s}:dec (α:=zab) (.agg [.i i k,.s n,.sl w,.sl s])= .mk k ⟨n⟩ (dec (.sl w)) (dec (.sl s)):=by
 show zuZ _=_;rw[zuZ,zkh];rfl
instance:Kc zab 4:=⟨fun f=>by rw[zaJ];rfl⟩
@[go_sem] theorem zvI {l:List zab}:zbi (l.map enc) 4=True:=eq_true (zdg l)
@[go_sem] theorem ztX {l:List zab}:(zag (l.map enc)).all zcm=true:=by
 rw[List.all_eq_true]
 intro d hd
 simp only[zag,List.mem_flatMap,List.mem_map]at hd
 obtain⟨_,⟨a,_,rfl⟩,x,hx,rfl⟩:=hd
 simp only[zaJ,FD.cells,List.mem_cons,List.not_mem_nil,or_false]at hx
 rcases hx with rfl|rfl|rfl|rfl<;>rfl
mutual
def zab.beq:zab→zab→Bool
 | .mk k n w s,.mk k' n' w' s'=>decide (k=k')&&decide (n=n')&&decide (w=w')&&zab.beqs s s'
def zab.beqs:List zab→List zab→Bool
 |[],[]=>true
 |f::fs,g::gs=>zab.beq f g&&zab.beqs fs gs
 |[],_::_=>false
 |_::_,[]=>false
end
mutual
theorem zab.beq_iff:∀f g:zab,zab.beq f g=true↔f=g
 | .mk k n w s,.mk k' n' w' s'=>by
  simp only[zab.beq,Bool.and_eq_true,decide_eq_true_eq,zab.beqs_iff s s',zab.mk.injEq]
  constructor
  ·rintro⟨⟨⟨a,b⟩,c⟩,d⟩;exact⟨a,b,c,d⟩
  ·rintro⟨a,b,c,d⟩;exact⟨⟨⟨a,b⟩,c⟩,d⟩
theorem zab.beqs_iff:∀f g:List zab,zab.beqs f g=true↔f=g
 |[],[]=>by simp[zab.beqs]
 |f::fs,g::gs=>by simp only[zab.beqs,Bool.and_eq_true,zab.beq_iff f g,zab.beqs_iff fs gs,List.cons.injEq]
 |[],_::_=>by simp[zab.beqs]
 |_::_,[]=>by simp[zab.beqs]
end
instance:DecidableEq zab:=fun f g=>decidable_of_iff _ (zab.beq_iff f g)
instance:Inhabited zab:=⟨.mk 0 ⟨[]⟩ [] []⟩
mutual
def zab.size:zab→Nat
 | .mk _ _ _ s=>zab.sizes s+1
def zab.sizes:List zab→Nat
 |[]=>0
 |f::fs=>f.size+zab.sizes fs
end
theorem zab.size_mem:∀{l:List zab} {f:zab},f∈l→f.size≤zab.sizes l
 |g::l,f,h=>by
  rw[zab.sizes]
  rcases List.mem_cons.1 h with rfl|h
  ·omega
  ·have:=zab.size_mem h;omega
theorem zab.size_sub {f g:zab}(h:g∈f.subs):g.size<f.size:=by
 cases f with
 |mk k n w s=>rw[zab.size];have:=zab.size_mem (show g∈s from h);omega
theorem zab.size_pos (f:zab):0<f.size:=by cases f;rw[zab.size];omega
section
variable {P:Program} {G:Nat→List FD} {T:Tbl}
theorem zjN {α ρ:Type}[Enc α][Enc ρ]{f:FuncId}{g:α→ρ}{pre:α→Prop}(m:α→Nat)(hc:zat P f)(hT:zam P G T)
  (h:∀n,zam P G (T.add f (sp1 g fun a=>m a<n∧pre a))→∀a,m a=n→pre a→(enc a).Wf→zaE P G f [.fz (enc a)] (hpL []) 0 (fun d _ _=>D.val d=some (.fz (enc (g a))))):zam P G (T.add f (sp1 g pre)):=by
 have key:∀n,zam P G (T.add f (sp1 g fun a=>m a<n∧pre a)):=by
  intro n
  induction n with
  |zero=>exact zcu hc hT fun a ha=>by omega
  |succ n ih=>
   refine zcu hc hT fun a ha hw=>?_
   rcases Nat.lt_or_ge (m a) n with h1|h1
   ·have h2:=ih f (sp1 g fun a=>m a<n∧pre a) [enc a] _ _ (by simp[Tbl.add]) (zAQ) ⟨by rw[dec_enc],by rw[dec_enc];exact⟨h1,ha.2⟩⟩
    rw[dec_enc,zfN]at h2
    exact h2
   ·exact h n ih a (by omega) ha.2 hw
 refine zcu hc hT fun a ha hw=>h (m a) (key _) a rfl ha hw
end
end Go.Abs
namespace Go.Abs
open Go
def zgC (c:UInt8):Prop:=97≤(c.toNat:Int)∧(c.toNat:Int)≤122
def okc (c:UInt8):Prop:=zgC c∨(48≤(c.toNat:Int)∧(c.toNat:Int)≤57)∨(c.toNat:Int)=95∨(c.toNat:Int)=45
instance (c:UInt8):Decidable (zgC c):=inferInstanceAs (Decidable (_∧_))
instance (c:UInt8):Decidable (okc c):=inferInstanceAs (Decidable (_∨_))
def zax (s:Str):Bool:=decide (1≤s.l.length∧s.l.length≤30∧zgC (s.l.getD 0 0)∧∀j,j<s.l.length→okc (s.l.getD j 0))
theorem zj3 {p:Nat→Prop}{i:Nat}(h:∀j,j<i→p j)(hi:p i):∀j,j<i+1→p j:=fun j hj=>by
 rcases Nat.lt_or_ge j i with h'|h'
 ·exact h j h'
 ·obtain rfl:j=i:=by omega
  exact hi
theorem zcf {s:Str}(h:¬(1≤s.l.length∧s.l.length≤30∧zgC (s.l.getD 0 0))):zax s=false:=by
 unfold zax
 exact decide_eq_false fun hh=>h ⟨hh.1,hh.2.1,hh.2.2.1⟩
theorem zm7 {s:Str}{j:Nat}(hj:j<s.l.length)(h:¬okc (s.l.getD j 0)):zax s=false:=by
 unfold zax
 exact decide_eq_false fun hh=>h (hh.2.2.2 j hj)
theorem zhs {s:Str}(h1:1≤s.l.length)(h2:s.l.length≤30)(h3:zgC (s.l.getD 0 0))(h4:∀j,j<s.l.length→okc (s.l.getD j 0)):zax s=true:=by
 unfold zax
 exact decide_eq_true ⟨h1,h2,h3,h4⟩
theorem zql {s:Str}{j:Nat}(e:j=0)(h:¬zgC (s.l.getD j 0)):zax s=false:=by
 subst e;exact zcf fun hh=>h hh.2.2
theorem zsg {s:Str}{i:Nat}(hz:0<i→zgC (s.l.getD 0 0))(h:i=0→zgC (s.l.getD i 0)):0<i+1→zgC (s.l.getD 0 0):=fun _=>by
 rcases Nat.eq_zero_or_pos i with e|e
 ·have:=h e;rwa [e]at this
 ·exact hz e
structure zd3 (n:Nat)(p:Nat→Prop) where
 i:Nat
 hi:i≤n
 hp:p i
structure zdI (n n0:Nat)(p:Nat→Prop) where
 i:Nat
 m:Nat
 hi:i≤n
 hm:n0≤m
 hp:p i
structure zeF (n n0:Nat)(p:Nat→Prop) where
 i:Nat
 g:Nat
 m:Nat
 hi:i≤n
 hg:g<m
 hm:n0≤m
 hp:p i
def idx (l:List Str)(s:Str):Int:=if s∈l then(l.idxOf s:Int)else-1
theorem zp4 {s:Str}:∀{l:List Str} {i:Nat} (h:i<l.length),s∉l.take i→l[i]=s→l.idxOf s=i
 |[],i,h,_,_=>by simp at h
 |x::l,0,h,_,e=>by simp at e;simp[e]
 |x::l,i+1,h,h1,e=>by
  simp only[List.take_succ_cons,List.mem_cons,not_or]at h1
  have:=zp4 (s:=s) (l:=l) (i:=i) (by simpa using h) h1.2 (by simpa using e)
  rw[List.idxOf_cons]
  have hne:(x==s)=false:=by simpa using fun e=>h1.1 e.symm
  simp[hne,this]
theorem zb1 {α:Type}{l:List α}{i:Nat}{s:α}(h:i<l.length)(h1:s∉l.take i)(h2:¬l[i]=s):s∉l.take (i+1):=by
 rw[List.take_succ_eq_append_getElem h,List.mem_append,List.mem_singleton]
 rintro(h'|h')
 ·exact h1 h'
 ·exact h2 h'.symm
theorem zc5 {α:Type}{l:List α}{i:Nat}{s:α}(h:¬i<l.length)(h1:s∉l.take i):s∉l:=by
 rwa [List.take_of_length_le (by omega)]at h1
theorem zb5 {α:Type}{O:List α}{f:α→Bool}{j:Nat}(h:j<O.length):(O.take (j+1)).all f=((O.take j).all f&&f O[j]):=by
 rw[List.take_succ_eq_append_getElem h,List.all_append];simp
end Go.Abs
namespace Go.Abs
open Go
def zdb (k:Int):Int:=if k=1∨k=2∨k=3 then 0 else if k=4∨k=8∨k=9 then 1 else if k=5∨k=6∨k=7 then 2 else-1
def named (f:zab):Bool:=decide (f.kind=2∨f.kind=8∨f.kind=9∨f.kind=10)
def zdl (f:zab):Bool:=if f.kind=2 then decide (f.words.length≤3)else if f.kind=3 then decide (f.words.length=2)else decide (f.words.length=0)
def za1 (op:Bool)(f:zab):Int:=if f.kind=10∧op=true then 0 else zdb f.kind
def zcB (op:Bool)(f:zab)(depth:Int)(n:Nat):Int:=
 if 200<n+1∨40<depth then 1 else if za1 op f<0 then 4 else if¬((f.subs.length:Int)=za1 op f∧zdl f=true)then 9
 else if named f=true∧zax f.name=false then 10 else if named f=false∧f.name≠⟨[]⟩then 5 else if f.words.all zax=false then 10 else 0
mutual
def chk (op:Bool):zab→Int→Nat→zgV×Nat
 | .mk k nm w s,depth,n=>if zcB op (.mk k nm w s) depth n≠0 then(⟨zcB op (.mk k nm w s) depth n,n⟩,n+1)else zdH op s (depth+1) (n+1)
def zdH (op:Bool):List zab→Int→Nat→zgV×Nat
 |[],_,n=>(⟨0,0⟩,n)
 |f::fs,depth,n=>if(chk op f depth n).1.code≠0 then chk op f depth n else zdH op fs depth (chk op f depth n).2
end
def zaP (op:Bool)(f:zab):zgV:=(chk op f 1 0).1
theorem zpq {op:Bool}{f:zab}{depth:Int}{n:Nat}:chk op f depth n=if zcB op f depth n≠0 then(⟨zcB op f depth n,n⟩,n+1)else zdH op f.subs (depth+1) (n+1):=by
 cases f;rw[chk];rfl
mutual
theorem zps {op:Bool}:∀(f:zab) (depth:Int) (n:Nat),((chk op f depth n).1.code=0→(chk op f depth n).1=⟨0,0⟩∧(chk op f depth n).2≤200∧n<(chk op f depth n).2)
 | .mk k nm w s,depth,n=>by
  rw[chk]
  split
  ·rename_i h;intro h2;exact absurd h2 h
  ·rename_i h
   intro h2
   have hn:n+1≤200:=by
    unfold zcB at h
    split at h
    ·simp at h
    ·omega
   have:=zsV s (depth+1) (n+1) hn h2
   exact⟨this.1,this.2.1,by omega⟩
theorem zsV {op:Bool}:∀(fs:List zab) (depth:Int) (n:Nat),n≤200→((zdH op fs depth n).1.code=0→(zdH op fs depth n).1=⟨0,0⟩∧(zdH op fs depth n).2≤200∧n≤(zdH op fs depth n).2)
 |[],depth,n,hn=>by rw[zdH];intro _;exact⟨rfl,hn,Nat.le_refl _⟩
 |f::fs,depth,n,hn=>by
  rw[zdH]
  split
  ·rename_i h;intro h2;exact absurd h2 h
  ·rename_i h
   have h3:=zps f depth n (Decidable.not_not.1 h)
   intro h2
   have:=zsV fs depth _ h3.2.1 h2
   exact⟨this.1,this.2.1,by omega⟩
end
def zgE (op:Bool):List (zab×Int)→Nat→zgV
 |[],_=>⟨0,0⟩
 |(f,d)::st,n=>if(chk op f d n).1.code≠0 then(chk op f d n).1 else zgE op st (chk op f d n).2
theorem zk5 {op:Bool}{d:Int}{st:List (zab×Int)}:∀(fs:List zab) (n:Nat),zgE op (fs.map (fun g=>(g,d))++st) n=if(zdH op fs d n).1.code≠0 then(zdH op fs d n).1 else zgE op st (zdH op fs d n).2
 |[],n=>by simp[zdH]
 |f::fs,n=>by
  rw[List.map_cons,List.cons_append,zgE,zdH]
  split
  ·rfl
  ·exact zk5 fs _
theorem ziK {op:Bool}{f:zab}{d:Int}{st:List (zab×Int)}{n:Nat}:zgE op ((f,d)::st) n=if zcB op f d n≠0 then⟨zcB op f d n,n⟩else zgE op (f.subs.map (fun g=>(g,d+1))++st) (n+1):=by
 rw[zgE,zk5,zpq]
 by_cases h:zcB op f d n≠0
 ·rw[if_pos h,if_pos h,if_pos h]
 ·rw[if_neg h,if_neg h]
theorem zk6 {op:Bool}{f:zab}:zgE op [(f,1)] 0=zaP op f:=by
 unfold zaP
 rw[zgE,zgE]
 split
 ·rfl
 ·rename_i h;exact((zps f 1 0 (Decidable.not_not.1 h)).1).symm
theorem zg8 {op:Bool}{f:zab}(h:(zaP op f).code=0):zaP op f=⟨0,0⟩:=(zps f 1 0 h).1
end Go.Abs
namespace Go.Abs
open Go
mutual
inductive zcQ where
 |mk (kind:Int) (name:Str) (form:zab) (boxes:List Box)
inductive Box where
 |mk (refs:List Str) (conds:List zcQ)
end
def zcQ.kind:zcQ→Int| .mk k _ _ _=>k
def zcQ.name:zcQ→Str| .mk _ n _ _=>n
def zcQ.form:zcQ→zab| .mk _ _ f _=>f
def zcQ.boxes:zcQ→List Box| .mk _ _ _ b=>b
def Box.refs:Box→List Str| .mk r _=>r
def Box.conds:Box→List zcQ| .mk _ c=>c
@[go_sem] theorem zwd {k n f b}:(zcQ.mk k n f b).kind=k:=rfl
@[go_sem] theorem zwe {k n f b}:(zcQ.mk k n f b).name=n:=rfl
@[go_sem] theorem zwc {k n f b}:(zcQ.mk k n f b).form=f:=rfl
@[go_sem] theorem zuW {k n f b}:(zcQ.mk k n f b).boxes=b:=rfl
@[go_sem] theorem zxW {r c}:(Box.mk r c).refs=r:=rfl
@[go_sem] theorem zv4 {r c}:(Box.mk r c).conds=c:=rfl
@[go_sem] theorem zx0 {c:zcQ}:zcQ.mk c.kind c.name c.form c.boxes=c:=by cases c;rfl
@[go_sem] theorem zzy {b:Box}:Box.mk b.refs b.conds=b:=by cases b;rfl
mutual
def zu5:zcQ→FD
 | .mk k n f b=> .agg [.i .i64 k,.s n.l,.i .i64 f.kind,.s f.name.l,.sl (f.words.map enc),.sl (f.subs.map enc),.sl (znY b)]
def zu4:Box→FD
 | .mk r c=> .agg [.sl (r.map enc),.sl (znZ c)]
def znY:List Box→List FD
 |[]=>[]
 |b::bs=>zu4 b::znY bs
def znZ:List zcQ→List FD
 |[]=>[]
 |c::cs=>zu5 c::znZ cs
end
mutual
def zuY:FD→zcQ
 | .agg [.i _ k,.s n,.i _ fk,.s fn,.sl fw,.sl fs,.sl b]=> .mk k ⟨n⟩ (.mk fk ⟨fn⟩ (fw.map dec) (fs.map dec)) (znR b)
 |_=> .mk 0 ⟨[]⟩ (.mk 0 ⟨[]⟩ [] []) []
def zuX:FD→Box
 | .agg [.sl r,.sl c]=> .mk (r.map dec) (znS c)
 |_=> .mk [] []
def znR:List FD→List Box
 |[]=>[]
 |x::xs=>zuX x::znR xs
def znS:List FD→List zcQ
 |[]=>[]
 |x::xs=>zuY x::znS xs
end
mutual
theorem zke:∀c,zuY (zu5 c)=c
 | .mk k n f b=>by simp only[zu5,zuY,zbz,zha b,zae,zac]
theorem zkc:∀b,zuX (zu4 b)=b
 | .mk r c=>by simp only[zu4,zuX,zbz,zhb c]
theorem zha:∀b,znR (znY b)=b
 |[]=>rfl
 |b::bs=>by simp only[znY,znR,zkc b,zha bs]
theorem zhb:∀c,znS (znZ c)=c
 |[]=>rfl
 |c::cs=>by simp only[znZ,znS,zke c,zhb cs]
end
instance:Enc zcQ:=⟨zu5,zuY,zke⟩
instance:Enc Box:=⟨zu4,zuX,zkc⟩
theorem zkm:∀s:List Box,znY s=s.map enc
 |[]=>rfl
 |f::fs=>by rw[znY,zkm fs];rfl
theorem zkn:∀s:List zcQ,znZ s=s.map enc
 |[]=>rfl
 |f::fs=>by rw[znZ,zkn fs];rfl
theorem zkd:∀s:List FD,znR s=dec (α:=List Box) (.sl s)
 |[]=>rfl
 |f::fs=>by rw[znR,zkd fs];rfl
theorem zkf:∀s:List FD,znS s=dec (α:=List zcQ) (.sl s)
 |[]=>rfl
 |f::fs=>by rw[znS,zkf fs];rfl
@[go_sem] theorem zmQ {c:zcQ}:enc c= .agg [.i .i64 c.kind,.s c.name.l,.i .i64 c.form.kind,.s c.form.name.l,.sl (c.form.words.map enc),.sl (c.form.subs.map enc),.sl (c.boxes.map enc)]:=by
 cases c with
 |mk k n f b=>show zu5 _=_;rw[zu5,zkm];rfl
@[go_sem] theorem zpL {b:Box}:enc b= .agg [.sl (b.refs.map enc),.sl (b.conds.map enc)]:=by
 cases b with
 |mk r c=>show zu4 _=_;rw[zu4,zkn];rfl
@[go_sem] theorem zx3 {i j k n fk fn fw fs b}:dec (α:=zcQ) (.agg [.i i k,.s n,.i j fk,.s fn,.sl fw,.sl fs,.sl b])= .mk k ⟨n⟩ (.mk fk ⟨fn⟩ (dec (.sl fw)) (dec (.sl fs))) (dec (.sl b)):=by
 show zuY _=_;rw[zuY,zkd];rfl
@[go_sem] theorem zzB {r c}:dec (α:=Box) (.agg [.sl r,.sl c])= .mk (dec (.sl r)) (dec (.sl c)):=by
 show zuX _=_;rw[zuX,zkf];rfl
instance:Kc zcQ 7:=⟨fun f=>by rw[zmQ];rfl⟩
instance:Kc Box 2:=⟨fun f=>by rw[zpL];rfl⟩
@[go_sem] theorem zvH {l:List zcQ}:zbi (l.map enc) 7=True:=eq_true (zdg l)
@[go_sem] theorem zvG {l:List Box}:zbi (l.map enc) 2=True:=eq_true (zdg l)
@[go_sem] theorem ztW {l:List zcQ}:(zag (l.map enc)).all zcm=true:=by
 rw[List.all_eq_true]
 intro d hd
 simp only[zag,List.mem_flatMap,List.mem_map]at hd
 obtain⟨_,⟨a,_,rfl⟩,x,hx,rfl⟩:=hd
 simp only[zmQ,FD.cells,List.mem_cons,List.not_mem_nil,or_false]at hx
 rcases hx with rfl|rfl|rfl|rfl|rfl|rfl|rfl<;>rfl
@[go_sem] theorem ztV {l:List Box}:(zag (l.map enc)).all zcm=true:=by
 rw[List.all_eq_true]
 intro d hd
 simp only[zag,List.mem_flatMap,List.mem_map]at hd
 obtain⟨_,⟨a,_,rfl⟩,x,hx,rfl⟩:=hd
 simp only[zpL,FD.cells,List.mem_cons,List.not_mem_nil,or_false]at hx
 rcases hx with rfl|rfl<;>rfl
mutual
def zcQ.size:zcQ→Nat
 | .mk _ _ _ b=>Box.sizes b+1
def Box.size:Box→Nat
 | .mk _ c=>zcQ.sizes c+1
def Box.sizes:List Box→Nat
 |[]=>0
 |b::bs=>b.size+Box.sizes bs
def zcQ.sizes:List zcQ→Nat
 |[]=>0
 |c::cs=>c.size+zcQ.sizes cs
end
theorem Box.size_mem:∀{l:List Box} {f:Box},f∈l→f.size≤Box.sizes l
 |g::l,f,h=>by
  rw[Box.sizes]
  rcases List.mem_cons.1 h with rfl|h
  ·omega
  ·have:=Box.size_mem h;omega
theorem zcQ.size_mem:∀{l:List zcQ} {f:zcQ},f∈l→f.size≤zcQ.sizes l
 |g::l,f,h=>by
  rw[zcQ.sizes]
  rcases List.mem_cons.1 h with rfl|h
  ·omega
  ·have:=zcQ.size_mem h;omega
theorem Box.size_sub {b:Box}{c:zcQ}(h:c∈b.conds):c.size<b.size:=by
 cases b with
 |mk r cs=>rw[Box.size];have:=zcQ.size_mem (show c∈cs from h);omega
theorem zcQ.size_sub {c:zcQ}{b:Box}(h:b∈c.boxes):b.size<c.size:=by
 cases c with
 |mk k n f bs=>rw[zcQ.size];have:=Box.size_mem (show b∈bs from h);omega
def zmA (k:Int):Int:=if k=1∨k=5 then 0 else if k=2∨k=6 then 1 else if k=3∨k=4 then 2 else-1
def zxt (f:zab):Bool:=decide (f.kind=0)&&decide (f.name=⟨[]⟩)&&decide (f.words.length=0)&&decide (f.subs.length=0)
def zwb (c:zcQ)(refs:List Str):Int:=
 if zmA c.kind<0 then 4 else if¬(c.boxes.length:Int)=zmA c.kind then 9 else if c.kind≠5∧c.name≠⟨[]⟩∨0<zmA c.kind∧zxt c.form=false then 5
 else if 0<zmA c.kind then 0 else if(zaP false c.form).code≠0 then(zaP false c.form).code
 else if c.kind=1∧c.form.kind≠2∧c.form.kind≠3∨c.kind=5∧(c.form.kind≠2∨c.form.words.length≠0)then 5 else if c.kind=5∧c.name∉refs then 6 else 0
def zk2:List Str→List Str→Int×List Str
 |refs,[]=>(0,refs)
 |refs,x::xs=>if zax x=false then(10,refs)else if x∈refs then(7,refs)else zk2 (refs++[x]) xs
structure BS where
 e:zgV
 n:Nat
 refs:List Str
mutual
def zxV:Box→Int→Int→Nat→List Str→BS
 | .mk r cs,depth,most,n,refs=>
  if 200<n+1∨10<depth then⟨⟨1,n⟩,n+1,refs⟩
  else if most<r.length∨200<refs.length+r.length then⟨⟨2,n⟩,n+1,refs⟩
  else if(zk2 refs r).1≠0 then⟨⟨(zk2 refs r).1,n⟩,n+1,(zk2 refs r).2⟩
  else zsW r cs depth (n+1) (zk2 refs r).2
def zsW:List Str→List zcQ→Int→Nat→List Str→BS
 |_,[],_,n,refs=>⟨⟨0,0⟩,n,refs⟩
 |r,c::cs,depth,n,refs=>if(zrA r c depth n refs).e.code≠0 then zrA r c depth n refs else zsW r cs depth (zrA r c depth n refs).n (zrA r c depth n refs).refs
def zrA:List Str→zcQ→Int→Nat→List Str→BS
 |r,.mk k nm f bs,depth,n,refs=>
  if 200<n+1 then⟨⟨1,n⟩,n+1,refs⟩else if zwb (.mk k nm f bs) r≠0 then⟨⟨zwb (.mk k nm f bs) r,n⟩,n+1,refs⟩
  else zv5 bs (depth+1) (if k=6 then 2 else 200) (n+1) refs
def zv5:List Box→Int→Int→Nat→List Str→BS
 |[],_,_,n,refs=>⟨⟨0,0⟩,n,refs⟩
 |b::bs,depth,most,n,refs=>if(zxV b depth most n refs).e.code≠0 then zxV b depth most n refs else zv5 bs depth most (zxV b depth most n refs).n (zxV b depth most n refs).refs
end
end Go.Abs

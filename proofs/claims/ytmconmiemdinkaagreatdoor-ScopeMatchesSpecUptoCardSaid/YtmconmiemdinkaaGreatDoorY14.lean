/- several texts of this proof in one; no conditions -/
import Derived.Test.YtmconmiemdinkaaGreatDoorY6
set_option linter.unusedSimpArgs false
namespace Go.Abs
open Go
inductive zac where
 |mk (kind:Int) (name:Str) (words:List Str) (subs:List zac)
namespace zac
def kind:zac→Int|mk k _ _ _=>k
def name:zac→Str|mk _ n _ _=>n
def words:zac→List Str|mk _ _ w _=>w
def subs:zac→List zac|mk _ _ _ s=>s
end zac
@[go_sem] theorem zaG {k n w s}:(zac.mk k n w s).kind=k:=rfl
@[go_sem] theorem zcs {k n w s}:(zac.mk k n w s).name=n:=rfl
@[go_sem] theorem zcK {k n w s}:(zac.mk k n w s).words=w:=rfl
@[go_sem] theorem zaU {k n w s}:(zac.mk k n w s).subs=s:=rfl
@[go_sem] theorem zab {f:zac}:zac.mk f.kind f.name f.words f.subs=f:=by cases f;rfl
mutual
def zAb:zac→FD
 | .mk k n w s=> .agg [.i .i64 k,.s n.l,.sl (w.map enc),.sl (zqZ s)]
def zqZ:List zac→List FD
 |[]=>[]
 |f::fs=>zAb f::zqZ fs
end
mutual
def zz4:FD→zac
 | .agg [.i _ k,.s n,.sl w,.sl s]=> .mk k ⟨n⟩ (w.map dec) (zqS s)
 |_=> .mk 0 ⟨[]⟩ [] []
def zqS:List FD→List zac
 |[]=>[]
 |x::xs=>zz4 x::zqS xs
end
theorem zbW {α:Type}[Enc α](l:List α):(l.map enc).map dec=l:=by
 rw[List.map_map,show(dec∘enc:α→α)=id from funext fun a=>dec_enc a];simp
mutual
theorem zmj:∀f,zz4 (zAb f)=f
 | .mk k n w s=>by
  simp only[zAb,zz4,zbW,zir s]
theorem zir:∀s,zqS (zqZ s)=s
 |[]=>rfl
 |f::fs=>by simp only[zqZ,zqS,zmj f,zir fs]
end
instance:Enc zac:=⟨zAb,zz4,zmj⟩
theorem zms:∀s:List zac,zqZ s=s.map enc
 |[]=>rfl
 |f::fs=>by rw[zqZ,zms fs];rfl
theorem zmk:∀s:List FD,zqS s=dec (α:=List zac) (.sl s)
 |[]=>rfl
 |f::fs=>by rw[zqS,zmk fs];rfl
@[go_sem] theorem zaz {f:zac}:enc f= .agg [.i .i64 f.kind,.s f.name.l,.sl (f.words.map enc),.sl (f.subs.map enc)]:=by
 cases f with
 |mk k n w s=>show zAb _=_;rw[zAb,zms];rfl
@[go_sem] theorem zDs {i k n w s}:dec (α:=zac) (.agg [.i i k,.s n,.sl w,.sl s])= .mk k ⟨n⟩ (dec (.sl w)) (dec (.sl s)):=by
 show zz4 _=_;rw[zz4,zmk];rfl
instance:Kc zac 4:=⟨fun f=>by rw[zaz];rfl⟩
@[go_sem] theorem zAO {l:List zac}:zbC (l.map enc) 4=True:=eq_true (zdS l)
@[go_sem] theorem ziA {l:List zac}:(zaf (l.map enc)).all zcp=true:=by
 rw[List.all_eq_true]
 intro d hd
 simp only[zaf,List.mem_flatMap,List.mem_map]at hd
 obtain⟨_,⟨a,_,rfl⟩,x,hx,rfl⟩:=hd
 simp only[zaz,FD.cells,List.mem_cons,List.not_mem_nil,or_false]at hx
 rcases hx with rfl|rfl|rfl|rfl<;>rfl
mutual
def zac.beq:zac→zac→Bool
 | .mk k n w s,.mk k' n' w' s'=>decide (k=k')&&decide (n=n')&&decide (w=w')&&zac.beqs s s'
def zac.beqs:List zac→List zac→Bool
 |[],[]=>true
 |f::fs,g::gs=>zac.beq f g&&zac.beqs fs gs
 |[],_::_=>false
 |_::_,[]=>false
end
mutual
theorem zac.beq_iff:∀f g:zac,zac.beq f g=true↔f=g
 | .mk k n w s,.mk k' n' w' s'=>by
  simp only[zac.beq,Bool.and_eq_true,decide_eq_true_eq,zac.beqs_iff s s',zac.mk.injEq]
  constructor
  ·rintro⟨⟨⟨a,b⟩,c⟩,d⟩;exact⟨a,b,c,d⟩
  ·rintro⟨a,b,c,d⟩;exact⟨⟨⟨a,b⟩,c⟩,d⟩
theorem zac.beqs_iff:∀f g:List zac,zac.beqs f g=true↔f=g
 |[],[]=>by simp[zac.beqs]
 |f::fs,g::gs=>by simp only[zac.beqs,Bool.and_eq_true,zac.beq_iff f g,zac.beqs_iff fs gs,List.cons.injEq]
 |[],_::_=>by simp[zac.beqs]
 |_::_,[]=>by simp[zac.beqs]
end
instance:DecidableEq zac:=fun f g=>decidable_of_iff _ (zac.beq_iff f g)
instance:Inhabited zac:=⟨.mk 0 ⟨[]⟩ [] []⟩
mutual
def zac.size:zac→Nat
 | .mk _ _ _ s=>zac.sizes s+1
def zac.sizes:List zac→Nat
 |[]=>0
 |f::fs=>f.size+zac.sizes fs
end
theorem zac.size_mem:∀{l:List zac} {f:zac},f∈l→f.size≤zac.sizes l
 |g::l,f,h=>by
  rw[zac.sizes]
  rcases List.mem_cons.1 h with rfl|h
  ·omega
  ·have:=zac.size_mem h;omega
theorem zac.size_sub {f g:zac}(h:g∈f.subs):g.size<f.size:=by
 cases f with
 |mk k n w s=>rw[zac.size];have:=zac.size_mem (show g∈s from h);omega
theorem zac.size_pos (f:zac):0<f.size:=by cases f;rw[zac.size];omega
section
variable {P:Program} {G:Nat→List FD} {T:Tbl}
theorem zi3 {α ρ:Type}[Enc α][Enc ρ]{f:FuncId}{g:α→ρ}{pre:α→Prop}(m:α→Nat)(hc:zap P f)(hT:zan P G T)
  (h:∀n,zan P G (T.add f (sp1 g fun a=>m a<n∧pre a))→∀a,m a=n→pre a→(enc a).Wf→zaH P G f [.fz (enc a)] (hpL []) 0 (fun d _ _=>D.val d=some (.fz (enc (g a))))):zan P G (T.add f (sp1 g pre)):=by
 have key:∀n,zan P G (T.add f (sp1 g fun a=>m a<n∧pre a)):=by
  intro n
  induction n with
  |zero=>exact zbR hc hT fun a ha=>by omega
  |succ n ih=>
   refine zbR hc hT fun a ha hw=>?_
   rcases Nat.lt_or_ge (m a) n with h1|h1
   ·have h2:=ih f (sp1 g fun a=>m a<n∧pre a) [enc a] _ _ (by simp[Tbl.add]) (zGo) ⟨by rw[dec_enc],by rw[dec_enc];exact⟨h1,ha.2⟩⟩
    rw[dec_enc,zfD]at h2
    exact h2
   ·exact h n ih a (by omega) ha.2 hw
 refine zbR hc hT fun a ha hw=>h (m a) (key _) a rfl ha hw
end
end Go.Abs
namespace Go.Abs
open Go
def zgM (c:UInt8):Prop:=97≤(c.toNat:Int)∧(c.toNat:Int)≤122
def okc (c:UInt8):Prop:=zgM c∨(48≤(c.toNat:Int)∧(c.toNat:Int)≤57)∨(c.toNat:Int)=95∨(c.toNat:Int)=45
instance (c:UInt8):Decidable (zgM c):=inferInstanceAs (Decidable (_∧_))
instance (c:UInt8):Decidable (okc c):=inferInstanceAs (Decidable (_∨_))
def zav (s:Str):Bool:=decide (1≤s.l.length∧s.l.length≤30∧zgM (s.l.getD 0 0)∧∀j,j<s.l.length→okc (s.l.getD j 0))
theorem zl5 {p:Nat→Prop}{i:Nat}(h:∀j,j<i→p j)(hi:p i):∀j,j<i+1→p j:=fun j hj=>by
 rcases Nat.lt_or_ge j i with h'|h'
 ·exact h j h'
 ·obtain rfl:j=i:=by omega
  exact hi
theorem zcM {s:Str}(h:¬(1≤s.l.length∧s.l.length≤30∧zgM (s.l.getD 0 0))):zav s=false:=by
 unfold zav
 exact decide_eq_false fun hh=>h ⟨hh.1,hh.2.1,hh.2.2.1⟩
theorem zpT {s:Str}{j:Nat}(hj:j<s.l.length)(h:¬okc (s.l.getD j 0)):zav s=false:=by
 unfold zav
 exact decide_eq_false fun hh=>h (hh.2.2.2 j hj)
theorem ziO {s:Str}(h1:1≤s.l.length)(h2:s.l.length≤30)(h3:zgM (s.l.getD 0 0))(h4:∀j,j<s.l.length→okc (s.l.getD j 0)):zav s=true:=by
 unfold zav
 exact decide_eq_true ⟨h1,h2,h3,h4⟩
theorem ztQ {s:Str}{j:Nat}(e:j=0)(h:¬zgM (s.l.getD j 0)):zav s=false:=by
 subst e;exact zcM fun hh=>h hh.2.2
theorem zwr {s:Str}{i:Nat}(hz:0<i→zgM (s.l.getD 0 0))(h:i=0→zgM (s.l.getD i 0)):0<i+1→zgM (s.l.getD 0 0):=fun _=>by
 rcases Nat.eq_zero_or_pos i with e|e
 ·have:=h e;rwa [e]at this
 ·exact hz e
structure zcX (n:Nat)(p:Nat→Prop) where
 i:Nat
 hi:i≤n
 hp:p i
structure zeC (n n0:Nat)(p:Nat→Prop) where
 i:Nat
 m:Nat
 hi:i≤n
 hm:n0≤m
 hp:p i
structure zdR (n n0:Nat)(p:Nat→Prop) where
 i:Nat
 g:Nat
 m:Nat
 hi:i≤n
 hg:g<m
 hm:n0≤m
 hp:p i
def idx (l:List Str)(s:Str):Int:=if s∈l then(l.idxOf s:Int)else-1
theorem zts {s:Str}:∀{l:List Str} {i:Nat} (h:i<l.length),s∉l.take i→l[i]=s→l.idxOf s=i
 |[],i,h,_,_=>by simp at h
 |x::l,0,h,_,e=>by simp at e;simp[e]
 |x::l,i+1,h,h1,e=>by
  simp only[List.take_succ_cons,List.mem_cons,not_or]at h1
  have:=zts (s:=s) (l:=l) (i:=i) (by simpa using h) h1.2 (by simpa using e)
  rw[List.idxOf_cons]
  have hne:(x==s)=false:=by simpa using fun e=>h1.1 e.symm
  simp[hne,this]
theorem zcP {α:Type}{l:List α}{i:Nat}{s:α}(h:i<l.length)(h1:s∉l.take i)(h2:¬l[i]=s):s∉l.take (i+1):=by
 rw[List.take_succ_eq_append_getElem h,List.mem_append,List.mem_singleton]
 rintro(h'|h')
 ·exact h1 h'
 ·exact h2 h'.symm
theorem zee {α:Type}{l:List α}{i:Nat}{s:α}(h:¬i<l.length)(h1:s∉l.take i):s∉l:=by
 rwa [List.take_of_length_le (by omega)]at h1
theorem znK {α:Type}{a b:List α}{i:Nat}(h1:i<a.length)(h2:i<b.length)(h:a.take i=b.take i)(e:a[i]=b[i]):a.take (i+1)=b.take (i+1):=by
 rw[List.take_succ_eq_append_getElem h1,List.take_succ_eq_append_getElem h2,h,e]
theorem zwX {α:Type}{a b:List α}{i:Nat}(h1:i<a.length)(h2:i<b.length)(h:¬a[i]=b[i]):¬a=b:=by
 rintro rfl;exact h rfl
theorem znJ {α:Type}{a b:List α}{i:Nat}(hl:a.length=b.length)(h:¬i<a.length)(e:a.take i=b.take i):a=b:=by
 rw[List.take_of_length_le (by omega),List.take_of_length_le (by omega)]at e
 exact e
theorem zcr {α:Type}{O:List α}{f:α→Bool}{j:Nat}(h:j<O.length):(O.take (j+1)).all f=((O.take j).all f&&f O[j]):=by
 rw[List.take_succ_eq_append_getElem h,List.all_append];simp
end Go.Abs
namespace Go.Abs
open Go
def zcd (k:Int):Int:=if k=1∨k=2∨k=3 then 0 else if k=4∨k=8∨k=9 then 1 else if k=5∨k=6∨k=7 then 2 else-1
def named (f:zac):Bool:=decide (f.kind=2∨f.kind=8∨f.kind=9∨f.kind=10)
def zdB (f:zac):Bool:=if f.kind=2 then decide (f.words.length≤3)else if f.kind=3 then decide (f.words.length=2)else decide (f.words.length=0)
def za7 (op:Bool)(f:zac):Int:=if f.kind=10∧op=true then 0 else zcd f.kind
def zdb (op:Bool)(f:zac)(depth:Int)(n:Nat):Int:=
 if 200<n+1∨40<depth then 1 else if za7 op f<0 then 4 else if¬((f.subs.length:Int)=za7 op f∧zdB f=true)then 9
 else if named f=true∧zav f.name=false then 10 else if named f=false∧f.name≠⟨[]⟩then 5 else if f.words.all zav=false then 10 else 0
mutual
def chk (op:Bool):zac→Int→Nat→zhH×Nat
 | .mk k nm w s,depth,n=>if zdb op (.mk k nm w s) depth n≠0 then(⟨zdb op (.mk k nm w s) depth n,n⟩,n+1)else zej op s (depth+1) (n+1)
def zej (op:Bool):List zac→Int→Nat→zhH×Nat
 |[],_,n=>(⟨0,0⟩,n)
 |f::fs,depth,n=>if(chk op f depth n).1.code≠0 then chk op f depth n else zej op fs depth (chk op f depth n).2
end
def zaV (op:Bool)(f:zac):zhH:=(chk op f 1 0).1
theorem zsJ {op:Bool}{f:zac}{depth:Int}{n:Nat}:chk op f depth n=if zdb op f depth n≠0 then(⟨zdb op f depth n,n⟩,n+1)else zej op f.subs (depth+1) (n+1):=by
 cases f;rw[chk];rfl
mutual
theorem zsL {op:Bool}:∀(f:zac) (depth:Int) (n:Nat),((chk op f depth n).1.code=0→(chk op f depth n).1=⟨0,0⟩∧(chk op f depth n).2≤200∧n<(chk op f depth n).2)
 | .mk k nm w s,depth,n=>by
  rw[chk]
  split
  ·rename_i h;intro h2;exact absurd h2 h
  ·rename_i h
   intro h2
   have hn:n+1≤200:=by
    unfold zdb at h
    split at h
    ·simp at h
    ·omega
   have:=zxo s (depth+1) (n+1) hn h2
   exact⟨this.1,this.2.1,by omega⟩
theorem zxo {op:Bool}:∀(fs:List zac) (depth:Int) (n:Nat),n≤200→((zej op fs depth n).1.code=0→(zej op fs depth n).1=⟨0,0⟩∧(zej op fs depth n).2≤200∧n≤(zej op fs depth n).2)
 |[],depth,n,hn=>by rw[zej];intro _;exact⟨rfl,hn,Nat.le_refl _⟩
 |f::fs,depth,n,hn=>by
  rw[zej]
  split
  ·rename_i h;intro h2;exact absurd h2 h
  ·rename_i h
   have h3:=zsL f depth n (Decidable.not_not.1 h)
   intro h2
   have:=zxo fs depth _ h3.2.1 h2
   exact⟨this.1,this.2.1,by omega⟩
end
def zhO (op:Bool):List (zac×Int)→Nat→zhH
 |[],_=>⟨0,0⟩
 |(f,d)::st,n=>if(chk op f d n).1.code≠0 then(chk op f d n).1 else zhO op st (chk op f d n).2
theorem znr {op:Bool}{d:Int}{st:List (zac×Int)}:∀(fs:List zac) (n:Nat),zhO op (fs.map (fun g=>(g,d))++st) n=if(zej op fs d n).1.code≠0 then(zej op fs d n).1 else zhO op st (zej op fs d n).2
 |[],n=>by simp[zej]
 |f::fs,n=>by
  rw[List.map_cons,List.cons_append,zhO,zej]
  split
  ·rfl
  ·exact znr fs _
theorem zkd {op:Bool}{f:zac}{d:Int}{st:List (zac×Int)}{n:Nat}:zhO op ((f,d)::st) n=if zdb op f d n≠0 then⟨zdb op f d n,n⟩else zhO op (f.subs.map (fun g=>(g,d+1))++st) (n+1):=by
 rw[zhO,znr,zsJ]
 by_cases h:zdb op f d n≠0
 ·rw[if_pos h,if_pos h,if_pos h]
 ·rw[if_neg h,if_neg h]
theorem zns {op:Bool}{f:zac}:zhO op [(f,1)] 0=zaV op f:=by
 unfold zaV
 rw[zhO,zhO]
 split
 ·rfl
 ·rename_i h;exact((zsL f 1 0 (Decidable.not_not.1 h)).1).symm
theorem zim {op:Bool}{f:zac}(h:(zaV op f).code=0):zaV op f=⟨0,0⟩:=(zsL f 1 0 h).1
end Go.Abs
namespace Go.Abs
open Go
mutual
inductive zdl where
 |mk (kind:Int) (name:Str) (form:zac) (boxes:List Box)
inductive Box where
 |mk (refs:List Str) (conds:List zdl)
end
def zdl.kind:zdl→Int| .mk k _ _ _=>k
def zdl.name:zdl→Str| .mk _ n _ _=>n
def zdl.form:zdl→zac| .mk _ _ f _=>f
def zdl.boxes:zdl→List Box| .mk _ _ _ b=>b
def Box.refs:Box→List Str| .mk r _=>r
def Box.conds:Box→List zdl| .mk _ c=>c
@[go_sem] theorem zBn {k n f b}:(zdl.mk k n f b).kind=k:=rfl
@[go_sem] theorem zBo {k n f b}:(zdl.mk k n f b).name=n:=rfl
@[go_sem] theorem zBm {k n f b}:(zdl.mk k n f b).form=f:=rfl
@[go_sem] theorem zz1 {k n f b}:(zdl.mk k n f b).boxes=b:=rfl
@[go_sem] theorem zDk {r c}:(Box.mk r c).refs=r:=rfl
@[go_sem] theorem zBd {r c}:(Box.mk r c).conds=c:=rfl
@[go_sem] theorem zDo {c:zdl}:zdl.mk c.kind c.name c.form c.boxes=c:=by cases c;rfl
@[go_sem] theorem zE0 {b:Box}:Box.mk b.refs b.conds=b:=by cases b;rfl
mutual
def zAa:zdl→FD
 | .mk k n f b=> .agg [.i .i64 k,.s n.l,.i .i64 f.kind,.s f.name.l,.sl (f.words.map enc),.sl (f.subs.map enc),.sl (zqX b)]
def zz9:Box→FD
 | .mk r c=> .agg [.sl (r.map enc),.sl (zqY c)]
def zqX:List Box→List FD
 |[]=>[]
 |b::bs=>zz9 b::zqX bs
def zqY:List zdl→List FD
 |[]=>[]
 |c::cs=>zAa c::zqY cs
end
mutual
def zz3:FD→zdl
 | .agg [.i _ k,.s n,.i _ fk,.s fn,.sl fw,.sl fs,.sl b]=> .mk k ⟨n⟩ (.mk fk ⟨fn⟩ (fw.map dec) (fs.map dec)) (zqQ b)
 |_=> .mk 0 ⟨[]⟩ (.mk 0 ⟨[]⟩ [] []) []
def zz2:FD→Box
 | .agg [.sl r,.sl c]=> .mk (r.map dec) (zqR c)
 |_=> .mk [] []
def zqQ:List FD→List Box
 |[]=>[]
 |x::xs=>zz2 x::zqQ xs
def zqR:List FD→List zdl
 |[]=>[]
 |x::xs=>zz3 x::zqR xs
end
mutual
theorem zmh:∀c,zz3 (zAa c)=c
 | .mk k n f b=>by simp only[zAa,zz3,zbW,zip b,zad,zab]
theorem zmf:∀b,zz2 (zz9 b)=b
 | .mk r c=>by simp only[zz9,zz2,zbW,ziq c]
theorem zip:∀b,zqQ (zqX b)=b
 |[]=>rfl
 |b::bs=>by simp only[zqX,zqQ,zmf b,zip bs]
theorem ziq:∀c,zqR (zqY c)=c
 |[]=>rfl
 |c::cs=>by simp only[zqY,zqR,zmh c,ziq cs]
end
instance:Enc zdl:=⟨zAa,zz3,zmh⟩
instance:Enc Box:=⟨zz9,zz2,zmf⟩
theorem zmq:∀s:List Box,zqX s=s.map enc
 |[]=>rfl
 |f::fs=>by rw[zqX,zmq fs];rfl
theorem zmr:∀s:List zdl,zqY s=s.map enc
 |[]=>rfl
 |f::fs=>by rw[zqY,zmr fs];rfl
theorem zmg:∀s:List FD,zqQ s=dec (α:=List Box) (.sl s)
 |[]=>rfl
 |f::fs=>by rw[zqQ,zmg fs];rfl
theorem zmi:∀s:List FD,zqR s=dec (α:=List zdl) (.sl s)
 |[]=>rfl
 |f::fs=>by rw[zqR,zmi fs];rfl
@[go_sem] theorem zpB {c:zdl}:enc c= .agg [.i .i64 c.kind,.s c.name.l,.i .i64 c.form.kind,.s c.form.name.l,.sl (c.form.words.map enc),.sl (c.form.subs.map enc),.sl (c.boxes.map enc)]:=by
 cases c with
 |mk k n f b=>show zAa _=_;rw[zAa,zmq];rfl
@[go_sem] theorem zs5 {b:Box}:enc b= .agg [.sl (b.refs.map enc),.sl (b.conds.map enc)]:=by
 cases b with
 |mk r c=>show zz9 _=_;rw[zz9,zmr];rfl
@[go_sem] theorem zDr {i j k n fk fn fw fs b}:dec (α:=zdl) (.agg [.i i k,.s n,.i j fk,.s fn,.sl fw,.sl fs,.sl b])= .mk k ⟨n⟩ (.mk fk ⟨fn⟩ (dec (.sl fw)) (dec (.sl fs))) (dec (.sl b)):=by
 show zz3 _=_;rw[zz3,zmg];rfl
@[go_sem] theorem zE4 {r c}:dec (α:=Box) (.agg [.sl r,.sl c])= .mk (dec (.sl r)) (dec (.sl c)):=by
 show zz2 _=_;rw[zz2,zmi];rfl
instance:Kc zdl 7:=⟨fun f=>by rw[zpB];rfl⟩
instance:Kc Box 2:=⟨fun f=>by rw[zs5];rfl⟩
@[go_sem] theorem zAN {l:List zdl}:zbC (l.map enc) 7=True:=eq_true (zdS l)
@[go_sem] theorem zAM {l:List Box}:zbC (l.map enc) 2=True:=eq_true (zdS l)
@[go_sem] theorem zyI {l:List zdl}:(zaf (l.map enc)).all zcp=true:=by
 rw[List.all_eq_true]
 intro d hd
 simp only[zaf,List.mem_flatMap,List.mem_map]at hd
 obtain⟨_,⟨a,_,rfl⟩,x,hx,rfl⟩:=hd
 simp only[zpB,FD.cells,List.mem_cons,List.not_mem_nil,or_false]at hx
 rcases hx with rfl|rfl|rfl|rfl|rfl|rfl|rfl<;>rfl
@[go_sem] theorem zyH {l:List Box}:(zaf (l.map enc)).all zcp=true:=by
 rw[List.all_eq_true]
 intro d hd
 simp only[zaf,List.mem_flatMap,List.mem_map]at hd
 obtain⟨_,⟨a,_,rfl⟩,x,hx,rfl⟩:=hd
 simp only[zs5,FD.cells,List.mem_cons,List.not_mem_nil,or_false]at hx
 rcases hx with rfl|rfl<;>rfl
mutual
def zdl.size:zdl→Nat
 | .mk _ _ _ b=>Box.sizes b+1
def Box.size:Box→Nat
 | .mk _ c=>zdl.sizes c+1
def Box.sizes:List Box→Nat
 |[]=>0
 |b::bs=>b.size+Box.sizes bs
def zdl.sizes:List zdl→Nat
 |[]=>0
 |c::cs=>c.size+zdl.sizes cs
end
theorem Box.size_mem:∀{l:List Box} {f:Box},f∈l→f.size≤Box.sizes l
 |g::l,f,h=>by
  rw[Box.sizes]
  rcases List.mem_cons.1 h with rfl|h
  ·omega
  ·have:=Box.size_mem h;omega
theorem zdl.size_mem:∀{l:List zdl} {f:zdl},f∈l→f.size≤zdl.sizes l
 |g::l,f,h=>by
  rw[zdl.sizes]
  rcases List.mem_cons.1 h with rfl|h
  ·omega
  ·have:=zdl.size_mem h;omega
theorem Box.size_sub {b:Box}{c:zdl}(h:c∈b.conds):c.size<b.size:=by
 cases b with
 |mk r cs=>rw[Box.size];have:=zdl.size_mem (show c∈cs from h);omega
theorem zdl.size_sub {c:zdl}{b:Box}(h:b∈c.boxes):b.size<c.size:=by
 cases c with
 |mk k n f bs=>rw[zdl.size];have:=Box.size_mem (show b∈bs from h);omega
def zpf (k:Int):Int:=if k=1∨k=5 then 0 else if k=2∨k=6 then 1 else if k=3∨k=4 then 2 else-1
def zCK (f:zac):Bool:=decide (f.kind=0)&&decide (f.name=⟨[]⟩)&&decide (f.words.length=0)&&decide (f.subs.length=0)
def zBl (c:zdl)(refs:List Str):Int:=
 if zpf c.kind<0 then 4 else if¬(c.boxes.length:Int)=zpf c.kind then 9 else if c.kind≠5∧c.name≠⟨[]⟩∨0<zpf c.kind∧zCK c.form=false then 5
 else if 0<zpf c.kind then 0 else if(zaV false c.form).code≠0 then(zaV false c.form).code
 else if c.kind=1∧c.form.kind≠2∧c.form.kind≠3∨c.kind=5∧(c.form.kind≠2∨c.form.words.length≠0)then 5 else if c.kind=5∧c.name∉refs then 6 else 0
def znl:List Str→List Str→Int×List Str
 |refs,[]=>(0,refs)
 |refs,x::xs=>if zav x=false then(10,refs)else if x∈refs then(7,refs)else znl (refs++[x]) xs
structure BS where
 e:zhH
 n:Nat
 refs:List Str
mutual
def zDj:Box→Int→Int→Nat→List Str→BS
 | .mk r cs,depth,most,n,refs=>
  if 200<n+1∨10<depth then⟨⟨1,n⟩,n+1,refs⟩
  else if most<r.length∨200<refs.length+r.length then⟨⟨2,n⟩,n+1,refs⟩
  else if(znl refs r).1≠0 then⟨⟨(znl refs r).1,n⟩,n+1,(znl refs r).2⟩
  else zxp r cs depth (n+1) (znl refs r).2
def zxp:List Str→List zdl→Int→Nat→List Str→BS
 |_,[],_,n,refs=>⟨⟨0,0⟩,n,refs⟩
 |r,c::cs,depth,n,refs=>if(zvC r c depth n refs).e.code≠0 then zvC r c depth n refs else zxp r cs depth (zvC r c depth n refs).n (zvC r c depth n refs).refs
def zvC:List Str→zdl→Int→Nat→List Str→BS
 |r,.mk k nm f bs,depth,n,refs=>
  if 200<n+1 then⟨⟨1,n⟩,n+1,refs⟩else if zBl (.mk k nm f bs) r≠0 then⟨⟨zBl (.mk k nm f bs) r,n⟩,n+1,refs⟩
  else zBe bs (depth+1) (if k=6 then 2 else 200) (n+1) refs
def zBe:List Box→Int→Int→Nat→List Str→BS
 |[],_,_,n,refs=>⟨⟨0,0⟩,n,refs⟩
 |b::bs,depth,most,n,refs=>if(zDj b depth most n refs).e.code≠0 then zDj b depth most n refs else zBe bs depth most (zDj b depth most n refs).n (zDj b depth most n refs).refs
end
end Go.Abs

/- several texts of this proof in one; no conditions -/
import Derived.Test.YtkkffhphodngkaaGreatDoorY6
set_option linter.unusedSimpArgs false
namespace Go.Abs
open Go
inductive zab where
 |mk (kind:Int) (name:Str) (words:List Str) (subs:List zab)
namespace zab
def kind:zab→Int|mk k _ _ _=>k
def name:zab→Str|mk _ n _ _=>n
def words:zab→List Str|mk _ _ w _=>w
def subs:zab→List zab|mk _ _ _ s=>s
end zab
@[go_sem] theorem zah {k n w s}:(zab.mk k n w s).kind=k:=rfl
@[go_sem] theorem zb2 {k n w s}:(zab.mk k n w s).name=n:=rfl
@[go_sem] theorem zct {k n w s}:(zab.mk k n w s).words=w:=rfl
@[go_sem] theorem zaK {k n w s}:(zab.mk k n w s).subs=s:=rfl
@[go_sem] theorem zac {f:zab}:zab.mk f.kind f.name f.words f.subs=f:=by cases f;rfl
mutual
def zBc:zab→FD
 | .mk k n w s=> .agg [.i .i64 k,.s n.l,.sl (w.map enc),.sl (zrD s)]
def zrD:List zab→List FD
 |[]=>[]
 |f::fs=>zBc f::zrD fs
end
mutual
def zA9:FD→zab
 | .agg [.i _ k,.s n,.sl w,.sl s]=> .mk k ⟨n⟩ (w.map dec) (zrw s)
 |_=> .mk 0 ⟨[]⟩ [] []
def zrw:List FD→List zab
 |[]=>[]
 |x::xs=>zA9 x::zrw xs
end
theorem zcT {α:Type}[Enc α](l:List α):(l.map enc).map dec=l:=by
 rw[List.map_map,show(dec∘enc:α→α)=id from funext fun a=>dec_enc a];simp
mutual
theorem zmv:∀f,zA9 (zBc f)=f
 | .mk k n w s=>by
  simp only[zBc,zA9,zcT,zio s]
theorem zio:∀s,zrw (zrD s)=s
 |[]=>rfl
 |f::fs=>by simp only[zrD,zrw,zmv f,zio fs]
end
instance:Enc zab:=⟨zBc,zA9,zmv⟩
theorem zmE:∀s:List zab,zrD s=s.map enc
 |[]=>rfl
 |f::fs=>by rw[zrD,zmE fs];rfl
theorem zmw:∀s:List FD,zrw s=dec (α:=List zab) (.sl s)
 |[]=>rfl
 |f::fs=>by rw[zrw,zmw fs];rfl
@[go_sem] theorem zaI {f:zab}:enc f= .agg [.i .i64 f.kind,.s f.name.l,.sl (f.words.map enc),.sl (f.subs.map enc)]:=by
 cases f with
 |mk k n w s=>show zBc _=_;rw[zBc,zmE];rfl
@[go_sem] theorem zEA {i k n w s}:dec (α:=zab) (.agg [.i i k,.s n,.sl w,.sl s])= .mk k ⟨n⟩ (dec (.sl w)) (dec (.sl s)):=by
 show zA9 _=_;rw[zA9,zmw];rfl
instance:Kc zab 4:=⟨fun f=>by rw[zaI];rfl⟩
@[go_sem] theorem zBQ {l:List zab}:zbx (l.map enc) 4=True:=eq_true (zdf l)
@[go_sem] theorem zoO {l:List zab}:(zad (l.map enc)).all zcN=true:=by
 rw[List.all_eq_true]
 intro d hd
 simp only[zad,List.mem_flatMap,List.mem_map]at hd
 obtain⟨_,⟨a,_,rfl⟩,x,hx,rfl⟩:=hd
 simp only[zaI,FD.cells,List.mem_cons,List.not_mem_nil,or_false]at hx
 rcases hx with rfl|rfl|rfl|rfl<;>rfl
mutual
def zab.beq:zab→zab→Bool
 | .mk k n w s,.mk k' n' w' s'=>decide (k=k')&&decide (n=n')&&decide (w=w')&&zab.beqs s s'
def zab.beqs:List zab→List zab→Bool
 |[],[]=>true
 |f::fs,g::gs=>zab.beq f g&&zab.beqs fs gs
 |[],_::_=>false
 |_::_,[]=>false
end
mutual
theorem zab.beq_iff:∀f g:zab,zab.beq f g=true↔f=g
 | .mk k n w s,.mk k' n' w' s'=>by
  simp only[zab.beq,Bool.and_eq_true,decide_eq_true_eq,zab.beqs_iff s s',zab.mk.injEq]
  constructor
  ·rintro⟨⟨⟨a,b⟩,c⟩,d⟩;exact⟨a,b,c,d⟩
  ·rintro⟨a,b,c,d⟩;exact⟨⟨⟨a,b⟩,c⟩,d⟩
theorem zab.beqs_iff:∀f g:List zab,zab.beqs f g=true↔f=g
 |[],[]=>by simp[zab.beqs]
 |f::fs,g::gs=>by simp only[zab.beqs,Bool.and_eq_true,zab.beq_iff f g,zab.beqs_iff fs gs,List.cons.injEq]
 |[],_::_=>by simp[zab.beqs]
 |_::_,[]=>by simp[zab.beqs]
end
instance:DecidableEq zab:=fun f g=>decidable_of_iff _ (zab.beq_iff f g)
instance:Inhabited zab:=⟨.mk 0 ⟨[]⟩ [] []⟩
mutual
def zab.size:zab→Nat
 | .mk _ _ _ s=>zab.sizes s+1
def zab.sizes:List zab→Nat
 |[]=>0
 |f::fs=>f.size+zab.sizes fs
end
theorem zab.size_mem:∀{l:List zab} {f:zab},f∈l→f.size≤zab.sizes l
 |g::l,f,h=>by
  rw[zab.sizes]
  rcases List.mem_cons.1 h with rfl|h
  ·omega
  ·have:=zab.size_mem h;omega
theorem zab.size_sub {f g:zab}(h:g∈f.subs):g.size<f.size:=by
 cases f with
 |mk k n w s=>rw[zab.size];have:=zab.size_mem (show g∈s from h);omega
theorem zab.size_pos (f:zab):0<f.size:=by cases f;rw[zab.size];omega
section
variable {P:Program} {G:Nat→List FD} {T:Tbl}
theorem zvh {α ρ:Type}[Enc α][Enc ρ]{f:FuncId}{g:α→ρ}{pre:α→Prop}(m:α→Nat)(hc:zam P f)(hT:zan P G T)
  (h:∀n,zan P G (T.add f (sp1 g fun a=>m a<n∧pre a))→∀a,m a=n→pre a→(enc a).Wf→zau P G f [.fz (enc a)] (hpL []) 0 (fun d _ _=>D.val d=some (.fz (enc (g a))))):zan P G (T.add f (sp1 g pre)):=by
 have key:∀n,zan P G (T.add f (sp1 g fun a=>m a<n∧pre a)):=by
  intro n
  induction n with
  |zero=>exact zbE hc hT fun a ha=>by omega
  |succ n ih=>
   refine zbE hc hT fun a ha hw=>?_
   rcases Nat.lt_or_ge (m a) n with h1|h1
   ·have h2:=ih f (sp1 g fun a=>m a<n∧pre a) [enc a] _ _ (by simp[Tbl.add]) (zHo) ⟨by rw[dec_enc],by rw[dec_enc];exact⟨h1,ha.2⟩⟩
    rw[dec_enc,zes]at h2
    exact h2
   ·exact h n ih a (by omega) ha.2 hw
 refine zbE hc hT fun a ha hw=>h (m a) (key _) a rfl ha hw
end
end Go.Abs
namespace Go.Abs
open Go
def zgJ (c:UInt8):Prop:=97≤(c.toNat:Int)∧(c.toNat:Int)≤122
def okc (c:UInt8):Prop:=zgJ c∨(48≤(c.toNat:Int)∧(c.toNat:Int)≤57)∨(c.toNat:Int)=95∨(c.toNat:Int)=45
instance (c:UInt8):Decidable (zgJ c):=inferInstanceAs (Decidable (_∧_))
instance (c:UInt8):Decidable (okc c):=inferInstanceAs (Decidable (_∨_))
def zat (s:Str):Bool:=decide (1≤s.l.length∧s.l.length≤30∧zgJ (s.l.getD 0 0)∧∀j,j<s.l.length→okc (s.l.getD j 0))
theorem zl5 {p:Nat→Prop}{i:Nat}(h:∀j,j<i→p j)(hi:p i):∀j,j<i+1→p j:=fun j hj=>by
 rcases Nat.lt_or_ge j i with h'|h'
 ·exact h j h'
 ·obtain rfl:j=i:=by omega
  exact hi
theorem zcU {s:Str}(h:¬(1≤s.l.length∧s.l.length≤30∧zgJ (s.l.getD 0 0))):zat s=false:=by
 unfold zat
 exact decide_eq_false fun hh=>h ⟨hh.1,hh.2.1,hh.2.2.1⟩
theorem zqn {s:Str}{j:Nat}(hj:j<s.l.length)(h:¬okc (s.l.getD j 0)):zat s=false:=by
 unfold zat
 exact decide_eq_false fun hh=>h (hh.2.2.2 j hj)
theorem zgs {s:Str}(h1:1≤s.l.length)(h2:s.l.length≤30)(h3:zgJ (s.l.getD 0 0))(h4:∀j,j<s.l.length→okc (s.l.getD j 0)):zat s=true:=by
 unfold zat
 exact decide_eq_true ⟨h1,h2,h3,h4⟩
theorem zuE {s:Str}{j:Nat}(e:j=0)(h:¬zgJ (s.l.getD j 0)):zat s=false:=by
 subst e;exact zcU fun hh=>h hh.2.2
theorem zxs {s:Str}{i:Nat}(hz:0<i→zgJ (s.l.getD 0 0))(h:i=0→zgJ (s.l.getD i 0)):0<i+1→zgJ (s.l.getD 0 0):=fun _=>by
 rcases Nat.eq_zero_or_pos i with e|e
 ·have:=h e;rwa [e]at this
 ·exact hz e
structure zhD (n:Nat)(p:Nat→Prop) where
 i:Nat
 hi:i≤n
 hp:p i
structure zd7 (n n0:Nat)(p:Nat→Prop) where
 i:Nat
 m:Nat
 hi:i≤n
 hm:n0≤m
 hp:p i
structure zhC (n n0:Nat)(p:Nat→Prop) where
 i:Nat
 g:Nat
 m:Nat
 hi:i≤n
 hg:g<m
 hm:n0≤m
 hp:p i
def idx (l:List Str)(s:Str):Int:=if s∈l then(l.idxOf s:Int)else-1
theorem zqd {s:Str}:∀{l:List Str} {i:Nat} (h:i<l.length),s∉l.take i→l[i]=s→l.idxOf s=i
 |[],i,h,_,_=>by simp at h
 |x::l,0,h,_,e=>by simp at e;simp[e]
 |x::l,i+1,h,h1,e=>by
  simp only[List.take_succ_cons,List.mem_cons,not_or]at h1
  have:=zqd (s:=s) (l:=l) (i:=i) (by simpa using h) h1.2 (by simpa using e)
  rw[List.idxOf_cons]
  have hne:(x==s)=false:=by simpa using fun e=>h1.1 e.symm
  simp[hne,this]
theorem zj6 {α:Type}{l:List α}{i:Nat}{s:α}(h:i<l.length)(h1:s∉l.take i)(h2:¬l[i]=s):s∉l.take (i+1):=by
 rw[List.take_succ_eq_append_getElem h,List.mem_append,List.mem_singleton]
 rintro(h'|h')
 ·exact h1 h'
 ·exact h2 h'.symm
theorem znk {α:Type}{l:List α}{i:Nat}{s:α}(h:¬i<l.length)(h1:s∉l.take i):s∉l:=by
 rwa [List.take_of_length_le (by omega)]at h1
theorem zev {α:Type}{O:List α}{f:α→Bool}{j:Nat}(h:j<O.length):(O.take (j+1)).all f=((O.take j).all f&&f O[j]):=by
 rw[List.take_succ_eq_append_getElem h,List.all_append];simp
end Go.Abs
namespace Go.Abs
open Go
def zdO (k:Int):Int:=if k=1∨k=2∨k=3 then 0 else if k=4∨k=8∨k=9 then 1 else if k=5∨k=6∨k=7 then 2 else-1
def named (f:zab):Bool:=decide (f.kind=2∨f.kind=8∨f.kind=9∨f.kind=10)
def zdk (f:zab):Bool:=if f.kind=2 then decide (f.words.length≤3)else if f.kind=3 then decide (f.words.length=2)else decide (f.words.length=0)
def zbn (op:Bool)(f:zab):Int:=if f.kind=10∧op=true then 0 else zdO f.kind
def zdh (op:Bool)(f:zab)(depth:Int)(n:Nat):Int:=
 if 200<n+1∨40<depth then 1 else if zbn op f<0 then 4 else if¬((f.subs.length:Int)=zbn op f∧zdk f=true)then 9
 else if named f=true∧zat f.name=false then 10 else if named f=false∧f.name≠⟨[]⟩then 5 else if f.words.all zat=false then 10 else 0
mutual
def chk (op:Bool):zab→Int→Nat→zdo×Nat
 | .mk k nm w s,depth,n=>if zdh op (.mk k nm w s) depth n≠0 then(⟨zdh op (.mk k nm w s) depth n,n⟩,n+1)else zea op s (depth+1) (n+1)
def zea (op:Bool):List zab→Int→Nat→zdo×Nat
 |[],_,n=>(⟨0,0⟩,n)
 |f::fs,depth,n=>if(chk op f depth n).1.code≠0 then chk op f depth n else zea op fs depth (chk op f depth n).2
end
def zaw (op:Bool)(f:zab):zdo:=(chk op f 1 0).1
theorem zto {op:Bool}{f:zab}{depth:Int}{n:Nat}:chk op f depth n=if zdh op f depth n≠0 then(⟨zdh op f depth n,n⟩,n+1)else zea op f.subs (depth+1) (n+1):=by
 cases f;rw[chk];rfl
mutual
theorem ztq {op:Bool}:∀(f:zab) (depth:Int) (n:Nat),((chk op f depth n).1.code=0→(chk op f depth n).1=⟨0,0⟩∧(chk op f depth n).2≤200∧n<(chk op f depth n).2)
 | .mk k nm w s,depth,n=>by
  rw[chk]
  split
  ·rename_i h;intro h2;exact absurd h2 h
  ·rename_i h
   intro h2
   have hn:n+1≤200:=by
    unfold zdh at h
    split at h
    ·simp at h
    ·omega
   have:=zyA s (depth+1) (n+1) hn h2
   exact⟨this.1,this.2.1,by omega⟩
theorem zyA {op:Bool}:∀(fs:List zab) (depth:Int) (n:Nat),n≤200→((zea op fs depth n).1.code=0→(zea op fs depth n).1=⟨0,0⟩∧(zea op fs depth n).2≤200∧n≤(zea op fs depth n).2)
 |[],depth,n,hn=>by rw[zea];intro _;exact⟨rfl,hn,Nat.le_refl _⟩
 |f::fs,depth,n,hn=>by
  rw[zea]
  split
  ·rename_i h;intro h2;exact absurd h2 h
  ·rename_i h
   have h3:=ztq f depth n (Decidable.not_not.1 h)
   intro h2
   have:=zyA fs depth _ h3.2.1 h2
   exact⟨this.1,this.2.1,by omega⟩
end
def ziZ (op:Bool):List (zab×Int)→Nat→zdo
 |[],_=>⟨0,0⟩
 |(f,d)::st,n=>if(chk op f d n).1.code≠0 then(chk op f d n).1 else ziZ op st (chk op f d n).2
theorem znG {op:Bool}{d:Int}{st:List (zab×Int)}:∀(fs:List zab) (n:Nat),ziZ op (fs.map (fun g=>(g,d))++st) n=if(zea op fs d n).1.code≠0 then(zea op fs d n).1 else ziZ op st (zea op fs d n).2
 |[],n=>by simp[zea]
 |f::fs,n=>by
  rw[List.map_cons,List.cons_append,ziZ,zea]
  split
  ·rfl
  ·exact znG fs _
theorem zsm {op:Bool}{f:zab}{d:Int}{st:List (zab×Int)}{n:Nat}:ziZ op ((f,d)::st) n=if zdh op f d n≠0 then⟨zdh op f d n,n⟩else ziZ op (f.subs.map (fun g=>(g,d+1))++st) (n+1):=by
 rw[ziZ,znG,zto]
 by_cases h:zdh op f d n≠0
 ·rw[if_pos h,if_pos h,if_pos h]
 ·rw[if_neg h,if_neg h]
theorem zu9 {op:Bool}{f:zab}:ziZ op [(f,1)] 0=zaw op f:=by
 unfold zaw
 rw[ziZ,ziZ]
 split
 ·rfl
 ·rename_i h;exact((ztq f 1 0 (Decidable.not_not.1 h)).1).symm
theorem zew {op:Bool}{f:zab}(h:(zaw op f).code=0):zaw op f=⟨0,0⟩:=(ztq f 1 0 h).1
end Go.Abs
namespace Go.Abs
open Go
mutual
inductive zdw where
 |mk (kind:Int) (name:Str) (form:zab) (boxes:List Box)
inductive Box where
 |mk (refs:List Str) (conds:List zdw)
end
def zdw.kind:zdw→Int| .mk k _ _ _=>k
def zdw.name:zdw→Str| .mk _ n _ _=>n
def zdw.form:zdw→zab| .mk _ _ f _=>f
def zdw.boxes:zdw→List Box| .mk _ _ _ b=>b
def Box.refs:Box→List Str| .mk r _=>r
def Box.conds:Box→List zdw| .mk _ c=>c
@[go_sem] theorem zCp {k n f b}:(zdw.mk k n f b).kind=k:=rfl
@[go_sem] theorem zCq {k n f b}:(zdw.mk k n f b).name=n:=rfl
@[go_sem] theorem zCo {k n f b}:(zdw.mk k n f b).form=f:=rfl
@[go_sem] theorem zA6 {k n f b}:(zdw.mk k n f b).boxes=b:=rfl
@[go_sem] theorem zEs {r c}:(Box.mk r c).refs=r:=rfl
@[go_sem] theorem zCf {r c}:(Box.mk r c).conds=c:=rfl
@[go_sem] theorem zEw {c:zdw}:zdw.mk c.kind c.name c.form c.boxes=c:=by cases c;rfl
@[go_sem] theorem zF5 {b:Box}:Box.mk b.refs b.conds=b:=by cases b;rfl
mutual
def zBb:zdw→FD
 | .mk k n f b=> .agg [.i .i64 k,.s n.l,.i .i64 f.kind,.s f.name.l,.sl (f.words.map enc),.sl (f.subs.map enc),.sl (zrB b)]
def zBa:Box→FD
 | .mk r c=> .agg [.sl (r.map enc),.sl (zrC c)]
def zrB:List Box→List FD
 |[]=>[]
 |b::bs=>zBa b::zrB bs
def zrC:List zdw→List FD
 |[]=>[]
 |c::cs=>zBb c::zrC cs
end
mutual
def zA8:FD→zdw
 | .agg [.i _ k,.s n,.i _ fk,.s fn,.sl fw,.sl fs,.sl b]=> .mk k ⟨n⟩ (.mk fk ⟨fn⟩ (fw.map dec) (fs.map dec)) (zru b)
 |_=> .mk 0 ⟨[]⟩ (.mk 0 ⟨[]⟩ [] []) []
def zA7:FD→Box
 | .agg [.sl r,.sl c]=> .mk (r.map dec) (zrv c)
 |_=> .mk [] []
def zru:List FD→List Box
 |[]=>[]
 |x::xs=>zA7 x::zru xs
def zrv:List FD→List zdw
 |[]=>[]
 |x::xs=>zA8 x::zrv xs
end
mutual
theorem zmt:∀c,zA8 (zBb c)=c
 | .mk k n f b=>by simp only[zBb,zA8,zcT,zim b,zae,zac]
theorem zmr:∀b,zA7 (zBa b)=b
 | .mk r c=>by simp only[zBa,zA7,zcT,zin c]
theorem zim:∀b,zru (zrB b)=b
 |[]=>rfl
 |b::bs=>by simp only[zrB,zru,zmr b,zim bs]
theorem zin:∀c,zrv (zrC c)=c
 |[]=>rfl
 |c::cs=>by simp only[zrC,zrv,zmt c,zin cs]
end
instance:Enc zdw:=⟨zBb,zA8,zmt⟩
instance:Enc Box:=⟨zBa,zA7,zmr⟩
theorem zmC:∀s:List Box,zrB s=s.map enc
 |[]=>rfl
 |f::fs=>by rw[zrB,zmC fs];rfl
theorem zmD:∀s:List zdw,zrC s=s.map enc
 |[]=>rfl
 |f::fs=>by rw[zrC,zmD fs];rfl
theorem zms:∀s:List FD,zru s=dec (α:=List Box) (.sl s)
 |[]=>rfl
 |f::fs=>by rw[zru,zms fs];rfl
theorem zmu:∀s:List FD,zrv s=dec (α:=List zdw) (.sl s)
 |[]=>rfl
 |f::fs=>by rw[zrv,zmu fs];rfl
@[go_sem] theorem zp4 {c:zdw}:enc c= .agg [.i .i64 c.kind,.s c.name.l,.i .i64 c.form.kind,.s c.form.name.l,.sl (c.form.words.map enc),.sl (c.form.subs.map enc),.sl (c.boxes.map enc)]:=by
 cases c with
 |mk k n f b=>show zBb _=_;rw[zBb,zmC];rfl
@[go_sem] theorem ztW {b:Box}:enc b= .agg [.sl (b.refs.map enc),.sl (b.conds.map enc)]:=by
 cases b with
 |mk r c=>show zBa _=_;rw[zBa,zmD];rfl
@[go_sem] theorem zEz {i j k n fk fn fw fs b}:dec (α:=zdw) (.agg [.i i k,.s n,.i j fk,.s fn,.sl fw,.sl fs,.sl b])= .mk k ⟨n⟩ (.mk fk ⟨fn⟩ (dec (.sl fw)) (dec (.sl fs))) (dec (.sl b)):=by
 show zA8 _=_;rw[zA8,zms];rfl
@[go_sem] theorem zF8 {r c}:dec (α:=Box) (.agg [.sl r,.sl c])= .mk (dec (.sl r)) (dec (.sl c)):=by
 show zA7 _=_;rw[zA7,zmu];rfl
instance:Kc zdw 7:=⟨fun f=>by rw[zp4];rfl⟩
instance:Kc Box 2:=⟨fun f=>by rw[ztW];rfl⟩
@[go_sem] theorem zBP {l:List zdw}:zbx (l.map enc) 7=True:=eq_true (zdf l)
@[go_sem] theorem zBO {l:List Box}:zbx (l.map enc) 2=True:=eq_true (zdf l)
@[go_sem] theorem zzX {l:List zdw}:(zad (l.map enc)).all zcN=true:=by
 rw[List.all_eq_true]
 intro d hd
 simp only[zad,List.mem_flatMap,List.mem_map]at hd
 obtain⟨_,⟨a,_,rfl⟩,x,hx,rfl⟩:=hd
 simp only[zp4,FD.cells,List.mem_cons,List.not_mem_nil,or_false]at hx
 rcases hx with rfl|rfl|rfl|rfl|rfl|rfl|rfl<;>rfl
@[go_sem] theorem zzW {l:List Box}:(zad (l.map enc)).all zcN=true:=by
 rw[List.all_eq_true]
 intro d hd
 simp only[zad,List.mem_flatMap,List.mem_map]at hd
 obtain⟨_,⟨a,_,rfl⟩,x,hx,rfl⟩:=hd
 simp only[ztW,FD.cells,List.mem_cons,List.not_mem_nil,or_false]at hx
 rcases hx with rfl|rfl<;>rfl
mutual
def zdw.size:zdw→Nat
 | .mk _ _ _ b=>Box.sizes b+1
def Box.size:Box→Nat
 | .mk _ c=>zdw.sizes c+1
def Box.sizes:List Box→Nat
 |[]=>0
 |b::bs=>b.size+Box.sizes bs
def zdw.sizes:List zdw→Nat
 |[]=>0
 |c::cs=>c.size+zdw.sizes cs
end
theorem Box.size_mem:∀{l:List Box} {f:Box},f∈l→f.size≤Box.sizes l
 |g::l,f,h=>by
  rw[Box.sizes]
  rcases List.mem_cons.1 h with rfl|h
  ·omega
  ·have:=Box.size_mem h;omega
theorem zdw.size_mem:∀{l:List zdw} {f:zdw},f∈l→f.size≤zdw.sizes l
 |g::l,f,h=>by
  rw[zdw.sizes]
  rcases List.mem_cons.1 h with rfl|h
  ·omega
  ·have:=zdw.size_mem h;omega
theorem Box.size_sub {b:Box}{c:zdw}(h:c∈b.conds):c.size<b.size:=by
 cases b with
 |mk r cs=>rw[Box.size];have:=zdw.size_mem (show c∈cs from h);omega
theorem zdw.size_sub {c:zdw}{b:Box}(h:b∈c.boxes):b.size<c.size:=by
 cases c with
 |mk k n f bs=>rw[zdw.size];have:=Box.size_mem (show b∈bs from h);omega
def zpz (k:Int):Int:=if k=1∨k=5 then 0 else if k=2∨k=6 then 1 else if k=3∨k=4 then 2 else-1
def zDE (f:zab):Bool:=decide (f.kind=0)&&decide (f.name=⟨[]⟩)&&decide (f.words.length=0)&&decide (f.subs.length=0)
def zCn (c:zdw)(refs:List Str):Int:=
 if zpz c.kind<0 then 4 else if¬(c.boxes.length:Int)=zpz c.kind then 9 else if c.kind≠5∧c.name≠⟨[]⟩∨0<zpz c.kind∧zDE c.form=false then 5
 else if 0<zpz c.kind then 0 else if(zaw false c.form).code≠0 then(zaw false c.form).code
 else if c.kind=1∧c.form.kind≠2∧c.form.kind≠3∨c.kind=5∧(c.form.kind≠2∨c.form.words.length≠0)then 5 else if c.kind=5∧c.name∉refs then 6 else 0
def znx:List Str→List Str→Int×List Str
 |refs,[]=>(0,refs)
 |refs,x::xs=>if zat x=false then(10,refs)else if x∈refs then(7,refs)else znx (refs++[x]) xs
structure BS where
 e:zdo
 n:Nat
 refs:List Str
mutual
def zEr:Box→Int→Int→Nat→List Str→BS
 | .mk r cs,depth,most,n,refs=>
  if 200<n+1∨10<depth then⟨⟨1,n⟩,n+1,refs⟩
  else if most<r.length∨200<refs.length+r.length then⟨⟨2,n⟩,n+1,refs⟩
  else if(znx refs r).1≠0 then⟨⟨(znx refs r).1,n⟩,n+1,(znx refs r).2⟩
  else zyC r cs depth (n+1) (znx refs r).2
def zyC:List Str→List zdw→Int→Nat→List Str→BS
 |_,[],_,n,refs=>⟨⟨0,0⟩,n,refs⟩
 |r,c::cs,depth,n,refs=>if(zwy r c depth n refs).e.code≠0 then zwy r c depth n refs else zyC r cs depth (zwy r c depth n refs).n (zwy r c depth n refs).refs
def zwy:List Str→zdw→Int→Nat→List Str→BS
 |r,.mk k nm f bs,depth,n,refs=>
  if 200<n+1 then⟨⟨1,n⟩,n+1,refs⟩else if zCn (.mk k nm f bs) r≠0 then⟨⟨zCn (.mk k nm f bs) r,n⟩,n+1,refs⟩
  else zCg bs (depth+1) (if k=6 then 2 else 200) (n+1) refs
def zCg:List Box→Int→Int→Nat→List Str→BS
 |[],_,_,n,refs=>⟨⟨0,0⟩,n,refs⟩
 |b::bs,depth,most,n,refs=>if(zEr b depth most n refs).e.code≠0 then zEr b depth most n refs else zCg bs depth most (zEr b depth most n refs).n (zEr b depth most n refs).refs
end
end Go.Abs

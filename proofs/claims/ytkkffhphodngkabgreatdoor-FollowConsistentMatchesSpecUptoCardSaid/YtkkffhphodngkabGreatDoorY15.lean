/- several texts of this proof in one; no conditions -/
import Derived.Test.YtkkffhphodngkabGreatDoorY6
set_option linter.unusedSimpArgs false
namespace Go.Abs
open Go
inductive zac where
 |mk (kind:Int) (name:Str) (words:List Str) (subs:List zac)
namespace zac
def kind:zac→Int|mk k _ _ _=>k
def name:zac→Str|mk _ n _ _=>n
def words:zac→List Str|mk _ _ w _=>w
def subs:zac→List zac|mk _ _ _ s=>s
end zac
@[go_sem] theorem zai {k n w s}:(zac.mk k n w s).kind=k:=rfl
@[go_sem] theorem zbV {k n w s}:(zac.mk k n w s).name=n:=rfl
@[go_sem] theorem zce {k n w s}:(zac.mk k n w s).words=w:=rfl
@[go_sem] theorem zaM {k n w s}:(zac.mk k n w s).subs=s:=rfl
@[go_sem] theorem zab {f:zac}:zac.mk f.kind f.name f.words f.subs=f:=by cases f;rfl
mutual
def zCe:zac→FD
 | .mk k n w s=> .agg [.i .i64 k,.s n.l,.sl (w.map enc),.sl (zsl s)]
def zsl:List zac→List FD
 |[]=>[]
 |f::fs=>zCe f::zsl fs
end
mutual
def zCb:FD→zac
 | .agg [.i _ k,.s n,.sl w,.sl s]=> .mk k ⟨n⟩ (w.map dec) (zse s)
 |_=> .mk 0 ⟨[]⟩ [] []
def zse:List FD→List zac
 |[]=>[]
 |x::xs=>zCb x::zse xs
end
theorem zc7 {α:Type}[Enc α](l:List α):(l.map enc).map dec=l:=by
 rw[List.map_map,show(dec∘enc:α→α)=id from funext fun a=>dec_enc a];simp
mutual
theorem zm6:∀f,zCb (zCe f)=f
 | .mk k n w s=>by
  simp only[zCe,zCb,zc7,ziV s]
theorem ziV:∀s,zse (zsl s)=s
 |[]=>rfl
 |f::fs=>by simp only[zsl,zse,zm6 f,ziV fs]
end
instance:Enc zac:=⟨zCe,zCb,zm6⟩
theorem znf:∀s:List zac,zsl s=s.map enc
 |[]=>rfl
 |f::fs=>by rw[zsl,znf fs];rfl
theorem zm7:∀s:List FD,zse s=dec (α:=List zac) (.sl s)
 |[]=>rfl
 |f::fs=>by rw[zse,zm7 fs];rfl
@[go_sem] theorem zaE {f:zac}:enc f= .agg [.i .i64 f.kind,.s f.name.l,.sl (f.words.map enc),.sl (f.subs.map enc)]:=by
 cases f with
 |mk k n w s=>show zCe _=_;rw[zCe,znf];rfl
@[go_sem] theorem zFX {i k n w s}:dec (α:=zac) (.agg [.i i k,.s n,.sl w,.sl s])= .mk k ⟨n⟩ (dec (.sl w)) (dec (.sl s)):=by
 show zCb _=_;rw[zCb,zm7];rfl
instance:Kc zac 4:=⟨fun f=>by rw[zaE];rfl⟩
@[go_sem] theorem zCT {l:List zac}:zbE (l.map enc) 4=True:=eq_true (zdm l)
@[go_sem] theorem zpv {l:List zac}:(zaf (l.map enc)).all zc0=true:=by
 rw[List.all_eq_true]
 intro d hd
 simp only[zaf,List.mem_flatMap,List.mem_map]at hd
 obtain⟨_,⟨a,_,rfl⟩,x,hx,rfl⟩:=hd
 simp only[zaE,FD.cells,List.mem_cons,List.not_mem_nil,or_false]at hx
 rcases hx with rfl|rfl|rfl|rfl<;>rfl
mutual
def zac.beq:zac→zac→Bool
 | .mk k n w s,.mk k' n' w' s'=>decide (k=k')&&decide (n=n')&&decide (w=w')&&zac.beqs s s'
def zac.beqs:List zac→List zac→Bool
 |[],[]=>true
 |f::fs,g::gs=>zac.beq f g&&zac.beqs fs gs
 |[],_::_=>false
 |_::_,[]=>false
end
mutual
theorem zac.beq_iff:∀f g:zac,zac.beq f g=true↔f=g
 | .mk k n w s,.mk k' n' w' s'=>by
  simp only[zac.beq,Bool.and_eq_true,decide_eq_true_eq,zac.beqs_iff s s',zac.mk.injEq]
  constructor
  ·rintro⟨⟨⟨a,b⟩,c⟩,d⟩;exact⟨a,b,c,d⟩
  ·rintro⟨a,b,c,d⟩;exact⟨⟨⟨a,b⟩,c⟩,d⟩
theorem zac.beqs_iff:∀f g:List zac,zac.beqs f g=true↔f=g
 |[],[]=>by simp[zac.beqs]
 |f::fs,g::gs=>by simp only[zac.beqs,Bool.and_eq_true,zac.beq_iff f g,zac.beqs_iff fs gs,List.cons.injEq]
 |[],_::_=>by simp[zac.beqs]
 |_::_,[]=>by simp[zac.beqs]
end
instance:DecidableEq zac:=fun f g=>decidable_of_iff _ (zac.beq_iff f g)
instance:Inhabited zac:=⟨.mk 0 ⟨[]⟩ [] []⟩
mutual
def zac.size:zac→Nat
 | .mk _ _ _ s=>zac.sizes s+1
def zac.sizes:List zac→Nat
 |[]=>0
 |f::fs=>f.size+zac.sizes fs
end
theorem zac.size_mem:∀{l:List zac} {f:zac},f∈l→f.size≤zac.sizes l
 |g::l,f,h=>by
  rw[zac.sizes]
  rcases List.mem_cons.1 h with rfl|h
  ·omega
  ·have:=zac.size_mem h;omega
theorem zac.size_sub {f g:zac}(h:g∈f.subs):g.size<f.size:=by
 cases f with
 |mk k n w s=>rw[zac.size];have:=zac.size_mem (show g∈s from h);omega
theorem zac.size_pos (f:zac):0<f.size:=by cases f;rw[zac.size];omega
section
variable {P:Program} {G:Nat→List FD} {T:Tbl}
theorem zBQ {α ρ:Type}[Enc α][Enc ρ]{f:FuncId}{g:α→ρ}{pre:α→Prop}(m:α→Nat)(hc:zan P f)(hT:zaq P G T)
  (h:∀n,zaq P G (T.add f (sp1 g fun a=>m a<n∧pre a))→∀a,m a=n→pre a→(enc a).Wf→zaw P G f [.fz (enc a)] (hpL []) 0 (fun d _ _=>D.val d=some (.fz (enc (g a))))):zaq P G (T.add f (sp1 g pre)):=by
 have key:∀n,zaq P G (T.add f (sp1 g fun a=>m a<n∧pre a)):=by
  intro n
  induction n with
  |zero=>exact zb3 hc hT fun a ha=>by omega
  |succ n ih=>
   refine zb3 hc hT fun a ha hw=>?_
   rcases Nat.lt_or_ge (m a) n with h1|h1
   ·have h2:=ih f (sp1 g fun a=>m a<n∧pre a) [enc a] _ _ (by simp[Tbl.add]) (zIT) ⟨by rw[dec_enc],by rw[dec_enc];exact⟨h1,ha.2⟩⟩
    rw[dec_enc,zdV]at h2
    exact h2
   ·exact h n ih a (by omega) ha.2 hw
 refine zb3 hc hT fun a ha hw=>h (m a) (key _) a rfl ha hw
end
end Go.Abs
namespace Go.Abs
open Go
def znM (c:UInt8):Prop:=97≤(c.toNat:Int)∧(c.toNat:Int)≤122
def okc (c:UInt8):Prop:=znM c∨(48≤(c.toNat:Int)∧(c.toNat:Int)≤57)∨(c.toNat:Int)=95∨(c.toNat:Int)=45
instance (c:UInt8):Decidable (znM c):=inferInstanceAs (Decidable (_∧_))
instance (c:UInt8):Decidable (okc c):=inferInstanceAs (Decidable (_∨_))
def zas (s:Str):Bool:=decide (1≤s.l.length∧s.l.length≤30∧znM (s.l.getD 0 0)∧∀j,j<s.l.length→okc (s.l.getD j 0))
theorem ztX {p:Nat→Prop}{i:Nat}(h:∀j,j<i→p j)(hi:p i):∀j,j<i+1→p j:=fun j hj=>by
 rcases Nat.lt_or_ge j i with h'|h'
 ·exact h j h'
 ·obtain rfl:j=i:=by omega
  exact hi
theorem zfP {s:Str}(h:¬(1≤s.l.length∧s.l.length≤30∧znM (s.l.getD 0 0))):zas s=false:=by
 unfold zas
 exact decide_eq_false fun hh=>h ⟨hh.1,hh.2.1,hh.2.2.1⟩
theorem zyz {s:Str}{j:Nat}(hj:j<s.l.length)(h:¬okc (s.l.getD j 0)):zas s=false:=by
 unfold zas
 exact decide_eq_false fun hh=>h (hh.2.2.2 j hj)
theorem zjh {s:Str}(h1:1≤s.l.length)(h2:s.l.length≤30)(h3:znM (s.l.getD 0 0))(h4:∀j,j<s.l.length→okc (s.l.getD j 0)):zas s=true:=by
 unfold zas
 exact decide_eq_true ⟨h1,h2,h3,h4⟩
structure zhd (n:Nat)(p:Nat→Prop) where
 i:Nat
 hi:i≤n
 hp:p i
structure zcW (n n0:Nat)(p:Nat→Prop) where
 i:Nat
 m:Nat
 hi:i≤n
 hm:n0≤m
 hp:p i
structure zh6 (n n0:Nat)(p:Nat→Prop) where
 i:Nat
 g:Nat
 m:Nat
 hi:i≤n
 hg:g<m
 hm:n0≤m
 hp:p i
def idx (l:List Str)(s:Str):Int:=if s∈l then(l.idxOf s:Int)else-1
theorem zqU {s:Str}:∀{l:List Str} {i:Nat} (h:i<l.length),s∉l.take i→l[i]=s→l.idxOf s=i
 |[],i,h,_,_=>by simp at h
 |x::l,0,h,_,e=>by simp at e;simp[e]
 |x::l,i+1,h,h1,e=>by
  simp only[List.take_succ_cons,List.mem_cons,not_or]at h1
  have:=zqU (s:=s) (l:=l) (i:=i) (by simpa using h) h1.2 (by simpa using e)
  rw[List.idxOf_cons]
  have hne:(x==s)=false:=by simpa using fun e=>h1.1 e.symm
  simp[hne,this]
theorem zsV {α:Type}{l:List α}{i:Nat}{s:α}(h:i<l.length)(h1:s∉l.take i)(h2:¬l[i]=s):s∉l.take (i+1):=by
 rw[List.take_succ_eq_append_getElem h,List.mem_append,List.mem_singleton]
 rintro(h'|h')
 ·exact h1 h'
 ·exact h2 h'.symm
theorem zvD {α:Type}{l:List α}{i:Nat}{s:α}(h:¬i<l.length)(h1:s∉l.take i):s∉l:=by
 rwa [List.take_of_length_le (by omega)]at h1
theorem zAe {α:Type}{a b:List α}{i:Nat}(h1:i<a.length)(h2:i<b.length)(h:a.take i=b.take i)(e:a[i]=b[i]):a.take (i+1)=b.take (i+1):=by
 rw[List.take_succ_eq_append_getElem h1,List.take_succ_eq_append_getElem h2,h,e]
theorem zG8 {α:Type}{a b:List α}{i:Nat}(h1:i<a.length)(h2:i<b.length)(h:¬a[i]=b[i]):¬a=b:=by
 rintro rfl;exact h rfl
theorem zAd {α:Type}{a b:List α}{i:Nat}(hl:a.length=b.length)(h:¬i<a.length)(e:a.take i=b.take i):a=b:=by
 rw[List.take_of_length_le (by omega),List.take_of_length_le (by omega)]at e
 exact e
theorem zdv {α:Type}{O:List α}{f:α→Bool}{j:Nat}(h:j<O.length):(O.take (j+1)).any f=((O.take j).any f||f O[j]):=by
 rw[List.take_succ_eq_append_getElem h,List.any_append];simp
theorem zkY {α:Type}{O:List α}{f:α→Bool}{j:Nat}(h:j<O.length):(O.take (j+1)).all f=((O.take j).all f&&f O[j]):=by
 rw[List.take_succ_eq_append_getElem h,List.all_append];simp
end Go.Abs
namespace Go.Abs
open Go
def zg0 (k:Int):Int:=if k=1∨k=2∨k=3 then 0 else if k=4∨k=8∨k=9 then 1 else if k=5∨k=6∨k=7 then 2 else-1
def named (f:zac):Bool:=decide (f.kind=2∨f.kind=8∨f.kind=9∨f.kind=10)
def zdq (f:zac):Bool:=if f.kind=2 then decide (f.words.length≤3)else if f.kind=3 then decide (f.words.length=2)else decide (f.words.length=0)
def zcj (op:Bool)(f:zac):Int:=if f.kind=10∧op=true then 0 else zg0 f.kind
def zex (op:Bool)(f:zac)(depth:Int)(n:Nat):Int:=
 if 200<n+1∨40<depth then 1 else if zcj op f<0 then 4 else if¬((f.subs.length:Int)=zcj op f∧zdq f=true)then 9
 else if named f=true∧zas f.name=false then 10 else if named f=false∧f.name≠⟨[]⟩then 5 else if f.words.all zas=false then 10 else 0
mutual
def chk (op:Bool):zac→Int→Nat→zbp×Nat
 | .mk k nm w s,depth,n=>if zex op (.mk k nm w s) depth n≠0 then(⟨zex op (.mk k nm w s) depth n,n⟩,n+1)else zfb op s (depth+1) (n+1)
def zfb (op:Bool):List zac→Int→Nat→zbp×Nat
 |[],_,n=>(⟨0,0⟩,n)
 |f::fs,depth,n=>if(chk op f depth n).1.code≠0 then chk op f depth n else zfb op fs depth (chk op f depth n).2
end
def zaz (op:Bool)(f:zac):zbp:=(chk op f 1 0).1
theorem zzG {op:Bool}{f:zac}{depth:Int}{n:Nat}:chk op f depth n=if zex op f depth n≠0 then(⟨zex op f depth n,n⟩,n+1)else zfb op f.subs (depth+1) (n+1):=by
 cases f;rw[chk];rfl
mutual
theorem zxB {op:Bool}:∀(f:zac) (depth:Int) (n:Nat),((chk op f depth n).1.code=0→(chk op f depth n).1=⟨0,0⟩∧(chk op f depth n).2≤200∧n<(chk op f depth n).2)
 | .mk k nm w s,depth,n=>by
  rw[chk]
  split
  ·rename_i h;intro h2;exact absurd h2 h
  ·rename_i h
   intro h2
   have hn:n+1≤200:=by
    unfold zex at h
    split at h
    ·simp at h
    ·omega
   have:=zzI s (depth+1) (n+1) hn h2
   exact⟨this.1,this.2.1,by omega⟩
theorem zzI {op:Bool}:∀(fs:List zac) (depth:Int) (n:Nat),n≤200→((zfb op fs depth n).1.code=0→(zfb op fs depth n).1=⟨0,0⟩∧(zfb op fs depth n).2≤200∧n≤(zfb op fs depth n).2)
 |[],depth,n,hn=>by rw[zfb];intro _;exact⟨rfl,hn,Nat.le_refl _⟩
 |f::fs,depth,n,hn=>by
  rw[zfb]
  split
  ·rename_i h;intro h2;exact absurd h2 h
  ·rename_i h
   have h3:=zxB f depth n (Decidable.not_not.1 h)
   intro h2
   have:=zzI fs depth _ h3.2.1 h2
   exact⟨this.1,this.2.1,by omega⟩
end
theorem zeK {op:Bool}{f:zac}(h:(zaz op f).code=0):zaz op f=⟨0,0⟩:=(zxB f 1 0 h).1
end Go.Abs
namespace Go.Abs
open Go
mutual
inductive zdC where
 |mk (kind:Int) (name:Str) (form:zac) (boxes:List Box)
inductive Box where
 |mk (refs:List Str) (conds:List zdC)
end
def zdC.kind:zdC→Int| .mk k _ _ _=>k
def zdC.name:zdC→Str| .mk _ n _ _=>n
def zdC.form:zdC→zac| .mk _ _ f _=>f
def zdC.boxes:zdC→List Box| .mk _ _ _ b=>b
def Box.refs:Box→List Str| .mk r _=>r
def Box.conds:Box→List zdC| .mk _ c=>c
@[go_sem] theorem zDr {k n f b}:(zdC.mk k n f b).kind=k:=rfl
@[go_sem] theorem zDs {k n f b}:(zdC.mk k n f b).name=n:=rfl
@[go_sem] theorem zDq {k n f b}:(zdC.mk k n f b).form=f:=rfl
@[go_sem] theorem zB8 {k n f b}:(zdC.mk k n f b).boxes=b:=rfl
@[go_sem] theorem zFO {r c}:(Box.mk r c).refs=r:=rfl
@[go_sem] theorem zDh {r c}:(Box.mk r c).conds=c:=rfl
@[go_sem] theorem zFS {c:zdC}:zdC.mk c.kind c.name c.form c.boxes=c:=by cases c;rfl
@[go_sem] theorem zHx {b:Box}:Box.mk b.refs b.conds=b:=by cases b;rfl
mutual
def zCd:zdC→FD
 | .mk k n f b=> .agg [.i .i64 k,.s n.l,.i .i64 f.kind,.s f.name.l,.sl (f.words.map enc),.sl (f.subs.map enc),.sl (zsj b)]
def zCc:Box→FD
 | .mk r c=> .agg [.sl (r.map enc),.sl (zsk c)]
def zsj:List Box→List FD
 |[]=>[]
 |b::bs=>zCc b::zsj bs
def zsk:List zdC→List FD
 |[]=>[]
 |c::cs=>zCd c::zsk cs
end
mutual
def zCa:FD→zdC
 | .agg [.i _ k,.s n,.i _ fk,.s fn,.sl fw,.sl fs,.sl b]=> .mk k ⟨n⟩ (.mk fk ⟨fn⟩ (fw.map dec) (fs.map dec)) (zsc b)
 |_=> .mk 0 ⟨[]⟩ (.mk 0 ⟨[]⟩ [] []) []
def zB9:FD→Box
 | .agg [.sl r,.sl c]=> .mk (r.map dec) (zsd c)
 |_=> .mk [] []
def zsc:List FD→List Box
 |[]=>[]
 |x::xs=>zB9 x::zsc xs
def zsd:List FD→List zdC
 |[]=>[]
 |x::xs=>zCa x::zsd xs
end
mutual
theorem zm4:∀c,zCa (zCd c)=c
 | .mk k n f b=>by simp only[zCd,zCa,zc7,ziT b,zad,zab]
theorem zm2:∀b,zB9 (zCc b)=b
 | .mk r c=>by simp only[zCc,zB9,zc7,ziU c]
theorem ziT:∀b,zsc (zsj b)=b
 |[]=>rfl
 |b::bs=>by simp only[zsj,zsc,zm2 b,ziT bs]
theorem ziU:∀c,zsd (zsk c)=c
 |[]=>rfl
 |c::cs=>by simp only[zsk,zsd,zm4 c,ziU cs]
end
instance:Enc zdC:=⟨zCd,zCa,zm4⟩
instance:Enc Box:=⟨zCc,zB9,zm2⟩
theorem znd:∀s:List Box,zsj s=s.map enc
 |[]=>rfl
 |f::fs=>by rw[zsj,znd fs];rfl
theorem zne:∀s:List zdC,zsk s=s.map enc
 |[]=>rfl
 |f::fs=>by rw[zsk,zne fs];rfl
theorem zm3:∀s:List FD,zsc s=dec (α:=List Box) (.sl s)
 |[]=>rfl
 |f::fs=>by rw[zsc,zm3 fs];rfl
theorem zm5:∀s:List FD,zsd s=dec (α:=List zdC) (.sl s)
 |[]=>rfl
 |f::fs=>by rw[zsd,zm5 fs];rfl
@[go_sem] theorem zqK {c:zdC}:enc c= .agg [.i .i64 c.kind,.s c.name.l,.i .i64 c.form.kind,.s c.form.name.l,.sl (c.form.words.map enc),.sl (c.form.subs.map enc),.sl (c.boxes.map enc)]:=by
 cases c with
 |mk k n f b=>show zCd _=_;rw[zCd,znd];rfl
@[go_sem] theorem zuO {b:Box}:enc b= .agg [.sl (b.refs.map enc),.sl (b.conds.map enc)]:=by
 cases b with
 |mk r c=>show zCc _=_;rw[zCc,zne];rfl
@[go_sem] theorem zFW {i j k n fk fn fw fs b}:dec (α:=zdC) (.agg [.i i k,.s n,.i j fk,.s fn,.sl fw,.sl fs,.sl b])= .mk k ⟨n⟩ (.mk fk ⟨fn⟩ (dec (.sl fw)) (dec (.sl fs))) (dec (.sl b)):=by
 show zCa _=_;rw[zCa,zm3];rfl
@[go_sem] theorem zHB {r c}:dec (α:=Box) (.agg [.sl r,.sl c])= .mk (dec (.sl r)) (dec (.sl c)):=by
 show zB9 _=_;rw[zB9,zm5];rfl
instance:Kc zdC 7:=⟨fun f=>by rw[zqK];rfl⟩
instance:Kc Box 2:=⟨fun f=>by rw[zuO];rfl⟩
@[go_sem] theorem zCS {l:List zdC}:zbE (l.map enc) 7=True:=eq_true (zdm l)
@[go_sem] theorem zCR {l:List Box}:zbE (l.map enc) 2=True:=eq_true (zdm l)
@[go_sem] theorem zA0 {l:List zdC}:(zaf (l.map enc)).all zc0=true:=by
 rw[List.all_eq_true]
 intro d hd
 simp only[zaf,List.mem_flatMap,List.mem_map]at hd
 obtain⟨_,⟨a,_,rfl⟩,x,hx,rfl⟩:=hd
 simp only[zqK,FD.cells,List.mem_cons,List.not_mem_nil,or_false]at hx
 rcases hx with rfl|rfl|rfl|rfl|rfl|rfl|rfl<;>rfl
@[go_sem] theorem zAZ {l:List Box}:(zaf (l.map enc)).all zc0=true:=by
 rw[List.all_eq_true]
 intro d hd
 simp only[zaf,List.mem_flatMap,List.mem_map]at hd
 obtain⟨_,⟨a,_,rfl⟩,x,hx,rfl⟩:=hd
 simp only[zuO,FD.cells,List.mem_cons,List.not_mem_nil,or_false]at hx
 rcases hx with rfl|rfl<;>rfl
mutual
def zdC.size:zdC→Nat
 | .mk _ _ _ b=>Box.sizes b+1
def Box.size:Box→Nat
 | .mk _ c=>zdC.sizes c+1
def Box.sizes:List Box→Nat
 |[]=>0
 |b::bs=>b.size+Box.sizes bs
def zdC.sizes:List zdC→Nat
 |[]=>0
 |c::cs=>c.size+zdC.sizes cs
end
theorem Box.size_mem:∀{l:List Box} {f:Box},f∈l→f.size≤Box.sizes l
 |g::l,f,h=>by
  rw[Box.sizes]
  rcases List.mem_cons.1 h with rfl|h
  ·omega
  ·have:=Box.size_mem h;omega
theorem zdC.size_mem:∀{l:List zdC} {f:zdC},f∈l→f.size≤zdC.sizes l
 |g::l,f,h=>by
  rw[zdC.sizes]
  rcases List.mem_cons.1 h with rfl|h
  ·omega
  ·have:=zdC.size_mem h;omega
theorem Box.size_sub {b:Box}{c:zdC}(h:c∈b.conds):c.size<b.size:=by
 cases b with
 |mk r cs=>rw[Box.size];have:=zdC.size_mem (show c∈cs from h);omega
theorem zdC.size_sub {c:zdC}{b:Box}(h:b∈c.boxes):b.size<c.size:=by
 cases c with
 |mk k n f bs=>rw[zdC.size];have:=Box.size_mem (show b∈bs from h);omega
def zqm (k:Int):Int:=if k=1∨k=5 then 0 else if k=2∨k=6 then 1 else if k=3∨k=4 then 2 else-1
def zEF (f:zac):Bool:=decide (f.kind=0)&&decide (f.name=⟨[]⟩)&&decide (f.words.length=0)&&decide (f.subs.length=0)
def zDp (c:zdC)(refs:List Str):Int:=
 if zqm c.kind<0 then 4 else if¬(c.boxes.length:Int)=zqm c.kind then 9 else if c.kind≠5∧c.name≠⟨[]⟩∨0<zqm c.kind∧zEF c.form=false then 5
 else if 0<zqm c.kind then 0 else if(zaz false c.form).code≠0 then(zaz false c.form).code
 else if c.kind=1∧c.form.kind≠2∧c.form.kind≠3∨c.kind=5∧(c.form.kind≠2∨c.form.words.length≠0)then 5 else if c.kind=5∧c.name∉refs then 6 else 0
def zn9:List Str→List Str→Int×List Str
 |refs,[]=>(0,refs)
 |refs,x::xs=>if zas x=false then(10,refs)else if x∈refs then(7,refs)else zn9 (refs++[x]) xs
structure BS where
 e:zbp
 n:Nat
 refs:List Str
mutual
def zFN:Box→Int→Int→Nat→List Str→BS
 | .mk r cs,depth,most,n,refs=>
  if 200<n+1∨10<depth then⟨⟨1,n⟩,n+1,refs⟩
  else if most<r.length∨200<refs.length+r.length then⟨⟨2,n⟩,n+1,refs⟩
  else if(zn9 refs r).1≠0 then⟨⟨(zn9 refs r).1,n⟩,n+1,(zn9 refs r).2⟩
  else zzJ r cs depth (n+1) (zn9 refs r).2
def zzJ:List Str→List zdC→Int→Nat→List Str→BS
 |_,[],_,n,refs=>⟨⟨0,0⟩,n,refs⟩
 |r,c::cs,depth,n,refs=>if(zxD r c depth n refs).e.code≠0 then zxD r c depth n refs else zzJ r cs depth (zxD r c depth n refs).n (zxD r c depth n refs).refs
def zxD:List Str→zdC→Int→Nat→List Str→BS
 |r,.mk k nm f bs,depth,n,refs=>
  if 200<n+1 then⟨⟨1,n⟩,n+1,refs⟩else if zDp (.mk k nm f bs) r≠0 then⟨⟨zDp (.mk k nm f bs) r,n⟩,n+1,refs⟩
  else zDi bs (depth+1) (if k=6 then 2 else 200) (n+1) refs
def zDi:List Box→Int→Int→Nat→List Str→BS
 |[],_,_,n,refs=>⟨⟨0,0⟩,n,refs⟩
 |b::bs,depth,most,n,refs=>if(zFN b depth most n refs).e.code≠0 then zFN b depth most n refs else zDi bs depth most (zFN b depth most n refs).n (zFN b depth most n refs).refs
end
end Go.Abs

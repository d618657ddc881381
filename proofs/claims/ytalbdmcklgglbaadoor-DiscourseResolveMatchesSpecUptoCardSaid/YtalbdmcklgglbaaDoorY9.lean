/- several texts of this proof in one; no conditions -/
import Derived.Test.YtalbdmcklgglbaaDoorY5
set_option linter.unusedSimpArgs false
namespace Go.Abs
open Go
inductive zac where
 |mk (kind:Int) (name:Str) (words:List Str) (subs:List zac)
namespace zac
def kind:zac→Int|mk k _ _ _=>k
def name:zac→Str|mk _ n _ _=>n
def words:zac→List Str|mk _ _ w _=>w
def subs:zac→List zac|mk _ _ _ s=>s
end zac
@[go_sem] theorem zaG {k n w s}:(zac.mk k n w s).kind=k:=rfl
@[go_sem] theorem zcd {k n w s}:(zac.mk k n w s).name=n:=rfl
@[go_sem] theorem zcX {k n w s}:(zac.mk k n w s).words=w:=rfl
@[go_sem] theorem zbV {k n w s}:(zac.mk k n w s).subs=s:=rfl
@[go_sem] theorem zab {f:zac}:zac.mk f.kind f.name f.words f.subs=f:=by cases f;rfl
mutual
def zw9:zac→FD
 | .mk k n w s=> .agg [.i .i64 k,.s n.l,.sl (w.map enc),.sl (zoV s)]
def zoV:List zac→List FD
 |[]=>[]
 |f::fs=>zw9 f::zoV fs
end
mutual
def zw3:FD→zac
 | .agg [.i _ k,.s n,.sl w,.sl s]=> .mk k ⟨n⟩ (w.map dec) (zoN s)
 |_=> .mk 0 ⟨[]⟩ [] []
def zoN:List FD→List zac
 |[]=>[]
 |x::xs=>zw3 x::zoN xs
end
theorem zcu {α:Type}[Enc α](l:List α):(l.map enc).map dec=l:=by
 rw[List.map_map,show(dec∘enc:α→α)=id from funext fun a=>dec_enc a];simp
mutual
theorem zkQ:∀f,zw3 (zw9 f)=f
 | .mk k n w s=>by
  simp only[zw9,zw3,zcu,zhm s]
theorem zhm:∀s,zoN (zoV s)=s
 |[]=>rfl
 |f::fs=>by simp only[zoV,zoN,zkQ f,zhm fs]
end
instance:Enc zac:=⟨zw9,zw3,zkQ⟩
theorem zkZ:∀s:List zac,zoV s=s.map enc
 |[]=>rfl
 |f::fs=>by rw[zoV,zkZ fs];rfl
theorem zkR:∀s:List FD,zoN s=dec (α:=List zac) (.sl s)
 |[]=>rfl
 |f::fs=>by rw[zoN,zkR fs];rfl
@[go_sem] theorem zbA {f:zac}:enc f= .agg [.i .i64 f.kind,.s f.name.l,.sl (f.words.map enc),.sl (f.subs.map enc)]:=by
 cases f with
 |mk k n w s=>show zw9 _=_;rw[zw9,zkZ];rfl
@[go_sem] theorem zzV {i k n w s}:dec (α:=zac) (.agg [.i i k,.s n,.sl w,.sl s])= .mk k ⟨n⟩ (dec (.sl w)) (dec (.sl s)):=by
 show zw3 _=_;rw[zw3,zkR];rfl
instance:Kc zac 4:=⟨fun f=>by rw[zbA];rfl⟩
@[go_sem] theorem zxM {l:List zac}:zbi (l.map enc) 4=True:=eq_true (zek l)
@[go_sem] theorem zvS {l:List zac}:(zag (l.map enc)).all zcJ=true:=by
 rw[List.all_eq_true]
 intro d hd
 simp only[zag,List.mem_flatMap,List.mem_map]at hd
 obtain⟨_,⟨a,_,rfl⟩,x,hx,rfl⟩:=hd
 simp only[zbA,FD.cells,List.mem_cons,List.not_mem_nil,or_false]at hx
 rcases hx with rfl|rfl|rfl|rfl<;>rfl
mutual
def zac.beq:zac→zac→Bool
 | .mk k n w s,.mk k' n' w' s'=>decide (k=k')&&decide (n=n')&&decide (w=w')&&zac.beqs s s'
def zac.beqs:List zac→List zac→Bool
 |[],[]=>true
 |f::fs,g::gs=>zac.beq f g&&zac.beqs fs gs
 |[],_::_=>false
 |_::_,[]=>false
end
mutual
theorem zac.beq_iff:∀f g:zac,zac.beq f g=true↔f=g
 | .mk k n w s,.mk k' n' w' s'=>by
  simp only[zac.beq,Bool.and_eq_true,decide_eq_true_eq,zac.beqs_iff s s',zac.mk.injEq]
  constructor
  ·rintro⟨⟨⟨a,b⟩,c⟩,d⟩;exact⟨a,b,c,d⟩
  ·rintro⟨a,b,c,d⟩;exact⟨⟨⟨a,b⟩,c⟩,d⟩
theorem zac.beqs_iff:∀f g:List zac,zac.beqs f g=true↔f=g
 |[],[]=>by simp[zac.beqs]
 |f::fs,g::gs=>by simp only[zac.beqs,Bool.and_eq_true,zac.beq_iff f g,zac.beqs_iff fs gs,List.cons.injEq]
 |[],_::_=>by simp[zac.beqs]
 |_::_,[]=>by simp[zac.beqs]
end
instance:DecidableEq zac:=fun f g=>decidable_of_iff _ (zac.beq_iff f g)
instance:Inhabited zac:=⟨.mk 0 ⟨[]⟩ [] []⟩
mutual
def zac.size:zac→Nat
 | .mk _ _ _ s=>zac.sizes s+1
def zac.sizes:List zac→Nat
 |[]=>0
 |f::fs=>f.size+zac.sizes fs
end
theorem zac.size_mem:∀{l:List zac} {f:zac},f∈l→f.size≤zac.sizes l
 |g::l,f,h=>by
  rw[zac.sizes]
  rcases List.mem_cons.1 h with rfl|h
  ·omega
  ·have:=zac.size_mem h;omega
theorem zac.size_sub {f g:zac}(h:g∈f.subs):g.size<f.size:=by
 cases f with
 |mk k n w s=>rw[zac.size];have:=zac.size_mem (show g∈s from h);omega
theorem zac.size_pos (f:zac):0<f.size:=by cases f;rw[zac.size];omega
section
variable {P:Program} {G:Nat→List FD} {T:Tbl}
theorem zop {T':Tbl}(hT:zan P G T)(h:∀f t',T' f=some t'→∃t,T f=some t∧∀xs r c,t' xs=some (r,c)→∃c',t xs=some (r,c')∧(c→c')):zan P G T':=by
 intro f t' xs r c ht hx hc
 obtain⟨t,h1,h2⟩:=h f t' ht
 obtain⟨c',h3,h4⟩:=h2 xs r c hx
 exact hT f t xs r c' h1 h3 (h4 hc)
theorem zjU {α ρ:Type}[Enc α][Enc ρ]{f:FuncId}{g:α→ρ}{pre:α→Prop}(m:α→Nat)(hc:zam P f)(hT:zan P G T)
  (h:∀n,zan P G (T.add f (sp1 g fun a=>m a<n∧pre a))→∀a,m a=n→pre a→(enc a).Wf→zav P G f [.fz (enc a)] (hpL []) 0 (fun d _ _=>D.val d=some (.fz (enc (g a))))):zan P G (T.add f (sp1 g pre)):=by
 have key:∀n,zan P G (T.add f (sp1 g fun a=>m a<n∧pre a)):=by
  intro n
  induction n with
  |zero=>exact zbY hc hT fun a ha=>by omega
  |succ n ih=>
   refine zbY hc hT fun a ha hw=>?_
   rcases Nat.lt_or_ge (m a) n with h1|h1
   ·have h2:=ih f (sp1 g fun a=>m a<n∧pre a) [enc a] _ _ (by simp[Tbl.add]) (zCU) ⟨by rw[dec_enc],by rw[dec_enc];exact⟨h1,ha.2⟩⟩
    rw[dec_enc,zdo]at h2
    exact h2
   ·exact h n ih a (by omega) ha.2 hw
 refine zbY hc hT fun a ha hw=>h (m a) (key _) a rfl ha hw
end
end Go.Abs
namespace Go.Abs
open Go
def zf4 (c:UInt8):Prop:=97≤(c.toNat:Int)∧(c.toNat:Int)≤122
def okc (c:UInt8):Prop:=zf4 c∨(48≤(c.toNat:Int)∧(c.toNat:Int)≤57)∨(c.toNat:Int)=95∨(c.toNat:Int)=45
instance (c:UInt8):Decidable (zf4 c):=inferInstanceAs (Decidable (_∧_))
instance (c:UInt8):Decidable (okc c):=inferInstanceAs (Decidable (_∨_))
def zai (s:Str):Bool:=decide (1≤s.l.length∧s.l.length≤30∧zf4 (s.l.getD 0 0)∧∀j,j<s.l.length→okc (s.l.getD j 0))
theorem zkq {p:Nat→Prop}{i:Nat}(h:∀j,j<i→p j)(hi:p i):∀j,j<i+1→p j:=fun j hj=>by
 rcases Nat.lt_or_ge j i with h'|h'
 ·exact h j h'
 ·obtain rfl:j=i:=by omega
  exact hi
theorem zcv {s:Str}(h:¬(1≤s.l.length∧s.l.length≤30∧zf4 (s.l.getD 0 0))):zai s=false:=by
 unfold zai
 exact decide_eq_false fun hh=>h ⟨hh.1,hh.2.1,hh.2.2.1⟩
theorem znR {s:Str}{j:Nat}(hj:j<s.l.length)(h:¬okc (s.l.getD j 0)):zai s=false:=by
 unfold zai
 exact decide_eq_false fun hh=>h (hh.2.2.2 j hj)
theorem zhB {s:Str}(h1:1≤s.l.length)(h2:s.l.length≤30)(h3:zf4 (s.l.getD 0 0))(h4:∀j,j<s.l.length→okc (s.l.getD j 0)):zai s=true:=by
 unfold zai
 exact decide_eq_true ⟨h1,h2,h3,h4⟩
theorem zrp {s:Str}{j:Nat}(e:j=0)(h:¬zf4 (s.l.getD j 0)):zai s=false:=by
 subst e;exact zcv fun hh=>h hh.2.2
theorem ztM {s:Str}{i:Nat}(hz:0<i→zf4 (s.l.getD 0 0))(h:i=0→zf4 (s.l.getD i 0)):0<i+1→zf4 (s.l.getD 0 0):=fun _=>by
 rcases Nat.eq_zero_or_pos i with e|e
 ·have:=h e;rwa [e]at this
 ·exact hz e
structure zd8 (n:Nat)(p:Nat→Prop) where
 i:Nat
 hi:i≤n
 hp:p i
structure zcp (n n0:Nat)(p:Nat→Prop) where
 i:Nat
 m:Nat
 hi:i≤n
 hm:n0≤m
 hp:p i
structure zd5 (n n0:Nat)(p:Nat→Prop) where
 i:Nat
 g:Nat
 m:Nat
 hi:i≤n
 hg:g<m
 hm:n0≤m
 hp:p i
def idx (l:List Str)(s:Str):Int:=if s∈l then(l.idxOf s:Int)else-1
theorem zq3 {s:Str}:∀{l:List Str} {i:Nat} (h:i<l.length),s∉l.take i→l[i]=s→l.idxOf s=i
 |[],i,h,_,_=>by simp at h
 |x::l,0,h,_,e=>by simp at e;simp[e]
 |x::l,i+1,h,h1,e=>by
  simp only[List.take_succ_cons,List.mem_cons,not_or]at h1
  have:=zq3 (s:=s) (l:=l) (i:=i) (by simpa using h) h1.2 (by simpa using e)
  rw[List.idxOf_cons]
  have hne:(x==s)=false:=by simpa using fun e=>h1.1 e.symm
  simp[hne,this]
theorem ziN {α:Type}{l:List α}{i:Nat}{s:α}(h:i<l.length)(h1:s∉l.take i)(h2:¬l[i]=s):s∉l.take (i+1):=by
 rw[List.take_succ_eq_append_getElem h,List.mem_append,List.mem_singleton]
 rintro(h'|h')
 ·exact h1 h'
 ·exact h2 h'.symm
theorem zlw {α:Type}{l:List α}{i:Nat}{s:α}(h:¬i<l.length)(h1:s∉l.take i):s∉l:=by
 rwa [List.take_of_length_le (by omega)]at h1
theorem zlX {α:Type}{a b:List α}{i:Nat}(h1:i<a.length)(h2:i<b.length)(h:a.take i=b.take i)(e:a[i]=b[i]):a.take (i+1)=b.take (i+1):=by
 rw[List.take_succ_eq_append_getElem h1,List.take_succ_eq_append_getElem h2,h,e]
theorem zud {α:Type}{a b:List α}{i:Nat}(h1:i<a.length)(h2:i<b.length)(h:¬a[i]=b[i]):¬a=b:=by
 rintro rfl;exact h rfl
theorem zlW {α:Type}{a b:List α}{i:Nat}(hl:a.length=b.length)(h:¬i<a.length)(e:a.take i=b.take i):a=b:=by
 rw[List.take_of_length_le (by omega),List.take_of_length_le (by omega)]at e
 exact e
theorem zfg {α:Type}{O:List α}{f:α→Bool}{j:Nat}(h:j<O.length):(O.take (j+1)).any f=((O.take j).any f||f O[j]):=by
 rw[List.take_succ_eq_append_getElem h,List.any_append];simp
theorem zdQ {α:Type}{O:List α}{f:α→Bool}{j:Nat}(h:j<O.length):(O.take (j+1)).all f=((O.take j).all f&&f O[j]):=by
 rw[List.take_succ_eq_append_getElem h,List.all_append];simp
end Go.Abs
namespace Go.Abs
open Go
def zcn (k:Int):Int:=if k=1∨k=2∨k=3 then 0 else if k=4∨k=8∨k=9 then 1 else if k=5∨k=6∨k=7 then 2 else-1
def named (f:zac):Bool:=decide (f.kind=2∨f.kind=8∨f.kind=9∨f.kind=10)
def zdw (f:zac):Bool:=if f.kind=2 then decide (f.words.length≤3)else if f.kind=3 then decide (f.words.length=2)else decide (f.words.length=0)
def za2 (op:Bool)(f:zac):Int:=if f.kind=10∧op=true then 0 else zcn f.kind
def zda (op:Bool)(f:zac)(depth:Int)(n:Nat):Int:=
 if 200<n+1∨40<depth then 1 else if za2 op f<0 then 4 else if¬((f.subs.length:Int)=za2 op f∧zdw f=true)then 9
 else if named f=true∧zai f.name=false then 10 else if named f=false∧f.name≠⟨[]⟩then 5 else if f.words.all zai=false then 10 else 0
mutual
def chk (op:Bool):zac→Int→Nat→zh9×Nat
 | .mk k nm w s,depth,n=>if zda op (.mk k nm w s) depth n≠0 then(⟨zda op (.mk k nm w s) depth n,n⟩,n+1)else zd3 op s (depth+1) (n+1)
def zd3 (op:Bool):List zac→Int→Nat→zh9×Nat
 |[],_,n=>(⟨0,0⟩,n)
 |f::fs,depth,n=>if(chk op f depth n).1.code≠0 then chk op f depth n else zd3 op fs depth (chk op f depth n).2
end
def zaL (op:Bool)(f:zac):zh9:=(chk op f 1 0).1
theorem zqq {op:Bool}{f:zac}{depth:Int}{n:Nat}:chk op f depth n=if zda op f depth n≠0 then(⟨zda op f depth n,n⟩,n+1)else zd3 op f.subs (depth+1) (n+1):=by
 cases f;rw[chk];rfl
mutual
theorem zs5 {op:Bool}:∀(f:zac) (depth:Int) (n:Nat),((chk op f depth n).1.code=0→(chk op f depth n).1=⟨0,0⟩∧(chk op f depth n).2≤200∧n<(chk op f depth n).2)
 | .mk k nm w s,depth,n=>by
  rw[chk]
  split
  ·rename_i h;intro h2;exact absurd h2 h
  ·rename_i h
   intro h2
   have hn:n+1≤200:=by
    unfold zda at h
    split at h
    ·simp at h
    ·omega
   have:=zuB s (depth+1) (n+1) hn h2
   exact⟨this.1,this.2.1,by omega⟩
theorem zuB {op:Bool}:∀(fs:List zac) (depth:Int) (n:Nat),n≤200→((zd3 op fs depth n).1.code=0→(zd3 op fs depth n).1=⟨0,0⟩∧(zd3 op fs depth n).2≤200∧n≤(zd3 op fs depth n).2)
 |[],depth,n,hn=>by rw[zd3];intro _;exact⟨rfl,hn,Nat.le_refl _⟩
 |f::fs,depth,n,hn=>by
  rw[zd3]
  split
  ·rename_i h;intro h2;exact absurd h2 h
  ·rename_i h
   have h3:=zs5 f depth n (Decidable.not_not.1 h)
   intro h2
   have:=zuB fs depth _ h3.2.1 h2
   exact⟨this.1,this.2.1,by omega⟩
end
def zhS (op:Bool):List (zac×Int)→Nat→zh9
 |[],_=>⟨0,0⟩
 |(f,d)::st,n=>if(chk op f d n).1.code≠0 then(chk op f d n).1 else zhS op st (chk op f d n).2
theorem zlF {op:Bool}{d:Int}{st:List (zac×Int)}:∀(fs:List zac) (n:Nat),zhS op (fs.map (fun g=>(g,d))++st) n=if(zd3 op fs d n).1.code≠0 then(zd3 op fs d n).1 else zhS op st (zd3 op fs d n).2
 |[],n=>by simp[zd3]
 |f::fs,n=>by
  rw[List.map_cons,List.cons_append,zhS,zd3]
  split
  ·rfl
  ·exact zlF fs _
theorem zpx {op:Bool}{f:zac}{d:Int}{st:List (zac×Int)}{n:Nat}:zhS op ((f,d)::st) n=if zda op f d n≠0 then⟨zda op f d n,n⟩else zhS op (f.subs.map (fun g=>(g,d+1))++st) (n+1):=by
 rw[zhS,zlF,zqq]
 by_cases h:zda op f d n≠0
 ·rw[if_pos h,if_pos h,if_pos h]
 ·rw[if_neg h,if_neg h]
theorem zrU {op:Bool}{f:zac}:zhS op [(f,1)] 0=zaL op f:=by
 unfold zaL
 rw[zhS,zhS]
 split
 ·rfl
 ·rename_i h;exact((zs5 f 1 0 (Decidable.not_not.1 h)).1).symm
end Go.Abs
namespace Go.Abs
open Go
mutual
inductive zal where
 |mk (kind:Int) (name:Str) (form:zac) (boxes:List Box)
inductive Box where
 |mk (refs:List Str) (conds:List zal)
end
def zal.kind:zal→Int| .mk k _ _ _=>k
def zal.name:zal→Str| .mk _ n _ _=>n
def zal.form:zal→zac| .mk _ _ f _=>f
def zal.boxes:zal→List Box| .mk _ _ _ b=>b
def Box.refs:Box→List Str| .mk r _=>r
def Box.conds:Box→List zal| .mk _ c=>c
@[go_sem] theorem zhi {k n f b}:(zal.mk k n f b).kind=k:=rfl
@[go_sem] theorem zhj {k n f b}:(zal.mk k n f b).name=n:=rfl
@[go_sem] theorem zhh {k n f b}:(zal.mk k n f b).form=f:=rfl
@[go_sem] theorem zeD {k n f b}:(zal.mk k n f b).boxes=b:=rfl
@[go_sem] theorem zdg {r c}:(Box.mk r c).refs=r:=rfl
@[go_sem] theorem zca {r c}:(Box.mk r c).conds=c:=rfl
@[go_sem] theorem zad {c:zal}:zal.mk c.kind c.name c.form c.boxes=c:=by cases c;rfl
@[go_sem] theorem zaf {b:Box}:Box.mk b.refs b.conds=b:=by cases b;rfl
mutual
def zw8:zal→FD
 | .mk k n f b=> .agg [.i .i64 k,.s n.l,.i .i64 f.kind,.s f.name.l,.sl (f.words.map enc),.sl (f.subs.map enc),.sl (zoT b)]
def zw7:Box→FD
 | .mk r c=> .agg [.sl (r.map enc),.sl (zoU c)]
def zoT:List Box→List FD
 |[]=>[]
 |b::bs=>zw7 b::zoT bs
def zoU:List zal→List FD
 |[]=>[]
 |c::cs=>zw8 c::zoU cs
end
mutual
def zw2:FD→zal
 | .agg [.i _ k,.s n,.i _ fk,.s fn,.sl fw,.sl fs,.sl b]=> .mk k ⟨n⟩ (.mk fk ⟨fn⟩ (fw.map dec) (fs.map dec)) (zoL b)
 |_=> .mk 0 ⟨[]⟩ (.mk 0 ⟨[]⟩ [] []) []
def zw1:FD→Box
 | .agg [.sl r,.sl c]=> .mk (r.map dec) (zoM c)
 |_=> .mk [] []
def zoL:List FD→List Box
 |[]=>[]
 |x::xs=>zw1 x::zoL xs
def zoM:List FD→List zal
 |[]=>[]
 |x::xs=>zw2 x::zoM xs
end
mutual
theorem zkO:∀c,zw2 (zw8 c)=c
 | .mk k n f b=>by simp only[zw8,zw2,zcu,zhk b,zae,zab]
theorem zkM:∀b,zw1 (zw7 b)=b
 | .mk r c=>by simp only[zw7,zw1,zcu,zhl c]
theorem zhk:∀b,zoL (zoT b)=b
 |[]=>rfl
 |b::bs=>by simp only[zoT,zoL,zkM b,zhk bs]
theorem zhl:∀c,zoM (zoU c)=c
 |[]=>rfl
 |c::cs=>by simp only[zoU,zoM,zkO c,zhl cs]
end
instance:Enc zal:=⟨zw8,zw2,zkO⟩
instance:Enc Box:=⟨zw7,zw1,zkM⟩
theorem zkX:∀s:List Box,zoT s=s.map enc
 |[]=>rfl
 |f::fs=>by rw[zoT,zkX fs];rfl
theorem zkY:∀s:List zal,zoU s=s.map enc
 |[]=>rfl
 |f::fs=>by rw[zoU,zkY fs];rfl
theorem zkN:∀s:List FD,zoL s=dec (α:=List Box) (.sl s)
 |[]=>rfl
 |f::fs=>by rw[zoL,zkN fs];rfl
theorem zkP:∀s:List FD,zoM s=dec (α:=List zal) (.sl s)
 |[]=>rfl
 |f::fs=>by rw[zoM,zkP fs];rfl
@[go_sem] theorem zcQ {c:zal}:enc c= .agg [.i .i64 c.kind,.s c.name.l,.i .i64 c.form.kind,.s c.form.name.l,.sl (c.form.words.map enc),.sl (c.form.subs.map enc),.sl (c.boxes.map enc)]:=by
 cases c with
 |mk k n f b=>show zw8 _=_;rw[zw8,zkX];rfl
@[go_sem] theorem zaQ {b:Box}:enc b= .agg [.sl (b.refs.map enc),.sl (b.conds.map enc)]:=by
 cases b with
 |mk r c=>show zw7 _=_;rw[zw7,zkY];rfl
@[go_sem] theorem zzU {i j k n fk fn fw fs b}:dec (α:=zal) (.agg [.i i k,.s n,.i j fk,.s fn,.sl fw,.sl fs,.sl b])= .mk k ⟨n⟩ (.mk fk ⟨fn⟩ (dec (.sl fw)) (dec (.sl fs))) (dec (.sl b)):=by
 show zw2 _=_;rw[zw2,zkN];rfl
@[go_sem] theorem zBy {r c}:dec (α:=Box) (.agg [.sl r,.sl c])= .mk (dec (.sl r)) (dec (.sl c)):=by
 show zw1 _=_;rw[zw1,zkP];rfl
instance:Kc zal 7:=⟨fun f=>by rw[zcQ];rfl⟩
instance:Kc Box 2:=⟨fun f=>by rw[zaQ];rfl⟩
@[go_sem] theorem zxL {l:List zal}:zbi (l.map enc) 7=True:=eq_true (zek l)
@[go_sem] theorem zxK {l:List Box}:zbi (l.map enc) 2=True:=eq_true (zek l)
@[go_sem] theorem zvR {l:List zal}:(zag (l.map enc)).all zcJ=true:=by
 rw[List.all_eq_true]
 intro d hd
 simp only[zag,List.mem_flatMap,List.mem_map]at hd
 obtain⟨_,⟨a,_,rfl⟩,x,hx,rfl⟩:=hd
 simp only[zcQ,FD.cells,List.mem_cons,List.not_mem_nil,or_false]at hx
 rcases hx with rfl|rfl|rfl|rfl|rfl|rfl|rfl<;>rfl
@[go_sem] theorem zvQ {l:List Box}:(zag (l.map enc)).all zcJ=true:=by
 rw[List.all_eq_true]
 intro d hd
 simp only[zag,List.mem_flatMap,List.mem_map]at hd
 obtain⟨_,⟨a,_,rfl⟩,x,hx,rfl⟩:=hd
 simp only[zaQ,FD.cells,List.mem_cons,List.not_mem_nil,or_false]at hx
 rcases hx with rfl|rfl<;>rfl
mutual
def zal.size:zal→Nat
 | .mk _ _ _ b=>Box.sizes b+1
def Box.size:Box→Nat
 | .mk _ c=>zal.sizes c+1
def Box.sizes:List Box→Nat
 |[]=>0
 |b::bs=>b.size+Box.sizes bs
def zal.sizes:List zal→Nat
 |[]=>0
 |c::cs=>c.size+zal.sizes cs
end
theorem Box.size_mem:∀{l:List Box} {f:Box},f∈l→f.size≤Box.sizes l
 |g::l,f,h=>by
  rw[Box.sizes]
  rcases List.mem_cons.1 h with rfl|h
  ·omega
  ·have:=Box.size_mem h;omega
theorem zal.size_mem:∀{l:List zal} {f:zal},f∈l→f.size≤zal.sizes l
 |g::l,f,h=>by
  rw[zal.sizes]
  rcases List.mem_cons.1 h with rfl|h
  ·omega
  ·have:=zal.size_mem h;omega
theorem Box.size_sub {b:Box}{c:zal}(h:c∈b.conds):c.size<b.size:=by
 cases b with
 |mk r cs=>rw[Box.size];have:=zal.size_mem (show c∈cs from h);omega
theorem zal.size_sub {c:zal}{b:Box}(h:b∈c.boxes):b.size<c.size:=by
 cases c with
 |mk k n f bs=>rw[zal.size];have:=Box.size_mem (show b∈bs from h);omega
def zax (k:Int):Int:=if k=1∨k=5 then 0 else if k=2∨k=6 then 1 else if k=3∨k=4 then 2 else-1
def zbJ (f:zac):Bool:=decide (f.kind=0)&&decide (f.name=⟨[]⟩)&&decide (f.words.length=0)&&decide (f.subs.length=0)
def zbb (c:zal)(refs:List Str):Int:=
 if zax c.kind<0 then 4 else if¬(c.boxes.length:Int)=zax c.kind then 9 else if c.kind≠5∧c.name≠⟨[]⟩∨0<zax c.kind∧zbJ c.form=false then 5
 else if 0<zax c.kind then 0 else if(zaL false c.form).code≠0 then(zaL false c.form).code
 else if c.kind=1∧c.form.kind≠2∧c.form.kind≠3∨c.kind=5∧(c.form.kind≠2∨c.form.words.length≠0)then 5 else if c.kind=5∧c.name∉refs then 6 else 0
def zaV:List Str→List Str→Int×List Str
 |refs,[]=>(0,refs)
 |refs,x::xs=>if zai x=false then(10,refs)else if x∈refs then(7,refs)else zaV (refs++[x]) xs
structure BS where
 e:zh9
 n:Nat
 refs:List Str
mutual
def zcm:Box→Int→Int→Nat→List Str→BS
 | .mk r cs,depth,most,n,refs=>
  if 200<n+1∨10<depth then⟨⟨1,n⟩,n+1,refs⟩
  else if most<r.length∨200<refs.length+r.length then⟨⟨2,n⟩,n+1,refs⟩
  else if(zaV refs r).1≠0 then⟨⟨(zaV refs r).1,n⟩,n+1,(zaV refs r).2⟩
  else zaI r cs depth (n+1) (zaV refs r).2
def zaI:List Str→List zal→Int→Nat→List Str→BS
 |_,[],_,n,refs=>⟨⟨0,0⟩,n,refs⟩
 |r,c::cs,depth,n,refs=>if(zb7 r c depth n refs).e.code≠0 then zb7 r c depth n refs else zaI r cs depth (zb7 r c depth n refs).n (zb7 r c depth n refs).refs
def zb7:List Str→zal→Int→Nat→List Str→BS
 |r,.mk k nm f bs,depth,n,refs=>
  if 200<n+1 then⟨⟨1,n⟩,n+1,refs⟩else if zbb (.mk k nm f bs) r≠0 then⟨⟨zbb (.mk k nm f bs) r,n⟩,n+1,refs⟩
  else zbv bs (depth+1) (if k=6 then 2 else 200) (n+1) refs
def zbv:List Box→Int→Int→Nat→List Str→BS
 |[],_,_,n,refs=>⟨⟨0,0⟩,n,refs⟩
 |b::bs,depth,most,n,refs=>if(zcm b depth most n refs).e.code≠0 then zcm b depth most n refs else zbv bs depth most (zcm b depth most n refs).n (zcm b depth most n refs).refs
end
def zcy (b:Box):zh9:=(zcm b 1 200 0 []).e
end Go.Abs

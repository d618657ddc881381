/- several texts of this proof in one; no conditions -/
import Derived.Test.YtmconmiemdinkaaGreatDoorY19
import Derived.Test.YtmconmiemdinkaaGreatDoorY18
import Derived.Test.YtmconmiemdinkaaGreatDoorY17
set_option linter.unusedSimpArgs false
namespace Go.Abs
open Go
structure txW (f:zab):Prop where
 s:shp false f
 a:zbu (fun w=>zaq w=true) f
theorem zbx {w:Str}(h:zaq w=true):(∃c r,w.l=c::r∧zkj c)∧∀c∈w.l,okc c:=by
 obtain⟨h1,_,h2,h3⟩:=of_decide_eq_true h
 constructor
 ·cases hw:w.l with
  |nil=>rw[hw]at h1;simp at h1
  |cons c r=>rw[hw]at h2;exact⟨c,r,rfl,h2⟩
 ·intro c hc
  obtain⟨j,hj,rfl⟩:=List.getElem_of_mem hc
  have:=h3 j hj
  rwa [List.getD_eq_getElem?_getD,List.getElem?_eq_getElem hj]at this
theorem zdr:∀{u v s t:List UInt8},(∀c∈u,okc c)→(∀c∈v,okc c)→(∀c r,s=c::r→¬okc c)→(∀c r,t=c::r→¬okc c)→u++s=v++t→u=v∧s=t
 |[],[],_,_,_,_,_,_,h=>⟨rfl,h⟩
 |[],c::v,s,t,_,hv,hs,_,h=>absurd (hv c (by simp)) (hs c (v++t) h)
 |c::u,[],s,t,hu,_,_,ht,h=>absurd (hu c (by simp)) (ht c (u++s) h.symm)
 |c::u,d::v,s,t,hu,hv,hs,ht,h=>by
  rw[List.cons_append,List.cons_append,List.cons.injEq]at h
  obtain⟨h1,h2⟩:=zdr (fun x hx=>hu x (List.mem_cons_of_mem _ hx)) (fun x hx=>hv x (List.mem_cons_of_mem _ hx)) hs ht h.2
  exact⟨by rw[h.1,h1],h2⟩
theorem zic {c:UInt8}(h:c=32∨c=40∨c=41∨c=44):∀d r x,c::x=d::r→¬okc d:=by
 intro d r x e
 obtain⟨rfl,_⟩:=List.cons.inj e
 rcases h with rfl|rfl|rfl|rfl<;>decide
def zyq (s:List UInt8):Prop:=∀c r,s=c::r→c=32∨c=41
theorem zyq.no {s:List UInt8}(h:zyq s):∀c r,s=c::r→¬okc c:=fun c r e=>by
 rcases h c r e with rfl|rfl<;>decide
theorem zmU:∀{ws vs:List Str} {s t:List UInt8},(∀w∈ws,zaq w=true)→(∀w∈vs,zaq w=true)→(ws.flatMap fun v=>[44]++v.l)++41::s=(vs.flatMap fun v=>[44]++v.l)++41::t→ws=vs∧s=t
 |[],[],_,_,_,_,h=>⟨rfl,(List.cons.inj h).2⟩
 |[],v::vs,_,_,_,_,h=>by simp at h
 |w::ws,[],_,_,_,_,h=>by simp at h
 |w::ws,v::vs,s,t,h1,h2,h=>by
  simp only[List.flatMap_cons,List.append_assoc,List.cons_append,List.nil_append,List.cons.injEq,true_and]at h
  have nx:∀(l:List Str) (x:List UInt8) c r,(l.flatMap fun v=>44::v.l)++41::x=c::r→¬okc c:=by
   intro l x c r e
   cases l with
   |nil=>exact zic (c:=41) (by simp) c r x e
   |cons y l=>
    simp only[List.flatMap_cons,List.cons_append]at e
    obtain⟨rfl,_⟩:=List.cons.inj e
    decide
  obtain⟨e1,e2⟩:=zdr (zbx (h1 w (by simp))).2 (zbx (h2 v (by simp))).2 (nx ws s) (nx vs t) h
  obtain⟨e3,e4⟩:=zmU (fun x hx=>h1 x (List.mem_cons_of_mem _ hx)) (fun x hx=>h2 x (List.mem_cons_of_mem _ hx)) (by simpa using e2)
  exact⟨by rw[e3,show w=v by cases w;cases v;exact congrArg Str.mk e1],e4⟩
theorem zxB {ws vs:List Str}{s t:List UInt8}(h1:∀w∈ws,zaq w=true)(h2:∀w∈vs,zaq w=true)(h:jn [44] ws++41::s=jn [44] vs++41::t):ws=vs∧s=t:=by
 have low41:∀(w:Str) (x y:List UInt8),zaq w=true→41::x≠w.l++y:=fun w x y hw e=>by
  obtain⟨⟨c,r,e1,e2⟩,_⟩:=zbx hw
  rw[e1,List.cons_append]at e
  obtain⟨rfl,_⟩:=List.cons.inj e
  exact absurd e2 (by decide)
 cases ws with
 |nil=>
  cases vs with
  |nil=>exact⟨rfl,(List.cons.inj h).2⟩
  |cons v vs=>
   rw[jn,jn,List.append_assoc]at h
   exact absurd h (low41 v _ _ (h2 v (by simp)))
 |cons w ws=>
  cases vs with
  |nil=>
   rw[jn,jn,List.append_assoc]at h
   exact absurd h.symm (low41 w _ _ (h1 w (by simp)))
  |cons v vs=>
   exact zmU h1 h2 (by
    rw[jn,jn]at h
    simp only[List.flatMap_cons,List.append_assoc,List.cons_append,List.nil_append,List.cons.injEq,true_and]at h ⊢
    exact h)
theorem zcJ {f:zab}(h:txW f):f= .mk 1 ⟨[]⟩ [] []∨(∃nm ws,f= .mk 2 nm ws []∧zaq nm=true∧∀w∈ws,zaq w=true)∨(∃a b,f= .mk 3 ⟨[]⟩ [a,b] []∧zaq a=true∧zaq b=true)∨
  (∃a,f= .mk 4 ⟨[]⟩ [] [a]∧txW a)∨(∃k a b,(k=5∨k=6∨k=7)∧f= .mk k ⟨[]⟩ [] [a,b]∧txW a∧txW b)∨(∃k nm a,(k=8∨k=9)∧f= .mk k nm [] [a]∧zaq nm=true∧txW a):=by
 obtain⟨hs,ha⟩:=h
 obtain⟨k,nm,ws,s⟩:=f
 rw[shp]at hs
 rw[zbu]at ha
 obtain⟨⟨h1,h2,h3,h4⟩,h5⟩:=hs
 obtain⟨h6,h7,h8⟩:=ha
 simp only[zae,zbg,zbJ,zaR]at h1 h2 h3 h4
 have hp:zbe false (.mk k nm ws s)=zcw k:=by unfold zbe;simp[zae]
 rw[hp]at h1
 have hw0:¬k=2→¬k=3→ws=[]:=fun e1 e2=>by
  have h2':(if k=2 then decide (ws.length≤3)else if k=3 then decide (ws.length=2)else decide (ws.length=0))=true:=h2
  rw[if_neg e1,if_neg e2]at h2'
  exact List.length_eq_zero_iff.1 (by simpa using h2')
 have hn0:¬(k=2∨k=8∨k=9∨k=10)→nm=⟨[]⟩:=fun e=>h4 (decide_eq_false e)
 have hk:k=1∨k=2∨k=3∨k=4∨(k=5∨k=6∨k=7)∨(k=8∨k=9):=by
  unfold zcw at h1
  repeat'(first|omega|split at h1)
 rcases hk with rfl|rfl|rfl|rfl|hk|hk
 ·refine .inl ?_
  rw[hw0 (by decide) (by decide),hn0 (by decide),List.length_eq_zero_iff.1 (show s.length=0 by have:zcw 1=0:=rfl;omega)]
 ·refine .inr (.inl ⟨nm,ws,?_,h3 (by unfold named;rfl) (by unfold isQ;decide),h6⟩)
  rw[List.length_eq_zero_iff.1 (show s.length=0 by have:zcw 2=0:=rfl;omega)]
 ·have e:ws.length=2:=by
   have h2':decide (ws.length=2)=true:=h2
   simpa using h2'
  match ws,e with
  |[a,b],_=>
   refine .inr (.inr (.inl ⟨a,b,?_,h6 a (by simp),h6 b (by simp)⟩))
   rw[hn0 (by decide),List.length_eq_zero_iff.1 (show s.length=0 by have:zcw 3=0:=rfl;omega)]
 ·have e:s.length=1:=by have:zcw 4=1:=rfl;omega
  match s,e with
  |[a],_=>
   rw[zdy]at h5
   rw[zaL]at h8
   refine .inr (.inr (.inr (.inl ⟨a,?_,h5.1,h8.1⟩)))
   rw[hw0 (by decide) (by decide),hn0 (by decide)]
 ·have e:s.length=2:=by have:zcw k=2:=by rcases hk with rfl|rfl|rfl<;>rfl
                        omega
  match s,e with
  |[a,b],_=>
   rw[zdy,zdy]at h5
   rw[zaL,zaL]at h8
   refine .inr (.inr (.inr (.inr (.inl ⟨k,a,b,hk,?_,⟨h5.1,h8.1⟩,⟨h5.2.1,h8.2.1⟩⟩))))
   rw[hw0 (by omega) (by omega),hn0 (by omega)]
 ·have e:s.length=1:=by have:zcw k=1:=by rcases hk with rfl|rfl<;>rfl
                        omega
  match s,e with
  |[a],_=>
   rw[zdy]at h5
   rw[zaL]at h8
   refine .inr (.inr (.inr (.inr (.inr ⟨k,nm,a,hk,?_,h7 (by unfold isQ;rcases hk with rfl|rfl<;>decide),⟨h5.1,h8.1⟩⟩))))
   rw[hw0 (by omega) (by omega)]
theorem tx1:txt (.mk 1 ⟨[]⟩ [] [])=[116,114,117,101]:=rfl
theorem tx2 {nm:Str}{ws:List Str}:txt (.mk 2 nm ws [])=nm.l++[40]++jn [44] ws++[41]:=zyt rfl
theorem tx3 {a b:Str}:txt (.mk 3 ⟨[]⟩ [a,b] [])=[40]++(a.l++[32,61,32]++b.l)++[41]:=by
 rw[zyu rfl]
 simp[zbg,zbJ,jn]
theorem tx4 {a:zab}:txt (.mk 4 ⟨[]⟩ [] [a])=45::txt a:=zvP rfl rfl
theorem tx5 {k:Int}{a b:zab}(h:k=5∨k=6∨k=7):txt (.mk k ⟨[]⟩ [] [a,b])=[40]++txt a++sgn k++txt b++[41]:=zqW h rfl
theorem tx8 {k:Int}{nm:Str}{a:zab}(h:k=8∨k=9):txt (.mk k nm [] [a])=(if k=8 then[97,108,108]else[115,111,109,101])++([32]++nm.l++[32]++txt a):=by
 rcases h with rfl|rfl
 ·rw[zvQ rfl rfl];rfl
 ·rw[zvR rfl rfl];rfl
theorem zyf {k k':Int}{x y:List UInt8}(h:k=5∨k=6∨k=7)(h':k'=5∨k'=6∨k'=7)(e:sgn k++x=sgn k'++y):k=k'∧x=y:=by
 rcases h with rfl|rfl|rfl<;>rcases h' with rfl|rfl|rfl<;>simp[sgn]at e<;>exact⟨rfl,e⟩
theorem zvO {f:zab}(h:txW f){s:List UInt8}(hs:zyq s):(∃u r,txt f++s=u++r∧(∃c x,u=c::x∧zkj c)∧(∀c∈u,okc c)∧(∀c x,r=c::x→¬okc c)∧∀x,r=32::61::x→u=[116,114,117,101]∧s=r)∨(∃x,txt f++s=40::x)∨∃x,txt f++s=45::x:=by
 rcases zcJ h with rfl|⟨nm,ws,rfl,h1,h2⟩|⟨a,b,rfl,h1,h2⟩|⟨a,rfl,h1⟩|⟨k,a,b,hk,rfl,h1,h2⟩|⟨k,nm,a,hk,rfl,h1,h2⟩
 ·exact .inl ⟨[116,114,117,101],s,by rw[tx1],⟨116,_,rfl,by decide⟩,by decide,hs.no,fun x e=>⟨rfl,rfl⟩⟩
 ·refine .inl ⟨nm.l,40::(jn [44] ws++41::s),by rw[tx2];simp,(zbx h1).1,(zbx h1).2,fun c x e=>zic (c:=40) (by simp) c x _ e,fun x e=>?_⟩
  ·exact absurd (List.cons.inj e).1 (by decide)
 ·exact .inr (.inl ⟨a.l++[32,61,32]++b.l++[41]++s,by rw[tx3];simp⟩)
 ·exact .inr (.inr ⟨txt a++s,by rw[tx4];rfl⟩)
 ·exact .inr (.inl ⟨txt a++sgn k++txt b++[41]++s,by rw[tx5 hk];simp⟩)
 ·refine .inl ⟨if k=8 then[97,108,108]else[115,111,109,101],32::(nm.l++(32::(txt a++s))),by rw[tx8 hk];simp,?_,?_,fun c x e=>zic (c:=32) (by simp) c x _ e,fun x e=>?_⟩
  ·rcases hk with rfl|rfl
   ·exact⟨97,_,rfl,by decide⟩
   ·exact⟨115,_,rfl,by decide⟩
  ·rcases hk with rfl|rfl<;>decide
  ·obtain⟨⟨c,r,e1,e2⟩,_⟩:=zbx h1
   rw[e1]at e
   have e3:=(List.cons.inj (List.cons.inj e).2).1
   subst e3
   exact absurd e2 (by decide)
theorem zwz {a:zab}(h:txW a){w:Str}(hw:zaq w=true){c:UInt8}(hc:c≠61){R R':List UInt8}:txt a++32::c::R≠w.l++32::61::R':=fun e=>by
 obtain⟨⟨d,z,e1,e2⟩,hok⟩:=zbx hw
 rcases zvO h (s:=32::c::R) (fun c r e=> .inl (List.cons.inj e).1.symm)with⟨u,r,h1,_,h3,h4,h5⟩|⟨x,h1⟩|⟨x,h1⟩
 ·rw[h1]at e
  obtain⟨_,k2⟩:=zdr h3 hok h4 (fun c x e=>zic (c:=32) (by simp) c x _ e) e
  obtain⟨_,k3⟩:=h5 _ k2
  rw[k2]at k3
  exact hc (List.cons.inj (List.cons.inj k3).2).1
 ·rw[h1,e1,List.cons_append]at e
  rw[←(List.cons.inj e).1]at e2
  exact absurd e2 (by decide)
 ·rw[h1,e1,List.cons_append]at e
  rw[←(List.cons.inj e).1]at e2
  exact absurd e2 (by decide)
theorem zkI {k:Int}(h:k=5∨k=6∨k=7):∃c x,sgn k=32::c::x∧c≠61:=by
 rcases h with rfl|rfl|rfl
 ·exact⟨38,_,rfl,by decide⟩
 ·exact⟨124,_,rfl,by decide⟩
 ·exact⟨62,_,rfl,by decide⟩
theorem zwH {k:Int}(h:k=5∨k=6∨k=7){x:List UInt8}:zyq (sgn k++x):=fun c r e=>by
 obtain⟨d,y,e1,_⟩:=zkI h
 rw[e1]at e
 exact .inl (List.cons.inj e).1.symm
theorem zgl {w:Str}(hw:zaq w=true){x y:List UInt8}{c:UInt8}(hc:¬zkj c):w.l++x≠c::y:=fun e=>by
 obtain⟨⟨d,z,e1,e2⟩,_⟩:=zbx hw
 rw[e1,List.cons_append]at e
 rw[(List.cons.inj e).1]at e2
 exact hc e2
theorem zo8 {a b:Str}(h:a.l=b.l):a=b:=by cases a;cases b;exact congrArg Str.mk h
def qw (k:Int):List UInt8:=if k=8 then[97,108,108]else[115,111,109,101]
theorem zqA {k:Int}(h:k=8∨k=9):∀c∈qw k,okc c:=by rcases h with rfl|rfl<;>decide
theorem zrf {k:Int}{nm:Str}{a:zab}{s:List UInt8}(h:k=8∨k=9):txt (.mk k nm [] [a])++s=qw k++32::(nm.l++32::(txt a++s)):=by rw[tx8 h];simp[qw]
theorem zra {s:List UInt8}:txt (.mk 1 ⟨[]⟩ [] [])++s=[116,114,117,101]++s:=rfl
theorem zrb {nm:Str}{ws:List Str}{s:List UInt8}:txt (.mk 2 nm ws [])++s=nm.l++40::(jn [44] ws++41::s):=by rw[tx2];simp
theorem zrc {a b:Str}{s:List UInt8}:txt (.mk 3 ⟨[]⟩ [a,b] [])++s=40::(a.l++32::61::(32::(b.l++41::s))):=by rw[tx3];simp
theorem zrd {a:zab}{s:List UInt8}:txt (.mk 4 ⟨[]⟩ [] [a])++s=45::(txt a++s):=by rw[tx4];rfl
theorem zre {k:Int}{a b:zab}{s:List UInt8}(h:k=5∨k=6∨k=7):txt (.mk k ⟨[]⟩ [] [a,b])++s=40::(txt a++(sgn k++(txt b++41::s))):=by rw[tx5 h];simp
theorem zkp:∀c∈([116,114,117,101]:List UInt8),okc c:=by decide
theorem n40 {x:List UInt8}:∀c r,40::x=c::r→¬okc c:=fun c r e=>zic (c:=40) (by simp) c r x e
theorem n32 {x:List UInt8}:∀c r,32::x=c::r→¬okc c:=fun c r e=>zic (c:=32) (by simp) c r x e
theorem n41 {x:List UInt8}:∀c r,41::x=c::r→¬okc c:=fun c r e=>zic (c:=41) (by simp) c r x e
theorem zHh {x:List UInt8}:zyq (41::x):=fun _ _ e=> .inr (List.cons.inj e).1.symm
theorem zqz {k:Int}(h:k=8∨k=9){c:UInt8}(hc:c=40∨c=45){x y:List UInt8}:qw k++x≠c::y:=by
 rcases h with rfl|rfl<;>rcases hc with rfl|rfl<;>simp[qw]
theorem ztw {k:Int}(h:k=8∨k=9):[116,114,117,101]≠qw k:=by rcases h with rfl|rfl<;>decide
theorem zBp {k k':Int}(h:k=8∨k=9)(h':k'=8∨k'=9)(e:qw k=qw k'):k=k':=by
 rcases h with rfl|rfl<;>rcases h' with rfl|rfl<;>first|rfl|exact absurd e (by decide)
theorem zyv:∀(n:Nat) {f g:zab} {s t:List UInt8},f.size≤n→txW f→txW g→zyq s→zyq t→txt f++s=txt g++t→f=g∧s=t:=by
 intro n
 induction n with
 |zero=>intro f g s t hn;have:=f.size_pos;omega
 |succ n ih=>
  intro f g s t hn hf hg hs ht e
  rcases zcJ hf with rfl|⟨nm,ws,rfl,h1,h2⟩|⟨a,b,rfl,h1,h2⟩|⟨a,rfl,h1⟩|⟨k,a,b,hk,rfl,h1,h2⟩|⟨k,nm,a,hk,rfl,h1,h2⟩<;>
   rcases zcJ hg with rfl|⟨nm',ws',rfl,h1',h2'⟩|⟨a',b',rfl,h1',h2'⟩|⟨a',rfl,h1'⟩|⟨k',a',b',hk',rfl,h1',h2'⟩|⟨k',nm',a',hk',rfl,h1',h2'⟩
  ·rw[zra,zra]at e;exact⟨rfl,List.append_cancel_left e⟩
  ·rw[zra,zrb]at e
   have:=(zdr zkp (zbx h1').2 hs.no n40 e).2
   rcases hs _ _ this with h|h<;>exact absurd h (by decide)
  ·rw[zra,zrc]at e;exact absurd (List.cons.inj e).1 (by decide)
  ·rw[zra,zrd]at e;exact absurd (List.cons.inj e).1 (by decide)
  ·rw[zra,zre hk']at e;exact absurd (List.cons.inj e).1 (by decide)
  ·rw[zra,zrf hk']at e
   exact absurd (zdr zkp (zqA hk') hs.no n32 e).1 (ztw hk')
  ·rw[zrb,zra]at e
   have:=(zdr (zbx h1).2 zkp n40 ht.no e).2.symm
   rcases ht _ _ this with h|h<;>exact absurd h (by decide)
  ·rw[zrb,zrb]at e
   obtain⟨e1,e2⟩:=zdr (zbx h1).2 (zbx h1').2 n40 n40 e
   obtain⟨e3,e4⟩:=zxB h2 h2' (List.cons.inj e2).2
   rw[zo8 e1,e3];exact⟨rfl,e4⟩
  ·rw[zrb,zrc]at e;exact absurd e (zgl h1 (by decide))
  ·rw[zrb,zrd]at e;exact absurd e (zgl h1 (by decide))
  ·rw[zrb,zre hk']at e;exact absurd e (zgl h1 (by decide))
  ·rw[zrb,zrf hk']at e
   have:=(zdr (zbx h1).2 (zqA hk') n40 n32 e).2
   exact absurd (List.cons.inj this).1 (by decide)
  ·rw[zrc,zra]at e;exact absurd (List.cons.inj e).1 (by decide)
  ·rw[zrc,zrb]at e;exact absurd e.symm (zgl h1' (by decide))
  ·rw[zrc,zrc]at e
   obtain⟨e1,e2⟩:=zdr (zbx h1).2 (zbx h1').2 n32 n32 (List.cons.inj e).2
   have e3:=(List.cons.inj (List.cons.inj (List.cons.inj e2).2).2).2
   obtain⟨e4,e5⟩:=zdr (zbx h2).2 (zbx h2').2 n41 n41 e3
   rw[zo8 e1,zo8 e4];exact⟨rfl,(List.cons.inj e5).2⟩
  ·rw[zrc,zrd]at e;exact absurd (List.cons.inj e).1 (by decide)
  ·rw[zrc,zre hk']at e
   obtain⟨c,x,e1,e2⟩:=zkI hk'
   have e3:=(List.cons.inj e).2
   rw[e1,List.cons_append,List.cons_append]at e3
   exact absurd e3.symm (zwz h1' h1 e2)
  ·rw[zrc,zrf hk']at e;exact absurd e.symm (zqz hk' (.inl rfl))
  ·rw[zrd,zra]at e;exact absurd (List.cons.inj e).1 (by decide)
  ·rw[zrd,zrb]at e;exact absurd e.symm (zgl h1' (by decide))
  ·rw[zrd,zrc]at e;exact absurd (List.cons.inj e).1 (by decide)
  ·rw[zrd,zrd]at e
   simp only[zab.size,zab.sizes]at hn
   obtain⟨e1,e2⟩:=ih (by omega) h1 h1' hs ht (List.cons.inj e).2
   rw[e1];exact⟨rfl,e2⟩
  ·rw[zrd,zre hk']at e;exact absurd (List.cons.inj e).1 (by decide)
  ·rw[zrd,zrf hk']at e;exact absurd e.symm (zqz hk' (.inr rfl))
  ·rw[zre hk,zra]at e;exact absurd (List.cons.inj e).1 (by decide)
  ·rw[zre hk,zrb]at e;exact absurd e.symm (zgl h1' (by decide))
  ·rw[zre hk,zrc]at e
   obtain⟨c,x,e1,e2⟩:=zkI hk
   have e3:=(List.cons.inj e).2
   rw[e1,List.cons_append,List.cons_append]at e3
   exact absurd e3 (zwz h1 h1' e2)
  ·rw[zre hk,zrd]at e;exact absurd (List.cons.inj e).1 (by decide)
  ·rw[zre hk,zre hk']at e
   simp only[zab.size,zab.sizes]at hn
   obtain⟨e1,e2⟩:=ih (by omega) h1 h1' (zwH hk) (zwH hk') (List.cons.inj e).2
   obtain⟨e3,e4⟩:=zyf hk hk' e2
   obtain⟨e5,e6⟩:=ih (by omega) h2 h2' zHh zHh e4
   rw[e1,e3,e5];exact⟨rfl,(List.cons.inj e6).2⟩
  ·rw[zre hk,zrf hk']at e;exact absurd e.symm (zqz hk' (.inl rfl))
  ·rw[zrf hk,zra]at e
   exact absurd (zdr (zqA hk) zkp n32 ht.no e).1.symm (ztw hk)
  ·rw[zrf hk,zrb]at e
   have:=(zdr (zqA hk) (zbx h1').2 n32 n40 e).2
   exact absurd (List.cons.inj this).1 (by decide)
  ·rw[zrf hk,zrc]at e;exact absurd e (zqz hk (.inl rfl))
  ·rw[zrf hk,zrd]at e;exact absurd e (zqz hk (.inr rfl))
  ·rw[zrf hk,zre hk']at e;exact absurd e (zqz hk (.inl rfl))
  ·rw[zrf hk,zrf hk']at e
   simp only[zab.size,zab.sizes]at hn
   obtain⟨e1,e2⟩:=zdr (zqA hk) (zqA hk') n32 n32 e
   obtain⟨e3,e4⟩:=zdr (zbx h1).2 (zbx h1').2 n32 n32 (List.cons.inj e2).2
   obtain⟨e5,e6⟩:=ih (by omega) h2 h2' hs ht (List.cons.inj e4).2
   rw[zBp hk hk' e1,zo8 e3,e5];exact⟨rfl,e6⟩
theorem zn4 {f g:zab}(hf:txW f)(hg:txW g)(h:txt f=txt g):f=g:=
 (zyv f.size (Nat.le_refl _) hf hg (s:=[]) (t:=[]) (fun _ _ e=>by cases e) (fun _ _ e=>by cases e) (by rw[h])).1
mutual
def nam:zab→Prop
 | .mk k nm _ s=>(k=3→nm.l=[])∧zq7 s
def zq7:List zab→Prop
 |[]=>True
 |f::fs=>nam f∧zq7 fs
end
theorem zcA:∀l:List zab,zq7 l↔∀f∈l,nam f
 |[]=>by rw[zq7];simp
 |f::l=>by rw[zq7,zcA l];simp
theorem zBg {f:zab}:nam f↔(f.kind=3→f.name.l=[])∧zq7 f.subs:=by
 cases f;rw[nam];rfl
structure txQ (f:zab):Prop where
 p:txP f
 n:nam f
end Go.Abs
namespace Go.Abs
open Go
def zt1 (l:List zab):Prop:=l.Pairwise fun a b=>txt a<txt b
theorem zvD {a b:List zab}(ha:zt1 a)(hb:zt1 b)(hw:∀x∈a,txW x)(h:∀x,x∈a↔x∈b):a=b:=by
 have h1:a.map txS=b.map txS:=by
  refine ztn ?_ ?_ fun x=>?_
  ·unfold zt0;rw[List.pairwise_map];exact ha
  ·unfold zt0;rw[List.pairwise_map];exact hb
  ·simp only[List.mem_map]
   exact⟨fun⟨y,hy,e⟩=>⟨y,(h y).1 hy,e⟩,fun⟨y,hy,e⟩=>⟨y,(h y).2 hy,e⟩⟩
 have hl:a.length=b.length:=by have:=congrArg List.length h1;simpa using this
 refine List.ext_getElem hl fun i hi hj=>?_
 have h2:(a.map txS)[i]?=(b.map txS)[i]?:=by rw[h1]
 rw[List.getElem?_map,List.getElem?_map,List.getElem?_eq_getElem hi,List.getElem?_eq_getElem hj]at h2
 have h3:txt a[i]=txt b[i]:=congrArg Str.l (Option.some.inj h2)
 exact zn4 (hw _ (List.getElem_mem hi)) (hw _ ((h _).2 (List.getElem_mem hj))) h3
def zqn (f:zab):List zab→List zab
 |[]=>[f]
 |g::l=>if txt f<txt g then f::g::l else if txt f=txt g then g::l else g::zqn f l
def ziN (l:List zab):List zab:=l.foldr zqn []
theorem zkk {f:zab}(hf:txW f):∀{l:List zab},(∀x∈l,txW x)→∀x,x∈zqn f l↔x=f∨x∈l
 |[],_,x=>by simp[zqn]
 |g::l,hl,x=>by
  rw[zqn]
  split
  ·simp
  ·split
   ·rename_i e
    rw[zn4 hf (hl g (by simp)) e];simp
   ·rw[List.mem_cons,zkk hf (fun y hy=>hl y (by simp[hy]))]
    simp only[List.mem_cons]
    constructor
    ·rintro(h|h|h)<;>simp[h]
    ·rintro(h|h|h)<;>simp[h]
theorem zo7 {f:zab}(hf:txW f):∀{l:List zab},(∀x∈l,txW x)→zt1 l→zt1 (zqn f l)
 |[],_,_=>by unfold zt1 zqn;simp
 |g::l,hl,h=>by
  have h':=List.pairwise_cons.1 h
  rw[zqn]
  split
  ·rename_i hlt
   refine List.pairwise_cons.2 ⟨fun y hy=>?_,h⟩
   rcases List.mem_cons.1 hy with rfl|hy
   ·exact hlt
   ·exact zeM hlt (h'.1 y hy)
  ·rename_i hlt
   split
   ·exact h
   ·rename_i hne
    have hl':∀x∈l,txW x:=fun y hy=>hl y (by simp[hy])
    refine List.pairwise_cons.2 ⟨fun y hy=>?_,zo7 hf hl' h'.2⟩
    rcases(zkk hf hl' y).1 hy with rfl|hy
    ·exact zlb hlt hne
    ·exact h'.1 y hy
theorem zkL:∀{l:List zab},(∀x∈l,txW x)→zt1 (ziN l)∧∀x,x∈ziN l↔x∈l
 |[],_=>⟨List.Pairwise.nil,fun x=>Iff.rfl⟩
 |f::l,h=>by
  obtain⟨h1,h2⟩:=zkL (l:=l) fun y hy=>h y (by simp[hy])
  have hw:∀x∈ziN l,txW x:=fun y hy=>h y (by simp[(h2 y).1 hy])
  refine⟨zo7 (h f (by simp)) hw h1,fun x=>?_⟩
  show x∈zqn f (ziN l)↔_
  rw[zkk (h f (by simp)) hw,h2];simp
theorem zvz {l a:List zab}(hl:∀x∈l,txW x)(ha:zt1 a)(h:∀x,x∈a↔x∈l):a=ziN l:=by
 obtain⟨h1,h2⟩:=zkL hl
 exact zvD ha h1 (fun x hx=>hl x ((h x).1 hx)) fun x=>(h x).trans (h2 x).symm
def dd (l:List zab):Nat→List zab
 |0=>[]
 |1=>l.take 1
 |i+2=>if l[i+1]?=l[i]? then dd l (i+1)else dd l (i+1)++l[i+1]?.toList
def znm (l:List zab):List zab:=dd l l.length
theorem zw6 {l:List zab}{i:Nat}(h:i+1<l.length)(e:l[i+1]=l[i]):dd l (i+2)=dd l (i+1):=by
 rw[dd,if_pos (by rw[List.getElem?_eq_getElem h,List.getElem?_eq_getElem (by omega),e])]
theorem zw7 {l:List zab}{i:Nat}(h:i+1<l.length)(e:l[i+1]≠l[i]):dd l (i+2)=dd l (i+1)++[l[i+1]]:=by
 rw[dd,if_neg (by rw[List.getElem?_eq_getElem h,List.getElem?_eq_getElem (by omega)];intro e2;exact e (Option.some.inj e2)),List.getElem?_eq_getElem h];rfl
theorem zz5 {l:List zab}(hw:∀x∈l,txW x)(hs:l.Pairwise fun a b=>¬txt b<txt a):∀i (h:i<l.length),∃A,dd l (i+1)=A++[l[i]]∧zt1 (A++[l[i]])∧∀x,x∈A++[l[i]]↔x∈l.take (i+1)
 |0,h=>by
  refine⟨[],?_,by unfold zt1;simp,?_⟩
  ·rw[dd,List.take_succ_eq_append_getElem h];rfl
  ·intro x;rw[List.take_succ_eq_append_getElem h];rfl
 |i+1,h=>by
  obtain⟨A,h1,h2,h3⟩:=zz5 hw hs i (by omega)
  by_cases e:l[i+1]=l[i]
  ·refine⟨A,by rw[zw6 h e,h1,e],by rw[e];exact h2,fun x=>?_⟩
   rw[e,h3,List.take_succ_eq_append_getElem h,e,List.mem_append,List.mem_singleton]
   refine⟨.inl,?_⟩
   rintro(h4|rfl)
   ·exact h4
   ·have h5:i<l.length:=by omega
    rw[List.take_succ_eq_append_getElem h5];exact List.mem_append_right _ (List.mem_singleton.2 rfl)
  ·have hlt:txt l[i]<txt l[i+1]:=by
    have h4:=List.pairwise_iff_getElem.1 hs i (i+1) (by omega) h (by omega)
    exact zlb h4 fun e2=>e (zn4 (hw _ (List.getElem_mem h)) (hw _ (List.getElem_mem _)) e2)
   refine⟨dd l (i+1),zw7 h e,?_,fun x=>?_⟩
   ·rw[h1]
    refine List.pairwise_append.2 ⟨h2,by simp,fun a ha b hb=>?_⟩
    rw[List.mem_singleton]at hb
    subst hb
    rcases List.mem_append.1 ha with h5|h5
    ·have:=(List.pairwise_append.1 h2).2.2 a h5 l[i] (by simp)
     exact zeM this hlt
    ·rw[List.mem_singleton]at h5;rw[h5];exact hlt
   ·rw[List.take_succ_eq_append_getElem h,h1,List.mem_append,h3,List.mem_append]
theorem zw8 {l:List zab}(hw:∀x∈l,txW x)(hs:l.Pairwise fun a b=>¬txt b<txt a):zt1 (znm l)∧∀x,x∈znm l↔x∈l:=by
 unfold znm
 cases hl:l.length with
 |zero=>rw[List.length_eq_zero_iff.1 hl];exact⟨List.Pairwise.nil,fun x=>Iff.rfl⟩
 |succ n=>
  obtain⟨A,h1,h2,h3⟩:=zz5 hw hs n (by omega)
  rw[h1]
  refine⟨h2,fun x=>?_⟩
  rw[h3,List.take_of_length_le (by omega)]
theorem zrW {l S:List zab}(hw:∀x∈l,txW x)(hp:S.Perm l)(hs:S.Pairwise fun a b=>¬txt b<txt a):znm S=ziN l:=by
 obtain⟨h1,h2⟩:=zw8 (fun x hx=>hw x (hp.mem_iff.1 hx)) hs
 exact zvz hw h1 fun x=>(h2 x).trans hp.mem_iff
theorem zdH {w:Str}(h:zaq w=true):w.l.length≤30:=(of_decide_eq_true h).2.1
theorem zxC {k:Nat}(sep:List UInt8)(hk:sep.length≤k):∀{ws:List Str},(∀w∈ws,zaq w=true)→(jn sep ws).length≤ws.length*(30+k)
 |[],_=>by simp[jn]
 |w::ws,h=>by
  have key:∀vs:List Str,(∀w∈vs,zaq w=true)→(vs.flatMap fun v=>sep++v.l).length≤vs.length*(30+k):=by
   intro vs
   induction vs with
   |nil=>intro _;simp
   |cons v vs ih=>
    intro hv
    have h1:=ih fun x hx=>hv x (by simp[hx])
    have h2:=zdH (hv v (by simp))
    rw[List.flatMap_cons,List.length_append,List.length_append,List.length_cons,Nat.add_mul];omega
  have h1:=key ws fun x hx=>h x (by simp[hx])
  have h2:=zdH (h w (by simp))
  rw[jn,List.length_append,List.length_cons,Nat.add_mul];omega
theorem zyr:∀(n:Nat) {f:zab},f.size≤n→txW f→(txt f).length≤200*f.size:=by
 intro n
 induction n with
 |zero=>intro f hn;have:=f.size_pos;omega
 |succ n ih=>
  intro f hn hf
  have hw3:∀{nm:Str} {ws:List Str},shp false (.mk 2 nm ws [])→ws.length≤3:=fun h=>by
   rw[shp]at h
   have h2:decide (_≤3)=true:=h.1.2.1
   exact of_decide_eq_true h2
  rcases zcJ hf with rfl|⟨nm,ws,rfl,h1,h2⟩|⟨a,b,rfl,h1,h2⟩|⟨a,rfl,h1⟩|⟨k,a,b,hk,rfl,h1,h2⟩|⟨k,nm,a,hk,rfl,h1,h2⟩
  ·rw[tx1];simp only[zab.size,zab.sizes,List.length_cons,List.length_nil];omega
  ·have h3:=hw3 hf.s
   have h4:=zxC (k:=1) [44] (by simp) h2
   have h5:=zdH h1
   rw[tx2];simp only[zab.size,zab.sizes,List.length_append,List.length_cons,List.length_nil];omega
  ·have h3:=zdH h1
   have h4:=zdH h2
   rw[tx3];simp only[zab.size,zab.sizes,List.length_append,List.length_cons,List.length_nil];omega
  ·simp only[zab.size,zab.sizes]at hn
   have h3:=ih (by omega) h1
   rw[tx4];simp only[zab.size,zab.sizes,List.length_append,List.length_cons,List.length_nil];omega
  ·simp only[zab.size,zab.sizes]at hn
   have h3:=ih (by omega) h1
   have h4:=ih (by omega) h2
   have h5:(sgn k).length=3:=by rcases hk with rfl|rfl|rfl<;>rfl
   rw[tx5 hk];simp only[zab.size,zab.sizes,List.length_append,List.length_cons,List.length_nil,h5];omega
  ·simp only[zab.size,zab.sizes]at hn
   have h3:=ih (by omega) h2
   have h4:=zdH h1
   have h5:(if k=8 then([97,108,108]:List UInt8)else[115,111,109,101]).length≤4:=by split<;>simp
   rw[tx8 hk];simp only[zab.size,zab.sizes,List.length_append,List.length_cons,List.length_nil];omega
theorem zys:∀(n:Nat) {f:zab},f.size≤n→txW f→vok f∧nam f:=by
 intro n
 induction n with
 |zero=>intro f hn;have:=f.size_pos;omega
 |succ n ih=>
  intro f hn hf
  have hw3:∀{nm:Str} {ws:List Str},shp false (.mk 2 nm ws [])→ws.length≤3:=fun h=>by
   rw[shp]at h
   have h2:decide (_≤3)=true:=h.1.2.1
   exact of_decide_eq_true h2
  rcases zcJ hf with rfl|⟨nm,ws,rfl,h1,h2⟩|⟨a,b,rfl,h1,h2⟩|⟨a,rfl,h1⟩|⟨k,a,b,hk,rfl,h1,h2⟩|⟨k,nm,a,hk,rfl,h1,h2⟩
  ·simp[vok,zgX,nam,zq7]
  ·have:=hw3 hf.s
   simp[vok,zgX,nam,zq7,this]
  ·simp[vok,zgX,nam,zq7]
  ·simp only[zab.size,zab.sizes]at hn
   obtain⟨h3,h4⟩:=ih (by omega) h1
   simp[vok,zgX,nam,zq7,h3,h4]
  ·simp only[zab.size,zab.sizes]at hn
   obtain⟨h3,h4⟩:=ih (by omega) h1
   obtain⟨h5,h6⟩:=ih (by omega) h2
   rcases hk with rfl|rfl|rfl<;>simp[vok,zgX,nam,zq7,h3,h4,h5,h6]
  ·simp only[zab.size,zab.sizes]at hn
   obtain⟨h3,h4⟩:=ih (by omega) h2
   rcases hk with rfl|rfl<;>simp[vok,zgX,nam,zq7,h3,h4]
theorem zFl {f:zab}(h:txW f)(hf:f.fit=true)(hs:f.size≤200):txQ f∧(txt f).length≤1000000:=by
 have h1:=zyr f.size (Nat.le_refl _) h
 obtain⟨h2,h3⟩:=zys f.size (Nat.le_refl _) h
 exact⟨⟨⟨h2,hf,by omega⟩,h3⟩,by omega⟩
mutual
theorem zjs {g:Str→zab}:∀f:zab,shp true f→(∀h∈zas f,shp false (g h))→shp false (zbI g f)
 | .mk k nm ws s,hf,h=>by
  rw[zas]at h
  rw[zbI]
  split
  ·rename_i hk;rw[if_pos hk]at h;exact h nm (by simp)
  ·rename_i hk
   rw[if_neg hk]at h
   rw[shp]at hf ⊢
   obtain⟨⟨h1,h2,h3,h4⟩,h5⟩:=hf
   refine⟨⟨?_,h2,h3,h4⟩,zit s h5 h⟩
   have e1:zbe true (.mk k nm ws s)=zcw k:=if_neg fun hh=>hk hh.1
   have e2:zbe false (.mk k nm ws (za0 g s))=zcw k:=if_neg fun hh=>by cases hh.2
   rw[e1]at h1
   rw[e2,←h1,zaR,zaR,zd1,List.length_map]
theorem zit {g:Str→zab}:∀fs:List zab,zdy true fs→(∀h∈zaG fs,shp false (g h))→zdy false (za0 g fs)
 |[],_,_=>by rw[za0,zdy];trivial
 |f::fs,hf,h=>by
  rw[zaG]at h
  rw[zdy]at hf
  rw[za0,zdy]
  exact⟨zjs f hf.1 fun x hx=>h x (List.mem_append_left _ hx),zit fs hf.2 fun x hx=>h x (List.mem_append_right _ hx)⟩
end
mutual
theorem ziq {p:Str→Prop}{g:Str→zab}:∀f:zab,zbu p f→(∀h∈zas f,zbu p (g h))→zbu p (zbI g f)
 | .mk k nm ws s,hf,h=>by
  rw[zas]at h
  rw[zbI]
  split
  ·rename_i hk;rw[if_pos hk]at h;exact h nm (by simp)
  ·rename_i hk
   rw[if_neg hk]at h
   rw[zbu]at hf ⊢
   exact⟨hf.1,hf.2.1,zgS s hf.2.2 h⟩
theorem zgS {p:Str→Prop}{g:Str→zab}:∀fs:List zab,zaL p fs→(∀h∈zaG fs,zbu p (g h))→zaL p (za0 g fs)
 |[],_,_=>by rw[za0,zaL];trivial
 |f::fs,hf,h=>by
  rw[zaG]at h
  rw[zaL]at hf
  rw[za0,zaL]
  exact⟨ziq f hf.1 fun x hx=>h x (List.mem_append_left _ hx),zgS fs hf.2 fun x hx=>h x (List.mem_append_right _ hx)⟩
end
section
variable {s:zao} {l:List Nat}
theorem zlQ (hs:zg9 s){i:Nat}(hi:i<nP s):(zaX true (zbH s i)).code=0:=by
 unfold zbH
 unfold nP at hi
 rw[List.getElem?_eq_getElem hi]
 exact hs.chk _ (List.getElem_mem hi)
theorem zmi (hs:zg9 s)(h:okL s l):∀(f i:Nat),i<nP s→(∀j,j<nP s→upP (zm1 s l) f j≠some i)→txW (zb2 s l f i)
 |0,i,hi,hn=>absurd rfl (hn i hi)
 |f+1,i,hi,hn=>by
  have hk:=zlQ hs hi
  have ih:∀x∈zas (zbH s i),txW (zb2 s l f (inP s l x)):=fun x hx=>by
   rw[←zbQ]at hx
   have hc:inP s l x∈zbc s l i:=List.mem_map_of_mem hx
   obtain⟨hcn,hp⟩:=(h.g.k i _ hi).1 hc
   exact zmi hs h f _ hcn fun j hj hu=>hn j hj (by rw[zcl,hu];exact hp)
  rw[zb2]
  exact⟨zjs _ (zeO hk) fun x hx=>(ih x hx).s,ziq _ (zdR hk) fun x hx=>(ih x hx).a⟩
theorem ztM (hs:zg9 s)(h:okL s l)(ht:zcX s l=true):txW (zcS s l):=
 zmi hs h _ _ h.t.1 fun _ hj=>zeV h.p (zeH ht) h.t.1 hj
def zha (s:zao)(l:List Nat):zab:=zat (zcS s l) []
theorem zoX (hs:zg9 s)(h:okL s l)(ht:zcX s l=true):txW (zha s l):=by
 have h1:=ztM hs h ht
 have h2:=zdJ (l:=l) hs (nP s+1) (zeG (nP s) l)
 exact⟨zkw _ _ [] 0 h1.s,zhD h2 (zde hs h ht) fun x hx=>zhe _ [] x h1.a hx⟩
theorem zBs (hs:zg9 s)(h:okL s l)(ht:zcX s l=true):txQ (zha s l)∧(txt (zha s l)).length≤1000000:=
 zFl (zoX hs h ht) (by unfold zha;rw[zgc];exact zdJ hs _ _) (by unfold zha;rw[zc4];exact zde hs h ht)
def zcd (s:zao):List zab:=(zda s).map (zha s)
def zcV (s:zao):List zab:=ziN (zcd s)
theorem znS (hs:zg9 s){l:List Nat}(h:l∈zda s):okL s l∧zcX s l=true∧okS s l=true:=by
 obtain⟨h1,h2,h3,h4,h5⟩:=zl9.1 h
 have h6:=h5
 unfold okS at h6
 simp only[Bool.and_eq_true]at h6
 exact⟨zwB hs h1 h2 h3 h4,h6.1.1,h5⟩
theorem zlR (hs:zg9 s):∀x∈zcd s,txW x:=fun x hx=>by
 obtain⟨l,hl,rfl⟩:=List.mem_map.1 hx
 obtain⟨h1,h2,_⟩:=znS hs hl
 exact zoX hs h1 h2
theorem zsN (hs:zg9 s){x:zab}:x∈zcV s↔∃l∈zda s,x=zha s l:=by
 unfold zcV
 rw[(zkL (zlR hs)).2]
 unfold zcd
 simp only[List.mem_map]
 exact⟨fun⟨l,h,e⟩=>⟨l,h,e.symm⟩,fun⟨l,h,e⟩=>⟨l,h,e.symm⟩⟩
end
end Go.Abs
namespace Go.Abs
open Go
mutual
def pnM:zab→List Str
 | .mk k nm _ s=>(if k=2 then[nm]else[])++zMA s
def zMA:List zab→List Str
 |[]=>[]
 |f::fs=>pnM f++zMA fs
end
theorem zME:∀l:List zab,zMA l=l.flatMap pnM
 |[]=>by rw[zMA];rfl
 |f::l=>by rw[zMA,zME l];rfl
theorem zNg {f:zab}:pnM f=(if f.kind=2 then[f.name]else[])++zMA f.subs:=by cases f;rw[pnM];rfl
def zMt (f:zab)(l:List Str):List Str:=(pnM f).foldl zhm l
theorem zMY {f:zab}{l:List Str}:zMt f l=f.subs.foldl (fun l x=>zMt x l) (if f.kind=2 then zhm l f.name else l):=by
 unfold zMt
 rw[zNg,List.foldl_append,zME]
 have key:∀(fs:List zab) (o:List Str),(fs.flatMap pnM).foldl zhm o=fs.foldl (fun l x=>(pnM x).foldl zhm l) o:=by
  intro fs
  induction fs with
  |nil=>intro o;rfl
  |cons x fs ih=>intro o;rw[List.flatMap_cons,List.foldl_append,ih,List.foldl_cons]
 rw[key]
 split<;>rfl
mutual
theorem zMX:∀f:zab,(pnM f).length≤f.size
 | .mk k nm ws s=>by
  have:=zMM s
  rw[pnM,zab.size,List.length_append]
  split
  ·simp only[List.length_cons,List.length_nil];omega
  ·simp only[List.length_nil];omega
theorem zMM:∀fs:List zab,(zMA fs).length≤zab.sizes fs
 |[]=>by rw[zMA,zab.sizes];simp
 |f::fs=>by
  have:=zMX f
  have:=zMM fs
  rw[zMA,zab.sizes,List.length_append];omega
end
theorem zMB {f:zab}{l:List Str}:(zMt f l).length≤l.length+f.size:=by
 unfold zMt
 have h1:=zMO (pnM f) l
 have h2:=zMX f
 omega
mutual
theorem zM3 (g:Nat→Str×Nat):∀(f:zab) (env:List za8) (n:Nat),pnM (ren g f env n).1=pnM f
 | .mk k nm ws s,env,n=>by
  rw[ren]
  split
  ·rename_i hq
   have hk:¬k=2:=by rcases hq with e|e<;>omega
   rw[pnM,pnM,if_neg hk,if_neg hk,zMJ g s]
  ·rw[pnM,pnM,zMJ g s]
theorem zMJ (g:Nat→Str×Nat):∀(fs:List zab) (env:List za8) (n:Nat),zMA (za5 g fs env n).1=zMA fs
 |[],env,n=>by rw[za5]
 |f::fs,env,n=>by rw[za5,zMA,zMA,zM3 g f,zMJ g fs]
end
mutual
theorem zMN {g:Str→zab}{x:Str}:∀f:zab,shp true f→(x∈pnM (zbI g f)↔x∈pnM f∨∃h∈zas f,x∈pnM (g h))
 | .mk k nm ws s,hf=>by
  rw[shp]at hf
  rw[zbI,zas]
  by_cases hk:k=10
  ·have e1:zbe true (.mk k nm ws s)=0:=if_pos ⟨hk,rfl⟩
   have h1:=hf.1.1
   rw[e1]at h1
   have hs:s=[]:=List.length_eq_zero_iff.1 (by have h2:((zab.mk k nm ws s).subs.length:Int)=(s.length:Int):=rfl;omega)
   subst hs
   rw[if_pos hk,if_pos hk,pnM,if_neg (by omega),zMA]
   simp
  ·rw[if_neg hk,if_neg hk,pnM,pnM,List.mem_append,List.mem_append,zMF s hf.2,or_assoc]
theorem zMF {g:Str→zab}{x:Str}:∀fs:List zab,zdy true fs→(x∈zMA (za0 g fs)↔x∈zMA fs∨∃h∈zaG fs,x∈pnM (g h))
 |[],_=>by rw[za0,zaG,zMA];simp
 |f::fs,hf=>by
  rw[zdy]at hf
  rw[za0,zaG,zMA,zMA,List.mem_append,List.mem_append,zMN f hf.1,zMF fs hf.2]
  constructor
  ·rintro((h|⟨y,h,h2⟩)|(h|⟨y,h,h2⟩))
   ·exact .inl (.inl h)
   ·exact .inr ⟨y,List.mem_append_left _ h,h2⟩
   ·exact .inl (.inr h)
   ·exact .inr ⟨y,List.mem_append_right _ h,h2⟩
  ·rintro((h|h)|⟨y,h,h2⟩)
   ·exact .inl (.inl h)
   ·exact .inr (.inl h)
   ·rcases List.mem_append.1 h with h|h
    ·exact .inl (.inr ⟨y,h,h2⟩)
    ·exact .inr (.inr ⟨y,h,h2⟩)
end
mutual
theorem zMw (g:Str→zab):∀f:zab,(zbI g f).depth≤f.depth+zdv ((zas f).map fun h=>(g h).depth)
 | .mk k nm ws s=>by
  rw[zbI,zas]
  split
  ·simp[zdv]
  ·rw[zab.depth,zab.depth]
   have:=zMu g s
   omega
theorem zMu (g:Str→zab):∀fs:List zab,zab.depths (za0 g fs)≤zab.depths fs+zdv ((zaG fs).map fun h=>(g h).depth)
 |[]=>by rw[za0,zaG,zab.depths];simp
 |f::fs=>by
  rw[za0,zaG,zab.depths,zab.depths,List.map_append,zhp]
  have:=zMw g f
  have:=zMu g fs
  omega
end
theorem zML:∀ps:List zbD,zdT ps=zdv ((List.range ps.length).map fun i=>(match ps[i]? with|some p=>p.form|none=>zab.mk 0 ⟨[]⟩ [] []).depth)
 |[]=>rfl
 |p::ps=>by
  rw[zdT,List.length_cons,List.range_succ_eq_map,List.map_cons,List.map_map]
  have ih:=zML ps
  simp only[zdv,List.foldr_cons]at ih ⊢
  rw[ih]
  rfl
theorem zMR {s:zao}(h:(zaZ s).code=0):zdT s.pieces≤40:=by
 unfold zaZ at h
 split at h
 ·exact absurd h (by decide)
 split at h
 ·rename_i h2;exact absurd h h2
 split at h
 ·exact absurd h (by decide)
 ·omega
section
variable {s:zao} {l:List Nat}
theorem zMD (hs:zg9 s)(h:okL s l){x:Str}:∀(f i:Nat),i<nP s→(x∈pnM (zb2 s l f i)↔∃j∈zaW (zbc s l) f i,x∈pnM (zbH s j))
 |0,i,_=>by rw[zb2,zaW,pnM,zMA];simp
 |f+1,i,hi=>by
  rw[zb2,zaW,zMN _ (zeO (zlQ hs hi))]
  have hk:∀y∈zb0 s i,inP s l y<nP s:=fun y hy=>((h.g.k i _ hi).1 (List.mem_map_of_mem hy)).1
  constructor
  ·rintro(h1|⟨y,hy,h1⟩)
   ·exact⟨i,by simp,h1⟩
   ·rw[←zbQ]at hy
    obtain⟨j,hj,h2⟩:=(zMD hs h f _ (hk y hy)).1 h1
    exact⟨j,List.mem_cons_of_mem _ (List.mem_flatMap.2 ⟨_,List.mem_map_of_mem hy,hj⟩),h2⟩
  ·rintro⟨j,hj,h2⟩
   rcases List.mem_cons.1 hj with rfl|hj
   ·exact .inl h2
   ·obtain⟨c,hc,hj⟩:=List.mem_flatMap.1 hj
    obtain⟨y,hy,rfl⟩:=List.mem_map.1 hc
    exact .inr ⟨y,by rw[←zbQ];exact hy,(zMD hs h f _ (hk y hy)).2 ⟨j,hj,h2⟩⟩
theorem zMy (h:okL s l):∀(f i:Nat),i<nP s→(∀j,j<nP s→upP (zm1 s l) f j≠some i)→(zb2 s l f i).depth≤zdv ((zaW (zbc s l) f i).map fun j=>(zbH s j).depth)
 |0,i,hi,hn=>absurd rfl (hn i hi)
 |f+1,i,hi,hn=>by
  rw[zb2,zaW]
  refine Nat.le_trans (zMw _ _) ?_
  rw[List.map_cons]
  have hfl:=ziu (zaW (zbc s l) f) (fun j=>(zbH s j).depth) (zbc s l i)
  have key:zdv ((zas (zbH s i)).map fun x=>(zb2 s l f (inP s l x)).depth)≤zdv ((zbc s l i).map fun c=>zdv ((zaW (zbc s l) f c).map fun j=>(zbH s j).depth)):=by
   unfold zbc
   rw[List.map_map,←zbQ]
   refine ztq fun x hx=>?_
   have hc:inP s l x∈zbc s l i:=List.mem_map_of_mem hx
   obtain⟨hcn,hp⟩:=(h.g.k i _ hi).1 hc
   exact zMy h f _ hcn fun j hj hu=>hn j hj (by rw[zcl,hu];exact hp)
  rw[←hfl]at key
  simp only[zdv,List.foldr_cons]at key ⊢
  omega
theorem zMK (h:okL s l)(ht:zcX s l=true):(zcS s l).depth≤zdT s.pieces:=by
 refine Nat.le_trans (zMy h _ _ h.t.1 fun j hj=>zeV h.p (zeH ht) h.t.1 hj) ?_
 have e:zdT s.pieces=zdv ((List.range (nP s)).map fun i=>(zbH s i).depth):=zML s.pieces
 rw[e]
 refine zkQ _ (ze9 h.g (fun i hi=>zje h hi) h.p (zeH ht) _ _ h.t.1) fun x hx=>?_
 exact List.mem_range.2 (zjQ h _ _ h.t.1 x hx)
theorem zMQ (h0:(zaZ s).code=0)(h:okL s l)(ht:zcX s l=true):zaX false (zha s l)=⟨0,0⟩:=by
 have hs:=zkH h0
 have h1:=ztM hs h ht
 have h2:=zdJ (l:=l) hs (nP s+1) (zeG (nP s) l)
 refine zon h1.s h2 (decide_eq_true ⟨zde hs h ht,Nat.le_trans (zMK h ht) (zMR h0)⟩) fun x hx=>zhe _ [] x h1.a hx
def zM1 (s:zao):List Str:=s.pieces.foldl (fun l p=>zMt p.form l) []
theorem zM9:zt0 (zM1 s)∧∀x,x∈zM1 s↔∃p∈s.pieces,x∈pnM p.form:=by
 unfold zM1
 have key:∀(ps:List zbD) (o:List Str),zt0 o→zt0 (ps.foldl (fun l p=>zMt p.form l) o)∧∀x,x∈ps.foldl (fun l p=>zMt p.form l) o↔x∈o∨∃p∈ps,x∈pnM p.form:=by
  intro ps
  induction ps with
  |nil=>intro o ho;exact⟨ho,fun x=>by simp⟩
  |cons p ps ih=>
   intro o ho
   obtain⟨h1,h2⟩:=ih (zMt p.form o) (zvE _ _ ho)
   refine⟨h1,fun x=>?_⟩
   rw[List.foldl_cons,h2]
   unfold zMt
   rw[zMC]
   simp only[List.mem_cons,exists_eq_or_imp,or_assoc]
 obtain⟨h1,h2⟩:=key s.pieces [] List.Pairwise.nil
 exact⟨h1,fun x=>by rw[h2];simp⟩
theorem zMP (hs:zg9 s)(h:okL s l)(ht:zcX s l=true):zMt (zha s l) []=zM1 s:=by
 obtain⟨h1,h2⟩:=zM9 (s:=s)
 refine ztn (zvE _ _ List.Pairwise.nil) h1 fun x=>?_
 unfold zMt
 rw[zMC,h2]
 simp only[List.not_mem_nil,false_or]
 have e:pnM (zha s l)=pnM (zcS s l):=zM3 _ _ _ _
 rw[e]
 unfold zcS
 rw[zMD hs h (nP s+1) (zeG (nP s) l) h.t.1]
 constructor
 ·rintro⟨j,hj,h3⟩
  have hjn:=zjQ h _ _ h.t.1 j hj
  unfold zbH at h3
  unfold nP at hjn
  rw[List.getElem?_eq_getElem hjn]at h3
  exact⟨_,List.getElem_mem hjn,h3⟩
 ·rintro⟨p,hp,h3⟩
  obtain⟨j,hj,rfl⟩:=List.getElem_of_mem hp
  refine⟨j,(zpA h h.t.1 hj).2 ?_,?_⟩
  ·exact List.all_eq_true.1 ht j (List.mem_range.2 hj)
  ·unfold zbH;rw[List.getElem?_eq_getElem hj];exact h3
theorem zM0 (h:okS s l=true){v:Str}(hv:v∈s.vars):v∉zbX (zha s l):=by
 unfold okS at h
 simp only[Bool.and_eq_true]at h
 have h1:=List.all_eq_true.1 h.2 v hv
 unfold zyB at h1
 rw[zcE]
 unfold zha
 rw[zrH]
 simpa using h1
end
end Go.Abs

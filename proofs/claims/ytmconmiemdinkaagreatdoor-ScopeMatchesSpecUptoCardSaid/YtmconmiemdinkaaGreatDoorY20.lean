/- several texts of this proof in one; no conditions -/
import Derived.Test.YtmconmiemdinkaaGreatDoorY19
import Derived.Test.YtmconmiemdinkaaGreatDoorY18
import Derived.Test.YtmconmiemdinkaaGreatDoorY17
set_option linter.unusedSimpArgs false
namespace Go.Abs
open Go
structure txW (f:zac):Prop where
 s:shp false f
 a:zbS (fun w=>zav w=true) f
theorem zbD {w:Str}(h:zav w=true):(∃c r,w.l=c::r∧zgM c)∧∀c∈w.l,okc c:=by
 obtain⟨h1,_,h2,h3⟩:=of_decide_eq_true h
 constructor
 ·cases hw:w.l with
  |nil=>rw[hw]at h1;simp at h1
  |cons c r=>rw[hw]at h2;exact⟨c,r,rfl,h2⟩
 ·intro c hc
  obtain⟨j,hj,rfl⟩:=List.getElem_of_mem hc
  have:=h3 j hj
  rwa [List.getD_eq_getElem?_getD,List.getElem?_eq_getElem hj]at this
theorem zdP:∀{u v s t:List UInt8},(∀c∈u,okc c)→(∀c∈v,okc c)→(∀c r,s=c::r→¬okc c)→(∀c r,t=c::r→¬okc c)→u++s=v++t→u=v∧s=t
 |[],[],_,_,_,_,_,_,h=>⟨rfl,h⟩
 |[],c::v,s,t,_,hv,hs,_,h=>absurd (hv c (by simp)) (hs c (v++t) h)
 |c::u,[],s,t,hu,_,_,ht,h=>absurd (hu c (by simp)) (ht c (u++s) h.symm)
 |c::u,d::v,s,t,hu,hv,hs,ht,h=>by
  rw[List.cons_append,List.cons_append,List.cons.injEq]at h
  obtain⟨h1,h2⟩:=zdP (fun x hx=>hu x (List.mem_cons_of_mem _ hx)) (fun x hx=>hv x (List.mem_cons_of_mem _ hx)) hs ht h.2
  exact⟨by rw[h.1,h1],h2⟩
theorem ziT {c:UInt8}(h:c=32∨c=40∨c=41∨c=44):∀d r x,c::x=d::r→¬okc d:=by
 intro d r x e
 obtain⟨rfl,_⟩:=List.cons.inj e
 rcases h with rfl|rfl|rfl|rfl<;>decide
def zzJ (s:List UInt8):Prop:=∀c r,s=c::r→c=32∨c=41
theorem zzJ.no {s:List UInt8}(h:zzJ s):∀c r,s=c::r→¬okc c:=fun c r e=>by
 rcases h c r e with rfl|rfl<;>decide
theorem znT:∀{ws vs:List Str} {s t:List UInt8},(∀w∈ws,zav w=true)→(∀w∈vs,zav w=true)→(ws.flatMap fun v=>[44]++v.l)++41::s=(vs.flatMap fun v=>[44]++v.l)++41::t→ws=vs∧s=t
 |[],[],_,_,_,_,h=>⟨rfl,(List.cons.inj h).2⟩
 |[],v::vs,_,_,_,_,h=>by simp at h
 |w::ws,[],_,_,_,_,h=>by simp at h
 |w::ws,v::vs,s,t,h1,h2,h=>by
  simp only[List.flatMap_cons,List.append_assoc,List.cons_append,List.nil_append,List.cons.injEq,true_and]at h
  have nx:∀(l:List Str) (x:List UInt8) c r,(l.flatMap fun v=>44::v.l)++41::x=c::r→¬okc c:=by
   intro l x c r e
   cases l with
   |nil=>exact ziT (c:=41) (by simp) c r x e
   |cons y l=>
    simp only[List.flatMap_cons,List.cons_append]at e
    obtain⟨rfl,_⟩:=List.cons.inj e
    decide
  obtain⟨e1,e2⟩:=zdP (zbD (h1 w (by simp))).2 (zbD (h2 v (by simp))).2 (nx ws s) (nx vs t) h
  obtain⟨e3,e4⟩:=znT (fun x hx=>h1 x (List.mem_cons_of_mem _ hx)) (fun x hx=>h2 x (List.mem_cons_of_mem _ hx)) (by simpa using e2)
  exact⟨by rw[e3,show w=v by cases w;cases v;exact congrArg Str.mk e1],e4⟩
theorem zyU {ws vs:List Str}{s t:List UInt8}(h1:∀w∈ws,zav w=true)(h2:∀w∈vs,zav w=true)(h:jn [44] ws++41::s=jn [44] vs++41::t):ws=vs∧s=t:=by
 have low41:∀(w:Str) (x y:List UInt8),zav w=true→41::x≠w.l++y:=fun w x y hw e=>by
  obtain⟨⟨c,r,e1,e2⟩,_⟩:=zbD hw
  rw[e1,List.cons_append]at e
  obtain⟨rfl,_⟩:=List.cons.inj e
  exact absurd e2 (by decide)
 cases ws with
 |nil=>
  cases vs with
  |nil=>exact⟨rfl,(List.cons.inj h).2⟩
  |cons v vs=>
   rw[jn,jn,List.append_assoc]at h
   exact absurd h (low41 v _ _ (h2 v (by simp)))
 |cons w ws=>
  cases vs with
  |nil=>
   rw[jn,jn,List.append_assoc]at h
   exact absurd h.symm (low41 w _ _ (h1 w (by simp)))
  |cons v vs=>
   exact znT h1 h2 (by
    rw[jn,jn]at h
    simp only[List.flatMap_cons,List.append_assoc,List.cons_append,List.nil_append,List.cons.injEq,true_and]at h ⊢
    exact h)
theorem zfc {f:zac}(h:txW f):f= .mk 1 ⟨[]⟩ [] []∨(∃nm ws,f= .mk 2 nm ws []∧zav nm=true∧∀w∈ws,zav w=true)∨(∃a b,f= .mk 3 ⟨[]⟩ [a,b] []∧zav a=true∧zav b=true)∨
  (∃a,f= .mk 4 ⟨[]⟩ [] [a]∧txW a)∨(∃k a b,(k=5∨k=6∨k=7)∧f= .mk k ⟨[]⟩ [] [a,b]∧txW a∧txW b)∨(∃k nm a,(k=8∨k=9)∧f= .mk k nm [] [a]∧zav nm=true∧txW a):=by
 obtain⟨hs,ha⟩:=h
 obtain⟨k,nm,ws,s⟩:=f
 rw[shp]at hs
 rw[zbS]at ha
 obtain⟨⟨h1,h2,h3,h4⟩,h5⟩:=hs
 obtain⟨h6,h7,h8⟩:=ha
 simp only[zaG,zcs,zcK,zaU]at h1 h2 h3 h4
 have hp:za7 false (.mk k nm ws s)=zcd k:=by unfold za7;simp[zaG]
 rw[hp]at h1
 have hw0:¬k=2→¬k=3→ws=[]:=fun e1 e2=>by
  have h2':(if k=2 then decide (ws.length≤3)else if k=3 then decide (ws.length=2)else decide (ws.length=0))=true:=h2
  rw[if_neg e1,if_neg e2]at h2'
  exact List.length_eq_zero_iff.1 (by simpa using h2')
 have hn0:¬(k=2∨k=8∨k=9∨k=10)→nm=⟨[]⟩:=fun e=>h4 (decide_eq_false e)
 have hk:k=1∨k=2∨k=3∨k=4∨(k=5∨k=6∨k=7)∨(k=8∨k=9):=by
  unfold zcd at h1
  repeat'(first|omega|split at h1)
 rcases hk with rfl|rfl|rfl|rfl|hk|hk
 ·refine .inl ?_
  rw[hw0 (by decide) (by decide),hn0 (by decide),List.length_eq_zero_iff.1 (show s.length=0 by have:zcd 1=0:=rfl;omega)]
 ·refine .inr (.inl ⟨nm,ws,?_,h3 (by unfold named;rfl) (by unfold isQ;decide),h6⟩)
  rw[List.length_eq_zero_iff.1 (show s.length=0 by have:zcd 2=0:=rfl;omega)]
 ·have e:ws.length=2:=by
   have h2':decide (ws.length=2)=true:=h2
   simpa using h2'
  match ws,e with
  |[a,b],_=>
   refine .inr (.inr (.inl ⟨a,b,?_,h6 a (by simp),h6 b (by simp)⟩))
   rw[hn0 (by decide),List.length_eq_zero_iff.1 (show s.length=0 by have:zcd 3=0:=rfl;omega)]
 ·have e:s.length=1:=by have:zcd 4=1:=rfl;omega
  match s,e with
  |[a],_=>
   rw[zdO]at h5
   rw[zaS]at h8
   refine .inr (.inr (.inr (.inl ⟨a,?_,h5.1,h8.1⟩)))
   rw[hw0 (by decide) (by decide),hn0 (by decide)]
 ·have e:s.length=2:=by have:zcd k=2:=by rcases hk with rfl|rfl|rfl<;>rfl
                        omega
  match s,e with
  |[a,b],_=>
   rw[zdO,zdO]at h5
   rw[zaS,zaS]at h8
   refine .inr (.inr (.inr (.inr (.inl ⟨k,a,b,hk,?_,⟨h5.1,h8.1⟩,⟨h5.2.1,h8.2.1⟩⟩))))
   rw[hw0 (by omega) (by omega),hn0 (by omega)]
 ·have e:s.length=1:=by have:zcd k=1:=by rcases hk with rfl|rfl<;>rfl
                        omega
  match s,e with
  |[a],_=>
   rw[zdO]at h5
   rw[zaS]at h8
   refine .inr (.inr (.inr (.inr (.inr ⟨k,nm,a,hk,?_,h7 (by unfold isQ;rcases hk with rfl|rfl<;>decide),⟨h5.1,h8.1⟩⟩))))
   rw[hw0 (by omega) (by omega)]
theorem tx1:txt (.mk 1 ⟨[]⟩ [] [])=[116,114,117,101]:=rfl
theorem tx2 {nm:Str}{ws:List Str}:txt (.mk 2 nm ws [])=nm.l++[40]++jn [44] ws++[41]:=zzN rfl
theorem tx3 {a b:Str}:txt (.mk 3 ⟨[]⟩ [a,b] [])=[40]++(a.l++[32,61,32]++b.l)++[41]:=by
 rw[zzO rfl]
 simp[zcs,zcK,jn]
theorem tx4 {a:zac}:txt (.mk 4 ⟨[]⟩ [] [a])=45::txt a:=zw2 rfl rfl
theorem tx5 {k:Int}{a b:zac}(h:k=5∨k=6∨k=7):txt (.mk k ⟨[]⟩ [] [a,b])=[40]++txt a++sgn k++txt b++[41]:=zrT h rfl
theorem tx8 {k:Int}{nm:Str}{a:zac}(h:k=8∨k=9):txt (.mk k nm [] [a])=(if k=8 then[97,108,108]else[115,111,109,101])++([32]++nm.l++[32]++txt a):=by
 rcases h with rfl|rfl
 ·rw[zw3 rfl rfl];rfl
 ·rw[zw4 rfl rfl];rfl
theorem zzz {k k':Int}{x y:List UInt8}(h:k=5∨k=6∨k=7)(h':k'=5∨k'=6∨k'=7)(e:sgn k++x=sgn k'++y):k=k'∧x=y:=by
 rcases h with rfl|rfl|rfl<;>rcases h' with rfl|rfl|rfl<;>simp[sgn]at e<;>exact⟨rfl,e⟩
theorem zw1 {f:zac}(h:txW f){s:List UInt8}(hs:zzJ s):(∃u r,txt f++s=u++r∧(∃c x,u=c::x∧zgM c)∧(∀c∈u,okc c)∧(∀c x,r=c::x→¬okc c)∧∀x,r=32::61::x→u=[116,114,117,101]∧s=r)∨(∃x,txt f++s=40::x)∨∃x,txt f++s=45::x:=by
 rcases zfc h with rfl|⟨nm,ws,rfl,h1,h2⟩|⟨a,b,rfl,h1,h2⟩|⟨a,rfl,h1⟩|⟨k,a,b,hk,rfl,h1,h2⟩|⟨k,nm,a,hk,rfl,h1,h2⟩
 ·exact .inl ⟨[116,114,117,101],s,by rw[tx1],⟨116,_,rfl,by decide⟩,by decide,hs.no,fun x e=>⟨rfl,rfl⟩⟩
 ·refine .inl ⟨nm.l,40::(jn [44] ws++41::s),by rw[tx2];simp,(zbD h1).1,(zbD h1).2,fun c x e=>ziT (c:=40) (by simp) c x _ e,fun x e=>?_⟩
  ·exact absurd (List.cons.inj e).1 (by decide)
 ·exact .inr (.inl ⟨a.l++[32,61,32]++b.l++[41]++s,by rw[tx3];simp⟩)
 ·exact .inr (.inr ⟨txt a++s,by rw[tx4];rfl⟩)
 ·exact .inr (.inl ⟨txt a++sgn k++txt b++[41]++s,by rw[tx5 hk];simp⟩)
 ·refine .inl ⟨if k=8 then[97,108,108]else[115,111,109,101],32::(nm.l++(32::(txt a++s))),by rw[tx8 hk];simp,?_,?_,fun c x e=>ziT (c:=32) (by simp) c x _ e,fun x e=>?_⟩
  ·rcases hk with rfl|rfl
   ·exact⟨97,_,rfl,by decide⟩
   ·exact⟨115,_,rfl,by decide⟩
  ·rcases hk with rfl|rfl<;>decide
  ·obtain⟨⟨c,r,e1,e2⟩,_⟩:=zbD h1
   rw[e1]at e
   have e3:=(List.cons.inj (List.cons.inj e).2).1
   subst e3
   exact absurd e2 (by decide)
theorem zxL {a:zac}(h:txW a){w:Str}(hw:zav w=true){c:UInt8}(hc:c≠61){R R':List UInt8}:txt a++32::c::R≠w.l++32::61::R':=fun e=>by
 obtain⟨⟨d,z,e1,e2⟩,hok⟩:=zbD hw
 rcases zw1 h (s:=32::c::R) (fun c r e=> .inl (List.cons.inj e).1.symm)with⟨u,r,h1,_,h3,h4,h5⟩|⟨x,h1⟩|⟨x,h1⟩
 ·rw[h1]at e
  obtain⟨_,k2⟩:=zdP h3 hok h4 (fun c x e=>ziT (c:=32) (by simp) c x _ e) e
  obtain⟨_,k3⟩:=h5 _ k2
  rw[k2]at k3
  exact hc (List.cons.inj (List.cons.inj k3).2).1
 ·rw[h1,e1,List.cons_append]at e
  rw[←(List.cons.inj e).1]at e2
  exact absurd e2 (by decide)
 ·rw[h1,e1,List.cons_append]at e
  rw[←(List.cons.inj e).1]at e2
  exact absurd e2 (by decide)
theorem zlD {k:Int}(h:k=5∨k=6∨k=7):∃c x,sgn k=32::c::x∧c≠61:=by
 rcases h with rfl|rfl|rfl
 ·exact⟨38,_,rfl,by decide⟩
 ·exact⟨124,_,rfl,by decide⟩
 ·exact⟨62,_,rfl,by decide⟩
theorem zxT {k:Int}(h:k=5∨k=6∨k=7){x:List UInt8}:zzJ (sgn k++x):=fun c r e=>by
 obtain⟨d,y,e1,_⟩:=zlD h
 rw[e1]at e
 exact .inl (List.cons.inj e).1.symm
theorem zgW {w:Str}(hw:zav w=true){x y:List UInt8}{c:UInt8}(hc:¬zgM c):w.l++x≠c::y:=fun e=>by
 obtain⟨⟨d,z,e1,e2⟩,_⟩:=zbD hw
 rw[e1,List.cons_append]at e
 rw[(List.cons.inj e).1]at e2
 exact hc e2
theorem zqe {a b:Str}(h:a.l=b.l):a=b:=by cases a;cases b;exact congrArg Str.mk h
def qw (k:Int):List UInt8:=if k=8 then[97,108,108]else[115,111,109,101]
theorem zrB {k:Int}(h:k=8∨k=9):∀c∈qw k,okc c:=by rcases h with rfl|rfl<;>decide
theorem zsc {k:Int}{nm:Str}{a:zac}{s:List UInt8}(h:k=8∨k=9):txt (.mk k nm [] [a])++s=qw k++32::(nm.l++32::(txt a++s)):=by rw[tx8 h];simp[qw]
theorem zr7 {s:List UInt8}:txt (.mk 1 ⟨[]⟩ [] [])++s=[116,114,117,101]++s:=rfl
theorem zr8 {nm:Str}{ws:List Str}{s:List UInt8}:txt (.mk 2 nm ws [])++s=nm.l++40::(jn [44] ws++41::s):=by rw[tx2];simp
theorem zr9 {a b:Str}{s:List UInt8}:txt (.mk 3 ⟨[]⟩ [a,b] [])++s=40::(a.l++32::61::(32::(b.l++41::s))):=by rw[tx3];simp
theorem zsa {a:zac}{s:List UInt8}:txt (.mk 4 ⟨[]⟩ [] [a])++s=45::(txt a++s):=by rw[tx4];rfl
theorem zsb {k:Int}{a b:zac}{s:List UInt8}(h:k=5∨k=6∨k=7):txt (.mk k ⟨[]⟩ [] [a,b])++s=40::(txt a++(sgn k++(txt b++41::s))):=by rw[tx5 h];simp
theorem zln:∀c∈([116,114,117,101]:List UInt8),okc c:=by decide
theorem n40 {x:List UInt8}:∀c r,40::x=c::r→¬okc c:=fun c r e=>ziT (c:=40) (by simp) c r x e
theorem n32 {x:List UInt8}:∀c r,32::x=c::r→¬okc c:=fun c r e=>ziT (c:=32) (by simp) c r x e
theorem n41 {x:List UInt8}:∀c r,41::x=c::r→¬okc c:=fun c r e=>ziT (c:=41) (by simp) c r x e
theorem zI3 {x:List UInt8}:zzJ (41::x):=fun _ _ e=> .inr (List.cons.inj e).1.symm
theorem zrA {k:Int}(h:k=8∨k=9){c:UInt8}(hc:c=40∨c=45){x y:List UInt8}:qw k++x≠c::y:=by
 rcases h with rfl|rfl<;>rcases hc with rfl|rfl<;>simp[qw]
theorem zuH {k:Int}(h:k=8∨k=9):[116,114,117,101]≠qw k:=by rcases h with rfl|rfl<;>decide
theorem zCT {k k':Int}(h:k=8∨k=9)(h':k'=8∨k'=9)(e:qw k=qw k'):k=k':=by
 rcases h with rfl|rfl<;>rcases h' with rfl|rfl<;>first|rfl|exact absurd e (by decide)
theorem zzP:∀(n:Nat) {f g:zac} {s t:List UInt8},f.size≤n→txW f→txW g→zzJ s→zzJ t→txt f++s=txt g++t→f=g∧s=t:=by
 intro n
 induction n with
 |zero=>intro f g s t hn;have:=f.size_pos;omega
 |succ n ih=>
  intro f g s t hn hf hg hs ht e
  rcases zfc hf with rfl|⟨nm,ws,rfl,h1,h2⟩|⟨a,b,rfl,h1,h2⟩|⟨a,rfl,h1⟩|⟨k,a,b,hk,rfl,h1,h2⟩|⟨k,nm,a,hk,rfl,h1,h2⟩<;>
   rcases zfc hg with rfl|⟨nm',ws',rfl,h1',h2'⟩|⟨a',b',rfl,h1',h2'⟩|⟨a',rfl,h1'⟩|⟨k',a',b',hk',rfl,h1',h2'⟩|⟨k',nm',a',hk',rfl,h1',h2'⟩
  ·rw[zr7,zr7]at e;exact⟨rfl,List.append_cancel_left e⟩
  ·rw[zr7,zr8]at e
   have:=(zdP zln (zbD h1').2 hs.no n40 e).2
   rcases hs _ _ this with h|h<;>exact absurd h (by decide)
  ·rw[zr7,zr9]at e;exact absurd (List.cons.inj e).1 (by decide)
  ·rw[zr7,zsa]at e;exact absurd (List.cons.inj e).1 (by decide)
  ·rw[zr7,zsb hk']at e;exact absurd (List.cons.inj e).1 (by decide)
  ·rw[zr7,zsc hk']at e
   exact absurd (zdP zln (zrB hk') hs.no n32 e).1 (zuH hk')
  ·rw[zr8,zr7]at e
   have:=(zdP (zbD h1).2 zln n40 ht.no e).2.symm
   rcases ht _ _ this with h|h<;>exact absurd h (by decide)
  ·rw[zr8,zr8]at e
   obtain⟨e1,e2⟩:=zdP (zbD h1).2 (zbD h1').2 n40 n40 e
   obtain⟨e3,e4⟩:=zyU h2 h2' (List.cons.inj e2).2
   rw[zqe e1,e3];exact⟨rfl,e4⟩
  ·rw[zr8,zr9]at e;exact absurd e (zgW h1 (by decide))
  ·rw[zr8,zsa]at e;exact absurd e (zgW h1 (by decide))
  ·rw[zr8,zsb hk']at e;exact absurd e (zgW h1 (by decide))
  ·rw[zr8,zsc hk']at e
   have:=(zdP (zbD h1).2 (zrB hk') n40 n32 e).2
   exact absurd (List.cons.inj this).1 (by decide)
  ·rw[zr9,zr7]at e;exact absurd (List.cons.inj e).1 (by decide)
  ·rw[zr9,zr8]at e;exact absurd e.symm (zgW h1' (by decide))
  ·rw[zr9,zr9]at e
   obtain⟨e1,e2⟩:=zdP (zbD h1).2 (zbD h1').2 n32 n32 (List.cons.inj e).2
   have e3:=(List.cons.inj (List.cons.inj (List.cons.inj e2).2).2).2
   obtain⟨e4,e5⟩:=zdP (zbD h2).2 (zbD h2').2 n41 n41 e3
   rw[zqe e1,zqe e4];exact⟨rfl,(List.cons.inj e5).2⟩
  ·rw[zr9,zsa]at e;exact absurd (List.cons.inj e).1 (by decide)
  ·rw[zr9,zsb hk']at e
   obtain⟨c,x,e1,e2⟩:=zlD hk'
   have e3:=(List.cons.inj e).2
   rw[e1,List.cons_append,List.cons_append]at e3
   exact absurd e3.symm (zxL h1' h1 e2)
  ·rw[zr9,zsc hk']at e;exact absurd e.symm (zrA hk' (.inl rfl))
  ·rw[zsa,zr7]at e;exact absurd (List.cons.inj e).1 (by decide)
  ·rw[zsa,zr8]at e;exact absurd e.symm (zgW h1' (by decide))
  ·rw[zsa,zr9]at e;exact absurd (List.cons.inj e).1 (by decide)
  ·rw[zsa,zsa]at e
   simp only[zac.size,zac.sizes]at hn
   obtain⟨e1,e2⟩:=ih (by omega) h1 h1' hs ht (List.cons.inj e).2
   rw[e1];exact⟨rfl,e2⟩
  ·rw[zsa,zsb hk']at e;exact absurd (List.cons.inj e).1 (by decide)
  ·rw[zsa,zsc hk']at e;exact absurd e.symm (zrA hk' (.inr rfl))
  ·rw[zsb hk,zr7]at e;exact absurd (List.cons.inj e).1 (by decide)
  ·rw[zsb hk,zr8]at e;exact absurd e.symm (zgW h1' (by decide))
  ·rw[zsb hk,zr9]at e
   obtain⟨c,x,e1,e2⟩:=zlD hk
   have e3:=(List.cons.inj e).2
   rw[e1,List.cons_append,List.cons_append]at e3
   exact absurd e3 (zxL h1 h1' e2)
  ·rw[zsb hk,zsa]at e;exact absurd (List.cons.inj e).1 (by decide)
  ·rw[zsb hk,zsb hk']at e
   simp only[zac.size,zac.sizes]at hn
   obtain⟨e1,e2⟩:=ih (by omega) h1 h1' (zxT hk) (zxT hk') (List.cons.inj e).2
   obtain⟨e3,e4⟩:=zzz hk hk' e2
   obtain⟨e5,e6⟩:=ih (by omega) h2 h2' zI3 zI3 e4
   rw[e1,e3,e5];exact⟨rfl,(List.cons.inj e6).2⟩
  ·rw[zsb hk,zsc hk']at e;exact absurd e.symm (zrA hk' (.inl rfl))
  ·rw[zsc hk,zr7]at e
   exact absurd (zdP (zrB hk) zln n32 ht.no e).1.symm (zuH hk)
  ·rw[zsc hk,zr8]at e
   have:=(zdP (zrB hk) (zbD h1').2 n32 n40 e).2
   exact absurd (List.cons.inj this).1 (by decide)
  ·rw[zsc hk,zr9]at e;exact absurd e (zrA hk (.inl rfl))
  ·rw[zsc hk,zsa]at e;exact absurd e (zrA hk (.inr rfl))
  ·rw[zsc hk,zsb hk']at e;exact absurd e (zrA hk (.inl rfl))
  ·rw[zsc hk,zsc hk']at e
   simp only[zac.size,zac.sizes]at hn
   obtain⟨e1,e2⟩:=zdP (zrB hk) (zrB hk') n32 n32 e
   obtain⟨e3,e4⟩:=zdP (zbD h1).2 (zbD h1').2 n32 n32 (List.cons.inj e2).2
   obtain⟨e5,e6⟩:=ih (by omega) h2 h2' hs ht (List.cons.inj e4).2
   rw[zCT hk hk' e1,zqe e3,e5];exact⟨rfl,e6⟩
theorem zlP {f g:zac}(hf:txW f)(hg:txW g)(h:txt f=txt g):f=g:=
 (zzP f.size (Nat.le_refl _) hf hg (s:=[]) (t:=[]) (fun _ _ e=>by cases e) (fun _ _ e=>by cases e) (by rw[h])).1
mutual
def nam:zac→Prop
 | .mk k nm _ s=>(k=3→nm.l=[])∧zr4 s
def zr4:List zac→Prop
 |[]=>True
 |f::fs=>nam f∧zr4 fs
end
theorem zcV:∀l:List zac,zr4 l↔∀f∈l,nam f
 |[]=>by rw[zr4];simp
 |f::l=>by rw[zr4,zcV l];simp
theorem zCH {f:zac}:nam f↔(f.kind=3→f.name.l=[])∧zr4 f.subs:=by
 cases f;rw[nam];rfl
structure txQ (f:zac):Prop where
 p:txP f
 n:nam f
end Go.Abs
namespace Go.Abs
open Go
def zup (l:List zac):Prop:=l.Pairwise fun a b=>txt a<txt b
theorem zwP {a b:List zac}(ha:zup a)(hb:zup b)(hw:∀x∈a,txW x)(h:∀x,x∈a↔x∈b):a=b:=by
 have h1:a.map txS=b.map txS:=by
  refine zuq ?_ ?_ fun x=>?_
  ·unfold zr5;rw[List.pairwise_map];exact ha
  ·unfold zr5;rw[List.pairwise_map];exact hb
  ·simp only[List.mem_map]
   exact⟨fun⟨y,hy,e⟩=>⟨y,(h y).1 hy,e⟩,fun⟨y,hy,e⟩=>⟨y,(h y).2 hy,e⟩⟩
 have hl:a.length=b.length:=by have:=congrArg List.length h1;simpa using this
 refine List.ext_getElem hl fun i hi hj=>?_
 have h2:(a.map txS)[i]?=(b.map txS)[i]?:=by rw[h1]
 rw[List.getElem?_map,List.getElem?_map,List.getElem?_eq_getElem hi,List.getElem?_eq_getElem hj]at h2
 have h3:txt a[i]=txt b[i]:=congrArg Str.l (Option.some.inj h2)
 exact zlP (hw _ (List.getElem_mem hi)) (hw _ ((h _).2 (List.getElem_mem hj))) h3
def zwg (f:zac):List zac→List zac
 |[]=>[f]
 |g::l=>if txt f<txt g then f::g::l else if txt f=txt g then g::l else g::zwg f l
def zoV (l:List zac):List zac:=l.foldr zwg []
theorem zlg {f:zac}(hf:txW f):∀{l:List zac},(∀x∈l,txW x)→∀x,x∈zwg f l↔x=f∨x∈l
 |[],_,x=>by simp[zwg]
 |g::l,hl,x=>by
  rw[zwg]
  split
  ·simp
  ·split
   ·rename_i e
    rw[zlP hf (hl g (by simp)) e];simp
   ·rw[List.mem_cons,zlg hf (fun y hy=>hl y (by simp[hy]))]
    simp only[List.mem_cons]
    constructor
    ·rintro(h|h|h)<;>simp[h]
    ·rintro(h|h|h)<;>simp[h]
theorem zqc {f:zac}(hf:txW f):∀{l:List zac},(∀x∈l,txW x)→zup l→zup (zwg f l)
 |[],_,_=>by unfold zup zwg;simp
 |g::l,hl,h=>by
  have h':=List.pairwise_cons.1 h
  rw[zwg]
  split
  ·rename_i hlt
   refine List.pairwise_cons.2 ⟨fun y hy=>?_,h⟩
   rcases List.mem_cons.1 hy with rfl|hy
   ·exact hlt
   ·exact zfh hlt (h'.1 y hy)
  ·rename_i hlt
   split
   ·exact h
   ·rename_i hne
    have hl':∀x∈l,txW x:=fun y hy=>hl y (by simp[hy])
    refine List.pairwise_cons.2 ⟨fun y hy=>?_,zqc hf hl' h'.2⟩
    rcases(zlg hf hl' y).1 hy with rfl|hy
    ·exact zl6 hlt hne
    ·exact h'.1 y hy
theorem zp9:∀{l:List zac},(∀x∈l,txW x)→zup (zoV l)∧∀x,x∈zoV l↔x∈l
 |[],_=>⟨List.Pairwise.nil,fun x=>Iff.rfl⟩
 |f::l,h=>by
  obtain⟨h1,h2⟩:=zp9 (l:=l) fun y hy=>h y (by simp[hy])
  have hw:∀x∈zoV l,txW x:=fun y hy=>h y (by simp[(h2 y).1 hy])
  refine⟨zqc (h f (by simp)) hw h1,fun x=>?_⟩
  show x∈zwg f (zoV l)↔_
  rw[zlg (h f (by simp)) hw,h2];simp
theorem zp8 {l a:List zac}(hl:∀x∈l,txW x)(ha:zup a)(h:∀x,x∈a↔x∈l):a=zoV l:=by
 obtain⟨h1,h2⟩:=zp9 hl
 exact zwP ha h1 (fun x hx=>hl x ((h x).1 hx)) fun x=>(h x).trans (h2 x).symm
def dd (l:List zac):Nat→List zac
 |0=>[]
 |1=>l.take 1
 |i+2=>if l[i+1]?=l[i]? then dd l (i+1)else dd l (i+1)++l[i+1]?.toList
def zoj (l:List zac):List zac:=dd l l.length
theorem zym {l:List zac}{i:Nat}(h:i+1<l.length)(e:l[i+1]=l[i]):dd l (i+2)=dd l (i+1):=by
 rw[dd,if_pos (by rw[List.getElem?_eq_getElem h,List.getElem?_eq_getElem (by omega),e])]
theorem zyn {l:List zac}{i:Nat}(h:i+1<l.length)(e:l[i+1]≠l[i]):dd l (i+2)=dd l (i+1)++[l[i+1]]:=by
 rw[dd,if_neg (by rw[List.getElem?_eq_getElem h,List.getElem?_eq_getElem (by omega)];intro e2;exact e (Option.some.inj e2)),List.getElem?_eq_getElem h];rfl
theorem zBr {l:List zac}(hw:∀x∈l,txW x)(hs:l.Pairwise fun a b=>¬txt b<txt a):∀i (h:i<l.length),∃A,dd l (i+1)=A++[l[i]]∧zup (A++[l[i]])∧∀x,x∈A++[l[i]]↔x∈l.take (i+1)
 |0,h=>by
  refine⟨[],?_,by unfold zup;simp,?_⟩
  ·rw[dd,List.take_succ_eq_append_getElem h];rfl
  ·intro x;rw[List.take_succ_eq_append_getElem h];rfl
 |i+1,h=>by
  obtain⟨A,h1,h2,h3⟩:=zBr hw hs i (by omega)
  by_cases e:l[i+1]=l[i]
  ·refine⟨A,by rw[zym h e,h1,e],by rw[e];exact h2,fun x=>?_⟩
   rw[e,h3,List.take_succ_eq_append_getElem h,e,List.mem_append,List.mem_singleton]
   refine⟨.inl,?_⟩
   rintro(h4|rfl)
   ·exact h4
   ·have h5:i<l.length:=by omega
    rw[List.take_succ_eq_append_getElem h5];exact List.mem_append_right _ (List.mem_singleton.2 rfl)
  ·have hlt:txt l[i]<txt l[i+1]:=by
    have h4:=List.pairwise_iff_getElem.1 hs i (i+1) (by omega) h (by omega)
    exact zl6 h4 fun e2=>e (zlP (hw _ (List.getElem_mem h)) (hw _ (List.getElem_mem _)) e2)
   refine⟨dd l (i+1),zyn h e,?_,fun x=>?_⟩
   ·rw[h1]
    refine List.pairwise_append.2 ⟨h2,by simp,fun a ha b hb=>?_⟩
    rw[List.mem_singleton]at hb
    subst hb
    rcases List.mem_append.1 ha with h5|h5
    ·have:=(List.pairwise_append.1 h2).2.2 a h5 l[i] (by simp)
     exact zfh this hlt
    ·rw[List.mem_singleton]at h5;rw[h5];exact hlt
   ·rw[List.take_succ_eq_append_getElem h,h1,List.mem_append,h3,List.mem_append]
theorem zyo {l:List zac}(hw:∀x∈l,txW x)(hs:l.Pairwise fun a b=>¬txt b<txt a):zup (zoj l)∧∀x,x∈zoj l↔x∈l:=by
 unfold zoj
 cases hl:l.length with
 |zero=>rw[List.length_eq_zero_iff.1 hl];exact⟨List.Pairwise.nil,fun x=>Iff.rfl⟩
 |succ n=>
  obtain⟨A,h1,h2,h3⟩:=zBr hw hs n (by omega)
  rw[h1]
  refine⟨h2,fun x=>?_⟩
  rw[h3,List.take_of_length_le (by omega)]
theorem zsY {l S:List zac}(hw:∀x∈l,txW x)(hp:S.Perm l)(hs:S.Pairwise fun a b=>¬txt b<txt a):zoj S=zoV l:=by
 obtain⟨h1,h2⟩:=zyo (fun x hx=>hw x (hp.mem_iff.1 hx)) hs
 exact zp8 hw h1 fun x=>(h2 x).trans hp.mem_iff
theorem zeb {w:Str}(h:zav w=true):w.l.length≤30:=(of_decide_eq_true h).2.1
theorem zyV {k:Nat}(sep:List UInt8)(hk:sep.length≤k):∀{ws:List Str},(∀w∈ws,zav w=true)→(jn sep ws).length≤ws.length*(30+k)
 |[],_=>by simp[jn]
 |w::ws,h=>by
  have key:∀vs:List Str,(∀w∈vs,zav w=true)→(vs.flatMap fun v=>sep++v.l).length≤vs.length*(30+k):=by
   intro vs
   induction vs with
   |nil=>intro _;simp
   |cons v vs ih=>
    intro hv
    have h1:=ih fun x hx=>hv x (by simp[hx])
    have h2:=zeb (hv v (by simp))
    rw[List.flatMap_cons,List.length_append,List.length_append,List.length_cons,Nat.add_mul];omega
  have h1:=key ws fun x hx=>h x (by simp[hx])
  have h2:=zeb (h w (by simp))
  rw[jn,List.length_append,List.length_cons,Nat.add_mul];omega
theorem zzL:∀(n:Nat) {f:zac},f.size≤n→txW f→(txt f).length≤200*f.size:=by
 intro n
 induction n with
 |zero=>intro f hn;have:=f.size_pos;omega
 |succ n ih=>
  intro f hn hf
  have hw3:∀{nm:Str} {ws:List Str},shp false (.mk 2 nm ws [])→ws.length≤3:=fun h=>by
   rw[shp]at h
   have h2:decide (_≤3)=true:=h.1.2.1
   exact of_decide_eq_true h2
  rcases zfc hf with rfl|⟨nm,ws,rfl,h1,h2⟩|⟨a,b,rfl,h1,h2⟩|⟨a,rfl,h1⟩|⟨k,a,b,hk,rfl,h1,h2⟩|⟨k,nm,a,hk,rfl,h1,h2⟩
  ·rw[tx1];simp only[zac.size,zac.sizes,List.length_cons,List.length_nil];omega
  ·have h3:=hw3 hf.s
   have h4:=zyV (k:=1) [44] (by simp) h2
   have h5:=zeb h1
   rw[tx2];simp only[zac.size,zac.sizes,List.length_append,List.length_cons,List.length_nil];omega
  ·have h3:=zeb h1
   have h4:=zeb h2
   rw[tx3];simp only[zac.size,zac.sizes,List.length_append,List.length_cons,List.length_nil];omega
  ·simp only[zac.size,zac.sizes]at hn
   have h3:=ih (by omega) h1
   rw[tx4];simp only[zac.size,zac.sizes,List.length_append,List.length_cons,List.length_nil];omega
  ·simp only[zac.size,zac.sizes]at hn
   have h3:=ih (by omega) h1
   have h4:=ih (by omega) h2
   have h5:(sgn k).length=3:=by rcases hk with rfl|rfl|rfl<;>rfl
   rw[tx5 hk];simp only[zac.size,zac.sizes,List.length_append,List.length_cons,List.length_nil,h5];omega
  ·simp only[zac.size,zac.sizes]at hn
   have h3:=ih (by omega) h2
   have h4:=zeb h1
   have h5:(if k=8 then([97,108,108]:List UInt8)else[115,111,109,101]).length≤4:=by split<;>simp
   rw[tx8 hk];simp only[zac.size,zac.sizes,List.length_append,List.length_cons,List.length_nil];omega
theorem zzM:∀(n:Nat) {f:zac},f.size≤n→txW f→vok f∧nam f:=by
 intro n
 induction n with
 |zero=>intro f hn;have:=f.size_pos;omega
 |succ n ih=>
  intro f hn hf
  have hw3:∀{nm:Str} {ws:List Str},shp false (.mk 2 nm ws [])→ws.length≤3:=fun h=>by
   rw[shp]at h
   have h2:decide (_≤3)=true:=h.1.2.1
   exact of_decide_eq_true h2
  rcases zfc hf with rfl|⟨nm,ws,rfl,h1,h2⟩|⟨a,b,rfl,h1,h2⟩|⟨a,rfl,h1⟩|⟨k,a,b,hk,rfl,h1,h2⟩|⟨k,nm,a,hk,rfl,h1,h2⟩
  ·simp[vok,zh2,nam,zr4]
  ·have:=hw3 hf.s
   simp[vok,zh2,nam,zr4,this]
  ·simp[vok,zh2,nam,zr4]
  ·simp only[zac.size,zac.sizes]at hn
   obtain⟨h3,h4⟩:=ih (by omega) h1
   simp[vok,zh2,nam,zr4,h3,h4]
  ·simp only[zac.size,zac.sizes]at hn
   obtain⟨h3,h4⟩:=ih (by omega) h1
   obtain⟨h5,h6⟩:=ih (by omega) h2
   rcases hk with rfl|rfl|rfl<;>simp[vok,zh2,nam,zr4,h3,h4,h5,h6]
  ·simp only[zac.size,zac.sizes]at hn
   obtain⟨h3,h4⟩:=ih (by omega) h2
   rcases hk with rfl|rfl<;>simp[vok,zh2,nam,zr4,h3,h4]
theorem zGP {f:zac}(h:txW f)(hf:f.fit=true)(hs:f.size≤200):txQ f∧(txt f).length≤1000000:=by
 have h1:=zzL f.size (Nat.le_refl _) h
 obtain⟨h2,h3⟩:=zzM f.size (Nat.le_refl _) h
 exact⟨⟨⟨h2,hf,by omega⟩,h3⟩,by omega⟩
mutual
theorem zkm {g:Str→zac}:∀f:zac,shp true f→(∀h∈zau f,shp false (g h))→shp false (zcw g f)
 | .mk k nm ws s,hf,h=>by
  rw[zau]at h
  rw[zcw]
  split
  ·rename_i hk;rw[if_pos hk]at h;exact h nm (by simp)
  ·rename_i hk
   rw[if_neg hk]at h
   rw[shp]at hf ⊢
   obtain⟨⟨h1,h2,h3,h4⟩,h5⟩:=hf
   refine⟨⟨?_,h2,h3,h4⟩,zjb s h5 h⟩
   have e1:za7 true (.mk k nm ws s)=zcd k:=if_neg fun hh=>hk hh.1
   have e2:za7 false (.mk k nm ws (zbo g s))=zcd k:=if_neg fun hh=>by cases hh.2
   rw[e1]at h1
   rw[e2,←h1,zaU,zaU,zet,List.length_map]
theorem zjb {g:Str→zac}:∀fs:List zac,zdO true fs→(∀h∈zaP fs,shp false (g h))→zdO false (zbo g fs)
 |[],_,_=>by rw[zbo,zdO];trivial
 |f::fs,hf,h=>by
  rw[zaP]at h
  rw[zdO]at hf
  rw[zbo,zdO]
  exact⟨zkm f hf.1 fun x hx=>h x (List.mem_append_left _ hx),zjb fs hf.2 fun x hx=>h x (List.mem_append_right _ hx)⟩
end
mutual
theorem zi8 {p:Str→Prop}{g:Str→zac}:∀f:zac,zbS p f→(∀h∈zau f,zbS p (g h))→zbS p (zcw g f)
 | .mk k nm ws s,hf,h=>by
  rw[zau]at h
  rw[zcw]
  split
  ·rename_i hk;rw[if_pos hk]at h;exact h nm (by simp)
  ·rename_i hk
   rw[if_neg hk]at h
   rw[zbS]at hf ⊢
   exact⟨hf.1,hf.2.1,zhz s hf.2.2 h⟩
theorem zhz {p:Str→Prop}{g:Str→zac}:∀fs:List zac,zaS p fs→(∀h∈zaP fs,zbS p (g h))→zaS p (zbo g fs)
 |[],_,_=>by rw[zbo,zaS];trivial
 |f::fs,hf,h=>by
  rw[zaP]at h
  rw[zaS]at hf
  rw[zbo,zaS]
  exact⟨zi8 f hf.1 fun x hx=>h x (List.mem_append_left _ hx),zhz fs hf.2 fun x hx=>h x (List.mem_append_right _ hx)⟩
end
section
variable {s:zar} {l:List Nat}
theorem zmG (hs:ze3 s){i:Nat}(hi:i<nP s):(zaV true (zbH s i)).code=0:=by
 unfold zbH
 unfold nP at hi
 rw[List.getElem?_eq_getElem hi]
 exact hs.chk _ (List.getElem_mem hi)
theorem znf (hs:ze3 s)(h:okL s l):∀(f i:Nat),i<nP s→(∀j,j<nP s→upP (zjl s l) f j≠some i)→txW (zcv s l f i)
 |0,i,hi,hn=>absurd rfl (hn i hi)
 |f+1,i,hi,hn=>by
  have hk:=zmG hs hi
  have ih:∀x∈zau (zbH s i),txW (zcv s l f (inP s l x)):=fun x hx=>by
   rw[←zbV]at hx
   have hc:inP s l x∈zbr s l i:=List.mem_map_of_mem hx
   obtain⟨hcn,hp⟩:=(h.g.k i _ hi).1 hc
   exact znf hs h f _ hcn fun j hj hu=>hn j hj (by rw[zcW,hu];exact hp)
  rw[zcv]
  exact⟨zkm _ (zjG hk) fun x hx=>(ih x hx).s,zi8 _ (zil hk) fun x hx=>(ih x hx).a⟩
theorem znS (hs:ze3 s)(h:okL s l)(ht:zcx s l=true):txW (zcz s l):=
 znf hs h _ _ h.t.1 fun _ hj=>zfr h.p (zfb ht) h.t.1 hj
def ziX (s:zar)(l:List Nat):zac:=zaN (zcz s l) []
theorem zlt (hs:ze3 s)(h:okL s l)(ht:zcx s l=true):txW (ziX s l):=by
 have h1:=znS hs h ht
 have h2:=zcQ (l:=l) hs (nP s+1) (zdE (nP s) l)
 exact⟨zoU _ _ [] 0 h1.s,zih h2 (zck hs h ht) fun x hx=>zkO _ [] x h1.a hx⟩
theorem zxP (hs:ze3 s)(h:okL s l)(ht:zcx s l=true):txQ (ziX s l)∧(txt (ziX s l)).length≤1000000:=
 zGP (zlt hs h ht) (by unfold ziX;rw[zqG];exact zcQ hs _ _) (by unfold ziX;rw[zfG];exact zck hs h ht)
def zcC (s:zar):List zac:=(zdy s).map (ziX s)
def zdU (s:zar):List zac:=zoV (zcC s)
theorem zgY (hs:ze3 s){l:List Nat}(h:l∈zdy s):okL s l∧zcx s l=true∧okS s l=true:=by
 obtain⟨h1,h2,h3,h4,h5⟩:=ziM.1 h
 have h6:=h5
 unfold okS at h6
 simp only[Bool.and_eq_true]at h6
 exact⟨zCP hs h1 h2 h3 h4,h6.1.1,h5⟩
theorem zmI (hs:ze3 s):∀x∈zcC s,txW x:=fun x hx=>by
 obtain⟨l,hl,rfl⟩:=List.mem_map.1 hx
 obtain⟨h1,h2,_⟩:=zgY hs hl
 exact zlt hs h1 h2
end
end Go.Abs
namespace Go.Abs
open Go
def zoe (s:zar):List zac:=(zd7 s).map fun d=>zaN (zcz s (zaD d)) []
def zgB (s:zar):List Str:=(zoe s).foldl (fun l c=>ze6 l (txS c)) []
def pkS (s:zar)(t:Str):zac:=((zoe s).find? fun c=>decide (txS c=t)).getD default
section
variable {s:zar}
theorem zle (hs:ze3 s){x:zac}:x∈zoe s↔∃l∈zdy s,x=ziX s l:=by
 unfold zoe
 simp only[List.mem_map]
 constructor
 ·rintro⟨d,hd,rfl⟩
  obtain⟨l,hl,rfl⟩:=(ziL hs).1 hd
  exact⟨l,hl,by rw[zc3];rfl⟩
 ·rintro⟨l,hl,rfl⟩
  exact⟨zaF l,(ziL hs).2 ⟨l,hl,rfl⟩,by rw[zc3];rfl⟩
theorem zpk (hs:ze3 s){x:zac}(h:x∈zoe s):txW x:=by
 obtain⟨l,hl,rfl⟩:=(zle hs).1 h
 obtain⟨h1,h2,_⟩:=zgY hs hl
 exact zlt hs h1 h2
theorem zBh (hs:ze3 s){x:zac}(h:x∈zoe s):txQ x∧(txt x).length≤1000000:=by
 obtain⟨l,hl,rfl⟩:=(zle hs).1 h
 obtain⟨h1,h2,_⟩:=zgY hs hl
 exact zxP hs h1 h2
theorem zqg:zr5 (zgB s)∧∀t,t∈zgB s↔∃c∈zoe s,txS c=t:=by
 have e:zgB s=((zoe s).map txS).foldl ze6 []:=by unfold zgB;rw[List.foldl_map]
 rw[e]
 refine⟨zqd _ _ List.Pairwise.nil,fun t=>?_⟩
 rw[zpR]
 simp[List.mem_map]
theorem zt3 (hs:ze3 s){c:zac}(h:c∈zoe s):pkS s (txS c)=c:=by
 unfold pkS
 cases hf:(zoe s).find? fun d=>decide (txS d=txS c)with
 |none=>
  have:=List.find?_eq_none.1 hf c h
  simp at this
 |some d=>
  have h1:=List.find?_some hf
  have h2:=List.mem_of_find?_eq_some hf
  have h3:txS d=txS c:=by simpa using h1
  exact zlP (zpk hs h2) (zpk hs h) (congrArg Str.l h3)
theorem zlp (hs:ze3 s){t:Str}(h:t∈zgB s):pkS s t∈zoe s∧txS (pkS s t)=t:=by
 obtain⟨c,hc,rfl⟩:=(zqg.2 t).1 h
 rw[zt3 hs hc]
 exact⟨hc,rfl⟩
theorem zvE (hs:ze3 s):(zgB s).map (pkS s)=zdU s:=by
 obtain⟨h1,h2⟩:=zqg (s:=s)
 refine zp8 (zmI hs) ?_ fun x=>?_
 ·unfold zup
  rw[List.pairwise_map]
  refine List.Pairwise.imp_of_mem (fun{a b} ha hb hab=>?_) h1
  have ea:=congrArg Str.l (zlp hs ha).2
  have eb:=congrArg Str.l (zlp hs hb).2
  have e1:txt (pkS s a)=a.l:=ea
  have e2:txt (pkS s b)=b.l:=eb
  rw[e1,e2]
  exact hab
 ·have e:x∈zcC s↔x∈zoe s:=by
   rw[zle hs]
   unfold zcC
   simp only[List.mem_map]
   exact⟨fun⟨l,h,e⟩=>⟨l,h,e.symm⟩,fun⟨l,h,e⟩=>⟨l,h,e.symm⟩⟩
  rw[e,List.mem_map]
  constructor
  ·rintro⟨t,ht,rfl⟩
   exact(zlp hs ht).1
  ·intro hx
   exact⟨txS x,(h2 _).2 ⟨x,hx,rfl⟩,zt3 hs hx⟩
end
end Go.Abs

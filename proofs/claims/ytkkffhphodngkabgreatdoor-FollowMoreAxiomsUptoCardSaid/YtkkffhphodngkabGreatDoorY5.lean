/- several texts of this proof in one; no conditions -/
import Derived.Test.YtkkffhphodngkabGreatDoorAT
import Derived.Test.YtkkffhphodngkabGreatDoorY2
import Derived.Test.YtkkffhphodngkabGreatDoorY17
import Derived.Test.YtkkffhphodngkabGreatDoorY16
set_option maxRecDepth 100000
set_option maxHeartbeats 1000000
set_option linter.unusedSimpArgs false
namespace Go.Proofs.YtkkffhphodngkabGreatDoor
open Go Go.Abs Go.Proofs
section
variable {P:Program} {G:Nat→List FD} {T:Tbl}
theorem zy5 {α β ρ:Type}[Enc α][Enc β][Enc ρ]{f:FuncId}{g:α→β→ρ}(m:α→Nat)(hc:zan P f)(hT:zaq P G T)
  (h:∀n,zaq P G (T.add f (sp2 g fun a _=>m a<n))→∀a b,m a=n→(enc a).Wf→(enc b).Wf→zaw P G f [.fz (enc a),.fz (enc b)] (hpL []) 0 (fun d _ _=>D.val d=some (.fz (enc (g a b))))):zaq P G (T.add f (sp2 g fun _ _=>True)):=by
 have key:∀n,zaq P G (T.add f (sp2 g fun a _=>m a<n)):=by
  intro n
  induction n with
  |zero=>exact zbC hc hT fun a _ ha=>by omega
  |succ n ih=>
   refine zbC hc hT fun a b ha hw hw2=>?_
   rcases Nat.lt_or_ge (m a) n with h3|h3
   ·have h4:=ih f (sp2 g fun a _=>m a<n) [enc a,enc b] _ _ (by simp[Tbl.add]) (zBq) ⟨by rw[dec_enc],by rw[dec_enc],by rw[dec_enc];exact h3⟩
    rw[dec_enc,dec_enc,zdV]at h4
    exact h4
   ·exact h n ih a b (by omega) hw hw2
 exact zbC hc hT fun a b _ hw hw2=>h (m a) (key _) a b rfl hw hw2
end
theorem zuV {a b:Abs.zac}(h1:a.kind=b.kind)(h2:a.name=b.name)(h3:a.words=b.words)(h4:a.subs=b.subs):a=b:=by
 cases a;cases b;simp only[zai,zbV,zce,zaM]at*;subst h1 h2 h3 h4;rfl
theorem ziY {α:Type}{a b:List α}(h:a.length=b.length)(h2:a.take a.length=b.take a.length):a=b:=by
 rw[List.take_length]at h2
 rw[h,List.take_length]at h2
 exact h2
section
variable {P:Program} {G:Nat→List FD} {T:Tbl}
theorem zwc {α β ρ:Type}[Enc α][Enc β][Enc ρ]{f:FuncId}{g:α→β→ρ}{pre:α→β→Prop}(m:α→Nat)(hc:zan P f)(hT:zaq P G T)
  (h:∀n,zaq P G (T.add f (sp2 g fun a b=>m a<n∧pre a b))→∀a b,m a=n→pre a b→(enc a).Wf→(enc b).Wf→zaw P G f [.fz (enc a),.fz (enc b)] (hpL []) 0 (fun d _ _=>D.val d=some (.fz (enc (g a b))))):zaq P G (T.add f (sp2 g pre)):=by
 have key:∀n,zaq P G (T.add f (sp2 g fun a b=>m a<n∧pre a b)):=by
  intro n
  induction n with
  |zero=>exact zbC hc hT fun a b ha=>by omega
  |succ n ih=>
   refine zbC hc hT fun a b ha hw hw2=>?_
   rcases Nat.lt_or_ge (m a) n with h1|h1
   ·have h2:=ih f (sp2 g fun a b=>m a<n∧pre a b) [enc a,enc b] _ _ (by simp[Tbl.add]) (zBq) ⟨by rw[dec_enc],by rw[dec_enc],by rw[dec_enc,dec_enc];exact⟨h1,ha.2⟩⟩
    rw[dec_enc,dec_enc,zdV]at h2
    exact h2
   ·exact h n ih a b (by omega) ha.2 hw hw2
 exact zbC hc hT fun a b ha hw hw2=>h (m a) (key _) a b rfl ha hw hw2
end
def N1:Tbl:=R4.add 111 (sp2 (fun a b:List Str=>decide (a=b)) fun _ _=>True)
attribute [go_sem] N1
theorem hN1:zaq Tryz.prog GA N1:=by
 refine zbC zEN hR4 fun a b _ hwa hwb=>?_
 obtain⟨Q,hQ⟩:∃Q:D→zav→Nat→Prop,Q=(fun d _ _=>D.val d=some (.fz (enc (decide (a=b))))):=⟨_,rfl⟩
 rw[←hQ]
 have hf:a≠b→∀{H' n'},Q (.fz (.b false)) H' n':=fun h H' n'=>by rw[hQ];show _=some (D.fz (.b (decide (a=b))));rw[decide_eq_false h];rfl
 have ht:a=b→∀{H' n'},Q (.fz (.b true)) H' n':=fun h H' n'=>by rw[hQ];show _=some (D.fz (.b (decide (a=b))));rw[decide_eq_true h];rfl
 have hsl:a.length≤zbe:=by
  have:=zdf hwa
  simpa using this
 unfold zbe at hsl
 have kf:=Kp.mk @hf
 have kt:=Kp.mk @ht
 clear hf ht hQ hwa hwb
 refine zae (N:=26) hm hR4 111000 (lst []) zEN Tryz.func111 rfl rfl (by simp) (by kernel_rfl) ?_
 repeat'(first|refine zbu.d (fun _=>?_) (fun _=>?_)|refine rq fun _=>?_|simp only[go_sem,Tryz.f111])
 all_goals try(refine kf.out (fun e=>?_);subst e;omega)
 rename_i e1
 have hlen:a.length=b.length:=by omega
 refine zat hm hR4 111000 (lst []) (ι:=zhd a.length fun i=>a.take i=b.take i)
  ⟨fun q=>⟨frL [(0,.fz (.sl (a.map enc))),(1,.fz (.sl (b.map enc))),(12,.fz (.i .i64 a.length)),(13,.fz (.i .i64 q.i))],hpL [],0⟩,fun q=>a.length-q.i⟩
  ⟨0,by omega,rfl⟩ (by kernel_rfl) ?_ ?_
 ·refine zaj ?_ ?_ ?_<;>simp only[go_sem]
 rintro⟨i,hi,hpi⟩
 rcases Nat.lt_or_ge i a.length with h1|h1
 ·have h2:i<b.length:=by omega
  obtain⟨x,hx⟩:∃x,a[i]=x:=⟨_,rfl⟩
  obtain⟨y,hy⟩:∃y,b[i]=y:=⟨_,rfl⟩
  by_cases hxy:x=y
  ·repeat'(first|refine rq fun _=>?_|simp only[go_sem,h1,h2,hx,hy,eq_true hxy,zaa,Tryz.f111])
   refine⟨⟨i+1,by omega,?_⟩,by simp only;omega,?_⟩
   ·rw[List.take_succ_eq_append_getElem h1,List.take_succ_eq_append_getElem h2,hpi,hx,hy,hxy]
   ·refine zaj ?_ ?_ ?_<;>simp only[go_sem]
  ·repeat'(first|refine rq fun _=>?_|simp only[go_sem,h1,h2,hx,hy,eq_false hxy,zaa,Tryz.f111])
   exact kf.out fun e=>hxy (by subst e;rw[←hx,←hy])
 ·have h1':¬i<a.length:=by omega
  obtain rfl:i=a.length:=by omega
  repeat'(first|refine rq fun _=>?_|simp only[go_sem,Nat.lt_irrefl,h1',Tryz.f111])
  exact kt.out (ziY hlen hpi)
def N2:Tbl:=N1.add 74 (sp2 (fun a b:Abs.zac=>decide (a=b)) fun _ _=>True)
attribute [go_sem] N2
theorem hN2:zaq Tryz.prog GA N2:=by
 refine zy5 zac.size zLj hN1 fun n hT a b hn hwa hwb=>?_
 obtain⟨Q,hQ⟩:∃Q:D→zav→Nat→Prop,Q=(fun d _ _=>D.val d=some (.fz (enc (decide (a=b))))):=⟨_,rfl⟩
 rw[←hQ]
 have hf:a≠b→∀{H' n'},Q (.fz (.b false)) H' n':=fun h H' n'=>by rw[hQ];show _=some (D.fz (.b (decide (a=b))));rw[decide_eq_false h];rfl
 have ht:a=b→∀{H' n'},Q (.fz (.b true)) H' n':=fun h H' n'=>by rw[hQ];show _=some (D.fz (.b (decide (a=b))));rw[decide_eq_true h];rfl
 have hsl:a.subs.length≤zbe:=by
  have h:=zbS (by have h:=hwa;rw[zaE]at h;exact h) (FD.sl (a.subs.map enc)) (by simp)
  have:=zdf h
  simpa using this
 unfold zbe at hsl
 have hsz:∀g∈a.subs,g.size<n:=fun g hg=>by have:=zac.size_sub hg;omega
 have kf:=Kp.mk @hf
 have kt:=Kp.mk @ht
 have kz:=Kp.mk hsz
 have kT:=Kp.mk hT
 clear hf ht hQ hwa hwb hsz hT
 refine zae (N:=54) hm kT.out 74000 (lst []) zLj Tryz.func74 rfl rfl (by simp) (by kernel_rfl) ?_
 repeat'(first|refine zbu.d (fun _=>?_) (fun _=>?_)|refine zbu.i (fun _=>?_) (fun _=>?_)|refine rq fun _=>?_|simp only[go_sem,Tryz.f74, *])
 all_goals try(refine kf.out (fun e=>?_);subst e;contradiction)
 rename_i e1 e2 e3 e4
 have hlen:a.subs.length=b.subs.length:=by omega
 refine zat hm kT.out 74000 (lst []) (ι:=zhd a.subs.length fun i=>a.subs.take i=b.subs.take i)
  ⟨fun q=>⟨frL [(2,.ptr (74002,0) 0),(3,.ptr (74003,1) 0),(37,.fz (.i .i64 a.subs.length)),(38,.fz (.i .i64 q.i))],
   hpL [((74002,0),some ⟨[.fz (.i .i64 a.kind),.fz (.s a.name.l),.fz (.sl (a.words.map enc)),.fz (.sl (a.subs.map enc))],true,false⟩),((74003,1),some ⟨[.fz (.i .i64 b.kind),.fz (.s b.name.l),.fz (.sl (b.words.map enc)),.fz (.sl (b.subs.map enc))],true,false⟩)],2⟩,fun q=>a.subs.length-q.i⟩
  ⟨0,by omega,rfl⟩ (by kernel_rfl) ?_ ?_
 ·refine zaj ?_ ?_ ?_<;>simp only[go_sem, *]
 rintro⟨i,hi,hpi⟩
 rcases Nat.lt_or_ge i a.subs.length with h1|h1
 ·have h2:i<b.subs.length:=by omega
  obtain⟨x,hx⟩:∃x,a.subs[i]=x:=⟨_,rfl⟩
  obtain⟨y,hy⟩:∃y,b.subs[i]=y:=⟨_,rfl⟩
  have hxs:x.size<n:=kz.out x (by rw[←hx];exact List.getElem_mem h1)
  by_cases hxy:x=y
  ·repeat'(first|refine rq fun _=>?_|simp only[go_sem,h1,h2,hx,hy,hxs,eq_true hxy,zaa,Tryz.f74])
   refine⟨⟨i+1,by omega,?_⟩,by simp only;omega,?_⟩
   ·rw[List.take_succ_eq_append_getElem h1,List.take_succ_eq_append_getElem h2,hpi,hx,hy,hxy]
   ·refine zaj ?_ ?_ ?_<;>simp only[go_sem]
  ·repeat'(first|refine rq fun _=>?_|simp only[go_sem,h1,h2,hx,hy,hxs,eq_false hxy,zaa,Tryz.f74])
   exact kf.out fun e=>hxy (by subst e;rw[←hx,←hy])
 ·have h1':¬i<a.subs.length:=by omega
  obtain rfl:i=a.subs.length:=by omega
  repeat'(first|refine rq fun _=>?_|simp only[go_sem,Nat.lt_irrefl,h1',Tryz.f74])
  exact kt.out (zuV e1 e2 e3 (ziY hlen hpi))
def zlO (f:Abs.zac):Abs.zac:=zaC (zbx f) []
def N3:Tbl:=N2.add 68 (sp1 zlO fun f=>f.fit=true∧f.size≤900)
attribute [go_sem] N3
theorem hN3:zaq Tryz.prog GA N3:=by
 refine zb3 zLg hN2 fun f hp _=>?_
 have hp2:(zbx f).fit=true∧(zbx f).size≤1000:=⟨by simp[zbx,zac.fit,zac.fits,hp.1],by simp only[zbx,zac.size,zac.sizes];omega⟩
 have dN:Abs.zac.mk 4 ⟨[]⟩ [] [f]=zbx f:=rfl
 have nk:(zbx f).kind=4:=rfl
 have nn:(zbx f).name.l=[]:=rfl
 have nw:(zbx f).words=[]:=rfl
 have ns:(zbx f).subs=[f]:=rfl
 unfold zlO
 obtain⟨R,hR⟩:∃R,zaC (zbx f) []=R:=⟨_,rfl⟩
 rw[hR]
 refine zae (N:=7) hm hN2 68000 (lst []) zLg Tryz.func68 rfl rfl (by simp) (by kernel_rfl) ?_
 repeat'(first|refine zaA.i ⟨rfl,hp2⟩ fun _=>?_|refine zaA.i hp2 fun _=>?_|refine And.intro ?_ ?_|exact True.intro|refine rq fun _=>?_|simp only[go_sem,dN,hR,nk,nn,nw,ns,zab,Tryz.f68])
def N4:Tbl:=N3.add 44 (sp2 zmw fun _ n=>0≤n∧n≤2000)
attribute [go_sem] N4
theorem hN4:zaq Tryz.prog GA N4:=by
 refine zwc Prf.size zLd hN3 fun k hT p n hk hpre hwp _=>?_
 have hpn:=hpre
 have hsl:p.subs.length≤zbe:=by
  have h:=zbS (by have h:=hwp;rw[zaS]at h;exact h) (FD.sl (p.subs.map enc)) (by simp)
  have:=zdf h
  simpa using this
 unfold zbe at hsl
 have hsz:∀q∈p.subs,q.size<k:=fun q hq=>by have:=Prf.size_sub hq;omega
 rw[zAI]
 obtain⟨l,hl⟩:∃l,p.subs=l:=⟨_,rfl⟩
 rw[hl]at hsz hsl
 rw[hl]
 have kT:=Kp.mk hT
 have kz:=Kp.mk hsz
 clear hT hsz hk hwp hpre
 refine zae (N:=24) hm kT.out 44000 (lst []) zLd Tryz.func44 rfl rfl (by simp) (by kernel_rfl) ?_
 repeat'(first|refine And.intro ?_ ?_|exact True.intro|refine rq fun _=>?_|simp only[go_sem,hl,zal,Tryz.f44])
 refine zat hm kT.out 44000 (lst []) (ι:=zcW l.length 1 fun i=>zb4 (l.take i) (n+1)≤2001∧n+1≤zb4 (l.take i) (n+1))
  ⟨fun q=>⟨frL [(1,.fz (.i .i64 (zb4 (l.take q.i) (n+1)))),(2,.ptr (44002,0) 0),(10,.fz (.sl (l.map enc))),(11,.fz (.i .i64 l.length)),(12,.fz (.i .i64 q.i))],
   hpL [((44002,0),some ⟨[.fz (.i .i64 p.kind),.fz (.i .i64 p.form),.fz (.i .i64 p.other),.fz (.s p.name.l),.fz (.sl (l.map enc))],true,false⟩)],q.m⟩,fun q=>l.length-q.i⟩
  ⟨0,1,by omega,by omega,by rw[List.take_zero,zb4];omega⟩ (by kernel_rfl) ?_ ?_
 ·refine zaj ?_ ?_ ?_<;>simp only[go_sem,zb4,hl]
  all_goals first|done|rfl|omega
 rintro⟨i,m,hi,hm1,hb1,hb2⟩
 try simp only at hi hm1 hb1 hb2
 have ht:∀_:Nat,zb4 (l.take i++l.drop i) (n+1)=zb4 (l.drop i) (zb4 (l.take i) (n+1)):=fun _=>ziR _ _ _
 obtain⟨c,hc⟩:∃c,zb4 (l.take i) (n+1)=c:=⟨_,rfl⟩
 rw[hc]at hb1 hb2
 rcases Nat.lt_or_ge i l.length with h1|h1
 ·obtain⟨x,hx⟩:∃x,l[i]=x:=⟨_,rfl⟩
  have hxs:x.size<k:=kz.out x (by rw[←hx];exact List.getElem_mem h1)
  have hdr:l.drop i=x::l.drop (i+1):=by rw[←hx];exact List.drop_eq_getElem_cons h1
  by_cases h2:2000<c
  ·have e:zb4 l (n+1)=c:=by
    have:=ht 0
    rw[List.take_append_drop,hc,hdr,zb4,if_pos h2]at this
    exact this
   rw[e]
   repeat'(first|refine And.intro ?_ ?_|exact True.intro|refine rq fun _=>?_|simp only[go_sem,h1,hc,h2,hx,zaa,zal,Tryz.f44])
  ·have hxp:x.size<k∧(0≤c∧c≤2000):=⟨hxs,by omega,by omega⟩
   have es:zb4 (l.take (i+1)) (n+1)=zmw x c:=by
    rw[List.take_succ_eq_append_getElem h1,ziR,hc,hx,zb4,if_neg h2,zb4]
   have hle:=zla x c (by omega)
   obtain⟨r,hr⟩:∃r,zmw x c=r:=⟨_,rfl⟩
   rw[hr]at es hle
   repeat'(first|refine zaA.i hxp fun _=>?_|refine And.intro ?_ ?_|exact True.intro|refine rq fun _=>?_|simp only[go_sem,h1,hc,h2,hx,hr,zaa,zal,Tryz.f44])
   refine⟨⟨i+1,m+1,by omega,by omega,by rw[es];omega⟩,by simp only;omega,?_⟩
   refine zaj ?_ ?_ ?_<;>simp only[go_sem,es]
   all_goals first|done|rfl|omega
 ·obtain rfl:i=l.length:=by omega
  rw[List.take_length]at hc
  rw[hc]
  repeat'(first|refine And.intro ?_ ?_|exact True.intro|refine rq fun _=>?_|simp only[go_sem,Nat.lt_irrefl,List.take_length,hc,zal,Tryz.f44])
end Go.Proofs.YtkkffhphodngkabGreatDoor
namespace Go.Proofs.YtkkffhphodngkabGreatDoor
open Go Go.Abs Go.Proofs
def zrY:List Abs.zac→Nat→zbp
 |[],_=>⟨0,0⟩
 |f::l,i=>if(zaz false f).code≠0 then⟨(zaz false f).code,i⟩else zrY l (i+1)
def zk4 (l:List Abs.zac):List Abs.zac:=l.map fun f=>zaC f []
theorem zk5 (l:List Abs.zac):(zk4 l).length=l.length:=List.length_map _
def za8 (ax:List Abs.zac)(g:Abs.zac):List Abs.zac×zbp:=
 if 40<ax.length then([],⟨2, -1⟩)else if(zrY ax 0).code≠0 then([],zrY ax 0)
 else if(zaz false g).code≠0 then([],⟨(zaz false g).code, -2⟩)else(zk4 ax++[zlO g],⟨0,0⟩)
theorem zmI:∀(l:List Abs.zac) (k i:Nat) (h:i<l.length),(∀f∈l.take i,(zaz false f).code=0)→(zaz false l[i]).code≠0→zrY l k=⟨(zaz false l[i]).code,((k+i:Nat):Int)⟩
 |f::l,k,0,_,_,h2=>by
  have h3:(zaz false f).code≠0:=h2
  rw[zrY,if_pos h3];rfl
 |f::l,k,i+1,h,h1,h2=>by
  rw[zrY,if_neg (by simp[h1 f (by simp)]),zmI l (k+1) i (by simpa using h) (fun g hg=>h1 g (by rw[List.take_succ_cons];exact List.mem_cons_of_mem _ hg)) h2]
  simp only[List.getElem_cons_succ,zbp.mk.injEq,true_and]
  omega
theorem ziE:∀(l:List Abs.zac) (k:Nat),(∀f∈l,(zaz false f).code=0)→zrY l k=⟨0,0⟩
 |[],_,_=>rfl
 |f::l,k,h=>by rw[zrY,if_neg (by simp[h f (by simp)]),ziE l _ fun g hg=>h g (by simp[hg])]
def zwm:Tv:=(.q 0 (.q 1 (.q 2 (.q 3 (.q 4 (.br [(5,.leaf)]))))))
def zrv:Tv:=(.q 0 (.q 1 (.q 2 (.q 3 (.br [(4,.leaf)])))))
def N5:Tbl:=N4.add 43 (zAa za8 fun _ _=>True)
attribute [go_sem] N5
set_option maxHeartbeats 4000000 in
theorem hN5:zaq Tryz.prog GA N5:=by
 refine zjB zJe hN4 fun ax g _ hwa _=>?_
 have hsl:ax.length≤zbe:=by
  have:=zdf hwa
  simpa using this
 unfold zbe at hsl
 clear hwa
 by_cases h40:40<ax.length
 ·have e:za8 ax g=([],⟨2, -1⟩):=by unfold za8;rw[if_pos h40]
  have h40':((40:Int)<ax.length)=True:=eq_true (by omega)
  rw[e]
  refine zae (N:=51) hm hN4 43000 (lsw [35,49] [1000009,1000014]) zJe Tryz.func43 rfl rfl (by simp) (by kernel_rfl) ?_
  repeat'(first|refine And.intro ?_ ?_|exact True.intro|refine rq fun _=>?_|simp only[go_sem,h40',zab,Tryz.f43])
 have h40':((40:Int)<ax.length)=False:=eq_false (by omega)
 refine zae (N:=51) hm hN4 43000 (lsw [35,49] [1000009,1000014]) zJe Tryz.func43 rfl rfl (by simp) (by kernel_rfl) ?_
 repeat'(first|refine And.intro ?_ ?_|exact True.intro|refine rq fun _=>?_|simp only[go_sem,h40',zab,Tryz.f43])
 refine zat hm hN4 43000 (lsw [35,49] [1000009,1000014]) (ι:=zh6 ax.length 3 fun i=>∀f∈ax.take i,(zaz false f).code=0)
  ⟨fun q=>⟨frL [(3,.ptr (43003,0) 0),(5,.ptr (43005,1) 0),(6,.ow (43035,q.g) 4 ((zk4 (ax.take q.i)).map enc)),(15,.fz (.sl (ax.map enc))),(16,.fz (.i .i64 ax.length)),(17,.fz (.i .i64 q.i))],
   hpL [((43003,0),some ⟨[.fz (.i .i64 g.kind),.fz (.s g.name.l),.fz (.sl (g.words.map enc)),.fz (.sl (g.subs.map enc))],true,false⟩),((43005,1),some ⟨[.fz (.i .i64 0),.fz (.i .i64 0)],true,false⟩),((43035,q.g),some tok)],q.m⟩,fun q=>ax.length-q.i⟩
  ⟨0,2,3,by omega,by omega,by omega,by simp⟩ (by kernel_rfl) ?_ ?_
 ·refine zbm [] [(43035,2)] [] ?_ ?_ ?_ ?_ ?_<;>simp only[go_sem]
  all_goals first|done|rfl|omega
 rintro⟨i,gg,m,hi,hg,hm1,hp⟩
 try simp only at hi hg hm1 hp
 rcases Nat.lt_or_ge i ax.length with h1|h1
 ·obtain⟨x,hx⟩:∃x,ax[i]=x:=⟨_,rfl⟩
  by_cases hc:(zaz false x).code=0
  rotate_left
  ·have eb:=zmI ax 0 i h1 hp (by rw[hx];exact hc)
   rw[hx,Nat.zero_add]at eb
   have e:za8 ax g=([],⟨(zaz false x).code,(i:Int)⟩):=by unfold za8;rw[if_neg h40,eb,if_pos hc]
   rw[e]
   obtain⟨X,hX⟩:∃X,zaz false x=X:=⟨_,rfl⟩
   rw[hX]at hc
   rw[hX]
   repeat'(first|refine zar (id:=9) hm hN4 43000 (lsw [35,49] [1000009,1000014]) zwm (by kernel_rfl) (by kernel_rfl) ?_|refine And.intro ?_ ?_|exact True.intro|refine rq fun _=>?_|simp only[go_sem,h1,hx,hX,hc,zaa,zab,zwm,Tryz.f43])
  ·have hcz:=zeK hc
   have hcp:x.fit=true∧x.size≤1000:=⟨zbW hc,by have:=zaY hc;omega⟩
   have et:zk4 (ax.take (i+1))=zk4 (ax.take i)++[zaC x []]:=by
    unfold zk4
    rw[List.take_succ_eq_append_getElem h1,List.map_append,hx];rfl
   have hlt:(zk4 (ax.take i)).length=i:=by rw[zk5,List.length_take];omega
   repeat'(first|refine zaA.i hcp fun _=>?_|refine rf fun _=>?_|refine And.intro ?_ ?_|exact True.intro|refine rq fun _=>?_|simp only[go_sem,h1,hx,hcz,zaa,zab,Tryz.f43])
   refine⟨⟨i+1,m+2,m+3,by omega,by omega,by omega,?_⟩,by simp only;omega,?_⟩
   ·rw[List.take_succ_eq_append_getElem h1,hx]
    intro f hf
    rcases List.mem_append.1 hf with hf|hf
    ·exact hp f hf
    ·rw[List.mem_singleton.1 hf];exact hc
   refine zaj ?_ ?_ ?_<;>simp only[go_sem,et,List.map_append]
   all_goals first|done|rfl|omega
 ·obtain rfl:i=ax.length:=by omega
  rw[List.take_length]at hp
  have eb:=ziE ax 0 hp
  by_cases hc:(zaz false g).code=0
  rotate_left
  ·have e:za8 ax g=([],⟨(zaz false g).code, -2⟩):=by unfold za8;rw[if_neg h40,eb,if_neg (by decide),if_pos hc]
   rw[e]
   obtain⟨X,hX⟩:∃X,zaz false g=X:=⟨_,rfl⟩
   rw[hX]at hc
   rw[hX]
   repeat'(first|refine zar (id:=14) hm hN4 43000 (lsw [35,49] [1000009,1000014]) zrv (by kernel_rfl) (by kernel_rfl) ?_|refine And.intro ?_ ?_|exact True.intro|refine rq fun _=>?_|simp only[go_sem,Nat.lt_irrefl,hX,hc,zab,zrv,Tryz.f43])
  ·have hcz:=zeK hc
   have hgp:g.fit=true∧g.size≤900:=⟨zbW hc,by have:=zaY hc;omega⟩
   have e:za8 ax g=(zk4 ax++[zlO g],⟨0,0⟩):=by unfold za8;rw[if_neg h40,eb,if_neg (by decide),if_neg (by simp[hc])]
   rw[e]
   obtain⟨R,hR⟩:∃R,zlO g=R:=⟨_,rfl⟩
   rw[hR]
   have hlt:(zk4 ax).length=ax.length:=zk5 ax
   repeat'(first|refine zaA.i hgp fun _=>?_|refine rf fun _=>?_|refine And.intro ?_ ?_|exact True.intro|refine rq fun _=>?_|simp only[go_sem,Nat.lt_irrefl,List.take_length,hcz,hR,zab,List.map_append,Tryz.f43])
end Go.Proofs.YtkkffhphodngkabGreatDoor
namespace Go.Proofs.YtkkffhphodngkabGreatDoor
open Go Go.Abs Go.Proofs
section
variable {P:Program} {G:Nat→List FD} {T:Tbl}
def zFu {α ρ σ τ υ:Type}[Enc α][Enc ρ][Enc σ][Enc τ][Enc υ](f:α→ρ×σ×τ×υ)(pre:α→Prop):List FD→Option (D×Prop)
 |[x]=>some (.tup [.fz (enc (f (dec x)).1),.fz (enc (f (dec x)).2.1),.fz (enc (f (dec x)).2.2.1),.fz (enc (f (dec x)).2.2.2)],x=enc (dec (α:=α) x)∧pre (dec x))
 |_=>none
@[go_sem] theorem zKT {α ρ σ τ υ:Type}[Enc α][Enc ρ][Enc σ][Enc τ][Enc υ]{f:α→ρ×σ×τ×υ}{pre:α→Prop}{x:FD}:zFu f pre [x]=some (.tup [.fz (enc (f (dec x)).1),.fz (enc (f (dec x)).2.1),.fz (enc (f (dec x)).2.2.1),.fz (enc (f (dec x)).2.2.2)],x=enc (dec (α:=α) x)∧pre (dec x)):=rfl
theorem zwb {α ρ σ τ υ:Type}[Enc α][Enc ρ][Enc σ][Enc τ][Enc υ]{f:FuncId}{g:α→ρ×σ×τ×υ}{pre:α→Prop}(hc:zan P f)(hT:zaq P G T)
  (h:∀a,pre a→(enc a).Wf→zaw P G f [.fz (enc a)] (hpL []) 0 (fun d _ _=>D.val d=some (.tup [.fz (enc (g a).1),.fz (enc (g a).2.1),.fz (enc (g a).2.2.1),.fz (enc (g a).2.2.2)]))):zaq P G (T.add f (zFu g pre)):=by
 refine zcq hT fun xs r c hx hcc=>?_
 unfold zFu at hx
 split at hx
 ·rename_i x
  simp only[Option.some.injEq,Prod.mk.injEq]at hx
  obtain⟨rfl,rfl⟩:=hx
  obtain⟨e,hp⟩:=hcc
  refine zdu hc fun hw=>?_
  rw[zdV]
  have:=h (dec x) hp (by rw[←e];exact hw x (by simp))
  rw[←e]at this
  exact this
 ·cases hx
end
def zFa (_:Abs.zac):Int×List Abs.zac×Abs.zac×Bool:=(0,[],za7,false)
def zwo:Tv:=(.q 0 (.q 1 (.q 2 (.br [(3,(.q 4 .leaf))]))))
def N6:Tbl:=N5.add 70 (zFu zFa fun f=>f.kind=2)
attribute [go_sem] N6
theorem hN6:zaq Tryz.prog GA N6:=by
 refine zwb zoM hN5 fun f hk _=>?_
 have zk:za7.kind=0:=rfl
 have zn:za7.name.l=[]:=rfl
 have zw:za7.words=[]:=rfl
 have zs:za7.subs=[]:=rfl
 refine zae (N:=131) hm hN5 70000 (lst [1000004,1000006,1000008,1000010,1000012,1000017,1000019,1000021,1000023,1000025,1000027,1000028]) zoM Tryz.func70 rfl rfl (by simp) (by kernel_rfl) ?_
 repeat'(first|refine zar (id:=28) hm hN5 70000 (lst [1000004,1000006,1000008,1000010,1000012,1000017,1000019,1000021,1000023,1000025,1000027,1000028]) zwo (by kernel_rfl) (by kernel_rfl) ?_|refine And.intro ?_ ?_|exact True.intro|refine rq fun _=>?_|simp only[go_sem,hk,zFa,zk,zn,zw,zs,zab,zwo,Tryz.f70])
theorem f69 {l:List Abs.zac}{i:Int}{id:Abs.Id}{H:zav}{n:Nat}{R:D→zav→Nat→Prop}(_hid:id.2<n)(ho:H id=some ⟨[.fz (.sl (l.map enc))],true,false⟩)(h0:0≤i)(h1:i<l.length)(_h2:l.length≤1000000)(hR:∀n',n≤n'→R (.fz (.b true)) H n'):
  zaw Tryz.prog GA 69 [.fz (.i .i64 i),.ptr id 0] H n R:=by
 refine zby zG1 (fun hfr=>?_) hR
 obtain⟨Q,hQ⟩:∃Q:D→zav→Nat→Prop,Q=(fun d' H' n'=>d'= .fz (.b true)∧n≤n'∧∀id,id.2<n→H' id=H id):=⟨_,rfl⟩
 rw[←hQ]
 have e:H=hpX [] H:=rfl
 have hge:(0≤i)=True:=eq_true h0
 have hlt:(i<(l.length:Int))=True:=eq_true h1
 rw[e]
 refine zae (N:=12) hm hN6 69000 (lst []) zG1 Tryz.func69 rfl rfl (by simp) (by kernel_rfl) ?_
 repeat'(first|refine And.intro ?_ ?_|exact True.intro|refine rq fun _=>?_|simp only[go_sem,ho,hge,hlt,Tryz.f69,hpX])
 all_goals
  rw[hQ]
  exact⟨rfl,by omega,fun id _=>rfl⟩
def zL5 (_:List Abs.zac)(p:Prf):Bool:=decide (p.kind=1)
def zDn (l:List Abs.zac)(p:Prf):Prop:=∃f,f.kind=2∧l=[f,zlO f]∧(f.fit=true∧f.size≤900)∧p.form=0∧((p.kind=1∧p.other=1∧p.subs=[])∨p.kind=3)
def N7:Tbl:=N6.add 45 (sp2 zL5 zDn)
attribute [go_sem] N7
end Go.Proofs.YtkkffhphodngkabGreatDoor

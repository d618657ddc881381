/- several texts of this proof in one; no conditions -/
import Derived.Test.YtmconmiemdinkaaGreatDoorAT
import Derived.Test.YtmconmiemdinkaaGreatDoorY4
import Derived.Test.YtmconmiemdinkaaGreatDoorY5
import Derived.Test.YtmconmiemdinkaaGreatDoorY17
import Derived.Test.YtmconmiemdinkaaGreatDoorY1
set_option maxRecDepth 100000
set_option maxHeartbeats 1000000
set_option linter.unusedSimpArgs false
namespace Go.Proofs.YtmconmiemdinkaaGreatDoor
open Go Go.Abs Go.Proofs
section
variable {P:Program} {G:Nat→List FD} {T:Tbl}
theorem zo5 {α β γ ρ:Type}[Enc α][Enc β][Enc γ][Enc ρ]{f:FuncId}{g:α→β→γ→ρ}{pre:α→β→γ→Prop}(m:α→β→γ→Nat)(hc:zal P f)(hT:zai P G T)
  (h:∀n,zai P G (T.add f (sp3 g fun a b c=>m a b c<n∧pre a b c))→∀a b c,m a b c=n→pre a b c→(enc a).Wf→(enc b).Wf→(enc c).Wf→zaH P G f [.fz (enc a),.fz (enc b),.fz (enc c)] (hpL []) 0 (fun d _ _=>D.val d=some (.fz (enc (g a b c))))):zai P G (T.add f (sp3 g pre)):=by
 have key:∀n,zai P G (T.add f (sp3 g fun a b c=>m a b c<n∧pre a b c)):=by
  intro n
  induction n with
  |zero=>exact zmG hc hT fun a b c ha=>by omega
  |succ n ih=>
   refine zmG hc hT fun a b c hp hw hw2 hw3=>?_
   rcases Nat.lt_or_ge (m a b c) n with h3|h3
   ·have h4:=ih f (sp3 g fun a b c=>m a b c<n∧pre a b c) [enc a,enc b,enc c] _ _ (by simp[Tbl.add]) (zES) ⟨by rw[dec_enc],by rw[dec_enc],by rw[dec_enc],by rw[dec_enc,dec_enc,dec_enc];exact⟨h3,hp.2⟩⟩
    rw[dec_enc,dec_enc,dec_enc,zft]at h4
    exact h4
   ·exact h n ih a b c (by omega) hp.2 hw hw2 hw3
 exact zmG hc hT fun a b c hp hw hw2 hw3=>h (m a b c) (key _) a b c rfl hp hw hw2 hw3
end
def Sc0:Tbl:=Tbl.or X33 A19
theorem zFE:zai Tryz.prog GA Sc0:=zhc zFI zHS
def Sc1:Tbl:=Sc0.add 59 (sp2 inQ fun p h=>h∈p.holes∧p.pieces.length=p.holes.length)
theorem zIh:zai Tryz.prog GA Sc1:=by
 refine zbC zGV zFE fun p h hp _ _=>?_
 obtain⟨hh,hl⟩:=hp
 have hk:=List.idxOf_lt_length_of_mem hh
 obtain⟨k,hke⟩:∃k,p.holes.idxOf h=k:=⟨_,rfl⟩
 rw[hke]at hk
 have hix:idx p.holes h=(k:Int):=by unfold idx;rw[if_pos hh,hke]
 have hkp:k<p.pieces.length:=by omega
 have he:inQ p h=p.pieces[k]:=by
  unfold inQ
  rw[hke,List.getD_eq_getElem?_getD,List.getElem?_eq_getElem hkp];rfl
 obtain⟨v,hv⟩:∃v,p.pieces[k]=v:=⟨_,rfl⟩
 rw[hv]at he
 refine zam (N:=13) Go.Proofs.YtmconmiemdinkaaGreatDoor.hm zFE 59000 (lst []) zGV Tryz.func59 rfl rfl (by simp) (by kernel_rfl) ?_
 repeat'(first|refine And.intro ?_ ?_|exact True.intro|refine rq fun _=>?_|refine rf fun _=>?_|simp only[go_sem,hix,hkp,hv,he,zac,zad,zaM,zak,zap,zaa,Tryz.f59,Sc0])
 all_goals first|done|rfl|omega
def Sc2:Tbl:=Sc1.add 58 (sp3 zdk zhz)
set_option maxHeartbeats 4000000 in
theorem zIi:zai Tryz.prog GA Sc2:=by
 refine zo5 zrD zGU zIh fun n hT p s i hn hp _ _ _=>?_
 have hbe:=zrE hp
 have hlen:=zwY hp
 have hkid:=fun x hx=>zwX (x:=x) hp hx
 obtain⟨I,hI⟩:∃I:Nat,i=(I:Int):=⟨i.toNat,by have:=hp.i0;omega⟩
 subst hI
 have hIn:I<s.pieces.length:=by have:=hp.i1;rw[Int.toNat_natCast]at this;exact this
 rw[Int.toNat_natCast]at hbe hkid
 obtain⟨pc,hpc⟩:∃pc,s.pieces[I]=pc:=⟨_,rfl⟩
 have hho:zb0 s I=zas pc.form:=by unfold zb0;rw[List.getElem?_eq_getElem hIn,hpc]
 have hfz:pc.form.size≤1000:=by have:=zbo (hp.g.c.chk pc (by rw[←hpc];exact List.getElem_mem hIn));omega
 have hin:∀x∈zas pc.form,(x∈p.holes∧p.pieces.length=p.holes.length)∧inQ p x=((inP s (zaC p.pieces) x:Nat):Int):=fun x hx=>by
  have hxa:x∈zbt s.pieces:=zdX (i:=I) (by rw[hho];exact hx)
  have h1:p.holes=zbt s.pieces:=by rw[hp.g.e];rfl
  have h2:=zke hp.g.l hxa
  rw[←hp.g.e]at h2
  have h3:p.pieces.length=(zaC p.pieces).length:=by unfold zaC;rw[List.length_map]
  exact⟨⟨by rw[h1];exact hxa,by rw[h1,h3];exact hp.g.l.e⟩,h2⟩
 rw[hho]at hbe hkid
 obtain⟨B,hB⟩:∃B:Nat→List Int,B=fun j=>((zas pc.form).take j).flatMap fun x=>zdk p s ((inP s (zaC p.pieces) x:Nat):Int):=⟨_,rfl⟩
 have hB0:B 0=[]:=by rw[hB];rfl
 have hBs:∀j (h:j<(zas pc.form).length),B (j+1)=B j++zdk p s ((inP s (zaC p.pieces) (zas pc.form)[j]:Nat):Int):=fun j h=>by
  rw[hB];simp only
  rw[List.take_succ_eq_append_getElem h,List.flatMap_append]
  simp
 have hBe:zdk p s (I:Int)=(I:Int)::B (zas pc.form).length:=by rw[hbe,hB];simp only[List.take_length]
 have hBl:∀j,(B j).length≤(B (zas pc.form).length).length:=fun j=>by
  have:B (zas pc.form).length=B j++((zas pc.form).drop j).flatMap fun x=>zdk p s ((inP s (zaC p.pieces) x:Nat):Int):=by
   rw[hB];simp only[List.take_length]
   rw[←List.flatMap_append,List.take_append_drop]
  rw[this,List.length_append];omega
 have hBn:(B (zas pc.form).length).length≤6:=by rw[hBe]at hlen;simp only[List.length_cons]at hlen;omega
 rw[hBe]
 have kT:=Kp.mk hT
 have kB:=Kp.mk hBs
 have kI:=Kp.mk hin
 have kK:=Kp.mk hkid
 have kl:=Kp.mk hBl
 clear hT hBs hin hkid hBl hBe hbe hlen hB hp
 obtain⟨L,hL⟩:∃L,(zas pc.form).length=L:=⟨_,rfl⟩
 have hLb:L≤1000:=by have:=zdG pc.form;omega
 refine zam (N:=34) Go.Proofs.YtmconmiemdinkaaGreatDoor.hm kT.out 58000 (lsw [31] []) zGU Tryz.func58 rfl rfl (by simp) (by kernel_rfl) ?_
 repeat'(first|refine And.intro ?_ ?_|exact True.intro|refine rq fun _=>?_|refine rf fun _=>?_|simp only[go_sem,hIn,hpc,hL,zac,zad,zaM,zak,zap,zaa,Tryz.f58,Sc1,Sc0])
 refine zaJ Go.Proofs.YtmconmiemdinkaaGreatDoor.hm kT.out 58000 (lsw [31] []) (ι:=zg3 L 2 fun _=>True)
  ⟨fun q=>⟨frL [(3,.ptr (58003,0) 0),(4,.ptr (58004,1) 0),(7,.ow (58031,q.g) 1 (((I:Int)::B q.i).map enc)),(18,.fz (.sl ((zas pc.form).map enc))),(19,.fz (.i .i64 L)),(20,.fz (.i .i64 q.i))],
   hpL [((58003,0),some ⟨[.fz (.sl (p.holes.map enc)),.fz (.sl (p.pieces.map enc)),.fz (.i .i64 p.top)],true,false⟩),((58004,1),some ⟨[.fz (.sl (s.pieces.map enc)),.fz (.sl (s.overs.map enc)),.fz (.sl (s.vars.map enc))],true,false⟩),((58031,q.g),some tok)],q.m⟩,fun q=>L-q.i⟩
  ⟨0,2,3,by omega,by omega,by omega,trivial⟩ (by kernel_rfl) ?_ ?_
 ·refine zei [] [(58031,2)] [] ?_ ?_ ?_ ?_ ?_<;>(try simp only[go_sem,hB0,List.map_cons,List.map_nil])
  all_goals first|done|rfl|omega
 rintro⟨j,g,m,hj,hg,hm2,_⟩
 try simp only at hj hg hm2
 rcases Nat.lt_or_ge j L with h1|h1
 ·have h1':j<(zas pc.form).length:=by omega
  obtain⟨x,hx⟩:∃x,(zas pc.form)[j]=x:=⟨_,rfl⟩
  have hxm:x∈zas pc.form:=by rw[←hx];exact List.getElem_mem h1'
  obtain⟨hi1,hi2⟩:=kI.out x hxm
  obtain⟨hk1,hk2⟩:=kK.out x hxm
  have hbs:=kB.out j h1'
  have hb1:=kl.out j
  have hb2:=kl.out (j+1)
  rw[hx]at hbs
  have hpre:zrD p s ((inP s (zaC p.pieces) x:Nat):Int)<n∧zhz p s ((inP s (zaC p.pieces) x:Nat):Int):=⟨by omega,hk1⟩
  have hbl:(zdk p s ((inP s (zaC p.pieces) x:Nat):Int)).length≤6:=by
   have:=congrArg List.length hbs
   rw[List.length_append]at this
   omega
  have h9:((j:Int)<(L:Int))=True:=eq_true (by omega)
  repeat'(first|refine zaA.i hi1 fun _=>?_|refine zaA.i hpre fun _=>?_|refine And.intro ?_ ?_|exact True.intro|refine rq fun _=>?_|refine rf fun _=>?_|simp only[go_sem,h9,h1',hx,hi2,zac,zad,zaM,zak,zap,zaa,Tryz.f58,Sc1,Sc0])
  refine⟨⟨j+1,m,m+1,by omega,by omega,by omega,trivial⟩,by simp only;omega,?_⟩
  refine zau ?_ ?_ ?_<;>(try simp only[go_sem,hbs,List.map_append,List.map_cons,List.map_nil,List.cons_append])
  all_goals first|done|rfl|omega
 obtain rfl:j=L:=by omega
 repeat'(first|refine And.intro ?_ ?_|exact True.intro|refine rq fun _=>?_|refine rf fun _=>?_|simp only[go_sem,Nat.lt_irrefl,Int.lt_irrefl,hL,zac,zad,zaM,zak,zap,zaa,Tryz.f58,Sc1,Sc0])
 all_goals first|done|rfl|omega
end Go.Proofs.YtmconmiemdinkaaGreatDoor
namespace Go.Proofs.YtmconmiemdinkaaGreatDoor
open Go Go.Abs Go.Proofs
def zm0 {α:Type}[DecidableEq α](l:List α)(s:α):Int:=if s∈l then(l.idxOf s:Int)else-1
theorem znH {α:Type}[DecidableEq α]{s:α}:∀{l:List α} {i:Nat} (h:i<l.length),s∉l.take i→l[i]=s→l.idxOf s=i
 |[],i,h,_,_=>by simp at h
 |x::l,0,h,_,e=>by
  have e2:x=s:=e
  rw[List.idxOf_cons,e2,beq_self_eq_true];rfl
 |x::l,i+1,h,h1,e=>by
  rw[List.take_succ_cons]at h1
  have h2:x≠s:=fun e2=>h1 (by rw[e2];simp)
  have h3:=znH (l:=l) (by simpa using h) (fun h4=>h1 (List.mem_cons_of_mem _ h4)) (by simpa using e)
  rw[List.idxOf_cons,h3,beq_false_of_ne h2];rfl
def Su1:Tbl:=zbA.add 83 (sp2 zm0 fun(_:List Int) (_:Int)=>True)
theorem zFF:zai Tryz.prog GA Su1:=by
 refine zbC zG7 zcL fun l s hs ha hb=>?_
 have la:=zd9 ha
 simp only[List.length_map,zbr]at la
 refine zam (N:=19) hm zcL 83000 (lst []) zG7 Tryz.func83 rfl rfl (by simp) (by kernel_rfl) ?_
 simp only[go_sem]
 refine zaJ hm zcL 83000 (lst []) (ι:=zg4 l.length fun i=>s∉l.take i) ⟨fun i=>⟨frL [(0,.fz (enc l)),(1,.fz (enc s)),(7,.fz (.i .i64 l.length)),(8,.fz (.i .i64 i.i))],hpL [],0⟩,fun i=>l.length-i.i⟩ ⟨0,by simp,by simp⟩ (by kernel_rfl) ?_ ?_
 ·refine zau ?_ ?_ ?_<;>simp only[go_sem]
 intro i
 have hi:=i.hi
 have hp:=i.hp
 rcases Nat.lt_or_ge i.i l.length with h2|h2
 ·have h2':((i.i:Int)<(l.length:Int))=True:=eq_true (by omega)
  by_cases h4:l[i.i]=s
  ·have hin:s∈l:=h4▸List.getElem_mem h2
   have e:zm0 l s=i.i:=by
    unfold zm0
    rw[if_pos hin,znH h2 hp h4]
   repeat'(first|refine And.intro ?_ ?_|exact True.intro|refine rq fun _=>?_|refine rf fun _=>?_|simp only[go_sem,h2',h2,h4,zaa,e,Tryz.f83])
   all_goals first|done|rfl|omega
  ·have h4':(s=l[i.i])=False:=eq_false fun e=>h4 e.symm
   repeat'(first|refine And.intro ?_ ?_|exact True.intro|refine rq fun _=>?_|refine rf fun _=>?_|simp only[go_sem,h2',h2,h4',zaa,Tryz.f83])
   refine⟨⟨i.i+1,by omega,zdI h2 hp h4⟩,by simp only;omega,?_⟩
   refine zau ?_ ?_ ?_<;>simp only[go_sem]
 ·have e:zm0 l s= -1:=by
   unfold zm0
   rw[if_neg (zey (by omega) hp)]
  have h2':((i.i:Int)<(l.length:Int))=False:=eq_false (by omega)
  repeat'(first|refine And.intro ?_ ?_|exact True.intro|refine rq fun _=>?_|refine rf fun _=>?_|simp only[go_sem,h2',e,Tryz.f83])
  all_goals first|done|rfl|omega
def Su2:Tbl:=Su1.add 57 (sp2 (fun(l:List Int) (s:Int)=>decide (s∈l)) fun _ _=>True)
theorem zDI:zai Tryz.prog GA Su2:=by
 refine zbC zGT zFF fun l s hs ha hb=>?_
 refine zam (N:=9) hm zFF 57000 (lst []) zGT Tryz.func57 rfl rfl (by simp) (by kernel_rfl) ?_
 have e:decide (0≤zm0 l s)=decide (s∈l):=by
  unfold zm0
  split<;>rename_i h<;>simp[h]
 repeat'(first|refine And.intro ?_ ?_|exact True.intro|refine rq fun _=>?_|refine rf fun _=>?_|simp only[go_sem,Su1,zbA,Tryz.f57,e])
 all_goals first|done|rfl|omega
def Su3:Tbl:=Su2.add 53 (sp2 zm0 fun(_:List Bool) (v:Bool)=>v=false)
theorem zFG:zai Tryz.prog GA Su3:=by
 refine zbC zGP zDI fun l s hs ha hb=>?_
 have la:=zd9 ha
 simp only[List.length_map,zbr]at la
 subst hs
 refine zam (N:=19) hm zDI 53000 (lst []) zGP Tryz.func53 rfl rfl (by simp) (by kernel_rfl) ?_
 simp only[go_sem]
 refine zaJ hm zDI 53000 (lst []) (ι:=zg4 l.length fun i=>false∉l.take i) ⟨fun i=>⟨frL [(0,.fz (enc l)),(1,.fz (enc false)),(7,.fz (.i .i64 l.length)),(8,.fz (.i .i64 i.i))],hpL [],0⟩,fun i=>l.length-i.i⟩ ⟨0,by simp,by simp⟩ (by kernel_rfl) ?_ ?_
 ·refine zau ?_ ?_ ?_<;>simp only[go_sem]
 intro i
 have hi:=i.hi
 have hp:=i.hp
 rcases Nat.lt_or_ge i.i l.length with h2|h2
 ·have h2':((i.i:Int)<(l.length:Int))=True:=eq_true (by omega)
  cases h4:l[i.i]with
  |false=>
   have hin:false∈l:=h4▸List.getElem_mem h2
   have e:zm0 l false=i.i:=by
    unfold zm0
    rw[if_pos hin,znH h2 hp h4]
   repeat'(first|refine And.intro ?_ ?_|exact True.intro|refine rq fun _=>?_|refine rf fun _=>?_|simp only[go_sem,h2',h2,h4,zaa,e,Tryz.f53])
   all_goals first|done|rfl|omega
  |true=>
   repeat'(first|refine And.intro ?_ ?_|exact True.intro|refine rq fun _=>?_|refine rf fun _=>?_|simp only[go_sem,h2',h2,h4,zaa,Tryz.f53])
   refine⟨⟨i.i+1,by omega,zdI h2 hp (by rw[h4];decide)⟩,by simp only;omega,?_⟩
   refine zau ?_ ?_ ?_<;>simp only[go_sem]
 ·have e:zm0 l false= -1:=by
   unfold zm0
   rw[if_neg (zey (by omega) hp)]
  have h2':((i.i:Int)<(l.length:Int))=False:=eq_false (by omega)
  repeat'(first|refine And.intro ?_ ?_|exact True.intro|refine rq fun _=>?_|refine rf fun _=>?_|simp only[go_sem,h2',e,Tryz.f53])
  all_goals first|done|rfl|omega
def Su4:Tbl:=Su3.add 82 (sp2 (fun(l:List Bool) (s:Bool)=>decide (s∈l)) fun _ v=>v=false)
theorem zFH:zai Tryz.prog GA Su4:=by
 refine zbC zG6 zFG fun l s hs ha hb=>?_
 subst hs
 refine zam (N:=9) hm zFG 82000 (lst []) zG6 Tryz.func82 rfl rfl (by simp) (by kernel_rfl) ?_
 have e:decide (0≤zm0 l false)=decide (false∈l):=by
  unfold zm0
  split<;>rename_i h<;>simp[h]
 repeat'(first|refine And.intro ?_ ?_|exact True.intro|refine rq fun _=>?_|refine rf fun _=>?_|simp only[go_sem,Su3,Su2,Su1,zbA,Tryz.f82,e])
 all_goals first|done|rfl|omega
end Go.Proofs.YtmconmiemdinkaaGreatDoor
namespace Go.Proofs.YtmconmiemdinkaaGreatDoor
open Go Go.Abs Go.Proofs
theorem zuQ (f:Abs.zab):1≤f.size:=by cases f;rw[zab.size];omega
theorem zgM:∀l:List Abs.zab,l.length≤zab.sizes l
 |[]=>Nat.zero_le _
 |b::l=>by
  have h1:=zgM l
  have h2:=zuQ b
  rw[zab.sizes,List.length_cons];omega
def Sc3:Tbl:=Sc2.add 27 (sp3 zg7 zfL)
set_option maxHeartbeats 4000000 in
theorem zAl:zai Tryz.prog GA Sc3:=by
 refine zo5 (fun p s f=>zf6 s (zaC p.pieces) f) zE2 zIi fun n hT p s f hn hp _ _ _=>?_
 have hfz:=hp.z
 have hsl:f.subs.length≤1000:=by
  have:=zgM f.subs
  have h2:f.size=zab.sizes f.subs+1∨f.size=1+zab.sizes f.subs:=by cases f;rw[zab.size];simp only[zaR];omega
  omega
 by_cases hk:f.kind=10
 ·obtain⟨e1,e2,e3⟩:=zqd hp hk
  have hxa:f.name∈zbt s.pieces:=hp.h _ (by
   obtain⟨k,nm,ws,ss⟩:=f
   simp only[zae]at hk
   subst hk
   show nm∈_
   rw[zas];simp)
  have hl:=hp.g.l
  have h1:p.holes=zbt s.pieces:=by rw[hp.g.e];rfl
  have h2:=zke hl hxa
  rw[←hp.g.e]at h2
  have h3:p.pieces.length=(zaC p.pieces).length:=by unfold zaC;rw[List.length_map]
  have hin:f.name∈p.holes∧p.pieces.length=p.holes.length:=⟨by rw[h1];exact hxa,by rw[h1,h3];exact hl.e⟩
  have hlt:inP s (zaC p.pieces) f.name<s.pieces.length:=zqm hl hxa
  obtain⟨K,hK⟩:∃K,inP s (zaC p.pieces) f.name=K:=⟨_,rfl⟩
  rw[hK]at e1 e2 e3 h2 hlt
  obtain⟨pc,hpc⟩:∃pc,s.pieces[K]=pc:=⟨_,rfl⟩
  have hfo:zbH s K=pc.form:=by unfold zbH;rw[List.getElem?_eq_getElem hlt,hpc]
  rw[hfo]at e1 e2 e3
  rw[e1]
  have hpre:zf6 s (zaC p.pieces) pc.form<n∧zfL p s pc.form:=⟨by omega,e2⟩
  clear e1 e2 e3 h1 h3 hl hxa hp hn
  have kT:=Kp.mk hT
  clear hT
  refine zam (N:=45) Go.Proofs.YtmconmiemdinkaaGreatDoor.hm kT.out 27000 (lsw [41] []) zE2 Tryz.func27 rfl rfl (by simp) (by kernel_rfl) ?_
  repeat'(first|refine zaA.i hin fun _=>?_|refine zaA.i hpre fun _=>?_|refine And.intro ?_ ?_|exact True.intro|refine rq fun _=>?_|refine rf fun _=>?_|simp only[go_sem,hk,hlt,hpc,h2,zac,zad,zaM,zak,zap,zaa,Tryz.f27,Sc2,Sc1,Sc0])
  all_goals first|done|rfl|omega
 have hres:=zuO (p:=p) (s:=s) hk
 have hsub:∀a∈f.subs,zf6 s (zaC p.pieces) a<n∧zfL p s a:=fun a ha=>by
  obtain⟨g1,g2⟩:=zsf hp hk ha
  exact⟨by omega,g1⟩
 obtain⟨A,hA⟩:∃A:Nat→List Abs.zab,A=fun j=>(f.subs.take j).map (zg7 p s):=⟨_,rfl⟩
 have hA0:A 0=[]:=by rw[hA];rfl
 have hAs:∀j (h:j<f.subs.length),A (j+1)=A j++[zg7 p s f.subs[j]]:=fun j h=>by rw[hA];simp only[List.take_succ_eq_append_getElem h,List.map_append,List.map_cons,List.map_nil]
 have hAl:∀j,(A j).length≤f.subs.length:=fun j=>by rw[hA];simp only[List.length_map,List.length_take];omega
 have hAe:f.subs.map (zg7 p s)=A f.subs.length:=by rw[hA];simp only[List.take_length]
 rw[hAe]at hres
 rw[hres]
 have hk':(f.kind=10)=False:=eq_false hk
 have kT:=Kp.mk hT
 have kz:=Kp.mk hsub
 have kA:=Kp.mk hAs
 have kL:=Kp.mk hAl
 clear hT hsub hAs hAl hAe hA hres hp hn hk
 obtain⟨L,hL⟩:∃L,f.subs.length=L:=⟨_,rfl⟩
 refine zam (N:=45) Go.Proofs.YtmconmiemdinkaaGreatDoor.hm kT.out 27000 (lsw [41] []) zE2 Tryz.func27 rfl rfl (by simp) (by kernel_rfl) ?_
 repeat'(first|refine And.intro ?_ ?_|exact True.intro|refine rq fun _=>?_|refine rf fun _=>?_|simp only[go_sem,hk',hL,zac,zad,zaM,zak,zap,zaa,Tryz.f27,Sc2,Sc1,Sc0])
 refine zaJ Go.Proofs.YtmconmiemdinkaaGreatDoor.hm kT.out 27000 (lsw [41] []) (ι:=zg3 L 5 fun _=>True)
  ⟨fun q=>⟨frL [(3,.ptr (27003,0) 0),(4,.ptr (27004,1) 0),(6,.ptr (27006,3) 0),(7,.ptr (27007,4) 0),(28,.fz (.sl (f.subs.map enc))),(29,.fz (.i .i64 L)),(30,.fz (.i .i64 q.i))],
   hpL [((27003,0),some ⟨[.fz (.sl (p.holes.map enc)),.fz (.sl (p.pieces.map enc)),.fz (.i .i64 p.top)],true,false⟩),((27004,1),some ⟨[.fz (.sl (s.pieces.map enc)),.fz (.sl (s.overs.map enc)),.fz (.sl (s.vars.map enc))],true,false⟩),((27006,3),some ⟨[.fz (.i .i64 0),.fz (.s []),.full [],.full []],true,false⟩),((27007,4),some ⟨[.fz (.i .i64 f.kind),.fz (.s f.name.l),.fz (.sl (f.words.map enc)),.ow (27041,q.g) 4 ((A q.i).map enc)],true,false⟩),((27041,q.g),some tok)],q.m⟩,fun q=>L-q.i⟩
  ⟨0,5,6,by omega,by omega,by omega,trivial⟩ (by kernel_rfl) ?_ ?_
 ·refine zei [] [(27041,5)] [] ?_ ?_ ?_ ?_ ?_<;>(try simp only[go_sem,hA0,List.map_cons,List.map_nil])
  all_goals first|done|rfl|omega
 rintro⟨j,g,m,hj,hg,hm2,_⟩
 try simp only at hj hg hm2
 rcases Nat.lt_or_ge j L with h1|h1
 ·have h1':j<f.subs.length:=by omega
  obtain⟨x,hx⟩:∃x,f.subs[j]=x:=⟨_,rfl⟩
  have hpre:=kz.out x (by rw[←hx];exact List.getElem_mem h1')
  have hbs:=kA.out j h1'
  rw[hx]at hbs
  have hb1:=kL.out j
  have h9:((j:Int)<(L:Int))=True:=eq_true (by omega)
  repeat'(first|refine zaA.i hpre fun _=>?_|refine And.intro ?_ ?_|exact True.intro|refine rq fun _=>?_|refine rf fun _=>?_|simp only[go_sem,h9,h1',hx,zac,zad,zaM,zak,zap,zaa,Tryz.f27,Sc2,Sc1,Sc0])
  refine⟨⟨j+1,m+1,m+1+1,by omega,by omega,by omega,trivial⟩,by simp only;omega,?_⟩
  refine zau ?_ ?_ ?_<;>(try simp only[go_sem,hbs,List.map_append,List.map_cons,List.map_nil,List.cons_append])
  all_goals first|done|rfl|omega
 obtain rfl:j=L:=by omega
 repeat'(first|refine And.intro ?_ ?_|exact True.intro|refine rq fun _=>?_|refine rf fun _=>?_|simp only[go_sem,Nat.lt_irrefl,Int.lt_irrefl,hL,zac,zad,zaM,zak,zap,zaa,Tryz.f27,Sc2,Sc1,Sc0])
 all_goals first|done|rfl|omega
end Go.Proofs.YtmconmiemdinkaaGreatDoor

/- several texts of this proof in one; no conditions -/
import Derived.Test.YtmconmiemdinkaaGreatDoorAT
import Derived.Test.YtmconmiemdinkaaGreatDoorY4
import Derived.Test.YtmconmiemdinkaaGreatDoorY5
import Derived.Test.YtmconmiemdinkaaGreatDoorY17
import Derived.Test.YtmconmiemdinkaaGreatDoorY1
import Derived.Test.YtmconmiemdinkaaGreatDoorY18
set_option maxRecDepth 100000
set_option maxHeartbeats 1000000
set_option linter.unusedSimpArgs false
namespace Go.Proofs.YtmconmiemdinkaaGreatDoor
open Go Go.Abs Go.Proofs
section
variable {P:Program} {G:Nat→List FD} {T:Tbl}
theorem zqa {α β γ ρ:Type}[Enc α][Enc β][Enc γ][Enc ρ]{f:FuncId}{g:α→β→γ→ρ}{pre:α→β→γ→Prop}(m:α→β→γ→Nat)(hc:zap P f)(hT:zan P G T)
  (h:∀n,zan P G (T.add f (sp3 g fun a b c=>m a b c<n∧pre a b c))→∀a b c,m a b c=n→pre a b c→(enc a).Wf→(enc b).Wf→(enc c).Wf→zaH P G f [.fz (enc a),.fz (enc b),.fz (enc c)] (hpL []) 0 (fun d _ _=>D.val d=some (.fz (enc (g a b c))))):zan P G (T.add f (sp3 g pre)):=by
 have key:∀n,zan P G (T.add f (sp3 g fun a b c=>m a b c<n∧pre a b c)):=by
  intro n
  induction n with
  |zero=>exact zgx hc hT fun a b c ha=>by omega
  |succ n ih=>
   refine zgx hc hT fun a b c hp hw hw2 hw3=>?_
   rcases Nat.lt_or_ge (m a b c) n with h3|h3
   ·have h4:=ih f (sp3 g fun a b c=>m a b c<n∧pre a b c) [enc a,enc b,enc c] _ _ (by simp[Tbl.add]) (zCj) ⟨by rw[dec_enc],by rw[dec_enc],by rw[dec_enc],by rw[dec_enc,dec_enc,dec_enc];exact⟨h3,hp.2⟩⟩
    rw[dec_enc,dec_enc,dec_enc,zfD]at h4
    exact h4
   ·exact h n ih a b c (by omega) hp.2 hw hw2 hw3
 exact zgx hc hT fun a b c hp hw hw2 hw3=>h (m a b c) (key _) a b c rfl hp hw hw2 hw3
end
def Sc0:Tbl:=Tbl.or X33 A19
theorem zAl:zan Tryz.prog GA Sc0:=zf0 zJ6 zJD
def Sc1:Tbl:=Sc0.add 59 (sp2 inQ fun p h=>h∈p.holes∧p.pieces.length=p.holes.length)
theorem zJZ:zan Tryz.prog GA Sc1:=by
 refine zbI zIC zAl fun p h hp _ _=>?_
 obtain⟨hh,hl⟩:=hp
 have hk:=List.idxOf_lt_length_of_mem hh
 obtain⟨k,hke⟩:∃k,p.holes.idxOf h=k:=⟨_,rfl⟩
 rw[hke]at hk
 have hix:idx p.holes h=(k:Int):=by unfold idx;rw[if_pos hh,hke]
 have hkp:k<p.pieces.length:=by omega
 have he:inQ p h=p.pieces[k]:=by
  unfold inQ
  rw[hke,List.getD_eq_getElem?_getD,List.getElem?_eq_getElem hkp];rfl
 obtain⟨v,hv⟩:∃v,p.pieces[k]=v:=⟨_,rfl⟩
 rw[hv]at he
 refine zaj (N:=13) Go.Proofs.YtmconmiemdinkaaGreatDoor.hm zAl 59000 (lst []) zIC Tryz.func59 rfl rfl (by simp) (by kernel_rfl) ?_
 repeat'(first|refine And.intro ?_ ?_|exact True.intro|refine rq fun _=>?_|refine rf fun _=>?_|simp only[go_sem,hix,hkp,hv,he,zab,zad,zaO,zae,zag,zaa,Tryz.f59,Sc0])
 all_goals first|done|rfl|omega
def Sc2:Tbl:=Sc1.add 58 (sp3 zdI zie)
set_option maxHeartbeats 4000000 in
theorem zJ0:zan Tryz.prog GA Sc2:=by
 refine zqa zsC zIB zJZ fun n hT p s i hn hp _ _ _=>?_
 have hbe:=zsD hp
 have hlen:=zye hp
 have hkid:=fun x hx=>zyd (x:=x) hp hx
 obtain⟨I,hI⟩:∃I:Nat,i=(I:Int):=⟨i.toNat,by have:=hp.i0;omega⟩
 subst hI
 have hIn:I<s.pieces.length:=by have:=hp.i1;rw[Int.toNat_natCast]at this;exact this
 rw[Int.toNat_natCast]at hbe hkid
 obtain⟨pc,hpc⟩:∃pc,s.pieces[I]=pc:=⟨_,rfl⟩
 have hho:zcn s I=zau pc.form:=by unfold zcn;rw[List.getElem?_eq_getElem hIn,hpc]
 have hfz:pc.form.size≤1000:=by have:=za3 (hp.g.c.chk pc (by rw[←hpc];exact List.getElem_mem hIn));omega
 have hin:∀x∈zau pc.form,(x∈p.holes∧p.pieces.length=p.holes.length)∧inQ p x=((inP s (zaD p.pieces) x:Nat):Int):=fun x hx=>by
  have hxa:x∈za5 s.pieces:=zdK (i:=I) (by rw[hho];exact hx)
  have h1:p.holes=za5 s.pieces:=by rw[hp.g.e];rfl
  have h2:=zlb hp.g.l hxa
  rw[←hp.g.e]at h2
  have h3:p.pieces.length=(zaD p.pieces).length:=by unfold zaD;rw[List.length_map]
  exact⟨⟨by rw[h1];exact hxa,by rw[h1,h3];exact hp.g.l.e⟩,h2⟩
 rw[hho]at hbe hkid
 obtain⟨B,hB⟩:∃B:Nat→List Int,B=fun j=>((zau pc.form).take j).flatMap fun x=>zdI p s ((inP s (zaD p.pieces) x:Nat):Int):=⟨_,rfl⟩
 have hB0:B 0=[]:=by rw[hB];rfl
 have hBs:∀j (h:j<(zau pc.form).length),B (j+1)=B j++zdI p s ((inP s (zaD p.pieces) (zau pc.form)[j]:Nat):Int):=fun j h=>by
  rw[hB];simp only
  rw[List.take_succ_eq_append_getElem h,List.flatMap_append]
  simp
 have hBe:zdI p s (I:Int)=(I:Int)::B (zau pc.form).length:=by rw[hbe,hB];simp only[List.take_length]
 have hBl:∀j,(B j).length≤(B (zau pc.form).length).length:=fun j=>by
  have:B (zau pc.form).length=B j++((zau pc.form).drop j).flatMap fun x=>zdI p s ((inP s (zaD p.pieces) x:Nat):Int):=by
   rw[hB];simp only[List.take_length]
   rw[←List.flatMap_append,List.take_append_drop]
  rw[this,List.length_append];omega
 have hBn:(B (zau pc.form).length).length≤6:=by rw[hBe]at hlen;simp only[List.length_cons]at hlen;omega
 rw[hBe]
 have kT:=Kp.mk hT
 have kB:=Kp.mk hBs
 have kI:=Kp.mk hin
 have kK:=Kp.mk hkid
 have kl:=Kp.mk hBl
 clear hT hBs hin hkid hBl hBe hbe hlen hB hp
 obtain⟨L,hL⟩:∃L,(zau pc.form).length=L:=⟨_,rfl⟩
 have hLb:L≤1000:=by have:=zbM pc.form;omega
 refine zaj (N:=34) Go.Proofs.YtmconmiemdinkaaGreatDoor.hm kT.out 58000 (lsw [31] []) zIB Tryz.func58 rfl rfl (by simp) (by kernel_rfl) ?_
 repeat'(first|refine And.intro ?_ ?_|exact True.intro|refine rq fun _=>?_|refine rf fun _=>?_|simp only[go_sem,hIn,hpc,hL,zab,zad,zaO,zae,zag,zaa,Tryz.f58,Sc1,Sc0])
 refine zam Go.Proofs.YtmconmiemdinkaaGreatDoor.hm kT.out 58000 (lsw [31] []) (ι:=zdR L 2 fun _=>True)
  ⟨fun q=>⟨frL [(3,.ptr (58003,0) 0),(4,.ptr (58004,1) 0),(7,.ow (58031,q.g) 1 (((I:Int)::B q.i).map enc)),(18,.fz (.sl ((zau pc.form).map enc))),(19,.fz (.i .i64 L)),(20,.fz (.i .i64 q.i))],
   hpL [((58003,0),some ⟨[.fz (.sl (p.holes.map enc)),.fz (.sl (p.pieces.map enc)),.fz (.i .i64 p.top)],true,false⟩),((58004,1),some ⟨[.fz (.sl (s.pieces.map enc)),.fz (.sl (s.overs.map enc)),.fz (.sl (s.vars.map enc))],true,false⟩),((58031,q.g),some tok)],q.m⟩,fun q=>L-q.i⟩
  ⟨0,2,3,by omega,by omega,by omega,trivial⟩ (by kernel_rfl) ?_ ?_
 ·refine zb6 [] [(58031,2)] [] ?_ ?_ ?_ ?_ ?_<;>(try simp only[go_sem,hB0,List.map_cons,List.map_nil])
  all_goals first|done|rfl|omega
 rintro⟨j,g,m,hj,hg,hm2,_⟩
 try simp only at hj hg hm2
 rcases Nat.lt_or_ge j L with h1|h1
 ·have h1':j<(zau pc.form).length:=by omega
  obtain⟨x,hx⟩:∃x,(zau pc.form)[j]=x:=⟨_,rfl⟩
  have hxm:x∈zau pc.form:=by rw[←hx];exact List.getElem_mem h1'
  obtain⟨hi1,hi2⟩:=kI.out x hxm
  obtain⟨hk1,hk2⟩:=kK.out x hxm
  have hbs:=kB.out j h1'
  have hb1:=kl.out j
  have hb2:=kl.out (j+1)
  rw[hx]at hbs
  have hpre:zsC p s ((inP s (zaD p.pieces) x:Nat):Int)<n∧zie p s ((inP s (zaD p.pieces) x:Nat):Int):=⟨by omega,hk1⟩
  have hbl:(zdI p s ((inP s (zaD p.pieces) x:Nat):Int)).length≤6:=by
   have:=congrArg List.length hbs
   rw[List.length_append]at this
   omega
  have h9:((j:Int)<(L:Int))=True:=eq_true (by omega)
  repeat'(first|refine zaq.i hi1 fun _=>?_|refine zaq.i hpre fun _=>?_|refine And.intro ?_ ?_|exact True.intro|refine rq fun _=>?_|refine rf fun _=>?_|simp only[go_sem,h9,h1',hx,hi2,zab,zad,zaO,zae,zag,zaa,Tryz.f58,Sc1,Sc0])
  refine⟨⟨j+1,m,m+1,by omega,by omega,by omega,trivial⟩,by simp only;omega,?_⟩
  refine zah ?_ ?_ ?_<;>(try simp only[go_sem,hbs,List.map_append,List.map_cons,List.map_nil,List.cons_append])
  all_goals first|done|rfl|omega
 obtain rfl:j=L:=by omega
 repeat'(first|refine And.intro ?_ ?_|exact True.intro|refine rq fun _=>?_|refine rf fun _=>?_|simp only[go_sem,Nat.lt_irrefl,Int.lt_irrefl,hL,zab,zad,zaO,zae,zag,zaa,Tryz.f58,Sc1,Sc0])
 all_goals first|done|rfl|omega
end Go.Proofs.YtmconmiemdinkaaGreatDoor
namespace Go.Proofs.YtmconmiemdinkaaGreatDoor
open Go Go.Abs Go.Proofs
def znZ {α:Type}[DecidableEq α](l:List α)(s:α):Int:=if s∈l then(l.idxOf s:Int)else-1
theorem ziF {α:Type}[DecidableEq α]{s:α}:∀{l:List α} {i:Nat} (h:i<l.length),s∉l.take i→l[i]=s→l.idxOf s=i
 |[],i,h,_,_=>by simp at h
 |x::l,0,h,_,e=>by
  have e2:x=s:=e
  rw[List.idxOf_cons,e2,beq_self_eq_true];rfl
 |x::l,i+1,h,h1,e=>by
  rw[List.take_succ_cons]at h1
  have h2:x≠s:=fun e2=>h1 (by rw[e2];simp)
  have h3:=ziF (l:=l) (by simpa using h) (fun h4=>h1 (List.mem_cons_of_mem _ h4)) (by simpa using e)
  rw[List.idxOf_cons,h3,beq_false_of_ne h2];rfl
def Su1:Tbl:=zbp.add 83 (sp2 znZ fun(_:List Int) (_:Int)=>True)
theorem zHh:zan Tryz.prog GA Su1:=by
 refine zbI zIS zcF fun l s hs ha hb=>?_
 have la:=zcI ha
 simp only[List.length_map,za6]at la
 refine zaj (N:=19) hm zcF 83000 (lst []) zIS Tryz.func83 rfl rfl (by simp) (by kernel_rfl) ?_
 simp only[go_sem]
 refine zam hm zcF 83000 (lst []) (ι:=zcX l.length fun i=>s∉l.take i) ⟨fun i=>⟨frL [(0,.fz (enc l)),(1,.fz (enc s)),(7,.fz (.i .i64 l.length)),(8,.fz (.i .i64 i.i))],hpL [],0⟩,fun i=>l.length-i.i⟩ ⟨0,by simp,by simp⟩ (by kernel_rfl) ?_ ?_
 ·refine zah ?_ ?_ ?_<;>simp only[go_sem]
 intro i
 have hi:=i.hi
 have hp:=i.hp
 rcases Nat.lt_or_ge i.i l.length with h2|h2
 ·have h2':((i.i:Int)<(l.length:Int))=True:=eq_true (by omega)
  by_cases h4:l[i.i]=s
  ·have hin:s∈l:=h4▸List.getElem_mem h2
   have e:znZ l s=i.i:=by
    unfold znZ
    rw[if_pos hin,ziF h2 hp h4]
   repeat'(first|refine And.intro ?_ ?_|exact True.intro|refine rq fun _=>?_|refine rf fun _=>?_|simp only[go_sem,h2',h2,h4,zaa,e,Tryz.f83])
   all_goals first|done|rfl|omega
  ·have h4':(s=l[i.i])=False:=eq_false fun e=>h4 e.symm
   repeat'(first|refine And.intro ?_ ?_|exact True.intro|refine rq fun _=>?_|refine rf fun _=>?_|simp only[go_sem,h2',h2,h4',zaa,Tryz.f83])
   refine⟨⟨i.i+1,by omega,zcP h2 hp h4⟩,by simp only;omega,?_⟩
   refine zah ?_ ?_ ?_<;>simp only[go_sem]
 ·have e:znZ l s= -1:=by
   unfold znZ
   rw[if_neg (zee (by omega) hp)]
  have h2':((i.i:Int)<(l.length:Int))=False:=eq_false (by omega)
  repeat'(first|refine And.intro ?_ ?_|exact True.intro|refine rq fun _=>?_|refine rf fun _=>?_|simp only[go_sem,h2',e,Tryz.f83])
  all_goals first|done|rfl|omega
def Su2:Tbl:=Su1.add 57 (sp2 (fun(l:List Int) (s:Int)=>decide (s∈l)) fun _ _=>True)
theorem zFf:zan Tryz.prog GA Su2:=by
 refine zbI zIA zHh fun l s hs ha hb=>?_
 refine zaj (N:=9) hm zHh 57000 (lst []) zIA Tryz.func57 rfl rfl (by simp) (by kernel_rfl) ?_
 have e:decide (0≤znZ l s)=decide (s∈l):=by
  unfold znZ
  split<;>rename_i h<;>simp[h]
 repeat'(first|refine And.intro ?_ ?_|exact True.intro|refine rq fun _=>?_|refine rf fun _=>?_|simp only[go_sem,Su1,zbp,Tryz.f57,e])
 all_goals first|done|rfl|omega
def Su3:Tbl:=Su2.add 53 (sp2 znZ fun(_:List Bool) (v:Bool)=>v=false)
theorem zHi:zan Tryz.prog GA Su3:=by
 refine zbI zIw zFf fun l s hs ha hb=>?_
 have la:=zcI ha
 simp only[List.length_map,za6]at la
 subst hs
 refine zaj (N:=19) hm zFf 53000 (lst []) zIw Tryz.func53 rfl rfl (by simp) (by kernel_rfl) ?_
 simp only[go_sem]
 refine zam hm zFf 53000 (lst []) (ι:=zcX l.length fun i=>false∉l.take i) ⟨fun i=>⟨frL [(0,.fz (enc l)),(1,.fz (enc false)),(7,.fz (.i .i64 l.length)),(8,.fz (.i .i64 i.i))],hpL [],0⟩,fun i=>l.length-i.i⟩ ⟨0,by simp,by simp⟩ (by kernel_rfl) ?_ ?_
 ·refine zah ?_ ?_ ?_<;>simp only[go_sem]
 intro i
 have hi:=i.hi
 have hp:=i.hp
 rcases Nat.lt_or_ge i.i l.length with h2|h2
 ·have h2':((i.i:Int)<(l.length:Int))=True:=eq_true (by omega)
  cases h4:l[i.i]with
  |false=>
   have hin:false∈l:=h4▸List.getElem_mem h2
   have e:znZ l false=i.i:=by
    unfold znZ
    rw[if_pos hin,ziF h2 hp h4]
   repeat'(first|refine And.intro ?_ ?_|exact True.intro|refine rq fun _=>?_|refine rf fun _=>?_|simp only[go_sem,h2',h2,h4,zaa,e,Tryz.f53])
   all_goals first|done|rfl|omega
  |true=>
   repeat'(first|refine And.intro ?_ ?_|exact True.intro|refine rq fun _=>?_|refine rf fun _=>?_|simp only[go_sem,h2',h2,h4,zaa,Tryz.f53])
   refine⟨⟨i.i+1,by omega,zcP h2 hp (by rw[h4];decide)⟩,by simp only;omega,?_⟩
   refine zah ?_ ?_ ?_<;>simp only[go_sem]
 ·have e:znZ l false= -1:=by
   unfold znZ
   rw[if_neg (zee (by omega) hp)]
  have h2':((i.i:Int)<(l.length:Int))=False:=eq_false (by omega)
  repeat'(first|refine And.intro ?_ ?_|exact True.intro|refine rq fun _=>?_|refine rf fun _=>?_|simp only[go_sem,h2',e,Tryz.f53])
  all_goals first|done|rfl|omega
def Su4:Tbl:=Su3.add 82 (sp2 (fun(l:List Bool) (s:Bool)=>decide (s∈l)) fun _ v=>v=false)
theorem zHj:zan Tryz.prog GA Su4:=by
 refine zbI zIR zHi fun l s hs ha hb=>?_
 subst hs
 refine zaj (N:=9) hm zHi 82000 (lst []) zIR Tryz.func82 rfl rfl (by simp) (by kernel_rfl) ?_
 have e:decide (0≤znZ l false)=decide (false∈l):=by
  unfold znZ
  split<;>rename_i h<;>simp[h]
 repeat'(first|refine And.intro ?_ ?_|exact True.intro|refine rq fun _=>?_|refine rf fun _=>?_|simp only[go_sem,Su3,Su2,Su1,zbp,Tryz.f82,e])
 all_goals first|done|rfl|omega
end Go.Proofs.YtmconmiemdinkaaGreatDoor
namespace Go.Proofs.YtmconmiemdinkaaGreatDoor
open Go Go.Abs Go.Proofs
theorem zv5 (f:Abs.zac):1≤f.size:=by cases f;rw[zac.size];omega
theorem ze1:∀l:List Abs.zac,l.length≤zac.sizes l
 |[]=>Nat.zero_le _
 |b::l=>by
  have h1:=ze1 l
  have h2:=zv5 b
  rw[zac.sizes,List.length_cons];omega
def Sc3:Tbl:=Sc2.add 27 (sp3 zeZ zeA)
set_option maxHeartbeats 4000000 in
theorem zBI:zan Tryz.prog GA Sc3:=by
 refine zqa (fun p s f=>zfd s (zaD p.pieces) f) zGx zJ0 fun n hT p s f hn hp _ _ _=>?_
 have hfz:=hp.z
 have hsl:f.subs.length≤1000:=by
  have:=ze1 f.subs
  have h2:f.size=zac.sizes f.subs+1∨f.size=1+zac.sizes f.subs:=by cases f;rw[zac.size];simp only[zaU];omega
  omega
 by_cases hk:f.kind=10
 ·obtain⟨e1,e2,e3⟩:=zj0 hp hk
  have hxa:f.name∈za5 s.pieces:=hp.h _ (by
   obtain⟨k,nm,ws,ss⟩:=f
   simp only[zaG]at hk
   subst hk
   show nm∈_
   rw[zau];simp)
  have hl:=hp.g.l
  have h1:p.holes=za5 s.pieces:=by rw[hp.g.e];rfl
  have h2:=zlb hl hxa
  rw[←hp.g.e]at h2
  have h3:p.pieces.length=(zaD p.pieces).length:=by unfold zaD;rw[List.length_map]
  have hin:f.name∈p.holes∧p.pieces.length=p.holes.length:=⟨by rw[h1];exact hxa,by rw[h1,h3];exact hl.e⟩
  have hlt:inP s (zaD p.pieces) f.name<s.pieces.length:=zoG hl hxa
  obtain⟨K,hK⟩:∃K,inP s (zaD p.pieces) f.name=K:=⟨_,rfl⟩
  rw[hK]at e1 e2 e3 h2 hlt
  obtain⟨pc,hpc⟩:∃pc,s.pieces[K]=pc:=⟨_,rfl⟩
  have hfo:zbH s K=pc.form:=by unfold zbH;rw[List.getElem?_eq_getElem hlt,hpc]
  rw[hfo]at e1 e2 e3
  rw[e1]
  have hpre:zfd s (zaD p.pieces) pc.form<n∧zeA p s pc.form:=⟨by omega,e2⟩
  clear e1 e2 e3 h1 h3 hl hxa hp hn
  have kT:=Kp.mk hT
  clear hT
  refine zaj (N:=45) Go.Proofs.YtmconmiemdinkaaGreatDoor.hm kT.out 27000 (lsw [41] []) zGx Tryz.func27 rfl rfl (by simp) (by kernel_rfl) ?_
  repeat'(first|refine zaq.i hin fun _=>?_|refine zaq.i hpre fun _=>?_|refine And.intro ?_ ?_|exact True.intro|refine rq fun _=>?_|refine rf fun _=>?_|simp only[go_sem,hk,hlt,hpc,h2,zab,zad,zaO,zae,zag,zaa,Tryz.f27,Sc2,Sc1,Sc0])
  all_goals first|done|rfl|omega
 have hres:=zpF (p:=p) (s:=s) hk
 have hsub:∀a∈f.subs,zfd s (zaD p.pieces) a<n∧zeA p s a:=fun a ha=>by
  obtain⟨g1,g2⟩:=zmH hp hk ha
  exact⟨by omega,g1⟩
 obtain⟨A,hA⟩:∃A:Nat→List Abs.zac,A=fun j=>(f.subs.take j).map (zeZ p s):=⟨_,rfl⟩
 have hA0:A 0=[]:=by rw[hA];rfl
 have hAs:∀j (h:j<f.subs.length),A (j+1)=A j++[zeZ p s f.subs[j]]:=fun j h=>by rw[hA];simp only[List.take_succ_eq_append_getElem h,List.map_append,List.map_cons,List.map_nil]
 have hAl:∀j,(A j).length≤f.subs.length:=fun j=>by rw[hA];simp only[List.length_map,List.length_take];omega
 have hAe:f.subs.map (zeZ p s)=A f.subs.length:=by rw[hA];simp only[List.take_length]
 rw[hAe]at hres
 rw[hres]
 have hk':(f.kind=10)=False:=eq_false hk
 have kT:=Kp.mk hT
 have kz:=Kp.mk hsub
 have kA:=Kp.mk hAs
 have kL:=Kp.mk hAl
 clear hT hsub hAs hAl hAe hA hres hp hn hk
 obtain⟨L,hL⟩:∃L,f.subs.length=L:=⟨_,rfl⟩
 refine zaj (N:=45) Go.Proofs.YtmconmiemdinkaaGreatDoor.hm kT.out 27000 (lsw [41] []) zGx Tryz.func27 rfl rfl (by simp) (by kernel_rfl) ?_
 repeat'(first|refine And.intro ?_ ?_|exact True.intro|refine rq fun _=>?_|refine rf fun _=>?_|simp only[go_sem,hk',hL,zab,zad,zaO,zae,zag,zaa,Tryz.f27,Sc2,Sc1,Sc0])
 refine zam Go.Proofs.YtmconmiemdinkaaGreatDoor.hm kT.out 27000 (lsw [41] []) (ι:=zdR L 5 fun _=>True)
  ⟨fun q=>⟨frL [(3,.ptr (27003,0) 0),(4,.ptr (27004,1) 0),(6,.ptr (27006,3) 0),(7,.ptr (27007,4) 0),(28,.fz (.sl (f.subs.map enc))),(29,.fz (.i .i64 L)),(30,.fz (.i .i64 q.i))],
   hpL [((27003,0),some ⟨[.fz (.sl (p.holes.map enc)),.fz (.sl (p.pieces.map enc)),.fz (.i .i64 p.top)],true,false⟩),((27004,1),some ⟨[.fz (.sl (s.pieces.map enc)),.fz (.sl (s.overs.map enc)),.fz (.sl (s.vars.map enc))],true,false⟩),((27006,3),some ⟨[.fz (.i .i64 0),.fz (.s []),.full [],.full []],true,false⟩),((27007,4),some ⟨[.fz (.i .i64 f.kind),.fz (.s f.name.l),.fz (.sl (f.words.map enc)),.ow (27041,q.g) 4 ((A q.i).map enc)],true,false⟩),((27041,q.g),some tok)],q.m⟩,fun q=>L-q.i⟩
  ⟨0,5,6,by omega,by omega,by omega,trivial⟩ (by kernel_rfl) ?_ ?_
 ·refine zb6 [] [(27041,5)] [] ?_ ?_ ?_ ?_ ?_<;>(try simp only[go_sem,hA0,List.map_cons,List.map_nil])
  all_goals first|done|rfl|omega
 rintro⟨j,g,m,hj,hg,hm2,_⟩
 try simp only at hj hg hm2
 rcases Nat.lt_or_ge j L with h1|h1
 ·have h1':j<f.subs.length:=by omega
  obtain⟨x,hx⟩:∃x,f.subs[j]=x:=⟨_,rfl⟩
  have hpre:=kz.out x (by rw[←hx];exact List.getElem_mem h1')
  have hbs:=kA.out j h1'
  rw[hx]at hbs
  have hb1:=kL.out j
  have h9:((j:Int)<(L:Int))=True:=eq_true (by omega)
  repeat'(first|refine zaq.i hpre fun _=>?_|refine And.intro ?_ ?_|exact True.intro|refine rq fun _=>?_|refine rf fun _=>?_|simp only[go_sem,h9,h1',hx,zab,zad,zaO,zae,zag,zaa,Tryz.f27,Sc2,Sc1,Sc0])
  refine⟨⟨j+1,m+1,m+1+1,by omega,by omega,by omega,trivial⟩,by simp only;omega,?_⟩
  refine zah ?_ ?_ ?_<;>(try simp only[go_sem,hbs,List.map_append,List.map_cons,List.map_nil,List.cons_append])
  all_goals first|done|rfl|omega
 obtain rfl:j=L:=by omega
 repeat'(first|refine And.intro ?_ ?_|exact True.intro|refine rq fun _=>?_|refine rf fun _=>?_|simp only[go_sem,Nat.lt_irrefl,Int.lt_irrefl,hL,zab,zad,zaO,zae,zag,zaa,Tryz.f27,Sc2,Sc1,Sc0])
 all_goals first|done|rfl|omega
end Go.Proofs.YtmconmiemdinkaaGreatDoor
namespace Go.Proofs.YtmconmiemdinkaaGreatDoor
open Go Go.Abs Go.Proofs
def Sd1:Tbl:=Sc0.add 72 (sp1 (fun s=>zaF (zlV s)) fun s=>ze3 s)
set_option maxHeartbeats 4000000 in
theorem zhK:zan Tryz.prog GA Sd1:=by
 refine zbR zIK zAl fun s hs _=>?_
 have hn6:=hs.n6
 have hnp:s.pieces.length=nP s:=rfl
 obtain⟨A,hA⟩:∃A:Nat→List Int,A=fun j=>zaF (((List.range j).flatMap fun i=>(zcn s i).map fun h=>(h,i)).map (·.2)):=⟨_,rfl⟩
 have hA0:A 0=[]:=by rw[hA];rfl
 have hAs:∀j (h:j<s.pieces.length),A (j+1)=A j++List.replicate (zau s.pieces[j].form).length (j:Int):=fun j h=>by
  rw[hA];simp only
  have hho:zcn s j=zau s.pieces[j].form:=by unfold zcn;rw[List.getElem?_eq_getElem h]
  rw[List.range_succ,List.flatMap_append,List.map_append]
  unfold zaF
  rw[List.map_append]
  congr 1
  simp only[List.flatMap_cons,List.flatMap_nil,List.append_nil,List.map_map,hho]
  exact List.eq_replicate_iff.2 ⟨by simp,fun b hb=>by obtain⟨x,_,rfl⟩:=List.mem_map.1 hb;rfl⟩
 have hAe:zaF (zlV s)=A s.pieces.length:=by rw[hA];rfl
 have hhz:∀x∈s.pieces,x.form.size≤1000∧(zau x.form).length≤1000∧zde x.form=zau x.form:=fun x hx=>by
  have h1:=za3 (hs.chk x hx)
  have h2:=zbM x.form
  exact⟨by omega,by omega,zc1 (hs.chk x hx)⟩
 have hAl:∀j,j≤s.pieces.length→(A j).length≤1000*j:=by
  intro j
  induction j with
  |zero=>intro _;rw[hA0];simp
  |succ j ih=>
   intro hj
   rw[hAs j hj,List.length_append,List.length_replicate]
   have h1:=ih (by omega)
   have h2:=(hhz _ (List.getElem_mem hj)).2.1
   omega
 rw[hAe]
 have kA:=Kp.mk hAs
 have kL:=Kp.mk hAl
 have kz:=Kp.mk hhz
 clear hAs hAl hhz hA hAe
 obtain⟨L,hL⟩:∃L,s.pieces.length=L:=⟨_,rfl⟩
 refine zaj (N:=27) Go.Proofs.YtmconmiemdinkaaGreatDoor.hm zAl 72000 (lsw [23] []) zIK Tryz.func72 rfl rfl (by simp) (by kernel_rfl) ?_
 repeat'(first|refine And.intro ?_ ?_|exact True.intro|refine rq fun _=>?_|refine rf fun _=>?_|simp only[go_sem,hL,zab,zad,zae,zag,zai,zaa,Tryz.f72,Sc0])
 refine zam Go.Proofs.YtmconmiemdinkaaGreatDoor.hm zAl 72000 (lsw [23] []) (ι:=zdR L 2 fun _=>True)
  ⟨fun q=>⟨frL [(1,.ptr (72001,0) 0),(3,.ow (72023,q.g) 1 ((A q.i).map enc)),(7,.fz (.sl (s.pieces.map enc))),(8,.fz (.i .i64 L)),(9,.fz (.i .i64 q.i))],
   hpL [((72001,0),some ⟨[.fz (.sl (s.pieces.map enc)),.fz (.sl (s.overs.map enc)),.fz (.sl (s.vars.map enc))],true,false⟩),((72023,q.g),some tok)],q.m⟩,fun q=>L-q.i⟩
  ⟨0,1,2,by omega,by omega,by omega,trivial⟩ (by kernel_rfl) ?_ ?_
 ·refine zb6 [] [(72023,1)] [] ?_ ?_ ?_ ?_ ?_<;>(try simp only[go_sem,hA0,List.map_cons,List.map_nil])
  all_goals first|done|rfl|omega
 rintro⟨j,g,m,hj,hg,hm2,_⟩
 try simp only at hj hg hm2
 have hl1:=kL.out j (by omega)
 rcases Nat.lt_or_ge j L with h1|h1
 ·have h1':j<s.pieces.length:=by omega
  have h9:((j:Int)<(L:Int))=True:=eq_true (by omega)
  obtain⟨x,hx⟩:∃x,s.pieces[j]=x:=⟨_,rfl⟩
  obtain⟨hz1,hz2,hz3⟩:=kz.out x (by rw[←hx];exact List.getElem_mem h1')
  have hbs:=kA.out j h1'
  rw[hx]at hbs
  obtain⟨M,hM⟩:∃M,(zau x.form).length=M:=⟨_,rfl⟩
  rw[hM]at hz2 hbs
  repeat'(first|refine And.intro ?_ ?_|exact True.intro|refine rq fun _=>?_|refine rf fun _=>?_|simp only[go_sem,h9,h1',hx,hz3,hM,zab,zad,zae,zag,zai,zaa,Tryz.f72,Sc0])
  refine zam Go.Proofs.YtmconmiemdinkaaGreatDoor.hm zAl 72000 (lsw [23] []) (ι:=zdR M (m+1) fun _=>True)
   ⟨fun q=>⟨frL [(1,.ptr (72001,0) 0),(3,.ow (72023,q.g) 1 ((A j++List.replicate q.i (j:Int)).map enc)),(4,.fz (.i .i64 j)),(7,.fz (.sl (s.pieces.map enc))),(8,.fz (.i .i64 L)),(9,.fz (.i .i64 j)),(17,.fz (.i .i64 M)),(18,.fz (.i .i64 q.i))],
    hpL [((72001,0),some ⟨[.fz (.sl (s.pieces.map enc)),.fz (.sl (s.overs.map enc)),.fz (.sl (s.vars.map enc))],true,false⟩),((72023,q.g),some tok)],q.m⟩,fun q=>M-q.i⟩
   ⟨0,g,m+1,by omega,by omega,by omega,trivial⟩ (by kernel_rfl) ?_ ?_
  ·refine zah ?_ ?_ ?_<;>(try simp only[go_sem,List.replicate_zero,List.append_nil])
   all_goals first|done|rfl|omega
  rintro⟨k,g2,m2,hk,hg2,hm3,_⟩
  try simp only at hk hg2 hm3
  rcases Nat.lt_or_ge k M with h2|h2
  ·have h8:((k:Int)<(M:Int))=True:=eq_true (by omega)
   have hrl:(A j++List.replicate k (j:Int)).length≤10000:=by rw[List.length_append,List.length_replicate];omega
   have hrs:A j++List.replicate (k+1) (j:Int)=(A j++List.replicate k (j:Int))++[(j:Int)]:=by rw[List.append_assoc,List.replicate_succ']
   obtain⟨C,hC⟩:∃C,A j++List.replicate k (j:Int)=C:=⟨_,rfl⟩
   rw[hC]at hrl hrs
   repeat'(first|refine And.intro ?_ ?_|exact True.intro|refine rq fun _=>?_|refine rf fun _=>?_|simp only[go_sem,h8,hC,zab,zad,zae,zag,zai,zaa,Tryz.f72,Sc0])
   refine⟨⟨k+1,m2,m2+1,by omega,by omega,by omega,trivial⟩,by simp only;omega,?_⟩
   refine zah ?_ ?_ ?_<;>(try simp only[go_sem,hrs,List.map_append,List.map_cons,List.map_nil])
   all_goals first|done|rfl|omega
  obtain rfl:k=M:=by omega
  repeat'(first|refine And.intro ?_ ?_|exact True.intro|refine rq fun _=>?_|refine rf fun _=>?_|simp only[go_sem,Nat.lt_irrefl,Int.lt_irrefl,zab,zad,zae,zag,zai,zaa,Tryz.f72,Sc0])
  refine⟨⟨j+1,g2,m2,by omega,by omega,by omega,trivial⟩,by simp only;omega,?_⟩
  refine zah ?_ ?_ ?_<;>(try simp only[go_sem,hbs])
  all_goals first|done|rfl|omega
 obtain rfl:j=L:=by omega
 repeat'(first|refine And.intro ?_ ?_|exact True.intro|refine rq fun _=>?_|refine rf fun _=>?_|simp only[go_sem,Nat.lt_irrefl,Int.lt_irrefl,hL,zab,zad,zae,zag,zai,zaa,Tryz.f72,Sc0])
 all_goals first|done|rfl|omega
end Go.Proofs.YtmconmiemdinkaaGreatDoor
namespace Go.Proofs.YtmconmiemdinkaaGreatDoor
open Go Go.Abs Go.Proofs
def zdq (s:zar)(f:List Int)(p:Int):Int:=if p∈f then(((zlV s).getD (f.idxOf p) 0:Nat):Int)else-1
def zmX (s:zar)(f:List Int)(a:Int):Nat→Int→Bool
 |0,_=>false
 |m+1,b=>if b=a then true else if zdq s f b<0 then false else zmX s f a m (zdq s f b)
structure zya (s:zar)(f:List Int):Prop where
 c:ze3 s
 l:f.length≤(zlV s).length
 z:f.length≤1000000
structure zAZ (N n0:Nat)(p:Nat→Int→Prop) where
 i:Nat
 b:Int
 m:Nat
 hi:i≤N
 hm:n0≤m
 hp:p i b
set_option maxHeartbeats 4000000 in
theorem zxk {s:zar}{f:List Int}{p:Int}{id:Abs.Id}{len:Nat}{H:zax}{n:Nat}{R:D→zax→Nat→Prop}(hp:zya s f)(hid0:id.2<n)(ho:H id=some ⟨zaf (f.map enc),false,false⟩)(hln:len=f.length)
  (hR:∀n',n≤n'→R (.fz (.i .i64 (zdq s f p))) H n'):zaH Tryz.prog GA 99 [.agg [.fz (.sl (s.pieces.map enc)),.fz (.sl (s.overs.map enc)),.fz (.sl (s.vars.map enc))],.arr id 1 0 len,.fz (.i .i64 p)] H n R:=by
 subst hln
 refine zcH zIU (fun hfr=>?_) hR
 obtain⟨Q,hQ⟩:∃Q:D→zax→Nat→Prop,Q=(fun d' H' n'=>d'= .fz (.i .i64 (zdq s f p))∧n≤n'∧∀id,id.2<n→H' id=H id):=⟨_,rfl⟩
 rw[←hQ]
 have e:H=hpX [] H:=rfl
 rw[e]
 have hn0:∀id:Abs.Id,id.2<n→id≠(99003,n):=fun id h e=>by rw[e]at h;simp at h
 have hn0':∀id o,H id=some o→id≠(99003,n):=fun id o h=>hn0 id (by
  rcases Nat.lt_or_ge id.2 n with h3|h3
  ·exact h3
  ·rw[hfr id h3]at h;cases h)
 have hne:(id=(99003,n))=False:=eq_false (hn0 id hid0)
 have hfl:(zaf (f.map enc)).length=f.length:=by rw[zdw (zcf (f:=enc) (k:=1) (fun _=>rfl) _),List.length_map]
 have hgd:∀j (h:j<f.length),(zaf (f.map enc)).getD j D.junk=D.fz (.i .i64 f[j]):=fun j h=>by
  rw[zbi,List.getD_eq_getElem?_getD,List.getElem?_map,List.getElem?_eq_getElem h];rfl
 have kg:=Kp.mk hgd
 clear hgd
 have hq:∀{d:D} {m:Nat},n≤m→d= .fz (.i .i64 (zdq s f p))→∀{H':zax},(∀id,id.2<n→H' id=H id)→Q d H' m:=fun h1 h2 _ h3=>by rw[hQ];exact⟨h2,h1,h3⟩
 have hs:=hp.c
 have hul:=hp.l
 have hz:=hp.z
 have hil:(zaF (zlV s)).length=(zlV s).length:=by unfold zaF;rw[List.length_map]
 have hup:∀j (h:j<(zaF (zlV s)).length),(zaF (zlV s))[j]=(((zlV s).getD j 0:Nat):Int):=fun j h=>by
  rw[hil]at h
  rw[List.getD_eq_getElem?_getD,List.getElem?_eq_getElem h]
  simp[zaF]
 have ku:=Kp.mk hup
 clear hup
 obtain⟨U,hU⟩:∃U,zaF (zlV s)=U:=⟨_,rfl⟩
 rw[hU]at hil ku
 obtain⟨L,hL⟩:∃L,f.length=L:=⟨_,rfl⟩
 refine zaj (N:=27) Go.Proofs.YtmconmiemdinkaaGreatDoor.hm zhK 99000 (lst []) zIU Tryz.func99 rfl rfl (by simp) (by kernel_rfl) ?_
 repeat'(first|refine zaq.i hs fun _=>?_|refine And.intro ?_ ?_|exact True.intro|refine rq fun _=>?_|refine rf fun _=>?_|simp only[go_sem,ho,hne,hfl,hL,hU,zab,zad,zae,zag,zai,zaa,Tryz.f99,Sd1,Sc0])
 refine zam Go.Proofs.YtmconmiemdinkaaGreatDoor.hm zhK 99000 (lst []) (ι:=zeC L (n+1) fun j=>p∉f.take j)
  ⟨fun q=>⟨frL [(1,.arr id 1 0 L),(2,.fz (.i .i64 p)),(7,.fz (.sl (U.map enc))),(12,.fz (.i .i64 L)),(13,.fz (.i .i64 q.i))],hpX [((99003,n),some ⟨[.fz (.sl (s.pieces.map enc)),.fz (.sl (s.overs.map enc)),.fz (.sl (s.vars.map enc))],true,false⟩)] H,q.m⟩,fun q=>L-q.i⟩
  ⟨0,n+1,by omega,Nat.le_refl _,by simp⟩ (by kernel_rfl) ?_ ?_
 ·refine zay ?_ ?_ (fun id2 o2 ho2=>?_) ?_
  ·simp only[go_sem]
  ·simp only[go_sem]
  ·exact(za0 (by exact⟨(hn0' id2 o2 ho2).symm,trivial⟩)).trans ho2
  ·first|omega|(simp only[go_sem];done)|(simp only[go_sem];omega)
 rintro⟨j,m,hj,hm1,hpn⟩
 try simp only at hj hm1 hpn
 rcases Nat.lt_or_ge j L with h1|h1
 ·have h1':j<f.length:=by omega
  have h9:((j:Int)<(L:Int))=True:=eq_true (by omega)
  have hju:j<U.length:=by omega
  have gu:=ku.out j hju
  have gg:=kg.out j h1'
  obtain⟨y,hy⟩:∃y,f[j]=y:=⟨_,rfl⟩
  rw[hy]at gg
  by_cases hyp:y=p
  ·have hin:p∈f:=by rw[←hyp,←hy];exact List.getElem_mem h1'
   have ea:zdq s f p=(((zlV s).getD j 0:Nat):Int):=by unfold zdq;rw[if_pos hin,ziF h1' hpn (hy.trans hyp)]
   repeat'(first|refine And.intro ?_ ?_|exact True.intro|refine rq fun _=>?_|refine rf fun _=>?_|simp only[go_sem,ho,hne,hfl,gg,h9,h1',hy,hyp,hju,gu,ea,zab,zad,zae,zag,zai,zaa,Tryz.f99,Sd1,Sc0])
   all_goals
    refine hq ?_ ?_ (fun id hid=>?_)
    ·omega
    ·first|rfl|(rw[ea];done)
    ·simp only[go_sem,hn0 id hid]
  ·have hyp':(y=p)=False:=eq_false hyp
   repeat'(first|refine And.intro ?_ ?_|exact True.intro|refine rq fun _=>?_|refine rf fun _=>?_|simp only[go_sem,ho,hne,hfl,gg,h9,h1',hy,hyp',zab,zad,zae,zag,zai,zaa,Tryz.f99,Sd1,Sc0])
   refine⟨⟨j+1,m,by omega,by omega,zcP h1' hpn (by rw[hy];exact hyp)⟩,by simp only;omega,?_⟩
   refine zay ?_ ?_ (fun id2 o2 ho2=>?_) ?_
   ·simp only[go_sem]
   ·simp only[go_sem]
   ·exact(za0 (by exact⟨(hn0' id2 o2 ho2).symm,trivial⟩)).trans ho2
   ·first|omega|(simp only[go_sem];done)|(simp only[go_sem];omega)
 have h9:((j:Int)<(L:Int))=False:=eq_false (by omega)
 have ea:zdq s f p= -1:=by unfold zdq;rw[if_neg (zee (by omega) hpn)]
 repeat'(first|refine And.intro ?_ ?_|exact True.intro|refine rq fun _=>?_|refine rf fun _=>?_|simp only[go_sem,ho,hne,hfl,h9,ea,Tryz.f99,Sd1,Sc0])
 all_goals
  refine hq ?_ ?_ (fun id hid=>?_)
  ·omega
  ·first|rfl|(rw[ea];done)
  ·simp only[go_sem,hn0 id hid]
end Go.Proofs.YtmconmiemdinkaaGreatDoor
namespace Go.Proofs.YtmconmiemdinkaaGreatDoor
open Go Go.Abs Go.Proofs
def zmY (s:zar)(f:List Int)(a b:Int):Bool:=zmX s f a (nP s+1) b
set_option maxHeartbeats 4000000 in
theorem zzf {s:zar}{f:List Int}{a b:Int}{id:Abs.Id}{len:Nat}{H:zax}{n:Nat}{R:D→zax→Nat→Prop}(hp:zya s f)(hid0:id.2<n)(ho:H id=some ⟨zaf (f.map enc),false,false⟩)(hln:len=f.length)
  (hR:∀n',n≤n'→R (.fz (.b (zmY s f a b))) H n'):zaH Tryz.prog GA 73 [.agg [.fz (.sl (s.pieces.map enc)),.fz (.sl (s.overs.map enc)),.fz (.sl (s.vars.map enc))],.arr id 1 0 len,.fz (.i .i64 a),.fz (.i .i64 b)] H n R:=by
 refine zcH zIL (fun hfr=>?_) hR
 obtain⟨Q,hQ⟩:∃Q:D→zax→Nat→Prop,Q=(fun d' H' n'=>d'= .fz (.b (zmY s f a b))∧n≤n'∧∀id,id.2<n→H' id=H id):=⟨_,rfl⟩
 rw[←hQ]
 have e:H=hpX [] H:=rfl
 rw[e]
 have hn0:∀id:Abs.Id,id.2<n→id≠(73004,n):=fun id h e=>by rw[e]at h;simp at h
 have hn0':∀id o,H id=some o→id≠(73004,n):=fun id o h=>hn0 id (by
  rcases Nat.lt_or_ge id.2 n with h3|h3
  ·exact h3
  ·rw[hfr id h3]at h;cases h)
 have hne:(id=(73004,n))=False:=eq_false (hn0 id hid0)
 have hq:∀{r:Bool} {d:D} {m:Nat},zmY s f a b=r→n≤m→d= .fz (.b r)→∀{H':zax},(∀id,id.2<n→H' id=H id)→Q d H' m:=fun h0 h1 h2 _ h3=>by rw[hQ,h0];exact⟨h2,h1,h3⟩
 have hn6:=hp.c.n6
 have hlq:zmY s f a b=zmX s f a (nP s+1) b:=rfl
 obtain⟨L,hL⟩:∃L,nP s=L:=⟨_,rfl⟩
 have hL2:s.pieces.length=L:=hL
 rw[hL]at hlq hn6
 clear hQ
 refine zaj (N:=26) Go.Proofs.YtmconmiemdinkaaGreatDoor.hm zhK 73000 (lst []) zIL Tryz.func73 rfl rfl (by simp) (by kernel_rfl) ?_
 repeat'(first|refine And.intro ?_ ?_|exact True.intro|refine rq fun _=>?_|refine rf fun _=>?_|simp only[go_sem,ho,hne,hL2,zab,zad,zae,zag,zai,zaa,Tryz.f73,Sd1,Sc0])
 refine zam Go.Proofs.YtmconmiemdinkaaGreatDoor.hm zhK 73000 (lst []) (ι:=zAZ (L+1) (n+1) fun i c=>zmX s f a (L+1-i) c=zmY s f a b)
  ⟨fun q=>⟨frL [(1,.arr id 1 0 len),(2,.fz (.i .i64 a)),(3,.fz (.i .i64 q.b)),(4,.ptr (73004,n) 0),(9,.fz (.i .i64 q.i))],hpX [((73004,n),some ⟨[.fz (.sl (s.pieces.map enc)),.fz (.sl (s.overs.map enc)),.fz (.sl (s.vars.map enc))],true,false⟩)] H,q.m⟩,fun q=>L+1-q.i⟩
  ⟨0,b,(n+1),by omega,Nat.le_refl _,hlq.symm⟩ (by kernel_rfl) ?_ ?_
 ·refine zay ?_ ?_ (fun id2 o2 ho2=>?_) ?_
  ·simp only[go_sem]
  ·simp only[go_sem]
  ·exact(za0 (by exact⟨(hn0' id2 o2 ho2).symm,trivial⟩)).trans ho2
  ·first|omega|(simp only[go_sem];done)|(simp only[go_sem];omega)
 rintro⟨j,c,m,hj,hm1,hc⟩
 try simp only at hj hm1 hc
 rcases Nat.lt_or_ge j (L+1)with h1|h1
 ·have h9:((j:Int)≤(L:Int))=True:=eq_true (by omega)
  rw[show L+1-j=(L-j)+1 by omega,zmX]at hc
  by_cases hca:c=a
  ·have hca':(c=a)=True:=eq_true hca
   rw[if_pos hca]at hc
   repeat'(first|refine And.intro ?_ ?_|exact True.intro|refine rq fun _=>?_|refine rf fun _=>?_|simp only[go_sem,ho,hne,h9,hca',hL2,zab,zad,zae,zag,zai,zaa,Tryz.f73,Sd1,Sc0])
   all_goals
    refine hq hc.symm ?_ ?_ (fun id hid=>?_)
    ·omega
    ·first|rfl
    ·simp only[go_sem,hn0 id hid]
  have hca':(c=a)=False:=eq_false hca
  rw[if_neg hca]at hc
  by_cases hab:zdq s f c<0
  ·have hab':(zdq s f c<0)=True:=eq_true hab
   rw[if_pos hab]at hc
   repeat'(first|refine zaQ.i (zxk hp (by omega) (by simp only[go_sem,ho,hne]) hln fun n' hn'=>?_)|refine And.intro ?_ ?_|exact True.intro|refine rq fun _=>?_|refine rf fun _=>?_|simp only[go_sem,ho,hne,h9,hca',hab',hL2,zab,zad,zae,zag,zai,zaa,Tryz.f73,Sd1,Sc0])
   all_goals
    refine hq hc.symm ?_ ?_ (fun id hid=>?_)
    ·omega
    ·first|rfl
    ·simp only[go_sem,hn0 id hid]
  have hab':(zdq s f c<0)=False:=eq_false hab
  rw[if_neg hab]at hc
  repeat'(first|refine zaQ.i (zxk hp (by omega) (by simp only[go_sem,ho,hne]) hln fun n' hn'=>?_)|refine And.intro ?_ ?_|exact True.intro|refine rq fun _=>?_|refine rf fun _=>?_|simp only[go_sem,ho,hne,h9,hca',hab',hL2,zab,zad,zae,zag,zai,zaa,Tryz.f73,Sd1,Sc0])
  refine⟨⟨j+1,zdq s f c,n',by omega,by omega,by rw[show L+1-(j+1)=L-j by omega];exact hc⟩,by simp only;omega,?_⟩
  refine zay ?_ ?_ (fun id2 o2 ho2=>?_) ?_
  ·simp only[go_sem]
  ·simp only[go_sem]
  ·exact(za0 (by exact⟨(hn0' id2 o2 ho2).symm,trivial⟩)).trans ho2
  ·first|omega|(simp only[go_sem];done)|(simp only[go_sem];omega)
 obtain rfl:j=L+1:=by omega
 have h9:(((L+1:Nat):Int)≤(L:Int))=False:=eq_false (by omega)
 rw[Nat.sub_self,zmX]at hc
 have h9b:((L:Int)+1≤(L:Int))=False:=eq_false (by omega)
 repeat'(first|refine And.intro ?_ ?_|exact True.intro|refine rq fun _=>?_|refine rf fun _=>?_|simp only[go_sem,ho,hne,h9,h9b,hL2,zab,zad,zae,zag,zai,zaa,Tryz.f73,Sd1,Sc0])
 all_goals
  refine hq hc.symm ?_ ?_ (fun id hid=>?_)
  ·omega
  ·first|rfl
  ·simp only[go_sem,hn0 id hid]
end Go.Proofs.YtmconmiemdinkaaGreatDoor

/- several texts of this proof in one; no conditions -/
import Derived.Test.YtmconmiemdinkaaDoorAT
import Derived.Test.YtmconmiemdinkaaDoorY4
import Derived.Test.YtmconmiemdinkaaDoorY5
import Derived.Test.YtmconmiemdinkaaDoorY15
import Derived.Test.YtmconmiemdinkaaDoorY16
import Derived.Test.YtmconmiemdinkaaDoorY1
set_option maxRecDepth 100000
set_option maxHeartbeats 1000000
set_option linter.unusedSimpArgs false
namespace Go.Proofs.YtmconmiemdinkaaDoor
open Go Go.Abs Go.Proofs
section
variable {P:Program} {G:Nat→List FD} {T:Tbl}
theorem zni {α β γ ρ:Type}[Enc α][Enc β][Enc γ][Enc ρ]{f:FuncId}{g:α→β→γ→ρ}{pre:α→β→γ→Prop}(m:α→β→γ→Nat)(hc:zat P f)(hT:zam P G T)
  (h:∀n,zam P G (T.add f (sp3 g fun a b c=>m a b c<n∧pre a b c))→∀a b c,m a b c=n→pre a b c→(enc a).Wf→(enc b).Wf→(enc c).Wf→zaE P G f [.fz (enc a),.fz (enc b),.fz (enc c)] (hpL []) 0 (fun d _ _=>D.val d=some (.fz (enc (g a b c))))):zam P G (T.add f (sp3 g pre)):=by
 have key:∀n,zam P G (T.add f (sp3 g fun a b c=>m a b c<n∧pre a b c)):=by
  intro n
  induction n with
  |zero=>exact zfA hc hT fun a b c ha=>by omega
  |succ n ih=>
   refine zfA hc hT fun a b c hp hw hw2 hw3=>?_
   rcases Nat.lt_or_ge (m a b c) n with h3|h3
   ·have h4:=ih f (sp3 g fun a b c=>m a b c<n∧pre a b c) [enc a,enc b,enc c] _ _ (by simp[Tbl.add]) (zw2) ⟨by rw[dec_enc],by rw[dec_enc],by rw[dec_enc],by rw[dec_enc,dec_enc,dec_enc];exact⟨h3,hp.2⟩⟩
    rw[dec_enc,dec_enc,dec_enc,zfN]at h4
    exact h4
   ·exact h n ih a b c (by omega) hp.2 hw hw2 hw3
 exact zfA hc hT fun a b c hp hw hw2 hw3=>h (m a b c) (key _) a b c rfl hp hw hw2 hw3
end
def Sc0:Tbl:=Tbl.or X33 A19
theorem zvg:zam Tryd.prog GA Sc0:=zgH zEc zDI
def Sc1:Tbl:=Sc0.add 41 (sp2 inQ fun p h=>h∈p.holes∧p.pieces.length=p.holes.length)
theorem zD3:zam Tryd.prog GA Sc1:=by
 refine zc7 zCR zvg fun p h hp _ _=>?_
 obtain⟨hh,hl⟩:=hp
 have hk:=List.idxOf_lt_length_of_mem hh
 obtain⟨k,hke⟩:∃k,p.holes.idxOf h=k:=⟨_,rfl⟩
 rw[hke]at hk
 have hix:idx p.holes h=(k:Int):=by unfold idx;rw[if_pos hh,hke]
 have hkp:k<p.pieces.length:=by omega
 have he:inQ p h=p.pieces[k]:=by
  unfold inQ
  rw[hke,List.getD_eq_getElem?_getD,List.getElem?_eq_getElem hkp];rfl
 obtain⟨v,hv⟩:∃v,p.pieces[k]=v:=⟨_,rfl⟩
 rw[hv]at he
 refine zak (N:=13) Go.Proofs.YtmconmiemdinkaaDoor.hm zvg 41000 (lst []) zCR Tryd.func41 rfl rfl (by simp) (by kernel_rfl) ?_
 repeat'(first|refine And.intro ?_ ?_|exact True.intro|refine rq fun _=>?_|refine rf fun _=>?_|simp only[go_sem,hix,hkp,hv,he,zac,zae,zaD,zad,zaf,zaa,Tryd.f41,Sc0])
 all_goals first|done|rfl|omega
def Sc2:Tbl:=Sc1.add 15 (sp3 zbN zgd)
set_option maxHeartbeats 4000000 in
theorem zD4:zam Tryd.prog GA Sc2:=by
 refine zni zpk zCz zD3 fun n hT p s i hn hp _ _ _=>?_
 have hbe:=zpl hp
 have hlen:=zty hp
 have hkid:=fun x hx=>ztx (x:=x) hp hx
 obtain⟨I,hI⟩:∃I:Nat,i=(I:Int):=⟨i.toNat,by have:=hp.i0;omega⟩
 subst hI
 have hIn:I<s.pieces.length:=by have:=hp.i1;rw[Int.toNat_natCast]at this;exact this
 rw[Int.toNat_natCast]at hbe hkid
 obtain⟨pc,hpc⟩:∃pc,s.pieces[I]=pc:=⟨_,rfl⟩
 have hho:zbZ s I=zar pc.form:=by unfold zbZ;rw[List.getElem?_eq_getElem hIn,hpc]
 have hfz:pc.form.size≤1000:=by have:=zaV (hp.g.c.chk pc (by rw[←hpc];exact List.getElem_mem hIn));omega
 have hin:∀x∈zar pc.form,(x∈p.holes∧p.pieces.length=p.holes.length)∧inQ p x=((inP s (zaz p.pieces) x:Nat):Int):=fun x hx=>by
  have hxa:x∈zaU s.pieces:=zdP (i:=I) (by rw[hho];exact hx)
  have h1:p.holes=zaU s.pieces:=by rw[hp.g.e];rfl
  have h2:=zjx hp.g.l hxa
  rw[←hp.g.e]at h2
  have h3:p.pieces.length=(zaz p.pieces).length:=by unfold zaz;rw[List.length_map]
  exact⟨⟨by rw[h1];exact hxa,by rw[h1,h3];exact hp.g.l.e⟩,h2⟩
 rw[hho]at hbe hkid
 obtain⟨B,hB⟩:∃B:Nat→List Int,B=fun j=>((zar pc.form).take j).flatMap fun x=>zbN p s ((inP s (zaz p.pieces) x:Nat):Int):=⟨_,rfl⟩
 have hB0:B 0=[]:=by rw[hB];rfl
 have hBs:∀j (h:j<(zar pc.form).length),B (j+1)=B j++zbN p s ((inP s (zaz p.pieces) (zar pc.form)[j]:Nat):Int):=fun j h=>by
  rw[hB];simp only
  rw[List.take_succ_eq_append_getElem h,List.flatMap_append]
  simp
 have hBe:zbN p s (I:Int)=(I:Int)::B (zar pc.form).length:=by rw[hbe,hB];simp only[List.take_length]
 have hBl:∀j,(B j).length≤(B (zar pc.form).length).length:=fun j=>by
  have:B (zar pc.form).length=B j++((zar pc.form).drop j).flatMap fun x=>zbN p s ((inP s (zaz p.pieces) x:Nat):Int):=by
   rw[hB];simp only[List.take_length]
   rw[←List.flatMap_append,List.take_append_drop]
  rw[this,List.length_append];omega
 have hBn:(B (zar pc.form).length).length≤6:=by rw[hBe]at hlen;simp only[List.length_cons]at hlen;omega
 rw[hBe]
 have kT:=Kp.mk hT
 have kB:=Kp.mk hBs
 have kI:=Kp.mk hin
 have kK:=Kp.mk hkid
 have kl:=Kp.mk hBl
 clear hT hBs hin hkid hBl hBe hbe hlen hB hp
 obtain⟨L,hL⟩:∃L,(zar pc.form).length=L:=⟨_,rfl⟩
 have hLb:L≤1000:=by have:=zbr pc.form;omega
 refine zak (N:=34) Go.Proofs.YtmconmiemdinkaaDoor.hm kT.out 15000 (lsw [31] []) zCz Tryd.func15 rfl rfl (by simp) (by kernel_rfl) ?_
 repeat'(first|refine And.intro ?_ ?_|exact True.intro|refine rq fun _=>?_|refine rf fun _=>?_|simp only[go_sem,hIn,hpc,hL,zac,zae,zaD,zad,zaf,zaa,Tryd.f15,Sc1,Sc0])
 refine zap Go.Proofs.YtmconmiemdinkaaDoor.hm kT.out 15000 (lsw [31] []) (ι:=zeF L 2 fun _=>True)
  ⟨fun q=>⟨frL [(3,.ptr (15003,0) 0),(4,.ptr (15004,1) 0),(7,.ow (15031,q.g) 1 (((I:Int)::B q.i).map enc)),(18,.fz (.sl ((zar pc.form).map enc))),(19,.fz (.i .i64 L)),(20,.fz (.i .i64 q.i))],
   hpL [((15003,0),some ⟨[.fz (.sl (p.holes.map enc)),.fz (.sl (p.pieces.map enc)),.fz (.i .i64 p.top)],true,false⟩),((15004,1),some ⟨[.fz (.sl (s.pieces.map enc)),.fz (.sl (s.overs.map enc)),.fz (.sl (s.vars.map enc))],true,false⟩),((15031,q.g),some tok)],q.m⟩,fun q=>L-q.i⟩
  ⟨0,2,3,by omega,by omega,by omega,trivial⟩ (by kernel_rfl) ?_ ?_
 ·refine zcV [] [(15031,2)] [] ?_ ?_ ?_ ?_ ?_<;>(try simp only[go_sem,hB0,List.map_cons,List.map_nil])
  all_goals first|done|rfl|omega
 rintro⟨j,g,m,hj,hg,hm2,_⟩
 try simp only at hj hg hm2
 rcases Nat.lt_or_ge j L with h1|h1
 ·have h1':j<(zar pc.form).length:=by omega
  obtain⟨x,hx⟩:∃x,(zar pc.form)[j]=x:=⟨_,rfl⟩
  have hxm:x∈zar pc.form:=by rw[←hx];exact List.getElem_mem h1'
  obtain⟨hi1,hi2⟩:=kI.out x hxm
  obtain⟨hk1,hk2⟩:=kK.out x hxm
  have hbs:=kB.out j h1'
  have hb1:=kl.out j
  have hb2:=kl.out (j+1)
  rw[hx]at hbs
  have hpre:zpk p s ((inP s (zaz p.pieces) x:Nat):Int)<n∧zgd p s ((inP s (zaz p.pieces) x:Nat):Int):=⟨by omega,hk1⟩
  have hbl:(zbN p s ((inP s (zaz p.pieces) x:Nat):Int)).length≤6:=by
   have:=congrArg List.length hbs
   rw[List.length_append]at this
   omega
  have h9:((j:Int)<(L:Int))=True:=eq_true (by omega)
  repeat'(first|refine zaG.i hi1 fun _=>?_|refine zaG.i hpre fun _=>?_|refine And.intro ?_ ?_|exact True.intro|refine rq fun _=>?_|refine rf fun _=>?_|simp only[go_sem,h9,h1',hx,hi2,zac,zae,zaD,zad,zaf,zaa,Tryd.f15,Sc1,Sc0])
  refine⟨⟨j+1,m,m+1,by omega,by omega,by omega,trivial⟩,by simp only;omega,?_⟩
  refine zai ?_ ?_ ?_<;>(try simp only[go_sem,hbs,List.map_append,List.map_cons,List.map_nil,List.cons_append])
  all_goals first|done|rfl|omega
 obtain rfl:j=L:=by omega
 repeat'(first|refine And.intro ?_ ?_|exact True.intro|refine rq fun _=>?_|refine rf fun _=>?_|simp only[go_sem,Nat.lt_irrefl,Int.lt_irrefl,hL,zac,zae,zaD,zad,zaf,zaa,Tryd.f15,Sc1,Sc0])
 all_goals first|done|rfl|omega
end Go.Proofs.YtmconmiemdinkaaDoor
namespace Go.Proofs.YtmconmiemdinkaaDoor
open Go Go.Abs Go.Proofs
def Sd1:Tbl:=Sc0.add 26 (sp1 (fun s=>zay (zgF s)) fun s=>zhx s)
set_option maxHeartbeats 4000000 in
theorem zfL:zam Tryd.prog GA Sd1:=by
 refine zcu zCI zvg fun s hs _=>?_
 have hn6:=hs.n6
 have hnp:s.pieces.length=nP s:=rfl
 obtain⟨A,hA⟩:∃A:Nat→List Int,A=fun j=>zay (((List.range j).flatMap fun i=>(zbZ s i).map fun h=>(h,i)).map (·.2)):=⟨_,rfl⟩
 have hA0:A 0=[]:=by rw[hA];rfl
 have hAs:∀j (h:j<s.pieces.length),A (j+1)=A j++List.replicate (zar s.pieces[j].form).length (j:Int):=fun j h=>by
  rw[hA];simp only
  have hho:zbZ s j=zar s.pieces[j].form:=by unfold zbZ;rw[List.getElem?_eq_getElem h]
  rw[List.range_succ,List.flatMap_append,List.map_append]
  unfold zay
  rw[List.map_append]
  congr 1
  simp only[List.flatMap_cons,List.flatMap_nil,List.append_nil,List.map_map,hho]
  exact List.eq_replicate_iff.2 ⟨by simp,fun b hb=>by obtain⟨x,_,rfl⟩:=List.mem_map.1 hb;rfl⟩
 have hAe:zay (zgF s)=A s.pieces.length:=by rw[hA];rfl
 have hhz:∀x∈s.pieces,x.form.size≤1000∧(zar x.form).length≤1000∧zcG x.form=zar x.form:=fun x hx=>by
  have h1:=zaV (hs.chk x hx)
  have h2:=zbr x.form
  exact⟨by omega,by omega,zcq (hs.chk x hx)⟩
 have hAl:∀j,j≤s.pieces.length→(A j).length≤1000*j:=by
  intro j
  induction j with
  |zero=>intro _;rw[hA0];simp
  |succ j ih=>
   intro hj
   rw[hAs j hj,List.length_append,List.length_replicate]
   have h1:=ih (by omega)
   have h2:=(hhz _ (List.getElem_mem hj)).2.1
   omega
 rw[hAe]
 have kA:=Kp.mk hAs
 have kL:=Kp.mk hAl
 have kz:=Kp.mk hhz
 clear hAs hAl hhz hA hAe
 obtain⟨L,hL⟩:∃L,s.pieces.length=L:=⟨_,rfl⟩
 refine zak (N:=27) Go.Proofs.YtmconmiemdinkaaDoor.hm zvg 26000 (lsw [23] []) zCI Tryd.func26 rfl rfl (by simp) (by kernel_rfl) ?_
 repeat'(first|refine And.intro ?_ ?_|exact True.intro|refine rq fun _=>?_|refine rf fun _=>?_|simp only[go_sem,hL,zac,zae,zad,zaf,zah,zaa,Tryd.f26,Sc0])
 refine zap Go.Proofs.YtmconmiemdinkaaDoor.hm zvg 26000 (lsw [23] []) (ι:=zeF L 2 fun _=>True)
  ⟨fun q=>⟨frL [(1,.ptr (26001,0) 0),(3,.ow (26023,q.g) 1 ((A q.i).map enc)),(7,.fz (.sl (s.pieces.map enc))),(8,.fz (.i .i64 L)),(9,.fz (.i .i64 q.i))],
   hpL [((26001,0),some ⟨[.fz (.sl (s.pieces.map enc)),.fz (.sl (s.overs.map enc)),.fz (.sl (s.vars.map enc))],true,false⟩),((26023,q.g),some tok)],q.m⟩,fun q=>L-q.i⟩
  ⟨0,1,2,by omega,by omega,by omega,trivial⟩ (by kernel_rfl) ?_ ?_
 ·refine zcV [] [(26023,1)] [] ?_ ?_ ?_ ?_ ?_<;>(try simp only[go_sem,hA0,List.map_cons,List.map_nil])
  all_goals first|done|rfl|omega
 rintro⟨j,g,m,hj,hg,hm2,_⟩
 try simp only at hj hg hm2
 have hl1:=kL.out j (by omega)
 rcases Nat.lt_or_ge j L with h1|h1
 ·have h1':j<s.pieces.length:=by omega
  have h9:((j:Int)<(L:Int))=True:=eq_true (by omega)
  obtain⟨x,hx⟩:∃x,s.pieces[j]=x:=⟨_,rfl⟩
  obtain⟨hz1,hz2,hz3⟩:=kz.out x (by rw[←hx];exact List.getElem_mem h1')
  have hbs:=kA.out j h1'
  rw[hx]at hbs
  obtain⟨M,hM⟩:∃M,(zar x.form).length=M:=⟨_,rfl⟩
  rw[hM]at hz2 hbs
  repeat'(first|refine And.intro ?_ ?_|exact True.intro|refine rq fun _=>?_|refine rf fun _=>?_|simp only[go_sem,h9,h1',hx,hz3,hM,zac,zae,zad,zaf,zah,zaa,Tryd.f26,Sc0])
  refine zap Go.Proofs.YtmconmiemdinkaaDoor.hm zvg 26000 (lsw [23] []) (ι:=zeF M (m+1) fun _=>True)
   ⟨fun q=>⟨frL [(1,.ptr (26001,0) 0),(3,.ow (26023,q.g) 1 ((A j++List.replicate q.i (j:Int)).map enc)),(4,.fz (.i .i64 j)),(7,.fz (.sl (s.pieces.map enc))),(8,.fz (.i .i64 L)),(9,.fz (.i .i64 j)),(17,.fz (.i .i64 M)),(18,.fz (.i .i64 q.i))],
    hpL [((26001,0),some ⟨[.fz (.sl (s.pieces.map enc)),.fz (.sl (s.overs.map enc)),.fz (.sl (s.vars.map enc))],true,false⟩),((26023,q.g),some tok)],q.m⟩,fun q=>M-q.i⟩
   ⟨0,g,m+1,by omega,by omega,by omega,trivial⟩ (by kernel_rfl) ?_ ?_
  ·refine zai ?_ ?_ ?_<;>(try simp only[go_sem,List.replicate_zero,List.append_nil])
   all_goals first|done|rfl|omega
  rintro⟨k,g2,m2,hk,hg2,hm3,_⟩
  try simp only at hk hg2 hm3
  rcases Nat.lt_or_ge k M with h2|h2
  ·have h8:((k:Int)<(M:Int))=True:=eq_true (by omega)
   have hrl:(A j++List.replicate k (j:Int)).length≤10000:=by rw[List.length_append,List.length_replicate];omega
   have hrs:A j++List.replicate (k+1) (j:Int)=(A j++List.replicate k (j:Int))++[(j:Int)]:=by rw[List.append_assoc,List.replicate_succ']
   obtain⟨C,hC⟩:∃C,A j++List.replicate k (j:Int)=C:=⟨_,rfl⟩
   rw[hC]at hrl hrs
   repeat'(first|refine And.intro ?_ ?_|exact True.intro|refine rq fun _=>?_|refine rf fun _=>?_|simp only[go_sem,h8,hC,zac,zae,zad,zaf,zah,zaa,Tryd.f26,Sc0])
   refine⟨⟨k+1,m2,m2+1,by omega,by omega,by omega,trivial⟩,by simp only;omega,?_⟩
   refine zai ?_ ?_ ?_<;>(try simp only[go_sem,hrs,List.map_append,List.map_cons,List.map_nil])
   all_goals first|done|rfl|omega
  obtain rfl:k=M:=by omega
  repeat'(first|refine And.intro ?_ ?_|exact True.intro|refine rq fun _=>?_|refine rf fun _=>?_|simp only[go_sem,Nat.lt_irrefl,Int.lt_irrefl,zac,zae,zad,zaf,zah,zaa,Tryd.f26,Sc0])
  refine⟨⟨j+1,g2,m2,by omega,by omega,by omega,trivial⟩,by simp only;omega,?_⟩
  refine zai ?_ ?_ ?_<;>(try simp only[go_sem,hbs])
  all_goals first|done|rfl|omega
 obtain rfl:j=L:=by omega
 repeat'(first|refine And.intro ?_ ?_|exact True.intro|refine rq fun _=>?_|refine rf fun _=>?_|simp only[go_sem,Nat.lt_irrefl,Int.lt_irrefl,hL,zac,zae,zad,zaf,zah,zaa,Tryd.f26,Sc0])
 all_goals first|done|rfl|omega
end Go.Proofs.YtmconmiemdinkaaDoor
namespace Go.Proofs.YtmconmiemdinkaaDoor
open Go Go.Abs Go.Proofs
def zlz {α:Type}[DecidableEq α](l:List α)(s:α):Int:=if s∈l then(l.idxOf s:Int)else-1
theorem zfX {α:Type}[DecidableEq α]{s:α}:∀{l:List α} {i:Nat} (h:i<l.length),s∉l.take i→l[i]=s→l.idxOf s=i
 |[],i,h,_,_=>by simp at h
 |x::l,0,h,_,e=>by
  have e2:x=s:=e
  rw[List.idxOf_cons,e2,beq_self_eq_true];rfl
 |x::l,i+1,h,h1,e=>by
  rw[List.take_succ_cons]at h1
  have h2:x≠s:=fun e2=>h1 (by rw[e2];simp)
  have h3:=zfX (l:=l) (by simpa using h) (fun h4=>h1 (List.mem_cons_of_mem _ h4)) (by simpa using e)
  rw[List.idxOf_cons,h3,beq_false_of_ne h2];rfl
def Su1:Tbl:=ztp.add 44 (sp2 zlz fun(_:List Int) (_:Int)=>True)
theorem zBD:zam Tryd.prog GA Su1:=by
 refine zc7 zCS zdJ fun l s hs ha hb=>?_
 have la:=zdq ha
 simp only[List.length_map,zbj]at la
 refine zak (N:=19) hm zdJ 44000 (lst []) zCS Tryd.func44 rfl rfl (by simp) (by kernel_rfl) ?_
 simp only[go_sem]
 refine zap hm zdJ 44000 (lst []) (ι:=zd3 l.length fun i=>s∉l.take i) ⟨fun i=>⟨frL [(0,.fz (enc l)),(1,.fz (enc s)),(7,.fz (.i .i64 l.length)),(8,.fz (.i .i64 i.i))],hpL [],0⟩,fun i=>l.length-i.i⟩ ⟨0,by simp,by simp⟩ (by kernel_rfl) ?_ ?_
 ·refine zai ?_ ?_ ?_<;>simp only[go_sem]
 intro i
 have hi:=i.hi
 have hp:=i.hp
 rcases Nat.lt_or_ge i.i l.length with h2|h2
 ·have h2':((i.i:Int)<(l.length:Int))=True:=eq_true (by omega)
  by_cases h4:l[i.i]=s
  ·have hin:s∈l:=h4▸List.getElem_mem h2
   have e:zlz l s=i.i:=by
    unfold zlz
    rw[if_pos hin,zfX h2 hp h4]
   repeat'(first|refine And.intro ?_ ?_|exact True.intro|refine rq fun _=>?_|refine rf fun _=>?_|simp only[go_sem,h2',h2,h4,zaa,e,Tryd.f44])
   all_goals first|done|rfl|omega
  ·have h4':(s=l[i.i])=False:=eq_false fun e=>h4 e.symm
   repeat'(first|refine And.intro ?_ ?_|exact True.intro|refine rq fun _=>?_|refine rf fun _=>?_|simp only[go_sem,h2',h2,h4',zaa,Tryd.f44])
   refine⟨⟨i.i+1,by omega,zb1 h2 hp h4⟩,by simp only;omega,?_⟩
   refine zai ?_ ?_ ?_<;>simp only[go_sem]
 ·have e:zlz l s= -1:=by
   unfold zlz
   rw[if_neg (zc5 (by omega) hp)]
  have h2':((i.i:Int)<(l.length:Int))=False:=eq_false (by omega)
  repeat'(first|refine And.intro ?_ ?_|exact True.intro|refine rq fun _=>?_|refine rf fun _=>?_|simp only[go_sem,h2',e,Tryd.f44])
  all_goals first|done|rfl|omega
def Su2:Tbl:=Su1.add 14 (sp2 (fun(l:List Int) (s:Int)=>decide (s∈l)) fun _ _=>True)
theorem zzL:zam Tryd.prog GA Su2:=by
 refine zc7 zCy zBD fun l s hs ha hb=>?_
 refine zak (N:=9) hm zBD 14000 (lst []) zCy Tryd.func14 rfl rfl (by simp) (by kernel_rfl) ?_
 have e:decide (0≤zlz l s)=decide (s∈l):=by
  unfold zlz
  split<;>rename_i h<;>simp[h]
 repeat'(first|refine And.intro ?_ ?_|exact True.intro|refine rq fun _=>?_|refine rf fun _=>?_|simp only[go_sem,Su1,ztp,Tryd.f14,e])
 all_goals first|done|rfl|omega
def Su3:Tbl:=Su2.add 38 (sp2 zlz fun(_:List Bool) (v:Bool)=>v=false)
theorem zBE:zam Tryd.prog GA Su3:=by
 refine zc7 zCO zzL fun l s hs ha hb=>?_
 have la:=zdq ha
 simp only[List.length_map,zbj]at la
 subst hs
 refine zak (N:=19) hm zzL 38000 (lst []) zCO Tryd.func38 rfl rfl (by simp) (by kernel_rfl) ?_
 simp only[go_sem]
 refine zap hm zzL 38000 (lst []) (ι:=zd3 l.length fun i=>false∉l.take i) ⟨fun i=>⟨frL [(0,.fz (enc l)),(1,.fz (enc false)),(7,.fz (.i .i64 l.length)),(8,.fz (.i .i64 i.i))],hpL [],0⟩,fun i=>l.length-i.i⟩ ⟨0,by simp,by simp⟩ (by kernel_rfl) ?_ ?_
 ·refine zai ?_ ?_ ?_<;>simp only[go_sem]
 intro i
 have hi:=i.hi
 have hp:=i.hp
 rcases Nat.lt_or_ge i.i l.length with h2|h2
 ·have h2':((i.i:Int)<(l.length:Int))=True:=eq_true (by omega)
  cases h4:l[i.i]with
  |false=>
   have hin:false∈l:=h4▸List.getElem_mem h2
   have e:zlz l false=i.i:=by
    unfold zlz
    rw[if_pos hin,zfX h2 hp h4]
   repeat'(first|refine And.intro ?_ ?_|exact True.intro|refine rq fun _=>?_|refine rf fun _=>?_|simp only[go_sem,h2',h2,h4,zaa,e,Tryd.f38])
   all_goals first|done|rfl|omega
  |true=>
   repeat'(first|refine And.intro ?_ ?_|exact True.intro|refine rq fun _=>?_|refine rf fun _=>?_|simp only[go_sem,h2',h2,h4,zaa,Tryd.f38])
   refine⟨⟨i.i+1,by omega,zb1 h2 hp (by rw[h4];decide)⟩,by simp only;omega,?_⟩
   refine zai ?_ ?_ ?_<;>simp only[go_sem]
 ·have e:zlz l false= -1:=by
   unfold zlz
   rw[if_neg (zc5 (by omega) hp)]
  have h2':((i.i:Int)<(l.length:Int))=False:=eq_false (by omega)
  repeat'(first|refine And.intro ?_ ?_|exact True.intro|refine rq fun _=>?_|refine rf fun _=>?_|simp only[go_sem,h2',e,Tryd.f38])
  all_goals first|done|rfl|omega
def Su4:Tbl:=Su3.add 53 (sp2 (fun(l:List Bool) (s:Bool)=>decide (s∈l)) fun _ v=>v=false)
theorem zBF:zam Tryd.prog GA Su4:=by
 refine zc7 zCZ zBE fun l s hs ha hb=>?_
 subst hs
 refine zak (N:=9) hm zBE 53000 (lst []) zCZ Tryd.func53 rfl rfl (by simp) (by kernel_rfl) ?_
 have e:decide (0≤zlz l false)=decide (false∈l):=by
  unfold zlz
  split<;>rename_i h<;>simp[h]
 repeat'(first|refine And.intro ?_ ?_|exact True.intro|refine rq fun _=>?_|refine rf fun _=>?_|simp only[go_sem,Su3,Su2,Su1,ztp,Tryd.f53,e])
 all_goals first|done|rfl|omega
end Go.Proofs.YtmconmiemdinkaaDoor
namespace Go.Proofs.YtmconmiemdinkaaDoor
open Go Go.Abs Go.Proofs
def zbu (s:zal)(f:List Int)(p:Int):Int:=if p∈f then(((zgF s).getD (f.idxOf p) 0:Nat):Int)else-1
def zgB (s:zal)(f:List Int)(a:Int):Nat→Int→Bool
 |0,_=>false
 |m+1,b=>if b=a then true else if zbu s f b<0 then false else zgB s f a m (zbu s f b)
structure znD (s:zal)(f:List Int):Prop where
 c:zhx s
 l:f.length≤(zgF s).length
 z:f.length≤1000000
structure zsR (N n0:Nat)(p:Nat→Int→Prop) where
 i:Nat
 b:Int
 m:Nat
 hi:i≤N
 hm:n0≤m
 hp:p i b
def Sd2:Tbl:=Sd1.add 29 (sp3 zbu fun s f _=>znD s f)
set_option maxHeartbeats 4000000 in
theorem zzK:zam Tryd.prog GA Sd2:=by
 refine zfA zy5 zfL fun s f p hp _ _ _=>?_
 have hs:=hp.c
 have hul:=hp.l
 have hz:=hp.z
 have hil:(zay (zgF s)).length=(zgF s).length:=by unfold zay;rw[List.length_map]
 have hup:∀j (h:j<(zay (zgF s)).length),(zay (zgF s))[j]=(((zgF s).getD j 0:Nat):Int):=fun j h=>by
  rw[hil]at h
  rw[List.getD_eq_getElem?_getD,List.getElem?_eq_getElem h]
  simp[zay]
 have ku:=Kp.mk hup
 clear hup
 obtain⟨U,hU⟩:∃U,zay (zgF s)=U:=⟨_,rfl⟩
 rw[hU]at hil ku
 obtain⟨L,hL⟩:∃L,f.length=L:=⟨_,rfl⟩
 refine zak (N:=27) Go.Proofs.YtmconmiemdinkaaDoor.hm zfL 29000 (lst []) zy5 Tryd.func29 rfl rfl (by simp) (by kernel_rfl) ?_
 repeat'(first|refine zaG.i hs fun _=>?_|refine And.intro ?_ ?_|exact True.intro|refine rq fun _=>?_|refine rf fun _=>?_|simp only[go_sem,hL,hU,zac,zae,zad,zaf,zah,zaa,Tryd.f29,Sd1,Sc0])
 refine zap Go.Proofs.YtmconmiemdinkaaDoor.hm zfL 29000 (lst []) (ι:=zdI L 1 fun j=>p∉f.take j)
  ⟨fun q=>⟨frL [(1,.fz (.sl (f.map enc))),(2,.fz (.i .i64 p)),(7,.fz (.sl (U.map enc))),(12,.fz (.i .i64 L)),(13,.fz (.i .i64 q.i))],hpL [((29003,0),some ⟨[.fz (.sl (s.pieces.map enc)),.fz (.sl (s.overs.map enc)),.fz (.sl (s.vars.map enc))],true,false⟩)],q.m⟩,fun q=>L-q.i⟩
  ⟨0,1,by omega,Nat.le_refl _,by simp⟩ (by kernel_rfl) ?_ ?_
 ·refine zai ?_ ?_ ?_<;>(try simp only[go_sem])
  all_goals first|done|rfl|omega
 rintro⟨j,m,hj,hm1,hpn⟩
 try simp only at hj hm1 hpn
 rcases Nat.lt_or_ge j L with h1|h1
 ·have h1':j<f.length:=by omega
  have h9:((j:Int)<(L:Int))=True:=eq_true (by omega)
  have hju:j<U.length:=by omega
  have gu:=ku.out j hju
  obtain⟨y,hy⟩:∃y,f[j]=y:=⟨_,rfl⟩
  by_cases hyp:y=p
  ·have hin:p∈f:=by rw[←hyp,←hy];exact List.getElem_mem h1'
   have ea:zbu s f p=(((zgF s).getD j 0:Nat):Int):=by unfold zbu;rw[if_pos hin,zfX h1' hpn (hy.trans hyp)]
   repeat'(first|refine And.intro ?_ ?_|exact True.intro|refine rq fun _=>?_|refine rf fun _=>?_|simp only[go_sem,h9,h1',hy,hyp,hju,gu,ea,zac,zae,zad,zaf,zah,zaa,Tryd.f29,Sd1,Sc0])
   all_goals first|done|rfl|omega
  ·have hyp':(y=p)=False:=eq_false hyp
   repeat'(first|refine And.intro ?_ ?_|exact True.intro|refine rq fun _=>?_|refine rf fun _=>?_|simp only[go_sem,h9,h1',hy,hyp',zac,zae,zad,zaf,zah,zaa,Tryd.f29,Sd1,Sc0])
   refine⟨⟨j+1,m,by omega,by omega,zb1 h1' hpn (by rw[hy];exact hyp)⟩,by simp only;omega,?_⟩
   refine zai ?_ ?_ ?_<;>(try simp only[go_sem])
   all_goals first|done|rfl|omega
 have h9:((j:Int)<(L:Int))=False:=eq_false (by omega)
 have ea:zbu s f p= -1:=by unfold zbu;rw[if_neg (zc5 (by omega) hpn)]
 repeat'(first|refine And.intro ?_ ?_|exact True.intro|refine rq fun _=>?_|refine rf fun _=>?_|simp only[go_sem,h9,ea,Tryd.f29,Sd1,Sc0])
 all_goals first|done|rfl|omega
set_option maxHeartbeats 4000000 in
theorem zsS {s:zal}{f:List Int}{p:Int}{id:Abs.Id}{len:Nat}{H:zau}{n:Nat}{R:D→zau→Nat→Prop}(hp:znD s f)(hid0:id.2<n)(ho:H id=some ⟨zag (f.map enc),false,false⟩)(hln:len=f.length)
  (hR:∀n',n≤n'→R (.fz (.i .i64 (zbu s f p))) H n'):zaE Tryd.prog GA 29 [.agg [.fz (.sl (s.pieces.map enc)),.fz (.sl (s.overs.map enc)),.fz (.sl (s.vars.map enc))],.arr id 1 0 len,.fz (.i .i64 p)] H n R:=by
 subst hln
 refine zbC zy5 (fun hfr=>?_) hR
 obtain⟨Q,hQ⟩:∃Q:D→zau→Nat→Prop,Q=(fun d' H' n'=>d'= .fz (.i .i64 (zbu s f p))∧n≤n'∧∀id,id.2<n→H' id=H id):=⟨_,rfl⟩
 rw[←hQ]
 have e:H=hpX [] H:=rfl
 rw[e]
 have hn0:∀id:Abs.Id,id.2<n→id≠(29003,n):=fun id h e=>by rw[e]at h;simp at h
 have hn0':∀id o,H id=some o→id≠(29003,n):=fun id o h=>hn0 id (by
  rcases Nat.lt_or_ge id.2 n with h3|h3
  ·exact h3
  ·rw[hfr id h3]at h;cases h)
 have hne:(id=(29003,n))=False:=eq_false (hn0 id hid0)
 have hfl:(zag (f.map enc)).length=f.length:=by rw[zc1 (zbR (f:=enc) (k:=1) (fun _=>rfl) _),List.length_map]
 have hgd:∀j (h:j<f.length),(zag (f.map enc)).getD j D.junk=D.fz (.i .i64 f[j]):=fun j h=>by
  rw[za0,List.getD_eq_getElem?_getD,List.getElem?_map,List.getElem?_eq_getElem h];rfl
 have kg:=Kp.mk hgd
 clear hgd
 have hq:∀{d:D} {m:Nat},n≤m→d= .fz (.i .i64 (zbu s f p))→∀{H':zau},(∀id,id.2<n→H' id=H id)→Q d H' m:=fun h1 h2 _ h3=>by rw[hQ];exact⟨h2,h1,h3⟩
 have hs:=hp.c
 have hul:=hp.l
 have hz:=hp.z
 have hil:(zay (zgF s)).length=(zgF s).length:=by unfold zay;rw[List.length_map]
 have hup:∀j (h:j<(zay (zgF s)).length),(zay (zgF s))[j]=(((zgF s).getD j 0:Nat):Int):=fun j h=>by
  rw[hil]at h
  rw[List.getD_eq_getElem?_getD,List.getElem?_eq_getElem h]
  simp[zay]
 have ku:=Kp.mk hup
 clear hup
 obtain⟨U,hU⟩:∃U,zay (zgF s)=U:=⟨_,rfl⟩
 rw[hU]at hil ku
 obtain⟨L,hL⟩:∃L,f.length=L:=⟨_,rfl⟩
 refine zak (N:=27) Go.Proofs.YtmconmiemdinkaaDoor.hm zfL 29000 (lst []) zy5 Tryd.func29 rfl rfl (by simp) (by kernel_rfl) ?_
 repeat'(first|refine zaG.i hs fun _=>?_|refine And.intro ?_ ?_|exact True.intro|refine rq fun _=>?_|refine rf fun _=>?_|simp only[go_sem,ho,hne,hfl,hL,hU,zac,zae,zad,zaf,zah,zaa,Tryd.f29,Sd1,Sc0])
 refine zap Go.Proofs.YtmconmiemdinkaaDoor.hm zfL 29000 (lst []) (ι:=zdI L (n+1) fun j=>p∉f.take j)
  ⟨fun q=>⟨frL [(1,.arr id 1 0 L),(2,.fz (.i .i64 p)),(7,.fz (.sl (U.map enc))),(12,.fz (.i .i64 L)),(13,.fz (.i .i64 q.i))],hpX [((29003,n),some ⟨[.fz (.sl (s.pieces.map enc)),.fz (.sl (s.overs.map enc)),.fz (.sl (s.vars.map enc))],true,false⟩)] H,q.m⟩,fun q=>L-q.i⟩
  ⟨0,n+1,by omega,Nat.le_refl _,by simp⟩ (by kernel_rfl) ?_ ?_
 ·refine zaL ?_ ?_ (fun id2 o2 ho2=>?_) ?_
  ·simp only[go_sem]
  ·simp only[go_sem]
  ·exact(zba (by exact⟨(hn0' id2 o2 ho2).symm,trivial⟩)).trans ho2
  ·first|omega|(simp only[go_sem];done)|(simp only[go_sem];omega)
 rintro⟨j,m,hj,hm1,hpn⟩
 try simp only at hj hm1 hpn
 rcases Nat.lt_or_ge j L with h1|h1
 ·have h1':j<f.length:=by omega
  have h9:((j:Int)<(L:Int))=True:=eq_true (by omega)
  have hju:j<U.length:=by omega
  have gu:=ku.out j hju
  have gg:=kg.out j h1'
  obtain⟨y,hy⟩:∃y,f[j]=y:=⟨_,rfl⟩
  rw[hy]at gg
  by_cases hyp:y=p
  ·have hin:p∈f:=by rw[←hyp,←hy];exact List.getElem_mem h1'
   have ea:zbu s f p=(((zgF s).getD j 0:Nat):Int):=by unfold zbu;rw[if_pos hin,zfX h1' hpn (hy.trans hyp)]
   repeat'(first|refine And.intro ?_ ?_|exact True.intro|refine rq fun _=>?_|refine rf fun _=>?_|simp only[go_sem,ho,hne,hfl,gg,h9,h1',hy,hyp,hju,gu,ea,zac,zae,zad,zaf,zah,zaa,Tryd.f29,Sd1,Sc0])
   all_goals
    refine hq ?_ ?_ (fun id hid=>?_)
    ·omega
    ·first|rfl|(rw[ea];done)
    ·simp only[go_sem,hn0 id hid]
  ·have hyp':(y=p)=False:=eq_false hyp
   repeat'(first|refine And.intro ?_ ?_|exact True.intro|refine rq fun _=>?_|refine rf fun _=>?_|simp only[go_sem,ho,hne,hfl,gg,h9,h1',hy,hyp',zac,zae,zad,zaf,zah,zaa,Tryd.f29,Sd1,Sc0])
   refine⟨⟨j+1,m,by omega,by omega,zb1 h1' hpn (by rw[hy];exact hyp)⟩,by simp only;omega,?_⟩
   refine zaL ?_ ?_ (fun id2 o2 ho2=>?_) ?_
   ·simp only[go_sem]
   ·simp only[go_sem]
   ·exact(zba (by exact⟨(hn0' id2 o2 ho2).symm,trivial⟩)).trans ho2
   ·first|omega|(simp only[go_sem];done)|(simp only[go_sem];omega)
 have h9:((j:Int)<(L:Int))=False:=eq_false (by omega)
 have ea:zbu s f p= -1:=by unfold zbu;rw[if_neg (zc5 (by omega) hpn)]
 repeat'(first|refine And.intro ?_ ?_|exact True.intro|refine rq fun _=>?_|refine rf fun _=>?_|simp only[go_sem,ho,hne,hfl,h9,ea,Tryd.f29,Sd1,Sc0])
 all_goals
  refine hq ?_ ?_ (fun id hid=>?_)
  ·omega
  ·first|rfl|(rw[ea];done)
  ·simp only[go_sem,hn0 id hid]
end Go.Proofs.YtmconmiemdinkaaDoor
namespace Go.Proofs.YtmconmiemdinkaaDoor
open Go Go.Abs Go.Proofs
def zdh (s:zal)(f:List Int)(a b:Int):Bool:=zgB s f a (nP s+1) b
def Sd3:Tbl:=Sd2.add 8 (sp4 zdh fun s f _ _=>znD s f)
set_option maxHeartbeats 4000000 in
theorem zD7:zam Tryd.prog GA Sd3:=by
 refine zxF ok8 zzK fun s f a b hp _ _ _ _=>?_
 obtain⟨Q,hQ⟩:∃Q:D→zau→Nat→Prop,Q=(fun d _ _=>D.val d=some (.fz (enc (zdh s f a b)))):=⟨_,rfl⟩
 rw[←hQ]
 have hq:∀{r:Bool} {d:D} {H':zau} {m:Nat},zdh s f a b=r→D.val d=some (.fz (.b r))→Q d H' m:=fun h0 h1=>by rw[hQ,h0];exact h1
 have hn6:=hp.c.n6
 have hlq:zdh s f a b=zgB s f a (nP s+1) b:=rfl
 obtain⟨L,hL⟩:∃L,nP s=L:=⟨_,rfl⟩
 have hL2:s.pieces.length=L:=hL
 rw[hL]at hlq hn6
 clear hQ
 refine zak (N:=26) Go.Proofs.YtmconmiemdinkaaDoor.hm zzK 8000 (lst []) ok8 Tryd.func8 rfl rfl (by simp) (by kernel_rfl) ?_
 repeat'(first|refine And.intro ?_ ?_|exact True.intro|refine rq fun _=>?_|refine rf fun _=>?_|simp only[go_sem,hL2,zac,zae,zad,zaf,zah,zaa,Tryd.f8,Sd2,Sd1,Sc0])
 refine zap Go.Proofs.YtmconmiemdinkaaDoor.hm zzK 8000 (lst []) (ι:=zsR (L+1) 1 fun i c=>zgB s f a (L+1-i) c=zdh s f a b)
  ⟨fun q=>⟨frL [(1,.fz (.sl (f.map enc))),(2,.fz (.i .i64 a)),(3,.fz (.i .i64 q.b)),(4,.ptr (8004,0) 0),(9,.fz (.i .i64 q.i))],hpL [((8004,0),some ⟨[.fz (.sl (s.pieces.map enc)),.fz (.sl (s.overs.map enc)),.fz (.sl (s.vars.map enc))],true,false⟩)],q.m⟩,fun q=>L+1-q.i⟩
  ⟨0,b,1,by omega,Nat.le_refl _,hlq.symm⟩ (by kernel_rfl) ?_ ?_
 ·refine zai ?_ ?_ ?_<;>(try simp only[go_sem])
  all_goals first|done|rfl|omega
 rintro⟨j,c,m,hj,hm1,hc⟩
 try simp only at hj hm1 hc
 rcases Nat.lt_or_ge j (L+1)with h1|h1
 ·have h9:((j:Int)≤(L:Int))=True:=eq_true (by omega)
  rw[show L+1-j=(L-j)+1 by omega,zgB]at hc
  by_cases hca:c=a
  ·have hca':(c=a)=True:=eq_true hca
   rw[if_pos hca]at hc
   repeat'(first|refine And.intro ?_ ?_|exact True.intro|refine rq fun _=>?_|refine rf fun _=>?_|simp only[go_sem,h9,hca',hL2,zac,zae,zad,zaf,zah,zaa,Tryd.f8,Sd2,Sd1,Sc0])
   all_goals
    refine hq hc.symm ?_
    simp only[go_sem]
  have hca':(c=a)=False:=eq_false hca
  rw[if_neg hca]at hc
  by_cases hab:zbu s f c<0
  ·have hab':(zbu s f c<0)=True:=eq_true hab
   rw[if_pos hab]at hc
   repeat'(first|refine zaG.i hp fun _=>?_|refine And.intro ?_ ?_|exact True.intro|refine rq fun _=>?_|refine rf fun _=>?_|simp only[go_sem,h9,hca',hab',hL2,zac,zae,zad,zaf,zah,zaa,Tryd.f8,Sd2,Sd1,Sc0])
   all_goals
    refine hq hc.symm ?_
    simp only[go_sem]
  have hab':(zbu s f c<0)=False:=eq_false hab
  rw[if_neg hab]at hc
  repeat'(first|refine zaG.i hp fun _=>?_|refine And.intro ?_ ?_|exact True.intro|refine rq fun _=>?_|refine rf fun _=>?_|simp only[go_sem,h9,hca',hab',hL2,zac,zae,zad,zaf,zah,zaa,Tryd.f8,Sd2,Sd1,Sc0])
  refine⟨⟨j+1,zbu s f c,m,by omega,by omega,by rw[show L+1-(j+1)=L-j by omega];exact hc⟩,by simp only;omega,?_⟩
  refine zai ?_ ?_ ?_<;>(try simp only[go_sem])
  all_goals first|done|rfl|omega
 obtain rfl:j=L+1:=by omega
 have h9:(((L+1:Nat):Int)≤(L:Int))=False:=eq_false (by omega)
 rw[Nat.sub_self,zgB]at hc
 have h9b:((L:Int)+1≤(L:Int))=False:=eq_false (by omega)
 repeat'(first|refine And.intro ?_ ?_|exact True.intro|refine rq fun _=>?_|refine rf fun _=>?_|simp only[go_sem,h9,h9b,hL2,zac,zae,zad,zaf,zah,zaa,Tryd.f8,Sd2,Sd1,Sc0])
 all_goals
  refine hq hc.symm ?_
  simp only[go_sem]
set_option maxHeartbeats 4000000 in
theorem zus {s:zal}{f:List Int}{a b:Int}{id:Abs.Id}{len:Nat}{H:zau}{n:Nat}{R:D→zau→Nat→Prop}(hp:znD s f)(hid0:id.2<n)(ho:H id=some ⟨zag (f.map enc),false,false⟩)(hln:len=f.length)
  (hR:∀n',n≤n'→R (.fz (.b (zdh s f a b))) H n'):zaE Tryd.prog GA 8 [.agg [.fz (.sl (s.pieces.map enc)),.fz (.sl (s.overs.map enc)),.fz (.sl (s.vars.map enc))],.arr id 1 0 len,.fz (.i .i64 a),.fz (.i .i64 b)] H n R:=by
 refine zbC ok8 (fun hfr=>?_) hR
 obtain⟨Q,hQ⟩:∃Q:D→zau→Nat→Prop,Q=(fun d' H' n'=>d'= .fz (.b (zdh s f a b))∧n≤n'∧∀id,id.2<n→H' id=H id):=⟨_,rfl⟩
 rw[←hQ]
 have e:H=hpX [] H:=rfl
 rw[e]
 have hn0:∀id:Abs.Id,id.2<n→id≠(8004,n):=fun id h e=>by rw[e]at h;simp at h
 have hn0':∀id o,H id=some o→id≠(8004,n):=fun id o h=>hn0 id (by
  rcases Nat.lt_or_ge id.2 n with h3|h3
  ·exact h3
  ·rw[hfr id h3]at h;cases h)
 have hne:(id=(8004,n))=False:=eq_false (hn0 id hid0)
 have hq:∀{r:Bool} {d:D} {m:Nat},zdh s f a b=r→n≤m→d= .fz (.b r)→∀{H':zau},(∀id,id.2<n→H' id=H id)→Q d H' m:=fun h0 h1 h2 _ h3=>by rw[hQ,h0];exact⟨h2,h1,h3⟩
 have hn6:=hp.c.n6
 have hlq:zdh s f a b=zgB s f a (nP s+1) b:=rfl
 obtain⟨L,hL⟩:∃L,nP s=L:=⟨_,rfl⟩
 have hL2:s.pieces.length=L:=hL
 rw[hL]at hlq hn6
 clear hQ
 refine zak (N:=26) Go.Proofs.YtmconmiemdinkaaDoor.hm zfL 8000 (lst []) ok8 Tryd.func8 rfl rfl (by simp) (by kernel_rfl) ?_
 repeat'(first|refine And.intro ?_ ?_|exact True.intro|refine rq fun _=>?_|refine rf fun _=>?_|simp only[go_sem,ho,hne,hL2,zac,zae,zad,zaf,zah,zaa,Tryd.f8,Sd1,Sc0])
 refine zap Go.Proofs.YtmconmiemdinkaaDoor.hm zfL 8000 (lst []) (ι:=zsR (L+1) (n+1) fun i c=>zgB s f a (L+1-i) c=zdh s f a b)
  ⟨fun q=>⟨frL [(1,.arr id 1 0 len),(2,.fz (.i .i64 a)),(3,.fz (.i .i64 q.b)),(4,.ptr (8004,n) 0),(9,.fz (.i .i64 q.i))],hpX [((8004,n),some ⟨[.fz (.sl (s.pieces.map enc)),.fz (.sl (s.overs.map enc)),.fz (.sl (s.vars.map enc))],true,false⟩)] H,q.m⟩,fun q=>L+1-q.i⟩
  ⟨0,b,(n+1),by omega,Nat.le_refl _,hlq.symm⟩ (by kernel_rfl) ?_ ?_
 ·refine zaL ?_ ?_ (fun id2 o2 ho2=>?_) ?_
  ·simp only[go_sem]
  ·simp only[go_sem]
  ·exact(zba (by exact⟨(hn0' id2 o2 ho2).symm,trivial⟩)).trans ho2
  ·first|omega|(simp only[go_sem];done)|(simp only[go_sem];omega)
 rintro⟨j,c,m,hj,hm1,hc⟩
 try simp only at hj hm1 hc
 rcases Nat.lt_or_ge j (L+1)with h1|h1
 ·have h9:((j:Int)≤(L:Int))=True:=eq_true (by omega)
  rw[show L+1-j=(L-j)+1 by omega,zgB]at hc
  by_cases hca:c=a
  ·have hca':(c=a)=True:=eq_true hca
   rw[if_pos hca]at hc
   repeat'(first|refine And.intro ?_ ?_|exact True.intro|refine rq fun _=>?_|refine rf fun _=>?_|simp only[go_sem,ho,hne,h9,hca',hL2,zac,zae,zad,zaf,zah,zaa,Tryd.f8,Sd1,Sc0])
   all_goals
    refine hq hc.symm ?_ ?_ (fun id hid=>?_)
    ·omega
    ·first|rfl
    ·simp only[go_sem,hn0 id hid]
  have hca':(c=a)=False:=eq_false hca
  rw[if_neg hca]at hc
  by_cases hab:zbu s f c<0
  ·have hab':(zbu s f c<0)=True:=eq_true hab
   rw[if_pos hab]at hc
   repeat'(first|refine zaF.i (zsS hp (by omega) (by simp only[go_sem,ho,hne]) hln fun n' hn'=>?_)|refine And.intro ?_ ?_|exact True.intro|refine rq fun _=>?_|refine rf fun _=>?_|simp only[go_sem,ho,hne,h9,hca',hab',hL2,zac,zae,zad,zaf,zah,zaa,Tryd.f8,Sd1,Sc0])
   all_goals
    refine hq hc.symm ?_ ?_ (fun id hid=>?_)
    ·omega
    ·first|rfl
    ·simp only[go_sem,hn0 id hid]
  have hab':(zbu s f c<0)=False:=eq_false hab
  rw[if_neg hab]at hc
  repeat'(first|refine zaF.i (zsS hp (by omega) (by simp only[go_sem,ho,hne]) hln fun n' hn'=>?_)|refine And.intro ?_ ?_|exact True.intro|refine rq fun _=>?_|refine rf fun _=>?_|simp only[go_sem,ho,hne,h9,hca',hab',hL2,zac,zae,zad,zaf,zah,zaa,Tryd.f8,Sd1,Sc0])
  refine⟨⟨j+1,zbu s f c,n',by omega,by omega,by rw[show L+1-(j+1)=L-j by omega];exact hc⟩,by simp only;omega,?_⟩
  refine zaL ?_ ?_ (fun id2 o2 ho2=>?_) ?_
  ·simp only[go_sem]
  ·simp only[go_sem]
  ·exact(zba (by exact⟨(hn0' id2 o2 ho2).symm,trivial⟩)).trans ho2
  ·first|omega|(simp only[go_sem];done)|(simp only[go_sem];omega)
 obtain rfl:j=L+1:=by omega
 have h9:(((L+1:Nat):Int)≤(L:Int))=False:=eq_false (by omega)
 rw[Nat.sub_self,zgB]at hc
 have h9b:((L:Int)+1≤(L:Int))=False:=eq_false (by omega)
 repeat'(first|refine And.intro ?_ ?_|exact True.intro|refine rq fun _=>?_|refine rf fun _=>?_|simp only[go_sem,ho,hne,h9,h9b,hL2,zac,zae,zad,zaf,zah,zaa,Tryd.f8,Sd1,Sc0])
 all_goals
  refine hq hc.symm ?_ ?_ (fun id hid=>?_)
  ·omega
  ·first|rfl
  ·simp only[go_sem,hn0 id hid]
end Go.Proofs.YtmconmiemdinkaaDoor
namespace Go.Proofs.YtmconmiemdinkaaDoor
open Go Go.Abs Go.Proofs
theorem zr1 (f:Abs.zab):1≤f.size:=by cases f;rw[zab.size];omega
theorem zel:∀l:List Abs.zab,l.length≤zab.sizes l
 |[]=>Nat.zero_le _
 |b::l=>by
  have h1:=zel l
  have h2:=zr1 b
  rw[zab.sizes,List.length_cons];omega
def Sc3:Tbl:=Sc2.add 43 (sp3 zeh zeg)
set_option maxHeartbeats 4000000 in
theorem zws:zam Tryd.prog GA Sc3:=by
 refine zni (fun p s f=>zer s (zaz p.pieces) f) zA3 zD4 fun n hT p s f hn hp _ _ _=>?_
 have hfz:=hp.z
 have hsl:f.subs.length≤1000:=by
  have:=zel f.subs
  have h2:f.size=zab.sizes f.subs+1∨f.size=1+zab.sizes f.subs:=by cases f;rw[zab.size];simp only[zby];omega
  omega
 by_cases hk:f.kind=10
 ·obtain⟨e1,e2,e3⟩:=zix hp hk
  have hxa:f.name∈zaU s.pieces:=hp.h _ (by
   obtain⟨k,nm,ws,ss⟩:=f
   simp only[zaR]at hk
   subst hk
   show nm∈_
   rw[zar];simp)
  have hl:=hp.g.l
  have h1:p.holes=zaU s.pieces:=by rw[hp.g.e];rfl
  have h2:=zjx hl hxa
  rw[←hp.g.e]at h2
  have h3:p.pieces.length=(zaz p.pieces).length:=by unfold zaz;rw[List.length_map]
  have hin:f.name∈p.holes∧p.pieces.length=p.holes.length:=⟨by rw[h1];exact hxa,by rw[h1,h3];exact hl.e⟩
  have hlt:inP s (zaz p.pieces) f.name<s.pieces.length:=zmd hl hxa
  obtain⟨K,hK⟩:∃K,inP s (zaz p.pieces) f.name=K:=⟨_,rfl⟩
  rw[hK]at e1 e2 e3 h2 hlt
  obtain⟨pc,hpc⟩:∃pc,s.pieces[K]=pc:=⟨_,rfl⟩
  have hfo:zbE s K=pc.form:=by unfold zbE;rw[List.getElem?_eq_getElem hlt,hpc]
  rw[hfo]at e1 e2 e3
  rw[e1]
  have hpre:zer s (zaz p.pieces) pc.form<n∧zeg p s pc.form:=⟨by omega,e2⟩
  clear e1 e2 e3 h1 h3 hl hxa hp hn
  have kT:=Kp.mk hT
  clear hT
  refine zak (N:=45) Go.Proofs.YtmconmiemdinkaaDoor.hm kT.out 43000 (lsw [41] []) zA3 Tryd.func43 rfl rfl (by simp) (by kernel_rfl) ?_
  repeat'(first|refine zaG.i hin fun _=>?_|refine zaG.i hpre fun _=>?_|refine And.intro ?_ ?_|exact True.intro|refine rq fun _=>?_|refine rf fun _=>?_|simp only[go_sem,hk,hlt,hpc,h2,zac,zae,zaD,zad,zaf,zaa,Tryd.f43,Sc2,Sc1,Sc0])
  all_goals first|done|rfl|omega
 have hres:=zmT (p:=p) (s:=s) hk
 have hsub:∀a∈f.subs,zer s (zaz p.pieces) a<n∧zeg p s a:=fun a ha=>by
  obtain⟨g1,g2⟩:=zkA hp hk ha
  exact⟨by omega,g1⟩
 obtain⟨A,hA⟩:∃A:Nat→List Abs.zab,A=fun j=>(f.subs.take j).map (zeh p s):=⟨_,rfl⟩
 have hA0:A 0=[]:=by rw[hA];rfl
 have hAs:∀j (h:j<f.subs.length),A (j+1)=A j++[zeh p s f.subs[j]]:=fun j h=>by rw[hA];simp only[List.take_succ_eq_append_getElem h,List.map_append,List.map_cons,List.map_nil]
 have hAl:∀j,(A j).length≤f.subs.length:=fun j=>by rw[hA];simp only[List.length_map,List.length_take];omega
 have hAe:f.subs.map (zeh p s)=A f.subs.length:=by rw[hA];simp only[List.take_length]
 rw[hAe]at hres
 rw[hres]
 have hk':(f.kind=10)=False:=eq_false hk
 have kT:=Kp.mk hT
 have kz:=Kp.mk hsub
 have kA:=Kp.mk hAs
 have kL:=Kp.mk hAl
 clear hT hsub hAs hAl hAe hA hres hp hn hk
 obtain⟨L,hL⟩:∃L,f.subs.length=L:=⟨_,rfl⟩
 refine zak (N:=45) Go.Proofs.YtmconmiemdinkaaDoor.hm kT.out 43000 (lsw [41] []) zA3 Tryd.func43 rfl rfl (by simp) (by kernel_rfl) ?_
 repeat'(first|refine And.intro ?_ ?_|exact True.intro|refine rq fun _=>?_|refine rf fun _=>?_|simp only[go_sem,hk',hL,zac,zae,zaD,zad,zaf,zaa,Tryd.f43,Sc2,Sc1,Sc0])
 refine zap Go.Proofs.YtmconmiemdinkaaDoor.hm kT.out 43000 (lsw [41] []) (ι:=zeF L 5 fun _=>True)
  ⟨fun q=>⟨frL [(3,.ptr (43003,0) 0),(4,.ptr (43004,1) 0),(6,.ptr (43006,3) 0),(7,.ptr (43007,4) 0),(28,.fz (.sl (f.subs.map enc))),(29,.fz (.i .i64 L)),(30,.fz (.i .i64 q.i))],
   hpL [((43003,0),some ⟨[.fz (.sl (p.holes.map enc)),.fz (.sl (p.pieces.map enc)),.fz (.i .i64 p.top)],true,false⟩),((43004,1),some ⟨[.fz (.sl (s.pieces.map enc)),.fz (.sl (s.overs.map enc)),.fz (.sl (s.vars.map enc))],true,false⟩),((43006,3),some ⟨[.fz (.i .i64 0),.fz (.s []),.full [],.full []],true,false⟩),((43007,4),some ⟨[.fz (.i .i64 f.kind),.fz (.s f.name.l),.fz (.sl (f.words.map enc)),.ow (43041,q.g) 4 ((A q.i).map enc)],true,false⟩),((43041,q.g),some tok)],q.m⟩,fun q=>L-q.i⟩
  ⟨0,5,6,by omega,by omega,by omega,trivial⟩ (by kernel_rfl) ?_ ?_
 ·refine zcV [] [(43041,5)] [] ?_ ?_ ?_ ?_ ?_<;>(try simp only[go_sem,hA0,List.map_cons,List.map_nil])
  all_goals first|done|rfl|omega
 rintro⟨j,g,m,hj,hg,hm2,_⟩
 try simp only at hj hg hm2
 rcases Nat.lt_or_ge j L with h1|h1
 ·have h1':j<f.subs.length:=by omega
  obtain⟨x,hx⟩:∃x,f.subs[j]=x:=⟨_,rfl⟩
  have hpre:=kz.out x (by rw[←hx];exact List.getElem_mem h1')
  have hbs:=kA.out j h1'
  rw[hx]at hbs
  have hb1:=kL.out j
  have h9:((j:Int)<(L:Int))=True:=eq_true (by omega)
  repeat'(first|refine zaG.i hpre fun _=>?_|refine And.intro ?_ ?_|exact True.intro|refine rq fun _=>?_|refine rf fun _=>?_|simp only[go_sem,h9,h1',hx,zac,zae,zaD,zad,zaf,zaa,Tryd.f43,Sc2,Sc1,Sc0])
  refine⟨⟨j+1,m+1,m+1+1,by omega,by omega,by omega,trivial⟩,by simp only;omega,?_⟩
  refine zai ?_ ?_ ?_<;>(try simp only[go_sem,hbs,List.map_append,List.map_cons,List.map_nil,List.cons_append])
  all_goals first|done|rfl|omega
 obtain rfl:j=L:=by omega
 repeat'(first|refine And.intro ?_ ?_|exact True.intro|refine rq fun _=>?_|refine rf fun _=>?_|simp only[go_sem,Nat.lt_irrefl,Int.lt_irrefl,hL,zac,zae,zaD,zad,zaf,zaa,Tryd.f43,Sc2,Sc1,Sc0])
 all_goals first|done|rfl|omega
end Go.Proofs.YtmconmiemdinkaaDoor

import Derived.Test.YtkkffhphodngkabGreatDoorAT
import Derived.Test.YtkkffhphodngkabGreatDoorY23
import Derived.Test.YtkkffhphodngkabGreatDoorY20
import Derived.Test.YtkkffhphodngkabGreatDoorY22
set_option linter.unusedSimpArgs false
namespace Go.Proofs.YtkkffhphodngkabGreatDoor
open Go Go.Abs Go.Proofs
theorem zpw {l:List Abs.zac}{size:Int}{m:zay}{e:zbp}(h:ze6 l size=(m,true,e))(hnm:znX m=true):(zbw m).code=0∧∀x∈l,(zck m x).code=0:=by
 obtain⟨s,hf0,hs1,hs2,⟨ms,hms⟩,_,_⟩:=zpt h
 obtain⟨_,hll,hlv,hz1,hz4⟩:=zgG hf0
 obtain⟨n,i0,hn,hMe,_⟩:=zlN hms (show m∈m::ms by simp)
 unfold znX at hnm
 simp only[Bool.and_eq_true,decide_eq_true_eq]at hnm
 have hv:∀f∈l,(zaz false f).code=0:=fun f hf=>(hlv f hf).1
 have h3:=zvE hv hll hs1 (by omega) hn (i:=i0) (by rw[←hMe];omega)
 rw[←hMe]at h3
 refine⟨by rw[h3],fun x hx=>?_⟩
 have h4:=zvF (fs:=l) (size:=s) (n:=i0) hx (hlv x hx).2
 rw[←hMe]at h4
 rw[h4]
theorem ztl {m:zay}{g:Abs.zac}(h:(zck m (zbx g)).code=0):(zck m g).code=0:=by
 have hn:zbP (zbx g)=zbP g:=by unfold zbx;rw[zbP,zcb,zcb];simp[isQ]
 have hl:zgM m (zbx g)=zgM m g:=by
  unfold zgM
  rw[zxG]
  unfold zbx
  rw[zhp,ze7,ze7]
  simp
 unfold zck at h ⊢
 rw[hn,hl]at h
 exact h
def T50:Tbl:=Tbl.or Fo2 (Tbl.or Y11 H1)
attribute [go_sem] T50
theorem zMz:zaq Tryz.prog GA T50:=zgl zMq (zgl zMA hH1)
def ze2:Tv:=(.q 0 (.q 1 (.q 2 (.q 3 (.q 4 (.q 5 (.q 6 (.q 7 (.q 8 (.q 9 (.br [(10,(.q 11 (.br [(12,.leaf)])))])))))))))))
set_option maxRecDepth 100000 in
set_option maxHeartbeats 1000000 in
set_option maxHeartbeats 8000000 in
theorem zBs (hT:zaq Tryz.prog GA T50)(ax:List Abs.zac)(g:Abs.zac)(hwa:(enc ax).Wf)(_:(enc g).Wf):zaw Tryz.prog GA 7 [.fz (enc ax),.fz (enc g)] (hpL []) 0 (fun d _ _=>d= .fz (.b true)):=by
 have dK:Str.mk [107,105,109]=zwY:=rfl
 have dD:Str.mk [100,111,103]=zzK:=rfl
 have dP:zsZ zzK [zwY]=zjQ:=rfl
 have hsl:ax.length≤zbe:=by
  have:=zdf hwa
  simpa using this
 unfold zbe at hsl
 obtain⟨m0,hx0,hs0⟩:=zAL
 obtain⟨r,hA⟩:∃r,zhc ax g=r:=⟨_,rfl⟩
 obtain⟨v,e⟩:=r
 by_cases b0:e.code=0
 rotate_left
 ·have a0:(e.code=0)=False:=eq_false b0
  refine zae (N:=109) Go.Proofs.YtkkffhphodngkabGreatDoor.hm hT 7000 (lst [1000017]) ok7 Tryz.func7 rfl rfl (by simp) (by kernel_rfl) ?_
  repeat'(first|refine And.intro ?_ ?_|exact True.intro|refine rq fun _=>?_|refine rf fun _=>?_|simp only[go_sem,hA,a0,zal,zbH,zco,GA,zab,zad,zag,zaa,hx0,hs0,dK,dD,dP,ze2,T50,Y11,Y10,H1,Tryz.f7,Fo2,Fo1,Fo0])
  all_goals first|done|rfl|omega
 have a0:(e.code=0)=True:=eq_true b0
 by_cases b1:e.index=0
 rotate_left
 ·have a1:(e.index=0)=False:=eq_false b1
  refine zae (N:=109) Go.Proofs.YtkkffhphodngkabGreatDoor.hm hT 7000 (lst [1000017]) ok7 Tryz.func7 rfl rfl (by simp) (by kernel_rfl) ?_
  repeat'(first|refine And.intro ?_ ?_|exact True.intro|refine rq fun _=>?_|refine rf fun _=>?_|simp only[go_sem,hA,a0,a1,zal,zbH,zco,GA,zab,zad,zag,zaa,hx0,hs0,dK,dD,dP,ze2,T50,Y11,Y10,H1,Tryz.f7,Fo2,Fo1,Fo0])
  all_goals first|done|rfl|omega
 have a1:(e.index=0)=True:=eq_true b1
 have he:e=⟨0,0⟩:=by cases e;simp only at b0 b1;rw[b0,b1]
 subst he
 rcases zxp hA with hk|hk|hk
 ·have hc:=zpV (zfG hA hk).2
  refine zae (N:=109) Go.Proofs.YtkkffhphodngkabGreatDoor.hm hT 7000 (lst [1000017]) ok7 Tryz.func7 rfl rfl (by simp) (by kernel_rfl) ?_
  repeat'(first|refine And.intro ?_ ?_|exact True.intro|refine rq fun _=>?_|refine rf fun _=>?_|simp only[go_sem,hA,hk,hc,zal,zbH,zco,GA,zab,zad,zag,zaa,hx0,hs0,dK,dD,dP,ze2,T50,Y11,Y10,H1,Tryz.f7,Fo2,Fo1,Fo0])
  all_goals first|done|rfl|omega
 rotate_left
 ·refine zae (N:=109) Go.Proofs.YtkkffhphodngkabGreatDoor.hm hT 7000 (lst [1000017]) ok7 Tryz.func7 rfl rfl (by simp) (by kernel_rfl) ?_
  repeat'(first|refine And.intro ?_ ?_|exact True.intro|refine rq fun _=>?_|refine rf fun _=>?_|simp only[go_sem,hA,hk,zal,zbH,zco,GA,zab,zad,zag,zaa,hx0,hs0,dK,dD,dP,ze2,T50,Y11,Y10,H1,Tryz.f7,Fo2,Fo1,Fo0])
  all_goals first|done|rfl|omega
 have hF:=(zf8 hA hk).2
 have hbz:=zt2 hA (by rw[hk];decide)
 obtain⟨_,_,hva,hvg⟩:=zfH hbz
 obtain⟨_,ht1,ht2⟩:=zd5 hF
 cases hnm:znX v.model with
 |false=>
  refine zae (N:=109) Go.Proofs.YtkkffhphodngkabGreatDoor.hm hT 7000 (lst [1000017]) ok7 Tryz.func7 rfl rfl (by simp) (by kernel_rfl) ?_
  repeat'(first|refine And.intro ?_ ?_|exact True.intro|refine rq fun _=>?_|refine rf fun _=>?_|simp only[go_sem,hA,hk,hnm,zal,zbH,zco,GA,zab,zad,zag,zaa,hx0,hs0,dK,dD,dP,ze2,T50,Y11,Y10,H1,Tryz.f7,Fo2,Fo1,Fo0])
  all_goals first|done|rfl|omega
 |true=>
  obtain⟨hm0,hte⟩:=zpw hF hnm
  have hh:∀x∈ax,zfu v.model x=(true,⟨0,0⟩):=fun x hx=>by
   rw[zlz hm0 (hva x hx) (hte x (List.mem_append_left _ hx)),ht1 x hx]
  have hg:zfu v.model g=(false,⟨0,0⟩):=by
   rw[zlz hm0 hvg (ztl (hte (zbx g) (List.mem_append_right _ (by simp)))),ht2]
  have kh:=Kp.mk hh
  clear hh hte ht1 ht2 hva hvg hbz hF
  refine zae (N:=109) Go.Proofs.YtkkffhphodngkabGreatDoor.hm hT 7000 (lst [1000017]) ok7 Tryz.func7 rfl rfl (by simp) (by kernel_rfl) ?_
  repeat'(first|refine And.intro ?_ ?_|exact True.intro|refine rq fun _=>?_|refine rf fun _=>?_|simp only[go_sem,hA,hk,hnm,zal,zbH,zco,GA,zab,zad,zag,zaa,hx0,hs0,dK,dD,dP,ze2,T50,Y11,Y10,H1,Tryz.f7,Fo2,Fo1,Fo0])
  refine zat Go.Proofs.YtkkffhphodngkabGreatDoor.hm hT 7000 (lst [1000017]) (ι:=zcW ax.length 4 fun _=>True)
   ⟨fun q=>⟨frL [(0,.fz (.sl (ax.map enc))),(3,.ptr (7003,0) 0),(7,.ptr (7007,3) 0),(70,.fz (.i .i64 ax.length)),(71,.fz (.i .i64 q.i))],hpL [((7003,0),some ⟨[.fz (.i .i64 g.kind),.fz (.s g.name.l),.fz (.sl (g.words.map enc)),.fz (.sl (g.subs.map enc))],true,false⟩),((7007,3),some ⟨[.fz (.i .i64 2),.fz (.i .i64 v.proof.kind),.fz (.i .i64 v.proof.form),.fz (.i .i64 v.proof.other),.fz (.s v.proof.name.l),.fz (.sl (v.proof.subs.map enc)),.fz (.i .i64 v.model.size),.fz (.sl (v.model.consts.map enc)),.fz (.sl (v.model.rels.map enc))],true,false⟩)],q.m⟩,fun q=>ax.length-q.i⟩
   ⟨0,5,by omega,by omega,trivial⟩ (by kernel_rfl) ?_ ?_
  ·refine zaj ?_ ?_ ?_<;>simp only[go_sem,hk]
   all_goals first|done|rfl|omega
  rintro⟨i,q,hi,hq,_⟩
  try simp only at hi hq
  rcases Nat.lt_or_ge i ax.length with h1|h1
  ·obtain⟨x,hx⟩:∃x,ax[i]=x:=⟨_,rfl⟩
   have hxh:=kh.out x (by rw[←hx];exact List.getElem_mem h1)
   repeat'(first|refine zar (id:=17) Go.Proofs.YtkkffhphodngkabGreatDoor.hm hT 7000 (lst [1000017]) ze2 (by kernel_rfl) (by kernel_rfl) ?_|refine And.intro ?_ ?_|exact True.intro|refine rq fun _=>?_|refine rf fun _=>?_|simp only[go_sem,h1,hx,hxh,zal,zbH,zco,GA,zab,zad,zag,zaa,hx0,hs0,dK,dD,dP,ze2,T50,Y11,Y10,H1,Tryz.f7,Fo2,Fo1,Fo0])
   all_goals
    refine⟨⟨i+1,q+1,by omega,by omega,trivial⟩,by simp only;omega,?_⟩
    refine zaj ?_ ?_ ?_<;>simp only[go_sem]
    all_goals first|done|rfl|omega
  obtain rfl:i=ax.length:=by omega
  repeat'(first|refine And.intro ?_ ?_|exact True.intro|refine rq fun _=>?_|refine rf fun _=>?_|simp only[go_sem,Nat.lt_irrefl,Int.lt_irrefl,hg,zal,zbH,zco,GA,zab,zad,zag,zaa,hx0,hs0,dK,dD,dP,ze2,T50,Y11,Y10,H1,Tryz.f7,Fo2,Fo1,Fo0])
  all_goals first|done|rfl|omega
end Go.Proofs.YtkkffhphodngkabGreatDoor

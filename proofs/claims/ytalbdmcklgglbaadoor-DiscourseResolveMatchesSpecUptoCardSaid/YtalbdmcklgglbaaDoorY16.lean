/- several texts of this proof in one; no conditions -/
import Derived.Test.YtalbdmcklgglbaaDoorAT
import Derived.Test.YtalbdmcklgglbaaDoorY4
import Derived.Test.YtalbdmcklgglbaaDoorY3
import Derived.Test.YtalbdmcklgglbaaDoorSH
import Derived.Test.YtalbdmcklgglbaaDoorY8
set_option maxRecDepth 100000
set_option maxHeartbeats 1000000
set_option linter.unusedSimpArgs false
namespace Go.Proofs.YtalbdmcklgglbaaDoor
open Go Go.Abs Go.Proofs
def V1:Tbl:=Q35.add 19 (sp1 (fun l:List (List Str)=>l.flatten) fun l=>l.flatten.length≤1000000∧l.length≤1000000)
attribute [go_sem] V1
set_option maxHeartbeats 4000000 in
theorem hV1:zan Tryd.prog G0 V1:=by
  refine zbY zEP zz0 fun l hp _=>?_
  obtain⟨hlen,hll⟩:=hp
  obtain⟨N,hN⟩:∃N,l.length=N:=⟨_,rfl⟩
  obtain⟨S,hS⟩:∃S:Nat→List Str,S=fun i=>(l.take i).flatten:=⟨_,rfl⟩
  have hS0:S 0=[]:=by rw[hS];rfl
  have hSs:∀i (h:i<l.length),S (i+1)=S i++l[i]:=fun i h=>by
    rw[hS];simp only;rw[List.take_succ_eq_append_getElem h,List.flatten_append];simp
  have hSe:S N=l.flatten:=by rw[hS,←hN];simp only[List.take_length]
  have hSl:∀i,(S i).length≤1000000:=fun i=>by
    refine Nat.le_trans ?_ hlen
    rw[hS];simp only
    rw[←List.take_append_drop i l,List.flatten_append,List.length_append]
    simp
  rw[←hSe]
  have kS:=Kp.mk hSs
  have kL:=Kp.mk hSl
  clear hSs hSl hS hSe hlen
  have hNl:=kL.out N
  refine zaj (N:=36) hm zz0 19000 (lsw [33] []) zEP Tryd.func19 rfl rfl (by simp) (by kernel_rfl) ?_
  repeat'(first|refine And.intro ?_ ?_|exact True.intro|refine rq fun _=>?_|refine rf fun _=>?_|simp only[go_sem,hN,Tryd.f19])
  refine zar hm zz0 19000 (lsw [33] []) (ι:=zd8 N fun _=>True)
    ⟨fun q=>⟨frL [(0,.fz (.sl (l.map enc))),(3,.fz (.i .i64 (S q.i).length)),(9,.fz (.sl (l.map enc))),(10,.fz (.i .i64 N)),(11,.fz (.i .i64 q.i))],hpL [],0⟩,fun q=>N-q.i⟩
    ⟨0,by omega,trivial⟩ (by kernel_rfl) ?_ ?_
  · refine zah ?_ ?_ ?_<;>simp only[go_sem,hS0]
    all_goals first|done|rfl|omega
  rintro⟨i,hi,_⟩
  try simp only at hi
  rcases Nat.lt_or_ge i N with h1|h1
  · have h1':i<l.length:=by omega
    obtain⟨x,hx⟩:∃x,l[i]=x:=⟨_,rfl⟩
    have e1:=kS.out i h1'
    rw[hx]at e1
    have e2:=kL.out (i+1)
    rw[e1,List.length_append]at e2
    have e3:(((S i).length:Int)+(x.length:Int)<0)=False:=eq_false (by omega)
    repeat'(first|refine And.intro ?_ ?_|exact True.intro|refine rq fun _=>?_|refine rf fun _=>?_|simp only[go_sem,h1,h1',hx,e3,zaa,Tryd.f19])
    refine⟨⟨i+1,by omega,trivial⟩,by simp only;omega,?_⟩
    refine zah ?_ ?_ ?_<;>simp only[go_sem,e1,List.length_append]
    all_goals first|done|rfl|omega
  obtain rfl:i=N:=by omega
  repeat'(first|refine And.intro ?_ ?_|exact True.intro|refine rq fun _=>?_|refine rf fun _=>?_|simp only[go_sem,Nat.lt_irrefl,Tryd.f19])
  refine zaD.i (zaP (zim (G:=G0) (H:=hpL []) (t:=19033) (m:=0) Tryd.laysGs zGx (te:=⟨1,16,[.fz (.s [])],.str,false,false,[]⟩) ti9 (by decide) (n:=(S i).length) (by omega) (by simp only;omega)) fun d H' n' hq=>?_)
  rcases hq with⟨_,rfl,rfl,rfl⟩|⟨_,rfl,rfl,rfl⟩
  all_goals
    try rw[show zaM (hpL []) (19033,0) (some tok)=hpL [((19033,0),some tok)]from by funext i;simp only[zaM,hpL]]
    repeat'(first|refine And.intro ?_ ?_|exact True.intro|refine rq fun _=>?_|refine rf fun _=>?_|simp only[go_sem,Tryd.f19])
    refine zar hm zz0 19000 (lsw [33] []) (ι:=zd5 i 1 fun _=>True)
      ⟨fun q=>⟨frL [(6,.ow (19033,q.g) 1 ((S q.i).map enc)),(25,.fz (.sl (l.map enc))),(26,.fz (.i .i64 i)),(27,.fz (.i .i64 q.i))],hpL [((19033,q.g),some tok)],q.m⟩,fun q=>i-q.i⟩
      ⟨0,0,1,by omega,by omega,by omega,trivial⟩ (by kernel_rfl) ?_ ?_
    · first
      |(refine zaO [] [(19033,0)] [] ?_ ?_ ?_ ?_ ?_<;>(try simp only[go_sem,hS0,hN,List.map_nil])
        all_goals first|done|rfl|omega)
      |(refine zah ?_ ?_ ?_<;>(try simp only[go_sem,hS0,hN,List.map_nil])
        all_goals first|done|rfl|omega)
    rintro⟨j,g,m,hj,hg,hm1,_⟩
    try simp only at hj hg hm1
    rcases Nat.lt_or_ge j i with h2|h2
    · have h2':j<l.length:=by omega
      obtain⟨x,hx⟩:∃x,l[j]=x:=⟨_,rfl⟩
      have e1:=kS.out j h2'
      rw[hx]at e1
      have e2:=kL.out (j+1)
      rw[e1,List.length_append]at e2
      repeat'(first|refine And.intro ?_ ?_|exact True.intro|refine rq fun _=>?_|refine rf fun _=>?_|simp only[go_sem,h2,h2',hx,zaa,Tryd.f19])
      refine⟨⟨j+1,m,m+1,by omega,by omega,by omega,trivial⟩,by simp only;omega,?_⟩
      refine zah ?_ ?_ ?_<;>simp only[go_sem,e1,List.map_append]
      all_goals first|done|rfl|omega
    · obtain rfl:j=i:=by omega
      repeat'(first|refine And.intro ?_ ?_|exact True.intro|refine rq fun _=>?_|refine rf fun _=>?_|simp only[go_sem,Nat.lt_irrefl,Tryd.f19])
def V2:Tbl:=V1.add 20 (sp1 (fun l:List (List Abs.zal)=>l.flatten) fun l=>l.flatten.length≤1000000∧l.length≤1000000)
attribute [go_sem] V2
set_option maxHeartbeats 4000000 in
theorem hV2:zan Tryd.prog G0 V2:=by
  refine zbY zEQ hV1 fun l hp _=>?_
  obtain⟨hlen,hll⟩:=hp
  obtain⟨N,hN⟩:∃N,l.length=N:=⟨_,rfl⟩
  obtain⟨S,hS⟩:∃S:Nat→List Abs.zal,S=fun i=>(l.take i).flatten:=⟨_,rfl⟩
  have hS0:S 0=[]:=by rw[hS];rfl
  have hSs:∀i (h:i<l.length),S (i+1)=S i++l[i]:=fun i h=>by
    rw[hS];simp only;rw[List.take_succ_eq_append_getElem h,List.flatten_append];simp
  have hSe:S N=l.flatten:=by rw[hS,←hN];simp only[List.take_length]
  have hSl:∀i,(S i).length≤1000000:=fun i=>by
    refine Nat.le_trans ?_ hlen
    rw[hS];simp only
    rw[←List.take_append_drop i l,List.flatten_append,List.length_append]
    simp
  rw[←hSe]
  have kS:=Kp.mk hSs
  have kL:=Kp.mk hSl
  clear hSs hSl hS hSe hlen
  have hNl:=kL.out N
  refine zaj (N:=36) hm hV1 20000 (lsw [33] []) zEQ Tryd.func20 rfl rfl (by simp) (by kernel_rfl) ?_
  repeat'(first|refine And.intro ?_ ?_|exact True.intro|refine rq fun _=>?_|refine rf fun _=>?_|simp only[go_sem,hN,Tryd.f20])
  refine zar hm hV1 20000 (lsw [33] []) (ι:=zd8 N fun _=>True)
    ⟨fun q=>⟨frL [(0,.fz (.sl (l.map enc))),(3,.fz (.i .i64 (S q.i).length)),(9,.fz (.sl (l.map enc))),(10,.fz (.i .i64 N)),(11,.fz (.i .i64 q.i))],hpL [],0⟩,fun q=>N-q.i⟩
    ⟨0,by omega,trivial⟩ (by kernel_rfl) ?_ ?_
  · refine zah ?_ ?_ ?_<;>simp only[go_sem,hS0]
    all_goals first|done|rfl|omega
  rintro⟨i,hi,_⟩
  try simp only at hi
  rcases Nat.lt_or_ge i N with h1|h1
  · have h1':i<l.length:=by omega
    obtain⟨x,hx⟩:∃x,l[i]=x:=⟨_,rfl⟩
    have e1:=kS.out i h1'
    rw[hx]at e1
    have e2:=kL.out (i+1)
    rw[e1,List.length_append]at e2
    have e3:(((S i).length:Int)+(x.length:Int)<0)=False:=eq_false (by omega)
    repeat'(first|refine And.intro ?_ ?_|exact True.intro|refine rq fun _=>?_|refine rf fun _=>?_|simp only[go_sem,h1,h1',hx,e3,zaa,Tryd.f20])
    refine⟨⟨i+1,by omega,trivial⟩,by simp only;omega,?_⟩
    refine zah ?_ ?_ ?_<;>simp only[go_sem,e1,List.length_append]
    all_goals first|done|rfl|omega
  obtain rfl:i=N:=by omega
  repeat'(first|refine And.intro ?_ ?_|exact True.intro|refine rq fun _=>?_|refine rf fun _=>?_|simp only[go_sem,Nat.lt_irrefl,Tryd.f20])
  refine zaD.i (zaP (zim (G:=G0) (H:=hpL []) (t:=20033) (m:=0) Tryd.laysGc zGy (te:=⟨7,120,[.fz (.i .i64 0),.fz (.s []),.fz (.i .i64 0),.fz (.s []),.full [],.full [],.full []],(.struct [(0,3),(1,9),(2,48),(6,26)]),true,false,[(.int .i64),.str,(.struct [(0,3),(1,9),(2,22),(3,46)]),(.slice 25)]⟩) zHj (by decide) (n:=(S i).length) (by omega) (by simp only;omega)) fun d H' n' hq=>?_)
  rcases hq with⟨_,rfl,rfl,rfl⟩|⟨_,rfl,rfl,rfl⟩
  all_goals
    try rw[show zaM (hpL []) (20033,0) (some tok)=hpL [((20033,0),some tok)]from by funext i;simp only[zaM,hpL]]
    repeat'(first|refine And.intro ?_ ?_|exact True.intro|refine rq fun _=>?_|refine rf fun _=>?_|simp only[go_sem,Tryd.f20])
    refine zar hm hV1 20000 (lsw [33] []) (ι:=zd5 i 1 fun _=>True)
      ⟨fun q=>⟨frL [(6,.ow (20033,q.g) 7 ((S q.i).map enc)),(25,.fz (.sl (l.map enc))),(26,.fz (.i .i64 i)),(27,.fz (.i .i64 q.i))],hpL [((20033,q.g),some tok)],q.m⟩,fun q=>i-q.i⟩
      ⟨0,0,1,by omega,by omega,by omega,trivial⟩ (by kernel_rfl) ?_ ?_
    · first
      |(refine zaO [] [(20033,0)] [] ?_ ?_ ?_ ?_ ?_<;>(try simp only[go_sem,hS0,hN,List.map_nil])
        all_goals first|done|rfl|omega)
      |(refine zah ?_ ?_ ?_<;>(try simp only[go_sem,hS0,hN,List.map_nil])
        all_goals first|done|rfl|omega)
    rintro⟨j,g,m,hj,hg,hm1,_⟩
    try simp only at hj hg hm1
    rcases Nat.lt_or_ge j i with h2|h2
    · have h2':j<l.length:=by omega
      obtain⟨x,hx⟩:∃x,l[j]=x:=⟨_,rfl⟩
      have e1:=kS.out j h2'
      rw[hx]at e1
      have e2:=kL.out (j+1)
      rw[e1,List.length_append]at e2
      repeat'(first|refine And.intro ?_ ?_|exact True.intro|refine rq fun _=>?_|refine rf fun _=>?_|simp only[go_sem,h2,h2',hx,zaa,Tryd.f20])
      refine⟨⟨j+1,m,m+1,by omega,by omega,by omega,trivial⟩,by simp only;omega,?_⟩
      refine zah ?_ ?_ ?_<;>simp only[go_sem,e1,List.map_append]
      all_goals first|done|rfl|omega
    · obtain rfl:j=i:=by omega
      repeat'(first|refine And.intro ?_ ?_|exact True.intro|refine rq fun _=>?_|refine rf fun _=>?_|simp only[go_sem,Nat.lt_irrefl,Tryd.f20])
end Go.Proofs.YtalbdmcklgglbaaDoor
namespace Go.Proofs.YtalbdmcklgglbaaDoor
open Go Go.Abs Go.Proofs
theorem zd1:zan Tryd.prog G0 zev:=fun f t xs r c h _ _=>by cases h
set_option maxHeartbeats 4000000 in
theorem f76 {l:List Abs.zal}{p:Abs.zal→Bool}{g:FuncId}{caps:List D}{H:zas}{n:Nat}{R:D→zas→Nat→Prop}(hl:l.length≤1000000000)
  (hg:∀c∈l,∀(n1:Nat) (R1:D→zas→Nat→Prop),n≤n1→(∀n',n1≤n'→R1 (.fz (.b (p c))) H n')→zav Tryd.prog G0 g (.fz (.agg [.i .i64 c.kind,.s c.name.l,.i .i64 c.form.kind,.s c.form.name.l,.sl (c.form.words.map enc),.sl (c.form.subs.map enc),.sl (c.boxes.map enc)])::caps) H n1 R1)
  (hR:∀(n':Nat) (r:Int),n≤n'→decide (0≤r)=l.any p→R (.fz (.i .i64 r)) H n'):zav Tryd.prog G0 76 [.fz (.sl (l.map enc)),.fn g caps] H n R:=by
 have kq:=Kp.mk hR
 have kg:=Kp.mk hg
 clear hR hg
 have e:H=hpX [] H:=rfl
 rw[e]
 refine zaj (N:=19) hm zd1 76000 (lst []) zGB Tryd.func76 rfl rfl (by simp) (by kernel_rfl) ?_
 repeat'(first|refine And.intro ?_ ?_|exact True.intro|refine rq fun _=>?_|refine rf fun _=>?_|simp only[go_sem,Tryd.f76,zev])
 refine zar hm zd1 76000 (lst []) (ι:=zcp l.length n fun i=>∀c∈l.take i,p c=false)
  ⟨fun q=>⟨frL [(0,.fz (.sl (l.map enc))),(1,.fn g caps),(6,.fz (.sl (l.map enc))),(7,.fz (.i .i64 l.length)),(8,.fz (.i .i64 q.i))],hpX [] H,q.m⟩,fun q=>l.length-q.i⟩
  ⟨0,n,by omega,Nat.le_refl _,by simp⟩ (by kernel_rfl) ?_ ?_
 ·refine zaJ ?_ ?_ (fun id2 o2 ho2=>?_) ?_
  ·simp only[go_sem]
  ·simp only[go_sem]
  ·exact ho2
  ·first|omega|(simp only[go_sem];done)|(simp only[go_sem];omega)
 rintro⟨i,m,hi,hm1,hp⟩
 try simp only at hi hm1 hp
 rcases Nat.lt_or_ge i l.length with h1|h1
 ·obtain⟨x,hx⟩:∃x,l[i]=x:=⟨_,rfl⟩
  have hxm:x∈l:=by rw[←hx];exact List.getElem_mem h1
  cases hpx:p x with
  |true=>
   repeat'(first|refine zaD.i (kg.out x hxm _ _ (by omega) fun n' hn'=>?_)|refine And.intro ?_ ?_|exact True.intro|refine rq fun _=>?_|refine rf fun _=>?_|simp only[go_sem,h1,hx,hpx,zad,zab,zae,zaf,zaa,Tryd.f76,zev])
   all_goals
    refine kq.out _ _ (by omega) ?_
    rw[decide_eq_true (by omega),List.any_eq_true.2 ⟨x,hxm,hpx⟩]
  |false=>
   repeat'(first|refine zaD.i (kg.out x hxm _ _ (by omega) fun n' hn'=>?_)|refine And.intro ?_ ?_|exact True.intro|refine rq fun _=>?_|refine rf fun _=>?_|simp only[go_sem,h1,hx,hpx,zad,zab,zae,zaf,zaa,Tryd.f76,zev])
   all_goals
    refine⟨⟨i+1,n',by omega,by omega,?_⟩,by simp only;omega,?_⟩
    ·rw[List.take_succ_eq_append_getElem h1,hx]
     intro c hc
     rcases List.mem_append.1 hc with h2|h2
     ·exact hp c h2
     ·rw[List.mem_singleton.1 h2];exact hpx
    refine zaJ ?_ ?_ (fun id2 o2 ho2=>?_) ?_
    ·simp only[go_sem]
    ·simp only[go_sem]
    ·exact ho2
    ·first|omega|(simp only[go_sem];done)|(simp only[go_sem];omega)
 ·obtain rfl:i=l.length:=by omega
  rw[List.take_length]at hp
  repeat'(first|refine And.intro ?_ ?_|exact True.intro|refine rq fun _=>?_|refine rf fun _=>?_|simp only[go_sem,Nat.lt_irrefl,Tryd.f76,zev])
  all_goals
   refine kq.out _ _ (by omega) ?_
   rw[show l.any p=false from List.any_eq_false.2 fun c hc=>by rw[hp c hc];simp]
   rfl
set_option maxHeartbeats 4000000 in
theorem f65 {l:List Abs.zal}{p:Abs.zal→Bool}{g:FuncId}{caps:List D}{H:zas}{n:Nat}{R:D→zas→Nat→Prop}(hl:l.length≤1000000000)
  (hg:∀c∈l,∀(n1:Nat) (R1:D→zas→Nat→Prop),n≤n1→(∀n',n1≤n'→R1 (.fz (.b (p c))) H n')→zav Tryd.prog G0 g (.fz (.agg [.i .i64 c.kind,.s c.name.l,.i .i64 c.form.kind,.s c.form.name.l,.sl (c.form.words.map enc),.sl (c.form.subs.map enc),.sl (c.boxes.map enc)])::caps) H n1 R1)
  (hR:∀(n':Nat),n≤n'→R (.fz (.b (l.any p))) H n'):zav Tryd.prog G0 65 [.fz (.sl (l.map enc)),.fn g caps] H n R:=by
 have kq:=Kp.mk hR
 have kg:=Kp.mk hg
 clear hR hg
 have e:H=hpX [] H:=rfl
 rw[e]
 refine zaj (N:=9) hm zd1 65000 (lst []) zGz Tryd.func65 rfl rfl (by simp) (by kernel_rfl) ?_
 repeat'(first|refine zaD.i (f76 (p:=p) hl kg.out fun n' r hn' hr=>?_)|refine And.intro ?_ ?_|exact True.intro|refine rq fun _=>?_|refine rf fun _=>?_|simp only[go_sem,Tryd.f65,zev])
 all_goals
  have h9:=kq.out n' hn'
  rw[←hr]at h9
  exact h9
set_option maxHeartbeats 4000000 in
theorem f75 {c:Abs.zal}{f:Abs.zac}{id:Abs.Id}{H:zas}{n:Nat}{R:D→zas→Nat→Prop}(hid0:id.2<n)(ho:H id=some ⟨[.fz (.i .i64 f.kind),.fz (.s f.name.l),.fz (.sl (f.words.map enc)),.fz (.sl (f.subs.map enc))],true,false⟩)
  (hR:∀n',n≤n'→R (.fz (.b (decide (c.kind=1)&&decide (c.form=f)))) H n'):zav Tryd.prog G0 75 [.fz (.agg [.i .i64 c.kind,.s c.name.l,.i .i64 c.form.kind,.s c.form.name.l,.sl (c.form.words.map enc),.sl (c.form.subs.map enc),.sl (c.boxes.map enc)]),.ptr id 0] H n R:=by
 refine zb3 zC9 (fun hfr=>?_) hR
 obtain⟨Q,hQ⟩:∃Q:D→zas→Nat→Prop,Q=(fun d' H' n'=>d'= .fz (.b (decide (c.kind=1)&&decide (c.form=f)))∧n≤n'∧∀id,id.2<n→H' id=H id):=⟨_,rfl⟩
 rw[←hQ]
 have e:H=hpX [] H:=rfl
 rw[e]
 have hn0:∀id:Abs.Id,id.2<n→id≠(75002,n):=fun id h e=>by rw[e]at h;simp at h
 have hne:(id=(75002,n))=False:=eq_false (hn0 id hid0)
 have kq:=Kp.mk hQ
 clear hQ
 by_cases hk:c.kind=1
 ·refine zaj (N:=13) hm hV2 75000 (lst []) zC9 Tryd.func75 rfl rfl (by simp) (by kernel_rfl) ?_
  repeat'(first|refine And.intro ?_ ?_|exact True.intro|refine rq fun _=>?_|refine rf fun _=>?_|simp only[go_sem,ho,hne,hk,hpX,zad,zab,zae,zaf,zaa,Tryd.f75])
  all_goals
   rw[kq.out]
   refine⟨?_,by omega,fun id hid=>?_⟩
   ·simp[hk]
   ·simp only[go_sem,hn0 id hid]
 ·refine zaj (N:=13) hm hV2 75000 (lst []) zC9 Tryd.func75 rfl rfl (by simp) (by kernel_rfl) ?_
  repeat'(first|refine And.intro ?_ ?_|exact True.intro|refine rq fun _=>?_|refine rf fun _=>?_|simp only[go_sem,ho,hne,hk,hpX,zad,zab,zae,zaf,zaa,Tryd.f75])
  all_goals
   rw[kq.out]
   refine⟨?_,by omega,fun id hid=>?_⟩
   ·simp[hk]
   ·simp only[go_sem,hn0 id hid]
def V3:Tbl:=V2.add 63 (sp2 zd6 fun v _=>v.conds.length≤1000000)
attribute [go_sem] V3
set_option maxHeartbeats 4000000 in
theorem hV3:zan Tryd.prog G0 V3:=by
 refine zbr zFj hV2 fun v f hv _ _=>?_
 have e:zd6 v f=v.conds.any fun c=>decide (c.kind=1)&&decide (c.form=f):=rfl
 rw[e]
 refine zaj (N:=9) hm hV2 63000 (lst []) zFj Tryd.func63 rfl rfl (by simp) (by kernel_rfl) ?_
 repeat'(first|refine zaD.i (f65 (l:=v.conds) (p:=fun c=>decide (c.kind=1)&&decide (c.form=f)) (by omega) (fun c _ n1 R1 h1 h2=>f75 (f:=f) (by simp only;omega) (by simp only[go_sem]) h2) fun n' hn'=>?_)|refine And.intro ?_ ?_|exact True.intro|refine rq fun _=>?_|refine rf fun _=>?_|simp only[go_sem,zad,zab,zae,zaf,zaa,Tryd.f63])
 all_goals first|done|rfl|omega
set_option maxHeartbeats 4000000 in
theorem f66 {c:Abs.zal}{H:zas}{n:Nat}{R:D→zas→Nat→Prop}
  (hR:∀n',n≤n'→R (.fz (.b (!decide (c.kind=1)))) H n'):zav Tryd.prog G0 66 [.fz (.agg [.i .i64 c.kind,.s c.name.l,.i .i64 c.form.kind,.s c.form.name.l,.sl (c.form.words.map enc),.sl (c.form.subs.map enc),.sl (c.boxes.map enc)])] H n R:=by
 refine zb3 zFl (fun hfr=>?_) hR
 obtain⟨Q,hQ⟩:∃Q:D→zas→Nat→Prop,Q=(fun d' H' n'=>d'= .fz (.b (!decide (c.kind=1)))∧n≤n'∧∀id,id.2<n→H' id=H id):=⟨_,rfl⟩
 rw[←hQ]
 have e:H=hpX [] H:=rfl
 rw[e]
 have hn0:∀id:Abs.Id,id.2<n→id≠(66001,n):=fun id h e=>by rw[e]at h;simp at h
 have kq:=Kp.mk hQ
 clear hQ
 refine zaj (N:=6) hm hV2 66000 (lst []) zFl Tryd.func66 rfl rfl (by simp) (by kernel_rfl) ?_
 repeat'(first|refine And.intro ?_ ?_|exact True.intro|refine rq fun _=>?_|refine rf fun _=>?_|simp only[go_sem,hpX,zad,zab,zae,zaf,zaa,Tryd.f66])
 all_goals
  rw[kq.out]
  refine⟨?_,by omega,fun id hid=>?_⟩
  ·simp
  ·simp only[go_sem,hn0 id hid]
end Go.Proofs.YtalbdmcklgglbaaDoor
namespace Go.Proofs.YtalbdmcklgglbaaDoor
open Go Go.Abs Go.Proofs
section
variable {P:Program} {G:Nat→List FD}
theorem zeZ {f:FuncId}{args:List D}{xs cs:List FD}{H:zas}{n t es len:Nat}{v:Bool}{R:D→zas→Nat→Prop}(ha:D.toFDs args=some xs)
  (h:zav P G f (xs.map .fz) H0 0 (fun d H1 n1=>∃g,g<n1∧d= .arr (t,g) es 0 len∧H1 (t,g)=some ⟨cs.map .fz,false,v⟩))(hR:∀g n',n≤g→g<n'→R (.arr (t,g) es 0 len) (hpX [((t,g),some ⟨cs.map .fz,false,v⟩)] H) n'):zav P G f args H n R:=by
 refine zc0 h.1 fun hfr=>zbt (zfc ha h) ?_
 rintro d H' n' ⟨d1,H1,n1,⟨g,hg,rfl,ho⟩,rfl,rfl,rfl⟩
 have hm:∀l:List FD,zn4 n (l.map .fz)=l.map .fz:=fun l=>by
  rw[zd0,List.map_map]
  exact List.map_congr_left fun x _=>rfl
 have hsh:shH n H H1 (t,g+n)=some ⟨cs.map .fz,false,v⟩:=by
  unfold shH
  rw[if_pos (by simp),show(t,g+n-n)=(t,g) by rw[Nat.add_sub_cancel],ho]
  simp only[Option.map_some,shO,hm]
 refine⟨.arr (t,g+n) es 0 len,hpX [((t,g+n),some ⟨cs.map .fz,false,v⟩)] H,n+n1,zb9 ?_ (fun id o hid=>?_) (Nat.le_refl _),hR (g+n) (n+n1) (by omega) (by omega)⟩
 ·exact⟨rfl,trivial⟩
 ·simp only[hpX]at hid
  split at hid
  ·rename_i e;subst e;rw[←hid];exact hsh
  ·have hlt:id.2<n:=by
    rcases Nat.lt_or_ge id.2 n with h3|h3
    ·exact h3
    ·rw[hfr id h3]at hid;cases hid
   show shH n H H1 id=some o
   unfold shH
   rw[if_neg (by omega)]
   exact hid
theorem zos {f:FuncId}{args:List D}{xs cs:List FD}{a b:FD}{H:zas}{n t len:Nat}{v:Bool}{R:D→zas→Nat→Prop}(ha:D.toFDs args=some xs)
  (h:zav P G f (xs.map .fz) H0 0 (fun d H1 n1=>∃g,g<n1∧d= .agg [.fz a,.fz b,.arr (t,g) 1 0 len,.full []]∧H1 (t,g)=some ⟨cs.map .fz,false,v⟩))
  (hR:∀g n',n≤g→g<n'→R (.agg [.fz a,.fz b,.arr (t,g) 1 0 len,.full []]) (hpX [((t,g),some ⟨cs.map .fz,false,v⟩)] H) n'):zav P G f args H n R:=by
 refine zc0 h.1 fun hfr=>zbt (zfc ha h) ?_
 rintro d H' n' ⟨d1,H1,n1,⟨g,hg,rfl,ho⟩,rfl,rfl,rfl⟩
 have hm:∀l:List FD,zn4 n (l.map .fz)=l.map .fz:=fun l=>by
  rw[zd0,List.map_map]
  exact List.map_congr_left fun x _=>rfl
 have hsh:shH n H H1 (t,g+n)=some ⟨cs.map .fz,false,v⟩:=by
  unfold shH
  rw[if_pos (by simp),show(t,g+n-n)=(t,g) by rw[Nat.add_sub_cancel],ho]
  simp only[Option.map_some,shO,hm]
 refine⟨.agg [.fz a,.fz b,.arr (t,g+n) 1 0 len,.full []],hpX [((t,g+n),some ⟨cs.map .fz,false,v⟩)] H,n+n1,zb9 ?_ (fun id o hid=>?_) (Nat.le_refl _),hR (g+n) (n+n1) (by omega) (by omega)⟩
 ·exact⟨rfl,trivial⟩
 ·simp only[hpX]at hid
  split at hid
  ·rename_i e;subst e;rw[←hid];exact hsh
  ·have hlt:id.2<n:=by
    rcases Nat.lt_or_ge id.2 n with h3|h3
    ·exact h3
    ·rw[hfr id h3]at hid;cases hid
   show shH n H H1 id=some o
   unfold shH
   rw[if_neg (by omega)]
   exact hid
end
theorem zvA {l:List Str}(hl:l.length≤1000000):zav Tryd.prog G0 47 [.fz (.sl (l.map enc))] H0 0 (fun d H n=>∃g,g<n∧d= .arr (47007,g) 1 0 l.length∧H (47007,g)=some ⟨(l.map enc).map .fz,false,l.isEmpty⟩):=by
 rw[zdo]
 have hfl:zag (l.map enc)=(l.map enc).map .fz:=by
  unfold zag
  rw[List.map_map,List.flatMap_map]
  clear hl
  induction l with
  |nil=>rfl
  |cons x l ih=>rw[List.flatMap_cons,List.map_cons,ih];rfl
 obtain⟨Q,hQ⟩:∃Q:D→zas→Nat→Prop,Q=(fun d H n=>(d= .full []∧l=[]∧n=0∧H=hpL [])∨∃g,g<n∧d= .arr (47007,g) 1 0 l.length∧H (47007,g)=some ⟨(l.map enc).map .fz,false,l.isEmpty⟩):=⟨_,rfl⟩
 have key:zav Tryd.prog G0 47 [.fz (.sl (l.map enc))] (hpL []) 0 Q:=by
  refine zaj (N:=8) hm zd1 47000 (lst [7]) zAW Tryd.func47 rfl rfl (by simp) (by kernel_rfl) ?_
  simp only[go_sem]
  refine zpM.i fun b hb=>?_
  cases b
  ·repeat'(first|refine And.intro ?_ ?_|exact True.intro|refine rq fun _=>?_|refine rf fun _=>?_|simp only[go_sem,Tryd.f47])
   rw[hQ]
   refine .inr ⟨0,by omega,by simp only[go_sem],?_⟩
   simp only[go_sem,←hfl]
  ·have:l=[]:=List.eq_nil_of_length_eq_zero (hb rfl)
   subst this
   repeat'(first|refine And.intro ?_ ?_|exact True.intro|refine rq fun _=>?_|refine rf fun _=>?_|simp only[go_sem,Tryd.f47])
   rw[hQ]
   exact .inl ⟨rfl,rfl,rfl,rfl⟩
 refine zbt key ?_
 rw[hQ]
 rintro d H n (⟨rfl,rfl,rfl,rfl⟩|⟨g,hg,rfl,ho⟩)
 ·refine⟨.arr (47007,0) 1 0 0,hpL [((47007,0),some ⟨[],false,true⟩)],1,?_,0,by omega,rfl,by simp only[go_sem]⟩
  refine zaO [] [(47007,0)] [] ?_ ?_ ?_ ?_ ?_<;>simp only[go_sem]
  all_goals first|done|rfl
 ·exact⟨_,H,n,zb9 ⟨rfl,trivial⟩ (fun _ _ h=>h) (Nat.le_refl _),g,hg,rfl,ho⟩
def zsh:Tv:=(.q 0 (.q 2 (.q 4 (.q 5 (.r 1 (.r 3 (.br [(6,(.q 7 (.br [(8,(.br [(9,.leaf)]))]))),(8,(.br [(6,(.q 7 (.br [(9,.leaf)])))]))])))))))
set_option maxHeartbeats 4000000 in
theorem zC2 {f:Abs.zac}(hs:f.subs=[])(hl:f.words.length≤1000000):zav Tryd.prog G0 48 [.fz (enc f)] H0 0 (fun d H n=>∃g,g<n∧d= .agg [.fz (.i .i64 f.kind),.fz (.s f.name.l),.arr (47007,g) 1 0 f.words.length,.full []]∧H (47007,g)=some ⟨(f.words.map enc).map .fz,false,f.words.isEmpty⟩):=by
 rw[zdo]
 obtain⟨Q,hQ⟩:∃Q:D→zas→Nat→Prop,Q=(fun d H n=>∃g,g<n∧d= .agg [.fz (.i .i64 f.kind),.fz (.s f.name.l),.arr (47007,g) 1 0 f.words.length,.full []]∧H (47007,g)=some ⟨(f.words.map enc).map .fz,false,f.words.isEmpty⟩):=⟨_,rfl⟩
 rw[←hQ]
 have kq:=Kp.mk hQ
 clear hQ
 obtain⟨E,hE⟩:∃E,f.words.isEmpty=E:=⟨_,rfl⟩
 obtain⟨C,hC⟩:∃C,f.words.map enc=C:=⟨_,rfl⟩
 refine zaj (N:=30) hm zd1 48000 (lst [1000001,1000005]) zC7 Tryd.func48 rfl rfl (by simp) (by kernel_rfl) ?_
 repeat'(first|refine And.intro ?_ ?_|exact True.intro|refine rq fun _=>?_|refine rf fun _=>?_|simp only[go_sem,zab,zae,zaa,hs,List.map_nil,Tryd.f48,zev])
 refine zbx (zey (id:=(48001,0)) (t:=1) (b:=true) (ys:=[.i .i64 f.kind,.s f.name.l,.sl (f.words.map enc),.sl []]) (by simp only[go_sem,hs,List.map_nil]) (by simp only[go_sem])) ?_
 refine zay (id:=1) hm zd1 48000 (lst [1000001,1000005]) zsh (by kernel_rfl) (by kernel_rfl) ?_
 repeat'(first|refine zaD.i (zeZ (cs:=f.words.map enc) (xs:=[FD.sl (f.words.map enc)]) rfl (zvA (l:=f.words) hl) fun g1 n1 hg1 hn1=>?_)|refine And.intro ?_ ?_|exact True.intro|refine rq fun _=>?_|refine rf fun _=>?_|simp only[go_sem,zab,zae,zaa,hs,List.map_nil,zsh,Tryd.f48,zev])
 ·refine zar hm zd1 48000 (lst [1000001,1000005]) (ι:=zd8 0 fun _=>True)
   ⟨fun q=>⟨frL [(2,.ptr (48002,1) 0),(3,.ptr (48003,n1) 0),(16,.fz (.i .i64 0)),(17,.fz (.i .i64 0))],
    hpL [((48002,1),some ⟨[.fz (.i .i64 0),.fz (.s []),.full [],.full []],true,false⟩),((48003,n1),some ⟨[.fz (.i .i64 f.kind),.fz (.s f.name.l),.arr (47007,g1) 1 0 f.words.length,.full []],true,false⟩),((47007,g1),some ⟨(f.words.map enc).map .fz,false,f.words.isEmpty⟩)],n1+1⟩,fun q=>0-q.i⟩
   ⟨0,by omega,trivial⟩ (by kernel_rfl) ?_ ?_
  ·refine zah ?_ ?_ ?_<;>simp only[go_sem]
   all_goals first|done|omega
  rintro⟨i,hi,_⟩
  repeat'(first|refine And.intro ?_ ?_|exact True.intro|refine rq fun _=>?_|refine rf fun _=>?_|simp only[go_sem,Nat.lt_irrefl,Tryd.f48,zev])
  rw[kq.out]
  exact⟨g1,by omega,by simp only[go_sem],by simp only[go_sem]⟩
 ·refine zar hm zd1 48000 (lst [1000001,1000005]) (ι:=zd8 0 fun _=>True)
   ⟨fun q=>⟨frL [(2,.ptr (48002,1) 0),(3,.ptr (48003,2) 0),(16,.fz (.i .i64 0)),(17,.fz (.i .i64 0))],
    hpL [((48002,1),some ⟨[.fz (.i .i64 0),.fz (.s []),.full [],.full []],true,false⟩),((48003,2),some ⟨[.fz (.i .i64 f.kind),.fz (.s f.name.l),.arr (47007,g1) 1 0 f.words.length,.full []],true,false⟩),((47007,g1),some ⟨(f.words.map enc).map .fz,false,f.words.isEmpty⟩)],n1+1⟩,fun q=>0-q.i⟩
   ⟨0,by omega,trivial⟩ (by kernel_rfl) ?_ ?_
  ·refine zah ?_ ?_ ?_<;>simp only[go_sem]
   all_goals first|done|omega
  rintro⟨i,hi,_⟩
  repeat'(first|refine And.intro ?_ ?_|exact True.intro|refine rq fun _=>?_|refine rf fun _=>?_|simp only[go_sem,Nat.lt_irrefl,Tryd.f48,zev])
  rw[kq.out]
  exact⟨g1,by omega,by simp only[go_sem],by simp only[go_sem]⟩
end Go.Proofs.YtalbdmcklgglbaaDoor

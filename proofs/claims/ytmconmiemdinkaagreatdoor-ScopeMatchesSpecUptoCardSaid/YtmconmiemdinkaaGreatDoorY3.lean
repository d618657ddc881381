/- several texts of this proof in one; no conditions -/
import Derived.Test.YtmconmiemdinkaaGreatDoorAT
import Derived.Test.YtmconmiemdinkaaGreatDoorY2
import Derived.Test.YtmconmiemdinkaaGreatDoorY8
import Derived.Test.YtmconmiemdinkaaGreatDoorY15
set_option maxRecDepth 100000
set_option maxHeartbeats 1000000
set_option linter.unusedSimpArgs false
namespace Go.Proofs.YtmconmiemdinkaaGreatDoor
open Go Go.Abs Go.Proofs
theorem zvn {G:Nat→List FD}{N:Nat}{l:List (Nat×D)}{hl:List (Abs.Id×Option O)}{X:zax}{n:Nat}{id:Abs.Id}{t:Nat}{ys:List FD}{b:Bool}(ho:hpX hl X id=some ⟨ys.map .fz,b,false⟩)(hs:frL l t= .ptr id 0):
  zd2 G N ⟨frL l,hpX hl X,n⟩ ⟨frL ((t,.rp ys)::l),hpX ((id,none)::hl) X,n⟩:=by
 have:=zdG (G:=G) (N:=N) (n:=n) ho hs
 rw[zzV]at this
 exact this
def HM (k ga:Nat):List (Abs.Id×Option O):=[((76007,ga),some ⟨[.fz (.i .i64 k)],true,false⟩)]
theorem zxl (k:Nat):(zob k).l=33::zbb k:=rfl
theorem zpy (k:Nat):(zE9 (k:Int)).l=zbb k:=rfl
def zxU:Tv:=(.q 0 (.q 1 (.q 3 (.q 7 (.q 8 (.q 10 (.r 4 (.q 5 (.br [(2,(.br [(6,(.br [(9,(.q 11 (.q 12 (.br [(13,(.q 14 (.q 15 .leaf)))])))),(11,(.q 12 (.br [(9,(.br [(13,(.q 14 (.q 15 .leaf)))]))])))])),(11,(.q 12 (.br [(6,(.br [(9,(.br [(13,(.q 14 (.q 15 .leaf)))]))]))])))])),(11,(.q 12 (.br [(2,(.br [(6,(.br [(9,(.br [(13,(.q 14 (.q 15 .leaf)))]))]))]))])))])))))))))
def zuy:Tv:=(.q 0 (.q 2 (.q 3 (.q 4 (.q 5 (.q 6 (.q 7 (.q 8 (.q 9 (.br [(1,(.br [(10,(.q 11 (.br [(12,(.q 13 (.br [(14,.leaf)])))])))])),(10,(.q 1 (.q 11 (.br [(12,(.q 13 (.br [(14,.leaf)])))]))))]))))))))))
set_option maxHeartbeats 8000000 in
theorem f101 {ga:Nat}:∀(s:Nat) (f:Abs.zac) (env:List zbg) (k n:Nat) (X:zax),f.size≤s→(enc f).Wf→f.fit=true→ga<n→k+f.size≤1000000→env.length+f.size≤1000000→
  (∀id o,X id=some o→id.2<n∧id.1≠76007)→
  zaH Tryz.prog GA 101 [.fz (enc f),.fz (enc (env.map (·.fr))),.fz (enc (env.map (·.to))),.ptr (76007,ga) 0] (hpX (HM k ga) X) n
   (fun d' H' n'=>d'= .fz (enc (ren bg f env k).1)∧n≤n'∧zeF H' (HM (ren bg f env k).2 ga)∧∀id o,X id=some o→H' id=some o):=by
 intro s
 induction s with
 |zero=>intro f env k n X hs;have:=f.size_pos;omega
 |succ s ih=>
  intro f env k n X hs hw hfit hga hk hel hX
  obtain⟨Q,hQ⟩:∃Q:D→zax→Nat→Prop,Q=(fun d' H' n'=>d'= .fz (enc (ren bg f env k).1)∧n≤n'∧zeF H' (HM (ren bg f env k).2 ga)∧∀id o,X id=some o→H' id=some o):=⟨_,rfl⟩
  obtain⟨QQ,hQQ⟩:∃QQ:D→zax→Nat→Prop,QQ=(fun d' H' n'=>D.val d'=some (.fz (enc (ren bg f env k).1))∧n≤n'∧zeF H' (HM (ren bg f env k).2 ga)∧∀id o,X id=some o→H' id=some o):=⟨_,rfl⟩
  have hfin:∀d H m,QQ d H m→∃d' H' n',zd2 GA 1 ⟨frL [(0,d)],H,m⟩ ⟨frL [(0,d')],H',n'⟩∧Q d' H' n':=by
   rw[hQQ,hQ]
   rintro d H m ⟨h1,h2,h3,h4⟩
   exact⟨_,H,m,zpa h1,rfl,h2,h3,h4⟩
  rw[←hQ]
  refine zb1 (Q:=QQ) ?_ hfin
  clear hfin hQ
  have hX':∀{l:List (Abs.Id×Option O)} (id o),X id=some o→(id.2<n∧id.1≠76007→zhf id l)→hpX l X id=some o:=fun id o h1 h2=>(za0 (h2 (hX id o h1))).trans h1
  obtain⟨hwl,hsl,hfs⟩:=zac.fit_eq hfit
  have hsw:∀g∈f.subs,(enc g).Wf:=fun g hg=>zh6 (zbL (by have h:=hw;rw[zaz]at h;exact h) (FD.sl (f.subs.map enc)) (by simp)) _ (List.mem_map_of_mem hg)
  have hss:∀g∈f.subs,g.size≤s∧g.fit=true:=fun g hg=>⟨by have:=zac.size_sub hg;omega,zac.fits_mem hfs hg⟩
  have hszs:f.size=zac.sizes f.subs+1:=by cases f;rw[zac.size];rfl
  have hreq:=@zxQ bg f env k
  obtain⟨olds,holds⟩:∃olds,env.map (·.fr)=olds:=⟨_,rfl⟩
  obtain⟨news,hnews⟩:∃news,env.map (·.to)=news:=⟨_,rfl⟩
  have hol:olds.length=env.length:=by rw[←holds,List.length_map]
  have hnl:news.length=env.length:=by rw[←hnews,List.length_map]
  have hog:∀p (h:p<env.length) (h2:p<olds.length) (h3:p<news.length),olds[p]=env[p].fr∧news[p]=env[p].to:=fun p h h2 h3=>by subst holds hnews;simp
  rw[holds,hnews]
  have kX:=Kp.mk @hX'
  have kQ:=Kp.mk hQQ
  have kI:=Kp.mk ih
  have kS:=Kp.mk hsw
  have kZ:=Kp.mk hss
  have kx:=Kp.mk hX
  have kR:=Kp.mk hreq
  have kO:=Kp.mk holds
  have kN:=Kp.mk hnews
  have kG:=Kp.mk hog
  clear hX' hQQ ih hsw hss hX hfs hreq hw hfit holds hnews hog
  refine zaj (N:=105) hm hR8 101000 (lsw [47,71,75,78,82,101] [1000015,1000019]) zGw Tryz.func101 rfl rfl (by simp) (by kernel_rfl) ?_
  repeat'(first|refine rq fun _=>?_|refine zaq.i (zal (by first|omega|(simp only[List.length_map,List.length_append,List.length_cons,List.length_nil];omega)) (by decide)) fun _=>?_|refine rq fun _=>?_|refine zaq.i ⟨by omega,by omega⟩ fun _=>?_|simp only[go_sem,HM,Tryz.f101])
  refine zam hm hR8 101000 (lsw [47,71,75,78,82,101] [1000015,1000019]) (ι:=zvh f.words.length (n+5) n)
   ⟨fun q=>⟨frL [(1,.fz (.sl (olds.map enc))),(2,.fz (.sl (news.map enc))),(3,.ptr (76007,ga) 0),(4,.rp [.i .i64 f.kind,.s f.name.l,.sl (f.words.map enc),.sl (f.subs.map enc)]),(8,.ptr (101008,n+1) 0),(9,.ptr (101009,n+1+1) 0),
     (20,.fz (.sl (f.words.map enc))),(21,.fz (.i .i64 f.words.length)),(22,.fz (.i .i64 q.i))],
    hpX ([((101008,n+1),some ⟨[.fz (.i .i64 0),.fz (.s []),.full [],.full []],true,false⟩),
     ((101009,n+1+1),some ⟨[.fz (.i .i64 f.kind),.fz (.s f.name.l),.ow (101047,q.g) 1 (((f.words.take q.i).map (lkp env)).map enc),.ow (101101,n+1+1+1) 4 ([])],true,false⟩),
     ((101047,q.g),some tok),((101101,n+1+1+1),some tok)]++HM k ga) X,q.m⟩,fun q=>f.words.length-q.i⟩
   ⟨0,n+1+1+1+1,n+1+1+1+1+1,by omega,by omega,by omega,by omega⟩ (by kernel_rfl) ?_ ?_
  ·refine zbw (zvn (id:=(101004,n)) (t:=4) (b:=true) (ys:=[.i .i64 f.kind,.s f.name.l,.sl (f.words.map enc),.sl (f.subs.map enc)]) (by simp only[go_sem];try rfl) (by simp only[go_sem])) ?_
   refine zbw (zd4 101101) (zbw (zd4 101047) (zbw (zd3 (id:=(101009,n+1+1)) (id2:=(101047,n+1+1+1+1)) (es:=1) (k:=2) (xs:=[]) (b:=true) (by simp only[go_sem];rfl) (by simp) (by rfl) (by simp only;omega))
    (zbw (zd3 (id:=(101009,n+1+1)) (id2:=(101101,n+1+1+1)) (es:=4) (k:=3) (xs:=[]) (b:=true) (by simp only[go_sem];rfl) (by simp) (by rfl) (by simp only;omega)) ?_)))
   refine zay ?_ ?_ (fun id o ho=>?_) ?_
   ·simp only[go_sem]
   ·simp only[go_sem,HM]
   ·refine kX.out id o ho fun h1=>?_
    ((repeat'(first|exact trivial|apply And.intro))<;>(rintro rfl;simp only at h1;omega))
   ·simp only[go_sem]
  rintro⟨i,g1,m1,hi,hg1,hm1,hgl⟩
  try simp only at hi hg1 hm1 hgl
  rcases Nat.lt_or_ge i f.words.length with h1|h1
  ·obtain⟨w,hwi⟩:∃w,f.words[i]=w:=⟨_,rfl⟩
   have e3:=List.take_succ_eq_append_getElem h1
   rw[hwi]at e3
   have e4:((f.words.take (i+1)).map (lkp env))=((f.words.take i).map (lkp env))++[lkp env w]:=by rw[e3,List.map_append];rfl
   have e5:((f.words.take i).map (lkp env)).length=i:=by rw[List.length_map,List.length_take];omega
   obtain⟨ws,hws⟩:∃ws,(f.words.take i).map (lkp env)=ws:=⟨_,rfl⟩
   rw[hws]at e4 e5
   obtain⟨v,hv⟩:∃v,lkp env w=v:=⟨_,rfl⟩
   rw[hv]at e4
   have k4:=Kp.mk e4
   clear e4 e3
   repeat'(first|refine rq fun _=>?_|refine zaq.i (zal (by first|omega|(simp only[List.length_map,List.length_append,List.length_cons,List.length_nil];omega)) (by decide)) fun _=>?_|refine rq fun _=>?_|refine zaq.i ⟨by omega,by omega⟩ fun _=>?_|simp only[go_sem,HM,h1,hwi,hws,zad,zaa,Tryz.f101])
   refine zam hm hR8 101000 (lsw [47,71,75,78,82,101] [1000015,1000019]) (ι:=zAY env w)
    ⟨fun q=>⟨frL [(1,.fz (.sl (olds.map enc))),(2,.fz (.sl (news.map enc))),(3,.ptr (76007,ga) 0),(4,.rp [.i .i64 f.kind,.s f.name.l,.sl (f.words.map enc),.sl (f.subs.map enc)]),(8,.ptr (101008,n+1) 0),(9,.ptr (101009,n+1+1) 0),
      (11,.fz (.s w.l)),(12,.fz (.i .i64 (zwf q.p))),(20,.fz (.sl (f.words.map enc))),(21,.fz (.i .i64 f.words.length)),(22,.fz (.i .i64 i))],
     hpX ([((101008,n+1),some ⟨[.fz (.i .i64 0),.fz (.s []),.full [],.full []],true,false⟩),
      ((101009,n+1+1),some ⟨[.fz (.i .i64 f.kind),.fz (.s f.name.l),.ow (101047,g1) 1 (ws.map enc),.ow (101101,n+1+1+1) 4 ([])],true,false⟩),
      ((101047,g1),some tok),((101101,n+1+1+1),some tok)]++HM k ga) X,m1⟩,fun q=>q.p⟩
    ⟨env.length,Nat.le_refl _,rfl⟩ (by kernel_rfl) ?_ ?_
   ·refine zay ?_ ?_ (fun id o ho=>?_) ?_
    ·simp only[go_sem,zwf,hol]
    ·simp only[go_sem,HM]
    ·refine kX.out id o ho fun h1=>?_
     ((repeat'(first|exact trivial|apply And.intro))<;>(rintro rfl;simp only at h1;omega))
    ·simp only[go_sem]
   rintro⟨p,hp,hl⟩
   try simp only at hp hl
   cases p with
   |zero=>
    have hvw:v=w:=by rw[←hv,hl,zhM]
    repeat'(first|refine rq fun _=>?_|refine zaq.i (zal (by first|omega|(simp only[List.length_map,List.length_append,List.length_cons,List.length_nil];omega)) (by decide)) fun _=>?_|refine rq fun _=>?_|refine zaq.i ⟨by omega,by omega⟩ fun _=>?_|simp only[go_sem,HM,h1,hwi,zmO,Tryz.f101])
    refine⟨⟨i+1,m1,m1+1,by omega,by omega,by omega,by omega⟩,by simp only;omega,?_⟩
    refine zay ?_ ?_ (fun id o ho=>?_) ?_
    ·simp only[go_sem]
    ·simp only[go_sem,HM,k4.out,List.map_append,hvw]
    ·refine kX.out id o ho fun h1=>?_
     ((repeat'(first|exact trivial|apply And.intro))<;>(rintro rfl;simp only at h1;omega))
    ·simp only[go_sem]
   |succ p=>
    rw[zhM]at hl
    have hpg:env.getD p default=env[p]:=by rw[List.getD_eq_getElem?_getD,List.getElem?_eq_getElem (by omega),Option.getD_some]
    rw[hpg]at hl
    have hpo:p<olds.length:=by omega
    have hpn:p<news.length:=by omega
    obtain⟨hg1',hg2'⟩:=kG.out p (by omega) hpo hpn
    rw[←hg1',←hg2']at hl
    obtain⟨a,ha⟩:∃a,olds[p]=a:=⟨_,rfl⟩
    obtain⟨b,hb⟩:∃b,news[p]=b:=⟨_,rfl⟩
    rw[ha,hb]at hl
    clear hg1' hg2' hpg
    by_cases he:a=w
    ·rw[if_pos he,hv]at hl
     have he':a.l=w.l:=by rw[he]
     repeat'(first|refine rq fun _=>?_|refine zaq.i (zal (by first|omega|(simp only[List.length_map,List.length_append,List.length_cons,List.length_nil];omega)) (by decide)) fun _=>?_|refine rq fun _=>?_|refine zaq.i ⟨by omega,by omega⟩ fun _=>?_|simp only[go_sem,HM,h1,hpo,hpn,ha,hb,he',hwi,zgl,zaa,Tryz.f101])
     refine⟨⟨i+1,m1,m1+1,by omega,by omega,by omega,by omega⟩,by simp only;omega,?_⟩
     refine zay ?_ ?_ (fun id o ho=>?_) ?_
     ·simp only[go_sem]
     ·simp only[go_sem,HM,k4.out,List.map_append,hl]
     ·refine kX.out id o ho fun h1=>?_
      ((repeat'(first|exact trivial|apply And.intro))<;>(rintro rfl;simp only at h1;omega))
     ·simp only[go_sem]
    ·rw[if_neg he]at hl
     have he':¬a.l=w.l:=fun e=>he (by cases a;cases w;simp only at e;rw[e])
     repeat'(first|refine rq fun _=>?_|refine zaq.i (zal (by first|omega|(simp only[List.length_map,List.length_append,List.length_cons,List.length_nil];omega)) (by decide)) fun _=>?_|refine rq fun _=>?_|refine zaq.i ⟨by omega,by omega⟩ fun _=>?_|simp only[go_sem,HM,h1,hpo,hpn,ha,hb,he',hwi,zgl,zaa,Tryz.f101])
     refine⟨⟨p,by omega,hl⟩,by simp only;omega,?_⟩
     refine zay ?_ ?_ (fun id o ho=>?_) ?_
     ·simp only[go_sem,zwf]
     ·simp only[go_sem,HM]
     ·refine kX.out id o ho fun h1=>?_
      ((repeat'(first|exact trivial|apply And.intro))<;>(rintro rfl;simp only at h1;omega))
     ·simp only[go_sem]
  ·obtain rfl:i=f.words.length:=by omega
   obtain⟨wl,hwl2⟩:∃wl,f.words.map (lkp env)=wl:=⟨_,rfl⟩
   have hres:∃(env2:List zbg) (nm2:Str) (k2:Nat),ren bg f env k=(.mk f.kind nm2 wl (zbd bg f.subs env2 k2).1,(zbd bg f.subs env2 k2).2)∧k2≤k+1∧env2.length≤env.length+1∧
     (isQ f.kind→env2=env++[⟨f.name,zob k⟩]∧nm2=zob k∧k2=k+1)∧(¬isQ f.kind→env2=env∧nm2=f.name∧k2=k):=by
    rw[kR.out]
    by_cases hq:isQ f.kind
    ·exact⟨_,_,_,by rw[if_pos hq,hwl2];rfl,by omega,by simp,fun _=>⟨rfl,rfl,rfl⟩,fun h=>absurd hq h⟩
    ·exact⟨_,_,_,by rw[if_neg hq,hwl2],by omega,by simp,fun h=>absurd h hq,fun _=>⟨rfl,rfl,rfl⟩⟩
   obtain⟨env2,nm2,k2,hres,hk2,hel2,hq1,hq2⟩:=hres
   have kW:=Kp.mk hres
   have kq1:=Kp.mk hq1
   have kq2:=Kp.mk hq2
   clear hres hq1 hq2
   obtain⟨A,hA⟩:∃A:Nat→List Abs.zac,A=fun j=>(zbd bg (f.subs.take j) env2 k2).1:=⟨_,rfl⟩
   obtain⟨K,hK⟩:∃K:Nat→Nat,K=fun j=>(zbd bg (f.subs.take j) env2 k2).2:=⟨_,rfl⟩
   have hA0:A 0=[]:=by rw[hA];simp[zbd]
   have hK0:K 0=k2:=by rw[hK];simp[zbd]
   have hAs:∀j (h:j<f.subs.length),A (j+1)=A j++[(ren bg f.subs[j] env2 (K j)).1]∧K (j+1)=(ren bg f.subs[j] env2 (K j)).2:=fun j h=>by
    rw[hA,hK];simp only[List.take_succ_eq_append_getElem h,zlw,zbd];constructor<;>first|rfl|trivial
   have hAl:∀j,(A j).length≤j:=fun j=>by rw[hA];simp only[zdj,List.length_take];omega
   have hKb:∀j (h:j<f.subs.length),K j+f.subs[j].size≤1000000:=fun j h=>by
    have h6:=((zht zvr).2 (f.subs.take j) env2 k2).2
    have h7:=zcR h
    rw[hK];simp only;omega
   have hAe:A f.subs.length=(zbd bg f.subs env2 k2).1∧K f.subs.length=(zbd bg f.subs env2 k2).2:=by rw[hA,hK];simp only[List.take_length];first|trivial|(constructor<;>first|rfl|trivial)
   obtain⟨olds2,ho2⟩:∃olds2,env2.map (·.fr)=olds2:=⟨_,rfl⟩
   obtain⟨news2,hn2⟩:∃news2,env2.map (·.to)=news2:=⟨_,rfl⟩
   have kA:=Kp.mk hAs
   have kB:=Kp.mk hAl
   have kC:=Kp.mk hKb
   have kE:=Kp.mk hAe
   have ko2:=Kp.mk ho2
   have kn2:=Kp.mk hn2
   clear hAs hAl hKb hAe hA hK ho2 hn2
   by_cases hq:isQ f.kind
   case' pos=>
    obtain⟨q1,q2,q3⟩:=kq1.out hq
    have hdl:=zfk k
    unfold isQ at hq
    have o2:olds2=olds++[f.name]:=by rw[←ko2.out,q1,List.map_append,kO.out];rfl
    have n2:news2=news++[zob k]:=by rw[←kn2.out,q1,List.map_append,kN.out];rfl
    have hq8:((f.kind=8)=True∧(f.kind=8)=True)∨((f.kind=8)=False∧(f.kind=9)=True):=by
     rcases hq with h|h
     ·exact .inl ⟨eq_true h,eq_true h⟩
     ·exact .inr ⟨eq_false (by omega),eq_true h⟩
    rcases hq8 with⟨h8,h9⟩|⟨h8,h9⟩
    all_goals
     repeat'(first|refine rq fun _=>?_|refine zaq.i (zal (by first|omega|(simp only[List.length_map,List.length_append,List.length_cons,List.length_nil];omega)) (by decide)) fun _=>?_|refine rq fun _=>?_|refine zaq.i ⟨by omega,by omega⟩ fun _=>?_|simp only[go_sem,HM,h8,h9,Nat.lt_irrefl,List.take_length,hwl2,zad,zpy,Tryz.f101])
     refine zx5 (ι:=Unit) (fun _=>⟨frL [(1,.fz (.sl (olds2.map enc))),(2,.fz (.sl (news2.map enc))),(3,.ptr (76007,ga) 0),(4,.rp [.i .i64 f.kind,.s f.name.l,.sl (f.words.map enc),.sl (f.subs.map enc)]),(8,.ptr (101008,n+1) 0),(9,.ptr (101009,n+1+1) 0)],
       hpX ([((101008,n+1),some ⟨[.fz (.i .i64 0),.fz (.s []),.full [],.full []],true,false⟩),
        ((101009,n+1+1),some ⟨[.fz (.i .i64 f.kind),.fz (.s nm2.l),.ow (101047,g1) 1 (wl.map enc),.ow (101101,n+1+1+1) 4 ([])],true,false⟩),
        ((101101,n+1+1+1),some tok)]++HM k2 ga) X,m1+100⟩) (fun _=>?_) ?_
     rotate_left
     ·refine zbk hm hR8 101000 (lsw [47,71,75,78,82,101] [1000015,1000019]) zxU (by kernel_rfl) (by kernel_rfl) ?_
      repeat'(first|refine And.intro ?_ ?_|exact True.intro|refine rq fun _=>?_|refine zaq.i (zal (by first|omega|(simp only[List.length_map,List.length_append,List.length_cons,List.length_nil];omega)) (by decide)) fun _=>?_|refine rq fun _=>?_|refine zaq.i ⟨by omega,by omega⟩ fun _=>?_|simp only[go_sem,HM,zxU,zpy,Tryz.f101])
      all_goals
       refine⟨(),?_⟩
       refine zbw (zkz (l:=[(1,.fz (.sl (olds2.map enc))),(2,.fz (.sl (news2.map enc))),(3,.ptr (76007,ga) 0),(4,.rp [.i .i64 f.kind,.s f.name.l,.sl (f.words.map enc),.sl (f.subs.map enc)]),(8,.ptr (101008,n+1) 0),(9,.ptr (101009,n+1+1) 0)]) (by simp only[go_sem,o2,n2,zxl,List.map_append])) ?_
       refine zay ?_ ?_ (fun id o ho=>?_) ?_
       ·simp only[go_sem]
       ·simp only[go_sem,HM,q2,q3,zxl]
       ·refine kX.out id o ho fun h1=>?_
        ((repeat'(first|exact trivial|apply And.intro))<;>(rintro rfl;simp only at h1;omega))
       ·(try simp only[go_sem]);omega
     repeat'(first|refine rq fun _=>?_|refine zaq.i (zal (by first|omega|(simp only[List.length_map,List.length_append,List.length_cons,List.length_nil];omega)) (by decide)) fun _=>?_|refine rq fun _=>?_|refine zaq.i ⟨by omega,by omega⟩ fun _=>?_|simp only[go_sem,HM,zad,Tryz.f101])
   case' neg=>
    obtain⟨q1,q2,q3⟩:=kq2.out hq
    unfold isQ at hq
    have o2:olds2=olds:=by rw[←ko2.out,q1,kO.out]
    have n2:news2=news:=by rw[←kn2.out,q1,kN.out]
    have h8:(f.kind=8)=False:=eq_false fun h=>hq (.inl h)
    have h9:(f.kind=9)=False:=eq_false fun h=>hq (.inr h)
    repeat'(first|refine rq fun _=>?_|refine zaq.i (zal (by first|omega|(simp only[List.length_map,List.length_append,List.length_cons,List.length_nil];omega)) (by decide)) fun _=>?_|refine rq fun _=>?_|refine zaq.i ⟨by omega,by omega⟩ fun _=>?_|simp only[go_sem,HM,h8,h9,Nat.lt_irrefl,List.take_length,hwl2,zad,Tryz.f101])
   all_goals
    refine zam hm hR8 101000 (lsw [47,71,75,78,82,101] [1000015,1000019]) (ι:=zvh f.subs.length (n+5) n)
     ⟨fun q=>⟨frL [(1,.fz (.sl (olds2.map enc))),(2,.fz (.sl (news2.map enc))),(3,.ptr (76007,ga) 0),(4,.rp [.i .i64 f.kind,.s f.name.l,.sl (f.words.map enc),.sl (f.subs.map enc)]),(8,.ptr (101008,n+1) 0),(9,.ptr (101009,n+1+1) 0),(85,.fz (.i .i64 f.subs.length)),(86,.fz (.i .i64 q.i))],
      hpX ([((101008,n+1),some ⟨[.fz (.i .i64 0),.fz (.s []),.full [],.full []],true,false⟩),
       ((101009,n+1+1),some ⟨[.fz (.i .i64 f.kind),.fz (.s nm2.l),.ow (101047,g1) 1 (wl.map enc),.ow (101101,q.g) 4 ((A q.i).map enc)],true,false⟩),
       ((101101,q.g),some tok)]++HM (K q.i) ga) X,q.m⟩,fun q=>f.subs.length-q.i⟩
     ⟨0,n+1+1+1,m1+100,by omega,by omega,by omega,by omega⟩ (by kernel_rfl) ?_ ?_
    ·refine zay ?_ ?_ (fun id o ho=>?_) ?_
     ·simp only[go_sem,o2,n2]
     ·simp only[go_sem,HM,hA0,hK0,q2,q3]
     ·refine kX.out id o ho fun h1=>?_
      ((repeat'(first|exact trivial|apply And.intro))<;>(rintro rfl;simp only at h1;omega))
     ·(try simp only[go_sem]);(try omega)
    rintro⟨j,g2,m2,hj,hg2,hm2,hgl2⟩
    try simp only at hj hg2 hm2 hgl2
    rcases Nat.lt_or_ge j f.subs.length with h2|h2
    ·have hmem:=List.getElem_mem h2
     obtain⟨x,hx⟩:∃x,f.subs[j]=x:=⟨_,rfl⟩
     have hz:=kZ.out _ hmem
     have hwx:=kS.out _ hmem
     have hAj:=kA.out j h2
     have hKj:=kC.out j h2
     have hAlj:=kB.out j
     rw[hx]at hz hwx hAj hKj
     obtain⟨y,hy⟩:∃y,(ren bg x env2 (K j)).1=y:=⟨_,rfl⟩
     obtain⟨kj,hkj⟩:∃kj,(ren bg x env2 (K j)).2=kj:=⟨_,rfl⟩
     rw[hy,hkj]at hAj
     have hlx:=zac.size_mem (l:=f.subs) hmem
     rw[hx]at hlx
     have ih2:∀(m3:Nat),m2≤m3→_:=fun m3 hm3=>kI.out x env2 (K j) m3 (hpX [((101008,n+1),some ⟨[.fz (.i .i64 0),.fz (.s []),.full [],.full []],true,false⟩),
       ((101009,n+1+1),some ⟨[.fz (.i .i64 f.kind),.fz (.s nm2.l),.ow (101047,g1) 1 (wl.map enc),.ow (101101,g2) 4 ((A j).map enc)],true,false⟩),((101101,g2),some tok)] X) hz.1 hwx hz.2 (by omega) (by omega) (by omega) (by
      intro id o ho
      simp only[hpX]at ho
      split at ho
      ·rename_i e;subst e;simp only;omega
      split at ho
      ·rename_i e;subst e;simp only;omega
      split at ho
      ·rename_i e;subst e;simp only;omega
      ·have:=kx.out id o ho;omega)
     simp only[hy,hkj]at ih2
     rw[zaz (f:=x),ko2.out,kn2.out]at ih2
     obtain⟨fy,hfy⟩:∃fy,enc y=fy:=⟨_,rfl⟩
     have hcy:fy.cells.length=4:=by rw[←hfy,zaz];rfl
     have hff:(zaf [fy]).all zcp=true:=by rw[←hfy];have h9:=@ziA [y];exact eq_true h9▸h9
     repeat'(first|refine rq fun _=>?_|refine zaq.i (zal (by first|omega|(simp only[List.length_map,List.length_append,List.length_cons,List.length_nil];omega)) (by decide)) fun _=>?_|refine rq fun _=>?_|refine zaq.i ⟨by omega,by omega⟩ fun _=>?_|simp only[go_sem,HM,h2,hx,zaa,Tryz.f101])
     refine zbk hm hR8 101000 (lsw [47,71,75,78,82,101] [1000015,1000019]) zuy (by kernel_rfl) (by kernel_rfl) ?_
     repeat'(first|refine And.intro ?_ ?_|exact True.intro|refine rq fun _=>?_|refine zaq.i (zal (by first|omega|(simp only[List.length_map,List.length_append,List.length_cons,List.length_nil];omega)) (by decide)) fun _=>?_|refine rq fun _=>?_|refine zaq.i ⟨by omega,by omega⟩ fun _=>?_|simp only[go_sem,HM,zuy,h2,hx,zaa,Tryz.f101])
     all_goals
      refine zaQ.i (zcY (by simp only[go_sem,zgJ]) (by simp only[go_sem,HM]) (fun id o ho=>?_) (Nat.le_refl _) (zaL (ih2 _ (by omega)) ?_))
      ·simp only[hpX]at ho
       split at ho
       ·rename_i e;subst e;simp only[go_sem];exact Option.some.inj ho
       split at ho
       ·rename_i e;subst e;simp only[go_sem];exact Option.some.inj ho
       split at ho
       ·rename_i e;subst e;simp only[go_sem];exact Option.some.inj ho
       ·refine kX.out id o ho fun h1=>?_
        ((repeat'(first|exact trivial|apply And.intro))<;>(rintro rfl;simp only at h1;omega))
      rintro d' H' n' ⟨rfl,e1,e2,e3⟩
      have c6:=e3 (101008,n+1) ⟨[.fz (.i .i64 0),.fz (.s []),.full [],.full []],true,false⟩ (by simp only[go_sem])
      have c7:=e3 (101009,n+1+1) ⟨[.fz (.i .i64 f.kind),.fz (.s nm2.l),.ow (101047,g1) 1 (wl.map enc),.ow (101101,g2) 4 ((A j).map enc)],true,false⟩ (by simp only[go_sem])
      have c8:=e3 (101101,g2) tok (by simp only[go_sem])
      have hX2:∀id o,X id=some o→H' id=some o:=fun id o ho=>e3 id o (kX.out id o ho fun h1=>by
       ((repeat'(first|exact trivial|apply And.intro))<;>(rintro rfl;simp only at h1;omega)))
      clear e3
      simp only[go_sem,HM]at e2
      have c1:=e2
      rw[show H'=hpX [] H' from rfl]
      rw[hfy]
      repeat'(first|refine rq fun _=>?_|refine zaq.i (zal (by first|omega|(simp only[List.length_map,List.length_append,List.length_cons,List.length_nil];omega)) (by decide)) fun _=>?_|refine rq fun _=>?_|refine zaq.i ⟨by omega,by omega⟩ fun _=>?_|simp only[go_sem,HM,zuy,c1,c6,c7,c8,h2,hcy,hff,Tryz.f101])
      refine⟨⟨j+1,n',n'+1,by omega,by omega,by omega,by omega⟩,by simp only;omega,?_⟩
      refine zay ?_ ?_ (fun id o ho=>?_) ?_
      ·simp only[go_sem]
      ·simp only[go_sem,HM,c1,c6,c7,c8,hAj.1,hAj.2,hfy,List.map_append]
      ·have h1:=kx.out id o ho
       refine(za0 ?_).trans (hX2 id o ho)
       ((repeat'(first|exact trivial|apply And.intro))<;>(rintro rfl;simp only at h1;omega))
      ·simp only[go_sem]
    ·obtain rfl:j=f.subs.length:=by omega
     have hE:=kE.out
     repeat'(first|refine rq fun _=>?_|refine zaq.i (zal (by first|omega|(simp only[List.length_map,List.length_append,List.length_cons,List.length_nil];omega)) (by decide)) fun _=>?_|refine rq fun _=>?_|refine zaq.i ⟨by omega,by omega⟩ fun _=>?_|simp only[go_sem,HM,Nat.lt_irrefl,Tryz.f101])
     rw[kQ.out,kW.out]
     refine⟨?_,by omega,?_,fun id o ho=>kX.out id o ho fun h1=>?_⟩
     ·rw[←hE.1];simp only[go_sem]
     ·rw[←hE.2];simp only[go_sem,HM]
     ·((repeat'(first|exact trivial|apply And.intro))<;>(rintro rfl;simp only at h1;omega))
end Go.Proofs.YtmconmiemdinkaaGreatDoor
namespace Go.Abs
open Go
theorem zC5 {fr to:List Str}{f:Abs.zac}:swp fr to f= .mk f.kind (if isQ f.kind then zbZ fr to f.name else f.name) (f.words.map (zbZ fr to)) (f.subs.map (swp fr to)):=by cases f;rw[swp,zqf];rfl
theorem znE {fr to:List Str}{w:Str}{i:Nat}(h1:i<fr.length)(h2:i<to.length)(he:fr[i]=w):zbZ (fr.drop i) (to.drop i) w=to[i]:=by
 rw[List.drop_eq_getElem_cons h1,List.drop_eq_getElem_cons h2];unfold zbZ;rw[if_pos he]
theorem zkp {fr to:List Str}{w:Str}{i:Nat}(h1:i<fr.length)(h2:i<to.length)(he:¬fr[i]=w):zbZ (fr.drop i) (to.drop i) w=zbZ (fr.drop (i+1)) (to.drop (i+1)) w:=by
 rw[List.drop_eq_getElem_cons h1,List.drop_eq_getElem_cons h2];conv=>lhs;unfold zbZ
 rw[if_neg he]
theorem znD {fr to:List Str}{w:Str}{i:Nat}(h:fr.length≤i):zbZ (fr.drop i) (to.drop i) w=w:=by
 rw[List.drop_of_length_le h];unfold zbZ;rfl
end Go.Abs
namespace Go.Proofs.YtmconmiemdinkaaGreatDoor
open Go Go.Abs Go.Proofs
def zlN:Tv:=(.q 0 (.q 1 (.q 2 (.q 3 (.q 4 (.q 5 (.q 6 .leaf)))))))
def zuz:Tv:=(.q 0 (.q 1 (.q 2 (.q 3 (.q 4 (.q 5 (.q 6 (.q 7 (.q 8 (.q 9 (.q 10 (.br [(11,(.q 12 (.br [(13,.leaf)])))]))))))))))))
def zuw (f:Abs.zac)(fr to:List Str):Prop:=f.fit=true∧fr.length=to.length
def R9:Tbl:=R8.add 103 (sp3 (fun f fr to=>swp fr to f) zuw)
attribute [go_sem] R9
set_option maxHeartbeats 8000000 in
theorem hR9:zan Tryz.prog GA R9:=by
 refine zoW zac.size zCN hR8 fun n hT f fr to hn hpre hw hwf hwt=>?_
 obtain⟨hfit,hlen⟩:=hpre
 have la:=zcI hwf
 simp only[List.length_map,za6]at la
 obtain⟨hwl,hsl,hfs⟩:=zac.fit_eq hfit
 have hsz:∀g∈f.subs,g.size<n∧zuw g fr to:=fun g hg=>⟨by have:=zac.size_sub hg;omega,zac.fits_mem hfs hg,hlen⟩
 obtain⟨nm2,hnm2⟩:∃nm2,(if isQ f.kind then zbZ fr to f.name else f.name)=nm2:=⟨_,rfl⟩
 obtain⟨wl,hwl2⟩:∃wl,f.words.map (zbZ fr to)=wl:=⟨_,rfl⟩
 obtain⟨A,hA⟩:∃A:Nat→List Abs.zac,A=fun j=>(f.subs.take j).map (swp fr to):=⟨_,rfl⟩
 have hA0:A 0=[]:=by rw[hA];rfl
 have hAs:∀j (h:j<f.subs.length),A (j+1)=A j++[swp fr to f.subs[j]]:=fun j h=>by rw[hA];simp only[List.take_succ_eq_append_getElem h,List.map_append,List.map_cons,List.map_nil]
 have hAl:∀j,(A j).length≤f.subs.length:=fun j=>by rw[hA];simp only[List.length_map,List.length_take];omega
 have hres:swp fr to f= .mk f.kind nm2 wl (A f.subs.length):=by rw[zC5,hnm2,hwl2,hA];simp only[List.take_length]
 rw[hres]
 have kT:=Kp.mk hT
 have kz:=Kp.mk hsz
 have kn:=Kp.mk hnm2
 have kA:=Kp.mk hAs
 have kL:=Kp.mk hAl
 clear hT hsz hnm2 hAs hAl hA hres hw hwf hwt hfit hfs hn
 refine zaj (N:=95) hm kT.out 103000 (lsw [45,91] [1000017,1000023]) zCN Tryz.func103 rfl rfl (by simp) (by kernel_rfl) ?_
 repeat'(first|refine rq fun _=>?_|refine zaq.i (zal (by first|omega|(simp only[List.length_map,List.length_append,List.length_cons,List.length_nil];omega)) (by decide)) fun _=>?_|refine rq fun _=>?_|simp only[go_sem,Tryz.f103])
 refine zb0 (zdG (id:=(103003,0)) (t:=3) (b:=true) (ys:=[.i .i64 f.kind,.s f.name.l,.sl (f.words.map enc),.sl (f.subs.map enc)]) (by simp only[go_sem]) (by simp only[go_sem])) ?_
 refine zam hm kT.out 103000 (lsw [45,91] [1000017,1000023]) (ι:=zdR f.words.length 5 fun _=>True)
  ⟨fun q=>⟨frL [(1,.fz (.sl (fr.map enc))),(2,.fz (.sl (to.map enc))),(3,.rp [.i .i64 f.kind,.s f.name.l,.sl (f.words.map enc),.sl (f.subs.map enc)]),(6,.ptr (103006,1) 0),(7,.ptr (103007,2) 0),(19,.fz (.sl (f.words.map enc))),(20,.fz (.i .i64 f.words.length)),(21,.fz (.i .i64 q.i))],
   hpL [((103006,1),some ⟨[.fz (.i .i64 0),.fz (.s []),.full [],.full []],true,false⟩),((103007,2),some ⟨[.fz (.i .i64 f.kind),.fz (.s f.name.l),.ow (103045,q.g) 1 (((f.words.take q.i).map (zbZ fr to)).map enc),.ow (103091,3) 4 ([])],true,false⟩),((103045,q.g),some tok),((103091,3),some tok)],q.m⟩,fun q=>f.words.length-q.i⟩
  ⟨0,4,5,by omega,by omega,by omega,trivial⟩ (by kernel_rfl) ?_ ?_
 ·refine zb6 [] [(103091,3),(103045,4)] [] ?_ ?_ ?_ ?_ ?_<;>simp only[go_sem]
  all_goals first|done|rfl
 rintro⟨i,g1,m1,hi,hg1,hm1,_⟩
 try simp only at hi hg1 hm1
 rcases Nat.lt_or_ge i f.words.length with h1|h1
 ·obtain⟨w,hwi⟩:∃w,f.words[i]=w:=⟨_,rfl⟩
  have e4:((f.words.take (i+1)).map (zbZ fr to))=((f.words.take i).map (zbZ fr to))++[zbZ fr to w]:=by rw[List.take_succ_eq_append_getElem h1,hwi,List.map_append];rfl
  have e5:((f.words.take i).map (zbZ fr to)).length=i:=by rw[List.length_map,List.length_take];omega
  obtain⟨ws,hws⟩:∃ws,(f.words.take i).map (zbZ fr to)=ws:=⟨_,rfl⟩
  rw[hws]at e4 e5
  obtain⟨v,hv⟩:∃v,zbZ fr to w=v:=⟨_,rfl⟩
  rw[hv]at e4
  repeat'(first|refine rq fun _=>?_|refine zaq.i (zal (by first|omega|(simp only[List.length_map,List.length_append,List.length_cons,List.length_nil];omega)) (by decide)) fun _=>?_|refine rq fun _=>?_|simp only[go_sem,h1,hwi,hws,zad,zaa,Tryz.f103])
  refine zam hm kT.out 103000 (lsw [45,91] [1000017,1000023]) (ι:=zcX fr.length fun p=>v=zbZ (fr.drop p) (to.drop p) w)
   ⟨fun q=>⟨frL [(1,.fz (.sl (fr.map enc))),(2,.fz (.sl (to.map enc))),(3,.rp [.i .i64 f.kind,.s f.name.l,.sl (f.words.map enc),.sl (f.subs.map enc)]),(6,.ptr (103006,1) 0),(7,.ptr (103007,2) 0),(9,.fz (.s w.l)),(19,.fz (.sl (f.words.map enc))),(20,.fz (.i .i64 f.words.length)),(21,.fz (.i .i64 i)),(26,.fz (.i .i64 fr.length)),(27,.fz (.i .i64 q.i))],
    hpL [((103006,1),some ⟨[.fz (.i .i64 0),.fz (.s []),.full [],.full []],true,false⟩),((103007,2),some ⟨[.fz (.i .i64 f.kind),.fz (.s f.name.l),.ow (103045,g1) 1 (ws.map enc),.ow (103091,3) 4 ([])],true,false⟩),((103045,g1),some tok),((103091,3),some tok)],m1⟩,fun q=>fr.length-q.i⟩
   ⟨0,by omega,hv.symm⟩ (by kernel_rfl) ?_ ?_
  ·refine zah ?_ ?_ ?_<;>simp only[go_sem]
  rintro⟨p,hp,hl⟩
  try simp only at hp hl
  rcases Nat.lt_or_ge p fr.length with h2|h2
  ·have h3:p<to.length:=by omega
   by_cases he:fr[p]=w
   ·have hl2:=hl.trans (znE h2 h3 he)
    have he':fr[p].l=w.l:=by rw[he]
    repeat'(first|refine rq fun _=>?_|refine zaq.i (zal (by first|omega|(simp only[List.length_map,List.length_append,List.length_cons,List.length_nil];omega)) (by decide)) fun _=>?_|refine rq fun _=>?_|simp only[go_sem,h1,h2,h3,he',hwi,zaa,Tryz.f103])
    refine⟨⟨i+1,m1,m1+1,by omega,by omega,by omega,trivial⟩,by simp only;omega,?_⟩
    refine zah ?_ ?_ ?_<;>simp only[go_sem,e4,List.map_append,hl2]
   ·have hl2:=hl.trans (zkp h2 h3 he)
    have he':¬fr[p].l=w.l:=fun e=>he (by cases h7:fr[p];cases w;rw[h7]at e;simp only at e;rw[e])
    repeat'(first|refine rq fun _=>?_|refine zaq.i (zal (by first|omega|(simp only[List.length_map,List.length_append,List.length_cons,List.length_nil];omega)) (by decide)) fun _=>?_|refine rq fun _=>?_|simp only[go_sem,h1,h2,h3,he',hwi,zaa,Tryz.f103])
    refine⟨⟨p+1,by omega,hl2⟩,by simp only;omega,?_⟩
    refine zah ?_ ?_ ?_<;>simp only[go_sem]
  ·obtain rfl:p=fr.length:=by omega
   have hl2:=hl.trans (znD (Nat.le_refl _))
   repeat'(first|refine rq fun _=>?_|refine zaq.i (zal (by first|omega|(simp only[List.length_map,List.length_append,List.length_cons,List.length_nil];omega)) (by decide)) fun _=>?_|refine rq fun _=>?_|simp only[go_sem,h1,Nat.lt_irrefl,hwi,Tryz.f103])
   refine⟨⟨i+1,m1,m1+1,by omega,by omega,by omega,trivial⟩,by simp only;omega,?_⟩
   refine zah ?_ ?_ ?_<;>simp only[go_sem,e4,List.map_append,hl2]
 ·obtain rfl:i=f.words.length:=by omega
  by_cases hq:isQ f.kind
  case' pos=>
   have hn2:=kn.out
   rw[if_pos hq]at hn2
   unfold isQ at hq
   have hq8:((f.kind=8)=True∧(f.kind=8)=True)∨((f.kind=8)=False∧(f.kind=9)=True):=by
    rcases hq with h|h
    ·exact .inl ⟨eq_true h,eq_true h⟩
    ·exact .inr ⟨eq_false (by omega),eq_true h⟩
   rcases hq8 with⟨h8,h9⟩|⟨h8,h9⟩
   all_goals
    repeat'(first|refine rq fun _=>?_|refine zaq.i (zal (by first|omega|(simp only[List.length_map,List.length_append,List.length_cons,List.length_nil];omega)) (by decide)) fun _=>?_|refine rq fun _=>?_|simp only[go_sem,h8,h9,Nat.lt_irrefl,List.take_length,hwl2,zad,Tryz.f103])
    refine zam hm kT.out 103000 (lsw [45,91] [1000017,1000023]) (ι:=zcX fr.length fun p=>nm2=zbZ (fr.drop p) (to.drop p) f.name)
     ⟨fun q=>⟨frL [(1,.fz (.sl (fr.map enc))),(2,.fz (.sl (to.map enc))),(3,.rp [.i .i64 f.kind,.s f.name.l,.sl (f.words.map enc),.sl (f.subs.map enc)]),(6,.ptr (103006,1) 0),(7,.ptr (103007,2) 0),(57,.fz (.i .i64 fr.length)),(58,.fz (.i .i64 q.i))],
      hpL [((103006,1),some ⟨[.fz (.i .i64 0),.fz (.s []),.full [],.full []],true,false⟩),((103007,2),some ⟨[.fz (.i .i64 f.kind),.fz (.s f.name.l),.ow (103045,g1) 1 (wl.map enc),.ow (103091,3) 4 ([])],true,false⟩),((103091,3),some tok)],m1⟩,fun q=>fr.length-q.i⟩
     ⟨0,by omega,hn2.symm⟩ (by kernel_rfl) ?_ ?_
    ·refine zah ?_ ?_ ?_<;>simp only[go_sem]
    rintro⟨p,hp,hl⟩
    try simp only at hp hl
    rcases Nat.lt_or_ge p fr.length with h2|h2
    have h3:p<to.length:=by omega
    by_cases he:fr[p]=f.name
    case' pos=>
     have hl2:=hl.trans (znE h2 h3 he)
     have he':fr[p].l=f.name.l:=by rw[he]
     repeat'(first|refine rq fun _=>?_|refine zaq.i (zal (by first|omega|(simp only[List.length_map,List.length_append,List.length_cons,List.length_nil];omega)) (by decide)) fun _=>?_|refine rq fun _=>?_|simp only[go_sem,h2,h3,he',zaa,Tryz.f103])
     refine zbk hm kT.out 103000 (lsw [45,91] [1000017,1000023]) zlN (by kernel_rfl) (by kernel_rfl) ?_
     repeat'(first|refine And.intro ?_ ?_|exact True.intro|refine rq fun _=>?_|refine zaq.i (zal (by first|omega|(simp only[List.length_map,List.length_append,List.length_cons,List.length_nil];omega)) (by decide)) fun _=>?_|refine rq fun _=>?_|simp only[go_sem,zlN,h2,h3,he',zaa,Tryz.f103])
    case neg=>
     have hl2:=hl.trans (zkp h2 h3 he)
     have he':¬fr[p].l=f.name.l:=fun e=>he (by cases h7:fr[p];cases h8:f.name;rw[h7,h8]at e;simp only at e;rw[e])
     repeat'(first|refine rq fun _=>?_|refine zaq.i (zal (by first|omega|(simp only[List.length_map,List.length_append,List.length_cons,List.length_nil];omega)) (by decide)) fun _=>?_|refine rq fun _=>?_|simp only[go_sem,h2,h3,he',zaa,Tryz.f103])
     refine zbk hm kT.out 103000 (lsw [45,91] [1000017,1000023]) zlN (by kernel_rfl) (by kernel_rfl) ?_
     repeat'(first|refine And.intro ?_ ?_|exact True.intro|refine rq fun _=>?_|refine zaq.i (zal (by first|omega|(simp only[List.length_map,List.length_append,List.length_cons,List.length_nil];omega)) (by decide)) fun _=>?_|refine rq fun _=>?_|simp only[go_sem,zlN,h2,h3,he',zaa,Tryz.f103])
     refine⟨⟨p+1,by omega,hl2⟩,by simp only;omega,?_⟩
     refine zah ?_ ?_ ?_<;>simp only[go_sem]
    case' inr=>
     obtain rfl:p=fr.length:=by omega
     have hl2:=hl.trans (znD (Nat.le_refl _))
     repeat'(first|refine rq fun _=>?_|refine zaq.i (zal (by first|omega|(simp only[List.length_map,List.length_append,List.length_cons,List.length_nil];omega)) (by decide)) fun _=>?_|refine rq fun _=>?_|simp only[go_sem,Nat.lt_irrefl,Tryz.f103])
  case' neg=>
   have hl2:=kn.out.symm
   rw[if_neg hq]at hl2
   unfold isQ at hq
   have h8:(f.kind=8)=False:=eq_false fun h=>hq (.inl h)
   have h9:(f.kind=9)=False:=eq_false fun h=>hq (.inr h)
   repeat'(first|refine rq fun _=>?_|refine zaq.i (zal (by first|omega|(simp only[List.length_map,List.length_append,List.length_cons,List.length_nil];omega)) (by decide)) fun _=>?_|refine rq fun _=>?_|simp only[go_sem,h8,h9,Nat.lt_irrefl,List.take_length,hwl2,zad,Tryz.f103])
  all_goals
   refine zam hm kT.out 103000 (lsw [45,91] [1000017,1000023]) (ι:=zdR f.subs.length 5 fun _=>True)
    ⟨fun q=>⟨frL [(1,.fz (.sl (fr.map enc))),(2,.fz (.sl (to.map enc))),(3,.rp [.i .i64 f.kind,.s f.name.l,.sl (f.words.map enc),.sl (f.subs.map enc)]),(6,.ptr (103006,1) 0),(7,.ptr (103007,2) 0),(76,.fz (.i .i64 f.subs.length)),(77,.fz (.i .i64 q.i))],
     hpL [((103006,1),some ⟨[.fz (.i .i64 0),.fz (.s []),.full [],.full []],true,false⟩),((103007,2),some ⟨[.fz (.i .i64 f.kind),.fz (.s nm2.l),.ow (103045,g1) 1 (wl.map enc),.ow (103091,q.g) 4 ((A q.i).map enc)],true,false⟩),((103091,q.g),some tok)],q.m⟩,fun q=>f.subs.length-q.i⟩
    ⟨0,3,m1+10,by omega,by omega,by omega,trivial⟩ (by kernel_rfl) ?_ ?_
   ·refine zah ?_ ?_ ?_<;>(try simp only[go_sem,hA0,hl2])
    all_goals first|done|omega
   rintro⟨j,g2,m2,hj,hg2,hm2,_⟩
   try simp only at hj hg2 hm2
   rcases Nat.lt_or_ge j f.subs.length with h2|h2
   ·have hms:=kA.out j h2
    have hml:=kL.out j
    have hsz:=kz.out _ (List.getElem_mem h2)
    obtain⟨x,hx⟩:∃x,f.subs[j]=x:=⟨_,rfl⟩
    rw[hx]at hms hsz
    repeat'(first|refine zaq.i hsz fun _=>?_|refine rq fun _=>?_|refine zaq.i (zal (by first|omega|(simp only[List.length_map,List.length_append,List.length_cons,List.length_nil];omega)) (by decide)) fun _=>?_|refine rq fun _=>?_|simp only[go_sem,h2,hx,zaa,Tryz.f103])
    refine zbk hm kT.out 103000 (lsw [45,91] [1000017,1000023]) zuz (by kernel_rfl) (by kernel_rfl) ?_
    repeat'(first|refine And.intro ?_ ?_|exact True.intro|refine zaq.i hsz fun _=>?_|refine rq fun _=>?_|refine zaq.i (zal (by first|omega|(simp only[List.length_map,List.length_append,List.length_cons,List.length_nil];omega)) (by decide)) fun _=>?_|refine rq fun _=>?_|simp only[go_sem,zuz,h2,hx,zaa,Tryz.f103])
    all_goals
     refine⟨⟨j+1,m2,m2+10,by omega,by omega,by omega,trivial⟩,by simp only;omega,?_⟩
     refine zah ?_ ?_ ?_<;>(try simp only[go_sem,hms,List.map_append])
     all_goals first|done|omega
   ·obtain rfl:j=f.subs.length:=by omega
    repeat'(first|refine rq fun _=>?_|refine zaq.i (zal (by first|omega|(simp only[List.length_map,List.length_append,List.length_cons,List.length_nil];omega)) (by decide)) fun _=>?_|refine rq fun _=>?_|simp only[go_sem,Nat.lt_irrefl,Tryz.f103])
end Go.Proofs.YtmconmiemdinkaaGreatDoor
namespace Go.Proofs.YtmconmiemdinkaaGreatDoor
open Go Go.Abs Go.Proofs
theorem zxZ:∀{fr to:List Str},fr.length=to.length→(List.zipWith Abs.zbg.mk fr to).map (·.fr)=fr∧(List.zipWith Abs.zbg.mk fr to).map (·.to)=to
 |[],[],_=>⟨rfl,rfl⟩
 |a::fr,b::to,h=>by
  have:=zxZ (fr:=fr) (to:=to) (by simpa using h)
  simp only[List.zipWith_cons_cons,List.map_cons,this.1,this.2,and_self]
theorem zrv (i:Nat):zdT (i+1)=zdT i++[zob i]:=by unfold zdT;rw[List.range_succ,List.map_append];rfl
theorem zru (us:List Str)(i:Nat):zed us (i+1)=zed us i++[zew (zbX us (ctr us 0 i))]:=by unfold zed;rw[List.range_succ,List.map_append];rfl
theorem ztX (i:Nat):(zdT i).length=i:=by unfold zdT;rw[List.length_map,List.length_range]
theorem ztT (us:List Str)(i:Nat):(zed us i).length=i:=by unfold zed;rw[List.length_map,List.length_range]
theorem zxr (us:List Str):∀i,ctr us 0 i≤i*(us.length+1)
 |0=>by simp[ctr]
 |i+1=>by
  rw[zhS,Nat.add_mul,Nat.one_mul]
  have h1:=zxr us i
  have h2:=(za9 us (ctr us 0 i)).2.1
  omega
structure zEN (len n0:Nat) where
 i:Nat
 g1:Nat
 g2:Nat
 m:Nat
 hi:i≤len
 h1:g1<m
 h2:g2<m
 hm:n0≤m
structure zJb (us:List Str)(k0:Nat) where
 k:Nat
 hk:k0≤k
 h:zbX us k=zbX us k0
def zxY (f:Abs.zac)(fr to:List Str):Prop:=f.fit=true∧f.size≤1000∧fr.length=to.length∧fr.length≤1000
def R10:Tbl:=R9.add 76 (sp3 (fun f fr to=>zxX f (List.zipWith Abs.zbg.mk fr to)) zxY)
attribute [go_sem] R10
set_option maxHeartbeats 8000000 in
theorem zHb:zan Tryz.prog GA R10:=by
 refine zgx zIM hR9 fun f fr to hpre hw _ _=>?_
 obtain⟨hfit,hsz,hlen,hle⟩:=hpre
 obtain⟨z1,z2⟩:=zxZ hlen
 obtain⟨env,henv⟩:∃env,List.zipWith Abs.zbg.mk fr to=env:=⟨_,rfl⟩
 rw[henv]at z1 z2 ⊢
 have hel:env.length≤1000:=by rw[←z1,List.length_map]at hle;exact hle
 have h183:=f101 (ga:=2) f.size f env 0 3 (hpL [((76006,1),some ⟨[.fz (.i .i64 0),.fz (.s []),.full [],.full []],true,false⟩)]) (Nat.le_refl _) hw hfit (by omega) (by omega) (by omega) (fun id o ho=>by
  simp only[hpL]at ho
  split at ho
  ·rename_i e;subst e;simp only;omega
  ·cases ho)
 rw[z1,z2]at h183
 obtain⟨g,hg⟩:∃g,(ren bg f env 0).1=g:=⟨_,rfl⟩
 obtain⟨c2,hc2⟩:∃c2,(ren bg f env 0).2=c2:=⟨_,rfl⟩
 have hc2l:c2≤1000:=by have:=((zht zvr).1 f env 0).2;omega
 have hgs:g.size≤1000:=by rw[←hg,zlu];exact hsz
 have hgf:g.fit=true:=by rw[←hg,zoT];exact hfit
 obtain⟨us,hus⟩:∃us,zgL g [] []=us:=⟨_,rfl⟩
 have hul:us.length≤1000000:=by
  have:=zpt g [] [] hgf
  rw[hus]at this;simp only[List.length_nil]at this;omega
 have hres:zxX f env=swp (zdT c2) (zed us c2) g:=by
  unfold zxX zo4 zoL;rw[hg,hc2,hus]
 obtain⟨r,hr⟩:∃r,swp (zdT c2) (zed us c2) g=r:=⟨_,rfl⟩
 rw[hres,hr]
 rw[hg,hc2]at h183
 rw[zaz (f:=f)]at h183
 clear hres z1 z2 henv hlen hg hc2 hw
 refine zaj (N:=62) hm hR9 76000 (lsw [30,49,55] []) zIM Tryz.func76 rfl rfl (by simp) (by kernel_rfl) ?_
 repeat'(first|refine rq fun _=>?_|refine zaq.i (zal (by first|omega|(simp only[List.length_map,List.length_append,List.length_cons,List.length_nil];omega)) (by decide)) fun _=>?_|refine rq fun _=>?_|refine zaq.i ⟨by omega,by omega⟩ fun _=>?_|simp only[go_sem,Tryz.f76])
 refine zaQ.i (zdF rfl (zcY (by simp only[go_sem,zgJ]) (by simp only[go_sem,HM];try rfl) (fun id o ho=>?_) (Nat.le_refl _) (zaL h183 ?_)))
 ·simp only[hpL]at ho
  split at ho
  ·rename_i e;subst e;simp only[go_sem];exact Option.some.inj ho
  ·cases ho
 rintro d' H' n1 ⟨rfl,e1,e2,e3⟩
 have b6:=e3 (76006,1) ⟨[.fz (.i .i64 0),.fz (.s []),.full [],.full []],true,false⟩ (by simp only[go_sem])
 simp only[go_sem,HM]at e2
 have b7:=e2
 clear e3 e2
 rw[show H'=hpX [] H' from rfl,zaz (f:=g)]
 repeat'(first|refine zaq.i ⟨hgf,hgs⟩ fun _=>?_|refine rq fun _=>?_|refine zaq.i (zal (by first|omega|(simp only[List.length_map,List.length_append,List.length_cons,List.length_nil];omega)) (by decide)) fun _=>?_|refine rq fun _=>?_|refine zaq.i ⟨by omega,by omega⟩ fun _=>?_|simp only[go_sem,b6,b7,hgf,hgs,hus,zab,Tryz.f76])
 refine zb0 (zah (l:=[(6,.ptr (76006,1) 0),(7,.ptr (76007,2) 0),(8,.ptr (76008,n1) 0),(9,.full []),(21,.fz (.sl (us.map enc))),(22,.fz (.i .i64 us.length)),(23,.fz (.i .i64 0))]) (hl:=[((76006,1),some ⟨[.fz (.i .i64 0),.fz (.s []),.full [],.full []],true,false⟩),((76007,2),some ⟨[.fz (.i .i64 (c2:Nat))],true,false⟩),((76008,n1),some ⟨[.fz (.i .i64 g.kind),.fz (.s g.name.l),.fz (.sl (g.words.map enc)),.fz (.sl (g.subs.map enc))],true,false⟩)]) (n:=n1+1) ?_ ?_ ?_) ?_
 ·simp only[go_sem]
 ·simp only[go_sem,b6,b7]
 ·simp only[go_sem]
 clear b6 b7
 refine zam hm hR9 76000 (lsw [30,49,55] []) (ι:=zdR us.length (n1+2) fun _=>True)
  ⟨fun q=>⟨frL [(6,.ptr (76006,1) 0),(7,.ptr (76007,2) 0),(8,.ptr (76008,n1) 0),(9,.ow (76030,q.g) 1 ((us.take q.i).map enc)),(21,.fz (.sl (us.map enc))),(22,.fz (.i .i64 us.length)),(23,.fz (.i .i64 q.i))],
   hpL [((76006,1),some ⟨[.fz (.i .i64 0),.fz (.s []),.full [],.full []],true,false⟩),((76007,2),some ⟨[.fz (.i .i64 (c2:Nat))],true,false⟩),((76008,n1),some ⟨[.fz (.i .i64 g.kind),.fz (.s g.name.l),.fz (.sl (g.words.map enc)),.fz (.sl (g.subs.map enc))],true,false⟩),((76030,q.g),some tok)],q.m⟩,fun q=>us.length-q.i⟩
  ⟨0,n1+1,n1+2,by omega,by omega,by omega,trivial⟩ (by kernel_rfl) ?_ ?_
 ·refine zb6 [] [(76030,n1+1)] [] ?_ ?_ ?_ ?_ ?_<;>simp only[go_sem]
  all_goals first|done|rfl|omega|(repeat'(first|omega|rfl|apply And.intro))
 rintro⟨i,gg,m,hi,hgg,hmm,_⟩
 try simp only at hi hgg hmm
 rcases Nat.lt_or_ge i us.length with h1|h1
 ·obtain⟨w,hwi⟩:∃w,us[i]=w:=⟨_,rfl⟩
  have e3:=List.take_succ_eq_append_getElem h1
  rw[hwi]at e3
  have e5:(us.take i).length=i:=by rw[List.length_take];omega
  obtain⟨ut,hut⟩:∃ut,us.take i=ut:=⟨_,rfl⟩
  rw[hut]at e3 e5
  repeat'(first|refine rq fun _=>?_|refine zaq.i (zal (by first|omega|(simp only[List.length_map,List.length_append,List.length_cons,List.length_nil];omega)) (by decide)) fun _=>?_|refine rq fun _=>?_|refine zaq.i ⟨by omega,by omega⟩ fun _=>?_|simp only[go_sem,h1,hwi,hut,zad,zaa,Tryz.f76])
  refine⟨⟨i+1,m,m+1,by omega,by omega,by omega,trivial⟩,by simp only;omega,?_⟩
  refine zah ?_ ?_ ?_<;>simp only[go_sem,e3,List.map_append]
 obtain rfl:i=us.length:=by omega
 repeat'(first|refine rq fun _=>?_|refine zaq.i (zal (by first|omega|(simp only[List.length_map,List.length_append,List.length_cons,List.length_nil];omega)) (by decide)) fun _=>?_|refine rq fun _=>?_|refine zaq.i ⟨by omega,by omega⟩ fun _=>?_|simp only[go_sem,Nat.lt_irrefl,List.take_length,Tryz.f76])
 refine zam hm hR9 76000 (lsw [30,49,55] []) (ι:=zEN c2 (m+2))
  ⟨fun q=>⟨frL [(6,.ptr (76006,1) 0),(7,.ptr (76007,2) 0),(8,.ptr (76008,n1) 0),(9,.fz (.sl (us.map enc))),(12,.ow (76049,q.g1) 1 ((zdT q.i).map enc)),(13,.ow (76055,q.g2) 1 ((zed us q.i).map enc)),(14,.fz (.i .i64 (ctr us 0 q.i:Nat))),(15,.fz (.i .i64 q.i))],
   hpL [((76006,1),some ⟨[.fz (.i .i64 0),.fz (.s []),.full [],.full []],true,false⟩),((76007,2),some ⟨[.fz (.i .i64 (c2:Nat))],true,false⟩),((76008,n1),some ⟨[.fz (.i .i64 g.kind),.fz (.s g.name.l),.fz (.sl (g.words.map enc)),.fz (.sl (g.subs.map enc))],true,false⟩),((76049,q.g1),some tok),((76055,q.g2),some tok)],q.m⟩,fun q=>c2-q.i⟩
  ⟨0,m,m+1,m+2,by omega,by omega,by omega,by omega⟩ (by kernel_rfl) ?_ ?_
 ·refine zb6 [] [(76049,m),(76055,m+1)] [] ?_ ?_ ?_ ?_ ?_<;>simp only[go_sem]
  all_goals first|done|rfl|omega|(repeat'(first|omega|rfl|apply And.intro))
 rintro⟨i,ga,gb,m2,hi2,hga,hgb,hm2⟩
 try simp only at hi2 hga hgb hm2
 have hol:=ztX i
 have hnl:=ztT us i
 have hcl:=zxr us i
 rcases Nat.lt_or_ge i c2 with h2|h2
 ·have hos:=zrv i
  have hns:=zru us i
  have hcs:=zhS us i 0
  obtain⟨ol,hole⟩:∃ol,zdT i=ol:=⟨_,rfl⟩
  obtain⟨nl,hnle⟩:∃nl,zed us i=nl:=⟨_,rfl⟩
  obtain⟨k0,hk0⟩:∃k0,ctr us 0 i=k0:=⟨_,rfl⟩
  rw[hole]at hol hos
  rw[hnle]at hnl hns
  rw[hk0]at hcl hns hcs
  have hkb:i*(us.length+1)≤1000*1000001:=Nat.mul_le_mul (by omega) (by omega)
  have hnx:=za9 us k0
  repeat'(first|refine rq fun _=>?_|refine zaq.i (zal (by first|omega|(simp only[List.length_map,List.length_append,List.length_cons,List.length_nil];omega)) (by decide)) fun _=>?_|refine rq fun _=>?_|refine zaq.i ⟨by omega,by omega⟩ fun _=>?_|simp only[go_sem,h2,hole,hnle,hk0,Tryz.f76])
  refine zam hm hR9 76000 (lsw [30,49,55] []) (ι:=zJb us k0)
   ⟨fun q=>⟨frL [(6,.ptr (76006,1) 0),(7,.ptr (76007,2) 0),(8,.ptr (76008,n1) 0),(9,.fz (.sl (us.map enc))),(12,.ow (76049,ga) 1 (ol.map enc)),(13,.ow (76055,gb) 1 (nl.map enc)),(14,.fz (.i .i64 q.k)),(15,.fz (.i .i64 i))],
    hpL [((76006,1),some ⟨[.fz (.i .i64 0),.fz (.s []),.full [],.full []],true,false⟩),((76007,2),some ⟨[.fz (.i .i64 (c2:Nat))],true,false⟩),((76008,n1),some ⟨[.fz (.i .i64 g.kind),.fz (.s g.name.l),.fz (.sl (g.words.map enc)),.fz (.sl (g.subs.map enc))],true,false⟩),((76049,ga),some tok),((76055,gb),some tok)],m2⟩,fun q=>zbX us k0-q.k⟩
   ⟨k0,Nat.le_refl _,rfl⟩ (by kernel_rfl) ?_ ?_
  ·refine zah ?_ ?_ ?_<;>simp only[go_sem]
  rintro⟨k,hk,hke⟩
  try simp only at hk hke
  have hkn:=za9 us k
  have hdl:=zfk k
  have hdi:=zfk i
  rw[hke]at hkn
  by_cases hin:zew k∈us
  ·have h3:=zpW hin
   have h4:=(za9 us (k+1)).1
   rw[←h3,hke]at h4
   have hin':Str.mk (118::zbb k)∈us:=hin
   repeat'(first|refine rq fun _=>?_|refine zaq.i (zal (by first|omega|(simp only[List.length_map,List.length_append,List.length_cons,List.length_nil];omega)) (by decide)) fun _=>?_|refine rq fun _=>?_|refine zaq.i ⟨by omega,by omega⟩ fun _=>?_|simp only[go_sem,hin',zpy,Tryz.f76])
   refine⟨⟨k+1,by omega,by rw[←h3];exact hke⟩,by simp only;omega,?_⟩
   refine zah ?_ ?_ ?_<;>simp only[go_sem]
  ·have h3:=zm9 hin
   rw[hke]at h3
   have hin':Str.mk (118::zbb k)∉us:=hin
   repeat'(first|refine rq fun _=>?_|refine zaq.i (zal (by first|omega|(simp only[List.length_map,List.length_append,List.length_cons,List.length_nil];omega)) (by decide)) fun _=>?_|refine rq fun _=>?_|refine zaq.i ⟨by omega,by omega⟩ fun _=>?_|simp only[go_sem,hin',zpy,Tryz.f76])
   refine⟨⟨i+1,m2,m2+1,m2+10,by omega,by omega,by omega,by omega⟩,by simp only;omega,?_⟩
   refine zah ?_ ?_ ?_<;>(try simp only[go_sem,hos,hns,hcs,h3,zob,zew,List.map_append])
   all_goals first|done|omega|rfl
 ·obtain rfl:i=c2:=by omega
  have hsp:zuw g (zdT i) (zed us i):=⟨hgf,by rw[hol,hnl]⟩
  repeat'(first|refine zaq.i hsp fun _=>?_|refine rq fun _=>?_|refine zaq.i (zal (by first|omega|(simp only[List.length_map,List.length_append,List.length_cons,List.length_nil];omega)) (by decide)) fun _=>?_|refine rq fun _=>?_|refine zaq.i ⟨by omega,by omega⟩ fun _=>?_|simp only[go_sem,Nat.lt_irrefl,hr,hsp,zab,Tryz.f76])
def R11:Tbl:=R10.add 47 (sp1 (fun f=>zxX f []) fun f=>f.fit=true∧f.size≤1000)
attribute [go_sem] R11
theorem zJL:zan Tryz.prog GA R11:=by
 refine zbR zIt zHb fun f hpre _=>?_
 have hp:zxY f [] []:=⟨hpre.1,hpre.2,rfl,by simp⟩
 have hz:List.zipWith Abs.zbg.mk [] []=[]:=rfl
 obtain⟨r,hr⟩:∃r,zxX f []=r:=⟨_,rfl⟩
 rw[hr]
 refine zaj (N:=5) hm zHb 47000 (lst []) zIt Tryz.func47 rfl rfl (by simp) (by kernel_rfl) ?_
 repeat'(first|refine rq fun _=>?_|refine zaq.i hp fun _=>?_|simp only[go_sem,hz,hr,zab,Tryz.f47])
end Go.Proofs.YtmconmiemdinkaaGreatDoor
namespace Go.Abs
open Go
section
variable {P:Program} {G:Nat→List FD} {T:Tbl}
theorem zwN {α ρ σ:Type}[Enc α][Enc ρ][Enc σ]{f:FuncId}{g:α→ρ×σ}{pre:α→Prop}(m:α→Nat)(hc:zap P f)(hT:zan P G T)
  (h:∀n,zan P G (T.add f (zum g fun a=>m a<n∧pre a))→∀a,m a=n→pre a→(enc a).Wf→zaH P G f [.fz (enc a)] (hpL []) 0 (fun d _ _=>D.val d=some (.tup [.fz (enc (g a).1),.fz (enc (g a).2)]))):zan P G (T.add f (zum g pre)):=by
 have key:∀n,zan P G (T.add f (zum g fun a=>m a<n∧pre a)):=by
  intro n
  induction n with
  |zero=>exact zg5 hc hT fun a ha=>by omega
  |succ n ih=>
   refine zg5 hc hT fun a ha hw=>?_
   rcases Nat.lt_or_ge (m a) n with h1|h1
   ·have h2:=ih f (zum g fun a=>m a<n∧pre a) [enc a] _ _ (by simp[Tbl.add]) (zCi) ⟨by rw[dec_enc],by rw[dec_enc];exact⟨h1,ha.2⟩⟩
    rw[dec_enc,zfD]at h2
    exact h2
   ·exact h n ih a (by omega) ha.2 hw
 refine zg5 hc hT fun a ha hw=>h (m a) (key _) a rfl ha hw
end
theorem zlE {f:Abs.zac}:f.size=zac.sizes f.subs+1:=by cases f;rw[zac.size];rfl
theorem zpx {f:Abs.zac}:f.depth=zac.depths f.subs+1:=by cases f;rw[zac.depth];rfl
theorem ze8 {fs:List Abs.zac}{j:Nat}(h:j<fs.length):zac.sizes (fs.take (j+1))=zac.sizes (fs.take j)+fs[j].size:=by
 rw[List.take_succ_eq_append_getElem h,zac.sizes_app,zac.sizes,zac.sizes];omega
theorem zey {fs:List Abs.zac}{j:Nat}(h:j<fs.length):zac.depths (fs.take (j+1))=max (zac.depths (fs.take j)) fs[j].depth:=by
 rw[List.take_succ_eq_append_getElem h,zac.depths_app,zac.depths,zac.depths];omega
theorem zfw {fs:List Abs.zac}(j:Nat):zac.depths (fs.take j)≤zac.depths fs:=by
 have:=congrArg zac.depths (List.take_append_drop j fs)
 rw[zac.depths_app]at this;omega
end Go.Abs
namespace Go.Proofs.YtmconmiemdinkaaGreatDoor
open Go Go.Abs Go.Proofs
def znI (f:Abs.zac):Prop:=f.fit=true∧f.size≤1000000
def R12:Tbl:=R11.add 36 (sp1 (fun f:Abs.zac=>(f.size:Int)) znI)
attribute [go_sem] R12
theorem zJM:zan Tryz.prog GA R12:=by
 refine zi3 zac.size zIm zJL fun n hT f hn hpre _=>?_
 obtain⟨hfit,hsz⟩:=hpre
 obtain⟨_,hsl,hfs⟩:=zac.fit_eq hfit
 have hse:=@zlE f
 have hr:∀g∈f.subs,g.size<n∧znI g:=fun g hg=>⟨by have:=zac.size_sub hg;omega,zac.fits_mem hfs hg,by have:=zac.size_sub hg;omega⟩
 have kT:=Kp.mk hT
 have kr:=Kp.mk hr
 obtain⟨S,hS⟩:∃S:Nat→Nat,S=fun j=>zac.sizes (f.subs.take j)+1:=⟨_,rfl⟩
 have hS0:S 0=1:=by rw[hS];simp[zac.sizes]
 have hSs:∀j (h:j<f.subs.length),S (j+1)=S j+f.subs[j].size:=fun j h=>by rw[hS];simp only[ze8 h];omega
 have hSl:∀j (h:j<f.subs.length),S j+f.subs[j].size≤1000001:=fun j h=>by have:=zcR h;rw[hS];simp only;omega
 have hSe:f.size=S f.subs.length:=by rw[hS,hse];simp only[List.take_length]
 have kS:=Kp.mk hSs
 have kL:=Kp.mk hSl
 rw[hSe]
 clear hT hr hS hSs hSl hSe hfit hfs hn
 refine zaj (N:=21) hm kT.out 36000 (lst []) zIm Tryz.func36 rfl rfl (by simp) (by kernel_rfl) ?_
 repeat'(first|refine rq fun _=>?_|simp only[go_sem,Tryz.f36])
 refine zb0 (zdG (id:=(36001,0)) (t:=1) (b:=true) (ys:=[.i .i64 f.kind,.s f.name.l,.sl (f.words.map enc),.sl (f.subs.map enc)]) (by simp only[go_sem]) (by simp only[go_sem])) ?_
 refine zam hm kT.out 36000 (lst []) (ι:=zcX f.subs.length fun _=>True)
  ⟨fun q=>⟨frL [(1,.rp [.i .i64 f.kind,.s f.name.l,.sl (f.words.map enc),.sl (f.subs.map enc)]),(3,.fz (.i .i64 (S q.i:Nat))),(7,.fz (.i .i64 f.subs.length)),(8,.fz (.i .i64 q.i))],hpL [],1⟩,fun q=>f.subs.length-q.i⟩
  ⟨0,by omega,trivial⟩ (by kernel_rfl) ?_ ?_
 ·refine zah ?_ ?_ ?_<;>simp only[go_sem,hS0]
  all_goals first|done|rfl
 rintro⟨j,hj,_⟩
 try simp only at hj
 rcases Nat.lt_or_ge j f.subs.length with h2|h2
 ·have hss:=kS.out j h2
  have hsl2:=kL.out j h2
  have hr:=kr.out _ (List.getElem_mem h2)
  obtain⟨x,hx⟩:∃x,f.subs[j]=x:=⟨_,rfl⟩
  rw[hx]at hss hsl2 hr
  repeat'(first|refine rq fun _=>?_|refine zaq.i hr fun _=>?_|simp only[go_sem,h2,hx,zaa,Tryz.f36])
  refine⟨⟨j+1,by omega,trivial⟩,by simp only;omega,?_⟩
  refine zah ?_ ?_ ?_<;>simp only[go_sem,hss,Int.natCast_add]
  all_goals first|done|rfl
 ·obtain rfl:j=f.subs.length:=by omega
  repeat'(first|refine rq fun _=>?_|simp only[go_sem,Nat.lt_irrefl,Tryz.f36])
def R13:Tbl:=R12.add 37 (sp1 (fun f:Abs.zac=>(f.depth:Int)) znI)
attribute [go_sem] R13
theorem zJN:zan Tryz.prog GA R13:=by
 refine zi3 zac.size zIn zJM fun n hT f hn hpre _=>?_
 obtain⟨hfit,hsz⟩:=hpre
 obtain⟨_,hsl,hfs⟩:=zac.fit_eq hfit
 have hde:=f.depth_size
 have hse:=@zpx f
 have hr:∀g∈f.subs,g.size<n∧znI g:=fun g hg=>⟨by have:=zac.size_sub hg;omega,zac.fits_mem hfs hg,by have:=zac.size_sub hg;omega⟩
 have kT:=Kp.mk hT
 have kr:=Kp.mk hr
 obtain⟨S,hS⟩:∃S:Nat→Nat,S=fun j=>zac.depths (f.subs.take j):=⟨_,rfl⟩
 have hS0:S 0=0:=by rw[hS];simp[zac.depths]
 have hSs:∀j (h:j<f.subs.length),S (j+1)=max (S j) f.subs[j].depth:=fun j h=>by rw[hS];simp only[zey h]
 have hSl:∀j,S j≤1000000:=fun j=>by have:=zfw (fs:=f.subs) j;rw[hS];simp only;omega
 have hSe:f.depth=S f.subs.length+1:=by rw[hS,hse];simp only[List.take_length]
 have kS:=Kp.mk hSs
 have hSn:=hSl f.subs.length
 rw[hSe]
 clear hT hr hS hSs hSl hSe hfit hfs hn
 refine zaj (N:=25) hm kT.out 37000 (lst []) zIn Tryz.func37 rfl rfl (by simp) (by kernel_rfl) ?_
 repeat'(first|refine rq fun _=>?_|simp only[go_sem,Tryz.f37])
 refine zb0 (zdG (id:=(37001,0)) (t:=1) (b:=true) (ys:=[.i .i64 f.kind,.s f.name.l,.sl (f.words.map enc),.sl (f.subs.map enc)]) (by simp only[go_sem]) (by simp only[go_sem])) ?_
 refine zam hm kT.out 37000 (lst []) (ι:=zcX f.subs.length fun _=>True)
  ⟨fun q=>⟨frL [(1,.rp [.i .i64 f.kind,.s f.name.l,.sl (f.words.map enc),.sl (f.subs.map enc)]),(3,.fz (.i .i64 (S q.i:Nat))),(8,.fz (.i .i64 f.subs.length)),(9,.fz (.i .i64 q.i))],hpL [],1⟩,fun q=>f.subs.length-q.i⟩
  ⟨0,by omega,trivial⟩ (by kernel_rfl) ?_ ?_
 ·refine zah ?_ ?_ ?_<;>simp only[go_sem,hS0]
  all_goals first|done|rfl
 rintro⟨j,hj,_⟩
 try simp only at hj
 rcases Nat.lt_or_ge j f.subs.length with h2|h2
 ·have hss:=kS.out j h2
  have hr:=kr.out _ (List.getElem_mem h2)
  obtain⟨x,hx⟩:∃x,f.subs[j]=x:=⟨_,rfl⟩
  rw[hx]at hss hr
  rcases Nat.lt_or_ge (S j) x.depth with h3|h3
  ·have h3':(S j:Int)<(x.depth:Int):=by omega
   have h4:S (j+1)=x.depth:=by omega
   repeat'(first|refine rq fun _=>?_|refine zaq.i hr fun _=>?_|simp only[go_sem,h2,hx,h3,h3',zaa,Tryz.f37])
   refine⟨⟨j+1,by omega,trivial⟩,by simp only;omega,?_⟩
   refine zah ?_ ?_ ?_<;>simp only[go_sem,h4]
  ·have h3':¬(S j:Int)<(x.depth:Int):=by omega
   have h3'':¬S j<x.depth:=by omega
   have h4:S (j+1)=S j:=by omega
   repeat'(first|refine rq fun _=>?_|refine zaq.i hr fun _=>?_|simp only[go_sem,h2,hx,h3',h3'',zaa,Tryz.f37])
   refine⟨⟨j+1,by omega,trivial⟩,by simp only;omega,?_⟩
   refine zah ?_ ?_ ?_<;>simp only[go_sem,h4]
 ·obtain rfl:j=f.subs.length:=by omega
  repeat'(first|refine rq fun _=>?_|simp only[go_sem,Nat.lt_irrefl,Tryz.f37])
  all_goals first|done|rfl
def R14:Tbl:=R13
attribute [go_sem] R14
theorem zJO:zan Tryz.prog GA R14:=zJN
def R15:Tbl:=R14.add 43 (zum (fun f:Abs.zac=>((f.size:Int),(f.depth:Int))) znI)
attribute [go_sem] R15
theorem zJP:zan Tryz.prog GA R15:=by
 refine zwN zac.size zIs zJO fun n hT f hn hpre _=>?_
 obtain⟨hfit,hsz⟩:=hpre
 obtain⟨_,hsl,hfs⟩:=zac.fit_eq hfit
 have hse:=@zlE f
 have hdd:=f.depth_size
 have hde:=@zpx f
 have hr:∀g∈f.subs,g.size<n∧znI g:=fun g hg=>⟨by have:=zac.size_sub hg;omega,zac.fits_mem hfs hg,by have:=zac.size_sub hg;omega⟩
 have kT:=Kp.mk hT
 have kr:=Kp.mk hr
 obtain⟨S,hS⟩:∃S:Nat→Nat,S=fun j=>zac.sizes (f.subs.take j)+1:=⟨_,rfl⟩
 have hS0:S 0=1:=by rw[hS];simp[zac.sizes]
 have hSs:∀j (h:j<f.subs.length),S (j+1)=S j+f.subs[j].size:=fun j h=>by rw[hS];simp only[ze8 h];omega
 have hSl:∀j (h:j<f.subs.length),S j+f.subs[j].size≤1000001:=fun j h=>by have:=zcR h;rw[hS];simp only;omega
 have hSe:f.size=S f.subs.length:=by rw[hS,hse];simp only[List.take_length]
 obtain⟨E,hE⟩:∃E:Nat→Nat,E=fun j=>zac.depths (f.subs.take j):=⟨_,rfl⟩
 have hE0:E 0=0:=by rw[hE];simp[zac.depths]
 have hEs:∀j (h:j<f.subs.length),E (j+1)=max (E j) f.subs[j].depth:=fun j h=>by rw[hE];simp only[zey h]
 have hEl:∀j,E j≤1000000:=fun j=>by have:=zfw (fs:=f.subs) j;rw[hE];simp only;omega
 have hEe:f.depth=E f.subs.length+1:=by rw[hE,hde];simp only[List.take_length]
 have hEn:=hEl f.subs.length
 have kS:=Kp.mk hSs
 have kL:=Kp.mk hSl
 have kE:=Kp.mk hEs
 rw[hSe,hEe]
 clear hT hr hS hSs hSl hSe hE hEs hEl hEe hfit hfs hn
 refine zaj (N:=32) hm kT.out 43000 (lst []) zIs Tryz.func43 rfl rfl (by simp) (by kernel_rfl) ?_
 repeat'(first|refine rq fun _=>?_|simp only[go_sem,Tryz.f43])
 refine zb0 (zdG (id:=(43001,0)) (t:=1) (b:=true) (ys:=[.i .i64 f.kind,.s f.name.l,.sl (f.words.map enc),.sl (f.subs.map enc)]) (by simp only[go_sem]) (by simp only[go_sem])) ?_
 refine zam hm kT.out 43000 (lst []) (ι:=zeC f.subs.length 1 fun _=>True)
  ⟨fun q=>⟨frL [(4,.fz (.i .i64 (S q.i:Nat))),(5,.fz (.i .i64 (E q.i:Nat))),(11,.fz (.sl (f.subs.map enc))),(12,.fz (.i .i64 f.subs.length)),(13,.fz (.i .i64 q.i))],hpL [],q.m⟩,fun q=>f.subs.length-q.i⟩
  ⟨0,1,by omega,by omega,trivial⟩ (by kernel_rfl) ?_ ?_
 ·refine zah ?_ ?_ ?_<;>simp only[go_sem,hS0,hE0]
  all_goals first|done|rfl
 rintro⟨j,m,hj,hm1,_⟩
 try simp only at hj hm1
 rcases Nat.lt_or_ge j f.subs.length with h2|h2
 ·have hss:=kS.out j h2
  have hes:=kE.out j h2
  have hsl2:=kL.out j h2
  have hr:=kr.out _ (List.getElem_mem h2)
  obtain⟨x,hx⟩:∃x,f.subs[j]=x:=⟨_,rfl⟩
  rw[hx]at hss hsl2 hr hes
  repeat'(first|refine rq fun _=>?_|refine zaq.i hr fun _=>?_|simp only[go_sem,h2,hx,zaa,Tryz.f43])
  refine⟨⟨j+1,m+1,by omega,by omega,trivial⟩,by simp only;omega,?_⟩
  refine zah ?_ ?_ ?_<;>simp only[go_sem,hss,hes,Int.natCast_add]
  all_goals first|done|rfl|omega
 ·obtain rfl:j=f.subs.length:=by omega
  repeat'(first|refine rq fun _=>?_|simp only[go_sem,Nat.lt_irrefl,Tryz.f43])
  all_goals first|done|rfl
def R16:Tbl:=R15
attribute [go_sem] R16
theorem zJQ:zan Tryz.prog GA R16:=zJP
end Go.Proofs.YtmconmiemdinkaaGreatDoor
namespace Go.Proofs.YtmconmiemdinkaaGreatDoor
open Go Go.Abs Go.Proofs
def R17:Tbl:=R16
attribute [go_sem] R17
theorem zJR:zan Tryz.prog GA R17:=zJQ
def R18:Tbl:=R17
attribute [go_sem] R18
theorem zJS:zan Tryz.prog GA R18:=zJR
def R19:Tbl:=R18
attribute [go_sem] R19
theorem zJT:zan Tryz.prog GA R19:=zJS
def R20:Tbl:=R19
attribute [go_sem] R20
theorem zJU:zan Tryz.prog GA R20:=zJT
def R21:Tbl:=R20
attribute [go_sem] R21
theorem zJV:zan Tryz.prog GA R21:=zJU
def R22:Tbl:=R21
attribute [go_sem] R22
theorem zJW:zan Tryz.prog GA R22:=zJV
end Go.Proofs.YtmconmiemdinkaaGreatDoor
namespace Go.Proofs.YtmconmiemdinkaaGreatDoor
open Go Go.Abs Go.Proofs
section
variable {P:Program} {G:Nat→List FD} {T:Tbl}
theorem zzA {α β ρ:Type}[Enc α][Enc β][Enc ρ]{f:FuncId}{g:α→β→ρ}(m:α→Nat)(hc:zap P f)(hT:zan P G T)
  (h:∀n,zan P G (T.add f (sp2 g fun a _=>m a<n))→∀a b,m a=n→(enc a).Wf→(enc b).Wf→zaH P G f [.fz (enc a),.fz (enc b)] (hpL []) 0 (fun d _ _=>D.val d=some (.fz (enc (g a b))))):zan P G (T.add f (sp2 g fun _ _=>True)):=by
 have key:∀n,zan P G (T.add f (sp2 g fun a _=>m a<n)):=by
  intro n
  induction n with
  |zero=>exact zbI hc hT fun a _ ha=>by omega
  |succ n ih=>
   refine zbI hc hT fun a b ha hw hw2=>?_
   rcases Nat.lt_or_ge (m a) n with h3|h3
   ·have h4:=ih f (sp2 g fun a _=>m a<n) [enc a,enc b] _ _ (by simp[Tbl.add]) (zwq) ⟨by rw[dec_enc],by rw[dec_enc],by rw[dec_enc];exact h3⟩
    rw[dec_enc,dec_enc,zfD]at h4
    exact h4
   ·exact h n ih a b (by omega) hw hw2
 exact zbI hc hT fun a b _ hw hw2=>h (m a) (key _) a b rfl hw hw2
end
theorem zv4 {a b:Abs.zac}(h1:a.kind=b.kind)(h2:a.name=b.name)(h3:a.words=b.words)(h4:a.subs=b.subs):a=b:=by
 cases a;cases b;simp only[zaG,zcs,zcK,zaU]at*;subst h1 h2 h3 h4;rfl
theorem zq2 {α:Type}{a b:List α}(h:a.length=b.length)(h2:a.take a.length=b.take a.length):a=b:=by
 rw[List.take_length]at h2
 rw[h,List.take_length]at h2
 exact h2
def R27:Tbl:=R22.add 9 (sp2 (fun a b:Abs.zac=>decide (a=b)) fun _ _=>True)
attribute [go_sem] R27
theorem zHc:zan Tryz.prog GA R27:=by
 refine zzA zac.size ok9 zJW fun n hT a b hn hwa hwb=>?_
 obtain⟨Q,hQ⟩:∃Q:D→zax→Nat→Prop,Q=(fun d _ _=>D.val d=some (.fz (enc (decide (a=b))))):=⟨_,rfl⟩
 rw[←hQ]
 have hf:a≠b→∀{H' n'},Q (.fz (.b false)) H' n':=fun h H' n'=>by rw[hQ];show _=some (D.fz (.b (decide (a=b))));rw[decide_eq_false h];rfl
 have ht:a=b→∀{H' n'},Q (.fz (.b true)) H' n':=fun h H' n'=>by rw[hQ];show _=some (D.fz (.b (decide (a=b))));rw[decide_eq_true h];rfl
 have hsl:a.subs.length≤za6:=by
  have h:=zbL (by have h:=hwa;rw[zaz]at h;exact h) (FD.sl (a.subs.map enc)) (by simp)
  have:=zcI h
  simpa using this
 unfold za6 at hsl
 have hsz:∀g∈a.subs,g.size<n:=fun g hg=>by have:=zac.size_sub hg;omega
 have kf:=Kp.mk @hf
 have kt:=Kp.mk @ht
 have kz:=Kp.mk hsz
 have kT:=Kp.mk hT
 clear hf ht hQ hwa hwb hsz hT
 refine zaj (N:=54) hm kT.out 9000 (lst []) ok9 Tryz.func9 rfl rfl (by simp) (by kernel_rfl) ?_
 repeat'(first|refine zaW.d (fun _=>?_) (fun _=>?_)|refine zaW.i (fun _=>?_) (fun _=>?_)|refine rq fun _=>?_|simp only[go_sem,Tryz.f9, *])
 all_goals try(refine kf.out (fun e=>?_);subst e;contradiction)
 rename_i e1 e2 e3 e4
 have hlen:a.subs.length=b.subs.length:=by omega
 refine zam hm kT.out 9000 (lst []) (ι:=zcX a.subs.length fun i=>a.subs.take i=b.subs.take i)
  ⟨fun q=>⟨frL [(2,.ptr (9002,0) 0),(3,.ptr (9003,1) 0),(37,.fz (.i .i64 a.subs.length)),(38,.fz (.i .i64 q.i))],
   hpL [((9002,0),some ⟨[.fz (.i .i64 a.kind),.fz (.s a.name.l),.fz (.sl (a.words.map enc)),.fz (.sl (a.subs.map enc))],true,false⟩),((9003,1),some ⟨[.fz (.i .i64 b.kind),.fz (.s b.name.l),.fz (.sl (b.words.map enc)),.fz (.sl (b.subs.map enc))],true,false⟩)],2⟩,fun q=>a.subs.length-q.i⟩
  ⟨0,by omega,rfl⟩ (by kernel_rfl) ?_ ?_
 ·refine zah ?_ ?_ ?_<;>simp only[go_sem, *]
 rintro⟨i,hi,hpi⟩
 rcases Nat.lt_or_ge i a.subs.length with h1|h1
 ·have h2:i<b.subs.length:=by omega
  obtain⟨x,hx⟩:∃x,a.subs[i]=x:=⟨_,rfl⟩
  obtain⟨y,hy⟩:∃y,b.subs[i]=y:=⟨_,rfl⟩
  have hxs:x.size<n:=kz.out x (by rw[←hx];exact List.getElem_mem h1)
  by_cases hxy:x=y
  ·repeat'(first|refine rq fun _=>?_|simp only[go_sem,h1,h2,hx,hy,hxs,eq_true hxy,zaa,Tryz.f9])
   refine⟨⟨i+1,by omega,?_⟩,by simp only;omega,?_⟩
   ·rw[List.take_succ_eq_append_getElem h1,List.take_succ_eq_append_getElem h2,hpi,hx,hy,hxy]
   ·refine zah ?_ ?_ ?_<;>simp only[go_sem]
  ·repeat'(first|refine rq fun _=>?_|simp only[go_sem,h1,h2,hx,hy,hxs,eq_false hxy,zaa,Tryz.f9])
   exact kf.out fun e=>hxy (by subst e;rw[←hx,←hy])
 ·have h1':¬i<a.subs.length:=by omega
  obtain rfl:i=a.subs.length:=by omega
  repeat'(first|refine rq fun _=>?_|simp only[go_sem,Nat.lt_irrefl,h1',Tryz.f9])
  exact kt.out (zv4 e1 e2 e3 (zq2 hlen hpi))
def zDb (k:Int)(f g:Abs.zac):Abs.zac:= .mk k ⟨[]⟩ [] [f,g]
def R28:Tbl:=R27.add 24 (sp3 zDb fun _ _ _=>True)
attribute [go_sem] R28
theorem zAk:zan Tryz.prog GA R28:=by
 refine zgx zIg zHc fun k f g _ _ _ _=>?_
 simp only[zDb]
 refine zaj (N:=12) hm zHc 24000 (lst []) zIg Tryz.func24 rfl rfl (by simp) (by kernel_rfl) ?_
 repeat'(first|refine rq fun _=>?_|simp only[go_sem,zab,Tryz.f24])
end Go.Proofs.YtmconmiemdinkaaGreatDoor

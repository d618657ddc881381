import Derived.Test.YtdlioodgfopmfaaGreatDoorAT
import Derived.Test.YtdlioodgfopmfaaGreatDoorY2
import Derived.Test.YtdlioodgfopmfaaGreatDoorAbs45
set_option linter.unusedSimpArgs false
namespace Go.Proofs.YtdlioodgfopmfaaGreatDoor
open Go Go.Abs Go.Proofs
theorem zu7 {G:Nat→List FD}{N:Nat}{l:List (Nat×D)}{hl:List (Abs.Id×Option O)}{X:zaw}{n:Nat}{id:Abs.Id}{t:Nat}{ys:List FD}{b:Bool}(ho:hpX hl X id=some ⟨ys.map .fz,b,false⟩)(hs:frL l t= .ptr id 0):
  zeG G N ⟨frL l,hpX hl X,n⟩ ⟨frL ((t,.rp ys)::l),hpX ((id,none)::hl) X,n⟩:=by
 have:=zaM (G:=G) (N:=N) (n:=n) ho hs
 rw[zzt]at this
 exact this
def HM (k ga:Nat):List (Abs.Id×Option O):=[((28007,ga),some ⟨[.fz (.i .i64 k)],true,false⟩)]
theorem zw3 (k:Nat):(znO k).l=33::zaP k:=rfl
theorem zo8 (k:Nat):(zCJ (k:Int)).l=zaP k:=rfl
def zxG:Tv:=(.q 0 (.q 1 (.q 3 (.q 7 (.q 8 (.q 10 (.r 4 (.q 5 (.br [(2,(.br [(6,(.br [(9,(.q 11 (.q 12 (.br [(13,(.q 14 (.q 15 .leaf)))])))),(11,(.q 12 (.br [(9,(.br [(13,(.q 14 (.q 15 .leaf)))]))])))])),(11,(.q 12 (.br [(6,(.br [(9,(.br [(13,(.q 14 (.q 15 .leaf)))]))]))])))])),(11,(.q 12 (.br [(2,(.br [(6,(.br [(9,(.br [(13,(.q 14 (.q 15 .leaf)))]))]))]))])))])))))))))
def zug:Tv:=(.q 0 (.q 2 (.q 3 (.q 4 (.q 5 (.q 6 (.q 7 (.q 8 (.q 9 (.br [(1,(.br [(10,(.q 11 (.br [(12,(.q 13 (.br [(14,.leaf)])))])))])),(10,(.q 1 (.q 11 (.br [(12,(.q 13 (.br [(14,.leaf)])))]))))]))))))))))
set_option maxRecDepth 100000 in
set_option maxHeartbeats 1000000 in
set_option maxHeartbeats 8000000 in
theorem f51 {ga:Nat}:∀(s:Nat) (f:Abs.zac) (env:List zaR) (k n:Nat) (X:zaw),f.size≤s→(enc f).Wf→f.fit=true→ga<n→k+f.size≤1000000→env.length+f.size≤1000000→
  (∀id o,X id=some o→id.2<n∧id.1≠28007)→
  zaA Tryz.prog GA 51 [.fz (enc f),.fz (enc (env.map (·.fr))),.fz (enc (env.map (·.to))),.ptr (28007,ga) 0] (hpX (HM k ga) X) n
   (fun d' H' n'=>d'= .fz (enc (ren bg f env k).1)∧n≤n'∧zgG H' (HM (ren bg f env k).2 ga)∧∀id o,X id=some o→H' id=some o):=by
 intro s
 induction s with
 |zero=>intro f env k n X hs;have:=f.size_pos;omega
 |succ s ih=>
  intro f env k n X hs hw hfit hga hk hel hX
  obtain⟨Q,hQ⟩:∃Q:D→zaw→Nat→Prop,Q=(fun d' H' n'=>d'= .fz (enc (ren bg f env k).1)∧n≤n'∧zgG H' (HM (ren bg f env k).2 ga)∧∀id o,X id=some o→H' id=some o):=⟨_,rfl⟩
  obtain⟨QQ,hQQ⟩:∃QQ:D→zaw→Nat→Prop,QQ=(fun d' H' n'=>D.val d'=some (.fz (enc (ren bg f env k).1))∧n≤n'∧zgG H' (HM (ren bg f env k).2 ga)∧∀id o,X id=some o→H' id=some o):=⟨_,rfl⟩
  have hfin:∀d H m,QQ d H m→∃d' H' n',zeG GA 1 ⟨frL [(0,d)],H,m⟩ ⟨frL [(0,d')],H',n'⟩∧Q d' H' n':=by
   rw[hQQ,hQ]
   rintro d H m ⟨h1,h2,h3,h4⟩
   exact⟨_,H,m,zoN h1,rfl,h2,h3,h4⟩
  rw[←hQ]
  refine zbb (Q:=QQ) ?_ hfin
  clear hfin hQ
  have hX':∀{l:List (Abs.Id×Option O)} (id o),X id=some o→(id.2<n∧id.1≠28007→zie id l)→hpX l X id=some o:=fun id o h1 h2=>(zcF (h2 (hX id o h1))).trans h1
  obtain⟨hwl,hsl,hfs⟩:=zac.fit_eq hfit
  have hsw:∀g∈f.subs,(enc g).Wf:=fun g hg=>zlG (zeT (by have h:=hw;rw[zaO]at h;exact h) (FD.sl (f.subs.map enc)) (by simp)) _ (List.mem_map_of_mem hg)
  have hss:∀g∈f.subs,g.size≤s∧g.fit=true:=fun g hg=>⟨by have:=zac.size_sub hg;omega,zac.fits_mem hfs hg⟩
  have hszs:f.size=zac.sizes f.subs+1:=by cases f;rw[zac.size];rfl
  have hreq:=@zxz bg f env k
  obtain⟨olds,holds⟩:∃olds,env.map (·.fr)=olds:=⟨_,rfl⟩
  obtain⟨news,hnews⟩:∃news,env.map (·.to)=news:=⟨_,rfl⟩
  have hol:olds.length=env.length:=by rw[←holds,List.length_map]
  have hnl:news.length=env.length:=by rw[←hnews,List.length_map]
  have hog:∀p (h:p<env.length) (h2:p<olds.length) (h3:p<news.length),olds[p]=env[p].fr∧news[p]=env[p].to:=fun p h h2 h3=>by subst holds hnews;simp
  rw[holds,hnews]
  have kX:=Kp.mk @hX'
  have kQ:=Kp.mk hQQ
  have kI:=Kp.mk ih
  have kS:=Kp.mk hsw
  have kZ:=Kp.mk hss
  have kx:=Kp.mk hX
  have kR:=Kp.mk hreq
  have kO:=Kp.mk holds
  have kN:=Kp.mk hnews
  have kG:=Kp.mk hog
  clear hX' hQQ ih hsw hss hX hfs hreq hw hfit holds hnews hog
  refine zah (N:=105) hm hR8 51000 (lsw [47,71,75,78,82,101] [1000015,1000019]) zIN Tryz.func51 rfl rfl (by simp) (by kernel_rfl) ?_
  repeat'(first|refine rq fun _=>?_|refine zaj.i (zat (by first|omega|(simp only[List.length_map,List.length_append,List.length_cons,List.length_nil];omega)) (by decide)) fun _=>?_|refine rq fun _=>?_|refine zaj.i ⟨by omega,by omega⟩ fun _=>?_|simp only[go_sem,HM,Tryz.f51])
  refine zao hm hR8 51000 (lsw [47,71,75,78,82,101] [1000015,1000019]) (ι:=zu1 f.words.length (n+5) n)
   ⟨fun q=>⟨frL [(1,.fz (.sl (olds.map enc))),(2,.fz (.sl (news.map enc))),(3,.ptr (28007,ga) 0),(4,.rp [.i .i64 f.kind,.s f.name.l,.sl (f.words.map enc),.sl (f.subs.map enc)]),(8,.ptr (51008,n+1) 0),(9,.ptr (51009,n+1+1) 0),
     (20,.fz (.sl (f.words.map enc))),(21,.fz (.i .i64 f.words.length)),(22,.fz (.i .i64 q.i))],
    hpX ([((51008,n+1),some ⟨[.fz (.i .i64 0),.fz (.s []),.full [],.full []],true,false⟩),
     ((51009,n+1+1),some ⟨[.fz (.i .i64 f.kind),.fz (.s f.name.l),.ow (51047,q.g) 1 (((f.words.take q.i).map (lkp env)).map enc),.ow (51101,n+1+1+1) 4 ([])],true,false⟩),
     ((51047,q.g),some tok),((51101,n+1+1+1),some tok)]++HM k ga) X,q.m⟩,fun q=>f.words.length-q.i⟩
   ⟨0,n+1+1+1+1,n+1+1+1+1+1,by omega,by omega,by omega,by omega⟩ (by kernel_rfl) ?_ ?_
  ·refine zbY (zu7 (id:=(51004,n)) (t:=4) (b:=true) (ys:=[.i .i64 f.kind,.s f.name.l,.sl (f.words.map enc),.sl (f.subs.map enc)]) (by simp only[go_sem];try rfl) (by simp only[go_sem])) ?_
   refine zbY (zfk 51101) (zbY (zfk 51047) (zbY (zfj (id:=(51009,n+1+1)) (id2:=(51047,n+1+1+1+1)) (es:=1) (k:=2) (xs:=[]) (b:=true) (by simp only[go_sem];rfl) (by simp) (by rfl) (by simp only;omega))
    (zbY (zfj (id:=(51009,n+1+1)) (id2:=(51101,n+1+1+1)) (es:=4) (k:=3) (xs:=[]) (b:=true) (by simp only[go_sem];rfl) (by simp) (by rfl) (by simp only;omega)) ?_)))
   refine zaT ?_ ?_ (fun id o ho=>?_) ?_
   ·simp only[go_sem]
   ·simp only[go_sem,HM]
   ·refine kX.out id o ho fun h1=>?_
    ((repeat'(first|exact trivial|apply And.intro))<;>(rintro rfl;simp only at h1;omega))
   ·simp only[go_sem]
  rintro⟨i,g1,m1,hi,hg1,hm1,hgl⟩
  try simp only at hi hg1 hm1 hgl
  rcases Nat.lt_or_ge i f.words.length with h1|h1
  ·obtain⟨w,hwi⟩:∃w,f.words[i]=w:=⟨_,rfl⟩
   have e3:=List.take_succ_eq_append_getElem h1
   rw[hwi]at e3
   have e4:((f.words.take (i+1)).map (lkp env))=((f.words.take i).map (lkp env))++[lkp env w]:=by rw[e3,List.map_append];rfl
   have e5:((f.words.take i).map (lkp env)).length=i:=by rw[List.length_map,List.length_take];omega
   obtain⟨ws,hws⟩:∃ws,(f.words.take i).map (lkp env)=ws:=⟨_,rfl⟩
   rw[hws]at e4 e5
   obtain⟨v,hv⟩:∃v,lkp env w=v:=⟨_,rfl⟩
   rw[hv]at e4
   have k4:=Kp.mk e4
   clear e4 e3
   repeat'(first|refine rq fun _=>?_|refine zaj.i (zat (by first|omega|(simp only[List.length_map,List.length_append,List.length_cons,List.length_nil];omega)) (by decide)) fun _=>?_|refine rq fun _=>?_|refine zaj.i ⟨by omega,by omega⟩ fun _=>?_|simp only[go_sem,HM,h1,hwi,hws,zad,zaa,Tryz.f51])
   refine zao hm hR8 51000 (lsw [47,71,75,78,82,101] [1000015,1000019]) (ι:=zAm env w)
    ⟨fun q=>⟨frL [(1,.fz (.sl (olds.map enc))),(2,.fz (.sl (news.map enc))),(3,.ptr (28007,ga) 0),(4,.rp [.i .i64 f.kind,.s f.name.l,.sl (f.words.map enc),.sl (f.subs.map enc)]),(8,.ptr (51008,n+1) 0),(9,.ptr (51009,n+1+1) 0),
      (11,.fz (.s w.l)),(12,.fz (.i .i64 (zvW q.p))),(20,.fz (.sl (f.words.map enc))),(21,.fz (.i .i64 f.words.length)),(22,.fz (.i .i64 i))],
     hpX ([((51008,n+1),some ⟨[.fz (.i .i64 0),.fz (.s []),.full [],.full []],true,false⟩),
      ((51009,n+1+1),some ⟨[.fz (.i .i64 f.kind),.fz (.s f.name.l),.ow (51047,g1) 1 (ws.map enc),.ow (51101,n+1+1+1) 4 ([])],true,false⟩),
      ((51047,g1),some tok),((51101,n+1+1+1),some tok)]++HM k ga) X,m1⟩,fun q=>q.p⟩
    ⟨env.length,Nat.le_refl _,rfl⟩ (by kernel_rfl) ?_ ?_
   ·refine zaT ?_ ?_ (fun id o ho=>?_) ?_
    ·simp only[go_sem,zvW,hol]
    ·simp only[go_sem,HM]
    ·refine kX.out id o ho fun h1=>?_
     ((repeat'(first|exact trivial|apply And.intro))<;>(rintro rfl;simp only at h1;omega))
    ·simp only[go_sem]
   rintro⟨p,hp,hl⟩
   try simp only at hp hl
   cases p with
   |zero=>
    have hvw:v=w:=by rw[←hv,hl,zhK]
    repeat'(first|refine rq fun _=>?_|refine zaj.i (zat (by first|omega|(simp only[List.length_map,List.length_append,List.length_cons,List.length_nil];omega)) (by decide)) fun _=>?_|refine rq fun _=>?_|refine zaj.i ⟨by omega,by omega⟩ fun _=>?_|simp only[go_sem,HM,h1,hwi,zmE,Tryz.f51])
    refine⟨⟨i+1,m1,m1+1,by omega,by omega,by omega,by omega⟩,by simp only;omega,?_⟩
    refine zaT ?_ ?_ (fun id o ho=>?_) ?_
    ·simp only[go_sem]
    ·simp only[go_sem,HM,k4.out,List.map_append,hvw]
    ·refine kX.out id o ho fun h1=>?_
     ((repeat'(first|exact trivial|apply And.intro))<;>(rintro rfl;simp only at h1;omega))
    ·simp only[go_sem]
   |succ p=>
    rw[zhK]at hl
    have hpg:env.getD p default=env[p]:=by rw[List.getD_eq_getElem?_getD,List.getElem?_eq_getElem (by omega),Option.getD_some]
    rw[hpg]at hl
    have hpo:p<olds.length:=by omega
    have hpn:p<news.length:=by omega
    obtain⟨hg1',hg2'⟩:=kG.out p (by omega) hpo hpn
    rw[←hg1',←hg2']at hl
    obtain⟨a,ha⟩:∃a,olds[p]=a:=⟨_,rfl⟩
    obtain⟨b,hb⟩:∃b,news[p]=b:=⟨_,rfl⟩
    rw[ha,hb]at hl
    clear hg1' hg2' hpg
    by_cases he:a=w
    ·rw[if_pos he,hv]at hl
     have he':a.l=w.l:=by rw[he]
     repeat'(first|refine rq fun _=>?_|refine zaj.i (zat (by first|omega|(simp only[List.length_map,List.length_append,List.length_cons,List.length_nil];omega)) (by decide)) fun _=>?_|refine rq fun _=>?_|refine zaj.i ⟨by omega,by omega⟩ fun _=>?_|simp only[go_sem,HM,h1,hpo,hpn,ha,hb,he',hwi,zgj,zaa,Tryz.f51])
     refine⟨⟨i+1,m1,m1+1,by omega,by omega,by omega,by omega⟩,by simp only;omega,?_⟩
     refine zaT ?_ ?_ (fun id o ho=>?_) ?_
     ·simp only[go_sem]
     ·simp only[go_sem,HM,k4.out,List.map_append,hl]
     ·refine kX.out id o ho fun h1=>?_
      ((repeat'(first|exact trivial|apply And.intro))<;>(rintro rfl;simp only at h1;omega))
     ·simp only[go_sem]
    ·rw[if_neg he]at hl
     have he':¬a.l=w.l:=fun e=>he (by cases a;cases w;simp only at e;rw[e])
     repeat'(first|refine rq fun _=>?_|refine zaj.i (zat (by first|omega|(simp only[List.length_map,List.length_append,List.length_cons,List.length_nil];omega)) (by decide)) fun _=>?_|refine rq fun _=>?_|refine zaj.i ⟨by omega,by omega⟩ fun _=>?_|simp only[go_sem,HM,h1,hpo,hpn,ha,hb,he',hwi,zgj,zaa,Tryz.f51])
     refine⟨⟨p,by omega,hl⟩,by simp only;omega,?_⟩
     refine zaT ?_ ?_ (fun id o ho=>?_) ?_
     ·simp only[go_sem,zvW]
     ·simp only[go_sem,HM]
     ·refine kX.out id o ho fun h1=>?_
      ((repeat'(first|exact trivial|apply And.intro))<;>(rintro rfl;simp only at h1;omega))
     ·simp only[go_sem]
  ·obtain rfl:i=f.words.length:=by omega
   obtain⟨wl,hwl2⟩:∃wl,f.words.map (lkp env)=wl:=⟨_,rfl⟩
   have hres:∃(env2:List zaR) (nm2:Str) (k2:Nat),ren bg f env k=(.mk f.kind nm2 wl (za5 bg f.subs env2 k2).1,(za5 bg f.subs env2 k2).2)∧k2≤k+1∧env2.length≤env.length+1∧
     (isQ f.kind→env2=env++[⟨f.name,znO k⟩]∧nm2=znO k∧k2=k+1)∧(¬isQ f.kind→env2=env∧nm2=f.name∧k2=k):=by
    rw[kR.out]
    by_cases hq:isQ f.kind
    ·exact⟨_,_,_,by rw[if_pos hq,hwl2];rfl,by omega,by simp,fun _=>⟨rfl,rfl,rfl⟩,fun h=>absurd hq h⟩
    ·exact⟨_,_,_,by rw[if_neg hq,hwl2],by omega,by simp,fun h=>absurd h hq,fun _=>⟨rfl,rfl,rfl⟩⟩
   obtain⟨env2,nm2,k2,hres,hk2,hel2,hq1,hq2⟩:=hres
   have kW:=Kp.mk hres
   have kq1:=Kp.mk hq1
   have kq2:=Kp.mk hq2
   clear hres hq1 hq2
   obtain⟨A,hA⟩:∃A:Nat→List Abs.zac,A=fun j=>(za5 bg (f.subs.take j) env2 k2).1:=⟨_,rfl⟩
   obtain⟨K,hK⟩:∃K:Nat→Nat,K=fun j=>(za5 bg (f.subs.take j) env2 k2).2:=⟨_,rfl⟩
   have hA0:A 0=[]:=by rw[hA];simp[za5]
   have hK0:K 0=k2:=by rw[hK];simp[za5]
   have hAs:∀j (h:j<f.subs.length),A (j+1)=A j++[(ren bg f.subs[j] env2 (K j)).1]∧K (j+1)=(ren bg f.subs[j] env2 (K j)).2:=fun j h=>by
    rw[hA,hK];simp only[List.take_succ_eq_append_getElem h,zlc,za5];constructor<;>first|rfl|trivial
   have hAl:∀j,(A j).length≤j:=fun j=>by rw[hA];simp only[zdk,List.length_take];omega
   have hKb:∀j (h:j<f.subs.length),K j+f.subs[j].size≤1000000:=fun j h=>by
    have h6:=((zgu zve).2 (f.subs.take j) env2 k2).2
    have h7:=zfy h
    rw[hK];simp only;omega
   have hAe:A f.subs.length=(za5 bg f.subs env2 k2).1∧K f.subs.length=(za5 bg f.subs env2 k2).2:=by rw[hA,hK];simp only[List.take_length];first|trivial|(constructor<;>first|rfl|trivial)
   obtain⟨olds2,ho2⟩:∃olds2,env2.map (·.fr)=olds2:=⟨_,rfl⟩
   obtain⟨news2,hn2⟩:∃news2,env2.map (·.to)=news2:=⟨_,rfl⟩
   have kA:=Kp.mk hAs
   have kB:=Kp.mk hAl
   have kC:=Kp.mk hKb
   have kE:=Kp.mk hAe
   have ko2:=Kp.mk ho2
   have kn2:=Kp.mk hn2
   clear hAs hAl hKb hAe hA hK ho2 hn2
   by_cases hq:isQ f.kind
   case' pos=>
    obtain⟨q1,q2,q3⟩:=kq1.out hq
    have hdl:=zcP k
    unfold isQ at hq
    have o2:olds2=olds++[f.name]:=by rw[←ko2.out,q1,List.map_append,kO.out];rfl
    have n2:news2=news++[znO k]:=by rw[←kn2.out,q1,List.map_append,kN.out];rfl
    have hq8:((f.kind=8)=True∧(f.kind=8)=True)∨((f.kind=8)=False∧(f.kind=9)=True):=by
     rcases hq with h|h
     ·exact .inl ⟨eq_true h,eq_true h⟩
     ·exact .inr ⟨eq_false (by omega),eq_true h⟩
    rcases hq8 with⟨h8,h9⟩|⟨h8,h9⟩
    all_goals
     repeat'(first|refine rq fun _=>?_|refine zaj.i (zat (by first|omega|(simp only[List.length_map,List.length_append,List.length_cons,List.length_nil];omega)) (by decide)) fun _=>?_|refine rq fun _=>?_|refine zaj.i ⟨by omega,by omega⟩ fun _=>?_|simp only[go_sem,HM,h8,h9,Nat.lt_irrefl,List.take_length,hwl2,zad,zo8,Tryz.f51])
     refine zxW (ι:=Unit) (fun _=>⟨frL [(1,.fz (.sl (olds2.map enc))),(2,.fz (.sl (news2.map enc))),(3,.ptr (28007,ga) 0),(4,.rp [.i .i64 f.kind,.s f.name.l,.sl (f.words.map enc),.sl (f.subs.map enc)]),(8,.ptr (51008,n+1) 0),(9,.ptr (51009,n+1+1) 0)],
       hpX ([((51008,n+1),some ⟨[.fz (.i .i64 0),.fz (.s []),.full [],.full []],true,false⟩),
        ((51009,n+1+1),some ⟨[.fz (.i .i64 f.kind),.fz (.s nm2.l),.ow (51047,g1) 1 (wl.map enc),.ow (51101,n+1+1+1) 4 ([])],true,false⟩),
        ((51101,n+1+1+1),some tok)]++HM k2 ga) X,m1+100⟩) (fun _=>?_) ?_
     rotate_left
     ·refine zae hm hR8 51000 (lsw [47,71,75,78,82,101] [1000015,1000019]) zxG (by kernel_rfl) (by kernel_rfl) ?_
      repeat'(first|refine And.intro ?_ ?_|exact True.intro|refine rq fun _=>?_|refine zaj.i (zat (by first|omega|(simp only[List.length_map,List.length_append,List.length_cons,List.length_nil];omega)) (by decide)) fun _=>?_|refine rq fun _=>?_|refine zaj.i ⟨by omega,by omega⟩ fun _=>?_|simp only[go_sem,HM,zxG,zo8,Tryz.f51])
      all_goals
       refine⟨(),?_⟩
       refine zbY (zoM (l:=[(1,.fz (.sl (olds2.map enc))),(2,.fz (.sl (news2.map enc))),(3,.ptr (28007,ga) 0),(4,.rp [.i .i64 f.kind,.s f.name.l,.sl (f.words.map enc),.sl (f.subs.map enc)]),(8,.ptr (51008,n+1) 0),(9,.ptr (51009,n+1+1) 0)]) (by simp only[go_sem,o2,n2,zw3,List.map_append])) ?_
       refine zaT ?_ ?_ (fun id o ho=>?_) ?_
       ·simp only[go_sem]
       ·simp only[go_sem,HM,q2,q3,zw3]
       ·refine kX.out id o ho fun h1=>?_
        ((repeat'(first|exact trivial|apply And.intro))<;>(rintro rfl;simp only at h1;omega))
       ·(try simp only[go_sem]);omega
     repeat'(first|refine rq fun _=>?_|refine zaj.i (zat (by first|omega|(simp only[List.length_map,List.length_append,List.length_cons,List.length_nil];omega)) (by decide)) fun _=>?_|refine rq fun _=>?_|refine zaj.i ⟨by omega,by omega⟩ fun _=>?_|simp only[go_sem,HM,zad,Tryz.f51])
   case' neg=>
    obtain⟨q1,q2,q3⟩:=kq2.out hq
    unfold isQ at hq
    have o2:olds2=olds:=by rw[←ko2.out,q1,kO.out]
    have n2:news2=news:=by rw[←kn2.out,q1,kN.out]
    have h8:(f.kind=8)=False:=eq_false fun h=>hq (.inl h)
    have h9:(f.kind=9)=False:=eq_false fun h=>hq (.inr h)
    repeat'(first|refine rq fun _=>?_|refine zaj.i (zat (by first|omega|(simp only[List.length_map,List.length_append,List.length_cons,List.length_nil];omega)) (by decide)) fun _=>?_|refine rq fun _=>?_|refine zaj.i ⟨by omega,by omega⟩ fun _=>?_|simp only[go_sem,HM,h8,h9,Nat.lt_irrefl,List.take_length,hwl2,zad,Tryz.f51])
   all_goals
    refine zao hm hR8 51000 (lsw [47,71,75,78,82,101] [1000015,1000019]) (ι:=zu1 f.subs.length (n+5) n)
     ⟨fun q=>⟨frL [(1,.fz (.sl (olds2.map enc))),(2,.fz (.sl (news2.map enc))),(3,.ptr (28007,ga) 0),(4,.rp [.i .i64 f.kind,.s f.name.l,.sl (f.words.map enc),.sl (f.subs.map enc)]),(8,.ptr (51008,n+1) 0),(9,.ptr (51009,n+1+1) 0),(85,.fz (.i .i64 f.subs.length)),(86,.fz (.i .i64 q.i))],
      hpX ([((51008,n+1),some ⟨[.fz (.i .i64 0),.fz (.s []),.full [],.full []],true,false⟩),
       ((51009,n+1+1),some ⟨[.fz (.i .i64 f.kind),.fz (.s nm2.l),.ow (51047,g1) 1 (wl.map enc),.ow (51101,q.g) 4 ((A q.i).map enc)],true,false⟩),
       ((51101,q.g),some tok)]++HM (K q.i) ga) X,q.m⟩,fun q=>f.subs.length-q.i⟩
     ⟨0,n+1+1+1,m1+100,by omega,by omega,by omega,by omega⟩ (by kernel_rfl) ?_ ?_
    ·refine zaT ?_ ?_ (fun id o ho=>?_) ?_
     ·simp only[go_sem,o2,n2]
     ·simp only[go_sem,HM,hA0,hK0,q2,q3]
     ·refine kX.out id o ho fun h1=>?_
      ((repeat'(first|exact trivial|apply And.intro))<;>(rintro rfl;simp only at h1;omega))
     ·(try simp only[go_sem]);(try omega)
    rintro⟨j,g2,m2,hj,hg2,hm2,hgl2⟩
    try simp only at hj hg2 hm2 hgl2
    rcases Nat.lt_or_ge j f.subs.length with h2|h2
    ·have hmem:=List.getElem_mem h2
     obtain⟨x,hx⟩:∃x,f.subs[j]=x:=⟨_,rfl⟩
     have hz:=kZ.out _ hmem
     have hwx:=kS.out _ hmem
     have hAj:=kA.out j h2
     have hKj:=kC.out j h2
     have hAlj:=kB.out j
     rw[hx]at hz hwx hAj hKj
     obtain⟨y,hy⟩:∃y,(ren bg x env2 (K j)).1=y:=⟨_,rfl⟩
     obtain⟨kj,hkj⟩:∃kj,(ren bg x env2 (K j)).2=kj:=⟨_,rfl⟩
     rw[hy,hkj]at hAj
     have hlx:=zac.size_mem (l:=f.subs) hmem
     rw[hx]at hlx
     have ih2:∀(m3:Nat),m2≤m3→_:=fun m3 hm3=>kI.out x env2 (K j) m3 (hpX [((51008,n+1),some ⟨[.fz (.i .i64 0),.fz (.s []),.full [],.full []],true,false⟩),
       ((51009,n+1+1),some ⟨[.fz (.i .i64 f.kind),.fz (.s nm2.l),.ow (51047,g1) 1 (wl.map enc),.ow (51101,g2) 4 ((A j).map enc)],true,false⟩),((51101,g2),some tok)] X) hz.1 hwx hz.2 (by omega) (by omega) (by omega) (by
      intro id o ho
      simp only[hpX]at ho
      split at ho
      ·rename_i e;subst e;simp only;omega
      split at ho
      ·rename_i e;subst e;simp only;omega
      split at ho
      ·rename_i e;subst e;simp only;omega
      ·have:=kx.out id o ho;omega)
     simp only[hy,hkj]at ih2
     rw[zaO (f:=x),ko2.out,kn2.out]at ih2
     obtain⟨fy,hfy⟩:∃fy,enc y=fy:=⟨_,rfl⟩
     have hcy:fy.cells.length=4:=by rw[←hfy,zaO];rfl
     have hff:(zaf [fy]).all zcL=true:=by rw[←hfy];have h9:=@ziF [y];exact eq_true h9▸h9
     repeat'(first|refine rq fun _=>?_|refine zaj.i (zat (by first|omega|(simp only[List.length_map,List.length_append,List.length_cons,List.length_nil];omega)) (by decide)) fun _=>?_|refine rq fun _=>?_|refine zaj.i ⟨by omega,by omega⟩ fun _=>?_|simp only[go_sem,HM,h2,hx,zaa,Tryz.f51])
     refine zae hm hR8 51000 (lsw [47,71,75,78,82,101] [1000015,1000019]) zug (by kernel_rfl) (by kernel_rfl) ?_
     repeat'(first|refine And.intro ?_ ?_|exact True.intro|refine rq fun _=>?_|refine zaj.i (zat (by first|omega|(simp only[List.length_map,List.length_append,List.length_cons,List.length_nil];omega)) (by decide)) fun _=>?_|refine rq fun _=>?_|refine zaj.i ⟨by omega,by omega⟩ fun _=>?_|simp only[go_sem,HM,zug,h2,hx,zaa,Tryz.f51])
     all_goals
      refine zaI.i (zdq (by simp only[go_sem,zhD]) (by simp only[go_sem,HM]) (fun id o ho=>?_) (Nat.le_refl _) (zbc (ih2 _ (by omega)) ?_))
      ·simp only[hpX]at ho
       split at ho
       ·rename_i e;subst e;simp only[go_sem];exact Option.some.inj ho
       split at ho
       ·rename_i e;subst e;simp only[go_sem];exact Option.some.inj ho
       split at ho
       ·rename_i e;subst e;simp only[go_sem];exact Option.some.inj ho
       ·refine kX.out id o ho fun h1=>?_
        ((repeat'(first|exact trivial|apply And.intro))<;>(rintro rfl;simp only at h1;omega))
      rintro d' H' n' ⟨rfl,e1,e2,e3⟩
      have c6:=e3 (51008,n+1) ⟨[.fz (.i .i64 0),.fz (.s []),.full [],.full []],true,false⟩ (by simp only[go_sem])
      have c7:=e3 (51009,n+1+1) ⟨[.fz (.i .i64 f.kind),.fz (.s nm2.l),.ow (51047,g1) 1 (wl.map enc),.ow (51101,g2) 4 ((A j).map enc)],true,false⟩ (by simp only[go_sem])
      have c8:=e3 (51101,g2) tok (by simp only[go_sem])
      have hX2:∀id o,X id=some o→H' id=some o:=fun id o ho=>e3 id o (kX.out id o ho fun h1=>by
       ((repeat'(first|exact trivial|apply And.intro))<;>(rintro rfl;simp only at h1;omega)))
      clear e3
      simp only[go_sem,HM]at e2
      have c1:=e2
      rw[show H'=hpX [] H' from rfl]
      rw[hfy]
      repeat'(first|refine rq fun _=>?_|refine zaj.i (zat (by first|omega|(simp only[List.length_map,List.length_append,List.length_cons,List.length_nil];omega)) (by decide)) fun _=>?_|refine rq fun _=>?_|refine zaj.i ⟨by omega,by omega⟩ fun _=>?_|simp only[go_sem,HM,zug,c1,c6,c7,c8,h2,hcy,hff,Tryz.f51])
      refine⟨⟨j+1,n',n'+1,by omega,by omega,by omega,by omega⟩,by simp only;omega,?_⟩
      refine zaT ?_ ?_ (fun id o ho=>?_) ?_
      ·simp only[go_sem]
      ·simp only[go_sem,HM,c1,c6,c7,c8,hAj.1,hAj.2,hfy,List.map_append]
      ·have h1:=kx.out id o ho
       refine(zcF ?_).trans (hX2 id o ho)
       ((repeat'(first|exact trivial|apply And.intro))<;>(rintro rfl;simp only at h1;omega))
      ·simp only[go_sem]
    ·obtain rfl:j=f.subs.length:=by omega
     have hE:=kE.out
     repeat'(first|refine rq fun _=>?_|refine zaj.i (zat (by first|omega|(simp only[List.length_map,List.length_append,List.length_cons,List.length_nil];omega)) (by decide)) fun _=>?_|refine rq fun _=>?_|refine zaj.i ⟨by omega,by omega⟩ fun _=>?_|simp only[go_sem,HM,Nat.lt_irrefl,Tryz.f51])
     rw[kQ.out,kW.out]
     refine⟨?_,by omega,?_,fun id o ho=>kX.out id o ho fun h1=>?_⟩
     ·rw[←hE.1];simp only[go_sem]
     ·rw[←hE.2];simp only[go_sem,HM]
     ·((repeat'(first|exact trivial|apply And.intro))<;>(rintro rfl;simp only at h1;omega))
end Go.Proofs.YtdlioodgfopmfaaGreatDoor

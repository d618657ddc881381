import Derived.Test.YtmconmiemdinkaaDoorAT
import Derived.Test.YtmconmiemdinkaaDoorY19
import Derived.Test.YtmconmiemdinkaaDoorY17
import Derived.Test.YtmconmiemdinkaaDoorY15
set_option linter.unusedSimpArgs false
namespace Go.Proofs.YtmconmiemdinkaaDoor
open Go Go.Abs Go.Proofs
theorem zxp {n:Nat}{d:D}:(List.range n).map (fun j=>[d].getD (j % 1) .junk)=List.replicate n d:=by
 simp[Nat.mod_one,List.map_const']
theorem zqC {n:Nat}:List.replicate n (D.fz (.i .i64 0))=zag ((List.replicate n (0:Int)).map enc):=by
 rw[za0,List.map_replicate];rfl
def zfF (s:zal)(d:List Int):Abs.zab:=zdG s (zaz d)
def zee (s:zal):List (List Int)×List Abs.zab:=(zb6 s,(zb6 s).map (zfF s))
structure zvR (N n0:Nat) where
 i:Nat
 g1:Nat
 g2:Nat
 m:Nat
 hi:i<N
 h1:g1<m
 h2:g2<m
 hm:n0≤m
theorem zlC {P:Program}{G:Nat→List FD}{N:Nat}{c:Code}{st:St}{q:Exit→St→Prop}{ι:Type}(e0:Exit)(I:ι→St)(h:∀i,q e0 (I i))(h2:@WK P G N c st ⟨fun e s=>e=e0∧∃i,zeu G N s (I i)⟩):@WK P G N c st ⟨q⟩:=by
 unfold WK at h2 ⊢
 intro a w L F hr
 refine wp_mono (h2 a w L F hr) fun e a' w' hs=>?_
 obtain⟨s,L1,F1,⟨rfl,i,hw⟩,g2,g3⟩:=hs
 obtain⟨L2,F2,g4,g5⟩:=hw a' w' L1 F1 g2
 exact⟨I i,L2,F2,h i,g4,zbt.trans g3 g5⟩
theorem zBt {C Q:Type}{A:C→Q→Prop}{B:Prop}(c:C)(q:Q)(h1:A c q→B)(h2:A c q):B:=h1 h2
structure zzn (n0:Nat)(p:Bool→Prop) where
 b:Bool
 m:Nat
 hm:n0≤m
 hp:p b
structure zFv (n0:Nat)(p:Bool→Prop) where
 b:Bool
 c:Nat
 m:Nat
 hm:n0≤m
 hp:p b
structure zBh (N n0:Nat)(p:Nat→Bool→Prop) where
 i:Nat
 b:Bool
 c:Nat
 m:Nat
 hi:i≤N
 hm:n0≤m
 hp:p i b
structure zo1 (N n0:Nat)(p:Nat→Bool→Prop) where
 i:Nat
 b:Bool
 m:Nat
 hi:i≤N
 hm:n0≤m
 hp:p i b
def hIx (N:List Str)(x:Str)(q:Nat):Int:=if N.idxOf x<q then((N.idxOf x:Nat):Int)else 0
theorem zpZ {N:List Str}{x:Str}{q:Nat}(hn:N.Nodup)(h:q<N.length)(e:N[q]=x):hIx N x (q+1)=(q:Int):=by
 have h1:N.idxOf x=q:=by rw[←e];exact hn.idxOf_getElem q h
 unfold hIx
 rw[h1,if_pos (by omega)]
theorem zmW {N:List Str}{x:Str}{q:Nat}(h:q<N.length)(e:¬N[q]=x):hIx N x (q+1)=hIx N x q:=by
 have h1:N.idxOf x≠q:=fun g=>e (by subst g;exact List.getElem_idxOf h)
 unfold hIx
 by_cases h2:N.idxOf x<q
 ·rw[if_pos h2,if_pos (by omega)]
 ·rw[if_neg h2,if_neg (by omega)]
theorem zpY {N:List Str}{x:Str}(h:x∈N):hIx N x N.length=((N.idxOf x:Nat):Int):=by
 unfold hIx
 rw[if_pos (List.idxOf_lt_length_of_mem h)]
def zqT:Tv:=(.q 0 (.q 1 (.q 2 (.q 6 (.br [(3,(.q 4 (.br [(5,(.q 7 (.q 8 (.br [(9,(.q 10 (.q 11 .leaf)))])))),(7,(.q 8 (.br [(5,(.br [(9,(.q 10 (.q 11 .leaf)))]))])))]))),(7,(.q 8 (.br [(3,(.q 4 (.br [(5,(.br [(9,(.q 10 (.q 11 .leaf)))]))])))])))])))))
def zqS:Tv:=(.q 0 (.q 1 (.q 2 (.q 3 (.q 4 (.q 5 (.q 6 (.q 7 (.br [(8,(.br [(9,(.br [(10,.leaf)]))])),(9,(.br [(8,(.br [(10,.leaf)]))]))])))))))))
theorem zit {s:zal}{i:Nat}:(zdt s i).length≤i:=by
 unfold zdt
 exact Nat.le_trans (List.length_filter_le _ _) (by simp)
theorem zkZ {j M:Nat}(h:j≤6)(e:M+1=j):j^M≤100000:=by
 subst e
 have:M=0∨M=1∨M=2∨M=3∨M=4∨M=5:=by omega
 rcases this with rfl|rfl|rfl|rfl|rfl|rfl<;>decide
def Sd4:Tbl:=Sd1.add 7 (zsB zee fun s=>zhx s)
set_option maxRecDepth 100000 in
set_option maxHeartbeats 1000000 in
set_option maxHeartbeats 16000000 in
theorem zD8:zam Tryd.prog GA Sd4:=by
  refine zjO ok7 zfL fun s hs _=>?_
  obtain⟨Q,hQ⟩:∃Q:D→zau→Nat→Prop,Q=(fun d _ _=>D.val d=some (.tup [.fz (enc (zee s).1),.fz (enc (zee s).2)])):=⟨_,rfl⟩
  rw[←hQ]
  have hn1:=hs.n1
  have hn6:=hs.n6
  have hnp:s.pieces.length=nP s:=rfl
  have hil:(zay (zgF s)).length=(zaU s.pieces).length:=by unfold zay;rw[List.length_map,zms]
  obtain⟨L,hL⟩:∃L,s.pieces.length=L:=⟨_,rfl⟩
  obtain⟨U,hU⟩:∃U,zay (zgF s)=U:=⟨_,rfl⟩
  rw[hU]at hil
  obtain⟨M,hM⟩:∃M,(zaU s.pieces).length=M:=⟨_,rfl⟩
  rw[hM]at hil
  have hML:M≤10000:=by
    have h1:∀ps:List zbB,(∀p∈ps,(zaP true p.form).code=0)→(zaU ps).length≤1000*ps.length:=by
      intro ps
      induction ps with
      |nil=>intro _;simp[zaU]
      |cons p ps ih=>
        intro h
        have h2:=ih fun q hq=>h q (List.mem_cons_of_mem _ hq)
        have h3:=zbr p.form
        have h4:=zaV (h p List.mem_cons_self)
        unfold zaU at h2 ⊢
        rw[List.flatMap_cons,List.length_append,List.length_cons]
        omega
    have:=h1 s.pieces hs.chk
    omega
  by_cases hu:M+1=nP s
  case neg=>
    have hne:((M:Int)=(L:Int)-1)=False:=eq_false (by omega)
    have hres:zee s=([],[]):=by unfold zee zb6;rw[if_pos (by rw[hM];exact hu)];rfl
    refine zak (N:=215) Go.Proofs.YtmconmiemdinkaaDoor.hm zfL 7000 (lsw [51,179,181,185] [1000052,1000060]) ok7 Tryd.func7 rfl rfl (by simp) (by kernel_rfl) ?_
    repeat'(first|refine zaG.i hs fun _=>?_|refine And.intro ?_ ?_|exact True.intro|refine rq fun _=>?_|refine rf fun _=>?_|simp only[go_sem,hL,hU,hil,hne,zac,zae,zad,zaf,zah,zaa,Tryd.f7,Sd1,Sc0])
    all_goals
      rw[hQ,hres]
      simp only[go_sem]
  have hne:((M:Int)=(L:Int)-1)=True:=eq_true (by omega)
  obtain⟨A,hA⟩:∃A:Nat→List Str,A=fun j=>zaU (s.pieces.take j):=⟨_,rfl⟩
  have hA0:A 0=[]:=by rw[hA];rfl
  have hAs:∀j (h:j<s.pieces.length),A (j+1)=A j++zar s.pieces[j].form:=fun j h=>by
    rw[hA];simp only
    unfold zaU
    rw[List.take_succ_eq_append_getElem h,List.flatMap_append]
    simp
  have hAe:zaU s.pieces=A s.pieces.length:=by rw[hA];simp only[List.take_length]
  have hAp:∀j,∃r,zaU s.pieces=A j++r:=fun j=>⟨zaU (s.pieces.drop j),by
    rw[hA];simp only
    unfold zaU
    rw[←List.flatMap_append,List.take_append_drop]⟩
  have hAb:∀j,(A j).length≤10000:=fun j=>by
    obtain⟨r,hr⟩:=hAp j
    have:=congrArg List.length hr
    rw[List.length_append]at this
    omega
  have hhz:∀x∈s.pieces,x.form.size≤1000∧(zar x.form).length≤1000∧zcG x.form=zar x.form:=fun x hx=>by
    have h1:=zaV (hs.chk x hx)
    have h2:=zbr x.form
    exact⟨by omega,by omega,zcq (hs.chk x hx)⟩
  have kA:=Kp.mk hAs
  have kB:=Kp.mk hAb
  have kz:=Kp.mk hhz
  clear hAs hAb hAp hhz hA
  refine zak (N:=215) Go.Proofs.YtmconmiemdinkaaDoor.hm zfL 7000 (lsw [51,179,181,185] [1000052,1000060]) ok7 Tryd.func7 rfl rfl (by simp) (by kernel_rfl) ?_
  repeat'(first|refine zaG.i hs fun _=>?_|refine And.intro ?_ ?_|exact True.intro|refine rq fun _=>?_|refine rf fun _=>?_|simp only[go_sem,hL,hU,hil,hne,zac,zae,zad,zaf,zah,zaa,Tryd.f7,Sd1,Sc0])
  refine zap Go.Proofs.YtmconmiemdinkaaDoor.hm zfL 7000 (lsw [51,179,181,185] [1000052,1000060]) (ι:=zeF L 2 fun _=>True)
    ⟨fun q=>⟨frL [(1,.ptr (7001,0) 0),(4,.fz (.i .i64 L)),(5,.fz (.sl (U.map enc))),(6,.ow (7051,q.g) 1 ((A q.i).map enc)),(41,.fz (.sl (s.pieces.map enc))),(42,.fz (.i .i64 L)),(43,.fz (.i .i64 q.i))],
      hpL [((7001,0),some ⟨[.fz (.sl (s.pieces.map enc)),.fz (.sl (s.overs.map enc)),.fz (.sl (s.vars.map enc))],true,false⟩),((7051,q.g),some tok)],q.m⟩,fun q=>L-q.i⟩
    ⟨0,1,2,by omega,by omega,by omega,trivial⟩ (by kernel_rfl) ?_ ?_
  · refine zcV [] [(7051,1)] [] ?_ ?_ ?_ ?_ ?_<;>(try simp only[go_sem,hA0,List.map_nil])
    all_goals first|done|rfl|omega
  rintro⟨j,g,m,hj,hg,hm2,_⟩
  try simp only at hj hg hm2
  have hl1:=kB.out j
  rcases Nat.lt_or_ge j L with h1|h1
  · have h1':j<s.pieces.length:=by omega
    have h9:((j:Int)<(L:Int))=True:=eq_true (by omega)
    obtain⟨x,hx⟩:∃x,s.pieces[j]=x:=⟨_,rfl⟩
    obtain⟨hz1,hz2,hz3⟩:=kz.out x (by rw[←hx];exact List.getElem_mem h1')
    have hbs:=kA.out j h1'
    rw[hx]at hbs
    repeat'(first|refine And.intro ?_ ?_|exact True.intro|refine rq fun _=>?_|refine rf fun _=>?_|simp only[go_sem,h9,h1',hx,hz3,zac,zae,zad,zaf,zah,zaa,Tryd.f7,Sd1,Sc0])
    refine⟨⟨j+1,m+1,m+1+1,by omega,by omega,by omega,trivial⟩,by simp only;omega,?_⟩
    refine zai ?_ ?_ ?_<;>(try simp only[go_sem,hbs,List.map_append,List.map_cons,List.map_nil])
    all_goals first|done|rfl|omega
  obtain rfl:j=L:=by omega
  have hall:A j=zaU s.pieces:=by rw[hAe,hL]
  obtain⟨N,hN⟩:∃N,zaU s.pieces=N:=⟨_,rfl⟩
  rw[hN]at hall hM
  have hz0:List.replicate M (0:Int)=zcy j M 0:=(zin j M).symm
  have hf0:zdt s 0=[]:=rfl
  repeat'(first|refine And.intro ?_ ?_|exact True.intro|refine rq fun _=>?_|refine rf fun _=>?_|simp only[go_sem,Nat.lt_irrefl,Int.lt_irrefl,hall,hil,hL,zac,zae,zad,zaf,zah,zaa,Tryd.f7,Sd1,Sc0])
  have hjn:j=nP s:=by omega
  refine zap Go.Proofs.YtmconmiemdinkaaDoor.hm zfL 7000 (lsw [51,179,181,185] [1000052,1000060]) (ι:=zvR (j^M) (m+3))
    ⟨fun q=>⟨frL [(1,.ptr (7001,0) 0),(5,.fz (.sl (U.map enc))),(6,.fz (.sl (N.map enc))),(11,.arr (7055,m) 1 0 M),(4,.fz (.i .i64 j)),(9,.ow (7181,q.g1) 1 ((zdt s q.i).map enc)),(10,.ow (7185,q.g2) 4 (((zdt s q.i).map (zfF s)).map enc))],
      hpL [((7001,0),some ⟨[.fz (.sl (s.pieces.map enc)),.fz (.sl (s.overs.map enc)),.fz (.sl (s.vars.map enc))],true,false⟩),((7055,m),some ⟨zag ((zcy j M q.i).map enc),false,false⟩),((7181,q.g1),some tok),((7185,q.g2),some tok)],q.m⟩,fun q=>j^M-q.i⟩
    ⟨0,m+1,m+2,m+3,Nat.pow_pos (by omega),by omega,by omega,by omega⟩ (by kernel_rfl) ?_ ?_
  · refine zcV [] [(7181,m+1),(7185,m+2)] [] ?_ ?_ ?_ ?_ ?_<;>(try simp only[go_sem,hf0,zxp,zqC,hz0,List.map_nil])
    all_goals first|done|rfl|omega
  rintro⟨i,g1,g2,m2,hi,hg1,hg2,hm3⟩
  try simp only at hi hg1 hg2 hm3
  obtain⟨O,hO⟩:∃O,zdt s i=O:=⟨_,rfl⟩
  obtain⟨F,hF⟩:∃F,O.map (zfF s)=F:=⟨_,rfl⟩
  obtain⟨l,hl⟩:∃l,zaz (zcy j M i)=l:=⟨_,rfl⟩
  have hDb:∀x∈zcy j M i,0≤x∧x<(j:Int):=fun x hx=>zjd (by omega) _ _ _ hx
  have hDe:zcy j M i=zay l:=by rw[←hl];exact(zkJ fun x hx=>(hDb x hx).1).symm
  have hll:l.length=M:=by rw[←hl];unfold zaz;rw[List.length_map,zff]
  have hlt:∀x∈l,x<j:=fun x hx=>by
    rw[←hl]at hx
    unfold zaz at hx
    obtain⟨y,hy,rfl⟩:=List.mem_map.1 hx
    have:=hDb y hy
    omega
  have hlil:(zay l).length=l.length:=by unfold zay;rw[List.length_map]
  have hfl:(zag ((zay l).map enc)).length=M:=by rw[zc1 (zbR (f:=enc) (k:=1) (fun _=>rfl) _),List.length_map,hlil,hll]
  have hgd:∀q (h:q<l.length),(zag ((zay l).map enc)).getD q D.junk=D.fz (.i .i64 (l[q]:Nat)):=fun q h=>by
    rw[za0,List.getD_eq_getElem?_getD,List.getElem?_map,List.getElem?_eq_getElem (by rw[hlil];exact h)]
    simp only[zay,List.getElem_map];rfl
  have hc0:zoP l 0=true:=rfl
  have ht0:zlo l 0= -1:=rfl
  have kg:=Kp.mk hgd
  clear hgd
  repeat'(first|refine And.intro ?_ ?_|exact True.intro|refine rq fun _=>?_|refine rf fun _=>?_|simp only[go_sem,hO,hF,hDe,zac,zae,zad,zaf,zah,zaa,Tryd.f7,Sd1,Sc0])
  refine zap Go.Proofs.YtmconmiemdinkaaDoor.hm zfL 7000 (lsw [51,179,181,185] [1000052,1000060]) (ι:=zdI j m2 fun _=>True)
    ⟨fun q=>⟨frL [(1,.ptr (7001,0) 0),(5,.fz (.sl (U.map enc))),(6,.fz (.sl (N.map enc))),(11,.arr (7055,m) 1 0 M),(4,.fz (.i .i64 j)),(9,.ow (7181,g1) 1 ((O).map enc)),(10,.ow (7185,g2) 4 ((F).map enc)),(12,.fz (.b (zoP l q.i))),(13,.fz (.i .i64 (zlo l q.i))),(14,.fz (.i .i64 q.i))],
      hpL [((7001,0),some ⟨[.fz (.sl (s.pieces.map enc)),.fz (.sl (s.overs.map enc)),.fz (.sl (s.vars.map enc))],true,false⟩),((7055,m),some ⟨zag ((zay l).map enc),false,false⟩),((7181,g1),some tok),((7185,g2),some tok)],q.m⟩,fun q=>j-q.i⟩
    ⟨0,m2,by omega,Nat.le_refl _,trivial⟩ (by kernel_rfl) ?_ ?_
  · refine zai ?_ ?_ ?_<;>(try simp only[go_sem,hc0,ht0,hO,hF,hDe])
    all_goals first|done|rfl|omega
  rintro⟨a,m3,ha,hm4,_⟩
  try simp only at ha hm4
  rcases Nat.lt_or_ge a j with h2|h2
  · have h9:((a:Int)<(j:Int))=True:=eq_true (by omega)
    repeat'(first|refine And.intro ?_ ?_|exact True.intro|refine rq fun _=>?_|refine rf fun _=>?_|simp only[go_sem,h9,zac,zae,zad,zaf,zah,zaa,Tryd.f7,Sd1,Sc0])
    refine zap Go.Proofs.YtmconmiemdinkaaDoor.hm zfL 7000 (lsw [51,179,181,185] [1000052,1000060]) (ι:=zdI M m3 fun _=>True)
      ⟨fun q=>⟨frL [(1,.ptr (7001,0) 0),(5,.fz (.sl (U.map enc))),(6,.fz (.sl (N.map enc))),(11,.arr (7055,m) 1 0 M),(4,.fz (.i .i64 j)),(9,.ow (7181,g1) 1 ((O).map enc)),(10,.ow (7185,g2) 4 ((F).map enc)),(12,.fz (.b (zoP l a))),(13,.fz (.i .i64 (zlo l a))),(14,.fz (.i .i64 a)),(15,.fz (.i .i64 ((l.take q.i).count a:Nat))),(61,.arr (7055,m) 1 0 M),(62,.fz (.i .i64 M)),(63,.fz (.i .i64 q.i))],
        hpL [((7001,0),some ⟨[.fz (.sl (s.pieces.map enc)),.fz (.sl (s.overs.map enc)),.fz (.sl (s.vars.map enc))],true,false⟩),((7055,m),some ⟨zag ((zay l).map enc),false,false⟩),((7181,g1),some tok),((7185,g2),some tok)],q.m⟩,fun q=>M-q.i⟩
      ⟨0,m3,by omega,Nat.le_refl _,trivial⟩ (by kernel_rfl) ?_ ?_
    · refine zai ?_ ?_ ?_<;>(try simp only[go_sem,List.take_zero,List.count_nil])
      all_goals first|done|rfl|omega
    rintro⟨q,m4,hq,hm5,_⟩
    try simp only at hq hm5
    rcases Nat.lt_or_ge q M with h3|h3
    · have h3':q<l.length:=by omega
      have h8:((q:Int)<(M:Int))=True:=eq_true (by omega)
      have gd:=kg.out q h3'
      have hts:=List.take_succ_eq_append_getElem h3'
      have hcb:(l.take q).count a≤10000:=by
        have h5:=List.count_le_length (a:=a) (l:=l.take q)
        rw[List.length_take]at h5
        omega
      obtain⟨d,hd⟩:∃d,l[q]=d:=⟨_,rfl⟩
      rw[hd]at gd hts
      by_cases hda:d=a
      · have hda':((d:Int)=(a:Int))=True:=eq_true (by omega)
        have hcs:(((l.take (q+1)).count a:Nat):Int)=((l.take q).count a:Nat)+1:=by
          rw[hts,List.count_append,hda];simp
        repeat'(first|refine And.intro ?_ ?_|exact True.intro|refine rq fun _=>?_|refine rf fun _=>?_|simp only[go_sem,h8,gd,hfl,hda',zac,zae,zad,zaf,zah,zaa,Tryd.f7,Sd1,Sc0])
        refine⟨⟨q+1,m4,by omega,by omega,trivial⟩,by simp only;omega,?_⟩
        refine zai ?_ ?_ ?_<;>(try simp only[go_sem,hcs])
        all_goals first|done|rfl|omega
      · have hda':((d:Int)=(a:Int))=False:=eq_false (by omega)
        have hcs:(l.take (q+1)).count a=(l.take q).count a:=by
          rw[hts,List.count_append]
          simp[hda]
        repeat'(first|refine And.intro ?_ ?_|exact True.intro|refine rq fun _=>?_|refine rf fun _=>?_|simp only[go_sem,h8,gd,hfl,hda',zac,zae,zad,zaf,zah,zaa,Tryd.f7,Sd1,Sc0])
        refine⟨⟨q+1,m4,by omega,by omega,trivial⟩,by simp only;omega,?_⟩
        refine zai ?_ ?_ ?_<;>(try simp only[go_sem,hcs])
        all_goals first|done|rfl|omega
    obtain rfl:q=M:=by omega
    have htk:l.take q=l:=List.take_of_length_le (by omega)
    have hcs:=zpx l a
    have htp:zlo l (a+1)=if l.count a=0 then(a:Int)else zlo l a:=rfl
    have hc2:decide (((l.count a:Nat):Int)<2)=decide (l.count a<2):=decide_eq_decide.2 (by omega)
    by_cases hz:l.count a=0
    · have hz':(((l.count a:Nat):Int)=0)=True:=eq_true (by omega)
      rw[if_pos hz]at htp
      cases hcb:zoP l a
      all_goals
        rw[hcb]at hcs
        repeat'(first|refine And.intro ?_ ?_|exact True.intro|refine rq fun _=>?_|refine rf fun _=>?_|simp only[go_sem,Nat.lt_irrefl,Int.lt_irrefl,htk,hcb,hc2,hz',zac,zae,zad,zaf,zah,zaa,Tryd.f7,Sd1,Sc0])
        refine⟨⟨a+1,m4,by omega,by omega,trivial⟩,by simp only;omega,?_⟩
        refine zai ?_ ?_ ?_<;>(try simp only[go_sem,htp,hcs,hz])
        all_goals first|done|rfl|omega
    · have hz':(((l.count a:Nat):Int)=0)=False:=eq_false (by omega)
      rw[if_neg hz]at htp
      cases hcb:zoP l a
      all_goals
        rw[hcb]at hcs
        repeat'(first|refine And.intro ?_ ?_|exact True.intro|refine rq fun _=>?_|refine rf fun _=>?_|simp only[go_sem,Nat.lt_irrefl,Int.lt_irrefl,htk,hcb,hc2,hz',zac,zae,zad,zaf,zah,zaa,Tryd.f7,Sd1,Sc0])
        refine⟨⟨a+1,m4,by omega,by omega,trivial⟩,by simp only;omega,?_⟩
        refine zai ?_ ?_ ?_<;>(try simp only[go_sem,htp,hcs])
        all_goals first|done|rfl|omega
  obtain rfl:j=a:=by omega
  have hcn:zoP l j=decide l.Nodup:=znM fun x hx=>hlt x hx
  have hokN:∀(hn:l.Nodup),okL s l:=fun hn=>⟨hs.hol,hn,by rw[hll,hN,hM],by rw[hll];exact hu,fun x hx=>by rw[hL];exact hlt x hx⟩
  have hab:znD s (zay l):=⟨hs,by rw[hlil,zms,hN,hM,hll];exact Nat.le_refl _,by rw[hlil,hll];omega⟩
  have htop:∀(hn:l.Nodup),zlo l j=((zdT (nP s) l:Nat):Int):=fun hn=>by rw[hjn];exact zuN (hokN hn)
  have hlies:∀x y:Nat,zdh s (zay l) (x:Int) (y:Int)=zdZ (zgO s l) x (nP s+1) y:=zkM s l
  have hbadN:¬l.Nodup→okD s l=false:=fun h=>by unfold okD;rw[decide_eq_false h];rfl
  have hbadT:zcO s l=false→okD s l=false:=fun h=>by unfold okD okS;rw[h];simp
  repeat'(first|refine And.intro ?_ ?_|exact True.intro|refine rq fun _=>?_|refine rf fun _=>?_|simp only[go_sem,Nat.lt_irrefl,Int.lt_irrefl,zac,zae,zad,zaf,zah,zaa,Tryd.f7,Sd1,Sc0])
  refine zlC (.exit 8) (fun q:zzn m3 (fun b=>(b=true→l.Nodup∧zcO s l=true)∧(b=false→okD s l=false))=>⟨frL [(1,.ptr (7001,0) 0),(5,.fz (.sl (U.map enc))),(6,.fz (.sl (N.map enc))),(11,.arr (7055,m) 1 0 M),(4,.fz (.i .i64 j)),(9,.ow (7181,g1) 1 ((O).map enc)),(10,.ow (7185,g2) 4 ((F).map enc)),(12,.fz (.b q.b)),(13,.fz (.i .i64 (zlo l j)))],hpL [((7001,0),some ⟨[.fz (.sl (s.pieces.map enc)),.fz (.sl (s.overs.map enc)),.fz (.sl (s.vars.map enc))],true,false⟩),((7055,m),some ⟨zag ((zay l).map enc),false,false⟩),((7181,g1),some tok),((7185,g2),some tok)],q.m⟩) ?_ ?_
  case refine_2=>
    refine zap Go.Proofs.YtmconmiemdinkaaDoor.hm zfL 7000 (lsw [51,179,181,185] [1000052,1000060]) (ι:=zo1 j m3 fun i b=>(b=true→l.Nodup∧∀k,k<i→zdZ (zgO s l) (zdT (nP s) l) (nP s+1) k=true)∧(b=false→okD s l=false))
      ⟨fun q=>⟨frL [(1,.ptr (7001,0) 0),(5,.fz (.sl (U.map enc))),(6,.fz (.sl (N.map enc))),(11,.arr (7055,m) 1 0 M),(4,.fz (.i .i64 j)),(9,.ow (7181,g1) 1 ((O).map enc)),(10,.ow (7185,g2) 4 ((F).map enc)),(12,.fz (.b q.b)),(13,.fz (.i .i64 (zlo l j))),(18,.fz (.i .i64 q.i))],
        hpL [((7001,0),some ⟨[.fz (.sl (s.pieces.map enc)),.fz (.sl (s.overs.map enc)),.fz (.sl (s.vars.map enc))],true,false⟩),((7055,m),some ⟨zag ((zay l).map enc),false,false⟩),((7181,g1),some tok),((7185,g2),some tok)],q.m⟩,fun q=>j-q.i⟩
      ⟨0,zoP l j,m3,by omega,Nat.le_refl _,by rw[hcn];exact⟨fun h=>⟨of_decide_eq_true h,fun k hk=>absurd hk (Nat.not_lt_zero k)⟩,fun h=>hbadN (of_decide_eq_false h)⟩⟩ (by kernel_rfl) ?_ ?_
    · refine zai ?_ ?_ ?_<;>(try simp only[go_sem])
      all_goals first|done|rfl|omega
    rintro⟨i2,b,m4,hi2,hm5,hb1,hb2⟩
    try simp only at hi2 hm5 hb1 hb2
    cases b with
    |false=>
      repeat'(first|refine And.intro ?_ ?_|exact True.intro|refine rq fun _=>?_|refine rf fun _=>?_|simp only[go_sem,zac,zae,zad,zaf,zah,zaa,Tryd.f7,Sd1,Sc0])
      refine⟨⟨false,m4,by omega,by simp,fun _=>hb2 rfl⟩,?_⟩
      refine zai ?_ ?_ ?_<;>(try simp only[go_sem])
      all_goals first|done|rfl|omega
    |true=>
      obtain⟨hn,hall2⟩:=hb1 rfl
      have hte:=htop hn
      rcases Nat.lt_or_ge i2 j with h2|h2
      · have h9:((i2:Int)<(j:Int))=True:=eq_true (by omega)
        have hli:=hlies (zdT (nP s) l) i2
        repeat'(first|refine zaF.i (zus hab (by simp only;omega) (by simp only[go_sem]) (by rw[hlil,hll]) fun n' hn'=>?_)|refine And.intro ?_ ?_|exact True.intro|refine rq fun _=>?_|refine rf fun _=>?_|simp only[go_sem,h9,hte,zac,zae,zad,zaf,zah,zaa,Tryd.f7,Sd1,Sc0])
        cases hr:zdZ (zgO s l) (zdT (nP s) l) (nP s+1) i2 with
        |true=>
          rw[hr]at hli
          repeat'(first|refine And.intro ?_ ?_|exact True.intro|refine rq fun _=>?_|refine rf fun _=>?_|simp only[go_sem,hli,zac,zae,zad,zaf,zah,zaa,Tryd.f7,Sd1,Sc0])
          refine⟨⟨i2+1,true,n',by omega,by omega,fun _=>⟨hn,fun k hk=>?_⟩,by simp⟩,by simp only;omega,?_⟩
          · rcases Nat.lt_or_ge k i2 with h4|h4
            · exact hall2 k h4
            · rw[show k=i2 by omega];exact hr
          · refine zai ?_ ?_ ?_<;>(try simp only[go_sem,hte])
            all_goals first|done|rfl|omega
        |false=>
          rw[hr]at hli
          repeat'(first|refine And.intro ?_ ?_|exact True.intro|refine rq fun _=>?_|refine rf fun _=>?_|simp only[go_sem,hli,zac,zae,zad,zaf,zah,zaa,Tryd.f7,Sd1,Sc0])
          refine⟨⟨i2+1,false,n',by omega,by omega,by simp,fun _=>hbadT ?_⟩,by simp only;omega,?_⟩
          · unfold zcO
            rw[Bool.eq_false_iff]
            intro h
            have:=List.all_eq_true.1 h i2 (List.mem_range.2 (by omega))
            rw[hr]at this;cases this
          · refine zai ?_ ?_ ?_<;>(try simp only[go_sem,hte])
            all_goals first|done|rfl|omega
      · obtain rfl:j=i2:=by omega
        repeat'(first|refine And.intro ?_ ?_|exact True.intro|refine rq fun _=>?_|refine rf fun _=>?_|simp only[go_sem,Nat.lt_irrefl,Int.lt_irrefl,zac,zae,zad,zaf,zah,zaa,Tryd.f7,Sd1,Sc0])
        refine⟨⟨true,m4,by omega,fun _=>⟨hn,?_⟩,by simp⟩,?_⟩
        · unfold zcO
          rw[List.all_eq_true]
          intro k hk
          exact hall2 k (by rw[hjn];exact List.mem_range.1 hk)
        · refine zai ?_ ?_ ?_<;>(try simp only[go_sem])
          all_goals first|done|rfl|omega
  rintro⟨b,m4,hm5,hb1,hb2⟩
  try simp only at hm5 hb1 hb2
  obtain⟨Lo,hLo⟩:∃Lo,s.overs.length=Lo:=⟨_,rfl⟩
  have hovl:=hs.ov
  rw[hLo]at hovl
  have hbadO:∀o∈s.overs,zfY s l o=false→okD s l=false:=fun o ho h=>by
    have h2:s.overs.all (zfY s l)=false:=by
      rw[Bool.eq_false_iff]
      intro h3
      have:=List.all_eq_true.1 h3 o ho
      rw[h]at this;cases this
    unfold okD okS;rw[h2];simp
  have hNd:N.Nodup:=by rw[←hN];exact hs.hol
  repeat'(first|refine And.intro ?_ ?_|exact True.intro|refine rq fun _=>?_|refine rf fun _=>?_|simp only[go_sem,zac,zae,zad,zaf,zah,zaa,Tryd.f7,Sd1,Sc0])
  have hTl:(zay l).length=M:=by rw[hlil,hll]
  have hsuc:=zl5 s i
  rw[hN,hM,←hjn,hl,hDe,hO]at hsuc
  apply zBt (A:=fun c q=>∀(g1 g2 mm:Nat) (O':List (List Int)) (F':List Abs.zab),g1<mm→g2<mm→m+3≤mm→zdt s (i+1)=O'→O'.map (zfF s)=F'→@WK Tryd.prog GA 215 c ⟨frL [(1,.ptr (7001,0) 0),(5,.fz (.sl (U.map enc))),(6,.fz (.sl (N.map enc))),(11,.arr (7055,m) 1 0 M),(4,.fz (.i .i64 j)),(9,.ow (7181,g1) 1 ((O').map enc)),(10,.ow (7185,g2) 4 ((F').map enc)),(29,.fz (.i .i64 ((M:Int)-1)))],hpL [((7001,0),some ⟨[.fz (.sl (s.pieces.map enc)),.fz (.sl (s.overs.map enc)),.fz (.sl (s.vars.map enc))],true,false⟩),((7055,m),some ⟨zag ((zay l).map enc),false,false⟩),((7181,g1),some tok),((7185,g2),some tok)],mm⟩ ⟨q⟩)
  case h1=>
    intro hT
    refine zlC (.exit 10) (fun q:zzn m4 (fun b=>(b=true→l.Nodup∧zcO s l=true∧s.overs.all (zfY s l)=true)∧(b=false→okD s l=false))=>⟨frL [(1,.ptr (7001,0) 0),(5,.fz (.sl (U.map enc))),(6,.fz (.sl (N.map enc))),(11,.arr (7055,m) 1 0 M),(4,.fz (.i .i64 j)),(9,.ow (7181,g1) 1 ((O).map enc)),(10,.ow (7185,g2) 4 ((F).map enc)),(12,.fz (.b q.b)),(13,.fz (.i .i64 (zlo l j)))],hpL [((7001,0),some ⟨[.fz (.sl (s.pieces.map enc)),.fz (.sl (s.overs.map enc)),.fz (.sl (s.vars.map enc))],true,false⟩),((7055,m),some ⟨zag ((zay l).map enc),false,false⟩),((7181,g1),some tok),((7185,g2),some tok)],q.m⟩) ?_ ?_
    case refine_2=>
      clear hT
      refine zap Go.Proofs.YtmconmiemdinkaaDoor.hm zfL 7000 (lsw [51,179,181,185] [1000052,1000060]) (ι:=zo1 Lo m4 fun i b=>(b=true→l.Nodup∧zcO s l=true∧(s.overs.take i).all (zfY s l)=true)∧(b=false→okD s l=false))
        ⟨fun q=>⟨frL [(1,.ptr (7001,0) 0),(5,.fz (.sl (U.map enc))),(6,.fz (.sl (N.map enc))),(11,.arr (7055,m) 1 0 M),(4,.fz (.i .i64 j)),(9,.ow (7181,g1) 1 ((O).map enc)),(10,.ow (7185,g2) 4 ((F).map enc)),(12,.fz (.b q.b)),(13,.fz (.i .i64 (zlo l j))),(19,.fz (.i .i64 q.i))],
          hpL [((7001,0),some ⟨[.fz (.sl (s.pieces.map enc)),.fz (.sl (s.overs.map enc)),.fz (.sl (s.vars.map enc))],true,false⟩),((7055,m),some ⟨zag ((zay l).map enc),false,false⟩),((7181,g1),some tok),((7185,g2),some tok)],q.m⟩,fun q=>Lo-q.i⟩
        ⟨0,b,m4,by omega,Nat.le_refl _,fun h=>⟨(hb1 h).1,(hb1 h).2,by simp⟩,hb2⟩ (by kernel_rfl) ?_ ?_
      · refine zai ?_ ?_ ?_<;>(try simp only[go_sem])
        all_goals first|done|rfl|omega
      rintro⟨i2,c,m5,hi2,hm6,hc1,hc2⟩
      try simp only at hi2 hm6 hc1 hc2
      cases c with
      |false=>
        repeat'(first|refine And.intro ?_ ?_|exact True.intro|refine rq fun _=>?_|refine rf fun _=>?_|simp only[go_sem,zac,zae,zad,zaf,zah,zaa,Tryd.f7,Sd1,Sc0])
        refine⟨⟨false,m5,by omega,by simp,fun _=>hc2 rfl⟩,?_⟩
        refine zai ?_ ?_ ?_<;>(try simp only[go_sem])
        all_goals first|done|rfl|omega
      |true=>
        obtain⟨hn,htr,hall2⟩:=hc1 rfl
        rcases Nat.lt_or_ge i2 Lo with h2|h2
        · have h9:((i2:Int)<(Lo:Int))=True:=eq_true (by omega)
          have h2':i2<s.overs.length:=by omega
          obtain⟨ob,hob⟩:∃ob,s.overs[i2]=ob:=⟨_,rfl⟩
          have hmem:ob∈s.overs:=by rw[←hob];exact List.getElem_mem h2'
          obtain⟨ho1,ho2⟩:=hs.ovs ob hmem
          have hts:=List.take_succ_eq_append_getElem h2'
          rw[hob]at hts
          have hx0:∀(Z:List Str) (x:Str),hIx Z x 0=0:=fun Z x=>rfl
          repeat'(first|refine And.intro ?_ ?_|exact True.intro|refine rq fun _=>?_|refine rf fun _=>?_|simp only[go_sem,h9,h2,h2',hob,hLo,zac,zae,zad,zaf,zah,zaa,Tryd.f7,Sd1,Sc0])
          refine zap Go.Proofs.YtmconmiemdinkaaDoor.hm zfL 7000 (lsw [51,179,181,185] [1000052,1000060]) (ι:=zdI M (m5+1) fun _=>True)
            ⟨fun q=>⟨frL [(1,.ptr (7001,0) 0),(5,.fz (.sl (U.map enc))),(6,.fz (.sl (N.map enc))),(11,.arr (7055,m) 1 0 M),(4,.fz (.i .i64 j)),(9,.ow (7181,g1) 1 ((O).map enc)),(10,.ow (7185,g2) 4 ((F).map enc)),(12,.fz (.b true)),(13,.fz (.i .i64 (zlo l j))),(19,.fz (.i .i64 i2)),(20,.ptr (7020,m5) 0),(21,.fz (.i .i64 (hIx N ob.hole q.i))),(22,.fz (.i .i64 0)),(110,.fz (.i .i64 M)),(111,.fz (.i .i64 q.i))],
              hpL [((7001,0),some ⟨[.fz (.sl (s.pieces.map enc)),.fz (.sl (s.overs.map enc)),.fz (.sl (s.vars.map enc))],true,false⟩),((7055,m),some ⟨zag ((zay l).map enc),false,false⟩),((7181,g1),some tok),((7185,g2),some tok),((7020,m5),some ⟨[.fz (.s ob.hole.l),.fz (.s ob.label.l)],true,false⟩)],q.m⟩,fun q=>M-q.i⟩
            ⟨0,m5+1,by omega,Nat.le_refl _,trivial⟩ (by kernel_rfl) ?_ ?_
          · refine zai ?_ ?_ ?_<;>(try simp only[go_sem,hx0,hM])
            all_goals first|done|rfl|omega
          rintro⟨q,m6,hq,hm7,_⟩
          try simp only at hq hm7
          rcases Nat.lt_or_ge q M with h3|h3
          · have h3':q<N.length:=by omega
            have h8:((q:Int)<(M:Int))=True:=eq_true (by omega)
            obtain⟨y,hy⟩:∃y,N[q]=y:=⟨_,rfl⟩
            by_cases hyx:y=ob.hole
            · have hyl:(y.l=ob.hole.l)=True:=eq_true (by rw[hyx])
              have hst:=zpZ hNd h3' (hy.trans hyx)
              repeat'(first|refine And.intro ?_ ?_|exact True.intro|refine rq fun _=>?_|refine rf fun _=>?_|simp only[go_sem,h8,h3',hy,hyl,zac,zae,zad,zaf,zah,zaa,Tryd.f7,Sd1,Sc0])
              refine⟨⟨q+1,m6,by omega,by omega,trivial⟩,by simp only;omega,?_⟩
              refine zai ?_ ?_ ?_<;>(try simp only[go_sem,hst])
              all_goals first|done|rfl|omega
            · have hyl:(y.l=ob.hole.l)=False:=eq_false fun e=>hyx (by cases h:y;cases h2:ob.hole;rw[h,h2]at e;exact congrArg Str.mk e)
              have hst:=zmW (x:=ob.hole) h3' (by rw[hy];exact hyx)
              repeat'(first|refine And.intro ?_ ?_|exact True.intro|refine rq fun _=>?_|refine rf fun _=>?_|simp only[go_sem,h8,h3',hy,hyl,zac,zae,zad,zaf,zah,zaa,Tryd.f7,Sd1,Sc0])
              refine⟨⟨q+1,m6,by omega,by omega,trivial⟩,by simp only;omega,?_⟩
              refine zai ?_ ?_ ?_<;>(try simp only[go_sem,hst])
              all_goals first|done|rfl|omega
          obtain rfl:M=q:=by omega
          have hend:=zpY (N:=N) (x:=ob.hole) (by rw[←hN];exact ho1)
          rw[hM]at hend
          have hlal:(zan s.pieces).length=j:=by unfold zan;rw[List.length_map];exact hL
          have hpj:s.pieces.length=j:=hL
          repeat'(first|refine And.intro ?_ ?_|exact True.intro|refine rq fun _=>?_|refine rf fun _=>?_|simp only[go_sem,Nat.lt_irrefl,Int.lt_irrefl,hL,hend,zac,zae,zad,zaf,zah,zaa,Tryd.f7,Sd1,Sc0])
          refine zap Go.Proofs.YtmconmiemdinkaaDoor.hm zfL 7000 (lsw [51,179,181,185] [1000052,1000060]) (ι:=zdI j m6 fun _=>True)
            ⟨fun q=>⟨frL [(1,.ptr (7001,0) 0),(5,.fz (.sl (U.map enc))),(6,.fz (.sl (N.map enc))),(11,.arr (7055,m) 1 0 M),(4,.fz (.i .i64 j)),(9,.ow (7181,g1) 1 ((O).map enc)),(10,.ow (7185,g2) 4 ((F).map enc)),(12,.fz (.b true)),(13,.fz (.i .i64 (zlo l j))),(19,.fz (.i .i64 i2)),(20,.ptr (7020,m5) 0),(21,.fz (.i .i64 (N.idxOf ob.hole:Nat))),(22,.fz (.i .i64 (hIx (zan s.pieces) ob.label q.i))),(125,.fz (.i .i64 j)),(126,.fz (.i .i64 q.i))],
              hpL [((7001,0),some ⟨[.fz (.sl (s.pieces.map enc)),.fz (.sl (s.overs.map enc)),.fz (.sl (s.vars.map enc))],true,false⟩),((7055,m),some ⟨zag ((zay l).map enc),false,false⟩),((7181,g1),some tok),((7185,g2),some tok),((7020,m5),some ⟨[.fz (.s ob.hole.l),.fz (.s ob.label.l)],true,false⟩)],q.m⟩,fun q=>j-q.i⟩
            ⟨0,m6,by omega,Nat.le_refl _,trivial⟩ (by kernel_rfl) ?_ ?_
          · refine zai ?_ ?_ ?_<;>(try simp only[go_sem,hx0])
            all_goals first|done|rfl|omega
          rintro⟨q,m7,hq,hm8,_⟩
          try simp only at hq hm8
          rcases Nat.lt_or_ge q j with h3|h3
          · have h3':q<s.pieces.length:=by omega
            have h8:((q:Int)<(j:Int))=True:=eq_true (by omega)
            obtain⟨y,hy⟩:∃y,s.pieces[q]=y:=⟨_,rfl⟩
            have h3b:q<(zan s.pieces).length:=by omega
            have hlab:(zan s.pieces)[q]=y.label:=by simp only[zan,List.getElem_map,hy]
            by_cases hyx:y.label=ob.label
            · have hyl:(y.label.l=ob.label.l)=True:=eq_true (by rw[hyx])
              have hst:=zpZ hs.lab h3b (hlab.trans hyx)
              repeat'(first|refine And.intro ?_ ?_|exact True.intro|refine rq fun _=>?_|refine rf fun _=>?_|simp only[go_sem,h8,h3',hy,hyl,zac,zae,zad,zaf,zah,zaa,Tryd.f7,Sd1,Sc0])
              refine⟨⟨q+1,m7,by omega,by omega,trivial⟩,by simp only;omega,?_⟩
              refine zai ?_ ?_ ?_<;>(try simp only[go_sem,hst])
              all_goals first|done|rfl|omega
            · have hyl:(y.label.l=ob.label.l)=False:=eq_false fun e=>hyx (by cases h:y.label;cases h2:ob.label;rw[h,h2]at e;exact congrArg Str.mk e)
              have hst:=zmW (x:=ob.label) h3b (by rw[hlab];exact hyx)
              repeat'(first|refine And.intro ?_ ?_|exact True.intro|refine rq fun _=>?_|refine rf fun _=>?_|simp only[go_sem,h8,h3',hy,hyl,zac,zae,zad,zaf,zah,zaa,Tryd.f7,Sd1,Sc0])
              refine⟨⟨q+1,m7,by omega,by omega,trivial⟩,by simp only;omega,?_⟩
              refine zai ?_ ?_ ?_<;>(try simp only[go_sem,hst])
              all_goals first|done|rfl|omega
          obtain rfl:j=q:=by omega
          have hend2:=zpY (N:=zan s.pieces) (x:=ob.label) ho2
          rw[hlal]at hend2
          have hix:N.idxOf ob.hole<l.length:=by rw[hll,←hM];exact List.idxOf_lt_length_of_mem (by rw[←hN];exact ho1)
          have hin:l[N.idxOf ob.hole]=inP s l ob.hole:=by
            unfold inP
            rw[hN,List.getD_eq_getElem?_getD,List.getElem?_eq_getElem hix];rfl
          have gd:=kg.out _ hix
          rw[hin]at gd
          obtain⟨z,hz⟩:∃z,N.idxOf ob.hole=z:=⟨_,rfl⟩
          rw[hz]at gd hix
          have hli:zdh s (zay l) ((inP s l ob.hole:Nat):Int) (((zan s.pieces).idxOf ob.label:Nat):Int)=zfY s l ob:=hlies _ _
          cases hr:zfY s l ob with
          |true=>
            rw[hr]at hli
            repeat'(first|refine zaF.i (zus hab (by simp only;omega) (by simp only[go_sem]) (by rw[hlil,hll]) fun n' hn'=>?_)|refine And.intro ?_ ?_|exact True.intro|refine rq fun _=>?_|refine rf fun _=>?_|simp only[go_sem,Nat.lt_irrefl,Int.lt_irrefl,hend2,hz,gd,hfl,hli,zac,zae,zad,zaf,zah,zaa,Tryd.f7,Sd1,Sc0])
            refine⟨⟨i2+1,true,n',by omega,by omega,fun _=>⟨hn,htr,by rw[hts,List.all_append,hall2];simp[hr]⟩,by simp⟩,by simp only;omega,?_⟩
            refine zai ?_ ?_ ?_<;>(try simp only[go_sem])
            all_goals first|done|rfl|omega
          |false=>
            rw[hr]at hli
            repeat'(first|refine zaF.i (zus hab (by simp only;omega) (by simp only[go_sem]) (by rw[hlil,hll]) fun n' hn'=>?_)|refine And.intro ?_ ?_|exact True.intro|refine rq fun _=>?_|refine rf fun _=>?_|simp only[go_sem,Nat.lt_irrefl,Int.lt_irrefl,hend2,hz,gd,hfl,hli,zac,zae,zad,zaf,zah,zaa,Tryd.f7,Sd1,Sc0])
            refine⟨⟨i2+1,false,n',by omega,by omega,by simp,fun _=>hbadO ob hmem hr⟩,by simp only;omega,?_⟩
            refine zai ?_ ?_ ?_<;>(try simp only[go_sem])
            all_goals first|done|rfl|omega
        · obtain rfl:i2=Lo:=by omega
          rw[List.take_of_length_le (by omega)]at hall2
          repeat'(first|refine And.intro ?_ ?_|exact True.intro|refine rq fun _=>?_|refine rf fun _=>?_|simp only[go_sem,Nat.lt_irrefl,Int.lt_irrefl,hLo,zac,zae,zad,zaf,zah,zaa,Tryd.f7,Sd1,Sc0])
          refine⟨⟨true,m5,by omega,fun _=>⟨hn,htr,hall2⟩,by simp⟩,?_⟩
          refine zai ?_ ?_ ?_<;>(try simp only[go_sem])
          all_goals first|done|rfl|omega
    rintro⟨b,m5,hm6,hb1,hb2⟩
    try simp only at hm6 hb1 hb2
    have hOl:O.length≤100000:=by
      have h1:=zit (s:=s) (i:=i)
      have h2:=zkZ (j:=j) (M:=M) (by omega) (by omega)
      rw[←hO];omega
    have hFl:F.length≤100000:=by rw[←hF,List.length_map];exact hOl
    cases b with
    |false=>
      rw[if_neg (by rw[hb2 rfl];decide),List.append_nil]at hsuc
      repeat'(first|refine And.intro ?_ ?_|exact True.intro|refine rq fun _=>?_|refine rf fun _=>?_|simp only[go_sem,hTl,zac,zae,zad,zaf,zah,zaa,Tryd.f7,Sd1,Sc0])
      refine zcl ?_ (hT g1 g2 m5 O F (by omega) (by omega) (by omega) hsuc hF)
      refine zai ?_ ?_ ?_<;>(try simp only[go_sem])
      all_goals first|done|rfl|omega
    |true=>
      obtain⟨hn,htr,hov⟩:=hb1 rfl
      have hk:=hokN hn
      have hte:=htop hn
      have hwf:=ziT hk htr
      have hws:=zeZ hs hk htr
      have hwt:(zdG s l).fit=true:=zfZ hs _ _
      have htl:zdT (nP s) l<s.pieces.length:=hk.t.1
      obtain⟨t,htt⟩:∃t,zdT (nP s) l=t:=⟨_,rfl⟩
      rw[htt]at hte hwf htl
      obtain⟨pc,hpc⟩:∃pc,s.pieces[t]=pc:=⟨_,rfl⟩
      have hfo:zbE s t=pc.form:=by unfold zbE;rw[List.getElem?_eq_getElem htl,hpc]
      rw[hfo]at hwf
      have hwd:zfF s (zay l)=zdG s l:=by unfold zfF;rw[zcr]
      have hfop:zeg (zbV s l) s pc.form:=⟨⟨zqq hs hk,by rw[zc4];exact htr⟩,fun h hh=>zdP (i:=t) (by rw[zce,hfo];exact hh),by
        have:=zaV (hs.chk pc (by rw[←hpc];exact List.getElem_mem _));omega⟩
      have hvar:∀v,zrj s l v= !decide (v∈zhW (zdG s l) [] []):=fun v=>by
        unfold zrj
        congr 1
        exact decide_eq_decide.2 (by rw[zm6];simp)
      have hokV:okD s l=s.vars.all (zrj s l):=by unfold okD okS;rw[decide_eq_true hn,htr,hov];simp
      obtain⟨W,hW⟩:∃W,zdG s l=W:=⟨_,rfl⟩
      rw[hW]at hwf hws hwt hwd hvar
      have hcw:W.fit=true∧W.size≤1000:=⟨hwt,by omega⟩
      obtain⟨Lv,hLv⟩:∃Lv,s.vars.length=Lv:=⟨_,rfl⟩
      have hvl:=hs.vs
      rw[hLv]at hvl
      have kva:=Kp.mk hvar
      clear hvar
      apply zBt (A:=fun cc q=>∀(c mm:Nat),c<mm→m+3≤mm→g1<mm→g2<mm→@WK Tryd.prog GA 215 cc ⟨frL [(1,.ptr (7001,0) 0),(5,.fz (.sl (U.map enc))),(6,.fz (.sl (N.map enc))),(11,.arr (7055,m) 1 0 M),(4,.fz (.i .i64 j)),(9,.ow (7181,g1) 1 ((O).map enc)),(10,.ow (7185,g2) 4 ((F).map enc)),(12,.fz (.b true)),(25,.ptr (7025,c) 0),(26,.fz (.sl ((zhW W [] []).map enc))),(161,.fz (.sl (s.vars.map enc))),(162,.fz (.i .i64 Lv)),(163,.fz (.i .i64 0))],hpL [((7001,0),some ⟨[.fz (.sl (s.pieces.map enc)),.fz (.sl (s.overs.map enc)),.fz (.sl (s.vars.map enc))],true,false⟩),((7055,m),some ⟨zag ((zay l).map enc),false,false⟩),((7181,g1),some tok),((7185,g2),some tok),((7025,c),some ⟨[.fz (.i .i64 W.kind),.fz (.s W.name.l),.fz (.sl (W.words.map enc)),.fz (.sl (W.subs.map enc))],true,false⟩)],mm⟩ ⟨q⟩)
      case h1=>
        intro hV
        repeat'(first|refine zdc (id:=52) Go.Proofs.YtmconmiemdinkaaDoor.hm zfL 7000 (lsw [51,179,181,185] [1000052,1000060]) zqS (by kernel_rfl) (by kernel_rfl) ?_|refine zaG.i hcw fun _=>?_|refine zaF.i (ztR hs hk hll.symm (zer s l pc.form+1) pc.form _ _ _ (by omega) hfop (by simp only;omega) (by simp only[go_sem]) fun n' hn'=>?_)|rw[hwf]|refine And.intro ?_ ?_|exact True.intro|refine rq fun _=>?_|refine rf fun _=>?_|simp only[go_sem,zqS,hte,htl,hpc,hLv,zac,zae,zad,zaf,zah,zaa,Tryd.f7,Sd1,Sc0])
        all_goals
          first
          |(refine zcl ?_ (hV n' (n'+1) (by omega) (by omega) (by omega) (by omega));refine zai ?_ ?_ ?_<;>(try simp only[go_sem])<;>first|done|rfl|omega)
          |(refine zcl ?_ (hV m5 n' (by omega) (by omega) (by omega) (by omega));refine zai ?_ ?_ ?_<;>(try simp only[go_sem])<;>first|done|rfl|omega)
      case h2=>
        clear hb1 hb2 hm6 m5
        intro c m5 hcm hm6 hg1 hg2
        refine zlC (.exit 16) (fun q:zzn m5 (fun b=>(b=true→okD s l=true)∧(b=false→okD s l=false))=>⟨frL [(1,.ptr (7001,0) 0),(5,.fz (.sl (U.map enc))),(6,.fz (.sl (N.map enc))),(11,.arr (7055,m) 1 0 M),(4,.fz (.i .i64 j)),(9,.ow (7181,g1) 1 ((O).map enc)),(10,.ow (7185,g2) 4 ((F).map enc)),(12,.fz (.b q.b)),(25,.ptr (7025,c) 0)],hpL [((7001,0),some ⟨[.fz (.sl (s.pieces.map enc)),.fz (.sl (s.overs.map enc)),.fz (.sl (s.vars.map enc))],true,false⟩),((7055,m),some ⟨zag ((zay l).map enc),false,false⟩),((7181,g1),some tok),((7185,g2),some tok),((7025,c),some ⟨[.fz (.i .i64 W.kind),.fz (.s W.name.l),.fz (.sl (W.words.map enc)),.fz (.sl (W.subs.map enc))],true,false⟩)],q.m⟩) ?_ ?_
        case refine_2=>
          refine zap Go.Proofs.YtmconmiemdinkaaDoor.hm zfL 7000 (lsw [51,179,181,185] [1000052,1000060]) (ι:=zo1 Lv m5 fun i b=>(b=true→(s.vars.take i).all (zrj s l)=true)∧(b=false→okD s l=false))
            ⟨fun q=>⟨frL [(1,.ptr (7001,0) 0),(5,.fz (.sl (U.map enc))),(6,.fz (.sl (N.map enc))),(11,.arr (7055,m) 1 0 M),(4,.fz (.i .i64 j)),(9,.ow (7181,g1) 1 ((O).map enc)),(10,.ow (7185,g2) 4 ((F).map enc)),(12,.fz (.b q.b)),(25,.ptr (7025,c) 0),(26,.fz (.sl ((zhW W [] []).map enc))),(161,.fz (.sl (s.vars.map enc))),(162,.fz (.i .i64 Lv)),(163,.fz (.i .i64 (q.i:Nat)))],
              hpL [((7001,0),some ⟨[.fz (.sl (s.pieces.map enc)),.fz (.sl (s.overs.map enc)),.fz (.sl (s.vars.map enc))],true,false⟩),((7055,m),some ⟨zag ((zay l).map enc),false,false⟩),((7181,g1),some tok),((7185,g2),some tok),((7025,c),some ⟨[.fz (.i .i64 W.kind),.fz (.s W.name.l),.fz (.sl (W.words.map enc)),.fz (.sl (W.subs.map enc))],true,false⟩)],q.m⟩,fun q=>Lv-q.i⟩
            ⟨0,true,m5,by omega,by omega,by simp⟩ (by kernel_rfl) ?_ ?_
          · refine zai ?_ ?_ ?_<;>(try simp only[go_sem])
            all_goals first|done|rfl|omega
          rintro⟨k,b,m6,hk6,hm7,hc1,hc2⟩
          try simp only at hk6 hm7 hc1 hc2
          rcases Nat.lt_or_ge k Lv with h2|h2
          · have h2':k<s.vars.length:=by omega
            have h9:((k:Int)<(Lv:Int))=True:=eq_true (by omega)
            obtain⟨v,hv⟩:∃v,s.vars[k]=v:=⟨_,rfl⟩
            have hmem:v∈s.vars:=by rw[←hv];exact List.getElem_mem h2'
            have gv:=kva.out v
            have hts:=List.take_succ_eq_append_getElem h2'
            rw[hv]at hts
            cases b with
            |false=>
              repeat'(first|refine And.intro ?_ ?_|exact True.intro|refine rq fun _=>?_|refine rf fun _=>?_|simp only[go_sem,h9,h2',hv,zac,zae,zad,zaf,zah,zaa,Tryd.f7,Sd1,Sc0])
              refine⟨⟨k+1,false,m6,by omega,by omega,by simp,hc2⟩,by simp only;omega,?_⟩
              refine zai ?_ ?_ ?_<;>(try simp only[go_sem])
              all_goals first|done|rfl|omega
            |true=>
              cases hb:decide (v∈zhW W [] [])with
              |true=>
                rw[hb]at gv
                have hbad:okD s l=false:=by
                  rw[hokV,Bool.eq_false_iff]
                  intro h
                  have:=List.all_eq_true.1 h v hmem
                  rw[gv]at this;cases this
                repeat'(first|refine And.intro ?_ ?_|exact True.intro|refine rq fun _=>?_|refine rf fun _=>?_|simp only[go_sem,h9,h2',hv,hb,zac,zae,zad,zaf,zah,zaa,Tryd.f7,Sd1,Sc0])
                refine⟨⟨k+1,false,m6,by omega,by omega,by simp,fun _=>hbad⟩,by simp only;omega,?_⟩
                refine zai ?_ ?_ ?_<;>(try simp only[go_sem])
                all_goals first|done|rfl|omega
              |false=>
                rw[hb]at gv
                repeat'(first|refine And.intro ?_ ?_|exact True.intro|refine rq fun _=>?_|refine rf fun _=>?_|simp only[go_sem,h9,h2',hv,hb,zac,zae,zad,zaf,zah,zaa,Tryd.f7,Sd1,Sc0])
                refine⟨⟨k+1,true,m6,by omega,by omega,fun _=>by rw[hts,List.all_append,hc1 rfl];simp[gv],by simp⟩,by simp only;omega,?_⟩
                refine zai ?_ ?_ ?_<;>(try simp only[go_sem])
                all_goals first|done|rfl|omega
          obtain rfl:Lv=k:=by omega
          repeat'(first|refine And.intro ?_ ?_|exact True.intro|refine rq fun _=>?_|refine rf fun _=>?_|simp only[go_sem,Nat.lt_irrefl,Int.lt_irrefl,zac,zae,zad,zaf,zah,zaa,Tryd.f7,Sd1,Sc0])
          refine⟨⟨b,m6,by omega,fun h=>by rw[hokV,←hc1 h,List.take_of_length_le (by omega)],hc2⟩,?_⟩
          refine zai ?_ ?_ ?_<;>(try simp only[go_sem])
          all_goals first|done|rfl|omega
        rintro⟨b,m6,hm7,hc1,hc2⟩
        try simp only at hm7 hc1 hc2
        cases b with
        |false=>
          rw[if_neg (by rw[hc2 rfl];decide),List.append_nil]at hsuc
          repeat'(first|refine And.intro ?_ ?_|exact True.intro|refine rq fun _=>?_|refine rf fun _=>?_|simp only[go_sem,hTl,zac,zae,zad,zaf,zah,zaa,Tryd.f7,Sd1,Sc0])
          refine zcl ?_ (hT g1 g2 m6 O F (by omega) (by omega) (by omega) hsuc hF)
          refine zai ?_ ?_ ?_<;>(try simp only[go_sem])
          all_goals first|done|rfl|omega
        |true=>
          rw[if_pos (hc1 rfl)]at hsuc
          have htk2:(zay l).take M=zay l:=List.take_of_length_le (by omega)
          have hF2:(O++[zay l]).map (zfF s)=F++[W]:=by rw[List.map_append,hF];simp only[List.map_cons,List.map_nil,hwd]
          repeat'(first|refine zdc (id:=60) Go.Proofs.YtmconmiemdinkaaDoor.hm zfL 7000 (lsw [51,179,181,185] [1000052,1000060]) zqT (by kernel_rfl) (by kernel_rfl) ?_|refine And.intro ?_ ?_|exact True.intro|refine rq fun _=>?_|refine rf fun _=>?_|simp only[go_sem,hTl,htk2,zqT,zac,zae,zad,zaf,zah,zaa,Tryd.f7,Sd1,Sc0])
          all_goals
            refine zcl ?_ (hT (m6+1) (m6+1+1) (m6+1+1+1) (O++[zay l]) (F++[W]) (by omega) (by omega) (by omega) hsuc hF2)
            refine zai ?_ ?_ ?_<;>(try simp only[go_sem,htk2])
            all_goals first|done|rfl|omega
  case h2=>
    clear hsuc hF F hO O hb1 hb2 b
    obtain⟨TA,hTA⟩:∃TA,List.replicate M j=TA:=⟨_,rfl⟩
    have hTT:TA.length=(zay l).length:=by rw[←hTA,List.length_replicate,hTl]
    have hinc:=zkH (s:=j) (by omega) M i hi
    rw[hTA,hDe]at hinc
    have hzA:zeL (TA.drop (M-0)) ((zay l).drop (M-0))=(List.replicate 0 0,true):=by
      have:=zp5 hTT
      rw[show TA.length=M by omega]at this
      exact this
    have hTb:∀q (h:q<(zay l).length),0≤(zay l)[q]∧(zay l)[q]<(j:Int):=fun q h=>hDb _ (by rw[hDe];exact List.getElem_mem h)
    obtain⟨JA,hJA⟩:∃JA:Nat→Int,JA=fun q:Nat=>(M:Int)-1-(q:Int):=⟨_,rfl⟩
    have hJA0:JA 0=(M:Int)-1:=by rw[hJA];simp
    have hJAe:JA M= -1:=by rw[hJA];simp only;omega
    have hJAp:∀q p,p+q+1=M→JA q=(p:Int)∧JA (q+1)=(p:Int)-1:=fun q p h=>by rw[hJA];simp only;omega
    have kJA:=Kp.mk hJAp
    have kTv:=Kp.mk hTb
    have hczA:=zpw hTl
    have hfm:zb6 s=zdt s (j^M):=by
      unfold zb6
      rw[if_neg (by rw[hN,hM];omega),hN,hM,←hjn]
    clear hJAp hTb hJA
    intro G1 G2 m5 O F hG1 hG2 hm6 hsuc hF
    refine zap Go.Proofs.YtmconmiemdinkaaDoor.hm zfL 7000 (lsw [51,179,181,185] [1000052,1000060]) (ι:=zd3 M fun q=>zeL (TA.drop (M-q)) ((zay l).drop (M-q))=(List.replicate q 0,true))
      ⟨fun q=>⟨frL [(1,.ptr (7001,0) 0),(5,.fz (.sl (U.map enc))),(6,.fz (.sl (N.map enc))),(11,.arr (7055,m) 1 0 M),(4,.fz (.i .i64 j)),(9,.ow (7181,G1) 1 ((O).map enc)),(10,.ow (7185,G2) 4 ((F).map enc)),(29,.fz (.i .i64 (JA q.i)))],hpL [((7001,0),some ⟨[.fz (.sl (s.pieces.map enc)),.fz (.sl (s.overs.map enc)),.fz (.sl (s.vars.map enc))],true,false⟩),((7055,m),some ⟨zag ((zii (zay l) M q.i).map enc),false,false⟩),((7181,G1),some tok),((7185,G2),some tok)],m5⟩,fun q=>M-q.i⟩
      ⟨0,by omega,hzA⟩ (by kernel_rfl) ?_ ?_
    · refine zai ?_ ?_ ?_<;>(try simp only[go_sem,hJA0,hczA])
      all_goals first|done|rfl|omega
    rintro⟨q,hq,hpq⟩
    try simp only at hq hpq
    rcases Nat.lt_or_ge q M with h12|h12
    rotate_left
    · have hqM:q=M:=by omega
      rw[hqM,Nat.sub_self,List.drop_zero,List.drop_zero,hinc]at hpq
      have hkN:i+1=j^M:=by
        have:=congrArg Prod.snd hpq
        simpa using this
      have hfin:zee s=(O,(O).map (zfF s)):=by unfold zee;rw[hfm,←hkN,hsuc]
      have hJq:JA q= -1:=by rw[hqM];exact hJAe
      repeat'(first|refine And.intro ?_ ?_|exact True.intro|refine rq fun _=>?_|refine rf fun _=>?_|simp only[go_sem,hJq,zac,zae,zad,zaf,zah,zaa,Tryd.f7,Sd1,Sc0])
      all_goals
        rw[hQ,hfin]
        try simp only[go_sem,hF]
        all_goals first|done|rfl|omega
    obtain⟨p,hp⟩:∃p,p+q+1=M:=⟨M-1-q,by omega⟩
    obtain⟨e1,e4⟩:=kJA.out q p hp
    have hpD:p<(zay l).length:=by omega
    have hpT:p<TA.length:=by omega
    have hclen:=zrx hTl hq
    have hpC:p<(zii (zay l) M q).length:=by omega
    have hcg:=zrw hTl hp hpC hpD
    obtain⟨d,hd⟩:∃d,(zay l)[p]=d:=⟨_,rfl⟩
    have hdb:=kTv.out p hpD
    rw[hd]at hcg hdb
    have hgd:(zag ((zii (zay l) M q).map enc)).getD p .junk= .fz (.i .i64 d):=by rw[zpS hpC,hcg];rfl
    have hcfl:(zag ((zii (zay l) M q).map enc)).length=M:=by rw[zc1 (zbR (f:=enc) (k:=1) (fun _=>rfl) _),List.length_map,hclen]
    have hT:=zEe hTT (by rw[show p+1=M-q by omega];exact hpq) hpT hpD
    have hta:TA[p]=j:=by simp only[←hTA,List.getElem_replicate]
    rw[hd,hta]at hT
    have e2:((0:Int)≤(p:Int))=True:=eq_true (by omega)
    have e3:((p:Int)<0)=False:=eq_false (by omega)
    have hpi:p<M:=by omega
    by_cases h11:d+1<(j:Int)
    · have h11':(d=(j:Int)-1)=False:=eq_false (by omega)
      obtain⟨E,hE⟩:∃E,(zii (zay l) M q).set p (d+1)=E:=⟨_,rfl⟩
      have hst:(zag ((zii (zay l) M q).map enc)).set p (.fz (.i .i64 (d+1)))=zag (E.map enc):=by rw[←hE,←zjm];rfl
      have h13:=hT.2 h11
      rw[hinc]at h13
      have hkN:i+1<j^M:=by
        have h14:=congrArg Prod.snd h13
        have h15:¬i+1=j^M:=by simpa using h14
        omega
      have hEn:E=zcy j M (i+1):=by
        have h16:=congrArg Prod.fst h13
        simp only at h16
        rw[←hE,zpv hTl hp,←h16,Nat.mod_eq_of_lt hkN]
      repeat'(first|refine And.intro ?_ ?_|exact True.intro|refine rq fun _=>?_|refine rf fun _=>?_|simp only[go_sem,e1,e2,e3,hgd,hst,hpi,hcfl,hclen,h11',zac,zae,zad,zaf,zah,zaa,Tryd.f7,Sd1,Sc0])
      refine⟨⟨i+1,G1,G2,m5,hkN,by omega,by omega,by omega⟩,by simp only;omega,?_⟩
      refine zai ?_ ?_ ?_<;>(try simp only[go_sem,hEn,hsuc,hF])
      all_goals first|done|rfl|omega
    · have h11':(d=(j:Int)-1)=True:=eq_true (by omega)
      have hst2:(zag ((zii (zay l) M q).map enc)).set p (.fz (.i .i64 0))=zag ((zii (zay l) M (q+1)).map enc):=by rw[←zry hTl hp,←zjm];rfl
      repeat'(first|refine And.intro ?_ ?_|exact True.intro|refine rq fun _=>?_|refine rf fun _=>?_|simp only[go_sem,e1,e2,hgd,hst2,hpi,hcfl,hclen,h11',zac,zae,zad,zaf,zah,zaa,Tryd.f7,Sd1,Sc0])
      refine⟨⟨q+1,by omega,by rw[show M-(q+1)=p by omega];exact hT.1 (by omega)⟩,by simp only;omega,?_⟩
      refine zai ?_ ?_ ?_<;>(try simp only[go_sem,e4])
      all_goals first|done|rfl|omega
end Go.Proofs.YtmconmiemdinkaaDoor

import Derived.Test.YtalbdmcklgglbaaDoorAT
import Derived.Test.YtalbdmcklgglbaaDoorQ228
set_option linter.unusedSimpArgs false
namespace Go.Proofs.YtalbdmcklgglbaaDoor
open Go Go.Abs Go.Proofs
structure zxW (n n0:Nat) where
 i:Nat
 g1:Nat
 g2:Nat
 m:Nat
 hi:i≤n
 h1:g1<m
 h2:g2<m
 hm:n0≤m
def zsm:Tv:=(.q 0 (.q 1 (.q 2 (.q 3 (.q 4 (.q 5 (.q 6 (.q 7 (.q 8 (.q 9 (.q 10 (.q 11 (.q 12 (.q 13 (.q 14 (.q 15 (.q 16 (.q 17 (.q 18 (.q 19 (.br [(20,(.br [(21,.leaf)]))])))))))))))))))))))))
def zj7:Tv:=(.q 0 (.q 1 (.q 2 (.q 3 (.q 4 (.q 5 (.q 6 (.q 7 (.q 8 (.q 9 (.q 10 (.q 11 (.q 12 .leaf)))))))))))))
def zsn:Tv:=(.q 0 (.q 1 (.q 2 (.q 4 (.q 5 (.r 6 (.q 7 (.br [(3,(.br [(8,(.q 9 (.q 10 .leaf)))]))]))))))))
def zso:Tv:=(.q 0 (.q 2 (.q 3 (.r 1 (.br [(4,(.q 5 (.br [(6,(.br [(7,.leaf)]))]))),(6,(.br [(4,(.q 5 (.br [(7,.leaf)])))]))])))))
def V6:Tbl:=V5.add 14 (zsM zu6 okS)
attribute [go_sem] V6
set_option maxHeartbeats 16000000 in
set_option maxRecDepth 100000 in
set_option maxHeartbeats 1000000 in
theorem hV6:zan Tryd.prog G0 V6:=by
 refine zn6 Box.size zEL hV5 fun n hT b v hn hp _ _=>?_
 obtain⟨Q,hQ⟩:∃Q:D→zas→Nat→Prop,Q=(fun d _ _=>D.val d=some (.tup [.fz (enc (zu6 b v).1),.fz (enc (zu6 b v).2.1),.fz (enc (zu6 b v).2.2)])):=⟨_,rfl⟩
 rw[←hQ]
 have hQn:zfa b v=none→∀H n,Q (.tup [.full [],.full [],.fz (.b false)]) H n:=fun h H n=>by rw[hQ,zhV h];rfl
 have hQs:∀l,zfa b v=some l→∀(i j:Abs.Id) (H:zas) (n:Nat),Q (.tup [.ow i 2 ((l.map Prod.fst).map enc),.ow j 2 ((l.map Prod.snd).map enc),.fz (.b true)]) H n:=fun l h i j H n=>by rw[hQ,zfG h];rfl
 have hQt:∀l,zfa b v=some l→∀(i:Abs.Id) (H:zas) (n:Nat),Q (.tup [.ow i 2 ((l.map Prod.fst).map enc),.fz (.sl ((l.map Prod.snd).map enc)),.fz (.b true)]) H n:=fun l h i H n=>by rw[hQ,zfG h];rfl
 have hlen:=zmU hp
 have hwith:v.refs.length+b.refs.length≤1000000∧v.conds.length+b.conds.length≤1000000:=by omega
 obtain⟨v1,hv1⟩:∃v1,zaK v b=v1:=⟨_,rfl⟩
 have hways:∀c∈b.conds,okW v1 c:=fun c hc=>by rw[←hv1];exact zjG hp hc
 have hin:∀i (hi:i<b.conds.length),¬(b.conds[i].kind=5∨b.conds[i].kind=6)→∀k (hk:k<b.conds[i].boxes.length),okS b.conds[i].boxes[k] (zbH v1 b.conds[i] k)∧(b.conds[i].kind=3→(k:Int)=1→0<b.conds[i].boxes.length∧v1.refs.length+(b.conds[i].boxes.getD 0 noB).refs.length≤1000000∧v1.conds.length+(b.conds[i].boxes.getD 0 noB).conds.length≤1000000)∧(b.conds[i].boxes[k]).size<n:=fun i hi h4 k hk=>by
  rw[←hv1,←hn];exact zhG hp hi h4 hk
 have hst:∀i (h:i<b.conds.length),zsG b v i=match zgH b.conds[i] v1 with
  |some l=>some (l.map fun x=>(.mk (b.refs++x.refs) (b.conds.take i++x.conds++b.conds.drop (i+1)),x.top))
  |none=>zsG b v (i+1):=fun i h=>by rw[zkv h,hv1];cases zgH b.conds[i] v1<;>rfl
 have hcl:∀c∈b.conds,c.boxes.length≤1000:=fun c hc=>by
  obtain⟨d,hl⟩:=zeK hp hc
  have:=(zbj (zbI.1 hl).1).2.2.1
  unfold zax at this
  omega
 have kn:=Kp.mk hQn
 have ks:=Kp.mk hQs
 have kt:=Kp.mk hQt
 have kw:=Kp.mk hways
 have ki:=Kp.mk hin
 have kst:=Kp.mk hst
 have kT:=Kp.mk hT
 have kcl:=Kp.mk hcl
 clear hQn hQs hQt hways hin hst hT hQ hn hcl
 refine zaj (N:=139) hm kT.out 14000 (lsw [74,79,133] [1000010,1000011,1000017,1000026,1000028]) zEL Tryd.func14 rfl rfl (by simp) (by kernel_rfl) ?_
 repeat'(first|refine zaH.i hwith fun _=>?_|refine And.intro ?_ ?_|exact True.intro|refine rq fun _=>?_|refine rf fun _=>?_|simp only[go_sem,hv1,zad,zab,zae,zaf,zaE,zaa,Tryd.f14])
 refine zbx (zey (id:=(14002,0)) (t:=2) (b:=true) (ys:=[.sl (b.refs.map enc),.sl (b.conds.map enc)]) (by simp only[go_sem]) (by simp only[go_sem])) ?_
 refine zbx (zey (id:=(14003,1)) (t:=3) (b:=true) (ys:=[.sl (v1.refs.map enc),.sl (v1.conds.map enc)]) (by simp only[go_sem]) (by simp only[go_sem])) ?_
 refine zar hm kT.out 14000 (lsw [74,79,133] [1000010,1000011,1000017,1000026,1000028]) (ι:=zcp b.conds.length 2 fun i=>zfa b v=zsG b v i)
  ⟨fun q=>⟨frL [(2,.rp [.sl (b.refs.map enc),.sl (b.conds.map enc)]),(3,.rp [.sl (v1.refs.map enc),.sl (v1.conds.map enc)]),(28,.fz (.sl (b.conds.map enc))),(29,.fz (.i .i64 b.conds.length)),(30,.fz (.i .i64 q.i))],hpL [],q.m⟩,fun q=>b.conds.length-q.i⟩
  ⟨0,2,by omega,by omega,zkw b v⟩ (by kernel_rfl) ?_ ?_
 ·refine zah ?_ ?_ ?_<;>(try simp only[go_sem])
  all_goals first|done|rfl|omega
 rintro⟨i,m,hi,hm1,hpi⟩
 try simp only at hi hm1 hpi
 rcases Nat.lt_or_ge i b.conds.length with h1|h1
 rotate_left
 ·obtain rfl:i=b.conds.length:=by omega
  rw[zjg]at hpi
  repeat'(first|refine And.intro ?_ ?_|exact True.intro|refine rq fun _=>?_|refine rf fun _=>?_|simp only[go_sem,hv1,Nat.lt_irrefl,zad,zab,zae,zaf,zaE,zaa,Tryd.f14])
  all_goals exact kn.out hpi _ _
 obtain⟨c,hc⟩:∃c,b.conds[i]=c:=⟨_,rfl⟩
 have hcm:c∈b.conds:=by rw[←hc];exact List.getElem_mem h1
 have hstep:=kst.out i h1
 rw[←hpi,hc]at hstep
 have hcl2:=kcl.out c hcm
 by_cases h56:c.kind=5∨c.kind=6
 ·have hcw:=kw.out c hcm
  have hsc:zgH c v1=some (zcj v1 c):=by rw[zm0,if_pos h56]
  rw[hsc]at hstep
  have hwl:=zoi hcw
  have hws:∀w∈zcj v1 c,w.conds.length≤1000∧w.refs.length≤1000:=fun w hw=>zpK hcw hw
  obtain⟨X,hX⟩:∃X,zcj v1 c=X:=⟨_,rfl⟩
  rw[hX]at hstep hwl hws
  obtain⟨F,hF⟩:∃F:Chg→Abs.Box,F=fun x=> .mk (b.refs++x.refs) (b.conds.take i++x.conds++b.conds.drop (i+1)):=⟨_,rfl⟩
  have hFe:∀x,enc (F x)= .agg [.sl ((b.refs++x.refs).map enc),.sl ((b.conds.take i++x.conds++b.conds.drop (i+1)).map enc)]:=fun x=>by rw[hF,zaQ];rfl
  have hres:zfa b v=some (X.map fun x=>(F x,x.top)):=by rw[hF];exact hstep
  obtain⟨O,hO⟩:∃O:Nat→List Abs.Box,O=fun j=>(X.take j).map F:=⟨_,rfl⟩
  have hO0:O 0=[]:=by rw[hO];rfl
  have hOs:∀j (h:j<X.length),O (j+1)=O j++[F X[j]]:=fun j h=>by rw[hO];simp only;rw[List.take_succ_eq_append_getElem h,List.map_append];rfl
  have hOl:∀j,j≤X.length→(O j).length=j:=fun j h=>by rw[hO];simp only;rw[List.length_map,List.length_take];omega
  have hOe:O X.length=X.map F:=by rw[hO];simp only[List.take_length]
  obtain⟨Z,hZ⟩:∃Z:Nat→List Abs.Box,Z=fun j=>(X.take j).map (·.top):=⟨_,rfl⟩
  have hZ0:Z 0=[]:=by rw[hZ];rfl
  have hZs:∀j (h:j<X.length),Z (j+1)=Z j++[X[j].top]:=fun j h=>by rw[hZ];simp only;rw[List.take_succ_eq_append_getElem h,List.map_append];rfl
  have hZl:∀j,j≤X.length→(Z j).length=j:=fun j h=>by rw[hZ];simp only;rw[List.length_map,List.length_take];omega
  have hZe:Z X.length=X.map (·.top):=by rw[hZ];simp only[List.take_length]
  have hks:=ks.out _ hres
  rw[show(X.map fun x=>(F x,x.top)).map Prod.fst=O X.length by rw[hOe,List.map_map];rfl,show(X.map fun x=>(F x,x.top)).map Prod.snd=Z X.length by rw[hZe,List.map_map];rfl]at hks
  have kks:=Kp.mk hks
  have kO:=Kp.mk hOs
  have kOl:=Kp.mk hOl
  have kZ:=Kp.mk hZs
  have kZl:=Kp.mk hZl
  have kws:=Kp.mk hws
  have kF:=Kp.mk hFe
  clear hFe hF hws hstep hsc hOs hOl hO hZs hZl hZ hks hOe hZe
  obtain⟨t5,h5,t6,h6,h56t⟩:∃t5,(c.kind=5)=t5∧∃t6,(c.kind=6)=t6∧((t5=True∧t6=False)∨(t5=False∧t6=True)):=by
   rcases h56 with h|h
   ·exact⟨_,rfl,_,rfl,.inl ⟨eq_true h,eq_false (by omega)⟩⟩
   ·exact⟨_,rfl,_,rfl,.inr ⟨eq_false (by omega),eq_true h⟩⟩
  rcases h56t with⟨rfl,rfl⟩|⟨rfl,rfl⟩
  all_goals
   repeat'(first|refine zaH.i hcw fun _=>?_|refine And.intro ?_ ?_|exact True.intro|refine rq fun _=>?_|refine rf fun _=>?_|simp only[go_sem,hv1,h1,hc,h5,h6,hX,zad,zab,zae,zaf,zaE,zaa,Tryd.f14])
   refine zar hm kT.out 14000 (lsw [74,79,133] [1000010,1000011,1000017,1000026,1000028]) (ι:=zxW X.length (m+1))
    ⟨fun q=>⟨frL [(2,.rp [.sl (b.refs.map enc),.sl (b.conds.map enc)]),(7,.fz (.i .i64 i)),(9,.ow (14074,q.g1) 2 ((O q.i).map enc)),(10,.ow (14079,q.g2) 2 ((Z q.i).map enc)),(45,.fz (.sl (X.map enc))),(46,.fz (.i .i64 X.length)),(47,.fz (.i .i64 q.i))],
     hpL [((14074,q.g1),some tok),((14079,q.g2),some tok)],q.m⟩,fun q=>X.length-q.i⟩
    ⟨0,m+1,m+2,m+3,by omega,by omega,by omega,by omega⟩ (by kernel_rfl) ?_ ?_
   ·refine zaO [] [(14074,m+1),(14079,m+2)] [] ?_ ?_ ?_ ?_ ?_<;>(try simp only[go_sem,hO0,hZ0])
    all_goals repeat'(first|refine And.intro ?_ ?_|omega|rfl)
   rintro⟨j,g1,g2,m2,hj,hg1,hg2,hm2⟩
   try simp only at hj hg1 hg2 hm2
   rcases Nat.lt_or_ge j X.length with h2|h2
   ·obtain⟨w,hw⟩:∃w,X[j]=w:=⟨_,rfl⟩
    obtain⟨w1,w2⟩:=kws.out w (by rw[←hw];exact List.getElem_mem h2)
    have e1:=kO.out j h2
    have e2:=kZ.out j h2
    have e3:=kOl.out j (by omega)
    have e4:=kZl.out j (by omega)
    rw[hw]at e1 e2
    have hFw:=kF.out w
    have d1:dec (α:=List (List Str)) (.sl [.sl (b.refs.map enc),.sl (w.refs.map enc)])=[b.refs,w.refs]:=dec_enc [b.refs,w.refs]
    have d2:dec (α:=List (List Abs.zal)) (.sl [.sl ((b.conds.take i).map enc),.sl (w.conds.map enc),.sl ((b.conds.drop (i+1)).map enc)])=[b.conds.take i,w.conds,b.conds.drop (i+1)]:=dec_enc [b.conds.take i,w.conds,b.conds.drop (i+1)]
    have f1:([b.refs,w.refs]:List (List Str)).flatten=b.refs++w.refs:=by simp
    have f2:([b.conds.take i,w.conds,b.conds.drop (i+1)]:List (List Abs.zal)).flatten=b.conds.take i++w.conds++b.conds.drop (i+1):=by simp
    have r1:([b.refs,w.refs]:List (List Str)).flatten.length≤1000000∧([b.refs,w.refs]:List (List Str)).length≤1000000:=by rw[f1,List.length_append];exact⟨by omega,by simp⟩
    have r2:([b.conds.take i,w.conds,b.conds.drop (i+1)]:List (List Abs.zal)).flatten.length≤1000000∧([b.conds.take i,w.conds,b.conds.drop (i+1)]:List (List Abs.zal)).length≤1000000:=by
     rw[f2,List.length_append,List.length_append,List.length_take,List.length_drop];exact⟨by omega,by simp⟩
    have hti:((i:Int)+1).toNat=i+1:=by omega
    have hsl:(0:Int)≤(i:Int)+1∧(i:Int)+1≤(b.conds.length:Int)∧((i:Int)+1=0∨(i:Int)+1=(b.conds.length:Int)∨((b.conds.map enc).getD ((i:Int)+1).toNat FD.nilf).cells.length=7):=by
     refine⟨by omega,by omega,.inr ?_⟩
     rcases Nat.lt_or_ge (i+1) b.conds.length with h|h
     ·refine .inr ?_
      rw[hti,List.getD_eq_getElem?_getD,List.getElem?_map,List.getElem?_eq_getElem h]
      exact Kc.len _
     ·exact .inl (by omega)
    repeat'(first|refine zay (id:=10) hm kT.out 14000 (lsw [74,79,133] [1000010,1000011,1000017,1000026,1000028]) zsm (by kernel_rfl) (by kernel_rfl) ?_|refine zaH.i hsl fun _=>?_|refine zaH.i r1 fun _=>?_|refine zaH.i r2 fun _=>?_|refine And.intro ?_ ?_|exact True.intro|refine rq fun _=>?_|refine rf fun _=>?_|simp only[go_sem,hv1,h2,hw,hti,d1,d2,zbo,zsm,Int.toNat_natCast,←List.map_take,←List.map_drop,zad,zab,zae,zaf,zaE,zaa,Tryd.f14])
    refine zbx (zey (id:=(14012,m2)) (t:=12) (b:=true) (ys:=[.sl (w.conds.map enc),.sl (w.refs.map enc),.sl (w.top.refs.map enc),.sl (w.top.conds.map enc)]) (by simp only[go_sem]) (by simp only[go_sem])) ?_
    repeat'(first|refine zay (id:=11) hm kT.out 14000 (lsw [74,79,133] [1000010,1000011,1000017,1000026,1000028]) zsn (by kernel_rfl) (by kernel_rfl) ?_|refine And.intro ?_ ?_|exact True.intro|refine rq fun _=>?_|refine rf fun _=>?_|simp only[go_sem,hv1,f1,f2,zsn,zad,zab,zae,zaf,zaE,zaa,Tryd.f14])
    refine⟨⟨j+1,m2+2,m2+3,m2+4,by omega,by omega,by omega,by omega⟩,by simp only;omega,?_⟩
    refine zah ?_ ?_ ?_<;>(try simp only[go_sem,e1,e2,List.map_append,hFw,f1,f2])
    all_goals first|done|rfl|omega
   ·obtain rfl:j=X.length:=by omega
    repeat'(first|refine And.intro ?_ ?_|exact True.intro|refine rq fun _=>?_|refine rf fun _=>?_|simp only[go_sem,hv1,Nat.lt_irrefl,zad,zab,zae,zaf,zaE,zaa,Tryd.f14])
    all_goals exact kks.out _ _ _ _
 have h5:(c.kind=5)=False:=eq_false fun h=>h56 (.inl h)
 have h6:(c.kind=6)=False:=eq_false fun h=>h56 (.inr h)
 have hsc:zgH c v1=(zs0 c v1 0).map fun l=>l.map fun x=>⟨[.mk c.kind c.name c.form x.1],[],x.2⟩:=by rw[zm0,if_neg h56,zku]
 have hinn:=ki.out i h1
 rw[hc]at hinn
 have hinn:=hinn h56
 have kin:=Kp.mk hinn
 clear hinn
 repeat'(first|refine And.intro ?_ ?_|exact True.intro|refine rq fun _=>?_|refine rf fun _=>?_|simp only[go_sem,hv1,h1,hc,h5,h6,zad,zab,zae,zaf,zaE,zaa,Tryd.f14])
 refine zbx (zey (id:=(14008,m)) (t:=8) (b:=true) (ys:=[.i .i64 c.kind,.s c.name.l,.i .i64 c.form.kind,.s c.form.name.l,.sl (c.form.words.map enc),.sl (c.form.subs.map enc),.sl (c.boxes.map enc)]) (by simp only[go_sem]) (by simp only[go_sem])) ?_
 refine zar hm kT.out 14000 (lsw [74,79,133] [1000010,1000011,1000017,1000026,1000028]) (ι:=zcp c.boxes.length (m+1) fun k=>zgH c v1=(zs0 c v1 k).map fun l=>l.map fun x=>⟨[.mk c.kind c.name c.form x.1],[],x.2⟩)
  ⟨fun q=>⟨frL [(2,.rp [.sl (b.refs.map enc),.sl (b.conds.map enc)]),(3,.rp [.sl (v1.refs.map enc),.sl (v1.conds.map enc)]),(7,.fz (.i .i64 i)),(8,.rp [.i .i64 c.kind,.s c.name.l,.i .i64 c.form.kind,.s c.form.name.l,.sl (c.form.words.map enc),.sl (c.form.subs.map enc),.sl (c.boxes.map enc)]),(28,.fz (.sl (b.conds.map enc))),(29,.fz (.i .i64 b.conds.length)),(30,.fz (.i .i64 i)),(84,.fz (.sl (c.boxes.map enc))),(85,.fz (.i .i64 c.boxes.length)),(86,.fz (.i .i64 q.i))],hpL [],q.m⟩,fun q=>c.boxes.length-q.i⟩
  ⟨0,m+1,by omega,Nat.le_refl _,hsc⟩ (by kernel_rfl) ?_ ?_
 ·refine zah ?_ ?_ ?_<;>(try simp only[go_sem])
  all_goals first|done|rfl|omega
 rintro⟨k,m2,hk,hm2,hpk⟩
 try simp only at hk hm2 hpk
 rcases Nat.lt_or_ge k c.boxes.length with h2|h2
 rotate_left
 ·obtain rfl:k=c.boxes.length:=by omega
  rw[zjf]at hpk
  have hpk:zgH c v1=none:=hpk
  rw[hpk]at hstep
  repeat'(first|refine And.intro ?_ ?_|exact True.intro|refine rq fun _=>?_|refine rf fun _=>?_|simp only[go_sem,hv1,Nat.lt_irrefl,zad,zab,zae,zaf,zaE,zaa,Tryd.f14])
  all_goals
   refine⟨⟨i+1,m2,by omega,by omega,hstep⟩,by simp only;omega,?_⟩
   refine zah ?_ ?_ ?_<;>(try simp only[go_sem])
   all_goals first|done|rfl|omega
 obtain⟨x,hx⟩:∃x,c.boxes[k]=x:=⟨_,rfl⟩
 obtain⟨k1,k2,k3⟩:=kin.out k h2
 rw[hx]at k1 k3
 have hks:=zkt (v:=v1) h2
 rw[hx]at hks
 obtain⟨vi,hvi⟩:∃vi,zbH v1 c k=vi:=⟨_,rfl⟩
 rw[hvi]at k1 hks
 have kpre:x.size<n∧okS x vi:=⟨k3,k1⟩
 cases hsx:zfa x vi with
 |none=>
  rw[hsx]at hks
  rw[hks]at hpk
  have hsT:=zhV hsx
  repeat'(first|refine zaH.i k2 fun _=>?_|refine zaH.i kpre fun _=>?_|refine zay (id:=17) hm kT.out 14000 (lsw [74,79,133] [1000010,1000011,1000017,1000026,1000028]) zj7 (by kernel_rfl) (by kernel_rfl) ?_|refine And.intro ?_ ?_|exact True.intro|refine rq fun _=>?_|refine rf fun _=>?_|simp only[go_sem,hv1,h2,hx,hvi,hsT,zj7,zad,zab,zae,zaf,zaE,zaa,Tryd.f14])
  all_goals
   refine⟨⟨k+1,m2+1,by omega,by omega,hpk⟩,by simp only;omega,?_⟩
   refine zah ?_ ?_ ?_<;>(try simp only[go_sem])
   all_goals first|done|rfl|omega
 |some L=>
  rw[hsx]at hks
  rw[hks]at hpk
  have hpk:zgH c v1=some ((L.map fun x=>(c.boxes.set k x.1,x.2)).map fun x=>⟨[.mk c.kind c.name c.form x.1],[],x.2⟩):=hpk
  rw[hpk]at hstep
  have hsT:=zfG hsx
  have hLl:=znZ _ x vi L (Nat.le_refl _) k1 hsx
  obtain⟨A,hA⟩:∃A,L.map Prod.fst=A:=⟨_,rfl⟩
  obtain⟨B,hB⟩:∃B,L.map Prod.snd=B:=⟨_,rfl⟩
  have hAl:A.length≤1000000:=by rw[←hA,List.length_map];exact hLl
  obtain⟨F,hF⟩:∃F:Abs.Box→Abs.Box,F=fun y=> .mk b.refs (b.conds.set i (.mk c.kind c.name c.form (c.boxes.set k y))):=⟨_,rfl⟩
  have hFe:∀y,enc (F y)= .agg [.sl (b.refs.map enc),.sl ((b.conds.set i (.mk c.kind c.name c.form (c.boxes.set k y))).map enc)]:=fun y=>by rw[hF,zaQ];rfl
  have hset:∀d,b.conds.take i++[d]++b.conds.drop (i+1)=b.conds.set i d:=fun d=>by rw[List.set_eq_take_append_cons_drop,if_pos h1,List.append_assoc];rfl
  obtain⟨LL,hLL⟩:∃LL:List (Abs.Box×Abs.Box),LL=L.map fun x=>(F x.1,x.2):=⟨_,rfl⟩
  have hres:zfa b v=some LL:=by
   rw[hstep,hLL,hF]
   simp only[List.map_map]
   congr 1
   refine List.map_congr_left fun x _=>?_
   simp only[Function.comp,List.append_nil,hset]
  obtain⟨O,hO⟩:∃O:Nat→List Abs.Box,O=fun j=>(A.take j).map F:=⟨_,rfl⟩
  have hO0:O 0=[]:=by rw[hO];rfl
  have hOs:∀j (h:j<A.length),O (j+1)=O j++[F A[j]]:=fun j h=>by rw[hO];simp only;rw[List.take_succ_eq_append_getElem h,List.map_append];rfl
  have hOl:∀j,j≤A.length→(O j).length=j:=fun j h=>by rw[hO];simp only;rw[List.length_map,List.length_take];omega
  have hOe:O A.length=A.map F:=by rw[hO];simp only[List.take_length]
  have hkt:=kt.out LL hres
  rw[show LL.map Prod.fst=O A.length by rw[hOe,hLL,←hA,List.map_map,List.map_map];rfl,show LL.map Prod.snd=B by rw[hLL,←hB,List.map_map];rfl]at hkt
  rw[hA,hB]at hsT
  have kkt:=Kp.mk hkt
  have kO:=Kp.mk hOs
  have kOl:=Kp.mk hOl
  have kF:=Kp.mk hFe
  clear hFe hF hOs hOl hO hkt hOe hstep hpk hks hLL hres hset hA hB
  repeat'(first|refine zaH.i k2 fun _=>?_|refine zaH.i kpre fun _=>?_|refine zay (id:=17) hm kT.out 14000 (lsw [74,79,133] [1000010,1000011,1000017,1000026,1000028]) zj7 (by kernel_rfl) (by kernel_rfl) ?_|refine And.intro ?_ ?_|exact True.intro|refine rq fun _=>?_|refine rf fun _=>?_|simp only[go_sem,hv1,h2,hx,hvi,hsT,zj7,zad,zab,zae,zaf,zaE,zaa,Tryd.f14])
  refine zbM hm kT.out 14000 (lsw [74,79,133] [1000010,1000011,1000017,1000026,1000028]) (ι:=zd5 A.length (m2+1) fun _=>True)
   ⟨fun q=>⟨frL [(2,.rp [.sl (b.refs.map enc),.sl (b.conds.map enc)]),(7,.fz (.i .i64 i)),(8,.rp [.i .i64 c.kind,.s c.name.l,.i .i64 c.form.kind,.s c.form.name.l,.sl (c.form.words.map enc),.sl (c.form.subs.map enc),.sl (c.boxes.map enc)]),(14,.fz (.i .i64 k)),(17,.fz (.sl (B.map enc))),(19,.ow (14133,q.g) 2 ((O q.i).map enc)),(103,.fz (.sl (A.map enc))),(104,.fz (.i .i64 A.length)),(105,.fz (.i .i64 q.i))],hpL [((14133,q.g),some tok)],q.m⟩,fun q=>A.length-q.i⟩
   ⟨0,m2+1,m2+2,by omega,by omega,by omega,trivial⟩ (by kernel_rfl) ?_ ?_
  ·refine zaO [] [(14133,m2+1)] [] ?_ ?_ ?_ ?_ ?_<;>(try simp only[go_sem,hO0])
   all_goals repeat'(first|refine And.intro ?_ ?_|omega|rfl)
  rintro⟨j,g,m3,hj,hg,hm3,_⟩
  try simp only at hj hg hm3
  rcases Nat.lt_or_ge j A.length with h3|h3
  rotate_left
  ·obtain rfl:j=A.length:=by omega
   repeat'(first|refine And.intro ?_ ?_|exact True.intro|refine rq fun _=>?_|refine rf fun _=>?_|simp only[go_sem,hv1,Nat.lt_irrefl,zad,zab,zae,zaf,zaE,zaa,Tryd.f14])
   all_goals exact kkt.out _ _ _
  obtain⟨y,hy⟩:∃y,A[j]=y:=⟨_,rfl⟩
  have e1:=kO.out j h3
  have e2:=kOl.out j (by omega)
  rw[hy]at e1
  have hFy:=kF.out y
  have hbl:((c.boxes.map enc).flatMap FD.cells).length=c.boxes.length*2:=by
   have:=zcb (es:=2) (fun a:Abs.Box=>Kc.len a) c.boxes
   rw[zcq,List.length_map]at this
   exact this
  have hbe:c.boxes.isEmpty=false:=by
   cases hcb:c.boxes with
   |nil=>rw[hcb]at h2;simp at h2
   |cons _ _=>rfl
  have hrq:c.boxes.isEmpty=false∧k*2+2≤((c.boxes.map enc).flatMap FD.cells).length:=⟨hbe,by omega⟩
  repeat'(first|refine zaH.i hrq fun _=>?_|refine zaD.i (zeZ (cs:=(c.boxes.map enc).flatMap FD.cells) (xs:=[FD.sl (c.boxes.map enc)]) rfl (zs6 (l:=c.boxes) (by omega)) fun g1 n1 hg1 hn1=>?_)|refine And.intro ?_ ?_|exact True.intro|refine rq fun _=>?_|refine rf fun _=>?_|simp only[go_sem,hv1,h3,hy,zad,zab,zae,zaf,zaE,zaa,Tryd.f14])
  have hw2:=zdj (es:=2) (fun a:Abs.Box=>Kc.len a) y c.boxes k h2
  rw[zcq (c.boxes.map enc),show(enc y).cells.map D.fz=[.fz (.sl (y.refs.map enc)),.fz (.sl (y.conds.map enc))] by rw[zaQ];rfl]at hw2
  obtain⟨Y,hY⟩:∃Y,c.boxes.set k y=Y:=⟨_,rfl⟩
  have hYl:Y.length=c.boxes.length:=by rw[←hY,List.length_set]
  rw[hY]at hw2 hFy
  obtain⟨C2,hC2⟩:∃C2,zag (Y.map enc)=C2:=⟨_,rfl⟩
  have hz2:C2=zag (Y.map enc):=hC2.symm
  rw[hC2]at hw2
  simp only[go_sem]at hw2
  refine zbx (zaO (l:=[(2,.rp [.sl (b.refs.map enc),.sl (b.conds.map enc)]),(7,.fz (.i .i64 i)),(8,.rp [.i .i64 c.kind,.s c.name.l,.i .i64 c.form.kind,.s c.form.name.l,.sl (c.form.words.map enc),.sl (c.form.subs.map enc),.sl (c.boxes.map enc)]),(14,.fz (.i .i64 k)),(17,.fz (.sl (B.map enc))),(19,.ow (14133,g) 2 ((O j).map enc)),(22,.ptr (14022,m3+1) 0),(103,.fz (.sl (A.map enc))),(104,.fz (.i .i64 A.length)),(105,.fz (.i .i64 j))]) (hl:=[((14022,m3+1),some ⟨[.fz (.i .i64 c.kind),.fz (.s c.name.l),.fz (.i .i64 c.form.kind),.fz (.s c.form.name.l),.fz (.sl (c.form.words.map enc)),.fz (.sl (c.form.subs.map enc)),.fz (.sl (Y.map enc))],true,false⟩),((14133,g),some tok)]) (m:=n1) [] [] [((39007,g1),Y.map enc)] ?_ ?_ ?_ ?_ ?_) ?_
  ·simp only[go_sem]
  ·simp only[go_sem,hw2,hz2,hbe]
   all_goals first|done|rfl|omega
  ·simp only[go_sem]
   all_goals first|done|rfl|omega
  ·simp only[go_sem]
   all_goals first|done|rfl|omega
  ·simp only[go_sem,hYl]
   all_goals first|done|rfl|omega
  have hbl7:((b.conds.map enc).flatMap FD.cells).length=b.conds.length*7:=by
   have:=zcb (es:=7) (fun a:Abs.zal=>Kc.len a) b.conds
   rw[zcq,List.length_map]at this
   exact this
  have hbe7:b.conds.isEmpty=false:=by
   cases hcb:b.conds with
   |nil=>rw[hcb]at h1;simp at h1
   |cons _ _=>rfl
  have hrq7:b.conds.isEmpty=false∧i*7+7≤((b.conds.map enc).flatMap FD.cells).length:=⟨hbe7,by omega⟩
  have hw7:=zdj (es:=7) (fun a:Abs.zal=>Kc.len a) (zal.mk c.kind c.name c.form Y) b.conds i h1
  rw[zcq (b.conds.map enc),show(enc (zal.mk c.kind c.name c.form Y)).cells.map D.fz=[.fz (.i .i64 c.kind),.fz (.s c.name.l),.fz (.i .i64 c.form.kind),.fz (.s c.form.name.l),.fz (.sl (c.form.words.map enc)),.fz (.sl (c.form.subs.map enc)),.fz (.sl (Y.map enc))] by rw[zcQ];rfl]at hw7
  obtain⟨Z,hZ⟩:∃Z,b.conds.set i (zal.mk c.kind c.name c.form Y)=Z:=⟨_,rfl⟩
  have hZl:Z.length=b.conds.length:=by rw[←hZ,List.length_set]
  rw[hZ]at hw7 hFy
  obtain⟨C7,hC7⟩:∃C7,zag (Z.map enc)=C7:=⟨_,rfl⟩
  have hz7:C7=zag (Z.map enc):=hC7.symm
  rw[hC7]at hw7
  simp only[go_sem]at hw7
  repeat'(first|refine zaH.i hrq7 fun _=>?_|refine zaD.i (zeZ (cs:=(b.conds.map enc).flatMap FD.cells) (xs:=[FD.sl (b.conds.map enc)]) rfl (zs7 (l:=b.conds) (by omega)) fun g2 n2 hg2 hn2=>?_)|refine zay (id:=26) hm kT.out 14000 (lsw [74,79,133] [1000010,1000011,1000017,1000026,1000028]) zso (by kernel_rfl) (by kernel_rfl) ?_|refine And.intro ?_ ?_|exact True.intro|refine rq fun _=>?_|refine rf fun _=>?_|simp only[go_sem,hv1,zso,zad,zab,zae,zaf,zaE,zaa,Tryd.f14])
  ·refine zbx (zaO (l:=[(2,.rp [.sl (b.refs.map enc),.sl (b.conds.map enc)]),(7,.fz (.i .i64 i)),(8,.rp [.i .i64 c.kind,.s c.name.l,.i .i64 c.form.kind,.s c.form.name.l,.sl (c.form.words.map enc),.sl (c.form.subs.map enc),.sl (c.boxes.map enc)]),(14,.fz (.i .i64 k)),(17,.fz (.sl (B.map enc))),(19,.ow (14133,g) 2 ((O j).map enc)),(23,.ptr (14023,n2) 0),(103,.fz (.sl (A.map enc))),(104,.fz (.i .i64 A.length)),(105,.fz (.i .i64 j))])
    (hl:=[((14023,n2),some ⟨[.fz (.sl (b.refs.map enc)),.fz (.sl (Z.map enc))],true,false⟩),((14133,g),some tok)]) (m:=n2+1) [] [] [((40007,g2),Z.map enc)] ?_ ?_ ?_ ?_ ?_) ?_
   ·simp only[go_sem]
    all_goals first|done|rfl|omega
   ·simp only[go_sem,hw7,hz7,hbe7]
    all_goals first|done|rfl|omega
   ·simp only[go_sem]
    all_goals repeat'(first|refine And.intro ?_ ?_|omega|rfl)
   ·simp only[go_sem]
    all_goals first|done|rfl|omega
   ·simp only[go_sem,hZl]
    all_goals repeat'(first|refine And.intro ?_ ?_|omega|rfl)
   refine zi9 hm kT.out 14000 (lsw [74,79,133] [1000010,1000011,1000017,1000026]) (by kernel_rfl) ?_
   repeat'(first|refine And.intro ?_ ?_|exact True.intro|refine rq fun _=>?_|refine rf fun _=>?_|simp only[go_sem,hv1,zad,zab,zae,zaf,zaE,zaa,Tryd.f14])
   all_goals
    refine⟨⟨j+1,n2+1,n2+2,by omega,by omega,by omega,trivial⟩,by simp only;omega,?_⟩
    refine zah ?_ ?_ ?_<;>(try simp only[go_sem,e1,List.map_append,hFy])
    all_goals first|done|rfl|omega
  ·refine zbx (zaO (l:=[(2,.rp [.sl (b.refs.map enc),.sl (b.conds.map enc)]),(7,.fz (.i .i64 i)),(8,.rp [.i .i64 c.kind,.s c.name.l,.i .i64 c.form.kind,.s c.form.name.l,.sl (c.form.words.map enc),.sl (c.form.subs.map enc),.sl (c.boxes.map enc)]),(14,.fz (.i .i64 k)),(17,.fz (.sl (B.map enc))),(19,.ow (14133,g) 2 ((O j).map enc)),(23,.ptr (14023,n1) 0),(103,.fz (.sl (A.map enc))),(104,.fz (.i .i64 A.length)),(105,.fz (.i .i64 j))])
    (hl:=[((14023,n1),some ⟨[.fz (.sl (b.refs.map enc)),.fz (.sl (Z.map enc))],true,false⟩),((14133,g),some tok)]) (m:=n2+1) [] [] [((40007,g2),Z.map enc)] ?_ ?_ ?_ ?_ ?_) ?_
   ·simp only[go_sem]
    all_goals first|done|rfl|omega
   ·simp only[go_sem,hw7,hz7,hbe7]
    all_goals first|done|rfl|omega
   ·simp only[go_sem]
    all_goals repeat'(first|refine And.intro ?_ ?_|omega|rfl)
   ·simp only[go_sem]
    all_goals first|done|rfl|omega
   ·simp only[go_sem,hZl]
    all_goals repeat'(first|refine And.intro ?_ ?_|omega|rfl)
   refine zi9 hm kT.out 14000 (lsw [74,79,133] [1000010,1000011,1000017,1000026]) (by kernel_rfl) ?_
   repeat'(first|refine And.intro ?_ ?_|exact True.intro|refine rq fun _=>?_|refine rf fun _=>?_|simp only[go_sem,hv1,zad,zab,zae,zaf,zaE,zaa,Tryd.f14])
   all_goals
    refine⟨⟨j+1,n2+1,n2+2,by omega,by omega,by omega,trivial⟩,by simp only;omega,?_⟩
    refine zah ?_ ?_ ?_<;>(try simp only[go_sem,e1,List.map_append,hFy])
    all_goals first|done|rfl|omega
end Go.Proofs.YtalbdmcklgglbaaDoor

import Derived.Test.YtalbdmcklgglbaaDoorAT
import Derived.Test.YtalbdmcklgglbaaDoorY23
set_option linter.unusedSimpArgs false
namespace Go.Proofs.YtalbdmcklgglbaaDoor
open Go Go.Abs Go.Proofs
theorem zvk {P:Program}{G:Nat→List FD}{N:Nat}{c:Code}{st:St}{q:Exit→St→Prop}{ι:Type}(e0:Exit)(I:ι→St)(h:∀i,q e0 (I i))(h2:@WK P G N c st ⟨fun e s=>e=e0∧∃i,zgh G N s (I i)⟩):@WK P G N c st ⟨q⟩:=by
 unfold WK at h2 ⊢
 intro a w L F hr
 refine wp_mono (h2 a w L F hr) fun e a' w' hs=>?_
 obtain⟨s,L1,F1,⟨rfl,i,hw⟩,g2,g3⟩:=hs
 obtain⟨L2,F2,g4,g5⟩:=hw a' w' L1 F1 g2
 exact⟨I i,L2,F2,h i,g4,zbL.trans g3 g5⟩
theorem zog (rs:List Str):∀(m k j:Nat),j<m→(zkg rs m k).getD (m-1-j) ⟨[]⟩=rs.getD (k / rs.length^j % rs.length) ⟨[]⟩
 |0,_,_,h=>by omega
 |m+1,k,0,_=>by
  rw[zkg,Nat.pow_zero,Nat.div_one]
  have hl:=zgW rs m (k / rs.length)
  rw[List.getD_eq_getElem?_getD,List.getElem?_append_right (by omega),hl,show m+1-1-0-m=0 by omega];rfl
 |m+1,k,j+1,h=>by
  rw[zkg]
  have hl:=zgW rs m (k / rs.length)
  have:=zog rs m (k / rs.length) j (by omega)
  rw[List.getD_eq_getElem?_getD,List.getElem?_append_left (by omega),←List.getD_eq_getElem?_getD,show m+1-1-(j+1)=m-1-j by omega,this,Nat.div_div_eq_div_mul,Nat.pow_succ,Nat.mul_comm]
def zes (t:List Str)(j:Nat):List D:=((List.replicate (t.length-j) (⟨[]⟩:Str)++t.drop (t.length-j)).map enc).map .fz
theorem zzN (t:List Str)(j:Nat):(zes t j).length=t.length:=by
 unfold zes;simp<;>omega
theorem zwT (t:List Str):zes t 0=List.replicate t.length (.fz (.s [])):=by
 unfold zes
 rw[Nat.sub_zero,List.drop_length,List.append_nil,List.map_replicate,List.map_replicate];rfl
theorem zzM (t:List Str):zes t t.length=zag (t.map enc):=by
 unfold zes
 rw[Nat.sub_self,List.replicate_zero,List.nil_append,List.drop_zero,zk9]
theorem zwS {t:List Str}{j:Nat}(h:j<t.length){y:Str}(hy:t.getD (t.length-1-j) ⟨[]⟩=y):(zes t j).set (t.length-1-j) (.fz (.s y.l))=zes t (j+1):=by
 have hlt:t.length-1-j<t.length:=by omega
 have hg:t[t.length-1-j]=y:=by rw[←hy,List.getD_eq_getElem?_getD,List.getElem?_eq_getElem hlt];rfl
 unfold zes
 rw[show t.length-j=(t.length-1-j)+1 by omega,show t.length-(j+1)=t.length-1-j by omega,List.drop_eq_getElem_cons hlt,hg,List.replicate_succ',List.append_assoc,List.singleton_append]
 rw[List.map_append,List.map_append,List.map_append,List.map_append,List.map_cons,List.map_cons,List.map_cons,List.map_cons]
 have hl:((List.replicate (t.length-1-j) (⟨[]⟩:Str)).map enc|>.map D.fz).length=t.length-1-j:=by simp
 rw[List.set_append_right _ _ (by rw[hl];exact Nat.le_refl _),hl,Nat.sub_self,List.set_cons_zero]
 rfl
theorem zrF {f:Abs.zac}{fr to:List Str}(h:zdH f)(ht:∀y∈to,zai y=true)(hl:fr.length=to.length):zdH (ziP f fr to):=by
 have hw:∀w,zai w=true→zai (zgF fr to w)=true:=fun w hw=>by
  unfold zgF
  split
  ·rename_i hm
   have:=List.idxOf_lt_length_of_mem hm
   rw[List.getD_eq_getElem?_getD,List.getElem?_eq_getElem (by omega)]
   exact ht _ (List.getElem_mem _)
  ·exact hw
 rcases h with⟨nm,ws,rfl,h1,h2⟩|⟨a,b,rfl,h1,h2⟩
 ·exact .inl ⟨nm,ws.map (zgF fr to),rfl,h1,fun w hw'=>by obtain⟨z,hz,rfl⟩:=List.mem_map.1 hw';exact hw z (h2 z hz)⟩
 ·exact .inr ⟨zgF fr to a,zgF fr to b,rfl,hw a h1,hw b h2⟩
theorem zvx (b:Abs.Box)(p:List Int)(A:Nat)(cs:List Abs.zal)(rs:List Str):(zgC b p A cs rs).refs.length≤b.refs.length+rs.length∧(zgC b p A cs rs).conds.length≤b.conds.length+cs.length:=by
 match p with
 |i::k::p=>rw[zgC,zdg,zca,List.length_set];omega
 |[_]=>rw[zgC,zdg,zca];simp only[List.length_append,List.length_take,List.length_drop];omega
 |[]=>rw[zgC,zdg,zca];simp only[List.length_append,List.length_take,List.length_drop];omega
theorem zll (a b:List Abs.zal):zbi (a.map enc++b.map enc) 7:=fun x hx=>by
 rcases List.mem_append.1 hx with h|h<;>obtain⟨y,_,rfl⟩:=List.mem_map.1 h<;>exact Kc.len y
structure zDq (b:Abs.Box)(path:List Int)(A:Nat)(l:List Abs.Box)(v p:Abs.Box)(R:List Str):Prop where
 hv:zcU l=v
 ro:zbX l=R
 rl:R.length≤1000
 vr:v.refs=R
 pr:p.refs.length≤1000
 pc:p.conds.length≤1000000
 pw:R.length^p.refs.length≤1000000
 nm:∀y∈R,zai y=true
 pf:zhL p=true→∀x∈p.conds,zdH x.form∧x.form.words.length≤3
 pn:∀y∈p.refs,zai y=true
 said:∀f,zdH f→f.words.length≤3→okL l f
 ch:∀cs rs,cs.length≤1000→rs.length≤1000→ztW b path (A:Int) cs rs
def gT (b:Abs.Box)(path:List Int)(A:Nat)(p:Abs.Box)(t:List Str):Abs.Box:=zoD b path (A:Int) (List.zipWith zbc p.refs t) p.refs
def oT (b:Abs.Box)(path:List Int)(A:Nat)(v p:Abs.Box)(R:List Str)(k:Nat):List Abs.Box:=(((List.range k).map (zkg R p.refs.length)).filter (zcS v p)).map (gT b path A p)
theorem zC3 (l:List Str):zbi (l.map enc) 1:=fun x hx=>by obtain⟨a,_,rfl⟩:=List.mem_map.1 hx;rfl
theorem mkZ (j:Nat):(List.range j).map (fun j=>[D.fz (FD.s [])].getD (j % 1) D.junk)=List.replicate j (.fz (.s [])):=by
 rw[show(fun j:Nat=>[D.fz (FD.s [])].getD (j % 1) D.junk)=fun _=>D.fz (FD.s [])from funext fun j=>by rw[Nat.mod_one];rfl,List.map_const',List.length_range]
set_option maxHeartbeats 16000000 in
set_option maxRecDepth 100000 in
set_option maxHeartbeats 1000000 in
theorem zGU {b:Abs.Box}{path:List Int}{A:Nat}{l:List Abs.Box}{v p e:Abs.Box}{c:Abs.zal}{R:List Str}(h0:zAX b path A l e c)(hk6:c.kind=6)(hb0:0<c.boxes.length)(hp0:c.boxes[0]=p)(h:zDq b path A l v p R):
  zav Tryd.prog G0 26 [.fz (enc b),.fz (enc path),.fz (enc (A:Int))] (hpL []) 0 (fun r _ _=>D.val r=some (.fz (enc (ze6 b path A)))):=by
 obtain⟨N,hN⟩:∃N,R.length^p.refs.length=N:=⟨_,rfl⟩
 obtain⟨M,hM⟩:∃M,p.refs.length=M:=⟨_,rfl⟩
 obtain⟨pl,hpl⟩:∃t,zhL p=t:=⟨_,rfl⟩
 obtain⟨O,hO⟩:∃O,oT b path A v p R=O:=⟨_,rfl⟩
 obtain⟨Tp,hTp⟩:∃x:Abs.Box,zaK (zoD b path (A:Int) [] []) p=x:=⟨_,rfl⟩
 have hset:ze6 b path A=if pl=true∧(O N).length≠0 then O N else[Tp]:=by
  have h1:=h0.set
  rw[h.hv]at h1
  have hp2:c.boxes.getD 0 noB=p:=by rw[List.getD_eq_getElem?_getD,List.getElem?_eq_getElem hb0];exact hp0
  rw[h1]
  unfold zcj
  rw[if_neg (by omega),if_pos hk6,hp2]
  have hbw:zdC v p=if pl=true then(((List.range N).map (zkg R p.refs.length)).filter (zcS v p)).map (zib p)else[]:=by
   unfold zdC
   rw[hpl,h.vr,zeO,hN]
  have hmap:((((List.range N).map (zkg R p.refs.length)).filter (zcS v p)).map (zib p)).map (fun w=>zde (zqo b path A w))=O N:=by
   rw[←hO,List.map_map]
   unfold oT
   refine List.map_congr_left fun t _=>?_
   show zaK (zgC b path A (List.zipWith zbc p.refs t) p.refs) noB=_
   rw[zl5];rfl
  have htop:[zu9 p].map (fun w=>zde (zqo b path A w))=[Tp]:=by rw[←hTp];rfl
  unfold zhJ
  rw[hbw]
  cases pl with
  |false=>exact htop
  |true=>
   rw[if_pos rfl]
   have hl:(O N).length=((((List.range N).map (zkg R p.refs.length)).filter (zcS v p)).map (zib p)).length:=by rw[←hmap,List.length_map]
   by_cases hz:(O N).length=0
   ·rw[if_pos (by rw[←hl];exact hz),htop,if_neg (by simp[hz])]
   ·rw[if_neg (by rw[←hl];exact hz),hmap,if_pos ⟨rfl,hz⟩]
 obtain⟨Q,hQ⟩:∃Q:D→zas→Nat→Prop,Q=(fun r _ _=>D.val r=some (.fz (enc (ze6 b path A)))):=⟨_,rfl⟩
 rw[←hQ]
 rw[hset]at hQ
 have kq:=Kp.mk hQ
 clear hset hQ
 obtain⟨pa,hpa⟩:∃pa:Nat→Bool,pa=fun i=>(p.conds.take i).all fun x=>decide (x.kind=1):=⟨_,rfl⟩
 have hpa0:pa 0=true:=by rw[hpa];rfl
 have hpas:∀i (h:i<p.conds.length),pa (i+1)=(pa i&&decide (p.conds[i].kind=1)):=fun i h=>by rw[hpa];simp only;rw[List.take_succ_eq_append_getElem h,List.all_append];simp
 have hpae:pa p.conds.length=pl:=by rw[hpa,←hpl];simp only[List.take_length];rfl
 obtain⟨P,hP⟩:∃P:Nat→Nat,P=fun i=>R.length^i:=⟨_,rfl⟩
 have hP0:P 0=1:=by rw[hP];rfl
 have hPs:∀i,P i*R.length=P (i+1):=fun i=>by rw[hP];exact(Nat.pow_succ ..).symm
 have hPe:P M=N:=by rw[hP,←hN,hM]
 have hPl:∀i,i≤M→P i≤1000000:=fun i hi=>by
  rw[hP];simp only
  by_cases hr:R.length=0
  ·rw[hr]
   cases i with
   |zero=>simp
   |succ i=>rw[Nat.pow_succ,Nat.mul_zero];omega
  ·have:=h.pw
   rw[hM]at this
   exact Nat.le_trans (Nat.pow_le_pow_right (by omega) hi) this
 have hNl:N≤1000000:=by rw[←hPe];exact hPl M (Nat.le_refl _)
 have h5t:(c.kind=5)=False:=eq_false (by omega)
 have hpre1:path.length % 2=0∧(zcy b).code=0:=⟨h0.ev,h0.hb⟩
 have hpre2:(zbX l).length≤1000000:=by rw[h.ro];have:=h.rl;omega
 have hix:(0:Int)≤(l.length:Int)-1∧(l.length:Int)-1<(l.length:Int):=by have:=h0.pos;omega
 have hl:=h0.hl
 have hn1:=h0.n1
 have he:=h0.he
 have hA:=h0.hA
 have hc:=h0.hc
 have hro:=h.ro
 have hRl:=h.rl
 have hpr:=h.pr
 have hpc:=h.pc
 have hchn:ztW b path (A:Int) [] []:=h.ch [] [] (by simp) (by simp)
 obtain⟨X,hX⟩:∃X,zoD b path (A:Int) [] []=X:=⟨_,rfl⟩
 have hTe:enc Tp= .agg [.sl (X.refs.map enc++p.refs.map enc),.sl (X.conds.map enc++p.conds.map enc)]:=by
  rw[←hTp,hX,zaQ,zaX,zaY,List.map_append,List.map_append]
 have hXl:X.refs.length≤400∧X.conds.length≤400:=by
  have h1:=zvx b path A [] []
  have h2:=h0.tot
  rw[Box.tot_eq]at h2
  have h3:=@zal.tots_len b.conds
  rw[show zgC b path A [] []=X from hX]at h1
  simp only[List.length_nil]at h1
  omega
 obtain⟨hXr,hXc⟩:=hXl
 have hfl7:X.conds.length*7≤(zag (X.conds.map enc)).length:=by rw[zcb (es:=7) (fun a:Abs.zal=>Kc.len a)];exact Nat.le_refl _
 have hft7:(zag (X.conds.map enc)).take (X.conds.length*7)=zag (X.conds.map enc):=List.take_of_length_le (by rw[zcb (es:=7) (fun a:Abs.zal=>Kc.len a)];exact Nat.le_refl _)
 have kpas:=Kp.mk hpas
 have kPs:=Kp.mk hPs
 have kPl:=Kp.mk hPl
 have kh:=Kp.mk h
 have kh0:=Kp.mk h0
 clear hpas hPs hPl hpa hP
 refine zew (N:=264) hm ziE 26000 (lsw [84,199,228,239,262] [129,251,256,1000010,1000058,1000062,1000063,1000064]) zC5 Tryd.func26 rfl rfl (by simp) (by kernel_rfl) ?_
 repeat'(first|refine zaH.i hpre1 fun _=>?_|refine zaH.i hpre2 fun _=>?_|refine And.intro ?_ ?_|exact True.intro|refine rq fun _=>?_|refine rf fun _=>?_|simp only[go_sem,hl,hro,he,hA,hc,h5t,hb0,hp0,zad,zab,zae,zaf,zaa,Tryd.f26,l56,l57,l58,l59,l60])
 refine zbM hm ziE 26000 (lsw [84,199,228,239,262] [129,251,256,1000010,1000058,1000062,1000063,1000064]) (ι:=zcp p.conds.length 3 fun _=>True)
  ⟨fun q=>⟨frL [(1,.fz (.sl (path.map enc))),(2,.fz (.i .i64 A)),(3,.ptr (26003,0) 0),(7,.fz (.sl (l.map enc))),(9,.fz (.sl (R.map enc))),(14,.ptr (26014,2) 0),(11,.full []),(15,.fz (.b (pa q.i))),(93,.fz (.i .i64 p.conds.length)),(94,.fz (.i .i64 q.i))],hpL [((26003,0),some ⟨[.fz (.sl (b.refs.map enc)),.fz (.sl (b.conds.map enc))],true,false⟩),((26014,2),some ⟨[.fz (.sl (p.refs.map enc)),.fz (.sl (p.conds.map enc))],true,false⟩)],q.m⟩,fun q=>p.conds.length-q.i⟩
  ⟨0,3,by omega,by omega,trivial⟩ (by kernel_rfl) ?_ ?_
 ·refine zah ?_ ?_ ?_<;>(try simp only[go_sem,hpa0])
  all_goals first|done|rfl|omega
 rintro⟨i,m,hi,hm1,_⟩
 try simp only at hi hm1
 rcases Nat.lt_or_ge i p.conds.length with h1|h1
 ·obtain⟨x,hx⟩:∃x,p.conds[i]=x:=⟨_,rfl⟩
  have e1:=kpas.out i h1
  rw[hx]at e1
  cases hpi:pa i with
  |false=>
   rw[hpi,Bool.false_and]at e1
   repeat'(first|refine And.intro ?_ ?_|exact True.intro|refine rq fun _=>?_|refine rf fun _=>?_|simp only[go_sem,h1,hx,hpi,zad,zab,zae,zaf,zaa,Tryd.f26,l56,l57,l58,l59,l60])
   all_goals
    refine⟨⟨i+1,m,by omega,by omega,trivial⟩,by simp only;omega,?_⟩
    refine zah ?_ ?_ ?_<;>(try simp only[go_sem,e1,hpi])
    all_goals first|done|rfl|omega
  |true=>
   rw[hpi,Bool.true_and]at e1
   repeat'(first|refine And.intro ?_ ?_|exact True.intro|refine rq fun _=>?_|refine rf fun _=>?_|simp only[go_sem,h1,hx,hpi,zad,zab,zae,zaf,zaa,Tryd.f26,l56,l57,l58,l59,l60])
   all_goals
    refine⟨⟨i+1,m,by omega,by omega,trivial⟩,by simp only;omega,?_⟩
    refine zah ?_ ?_ ?_<;>(try simp only[go_sem,e1,hpi])
    all_goals first|done|rfl|omega
 obtain rfl:i=p.conds.length:=by omega
 repeat'(first|refine And.intro ?_ ?_|exact True.intro|refine rq fun _=>?_|refine rf fun _=>?_|simp only[go_sem,Nat.lt_irrefl,hpae,hM,zad,zab,zae,zaf,zaa,Tryd.f26,l56,l57,l58,l59,l60])
 refine zbM hm ziE 26000 (lsw [84,199,228,239,262] [129,251,256,1000010,1000058,1000062,1000063,1000064]) (ι:=zcp M m fun _=>True)
  ⟨fun q=>⟨frL [(1,.fz (.sl (path.map enc))),(2,.fz (.i .i64 A)),(3,.ptr (26003,0) 0),(7,.fz (.sl (l.map enc))),(9,.fz (.sl (R.map enc))),(14,.ptr (26014,2) 0),(11,.full []),(15,.fz (.b pl)),(17,.fz (.i .i64 (P q.i))),(110,.fz (.i .i64 M)),(111,.fz (.i .i64 q.i))],hpL [((26003,0),some ⟨[.fz (.sl (b.refs.map enc)),.fz (.sl (b.conds.map enc))],true,false⟩),((26014,2),some ⟨[.fz (.sl (p.refs.map enc)),.fz (.sl (p.conds.map enc))],true,false⟩)],q.m⟩,fun q=>M-q.i⟩
  ⟨0,m,by omega,by omega,trivial⟩ (by kernel_rfl) ?_ ?_
 ·refine zah ?_ ?_ ?_<;>(try simp only[go_sem,hP0,hpae])
  all_goals first|done|rfl|omega
 rintro⟨j,m2,hj,hm2,_⟩
 try simp only at hj hm2
 rcases Nat.lt_or_ge j M with h2|h2
 ·have e1:=kPs.out j
  have e2:=kPl.out j hj
  have e3:=kPl.out (j+1) (by omega)
  have e4:((P j:Nat):Int)*(R.length:Int)=((P (j+1):Nat):Int):=by rw[←e1];simp
  have h2t:((j:Int)<(M:Int))=True:=eq_true (by omega)
  repeat'(first|refine And.intro ?_ ?_|exact True.intro|refine rq fun _=>?_|refine rf fun _=>?_|simp only[go_sem,h2,h2t,e4,zad,zab,zae,zaf,zaa,Tryd.f26,l56,l57,l58,l59,l60])
  all_goals
   refine⟨⟨j+1,m2,by omega,by omega,trivial⟩,by simp only;omega,?_⟩
   refine zah ?_ ?_ ?_<;>(try simp only[go_sem])
   all_goals first|done|rfl|omega
 obtain rfl:j=M:=by omega
 repeat'(first|refine And.intro ?_ ?_|exact True.intro|refine rq fun _=>?_|refine rf fun _=>?_|simp only[go_sem,Nat.lt_irrefl,hPe,zad,zab,zae,zaf,zaa,Tryd.f26,l56,l57,l58,l59,l60])
 cases pl with
 |false=>
  have hQf:∀d H n,D.val d=some (.fz (.sl [enc Tp]))→Q d H n:=fun d H n hd=>by
   rw[kq.out]
   show D.val d=_
   rw[if_neg (by simp),hd];rfl
  refine zbM hm ziE 26000 (lsw [84,199,228,239,262] [129,251,256,1000010,1000058,1000062,1000063,1000064]) (ι:=zcp 0 m2 fun _=>True)
   ⟨fun q=>⟨frL [(1,.fz (.sl (path.map enc))),(2,.fz (.i .i64 A)),(3,.ptr (26003,0) 0),(7,.fz (.sl (l.map enc))),(9,.fz (.sl (R.map enc))),(14,.ptr (26014,2) 0),(11,.full []),(15,.fz (.b false)),(17,.fz (.i .i64 N)),(18,.fz (.i .i64 0))],hpL [((26003,0),some ⟨[.fz (.sl (b.refs.map enc)),.fz (.sl (b.conds.map enc))],true,false⟩),((26014,2),some ⟨[.fz (.sl (p.refs.map enc)),.fz (.sl (p.conds.map enc))],true,false⟩)],q.m⟩,fun q=>0-q.i⟩
   ⟨0,m2,by omega,by omega,trivial⟩ (by kernel_rfl) ?_ ?_
  ·refine zah ?_ ?_ ?_<;>(try simp only[go_sem,hPe])
   all_goals first|done|rfl|omega
  rintro⟨z,m3,hz,hm3,_⟩
  try simp only at hz hm3
  repeat'(first|refine And.intro ?_ ?_|exact True.intro|refine rq fun _=>?_|refine rf fun _=>?_|simp only[go_sem,Nat.lt_irrefl,zad,zab,zae,zaf,zaa,Tryd.f26,l56,l57,l58,l59,l60])
  refine zi9 hm zd1 26000 (lsw [84,199,228,239,262] [129,251,256,1000010,1000058,1000063]) (by kernel_rfl) ?_
  repeat'(first|refine And.intro ?_ ?_|exact True.intro|refine rq fun _=>?_|refine rf fun _=>?_|simp only[go_sem,zad,zab,zae,zaf,zaa,Tryd.f26])
  refine zaD.i (zin (b:=X) (xs:=[enc b,enc path,enc (A:Int),.sl [],.sl []]) (by simp only[go_sem]) (by rw[zdo];rw[←hX];exact zuz (by':=[]) (rs:=[]) hchn) (fun g1 g2 n' hg1 hg2 hn1 hn2=>?_) (fun g1 g2 n' hg1 hg2 hn1 hn2=>?_))
  ·repeat'(first|refine zay (id:=63) hm ziE 26000 (lsw [84,199,228,239,262] [129,251,256,1000010,1000058,1000062,1000063,1000064]) zet (by kernel_rfl) (by kernel_rfl) ?_|refine And.intro ?_ ?_|exact True.intro|refine rq fun _=>?_|refine rf fun _=>?_|simp only[go_sem,zet,zad,zab,zae,zaf,zaa,Tryd.f26,l56,l57,l58,l59,l60])
   all_goals
    refine zi9 hm zd1 26000 (lsw [84,199,228,239,262] [129,251,256,1000010,1000058,1000063]) (by kernel_rfl) ?_
    repeat'(first|refine And.intro ?_ ?_|exact True.intro|refine rq fun _=>?_|refine rf fun _=>?_|simp only[go_sem,zad,zab,zae,zaf,zaa,Tryd.f26,l56,l57,l58,l59,l60])
    all_goals
     refine hQf _ _ _ ?_
     simp only[go_sem,hTe]
     all_goals first|done|rfl|omega
  ·repeat'(first|refine zaH.i ⟨hfl7,zbf (by omega) (by decide)⟩ fun _=>?_|refine zay (id:=63) hm ziE 26000 (lsw [84,199,228,239,262] [129,251,256,1000010,1000058,1000062,1000063,1000064]) zet (by kernel_rfl) (by kernel_rfl) ?_|refine And.intro ?_ ?_|exact True.intro|refine rq fun _=>?_|refine rf fun _=>?_|simp only[go_sem,zet,hft7,zad,zab,zae,zaf,zaa,Tryd.f26,l56,l57,l58,l59,l60])
   all_goals
    refine zbx (zaO (l:=[(11,.full []),(31,.ptr (26031,n') 0)]) (hl:=[((26031,n'),some ⟨[.ow (26251,n'+1) 1 (X.refs.map enc++p.refs.map enc),.fz (.sl (X.conds.map enc++p.conds.map enc))],true,false⟩),((26251,n'+1),some tok)]) (m:=n'+3) [] [] [((26256,n'+1+1),X.conds.map enc++p.conds.map enc)] ?_ ?_ ?_ ?_ ?_) ?_
    ·simp only[go_sem]
     all_goals first|done|rfl|omega
    ·simp only[go_sem]
     all_goals first|done|rfl|omega
    ·simp only[go_sem]
     all_goals repeat'(first|refine And.intro ?_ ?_|omega|rfl)
    ·simp only[go_sem]
     all_goals first|done|rfl|omega
    ·simp only[go_sem,List.length_append,List.length_map]
     all_goals repeat'(first|refine And.intro ?_ ?_|omega|rfl|exact zll _ _)
    refine zi9 hm zd1 26000 (lsw [84,199,228,239,262] [129,251,256,1000010,1000058,1000063]) (by kernel_rfl) ?_
    repeat'(first|refine And.intro ?_ ?_|exact True.intro|refine rq fun _=>?_|refine rf fun _=>?_|simp only[go_sem,zad,zab,zae,zaf,zaa,Tryd.f26,l56,l57,l58,l59,l60])
    all_goals
     refine hQf _ _ _ ?_
     simp only[go_sem,hTe]
     all_goals first|done|rfl|omega
 |true=>
  have hQe:(O N).length=0→∀d H n,D.val d=some (.fz (.sl [enc Tp]))→Q d H n:=fun hz d H n hd=>by
   rw[kq.out]
   show D.val d=_
   rw[if_neg (fun e=>e.2 hz),hd];rfl
  have hQo:(O N).length≠0→∀(i:Abs.Id) H n,Q (.ow i 2 ((O N).map enc)) H n:=fun hz i H n=>by
   rw[kq.out]
   show D.val _=_
   rw[if_pos ⟨rfl,hz⟩];rfl
  have hO0:O 0=[]:=by rw[←hO];rfl
  have hOt:∀k,zcS v p (zkg R j k)=true→O (k+1)=O k++[gT b path A p (zkg R j k)]:=fun k hk=>by
   rw[←hO];unfold oT
   rw[List.range_succ,List.map_append,List.filter_append,List.map_append,List.map_singleton,hM,List.filter_cons_of_pos hk];rfl
  have hOf:∀k,zcS v p (zkg R j k)=false→O (k+1)=O k:=fun k hk=>by
   rw[←hO];unfold oT
   rw[List.range_succ,List.map_append,List.filter_append,List.map_append,List.map_singleton,hM,List.filter_cons_of_neg (by rw[hk];decide)];simp
  have hOl:∀k,(O k).length≤k:=fun k=>by
   rw[←hO];unfold oT
   rw[List.length_map]
   refine Nat.le_trans (List.length_filter_le _ _) ?_
   simp
  have kQe:=Kp.mk hQe
  have kQo:=Kp.mk hQo
  have kOt:=Kp.mk hOt
  have kOf:=Kp.mk hOf
  have kOl:=Kp.mk hOl
  clear hQe hQo hOt hOf hOl hO
  refine zbM hm ziE 26000 (lsw [84,199,228,239,262] [129,251,256,1000010,1000058,1000062,1000063,1000064]) (ι:=zd5 N m2 fun _=>True)
   ⟨fun q=>⟨frL [(1,.fz (.sl (path.map enc))),(2,.fz (.i .i64 A)),(3,.ptr (26003,0) 0),(7,.fz (.sl (l.map enc))),(9,.fz (.sl (R.map enc))),(14,.ptr (26014,2) 0),(11,.ow (26239,q.g) 2 ((O q.i).map enc)),(15,.fz (.b true)),(17,.fz (.i .i64 N)),(18,.fz (.i .i64 q.i))],hpL [((26003,0),some ⟨[.fz (.sl (b.refs.map enc)),.fz (.sl (b.conds.map enc))],true,false⟩),((26014,2),some ⟨[.fz (.sl (p.refs.map enc)),.fz (.sl (p.conds.map enc))],true,false⟩),((26239,q.g),some tok)],q.m⟩,fun q=>N-q.i⟩
   ⟨0,m2,m2+1,by omega,by omega,by omega,trivial⟩ (by kernel_rfl) ?_ ?_
  ·refine zaO [] [(26239,m2)] [] ?_ ?_ ?_ ?_ ?_<;>(try simp only[go_sem,hPe,hO0])
   all_goals repeat'(first|refine And.intro ?_ ?_|omega|rfl)
  rintro⟨k,g,m3,hk,hg,hm3,_⟩
  try simp only at hk hg hm3
  rcases Nat.lt_or_ge k N with h3|h3
  rotate_left
  ·obtain rfl:k=N:=by omega
   have hkt:((k:Int)<(k:Int))=False:=eq_false (by omega)
   by_cases hz:(O k).length=0
   ·have hz0:O k=[]:=List.eq_nil_of_length_eq_zero hz
    have hQ2:=kQe.out hz
    have hl0:(((O k).length:Nat):Int)=0:=by omega
    repeat'(first|refine And.intro ?_ ?_|exact True.intro|refine rq fun _=>?_|refine rf fun _=>?_|simp only[go_sem,hkt,hz0,List.map_nil,List.length_nil,zad,zab,zae,zaf,zaa,Tryd.f26,l56,l57,l58,l59,l60])
    refine zi9 hm zd1 26000 (lsw [84,199,228,239,262] [129,251,256,1000010,1000058,1000063]) (by kernel_rfl) ?_
    repeat'(first|refine And.intro ?_ ?_|exact True.intro|refine rq fun _=>?_|refine rf fun _=>?_|simp only[go_sem,zad,zab,zae,zaf,zaa,Tryd.f26])
    refine zaD.i (zin (b:=X) (xs:=[enc b,enc path,enc (A:Int),.sl [],.sl []]) (by simp only[go_sem]) (by rw[zdo];rw[←hX];exact zuz (by':=[]) (rs:=[]) hchn) (fun g1 g2 n' hg1 hg2 hn1 hn2=>?_) (fun g1 g2 n' hg1 hg2 hn1 hn2=>?_))
    ·repeat'(first|refine zay (id:=63) hm ziE 26000 (lsw [84,199,228,239,262] [129,251,256,1000010,1000058,1000062,1000063,1000064]) zet (by kernel_rfl) (by kernel_rfl) ?_|refine And.intro ?_ ?_|exact True.intro|refine rq fun _=>?_|refine rf fun _=>?_|simp only[go_sem,zet,zad,zab,zae,zaf,zaa,Tryd.f26,l56,l57,l58,l59,l60])
     all_goals
      refine zi9 hm zd1 26000 (lsw [84,199,228,239,262] [129,251,256,1000010,1000058,1000063]) (by kernel_rfl) ?_
      repeat'(first|refine And.intro ?_ ?_|exact True.intro|refine rq fun _=>?_|refine rf fun _=>?_|simp only[go_sem,zad,zab,zae,zaf,zaa,Tryd.f26,l56,l57,l58,l59,l60])
      all_goals
       refine hQ2 _ _ _ ?_
       simp only[go_sem,hTe]
       all_goals first|done|rfl|omega
    ·repeat'(first|refine zaH.i ⟨hfl7,zbf (by omega) (by decide)⟩ fun _=>?_|refine zay (id:=63) hm ziE 26000 (lsw [84,199,228,239,262] [129,251,256,1000010,1000058,1000062,1000063,1000064]) zet (by kernel_rfl) (by kernel_rfl) ?_|refine And.intro ?_ ?_|exact True.intro|refine rq fun _=>?_|refine rf fun _=>?_|simp only[go_sem,zet,hft7,zad,zab,zae,zaf,zaa,Tryd.f26,l56,l57,l58,l59,l60])
     all_goals
      refine zbx (zaO (l:=[(11,.ow (26239,g) 2 []),(31,.ptr (26031,n') 0)]) (hl:=[((26031,n'),some ⟨[.ow (26251,n'+1) 1 (X.refs.map enc++p.refs.map enc),.fz (.sl (X.conds.map enc++p.conds.map enc))],true,false⟩),((26251,n'+1),some tok),((26239,g),some tok)]) (m:=n'+3) [] [] [((26256,n'+1+1),X.conds.map enc++p.conds.map enc)] ?_ ?_ ?_ ?_ ?_) ?_
      ·simp only[go_sem]
       all_goals first|done|rfl|omega
      ·simp only[go_sem]
       all_goals first|done|rfl|omega
      ·simp only[go_sem]
       all_goals repeat'(first|refine And.intro ?_ ?_|omega|rfl)
      ·simp only[go_sem]
       all_goals first|done|rfl|omega
      ·simp only[go_sem,List.length_append,List.length_map]
       all_goals repeat'(first|refine And.intro ?_ ?_|omega|rfl|exact zll _ _)
      refine zi9 hm zd1 26000 (lsw [84,199,228,239,262] [129,251,256,1000010,1000058,1000063]) (by kernel_rfl) ?_
      repeat'(first|refine And.intro ?_ ?_|exact True.intro|refine rq fun _=>?_|refine rf fun _=>?_|simp only[go_sem,zad,zab,zae,zaf,zaa,Tryd.f26,l56,l57,l58,l59,l60])
      all_goals
       refine hQ2 _ _ _ ?_
       simp only[go_sem,hTe]
       all_goals first|done|rfl|omega
   ·have hzi:(((O k).length:Int)=0)=False:=eq_false (by omega)
    repeat'(first|refine And.intro ?_ ?_|exact True.intro|refine rq fun _=>?_|refine rf fun _=>?_|simp only[go_sem,hkt,hzi,zad,zab,zae,zaf,zaa,Tryd.f26,l56,l57,l58,l59,l60])
    all_goals exact kQo.out hz _ _ _
  have hkt:((k:Int)<(N:Int))=True:=eq_true (by omega)
  have hol:=kOl.out k
  obtain⟨t,ht⟩:∃t,zkg R j k=t:=⟨_,rfl⟩
  have htl:t.length=j:=by rw[←ht];exact zgW R j k
  have htn:∀y∈t,zai y=true:=fun y hy=>by
   have h7:t∈zfM R j []:=by
    rw[zeO]
    have h8:R.length^j=N:=by rw[←hN,hM]
    exact List.mem_map.2 ⟨k,List.mem_range.2 (by omega),ht⟩
   obtain⟨s,h8,_,h9⟩:=zj8 j [] h7
   rw[List.nil_append]at h8
   rw[h8]at hy
   exact kh.out.nm y (h9 y hy)
  obtain⟨dg,hdg⟩:∃dg:Nat→Nat,dg=fun q=>k / R.length^q:=⟨_,rfl⟩
  have hdg0:dg 0=k:=by rw[hdg];simp
  have hdgs:∀q,dg q / R.length=dg (q+1):=fun q=>by rw[hdg];simp only;rw[Nat.div_div_eq_div_mul,Nat.pow_succ]
  have hdgl:∀q,dg q≤1000000:=fun q=>by rw[hdg];exact Nat.le_trans (Nat.div_le_self _ _) (by omega)
  have hdgt:∀q,q<j→t.getD (t.length-1-q) ⟨[]⟩=R.getD (dg q % R.length) ⟨[]⟩:=fun q hq=>by rw[htl,←ht,hdg];exact zog R j k q hq
  clear hdg
  repeat'(first|refine And.intro ?_ ?_|exact True.intro|refine rq fun _=>?_|refine rf fun _=>?_|simp only[go_sem,hkt,hM,mkZ,zad,zab,zae,zaf,zaa,Tryd.f26,l56,l57,l58,l59,l60])
  refine zbM hm ziE 26000 (lsw [84,199,228,239,262] [129,251,256,1000010,1000058,1000062,1000063,1000064]) (ι:=zcp j (m3+1) fun _=>True)
   ⟨fun q=>⟨frL [(1,.fz (.sl (path.map enc))),(2,.fz (.i .i64 A)),(3,.ptr (26003,0) 0),(7,.fz (.sl (l.map enc))),(9,.fz (.sl (R.map enc))),(14,.ptr (26014,2) 0),(11,.ow (26239,g) 2 ((O k).map enc)),(15,.fz (.b true)),(17,.fz (.i .i64 N)),(18,.fz (.i .i64 k)),(19,.arr (26129,m3) 1 0 j),(20,.fz (.i .i64 ((j:Int)-1-q.i))),(21,.fz (.i .i64 (dg q.i)))],hpL [((26129,m3),some ⟨zes t q.i,false,false⟩),((26003,0),some ⟨[.fz (.sl (b.refs.map enc)),.fz (.sl (b.conds.map enc))],true,false⟩),((26014,2),some ⟨[.fz (.sl (p.refs.map enc)),.fz (.sl (p.conds.map enc))],true,false⟩),((26239,g),some tok)],q.m⟩,fun q=>j-q.i⟩
   ⟨0,m3+1,by omega,by omega,trivial⟩ (by kernel_rfl) ?_ ?_
  ·refine zah ?_ ?_ ?_<;>(try simp only[go_sem,hdg0,zwT,htl,Int.sub_zero])
   all_goals first|done|rfl|omega
  rintro⟨q,m4,hq,hm4,_⟩
  try simp only at hq hm4
  rcases Nat.lt_or_ge q j with h4|h4
  ·have hR0:R.length≠0:=fun e=>by
    have:N=0:=by rw[←hN,hM,e];exact Nat.zero_pow (by omega)
    omega
   obtain⟨dm,hdm⟩:∃x,dg q % R.length=x:=⟨_,rfl⟩
   have e0:dm<R.length:=by rw[←hdm];exact Nat.mod_lt _ (by omega)
   have e1:((dg q:Nat):Int) / (R.length:Int)=((dg (q+1):Nat):Int):=by rw[←hdgs q];exact(Int.natCast_ediv ..).symm
   have e2:=hdgl q
   have e2':=hdgl (q+1)
   have e3:=hdgt q h4
   rw[hdm]at e3
   have e4:((dg q:Nat):Int) % (R.length:Int)=(dm:Int):=by rw[←hdm];exact(Int.natCast_emod ..).symm
   have e5:((j:Int)-1-(q:Int)).toNat=t.length-1-q:=by omega
   have e6:=zwS (t:=t) (j:=q) (by omega) e3
   have e7:R.getD dm ⟨[]⟩=R[dm]:=by rw[List.getD_eq_getElem?_getD,List.getElem?_eq_getElem e0];rfl
   rw[e7]at e6
   have hqt:((0:Int)≤(j:Int)-1-(q:Int))=True:=eq_true (by omega)
   have hjl:=zzN t q
   have e9:(j:Int)-1-(((q+1:Nat)):Int)=(j:Int)-1-(q:Int)-1:=by omega
   repeat'(first|refine And.intro ?_ ?_|exact True.intro|refine rq fun _=>?_|refine rf fun _=>?_|simp only[go_sem,hqt,e4,e5,e0,e1,Int.toNat_natCast,zad,zab,zae,zaf,zaa,Tryd.f26,l56,l57,l58,l59,l60])
   all_goals
    refine⟨⟨q+1,m4,by omega,by omega,trivial⟩,by simp only;omega,?_⟩
    refine zah ?_ ?_ ?_<;>(try simp only[go_sem,e6,e9])
    all_goals first|done|rfl|omega
  obtain rfl:q=j:=by omega
  have hqt:((0:Int)≤(q:Int)-1-(q:Int))=False:=eq_false (by omega)
  have e8:zes t q=zag (t.map enc):=by rw[←zzM,htl]
  repeat'(first|refine And.intro ?_ ?_|exact True.intro|refine rq fun _=>?_|refine rf fun _=>?_|simp only[go_sem,hqt,zad,zab,zae,zaf,zaa,Tryd.f26,l56,l57,l58,l59,l60])
  obtain⟨al,hal⟩:∃al:Nat→Bool,al=fun i=>(p.conds.take i).all fun x=>zd6 v (ziP x.form p.refs t):=⟨_,rfl⟩
  have hal0:al 0=true:=by rw[hal];rfl
  have hals:∀i (h:i<p.conds.length),al (i+1)=(al i&&zd6 v (ziP p.conds[i].form p.refs t)):=fun i h=>by rw[hal];simp only;rw[List.take_succ_eq_append_getElem h,List.all_append];simp
  have hale:al p.conds.length=zcS v p t:=by rw[hal];simp only[List.take_length];rfl
  have kals:=Kp.mk hals
  clear hals hal
  refine zbM hm ziE 26000 (lsw [84,199,228,239,262] [129,251,256,1000010,1000058,1000062,1000063,1000064]) (ι:=zcp p.conds.length m4 fun _=>True)
   ⟨fun q'=>⟨frL [(1,.fz (.sl (path.map enc))),(2,.fz (.i .i64 A)),(3,.ptr (26003,0) 0),(7,.fz (.sl (l.map enc))),(9,.fz (.sl (R.map enc))),(14,.ptr (26014,2) 0),(11,.ow (26239,g) 2 ((O k).map enc)),(15,.fz (.b true)),(17,.fz (.i .i64 N)),(18,.fz (.i .i64 k)),(19,.fz (.sl (t.map enc))),(22,.fz (.b (al q'.i))),(155,.fz (.i .i64 p.conds.length)),(156,.fz (.i .i64 q'.i))],hpL [((26003,0),some ⟨[.fz (.sl (b.refs.map enc)),.fz (.sl (b.conds.map enc))],true,false⟩),((26014,2),some ⟨[.fz (.sl (p.refs.map enc)),.fz (.sl (p.conds.map enc))],true,false⟩),((26239,g),some tok)],q'.m⟩,fun q=>p.conds.length-q.i⟩
   ⟨0,m4,by omega,by omega,trivial⟩ (by kernel_rfl) ?_ ?_
  ·refine zaO [] [] [((26129,m3),t.map enc)] ?_ ?_ ?_ ?_ ?_<;>(try simp only[go_sem,hal0,e8])
   all_goals repeat'(first|refine And.intro ?_ ?_|omega|rfl)
  rintro⟨i,m5,hi5,hm5,_⟩
  try simp only at hi5 hm5
  rcases Nat.lt_or_ge i p.conds.length with h5|h5
  ·obtain⟨x,hx⟩:∃x,p.conds[i]=x:=⟨_,rfl⟩
   have e1:=kals.out i h5
   rw[hx]at e1
   repeat'(first|refine And.intro ?_ ?_|exact True.intro|refine rq fun _=>?_|refine rf fun _=>?_|simp only[go_sem,h5,hx,zad,zab,zae,zaf,zaa,Tryd.f26,l56,l57,l58,l59,l60])
   obtain⟨ws,hws⟩:∃ws,x.form.words=ws:=⟨_,rfl⟩
   obtain⟨hxl,hxw⟩:=kh.out.pf hpl x (by rw[←hx];exact List.getElem_mem h5)
   have hx0:x.form.subs=[]:=by rcases hxl with⟨_,_,e,_⟩|⟨_,_,e,_⟩<;>rw[e]<;>rfl
   have hwl:ws.length≤3:=by rw[←hws];exact hxw
   have hpn:=kh.out.pn
   obtain⟨PW,hPW⟩:∃PW:Nat→List Str,PW=fun r=>(ws.take r).map (zgF p.refs t):=⟨_,rfl⟩
   have hPW0:PW 0=[]:=by rw[hPW];rfl
   have hPWs:∀r (h:r<ws.length),PW (r+1)=PW r++[zgF p.refs t ws[r]]:=fun r h=>by rw[hPW];simp only;rw[List.take_succ_eq_append_getElem h,List.map_append];rfl
   have hPWl:∀r,(PW r).length≤ws.length:=fun r=>by rw[hPW];simp only;rw[List.length_map,List.length_take];omega
   have hpe:Abs.zac.mk x.form.kind x.form.name (PW ws.length) []=ziP x.form p.refs t:=by
    rw[hPW];unfold ziP;simp only[List.take_length];rw[hws,hx0]
   have hreq:okL l (.mk x.form.kind x.form.name (PW ws.length) []):=by
    rw[hpe]
    refine kh.out.said _ (zrF hxl htn (by rw[htl];exact hM)) ?_
    show(x.form.words.map (zgF p.refs t)).length≤3
    rw[List.length_map];exact hxw
   rw[←hpe]at e1
   clear hPW hpe hpn
   have kPWs:=Kp.mk hPWs
   clear hPWs
   refine zbM hm ziE 26000 (lsw [84,199,228,239,262] [129,251,256,1000010,1000058,1000062,1000063,1000064]) (ι:=zd5 ws.length (m5+2) fun _=>True)
    ⟨fun q'=>⟨frL [(1,.fz (.sl (path.map enc))),(2,.fz (.i .i64 A)),(3,.ptr (26003,0) 0),(7,.fz (.sl (l.map enc))),(9,.fz (.sl (R.map enc))),(14,.ptr (26014,2) 0),(11,.ow (26239,g) 2 ((O k).map enc)),(15,.fz (.b true)),(17,.fz (.i .i64 N)),(18,.fz (.i .i64 k)),(19,.fz (.sl (t.map enc))),(22,.fz (.b (al i))),(25,.ptr (26025,m5+1) 0),(155,.fz (.i .i64 p.conds.length)),(156,.fz (.i .i64 i)),(171,.fz (.sl (ws.map enc))),(172,.fz (.i .i64 ws.length)),(173,.fz (.i .i64 q'.i))],hpL [((26003,0),some ⟨[.fz (.sl (b.refs.map enc)),.fz (.sl (b.conds.map enc))],true,false⟩),((26014,2),some ⟨[.fz (.sl (p.refs.map enc)),.fz (.sl (p.conds.map enc))],true,false⟩),((26239,g),some tok),((26025,m5+1),some ⟨[.fz (.i .i64 x.form.kind),.fz (.s x.form.name.l),.ow (26199,q'.g) 1 ((PW q'.i).map enc),.full []],true,false⟩),((26199,q'.g),some tok)],q'.m⟩,fun q'=>ws.length-q'.i⟩
    ⟨0,m5+2,m5+3,by omega,by omega,by omega,trivial⟩ (by kernel_rfl) ?_ ?_
   ·refine zaO [] [(26199,m5+2)] [] ?_ ?_ ?_ ?_ ?_<;>(try simp only[go_sem,hws,hPW0])
    all_goals repeat'(first|refine And.intro ?_ ?_|omega|rfl)
   rintro⟨r,g6,m6,hr,hg6,hm6,_⟩
   try simp only at hr hg6 hm6
   have hPr:=hPWl r
   rcases Nat.lt_or_ge r ws.length with h6|h6
   ·obtain⟨w,hw⟩:∃w,ws[r]=w:=⟨_,rfl⟩
    have f1:=kPWs.out r h6
    rw[hw]at f1
    have hzf:∀s (h:s<p.refs.length),w∉p.refs.take s→p.refs[s]=w→zgF p.refs t w=t.getD s ⟨[]⟩:=fun s h h1 h2=>by
     unfold zgF
     rw[if_pos (by rw[←h2];exact List.getElem_mem h),zq3 h h1 h2]
    have hzn:w∉p.refs→zgF p.refs t w=w:=fun h=>by unfold zgF;rw[if_neg h]
    obtain⟨z,hz⟩:∃z,zgF p.refs t w=z:=⟨_,rfl⟩
    rw[hz]at hzf hzn f1
    have kzf:=Kp.mk hzf
    have kzn:=Kp.mk hzn
    clear hzf hzn
    repeat'(first|refine And.intro ?_ ?_|exact True.intro|refine rq fun _=>?_|refine rf fun _=>?_|simp only[go_sem,h6,hw,hM,zad,zab,zae,zaf,zaa,Tryd.f26,l56,l57,l58,l59,l60])
    refine zvk (ι:=zcp 0 m6 fun _=>True) (.exit 14) (fun q'=>⟨frL [(1,.fz (.sl (path.map enc))),(2,.fz (.i .i64 A)),(3,.ptr (26003,0) 0),(7,.fz (.sl (l.map enc))),(9,.fz (.sl (R.map enc))),(14,.ptr (26014,2) 0),(11,.ow (26239,g) 2 ((O k).map enc)),(15,.fz (.b true)),(17,.fz (.i .i64 N)),(18,.fz (.i .i64 k)),(19,.fz (.sl (t.map enc))),(22,.fz (.b (al i))),(25,.ptr (26025,m5+1) 0),(27,.fz (.s z.l)),(155,.fz (.i .i64 p.conds.length)),(156,.fz (.i .i64 i)),(171,.fz (.sl (ws.map enc))),(172,.fz (.i .i64 ws.length)),(173,.fz (.i .i64 r))],hpL [((26003,0),some ⟨[.fz (.sl (b.refs.map enc)),.fz (.sl (b.conds.map enc))],true,false⟩),((26014,2),some ⟨[.fz (.sl (p.refs.map enc)),.fz (.sl (p.conds.map enc))],true,false⟩),((26239,g),some tok),((26025,m5+1),some ⟨[.fz (.i .i64 x.form.kind),.fz (.s x.form.name.l),.ow (26199,g6) 1 ((PW r).map enc),.full []],true,false⟩),((26199,g6),some tok)],q'.m⟩) ?_ ?_
    ·rintro⟨_,m7,_,hm7,_⟩
     try simp only at hm7
     repeat'(first|refine zaH.i ⟨zC3 _,zbf (by omega) (by decide)⟩ fun _=>?_|refine And.intro ?_ ?_|exact True.intro|refine rq fun _=>?_|refine rf fun _=>?_|simp only[go_sem,zad,zab,zae,zaf,zaa,Tryd.f26,l56,l57,l58,l59,l60])
     all_goals
      refine⟨⟨r+1,m7,m7+1,by omega,by omega,by omega,trivial⟩,by simp only;omega,?_⟩
      refine zah ?_ ?_ ?_<;>(try simp only[go_sem,f1,List.map_append])
      all_goals first|done|rfl|omega
    refine zar hm ziE 26000 (lsw [84,199,228,239,262] [129,251,256,1000010,1000058,1000062,1000063,1000064]) (ι:=zcp q m6 fun s=>w∉p.refs.take s)
     ⟨fun q'=>⟨frL [(1,.fz (.sl (path.map enc))),(2,.fz (.i .i64 A)),(3,.ptr (26003,0) 0),(7,.fz (.sl (l.map enc))),(9,.fz (.sl (R.map enc))),(14,.ptr (26014,2) 0),(11,.ow (26239,g) 2 ((O k).map enc)),(15,.fz (.b true)),(17,.fz (.i .i64 N)),(18,.fz (.i .i64 k)),(19,.fz (.sl (t.map enc))),(22,.fz (.b (al i))),(25,.ptr (26025,m5+1) 0),(27,.fz (.s w.l)),(155,.fz (.i .i64 p.conds.length)),(156,.fz (.i .i64 i)),(171,.fz (.sl (ws.map enc))),(172,.fz (.i .i64 ws.length)),(173,.fz (.i .i64 r)),(179,.fz (.i .i64 q)),(180,.fz (.i .i64 q'.i))],hpL [((26003,0),some ⟨[.fz (.sl (b.refs.map enc)),.fz (.sl (b.conds.map enc))],true,false⟩),((26014,2),some ⟨[.fz (.sl (p.refs.map enc)),.fz (.sl (p.conds.map enc))],true,false⟩),((26239,g),some tok),((26025,m5+1),some ⟨[.fz (.i .i64 x.form.kind),.fz (.s x.form.name.l),.ow (26199,g6) 1 ((PW r).map enc),.full []],true,false⟩),((26199,g6),some tok)],q'.m⟩,fun q'=>q-q'.i⟩
     ⟨0,m6,by omega,by omega,by simp⟩ (by kernel_rfl) ?_ ?_
    ·refine zah ?_ ?_ ?_<;>(try simp only[go_sem])
     all_goals first|done|rfl|omega
    rintro⟨s,m7,hs,hm7,hsw⟩
    try simp only at hs hm7 hsw
    rcases Nat.lt_or_ge s q with h7|h7
    ·have h7p:s<p.refs.length:=by omega
     have h7t:s<t.length:=by omega
     have h7n:((s:Int)<(q:Int))=True:=eq_true (by omega)
     obtain⟨u,hu⟩:∃u,p.refs[s]=u:=⟨_,rfl⟩
     obtain⟨u',hu'⟩:∃u,t[s]=u:=⟨_,rfl⟩
     by_cases huw:u=w
     ·have hyl:(u.l=w.l)=True:=eq_true (by rw[huw])
      have hzu:u'=z:=by rw[kzf.out s h7p hsw (by rw[hu];exact huw),←hu',List.getD_eq_getElem?_getD,List.getElem?_eq_getElem h7t];rfl
      repeat'(first|refine And.intro ?_ ?_|exact True.intro|refine rq fun _=>?_|refine rf fun _=>?_|simp only[go_sem,h7n,h7p,h7t,hu,hu',hyl,hzu,zad,zab,zae,zaf,zaa,Tryd.f26,l56,l57,l58,l59,l60])
      all_goals
       refine⟨⟨0,m7,by omega,by omega,trivial⟩,?_⟩
       refine zah ?_ ?_ ?_<;>(try simp only[go_sem])
       all_goals first|done|rfl|omega
     ·have hyl:(u.l=w.l)=False:=eq_false fun h=>huw (zgb h)
      have hsw':w∉p.refs.take (s+1):=by
       rw[List.take_succ_eq_append_getElem h7p,hu,List.mem_append,List.mem_singleton]
       exact fun h=>h.elim hsw fun h=>huw h.symm
      repeat'(first|refine And.intro ?_ ?_|exact True.intro|refine rq fun _=>?_|refine rf fun _=>?_|simp only[go_sem,h7n,h7p,h7t,hu,hu',hyl,zad,zab,zae,zaf,zaa,Tryd.f26,l56,l57,l58,l59,l60])
      all_goals
       refine⟨⟨s+1,m7,by omega,by omega,hsw'⟩,by simp only;omega,?_⟩
       refine zah ?_ ?_ ?_<;>(try simp only[go_sem])
       all_goals first|done|rfl|omega
    obtain rfl:s=q:=by omega
    have hzw:w=z:=(kzn.out (by rw[List.take_of_length_le (by omega)]at hsw;exact hsw)).symm
    repeat'(first|refine And.intro ?_ ?_|exact True.intro|refine rq fun _=>?_|refine rf fun _=>?_|simp only[go_sem,Nat.lt_irrefl,zad,zab,zae,zaf,zaa,Tryd.f26,l56,l57,l58,l59,l60])
    all_goals
     refine⟨⟨0,m7,by omega,by omega,trivial⟩,?_⟩
     refine zah ?_ ?_ ?_<;>(try simp only[go_sem,hzw])
     all_goals first|done|rfl|omega
   obtain rfl:r=ws.length:=by omega
   have hvl:=kh.out.hv
   cases hai:al i with
   |false=>
    rw[hai,Bool.false_and]at e1
    repeat'(first|refine And.intro ?_ ?_|exact True.intro|refine rq fun _=>?_|refine rf fun _=>?_|simp only[go_sem,Nat.lt_irrefl,hai,zad,zab,zae,zaf,zaa,Tryd.f26,l56,l57,l58,l59,l60])
    all_goals
     refine⟨⟨i+1,m6,by omega,by omega,trivial⟩,by simp only;omega,?_⟩
     refine zah ?_ ?_ ?_<;>(try simp only[go_sem,e1])
     all_goals first|done|rfl|omega
   |true=>
    rw[hai,Bool.true_and]at e1
    obtain⟨W1,hW1⟩:∃y,PW ws.length=y:=⟨_,rfl⟩
    rw[hW1]at e1 hreq
    cases htd:zd6 v (.mk x.form.kind x.form.name W1 [])with
    |false=>
     rw[htd]at e1
     repeat'(first|refine zaH.i hreq fun _=>?_|refine And.intro ?_ ?_|exact True.intro|refine rq fun _=>?_|refine rf fun _=>?_|simp only[go_sem,Nat.lt_irrefl,hai,hW1,hvl,htd,zad,zab,zae,zaf,zaa,Tryd.f26,l56,l57,l58,l59,l60])
     all_goals
      refine⟨⟨i+1,m6,by omega,by omega,trivial⟩,by simp only;omega,?_⟩
      refine zah ?_ ?_ ?_<;>(try simp only[go_sem,e1])
      all_goals first|done|rfl|omega
    |true=>
     rw[htd]at e1
     repeat'(first|refine zaH.i hreq fun _=>?_|refine And.intro ?_ ?_|exact True.intro|refine rq fun _=>?_|refine rf fun _=>?_|simp only[go_sem,Nat.lt_irrefl,hai,hW1,hvl,htd,zad,zab,zae,zaf,zaa,Tryd.f26,l56,l57,l58,l59,l60])
     all_goals
      refine⟨⟨i+1,m6,by omega,by omega,trivial⟩,by simp only;omega,?_⟩
      refine zah ?_ ?_ ?_<;>(try simp only[go_sem,e1])
      all_goals first|done|rfl|omega
  obtain rfl:i=p.conds.length:=by omega
  cases hfp:zcS v p t with
  |false=>
   have hO1:=kOf.out k (by rw[ht];exact hfp)
   repeat'(first|refine And.intro ?_ ?_|exact True.intro|refine rq fun _=>?_|refine rf fun _=>?_|simp only[go_sem,Nat.lt_irrefl,hale,hfp,zad,zab,zae,zaf,zaa,Tryd.f26,l56,l57,l58,l59,l60])
   all_goals
    refine⟨⟨k+1,g,m5,by omega,by omega,by omega,trivial⟩,by simp only;omega,?_⟩
    refine zah ?_ ?_ ?_<;>(try simp only[go_sem,hO1])
    all_goals first|done|rfl|omega
  |true=>
   have hO1:=kOt.out k (by rw[ht];exact hfp)
   rw[ht]at hO1
   obtain⟨Z,hZ⟩:∃Z:Nat→List Abs.zal,Z=fun i=>List.zipWith zbc (p.refs.take i) t:=⟨_,rfl⟩
   have hZ0:Z 0=[]:=by rw[hZ];rfl
   have hZs:∀i (h:i<p.refs.length) (h':i<t.length),Z (i+1)=Z i++[zbc p.refs[i] t[i]]:=fun i h h'=>by rw[hZ];exact zon h h'
   have hZl:∀i,(Z i).length≤q:=fun i=>by rw[hZ];simp only;rw[List.length_zipWith];omega
   have hZe:Z q=List.zipWith zbc p.refs t:=by rw[hZ];simp only;rw[List.take_of_length_le (by omega)]
   obtain⟨gt,hgt⟩:∃x,gT b path A p t=x:=⟨_,rfl⟩
   have hgz:zoD b path (A:Int) (Z q) p.refs=gt:=by rw[hZe];exact hgt
   have hrz:ztW b path (A:Int) (Z q) p.refs:=kh.out.ch _ _ (by have:=hZl q;omega) hpr
   rw[hgt]at hO1
   clear hZ hZe hgt
   have kZs:=Kp.mk hZs
   clear hZs
   repeat'(first|refine And.intro ?_ ?_|exact True.intro|refine rq fun _=>?_|refine rf fun _=>?_|simp only[go_sem,Nat.lt_irrefl,hale,hfp,hM,zad,zab,zae,zaf,zaa,Tryd.f26,l56,l57,l58,l59,l60])
   refine zbM hm ziE 26000 (lsw [84,199,228,239,262] [129,251,256,1000010,1000058,1000062,1000063,1000064]) (ι:=zd5 q m5 fun _=>True)
    ⟨fun q'=>⟨frL [(1,.fz (.sl (path.map enc))),(2,.fz (.i .i64 A)),(3,.ptr (26003,0) 0),(7,.fz (.sl (l.map enc))),(9,.fz (.sl (R.map enc))),(14,.ptr (26014,2) 0),(11,.ow (26239,g) 2 ((O k).map enc)),(15,.fz (.b true)),(17,.fz (.i .i64 N)),(18,.fz (.i .i64 k)),(19,.fz (.sl (t.map enc))),(29,.ow (26228,q'.g) 7 ((Z q'.i).map enc)),(212,.fz (.i .i64 q)),(213,.fz (.i .i64 q'.i))],hpL [((26003,0),some ⟨[.fz (.sl (b.refs.map enc)),.fz (.sl (b.conds.map enc))],true,false⟩),((26014,2),some ⟨[.fz (.sl (p.refs.map enc)),.fz (.sl (p.conds.map enc))],true,false⟩),((26239,g),some tok),((26228,q'.g),some tok)],q'.m⟩,fun q'=>q-q'.i⟩
    ⟨0,m5,m5+1,by omega,by omega,by omega,trivial⟩ (by kernel_rfl) ?_ ?_
   ·refine zaO [] [(26228,m5)] [] ?_ ?_ ?_ ?_ ?_<;>(try simp only[go_sem,hZ0])
    all_goals repeat'(first|refine And.intro ?_ ?_|omega|rfl)
   rintro⟨s,g6,m6,hs,hg6,hm6,_⟩
   try simp only at hs hg6 hm6
   have hZr:=hZl s
   rcases Nat.lt_or_ge s q with h7|h7
   ·have h7p:s<p.refs.length:=by omega
    have h7t:s<t.length:=by omega
    have h7n:((s:Int)<(q:Int))=True:=eq_true (by omega)
    have f1:=kZs.out s h7p h7t
    obtain⟨u,hu⟩:∃u,p.refs[s]=u:=⟨_,rfl⟩
    obtain⟨u',hu'⟩:∃u,t[s]=u:=⟨_,rfl⟩
    rw[hu,hu']at f1
    obtain⟨ZS,hZS⟩:∃x,Z s=x:=⟨_,rfl⟩
    rw[hZS]at f1 hZr
    repeat'(first|refine zay (id:=58) hm ziE 26000 (lsw [84,199,228,239,262] [129,251,256,1000010,1000058,1000062,1000063,1000064]) zsr (by kernel_rfl) (by kernel_rfl) ?_|refine And.intro ?_ ?_|exact True.intro|refine rq fun _=>?_|refine rf fun _=>?_|simp only[go_sem,h7n,h7p,h7t,hu,hu',hZS,zsr,zad,zab,zae,zaf,zaa,Tryd.f26,l56,l57,l58,l59,l60])
    all_goals
     refine⟨⟨s+1,m6,m6+1,by omega,by omega,by omega,trivial⟩,by simp only;omega,?_⟩
     refine zah ?_ ?_ ?_<;>(try simp only[go_sem,f1,List.map_append])
     all_goals first|done|rfl|omega
   obtain rfl:s=q:=by omega
   repeat'(first|refine zaH.i hrz fun _=>?_|refine And.intro ?_ ?_|exact True.intro|refine rq fun _=>?_|refine rf fun _=>?_|simp only[go_sem,Nat.lt_irrefl,hgz,zad,zab,zae,zaf,zaa,Tryd.f26,l56,l57,l58,l59,l60])
   all_goals
    refine⟨⟨k+1,m6,m6+1,by omega,by omega,by omega,trivial⟩,by simp only;omega,?_⟩
    refine zah ?_ ?_ ?_<;>(try simp only[go_sem,hO1,List.map_append])
    all_goals first|done|rfl|omega
end Go.Proofs.YtalbdmcklgglbaaDoor

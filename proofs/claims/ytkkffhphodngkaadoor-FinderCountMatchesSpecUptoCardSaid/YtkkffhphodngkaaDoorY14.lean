/- several texts of this proof in one; no conditions -/
import Derived.Test.YtkkffhphodngkaaDoorAT
import Derived.Test.YtkkffhphodngkaaDoorQ145
import Derived.Test.YtkkffhphodngkaaDoorSH
import Derived.Test.YtkkffhphodngkaaDoorY9
set_option maxRecDepth 100000
set_option maxHeartbeats 1000000
set_option linter.unusedSimpArgs false
namespace Go.Proofs.YtkkffhphodngkaaDoor
open Go Go.Abs Go.Proofs
section
variable {G:Nat→List FD}
def ziY (p:Pd):zdq:=⟨p.name,p.arity,[]⟩
@[go_sem] theorem zze {p:Pd}:enc (ziY p)= .agg [.s p.name.l,.i .i64 p.arity,.sl []]:=rfl
def zbF (l:List Pd):List D:=zae (l.map fun p=>enc (ziY p))
theorem zss (l:List Pd):(zbF l).length=l.length*3:=by
 unfold zbF
 have h:=za3 (xs:=l.map fun p=>enc (ziY p)) (es:=3) fun i hi=>by
  have hi2:i<l.length:=by simpa using hi
  rw[List.getD_eq_getElem?_getD,List.getElem?_map,List.getElem?_eq_getElem hi2];rfl
 rw[h,List.length_map]
theorem zsr (p:Pd)(l:List Pd):zbF (p::l)=[.fz (.s p.name.l),.fz (.i .i64 p.arity),.fz (.sl [])]++zbF l:=rfl
theorem zvQ:∀{l:List Pd} {i:Nat} (h:i<l.length),(zbF l|>.drop (i*3)|>.take 3)=[.fz (.s l[i].name.l),.fz (.i .i64 l[i].arity),.fz (.sl [])]
 |[],_,h=>by simp at h
 |p::l,0,_=>by rw[zsr];rfl
 |p::l,i+1,h=>by
  rw[zsr,Nat.add_mul,Nat.one_mul,Nat.add_comm,←List.drop_drop]
  exact zvQ (l:=l) (by simpa using h)
theorem zow {l:List Pd}{p:Pd}{i:Nat}(h:i<l.length)(e:l[i]=p)(hp:p∉l.take i):l.idxOf p=i:=by
 induction l generalizing i with
 |nil=>simp at h
 |cons x l ih=>
  cases i with
  |zero=>
   have e2:x=p:=e
   rw[List.idxOf_cons,e2,beq_self_eq_true];rfl
  |succ i=>
   rw[List.take_succ_cons]at hp
   have h1:x≠p:=fun e2=>hp (by rw[e2];simp)
   have h3:=ih (by simpa using h) (by simpa using e) fun h2=>hp (List.mem_cons_of_mem _ h2)
   rw[List.idxOf_cons,h3,beq_false_of_ne h1];rfl
theorem zxg (l:List Pd)(p:Pd):zbF (l++[p])=zbF l++[.fz (.s p.name.l),.fz (.i .i64 p.arity),.fz (.sl [])]:=by
 unfold zbF zae
 rw[List.map_append,List.flatMap_append]
 rfl
set_option maxHeartbeats 4000000 in
theorem f58 {y p:Pd}{id:Abs.Id}{H:zau}{n:Nat}{R:D→zau→Nat→Prop}(hid0:id.2<n){z:D}(ho:H id=some ⟨[.fz (.s p.name.l),.fz (.i .i64 p.arity),z],true,false⟩)
  (hR:∀n',n≤n'→R (.fz (.b (decide (y=p)))) H n'):zay Tryd.prog G 58 [.agg [.fz (.s y.name.l),.fz (.i .i64 y.arity),.fz (.sl [])],.ptr id 0] H n R:=by
 refine zcr zEd (fun hfr=>?_) hR
 obtain⟨Q,hQ⟩:∃Q:D→zau→Nat→Prop,Q=(fun d' H' n'=>d'= .fz (.b (decide (y=p)))∧n≤n'∧∀id,id.2<n→H' id=H id):=⟨_,rfl⟩
 rw[←hQ]
 have e:H=hpX [] H:=rfl
 rw[e]
 have hn0:∀id:Abs.Id,id.2<n→id≠(58002,n):=fun id h e=>by rw[e]at h;simp at h
 have hne:(id=(58002,n))=False:=eq_false (hn0 id hid0)
 by_cases h1:y.name=p.name
 ·have h1':(y.name.l=p.name.l)=True:=eq_true (by rw[h1])
  refine zah (N:=16) hm hI3 58000 (lst []) zEd Tryd.func58 rfl rfl (by simp) (by kernel_rfl) ?_
  repeat'(first|refine And.intro ?_ ?_|exact True.intro|refine rq fun _=>?_|refine rf fun _=>?_|simp only[go_sem,ho,h1',hne,Tryd.f58])
  all_goals
   rw[hQ]
   refine⟨?_,by omega,fun id hid=>?_⟩
   ·by_cases h2:y.arity=p.arity
    ·have:y=p:=by
      cases y;cases p;simp only at h1 h2;rw[h1,h2]
     simp[this]
    ·have:¬y=p:=fun e=>h2 (by rw[e])
     simp[this,h2]
   ·simp only[go_sem,hn0 id hid]
 ·have h1':(y.name.l=p.name.l)=False:=eq_false fun e=>h1 (by cases h:y.name;cases h2:p.name;rw[h,h2]at e;exact congrArg Str.mk e)
  refine zah (N:=16) hm hI3 58000 (lst []) zEd Tryd.func58 rfl rfl (by simp) (by kernel_rfl) ?_
  repeat'(first|refine And.intro ?_ ?_|exact True.intro|refine rq fun _=>?_|refine rf fun _=>?_|simp only[go_sem,ho,h1',hne,Tryd.f58])
  all_goals
   rw[hQ]
   refine⟨?_,by omega,fun id hid=>?_⟩
   ·have:¬y=p:=fun e=>h1 (by rw[e])
    simp[this]
   ·simp only[go_sem,hn0 id hid]
set_option maxHeartbeats 4000000 in
theorem f81 {l:List Pd}{p:Pd}{id a:Abs.Id}{vt:Bool}{H:zau}{n:Nat}{R:D→zau→Nat→Prop}(hid:id.2<n){z:D}(ho:H id=some ⟨[.fz (.s p.name.l),.fz (.i .i64 p.arity),z],true,false⟩)(hoa:H a=some ⟨zbF l,false,vt⟩)(hvt:vt=true→l=[])(hl:l.length≤1000000)
  (hR:∀n',n≤n'→R (.fz (.i .i64 (if p∈l then(l.idxOf p:Int)else-1))) H n'):zay Tryd.prog G 81 [.arr a 3 0 l.length,.fn 58 [.ptr id 0]] H n R:=by
 refine zcr zGp (fun hfr=>?_) hR
 obtain⟨Q,hQ⟩:∃Q:D→zau→Nat→Prop,Q=(fun d' H' n'=>d'= .fz (.i .i64 (if p∈l then(l.idxOf p:Int)else-1))∧n≤n'∧∀id,id.2<n→H' id=H id):=⟨_,rfl⟩
 rw[←hQ]
 have kq:=Kp.mk hQ
 clear hQ
 have e:H=hpX [] H:=rfl
 rw[e]
 have hrl:=zss l
 refine zah (N:=19) hm hI3 81000 (lst []) zGp Tryd.func81 rfl rfl (by simp) (by kernel_rfl) ?_
 repeat'(first|refine And.intro ?_ ?_|exact True.intro|refine rq fun _=>?_|refine rf fun _=>?_|simp only[go_sem,hoa,Tryd.f81])
 refine zai hm hI3 81000 (lst []) (ι:=zbG l.length n fun i=>p∉l.take i)
  ⟨fun q=>⟨frL [(0,.arr a 3 0 l.length),(1,.fn 58 [.ptr id 0]),(6,.arr a 3 0 l.length),(7,.fz (.i .i64 l.length)),(8,.fz (.i .i64 q.i))],hpX [] H,q.m⟩,fun q=>l.length-q.i⟩
  ⟨0,n,by omega,Nat.le_refl _,by simp⟩ (by kernel_rfl) ?_ ?_
 ·refine zaX ?_ ?_ (fun id2 o2 ho2=>?_) ?_
  ·simp only[go_sem]
  ·simp only[go_sem]
  ·exact ho2
  ·first|omega|(simp only[go_sem];done)|(simp only[go_sem];omega)
 rintro⟨i,m,hi,hm1,hp⟩
 try simp only at hi hm1 hp
 rcases Nat.lt_or_ge i l.length with h1|h1
 ·obtain⟨y,hy⟩:∃y,l[i]=y:=⟨_,rfl⟩
  have g0:=zvQ h1
  rw[hy]at g0
  have hv:vt=false:=by
   cases hv:vt with
   |false=>rfl
   |true=>rw[hvt hv]at h1;simp at h1
  have hrq:i*3+3≤l.length*3∧vt=false:=⟨by omega,hv⟩
  by_cases hyp:y=p
  ·have hd:decide (y=p)=true:=decide_eq_true hyp
   repeat'(first|refine zas.i (f58 (y:=y) (p:=p) (by omega) ho fun n' hn'=>?_)|refine zaB.i hrq fun _=>?_|refine And.intro ?_ ?_|exact True.intro|refine rq fun _=>?_|refine rf fun _=>?_|simp only[go_sem,hoa,g0,hrl,h1,hd,Tryd.f81])
   all_goals
    rw[kq.out,if_pos (by rw[←hyp,←hy];exact List.getElem_mem h1),zow h1 (by rw[hy,hyp]) hp]
    exact⟨rfl,by omega,fun _ _=>rfl⟩
  ·have hd:decide (y=p)=false:=decide_eq_false hyp
   repeat'(first|refine zas.i (f58 (y:=y) (p:=p) (by omega) ho fun n' hn'=>?_)|refine zaB.i hrq fun _=>?_|refine And.intro ?_ ?_|exact True.intro|refine rq fun _=>?_|refine rf fun _=>?_|simp only[go_sem,hoa,g0,hrl,h1,hd,Tryd.f81])
   all_goals
    refine⟨⟨i+1,n',by omega,by omega,?_⟩,by simp only;omega,?_⟩
    ·rw[List.take_succ_eq_append_getElem h1,hy]
     intro h2
     rcases List.mem_append.1 h2 with h2|h2
     ·exact hp h2
     ·exact hyp (List.mem_singleton.1 h2).symm
    refine zaX ?_ ?_ (fun id2 o2 ho2=>?_) ?_
    ·simp only[go_sem]
    ·simp only[go_sem]
    ·exact ho2
    ·first|omega|(simp only[go_sem];done)|(simp only[go_sem];omega)
 ·obtain rfl:i=l.length:=by omega
  rw[List.take_length]at hp
  repeat'(first|refine And.intro ?_ ?_|exact True.intro|refine rq fun _=>?_|refine rf fun _=>?_|simp only[go_sem,hoa,Nat.lt_irrefl,Tryd.f81])
  all_goals
   rw[kq.out,if_neg hp]
   exact⟨rfl,by omega,fun _ _=>rfl⟩
theorem f57 {l:List Pd}{p:Pd}{id a:Abs.Id}{vt:Bool}{H:zau}{n:Nat}{R:D→zau→Nat→Prop}(hid:id.2<n){z:D}(ho:H id=some ⟨[.fz (.s p.name.l),.fz (.i .i64 p.arity),z],true,false⟩)(hoa:H a=some ⟨zbF l,false,vt⟩)(hvt:vt=true→l=[])(hl:l.length≤1000000)
  (hR:∀n',n≤n'→R (.fz (.b (decide (p∈l)))) H n'):zay Tryd.prog G 57 [.arr a 3 0 l.length,.fn 58 [.ptr id 0]] H n R:=by
 refine zcr zGa (fun hfr=>?_) hR
 obtain⟨Q,hQ⟩:∃Q:D→zau→Nat→Prop,Q=(fun d' H' n'=>d'= .fz (.b (decide (p∈l)))∧n≤n'∧∀id,id.2<n→H' id=H id):=⟨_,rfl⟩
 rw[←hQ]
 have kq:=Kp.mk hQ
 clear hQ
 have e:H=hpX [] H:=rfl
 rw[e]
 refine zah (N:=9) hm hI3 57000 (lst []) zGa Tryd.func57 rfl rfl (by simp) (by kernel_rfl) ?_
 repeat'(first|refine zas.i (f81 (l:=l) (p:=p) hid ho hoa hvt hl fun n' hn'=>?_)|refine And.intro ?_ ?_|exact True.intro|refine rq fun _=>?_|refine rf fun _=>?_|simp only[go_sem,hoa,Tryd.f57])
 all_goals
  rw[kq.out]
  refine⟨?_,by omega,fun _ _=>rfl⟩
  by_cases h:p∈l
  ·simp[h]
  ·simp[h]
end
end Go.Proofs.YtkkffhphodngkaaDoor
namespace Go.Proofs.YtkkffhphodngkaaDoor
open Go Go.Abs Go.Proofs
section
variable {G:Nat→List FD}
def cfP (a b:Pd):Int:=if a.name=b.name then a.arity-b.arity else if a.name.l<b.name.l then-1 else 1
theorem zev {a b:Pd}:cfP a b<0↔ltP a b:=by
 unfold cfP ltP
 by_cases h:a.name=b.name
 ·rw[if_pos h]
  constructor
  ·intro h2;exact .inr ⟨h,by omega⟩
  ·rintro(h2|⟨_,h2⟩)
   ·rw[h]at h2;exact absurd h2 zdQ
   ·omega
 ·rw[if_neg h]
  by_cases h2:a.name.l<b.name.l
  ·rw[if_pos h2];simp[h2]
  ·rw[if_neg h2];simp[h2,h]
theorem zGU {a b:Pd}(ha:0≤a.arity∧a.arity≤1000000)(hb:0≤b.arity∧b.arity≤1000000):zay Tryd.prog G 62 [.fz (.agg [.s a.name.l,.i .i64 a.arity,.sl []]),.fz (.agg [.s b.name.l,.i .i64 b.arity,.sl []])] H0 0 (fun d _ _=>D.val d=some (.fz (.i .i64 (cfP a b)))):=by
 rw[zhe]
 by_cases h:a.name=b.name
 ·have e:cfP a b=a.arity-b.arity:=by unfold cfP;rw[if_pos h]
  have h':(a.name.l=b.name.l)=True:=eq_true (by rw[h])
  rw[e]
  refine zah (N:=20) hm hI3 62000 (lst []) zB4 Tryd.func62 rfl rfl (by simp) (by kernel_rfl) ?_
  repeat'(first|refine And.intro ?_ ?_|exact True.intro|refine rq fun _=>?_|refine rf fun _=>?_|simp only[go_sem,h',zac,Tryd.f62])
  all_goals first|done|rfl|omega
 ·have h':(a.name.l=b.name.l)=False:=eq_false fun e=>h (by cases h2:a.name;cases h3:b.name;rw[h2,h3]at e;exact congrArg Str.mk e)
  by_cases h2:a.name.l<b.name.l
  ·have e:cfP a b= -1:=by unfold cfP;rw[if_neg h,if_pos h2]
   have h3:Op.bytesLess a.name.l b.name.l=true:=by rw[za6];exact decide_eq_true h2
   rw[e]
   refine zah (N:=20) hm hI3 62000 (lst []) zB4 Tryd.func62 rfl rfl (by simp) (by kernel_rfl) ?_
   repeat'(first|refine And.intro ?_ ?_|exact True.intro|refine rq fun _=>?_|refine rf fun _=>?_|simp only[go_sem,h',h3,zac,Tryd.f62])
   all_goals first|done|rfl|omega
  ·have e:cfP a b=1:=by unfold cfP;rw[if_neg h,if_neg h2]
   have h3:Op.bytesLess a.name.l b.name.l=false:=by rw[za6];exact decide_eq_false h2
   rw[e]
   refine zah (N:=20) hm hI3 62000 (lst []) zB4 Tryd.func62 rfl rfl (by simp) (by kernel_rfl) ?_
   repeat'(first|refine And.intro ?_ ?_|exact True.intro|refine rq fun _=>?_|refine rf fun _=>?_|simp only[go_sem,h',h3,zac,Tryd.f62])
   all_goals first|done|rfl|omega
def zgq (p:Pd):List FD:=[.s p.name.l,.i .i64 p.arity,.sl []]
def ziO:List FD→Pd
 |[.s n,.i _ a,_]=>⟨⟨n⟩,a⟩
 |_=>default
theorem zez (p:Pd):ziO (zgq p)=p:=by cases p;rfl
theorem zmc (l:List Pd):zbF l=zae ((l.map zgq).map .agg):=by unfold zbF;rw[List.map_map];rfl
theorem zEi {id':Abs.Id}{l:List Pd}{bx vt:Bool}{H:zau}{n:Nat}(hl:∀p∈l,0≤p.arity∧p.arity≤1000000)(ho:H id'=some ⟨zbF l,bx,vt⟩):
  zay Tryd.prog G 61 [.arr id' 3 0 l.length,.fn 62 []] H n fun d H' n'=>d= .tup []∧∃S:List Pd,S.Perm l∧(S.Pairwise fun a b=>¬ltP b a)∧H'=zaG H id' (some ⟨zbF S,bx,vt⟩)∧n'=n:=by
 have hin:∀{r:List FD},(∃p:Pd,r=zgq p∧0≤p.arity∧p.arity≤1000000)→zgq (ziO r)=r∧0≤(ziO r).arity∧(ziO r).arity≤1000000:=by
  rintro r ⟨p,rfl,h⟩
  rw[zez];exact⟨rfl,h⟩
 have h:=zmO (P:=Tryd.prog) (G:=G) (f:=61) (g:=62) (k:=3) (pre:=fun r=>∃p:Pd,r=zgq p∧0≤p.arity∧p.arity≤1000000) (cmp:=fun x y=>cfP (ziO x) (ziO y)) (by omega) zHL
  (fun α _ enc hk h1 cf hO blk off cap d w hc hH hb hs=>Tryd.slices_SortFunc_f61 enc hk h1 cf hO 62 #[] blk off cap d w zB4 hc hH hb hs) Tryd.slices_SortFunc_none_f61
  (fun x y hx hy=>by
   obtain⟨ex,hx2⟩:=hin hx
   obtain⟨ey,hy2⟩:=hin hy
   have:=zGU (G:=G) hx2 hy2
   rw[←ex,←ey,zez,zez]
   exact this)
  (fun x _=>by rw[zev];exact ze0) (fun x y z _ _ _=>by rw[zev,zev,zev];exact zf0)
  (fun x y z _ _ _=>by
   rw[zev,zev,zev]
   intro h1 h2 h3
   by_cases e:ziO x=ziO y
   ·rw[e]at h3;exact h2 h3
   ·exact h2 (zf0 (zns h1 e) h3))
  (id':=id') (rows:=l.map zgq) (n:=n) (H:=H) (bx:=bx) (vt:=vt) (fun r hr=>by
   obtain⟨p,hp,rfl⟩:=List.mem_map.1 hr
   exact⟨⟨p,rfl,hl p hp⟩,rfl,fun y hy=>by
    unfold zgq at hy
    simp only[List.mem_cons,List.not_mem_nil,or_false]at hy
    rcases hy with rfl|rfl|rfl<;>rfl⟩) (by rw[ho,zmc])
 rw[List.length_map]at h
 refine zaI h ?_
 rintro d H' n' ⟨rfl,rows',hp,hs,rfl,rfl⟩
 have he:rows'=(rows'.map ziO).map zgq:=by
  rw[List.map_map]
  have:∀r∈rows',(zgq∘ziO) r=r:=fun r hr=>by
   obtain⟨p,_,rfl⟩:=List.mem_map.1 (hp.mem_iff.1 hr)
   show zgq (ziO (zgq p))=_
   rw[zez]
  rw[List.map_congr_left this,List.map_id'']
  exact fun _=>rfl
 refine⟨rfl,rows'.map ziO,?_,?_,by rw[zmc,←he],rfl⟩
 ·have:=hp.map ziO
  rw[List.map_map]at this
  have e2:l.map (ziO∘zgq)=l:=by
   rw[List.map_congr_left (f:=ziO∘zgq) (g:=id) (fun p _=>zez p),List.map_id]
  rwa [e2]at this
 ·rw[List.pairwise_map]
  refine hs.imp fun{a b} h3=>?_
  rwa [zev]at h3
def HHs (acc:List Pd)(g:Nat):List (Abs.Id×Option O):=
  [((33003,1),some ⟨[.fz (.i .i64 0),.full [],.arr (56025,g) 3 0 acc.length],true,false⟩),
   ((33005,2),some ⟨[.fn 56 [.ptr (33003,1) 0,.ptr (33005,2) 0]],true,false⟩),
   ((56025,g),some ⟨zbF acc,false,acc.isEmpty⟩)]
theorem zsk (f:Abs.zaf):pds f=(if f.kind=2 then[⟨f.name,(f.words.length:Int)⟩]else[])++zcO f.subs:=by cases f;rw[pds];rfl
theorem zdl {fs:List Abs.zaf}{j:Nat}(h:j<fs.length):zcO (fs.take (j+1))=zcO (fs.take j)++pds fs[j]:=by
 have hap:∀a b:List Abs.zaf,zcO (a++b)=zcO a++zcO b:=by
  intro a b
  induction a with
  |nil=>rfl
  |cons x a ih=>rw[List.cons_append,zcO,zcO,ih,List.append_assoc]
 rw[List.take_succ_eq_append_getElem h,hap,zcO,zcO,List.append_nil]
theorem ziJ (l a b:List Pd):zdt l (a++b)=zdt (zdt l a) b:=by unfold zdt;rw[List.foldl_append]
theorem zoO {fs:List Abs.zaf}(j:Nat):(zcO (fs.take j)).length≤(zcO fs).length:=by
 induction fs generalizing j with
 |nil=>simp
 |cons f fs ih=>
  cases j with
  |zero=>simp[zcO]
  |succ j=>
   rw[List.take_succ_cons,zcO,zcO,List.length_append,List.length_append]
   have:=ih j;omega
set_option maxHeartbeats 8000000 in
theorem f56:∀(k:Nat) (f:Abs.zaf) (acc:List Pd) (g n:Nat) (X:zau),f.size≤k→(enc f).Wf→g<n→2<n→acc.length+(pds f).length≤1000000→
  (∀id o,X id=some o→id.2<n∧id.1≠33003∧id.1≠33005∧id.1≠56025)→
  zay Tryd.prog G 56 [.fz (enc f),.ptr (33003,1) 0,.ptr (33005,2) 0] (hpX (HHs acc g) X) n
   (fun d' H' n'=>d'= .tup []∧n≤n'∧(∃g',g'<n'∧zhk H' (HHs (zdt acc (pds f)) g'))∧∀id o,X id=some o→H' id=some o):=by
 intro k
 induction k with
 |zero=>intro f acc g n X hs;have:=f.size_pos;omega
 |succ k ih=>
  intro f acc g n X hs hw hg hn hlen hX
  obtain⟨Q,hQ⟩:∃Q:D→zau→Nat→Prop,Q=(fun d' H' n'=>d'= .tup []∧n≤n'∧(∃g',g'<n'∧zhk H' (HHs (zdt acc (pds f)) g'))∧∀id o,X id=some o→H' id=some o):=⟨_,rfl⟩
  rw[←hQ]
  have hX':∀{l:List (Abs.Id×Option O)} (id o),X id=some o→(id.2<n∧id.1≠33003∧id.1≠33005∧id.1≠56025→zhL id l)→hpX l X id=some o:=fun id o h1 h2=>(zdy (h2 (hX id o h1))).trans h1
  have hwl:f.words.length≤zba:=by
   have h:=za9 (by have h:=hw;rw[zaH]at h;exact h) (FD.sl (f.words.map enc)) (by simp)
   have:=zbV h
   simpa using this
  have hsl:f.subs.length≤zba:=by
   have h:=za9 (by have h:=hw;rw[zaH]at h;exact h) (FD.sl (f.subs.map enc)) (by simp)
   have:=zbV h
   simpa using this
  have hsw:∀g∈f.subs,(enc g).Wf:=fun g hg=>zdO (za9 (by have h:=hw;rw[zaH]at h;exact h) (FD.sl (f.subs.map enc)) (by simp)) _ (List.mem_map_of_mem hg)
  have hss:∀g∈f.subs,g.size≤k:=fun g hg=>by have:=zaf.size_sub hg;omega
  unfold zba at hwl hsl
  rw[zsk]at hlen hQ
  rw[List.length_append]at hlen
  rw[ziJ]at hQ
  obtain⟨p,hp⟩:∃p:Pd,p=⟨f.name,(f.words.length:Int)⟩:=⟨_,rfl⟩
  rw[←hp]at hlen hQ
  obtain⟨B0,hB0⟩:∃B0,zdt acc (if f.kind=2 then[p]else[])=B0:=⟨_,rfl⟩
  have hB0l:B0.length≤acc.length+(if f.kind=2 then[p]else[]).length:=by rw[←hB0];exact zgf _ _
  rw[hB0]at hQ
  obtain⟨B,hB⟩:∃B:Nat→List Pd,B=fun j=>zdt B0 (zcO (f.subs.take j)):=⟨_,rfl⟩
  have hBz:B 0=B0:=by rw[hB];rfl
  have hBs:∀j (h:j<f.subs.length),B (j+1)=zdt (B j) (pds f.subs[j]):=fun j h=>by rw[hB];simp only[zdl h,ziJ]
  have hBl:∀j (h:j<f.subs.length),(B j).length+(pds f.subs[j]).length≤1000000:=fun j h=>by
   rw[hB]
   have h1:=zgf (zcO (f.subs.take j)) B0
   have h2:=zoO (fs:=f.subs) (j+1)
   rw[zdl h,List.length_append]at h2
   simp only
   omega
  have hBe:zdt B0 (zcO f.subs)=B f.subs.length:=by rw[hB];simp only[List.take_length]
  rw[hBe]at hQ
  have kQ:=Kp.mk hQ
  have kI:=Kp.mk ih
  have kS:=Kp.mk hsw
  have kZ:=Kp.mk hss
  have kx:=Kp.mk hX
  have kX:=Kp.mk @hX'
  have kBs:=Kp.mk hBs
  have kBl:=Kp.mk hBl
  clear hX' hQ ih hsw hss hX hBs hBl hBe hB
  have h3:(f.kind=2∧p∈acc)∨(f.kind=2∧p∉acc)∨¬f.kind=2:=by
   by_cases hk:f.kind=2
   ·by_cases hin:p∈acc
    ·exact .inl ⟨hk,hin⟩
    ·exact .inr (.inl ⟨hk,hin⟩)
   ·exact .inr (.inr hk)
  rcases h3 with⟨hk,hin⟩|⟨hk,hin⟩|hk
  case' inl=>
   have hb1:zdt acc [p]=acc:=by show zdu acc p=acc;unfold zdu;rw[if_pos hin]
   have hd:decide (p∈acc)=true:=decide_eq_true hin
   have hk':(f.kind=2)=True:=eq_true hk
   rw[if_pos hk,hb1]at hB0
   obtain⟨nw,hnw⟩:∃b:Bool,b=false:=⟨_,rfl⟩
  case' inr.inl=>
   have hb1:zdt acc [p]=acc++[p]:=by show zdu acc p=acc++[p];unfold zdu;rw[if_neg hin]
   have hd:decide (p∈acc)=false:=decide_eq_false hin
   have hk':(f.kind=2)=True:=eq_true hk
   rw[if_pos hk,hb1]at hB0
   obtain⟨nw,hnw⟩:∃b:Bool,b=true:=⟨_,rfl⟩
  case' inr.inr=>
   have hb1:zdt acc []=acc:=rfl
   have hd:True:=trivial
   have hk':(f.kind=2)=False:=eq_false hk
   rw[if_neg hk,hb1]at hB0
   obtain⟨nw,hnw⟩:∃b:Bool,b=false:=⟨_,rfl⟩
   obtain⟨g1,m1,hgm⟩:∃g1 m1:Nat,g1=g∧m1=n+1:=⟨_,_,rfl,rfl⟩
  all_goals
   subst hB0
   have htk:(zbF acc).take (acc.length*3)=zbF acc:=by rw[←zss];exact List.take_length
   have hfl:zae [FD.agg [FD.s f.name.l,FD.i .i64 (f.words.length:Int),FD.sl []]]=[.fz (.s f.name.l),.fz (.i .i64 (f.words.length:Int)),.fz (.sl [])]:=rfl
   have hap:acc.length*3≤(zbF acc).length∧fits (acc.length+1) 48:=⟨by rw[zss];omega,by unfold zba;omega,by omega⟩
   refine zah (N:=38) hm hI3 56000 (lst [25]) zHK Tryd.func56 rfl rfl (by simp) (by kernel_rfl) ?_
   repeat'(first|(refine zas.i (f57 (l:=acc) (p:=p) (vt:=acc.isEmpty) (z:= .full []) (by simp only;omega) (by rw[hp];simp only[go_sem,HHs]) (by simp only[go_sem,HHs]) (fun h=>List.isEmpty_iff.1 h) (by omega) fun n' hn'=>?_);obtain⟨g1,m1,hgm⟩:∃g1 m1:Nat,g1=(if nw=true then n' else g)∧m1=(if nw=true then n'+1 else n'):=⟨_,_,rfl,rfl⟩)|refine zaB.i hap fun _=>?_|refine And.intro ?_ ?_|exact True.intro|refine rq fun _=>?_|refine rf fun _=>?_|simp only[go_sem,hk',hd,HHs,zac,zaa,Tryd.f56])
   try simp only[hnw,if_true,if_false,Bool.false_eq_true]at hgm
   refine zai hm hI3 56000 (lst [25]) (ι:=zen f.subs.length (n+1) fun _=>True)
    ⟨fun q=>⟨frL [(1,.ptr (33003,1) 0),(2,.ptr (33005,2) 0),(28,.fz (.sl (f.subs.map enc))),(29,.fz (.i .i64 f.subs.length)),(30,.fz (.i .i64 q.i))],hpX (HHs (B q.i) q.g) X,q.m⟩,fun q=>f.subs.length-q.i⟩
    ⟨0,g1,m1,by omega,by omega,by omega,trivial⟩ (by kernel_rfl) ?_ ?_
   ·obtain⟨rfl,rfl⟩:=hgm
    refine zaX ?_ ?_ (fun id o ho=>?_) ?_
    ·simp only[go_sem]
    ·simp only[go_sem,HHs,hBz,zxg,hp,htk,hfl,List.isEmpty_cons,Bool.and_false]
    ·refine kX.out id o ho fun h1=>?_
     ((repeat'(first|exact trivial|apply And.intro))<;>(rintro rfl;simp only at h1;omega))
    ·simp only[go_sem]
   rintro⟨j,g2,m2,hj,hg2,hm2,_⟩
   try simp only at hj hg2 hm2
   rcases Nat.lt_or_ge j f.subs.length with h2|h2
   ·have hmem:=List.getElem_mem h2
    have hBj:=kBs.out j h2
    have hz:=kZ.out _ hmem
    have ih2:=kI.out f.subs[j] (B j) g2 (m2+1) X hz (kS.out _ hmem) (by omega) (by omega) (kBl.out j h2) (fun id o ho=>by have:=kx.out id o ho;omega)
    rw[zaH]at ih2
    repeat'(first|refine And.intro ?_ ?_|exact True.intro|refine rq fun _=>?_|refine rf fun _=>?_|simp only[go_sem,h2,HHs,zac,zaa,Tryd.f56])
    refine zas.i (zci rfl (zdM (by simp only[go_sem,zhM]) (by simp only[go_sem,HHs]) (fun id o ho=>?_) (Nat.le_refl _) (zaI ih2 ?_)))
    ·refine kX.out id o ho fun h1=>?_
     ((repeat'(first|exact trivial|apply And.intro))<;>(rintro rfl;simp only at h1;omega))
    rintro d' H' n' ⟨rfl,e1,⟨g3,hg3,e2⟩,e3⟩
    rw[←hBj]at e2
    simp only[go_sem,HHs]at e2
    obtain⟨b1,b2,b3⟩:=e2
    rw[show H'=hpX [] H' from rfl]
    repeat'(first|refine And.intro ?_ ?_|exact True.intro|refine rq fun _=>?_|refine rf fun _=>?_|simp only[go_sem,h2,HHs,zac,zaa,Tryd.f56])
    refine⟨⟨j+1,g3,n',by omega,by omega,by omega,trivial⟩,by simp only;omega,?_⟩
    refine zaX ?_ ?_ (fun id o ho=>?_) ?_
    ·simp only[go_sem]
    ·simp only[go_sem,HHs,b1,b2,b3]
    ·exact e3 id o ho
    ·simp only[go_sem]
   ·obtain rfl:j=f.subs.length:=by omega
    repeat'(first|refine And.intro ?_ ?_|exact True.intro|refine rq fun _=>?_|refine rf fun _=>?_|simp only[go_sem,Nat.lt_irrefl,HHs,zac,zaa,Tryd.f56])
    all_goals
     rw[kQ.out]
     refine⟨rfl,by omega,⟨g2,by omega,?_⟩,fun id o ho=>kX.out id o ho fun h1=>?_⟩
     ·simp only[go_sem,HHs]
     ·((repeat'(first|exact trivial|apply And.intro))<;>(rintro rfl;simp only at h1;omega))
end
end Go.Proofs.YtkkffhphodngkaaDoor
namespace Go.Proofs.YtkkffhphodngkaaDoor
open Go Go.Abs Go.Proofs
section
variable {G:Nat→List FD}
structure zyH (n n0:Nat)(p:Nat→Prop) where
 i:Nat
 g:Nat
 h:Nat
 m:Nat
 hi:i≤n
 hg:g<m
 hh:h<m
 hm:n0≤m
 hp:p i
theorem zkg:∀{l:List (Abs.Id×Option O)} {id:Abs.Id} {o:O},hpL l id=some o→id∈l.map (·.1)
 |[],id,o,h=>by cases h
 |(a,b)::l,id,o,h=>by
  by_cases e:id=a
  ·rw[e];simp
  ·have h2:hpL l id=some o:=by
    rw[←h]
    show hpL l id=if id=a then b else hpL l id
    rw[if_neg e]
   rw[List.map_cons]
   exact List.mem_cons_of_mem _ (zkg h2)
theorem zqc (l:List Abs.zaf):zbu l=zfh (zf8 (l.flatMap zbH)):=by
 unfold zbu zfh zf8;rw[zkn]
mutual
theorem zkt:∀f:Abs.zaf,(pds f).length≤f.size
 | .mk k nm ws s=>by
  rw[pds,List.length_append,zaf.size]
  have h:=zl7 s
  split<;>simp<;>omega
theorem zl7:∀fs:List Abs.zaf,(zcO fs).length≤zaf.sizes fs
 |[]=>by simp[zcO]
 |f::fs=>by
  rw[zcO,List.length_append,zaf.sizes]
  have h1:=zkt f
  have h2:=zl7 fs
  omega
end
theorem zeM:∀{l:List Abs.zaf},(∀f∈l,(zaA false f).code=0)→(zcO l).length≤200*l.length
 |[],_=>by simp[zcO]
 |f::l,h=>by
  rw[zcO,List.length_append,List.length_cons]
  have h1:=zkt f
  have h2:=zaT (h f (by simp))
  have h3:=zeM fun g hg=>h g (List.mem_cons_of_mem _ hg)
  omega
def sgP (l:List Abs.zaf):Prop:=(∀f∈l,(zaA false f).code=0)∧l.length≤41
def c0 (w:Str):zaF:=⟨w,0⟩
def zqO (l:List Abs.zaf):zal:=⟨0,(zbu l).map c0,(zeq l).map ziY⟩
set_option maxHeartbeats 8000000 in
theorem zH7 {l:List Abs.zaf}(hw:(enc l).Wf)(hp:sgP l):zay Tryd.prog G 33 [.fz (enc l)] (hpL []) 0 (fun d H n=>∃g gc,g<n∧gc<n∧d= .agg [.fz (.i .i64 0),.arr (33039,gc) 2 0 (zbu l).length,.arr (56025,g) 3 0 (zeq l).length]∧H (56025,g)=some ⟨zbF (zeq l),false,(zeq l).isEmpty⟩∧H (33039,gc)=some ⟨zae (((zbu l).map c0).map enc),false,(zbu l).isEmpty⟩):=by
 obtain⟨Q,hQ⟩:∃Q:D→zau→Nat→Prop,Q=(fun d H n=>∃g gc,g<n∧gc<n∧d= .agg [.fz (.i .i64 0),.arr (33039,gc) 2 0 (zbu l).length,.arr (56025,g) 3 0 (zeq l).length]∧H (56025,g)=some ⟨zbF (zeq l),false,(zeq l).isEmpty⟩∧H (33039,gc)=some ⟨zae (((zbu l).map c0).map enc),false,(zbu l).isEmpty⟩):=⟨_,rfl⟩
 rw[←hQ]
 obtain⟨hv,hl⟩:=hp
 have hsw:∀f∈l,(enc f).Wf:=fun f hf=>zdO hw _ (List.mem_map_of_mem hf)
 obtain⟨A,hA⟩:∃A:Nat→List Str,A=fun i=>(l.take i).flatMap zbH:=⟨_,rfl⟩
 have hA0:A 0=[]:=by rw[hA];rfl
 have hAs:∀i (h:i<l.length),A (i+1)=A i++zbH l[i]:=fun i h=>by
  rw[hA];simp only
  rw[List.take_succ_eq_append_getElem h,List.flatMap_append,List.flatMap_cons,List.flatMap_nil,List.append_nil]
 have hAe:A l.length=l.flatMap zbH:=by rw[hA];simp only[List.take_length]
 obtain⟨B,hB⟩:∃B:Nat→List Pd,B=fun i=>zdt [] (zcO (l.take i)):=⟨_,rfl⟩
 have hB0:B 0=[]:=by rw[hB];rfl
 have hBs:∀i (h:i<l.length),B (i+1)=zdt (B i) (pds l[i]):=fun i h=>by rw[hB];simp only[zdl h,ziJ]
 have hBl:∀i (h:i<l.length),(B i).length+(pds l[i]).length≤1000000:=fun i h=>by
  have h1:=zgf (zcO (l.take i)) []
  have h2:=zeM (l:=l.take i) fun f hf=>hv f (List.mem_of_mem_take hf)
  have h3:=zkt l[i]
  have h4:=zaT (hv _ (List.getElem_mem h))
  have h5:(l.take i).length≤41:=by rw[List.length_take];omega
  rw[hB];simp only[List.length_nil]at h1 ⊢;omega
 have hBe:∀S:List Pd,S.Perm (B l.length)→(S.Pairwise fun a b=>¬ltP b a)→S=zeq l:=fun S h1 h2=>by
  refine zqx (U:=B l.length) (fun x=>?_) ?_ h1 h2
  ·rw[hB];simp only[List.take_length]
   rw[ziK,zhv];simp
  ·rw[hB];exact ziL _ _ List.Pairwise.nil
 have hBa:∀p∈B l.length,0≤p.arity∧p.arity≤1000000:=fun p hp=>by
  rw[hB]at hp;simp only[List.take_length]at hp
  rw[ziK,zhv]at hp
  rcases hp with hp|⟨f,hf,hp⟩
  ·simp at hp
  ·have:=zoN f (zdR (hv f hf)) p hp
   omega
 rw[zqc,←hAe]at hQ
 have kb:=Kp.mk hv
 have kw:=Kp.mk hsw
 have kA:=Kp.mk hAs
 have kB:=Kp.mk hBs
 have kBl:=Kp.mk hBl
 have kBe:=Kp.mk hBe
 have kBa:=Kp.mk hBa
 have kq:=Kp.mk hQ
 clear hv hsw hA hAs hAe hB hBs hBl hBe hBa hQ hw
 refine zah (N:=46) hm hI3 33000 (lst [20,39]) zFW Tryd.func33 rfl rfl (by simp) (by kernel_rfl) ?_
 repeat'(first|refine And.intro ?_ ?_|exact True.intro|refine rq fun _=>?_|refine rf fun _=>?_|simp only[go_sem,HHs,zac,zad,zaa,Tryd.f33])
 refine zai hm hI3 33000 (lst [20,39]) (ι:=zyH l.length 3 fun i=>(A i).length≤i*1000000)
  ⟨fun q=>⟨frL [(2,.ptr (33002,0) 0),(3,.ptr (33003,1) 0),(4,.arr (33020,q.h) 1 0 (A q.i).length),(5,.ptr (33005,2) 0),(11,.fz (.sl (l.map enc))),(12,.fz (.i .i64 l.length)),(13,.fz (.i .i64 q.i))],
   hpL [((33003,1),some ⟨[.fz (.i .i64 0),.full [],.arr (56025,q.g) 3 0 (B q.i).length],true,false⟩),((33005,2),some ⟨[.fn 56 [.ptr (33003,1) 0,.ptr (33005,2) 0]],true,false⟩),((56025,q.g),some ⟨zbF (B q.i),false,((B q.i)).isEmpty⟩),((33020,q.h),some ⟨zae ((A q.i).map enc),false,(A q.i).isEmpty⟩),((33002,0),some ⟨[.fz (.i .i64 0),.fz (.sl []),.fz (.sl [])],true,false⟩)],q.m⟩,fun q=>l.length-q.i⟩
  ⟨0,4,3,5,by omega,by omega,by omega,by omega,by rw[hA0];simp⟩ (by kernel_rfl) ?_ ?_
 ·refine zbc [] [(33020,3),(56025,4)] [] ?_ ?_ ?_ ?_ ?_<;>simp only[go_sem,hA0,hB0]
  all_goals first|done|rfl|omega
 rintro⟨i,g,h,m,hi,hg,hh,hm2,hp⟩
 try simp only at hi hg hh hm2 hp
 rcases Nat.lt_or_ge i l.length with h1|h1
 ·obtain⟨x,hx⟩:∃x,l[i]=x:=⟨_,rfl⟩
  have hxm:x∈l:=by rw[←hx];exact List.getElem_mem h1
  have hcv:=kb.out x hxm
  have hcl:=ztR hcv
  have hcp:(cst x []).length≤1000000∧x.size≤1000000:=⟨hcl.2,by have:=zaT hcv;omega⟩
  have hs:=kA.out i h1
  rw[hx]at hs
  have hul:=hcl.1
  obtain⟨U,hU⟩:∃U,zbH x=U:=⟨_,rfl⟩
  rw[hU]at hs hul
  obtain⟨C,hC⟩:∃C,A i=C:=⟨_,rfl⟩
  rw[hC]at hs hp
  have hft:fits (C.length+U.length) 16:=⟨by unfold zba;omega,by omega⟩
  repeat'(first|refine zaB.i hcp fun _=>?_|refine zaB.i hft fun _=>?_|refine zaB.i (by simp only[List.length_map];exact hft) fun _=>?_|refine And.intro ?_ ?_|exact True.intro|refine rq fun _=>?_|refine rf fun _=>?_|simp only[go_sem,h1,hx,hU,hC,HHs,zac,zad,zaa,Tryd.f33])
  have hB:=kB.out i h1
  rw[hx]at hB
  have hBl:=kBl.out i h1
  rw[hx]at hBl
  obtain⟨V,hV⟩:∃V:Bool,V=(C.isEmpty&&(zae (C.map enc++U.map enc)).isEmpty):=⟨_,rfl⟩
  rw[←hV]
  have hV2:V=(C++U).isEmpty:=by rw[hV,←List.map_append,zaY];cases C<;>cases U<;>rfl
  have ih:=f56 (G:=G) x.size x (B i) g (m+2) (hpL [((33020,m+1),some ⟨zae (C.map enc++U.map enc),false,V⟩),((33002,0),some ⟨[.fz (.i .i64 0),.fz (.sl []),.fz (.sl [])],true,false⟩)]) (Nat.le_refl _) (kw.out x hxm) (by omega) (by omega) hBl (fun id o ho=>by
   have h2:=zkg ho
   simp only[List.map_cons,List.map_nil,List.mem_cons,List.not_mem_nil,or_false]at h2
   rcases h2 with rfl|rfl<;>(refine⟨?_,?_,?_,?_⟩<;>simp only<;>omega))
  rw[zaH]at ih
  refine zas.i (zci rfl (zdM (by simp only[go_sem,zhM]) (by simp only[go_sem,HHs]) (fun id o ho=>?_) (Nat.le_refl _) (zaI ih ?_)))
  ·have h2:=zkg ho
   simp only[List.map_cons,List.map_nil,List.mem_cons,List.not_mem_nil,or_false]at h2
   rcases h2 with rfl|rfl<;>(simp only[go_sem]at ho ⊢;exact ho)
  rintro d' H' n' ⟨rfl,e1,⟨g3,hg3,e2⟩,e3⟩
  rw[←hB]at e2
  simp only[go_sem,HHs]at e2
  obtain⟨b1,b2,b3⟩:=e2
  have b4:=e3 (33020,m+1) _ (by simp only[go_sem];rfl)
  have b5:=e3 (33002,0) _ (by simp only[go_sem];rfl)
  rw[show H'=hpX [] H' from rfl]
  repeat'(first|refine And.intro ?_ ?_|exact True.intro|refine rq fun _=>?_|refine rf fun _=>?_|simp only[go_sem,h1,HHs,zac,zad,zaa,Tryd.f33])
  refine⟨⟨i+1,g3,m+1,n',by omega,by omega,by omega,by omega,by rw[hs,List.length_append];omega⟩,by simp only;omega,?_⟩
  refine zeT ?_ (fun id o ho=>?_) ?_
  ·simp only[go_sem,hs,List.length_append]
  ·have h2:=zkg ho
   simp only[List.map_cons,List.map_nil,List.mem_cons,List.not_mem_nil,or_false]at h2
   rcases h2 with rfl|rfl|rfl|rfl|rfl<;>(simp only[go_sem,hs,hV2,List.map_append,b1,b2,b3,b4,b5]at ho ⊢;first|exact ho)
  ·simp only[go_sem]
 ·obtain rfl:i=l.length:=by omega
  have hsg:=kBe.out
  have hba:=kBa.out
  obtain⟨N,hN⟩:∃N,A l.length=N:=⟨_,rfl⟩
  obtain⟨U,hU⟩:∃U,B l.length=U:=⟨_,rfl⟩
  rw[hU]at hsg hba
  repeat'(first|refine And.intro ?_ ?_|exact True.intro|refine rq fun _=>?_|refine rf fun _=>?_|simp only[go_sem,Nat.lt_irrefl,hN,hU,HHs,zac,zad,zaa,Tryd.f33])
  refine zas.i (zml (l:=N) (bx:=false) (vt:=N.isEmpty) (by simp only[go_sem,hN]) ?_)
  repeat'(first|refine And.intro ?_ ?_|exact True.intro|refine rq fun _=>?_|refine rf fun _=>?_|simp only[go_sem,hN,hU,HHs,zac,zad,zaa,Tryd.f33])
  rw[←zf9 N]
  refine zas.i (zk5 (l:=zf8 N) (bx:=false) (vt:=N.isEmpty) (by simp only[go_sem]) ?_)
  repeat'(first|refine And.intro ?_ ?_|exact True.intro|refine rq fun _=>?_|refine rf fun _=>?_|simp only[go_sem,hN,hU,HHs,zac,zad,zaa,Tryd.f33])
  obtain⟨K,hK⟩:∃K,zfh (zf8 N)=K:=⟨_,rfl⟩
  rw[hK]
  have hKN:K.length≤N.length:=by
   rw[←hK]
   have h2:(zfh (zf8 N)).length≤(zf8 N).length:=by
    unfold zfh
    rw[List.length_map]
    exact Nat.le_trans (zfL _) (by rw[List.length_map];exact Nat.le_refl _)
   rw[zf9]at h2
   exact h2
  have hKl:K.length≤41000000:=by rw[hN]at hp;omega
  refine zai hm hI3 33000 (lst [20,39]) (ι:=zen K.length (m+1) fun _=>True)
   ⟨fun q=>⟨frL [(2,.ptr (33002,0) 0),(3,.ptr (33003,1) 0),(28,.arr (33020,h) 1 0 K.length),(29,.fz (.i .i64 K.length)),(30,.fz (.i .i64 q.i))],
    hpL [((33003,1),some ⟨[.fz (.i .i64 0),.arr (33039,q.g) 2 0 (K.take q.i).length,.arr (56025,g) 3 0 U.length],true,false⟩),((56025,g),some ⟨zbF U,false,U.isEmpty⟩),((33020,h),some ⟨zae ((K).map enc),false,N.isEmpty⟩),((33002,0),some ⟨[.fz (.i .i64 0),.fz (.sl []),.fz (.sl [])],true,false⟩),((33039,q.g),some ⟨zae (((K.take q.i).map c0).map enc),false,(K.take q.i).isEmpty⟩)],q.m⟩,fun q=>K.length-q.i⟩
   ⟨0,m,m+1,by omega,by omega,by omega,trivial⟩ (by kernel_rfl) ?_ ?_
  ·refine zbc [] [(33039,m)] [] ?_ ?_ ?_ ?_ ?_<;>simp only[go_sem,hK,zbF,List.take_zero,List.map_nil]
   all_goals first|done|rfl|omega
  rintro⟨j,gc,m2,hj,hgc,hm3,_⟩
  try simp only at hj hgc hm3
  rcases Nat.lt_or_ge j K.length with h2|h2
  ·obtain⟨w,hw⟩:∃w,K[j]=w:=⟨_,rfl⟩
   have ht:K.take (j+1)=K.take j++[w]:=by rw[List.take_succ_eq_append_getElem h2,hw]
   have htl:(K.take j).length=j:=by rw[List.length_take];omega
   have hNe:N.isEmpty=false:=by
    cases N with
    |nil=>rw[List.length_nil]at hKN;omega
    |cons=>rfl
   have hrq:j+1≤K.length∧N.isEmpty=false:=⟨h2,hNe⟩
   have hgd:(zae (K.map enc)).getD j .junk= .fz (.s w.l):=by rw[zbK h2,hw];rfl
   obtain⟨T,hT⟩:∃T,K.take j=T:=⟨_,rfl⟩
   rw[hT]at ht htl
   have hfc:(zae (T.map (enc∘c0))).length=j*2:=by rw[←List.map_map,zni,List.length_map,htl]
   have hap:j*2≤(zae (T.map (enc∘c0))).length∧fits (j+1) 24:=⟨by omega,by unfold zba;omega,by omega⟩
   have htk:(zae (T.map (enc∘c0))).take (j*2)=zae (T.map (enc∘c0)):=by rw[←hfc];exact List.take_length
   have hc1:(c0 w).name.l=w.l:=rfl
   have hc2:(c0 w).value=0:=rfl
   have hfe:(zae [FD.agg [FD.s w.l,FD.i .i64 0]]).isEmpty=false:=rfl
   repeat'(first|refine zaB.i hap fun _=>?_|refine zaB.i hrq fun _=>?_|refine And.intro ?_ ?_|exact True.intro|refine rq fun _=>?_|refine rf fun _=>?_|simp only[go_sem,h2,hw,hgd,hT,htl,HHs,zac,zad,zaa,Tryd.f33])
   refine⟨⟨j+1,m2,m2+1,by omega,by omega,by omega,trivial⟩,by simp only;omega,?_⟩
   refine zag ?_ ?_ ?_<;>simp only[go_sem,ht,htl,htk,List.map_append,hc1,hc2,hfe,Bool.and_false]
   all_goals first|done|rfl|omega
  ·obtain rfl:j=K.length:=by omega
   repeat'(first|refine And.intro ?_ ?_|exact True.intro|refine rq fun _=>?_|refine rf fun _=>?_|simp only[go_sem,Nat.lt_irrefl,List.take_length,HHs,zac,zad,zaa,Tryd.f33])
   refine zas.i (zaI (zEi (l:=U) (bx:=false) (vt:=U.isEmpty) hba (by simp only[go_sem])) ?_)
   rintro d' H' n' ⟨rfl,S,hS1,hS2,rfl,rfl⟩
   have eS:=hsg S hS1 hS2
   have eL:=hS1.length_eq
   have eE:U.isEmpty=S.isEmpty:=by cases U<;>cases S<;>first|rfl|simp at eL
   rw[←eL,eE]
   repeat'(first|refine And.intro ?_ ?_|exact True.intro|refine rq fun _=>?_|refine rf fun _=>?_|simp only[go_sem,zaG,HHs,zac,zad,zaa,Tryd.f33])
   subst eS
   rw[kq.out,hN,hK]
   exact⟨g,gc,by omega,by omega,rfl,by simp only[go_sem],by simp only[go_sem]⟩
def I6:Tbl:=I5.add 33 (sp1 zqO sgP)
attribute [go_sem] I6
theorem hI6:zan Tryd.prog G I6:=by
 refine zb4 zFW hI5 fun l hp hw=>?_
 refine zcs (zH7 (G:=G) hw hp) ?_
 rintro d H n ⟨g,gc,hg,hgc,rfl,ho,hoc⟩
 unfold zqO
 obtain⟨K,hK⟩:∃K,zbu l=K:=⟨_,rfl⟩
 obtain⟨S,hS⟩:∃S,zeq l=S:=⟨_,rfl⟩
 rw[hK]at hoc ⊢
 rw[hS]at ho ⊢
 refine⟨.agg [.fz (.i .i64 0),.fz (.sl ((K.map c0).map enc)),.fz (.sl ((S.map ziY).map enc))],H0,n,?_,rfl⟩
 have e:H0=hpL []:=rfl
 rw[e]
 refine zbc [] [] [((56025,g),(S.map ziY).map enc),((33039,gc),(K.map c0).map enc)] ?_ ?_ ?_ ?_ ?_<;>simp only[go_sem,ho,hoc]
 case refine_5=>exact⟨by rw[←List.map_map];exact zdF _,by rw[←List.map_map];exact zdF _⟩
 refine⟨⟨by rw[←List.map_map];unfold zbF;rw[List.map_map];rfl,fun h=>by rw[List.isEmpty_iff.1 h];rfl⟩,fun h=>by rw[List.isEmpty_iff.1 h];rfl⟩
end
end Go.Proofs.YtkkffhphodngkaaDoor
namespace Go.Proofs.YtkkffhphodngkaaDoor
open Go Go.Abs Go.Proofs
section
variable {G:Nat→List FD}
structure zty (n n0:Nat)(p:Nat→Nat→Prop) where
 i:Nat
 v:Nat
 m:Nat
 hi:i≤n
 hm:n0≤m
 hp:p i v
def zks (r:zdq):Pd:=⟨r.name,r.arity⟩
def zqJ:Option Nat→Int×Bool
 |some n=>((n:Int),true)
 |none=>(0,false)
def zyZ (m:zal)(size:Int):Int×Bool:=zqJ (zeu size.toNat m.consts.length (m.rels.map zks))
structure zEG (m:zal)(size:Int):Prop where
 s:1≤size∧size≤4
 a:∀r∈m.rels,0≤r.arity∧r.arity≤3
 c:m.consts.length≤100000000
 r:m.rels.length≤100000000
def I7:Tbl:=I6.add 34 (zxv zyZ zEG)
attribute [go_sem] I7
set_option maxHeartbeats 8000000 in
theorem hI7:zan Tryd.prog G I7:=by
 refine zkH zFX hI6 fun m size hp _ _=>?_
 obtain⟨⟨hs1,hs4⟩,har,hcl,hrl⟩:=hp
 obtain⟨S,hS⟩:∃S:Nat,size=(S:Int):=⟨size.toNat,by omega⟩
 subst hS
 obtain⟨r,hr⟩:∃r,zeu S m.consts.length (m.rels.map zks)=r:=⟨_,rfl⟩
 have hV:zyZ m S=zqJ r:=by unfold zyZ;rw[Int.toNat_natCast,hr]
 rw[hV]
 obtain⟨Q,hQ⟩:∃Q:D→zau→Nat→Prop,Q=(fun d _ _=>D.val d=some (.tup [.fz (enc (zqJ r).1),.fz (enc (zqJ r).2)])):=⟨_,rfl⟩
 rw[←hQ]
 have kq:=Kp.mk hQ
 clear hQ hV
 unfold zeu zqC at hr
 obtain⟨c,hc⟩:∃c,m.consts.length=c:=⟨_,rfl⟩
 rw[hc]at hr hcl
 have kr:=Kp.mk har
 clear har
 refine zah (N:=40) hm hI6 34000 (lst []) zFX Tryd.func34 rfl rfl (by simp) (by kernel_rfl) ?_
 repeat'(first|refine And.intro ?_ ?_|exact True.intro|refine rq fun _=>?_|refine rf fun _=>?_|simp only[go_sem,hc,zad,zac,zab,zaa,Tryd.f34])
 refine zai hm hI6 34000 (lst []) (ι:=zty c 1 fun i v=>v≤8192∧zm0 v (List.replicate (c-i) S++zkL S (m.rels.map zks))=r)
  ⟨fun q=>⟨frL [(1,.fz (.i .i64 S)),(2,.ptr (34002,0) 0),(6,.fz (.i .i64 q.v)),(11,.fz (.i .i64 c)),(12,.fz (.i .i64 q.i))],hpL [((34002,0),some ⟨[.fz (.i .i64 m.size),.fz (.sl (m.consts.map enc)),.fz (.sl (m.rels.map enc))],true,false⟩)],q.m⟩,fun q=>c-q.i⟩
  ⟨0,1,1,by omega,by omega,by omega,hr⟩ (by kernel_rfl) ?_ ?_
 ·refine zag ?_ ?_ ?_<;>simp only[go_sem]
  all_goals first|done|rfl|omega
 rintro⟨i,v,q,hi,hq,hv,hp⟩
 try simp only at hi hq hv hp
 have hm8:∀a b:Nat,a≤8192→b≤64→a*b≤524288:=fun a b h1 h2=>Nat.le_trans (Nat.mul_le_mul h1 h2) (by decide)
 rcases Nat.lt_or_ge i c with h1|h1
 ·have h2:c-i=(c-(i+1))+1:=by omega
  rw[h2,List.replicate_succ,List.cons_append,zm0]at hp
  have h3:=hm8 v S hv (by omega)
  have h4:(v:Int)*(S:Int)=((v*S:Nat):Int):=by simp
  have h5:((i:Int)<(c:Int))=True:=eq_true (by omega)
  by_cases h6:8192<v*S
  ·rw[if_pos h6]at hp
   have h6':((8192:Int)<((v*S:Nat):Int))=True:=eq_true (by omega)
   repeat'(first|refine And.intro ?_ ?_|exact True.intro|refine rq fun _=>?_|refine rf fun _=>?_|simp only[go_sem,h4,h5,h6',zad,zac,zab,zaa,Tryd.f34])
   all_goals
    rw[kq.out,←hp]
    simp only[go_sem,zqJ]
  ·rw[if_neg h6]at hp
   have h6':((8192:Int)<((v*S:Nat):Int))=False:=eq_false (by omega)
   repeat'(first|refine And.intro ?_ ?_|exact True.intro|refine rq fun _=>?_|refine rf fun _=>?_|simp only[go_sem,h4,h5,h6',zad,zac,zab,zaa,Tryd.f34])
   refine⟨⟨i+1,v*S,q,by omega,by omega,by omega,hp⟩,by simp only;omega,?_⟩
   refine zag ?_ ?_ ?_<;>simp only[go_sem]
   all_goals first|done|rfl|omega
 obtain rfl:i=c:=by omega
 rw[Nat.sub_self,List.replicate_zero,List.nil_append]at hp
 repeat'(first|refine And.intro ?_ ?_|exact True.intro|refine rq fun _=>?_|refine rf fun _=>?_|simp only[go_sem,Int.lt_irrefl,zad,zac,zab,zaa,Tryd.f34])
 refine zai hm hI6 34000 (lst []) (ι:=zty m.rels.length 1 fun i v=>v≤8192∧zm0 v (zkL S ((m.rels.map zks).drop i))=r)
  ⟨fun q=>⟨frL [(1,.fz (.i .i64 S)),(2,.ptr (34002,0) 0),(6,.fz (.i .i64 q.v)),(21,.fz (.sl (m.rels.map enc))),(22,.fz (.i .i64 m.rels.length)),(23,.fz (.i .i64 q.i))],hpL [((34002,0),some ⟨[.fz (.i .i64 m.size),.fz (.sl (m.consts.map enc)),.fz (.sl (m.rels.map enc))],true,false⟩)],q.m⟩,fun q=>m.rels.length-q.i⟩
  ⟨0,v,q,by omega,by omega,hv,hp⟩ (by kernel_rfl) ?_ ?_
 ·refine zag ?_ ?_ ?_<;>simp only[go_sem]
  all_goals first|done|rfl|omega
 try clear hp hv
 rintro⟨j,v,q2,hj,hq2,hv,hp⟩
 try simp only at hj hq2 hv hp
 rcases Nat.lt_or_ge j m.rels.length with h1|h1
 rotate_left
 ·obtain rfl:j=m.rels.length:=by omega
  rw[List.drop_of_length_le (by simp),zkL,zm0]at hp
  repeat'(first|refine And.intro ?_ ?_|exact True.intro|refine rq fun _=>?_|refine rf fun _=>?_|simp only[go_sem,Nat.lt_irrefl,zad,zac,zab,zaa,Tryd.f34])
  all_goals
   rw[kq.out,←hp]
   simp only[go_sem,zqJ]
 obtain⟨x,hx⟩:∃x,m.rels[j]=x:=⟨_,rfl⟩
 have hxa:=kr.out x (by rw[←hx];exact List.getElem_mem h1)
 have hd:(m.rels.map zks).drop j=zks x::(m.rels.map zks).drop (j+1):=by
  rw[List.drop_eq_getElem_cons (by simpa using h1),List.getElem_map,hx]
 rw[hd,zkL]at hp
 obtain⟨P,hP⟩:∃P,zqi S (zks x)=P:=⟨_,rfl⟩
 have hpw:zyB S x.arity=(P:Int):=by rw[←hP];rfl
 have hP64:=(znA (a:=(S:Int)) (n:=x.arity) hs1 hs4 hxa.1 hxa.2 x.arity.toNat (by omega)).2
 rw[show((S:Int).toNat^x.arity.toNat)=P by rw[←hP];rfl]at hP64
 rw[hP]at hp
 have hpp:(1≤(S:Int)∧(S:Int)≤4)∧0≤x.arity∧x.arity≤3:=⟨⟨hs1,hs4⟩,hxa⟩
 repeat'(first|refine zaB.i hpp fun _=>?_|refine And.intro ?_ ?_|exact True.intro|refine rq fun _=>?_|refine rf fun _=>?_|simp only[go_sem,h1,hx,hpw,zad,zac,zab,zaa,Tryd.f34])
 refine zai hm hI6 34000 (lst []) (ι:=zty P 1 fun k w=>w≤8192∧zm0 w (List.replicate (P-k) 2++zkL S ((m.rels.map zks).drop (j+1)))=r)
  ⟨fun q=>⟨frL [(1,.fz (.i .i64 S)),(2,.ptr (34002,0) 0),(6,.fz (.i .i64 q.v)),(21,.fz (.sl (m.rels.map enc))),(22,.fz (.i .i64 m.rels.length)),(23,.fz (.i .i64 j)),(30,.fz (.i .i64 P)),(31,.fz (.i .i64 q.i))],hpL [((34002,0),some ⟨[.fz (.i .i64 m.size),.fz (.sl (m.consts.map enc)),.fz (.sl (m.rels.map enc))],true,false⟩)],q2+1⟩,fun q=>P-q.i⟩
  ⟨0,v,1,by omega,by omega,hv,hp⟩ (by kernel_rfl) ?_ ?_
 ·refine zag ?_ ?_ ?_<;>simp only[go_sem]
  all_goals first|done|rfl|omega
 try clear hp hv
 rintro⟨k,w,q3,hk,hq3,hv,hp⟩
 try simp only at hk hq3 hv hp
 rcases Nat.lt_or_ge k P with h2|h2
 ·have h3:P-k=(P-(k+1))+1:=by omega
  rw[h3,List.replicate_succ,List.cons_append,zm0]at hp
  have h4:(w:Int)*(2:Int)=((w*2:Nat):Int):=by simp
  have h5:((k:Int)<(P:Int))=True:=eq_true (by omega)
  by_cases h6:8192<w*2
  ·rw[if_pos h6]at hp
   have h6':((8192:Int)<((w*2:Nat):Int))=True:=eq_true (by omega)
   repeat'(first|refine And.intro ?_ ?_|exact True.intro|refine rq fun _=>?_|refine rf fun _=>?_|simp only[go_sem,h4,h5,h6',zad,zac,zab,zaa,Tryd.f34])
   all_goals
    rw[kq.out,←hp]
    simp only[go_sem,zqJ]
  ·rw[if_neg h6]at hp
   have h6':((8192:Int)<((w*2:Nat):Int))=False:=eq_false (by omega)
   repeat'(first|refine And.intro ?_ ?_|exact True.intro|refine rq fun _=>?_|refine rf fun _=>?_|simp only[go_sem,h4,h5,h6',zad,zac,zab,zaa,Tryd.f34])
   refine⟨⟨k+1,w*2,q3,by omega,by omega,by omega,hp⟩,by simp only;omega,?_⟩
   refine zag ?_ ?_ ?_<;>simp only[go_sem]
   all_goals first|done|rfl|omega
 obtain rfl:k=P:=by omega
 rw[Nat.sub_self,List.replicate_zero,List.nil_append]at hp
 repeat'(first|refine And.intro ?_ ?_|exact True.intro|refine rq fun _=>?_|refine rf fun _=>?_|simp only[go_sem,Int.lt_irrefl,zad,zac,zab,zaa,Tryd.f34])
 refine⟨⟨j+1,w,q2+1,by omega,by omega,by omega,hp⟩,by simp only;omega,?_⟩
 refine zag ?_ ?_ ?_<;>simp only[go_sem]
 all_goals first|done|rfl|omega
end
end Go.Proofs.YtkkffhphodngkaaDoor
namespace Go.Proofs.YtkkffhphodngkaaDoor
open Go Go.Abs Go.Proofs
section
variable {G:Nat→List FD}
theorem zpl {P:Program}{f:FuncId}{args:List D}{xs ys:List FD}{b v:Bool}{hl:List (Abs.Id×Option O)}{n t es len:Nat}{R:D→zau→Nat→Prop}(ha:D.toFDs args=some xs)
  (h:zay P G f (xs.map .fz) H0 0 (fun d H1 n1=>∃g,g<n1∧d= .arr (t,g) es 0 len∧H1 (t,g)=some ⟨zae ys,b,v⟩))(hR:∀g n',n≤g→g<n'→R (.arr (t,g) es 0 len) (hpL (((t,g),some ⟨zae ys,b,v⟩)::hl)) n'):zay P G f args (hpL hl) n R:=by
 refine zhG h.1 fun hfr=>zcs (zqZ ha h) ?_
 rintro d H' n' ⟨d1,H1,n1,⟨g,hg,rfl,ho⟩,rfl,rfl,rfl⟩
 have hsh:shH n (hpL hl) H1 (t,g+n)=some ⟨zae ys,b,v⟩:=by
  unfold shH
  rw[if_pos (by simp),show(t,g+n-n)=(t,g) by rw[Nat.add_sub_cancel],ho]
  simp only[Option.map_some,shO,zsI]
 refine⟨.arr (t,g+n) es 0 len,hpL (((t,g+n),some ⟨zae ys,b,v⟩)::hl),n+n1,zeT ?_ (fun id o hid=>?_) (Nat.le_refl _),hR (g+n) (n+n1) (by omega) (by omega)⟩
 ·exact⟨rfl,trivial⟩
 ·simp only[hpL]at hid
  split at hid
  ·rename_i e;subst e;rw[←hid];exact hsh
  ·have hlt:id.2<n:=by
    rcases Nat.lt_or_ge id.2 n with h3|h3
    ·exact h3
    ·rw[hfr id h3]at hid;cases hid
   show shH n (hpL hl) H1 id=some o
   unfold shH
   rw[if_neg (by omega)]
   exact hid
theorem zy1 {l:List zaF}(hl:l.length≤100000000):zay Tryd.prog G 64 [.fz (.sl (l.map enc))] H0 0 (fun d H n=>∃g,g<n∧d= .arr (64007,g) 2 0 l.length∧H (64007,g)=some ⟨zae (l.map enc),false,l.isEmpty⟩):=by
 rw[zhe]
 obtain⟨Q,hQ⟩:∃Q:D→zau→Nat→Prop,Q=(fun d H n=>(d= .full []∧l=[]∧n=0∧H=hpL [])∨∃g,g<n∧d= .arr (64007,g) 2 0 l.length∧H (64007,g)=some ⟨zae (l.map enc),false,l.isEmpty⟩):=⟨_,rfl⟩
 have key:zay Tryd.prog G 64 [.fz (.sl (l.map enc))] (hpL []) 0 Q:=by
  refine zah (N:=8) hm hI7 64000 (lst [7]) zHM Tryd.func64 rfl rfl (by simp) (by kernel_rfl) ?_
  simp only[go_sem]
  refine zvl.i fun b hb=>?_
  cases b
  ·repeat'(first|refine And.intro ?_ ?_|exact True.intro|refine rq fun _=>?_|refine rf fun _=>?_|simp only[go_sem,Tryd.f64])
   rw[hQ]
   have hv:(zae (l.map enc)).isEmpty=l.isEmpty:=by cases l<;>rfl
   exact .inr ⟨0,by omega,rfl,by simp only[go_sem,hv]⟩
  ·have:l=[]:=List.eq_nil_of_length_eq_zero (hb rfl)
   subst this
   repeat'(first|refine And.intro ?_ ?_|exact True.intro|refine rq fun _=>?_|refine rf fun _=>?_|simp only[go_sem,Tryd.f64])
   rw[hQ]
   exact .inl ⟨rfl,rfl,rfl,rfl⟩
 refine zcs key ?_
 rw[hQ]
 rintro d H n (⟨rfl,rfl,rfl,rfl⟩|⟨g,hg,rfl,ho⟩)
 ·refine⟨.arr (64007,0) 2 0 0,hpL [((64007,0),some ⟨[],false,true⟩)],1,?_,0,by omega,rfl,by simp only[go_sem]⟩
  refine zbc [] [(64007,0)] [] ?_ ?_ ?_ ?_ ?_<;>simp only[go_sem]
  all_goals first|done|rfl
 ·exact⟨_,H,n,zeT ⟨rfl,trivial⟩ (fun _ _ h=>h) (Nat.le_refl _),g,hg,rfl,ho⟩
theorem zoR (s i:Nat):∀j,zeN s i j=i / s^j
 |0=>by rw[zeN,Nat.pow_zero,Nat.div_one]
 |j+1=>by rw[zeN,zoR s i j,Nat.div_div_eq_div_mul,Nat.pow_succ]
theorem zi8 {S:Nat}{ps:List Pd}{i:Nat}(h:i<ps.length):zaQ S (ps.take (i+1))=zaQ S (ps.take i)+zqi S ps[i]:=by
 have hap:∀a b:List Pd,zaQ S (a++b)=zaQ S a+zaQ S b:=by
  intro a b
  induction a with
  |nil=>simp[zaQ]
  |cons x a ih=>rw[List.cons_append,zaQ,zaQ,ih,Nat.add_assoc]
 rw[List.take_succ_eq_append_getElem h,hap,zaQ,zaQ,Nat.add_zero]
theorem zix {S:Nat}:∀{ps:List Pd} {i:Nat} (bits:List Bool) (h:i<ps.length),zfo S (ps.take (i+1)) bits=zfo S (ps.take i) bits++[⟨ps[i].name,ps[i].arity,znL S ps[i].arity.toNat (bits.drop (zaQ S (ps.take i)))⟩]
 |[],_,_,h=>by simp at h
 |p::ps,0,bits,_=>by rw[List.take_succ_cons,List.take_zero,zfo];rfl
 |p::ps,i+1,bits,h=>by
  rw[List.take_succ_cons,List.take_succ_cons,zfo,zfo,zix (ps:=ps) (i:=i) (bits.drop (zqi S p)) (by simpa using h),zaQ,List.drop_drop]
  rfl
def zmv (S ar:Nat)(bits:List Bool)(k:Nat):List (List Int):=((List.range k).filter fun k=>bits.getD k false).map (zaR S ar)
theorem zmw (S ar:Nat)(bits:List Bool)(k:Nat):zmv S ar bits (k+1)=zmv S ar bits k++(if bits.getD k false=true then[zaR S ar k]else[]):=by
 unfold zmv
 rw[List.range_succ,List.filter_append,List.map_append]
 congr 1
 simp only[List.filter_cons,List.filter_nil]
 cases bits.getD k false<;>rfl
theorem zmW (cells N:Nat):zpu cells N=(zfx 2 N cells cells).map fun d=>decide (d=1):=by rw[ze4];rfl
end
end Go.Proofs.YtkkffhphodngkaaDoor

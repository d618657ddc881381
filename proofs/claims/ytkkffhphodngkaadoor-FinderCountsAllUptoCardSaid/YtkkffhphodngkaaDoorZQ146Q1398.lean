/- several texts of this proof in one; no conditions -/
import Derived.Test.YtkkffhphodngkaaDoorAT
import Derived.Test.YtkkffhphodngkaaDoorQ145
import Derived.Test.YtkkffhphodngkaaDoorSH
import Derived.Test.YtkkffhphodngkaaDoorY9
import Derived.Test.YtkkffhphodngkaaDoorY11
import Derived.Test.YtkkffhphodngkaaDoorY4
import Derived.Test.YtkkffhphodngkaaDoorQ24
import Derived.Test.YtkkffhphodngkaaDoorVP
set_option maxRecDepth 100000
set_option maxHeartbeats 1000000
set_option linter.unusedSimpArgs false
namespace Go.Proofs.YtkkffhphodngkaaDoor
open Go Go.Abs Go.Proofs
section
variable {G:Nat→List FD}
def zik (p:Pd):zdc:=⟨p.name,p.arity,[]⟩
@[go_sem] theorem zx3 {p:Pd}:enc (zik p)= .agg [.s p.name.l,.i .i64 p.arity,.sl []]:=rfl
def zbu (l:List Pd):List D:=zad (l.map fun p=>enc (zik p))
theorem zrx (l:List Pd):(zbu l).length=l.length*3:=by
 unfold zbu
 have h:=zaT (xs:=l.map fun p=>enc (zik p)) (es:=3) fun i hi=>by
  have hi2:i<l.length:=by simpa using hi
  rw[List.getD_eq_getElem?_getD,List.getElem?_map,List.getElem?_eq_getElem hi2];rfl
 rw[h,List.length_map]
theorem zrw (p:Pd)(l:List Pd):zbu (p::l)=[.fz (.s p.name.l),.fz (.i .i64 p.arity),.fz (.sl [])]++zbu l:=rfl
theorem zuB:∀{l:List Pd} {i:Nat} (h:i<l.length),(zbu l|>.drop (i*3)|>.take 3)=[.fz (.s l[i].name.l),.fz (.i .i64 l[i].arity),.fz (.sl [])]
 |[],_,h=>by simp at h
 |p::l,0,_=>by rw[zrw];rfl
 |p::l,i+1,h=>by
  rw[zrw,Nat.add_mul,Nat.one_mul,Nat.add_comm,←List.drop_drop]
  exact zuB (l:=l) (by simpa using h)
theorem znG {l:List Pd}{p:Pd}{i:Nat}(h:i<l.length)(e:l[i]=p)(hp:p∉l.take i):l.idxOf p=i:=by
 induction l generalizing i with
 |nil=>simp at h
 |cons x l ih=>
  cases i with
  |zero=>
   have e2:x=p:=e
   rw[List.idxOf_cons,e2,beq_self_eq_true];rfl
  |succ i=>
   rw[List.take_succ_cons]at hp
   have h1:x≠p:=fun e2=>hp (by rw[e2];simp)
   have h3:=ih (by simpa using h) (by simpa using e) fun h2=>hp (List.mem_cons_of_mem _ h2)
   rw[List.idxOf_cons,h3,beq_false_of_ne h1];rfl
theorem zvZ (l:List Pd)(p:Pd):zbu (l++[p])=zbu l++[.fz (.s p.name.l),.fz (.i .i64 p.arity),.fz (.sl [])]:=by
 unfold zbu zad
 rw[List.map_append,List.flatMap_append]
 rfl
set_option maxHeartbeats 4000000 in
theorem f58 {y p:Pd}{id:Abs.Id}{H:zav}{n:Nat}{R:D→zav→Nat→Prop}(hid0:id.2<n){z:D}(ho:H id=some ⟨[.fz (.s p.name.l),.fz (.i .i64 p.arity),z],true,false⟩)
  (hR:∀n',n≤n'→R (.fz (.b (decide (y=p)))) H n'):zaw Tryd.prog G 58 [.agg [.fz (.s y.name.l),.fz (.i .i64 y.arity),.fz (.sl [])],.ptr id 0] H n R:=by
 refine zcj zCT (fun hfr=>?_) hR
 obtain⟨Q,hQ⟩:∃Q:D→zav→Nat→Prop,Q=(fun d' H' n'=>d'= .fz (.b (decide (y=p)))∧n≤n'∧∀id,id.2<n→H' id=H id):=⟨_,rfl⟩
 rw[←hQ]
 have e:H=hpX [] H:=rfl
 rw[e]
 have hn0:∀id:Abs.Id,id.2<n→id≠(58002,n):=fun id h e=>by rw[e]at h;simp at h
 have hne:(id=(58002,n))=False:=eq_false (hn0 id hid0)
 by_cases h1:y.name=p.name
 ·have h1':(y.name.l=p.name.l)=True:=eq_true (by rw[h1])
  refine zah (N:=16) hm hI3 58000 (lst []) zCT Tryd.func58 rfl rfl (by simp) (by kernel_rfl) ?_
  repeat'(first|refine And.intro ?_ ?_|exact True.intro|refine rq fun _=>?_|refine rf fun _=>?_|simp only[go_sem,ho,h1',hne,Tryd.f58])
  all_goals
   rw[hQ]
   refine⟨?_,by omega,fun id hid=>?_⟩
   ·by_cases h2:y.arity=p.arity
    ·have:y=p:=by
      cases y;cases p;simp only at h1 h2;rw[h1,h2]
     simp[this]
    ·have:¬y=p:=fun e=>h2 (by rw[e])
     simp[this,h2]
   ·simp only[go_sem,hn0 id hid]
 ·have h1':(y.name.l=p.name.l)=False:=eq_false fun e=>h1 (by cases h:y.name;cases h2:p.name;rw[h,h2]at e;exact congrArg Str.mk e)
  refine zah (N:=16) hm hI3 58000 (lst []) zCT Tryd.func58 rfl rfl (by simp) (by kernel_rfl) ?_
  repeat'(first|refine And.intro ?_ ?_|exact True.intro|refine rq fun _=>?_|refine rf fun _=>?_|simp only[go_sem,ho,h1',hne,Tryd.f58])
  all_goals
   rw[hQ]
   refine⟨?_,by omega,fun id hid=>?_⟩
   ·have:¬y=p:=fun e=>h1 (by rw[e])
    simp[this]
   ·simp only[go_sem,hn0 id hid]
set_option maxHeartbeats 4000000 in
theorem f81 {l:List Pd}{p:Pd}{id a:Abs.Id}{vt:Bool}{H:zav}{n:Nat}{R:D→zav→Nat→Prop}(hid:id.2<n){z:D}(ho:H id=some ⟨[.fz (.s p.name.l),.fz (.i .i64 p.arity),z],true,false⟩)(hoa:H a=some ⟨zbu l,false,vt⟩)(hvt:vt=true→l=[])(hl:l.length≤1000000)
  (hR:∀n',n≤n'→R (.fz (.i .i64 (if p∈l then(l.idxOf p:Int)else-1))) H n'):zaw Tryd.prog G 81 [.arr a 3 0 l.length,.fn 58 [.ptr id 0]] H n R:=by
 refine zcj zE1 (fun hfr=>?_) hR
 obtain⟨Q,hQ⟩:∃Q:D→zav→Nat→Prop,Q=(fun d' H' n'=>d'= .fz (.i .i64 (if p∈l then(l.idxOf p:Int)else-1))∧n≤n'∧∀id,id.2<n→H' id=H id):=⟨_,rfl⟩
 rw[←hQ]
 have kq:=Kp.mk hQ
 clear hQ
 have e:H=hpX [] H:=rfl
 rw[e]
 have hrl:=zrx l
 refine zah (N:=19) hm hI3 81000 (lst []) zE1 Tryd.func81 rfl rfl (by simp) (by kernel_rfl) ?_
 repeat'(first|refine And.intro ?_ ?_|exact True.intro|refine rq fun _=>?_|refine rf fun _=>?_|simp only[go_sem,hoa,Tryd.f81])
 refine zak hm hI3 81000 (lst []) (ι:=zbw l.length n fun i=>p∉l.take i)
  ⟨fun q=>⟨frL [(0,.arr a 3 0 l.length),(1,.fn 58 [.ptr id 0]),(6,.arr a 3 0 l.length),(7,.fz (.i .i64 l.length)),(8,.fz (.i .i64 q.i))],hpX [] H,q.m⟩,fun q=>l.length-q.i⟩
  ⟨0,n,by omega,Nat.le_refl _,by simp⟩ (by kernel_rfl) ?_ ?_
 ·refine zaO ?_ ?_ (fun id2 o2 ho2=>?_) ?_
  ·simp only[go_sem]
  ·simp only[go_sem]
  ·exact ho2
  ·first|omega|(simp only[go_sem];done)|(simp only[go_sem];omega)
 rintro⟨i,m,hi,hm1,hp⟩
 try simp only at hi hm1 hp
 rcases Nat.lt_or_ge i l.length with h1|h1
 ·obtain⟨y,hy⟩:∃y,l[i]=y:=⟨_,rfl⟩
  have g0:=zuB h1
  rw[hy]at g0
  have hv:vt=false:=by
   cases hv:vt with
   |false=>rfl
   |true=>rw[hvt hv]at h1;simp at h1
  have hrq:i*3+3≤l.length*3∧vt=false:=⟨by omega,hv⟩
  by_cases hyp:y=p
  ·have hd:decide (y=p)=true:=decide_eq_true hyp
   repeat'(first|refine zas.i (f58 (y:=y) (p:=p) (by omega) ho fun n' hn'=>?_)|refine zaF.i hrq fun _=>?_|refine And.intro ?_ ?_|exact True.intro|refine rq fun _=>?_|refine rf fun _=>?_|simp only[go_sem,hoa,g0,hrl,h1,hd,Tryd.f81])
   all_goals
    rw[kq.out,if_pos (by rw[←hyp,←hy];exact List.getElem_mem h1),znG h1 (by rw[hy,hyp]) hp]
    exact⟨rfl,by omega,fun _ _=>rfl⟩
  ·have hd:decide (y=p)=false:=decide_eq_false hyp
   repeat'(first|refine zas.i (f58 (y:=y) (p:=p) (by omega) ho fun n' hn'=>?_)|refine zaF.i hrq fun _=>?_|refine And.intro ?_ ?_|exact True.intro|refine rq fun _=>?_|refine rf fun _=>?_|simp only[go_sem,hoa,g0,hrl,h1,hd,Tryd.f81])
   all_goals
    refine⟨⟨i+1,n',by omega,by omega,?_⟩,by simp only;omega,?_⟩
    ·rw[List.take_succ_eq_append_getElem h1,hy]
     intro h2
     rcases List.mem_append.1 h2 with h2|h2
     ·exact hp h2
     ·exact hyp (List.mem_singleton.1 h2).symm
    refine zaO ?_ ?_ (fun id2 o2 ho2=>?_) ?_
    ·simp only[go_sem]
    ·simp only[go_sem]
    ·exact ho2
    ·first|omega|(simp only[go_sem];done)|(simp only[go_sem];omega)
 ·obtain rfl:i=l.length:=by omega
  rw[List.take_length]at hp
  repeat'(first|refine And.intro ?_ ?_|exact True.intro|refine rq fun _=>?_|refine rf fun _=>?_|simp only[go_sem,hoa,Nat.lt_irrefl,Tryd.f81])
  all_goals
   rw[kq.out,if_neg hp]
   exact⟨rfl,by omega,fun _ _=>rfl⟩
theorem f57 {l:List Pd}{p:Pd}{id a:Abs.Id}{vt:Bool}{H:zav}{n:Nat}{R:D→zav→Nat→Prop}(hid:id.2<n){z:D}(ho:H id=some ⟨[.fz (.s p.name.l),.fz (.i .i64 p.arity),z],true,false⟩)(hoa:H a=some ⟨zbu l,false,vt⟩)(hvt:vt=true→l=[])(hl:l.length≤1000000)
  (hR:∀n',n≤n'→R (.fz (.b (decide (p∈l)))) H n'):zaw Tryd.prog G 57 [.arr a 3 0 l.length,.fn 58 [.ptr id 0]] H n R:=by
 refine zcj zEM (fun hfr=>?_) hR
 obtain⟨Q,hQ⟩:∃Q:D→zav→Nat→Prop,Q=(fun d' H' n'=>d'= .fz (.b (decide (p∈l)))∧n≤n'∧∀id,id.2<n→H' id=H id):=⟨_,rfl⟩
 rw[←hQ]
 have kq:=Kp.mk hQ
 clear hQ
 have e:H=hpX [] H:=rfl
 rw[e]
 refine zah (N:=9) hm hI3 57000 (lst []) zEM Tryd.func57 rfl rfl (by simp) (by kernel_rfl) ?_
 repeat'(first|refine zas.i (f81 (l:=l) (p:=p) hid ho hoa hvt hl fun n' hn'=>?_)|refine And.intro ?_ ?_|exact True.intro|refine rq fun _=>?_|refine rf fun _=>?_|simp only[go_sem,hoa,Tryd.f57])
 all_goals
  rw[kq.out]
  refine⟨?_,by omega,fun _ _=>rfl⟩
  by_cases h:p∈l
  ·simp[h]
  ·simp[h]
end
end Go.Proofs.YtkkffhphodngkaaDoor
namespace Go.Proofs.YtkkffhphodngkaaDoor
open Go Go.Abs Go.Proofs
section
variable {G:Nat→List FD}
def cfP (a b:Pd):Int:=if a.name=b.name then a.arity-b.arity else if a.name.l<b.name.l then-1 else 1
theorem zd8 {a b:Pd}:cfP a b<0↔ltP a b:=by
 unfold cfP ltP
 by_cases h:a.name=b.name
 ·rw[if_pos h]
  constructor
  ·intro h2;exact .inr ⟨h,by omega⟩
  ·rintro(h2|⟨_,h2⟩)
   ·rw[h]at h2;exact absurd h2 zd6
   ·omega
 ·rw[if_neg h]
  by_cases h2:a.name.l<b.name.l
  ·rw[if_pos h2];simp[h2]
  ·rw[if_neg h2];simp[h2,h]
theorem zFw {a b:Pd}(ha:0≤a.arity∧a.arity≤1000000)(hb:0≤b.arity∧b.arity≤1000000):zaw Tryd.prog G 62 [.fz (.agg [.s a.name.l,.i .i64 a.arity,.sl []]),.fz (.agg [.s b.name.l,.i .i64 b.arity,.sl []])] H0 0 (fun d _ _=>D.val d=some (.fz (.i .i64 (cfP a b)))):=by
 rw[zgW]
 by_cases h:a.name=b.name
 ·have e:cfP a b=a.arity-b.arity:=by unfold cfP;rw[if_pos h]
  have h':(a.name.l=b.name.l)=True:=eq_true (by rw[h])
  rw[e]
  refine zah (N:=20) hm hI3 62000 (lst []) zAN Tryd.func62 rfl rfl (by simp) (by kernel_rfl) ?_
  repeat'(first|refine And.intro ?_ ?_|exact True.intro|refine rq fun _=>?_|refine rf fun _=>?_|simp only[go_sem,h',zab,Tryd.f62])
  all_goals first|done|rfl|omega
 ·have h':(a.name.l=b.name.l)=False:=eq_false fun e=>h (by cases h2:a.name;cases h3:b.name;rw[h2,h3]at e;exact congrArg Str.mk e)
  by_cases h2:a.name.l<b.name.l
  ·have e:cfP a b= -1:=by unfold cfP;rw[if_neg h,if_pos h2]
   have h3:Op.bytesLess a.name.l b.name.l=true:=by rw[zbh];exact decide_eq_true h2
   rw[e]
   refine zah (N:=20) hm hI3 62000 (lst []) zAN Tryd.func62 rfl rfl (by simp) (by kernel_rfl) ?_
   repeat'(first|refine And.intro ?_ ?_|exact True.intro|refine rq fun _=>?_|refine rf fun _=>?_|simp only[go_sem,h',h3,zab,Tryd.f62])
   all_goals first|done|rfl|omega
  ·have e:cfP a b=1:=by unfold cfP;rw[if_neg h,if_neg h2]
   have h3:Op.bytesLess a.name.l b.name.l=false:=by rw[zbh];exact decide_eq_false h2
   rw[e]
   refine zah (N:=20) hm hI3 62000 (lst []) zAN Tryd.func62 rfl rfl (by simp) (by kernel_rfl) ?_
   repeat'(first|refine And.intro ?_ ?_|exact True.intro|refine rq fun _=>?_|refine rf fun _=>?_|simp only[go_sem,h',h3,zab,Tryd.f62])
   all_goals first|done|rfl|omega
def zfT (p:Pd):List FD:=[.s p.name.l,.i .i64 p.arity,.sl []]
def zh9:List FD→Pd
 |[.s n,.i _ a,_]=>⟨⟨n⟩,a⟩
 |_=>default
theorem zec (p:Pd):zh9 (zfT p)=p:=by cases p;rfl
theorem zlq (l:List Pd):zbu l=zad ((l.map zfT).map .agg):=by unfold zbu;rw[List.map_map];rfl
theorem zCZ {id':Abs.Id}{l:List Pd}{bx vt:Bool}{H:zav}{n:Nat}(hl:∀p∈l,0≤p.arity∧p.arity≤1000000)(ho:H id'=some ⟨zbu l,bx,vt⟩):
  zaw Tryd.prog G 61 [.arr id' 3 0 l.length,.fn 62 []] H n fun d H' n'=>d= .tup []∧∃S:List Pd,S.Perm l∧(S.Pairwise fun a b=>¬ltP b a)∧H'=zaC H id' (some ⟨zbu S,bx,vt⟩)∧n'=n:=by
 have hin:∀{r:List FD},(∃p:Pd,r=zfT p∧0≤p.arity∧p.arity≤1000000)→zfT (zh9 r)=r∧0≤(zh9 r).arity∧(zh9 r).arity≤1000000:=by
  rintro r ⟨p,rfl,h⟩
  rw[zec];exact⟨rfl,h⟩
 have h:=zl0 (P:=Tryd.prog) (G:=G) (f:=61) (g:=62) (k:=3) (pre:=fun r=>∃p:Pd,r=zfT p∧0≤p.arity∧p.arity≤1000000) (cmp:=fun x y=>cfP (zh9 x) (zh9 y)) (by omega) zGl
  (fun α _ enc hk h1 cf hO blk off cap d w hc hH hb hs=>Tryd.slices_SortFunc_f61 enc hk h1 cf hO 62 #[] blk off cap d w zAN hc hH hb hs) Tryd.slices_SortFunc_none_f61
  (fun x y hx hy=>by
   obtain⟨ex,hx2⟩:=hin hx
   obtain⟨ey,hy2⟩:=hin hy
   have:=zFw (G:=G) hx2 hy2
   rw[←ex,←ey,zec,zec]
   exact this)
  (fun x _=>by rw[zd8];exact zeD) (fun x y z _ _ _=>by rw[zd8,zd8,zd8];exact zfu)
  (fun x y z _ _ _=>by
   rw[zd8,zd8,zd8]
   intro h1 h2 h3
   by_cases e:zh9 x=zh9 y
   ·rw[e]at h3;exact h2 h3
   ·exact h2 (zfu (zmB h1 e) h3))
  (id':=id') (rows:=l.map zfT) (n:=n) (H:=H) (bx:=bx) (vt:=vt) (fun r hr=>by
   obtain⟨p,hp,rfl⟩:=List.mem_map.1 hr
   exact⟨⟨p,rfl,hl p hp⟩,rfl,fun y hy=>by
    unfold zfT at hy
    simp only[List.mem_cons,List.not_mem_nil,or_false]at hy
    rcases hy with rfl|rfl|rfl<;>rfl⟩) (by rw[ho,zlq])
 rw[List.length_map]at h
 refine zaD h ?_
 rintro d H' n' ⟨rfl,rows',hp,hs,rfl,rfl⟩
 have he:rows'=(rows'.map zh9).map zfT:=by
  rw[List.map_map]
  have:∀r∈rows',(zfT∘zh9) r=r:=fun r hr=>by
   obtain⟨p,_,rfl⟩:=List.mem_map.1 (hp.mem_iff.1 hr)
   show zfT (zh9 (zfT p))=_
   rw[zec]
  rw[List.map_congr_left this,List.map_id'']
  exact fun _=>rfl
 refine⟨rfl,rows'.map zh9,?_,?_,by rw[zlq,←he],rfl⟩
 ·have:=hp.map zh9
  rw[List.map_map]at this
  have e2:l.map (zh9∘zfT)=l:=by
   rw[List.map_congr_left (f:=zh9∘zfT) (g:=id) (fun p _=>zec p),List.map_id]
  rwa [e2]at this
 ·rw[List.pairwise_map]
  refine hs.imp fun{a b} h3=>?_
  rwa [zd8]at h3
def HHs (acc:List Pd)(g:Nat):List (Abs.Id×Option O):=
  [((33003,1),some ⟨[.fz (.i .i64 0),.full [],.arr (56025,g) 3 0 acc.length],true,false⟩),
   ((33005,2),some ⟨[.fn 56 [.ptr (33003,1) 0,.ptr (33005,2) 0]],true,false⟩),
   ((56025,g),some ⟨zbu acc,false,acc.isEmpty⟩)]
theorem zzd (f:Abs.zac):pds f=(if f.kind=2 then[⟨f.name,(f.words.length:Int)⟩]else[])++zdp f.subs:=by cases f;rw[pds];rfl
theorem zhM {fs:List Abs.zac}{j:Nat}(h:j<fs.length):zdp (fs.take (j+1))=zdp (fs.take j)++pds fs[j]:=by
 have hap:∀a b:List Abs.zac,zdp (a++b)=zdp a++zdp b:=by
  intro a b
  induction a with
  |nil=>rfl
  |cons x a ih=>rw[List.cons_append,zdp,zdp,ih,List.append_assoc]
 rw[List.take_succ_eq_append_getElem h,hap,zdp,zdp,List.append_nil]
theorem zh4 (l a b:List Pd):zdf l (a++b)=zdf (zdf l a) b:=by unfold zdf;rw[List.foldl_append]
theorem ztA {fs:List Abs.zac}(j:Nat):(zdp (fs.take j)).length≤(zdp fs).length:=by
 induction fs generalizing j with
 |nil=>simp
 |cons f fs ih=>
  cases j with
  |zero=>simp[zdp]
  |succ j=>
   rw[List.take_succ_cons,zdp,zdp,List.length_append,List.length_append]
   have:=ih j;omega
set_option maxHeartbeats 8000000 in
theorem f56:∀(k:Nat) (f:Abs.zac) (acc:List Pd) (g n:Nat) (X:zav),f.size≤k→(enc f).Wf→g<n→2<n→acc.length+(pds f).length≤1000000→
  (∀id o,X id=some o→id.2<n∧id.1≠33003∧id.1≠33005∧id.1≠56025)→
  zaw Tryd.prog G 56 [.fz (enc f),.ptr (33003,1) 0,.ptr (33005,2) 0] (hpX (HHs acc g) X) n
   (fun d' H' n'=>d'= .tup []∧n≤n'∧(∃g',g'<n'∧zgG H' (HHs (zdf acc (pds f)) g'))∧∀id o,X id=some o→H' id=some o):=by
 intro k
 induction k with
 |zero=>intro f acc g n X hs;have:=f.size_pos;omega
 |succ k ih=>
  intro f acc g n X hs hw hg hn hlen hX
  obtain⟨Q,hQ⟩:∃Q:D→zav→Nat→Prop,Q=(fun d' H' n'=>d'= .tup []∧n≤n'∧(∃g',g'<n'∧zgG H' (HHs (zdf acc (pds f)) g'))∧∀id o,X id=some o→H' id=some o):=⟨_,rfl⟩
  rw[←hQ]
  have hX':∀{l:List (Abs.Id×Option O)} (id o),X id=some o→(id.2<n∧id.1≠33003∧id.1≠33005∧id.1≠56025→zg4 id l)→hpX l X id=some o:=fun id o h1 h2=>(zdj (h2 (hX id o h1))).trans h1
  have hwl:f.words.length≤za4:=by
   have h:=zbd (by have h:=hw;rw[zaG]at h;exact h) (FD.sl (f.words.map enc)) (by simp)
   have:=zcA h
   simpa using this
  have hsl:f.subs.length≤za4:=by
   have h:=zbd (by have h:=hw;rw[zaG]at h;exact h) (FD.sl (f.subs.map enc)) (by simp)
   have:=zcA h
   simpa using this
  have hsw:∀g∈f.subs,(enc g).Wf:=fun g hg=>zd5 (zbd (by have h:=hw;rw[zaG]at h;exact h) (FD.sl (f.subs.map enc)) (by simp)) _ (List.mem_map_of_mem hg)
  have hss:∀g∈f.subs,g.size≤k:=fun g hg=>by have:=zac.size_sub hg;omega
  unfold za4 at hwl hsl
  rw[zzd]at hlen hQ
  rw[List.length_append]at hlen
  rw[zh4]at hQ
  obtain⟨p,hp⟩:∃p:Pd,p=⟨f.name,(f.words.length:Int)⟩:=⟨_,rfl⟩
  rw[←hp]at hlen hQ
  obtain⟨B0,hB0⟩:∃B0,zdf acc (if f.kind=2 then[p]else[])=B0:=⟨_,rfl⟩
  have hB0l:B0.length≤acc.length+(if f.kind=2 then[p]else[]).length:=by rw[←hB0];exact zfI _ _
  rw[hB0]at hQ
  obtain⟨B,hB⟩:∃B:Nat→List Pd,B=fun j=>zdf B0 (zdp (f.subs.take j)):=⟨_,rfl⟩
  have hBz:B 0=B0:=by rw[hB];rfl
  have hBs:∀j (h:j<f.subs.length),B (j+1)=zdf (B j) (pds f.subs[j]):=fun j h=>by rw[hB];simp only[zhM h,zh4]
  have hBl:∀j (h:j<f.subs.length),(B j).length+(pds f.subs[j]).length≤1000000:=fun j h=>by
   rw[hB]
   have h1:=zfI (zdp (f.subs.take j)) B0
   have h2:=ztA (fs:=f.subs) (j+1)
   rw[zhM h,List.length_append]at h2
   simp only
   omega
  have hBe:zdf B0 (zdp f.subs)=B f.subs.length:=by rw[hB];simp only[List.take_length]
  rw[hBe]at hQ
  have kQ:=Kp.mk hQ
  have kI:=Kp.mk ih
  have kS:=Kp.mk hsw
  have kZ:=Kp.mk hss
  have kx:=Kp.mk hX
  have kX:=Kp.mk @hX'
  have kBs:=Kp.mk hBs
  have kBl:=Kp.mk hBl
  clear hX' hQ ih hsw hss hX hBs hBl hBe hB
  have h3:(f.kind=2∧p∈acc)∨(f.kind=2∧p∉acc)∨¬f.kind=2:=by
   by_cases hk:f.kind=2
   ·by_cases hin:p∈acc
    ·exact .inl ⟨hk,hin⟩
    ·exact .inr (.inl ⟨hk,hin⟩)
   ·exact .inr (.inr hk)
  rcases h3 with⟨hk,hin⟩|⟨hk,hin⟩|hk
  case' inl=>
   have hb1:zdf acc [p]=acc:=by show zdg acc p=acc;unfold zdg;rw[if_pos hin]
   have hd:decide (p∈acc)=true:=decide_eq_true hin
   have hk':(f.kind=2)=True:=eq_true hk
   rw[if_pos hk,hb1]at hB0
   obtain⟨nw,hnw⟩:∃b:Bool,b=false:=⟨_,rfl⟩
  case' inr.inl=>
   have hb1:zdf acc [p]=acc++[p]:=by show zdg acc p=acc++[p];unfold zdg;rw[if_neg hin]
   have hd:decide (p∈acc)=false:=decide_eq_false hin
   have hk':(f.kind=2)=True:=eq_true hk
   rw[if_pos hk,hb1]at hB0
   obtain⟨nw,hnw⟩:∃b:Bool,b=true:=⟨_,rfl⟩
  case' inr.inr=>
   have hb1:zdf acc []=acc:=rfl
   have hd:True:=trivial
   have hk':(f.kind=2)=False:=eq_false hk
   rw[if_neg hk,hb1]at hB0
   obtain⟨nw,hnw⟩:∃b:Bool,b=false:=⟨_,rfl⟩
   obtain⟨g1,m1,hgm⟩:∃g1 m1:Nat,g1=g∧m1=n+1:=⟨_,_,rfl,rfl⟩
  all_goals
   subst hB0
   have htk:(zbu acc).take (acc.length*3)=zbu acc:=by rw[←zrx];exact List.take_length
   have hfl:zad [FD.agg [FD.s f.name.l,FD.i .i64 (f.words.length:Int),FD.sl []]]=[.fz (.s f.name.l),.fz (.i .i64 (f.words.length:Int)),.fz (.sl [])]:=rfl
   have hap:acc.length*3≤(zbu acc).length∧fits (acc.length+1) 48:=⟨by rw[zrx];omega,by unfold za4;omega,by omega⟩
   refine zah (N:=38) hm hI3 56000 (lst [25]) zGk Tryd.func56 rfl rfl (by simp) (by kernel_rfl) ?_
   repeat'(first|(refine zas.i (f57 (l:=acc) (p:=p) (vt:=acc.isEmpty) (z:= .full []) (by simp only;omega) (by rw[hp];simp only[go_sem,HHs]) (by simp only[go_sem,HHs]) (fun h=>List.isEmpty_iff.1 h) (by omega) fun n' hn'=>?_);obtain⟨g1,m1,hgm⟩:∃g1 m1:Nat,g1=(if nw=true then n' else g)∧m1=(if nw=true then n'+1 else n'):=⟨_,_,rfl,rfl⟩)|refine zaF.i hap fun _=>?_|refine And.intro ?_ ?_|exact True.intro|refine rq fun _=>?_|refine rf fun _=>?_|simp only[go_sem,hk',hd,HHs,zab,zaa,Tryd.f56])
   try simp only[hnw,if_true,if_false,Bool.false_eq_true]at hgm
   refine zak hm hI3 56000 (lst [25]) (ι:=zgX f.subs.length (n+1) fun _=>True)
    ⟨fun q=>⟨frL [(1,.ptr (33003,1) 0),(2,.ptr (33005,2) 0),(28,.fz (.sl (f.subs.map enc))),(29,.fz (.i .i64 f.subs.length)),(30,.fz (.i .i64 q.i))],hpX (HHs (B q.i) q.g) X,q.m⟩,fun q=>f.subs.length-q.i⟩
    ⟨0,g1,m1,by omega,by omega,by omega,trivial⟩ (by kernel_rfl) ?_ ?_
   ·obtain⟨rfl,rfl⟩:=hgm
    refine zaO ?_ ?_ (fun id o ho=>?_) ?_
    ·simp only[go_sem]
    ·simp only[go_sem,HHs,hBz,zvZ,hp,htk,hfl,List.isEmpty_cons,Bool.and_false]
    ·refine kX.out id o ho fun h1=>?_
     ((repeat'(first|exact trivial|apply And.intro))<;>(rintro rfl;simp only at h1;omega))
    ·simp only[go_sem]
   rintro⟨j,g2,m2,hj,hg2,hm2,_⟩
   try simp only at hj hg2 hm2
   rcases Nat.lt_or_ge j f.subs.length with h2|h2
   ·have hmem:=List.getElem_mem h2
    have hBj:=kBs.out j h2
    have hz:=kZ.out _ hmem
    have ih2:=kI.out f.subs[j] (B j) g2 (m2+1) X hz (kS.out _ hmem) (by omega) (by omega) (kBl.out j h2) (fun id o ho=>by have:=kx.out id o ho;omega)
    rw[zaG]at ih2
    repeat'(first|refine And.intro ?_ ?_|exact True.intro|refine rq fun _=>?_|refine rf fun _=>?_|simp only[go_sem,h2,HHs,zab,zaa,Tryd.f56])
    refine zas.i (zb9 rfl (zdw (by simp only[go_sem,zg5]) (by simp only[go_sem,HHs]) (fun id o ho=>?_) (Nat.le_refl _) (zaD ih2 ?_)))
    ·refine kX.out id o ho fun h1=>?_
     ((repeat'(first|exact trivial|apply And.intro))<;>(rintro rfl;simp only at h1;omega))
    rintro d' H' n' ⟨rfl,e1,⟨g3,hg3,e2⟩,e3⟩
    rw[←hBj]at e2
    simp only[go_sem,HHs]at e2
    obtain⟨b1,b2,b3⟩:=e2
    rw[show H'=hpX [] H' from rfl]
    repeat'(first|refine And.intro ?_ ?_|exact True.intro|refine rq fun _=>?_|refine rf fun _=>?_|simp only[go_sem,h2,HHs,zab,zaa,Tryd.f56])
    refine⟨⟨j+1,g3,n',by omega,by omega,by omega,trivial⟩,by simp only;omega,?_⟩
    refine zaO ?_ ?_ (fun id o ho=>?_) ?_
    ·simp only[go_sem]
    ·simp only[go_sem,HHs,b1,b2,b3]
    ·exact e3 id o ho
    ·simp only[go_sem]
   ·obtain rfl:j=f.subs.length:=by omega
    repeat'(first|refine And.intro ?_ ?_|exact True.intro|refine rq fun _=>?_|refine rf fun _=>?_|simp only[go_sem,Nat.lt_irrefl,HHs,zab,zaa,Tryd.f56])
    all_goals
     rw[kQ.out]
     refine⟨rfl,by omega,⟨g2,by omega,?_⟩,fun id o ho=>kX.out id o ho fun h1=>?_⟩
     ·simp only[go_sem,HHs]
     ·((repeat'(first|exact trivial|apply And.intro))<;>(rintro rfl;simp only at h1;omega))
end
end Go.Proofs.YtkkffhphodngkaaDoor
namespace Go.Proofs.YtkkffhphodngkaaDoor
open Go Go.Abs Go.Proofs
section
variable {G:Nat→List FD}
structure zxw (n n0:Nat)(p:Nat→Prop) where
 i:Nat
 g:Nat
 h:Nat
 m:Nat
 hi:i≤n
 hg:g<m
 hh:h<m
 hm:n0≤m
 hp:p i
theorem zjC:∀{l:List (Abs.Id×Option O)} {id:Abs.Id} {o:O},hpL l id=some o→id∈l.map (·.1)
 |[],id,o,h=>by cases h
 |(a,b)::l,id,o,h=>by
  by_cases e:id=a
  ·rw[e];simp
  ·have h2:hpL l id=some o:=by
    rw[←h]
    show hpL l id=if id=a then b else hpL l id
    rw[if_neg e]
   rw[List.map_cons]
   exact List.mem_cons_of_mem _ (zjC h2)
theorem zpj (l:List Abs.zac):zbz l=zeV (zfC (l.flatMap zbv)):=by
 unfold zbz zeV zfC;rw[zjI]
mutual
theorem zmJ:∀f:Abs.zac,(pds f).length≤f.size
 | .mk k nm ws s=>by
  rw[pds,List.length_append,zac.size]
  have h:=zll s
  split<;>simp<;>omega
theorem zll:∀fs:List Abs.zac,(zdp fs).length≤zac.sizes fs
 |[]=>by simp[zdp]
 |f::fs=>by
  rw[zdp,List.length_append,zac.sizes]
  have h1:=zmJ f
  have h2:=zll fs
  omega
end
theorem zhL:∀{l:List Abs.zac},(∀f∈l,(zaz false f).code=0)→(zdp l).length≤200*l.length
 |[],_=>by simp[zdp]
 |f::l,h=>by
  rw[zdp,List.length_append,List.length_cons]
  have h1:=zmJ f
  have h2:=zaZ (h f (by simp))
  have h3:=zhL fun g hg=>h g (List.mem_cons_of_mem _ hg)
  omega
def sgP (l:List Abs.zac):Prop:=(∀f∈l,(zaz false f).code=0)∧l.length≤41
def c0 (w:Str):zaB:=⟨w,0⟩
def zpU (l:List Abs.zac):zal:=⟨0,(zbz l).map c0,(zgr l).map zik⟩
set_option maxHeartbeats 8000000 in
theorem zGH {l:List Abs.zac}(hw:(enc l).Wf)(hp:sgP l):zaw Tryd.prog G 33 [.fz (enc l)] (hpL []) 0 (fun d H n=>∃g gc,g<n∧gc<n∧d= .agg [.fz (.i .i64 0),.arr (33039,gc) 2 0 (zbz l).length,.arr (56025,g) 3 0 (zgr l).length]∧H (56025,g)=some ⟨zbu (zgr l),false,(zgr l).isEmpty⟩∧H (33039,gc)=some ⟨zad (((zbz l).map c0).map enc),false,(zbz l).isEmpty⟩):=by
 obtain⟨Q,hQ⟩:∃Q:D→zav→Nat→Prop,Q=(fun d H n=>∃g gc,g<n∧gc<n∧d= .agg [.fz (.i .i64 0),.arr (33039,gc) 2 0 (zbz l).length,.arr (56025,g) 3 0 (zgr l).length]∧H (56025,g)=some ⟨zbu (zgr l),false,(zgr l).isEmpty⟩∧H (33039,gc)=some ⟨zad (((zbz l).map c0).map enc),false,(zbz l).isEmpty⟩):=⟨_,rfl⟩
 rw[←hQ]
 obtain⟨hv,hl⟩:=hp
 have hsw:∀f∈l,(enc f).Wf:=fun f hf=>zd5 hw _ (List.mem_map_of_mem hf)
 obtain⟨A,hA⟩:∃A:Nat→List Str,A=fun i=>(l.take i).flatMap zbv:=⟨_,rfl⟩
 have hA0:A 0=[]:=by rw[hA];rfl
 have hAs:∀i (h:i<l.length),A (i+1)=A i++zbv l[i]:=fun i h=>by
  rw[hA];simp only
  rw[List.take_succ_eq_append_getElem h,List.flatMap_append,List.flatMap_cons,List.flatMap_nil,List.append_nil]
 have hAe:A l.length=l.flatMap zbv:=by rw[hA];simp only[List.take_length]
 obtain⟨B,hB⟩:∃B:Nat→List Pd,B=fun i=>zdf [] (zdp (l.take i)):=⟨_,rfl⟩
 have hB0:B 0=[]:=by rw[hB];rfl
 have hBs:∀i (h:i<l.length),B (i+1)=zdf (B i) (pds l[i]):=fun i h=>by rw[hB];simp only[zhM h,zh4]
 have hBl:∀i (h:i<l.length),(B i).length+(pds l[i]).length≤1000000:=fun i h=>by
  have h1:=zfI (zdp (l.take i)) []
  have h2:=zhL (l:=l.take i) fun f hf=>hv f (List.mem_of_mem_take hf)
  have h3:=zmJ l[i]
  have h4:=zaZ (hv _ (List.getElem_mem h))
  have h5:(l.take i).length≤41:=by rw[List.length_take];omega
  rw[hB];simp only[List.length_nil]at h1 ⊢;omega
 have hBe:∀S:List Pd,S.Perm (B l.length)→(S.Pairwise fun a b=>¬ltP b a)→S=zgr l:=fun S h1 h2=>by
  refine zpE (U:=B l.length) (fun x=>?_) ?_ h1 h2
  ·rw[hB];simp only[List.take_length]
   rw[zh5,zgN];simp
  ·rw[hB];exact zh6 _ _ List.Pairwise.nil
 have hBa:∀p∈B l.length,0≤p.arity∧p.arity≤1000000:=fun p hp=>by
  rw[hB]at hp;simp only[List.take_length]at hp
  rw[zh5,zgN]at hp
  rcases hp with hp|⟨f,hf,hp⟩
  ·simp at hp
  ·have:=znV f (zdz (hv f hf)) p hp
   omega
 rw[zpj,←hAe]at hQ
 have kb:=Kp.mk hv
 have kw:=Kp.mk hsw
 have kA:=Kp.mk hAs
 have kB:=Kp.mk hBs
 have kBl:=Kp.mk hBl
 have kBe:=Kp.mk hBe
 have kBa:=Kp.mk hBa
 have kq:=Kp.mk hQ
 clear hv hsw hA hAs hAe hB hBs hBl hBe hBa hQ hw
 refine zah (N:=46) hm hI3 33000 (lst [20,39]) zEz Tryd.func33 rfl rfl (by simp) (by kernel_rfl) ?_
 repeat'(first|refine And.intro ?_ ?_|exact True.intro|refine rq fun _=>?_|refine rf fun _=>?_|simp only[go_sem,HHs,zab,zag,zaa,Tryd.f33])
 refine zak hm hI3 33000 (lst [20,39]) (ι:=zxw l.length 3 fun i=>(A i).length≤i*1000000)
  ⟨fun q=>⟨frL [(2,.ptr (33002,0) 0),(3,.ptr (33003,1) 0),(4,.arr (33020,q.h) 1 0 (A q.i).length),(5,.ptr (33005,2) 0),(11,.fz (.sl (l.map enc))),(12,.fz (.i .i64 l.length)),(13,.fz (.i .i64 q.i))],
   hpL [((33003,1),some ⟨[.fz (.i .i64 0),.full [],.arr (56025,q.g) 3 0 (B q.i).length],true,false⟩),((33005,2),some ⟨[.fn 56 [.ptr (33003,1) 0,.ptr (33005,2) 0]],true,false⟩),((56025,q.g),some ⟨zbu (B q.i),false,((B q.i)).isEmpty⟩),((33020,q.h),some ⟨zad ((A q.i).map enc),false,(A q.i).isEmpty⟩),((33002,0),some ⟨[.fz (.i .i64 0),.fz (.sl []),.fz (.sl [])],true,false⟩)],q.m⟩,fun q=>l.length-q.i⟩
  ⟨0,4,3,5,by omega,by omega,by omega,by omega,by rw[hA0];simp⟩ (by kernel_rfl) ?_ ?_
 ·refine zcu [] [(33020,3),(56025,4)] [] ?_ ?_ ?_ ?_ ?_<;>simp only[go_sem,hA0,hB0]
  all_goals first|done|rfl|omega
 rintro⟨i,g,h,m,hi,hg,hh,hm2,hp⟩
 try simp only at hi hg hh hm2 hp
 rcases Nat.lt_or_ge i l.length with h1|h1
 ·obtain⟨x,hx⟩:∃x,l[i]=x:=⟨_,rfl⟩
  have hxm:x∈l:=by rw[←hx];exact List.getElem_mem h1
  have hcv:=kb.out x hxm
  have hcl:=zsN hcv
  have hcp:(cst x []).length≤1000000∧x.size≤1000000:=⟨hcl.2,by have:=zaZ hcv;omega⟩
  have hs:=kA.out i h1
  rw[hx]at hs
  have hul:=hcl.1
  obtain⟨U,hU⟩:∃U,zbv x=U:=⟨_,rfl⟩
  rw[hU]at hs hul
  obtain⟨C,hC⟩:∃C,A i=C:=⟨_,rfl⟩
  rw[hC]at hs hp
  have hft:fits (C.length+U.length) 16:=⟨by unfold za4;omega,by omega⟩
  repeat'(first|refine zaF.i hcp fun _=>?_|refine zaF.i hft fun _=>?_|refine zaF.i (by simp only[List.length_map];exact hft) fun _=>?_|refine And.intro ?_ ?_|exact True.intro|refine rq fun _=>?_|refine rf fun _=>?_|simp only[go_sem,h1,hx,hU,hC,HHs,zab,zag,zaa,Tryd.f33])
  have hB:=kB.out i h1
  rw[hx]at hB
  have hBl:=kBl.out i h1
  rw[hx]at hBl
  obtain⟨V,hV⟩:∃V:Bool,V=(C.isEmpty&&(zad (C.map enc++U.map enc)).isEmpty):=⟨_,rfl⟩
  rw[←hV]
  have hV2:V=(C++U).isEmpty:=by rw[hV,←List.map_append,zaQ];cases C<;>cases U<;>rfl
  have ih:=f56 (G:=G) x.size x (B i) g (m+2) (hpL [((33020,m+1),some ⟨zad (C.map enc++U.map enc),false,V⟩),((33002,0),some ⟨[.fz (.i .i64 0),.fz (.sl []),.fz (.sl [])],true,false⟩)]) (Nat.le_refl _) (kw.out x hxm) (by omega) (by omega) hBl (fun id o ho=>by
   have h2:=zjC ho
   simp only[List.map_cons,List.map_nil,List.mem_cons,List.not_mem_nil,or_false]at h2
   rcases h2 with rfl|rfl<;>(refine⟨?_,?_,?_,?_⟩<;>simp only<;>omega))
  rw[zaG]at ih
  refine zas.i (zb9 rfl (zdw (by simp only[go_sem,zg5]) (by simp only[go_sem,HHs]) (fun id o ho=>?_) (Nat.le_refl _) (zaD ih ?_)))
  ·have h2:=zjC ho
   simp only[List.map_cons,List.map_nil,List.mem_cons,List.not_mem_nil,or_false]at h2
   rcases h2 with rfl|rfl<;>(simp only[go_sem]at ho ⊢;exact ho)
  rintro d' H' n' ⟨rfl,e1,⟨g3,hg3,e2⟩,e3⟩
  rw[←hB]at e2
  simp only[go_sem,HHs]at e2
  obtain⟨b1,b2,b3⟩:=e2
  have b4:=e3 (33020,m+1) _ (by simp only[go_sem];rfl)
  have b5:=e3 (33002,0) _ (by simp only[go_sem];rfl)
  rw[show H'=hpX [] H' from rfl]
  repeat'(first|refine And.intro ?_ ?_|exact True.intro|refine rq fun _=>?_|refine rf fun _=>?_|simp only[go_sem,h1,HHs,zab,zag,zaa,Tryd.f33])
  refine⟨⟨i+1,g3,m+1,n',by omega,by omega,by omega,by omega,by rw[hs,List.length_append];omega⟩,by simp only;omega,?_⟩
  refine zew ?_ (fun id o ho=>?_) ?_
  ·simp only[go_sem,hs,List.length_append]
  ·have h2:=zjC ho
   simp only[List.map_cons,List.map_nil,List.mem_cons,List.not_mem_nil,or_false]at h2
   rcases h2 with rfl|rfl|rfl|rfl|rfl<;>(simp only[go_sem,hs,hV2,List.map_append,b1,b2,b3,b4,b5]at ho ⊢;first|exact ho)
  ·simp only[go_sem]
 ·obtain rfl:i=l.length:=by omega
  have hsg:=kBe.out
  have hba:=kBa.out
  obtain⟨N,hN⟩:∃N,A l.length=N:=⟨_,rfl⟩
  obtain⟨U,hU⟩:∃U,B l.length=U:=⟨_,rfl⟩
  rw[hU]at hsg hba
  repeat'(first|refine And.intro ?_ ?_|exact True.intro|refine rq fun _=>?_|refine rf fun _=>?_|simp only[go_sem,Nat.lt_irrefl,hN,hU,HHs,zab,zag,zaa,Tryd.f33])
  refine zas.i (zlC (l:=N) (bx:=false) (vt:=N.isEmpty) (by simp only[go_sem,hN]) ?_)
  repeat'(first|refine And.intro ?_ ?_|exact True.intro|refine rq fun _=>?_|refine rf fun _=>?_|simp only[go_sem,hN,hU,HHs,zab,zag,zaa,Tryd.f33])
  rw[←zfD N]
  refine zas.i (zkn (l:=zfC N) (bx:=false) (vt:=N.isEmpty) (by simp only[go_sem]) ?_)
  repeat'(first|refine And.intro ?_ ?_|exact True.intro|refine rq fun _=>?_|refine rf fun _=>?_|simp only[go_sem,hN,hU,HHs,zab,zag,zaa,Tryd.f33])
  obtain⟨K,hK⟩:∃K,zeV (zfC N)=K:=⟨_,rfl⟩
  rw[hK]
  have hKN:K.length≤N.length:=by
   rw[←hK]
   have h2:(zeV (zfC N)).length≤(zfC N).length:=by
    unfold zeV
    rw[List.length_map]
    exact Nat.le_trans (zfh _) (by rw[List.length_map];exact Nat.le_refl _)
   rw[zfD]at h2
   exact h2
  have hKl:K.length≤41000000:=by rw[hN]at hp;omega
  refine zak hm hI3 33000 (lst [20,39]) (ι:=zgX K.length (m+1) fun _=>True)
   ⟨fun q=>⟨frL [(2,.ptr (33002,0) 0),(3,.ptr (33003,1) 0),(28,.arr (33020,h) 1 0 K.length),(29,.fz (.i .i64 K.length)),(30,.fz (.i .i64 q.i))],
    hpL [((33003,1),some ⟨[.fz (.i .i64 0),.arr (33039,q.g) 2 0 (K.take q.i).length,.arr (56025,g) 3 0 U.length],true,false⟩),((56025,g),some ⟨zbu U,false,U.isEmpty⟩),((33020,h),some ⟨zad ((K).map enc),false,N.isEmpty⟩),((33002,0),some ⟨[.fz (.i .i64 0),.fz (.sl []),.fz (.sl [])],true,false⟩),((33039,q.g),some ⟨zad (((K.take q.i).map c0).map enc),false,(K.take q.i).isEmpty⟩)],q.m⟩,fun q=>K.length-q.i⟩
   ⟨0,m,m+1,by omega,by omega,by omega,trivial⟩ (by kernel_rfl) ?_ ?_
  ·refine zcu [] [(33039,m)] [] ?_ ?_ ?_ ?_ ?_<;>simp only[go_sem,hK,zbu,List.take_zero,List.map_nil]
   all_goals first|done|rfl|omega
  rintro⟨j,gc,m2,hj,hgc,hm3,_⟩
  try simp only at hj hgc hm3
  rcases Nat.lt_or_ge j K.length with h2|h2
  ·obtain⟨w,hw⟩:∃w,K[j]=w:=⟨_,rfl⟩
   have ht:K.take (j+1)=K.take j++[w]:=by rw[List.take_succ_eq_append_getElem h2,hw]
   have htl:(K.take j).length=j:=by rw[List.length_take];omega
   have hNe:N.isEmpty=false:=by
    cases N with
    |nil=>rw[List.length_nil]at hKN;omega
    |cons=>rfl
   have hrq:j+1≤K.length∧N.isEmpty=false:=⟨h2,hNe⟩
   have hgd:(zad (K.map enc)).getD j .junk= .fz (.s w.l):=by rw[zqV h2,hw];rfl
   obtain⟨T,hT⟩:∃T,K.take j=T:=⟨_,rfl⟩
   rw[hT]at ht htl
   have hfc:(zad (T.map (enc∘c0))).length=j*2:=by rw[←List.map_map,zms,List.length_map,htl]
   have hap:j*2≤(zad (T.map (enc∘c0))).length∧fits (j+1) 24:=⟨by omega,by unfold za4;omega,by omega⟩
   have htk:(zad (T.map (enc∘c0))).take (j*2)=zad (T.map (enc∘c0)):=by rw[←hfc];exact List.take_length
   have hc1:(c0 w).name.l=w.l:=rfl
   have hc2:(c0 w).value=0:=rfl
   have hfe:(zad [FD.agg [FD.s w.l,FD.i .i64 0]]).isEmpty=false:=rfl
   repeat'(first|refine zaF.i hap fun _=>?_|refine zaF.i hrq fun _=>?_|refine And.intro ?_ ?_|exact True.intro|refine rq fun _=>?_|refine rf fun _=>?_|simp only[go_sem,h2,hw,hgd,hT,htl,HHs,zab,zag,zaa,Tryd.f33])
   refine⟨⟨j+1,m2,m2+1,by omega,by omega,by omega,trivial⟩,by simp only;omega,?_⟩
   refine zaf ?_ ?_ ?_<;>simp only[go_sem,ht,htl,htk,List.map_append,hc1,hc2,hfe,Bool.and_false]
   all_goals first|done|rfl|omega
  ·obtain rfl:j=K.length:=by omega
   repeat'(first|refine And.intro ?_ ?_|exact True.intro|refine rq fun _=>?_|refine rf fun _=>?_|simp only[go_sem,Nat.lt_irrefl,List.take_length,HHs,zab,zag,zaa,Tryd.f33])
   refine zas.i (zaD (zCZ (l:=U) (bx:=false) (vt:=U.isEmpty) hba (by simp only[go_sem])) ?_)
   rintro d' H' n' ⟨rfl,S,hS1,hS2,rfl,rfl⟩
   have eS:=hsg S hS1 hS2
   have eL:=hS1.length_eq
   have eE:U.isEmpty=S.isEmpty:=by cases U<;>cases S<;>first|rfl|simp at eL
   rw[←eL,eE]
   repeat'(first|refine And.intro ?_ ?_|exact True.intro|refine rq fun _=>?_|refine rf fun _=>?_|simp only[go_sem,zaC,HHs,zab,zag,zaa,Tryd.f33])
   subst eS
   rw[kq.out,hN,hK]
   exact⟨g,gc,by omega,by omega,rfl,by simp only[go_sem],by simp only[go_sem]⟩
def I6:Tbl:=I5.add 33 (sp1 zpU sgP)
attribute [go_sem] I6
theorem hI6:zap Tryd.prog G I6:=by
 refine zb6 zEz hI5 fun l hp hw=>?_
 refine zck (zGH (G:=G) hw hp) ?_
 rintro d H n ⟨g,gc,hg,hgc,rfl,ho,hoc⟩
 unfold zpU
 obtain⟨K,hK⟩:∃K,zbz l=K:=⟨_,rfl⟩
 obtain⟨S,hS⟩:∃S,zgr l=S:=⟨_,rfl⟩
 rw[hK]at hoc ⊢
 rw[hS]at ho ⊢
 refine⟨.agg [.fz (.i .i64 0),.fz (.sl ((K.map c0).map enc)),.fz (.sl ((S.map zik).map enc))],H0,n,?_,rfl⟩
 have e:H0=hpL []:=rfl
 rw[e]
 refine zcu [] [] [((56025,g),(S.map zik).map enc),((33039,gc),(K.map c0).map enc)] ?_ ?_ ?_ ?_ ?_<;>simp only[go_sem,ho,hoc]
 case refine_5=>exact⟨by rw[←List.map_map];exact zdo _,by rw[←List.map_map];exact zdo _⟩
 refine⟨⟨by rw[←List.map_map];unfold zbu;rw[List.map_map];rfl,fun h=>by rw[List.isEmpty_iff.1 h];rfl⟩,fun h=>by rw[List.isEmpty_iff.1 h];rfl⟩
end
end Go.Proofs.YtkkffhphodngkaaDoor
namespace Go.Proofs.YtkkffhphodngkaaDoor
open Go Go.Abs Go.Proofs
section
variable {G:Nat→List FD}
structure zuN (n n0:Nat)(p:Nat→Nat→Prop) where
 i:Nat
 v:Nat
 m:Nat
 hi:i≤n
 hm:n0≤m
 hp:p i v
def zjN (r:zdc):Pd:=⟨r.name,r.arity⟩
def zpP:Option Nat→Int×Bool
 |some n=>((n:Int),true)
 |none=>(0,false)
def zxO (m:zal)(size:Int):Int×Bool:=zpP (zg9 size.toNat m.consts.length (m.rels.map zjN))
structure zDn (m:zal)(size:Int):Prop where
 s:1≤size∧size≤4
 a:∀r∈m.rels,0≤r.arity∧r.arity≤3
 c:m.consts.length≤100000000
 r:m.rels.length≤100000000
def I7:Tbl:=I6.add 34 (zwf zxO zDn)
attribute [go_sem] I7
set_option maxHeartbeats 8000000 in
theorem hI7:zap Tryd.prog G I7:=by
 refine zjZ zEA hI6 fun m size hp _ _=>?_
 obtain⟨⟨hs1,hs4⟩,har,hcl,hrl⟩:=hp
 obtain⟨S,hS⟩:∃S:Nat,size=(S:Int):=⟨size.toNat,by omega⟩
 subst hS
 obtain⟨r,hr⟩:∃r,zg9 S m.consts.length (m.rels.map zjN)=r:=⟨_,rfl⟩
 have hV:zxO m S=zpP r:=by unfold zxO;rw[Int.toNat_natCast,hr]
 rw[hV]
 obtain⟨Q,hQ⟩:∃Q:D→zav→Nat→Prop,Q=(fun d _ _=>D.val d=some (.tup [.fz (enc (zpP r).1),.fz (enc (zpP r).2)])):=⟨_,rfl⟩
 rw[←hQ]
 have kq:=Kp.mk hQ
 clear hQ hV
 unfold zg9 zrX at hr
 obtain⟨c,hc⟩:∃c,m.consts.length=c:=⟨_,rfl⟩
 rw[hc]at hr hcl
 have kr:=Kp.mk har
 clear har
 refine zah (N:=40) hm hI6 34000 (lst []) zEA Tryd.func34 rfl rfl (by simp) (by kernel_rfl) ?_
 repeat'(first|refine And.intro ?_ ?_|exact True.intro|refine rq fun _=>?_|refine rf fun _=>?_|simp only[go_sem,hc,zag,zab,zae,zaa,Tryd.f34])
 refine zak hm hI6 34000 (lst []) (ι:=zuN c 1 fun i v=>v≤8192∧zqo v (List.replicate (c-i) S++zj3 S (m.rels.map zjN))=r)
  ⟨fun q=>⟨frL [(1,.fz (.i .i64 S)),(2,.ptr (34002,0) 0),(6,.fz (.i .i64 q.v)),(11,.fz (.i .i64 c)),(12,.fz (.i .i64 q.i))],hpL [((34002,0),some ⟨[.fz (.i .i64 m.size),.fz (.sl (m.consts.map enc)),.fz (.sl (m.rels.map enc))],true,false⟩)],q.m⟩,fun q=>c-q.i⟩
  ⟨0,1,1,by omega,by omega,by omega,hr⟩ (by kernel_rfl) ?_ ?_
 ·refine zaf ?_ ?_ ?_<;>simp only[go_sem]
  all_goals first|done|rfl|omega
 rintro⟨i,v,q,hi,hq,hv,hp⟩
 try simp only at hi hq hv hp
 have hm8:∀a b:Nat,a≤8192→b≤64→a*b≤524288:=fun a b h1 h2=>Nat.le_trans (Nat.mul_le_mul h1 h2) (by decide)
 rcases Nat.lt_or_ge i c with h1|h1
 ·have h2:c-i=(c-(i+1))+1:=by omega
  rw[h2,List.replicate_succ,List.cons_append,zqo]at hp
  have h3:=hm8 v S hv (by omega)
  have h4:(v:Int)*(S:Int)=((v*S:Nat):Int):=by simp
  have h5:((i:Int)<(c:Int))=True:=eq_true (by omega)
  by_cases h6:8192<v*S
  ·rw[if_pos h6]at hp
   have h6':((8192:Int)<((v*S:Nat):Int))=True:=eq_true (by omega)
   repeat'(first|refine And.intro ?_ ?_|exact True.intro|refine rq fun _=>?_|refine rf fun _=>?_|simp only[go_sem,h4,h5,h6',zag,zab,zae,zaa,Tryd.f34])
   all_goals
    rw[kq.out,←hp]
    simp only[go_sem,zpP]
  ·rw[if_neg h6]at hp
   have h6':((8192:Int)<((v*S:Nat):Int))=False:=eq_false (by omega)
   repeat'(first|refine And.intro ?_ ?_|exact True.intro|refine rq fun _=>?_|refine rf fun _=>?_|simp only[go_sem,h4,h5,h6',zag,zab,zae,zaa,Tryd.f34])
   refine⟨⟨i+1,v*S,q,by omega,by omega,by omega,hp⟩,by simp only;omega,?_⟩
   refine zaf ?_ ?_ ?_<;>simp only[go_sem]
   all_goals first|done|rfl|omega
 obtain rfl:i=c:=by omega
 rw[Nat.sub_self,List.replicate_zero,List.nil_append]at hp
 repeat'(first|refine And.intro ?_ ?_|exact True.intro|refine rq fun _=>?_|refine rf fun _=>?_|simp only[go_sem,Int.lt_irrefl,zag,zab,zae,zaa,Tryd.f34])
 refine zak hm hI6 34000 (lst []) (ι:=zuN m.rels.length 1 fun i v=>v≤8192∧zqo v (zj3 S ((m.rels.map zjN).drop i))=r)
  ⟨fun q=>⟨frL [(1,.fz (.i .i64 S)),(2,.ptr (34002,0) 0),(6,.fz (.i .i64 q.v)),(21,.fz (.sl (m.rels.map enc))),(22,.fz (.i .i64 m.rels.length)),(23,.fz (.i .i64 q.i))],hpL [((34002,0),some ⟨[.fz (.i .i64 m.size),.fz (.sl (m.consts.map enc)),.fz (.sl (m.rels.map enc))],true,false⟩)],q.m⟩,fun q=>m.rels.length-q.i⟩
  ⟨0,v,q,by omega,by omega,hv,hp⟩ (by kernel_rfl) ?_ ?_
 ·refine zaf ?_ ?_ ?_<;>simp only[go_sem]
  all_goals first|done|rfl|omega
 try clear hp hv
 rintro⟨j,v,q2,hj,hq2,hv,hp⟩
 try simp only at hj hq2 hv hp
 rcases Nat.lt_or_ge j m.rels.length with h1|h1
 rotate_left
 ·obtain rfl:j=m.rels.length:=by omega
  rw[List.drop_of_length_le (by simp),zj3,zqo]at hp
  repeat'(first|refine And.intro ?_ ?_|exact True.intro|refine rq fun _=>?_|refine rf fun _=>?_|simp only[go_sem,Nat.lt_irrefl,zag,zab,zae,zaa,Tryd.f34])
  all_goals
   rw[kq.out,←hp]
   simp only[go_sem,zpP]
 obtain⟨x,hx⟩:∃x,m.rels[j]=x:=⟨_,rfl⟩
 have hxa:=kr.out x (by rw[←hx];exact List.getElem_mem h1)
 have hd:(m.rels.map zjN).drop j=zjN x::(m.rels.map zjN).drop (j+1):=by
  rw[List.drop_eq_getElem_cons (by simpa using h1),List.getElem_map,hx]
 rw[hd,zj3]at hp
 obtain⟨P,hP⟩:∃P,zsn S (zjN x)=P:=⟨_,rfl⟩
 have hpw:zxn S x.arity=(P:Int):=by rw[←hP];rfl
 have hP64:=(zmK (a:=(S:Int)) (n:=x.arity) hs1 hs4 hxa.1 hxa.2 x.arity.toNat (by omega)).2
 rw[show((S:Int).toNat^x.arity.toNat)=P by rw[←hP];rfl]at hP64
 rw[hP]at hp
 have hpp:(1≤(S:Int)∧(S:Int)≤4)∧0≤x.arity∧x.arity≤3:=⟨⟨hs1,hs4⟩,hxa⟩
 repeat'(first|refine zaF.i hpp fun _=>?_|refine And.intro ?_ ?_|exact True.intro|refine rq fun _=>?_|refine rf fun _=>?_|simp only[go_sem,h1,hx,hpw,zag,zab,zae,zaa,Tryd.f34])
 refine zak hm hI6 34000 (lst []) (ι:=zuN P 1 fun k w=>w≤8192∧zqo w (List.replicate (P-k) 2++zj3 S ((m.rels.map zjN).drop (j+1)))=r)
  ⟨fun q=>⟨frL [(1,.fz (.i .i64 S)),(2,.ptr (34002,0) 0),(6,.fz (.i .i64 q.v)),(21,.fz (.sl (m.rels.map enc))),(22,.fz (.i .i64 m.rels.length)),(23,.fz (.i .i64 j)),(30,.fz (.i .i64 P)),(31,.fz (.i .i64 q.i))],hpL [((34002,0),some ⟨[.fz (.i .i64 m.size),.fz (.sl (m.consts.map enc)),.fz (.sl (m.rels.map enc))],true,false⟩)],q2+1⟩,fun q=>P-q.i⟩
  ⟨0,v,1,by omega,by omega,hv,hp⟩ (by kernel_rfl) ?_ ?_
 ·refine zaf ?_ ?_ ?_<;>simp only[go_sem]
  all_goals first|done|rfl|omega
 try clear hp hv
 rintro⟨k,w,q3,hk,hq3,hv,hp⟩
 try simp only at hk hq3 hv hp
 rcases Nat.lt_or_ge k P with h2|h2
 ·have h3:P-k=(P-(k+1))+1:=by omega
  rw[h3,List.replicate_succ,List.cons_append,zqo]at hp
  have h4:(w:Int)*(2:Int)=((w*2:Nat):Int):=by simp
  have h5:((k:Int)<(P:Int))=True:=eq_true (by omega)
  by_cases h6:8192<w*2
  ·rw[if_pos h6]at hp
   have h6':((8192:Int)<((w*2:Nat):Int))=True:=eq_true (by omega)
   repeat'(first|refine And.intro ?_ ?_|exact True.intro|refine rq fun _=>?_|refine rf fun _=>?_|simp only[go_sem,h4,h5,h6',zag,zab,zae,zaa,Tryd.f34])
   all_goals
    rw[kq.out,←hp]
    simp only[go_sem,zpP]
  ·rw[if_neg h6]at hp
   have h6':((8192:Int)<((w*2:Nat):Int))=False:=eq_false (by omega)
   repeat'(first|refine And.intro ?_ ?_|exact True.intro|refine rq fun _=>?_|refine rf fun _=>?_|simp only[go_sem,h4,h5,h6',zag,zab,zae,zaa,Tryd.f34])
   refine⟨⟨k+1,w*2,q3,by omega,by omega,by omega,hp⟩,by simp only;omega,?_⟩
   refine zaf ?_ ?_ ?_<;>simp only[go_sem]
   all_goals first|done|rfl|omega
 obtain rfl:k=P:=by omega
 rw[Nat.sub_self,List.replicate_zero,List.nil_append]at hp
 repeat'(first|refine And.intro ?_ ?_|exact True.intro|refine rq fun _=>?_|refine rf fun _=>?_|simp only[go_sem,Int.lt_irrefl,zag,zab,zae,zaa,Tryd.f34])
 refine⟨⟨j+1,w,q2+1,by omega,by omega,by omega,hp⟩,by simp only;omega,?_⟩
 refine zaf ?_ ?_ ?_<;>simp only[go_sem]
 all_goals first|done|rfl|omega
end
end Go.Proofs.YtkkffhphodngkaaDoor
namespace Go.Proofs.YtkkffhphodngkaaDoor
open Go Go.Abs Go.Proofs
section
variable {G:Nat→List FD}
theorem zor {P:Program}{f:FuncId}{args:List D}{xs ys:List FD}{b v:Bool}{hl:List (Abs.Id×Option O)}{n t es len:Nat}{R:D→zav→Nat→Prop}(ha:D.toFDs args=some xs)
  (h:zaw P G f (xs.map .fz) H0 0 (fun d H1 n1=>∃g,g<n1∧d= .arr (t,g) es 0 len∧H1 (t,g)=some ⟨zad ys,b,v⟩))(hR:∀g n',n≤g→g<n'→R (.arr (t,g) es 0 len) (hpL (((t,g),some ⟨zad ys,b,v⟩)::hl)) n'):zaw P G f args (hpL hl) n R:=by
 refine zgZ h.1 fun hfr=>zck (zp5 ha h) ?_
 rintro d H' n' ⟨d1,H1,n1,⟨g,hg,rfl,ho⟩,rfl,rfl,rfl⟩
 have hsh:shH n (hpL hl) H1 (t,g+n)=some ⟨zad ys,b,v⟩:=by
  unfold shH
  rw[if_pos (by simp),show(t,g+n-n)=(t,g) by rw[Nat.add_sub_cancel],ho]
  simp only[Option.map_some,shO,zrL]
 refine⟨.arr (t,g+n) es 0 len,hpL (((t,g+n),some ⟨zad ys,b,v⟩)::hl),n+n1,zew ?_ (fun id o hid=>?_) (Nat.le_refl _),hR (g+n) (n+n1) (by omega) (by omega)⟩
 ·exact⟨rfl,trivial⟩
 ·simp only[hpL]at hid
  split at hid
  ·rename_i e;subst e;rw[←hid];exact hsh
  ·have hlt:id.2<n:=by
    rcases Nat.lt_or_ge id.2 n with h3|h3
    ·exact h3
    ·rw[hfr id h3]at hid;cases hid
   show shH n (hpL hl) H1 id=some o
   unfold shH
   rw[if_neg (by omega)]
   exact hid
theorem zxQ {l:List zaB}(hl:l.length≤100000000):zaw Tryd.prog G 64 [.fz (.sl (l.map enc))] H0 0 (fun d H n=>∃g,g<n∧d= .arr (64007,g) 2 0 l.length∧H (64007,g)=some ⟨zad (l.map enc),false,l.isEmpty⟩):=by
 rw[zgW]
 obtain⟨Q,hQ⟩:∃Q:D→zav→Nat→Prop,Q=(fun d H n=>(d= .full []∧l=[]∧n=0∧H=hpL [])∨∃g,g<n∧d= .arr (64007,g) 2 0 l.length∧H (64007,g)=some ⟨zad (l.map enc),false,l.isEmpty⟩):=⟨_,rfl⟩
 have key:zaw Tryd.prog G 64 [.fz (.sl (l.map enc))] (hpL []) 0 Q:=by
  refine zah (N:=8) hm hI7 64000 (lst [7]) zGm Tryd.func64 rfl rfl (by simp) (by kernel_rfl) ?_
  simp only[go_sem]
  refine zub.i fun b hb=>?_
  cases b
  ·repeat'(first|refine And.intro ?_ ?_|exact True.intro|refine rq fun _=>?_|refine rf fun _=>?_|simp only[go_sem,Tryd.f64])
   rw[hQ]
   have hv:(zad (l.map enc)).isEmpty=l.isEmpty:=by cases l<;>rfl
   exact .inr ⟨0,by omega,rfl,by simp only[go_sem,hv]⟩
  ·have:l=[]:=List.eq_nil_of_length_eq_zero (hb rfl)
   subst this
   repeat'(first|refine And.intro ?_ ?_|exact True.intro|refine rq fun _=>?_|refine rf fun _=>?_|simp only[go_sem,Tryd.f64])
   rw[hQ]
   exact .inl ⟨rfl,rfl,rfl,rfl⟩
 refine zck key ?_
 rw[hQ]
 rintro d H n (⟨rfl,rfl,rfl,rfl⟩|⟨g,hg,rfl,ho⟩)
 ·refine⟨.arr (64007,0) 2 0 0,hpL [((64007,0),some ⟨[],false,true⟩)],1,?_,0,by omega,rfl,by simp only[go_sem]⟩
  refine zcu [] [(64007,0)] [] ?_ ?_ ?_ ?_ ?_<;>simp only[go_sem]
  all_goals first|done|rfl
 ·exact⟨_,H,n,zew ⟨rfl,trivial⟩ (fun _ _ h=>h) (Nat.le_refl _),g,hg,rfl,ho⟩
theorem znX (s i:Nat):∀j,zeq s i j=i / s^j
 |0=>by rw[zeq,Nat.pow_zero,Nat.div_one]
 |j+1=>by rw[zeq,znX s i j,Nat.div_div_eq_div_mul,Nat.pow_succ]
theorem zoA {S:Nat}{ps:List Pd}{i:Nat}(h:i<ps.length):zaV S (ps.take (i+1))=zaV S (ps.take i)+zsn S ps[i]:=by
 have hap:∀a b:List Pd,zaV S (a++b)=zaV S a+zaV S b:=by
  intro a b
  induction a with
  |nil=>simp[zaV]
  |cons x a ih=>rw[List.cons_append,zaV,zaV,ih,Nat.add_assoc]
 rw[List.take_succ_eq_append_getElem h,hap,zaV,zaV,Nat.add_zero]
theorem zls {S:Nat}:∀{ps:List Pd} {i:Nat} (bits:List Bool) (h:i<ps.length),zfz S (ps.take (i+1)) bits=zfz S (ps.take i) bits++[⟨ps[i].name,ps[i].arity,zmU S ps[i].arity.toNat (bits.drop (zaV S (ps.take i)))⟩]
 |[],_,_,h=>by simp at h
 |p::ps,0,bits,_=>by rw[List.take_succ_cons,List.take_zero,zfz];rfl
 |p::ps,i+1,bits,h=>by
  rw[List.take_succ_cons,List.take_succ_cons,zfz,zfz,zls (ps:=ps) (i:=i) (bits.drop (zsn S p)) (by simpa using h),zaV,List.drop_drop]
  rfl
def zxt (S ar:Nat)(bits:List Bool)(k:Nat):List (List Int):=((List.range k).filter fun k=>bits.getD k false).map (zbq S ar)
theorem zr4 (S ar:Nat)(bits:List Bool)(k:Nat):zxt S ar bits (k+1)=zxt S ar bits k++(if bits.getD k false=true then[zbq S ar k]else[]):=by
 unfold zxt
 rw[List.range_succ,List.filter_append,List.map_append]
 congr 1
 simp only[List.filter_cons,List.filter_nil]
 cases bits.getD k false<;>rfl
theorem zl7 (cells N:Nat):zsE cells N=(ze6 2 N cells cells).map fun d=>decide (d=1):=by rw[zeH];rfl
end
end Go.Proofs.YtkkffhphodngkaaDoor
namespace Go.Proofs.YtkkffhphodngkaaDoor
open Go Go.Abs Go.Proofs
section
variable {G:Nat→List FD}
def zpQ (m:zal)(size n:Int):zal:=zcC (m.consts.map (·.name)) (m.rels.map zjN) size.toNat n.toNat
structure zBs (m:zal)(size n:Int):Prop where
 s:1≤size∧size≤4
 n:0≤n
 a:∀r∈m.rels,0≤r.arity∧r.arity≤3
 c:m.consts.length≤100000000
 r:m.rels.length≤100000000
 z:∀k∈m.consts,k.value=0
 k:zaV size.toNat (m.rels.map zjN)≤1000
theorem zux:∀{ns:List Str} {vs:List Int} {p:Nat} {v:Int},p<ns.length→vs.length=ns.length→(zad ((List.zipWith zaB.mk ns vs).map enc)).set (p*2+1) (.fz (.i .i64 v))=zad ((List.zipWith zaB.mk ns (vs.set p v)).map enc)
 |[],_,_,_,h,_=>by simp at h
 |_::_,[],_,_,_,h=>by simp at h
 |_::ns,_::vs,0,v,_,_=>rfl
 |x::ns,y::vs,p+1,v,h,h2=>by
  have ih:=zux (ns:=ns) (vs:=vs) (p:=p) (v:=v) (by simpa using h) (by simpa using h2)
  rw[List.set_cons_succ,List.zipWith_cons_cons,List.zipWith_cons_cons,List.map_cons,List.map_cons]
  show(.fz (.s x.l):: .fz (.i .i64 y)::zad ((List.zipWith zaB.mk ns vs).map enc)).set _ _= .fz (.s x.l):: .fz (.i .i64 y)::zad ((List.zipWith zaB.mk ns (vs.set p v)).map enc)
  rw[←ih,show(p+1)*2+1=(p*2+1)+1+1 by omega,List.set_cons_succ,List.set_cons_succ]
theorem zyU {ns:List Str}{vs:List Int}(h:vs.length=ns.length):(List.zipWith zaB.mk ns vs).length=ns.length:=by rw[List.length_zipWith,h,Nat.min_self]
theorem zq9:∀{l:List zaB},(∀k∈l,k.value=0)→List.zipWith zaB.mk (l.map (·.name)) (List.replicate l.length 0)=l
 |[],_=>rfl
 |k::l,h=>by
  rw[List.map_cons,List.length_cons,List.replicate_succ,List.zipWith_cons_cons,zq9 fun q hq=>h q (List.mem_cons_of_mem _ hq)]
  have:=h k (by simp)
  cases k;simp only at this;subst this;rfl
theorem zsC (x:Nat):zzF (x:Int) 1=((x % 2:Nat):Int):=by
 unfold zzF
 have h:(BitVec.ofInt 64 (x:Int)&&& BitVec.ofInt 64 1).toNat=x % 2:=by
  rw[BitVec.toNat_and,BitVec.ofInt_natCast,BitVec.toNat_ofNat,show(BitVec.ofInt 64 1).toNat=1 from rfl,Nat.and_one_is_mod,Nat.mod_mod_of_dvd _ (by decide)]
 rw[h]
 rcases Nat.mod_two_eq_zero_or_one x with e|e<;>rw[e]<;>rfl
theorem zxx {P:Program}{G:Nat→List FD}{N:Nat}{c:Code}{st:St}{q:Exit→St→Prop}{ι:Type}(e0:Exit)(I:ι→St)(h:∀i,q e0 (I i))(h2:@WK P G N c st ⟨fun e s=>e=e0∧∃i,ze9 G N s (I i)⟩):@WK P G N c st ⟨q⟩:=by
 unfold WK at h2 ⊢
 intro a w L F hr
 refine wp_mono (h2 a w L F hr) fun e a' w' hs=>?_
 obtain⟨s,L1,F1,⟨rfl,i,hw⟩,g2,g3⟩:=hs
 obtain⟨L2,F2,g4,g5⟩:=hw a' w' L1 F1 g2
 exact⟨I i,L2,F2,h i,g4,zbn.trans g3 g5⟩
theorem zuh:∀l:List zaB,(zad (l.map enc)).length=l.length*2
 |[]=>rfl
 |x::l=>by
  rw[List.map_cons,List.length_cons]
  show(D.fz (.s x.name.l)::D.fz (.i .i64 x.value)::zad (l.map enc)).length=_
  rw[List.length_cons,List.length_cons,zuh l];omega
def zof:Tv:=(.q 0 (.q 1 (.q 2 (.q 3 (.q 4 (.q 5 (.q 6 (.q 7 (.br [(8,.leaf)])))))))))
def zpO (K N j:Nat):List Bool:=(ze6 2 N K j).map fun d=>decide (d=1)
theorem zm3 {K N j:Nat}(h:j≤K):(zpO K N j).length=K:=by unfold zpO;rw[List.length_map,zfK h]
theorem zql (K N:Nat):zpO K N 0=List.replicate K false:=by unfold zpO;rw[zeu,List.map_replicate];rfl
theorem zsD {K N j:Nat}(h:j<K):(zpO K N j).set (K-1-j) (decide ((zeq 2 N j % 2:Nat)=(1:Int)))=zpO K N (j+1):=by
 unfold zpO
 rw[←zfL h,List.map_set]
def I8:Tbl:=I7.add 35 (sp3 zpQ zBs)
attribute [go_sem] I8
def zDr (m:zal)(S N:Nat)(d:D)(H:zav)(n:Nat):Prop:=∃g h,g<n∧h<n∧d= .agg [.fz (.i .i64 S),.arr (64007,g) 2 0 m.consts.length,.ow (35132,h) 3 ((zpQ m S N).rels.map enc)]∧H (64007,g)=some ⟨zad ((zpQ m S N).consts.map enc),false,m.consts.isEmpty⟩
set_option maxHeartbeats 8000000 in
theorem zFB {m:zal}{size n:Int}(hp:zBs m size n)(S N:Nat)(hS:size=S)(hN:n=N):zaw Tryd.prog G 35 [.fz (enc m),.fz (enc size),.fz (enc n)] (hpL []) 0 (zDr m S N):=by
 obtain⟨⟨hs1,hs4⟩,hn,har,hcl,hrl,hcz,hk⟩:=hp
 subst hS
 subst hN
 obtain⟨Q,hQ⟩:∃Q:D→zav→Nat→Prop,Q=zDr m S N:=⟨_,rfl⟩
 rw[←hQ]
 have kq:=Kp.mk hQ
 clear hQ
 have kr:=Kp.mk har
 clear har
 rw[Int.toNat_natCast]at hk
 obtain⟨c,hc⟩:∃c,m.consts.length=c:=⟨_,rfl⟩
 have hcl2:=hcl
 rw[hc]at hcl2
 obtain⟨ps,hps⟩:∃ps,m.rels.map zjN=ps:=⟨_,rfl⟩
 have hpl:ps.length=m.rels.length:=by rw[←hps,List.length_map]
 have hpi:∀i (h:i<m.rels.length) (h2:i<ps.length),ps[i]=zjN m.rels[i]:=fun i h h2=>by subst hps;rw[List.getElem_map]
 rw[hps]at hk
 obtain⟨C,hC⟩:∃C:Nat→Nat,C=fun i=>zaV S (ps.take i):=⟨_,rfl⟩
 have hC0:C 0=0:=by rw[hC];rfl
 have hCs:∀i (h:i<m.rels.length),C (i+1)=C i+zsn S (zjN m.rels[i]):=fun i h=>by rw[hC];simp only;rw[zoA (by omega),hpi i h (by omega)]
 have hCe:C m.rels.length=zaV S ps:=by rw[hC,←hpl];simp only[List.take_length]
 have hCm:∀i,i≤m.rels.length→C i≤zaV S ps:=fun i h=>by
  have key:∀k,C i≤C (i+k)∨m.rels.length<i+k:=by
   intro k
   induction k with
   |zero=>exact .inl (Nat.le_refl _)
   |succ k ih=>
    rcases ih with ih|ih
    ·rcases Nat.lt_or_ge (i+k) m.rels.length with h2|h2
     ·have:=hCs (i+k) h2;rw[←Nat.add_assoc];exact .inl (by omega)
     ·exact .inr (by omega)
    ·exact .inr (by omega)
  rcases key (m.rels.length-i)with h2|h2
  ·rw[show i+(m.rels.length-i)=m.rels.length by omega,hCe]at h2;exact h2
  ·omega
 obtain⟨K,hK⟩:∃K,zaV S ps=K:=⟨_,rfl⟩
 rw[hK]at hk hCe hCm
 have kC:=Kp.mk hCs
 have kM:=Kp.mk hCm
 have kp:=Kp.mk hpi
 clear hCs hCm
 refine zah (N:=136) hm hI7 35000 (lsw [123,132] [101,1000005,1000018]) zEB Tryd.func35 rfl rfl (by simp) (by kernel_rfl) ?_
 repeat'(first|refine zas.i (zor rfl (zxQ hcl) fun g b hg hg2=>?_)|refine And.intro ?_ ?_|exact True.intro|refine rq fun _=>?_|refine rf fun _=>?_|simp only[go_sem,hc,zag,zab,zae,zaa,Tryd.f35])
 refine zak hm hI7 35000 (lsw [123,132] [101,1000005,1000018]) (ι:=zbw m.rels.length (b+1) fun _=>True)
  ⟨fun q=>⟨frL [(1,.fz (.i .i64 S)),(2,.fz (.i .i64 N)),(3,.ptr (35003,0) 0),(6,.ptr (35006,1) 0),(7,.ptr (35007,b) 0),(9,.fz (.i .i64 (C q.i:Nat))),(28,.fz (.sl (m.rels.map enc))),(29,.fz (.i .i64 m.rels.length)),(30,.fz (.i .i64 q.i))],hpL [((35003,0),some ⟨[.fz (.i .i64 m.size),.fz (.sl (m.consts.map enc)),.fz (.sl (m.rels.map enc))],true,false⟩),((35006,1),some ⟨[.fz (.i .i64 0),.full [],.full []],true,false⟩),((35007,b),some ⟨[.fz (.i .i64 S),.arr (64007,g) 2 0 c,.full []],true,false⟩),((64007,g),some ⟨zad (m.consts.map enc),false,m.consts.isEmpty⟩)],q.m⟩,fun q=>m.rels.length-q.i⟩
  ⟨0,b+1,by omega,by omega,trivial⟩ (by kernel_rfl) ?_ ?_
 ·refine zaf ?_ ?_ ?_<;>simp only[go_sem,hC0]
  all_goals first|done|rfl|omega
 rintro⟨i,n,hi,hn2,_⟩
 try simp only at hi hn2
 have hCi:=kM.out i hi
 rcases Nat.lt_or_ge i m.rels.length with h1|h1
 ·obtain⟨x,hx⟩:∃x,m.rels[i]=x:=⟨_,rfl⟩
  have hxa:=kr.out x (by rw[←hx];exact List.getElem_mem h1)
  have hcs:=kC.out i h1
  rw[hx]at hcs
  obtain⟨P,hP⟩:∃P,zsn S (zjN x)=P:=⟨_,rfl⟩
  have hpw:zxn S x.arity=(P:Int):=by rw[←hP];rfl
  rw[hP]at hcs
  have hCi2:=kM.out (i+1) h1
  obtain⟨z,hz⟩:∃z,C i=z:=⟨_,rfl⟩
  rw[hz]at hcs hCi
  have hzp:(z:Int)+(P:Int)=((z+P:Nat):Int):=by simp
  have hpp:(1≤(S:Int)∧(S:Int)≤4)∧0≤x.arity∧x.arity≤3:=⟨⟨hs1,hs4⟩,hxa⟩
  repeat'(first|refine zaF.i hpp fun _=>?_|refine And.intro ?_ ?_|exact True.intro|refine rq fun _=>?_|refine rf fun _=>?_|simp only[go_sem,h1,hx,hpw,hz,hzp,zag,zab,zae,zaa,Tryd.f35])
  refine⟨⟨i+1,n+1,by omega,by omega,trivial⟩,by simp only;omega,?_⟩
  refine zaf ?_ ?_ ?_<;>simp only[go_sem,hcs]
  all_goals first|done|rfl|omega
 obtain rfl:i=m.rels.length:=by omega
 have v0:=zql K N
 obtain⟨I,hI⟩:∃I:Nat→Int,I=fun j:Nat=>(K:Int)-1-(j:Int):=⟨_,rfl⟩
 have hI0:I 0=(K:Int)-1:=by rw[hI];simp
 have hIs:∀j,I (j+1)=I j-1:=fun j=>by rw[hI];simp only;omega
 have hIe:I K= -1:=by rw[hI];simp only;omega
 have hIj:∀j (_:j<K),I j=((K-1-j:Nat):Int):=fun j h=>by rw[hI];simp only;omega
 have kI:=Kp.mk hIj
 have kS:=Kp.mk hIs
 clear hI hIj hIs
 repeat'(first|refine And.intro ?_ ?_|exact True.intro|refine rq fun _=>?_|refine rf fun _=>?_|simp only[go_sem,Nat.lt_irrefl,hCe,zf2,zbQ,←v0,hI0,zag,zab,zae,zaa,Tryd.f35])
 refine zak hm hI7 35000 (lsw [123,132] [101,1000005,1000018]) (ι:=zbw K (n+1) fun _=>True)
  ⟨fun q=>⟨frL [(1,.fz (.i .i64 S)),(2,.fz (.i .i64 (zeq 2 N q.i:Nat))),(3,.ptr (35003,0) 0),(6,.ptr (35006,1) 0),(7,.ptr (35007,b) 0),(8,.arr (35042,n) 1 0 K),(12,.fz (.i .i64 (I q.i)))],hpL [((35003,0),some ⟨[.fz (.i .i64 m.size),.fz (.sl (m.consts.map enc)),.fz (.sl (m.rels.map enc))],true,false⟩),((35006,1),some ⟨[.fz (.i .i64 0),.full [],.full []],true,false⟩),((35007,b),some ⟨[.fz (.i .i64 S),.arr (64007,g) 2 0 c,.full []],true,false⟩),((64007,g),some ⟨zad (m.consts.map enc),false,m.consts.isEmpty⟩),((35042,n),some ⟨zad ((zpO K N q.i).map enc),false,false⟩)],q.m⟩,fun q=>K-q.i⟩
  ⟨0,n+1,by omega,by omega,trivial⟩ (by kernel_rfl) ?_ ?_
 ·refine zaf ?_ ?_ ?_<;>simp only[go_sem,hI0,zeq]
  all_goals first|done|rfl|omega
 rintro⟨j,n2,hj,hn3,_⟩
 try simp only at hj hn3
 rcases Nat.lt_or_ge j K with h2|h2
 ·have e1:=kI.out j h2
  have e4:=kS.out j
  have hset:=zsD (N:=N) h2
  have hvl:=zm3 (K:=K) (N:=N) (j:=j) (by omega)
  obtain⟨p,hp⟩:∃p,K-1-j=p:=⟨_,rfl⟩
  have hpl2:p<K:=by omega
  rw[hp]at hset e1
  rw[e1]at e4
  have e2:((0:Int)≤(p:Int))=True:=eq_true (by omega)
  have hq1:zeq 2 N (j+1)=zeq 2 N j / 2:=rfl
  obtain⟨x,hx⟩:∃x,zeq 2 N j=x:=⟨_,rfl⟩
  rw[hx]at hset hq1
  have em:=zsC x
  have ed:(x:Int) / (2:Int)=((x / 2:Nat):Int):=(Int.natCast_ediv x 2).symm
  obtain⟨r,hr⟩:∃r,x % 2=r:=⟨_,rfl⟩
  obtain⟨y,hy⟩:∃y,x / 2=y:=⟨_,rfl⟩
  rw[hr]at em hset
  rw[hy]at ed hq1
  have hfs:(zad ((zpO K N j).map enc)).set p (.fz (.b (decide ((r:Int)=1))))=zad ((zpO K N (j+1)).map enc):=by rw[←hset,←zbD];rfl
  repeat'(first|refine zaF.i ⟨by omega,by decide,by decide⟩ fun _=>?_|refine And.intro ?_ ?_|exact True.intro|refine rq fun _=>?_|refine rf fun _=>?_|simp only[go_sem,hx,e1,e2,em,ed,hvl,hpl2,zag,zab,zae,zaa,Tryd.f35])
  refine⟨⟨j+1,n2,by omega,by omega,trivial⟩,by simp only;omega,?_⟩
  refine zaf ?_ ?_ ?_<;>simp only[go_sem,e4,hq1,hfs]
  all_goals first|done|rfl|omega
 obtain rfl:K=j:=by omega
 clear kI kS hI0 v0
 obtain⟨M,hM⟩:∃M,zeq 2 N K=M:=⟨_,rfl⟩
 obtain⟨ns,hns⟩:∃ns,m.consts.map (·.name)=ns:=⟨_,rfl⟩
 have hnl:ns.length=c:=by rw[←hns,List.length_map,hc]
 have hz0:List.zipWith zaB.mk ns (ze6 S M c 0)=m.consts:=by rw[zeu,←hns,←hc];exact zq9 hcz
 obtain⟨J,hJ⟩:∃J:Nat→Int,J=fun j:Nat=>(c:Int)-1-(j:Int):=⟨_,rfl⟩
 have hJ0:J 0=(c:Int)-1:=by rw[hJ];simp
 have hJs:∀j,J (j+1)=J j-1:=fun j=>by rw[hJ];simp only;omega
 have hJe:J c= -1:=by rw[hJ];simp only;omega
 have hJj:∀j (_:j<c),J j=((c-1-j:Nat):Int):=fun j h=>by rw[hJ];simp only;omega
 have kI:=Kp.mk hJj
 have kS:=Kp.mk hJs
 clear hJ hJj hJs
 repeat'(first|refine And.intro ?_ ?_|exact True.intro|refine rq fun _=>?_|refine rf fun _=>?_|simp only[go_sem,hIe,hM,zag,zab,zae,zaa,Tryd.f35])
 refine zak hm hI7 35000 (lsw [123,132] [101,1000005,1000018]) (ι:=zbw c n2 fun _=>True)
  ⟨fun q=>⟨frL [(1,.fz (.i .i64 S)),(2,.fz (.i .i64 (zeq S M q.i:Nat))),(3,.ptr (35003,0) 0),(6,.ptr (35006,1) 0),(7,.ptr (35007,b) 0),(8,.arr (35042,n) 1 0 K),(13,.fz (.i .i64 (J q.i)))],hpL [((35003,0),some ⟨[.fz (.i .i64 m.size),.fz (.sl (m.consts.map enc)),.fz (.sl (m.rels.map enc))],true,false⟩),((35006,1),some ⟨[.fz (.i .i64 0),.full [],.full []],true,false⟩),((35007,b),some ⟨[.fz (.i .i64 S),.arr (64007,g) 2 0 c,.full []],true,false⟩),((64007,g),some ⟨zad ((List.zipWith zaB.mk ns (ze6 S M c q.i)).map enc),false,m.consts.isEmpty⟩),((35042,n),some ⟨zad ((zpO K N K).map enc),false,false⟩)],q.m⟩,fun q=>c-q.i⟩
  ⟨0,n2,by omega,by omega,trivial⟩ (by kernel_rfl) ?_ ?_
 ·refine zaf ?_ ?_ ?_<;>simp only[go_sem,hJ0,zeq,hz0]
  all_goals first|done|rfl|omega
 rintro⟨j,n3,hj,hn3,_⟩
 try simp only at hj hn3
 rcases Nat.lt_or_ge j c with h2|h2
 ·have e1:=kI.out j h2
  have e4:=kS.out j
  have hset:=zfL (s:=S) (i:=M) h2
  have hvl:=zfK (s:=S) (i:=M) (j:=j) (n:=c) (by omega)
  obtain⟨p,hp⟩:∃p,c-1-j=p:=⟨_,rfl⟩
  have hpl2:p<c:=by omega
  rw[hp]at hset e1
  rw[e1]at e4
  have e2:((0:Int)≤(p:Int))=True:=eq_true (by omega)
  have hq1:zeq S M (j+1)=zeq S M j / S:=rfl
  obtain⟨x,hx⟩:∃x,zeq S M j=x:=⟨_,rfl⟩
  rw[hx]at hset hq1
  have em:(x:Int) % (S:Int)=((x % S:Nat):Int):=(Int.natCast_emod x S).symm
  have ed:(x:Int) / (S:Int)=((x / S:Nat):Int):=(Int.natCast_ediv x S).symm
  obtain⟨r,hr⟩:∃r,x % S=r:=⟨_,rfl⟩
  obtain⟨y,hy⟩:∃y,x / S=y:=⟨_,rfl⟩
  rw[hr]at em hset
  rw[hy]at ed hq1
  have hfs:=zux (ns:=ns) (vs:=ze6 S M c j) (p:=p) (v:=(r:Int)) (by omega) (by omega)
  rw[hset]at hfs
  have hce:m.consts.isEmpty=false:=by
   cases h:m.consts with
   |nil=>rw[h]at hc;simp at hc;omega
   |cons=>rfl
  have hfl:p*2+1+1≤(zad ((List.zipWith zaB.mk ns (ze6 S M c j)).map enc)).length:=by rw[zuh,zyU (by omega),hnl];omega
  repeat'(first|refine za6 hm hI7 35000 (lsw [123,132] [101,1000005,1000018]) zof (by kernel_rfl) (by kernel_rfl) ?_|refine zaF.i hfl fun _=>?_|refine zaF.i ⟨by omega,by omega⟩ fun _=>?_|refine zaF.i ⟨by omega,by omega,by omega⟩ fun _=>?_|refine And.intro ?_ ?_|exact True.intro|refine rq fun _=>?_|refine rf fun _=>?_|simp only[go_sem,hx,e1,e2,em,ed,hvl,hpl2,hce,zof,zag,zab,zae,zaa,Tryd.f35])
  all_goals
   refine⟨⟨j+1,n3,by omega,by omega,trivial⟩,by simp only;omega,?_⟩
   refine zaf ?_ ?_ ?_<;>simp only[go_sem,e4,hq1,hfs,hce]
   all_goals first|done|rfl|omega
 obtain rfl:c=j:=by omega
 obtain⟨B,hB⟩:∃B,zpO K N K=B:=⟨_,rfl⟩
 have hBl:B.length=K:=by rw[←hB];exact zm3 (Nat.le_refl _)
 obtain⟨Z,hZ⟩:∃Z,List.zipWith zaB.mk ns (ze6 S M c c)=Z:=⟨_,rfl⟩
 obtain⟨RF,hRF⟩:∃RF:Nat→List zdc,RF=fun i=>zfz S (ps.take i) B:=⟨_,rfl⟩
 have hR0:RF 0=[]:=by rw[hRF];rfl
 have hRs:∀i (h:i<m.rels.length),RF (i+1)=RF i++[⟨m.rels[i].name,m.rels[i].arity,zxt S m.rels[i].arity.toNat (B.drop (C i)) (S^m.rels[i].arity.toNat)⟩]:=fun i h=>by rw[hRF];simp only;rw[zls B (by omega),hpi i h (by omega),hC];rfl
 have hRl:∀i,i≤m.rels.length→(RF i).length=i:=fun i h=>by rw[hRF];simp only;rw[zhQ,List.length_take];omega
 have hfin:(zpQ m S N).consts=Z∧(zpQ m S N).rels=RF m.rels.length:=by
  unfold zpQ
  rw[hps,hns,Int.toNat_natCast,Int.toNat_natCast]
  unfold zcC
  refine⟨?_,?_⟩
  ·rw[←hZ,hnl,zeH,hK,←hM,znX]
  ·rw[hRF,←hpl];simp only[List.take_length]
   rw[←hB,hK,zl7];rfl
 have kR:=Kp.mk hRs
 have kRl:=Kp.mk hRl
 clear hRs hRl hRF kI kS hJ0 hpi hC
 repeat'(first|refine And.intro ?_ ?_|exact True.intro|refine rq fun _=>?_|refine rf fun _=>?_|simp only[go_sem,hJe,hB,hZ,zag,zab,zae,zaa,Tryd.f35])
 refine zak hm hI7 35000 (lsw [123,132] [101,1000005,1000018]) (ι:=zgX m.rels.length (n3+1) fun _=>True)
  ⟨fun q=>⟨frL [(1,.fz (.i .i64 S)),(6,.ptr (35006,1) 0),(7,.ptr (35007,b) 0),(8,.arr (35042,n) 1 0 K),(14,.fz (.i .i64 (C q.i:Nat))),(77,.fz (.sl (m.rels.map enc))),(78,.fz (.i .i64 m.rels.length)),(79,.fz (.i .i64 q.i))],hpL [((35006,1),some ⟨[.fz (.i .i64 0),.full [],.full []],true,false⟩),((35007,b),some ⟨[.fz (.i .i64 S),.arr (64007,g) 2 0 c,.ow (35132,q.g) 3 ((RF q.i).map enc)],true,false⟩),((64007,g),some ⟨zad (Z.map enc),false,m.consts.isEmpty⟩),((35042,n),some ⟨zad (B.map enc),false,false⟩),((35132,q.g),some tok)],q.m⟩,fun q=>m.rels.length-q.i⟩
  ⟨0,n3,n3+1,by omega,by omega,by omega,trivial⟩ (by kernel_rfl) ?_ ?_
 ·refine zcu [] [(35132,n3)] [] ?_ ?_ ?_ ?_ ?_<;>(try simp only[go_sem,hC0,hR0,List.map_nil])
  all_goals first|done|rfl|omega
 rintro⟨i,h,n4,hi,hh,hn4,_⟩
 try simp only at hi hh hn4
 rcases Nat.lt_or_ge i m.rels.length with h1|h1
 rotate_left
 ·obtain rfl:i=m.rels.length:=by omega
  repeat'(first|refine And.intro ?_ ?_|exact True.intro|refine rq fun _=>?_|refine rf fun _=>?_|simp only[go_sem,Nat.lt_irrefl,zag,zab,zae,zaa,Tryd.f35])
  all_goals
   rw[kq.out]
   exact⟨g,h,by omega,by omega,by rw[hfin.2,hc],by rw[hfin.1];simp only[go_sem]⟩
 obtain⟨x,hx⟩:∃x,m.rels[i]=x:=⟨_,rfl⟩
 have hxa:=kr.out x (by rw[←hx];exact List.getElem_mem h1)
 have hcs:=kC.out i h1
 have hrs:=kR.out i h1
 have hrl:=kRl.out i hi
 rw[hx]at hcs hrs
 obtain⟨A,hA⟩:∃A:Nat,x.arity=(A:Int):=⟨x.arity.toNat,by omega⟩
 rw[hA,Int.toNat_natCast]at hrs
 obtain⟨P,hP⟩:∃P,S^A=P:=⟨_,rfl⟩
 have hpw:zxn S (A:Int)=(P:Int):=by rw[←hP];rfl
 have hpw2:zsn S (zjN x)=P:=by rw[←hP];show S^x.arity.toNat=_;rw[hA,Int.toNat_natCast]
 rw[hpw2]at hcs
 rw[hP]at hrs
 have hCi2:=kM.out (i+1) h1
 obtain⟨z,hz⟩:∃z,C i=z:=⟨_,rfl⟩
 rw[hz]at hcs hrs
 obtain⟨R0,hR⟩:∃R0,RF i=R0:=⟨_,rfl⟩
 rw[hR]at hrs hrl
 have hpp:(1≤(S:Int)∧(S:Int)≤4)∧0≤(A:Int)∧(A:Int)≤3:=⟨⟨hs1,hs4⟩,by omega,by omega⟩
 obtain⟨T,hT⟩:∃T:Nat→List (List Int),T=zxt S A (B.drop z):=⟨_,rfl⟩
 have hT0:T 0=[]:=by rw[hT];rfl
 have hTs:∀k,T (k+1)=T k++(if(B.drop z).getD k false=true then[zbq S A k]else[]):=fun k=>by rw[hT];exact zr4 S A _ k
 have hTl:∀k,(T k).length≤k:=fun k=>by
  rw[hT];unfold zxt;rw[List.length_map]
  exact Nat.le_trans (List.length_filter_le _ _) (by simp)
 have hgb:∀k,k<P→(zad (B.map enc)).getD (z+k) .junk= .fz (.b ((B.drop z).getD k false)):=fun k hk=>by
  have h3:z+k<B.length:=by omega
  rw[zaQ,List.getD_eq_getElem?_getD,List.getElem?_map,List.getElem?_eq_getElem h3,List.getD_eq_getElem?_getD,List.getElem?_drop,List.getElem?_eq_getElem h3];rfl
 rw[←hT]at hrs
 have kT:=Kp.mk hTs
 have kTl:=Kp.mk hTl
 have kgb:=Kp.mk hgb
 clear hT hTs hTl hgb
 repeat'(first|refine zaF.i hpp fun _=>?_|refine And.intro ?_ ?_|exact True.intro|refine rq fun _=>?_|refine rf fun _=>?_|simp only[go_sem,h1,hx,hpw,hz,hA,hR,zag,zab,zae,zaa,Tryd.f35])
 refine zak hm hI7 35000 (lsw [123,132] [101,1000005,1000018]) (ι:=zgX P (n4+3) fun _=>True)
  ⟨fun q=>⟨frL [(1,.fz (.i .i64 S)),(6,.ptr (35006,1) 0),(7,.ptr (35007,b) 0),(8,.arr (35042,n) 1 0 K),(16,.ptr (35016,n4) 0),(17,.ptr (35017,n4+1) 0),(77,.fz (.sl (m.rels.map enc))),(78,.fz (.i .i64 m.rels.length)),(79,.fz (.i .i64 i)),(91,.fz (.i .i64 P)),(92,.fz (.i .i64 q.i)),(14,.fz (.i .i64 ((z+q.i:Nat):Int)))],hpL [((35006,1),some ⟨[.fz (.i .i64 0),.full [],.full []],true,false⟩),((35007,b),some ⟨[.fz (.i .i64 S),.arr (64007,g) 2 0 c,.ow (35132,h) 3 (R0.map enc)],true,false⟩),((64007,g),some ⟨zad (Z.map enc),false,m.consts.isEmpty⟩),((35042,n),some ⟨zad (B.map enc),false,false⟩),((35132,h),some tok),((35016,n4),some ⟨[.fz (.s x.name.l),.fz (.i .i64 A),.fz (.sl (x.tuples.map enc))],true,false⟩),((35017,n4+1),some ⟨[.fz (.s x.name.l),.fz (.i .i64 A),.ow (35123,q.g) 1 ((T q.i).map enc)],true,false⟩),((35123,q.g),some tok)],q.m⟩,fun q=>P-q.i⟩
  ⟨0,n4+2,n4+3,by omega,by omega,by omega,trivial⟩ (by kernel_rfl) ?_ ?_
 ·refine zcu [] [(35123,n4+2)] [] ?_ ?_ ?_ ?_ ?_<;>(try simp only[go_sem,hT0,List.map_nil])
  all_goals first|done|rfl|omega
 rintro⟨k,h',n5,hk',hh',hn5,_⟩
 try simp only at hk' hh' hn5
 have htl:=kTl.out k
 rcases Nat.lt_or_ge k P with h2|h2
 rotate_left
 ·obtain rfl:k=P:=by omega
  repeat'(first|refine And.intro ?_ ?_|exact True.intro|refine rq fun _=>?_|refine rf fun _=>?_|simp only[go_sem,Int.lt_irrefl,zag,zab,zae,zaa,Tryd.f35])
  all_goals
   refine⟨⟨i+1,n5,n5+1,by omega,by omega,by omega,trivial⟩,by simp only;omega,?_⟩
   refine zaf ?_ ?_ ?_<;>(try simp only[go_sem,hcs,hrs,List.map_append,List.map_cons,List.map_nil])
   all_goals first|done|rfl|omega
 have hts:=kT.out k
 have hgd:=kgb.out k h2
 have h2i:((k:Int)<(P:Int))=True:=eq_true (by omega)
 have hzk:((z+k:Nat):Int)+1=((z+(k+1):Nat):Int):=by omega
 have hzk2:z+k<K:=by omega
 have hP64:=(zmK (a:=(S:Int)) (n:=(A:Int)) hs1 hs4 (by omega) (by omega) A (by omega)).2
 rw[show((S:Int).toNat^A)=P from hP]at hP64
 obtain⟨v,hv⟩:∃v,(B.drop z).getD k false=v:=⟨_,rfl⟩
 rw[hv]at hts hgd
 cases v with
 |false=>
  rw[if_neg (by decide),List.append_nil]at hts
  repeat'(first|refine And.intro ?_ ?_|exact True.intro|refine rq fun _=>?_|refine rf fun _=>?_|simp only[go_sem,h2i,hgd,hBl,hzk2,hzk,zag,zab,zae,zaa,Tryd.f35])
  all_goals
   refine⟨⟨k+1,h',n5,by omega,by omega,by omega,trivial⟩,by simp only;omega,?_⟩
   refine zaf ?_ ?_ ?_<;>(try simp only[go_sem,hts,hzk])
   all_goals first|done|rfl|omega
 |true=>
  rw[if_pos rfl]at hts
  obtain⟨J,hJ⟩:∃J:Nat→Int,J=fun j:Nat=>(A:Int)-1-(j:Int):=⟨_,rfl⟩
  have hJ0:J 0=(A:Int)-1:=by rw[hJ];simp
  have hJs:∀j,J (j+1)=J j-1:=fun j=>by rw[hJ];simp only;omega
  have hJe:J A= -1:=by rw[hJ];simp only;omega
  have hJj:∀j (_:j<A),J j=((A-1-j:Nat):Int):=fun j h=>by rw[hJ];simp only;omega
  have v0:ze6 S k A 0=List.replicate A 0:=zeu S k A
  have rep_ints:∀n:Nat,List.replicate n (D.fz (.i .i64 0))=zad ((List.replicate n (0:Int)).map enc):=fun n=>by rw[zaQ];simp[zmg]
  have kI:=Kp.mk hJj
  have kS:=Kp.mk hJs
  clear hJ hJj hJs
  repeat'(first|refine And.intro ?_ ?_|exact True.intro|refine rq fun _=>?_|refine rf fun _=>?_|simp only[go_sem,h2i,hgd,hBl,hzk2,zf2,rep_ints,←v0,hJ0,zag,zab,zae,zaa,Tryd.f35])
  refine zxx (.exit 10) (fun _:Unit=>⟨frL [(1,.fz (.i .i64 S)),(6,.ptr (35006,1) 0),(7,.ptr (35007,b) 0),(8,.arr (35042,n) 1 0 K),(16,.ptr (35016,n4) 0),(17,.ptr (35017,n4+1) 0),(77,.fz (.sl (m.rels.map enc))),(78,.fz (.i .i64 m.rels.length)),(79,.fz (.i .i64 i)),(91,.fz (.i .i64 P)),(92,.fz (.i .i64 k)),(14,.fz (.i .i64 ((z+k:Nat):Int))),(19,.fz (.sl ((zbq S A k).map enc)))],hpL [((35006,1),some ⟨[.fz (.i .i64 0),.full [],.full []],true,false⟩),((35007,b),some ⟨[.fz (.i .i64 S),.arr (64007,g) 2 0 c,.ow (35132,h) 3 (R0.map enc)],true,false⟩),((64007,g),some ⟨zad (Z.map enc),false,m.consts.isEmpty⟩),((35042,n),some ⟨zad (B.map enc),false,false⟩),((35132,h),some tok),((35016,n4),some ⟨[.fz (.s x.name.l),.fz (.i .i64 A),.fz (.sl (x.tuples.map enc))],true,false⟩),((35017,n4+1),some ⟨[.fz (.s x.name.l),.fz (.i .i64 A),.ow (35123,h') 1 ((T k).map enc)],true,false⟩),((35123,h'),some tok)],n5+1⟩) (fun _=>?_) ?_
  ·repeat'(first|refine And.intro ?_ ?_|exact True.intro|refine rq fun _=>?_|refine rf fun _=>?_|simp only[go_sem,zag,zab,zae,zaa,Tryd.f35])
   all_goals
    refine⟨⟨k+1,n5+1,n5+2,by omega,by omega,by omega,trivial⟩,by simp only;omega,?_⟩
    refine zaf ?_ ?_ ?_<;>(try simp only[go_sem,hts,hzk,List.map_append,List.map_cons,List.map_nil])
    all_goals first|done|rfl|omega
  refine zak hm hI7 35000 (lsw [123,132] [101,1000005,1000018]) (ι:=zbL A fun _=>True)
   ⟨fun q=>⟨frL [(1,.fz (.i .i64 S)),(6,.ptr (35006,1) 0),(7,.ptr (35007,b) 0),(8,.arr (35042,n) 1 0 K),(16,.ptr (35016,n4) 0),(17,.ptr (35017,n4+1) 0),(77,.fz (.sl (m.rels.map enc))),(78,.fz (.i .i64 m.rels.length)),(79,.fz (.i .i64 i)),(91,.fz (.i .i64 P)),(92,.fz (.i .i64 k)),(14,.fz (.i .i64 ((z+k:Nat):Int))),(19,.arr (35101,n5) 1 0 A),(20,.fz (.i .i64 (J q.i))),(21,.fz (.i .i64 (zeq S k q.i:Nat)))],hpL [((35006,1),some ⟨[.fz (.i .i64 0),.full [],.full []],true,false⟩),((35007,b),some ⟨[.fz (.i .i64 S),.arr (64007,g) 2 0 c,.ow (35132,h) 3 (R0.map enc)],true,false⟩),((64007,g),some ⟨zad (Z.map enc),false,m.consts.isEmpty⟩),((35042,n),some ⟨zad (B.map enc),false,false⟩),((35132,h),some tok),((35016,n4),some ⟨[.fz (.s x.name.l),.fz (.i .i64 A),.fz (.sl (x.tuples.map enc))],true,false⟩),((35017,n4+1),some ⟨[.fz (.s x.name.l),.fz (.i .i64 A),.ow (35123,h') 1 ((T k).map enc)],true,false⟩),((35123,h'),some tok),((35101,n5),some ⟨zad ((ze6 S k A q.i).map enc),false,false⟩)],n5+1⟩,fun q=>A-q.i⟩
   ⟨0,by omega,trivial⟩ (by kernel_rfl) ?_ ?_
  ·refine zaf ?_ ?_ ?_<;>simp only[go_sem,hJ0,zeq]
   all_goals first|done|rfl|omega
  rintro⟨j,hj,_⟩
  try simp only at hj
  rcases Nat.lt_or_ge j A with h3|h3
  ·have e1:=kI.out j h3
   have e4:=kS.out j
   have hset:=zfL (s:=S) (i:=k) h3
   have hvl:=zfK (s:=S) (i:=k) (j:=j) (n:=A) (by omega)
   obtain⟨p,hp⟩:∃p,A-1-j=p:=⟨_,rfl⟩
   have hpl2:p<A:=by omega
   rw[hp]at hset e1
   rw[e1]at e4
   have e2:((0:Int)≤(p:Int))=True:=eq_true (by omega)
   have hq1:zeq S k (j+1)=zeq S k j / S:=rfl
   obtain⟨w,hw⟩:∃w,zeq S k j=w:=⟨_,rfl⟩
   rw[hw]at hset hq1
   have em:(w:Int) % (S:Int)=((w % S:Nat):Int):=(Int.natCast_emod w S).symm
   have ed:(w:Int) / (S:Int)=((w / S:Nat):Int):=(Int.natCast_ediv w S).symm
   obtain⟨r,hr⟩:∃r,w % S=r:=⟨_,rfl⟩
   obtain⟨y,hy⟩:∃y,w / S=y:=⟨_,rfl⟩
   rw[hr]at em hset
   rw[hy]at ed hq1
   have hfs:(zad ((ze6 S k A j).map enc)).set p (.fz (.i .i64 r))=zad ((ze6 S k A (j+1)).map enc):=by rw[←hset,←zbD];rfl
   repeat'(first|refine zaF.i ⟨by omega,by omega⟩ fun _=>?_|refine zaF.i ⟨by omega,by omega,by omega⟩ fun _=>?_|refine And.intro ?_ ?_|exact True.intro|refine rq fun _=>?_|refine rf fun _=>?_|simp only[go_sem,hw,e1,e2,em,ed,hvl,hpl2,zag,zab,zae,zaa,Tryd.f35])
   all_goals
    refine⟨⟨j+1,by omega,trivial⟩,by simp only;omega,?_⟩
    refine zaf ?_ ?_ ?_<;>simp only[go_sem,e4,hq1,hfs]
    all_goals first|done|rfl|omega
  obtain rfl:A=j:=by omega
  repeat'(first|refine And.intro ?_ ?_|exact True.intro|refine rq fun _=>?_|refine rf fun _=>?_|simp only[go_sem,hJe,zeH,zag,zab,zae,zaa,Tryd.f35])
  all_goals
   refine⟨(),?_⟩
   refine zcu [] [] [((35101,n5),(zbq S A k).map enc)] ?_ ?_ ?_ ?_ ?_<;>(try simp only[go_sem,zeH,zbN])
   all_goals first|done|rfl|omega
theorem hI8:zap Tryd.prog G I8:=by
 refine zgs zEB hI7 fun m size n hp _ _ _=>?_
 obtain⟨S,hS⟩:∃S:Nat,size=(S:Int):=⟨size.toNat,by have:=hp.s;omega⟩
 obtain⟨N,hN⟩:∃N:Nat,n=(N:Int):=⟨n.toNat,by have:=hp.n;omega⟩
 refine zck (zFB (G:=G) hp S N hS hN) ?_
 subst hS
 subst hN
 rintro d H n1 ⟨g,h,hg,hh,rfl,ho⟩
 have hcl:(zpQ m S N).consts.length=m.consts.length:=by unfold zpQ zcC;simp[zbN]
 have hsz:(zpQ m S N).size=(S:Int):=rfl
 obtain⟨V,hV⟩:∃V,zpQ m S N=V:=⟨_,rfl⟩
 rw[hV]at ho hcl hsz ⊢
 refine⟨.agg [.fz (.i .i64 S),.fz (.sl (V.consts.map enc)),.ow (35132,h) 3 (V.rels.map enc)],H0,n1,?_,by simp only[go_sem,hsz]⟩
 have e:H0=hpL []:=rfl
 rw[e,←hcl]
 have hce:m.consts.isEmpty=true→V.consts=[]:=fun h=>List.eq_nil_of_length_eq_zero (by rw[hcl,List.isEmpty_iff.1 h];rfl)
 refine zcu [] [] [((64007,g),V.consts.map enc)] ?_ ?_ ?_ ?_ ?_<;>simp only[go_sem,ho,hg,hh]
 intro h;rw[hce h];rfl
end
end Go.Proofs.YtkkffhphodngkaaDoor
namespace Go.Proofs.YtkkffhphodngkaaDoor
open Go Go.Abs Go.Proofs
section
variable {G:Nat→List FD}
theorem zhC (l:List Pd):(l.map zik).map zjN=l:=by
 rw[List.map_map]
 have:∀p∈l,(zjN∘zik) p=p:=fun p _=>by cases p;rfl
 rw[List.map_congr_left this,List.map_id'' fun _=>rfl]
theorem zxM (l:List Str):(l.map c0).map (·.name)=l:=by
 rw[List.map_map]
 have:∀p∈l,((fun c:zaB=>c.name)∘c0) p=p:=fun p _=>rfl
 rw[List.map_congr_left this,List.map_id'' fun _=>rfl]
theorem zna (l:List Abs.zac)(S:Nat):zxO (zpU l) S=zpP (zgD l S):=by
 unfold zxO zpU zgD
 rw[Int.toNat_natCast,zhC,List.length_map]
theorem zny (l:List Abs.zac)(S i:Nat):zpQ (zpU l) S i=znR l S i:=by
 unfold zpQ zpU znR
 rw[Int.toNat_natCast,Int.toNat_natCast,zhC,zxM]
theorem znH:∀{l:List Pd} {p:Pd},(zk5 l p).length≤l.length+1
 |[],p=>by simp[zk5]
 |x::l,p=>by
  have ih:=znH (l:=l) (p:=p)
  rw[zk5]
  repeat' split
  all_goals(simp only[List.length_cons];omega)
structure zjn (l:List Abs.zac)(S:Nat):Prop where
 f:∀f∈l,(zaz false f).code=0∧zaY f≤5
 l:l.length≤41
 s:1≤S
 t:S≤4
theorem zsQ {l:List Abs.zac}{S:Nat}(hp:zjn l S):∀p∈zgr l,0≤p.arity∧p.arity≤3:=fun p h=>by
 obtain⟨f,hf,h2⟩:=zfB.1 h
 have:=znV f (zdz (hp.f f hf).1) p h2
 omega
theorem ztP {l:List Abs.zac}:(zgr l).length≤1000000+(zdp l).length:=by
 unfold zgr zxq
 have key:∀(ps a:List Pd),(ps.foldl zk5 a).length≤a.length+ps.length:=by
  intro ps
  induction ps with
  |nil=>intro a;simp
  |cons p ps ih=>
   intro a
   have h1:=ih (zk5 a p)
   have h2:(zk5 a p).length≤a.length+1:=znH
   rw[List.foldl_cons,List.length_cons];omega
 have:=key (zdp l) []
 simp only[List.length_nil]at this
 omega
theorem zhk {l:List Abs.zac}{S:Nat}(hp:zjn l S):zDn (zpU l) S:=by
 have h1:=ziL (l:=l) (fun f hf=>(hp.f f hf).1) hp.l
 have h2:=ztP (l:=l)
 have h3:=zhL (l:=l) fun f hf=>(hp.f f hf).1
 have:=hp.l
 have:=hp.s
 have:=hp.t
 refine⟨⟨by omega,by omega⟩,fun r hr=>?_,by unfold zpU;simp only[List.length_map];omega,by unfold zpU;simp only[List.length_map];omega⟩
 obtain⟨p,h,rfl⟩:=List.mem_map.1 (show r∈(zgr l).map zik from hr)
 exact zsQ hp p h
theorem zkC {l:List Abs.zac}{S n i:Nat}(hp:zjn l S)(hn:zgD l S=some n):zBs (zpU l) S i:=by
 have hc:=zhk hp
 refine⟨hc.s,by omega,hc.a,hc.c,hc.r,fun k hk=>?_,?_⟩
 ·obtain⟨w,_,rfl⟩:=List.mem_map.1 (show k∈(zbz l).map c0 from hk)
  rfl
 ·show zaV (S:Int).toNat (((zgr l).map zik).map zjN)≤1000
  rw[zhC,Int.toNat_natCast]
  have:=(zex (by have:=hp.s;omega) hn).2.2
  omega
theorem zkB {l:List Abs.zac}{S n i:Nat}(hp:zjn l S)(hn:zgD l S=some n):zBg (znR l S i) l:=
 ⟨zkS (zuE (fun f hf=>(hp.f f hf).1) hp.l hp.s hp.t hn),hp.f,by have:=hp.l;omega⟩
theorem ziK (l:List Abs.zac)(S:Nat):zc6 l S 0=[]:=rfl
theorem zFu {W:zal}{v:Int}(hv:0≤v∧v≤1000000):zaw Tryd.prog G 20 ([enc W].map .fz++[.ptr (7,0) 0]) (hpL [((7,0),some ⟨([FD.i .i64 v]).map .fz,true,false⟩)]) 1 (fun d H' _=>D.val d=some (.fz (.b true))∧H' (7,0)=some ⟨([FD.i .i64 (v+1)]).map .fz,true,false⟩):=by
 simp only[go_sem]
 refine zah (N:=6) hm hI8 20000 (lst []) zGg Tryd.func20 rfl rfl (by simp) (by kernel_rfl) ?_
 repeat'(first|refine And.intro ?_ ?_|exact True.intro|refine rq fun _=>?_|refine rf fun _=>?_|simp only[go_sem,zag,zab,zae,zaa,Tryd.f20])
 all_goals first|done|exact⟨rfl,rfl⟩|(simp only[go_sem];done)|(refine⟨by simp only[go_sem],by simp only[go_sem]⟩)
theorem zFv {W:zal}:zaw Tryd.prog G 26 ([enc W].map .fz++[.ptr (7,0) 0]) (hpL [((7,0),some ⟨([FD.i .i64 0,FD.sl [],FD.sl []]).map .fz,true,false⟩)]) 1 (fun d H' _=>D.val d=some (.fz (.b false))∧H' (7,0)=some ⟨([FD.i .i64 W.size,FD.sl (W.consts.map enc),FD.sl (W.rels.map enc)]).map .fz,true,false⟩):=by
 simp only[go_sem]
 refine zah (N:=5) hm hI8 26000 (lst []) zGh Tryd.func26 rfl rfl (by simp) (by kernel_rfl) ?_
 repeat'(first|refine And.intro ?_ ?_|exact True.intro|refine rq fun _=>?_|refine rf fun _=>?_|simp only[go_sem,zag,zab,zae,zaa,Tryd.f26])
 all_goals first|done|exact⟨rfl,rfl⟩|(simp only[go_sem];done)|(refine⟨by simp only[go_sem],by simp only[go_sem]⟩)
def zxf:Option (List zal)→Int
 |none=>0
 |some l=>(l.length:Int)
set_option maxHeartbeats 8000000 in
theorem zxZ {l:List Abs.zac}{S:Nat}(hp:zjn l S):zaw Tryd.prog G 19 ([enc l,.i .i64 (S:Int)].map .fz++[.fn 20 [.ptr (7,0) 0]]) (hpL [((7,0),some ⟨([FD.i .i64 0]).map .fz,true,false⟩)]) 1 (fun d H' _=>D.val d=some (.fz (.b (zgD l S).isSome))∧H' (7,0)=some ⟨([FD.i .i64 (zxf (zbk l S))]).map .fz,true,false⟩):=by
 obtain⟨Q,hQ⟩:∃Q:D→zav→Nat→Prop,Q=(fun d H' _=>D.val d=some (.fz (.b (zgD l S).isSome))∧H' (7,0)=some ⟨([FD.i .i64 (zxf (zbk l S))]).map .fz,true,false⟩):=⟨_,rfl⟩
 rw[←hQ]
 have hsg:sgP l:=⟨fun f hf=>(hp.f f hf).1,hp.l⟩
 have hcq:=zhk hp
 have hV:=zna l S
 have hfl:=fun n i=>zkC hp (n:=n) (i:=i)
 have hal:=fun n i=>zkB hp (n:=n) (i:=i)
 have hfi:=zny l S
 obtain⟨V,hVe⟩:∃V,zpU l=V:=⟨_,rfl⟩
 rw[hVe]at hcq hV hfi
 simp only[hVe]at hfl
 have h8:∀n,zgD l S=some n→n≤8192:=fun n h=>(zex (by have:=hp.s;omega) h).2.1
 have kfl:=Kp.mk hfl
 have kal:=Kp.mk hal
 have kfi:=Kp.mk hfi
 clear hfl hal hfi
 simp only[go_sem]
 refine zah (N:=40) hm hI8 19000 (lst []) zEt Tryd.func19 rfl rfl (by simp) (by kernel_rfl) ?_
 cases hn:zgD l S with
 |none=>
  rw[hn]at hV
  unfold zpP at hV
  repeat'(first|refine zaF.i hsg fun _=>?_|refine zaF.i hcq fun _=>?_|refine And.intro ?_ ?_|exact True.intro|refine rq fun _=>?_|refine rf fun _=>?_|simp only[go_sem,hVe,hV,zag,zab,zae,zaa,Tryd.f19])
  all_goals
   rw[hQ,hn]
   exact⟨rfl,by unfold zbk zxf;rw[hn];rfl⟩
 |some n=>
  have hn8:=h8 n hn
  rw[hn]at hV
  simp only[zpP]at hV
  repeat'(first|refine zaF.i hsg fun _=>?_|refine zaF.i hcq fun _=>?_|refine And.intro ?_ ?_|exact True.intro|refine rq fun _=>?_|refine rf fun _=>?_|simp only[go_sem,hVe,hV,zag,zab,zae,zaa,Tryd.f19])
  refine zak hm hI8 19000 (lst []) (ι:=zbw n 2 fun _=>True)
   ⟨fun q=>⟨frL [(0,.fz (.sl (l.map enc))),(1,.fz (.i .i64 S)),(2,.fn 20 [.ptr (7,0) 0]),(7,.ptr (19007,1) 0),(22,.fz (.i .i64 n)),(23,.fz (.i .i64 q.i))],hpL [((7,0),some ⟨([FD.i .i64 ((zc6 l S q.i).length:Nat)]).map .fz,true,false⟩),((19007,1),some ⟨[.fz (.i .i64 V.size),.fz (.sl (V.consts.map enc)),.fz (.sl (V.rels.map enc))],true,false⟩)],q.m⟩,fun q=>n-q.i⟩
   ⟨0,2,by omega,by omega,trivial⟩ (by kernel_rfl) ?_ ?_
  ·refine zaf ?_ ?_ ?_<;>simp only[go_sem,ziK,List.length_nil]
   all_goals first|done|rfl|omega
  rintro⟨i,q,hi,hq,hz⟩
  try simp only at hi hq hz
  rcases Nat.lt_or_ge i n with h1|h1
  rotate_left
  ·obtain rfl:i=n:=by omega
   repeat'(first|refine And.intro ?_ ?_|exact True.intro|refine rq fun _=>?_|refine rf fun _=>?_|simp only[go_sem,Int.lt_irrefl,zag,zab,zae,zaa,Tryd.f19])
   all_goals
    rw[hQ,hn]
    exact⟨rfl,by unfold zbk zxf;rw[hn];rfl⟩
  have h2:=kfl.out n i hn
  have h3:=kal.out n i hn
  have h4:=kfi.out i
  have h5:((i:Int)<(n:Int))=True:=eq_true (by omega)
  have hms:=ziJ l S i
  have hml:=zlf l S i
  obtain⟨W,hW⟩:∃W,znR l S i=W:=⟨_,rfl⟩
  rw[hW]at h3 h4 hms
  obtain⟨v,hv⟩:∃v,okF l W=v:=⟨_,rfl⟩
  rw[hv]at hms
  cases v with
  |false=>
   rw[if_neg (by decide),List.append_nil]at hms
   repeat'(first|refine zaF.i h2 fun _=>?_|refine zaF.i h3 fun _=>?_|refine And.intro ?_ ?_|exact True.intro|refine rq fun _=>?_|refine rf fun _=>?_|simp only[go_sem,h4,h5,hv,zag,zab,zae,zaa,Tryd.f19])
   all_goals
    refine⟨⟨i+1,q+1,by omega,by omega,trivial⟩,by simp only;omega,?_⟩
    refine zaf ?_ ?_ ?_<;>simp only[go_sem,hms]
    all_goals first|done|rfl|omega
  |true=>
   rw[if_pos rfl]at hms
   repeat'(first|refine zaF.i h2 fun _=>?_|refine zaF.i h3 fun _=>?_|refine And.intro ?_ ?_|exact True.intro|refine rq fun _=>?_|refine rf fun _=>?_|simp only[go_sem,h4,h5,hv,zag,zab,zae,zaa,Tryd.f19])
   have hcl:=zFu (G:=G) (W:=W) (v:=((zc6 l S i).length:Nat)) ⟨by omega,by omega⟩
   refine zas.i (zgY (T:=7) (sid:=(7,0)) (ds:=[.agg [.fz (.i .i64 W.size),.fz (.sl (W.consts.map enc)),.fz (.sl (W.rels.map enc))]]) (xs:=[enc W]) rfl hcl (by simp only[go_sem]) ?_)
   repeat'(first|refine And.intro ?_ ?_|exact True.intro|refine rq fun _=>?_|refine rf fun _=>?_|simp only[go_sem,zaC,zag,zab,zae,zaa,Tryd.f19])
   all_goals
    refine⟨⟨i+1,q+1,by omega,by omega,trivial⟩,by simp only;omega,?_⟩
    refine zaf ?_ ?_ ?_<;>simp only[go_sem,hms,List.length_append,List.length_cons,List.length_nil]
    all_goals first|done|rfl|omega
def zii:Option (List zal)→zal
 |none=>zh8
 |some []=>zh8
 |some (m::_)=>m
set_option maxHeartbeats 8000000 in
theorem zx0 {l:List Abs.zac}{S:Nat}(hp:zjn l S):zaw Tryd.prog G 19 ([enc l,.i .i64 (S:Int)].map .fz++[.fn 26 [.ptr (7,0) 0]]) (hpL [((7,0),some ⟨([FD.i .i64 0,FD.sl [],FD.sl []]).map .fz,true,false⟩)]) 1 (fun d H' _=>D.val d=some (.fz (.b (zgD l S).isSome))∧H' (7,0)=some ⟨([FD.i .i64 (zii (zbk l S)).size,FD.sl ((zii (zbk l S)).consts.map enc),FD.sl ((zii (zbk l S)).rels.map enc)]).map .fz,true,false⟩):=by
 obtain⟨Q,hQ⟩:∃Q:D→zav→Nat→Prop,Q=(fun d H' _=>D.val d=some (.fz (.b (zgD l S).isSome))∧H' (7,0)=some ⟨([FD.i .i64 (zii (zbk l S)).size,FD.sl ((zii (zbk l S)).consts.map enc),FD.sl ((zii (zbk l S)).rels.map enc)]).map .fz,true,false⟩):=⟨_,rfl⟩
 rw[←hQ]
 have hsg:sgP l:=⟨fun f hf=>(hp.f f hf).1,hp.l⟩
 have hcq:=zhk hp
 have hV:=zna l S
 have hfl:=fun n i=>zkC hp (n:=n) (i:=i)
 have hal:=fun n i=>zkB hp (n:=n) (i:=i)
 have hfi:=zny l S
 obtain⟨V,hVe⟩:∃V,zpU l=V:=⟨_,rfl⟩
 rw[hVe]at hcq hV hfi
 simp only[hVe]at hfl
 have h8:∀n,zgD l S=some n→n≤8192:=fun n h=>(zex (by have:=hp.s;omega) h).2.1
 have kfl:=Kp.mk hfl
 have kal:=Kp.mk hal
 have kfi:=Kp.mk hfi
 clear hfl hal hfi
 simp only[go_sem]
 refine zah (N:=40) hm hI8 19000 (lst []) zEt Tryd.func19 rfl rfl (by simp) (by kernel_rfl) ?_
 cases hn:zgD l S with
 |none=>
  rw[hn]at hV
  unfold zpP at hV
  repeat'(first|refine zaF.i hsg fun _=>?_|refine zaF.i hcq fun _=>?_|refine And.intro ?_ ?_|exact True.intro|refine rq fun _=>?_|refine rf fun _=>?_|simp only[go_sem,hVe,hV,zag,zab,zae,zaa,Tryd.f19])
  all_goals
   rw[hQ,hn]
   exact⟨rfl,by unfold zbk;rw[hn];rfl⟩
 |some n=>
  have hn8:=h8 n hn
  rw[hn]at hV
  simp only[zpP]at hV
  repeat'(first|refine zaF.i hsg fun _=>?_|refine zaF.i hcq fun _=>?_|refine And.intro ?_ ?_|exact True.intro|refine rq fun _=>?_|refine rf fun _=>?_|simp only[go_sem,hVe,hV,zag,zab,zae,zaa,Tryd.f19])
  refine zak hm hI8 19000 (lst []) (ι:=zbw n 2 fun i=>zc6 l S i=[])
   ⟨fun q=>⟨frL [(0,.fz (.sl (l.map enc))),(1,.fz (.i .i64 S)),(2,.fn 26 [.ptr (7,0) 0]),(7,.ptr (19007,1) 0),(22,.fz (.i .i64 n)),(23,.fz (.i .i64 q.i))],hpL [((7,0),some ⟨([FD.i .i64 0,FD.sl [],FD.sl []]).map .fz,true,false⟩),((19007,1),some ⟨[.fz (.i .i64 V.size),.fz (.sl (V.consts.map enc)),.fz (.sl (V.rels.map enc))],true,false⟩)],q.m⟩,fun q=>n-q.i⟩
   ⟨0,2,by omega,by omega,rfl⟩ (by kernel_rfl) ?_ ?_
  ·refine zaf ?_ ?_ ?_<;>simp only[go_sem,ziK,List.length_nil]
   all_goals first|done|rfl|omega
  rintro⟨i,q,hi,hq,hz⟩
  try simp only at hi hq hz
  rcases Nat.lt_or_ge i n with h1|h1
  rotate_left
  ·obtain rfl:i=n:=by omega
   repeat'(first|refine And.intro ?_ ?_|exact True.intro|refine rq fun _=>?_|refine rf fun _=>?_|simp only[go_sem,Int.lt_irrefl,zag,zab,zae,zaa,Tryd.f19])
   all_goals
    rw[hQ,hn]
    have e:zbk l S=some []:=by unfold zbk;rw[hn];exact congrArg some hz
    exact⟨rfl,by rw[e];rfl⟩
  have h2:=kfl.out n i hn
  have h3:=kal.out n i hn
  have h4:=kfi.out i
  have h5:((i:Int)<(n:Int))=True:=eq_true (by omega)
  have hms:=ziJ l S i
  have hml:=zlf l S i
  obtain⟨W,hW⟩:∃W,znR l S i=W:=⟨_,rfl⟩
  rw[hW]at h3 h4 hms
  obtain⟨v,hv⟩:∃v,okF l W=v:=⟨_,rfl⟩
  rw[hv]at hms
  cases v with
  |false=>
   rw[if_neg (by decide),List.append_nil]at hms
   repeat'(first|refine zaF.i h2 fun _=>?_|refine zaF.i h3 fun _=>?_|refine And.intro ?_ ?_|exact True.intro|refine rq fun _=>?_|refine rf fun _=>?_|simp only[go_sem,h4,h5,hv,zag,zab,zae,zaa,Tryd.f19])
   all_goals
    refine⟨⟨i+1,q+1,by omega,by omega,by rw[hms];exact hz⟩,by simp only;omega,?_⟩
    refine zaf ?_ ?_ ?_<;>simp only[go_sem,hms]
    all_goals first|done|rfl|omega
  |true=>
   rw[if_pos rfl]at hms
   repeat'(first|refine zaF.i h2 fun _=>?_|refine zaF.i h3 fun _=>?_|refine And.intro ?_ ?_|exact True.intro|refine rq fun _=>?_|refine rf fun _=>?_|simp only[go_sem,h4,h5,hv,zag,zab,zae,zaa,Tryd.f19])
   have hcl:=zFv (G:=G) (W:=W)
   refine zas.i (zgY (T:=7) (sid:=(7,0)) (ds:=[.agg [.fz (.i .i64 W.size),.fz (.sl (W.consts.map enc)),.fz (.sl (W.rels.map enc))]]) (xs:=[enc W]) rfl hcl (by simp only[go_sem]) ?_)
   repeat'(first|refine And.intro ?_ ?_|exact True.intro|refine rq fun _=>?_|refine rf fun _=>?_|simp only[go_sem,zaC,zag,zab,zae,zaa,Tryd.f19])
   all_goals
    have e:zbk l S=some (zc6 l S n):=by unfold zbk;rw[hn];rfl
    obtain⟨r,hr⟩:=zrj l S (n:=i+1) (t:=n) h1
    rw[hms,hz]at hr
    have e2:zii (zbk l S)=W:=by rw[e,hr];rfl
    rw[hQ,hn,e2]
    exact⟨rfl,by simp only[go_sem]⟩
end
end Go.Proofs.YtkkffhphodngkaaDoor
namespace Go.Proofs.YtkkffhphodngkaaDoor
open Go Go.Abs Go.Proofs
section
variable {G:Nat→List FD}
section
variable {P:Program} {T:Tbl}
def zAX {α β ρ σ τ:Type}[Enc α][Enc β][Enc ρ][Enc σ][Enc τ](f:α→β→ρ×σ×τ)(pre:α→β→Prop):List FD→Option (D×Prop)
 |[x,y]=>some (.tup [.fz (enc (f (dec x) (dec y)).1),.fz (enc (f (dec x) (dec y)).2.1),.fz (enc (f (dec x) (dec y)).2.2)],x=enc (dec (α:=α) x)∧y=enc (dec (α:=β) y)∧pre (dec x) (dec y))
 |_=>none
@[go_sem] theorem zEe {α β ρ σ τ:Type}[Enc α][Enc β][Enc ρ][Enc σ][Enc τ]{f:α→β→ρ×σ×τ}{pre:α→β→Prop}{x y:FD}:zAX f pre [x,y]=some (.tup [.fz (enc (f (dec x) (dec y)).1),.fz (enc (f (dec x) (dec y)).2.1),.fz (enc (f (dec x) (dec y)).2.2)],x=enc (dec (α:=α) x)∧y=enc (dec (α:=β) y)∧pre (dec x) (dec y)):=rfl
theorem zwg {α β ρ σ τ:Type}[Enc α][Enc β][Enc ρ][Enc σ][Enc τ]{f:FuncId}{g:α→β→ρ×σ×τ}{pre:α→β→Prop}(hc:zao P f)(hT:zap P G T)
  (h:∀a b,pre a b→(enc a).Wf→(enc b).Wf→zaw P G f [.fz (enc a),.fz (enc b)] (hpL []) 0 (fun d _ _=>D.val d=some (.tup [.fz (enc (g a b).1),.fz (enc (g a b).2.1),.fz (enc (g a b).2.2)]))):zap P G (T.add f (zAX g pre)):=by
 refine zdv hT fun xs r c hx hcc=>?_
 unfold zAX at hx
 split at hx
 ·rename_i x y
  simp only[Option.some.injEq,Prod.mk.injEq]at hx
  obtain⟨rfl,rfl⟩:=hx
  obtain⟨e,e2,hp⟩:=hcc
  refine zev hc fun hw=>?_
  rw[zgW]
  have:=h (dec x) (dec y) hp (by rw[←e];exact hw x (by simp)) (by rw[←e2];exact hw y (by simp))
  rw[←e,←e2]at this
  exact this
 ·cases hx
end
def zrY:Tv:=(.q 0 (.q 1 (.br [(2,.leaf)])))
def zmR:Tv:=(.q 0 (.br [(1,(.br [(2,(.q 3 (.br [(4,.leaf)])))])),(2,(.q 1 (.q 3 (.br [(4,.leaf)]))))]))
theorem znu {l:List Abs.zac}{size:Int}(h:(zaK l size).code=0){k:Nat}(hk:1≤k)(hk2:(k:Int)≤size):zjn l k:=by
 obtain⟨_,h2,h3,h4,h5⟩:=zej h
 exact⟨h3,h2,hk,by omega⟩
theorem zhB {l:List Abs.zac}{k:Nat}{x:zal}{ms:List zal}(h:zbk l k=some (x::ms)):x.size=(k:Int):=by
 unfold zbk at h
 cases hn:zgD l k with
 |none=>rw[hn]at h;cases h
 |some n=>
  rw[hn]at h
  have h2:zc6 l k n=x::ms:=Option.some.inj h
  have h3:x∈zc6 l k n:=by rw[h2];simp
  unfold zc6 at h3
  obtain⟨j,_,e⟩:=List.mem_map.1 (List.mem_filter.1 h3).1
  rw[←e];rfl
def I9:Tbl:=I8.add 7 (zwf zeP fun _ _=>True)
attribute [go_sem] I9
set_option maxHeartbeats 4000000 in
theorem hI9:zap Tryd.prog G I9:=by
 refine zjZ ok7 hI8 fun l size _ _ _=>?_
 obtain⟨V,hV⟩:∃V,zaK l size=V:=⟨_,rfl⟩
 obtain⟨Q,hQ⟩:∃Q:D→zav→Nat→Prop,Q=(fun d _ _=>D.val d=some (.tup [.fz (enc (zeP l size).1),.fz (enc (zeP l size).2)])):=⟨_,rfl⟩
 rw[←hQ]
 by_cases hz:V.code=0
 rotate_left
 ·have hz':(V.code=0)=False:=eq_false hz
  have e:zeP l size=(0,V):=by unfold zeP;rw[hV,if_pos hz]
  rw[e]at hQ
  refine zah (N:=23) hm hI8 7000 (lst []) ok7 Tryd.func7 rfl rfl (by simp) (by kernel_rfl) ?_
  repeat'(first|refine za6 hm hI8 7000 (lst []) zrY (by kernel_rfl) (by kernel_rfl) ?_|refine And.intro ?_ ?_|exact True.intro|refine rq fun _=>?_|refine rf fun _=>?_|simp only[go_sem,hV,hz',zrY,zag,zab,zae,zaa,Tryd.f7])
  all_goals first|done|rfl|(rw[hQ];done)|(rw[hQ];rfl)|(rw[hQ];simp only[go_sem];done)|(rw[hQ];simp only[go_sem];rfl)|(rw[hQ];trace_state)
 have hz':(V.code=0)=True:=eq_true hz
 have hf:(zaK l size).code=0:=by rw[hV];exact hz
 obtain⟨_,_,_,hs1,hs4⟩:=zej hf
 obtain⟨S,hS⟩:∃S:Nat,size=(S:Int):=⟨size.toNat,by omega⟩
 subst hS
 have hp:zjn l S:=znu hf (by omega) (by omega)
 have hcl:=zxZ (G:=G) hp
 have e:zeP l S=match zbk l S with|none=>(0,⟨17, -2⟩)|some l=>((l.length:Int),⟨0,0⟩):=by unfold zeP;rw[if_neg (by simp[hf]),Int.toNat_natCast];rfl
 refine zah (N:=23) hm hI8 7000 (lst []) ok7 Tryd.func7 rfl rfl (by simp) (by kernel_rfl) ?_
 repeat'(first|refine And.intro ?_ ?_|exact True.intro|refine rq fun _=>?_|refine rf fun _=>?_|simp only[go_sem,hV,hz',zrY,zag,zab,zae,zaa,Tryd.f7])
 cases hn:zgD l S with
 |none=>
  have hmd:zbk l S=none:=by unfold zbk;rw[hn];rfl
  rw[hn,hmd]at hcl
  rw[hmd]at e
  rw[e]at hQ
  refine zas.i (zcW (T:=7) (sid:=(7007,2)) (ds:=[.fz (enc l),.fz (.i .i64 (S:Int))]) (xs:=[enc l,.i .i64 (S:Int)]) rfl hcl (by simp only[go_sem]) ?_)
  repeat'(first|refine And.intro ?_ ?_|exact True.intro|refine rq fun _=>?_|refine rf fun _=>?_|simp only[go_sem,zaC,zxf,Option.isSome_none,Option.isSome_some,zag,zab,zae,zaa,Tryd.f7])
  all_goals first|done|rfl|(rw[hQ];done)|(rw[hQ];rfl)|(rw[hQ];simp only[go_sem];done)|(rw[hQ];simp only[go_sem];rfl)|(rw[hQ];trace_state)
 |some n=>
  have hmd:zbk l S=some (zc6 l S n):=by unfold zbk;rw[hn];rfl
  rw[hn,hmd]at hcl
  rw[hmd]at e
  rw[e]at hQ
  refine zas.i (zcW (T:=7) (sid:=(7007,2)) (ds:=[.fz (enc l),.fz (.i .i64 (S:Int))]) (xs:=[enc l,.i .i64 (S:Int)]) rfl hcl (by simp only[go_sem]) ?_)
  repeat'(first|refine And.intro ?_ ?_|exact True.intro|refine rq fun _=>?_|refine rf fun _=>?_|simp only[go_sem,zaC,zxf,Option.isSome_none,Option.isSome_some,zag,zab,zae,zaa,Tryd.f7])
  all_goals first|done|rfl|(rw[hQ];done)|(rw[hQ];rfl)|(rw[hQ];simp only[go_sem];done)|(rw[hQ];simp only[go_sem];rfl)|(rw[hQ];trace_state)
def I10:Tbl:=I9.add 13 (zAX zih fun _ _=>True)
attribute [go_sem] I10
set_option maxHeartbeats 4000000 in
theorem zDu:zap Tryd.prog G I10:=by
 refine zwg zCK hI9 fun l size _ _ _=>?_
 obtain⟨V,hV⟩:∃V,zaK l size=V:=⟨_,rfl⟩
 obtain⟨r,hr⟩:∃r,zih l size=r:=⟨_,rfl⟩
 rw[hr]
 obtain⟨Q,hQ⟩:∃Q:D→zav→Nat→Prop,Q=(fun d _ _=>D.val d=some (.tup [.fz (enc r.1),.fz (enc r.2.1),.fz (enc r.2.2)])):=⟨_,rfl⟩
 rw[←hQ]
 by_cases hz:V.code=0
 rotate_left
 ·have hz':(V.code=0)=False:=eq_false hz
  have e:zih l size=(zh8,false,V):=by unfold zih;rw[hV,if_pos hz]
  rw[e]at hr
  subst hr
  refine zah (N:=37) hm hI9 13000 (lst [1000003]) zCK Tryd.func13 rfl rfl (by simp) (by kernel_rfl) ?_
  repeat'(first|refine za6 hm hI9 13000 (lst [1000003]) zmR (by kernel_rfl) (by kernel_rfl) ?_|refine And.intro ?_ ?_|exact True.intro|refine rq fun _=>?_|refine rf fun _=>?_|simp only[go_sem,hV,hz',zmR,zag,zab,zae,zaa,Tryd.f13])
  all_goals first|done|rfl|(rw[hQ];done)|(rw[hQ];rfl)|(rw[hQ];simp only[go_sem];done)|(rw[hQ];simp only[go_sem];rfl)|(rw[hQ];trace_state)
 have hz':(V.code=0)=True:=eq_true hz
 have hf:(zaK l size).code=0:=by rw[hV];exact hz
 obtain⟨_,_,_,hs1,hs4⟩:=zej hf
 obtain⟨S,hS⟩:∃S:Nat,size=(S:Int):=⟨size.toNat,by omega⟩
 subst hS
 have e:zho l 1 S=r:=by rw[←hr];unfold zih;rw[if_neg (by simp[hf]),Int.toNat_natCast]
 refine zah (N:=37) hm hI9 13000 (lst [1000003]) zCK Tryd.func13 rfl rfl (by simp) (by kernel_rfl) ?_
 repeat'(first|refine And.intro ?_ ?_|exact True.intro|refine rq fun _=>?_|refine rf fun _=>?_|simp only[go_sem,hV,hz',zmR,zag,zab,zae,zaa,Tryd.f13])
 refine zak hm hI9 13000 (lst [1000003]) (ι:=zbw S 3 fun i=>zho l (i+1) (S-i)=r)
  ⟨fun q=>⟨frL [(0,.fz (.sl (l.map enc))),(1,.fz (.i .i64 S)),(4,.ptr (13004,0) 0),(6,.ptr (13006,1) 0),(8,.fz (.i .i64 ((q.i+1:Nat):Int)))],hpL [((13004,0),some ⟨[.fz (.i .i64 0),.full [],.full []],true,false⟩),((13006,1),some ⟨[.fz (.i .i64 0),.fz (.i .i64 0)],true,false⟩)],q.m⟩,fun q=>S-q.i⟩
  ⟨0,3,by omega,by omega,e⟩ (by kernel_rfl) ?_ ?_
 ·refine zaf ?_ ?_ ?_<;>simp only[go_sem]
  all_goals first|done|rfl|omega
 rintro⟨i,m,hi,hm2,hp⟩
 try simp only at hi hm2 hp
 rcases Nat.lt_or_ge i S with h1|h1
 rotate_left
 ·obtain rfl:i=S:=by omega
  rw[Nat.sub_self,zho]at hp
  subst hp
  have h5:((i:Int)+1≤(i:Int))=False:=eq_false (by omega)
  repeat'(first|refine And.intro ?_ ?_|exact True.intro|refine rq fun _=>?_|refine rf fun _=>?_|simp only[go_sem,h5,zag,zab,zae,zaa,Tryd.f13])
  all_goals first|done|rfl|(rw[hQ];done)|(rw[hQ];rfl)|(rw[hQ];simp only[go_sem];done)|(rw[hQ];simp only[go_sem];rfl)|(rw[hQ];trace_state)
 have hep:zjn l (i+1):=znu hf (by omega) (by omega)
 have hcl:=zx0 (G:=G) hep
 rw[show S-i=(S-(i+1))+1 by omega,zho]at hp
 have h5:((i:Int)+1≤(S:Int))=True:=eq_true (by omega)
 repeat'(first|refine And.intro ?_ ?_|exact True.intro|refine rq fun _=>?_|refine rf fun _=>?_|simp only[go_sem,h5,zag,zab,zae,zaa,Tryd.f13])
 have hB4:((i+1:Nat):Int)=(i:Int)+1:=by simp
 cases hn:zbk l (i+1)with
 |none=>
  have hm0:zgD l (i+1)=none:=by
   unfold zbk at hn
   cases h:zgD l (i+1)with
   |none=>rfl
   |some n=>rw[h]at hn;cases hn
  rw[hn]at hcl hp
  rw[hm0,hB4]at hcl
  simp only at hp
  subst hp
  refine zas.i (zdx (args':=[.fz (enc l),.fz (.i .i64 ((i:Int)+1)),.fn 26 [.ptr (13009,m) 0]]) (H':=hpL [((13009,m),some ⟨[.fz (.i .i64 0),.fz (.sl []),.fz (.sl [])],true,false⟩),((13004,0),some ⟨[.fz (.i .i64 0),.full [],.full []],true,false⟩),((13006,1),some ⟨[.fz (.i .i64 0),.fz (.i .i64 0)],true,false⟩)]) (n':=m+1) rfl ?_ (zcW (T:=7) (sid:=(13009,m)) (ds:=[.fz (enc l),.fz (.i .i64 ((i:Int)+1))]) (xs:=[enc l,.i .i64 ((i:Int)+1)]) rfl hcl (by simp only[go_sem]) ?_))
  ·simp only[go_sem,zg5]
   refine zcu [] [] [] ?_ ?_ ?_ ?_ ?_<;>simp only[go_sem]
   all_goals first|done|omega
  repeat'(first|refine And.intro ?_ ?_|exact True.intro|refine rq fun _=>?_|refine rf fun _=>?_|simp only[go_sem,zaC,zii,Option.isSome_none,Option.isSome_some,zag,zab,zae,zaa,Tryd.f13])
  all_goals first|done|rfl|(rw[hQ];done)|(rw[hQ];rfl)|(rw[hQ];simp only[go_sem];done)|(rw[hQ];simp only[go_sem];rfl)|(rw[hQ];trace_state)
 |some ms=>
  have hm0:(zgD l (i+1)).isSome=true:=by
   unfold zbk at hn
   cases h:zgD l (i+1)with
   |none=>rw[h]at hn;cases hn
   |some n=>rfl
  rw[hn]at hcl hp
  rw[hm0,hB4]at hcl
  cases ms with
  |nil=>
   simp only at hp
   refine zas.i (zdx (args':=[.fz (enc l),.fz (.i .i64 ((i:Int)+1)),.fn 26 [.ptr (13009,m) 0]]) (H':=hpL [((13009,m),some ⟨[.fz (.i .i64 0),.fz (.sl []),.fz (.sl [])],true,false⟩),((13004,0),some ⟨[.fz (.i .i64 0),.full [],.full []],true,false⟩),((13006,1),some ⟨[.fz (.i .i64 0),.fz (.i .i64 0)],true,false⟩)]) (n':=m+1) rfl ?_ (zcW (T:=7) (sid:=(13009,m)) (ds:=[.fz (enc l),.fz (.i .i64 ((i:Int)+1))]) (xs:=[enc l,.i .i64 ((i:Int)+1)]) rfl hcl (by simp only[go_sem]) ?_))
   ·simp only[go_sem,zg5]
    refine zcu [] [] [] ?_ ?_ ?_ ?_ ?_<;>simp only[go_sem]
    all_goals first|done|omega
   repeat'(first|refine And.intro ?_ ?_|exact True.intro|refine rq fun _=>?_|refine rf fun _=>?_|simp only[go_sem,zaC,zii,zh8,zag,zab,zae,zaa,Tryd.f13])
   all_goals
    refine⟨⟨i+1,m+1,by omega,by omega,hp⟩,by simp only;omega,?_⟩
    refine zaf ?_ ?_ ?_<;>simp only[go_sem,hB4,Int.natCast_add]
    all_goals first|done|rfl|omega
  |cons x ms=>
   simp only at hp
   subst hp
   have hx1:((0:Int)<x.size)=True:=eq_true (by rw[zhB hn];omega)
   refine zas.i (zdx (args':=[.fz (enc l),.fz (.i .i64 ((i:Int)+1)),.fn 26 [.ptr (13009,m) 0]]) (H':=hpL [((13009,m),some ⟨[.fz (.i .i64 0),.fz (.sl []),.fz (.sl [])],true,false⟩),((13004,0),some ⟨[.fz (.i .i64 0),.full [],.full []],true,false⟩),((13006,1),some ⟨[.fz (.i .i64 0),.fz (.i .i64 0)],true,false⟩)]) (n':=m+1) rfl ?_ (zcW (T:=7) (sid:=(13009,m)) (ds:=[.fz (enc l),.fz (.i .i64 ((i:Int)+1))]) (xs:=[enc l,.i .i64 ((i:Int)+1)]) rfl hcl (by simp only[go_sem]) ?_))
   ·simp only[go_sem,zg5]
    refine zcu [] [] [] ?_ ?_ ?_ ?_ ?_<;>simp only[go_sem]
    all_goals first|done|omega
   repeat'(first|refine And.intro ?_ ?_|exact True.intro|refine rq fun _=>?_|refine rf fun _=>?_|simp only[go_sem,zaC,zii,hx1,zag,zab,zae,zaa,Tryd.f13])
   all_goals first|done|rfl|(rw[hQ];done)|(rw[hQ];rfl)|(rw[hQ];simp only[go_sem];done)|(rw[hQ];simp only[go_sem];rfl)|(rw[hQ];trace_state)
end
end Go.Proofs.YtkkffhphodngkaaDoor
namespace Go.Proofs.YtkkffhphodngkaaDoor
open Go Go.Abs Go.Proofs
def zem (m:zal)(f:Abs.zac):Bool×zcV:=if(za9 m).code≠0 then(false,za9 m)else if(zaz false f).code≠0 then(false,zaz false f)else if(zch m f).code≠0 then(false,zch m f)else(zbU m f [],⟨0,0⟩)
theorem zx5 {m:zal}{f:Abs.zac}(hm:zrk m)(h:(zaz false f).code=0):flP m f:=by
 have h1:=zb1 h
 have h2:=zaZ h
 have:=zfX h1 []
 exact⟨hm.c,hm.r,⟨h1,by omega⟩,by omega⟩
theorem zmT {m:zal}{f:Abs.zac}(h:(zch m f).code=0):zch m f=⟨0,0⟩:=by
 unfold zch at h ⊢
 split at h
 ·exact absurd h (by decide)
 ·rename_i h1
  split at h
  ·exact absurd h (by decide)
  ·rename_i h2;rw[if_neg h1,if_neg h2]
theorem znF {m:zal}{f:Abs.zac}(h1:(za9 m).code=0)(h2:(zaz false f).code=0)(h3:(zch m f).code=0):zem m f=(zbU m f [],⟨0,0⟩):=by
 unfold zem
 rw[if_neg (by simp[h1]),if_neg (by simp[h2]),if_neg (by simp[h3])]
def H1:Tbl:=A21.add 16 (zwf zem fun _ _=>True)
attribute [go_sem] H1
set_option maxHeartbeats 4000000 in
theorem hH1:zap Tryd.prog GA H1:=by
 refine zjZ zza zvu fun m f _ _ _=>?_
 by_cases h1:(za9 m).code=0
 rotate_left
 ·have e:zem m f=(false,za9 m):=by unfold zem;rw[if_pos h1]
  obtain⟨X,hX⟩:∃X,za9 m=X:=⟨_,rfl⟩
  rw[hX]at e h1
  rw[e]
  refine zah (N:=32) hm zvu 16000 (lst []) zza Tryd.func16 rfl rfl (by simp) (by kernel_rfl) ?_
  repeat'(first|refine rq fun _=>?_|simp only[go_sem,h1,hX,zae,zag,Tryd.f16])
 have hmv:=(zmE h1).v
 have hmz:=zmF h1
 by_cases h2:(zaz false f).code=0
 rotate_left
 ·have e:zem m f=(false,zaz false f):=by unfold zem;rw[if_neg (by simp[h1]),if_pos h2]
  obtain⟨X,hX⟩:∃X,zaz false f=X:=⟨_,rfl⟩
  rw[hX]at e h2
  rw[e]
  refine zah (N:=32) hm zvu 16000 (lst []) zza Tryd.func16 rfl rfl (by simp) (by kernel_rfl) ?_
  repeat'(first|refine rq fun _=>?_|simp only[go_sem,hmz,h2,hX,zae,zag,Tryd.f16])
 have hck:=zeU h2
 have hfl:=zx5 hmv h2
 have hvp:=zwv (zzB hmv h2) [] (by simp)
 by_cases h3:(zch m f).code=0
 rotate_left
 ·have e:zem m f=(false,zch m f):=by unfold zem;rw[if_neg (by simp[h1]),if_neg (by simp[h2]),if_pos h3]
  obtain⟨X,hX⟩:∃X,zch m f=X:=⟨_,rfl⟩
  rw[hX]at e h3
  rw[e]
  refine zah (N:=32) hm zvu 16000 (lst []) zza Tryd.func16 rfl rfl (by simp) (by kernel_rfl) ?_
  repeat'(first|refine zaF.i hfl fun _=>?_|refine rq fun _=>?_|simp only[go_sem,hmz,hck,h3,hX,zae,zag,Tryd.f16])
 have htz:=zmT h3
 rw[znF h1 h2 h3]
 obtain⟨b,hb⟩:∃b,zbU m f []=b:=⟨_,rfl⟩
 rw[hb]
 refine zah (N:=32) hm zvu 16000 (lst []) zza Tryd.func16 rfl rfl (by simp) (by kernel_rfl) ?_
 repeat'(first|refine zaF.i hfl fun _=>?_|refine zaF.i hvp fun _=>?_|refine rq fun _=>?_|simp only[go_sem,hmz,hck,htz,hb,zdB,zae,zag,Tryd.f16])
end Go.Proofs.YtkkffhphodngkaaDoor

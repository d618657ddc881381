/- several texts of this proof in one; no conditions -/
import Derived.Test.YtkkffhphodngkaaGreatDoorAT
import Derived.Test.YtkkffhphodngkaaGreatDoorY4
import Derived.Test.YtkkffhphodngkaaGreatDoorSH
import Derived.Test.YtkkffhphodngkaaGreatDoorY11
set_option maxRecDepth 100000
set_option maxHeartbeats 1000000
set_option linter.unusedSimpArgs false
namespace Go.Proofs.YtkkffhphodngkaaGreatDoor
open Go Go.Abs Go.Proofs
section
variable {G:Nat→List FD}
def zjt (p:Pd):zeT:=⟨p.name,p.arity,[]⟩
@[go_sem] theorem zCx {p:Pd}:enc (zjt p)= .agg [.s p.name.l,.i .i64 p.arity,.sl []]:=rfl
def zbT (l:List Pd):List D:=zad (l.map fun p=>enc (zjt p))
theorem zuV (l:List Pd):(zbT l).length=l.length*3:=by
 unfold zbT
 have h:=zaX (xs:=l.map fun p=>enc (zjt p)) (es:=3) fun i hi=>by
  have hi2:i<l.length:=by simpa using hi
  rw[List.getD_eq_getElem?_getD,List.getElem?_map,List.getElem?_eq_getElem hi2];rfl
 rw[h,List.length_map]
theorem zuU (p:Pd)(l:List Pd):zbT (p::l)=[.fz (.s p.name.l),.fz (.i .i64 p.arity),.fz (.sl [])]++zbT l:=rfl
theorem zyY:∀{l:List Pd} {i:Nat} (h:i<l.length),(zbT l|>.drop (i*3)|>.take 3)=[.fz (.s l[i].name.l),.fz (.i .i64 l[i].arity),.fz (.sl [])]
 |[],_,h=>by simp at h
 |p::l,0,_=>by rw[zuU];rfl
 |p::l,i+1,h=>by
  rw[zuU,Nat.add_mul,Nat.one_mul,Nat.add_comm,←List.drop_drop]
  exact zyY (l:=l) (by simpa using h)
theorem zqd {l:List Pd}{p:Pd}{i:Nat}(h:i<l.length)(e:l[i]=p)(hp:p∉l.take i):l.idxOf p=i:=by
 induction l generalizing i with
 |nil=>simp at h
 |cons x l ih=>
  cases i with
  |zero=>
   have e2:x=p:=e
   rw[List.idxOf_cons,e2,beq_self_eq_true];rfl
  |succ i=>
   rw[List.take_succ_cons]at hp
   have h1:x≠p:=fun e2=>hp (by rw[e2];simp)
   have h3:=ih (by simpa using h) (by simpa using e) fun h2=>hp (List.mem_cons_of_mem _ h2)
   rw[List.idxOf_cons,h3,beq_false_of_ne h1];rfl
theorem zAF (l:List Pd)(p:Pd):zbT (l++[p])=zbT l++[.fz (.s p.name.l),.fz (.i .i64 p.arity),.fz (.sl [])]:=by
 unfold zbT zad
 rw[List.map_append,List.flatMap_append]
 rfl
set_option maxHeartbeats 4000000 in
theorem f57 {y p:Pd}{id:Abs.Id}{H:zas}{n:Nat}{R:D→zas→Nat→Prop}(hid0:id.2<n){z:D}(ho:H id=some ⟨[.fz (.s p.name.l),.fz (.i .i64 p.arity),z],true,false⟩)
  (hR:∀n',n≤n'→R (.fz (.b (decide (y=p)))) H n'):zau Tryz.prog G 57 [.agg [.fz (.s y.name.l),.fz (.i .i64 y.arity),.fz (.sl [])],.ptr id 0] H n R:=by
 refine zdx zHH (fun hfr=>?_) hR
 obtain⟨Q,hQ⟩:∃Q:D→zas→Nat→Prop,Q=(fun d' H' n'=>d'= .fz (.b (decide (y=p)))∧n≤n'∧∀id,id.2<n→H' id=H id):=⟨_,rfl⟩
 rw[←hQ]
 have e:H=hpX [] H:=rfl
 rw[e]
 have hn0:∀id:Abs.Id,id.2<n→id≠(57002,n):=fun id h e=>by rw[e]at h;simp at h
 have hne:(id=(57002,n))=False:=eq_false (hn0 id hid0)
 by_cases h1:y.name=p.name
 ·have h1':(y.name.l=p.name.l)=True:=eq_true (by rw[h1])
  refine zag (N:=16) hm hI3 57000 (lst []) zHH Tryz.func57 rfl rfl (by simp) (by kernel_rfl) ?_
  repeat'(first|refine And.intro ?_ ?_|exact True.intro|refine rq fun _=>?_|refine rf fun _=>?_|simp only[go_sem,ho,h1',hne,Tryz.f57])
  all_goals
   rw[hQ]
   refine⟨?_,by omega,fun id hid=>?_⟩
   ·by_cases h2:y.arity=p.arity
    ·have:y=p:=by
      cases y;cases p;simp only at h1 h2;rw[h1,h2]
     simp[this]
    ·have:¬y=p:=fun e=>h2 (by rw[e])
     simp[this,h2]
   ·simp only[go_sem,hn0 id hid]
 ·have h1':(y.name.l=p.name.l)=False:=eq_false fun e=>h1 (by cases h:y.name;cases h2:p.name;rw[h,h2]at e;exact congrArg Str.mk e)
  refine zag (N:=16) hm hI3 57000 (lst []) zHH Tryz.func57 rfl rfl (by simp) (by kernel_rfl) ?_
  repeat'(first|refine And.intro ?_ ?_|exact True.intro|refine rq fun _=>?_|refine rf fun _=>?_|simp only[go_sem,ho,h1',hne,Tryz.f57])
  all_goals
   rw[hQ]
   refine⟨?_,by omega,fun id hid=>?_⟩
   ·have:¬y=p:=fun e=>h1 (by rw[e])
    simp[this]
   ·simp only[go_sem,hn0 id hid]
set_option maxHeartbeats 4000000 in
theorem f76 {l:List Pd}{p:Pd}{id a:Abs.Id}{vt:Bool}{H:zas}{n:Nat}{R:D→zas→Nat→Prop}(hid:id.2<n){z:D}(ho:H id=some ⟨[.fz (.s p.name.l),.fz (.i .i64 p.arity),z],true,false⟩)(hoa:H a=some ⟨zbT l,false,vt⟩)(hvt:vt=true→l=[])(hl:l.length≤1000000)
  (hR:∀n',n≤n'→R (.fz (.i .i64 (if p∈l then(l.idxOf p:Int)else-1))) H n'):zau Tryz.prog G 76 [.arr a 3 0 l.length,.fn 57 [.ptr id 0]] H n R:=by
 refine zdx zKe (fun hfr=>?_) hR
 obtain⟨Q,hQ⟩:∃Q:D→zas→Nat→Prop,Q=(fun d' H' n'=>d'= .fz (.i .i64 (if p∈l then(l.idxOf p:Int)else-1))∧n≤n'∧∀id,id.2<n→H' id=H id):=⟨_,rfl⟩
 rw[←hQ]
 have kq:=Kp.mk hQ
 clear hQ
 have e:H=hpX [] H:=rfl
 rw[e]
 have hrl:=zuV l
 refine zag (N:=19) hm hI3 76000 (lst []) zKe Tryz.func76 rfl rfl (by simp) (by kernel_rfl) ?_
 repeat'(first|refine And.intro ?_ ?_|exact True.intro|refine rq fun _=>?_|refine rf fun _=>?_|simp only[go_sem,hoa,Tryz.f76])
 refine zaq hm hI3 76000 (lst []) (ι:=zd7 l.length n fun i=>p∉l.take i)
  ⟨fun q=>⟨frL [(0,.arr a 3 0 l.length),(1,.fn 57 [.ptr id 0]),(6,.arr a 3 0 l.length),(7,.fz (.i .i64 l.length)),(8,.fz (.i .i64 q.i))],hpX [] H,q.m⟩,fun q=>l.length-q.i⟩
  ⟨0,n,by omega,Nat.le_refl _,by simp⟩ (by kernel_rfl) ?_ ?_
 ·refine zaO ?_ ?_ (fun id2 o2 ho2=>?_) ?_
  ·simp only[go_sem]
  ·simp only[go_sem]
  ·exact ho2
  ·first|omega|(simp only[go_sem];done)|(simp only[go_sem];omega)
 rintro⟨i,m,hi,hm1,hp⟩
 try simp only at hi hm1 hp
 rcases Nat.lt_or_ge i l.length with h1|h1
 ·obtain⟨y,hy⟩:∃y,l[i]=y:=⟨_,rfl⟩
  have g0:=zyY h1
  rw[hy]at g0
  have hv:vt=false:=by
   cases hv:vt with
   |false=>rfl
   |true=>rw[hvt hv]at h1;simp at h1
  have hrq:i*3+3≤l.length*3∧vt=false:=⟨by omega,hv⟩
  by_cases hyp:y=p
  ·have hd:decide (y=p)=true:=decide_eq_true hyp
   repeat'(first|refine zav.i (f57 (y:=y) (p:=p) (by omega) ho fun n' hn'=>?_)|refine zaJ.i hrq fun _=>?_|refine And.intro ?_ ?_|exact True.intro|refine rq fun _=>?_|refine rf fun _=>?_|simp only[go_sem,hoa,g0,hrl,h1,hd,Tryz.f76])
   all_goals
    rw[kq.out,if_pos (by rw[←hyp,←hy];exact List.getElem_mem h1),zqd h1 (by rw[hy,hyp]) hp]
    exact⟨rfl,by omega,fun _ _=>rfl⟩
  ·have hd:decide (y=p)=false:=decide_eq_false hyp
   repeat'(first|refine zav.i (f57 (y:=y) (p:=p) (by omega) ho fun n' hn'=>?_)|refine zaJ.i hrq fun _=>?_|refine And.intro ?_ ?_|exact True.intro|refine rq fun _=>?_|refine rf fun _=>?_|simp only[go_sem,hoa,g0,hrl,h1,hd,Tryz.f76])
   all_goals
    refine⟨⟨i+1,n',by omega,by omega,?_⟩,by simp only;omega,?_⟩
    ·rw[List.take_succ_eq_append_getElem h1,hy]
     intro h2
     rcases List.mem_append.1 h2 with h2|h2
     ·exact hp h2
     ·exact hyp (List.mem_singleton.1 h2).symm
    refine zaO ?_ ?_ (fun id2 o2 ho2=>?_) ?_
    ·simp only[go_sem]
    ·simp only[go_sem]
    ·exact ho2
    ·first|omega|(simp only[go_sem];done)|(simp only[go_sem];omega)
 ·obtain rfl:i=l.length:=by omega
  rw[List.take_length]at hp
  repeat'(first|refine And.intro ?_ ?_|exact True.intro|refine rq fun _=>?_|refine rf fun _=>?_|simp only[go_sem,hoa,Nat.lt_irrefl,Tryz.f76])
  all_goals
   rw[kq.out,if_neg hp]
   exact⟨rfl,by omega,fun _ _=>rfl⟩
theorem f56 {l:List Pd}{p:Pd}{id a:Abs.Id}{vt:Bool}{H:zas}{n:Nat}{R:D→zas→Nat→Prop}(hid:id.2<n){z:D}(ho:H id=some ⟨[.fz (.s p.name.l),.fz (.i .i64 p.arity),z],true,false⟩)(hoa:H a=some ⟨zbT l,false,vt⟩)(hvt:vt=true→l=[])(hl:l.length≤1000000)
  (hR:∀n',n≤n'→R (.fz (.b (decide (p∈l)))) H n'):zau Tryz.prog G 56 [.arr a 3 0 l.length,.fn 57 [.ptr id 0]] H n R:=by
 refine zdx zJ5 (fun hfr=>?_) hR
 obtain⟨Q,hQ⟩:∃Q:D→zas→Nat→Prop,Q=(fun d' H' n'=>d'= .fz (.b (decide (p∈l)))∧n≤n'∧∀id,id.2<n→H' id=H id):=⟨_,rfl⟩
 rw[←hQ]
 have kq:=Kp.mk hQ
 clear hQ
 have e:H=hpX [] H:=rfl
 rw[e]
 refine zag (N:=9) hm hI3 56000 (lst []) zJ5 Tryz.func56 rfl rfl (by simp) (by kernel_rfl) ?_
 repeat'(first|refine zav.i (f76 (l:=l) (p:=p) hid ho hoa hvt hl fun n' hn'=>?_)|refine And.intro ?_ ?_|exact True.intro|refine rq fun _=>?_|refine rf fun _=>?_|simp only[go_sem,hoa,Tryz.f56])
 all_goals
  rw[kq.out]
  refine⟨?_,by omega,fun _ _=>rfl⟩
  by_cases h:p∈l
  ·simp[h]
  ·simp[h]
end
end Go.Proofs.YtkkffhphodngkaaGreatDoor
namespace Go.Proofs.YtkkffhphodngkaaGreatDoor
open Go Go.Abs Go.Proofs
section
variable {G:Nat→List FD}
def cfP (a b:Pd):Int:=if a.name=b.name then a.arity-b.arity else if a.name.l<b.name.l then-1 else 1
theorem zeZ {a b:Pd}:cfP a b<0↔ltP a b:=by
 unfold cfP ltP
 by_cases h:a.name=b.name
 ·rw[if_pos h]
  constructor
  ·intro h2;exact .inr ⟨h,by omega⟩
  ·rintro(h2|⟨_,h2⟩)
   ·rw[h]at h2;exact absurd h2 zh9
   ·omega
 ·rw[if_neg h]
  by_cases h2:a.name.l<b.name.l
  ·rw[if_pos h2];simp[h2]
  ·rw[if_neg h2];simp[h2,h]
theorem zKO {a b:Pd}(ha:0≤a.arity∧a.arity≤1000000)(hb:0≤b.arity∧b.arity≤1000000):zau Tryz.prog G 59 [.fz (.agg [.s a.name.l,.i .i64 a.arity,.sl []]),.fz (.agg [.s b.name.l,.i .i64 b.arity,.sl []])] H0 0 (fun d _ _=>D.val d=some (.fz (.i .i64 (cfP a b)))):=by
 rw[zes]
 by_cases h:a.name=b.name
 ·have e:cfP a b=a.arity-b.arity:=by unfold cfP;rw[if_pos h]
  have h':(a.name.l=b.name.l)=True:=eq_true (by rw[h])
  rw[e]
  refine zag (N:=20) hm hI3 59000 (lst []) zFA Tryz.func59 rfl rfl (by simp) (by kernel_rfl) ?_
  repeat'(first|refine And.intro ?_ ?_|exact True.intro|refine rq fun _=>?_|refine rf fun _=>?_|simp only[go_sem,h',zae,Tryz.f59])
  all_goals first|done|rfl|omega
 ·have h':(a.name.l=b.name.l)=False:=eq_false fun e=>h (by cases h2:a.name;cases h3:b.name;rw[h2,h3]at e;exact congrArg Str.mk e)
  by_cases h2:a.name.l<b.name.l
  ·have e:cfP a b= -1:=by unfold cfP;rw[if_neg h,if_pos h2]
   have h3:Op.bytesLess a.name.l b.name.l=true:=by rw[zcE];exact decide_eq_true h2
   rw[e]
   refine zag (N:=20) hm hI3 59000 (lst []) zFA Tryz.func59 rfl rfl (by simp) (by kernel_rfl) ?_
   repeat'(first|refine And.intro ?_ ?_|exact True.intro|refine rq fun _=>?_|refine rf fun _=>?_|simp only[go_sem,h',h3,zae,Tryz.f59])
   all_goals first|done|rfl|omega
  ·have e:cfP a b=1:=by unfold cfP;rw[if_neg h,if_neg h2]
   have h3:Op.bytesLess a.name.l b.name.l=false:=by rw[zcE];exact decide_eq_false h2
   rw[e]
   refine zag (N:=20) hm hI3 59000 (lst []) zFA Tryz.func59 rfl rfl (by simp) (by kernel_rfl) ?_
   repeat'(first|refine And.intro ?_ ?_|exact True.intro|refine rq fun _=>?_|refine rf fun _=>?_|simp only[go_sem,h',h3,zae,Tryz.f59])
   all_goals first|done|rfl|omega
def zgL (p:Pd):List FD:=[.s p.name.l,.i .i64 p.arity,.sl []]
def zjh:List FD→Pd
 |[.s n,.i _ a,_]=>⟨⟨n⟩,a⟩
 |_=>default
theorem ze5 (p:Pd):zjh (zgL p)=p:=by cases p;rfl
theorem znv (l:List Pd):zbT l=zad ((l.map zgL).map .agg):=by unfold zbT;rw[List.map_map];rfl
theorem zHV {id':Abs.Id}{l:List Pd}{bx vt:Bool}{H:zas}{n:Nat}(hl:∀p∈l,0≤p.arity∧p.arity≤1000000)(ho:H id'=some ⟨zbT l,bx,vt⟩):
  zau Tryz.prog G 58 [.arr id' 3 0 l.length,.fn 59 []] H n fun d H' n'=>d= .tup []∧∃S:List Pd,S.Perm l∧(S.Pairwise fun a b=>¬ltP b a)∧H'=zaE H id' (some ⟨zbT S,bx,vt⟩)∧n'=n:=by
 have hin:∀{r:List FD},(∃p:Pd,r=zgL p∧0≤p.arity∧p.arity≤1000000)→zgL (zjh r)=r∧0≤(zjh r).arity∧(zjh r).arity≤1000000:=by
  rintro r ⟨p,rfl,h⟩
  rw[ze5];exact⟨rfl,h⟩
 have h:=zog (P:=Tryz.prog) (G:=G) (f:=58) (g:=59) (k:=3) (pre:=fun r=>∃p:Pd,r=zgL p∧0≤p.arity∧p.arity≤1000000) (cmp:=fun x y=>cfP (zjh x) (zjh y)) (by omega) zLH
  (fun α _ enc hk h1 cf hO blk off cap d w hc hH hb hs=>Tryz.slices_SortFunc_f58 enc hk h1 cf hO 59 #[] blk off cap d w zFA hc hH hb hs) Tryz.slices_SortFunc_none_f58
  (fun x y hx hy=>by
   obtain⟨ex,hx2⟩:=hin hx
   obtain⟨ey,hy2⟩:=hin hy
   have:=zKO (G:=G) hx2 hy2
   rw[←ex,←ey,ze5,ze5]
   exact this)
  (fun x _=>by rw[zeZ];exact zfw) (fun x y z _ _ _=>by rw[zeZ,zeZ,zeZ];exact zgo)
  (fun x y z _ _ _=>by
   rw[zeZ,zeZ,zeZ]
   intro h1 h2 h3
   by_cases e:zjh x=zjh y
   ·rw[e]at h3;exact h2 h3
   ·exact h2 (zgo (zoY h1 e) h3))
  (id':=id') (rows:=l.map zgL) (n:=n) (H:=H) (bx:=bx) (vt:=vt) (fun r hr=>by
   obtain⟨p,hp,rfl⟩:=List.mem_map.1 hr
   exact⟨⟨p,rfl,hl p hp⟩,rfl,fun y hy=>by
    unfold zgL at hy
    simp only[List.mem_cons,List.not_mem_nil,or_false]at hy
    rcases hy with rfl|rfl|rfl<;>rfl⟩) (by rw[ho,znv])
 rw[List.length_map]at h
 refine zaG h ?_
 rintro d H' n' ⟨rfl,rows',hp,hs,rfl,rfl⟩
 have he:rows'=(rows'.map zjh).map zgL:=by
  rw[List.map_map]
  have:∀r∈rows',(zgL∘zjh) r=r:=fun r hr=>by
   obtain⟨p,_,rfl⟩:=List.mem_map.1 (hp.mem_iff.1 hr)
   show zgL (zjh (zgL p))=_
   rw[ze5]
  rw[List.map_congr_left this,List.map_id'']
  exact fun _=>rfl
 refine⟨rfl,rows'.map zjh,?_,?_,by rw[znv,←he],rfl⟩
 ·have:=hp.map zjh
  rw[List.map_map]at this
  have e2:l.map (zjh∘zgL)=l:=by
   rw[List.map_congr_left (f:=zjh∘zgL) (g:=id) (fun p _=>ze5 p),List.map_id]
  rwa [e2]at this
 ·rw[List.pairwise_map]
  refine hs.imp fun{a b} h3=>?_
  rwa [zeZ]at h3
def HHs (acc:List Pd)(g:Nat):List (Abs.Id×Option O):=
  [((39003,1),some ⟨[.fz (.i .i64 0),.full [],.arr (55025,g) 3 0 acc.length],true,false⟩),
   ((39005,2),some ⟨[.fn 55 [.ptr (39003,1) 0,.ptr (39005,2) 0]],true,false⟩),
   ((55025,g),some ⟨zbT acc,false,acc.isEmpty⟩)]
theorem zDQ (f:Abs.zab):pds f=(if f.kind=2 then[⟨f.name,(f.words.length:Int)⟩]else[])++zdJ f.subs:=by cases f;rw[pds];rfl
theorem ziR {fs:List Abs.zab}{j:Nat}(h:j<fs.length):zdJ (fs.take (j+1))=zdJ (fs.take j)++pds fs[j]:=by
 have hap:∀a b:List Abs.zab,zdJ (a++b)=zdJ a++zdJ b:=by
  intro a b
  induction a with
  |nil=>rfl
  |cons x a ih=>rw[List.cons_append,zdJ,zdJ,ih,List.append_assoc]
 rw[List.take_succ_eq_append_getElem h,hap,zdJ,zdJ,List.append_nil]
theorem zja (l a b:List Pd):zdP l (a++b)=zdP (zdP l a) b:=by unfold zdP;rw[List.foldl_append]
theorem zxK {fs:List Abs.zab}(j:Nat):(zdJ (fs.take j)).length≤(zdJ fs).length:=by
 induction fs generalizing j with
 |nil=>simp
 |cons f fs ih=>
  cases j with
  |zero=>simp[zdJ]
  |succ j=>
   rw[List.take_succ_cons,zdJ,zdJ,List.length_append,List.length_append]
   have:=ih j;omega
set_option maxHeartbeats 8000000 in
theorem f55:∀(k:Nat) (f:Abs.zab) (acc:List Pd) (g n:Nat) (X:zas),f.size≤k→(enc f).Wf→g<n→2<n→acc.length+(pds f).length≤1000000→
  (∀id o,X id=some o→id.2<n∧id.1≠39003∧id.1≠39005∧id.1≠55025)→
  zau Tryz.prog G 55 [.fz (enc f),.ptr (39003,1) 0,.ptr (39005,2) 0] (hpX (HHs acc g) X) n
   (fun d' H' n'=>d'= .tup []∧n≤n'∧(∃g',g'<n'∧zfX H' (HHs (zdP acc (pds f)) g'))∧∀id o,X id=some o→H' id=some o):=by
 intro k
 induction k with
 |zero=>intro f acc g n X hs;have:=f.size_pos;omega
 |succ k ih=>
  intro f acc g n X hs hw hg hn hlen hX
  obtain⟨Q,hQ⟩:∃Q:D→zas→Nat→Prop,Q=(fun d' H' n'=>d'= .tup []∧n≤n'∧(∃g',g'<n'∧zfX H' (HHs (zdP acc (pds f)) g'))∧∀id o,X id=some o→H' id=some o):=⟨_,rfl⟩
  rw[←hQ]
  have hX':∀{l:List (Abs.Id×Option O)} (id o),X id=some o→(id.2<n∧id.1≠39003∧id.1≠39005∧id.1≠55025→zhf id l)→hpX l X id=some o:=fun id o h1 h2=>(zcH (h2 (hX id o h1))).trans h1
  have hwl:f.words.length≤zbh:=by
   have h:=zbW (by have h:=hw;rw[zaI]at h;exact h) (FD.sl (f.words.map enc)) (by simp)
   have:=zdZ h
   simpa using this
  have hsl:f.subs.length≤zbh:=by
   have h:=zbW (by have h:=hw;rw[zaI]at h;exact h) (FD.sl (f.subs.map enc)) (by simp)
   have:=zdZ h
   simpa using this
  have hsw:∀g∈f.subs,(enc g).Wf:=fun g hg=>zfZ (zbW (by have h:=hw;rw[zaI]at h;exact h) (FD.sl (f.subs.map enc)) (by simp)) _ (List.mem_map_of_mem hg)
  have hss:∀g∈f.subs,g.size≤k:=fun g hg=>by have:=zab.size_sub hg;omega
  unfold zbh at hwl hsl
  rw[zDQ]at hlen hQ
  rw[List.length_append]at hlen
  rw[zja]at hQ
  obtain⟨p,hp⟩:∃p:Pd,p=⟨f.name,(f.words.length:Int)⟩:=⟨_,rfl⟩
  rw[←hp]at hlen hQ
  obtain⟨B0,hB0⟩:∃B0,zdP acc (if f.kind=2 then[p]else[])=B0:=⟨_,rfl⟩
  have hB0l:B0.length≤acc.length+(if f.kind=2 then[p]else[]).length:=by rw[←hB0];exact zgC _ _
  rw[hB0]at hQ
  obtain⟨B,hB⟩:∃B:Nat→List Pd,B=fun j=>zdP B0 (zdJ (f.subs.take j)):=⟨_,rfl⟩
  have hBz:B 0=B0:=by rw[hB];rfl
  have hBs:∀j (h:j<f.subs.length),B (j+1)=zdP (B j) (pds f.subs[j]):=fun j h=>by rw[hB];simp only[ziR h,zja]
  have hBl:∀j (h:j<f.subs.length),(B j).length+(pds f.subs[j]).length≤1000000:=fun j h=>by
   rw[hB]
   have h1:=zgC (zdJ (f.subs.take j)) B0
   have h2:=zxK (fs:=f.subs) (j+1)
   rw[ziR h,List.length_append]at h2
   simp only
   omega
  have hBe:zdP B0 (zdJ f.subs)=B f.subs.length:=by rw[hB];simp only[List.take_length]
  rw[hBe]at hQ
  have kQ:=Kp.mk hQ
  have kI:=Kp.mk ih
  have kS:=Kp.mk hsw
  have kZ:=Kp.mk hss
  have kx:=Kp.mk hX
  have kX:=Kp.mk @hX'
  have kBs:=Kp.mk hBs
  have kBl:=Kp.mk hBl
  clear hX' hQ ih hsw hss hX hBs hBl hBe hB
  have h3:(f.kind=2∧p∈acc)∨(f.kind=2∧p∉acc)∨¬f.kind=2:=by
   by_cases hk:f.kind=2
   ·by_cases hin:p∈acc
    ·exact .inl ⟨hk,hin⟩
    ·exact .inr (.inl ⟨hk,hin⟩)
   ·exact .inr (.inr hk)
  rcases h3 with⟨hk,hin⟩|⟨hk,hin⟩|hk
  case' inl=>
   have hb1:zdP acc [p]=acc:=by show zdQ acc p=acc;unfold zdQ;rw[if_pos hin]
   have hd:decide (p∈acc)=true:=decide_eq_true hin
   have hk':(f.kind=2)=True:=eq_true hk
   rw[if_pos hk,hb1]at hB0
   obtain⟨nw,hnw⟩:∃b:Bool,b=false:=⟨_,rfl⟩
  case' inr.inl=>
   have hb1:zdP acc [p]=acc++[p]:=by show zdQ acc p=acc++[p];unfold zdQ;rw[if_neg hin]
   have hd:decide (p∈acc)=false:=decide_eq_false hin
   have hk':(f.kind=2)=True:=eq_true hk
   rw[if_pos hk,hb1]at hB0
   obtain⟨nw,hnw⟩:∃b:Bool,b=true:=⟨_,rfl⟩
  case' inr.inr=>
   have hb1:zdP acc []=acc:=rfl
   have hd:True:=trivial
   have hk':(f.kind=2)=False:=eq_false hk
   rw[if_neg hk,hb1]at hB0
   obtain⟨nw,hnw⟩:∃b:Bool,b=false:=⟨_,rfl⟩
   obtain⟨g1,m1,hgm⟩:∃g1 m1:Nat,g1=g∧m1=n+1:=⟨_,_,rfl,rfl⟩
  all_goals
   subst hB0
   have htk:(zbT acc).take (acc.length*3)=zbT acc:=by rw[←zuV];exact List.take_length
   have hfl:zad [FD.agg [FD.s f.name.l,FD.i .i64 (f.words.length:Int),FD.sl []]]=[.fz (.s f.name.l),.fz (.i .i64 (f.words.length:Int)),.fz (.sl [])]:=rfl
   have hap:acc.length*3≤(zbT acc).length∧fits (acc.length+1) 48:=⟨by rw[zuV];omega,by unfold zbh;omega,by omega⟩
   refine zag (N:=38) hm hI3 55000 (lst [25]) zLG Tryz.func55 rfl rfl (by simp) (by kernel_rfl) ?_
   repeat'(first|(refine zav.i (f56 (l:=acc) (p:=p) (vt:=acc.isEmpty) (z:= .full []) (by simp only;omega) (by rw[hp];simp only[go_sem,HHs]) (by simp only[go_sem,HHs]) (fun h=>List.isEmpty_iff.1 h) (by omega) fun n' hn'=>?_);obtain⟨g1,m1,hgm⟩:∃g1 m1:Nat,g1=(if nw=true then n' else g)∧m1=(if nw=true then n'+1 else n'):=⟨_,_,rfl,rfl⟩)|refine zaJ.i hap fun _=>?_|refine And.intro ?_ ?_|exact True.intro|refine rq fun _=>?_|refine rf fun _=>?_|simp only[go_sem,hk',hd,HHs,zae,zaa,Tryz.f55])
   try simp only[hnw,if_true,if_false,Bool.false_eq_true]at hgm
   refine zaq hm hI3 55000 (lst [25]) (ι:=zhC f.subs.length (n+1) fun _=>True)
    ⟨fun q=>⟨frL [(1,.ptr (39003,1) 0),(2,.ptr (39005,2) 0),(28,.fz (.sl (f.subs.map enc))),(29,.fz (.i .i64 f.subs.length)),(30,.fz (.i .i64 q.i))],hpX (HHs (B q.i) q.g) X,q.m⟩,fun q=>f.subs.length-q.i⟩
    ⟨0,g1,m1,by omega,by omega,by omega,trivial⟩ (by kernel_rfl) ?_ ?_
   ·obtain⟨rfl,rfl⟩:=hgm
    refine zaO ?_ ?_ (fun id o ho=>?_) ?_
    ·simp only[go_sem]
    ·simp only[go_sem,HHs,hBz,zAF,hp,htk,hfl,List.isEmpty_cons,Bool.and_false]
    ·refine kX.out id o ho fun h1=>?_
     ((repeat'(first|exact trivial|apply And.intro))<;>(rintro rfl;simp only at h1;omega))
    ·simp only[go_sem]
   rintro⟨j,g2,m2,hj,hg2,hm2,_⟩
   try simp only at hj hg2 hm2
   rcases Nat.lt_or_ge j f.subs.length with h2|h2
   ·have hmem:=List.getElem_mem h2
    have hBj:=kBs.out j h2
    have hz:=kZ.out _ hmem
    have ih2:=kI.out f.subs[j] (B j) g2 (m2+1) X hz (kS.out _ hmem) (by omega) (by omega) (kBl.out j h2) (fun id o ho=>by have:=kx.out id o ho;omega)
    rw[zaI]at ih2
    repeat'(first|refine And.intro ?_ ?_|exact True.intro|refine rq fun _=>?_|refine rf fun _=>?_|simp only[go_sem,h2,HHs,zae,zaa,Tryz.f55])
    refine zav.i (zdp rfl (zc1 (by simp only[go_sem,zf2]) (by simp only[go_sem,HHs]) (fun id o ho=>?_) (Nat.le_refl _) (zaG ih2 ?_)))
    ·refine kX.out id o ho fun h1=>?_
     ((repeat'(first|exact trivial|apply And.intro))<;>(rintro rfl;simp only at h1;omega))
    rintro d' H' n' ⟨rfl,e1,⟨g3,hg3,e2⟩,e3⟩
    rw[←hBj]at e2
    simp only[go_sem,HHs]at e2
    obtain⟨b1,b2,b3⟩:=e2
    rw[show H'=hpX [] H' from rfl]
    repeat'(first|refine And.intro ?_ ?_|exact True.intro|refine rq fun _=>?_|refine rf fun _=>?_|simp only[go_sem,h2,HHs,zae,zaa,Tryz.f55])
    refine⟨⟨j+1,g3,n',by omega,by omega,by omega,trivial⟩,by simp only;omega,?_⟩
    refine zaO ?_ ?_ (fun id o ho=>?_) ?_
    ·simp only[go_sem]
    ·simp only[go_sem,HHs,b1,b2,b3]
    ·exact e3 id o ho
    ·simp only[go_sem]
   ·obtain rfl:j=f.subs.length:=by omega
    repeat'(first|refine And.intro ?_ ?_|exact True.intro|refine rq fun _=>?_|refine rf fun _=>?_|simp only[go_sem,Nat.lt_irrefl,HHs,zae,zaa,Tryz.f55])
    all_goals
     rw[kQ.out]
     refine⟨rfl,by omega,⟨g2,by omega,?_⟩,fun id o ho=>kX.out id o ho fun h1=>?_⟩
     ·simp only[go_sem,HHs]
     ·((repeat'(first|exact trivial|apply And.intro))<;>(rintro rfl;simp only at h1;omega))
end
end Go.Proofs.YtkkffhphodngkaaGreatDoor
namespace Go.Proofs.YtkkffhphodngkaaGreatDoor
open Go Go.Abs Go.Proofs
section
variable {G:Nat→List FD}
structure zB1 (n n0:Nat)(p:Nat→Prop) where
 i:Nat
 g:Nat
 h:Nat
 m:Nat
 hi:i≤n
 hg:g<m
 hh:h<m
 hm:n0≤m
 hp:p i
theorem zk2:∀{l:List (Abs.Id×Option O)} {id:Abs.Id} {o:O},hpL l id=some o→id∈l.map (·.1)
 |[],id,o,h=>by cases h
 |(a,b)::l,id,o,h=>by
  by_cases e:id=a
  ·rw[e];simp
  ·have h2:hpL l id=some o:=by
    rw[←h]
    show hpL l id=if id=a then b else hpL l id
    rw[if_neg e]
   rw[List.map_cons]
   exact List.mem_cons_of_mem _ (zk2 h2)
theorem zr2 (l:List Abs.zab):zaL l=zdr (zc9 (l.flatMap zaP)):=by
 unfold zaL zdr zc9;rw[zgq]
mutual
theorem zo8:∀f:Abs.zab,(pds f).length≤f.size
 | .mk k nm ws s=>by
  rw[pds,List.length_append,zab.size]
  have h:=znp s
  split<;>simp<;>omega
theorem znp:∀fs:List Abs.zab,(zdJ fs).length≤zab.sizes fs
 |[]=>by simp[zdJ]
 |f::fs=>by
  rw[zdJ,List.length_append,zab.sizes]
  have h1:=zo8 f
  have h2:=znp fs
  omega
end
theorem ziQ:∀{l:List Abs.zab},(∀f∈l,(zaw false f).code=0)→(zdJ l).length≤200*l.length
 |[],_=>by simp[zdJ]
 |f::l,h=>by
  rw[zdJ,List.length_append,List.length_cons]
  have h1:=zo8 f
  have h2:=za7 (h f (by simp))
  have h3:=ziQ fun g hg=>h g (List.mem_cons_of_mem _ hg)
  omega
def sgP (l:List Abs.zab):Prop:=(∀f∈l,(zaw false f).code=0)∧l.length≤41
def c0 (w:Str):zaH:=⟨w,0⟩
def zve (l:List Abs.zab):zaB:=⟨0,(zaL l).map c0,(zhK l).map zjt⟩
set_option maxHeartbeats 8000000 in
theorem zL5 {l:List Abs.zab}(hw:(enc l).Wf)(hp:sgP l):zau Tryz.prog G 39 [.fz (enc l)] (hpL []) 0 (fun d H n=>∃g gc,g<n∧gc<n∧d= .agg [.fz (.i .i64 0),.arr (39039,gc) 2 0 (zaL l).length,.arr (55025,g) 3 0 (zhK l).length]∧H (55025,g)=some ⟨zbT (zhK l),false,(zhK l).isEmpty⟩∧H (39039,gc)=some ⟨zad (((zaL l).map c0).map enc),false,(zaL l).isEmpty⟩):=by
 obtain⟨Q,hQ⟩:∃Q:D→zas→Nat→Prop,Q=(fun d H n=>∃g gc,g<n∧gc<n∧d= .agg [.fz (.i .i64 0),.arr (39039,gc) 2 0 (zaL l).length,.arr (55025,g) 3 0 (zhK l).length]∧H (55025,g)=some ⟨zbT (zhK l),false,(zhK l).isEmpty⟩∧H (39039,gc)=some ⟨zad (((zaL l).map c0).map enc),false,(zaL l).isEmpty⟩):=⟨_,rfl⟩
 rw[←hQ]
 obtain⟨hv,hl⟩:=hp
 have hsw:∀f∈l,(enc f).Wf:=fun f hf=>zfZ hw _ (List.mem_map_of_mem hf)
 obtain⟨A,hA⟩:∃A:Nat→List Str,A=fun i=>(l.take i).flatMap zaP:=⟨_,rfl⟩
 have hA0:A 0=[]:=by rw[hA];rfl
 have hAs:∀i (h:i<l.length),A (i+1)=A i++zaP l[i]:=fun i h=>by
  rw[hA];simp only
  rw[List.take_succ_eq_append_getElem h,List.flatMap_append,List.flatMap_cons,List.flatMap_nil,List.append_nil]
 have hAe:A l.length=l.flatMap zaP:=by rw[hA];simp only[List.take_length]
 obtain⟨B,hB⟩:∃B:Nat→List Pd,B=fun i=>zdP [] (zdJ (l.take i)):=⟨_,rfl⟩
 have hB0:B 0=[]:=by rw[hB];rfl
 have hBs:∀i (h:i<l.length),B (i+1)=zdP (B i) (pds l[i]):=fun i h=>by rw[hB];simp only[ziR h,zja]
 have hBl:∀i (h:i<l.length),(B i).length+(pds l[i]).length≤1000000:=fun i h=>by
  have h1:=zgC (zdJ (l.take i)) []
  have h2:=ziQ (l:=l.take i) fun f hf=>hv f (List.mem_of_mem_take hf)
  have h3:=zo8 l[i]
  have h4:=za7 (hv _ (List.getElem_mem h))
  have h5:(l.take i).length≤41:=by rw[List.length_take];omega
  rw[hB];simp only[List.length_nil]at h1 ⊢;omega
 have hBe:∀S:List Pd,S.Perm (B l.length)→(S.Pairwise fun a b=>¬ltP b a)→S=zhK l:=fun S h1 h2=>by
  refine zst (U:=B l.length) (fun x=>?_) ?_ h1 h2
  ·rw[hB];simp only[List.take_length]
   rw[zjb,zgu];simp
  ·rw[hB];exact zjc _ _ List.Pairwise.nil
 have hBa:∀p∈B l.length,0≤p.arity∧p.arity≤1000000:=fun p hp=>by
  rw[hB]at hp;simp only[List.take_length]at hp
  rw[zjb,zgu]at hp
  rcases hp with hp|⟨f,hf,hp⟩
  ·simp at hp
  ·have:=zqu f (zb4 (hv f hf)) p hp
   omega
 rw[zr2,←hAe]at hQ
 have kb:=Kp.mk hv
 have kw:=Kp.mk hsw
 have kA:=Kp.mk hAs
 have kB:=Kp.mk hBs
 have kBl:=Kp.mk hBl
 have kBe:=Kp.mk hBe
 have kBa:=Kp.mk hBa
 have kq:=Kp.mk hQ
 clear hv hsw hA hAs hAe hB hBs hBl hBe hBa hQ hw
 refine zag (N:=46) hm hI3 39000 (lst [20,39]) zJT Tryz.func39 rfl rfl (by simp) (by kernel_rfl) ?_
 repeat'(first|refine And.intro ?_ ?_|exact True.intro|refine rq fun _=>?_|refine rf fun _=>?_|simp only[go_sem,HHs,zae,zac,zaa,Tryz.f39])
 refine zaq hm hI3 39000 (lst [20,39]) (ι:=zB1 l.length 3 fun i=>(A i).length≤i*1000000)
  ⟨fun q=>⟨frL [(2,.ptr (39002,0) 0),(3,.ptr (39003,1) 0),(4,.arr (39020,q.h) 1 0 (A q.i).length),(5,.ptr (39005,2) 0),(11,.fz (.sl (l.map enc))),(12,.fz (.i .i64 l.length)),(13,.fz (.i .i64 q.i))],
   hpL [((39003,1),some ⟨[.fz (.i .i64 0),.full [],.arr (55025,q.g) 3 0 (B q.i).length],true,false⟩),((39005,2),some ⟨[.fn 55 [.ptr (39003,1) 0,.ptr (39005,2) 0]],true,false⟩),((55025,q.g),some ⟨zbT (B q.i),false,((B q.i)).isEmpty⟩),((39020,q.h),some ⟨zad ((A q.i).map enc),false,(A q.i).isEmpty⟩),((39002,0),some ⟨[.fz (.i .i64 0),.fz (.sl []),.fz (.sl [])],true,false⟩)],q.m⟩,fun q=>l.length-q.i⟩
  ⟨0,4,3,5,by omega,by omega,by omega,by omega,by rw[hA0];simp⟩ (by kernel_rfl) ?_ ?_
 ·refine zbg [] [(39020,3),(55025,4)] [] ?_ ?_ ?_ ?_ ?_<;>simp only[go_sem,hA0,hB0]
  all_goals first|done|rfl|omega
 rintro⟨i,g,h,m,hi,hg,hh,hm2,hp⟩
 try simp only at hi hg hh hm2 hp
 rcases Nat.lt_or_ge i l.length with h1|h1
 ·obtain⟨x,hx⟩:∃x,l[i]=x:=⟨_,rfl⟩
  have hxm:x∈l:=by rw[←hx];exact List.getElem_mem h1
  have hcv:=kb.out x hxm
  have hcl:=zwA hcv
  have hcp:(cst x []).length≤1000000∧x.size≤1000000:=⟨hcl.2,by have:=za7 hcv;omega⟩
  have hs:=kA.out i h1
  rw[hx]at hs
  have hul:=hcl.1
  obtain⟨U,hU⟩:∃U,zaP x=U:=⟨_,rfl⟩
  rw[hU]at hs hul
  obtain⟨C,hC⟩:∃C,A i=C:=⟨_,rfl⟩
  rw[hC]at hs hp
  have hft:fits (C.length+U.length) 16:=⟨by unfold zbh;omega,by omega⟩
  repeat'(first|refine zaJ.i hcp fun _=>?_|refine zaJ.i hft fun _=>?_|refine zaJ.i (by simp only[List.length_map];exact hft) fun _=>?_|refine And.intro ?_ ?_|exact True.intro|refine rq fun _=>?_|refine rf fun _=>?_|simp only[go_sem,h1,hx,hU,hC,HHs,zae,zac,zaa,Tryz.f39])
  have hB:=kB.out i h1
  rw[hx]at hB
  have hBl:=kBl.out i h1
  rw[hx]at hBl
  obtain⟨V,hV⟩:∃V:Bool,V=(C.isEmpty&&(zad (C.map enc++U.map enc)).isEmpty):=⟨_,rfl⟩
  rw[←hV]
  have hV2:V=(C++U).isEmpty:=by rw[hV,←List.map_append,zbc];cases C<;>cases U<;>rfl
  have ih:=f55 (G:=G) x.size x (B i) g (m+2) (hpL [((39020,m+1),some ⟨zad (C.map enc++U.map enc),false,V⟩),((39002,0),some ⟨[.fz (.i .i64 0),.fz (.sl []),.fz (.sl [])],true,false⟩)]) (Nat.le_refl _) (kw.out x hxm) (by omega) (by omega) hBl (fun id o ho=>by
   have h2:=zk2 ho
   simp only[List.map_cons,List.map_nil,List.mem_cons,List.not_mem_nil,or_false]at h2
   rcases h2 with rfl|rfl<;>(refine⟨?_,?_,?_,?_⟩<;>simp only<;>omega))
  rw[zaI]at ih
  refine zav.i (zdp rfl (zc1 (by simp only[go_sem,zf2]) (by simp only[go_sem,HHs]) (fun id o ho=>?_) (Nat.le_refl _) (zaG ih ?_)))
  ·have h2:=zk2 ho
   simp only[List.map_cons,List.map_nil,List.mem_cons,List.not_mem_nil,or_false]at h2
   rcases h2 with rfl|rfl<;>(simp only[go_sem]at ho ⊢;exact ho)
  rintro d' H' n' ⟨rfl,e1,⟨g3,hg3,e2⟩,e3⟩
  rw[←hB]at e2
  simp only[go_sem,HHs]at e2
  obtain⟨b1,b2,b3⟩:=e2
  have b4:=e3 (39020,m+1) _ (by simp only[go_sem];rfl)
  have b5:=e3 (39002,0) _ (by simp only[go_sem];rfl)
  rw[show H'=hpX [] H' from rfl]
  repeat'(first|refine And.intro ?_ ?_|exact True.intro|refine rq fun _=>?_|refine rf fun _=>?_|simp only[go_sem,h1,HHs,zae,zac,zaa,Tryz.f39])
  refine⟨⟨i+1,g3,m+1,n',by omega,by omega,by omega,by omega,by rw[hs,List.length_append];omega⟩,by simp only;omega,?_⟩
  refine zbS ?_ (fun id o ho=>?_) ?_
  ·simp only[go_sem,hs,List.length_append]
  ·have h2:=zk2 ho
   simp only[List.map_cons,List.map_nil,List.mem_cons,List.not_mem_nil,or_false]at h2
   rcases h2 with rfl|rfl|rfl|rfl|rfl<;>(simp only[go_sem,hs,hV2,List.map_append,b1,b2,b3,b4,b5]at ho ⊢;first|exact ho)
  ·simp only[go_sem]
 ·obtain rfl:i=l.length:=by omega
  have hsg:=kBe.out
  have hba:=kBa.out
  obtain⟨N,hN⟩:∃N,A l.length=N:=⟨_,rfl⟩
  obtain⟨U,hU⟩:∃U,B l.length=U:=⟨_,rfl⟩
  rw[hU]at hsg hba
  repeat'(first|refine And.intro ?_ ?_|exact True.intro|refine rq fun _=>?_|refine rf fun _=>?_|simp only[go_sem,Nat.lt_irrefl,hN,hU,HHs,zae,zac,zaa,Tryz.f39])
  refine zav.i (znO (l:=N) (bx:=false) (vt:=N.isEmpty) (by simp only[go_sem,hN]) ?_)
  repeat'(first|refine And.intro ?_ ?_|exact True.intro|refine rq fun _=>?_|refine rf fun _=>?_|simp only[go_sem,hN,hU,HHs,zae,zac,zaa,Tryz.f39])
  rw[←zda N]
  refine zav.i (zmm (l:=zc9 N) (bx:=false) (vt:=N.isEmpty) (by simp only[go_sem]) ?_)
  repeat'(first|refine And.intro ?_ ?_|exact True.intro|refine rq fun _=>?_|refine rf fun _=>?_|simp only[go_sem,hN,hU,HHs,zae,zac,zaa,Tryz.f39])
  obtain⟨K,hK⟩:∃K,zdr (zc9 N)=K:=⟨_,rfl⟩
  rw[hK]
  have hKN:K.length≤N.length:=by
   rw[←hK]
   have h2:(zdr (zc9 N)).length≤(zc9 N).length:=by
    unfold zdr
    rw[List.length_map]
    exact Nat.le_trans (zc3 _) (by rw[List.length_map];exact Nat.le_refl _)
   rw[zda]at h2
   exact h2
  have hKl:K.length≤41000000:=by rw[hN]at hp;omega
  refine zaq hm hI3 39000 (lst [20,39]) (ι:=zhC K.length (m+1) fun _=>True)
   ⟨fun q=>⟨frL [(2,.ptr (39002,0) 0),(3,.ptr (39003,1) 0),(28,.arr (39020,h) 1 0 K.length),(29,.fz (.i .i64 K.length)),(30,.fz (.i .i64 q.i))],
    hpL [((39003,1),some ⟨[.fz (.i .i64 0),.arr (39039,q.g) 2 0 (K.take q.i).length,.arr (55025,g) 3 0 U.length],true,false⟩),((55025,g),some ⟨zbT U,false,U.isEmpty⟩),((39020,h),some ⟨zad ((K).map enc),false,N.isEmpty⟩),((39002,0),some ⟨[.fz (.i .i64 0),.fz (.sl []),.fz (.sl [])],true,false⟩),((39039,q.g),some ⟨zad (((K.take q.i).map c0).map enc),false,(K.take q.i).isEmpty⟩)],q.m⟩,fun q=>K.length-q.i⟩
   ⟨0,m,m+1,by omega,by omega,by omega,trivial⟩ (by kernel_rfl) ?_ ?_
  ·refine zbg [] [(39039,m)] [] ?_ ?_ ?_ ?_ ?_<;>simp only[go_sem,hK,zbT,List.take_zero,List.map_nil]
   all_goals first|done|rfl|omega
  rintro⟨j,gc,m2,hj,hgc,hm3,_⟩
  try simp only at hj hgc hm3
  rcases Nat.lt_or_ge j K.length with h2|h2
  ·obtain⟨w,hw⟩:∃w,K[j]=w:=⟨_,rfl⟩
   have ht:K.take (j+1)=K.take j++[w]:=by rw[List.take_succ_eq_append_getElem h2,hw]
   have htl:(K.take j).length=j:=by rw[List.length_take];omega
   have hNe:N.isEmpty=false:=by
    cases N with
    |nil=>rw[List.length_nil]at hKN;omega
    |cons=>rfl
   have hrq:j+1≤K.length∧N.isEmpty=false:=⟨h2,hNe⟩
   have hgd:(zad (K.map enc)).getD j .junk= .fz (.s w.l):=by rw[zmS h2,hw];rfl
   obtain⟨T,hT⟩:∃T,K.take j=T:=⟨_,rfl⟩
   rw[hT]at ht htl
   have hfc:(zad (T.map (enc∘c0))).length=j*2:=by rw[←List.map_map,zeA,List.length_map,htl]
   have hap:j*2≤(zad (T.map (enc∘c0))).length∧fits (j+1) 24:=⟨by omega,by unfold zbh;omega,by omega⟩
   have htk:(zad (T.map (enc∘c0))).take (j*2)=zad (T.map (enc∘c0)):=by rw[←hfc];exact List.take_length
   have hc1:(c0 w).name.l=w.l:=rfl
   have hc2:(c0 w).value=0:=rfl
   have hfe:(zad [FD.agg [FD.s w.l,FD.i .i64 0]]).isEmpty=false:=rfl
   repeat'(first|refine zaJ.i hap fun _=>?_|refine zaJ.i hrq fun _=>?_|refine And.intro ?_ ?_|exact True.intro|refine rq fun _=>?_|refine rf fun _=>?_|simp only[go_sem,h2,hw,hgd,hT,htl,HHs,zae,zac,zaa,Tryz.f39])
   refine⟨⟨j+1,m2,m2+1,by omega,by omega,by omega,trivial⟩,by simp only;omega,?_⟩
   refine zaj ?_ ?_ ?_<;>simp only[go_sem,ht,htl,htk,List.map_append,hc1,hc2,hfe,Bool.and_false]
   all_goals first|done|rfl|omega
  ·obtain rfl:j=K.length:=by omega
   repeat'(first|refine And.intro ?_ ?_|exact True.intro|refine rq fun _=>?_|refine rf fun _=>?_|simp only[go_sem,Nat.lt_irrefl,List.take_length,HHs,zae,zac,zaa,Tryz.f39])
   refine zav.i (zaG (zHV (l:=U) (bx:=false) (vt:=U.isEmpty) hba (by simp only[go_sem])) ?_)
   rintro d' H' n' ⟨rfl,S,hS1,hS2,rfl,rfl⟩
   have eS:=hsg S hS1 hS2
   have eL:=hS1.length_eq
   have eE:U.isEmpty=S.isEmpty:=by cases U<;>cases S<;>first|rfl|simp at eL
   rw[←eL,eE]
   repeat'(first|refine And.intro ?_ ?_|exact True.intro|refine rq fun _=>?_|refine rf fun _=>?_|simp only[go_sem,zaE,HHs,zae,zac,zaa,Tryz.f39])
   subst eS
   rw[kq.out,hN,hK]
   exact⟨g,gc,by omega,by omega,rfl,by simp only[go_sem],by simp only[go_sem]⟩
def I6:Tbl:=I5.add 39 (sp1 zve sgP)
attribute [go_sem] I6
theorem hI6:zan Tryz.prog G I6:=by
 refine zbE zJT hI5 fun l hp hw=>?_
 refine zaU (zL5 (G:=G) hw hp) ?_
 rintro d H n ⟨g,gc,hg,hgc,rfl,ho,hoc⟩
 unfold zve
 obtain⟨K,hK⟩:∃K,zaL l=K:=⟨_,rfl⟩
 obtain⟨S,hS⟩:∃S,zhK l=S:=⟨_,rfl⟩
 rw[hK]at hoc ⊢
 rw[hS]at ho ⊢
 refine⟨.agg [.fz (.i .i64 0),.fz (.sl ((K.map c0).map enc)),.fz (.sl ((S.map zjt).map enc))],H0,n,?_,rfl⟩
 have e:H0=hpL []:=rfl
 rw[e]
 refine zbg [] [] [((55025,g),(S.map zjt).map enc),((39039,gc),(K.map c0).map enc)] ?_ ?_ ?_ ?_ ?_<;>simp only[go_sem,ho,hoc]
 case refine_5=>exact⟨by rw[←List.map_map];exact zdf _,by rw[←List.map_map];exact zdf _⟩
 refine⟨⟨by rw[←List.map_map];unfold zbT;rw[List.map_map];rfl,fun h=>by rw[List.isEmpty_iff.1 h];rfl⟩,fun h=>by rw[List.isEmpty_iff.1 h];rfl⟩
end
end Go.Proofs.YtkkffhphodngkaaGreatDoor
namespace Go.Proofs.YtkkffhphodngkaaGreatDoor
open Go Go.Abs Go.Proofs
section
variable {G:Nat→List FD}
structure zzk (n n0:Nat)(p:Nat→Nat→Prop) where
 i:Nat
 v:Nat
 m:Nat
 hi:i≤n
 hm:n0≤m
 hp:p i v
def zlj (r:zeT):Pd:=⟨r.name,r.arity⟩
def zvV:Option Nat→Int×Bool
 |some n=>((n:Int),true)
 |none=>(0,false)
def zCk (m:zaB)(size:Int):Int×Bool:=zvV (zmd size.toNat m.consts.length (m.rels.map zlj))
structure zIt (m:zaB)(size:Int):Prop where
 s:1≤size∧size≤4
 a:∀r∈m.rels,0≤r.arity∧r.arity≤3
 c:m.consts.length≤100000000
 r:m.rels.length≤100000000
def I7:Tbl:=I6.add 40 (zBW zCk zIt)
attribute [go_sem] I7
set_option maxHeartbeats 8000000 in
theorem hI7:zan Tryz.prog G I7:=by
 refine zpf zJU hI6 fun m size hp _ _=>?_
 obtain⟨⟨hs1,hs4⟩,har,hcl,hrl⟩:=hp
 obtain⟨S,hS⟩:∃S:Nat,size=(S:Int):=⟨size.toNat,by omega⟩
 subst hS
 obtain⟨r,hr⟩:∃r,zmd S m.consts.length (m.rels.map zlj)=r:=⟨_,rfl⟩
 have hV:zCk m S=zvV r:=by unfold zCk;rw[Int.toNat_natCast,hr]
 rw[hV]
 obtain⟨Q,hQ⟩:∃Q:D→zas→Nat→Prop,Q=(fun d _ _=>D.val d=some (.tup [.fz (enc (zvV r).1),.fz (enc (zvV r).2)])):=⟨_,rfl⟩
 rw[←hQ]
 have kq:=Kp.mk hQ
 clear hQ hV
 unfold zmd zvq at hr
 obtain⟨c,hc⟩:∃c,m.consts.length=c:=⟨_,rfl⟩
 rw[hc]at hr hcl
 have kr:=Kp.mk har
 clear har
 refine zag (N:=40) hm hI6 40000 (lst []) zJU Tryz.func40 rfl rfl (by simp) (by kernel_rfl) ?_
 repeat'(first|refine And.intro ?_ ?_|exact True.intro|refine rq fun _=>?_|refine rf fun _=>?_|simp only[go_sem,hc,zac,zae,zai,zaa,Tryz.f40])
 refine zaq hm hI6 40000 (lst []) (ι:=zzk c 1 fun i v=>v≤8192∧ztk v (List.replicate (c-i) S++zlH S (m.rels.map zlj))=r)
  ⟨fun q=>⟨frL [(1,.fz (.i .i64 S)),(2,.ptr (40002,0) 0),(6,.fz (.i .i64 q.v)),(11,.fz (.i .i64 c)),(12,.fz (.i .i64 q.i))],hpL [((40002,0),some ⟨[.fz (.i .i64 m.size),.fz (.sl (m.consts.map enc)),.fz (.sl (m.rels.map enc))],true,false⟩)],q.m⟩,fun q=>c-q.i⟩
  ⟨0,1,1,by omega,by omega,by omega,hr⟩ (by kernel_rfl) ?_ ?_
 ·refine zaj ?_ ?_ ?_<;>simp only[go_sem]
  all_goals first|done|rfl|omega
 rintro⟨i,v,q,hi,hq,hv,hp⟩
 try simp only at hi hq hv hp
 have hm8:∀a b:Nat,a≤8192→b≤64→a*b≤524288:=fun a b h1 h2=>Nat.le_trans (Nat.mul_le_mul h1 h2) (by decide)
 rcases Nat.lt_or_ge i c with h1|h1
 ·have h2:c-i=(c-(i+1))+1:=by omega
  rw[h2,List.replicate_succ,List.cons_append,ztk]at hp
  have h3:=hm8 v S hv (by omega)
  have h4:(v:Int)*(S:Int)=((v*S:Nat):Int):=by simp
  have h5:((i:Int)<(c:Int))=True:=eq_true (by omega)
  by_cases h6:8192<v*S
  ·rw[if_pos h6]at hp
   have h6':((8192:Int)<((v*S:Nat):Int))=True:=eq_true (by omega)
   repeat'(first|refine And.intro ?_ ?_|exact True.intro|refine rq fun _=>?_|refine rf fun _=>?_|simp only[go_sem,h4,h5,h6',zac,zae,zai,zaa,Tryz.f40])
   all_goals
    rw[kq.out,←hp]
    simp only[go_sem,zvV]
  ·rw[if_neg h6]at hp
   have h6':((8192:Int)<((v*S:Nat):Int))=False:=eq_false (by omega)
   repeat'(first|refine And.intro ?_ ?_|exact True.intro|refine rq fun _=>?_|refine rf fun _=>?_|simp only[go_sem,h4,h5,h6',zac,zae,zai,zaa,Tryz.f40])
   refine⟨⟨i+1,v*S,q,by omega,by omega,by omega,hp⟩,by simp only;omega,?_⟩
   refine zaj ?_ ?_ ?_<;>simp only[go_sem]
   all_goals first|done|rfl|omega
 obtain rfl:i=c:=by omega
 rw[Nat.sub_self,List.replicate_zero,List.nil_append]at hp
 repeat'(first|refine And.intro ?_ ?_|exact True.intro|refine rq fun _=>?_|refine rf fun _=>?_|simp only[go_sem,Int.lt_irrefl,zac,zae,zai,zaa,Tryz.f40])
 refine zaq hm hI6 40000 (lst []) (ι:=zzk m.rels.length 1 fun i v=>v≤8192∧ztk v (zlH S ((m.rels.map zlj).drop i))=r)
  ⟨fun q=>⟨frL [(1,.fz (.i .i64 S)),(2,.ptr (40002,0) 0),(6,.fz (.i .i64 q.v)),(21,.fz (.sl (m.rels.map enc))),(22,.fz (.i .i64 m.rels.length)),(23,.fz (.i .i64 q.i))],hpL [((40002,0),some ⟨[.fz (.i .i64 m.size),.fz (.sl (m.consts.map enc)),.fz (.sl (m.rels.map enc))],true,false⟩)],q.m⟩,fun q=>m.rels.length-q.i⟩
  ⟨0,v,q,by omega,by omega,hv,hp⟩ (by kernel_rfl) ?_ ?_
 ·refine zaj ?_ ?_ ?_<;>simp only[go_sem]
  all_goals first|done|rfl|omega
 try clear hp hv
 rintro⟨j,v,q2,hj,hq2,hv,hp⟩
 try simp only at hj hq2 hv hp
 rcases Nat.lt_or_ge j m.rels.length with h1|h1
 rotate_left
 ·obtain rfl:j=m.rels.length:=by omega
  rw[List.drop_of_length_le (by simp),zlH,ztk]at hp
  repeat'(first|refine And.intro ?_ ?_|exact True.intro|refine rq fun _=>?_|refine rf fun _=>?_|simp only[go_sem,Nat.lt_irrefl,zac,zae,zai,zaa,Tryz.f40])
  all_goals
   rw[kq.out,←hp]
   simp only[go_sem,zvV]
 obtain⟨x,hx⟩:∃x,m.rels[j]=x:=⟨_,rfl⟩
 have hxa:=kr.out x (by rw[←hx];exact List.getElem_mem h1)
 have hd:(m.rels.map zlj).drop j=zlj x::(m.rels.map zlj).drop (j+1):=by
  rw[List.drop_eq_getElem_cons (by simpa using h1),List.getElem_map,hx]
 rw[hd,zlH]at hp
 obtain⟨P,hP⟩:∃P,zqv S (zlj x)=P:=⟨_,rfl⟩
 have hpw:zBS S x.arity=(P:Int):=by rw[←hP];rfl
 have hP64:=(zo9 (a:=(S:Int)) (n:=x.arity) hs1 hs4 hxa.1 hxa.2 x.arity.toNat (by omega)).2
 rw[show((S:Int).toNat^x.arity.toNat)=P by rw[←hP];rfl]at hP64
 rw[hP]at hp
 have hpp:(1≤(S:Int)∧(S:Int)≤4)∧0≤x.arity∧x.arity≤3:=⟨⟨hs1,hs4⟩,hxa⟩
 repeat'(first|refine zaJ.i hpp fun _=>?_|refine And.intro ?_ ?_|exact True.intro|refine rq fun _=>?_|refine rf fun _=>?_|simp only[go_sem,h1,hx,hpw,zac,zae,zai,zaa,Tryz.f40])
 refine zaq hm hI6 40000 (lst []) (ι:=zzk P 1 fun k w=>w≤8192∧ztk w (List.replicate (P-k) 2++zlH S ((m.rels.map zlj).drop (j+1)))=r)
  ⟨fun q=>⟨frL [(1,.fz (.i .i64 S)),(2,.ptr (40002,0) 0),(6,.fz (.i .i64 q.v)),(21,.fz (.sl (m.rels.map enc))),(22,.fz (.i .i64 m.rels.length)),(23,.fz (.i .i64 j)),(30,.fz (.i .i64 P)),(31,.fz (.i .i64 q.i))],hpL [((40002,0),some ⟨[.fz (.i .i64 m.size),.fz (.sl (m.consts.map enc)),.fz (.sl (m.rels.map enc))],true,false⟩)],q2+1⟩,fun q=>P-q.i⟩
  ⟨0,v,1,by omega,by omega,hv,hp⟩ (by kernel_rfl) ?_ ?_
 ·refine zaj ?_ ?_ ?_<;>simp only[go_sem]
  all_goals first|done|rfl|omega
 try clear hp hv
 rintro⟨k,w,q3,hk,hq3,hv,hp⟩
 try simp only at hk hq3 hv hp
 rcases Nat.lt_or_ge k P with h2|h2
 ·have h3:P-k=(P-(k+1))+1:=by omega
  rw[h3,List.replicate_succ,List.cons_append,ztk]at hp
  have h4:(w:Int)*(2:Int)=((w*2:Nat):Int):=by simp
  have h5:((k:Int)<(P:Int))=True:=eq_true (by omega)
  by_cases h6:8192<w*2
  ·rw[if_pos h6]at hp
   have h6':((8192:Int)<((w*2:Nat):Int))=True:=eq_true (by omega)
   repeat'(first|refine And.intro ?_ ?_|exact True.intro|refine rq fun _=>?_|refine rf fun _=>?_|simp only[go_sem,h4,h5,h6',zac,zae,zai,zaa,Tryz.f40])
   all_goals
    rw[kq.out,←hp]
    simp only[go_sem,zvV]
  ·rw[if_neg h6]at hp
   have h6':((8192:Int)<((w*2:Nat):Int))=False:=eq_false (by omega)
   repeat'(first|refine And.intro ?_ ?_|exact True.intro|refine rq fun _=>?_|refine rf fun _=>?_|simp only[go_sem,h4,h5,h6',zac,zae,zai,zaa,Tryz.f40])
   refine⟨⟨k+1,w*2,q3,by omega,by omega,by omega,hp⟩,by simp only;omega,?_⟩
   refine zaj ?_ ?_ ?_<;>simp only[go_sem]
   all_goals first|done|rfl|omega
 obtain rfl:k=P:=by omega
 rw[Nat.sub_self,List.replicate_zero,List.nil_append]at hp
 repeat'(first|refine And.intro ?_ ?_|exact True.intro|refine rq fun _=>?_|refine rf fun _=>?_|simp only[go_sem,Int.lt_irrefl,zac,zae,zai,zaa,Tryz.f40])
 refine⟨⟨j+1,w,q2+1,by omega,by omega,by omega,hp⟩,by simp only;omega,?_⟩
 refine zaj ?_ ?_ ?_<;>simp only[go_sem]
 all_goals first|done|rfl|omega
end
end Go.Proofs.YtkkffhphodngkaaGreatDoor
namespace Go.Proofs.YtkkffhphodngkaaGreatDoor
open Go Go.Abs Go.Proofs
section
variable {G:Nat→List FD}
theorem zq9 {P:Program}{f:FuncId}{args:List D}{xs ys:List FD}{b v:Bool}{hl:List (Abs.Id×Option O)}{n t es len:Nat}{R:D→zas→Nat→Prop}(ha:D.toFDs args=some xs)
  (h:zau P G f (xs.map .fz) H0 0 (fun d H1 n1=>∃g,g<n1∧d= .arr (t,g) es 0 len∧H1 (t,g)=some ⟨zad ys,b,v⟩))(hR:∀g n',n≤g→g<n'→R (.arr (t,g) es 0 len) (hpL (((t,g),some ⟨zad ys,b,v⟩)::hl)) n'):zau P G f args (hpL hl) n R:=by
 refine zcQ h.1 fun hfr=>zaU (zeU ha h) ?_
 rintro d H' n' ⟨d1,H1,n1,⟨g,hg,rfl,ho⟩,rfl,rfl,rfl⟩
 have hsh:shH n (hpL hl) H1 (t,g+n)=some ⟨zad ys,b,v⟩:=by
  unfold shH
  rw[if_pos (by simp),show(t,g+n-n)=(t,g) by rw[Nat.add_sub_cancel],ho]
  simp only[Option.map_some,shO,znM]
 refine⟨.arr (t,g+n) es 0 len,hpL (((t,g+n),some ⟨zad ys,b,v⟩)::hl),n+n1,zbS ?_ (fun id o hid=>?_) (Nat.le_refl _),hR (g+n) (n+n1) (by omega) (by omega)⟩
 ·exact⟨rfl,trivial⟩
 ·simp only[hpL]at hid
  split at hid
  ·rename_i e;subst e;rw[←hid];exact hsh
  ·have hlt:id.2<n:=by
    rcases Nat.lt_or_ge id.2 n with h3|h3
    ·exact h3
    ·rw[hfr id h3]at hid;cases hid
   show shH n (hpL hl) H1 id=some o
   unfold shH
   rw[if_neg (by omega)]
   exact hid
theorem zCm {l:List zaH}(hl:l.length≤100000000):zau Tryz.prog G 61 [.fz (.sl (l.map enc))] H0 0 (fun d H n=>∃g,g<n∧d= .arr (61007,g) 2 0 l.length∧H (61007,g)=some ⟨zad (l.map enc),false,l.isEmpty⟩):=by
 rw[zes]
 obtain⟨Q,hQ⟩:∃Q:D→zas→Nat→Prop,Q=(fun d H n=>(d= .full []∧l=[]∧n=0∧H=hpL [])∨∃g,g<n∧d= .arr (61007,g) 2 0 l.length∧H (61007,g)=some ⟨zad (l.map enc),false,l.isEmpty⟩):=⟨_,rfl⟩
 have key:zau Tryz.prog G 61 [.fz (.sl (l.map enc))] (hpL []) 0 Q:=by
  refine zag (N:=8) hm hI7 61000 (lst [7]) zLI Tryz.func61 rfl rfl (by simp) (by kernel_rfl) ?_
  simp only[go_sem]
  refine zq4.i fun b hb=>?_
  cases b
  ·repeat'(first|refine And.intro ?_ ?_|exact True.intro|refine rq fun _=>?_|refine rf fun _=>?_|simp only[go_sem,Tryz.f61])
   rw[hQ]
   have hv:(zad (l.map enc)).isEmpty=l.isEmpty:=by cases l<;>rfl
   exact .inr ⟨0,by omega,rfl,by simp only[go_sem,hv]⟩
  ·have:l=[]:=List.eq_nil_of_length_eq_zero (hb rfl)
   subst this
   repeat'(first|refine And.intro ?_ ?_|exact True.intro|refine rq fun _=>?_|refine rf fun _=>?_|simp only[go_sem,Tryz.f61])
   rw[hQ]
   exact .inl ⟨rfl,rfl,rfl,rfl⟩
 refine zaU key ?_
 rw[hQ]
 rintro d H n (⟨rfl,rfl,rfl,rfl⟩|⟨g,hg,rfl,ho⟩)
 ·refine⟨.arr (61007,0) 2 0 0,hpL [((61007,0),some ⟨[],false,true⟩)],1,?_,0,by omega,rfl,by simp only[go_sem]⟩
  refine zbg [] [(61007,0)] [] ?_ ?_ ?_ ?_ ?_<;>simp only[go_sem]
  all_goals first|done|rfl
 ·exact⟨_,H,n,zbS ⟨rfl,trivial⟩ (fun _ _ h=>h) (Nat.le_refl _),g,hg,rfl,ho⟩
theorem zqw (s i:Nat):∀j,zhI s i j=i / s^j
 |0=>by rw[zhI,Nat.pow_zero,Nat.div_one]
 |j+1=>by rw[zhI,zqw s i j,Nat.div_div_eq_div_mul,Nat.pow_succ]
theorem zrl {S:Nat}{ps:List Pd}{i:Nat}(h:i<ps.length):za4 S (ps.take (i+1))=za4 S (ps.take i)+zqv S ps[i]:=by
 have hap:∀a b:List Pd,za4 S (a++b)=za4 S a+za4 S b:=by
  intro a b
  induction a with
  |nil=>simp[za4]
  |cons x a ih=>rw[List.cons_append,za4,za4,ih,Nat.add_assoc]
 rw[List.take_succ_eq_append_getElem h,hap,za4,za4,Nat.add_zero]
theorem znA {S:Nat}:∀{ps:List Pd} {i:Nat} (bits:List Bool) (h:i<ps.length),zfF S (ps.take (i+1)) bits=zfF S (ps.take i) bits++[⟨ps[i].name,ps[i].arity,zsz S ps[i].arity.toNat (bits.drop (za4 S (ps.take i)))⟩]
 |[],_,_,h=>by simp at h
 |p::ps,0,bits,_=>by rw[List.take_succ_cons,List.take_zero,zfF];rfl
 |p::ps,i+1,bits,h=>by
  rw[List.take_succ_cons,List.take_succ_cons,zfF,zfF,znA (ps:=ps) (i:=i) (bits.drop (zqv S p)) (by simpa using h),za4,List.drop_drop]
  rfl
def zBX (S ar:Nat)(bits:List Bool)(k:Nat):List (List Int):=((List.range k).filter fun k=>bits.getD k false).map (zbO S ar)
theorem zvG (S ar:Nat)(bits:List Bool)(k:Nat):zBX S ar bits (k+1)=zBX S ar bits k++(if bits.getD k false=true then[zbO S ar k]else[]):=by
 unfold zBX
 rw[List.range_succ,List.filter_append,List.map_append]
 congr 1
 simp only[List.filter_cons,List.filter_nil]
 cases bits.getD k false<;>rfl
theorem zop (cells N:Nat):ztf cells N=(zkg 2 N cells cells).map fun d=>decide (d=1):=by rw[zhW];rfl
end
end Go.Proofs.YtkkffhphodngkaaGreatDoor

/- several texts of this proof in one; no conditions -/
import Derived.Test.YtkkffhphodngkaaDoorAT
import Derived.Test.YtkkffhphodngkaaDoorQ154
import Derived.Test.YtkkffhphodngkaaDoorAC
set_option maxRecDepth 100000
set_option maxHeartbeats 1000000
set_option linter.unusedSimpArgs false
namespace Go.Proofs.YtkkffhphodngkaaDoor
open Go Go.Abs Go.Proofs
section
variable {G:Nat→List FD}
theorem zcM (l:List Pd):zbs (l.map enc) 2:=fun x hx=>by obtain⟨p,_,rfl⟩:=List.mem_map.1 hx;rfl
theorem zoM (l:List Pd):(zae (l.map enc)).all zcx=true:=by
 induction l with
 |nil=>rfl
 |cons p l ih=>
  show(zcx (.fz (.s p.name.l))&&(zcx (.fz (.i .i64 p.arity))&&(zae (l.map enc)).all zcx))=true
  rw[ih];rfl
theorem zaD (p:Pd):(dec (FD.agg [.s p.name.l,.i .i64 p.arity]):Pd)=p:=dec_enc (a:=p)
theorem zaE (p:Pd):(⟨p.name,p.arity⟩:Pd)=p:=rfl
def I15:Tbl:=I14.add 38 (sp2 (fun a b=>decide (ltP a b)) fun _ _=>True)
attribute [go_sem] I15
theorem zHd:zan Tryd.prog G I15:=by
 refine zbq zB3 zzm fun a b _ _ _=>?_
 by_cases h1:a.name.l<b.name.l
 ·have h1':Op.bytesLess a.name.l b.name.l=true:=by rw[za6];exact decide_eq_true h1
  rw[show decide (ltP a b)=true from decide_eq_true (.inl h1)]
  refine zah (N:=24) hm zzm 38000 (lst []) zB3 Tryd.func38 rfl rfl (by simp) (by kernel_rfl) ?_
  repeat'(first|refine And.intro ?_ ?_|exact True.intro|refine rq fun _=>?_|refine rf fun _=>?_|simp only[go_sem,h1',zad,zac,zab,zaa,zaE,zaD,Tryd.f38])
  all_goals first|done|rfl|omega
 have h1':Op.bytesLess a.name.l b.name.l=false:=by rw[za6];exact decide_eq_false h1
 by_cases h2:a.name=b.name
 ·have h2':(a.name.l=b.name.l)=True:=eq_true (by rw[h2])
  rw[show decide (ltP a b)=decide (a.arity<b.arity)from by unfold ltP;simp[h2,zdQ]]
  refine zah (N:=24) hm zzm 38000 (lst []) zB3 Tryd.func38 rfl rfl (by simp) (by kernel_rfl) ?_
  repeat'(first|refine And.intro ?_ ?_|exact True.intro|refine rq fun _=>?_|refine rf fun _=>?_|simp only[go_sem,h1',h2',zad,zac,zab,zaa,zaE,zaD,Tryd.f38])
  all_goals first|done|rfl|omega
 ·have h2':(a.name.l=b.name.l)=False:=eq_false fun e=>h2 (by cases h:a.name;cases h3:b.name;rw[h,h3]at e;exact congrArg Str.mk e)
  rw[show decide (ltP a b)=false from by unfold ltP;simp[h1,h2]]
  refine zah (N:=24) hm zzm 38000 (lst []) zB3 Tryd.func38 rfl rfl (by simp) (by kernel_rfl) ?_
  repeat'(first|refine And.intro ?_ ?_|exact True.intro|refine rq fun _=>?_|refine rf fun _=>?_|simp only[go_sem,h1',h2',zad,zac,zab,zaa,zaE,zaD,Tryd.f38])
  all_goals first|done|rfl|omega
def zmK:List Pd→Pd→Nat
 |[],_=>0
 |x::l,p=>if ltP x p then zmK l p+1 else 0
theorem zsn (p:Pd):∀l:List Pd,zmK l p≤l.length
 |[]=>Nat.le_refl _
 |x::l=>by
  rw[zmK]
  have:=zsn p l
  split<;>simp only[List.length_cons]<;>omega
theorem zso {p:Pd}:∀{l:List Pd} {i:Nat} (h:i<l.length),i<zmK l p→ltP l[i] p
 |x::l,0,_,h2=>by
  rw[zmK]at h2
  split at h2
  ·assumption
  ·omega
 |x::l,i+1,h,h2=>by
  rw[zmK]at h2
  split at h2
  ·exact zso (l:=l) (by simpa using h) (by omega)
  ·omega
theorem zsm {p:Pd}:∀{l:List Pd} {i:Nat} (h:i<l.length),i=zmK l p→¬ltP l[i] p
 |x::l,0,_,h2=>by
  rw[zmK]at h2
  split at h2
  ·omega
  ·assumption
 |x::l,i+1,h,h2=>by
  rw[zmK]at h2
  split at h2
  ·exact zsm (l:=l) (by simpa using h) (by omega)
  ·omega
theorem zrV {p:Pd}:∀{l:List Pd},ziP l p=if l[zmK l p]?=some p then l else l.take (zmK l p)++[p]++l.drop (zmK l p)
 |[]=>rfl
 |x::l=>by
  rw[ziP,zmK]
  by_cases h:ltP x p
  ·rw[if_pos h,if_pos h,zrV (l:=l),List.getElem?_cons_succ,List.take_succ_cons,List.drop_succ_cons]
   split<;>rfl
  ·rw[if_neg h,if_neg h,List.getElem?_cons_zero]
   by_cases h2:x=p
   ·rw[if_pos h2,if_pos (by rw[h2])]
   ·rw[if_neg h2,if_neg (by simp[h2])]
    rfl
section
variable {P:Program} {T:Tbl}
theorem zuZ {α β ρ:Type}[Enc α][Enc β][Enc ρ]{f:FuncId}{g:α→β→ρ}{pre:α→β→Prop}(m:α→Nat)(hc:zam P f)(hT:zan P G T)
  (h:∀n,zan P G (T.add f (sp2 g fun a b=>m a<n∧pre a b))→∀a b,m a=n→pre a b→(enc a).Wf→(enc b).Wf→zay P G f [.fz (enc a),.fz (enc b)] (hpL []) 0 (fun d _ _=>D.val d=some (.fz (enc (g a b))))):zan P G (T.add f (sp2 g pre)):=by
 have key:∀n,zan P G (T.add f (sp2 g fun a b=>m a<n∧pre a b)):=by
  intro n
  induction n with
  |zero=>exact zbq hc hT fun a b ha=>by omega
  |succ n ih=>
   refine zbq hc hT fun a b ha hw hw2=>?_
   rcases Nat.lt_or_ge (m a) n with h1|h1
   ·have h2:=ih f (sp2 g fun a b=>m a<n∧pre a b) [enc a,enc b] _ _ (by simp[Tbl.add]) (zDT) ⟨by rw[dec_enc],by rw[dec_enc],by rw[dec_enc,dec_enc];exact⟨h1,ha.2⟩⟩
    rw[dec_enc,dec_enc,zhe]at h2
    exact h2
   ·exact h n ih a b (by omega) ha.2 hw hw2
 exact zbq hc hT fun a b ha hw hw2=>h (m a) (key _) a b rfl ha hw hw2
end
theorem zhz:∀(ps l:List Pd),(zhx l ps).length≤l.length+ps.length
 |[],l=>by simp[zhx]
 |p::ps,l=>by
  have h1:=zhz ps (ziP l p)
  have h2:=zhq (l:=l) (p:=p)
  unfold zhx at h1 ⊢
  rw[List.foldl_cons,List.length_cons];omega
theorem zhy (l a b:List Pd):zhx l (a++b)=zhx (zhx l a) b:=by unfold zhx;rw[List.foldl_append]
structure zAr (f:Abs.zaf)(l:List Pd):Prop where
 w:(enc f).Wf
 n:l.length+(pds f).length≤1000000
def I16:Tbl:=I15.add 23 (sp2 (fun f l=>zhx l (pds f)) zAr)
attribute [go_sem] I16
set_option maxHeartbeats 8000000 in
theorem zA9:zan Tryd.prog G I16:=by
 refine zuZ zaf.size zD6 zHd fun n hT f l hn hpre hw _=>?_
 have hlen:=hpre.n
 have hwl:f.words.length≤zba:=by
  have h:=za9 (by have h:=hw;rw[zaH]at h;exact h) (FD.sl (f.words.map enc)) (by simp)
  have:=zbV h
  simpa using this
 have hsl:f.subs.length≤zba:=by
  have h:=za9 (by have h:=hw;rw[zaH]at h;exact h) (FD.sl (f.subs.map enc)) (by simp)
  have:=zbV h
  simpa using this
 have hsw:∀g∈f.subs,g.size<n∧(enc g).Wf:=fun g hg=>⟨by have:=zaf.size_sub hg;omega,zdO (za9 (by have h:=hw;rw[zaH]at h;exact h) (FD.sl (f.subs.map enc)) (by simp)) _ (List.mem_map_of_mem hg)⟩
 unfold zba at hwl hsl
 rw[zsk,List.length_append]at hlen
 rw[zsk,zhy]
 have hAw:∀V:List Pd,V.length≤l.length+(if f.kind=2 then[(⟨f.name,(f.words.length:Int)⟩:Pd)]else[]).length→∀j (h:j<f.subs.length),(zhx V (zcO (f.subs.take j))).length+(pds f.subs[j]).length≤1000000:=fun V hV j h=>by
  have h1:=zhz (zcO (f.subs.take j)) V
  have h2:=zoO (fs:=f.subs) (j+1)
  rw[zdl h,List.length_append]at h2
  omega
 have kT:=Kp.mk hT
 have kz:=Kp.mk hsw
 clear hT hsw hn hpre
 obtain⟨p,hp⟩:∃p:Pd,(⟨f.name,(f.words.length:Int)⟩:Pd)=p:=⟨_,rfl⟩
 rw[hp]at hAw ⊢
 have hpn:f.name.l=p.name.l:=by rw[←hp]
 have hpa:(f.words.length:Int)=p.arity:=by rw[←hp]
 by_cases c1:f.kind=2
 rotate_left
 ·rw[if_neg c1]at hAw ⊢
  have hA':=hAw l (by simp)
  have hl0:zhx l []=l:=rfl
  rw[hl0]
  obtain⟨A,hA⟩:∃A:Nat→List Pd,A=fun j=>zhx l (zcO (f.subs.take j)):=⟨_,rfl⟩
  have hA0:A 0=l:=by rw[hA];rfl
  have hAs:∀j (h:j<f.subs.length),A (j+1)=zhx (A j) (pds f.subs[j]):=fun j h=>by rw[hA];simp only[zdl h,zhy]
  have hAe:A f.subs.length=zhx l (zcO f.subs):=by rw[hA];simp only[List.take_length]
  have hAl:∀j (h:j<f.subs.length),(A j).length+(pds f.subs[j]).length≤1000000:=fun j h=>by rw[hA];exact hA' j h
  have kA:=Kp.mk hAs
  have kL:=Kp.mk hAl
  rw[←hAe]
  have c1':(f.kind=2)=False:=eq_false c1
  clear hA hAs hAl hA' hAw c1
  refine zah (N:=73) hm kT.out 23000 (lsw [48,52,57] []) zD6 Tryd.func23 rfl rfl (by simp) (by kernel_rfl) ?_
  repeat'(first|refine And.intro ?_ ?_|exact True.intro|refine rq fun _=>?_|refine rf fun _=>?_|simp only[go_sem,c1',zad,zac,zab,zaa,zaE,zaD,Tryd.f23])
  refine zai hm kT.out 23000 (lsw [48,52,57] []) (ι:=za5 f.subs.length fun _=>True)
   ⟨fun q=>⟨frL [(2,.ptr (23002,0) 0),(1,.fz (.sl ((A q.i).map enc))),(59,.fz (.sl (f.subs.map enc))),(60,.fz (.i .i64 f.subs.length)),(61,.fz (.i .i64 q.i))],hpL [((23002,0),some ⟨[.fz (.i .i64 f.kind),.fz (.s f.name.l),.fz (.sl (f.words.map enc)),.fz (.sl (f.subs.map enc))],true,false⟩)],1⟩,fun q=>f.subs.length-q.i⟩
   ⟨0,by omega,trivial⟩ (by kernel_rfl) ?_ ?_
  ·refine zbc [] [] [] ?_ ?_ ?_ ?_ ?_<;>simp only[go_sem,hA0]
   all_goals first|done|rfl|omega|(simp only[List.map_append,List.map_take,List.map_drop,List.map_cons,List.map_nil,zlr];done)
  rintro⟨j,hj,_⟩
  try simp only at hj
  rcases Nat.lt_or_ge j f.subs.length with h1|h1
  rotate_left
  ·obtain rfl:j=f.subs.length:=by omega
   repeat'(first|refine And.intro ?_ ?_|exact True.intro|refine rq fun _=>?_|refine rf fun _=>?_|simp only[go_sem,Nat.lt_irrefl,hAe,zad,zac,zab,zaa,zaE,zaD,Tryd.f23])
   all_goals first|done|rfl|omega
  have hs:=kA.out j h1
  obtain⟨x,hx⟩:∃x,f.subs[j]=x:=⟨_,rfl⟩
  have hpx:=kz.out x (by rw[←hx];exact List.getElem_mem h1)
  have hpl:=kL.out j h1
  rw[hx]at hs hpl
  repeat'(first|refine zaB.i ⟨hpx.1,hpx.2,hpl⟩ fun _=>?_|refine And.intro ?_ ?_|exact True.intro|refine rq fun _=>?_|refine rf fun _=>?_|simp only[go_sem,h1,hx,zad,zac,zab,zaa,zaE,zaD,Tryd.f23])
  refine⟨⟨j+1,by omega,trivial⟩,by simp only;omega,?_⟩
  refine zag ?_ ?_ ?_<;>simp only[go_sem,hs]
  all_goals first|done|rfl|omega
 rw[if_pos c1]at hAw ⊢
 have c1':(f.kind=2)=True:=eq_true c1
 have hi1:zhx l [p]=ziP l p:=rfl
 rw[hi1]
 obtain⟨V,hV⟩:∃V,ziP l p=V:=⟨_,rfl⟩
 have hVl:=zhq (l:=l) (p:=p)
 rw[hV]at hVl ⊢
 have hA':=hAw V (by simpa using hVl)
 obtain⟨A,hA⟩:∃A:Nat→List Pd,A=fun j=>zhx V (zcO (f.subs.take j)):=⟨_,rfl⟩
 have hA0:A 0=V:=by rw[hA];rfl
 have hAs:∀j (h:j<f.subs.length),A (j+1)=zhx (A j) (pds f.subs[j]):=fun j h=>by rw[hA];simp only[zdl h,zhy]
 have hAe:A f.subs.length=zhx V (zcO f.subs):=by rw[hA];simp only[List.take_length]
 have hAl:∀j (h:j<f.subs.length),(A j).length+(pds f.subs[j]).length≤1000000:=fun j h=>by rw[hA];exact hA' j h
 have kA:=Kp.mk hAs
 have kL:=Kp.mk hAl
 rw[←hAe]
 clear hA hAs hAl hA' hAw c1
 rw[zrV]at hV
 have hlt:∀i (h:i<l.length),i<zmK l p→decide (ltP l[i] p)=true:=fun i h h2=>decide_eq_true (zso h h2)
 have hat:∀i (h:i<l.length),i=zmK l p→decide (ltP l[i] p)=false:=fun i h h2=>decide_eq_false (zsm h h2)
 have htl:=zsn p l
 obtain⟨T,hT⟩:∃T,zmK l p=T:=⟨_,rfl⟩
 rw[hT]at hlt hat htl hV
 clear hT
 have kl:=Kp.mk hlt
 have ka:=Kp.mk hat
 have kV:=Kp.mk hV
 clear hlt hat hV
 refine zah (N:=73) hm kT.out 23000 (lsw [48,52,57] []) zD6 Tryd.func23 rfl rfl (by simp) (by kernel_rfl) ?_
 repeat'(first|refine And.intro ?_ ?_|exact True.intro|refine rq fun _=>?_|refine rf fun _=>?_|simp only[go_sem,c1',hpn,hpa,zad,zac,zab,zaa,zaE,zaD,Tryd.f23])
 refine zai hm kT.out 23000 (lsw [48,52,57] []) (ι:=za5 T fun _=>True)
  ⟨fun q=>⟨frL [(1,.fz (.sl (l.map enc))),(2,.ptr (23002,0) 0),(5,.ptr (23005,1) 0),(6,.fz (.i .i64 q.i))],hpL [((23002,0),some ⟨[.fz (.i .i64 f.kind),.fz (.s f.name.l),.fz (.sl (f.words.map enc)),.fz (.sl (f.subs.map enc))],true,false⟩),((23005,1),some ⟨[.fz (.s p.name.l),.fz (.i .i64 p.arity)],true,false⟩)],2⟩,fun q=>T-q.i⟩
  ⟨0,by omega,trivial⟩ (by kernel_rfl) ?_ ?_
 ·refine zag ?_ ?_ ?_<;>simp only[go_sem,hpn,hpa]
  all_goals first|done|rfl|omega
 rintro⟨i,hi,_⟩
 try simp only at hi
 rcases Nat.lt_or_ge i T with h1|h1
 ·have h2:i<l.length:=by omega
  have h3:=kl.out i h2 h1
  obtain⟨x,hx⟩:∃x,l[i]=x:=⟨_,rfl⟩
  rw[hx]at h3
  repeat'(first|refine And.intro ?_ ?_|exact True.intro|refine rq fun _=>?_|refine rf fun _=>?_|simp only[go_sem,h2,hx,h3,zad,zac,zab,zaa,zaE,zaD,Tryd.f23])
  refine⟨⟨i+1,by omega,trivial⟩,by simp only;omega,?_⟩
  refine zag ?_ ?_ ?_<;>simp only[go_sem]
  all_goals first|done|rfl|omega
 obtain rfl:i=T:=by omega
 have hlt:(l.take i).length=i:=by rw[List.length_take];omega
 have hv:=kV.out
 rcases Nat.lt_or_ge i l.length with h2|h2
 rotate_left
 ·have h2':(i<l.length)=False:=eq_false (by omega)
  have h2e:((i:Int)=(l.length:Int))=True:=eq_true (by omega)
  have h2l:((i:Int)<(l.length:Int))=False:=eq_false (by omega)
  rw[if_neg (by rw[List.getElem?_eq_none h2];simp)]at hv
  subst hv
  repeat'(first|refine zaB.i ⟨zcM _,zaL (by first|omega|(simp only[List.length_map,List.length_take,List.length_drop,List.length_append,List.length_cons,List.length_nil];omega)) (by decide)⟩ fun _=>?_|refine zaB.i ⟨zcM _,zcM _,zoM _,zaL (by first|omega|(simp only[List.length_map,List.length_take,List.length_drop,List.length_append,List.length_cons,List.length_nil];omega)) (by decide)⟩ fun _=>?_|refine zaB.i (zaL (by first|omega|(simp only[List.length_map,List.length_take,List.length_drop,List.length_append,List.length_cons,List.length_nil];omega)) (by decide)) fun _=>?_|refine And.intro ?_ ?_|exact True.intro|refine rq fun _=>?_|refine rf fun _=>?_|simp only[go_sem,h2',h2e,h2l,Nat.lt_irrefl,zjZ,zad,zac,zab,zaa,zaE,zaD,Tryd.f23])
  refine zai hm kT.out 23000 (lsw [48,52,57] []) (ι:=za5 f.subs.length fun _=>True)
   ⟨fun q=>⟨frL [(2,.ptr (23002,0) 0),(1,.fz (.sl ((A q.i).map enc))),(59,.fz (.sl (f.subs.map enc))),(60,.fz (.i .i64 f.subs.length)),(61,.fz (.i .i64 q.i))],hpL [((23002,0),some ⟨[.fz (.i .i64 f.kind),.fz (.s f.name.l),.fz (.sl (f.words.map enc)),.fz (.sl (f.subs.map enc))],true,false⟩)],9⟩,fun q=>f.subs.length-q.i⟩
   ⟨0,by omega,trivial⟩ (by kernel_rfl) ?_ ?_
  ·refine zbc [] [] [] ?_ ?_ ?_ ?_ ?_<;>simp only[go_sem,hA0]
   all_goals first|done|rfl|omega|(simp only[List.map_append,List.map_take,List.map_drop,List.map_cons,List.map_nil,zlr];done)
  rintro⟨j,hj,_⟩
  try simp only at hj
  rcases Nat.lt_or_ge j f.subs.length with h1|h1
  rotate_left
  ·obtain rfl:j=f.subs.length:=by omega
   repeat'(first|refine And.intro ?_ ?_|exact True.intro|refine rq fun _=>?_|refine rf fun _=>?_|simp only[go_sem,Nat.lt_irrefl,hAe,zad,zac,zab,zaa,zaE,zaD,Tryd.f23])
   all_goals first|done|rfl|omega
  have hs:=kA.out j h1
  obtain⟨x,hx⟩:∃x,f.subs[j]=x:=⟨_,rfl⟩
  have hpx:=kz.out x (by rw[←hx];exact List.getElem_mem h1)
  have hpl:=kL.out j h1
  rw[hx]at hs hpl
  repeat'(first|refine zaB.i ⟨hpx.1,hpx.2,hpl⟩ fun _=>?_|refine And.intro ?_ ?_|exact True.intro|refine rq fun _=>?_|refine rf fun _=>?_|simp only[go_sem,h1,hx,zad,zac,zab,zaa,zaE,zaD,Tryd.f23])
  refine⟨⟨j+1,by omega,trivial⟩,by simp only;omega,?_⟩
  refine zag ?_ ?_ ?_<;>simp only[go_sem,hs]
  all_goals first|done|rfl|omega
 have h3:=ka.out i h2 rfl
 obtain⟨x,hx⟩:∃x,l[i]=x:=⟨_,rfl⟩
 rw[hx]at h3
 have h2e:((i:Int)=(l.length:Int))=False:=eq_false (by omega)
 rw[List.getElem?_eq_getElem h2,hx]at hv
 by_cases hn1:x.name=p.name
 ·have hn1':(x.name.l=p.name.l)=True:=eq_true (by rw[hn1])
  by_cases hn2:x.arity=p.arity
  ·have hxp:x=p:=by cases x;cases p;simp only at hn1 hn2;rw[hn1,hn2]
   have hn2':(x.arity=p.arity)=True:=eq_true hn2
   rw[if_pos (by rw[hxp])]at hv
   subst hv
   repeat'(first|refine zaB.i ⟨zcM _,zaL (by first|omega|(simp only[List.length_map,List.length_take,List.length_drop,List.length_append,List.length_cons,List.length_nil];omega)) (by decide)⟩ fun _=>?_|refine zaB.i ⟨zcM _,zcM _,zoM _,zaL (by first|omega|(simp only[List.length_map,List.length_take,List.length_drop,List.length_append,List.length_cons,List.length_nil];omega)) (by decide)⟩ fun _=>?_|refine zaB.i (zaL (by first|omega|(simp only[List.length_map,List.length_take,List.length_drop,List.length_append,List.length_cons,List.length_nil];omega)) (by decide)) fun _=>?_|refine And.intro ?_ ?_|exact True.intro|refine rq fun _=>?_|refine rf fun _=>?_|simp only[go_sem,h2,h2e,hx,h3,hn1',hn2',zad,zac,zab,zaa,zaE,zaD,Tryd.f23])
   refine zai hm kT.out 23000 (lsw [48,52,57] []) (ι:=za5 f.subs.length fun _=>True)
    ⟨fun q=>⟨frL [(2,.ptr (23002,0) 0),(1,.fz (.sl ((A q.i).map enc))),(59,.fz (.sl (f.subs.map enc))),(60,.fz (.i .i64 f.subs.length)),(61,.fz (.i .i64 q.i))],hpL [((23002,0),some ⟨[.fz (.i .i64 f.kind),.fz (.s f.name.l),.fz (.sl (f.words.map enc)),.fz (.sl (f.subs.map enc))],true,false⟩)],9⟩,fun q=>f.subs.length-q.i⟩
    ⟨0,by omega,trivial⟩ (by kernel_rfl) ?_ ?_
   ·refine zbc [] [] [] ?_ ?_ ?_ ?_ ?_<;>simp only[go_sem,hA0]
    all_goals first|done|rfl|omega|(simp only[List.map_append,List.map_take,List.map_drop,List.map_cons,List.map_nil,zlr];done)
   rintro⟨j,hj,_⟩
   try simp only at hj
   rcases Nat.lt_or_ge j f.subs.length with h1|h1
   rotate_left
   ·obtain rfl:j=f.subs.length:=by omega
    repeat'(first|refine And.intro ?_ ?_|exact True.intro|refine rq fun _=>?_|refine rf fun _=>?_|simp only[go_sem,Nat.lt_irrefl,hAe,zad,zac,zab,zaa,zaE,zaD,Tryd.f23])
    all_goals first|done|rfl|omega
   have hs:=kA.out j h1
   obtain⟨x,hx⟩:∃x,f.subs[j]=x:=⟨_,rfl⟩
   have hpx:=kz.out x (by rw[←hx];exact List.getElem_mem h1)
   have hpl:=kL.out j h1
   rw[hx]at hs hpl
   repeat'(first|refine zaB.i ⟨hpx.1,hpx.2,hpl⟩ fun _=>?_|refine And.intro ?_ ?_|exact True.intro|refine rq fun _=>?_|refine rf fun _=>?_|simp only[go_sem,h1,hx,zad,zac,zab,zaa,zaE,zaD,Tryd.f23])
   refine⟨⟨j+1,by omega,trivial⟩,by simp only;omega,?_⟩
   refine zag ?_ ?_ ?_<;>simp only[go_sem,hs]
   all_goals first|done|rfl|omega
  ·have hn2':(x.arity=p.arity)=False:=eq_false hn2
   rw[if_neg (fun e=>hn2 (by rw[Option.some.inj e]))]at hv
   subst hv
   repeat'(first|refine zaB.i ⟨zcM _,zaL (by first|omega|(simp only[List.length_map,List.length_take,List.length_drop,List.length_append,List.length_cons,List.length_nil];omega)) (by decide)⟩ fun _=>?_|refine zaB.i ⟨zcM _,zcM _,zoM _,zaL (by first|omega|(simp only[List.length_map,List.length_take,List.length_drop,List.length_append,List.length_cons,List.length_nil];omega)) (by decide)⟩ fun _=>?_|refine zaB.i (zaL (by first|omega|(simp only[List.length_map,List.length_take,List.length_drop,List.length_append,List.length_cons,List.length_nil];omega)) (by decide)) fun _=>?_|refine And.intro ?_ ?_|exact True.intro|refine rq fun _=>?_|refine rf fun _=>?_|simp only[go_sem,h2,h2e,hx,h3,hn1',hn2',zjZ,zad,zac,zab,zaa,zaE,zaD,Tryd.f23])
   refine zai hm kT.out 23000 (lsw [48,52,57] []) (ι:=za5 f.subs.length fun _=>True)
    ⟨fun q=>⟨frL [(2,.ptr (23002,0) 0),(1,.fz (.sl ((A q.i).map enc))),(59,.fz (.sl (f.subs.map enc))),(60,.fz (.i .i64 f.subs.length)),(61,.fz (.i .i64 q.i))],hpL [((23002,0),some ⟨[.fz (.i .i64 f.kind),.fz (.s f.name.l),.fz (.sl (f.words.map enc)),.fz (.sl (f.subs.map enc))],true,false⟩)],9⟩,fun q=>f.subs.length-q.i⟩
    ⟨0,by omega,trivial⟩ (by kernel_rfl) ?_ ?_
   ·refine zbc [] [] [] ?_ ?_ ?_ ?_ ?_<;>simp only[go_sem,hA0]
    all_goals first|done|rfl|omega|(simp only[List.map_append,List.map_take,List.map_drop,List.map_cons,List.map_nil,zlr];done)
   rintro⟨j,hj,_⟩
   try simp only at hj
   rcases Nat.lt_or_ge j f.subs.length with h1|h1
   rotate_left
   ·obtain rfl:j=f.subs.length:=by omega
    repeat'(first|refine And.intro ?_ ?_|exact True.intro|refine rq fun _=>?_|refine rf fun _=>?_|simp only[go_sem,Nat.lt_irrefl,hAe,zad,zac,zab,zaa,zaE,zaD,Tryd.f23])
    all_goals first|done|rfl|omega
   have hs:=kA.out j h1
   obtain⟨x,hx⟩:∃x,f.subs[j]=x:=⟨_,rfl⟩
   have hpx:=kz.out x (by rw[←hx];exact List.getElem_mem h1)
   have hpl:=kL.out j h1
   rw[hx]at hs hpl
   repeat'(first|refine zaB.i ⟨hpx.1,hpx.2,hpl⟩ fun _=>?_|refine And.intro ?_ ?_|exact True.intro|refine rq fun _=>?_|refine rf fun _=>?_|simp only[go_sem,h1,hx,zad,zac,zab,zaa,zaE,zaD,Tryd.f23])
   refine⟨⟨j+1,by omega,trivial⟩,by simp only;omega,?_⟩
   refine zag ?_ ?_ ?_<;>simp only[go_sem,hs]
   all_goals first|done|rfl|omega
 ·have hn1':(x.name.l=p.name.l)=False:=eq_false fun e=>hn1 (by cases h:x.name;cases h3:p.name;rw[h,h3]at e;exact congrArg Str.mk e)
  rw[if_neg (fun e=>hn1 (by rw[Option.some.inj e]))]at hv
  subst hv
  repeat'(first|refine zaB.i ⟨zcM _,zaL (by first|omega|(simp only[List.length_map,List.length_take,List.length_drop,List.length_append,List.length_cons,List.length_nil];omega)) (by decide)⟩ fun _=>?_|refine zaB.i ⟨zcM _,zcM _,zoM _,zaL (by first|omega|(simp only[List.length_map,List.length_take,List.length_drop,List.length_append,List.length_cons,List.length_nil];omega)) (by decide)⟩ fun _=>?_|refine zaB.i (zaL (by first|omega|(simp only[List.length_map,List.length_take,List.length_drop,List.length_append,List.length_cons,List.length_nil];omega)) (by decide)) fun _=>?_|refine And.intro ?_ ?_|exact True.intro|refine rq fun _=>?_|refine rf fun _=>?_|simp only[go_sem,h2,h2e,hx,h3,hn1',zjZ,zad,zac,zab,zaa,zaE,zaD,Tryd.f23])
  refine zai hm kT.out 23000 (lsw [48,52,57] []) (ι:=za5 f.subs.length fun _=>True)
   ⟨fun q=>⟨frL [(2,.ptr (23002,0) 0),(1,.fz (.sl ((A q.i).map enc))),(59,.fz (.sl (f.subs.map enc))),(60,.fz (.i .i64 f.subs.length)),(61,.fz (.i .i64 q.i))],hpL [((23002,0),some ⟨[.fz (.i .i64 f.kind),.fz (.s f.name.l),.fz (.sl (f.words.map enc)),.fz (.sl (f.subs.map enc))],true,false⟩)],9⟩,fun q=>f.subs.length-q.i⟩
   ⟨0,by omega,trivial⟩ (by kernel_rfl) ?_ ?_
  ·refine zbc [] [] [] ?_ ?_ ?_ ?_ ?_<;>simp only[go_sem,hA0]
   all_goals first|done|rfl|omega|(simp only[List.map_append,List.map_take,List.map_drop,List.map_cons,List.map_nil,zlr];done)
  rintro⟨j,hj,_⟩
  try simp only at hj
  rcases Nat.lt_or_ge j f.subs.length with h1|h1
  rotate_left
  ·obtain rfl:j=f.subs.length:=by omega
   repeat'(first|refine And.intro ?_ ?_|exact True.intro|refine rq fun _=>?_|refine rf fun _=>?_|simp only[go_sem,Nat.lt_irrefl,hAe,zad,zac,zab,zaa,zaE,zaD,Tryd.f23])
   all_goals first|done|rfl|omega
  have hs:=kA.out j h1
  obtain⟨x,hx⟩:∃x,f.subs[j]=x:=⟨_,rfl⟩
  have hpx:=kz.out x (by rw[←hx];exact List.getElem_mem h1)
  have hpl:=kL.out j h1
  rw[hx]at hs hpl
  repeat'(first|refine zaB.i ⟨hpx.1,hpx.2,hpl⟩ fun _=>?_|refine And.intro ?_ ?_|exact True.intro|refine rq fun _=>?_|refine rf fun _=>?_|simp only[go_sem,h1,hx,zad,zac,zab,zaa,zaE,zaD,Tryd.f23])
  refine⟨⟨j+1,by omega,trivial⟩,by simp only;omega,?_⟩
  refine zag ?_ ?_ ?_<;>simp only[go_sem,hs]
  all_goals first|done|rfl|omega
end
end Go.Proofs.YtkkffhphodngkaaDoor
namespace Go.Proofs.YtkkffhphodngkaaDoor
open Go Go.Abs Go.Proofs
section
variable {G:Nat→List FD}
def I17:Tbl:=I16.add 24 (sp1 acM fun l=>(∀f∈l,acP f)∧l.length≤41)
attribute [go_sem] I17
set_option maxHeartbeats 4000000 in
theorem zgB:zan Tryd.prog G I17:=by
 refine zb4 zFR zA9 fun l hp _=>?_
 obtain⟨hac,hsl⟩:=hp
 have hal:=zv7 hac
 have kb:=Kp.mk hac
 have kl:=Kp.mk hal
 clear hac hal
 refine zah (N:=28) hm zA9 24000 (lst []) zFR Tryd.func24 rfl rfl (by simp) (by kernel_rfl) ?_
 repeat'(first|refine And.intro ?_ ?_|exact True.intro|refine rq fun _=>?_|simp only[go_sem,Tryd.f24])
 refine zai hm zA9 24000 (lst []) (ι:=za5 l.length fun _=>True)
  ⟨fun q=>⟨frL [(0,.fz (.sl (l.map enc))),(3,.fz (.sl ((acM (l.take q.i)).map enc))),(7,.fz (.sl (l.map enc))),(8,.fz (.i .i64 l.length)),(9,.fz (.i .i64 q.i))],hpL [],0⟩,fun q=>l.length-q.i⟩
  ⟨0,by omega,trivial⟩ (by kernel_rfl) ?_ ?_
 ·refine zbc [] [] [] ?_ ?_ ?_ ?_ ?_<;>simp only[go_sem,acM,List.take_zero,List.foldl_nil,List.map_nil]
  all_goals first|done|rfl|omega
 rintro⟨i,hi,_⟩
 try simp only at hi
 rcases Nat.lt_or_ge i l.length with h1|h1
 rotate_left
 ·obtain rfl:i=l.length:=by omega
  repeat'(first|refine And.intro ?_ ?_|exact True.intro|refine rq fun _=>?_|simp only[go_sem,Nat.lt_irrefl,List.take_length,Tryd.f24])
 obtain⟨x,hx⟩:∃x,l[i]=x:=⟨_,rfl⟩
 have hxb:acP x:=kb.out x (by rw[←hx];exact List.getElem_mem h1)
 have et:acM (l.take (i+1))=(zgv x [] []).foldl zeo (acM (l.take i)):=by rw[znS h1,hx]
 have hA:=kl.out i hi
 obtain⟨A,hAe⟩:∃A,acM (l.take i)=A:=⟨_,rfl⟩
 rw[hAe]at et hA
 have hcp:x.fit=true∧x.size≤1000:=⟨hxb.ft,hxb.s⟩
 have hcn:=hxb.n
 obtain⟨cs,hcs⟩:∃c,zgv x [] []=c:=⟨_,rfl⟩
 rw[hcs]at et hcn
 obtain⟨M,hM⟩:∃M:Nat→List Str,M=fun j=>(cs.take j).foldl zeo A:=⟨_,rfl⟩
 have hM0:M 0=A:=by rw[hM];rfl
 have hMs:∀j (h:j<cs.length),M (j+1)=zeo (M j) cs[j]:=fun j h=>by rw[hM];exact zsp h
 have hMl:∀j,j≤cs.length→(M j).length≤990000:=fun j h=>by
  rw[hM]
  have:=zkv (cs.take j) A
  rw[List.length_take]at this
  simp only
  omega
 have hMe:acM (l.take (i+1))=M cs.length:=by rw[et,hM];simp only[List.take_length]
 have kM:=Kp.mk hMs
 have kN:=Kp.mk hMl
 clear hM hMs hMl et hxb hA
 repeat'(first|refine zaB.i hcp fun _=>?_|refine And.intro ?_ ?_|exact True.intro|refine rq fun _=>?_|simp only[go_sem,h1,hx,hcs,hAe,zaa,zad,Tryd.f24])
 refine zai hm zA9 24000 (lst []) (ι:=za5 cs.length fun _=>True)
  ⟨fun q=>⟨frL [(0,.fz (.sl (l.map enc))),(3,.fz (.sl ((M q.i).map enc))),(7,.fz (.sl (l.map enc))),(8,.fz (.i .i64 l.length)),(9,.fz (.i .i64 i)),(16,.fz (.sl (cs.map enc))),(17,.fz (.i .i64 cs.length)),(18,.fz (.i .i64 q.i))],hpL [],0⟩,fun q=>cs.length-q.i⟩
  ⟨0,by omega,trivial⟩ (by kernel_rfl) ?_ ?_
 ·refine zag ?_ ?_ ?_<;>simp only[go_sem,hM0,hAe]
  all_goals first|done|rfl|omega
 rintro⟨j,hj,_⟩
 try simp only at hj
 rcases Nat.lt_or_ge j cs.length with h2|h2
 ·have es:=kM.out j h2
  have hml:(M j).length≤1000000:=Nat.le_trans (kN.out j hj) (by decide)
  obtain⟨y,hy⟩:∃y,cs[j]=y:=⟨_,rfl⟩
  rw[hy]at es
  repeat'(first|refine zaB.i hml fun _=>?_|refine And.intro ?_ ?_|exact True.intro|refine rq fun _=>?_|simp only[go_sem,h2,hy,zaa,zac,Tryd.f24])
  all_goals refine⟨⟨j+1,by omega,trivial⟩,by simp only;omega,?_⟩
  all_goals refine zag ?_ ?_ ?_<;>simp only[go_sem,es]
  all_goals first|done|rfl|omega
 obtain rfl:j=cs.length:=by omega
 repeat'(first|refine And.intro ?_ ?_|exact True.intro|refine rq fun _=>?_|simp only[go_sem,Nat.lt_irrefl,Tryd.f24])
 all_goals refine⟨⟨i+1,by omega,trivial⟩,by simp only;omega,?_⟩
 all_goals refine zag ?_ ?_ ?_<;>simp only[go_sem,hMe]
 all_goals first|done|rfl|omega
end
end Go.Proofs.YtkkffhphodngkaaDoor

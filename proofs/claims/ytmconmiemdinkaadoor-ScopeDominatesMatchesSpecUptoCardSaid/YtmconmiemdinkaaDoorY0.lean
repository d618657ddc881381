/- several texts of this proof in one; no conditions -/
import Derived.Test.YtmconmiemdinkaaDoorAT
import Derived.Test.YtmconmiemdinkaaDoorFacts
import Derived.Test.YtmconmiemdinkaaDoorY12
import Derived.Test.YtmconmiemdinkaaDoorY6
set_option maxRecDepth 100000
set_option maxHeartbeats 1000000
set_option linter.unusedSimpArgs false
namespace Go.Proofs.YtmconmiemdinkaaDoor
open Go Go.Abs Go.Proofs
def G0:Nat→List FD:=fun _=>[]
def Q1:Tbl:=ztp
attribute [go_sem] Q1
theorem hQ1:zam Tryd.prog G0 Q1:=zdJ
def Q2:Tbl:=Q1.add 21 (sp2 (fun(l:List Str) (s:Str)=>decide (s∈l)) fun _ _=>True)
attribute [go_sem] Q2
theorem hQ2:zam Tryd.prog G0 Q2:=by
 refine zc7 zCF hQ1 fun l s _ ha hb=>?_
 have la:=zdq ha
 simp only[List.length_map,zbj]at la
 refine zak (N:=17) hm hQ1 21000 (lst []) zCF Tryd.func21 rfl rfl (by simp) (by kernel_rfl) ?_
 simp only[go_sem]
 refine zap hm hQ1 21000 (lst []) (ι:=zd3 l.length fun i=>s∉l.take i) ⟨fun i=>⟨frL [(0,.fz (enc l)),(1,.fz (enc s)),(7,.fz (enc l)),(8,.fz (.i .i64 l.length)),(9,.fz (.i .i64 i.i))],hpL [],0⟩,fun i=>l.length-i.i⟩ ⟨0,by simp,by simp⟩ (by kernel_rfl) ?_ ?_
 ·refine zai ?_ ?_ ?_<;>simp only[go_sem]
 ·intro i
  have hi:=i.hi
  simp only[go_sem]
  refine zaX.d (fun h2=>?_) (fun h2=>?_)
  ·simp only[go_sem,h2,zaa]
   refine zaX.d (fun h4=>?_) (fun h4=>?_)
   ·have hin:s∈l:=h4▸List.getElem_mem h2
    simp only[go_sem,Tryd.f21,hin]
   ·simp only[go_sem]
    refine zaG.i (by omega) fun _=>?_
    simp only[go_sem]
    refine⟨⟨i.i+1,by omega,zb1 h2 i.hp h4⟩,by simp only;omega,?_⟩
    refine zai ?_ ?_ ?_<;>simp only[go_sem]
  ·simp only[go_sem,Tryd.f21,zc5 h2 i.hp]
def Q3:Tbl:=Q2.add 47 (sp2 idx fun _ _=>True)
attribute [go_sem] Q3
theorem hQ3:zam Tryd.prog G0 Q3:=by
 refine zc7 zCU hQ2 fun l s _ ha hb=>?_
 have la:=zdq ha
 simp only[List.length_map,zbj]at la
 refine zak (N:=19) hm hQ2 47000 (lst []) zCU Tryd.func47 rfl rfl (by simp) (by kernel_rfl) ?_
 simp only[go_sem]
 refine zap hm hQ2 47000 (lst []) (ι:=zd3 l.length fun i=>s∉l.take i) ⟨fun i=>⟨frL [(0,.fz (enc l)),(1,.fz (enc s)),(7,.fz (.i .i64 l.length)),(8,.fz (.i .i64 i.i))],hpL [],0⟩,fun i=>l.length-i.i⟩ ⟨0,by simp,by simp⟩ (by kernel_rfl) ?_ ?_
 ·refine zai ?_ ?_ ?_<;>simp only[go_sem]
 ·intro i
  have hi:=i.hi
  simp only[go_sem]
  refine zaX.d (fun h2=>?_) (fun h2=>?_)
  ·simp only[go_sem,h2,zaa]
   refine zaX.d (fun h4=>?_) (fun h4=>?_)
   ·have hin:s∈l:=h4▸List.getElem_mem h2
    have e:idx l s=i.i:=by
     unfold idx
     rw[if_pos hin,zp4 (l:=l) h2 i.hp h4.symm]
    simp only[go_sem,Tryd.f47,e]
   ·simp only[go_sem]
    refine zaG.i (by omega) fun _=>?_
    simp only[go_sem]
    refine⟨⟨i.i+1,by omega,zb1 h2 i.hp fun e=>h4 e.symm⟩,by simp only;omega,?_⟩
    refine zai ?_ ?_ ?_<;>simp only[go_sem]
  ·have e:idx l s= -1:=by
    unfold idx
    rw[if_neg (zc5 h2 i.hp)]
   simp only[go_sem,Tryd.f47,e]
def Q4:Tbl:=Q3.add 32 (sp2 (fun(l:List Str) (s:Str)=>decide (s∈l)) fun _ _=>True)
attribute [go_sem] Q4
theorem hQ4:zam Tryd.prog G0 Q4:=by
 refine zc7 zCL hQ3 fun l s _ ha hb=>?_
 refine zak (N:=9) hm hQ3 32000 (lst []) zCL Tryd.func32 rfl rfl (by simp) (by kernel_rfl) ?_
 have e:decide (0≤idx l s)=decide (s∈l):=by
  unfold idx
  split<;>rename_i h<;>simp[h]
 simp only[go_sem,Q3,Tryd.f32,e]
def Q5:Tbl:=Q4.add 31 (sp1 zax fun _=>True)
attribute [go_sem] Q5
theorem hQ5:zam Tryd.prog G0 Q5:=by
  refine zcu zCK hQ4 fun s _ hs=>?_
  have ls:=zBl hs
  simp only[zbj]at ls
  refine zak (N:=55) hm hQ4 31000 (lst []) zCK Tryd.func31 rfl rfl (by simp) (by kernel_rfl) ?_
  simp only[go_sem]
  repeat'(first|refine zaX.d (fun _=>?_) (fun _=>?_)|refine rq fun _=>?_|simp only[go_sem,Tryd.f31, *])
  · rw[zcf (by unfold zgC;omega)]
  · rw[zcf (by unfold zgC;omega)]
  · rw[zcf (by unfold zgC;omega)]
  · rw[zcf (by unfold zgC;omega)]
  · refine zap hm hQ4 31000 (lst []) (ι:=zd3 s.l.length fun i=>∀j,j<i→okc (s.l.getD j 0)) ⟨fun i=>⟨frL [(0,.fz (enc s)),(24,.fz (.i .i64 s.l.length)),(25,.fz (.i .i64 i.i))],hpL [],0⟩,fun i=>s.l.length-i.i⟩ ⟨0,by simp,by simp⟩ (by kernel_rfl) ?_ ?_
    · refine zai ?_ ?_ ?_<;>simp only[go_sem]
    · intro i
      have hi:=i.hi
      have hp:=i.hp
      simp only[go_sem]
      refine zaX.d (fun h2=>?_) (fun h2=>?_)
      · repeat'(first|refine zaX.d (fun _=>?_) (fun _=>?_)|refine rq fun _=>?_|simp only[go_sem,Tryd.f31, *])
        all_goals first
          |rw[zm7 h2 (by unfold okc zgC;omega)]
          |(refine⟨⟨i.i+1,by omega,zj3 hp (by unfold okc zgC;omega)⟩,by simp only;omega,?_⟩
            refine zai ?_ ?_ ?_<;>simp only[go_sem])
      · simp only[go_sem,Tryd.f31]
        rw[zhs (by omega) (by omega) (by unfold zgC;omega) fun j hj=>hp j (by omega)]
def Q6:Tbl:=Q5.add 20 (sp1 zax fun _=>True)
attribute [go_sem] Q6
theorem hQ6:zam Tryd.prog G0 Q6:=by
  refine zcu zCE hQ5 fun s _ hs=>?_
  have ls:=zBl hs
  simp only[zbj]at ls
  refine zak (N:=62) hm hQ5 20000 (lst []) zCE Tryd.func20 rfl rfl (by simp) (by kernel_rfl) ?_
  simp only[go_sem]
  repeat'(first|refine zaX.d (fun _=>?_) (fun _=>?_)|refine rq fun _=>?_|simp only[go_sem,Tryd.f20, *])
  · rw[zcf (by unfold zgC;omega)]
  · rw[zcf (by unfold zgC;omega)]
  · refine zap hm hQ5 20000 (lst []) (ι:=zd3 s.l.length fun i=>(∀j,j<i→okc (s.l.getD j 0))∧(0<i→zgC (s.l.getD 0 0))) ⟨fun i=>⟨frL [(0,.fz (enc s)),(3,.fz (.i .i64 i.i))],hpL [],0⟩,fun i=>s.l.length-i.i⟩ ⟨0,by simp,by simp⟩ (by kernel_rfl) ?_ ?_
    · refine zai ?_ ?_ ?_<;>simp only[go_sem]
    · intro i
      have hi:=i.hi
      have hp:=i.hp.1
      have hz:=i.hp.2
      simp only[go_sem]
      refine zaX.d (fun h2=>?_) (fun h2=>?_)
      · repeat'(first|refine zaX.d (fun _=>?_) (fun _=>?_)|refine rq fun _=>?_|simp only[go_sem,Tryd.f20, *])
        all_goals first
          |rw[zql (s:=s) (j:=i.i) (by omega) (by unfold zgC;omega)]
          |rw[zm7 h2 (by unfold okc zgC;omega)]
          |(refine⟨⟨i.i+1,by omega,zj3 hp (by unfold okc zgC;omega),zsg hz (by unfold zgC;omega)⟩,by simp only;omega,?_⟩
            refine zai ?_ ?_ ?_<;>simp only[go_sem])
      · simp only[go_sem,Tryd.f20]
        rw[zhs (by omega) (by omega) (hz (by omega)) fun j hj=>hp j (by omega)]
def Q7:Tbl:=Q6
attribute [go_sem] Q7
theorem hQ7:zam Tryd.prog G0 Q7:=hQ6
end Go.Proofs.YtmconmiemdinkaaDoor
namespace Go.Proofs.YtmconmiemdinkaaDoor
open Go Go.Abs Go.Proofs
def Q8:Tbl:=Q7.add 50 (sp1 zdb fun _=>True)
attribute [go_sem] Q8
theorem hQ8:zam Tryd.prog G0 Q8:=by
 refine zcu zCW hQ7 fun k _ hs=>?_
 refine zak (N:=16) hm hQ7 50000 (lst []) zCW Tryd.func50 rfl rfl (by simp) (by kernel_rfl) ?_
 repeat'(first|refine zaX.d (fun _=>?_) (fun _=>?_)|refine rq fun _=>?_|simp only[go_sem,Tryd.f50, *])
 all_goals(unfold zdb;first|rw[if_pos (by omega)]|rw[if_neg (by omega),if_pos (by omega)]|rw[if_neg (by omega),if_neg (by omega),if_pos (by omega)]|rw[if_neg (by omega),if_neg (by omega),if_neg (by omega)])
def Q9:Tbl:=Q8.add 51 (sp1 (fun f:Abs.zab=>decide (f.kind=8∨f.kind=9)) fun _=>True)
attribute [go_sem] Q9
theorem hQ9:zam Tryd.prog G0 Q9:=by
 refine zcu zCX hQ8 fun f _ hs=>?_
 refine zak (N:=11) hm hQ8 51000 (lst []) zCX Tryd.func51 rfl rfl (by simp) (by kernel_rfl) ?_
 repeat'(first|refine zaX.d (fun _=>?_) (fun _=>?_)|refine rq fun _=>?_|simp only[go_sem,Tryd.f51, *])
theorem f49 {c a:Int}{id:Abs.Id}{H:zau}{n:Nat}{R:D→zau→Nat→Prop}(hid:id.2<n)(ho:H id=some ⟨[.fz (.i .i64 a)],true,false⟩)(hR:∀n',n≤n'→R (.agg [.fz (.i .i64 c),.fz (.i .i64 a)]) H n'):
  zaE Tryd.prog G0 49 [.fz (.i .i64 c),.ptr id 0] H n R:=by
 refine zbC zCV (fun hfr=>?_) hR
 have hne:id≠(49003,n):=by rintro rfl;simp at hid
 have hne':(id=(49003,n))=False:=eq_false hne
 obtain⟨Q,hQ⟩:∃Q:D→zau→Nat→Prop,Q=(fun d' H' n'=>d'= .agg [.fz (.i .i64 c),.fz (.i .i64 a)]∧n≤n'∧∀id,id.2<n→H' id=H id):=⟨_,rfl⟩
 rw[←hQ]
 have e:H=hpX [] H:=rfl
 rw[e]
 refine zak (N:=7) hm hQ9 49000 (lst []) zCV Tryd.func49 rfl rfl (by simp) (by kernel_rfl) ?_
 simp only[go_sem]
 rw[if_neg hne,ho]
 simp only[go_sem,Tryd.f49]
 rw[hQ]
 refine⟨?_,by omega,fun id hid=>zma (n:=n) (by intro p hp;simp at hp;rcases hp with rfl|rfl<;>simp) id hid⟩
 simp only[go_sem]
end Go.Proofs.YtmconmiemdinkaaDoor
namespace Go.Proofs.YtmconmiemdinkaaDoor
open Go Go.Abs Go.Proofs
attribute [local irreducible] zax
def HHc (op:Bool)(n:Nat):List (Abs.Id×Option O):=
  [((33005,3),some ⟨[.fz (.i .i64 n)],true,false⟩),((33003,1),some ⟨[.fz (.b op)],true,false⟩),
   ((33006,4),some ⟨[.fn 48 [.ptr (33005,3) 0,.ptr (33003,1) 0,.ptr (33006,4) 0]],true,false⟩),
   ((33004,2),some ⟨[.fz (.i .i64 0),.fz (.i .i64 0)],true,false⟩)]
def ztw (x:zgV):D:= .agg [.fz (.i .i64 x.code),.fz (.i .i64 x.index)]
theorem ztA {op:Bool}{f:Abs.zab}{d:Int}{n:Nat}(h:zcB op f d n≠0):chk op f d n=(⟨zcB op f d n,n⟩,n+1):=by rw[zpq,if_pos h]
theorem zae {s:Str}:(⟨s.l⟩:Str)=s:=rfl
theorem zuI {s:Str}:s=⟨[]⟩↔s.l=[]:=by cases s;simp
def zj4 (id:Abs.Id):List (Abs.Id×Option O)→Prop
 |[]=>True
 |(i,_)::l=>i≠id∧zj4 id l
theorem zba {id:Abs.Id}{X:zau}:∀{l:List (Abs.Id×Option O)},zj4 id l→hpX l X id=X id
 |[],_=>rfl
 |(i,o)::l,h=>by simp only[hpX];rw[if_neg (fun e=>h.1 e.symm)];exact zba h.2
theorem zbb {op:Bool}{f:Abs.zab}{d p:Int}{n:Nat}(hp:za1 op f=p):zcB op f d n=if 200<(n:Int)+1∨40<d then 1 else if p<0 then 4
  else if¬((f.subs.length:Int)=p∧(f.kind=2→(f.words.length:Int)≤3)∧(f.kind=3→(f.words.length:Int)=2)∧(f.kind≠2→f.kind≠3→(f.words.length:Int)=0))then 9
  else if(f.kind=2∨f.kind=8∨f.kind=9∨f.kind=10)∧zax f.name=false then 10 else if¬(f.kind=2∨f.kind=8∨f.kind=9∨f.kind=10)∧¬f.name.l=[]then 5 else if f.words.all zax=false then 10 else 0:=by
 have e1:(200<n+1∨40<d)=(200<(n:Int)+1∨40<d):=propext (by omega)
 have e2:(zdl f=true)=((f.kind=2→(f.words.length:Int)≤3)∧(f.kind=3→(f.words.length:Int)=2)∧(f.kind≠2→f.kind≠3→(f.words.length:Int)=0)):=propext (by
  unfold zdl
  by_cases h2:f.kind=2
  ·rw[if_pos h2,decide_eq_true_eq];omega
  ·rw[if_neg h2]
   by_cases h3:f.kind=3
   ·rw[if_pos h3,decide_eq_true_eq];omega
   ·rw[if_neg h3,decide_eq_true_eq];omega)
 have e3:(f.name≠⟨[]⟩)=¬f.name.l=[]:=propext (by rw[Ne,zuI])
 unfold zcB
 simp only[hp,e1,e2,e3,named,decide_eq_true_eq,decide_eq_false_iff_not]
theorem zqO:zdb 10= -1:=by decide
theorem zuJ:zdb 2=0:=by decide
theorem zuK:zdb 3=0:=by decide
theorem zhz (op:Bool)(f:Abs.zab):(f.kind=2∧za1 op f=0)∨(f.kind=3∧za1 op f=0)∨(f.kind=10∧op=true∧za1 op f=0)∨(f.kind=10∧op=false∧za1 op f= -1)∨(¬f.kind=2∧¬f.kind=3∧¬f.kind=10∧za1 op f=zdb f.kind):=by
 unfold za1
 by_cases h2:f.kind=2
 ·exact .inl ⟨h2,by rw[if_neg (by omega),h2];rfl⟩
 by_cases h3:f.kind=3
 ·exact .inr (.inl ⟨h3,by rw[if_neg (by omega),h3];rfl⟩)
 by_cases h10:f.kind=10
 ·cases op
  ·exact .inr (.inr (.inr (.inl ⟨h10,rfl,by rw[if_neg (by simp),h10];rfl⟩)))
  ·exact .inr (.inr (.inl ⟨h10,rfl,by rw[if_pos ⟨h10,rfl⟩]⟩))
 ·exact .inr (.inr (.inr (.inr ⟨h2,h3,h10,by rw[if_neg (fun h=>h10 h.1)]⟩)))
theorem ze3 {P:Program}{G:Nat→List FD}{f:FuncId}{args:List D}{H X:zau}{hl:List (Abs.Id×Option O)}{n n':Nat}{R:D→zau→Nat→Prop}(hf:zoN (frL (zg1 0 args)) (zg1 0 args))(hh:zfO H hl)(hx:∀id o,X id=some o→H id=some o)(hn:n≤n')(h:zaE P G f args (hpX hl X) n' R):zaE P G f args H n R:=
 zdp rfl (ze6 hf (zfO.getX hx hh) hn) h
theorem zes {P:Program}{G:Nat→List FD}{f:FuncId}{d:D}{x:FD}{rest:List D}{H:zau}{n:Nat}{R:D→zau→Nat→Prop}(ha:D.toFDs [d]=some [x])(h:zaE P G f (.fz x::rest) H n R):zaE P G f (d::rest) H n R:=by
 refine⟨h.1,fun w L F vs hok hvs=>h.2 w L F vs hok ?_⟩
 cases vs with
 |nil=>simp[zaq]at hvs
 |cons v vs=>
  simp only[zaq]at hvs ⊢
  have h1:zaq w L F (Ub n) [d] [v]:=by simp only[zaq];exact⟨hvs.1,trivial⟩
  have h2:zaq w L F (Ub n) ([x].map .fz) [v]:=h1.of_toFDs ha
  simp only[List.map_cons,List.map_nil,zaq]at h2
  exact⟨h2.1,hvs.2⟩
structure Kp (p:Prop):Prop where
 out:p
structure zto (n0 len:Nat)(p:Nat→Nat→Prop) where
 j:Nat
 n:Nat
 m:Nat
 hj:j≤len
 hm:n0≤m
 hp:p j n
theorem f48 (op:Bool):∀(k:Nat) (f:Abs.zab) (d:Int) (n m:Nat) (X:zau),f.size≤k→(enc f).Wf→0≤d→d≤41→n≤200→4<m→
  (∀id o,X id=some o→id.2<m∧id.1≠33003∧id.1≠33004∧id.1≠33005∧id.1≠33006)→
  zaE Tryd.prog G0 48 [.fz (enc f),.fz (.i .i64 d),.ptr (33005,3) 0,.ptr (33003,1) 0,.ptr (33006,4) 0] (hpX (HHc op n) X) m
   (fun d' H' n'=>d'=ztw (chk op f d n).1∧m≤n'∧zfO H' (HHc op (chk op f d n).2)∧∀id o,X id=some o→H' id=some o):=by
 intro k
 induction k with
 |zero=>intro f d n m X hs;have:=f.size_pos;omega
 |succ k ih=>
  intro f d n m X hs hw hd0 hd hn hm' hX
  obtain⟨Q,hQ⟩:∃Q:D→zau→Nat→Prop,Q=(fun d' H' n'=>d'=ztw (chk op f d n).1∧m≤n'∧zfO H' (HHc op (chk op f d n).2)∧∀id o,X id=some o→H' id=some o):=⟨_,rfl⟩
  rw[←hQ]
  have hbad:∀{c:Int} {d':D} {H':zau} {n':Nat},zcB op f d n=c→c≠0→d'=ztw ⟨c,n⟩→m≤n'→zfO H' (HHc op (n+1))→(∀id o,X id=some o→H' id=some o)→Q d' H' n':=fun h1 h2 h3 h4 h5 h6=>by
   rw[hQ]
   have e:chk op f d n=(⟨_,n⟩,n+1):=(ztA (by rw[h1];exact h2)).trans (by rw[h1])
   rw[e]
   exact⟨h3,h4,h5,h6⟩
  have hX':∀{l:List (Abs.Id×Option O)} (id o),X id=some o→(id.2<m∧id.1≠33003∧id.1≠33004∧id.1≠33005∧id.1≠33006→zj4 id l)→hpX l X id=some o:=fun id o h1 h2=>(zba (h2 (hX id o h1))).trans h1
  have hwl:f.words.length≤zbj:=by
   have h:=zbM (by have h:=hw;rw[zaJ]at h;exact h) (FD.sl (f.words.map enc)) (by simp)
   have:=zdq h
   simpa using this
  have hsl:f.subs.length≤zbj:=by
   have h:=zbM (by have h:=hw;rw[zaJ]at h;exact h) (FD.sl (f.subs.map enc)) (by simp)
   have:=zdq h
   simpa using this
  have hsw:∀g∈f.subs,(enc g).Wf:=fun g hg=>zjX (zbM (by have h:=hw;rw[zaJ]at h;exact h) (FD.sl (f.subs.map enc)) (by simp)) _ (List.mem_map_of_mem hg)
  have hss:∀g∈f.subs,g.size≤k:=fun g hg=>by have:=zab.size_sub hg;omega
  unfold zbj at hwl hsl
  have kX:=Kp.mk @hX'
  have kQ:=Kp.mk hQ
  have kI:=Kp.mk ih
  have kS:=Kp.mk hsw
  have kZ:=Kp.mk hss
  have kb:=Kp.mk @hbad
  have kx:=Kp.mk hX
  clear hX' hQ ih hsw hss hX hbad
  refine zak (N:=133) hm hQ9 48000 (lst []) zEC Tryd.func48 rfl rfl (by simp) (by kernel_rfl) ?_
  rcases zhz op f with⟨hk,hp⟩|⟨hk,hp⟩|⟨hk,hop,hp⟩|⟨hk,hop,hp⟩|⟨hk,hk3,hk10,hp⟩
  all_goals repeat'(first|refine zaX.d (fun _=>?_) (fun _=>?_)|refine zaX.i (fun _=>?_) (fun _=>?_)|refine rq fun _=>?_|refine zaF.i (f49 (a:=(n:Int)) (by simp only;omega) (by simp only[go_sem,HHc]) fun n' hn'=>?_)|simp only[go_sem,HHc,zqO,zuJ,zuK,Tryd.f48, *])
  all_goals try
   refine kb.out (by first
    |rw[zbb hp,if_pos (by omega)]
    |rw[zbb hp,if_neg (by omega),if_pos (by omega)]
    |rw[zbb hp,if_neg (by omega),if_neg (by omega),if_pos (by omega)]
    |rw[zbb hp,if_neg (by omega),if_neg (by omega),if_neg (by omega),if_pos ⟨by omega,by first|assumption|simp_all [zae]⟩]
    |rw[zbb hp,if_neg (by omega),if_neg (by omega),if_neg (by omega),if_neg (by omega),if_pos ⟨by omega,by assumption⟩]) (by decide) rfl (by omega) (by first|(simp only[go_sem,HHc];done)|(simp only[go_sem,HHc,hop];done)) fun id o ho=>?_
   refine kX.out id o ho fun h1=>?_
   ((repeat'(first|exact trivial|apply And.intro))<;>(rintro rfl;simp only at h1;omega))
  all_goals
   have hN:zcB op f d n=if f.words.all zax=false then 10 else 0:=by
    rw[zbb hp,if_neg (by omega),if_neg (by omega),if_neg (by omega),if_neg (by first|omega|(rintro⟨_,h⟩;simp_all [zae])),if_neg (by first|omega|(rintro⟨_,h⟩;simp_all))]
  all_goals
   refine zap hm hQ9 48000 (lst []) (ι:=zdI f.words.length (m+1+1+1) fun i=>(f.words.take i).all zax=true)
    ⟨fun q=>⟨frL [(1,.fz (.i .i64 d)),(2,.ptr (33005,3) 0),(3,.ptr (33003,1) 0),(4,.ptr (33006,4) 0),(5,.ptr (48005,m) 0),(7,.ptr (48007,m+1) 0),(9,.fn 49 [.ptr (48008,m+1+1) 0]),
      (103,.fz (.sl (f.words.map enc))),(104,.fz (.i .i64 f.words.length)),(105,.fz (.i .i64 q.i))],
     hpX ([((48007,m+1),some ⟨[.fz (.i .i64 0),.fz (.i .i64 0)],true,false⟩),((48008,m+1+1),some ⟨[.fz (.i .i64 n)],true,false⟩),
      ((48005,m),some ⟨[.fz (.i .i64 f.kind),.fz (.s f.name.l),.fz (.sl (f.words.map enc)),.fz (.sl (f.subs.map enc))],true,false⟩)]++HHc op (n+1)) X,q.m⟩,fun q=>f.words.length-q.i⟩
    ⟨0,_,by omega,Nat.le_refl _,by simp⟩ (by kernel_rfl) ?_ ?_
   ·refine zaL ?_ ?_ (fun id o ho=>?_) ?_
    ·simp only[go_sem, *]
    ·simp only[go_sem,HHc, *]
    ·refine kX.out id o ho fun h1=>?_
     ((repeat'(first|exact trivial|apply And.intro))<;>(rintro rfl;simp only at h1;omega))
    ·simp only[go_sem]
   rintro⟨i,q,hi,hq,hpi⟩
   try simp only at hi hq hpi
   rcases Nat.lt_or_ge i f.words.length with h1|h1
   ·cases hnm:zax f.words[i]with
    |false=>
     have hall:f.words.all zax=false:=List.all_eq_false.2 ⟨_,List.getElem_mem h1,by simp[hnm]⟩
     rw[if_pos hall]at hN
     repeat'(first|refine rq fun _=>?_|refine zaF.i (f49 (a:=(n:Int)) (by simp only;omega) (by simp only[go_sem,HHc]) fun n' hn'=>?_)|simp only[go_sem,HHc,h1,hnm,zae,zaa,Tryd.f48])
     refine kb.out hN (by decide) rfl (by omega) (by simp only[go_sem,HHc]) fun id o ho=>?_
     refine kX.out id o ho fun h1=>?_
     ((repeat'(first|exact trivial|apply And.intro))<;>(rintro rfl;simp only at h1;omega))
    |true=>
     repeat'(first|refine rq fun _=>?_|simp only[go_sem,HHc,h1,hnm,zae,zaa,Tryd.f48])
     refine⟨⟨i+1,q,by omega,by omega,by rw[zb5 h1,hpi,hnm];rfl⟩,by simp only;omega,?_⟩
     refine zaL ?_ ?_ (fun id o ho=>?_) ?_
     ·simp only[go_sem]
     ·simp only[go_sem,HHc]
     ·refine kX.out id o ho fun h1=>?_
      ((repeat'(first|exact trivial|apply And.intro))<;>(rintro rfl;simp only at h1;omega))
     ·simp only[go_sem]
   ·have h1':¬i<f.words.length:=by omega
    rw[List.take_of_length_le h1]at hpi
    rw[if_neg (by rw[hpi];simp)]at hN
    repeat'(first|refine rq fun _=>?_|simp only[go_sem,HHc,h1',zaa,Tryd.f48])
    have hchk:chk op f d n=zdH op f.subs (d+1) (n+1):=by rw[zpq,if_neg (by rw[hN];simp)]
    refine zap hm hQ9 48000 (lst []) (ι:=zto (m+1+1+1) f.subs.length fun j n2=>n2≤200∧zdH op f.subs (d+1) (n+1)=zdH op (f.subs.drop j) (d+1) n2)
     ⟨fun q=>⟨frL [(1,.fz (.i .i64 d)),(2,.ptr (33005,3) 0),(3,.ptr (33003,1) 0),(4,.ptr (33006,4) 0),(7,.ptr (48007,m+1) 0),
       (116,.fz (.sl (f.subs.map enc))),(117,.fz (.i .i64 f.subs.length)),(118,.fz (.i .i64 q.j))],
      hpX (((48007,m+1),some ⟨[.fz (.i .i64 0),.fz (.i .i64 0)],true,false⟩)::HHc op q.n) X,q.m⟩,fun q=>f.subs.length-q.j⟩
     ⟨0,n+1,q,by omega,hq,by omega,rfl⟩ (by kernel_rfl) ?_ ?_
    ·refine zaL ?_ ?_ (fun id o ho=>?_) ?_
     ·simp only[go_sem]
     ·simp only[go_sem,HHc]
     ·refine kX.out id o ho fun h1=>?_
      ((repeat'(first|exact trivial|apply And.intro))<;>(rintro rfl;simp only at h1;omega))
     ·simp only[go_sem]
    rintro⟨j,n2,q2,hj,hq2,hn2,hch⟩
    try simp only at hj hq2 hn2 hch
    rcases Nat.lt_or_ge j f.subs.length with h2|h2
    ·have hmem:=List.getElem_mem h2
     rw[List.drop_eq_getElem_cons h2,zdH]at hch
     have ih2:=kI.out f.subs[j] (d+1) n2 (q2+1) (hpX [((48007,m+1),some ⟨[.fz (.i .i64 0),.fz (.i .i64 0)],true,false⟩)] X) (kZ.out _ hmem) (kS.out _ hmem) (by omega) (by omega) hn2 (by omega) (by
      intro id o ho
      simp only[hpX]at ho
      split at ho
      ·rename_i e;subst e;simp only;omega
      ·have:=kx.out id o ho;omega)
     rw[zaJ]at ih2
     repeat'(first|refine rq fun _=>?_|simp only[go_sem,HHc,h2,zaa,Tryd.f48])
     refine zaF.i (zes rfl (ze3 (by simp only[go_sem,zg1]) (by simp only[go_sem,HHc]) (fun id o ho=>?_) (Nat.le_refl _) (zaQ ih2 ?_)))
     ·simp only[hpX]at ho
      split at ho
      ·rename_i e;subst e;simp only[go_sem];exact Option.some.inj ho
      ·refine kX.out id o ho fun h1=>?_
       ((repeat'(first|exact trivial|apply And.intro))<;>(rintro rfl;simp only at h1;omega))
     rintro d' H' n' ⟨rfl,e1,e2,e3⟩
     have b0:=e3 (48007,m+1) ⟨[.fz (.i .i64 0),.fz (.i .i64 0)],true,false⟩ (by simp only[hpX,if_true])
     have hX2:∀id o,X id=some o→H' id=some o:=fun id o ho=>e3 id o (kX.out id o ho fun h1=>⟨by rintro rfl;simp only at h1;omega,trivial⟩)
     simp only[go_sem,HHc]at e2
     obtain⟨b1,b2,b3,b4⟩:=e2
     rw[show H'=hpX [] H' from rfl]
     by_cases hc:(chk op f.subs[j] (d+1) n2).1.code=0
     ·rw[if_neg (by rw[hc];simp)]at hch
      obtain⟨c1,c2,c3⟩:=zps _ _ _ hc
      repeat'(first|refine rq fun _=>?_|simp only[go_sem,HHc,h2,hc,ztw,b0,Tryd.f48])
      refine⟨⟨j+1,_,n'+1,by omega,by omega,c2,hch⟩,by simp only;omega,?_⟩
      refine zaL ?_ ?_ (fun id o ho=>?_) ?_
      ·simp only[go_sem]
      ·simp only[go_sem,HHc,b0,b1,b2,b3,b4]
      ·have h1:=kx.out id o ho
       refine(zba ?_).trans (hX2 id o ho)
       ((repeat'(first|exact trivial|apply And.intro))<;>(rintro rfl;simp only at h1;omega))
      ·simp only[go_sem]
     ·rw[if_pos hc]at hch
      repeat'(first|refine rq fun _=>?_|simp only[go_sem,HHc,h2,hc,ztw,b0,Tryd.f48])
      rw[kQ.out,hchk,hch]
      refine⟨rfl,by omega,by simp only[go_sem,HHc,b1,b2,b3,b4],fun id o ho=>?_⟩
      have h1:=kx.out id o ho
      refine(zba ?_).trans (hX2 id o ho)
      ((repeat'(first|exact trivial|apply And.intro))<;>(rintro rfl;simp only at h1;omega))
    ·have h2':¬j<f.subs.length:=by omega
     rw[List.drop_of_length_le h2,zdH]at hch
     repeat'(first|refine rq fun _=>?_|simp only[go_sem,HHc,h2',ztw,Tryd.f48])
     rw[kQ.out,hchk,hch]
     refine⟨rfl,by omega,by simp only[go_sem,HHc],fun id o ho=>kX.out id o ho fun h1=>?_⟩
     ((repeat'(first|exact trivial|apply And.intro))<;>(rintro rfl;simp only at h1;omega))
end Go.Proofs.YtmconmiemdinkaaDoor
namespace Go.Proofs.YtmconmiemdinkaaDoor
open Go Go.Abs Go.Proofs
def Q10:Tbl:=Q9.add 33 (sp2 (fun(f:Abs.zab) (op:Bool)=>zaP op f) fun _ _=>True)
attribute [go_sem] Q10
theorem zDJ:zam Tryd.prog G0 Q10:=by
 refine zc7 zCM hQ9 fun f op _ hf _=>?_
 refine zak (N:=11) hm hQ9 33000 (lst []) zCM Tryd.func33 rfl rfl (by simp) (by kernel_rfl) ?_
 have h:=f48 op f.size f 1 0 5 (fun _=>none) (Nat.le_refl _) hf (by omega) (by omega) (by omega) (by omega) (fun id o ho=>nomatch ho)
 rw[zaJ]at h
 repeat'(first|refine rq fun _=>?_|simp only[go_sem,Tryd.f33])
 refine zaF.i (zes rfl (ze3 (by simp only[go_sem,zg1]) (by simp only[go_sem,HHc]) (fun id o ho=>?_) (Nat.le_refl _) (zaQ h ?_)))
 ·cases ho
 rintro d' H' n' ⟨rfl,e1,e2,e3⟩
 simp only[go_sem,HHc]at e2
 obtain⟨b1,b2,b3,b4⟩:=e2
 rw[show H'=hpX [] H' from rfl]
 repeat'(first|refine rq fun _=>?_|simp only[go_sem,HHc,ztw,b4,zaP,Tryd.f33])
def Q11:Tbl:=Q10
attribute [go_sem] Q11
theorem zBx:zam Tryd.prog G0 Q11:=zDJ
end Go.Proofs.YtmconmiemdinkaaDoor
namespace Go.Proofs.YtmconmiemdinkaaDoor
open Go Go.Abs Go.Proofs
def Q12:Tbl:=Q11.add 45 (sp1 zdb fun _=>True)
attribute [go_sem] Q12
theorem zDK:zam Tryd.prog G0 Q12:=by
 refine zcu zCT zBx fun k _ hs=>?_
 refine zak (N:=13) hm zBx 45000 (lst []) zCT Tryd.func45 rfl rfl (by simp) (by kernel_rfl) ?_
 by_cases h:1≤k∧k≤9
 ·have hk:k=1∨k=2∨k=3∨k=4∨k=5∨k=6∨k=7∨k=8∨k=9:=by omega
  rcases hk with rfl|rfl|rfl|rfl|rfl|rfl|rfl|rfl|rfl
  all_goals
   repeat'(first|refine rq fun _=>?_|simp only[go_sem,Tryd.f45,zdb])
 ·have e:zdb k= -1:=by unfold zdb;rw[if_neg (by omega),if_neg (by omega),if_neg (by omega)]
  repeat'(first|refine zaX.d (fun _=>?_) (fun _=>?_)|refine rq fun _=>?_|simp only[go_sem,Tryd.f45,e, *])
  all_goals(exfalso;omega)
def Q13:Tbl:=Q12
attribute [go_sem] Q13
theorem zDL:zam Tryd.prog G0 Q13:=zDK
end Go.Proofs.YtmconmiemdinkaaDoor
namespace Go.Proofs.YtmconmiemdinkaaDoor
open Go Go.Abs Go.Proofs
def Q14:Tbl:=Q13
attribute [go_sem] Q14
theorem zBy:zam Tryd.prog G0 Q14:=zDL
def zou (nm:Str)(w:List Str):Abs.zab:= .mk 2 nm w []
def Q15:Tbl:=Q14.add 19 (sp2 zou fun _ _=>True)
attribute [go_sem] Q15
theorem zDM:zam Tryd.prog G0 Q15:=by
 refine zc7 zCD zBy fun nm w _ _ hs=>?_
 refine zak (N:=8) hm zBy 19000 (lst []) zCD Tryd.func19 rfl rfl (by simp) (by kernel_rfl) ?_
 repeat'(first|refine rq fun _=>?_|simp only[go_sem,Tryd.f19,zou])
def sX:Str:=⟨[120]⟩
def sY:Str:=⟨[121]⟩
def zDb:Str:=⟨[100,111,103]⟩
def Q16:Tbl:=Q15
attribute [go_sem] Q16
theorem zDN:zam Tryd.prog G0 Q16:=zDM
end Go.Proofs.YtmconmiemdinkaaDoor
namespace Go.Proofs.YtmconmiemdinkaaDoor
open Go Go.Abs Go.Proofs
def Q17:Tbl:=Q16
attribute [go_sem] Q17
theorem zDO:zam Tryd.prog G0 Q17:=zDN
def Q18:Tbl:=Q17
attribute [go_sem] Q18
theorem zwr:zam Tryd.prog G0 Q18:=zDO
end Go.Proofs.YtmconmiemdinkaaDoor
namespace Go.Proofs.YtmconmiemdinkaaDoor
open Go Go.Abs Go.Proofs
attribute [local irreducible] zax
theorem zaA {n b:Nat}(h:n≤1000000000)(hb:b≤256):fits n b:=by
 have h1:n≤zbj:=Nat.le_trans h (by unfold zbj;decide)
 refine⟨h1,Nat.le_trans (Nat.mul_le_mul_left _ hb) ?_⟩
 omega
def zir (p:Abs.zab×Int):FD:= .agg [.i .i64 p.1.kind,.s p.1.name.l,.sl (p.1.words.map enc),.sl (p.1.subs.map enc),.i .i64 p.2]
theorem zxg (l:List (Abs.zab×Int)):zbi (l.map zir) 5:=fun x hx=>by
 obtain⟨a,_,rfl⟩:=List.mem_map.1 hx;rfl
theorem zdv (l:List (Abs.zab×Int)):(zag (l.map zir)).length=l.length*5:=by
 rw[zbp (za4 (zxg l)),List.length_map]
theorem zfT {xs ys:List FD}:zag (xs++ys)=zag xs++zag ys:=by simp[zag]
theorem zgo (op:Bool)(f:Abs.zab):(f.kind=2∧za1 op f=0)∨(f.kind=3∧za1 op f=0)∨(f.kind=10∧op=true∧za1 op f=0)∨(f.kind=10∧op=false∧za1 op f= -1)∨(f.kind=8∧za1 op f=1)∨(f.kind=9∧za1 op f=1)∨
  (¬f.kind=2∧¬f.kind=3∧¬f.kind=10∧¬f.kind=8∧¬f.kind=9∧za1 op f=zdb f.kind):=by
 rcases zhz op f with h|h|h|h|⟨h2,h3,h10,hp⟩
 ·exact .inl h
 ·exact .inr (.inl h)
 ·exact .inr (.inr (.inl h))
 ·exact .inr (.inr (.inr (.inl h)))
 ·by_cases h8:f.kind=8
  ·exact .inr (.inr (.inr (.inr (.inl ⟨h8,by rw[hp,h8];rfl⟩))))
  by_cases h9:f.kind=9
  ·exact .inr (.inr (.inr (.inr (.inr (.inl ⟨h9,by rw[hp,h9];rfl⟩)))))
  exact .inr (.inr (.inr (.inr (.inr (.inr ⟨h2,h3,h10,h8,h9,hp⟩)))))
theorem zxG:zdb 8=1:=by decide
theorem zxH:zdb 9=1:=by decide
structure Stk where
 st:List (Abs.zab×Int)
 cells:List D
 g:Nat
 m:Nat
 n:Nat
theorem zqM {cells:List D}{l st:List (Abs.zab×Int)}{x:Abs.zab×Int}(hst:st=l++[x])(hc:cells.take (st.length*5)=zag (st.map zir))(hl:st.length*5≤cells.length):
  (cells.drop (l.length*5)).take 5=[.fz (.i .i64 x.1.kind),.fz (.s x.1.name.l),.fz (.sl (x.1.words.map enc)),.fz (.sl (x.1.subs.map enc)),.fz (.i .i64 x.2)]∧cells.take (l.length*5)=zag (l.map zir):=by
 subst hst
 rw[List.length_append,List.length_singleton,List.map_append,zfT]at hc
 have hl2:=zdv l
 have h1:cells=(zag (l.map zir)++zag ([x].map zir))++cells.drop ((l.length+1)*5):=by rw[←hc,List.take_append_drop]
 constructor
 ·rw[h1,List.append_assoc,List.drop_append_of_le_length (by omega),List.drop_of_length_le (by omega),List.nil_append]
  rfl
 ·rw[h1,List.append_assoc,List.take_append_of_le_length (by omega),List.take_of_length_le (by omega)]
def zbk (l:List (Abs.zab×Int))(s:List Abs.zab)(d:Int)(j:Nat):List (Abs.zab×Int):=l++((s.drop j).map fun g=>(g,d+1)).reverse
theorem zcS {l:List (Abs.zab×Int)}{s:List Abs.zab}{d:Int}:zbk l s d s.length=l:=by simp[zbk]
theorem zeD {l:List (Abs.zab×Int)}{s:List Abs.zab}{d:Int}{j:Nat}:(zbk l s d j).length=l.length+(s.length-j):=by simp[zbk]
theorem zhA {l:List (Abs.zab×Int)}{s:List Abs.zab}{d:Int}{j:Nat}(h:j<s.length):zbk l s d j=zbk l s d (j+1)++[(s[j],d+1)]:=by
 unfold zbk;rw[List.drop_eq_getElem_cons h,List.map_cons,List.reverse_cons,List.append_assoc]
theorem ziJ {l:List (Abs.zab×Int)}{s:List Abs.zab}{d:Int}:(zbk l s d 0).reverse=s.map (fun g=>(g,d+1))++l.reverse:=by simp[zbk]
theorem ziI {l:List (Abs.zab×Int)}{s:List Abs.zab}{d:Int}{j:Nat}{a:Abs.zab×Int}(h:a∈zbk l s d j):a∈l∨∃g∈s,a=(g,d+1):=by
 unfold zbk at h
 rcases List.mem_append.1 h with h|h
 ·exact .inl h
 ·rw[List.mem_reverse,List.mem_map]at h
  obtain⟨g,hg,rfl⟩:=h
  exact .inr ⟨g,List.mem_of_mem_drop hg,rfl⟩
structure zBi where
 j:Nat
 cells:List D
 g:Nat
 m:Nat
set_option maxHeartbeats 8000000 in
theorem f22:zam Tryd.prog G0 (Q18.add 22 (sp2 (fun(f:Abs.zab) op=>zaP op f) fun _ op=>op=false)):=by
 refine zc7 zy3 zwr fun f op hop hw _=>?_
 obtain rfl:op=false:=hop
 obtain⟨Q,hQ⟩:∃Q:D→zau→Nat→Prop,Q=(fun d _ _=>D.val d=some (.fz (enc (zaP false f)))):=⟨_,rfl⟩
 rw[←hQ]
 have hres:∀{c i:Int} {H':zau} {n':Nat},zaP false f=⟨c,i⟩→Q (.agg [.fz (.i .i64 c),.fz (.i .i64 i)]) H' n':=fun e=>by
  rw[hQ];show _=some (D.fz (enc (zaP false f)));rw[e];rfl
 have kr:=Kp.mk @hres
 clear hres hQ
 refine zak (N:=150) hm zwr 22000 (lst [19,148]) zy3 Tryd.func22 rfl rfl (by simp) (by kernel_rfl) ?_
 repeat'(first|refine rq fun _=>?_|simp only[go_sem])
 refine zap hm zwr 22000 (lst [19,148]) (ι:={q:Stk // Kp (q.g<q.m∧q.cells.take (q.st.length*5)=zag (q.st.map zir)∧q.st.length*5≤q.cells.length∧4≤q.m∧q.n≤200∧q.st.length≤1+2*q.n∧(∀a∈q.st,(enc a.1).Wf∧0≤a.2∧a.2≤41)∧zgE false q.st.reverse q.n=zaP false f)})
  ⟨fun q=>⟨frL [(1,.fz (.b false)),(4,.ptr (22004,1) 0),(5,.arr (22148,q.1.g) 5 0 q.1.st.length),(6,.fz (.i .i64 q.1.n))],
   hpL [((22004,1),some ⟨[.fz (.i .i64 0),.fz (.i .i64 0)],true,false⟩),((22148,q.1.g),some ⟨q.1.cells,false,false⟩)],q.1.m⟩,fun q=>201-q.1.n⟩
  ⟨⟨[(f,1)],[.fz (.i .i64 f.kind),.fz (.s f.name.l),.fz (.sl (f.words.map enc)),.fz (.sl (f.subs.map enc)),.fz (.i .i64 1)],3,4,0⟩,⟨by simp only;omega,rfl,Nat.le_refl _,by simp only;omega,by simp only;omega,by simp,by simp only[List.mem_singleton];rintro a rfl;exact⟨hw,by simp,by simp⟩,zk6⟩⟩ (by kernel_rfl) ?_ ?_
 ·refine zcV [((22148,3),(22019,2))] [] [] ?_ ?_ ?_ ?_ ?_<;>simp only[go_sem,zuz,znb,vL]
 rintro⟨⟨st,cells,g,m,n⟩,kp⟩
 obtain⟨hg,hc,hl,hm4,hn,hlen,hwf,hrest⟩:=kp.out
 try simp only at hm4 hn hlen hwf hrest hg hc hl
 rcases List.eq_nil_or_concat st with rfl|⟨l,⟨x,d⟩,hst⟩
 ·have e:zaP false f=⟨0,0⟩:=by rw[←hrest];rfl
  repeat'(first|refine rq fun _=>?_|simp only[go_sem,List.length_nil,Tryd.f22])
  exact kr.out e
 rw[List.concat_eq_append]at hst
 obtain⟨hcell,hcut⟩:=zqM hst hc hl
 have hl1:st.length=l.length+1:=by rw[hst,List.length_append,List.length_singleton]
 have e1:((st.length:Int)-1).toNat=l.length:=by omega
 have e1b:((st.length:Int)-1-0).toNat=l.length:=by omega
 have hpos:0<(st.length:Int):=by omega
 have hl5:l.length*5+5≤cells.length:=by omega
 have hll:l.length≤2*n:=by omega
 obtain⟨hx1,hx2,hx3⟩:=hwf (x,d) (by rw[hst];simp)
 simp only at hx1 hx2 hx3 hcell
 have hlwf:∀a∈l,(enc a.1).Wf∧0≤a.2∧a.2≤41:=fun a ha=>hwf a (by rw[hst];exact List.mem_append_left _ ha)
 rw[hst,List.reverse_append,List.reverse_singleton,List.singleton_append,ziK]at hrest
 have hbad:∀{c:Int} {H':zau} {n':Nat},zcB false x d n=c→c≠0→Q (.agg [.fz (.i .i64 c),.fz (.i .i64 n)]) H' n':=fun h1 h2=>kr.out (by rw[←hrest,if_pos (by rw[h1];exact h2),h1])
 have hwl:x.words.length≤zbj:=by
  have h:=zbM (by have h:=hx1;rw[zaJ]at h;exact h) (FD.sl (x.words.map enc)) (by simp)
  have:=zdq h
  simpa using this
 have hsl:x.subs.length≤zbj:=by
  have h:=zbM (by have h:=hx1;rw[zaJ]at h;exact h) (FD.sl (x.subs.map enc)) (by simp)
  have:=zdq h
  simpa using this
 have hsw:∀g∈x.subs,(enc g).Wf:=fun g hg=>zjX (zbM (by have h:=hx1;rw[zaJ]at h;exact h) (FD.sl (x.subs.map enc)) (by simp)) _ (List.mem_map_of_mem hg)
 unfold zbj at hwl hsl
 have kb:=Kp.mk @hbad
 have kR:=Kp.mk hrest
 have kW:=Kp.mk hlwf
 have kS:=Kp.mk hsw
 have kC:=Kp.mk hcut
 clear hbad hrest hlwf hsw hst hx1 hcut hl1 hlen hwf hc hl hw
 rcases zgo false x with⟨hk,hp⟩|⟨hk,hp⟩|⟨_,hop,_⟩|⟨hk,_,hp⟩|⟨hk,hp⟩|⟨hk,hp⟩|⟨hk,hk3,hk10,hk8,hk9,hp⟩
 rotate_left 2
 ·exact Bool.noConfusion hop
 all_goals repeat'(first|refine zaX.d (fun _=>?_) (fun _=>?_)|refine zaX.i (fun _=>?_) (fun _=>?_)|refine rq fun _=>?_|simp only[go_sem,Nat.zero_add,zqO,zuJ,zuK,zxG,zxH,Tryd.f22, *])
 all_goals try(exfalso;omega)
 all_goals try
  refine kb.out (by first
   |rw[zbb hp,if_pos (by omega)]
   |rw[zbb hp,if_neg (by omega),if_pos (by omega)]
   |rw[zbb hp,if_neg (by omega),if_neg (by omega),if_pos (by omega)]
   |rw[zbb hp,if_neg (by omega),if_neg (by omega),if_neg (by omega),if_pos ⟨by omega,by first|assumption|simp_all [zae]⟩]
   |rw[zbb hp,if_neg (by omega),if_neg (by omega),if_neg (by omega),if_neg (by omega),if_pos ⟨by omega,by assumption⟩]) (by decide)
 all_goals
  have hN:zcB false x d n=if x.words.all zax=false then 10 else 0:=by
   rw[zbb hp,if_neg (by omega),if_neg (by omega),if_neg (by omega),if_neg (by first|omega|(rintro⟨_,h⟩;simp_all [zae])),if_neg (by first|omega|(rintro⟨_,h⟩;simp_all))]
  have hs2:x.subs.length≤2:=by
   have h2:za1 false x≤2:=by
    unfold za1 zdb
    rw[if_neg (by simp)]
    repeat'(split<;>try decide)
   omega
  have hw0:((0:Nat):Int)=0:=rfl
  have hw10:((10:Nat):Int)=10:=rfl
  refine zap hm zwr 22000 (lst [19,148]) (ι:=zto (m+1+1) x.words.length fun i c=>c=if(x.words.take i).all zax=true then 0 else 10)
   ⟨fun q=>⟨frL [(1,.fz (.b false)),(4,.ptr (22004,1) 0),(5,.arr (22148,g) 5 0 l.length),(6,.fz (.i .i64 n)),(7,.ptr (22007,m) 0),(8,.ptr (22008,m+1) 0),
     (13,.fz (.i .i64 q.n)),(114,.fz (.sl (x.words.map enc))),(115,.fz (.i .i64 x.words.length)),(116,.fz (.i .i64 q.j))],
    hpL [((22007,m),some ⟨[.fz (.i .i64 x.kind),.fz (.s x.name.l),.fz (.sl (x.words.map enc)),.fz (.sl (x.subs.map enc)),.fz (.i .i64 d)],true,false⟩),
     ((22008,m+1),some ⟨[.fz (.i .i64 x.kind),.fz (.s x.name.l),.fz (.sl (x.words.map enc)),.fz (.sl (x.subs.map enc))],true,false⟩),
     ((22004,1),some ⟨[.fz (.i .i64 0),.fz (.i .i64 0)],true,false⟩),((22148,g),some ⟨cells,false,false⟩)],q.m⟩,fun q=>x.words.length-q.j⟩
   ⟨0,0,m+1+1,by omega,by omega,by simp⟩ (by kernel_rfl) ?_ ?_
  ·refine zai ?_ ?_ ?_<;>simp only[go_sem, *]
  rintro⟨i,c,m2,hi,hm2,hc⟩
  try simp only at hi hm2 hc
  rcases Nat.lt_or_ge i x.words.length with h1|h1
  ·cases hnm:zax x.words[i]with
   |false=>
    repeat'(first|refine rq fun _=>?_|simp only[go_sem,h1,hnm,zae,zaa,Tryd.f22])
    refine⟨⟨i+1,10,m2,by omega,by omega,by rw[zb5 h1,hnm,Bool.and_false];rfl⟩,by simp only;omega,?_⟩
    refine zai ?_ ?_ ?_<;>simp only[go_sem,hw10]
   |true=>
    repeat'(first|refine rq fun _=>?_|simp only[go_sem,h1,hnm,zae,zaa,Tryd.f22])
    refine⟨⟨i+1,c,m2,by omega,by omega,by rw[zb5 h1,hnm,Bool.and_true];exact hc⟩,by simp only;omega,?_⟩
    refine zai ?_ ?_ ?_<;>simp only[go_sem]
  have h1':¬i<x.words.length:=by omega
  rw[List.take_of_length_le h1]at hc
  cases hall:x.words.all zax with
  |false=>
   rw[hall]at hN hc
   rw[if_pos rfl]at hN
   rw[if_neg (by simp)]at hc
   subst hc
   repeat'(first|refine rq fun _=>?_|simp only[go_sem,h1',hw10,Tryd.f22])
   exact kb.out hN (by decide)
  |true=>
   rw[hall]at hN hc
   rw[if_neg (by simp)]at hN
   rw[if_pos rfl]at hc
   subst hc
   have hrest:=kR.out
   rw[if_neg (by rw[hN];simp)]at hrest
   repeat'(first|refine rq fun _=>?_|simp only[go_sem,h1',hw0,Tryd.f22])
   refine zap hm zwr 22000 (lst [19,148]) (ι:={q:zBi // q.j≤x.subs.length∧q.g<q.m∧m+1<q.m∧q.cells.take ((zbk l x.subs d q.j).length*5)=zag ((zbk l x.subs d q.j).map zir)∧(zbk l x.subs d q.j).length*5≤q.cells.length})
    ⟨fun q=>⟨frL [(1,.fz (.b false)),(4,.ptr (22004,1) 0),(5,.arr (22148,q.1.g) 5 0 (zbk l x.subs d q.1.j).length),(6,.fz (.i .i64 n)),(7,.ptr (22007,m) 0),(8,.ptr (22008,m+1) 0),(16,.fz (.i .i64 ((q.1.j:Int)-1)))],
     hpL [((22007,m),some ⟨[.fz (.i .i64 x.kind),.fz (.s x.name.l),.fz (.sl (x.words.map enc)),.fz (.sl (x.subs.map enc)),.fz (.i .i64 d)],true,false⟩),
      ((22008,m+1),some ⟨[.fz (.i .i64 x.kind),.fz (.s x.name.l),.fz (.sl (x.words.map enc)),.fz (.sl (x.subs.map enc))],true,false⟩),
      ((22004,1),some ⟨[.fz (.i .i64 0),.fz (.i .i64 0)],true,false⟩),((22148,q.1.g),some ⟨q.1.cells,false,false⟩)],q.1.m⟩,fun q=>q.1.j⟩
    ⟨⟨x.subs.length,cells,g,m2⟩,Nat.le_refl _,by simp only;omega,by simp only;omega,by simp only;rw[zcS];exact kC.out,by simp only;rw[zcS];omega⟩ (by kernel_rfl) ?_ ?_
   ·refine zai ?_ ?_ ?_<;>simp only[go_sem,zcS]
   rintro⟨⟨j,cells2,g2,m3⟩,hj,hg2,hm3,hc2,hl2⟩
   try simp only at hj hg2 hm3 hc2 hl2
   rcases j with _|j
   ·repeat'(first|refine rq fun _=>?_|simp only[go_sem,Tryd.f22,hw0,Int.zero_sub,Int.reduceNeg,Int.reduceSub])
    refine⟨⟨⟨zbk l x.subs d 0,cells2,g2,m3,n+1⟩,⟨hg2,hc2,hl2,by simp only;omega,by simp only;omega,by simp only;rw[zeD];omega,fun a ha=>?_,?_⟩⟩,by simp only;omega,?_⟩
    ·rcases ziI ha with h|⟨h,h2,rfl⟩
     ·exact kW.out a h
     ·exact⟨kS.out _ h2,by simp only;omega,by simp only;omega⟩
    ·simp only;rw[ziJ];exact hrest
    ·refine zai ?_ ?_ ?_<;>simp only[go_sem]
   ·have hps:=zhA (l:=l) (d:=d) (show j<x.subs.length by omega)
    have e2:((j:Int)+1-1)=(j:Int):=by omega
    have hj2:j<x.subs.length:=by omega
    have hpl:=zeD (l:=l) (s:=x.subs) (d:=d) (j:=j+1)
    repeat'(first|refine rq fun _=>?_|refine zaG.i ⟨by omega,zaA (by omega) (by decide)⟩ fun _=>?_|simp only[go_sem,e2,hj2,zaa,Nat.zero_add,List.drop_zero,hc2,Tryd.f22])
    refine⟨⟨⟨j,zag ((zbk l x.subs d (j+1)).map zir)++zag [zir (x.subs[j],d+1)],m3,m3+1⟩,by simp only;omega,by simp only;omega,by simp only;omega,?_,?_⟩,by simp only;omega,?_⟩
    ·simp only
     rw[hps,List.map_append,zfT,List.length_append,List.length_singleton,List.take_of_length_le]
     ·rfl
     ·rw[List.length_append,zdv,show(zag [zir (x.subs[j],d+1)]).length=5 from rfl];omega
    ·simp only
     rw[hps,List.length_append,List.length_singleton,List.length_append,zdv,show(zag [zir (x.subs[j],d+1)]).length=5 from rfl];omega
    ·have hps2:(zbk l x.subs d j).length=(zbk l x.subs d (j+1)).length+1:=by rw[hps];simp
     refine zai ?_ ?_ ?_<;>simp only[go_sem,hps2,zir]
def Q19:Tbl:=Q18.add 22 (sp2 (fun(f:Abs.zab) op=>zaP op f) fun _ op=>op=false)
attribute [go_sem] Q19
theorem zDP:zam Tryd.prog G0 Q19:=f22
def Q20:Tbl:=Q19
attribute [go_sem] Q20
theorem zt4:zam Tryd.prog G0 Q20:=zDP
end Go.Proofs.YtmconmiemdinkaaDoor

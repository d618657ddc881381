/- several texts of this proof in one; no conditions -/
import Derived.Test.YtmconmiemdinkaaGreatDoorAT
import Derived.Test.YtmconmiemdinkaaGreatDoorY24
import Derived.Test.YtmconmiemdinkaaGreatDoorY2
import Derived.Test.YtmconmiemdinkaaGreatDoorY21
import Derived.Test.YtmconmiemdinkaaGreatDoorY23
set_option maxRecDepth 100000
set_option maxHeartbeats 1000000
set_option linter.unusedSimpArgs false
namespace Go.Proofs.YtmconmiemdinkaaGreatDoor
open Go Go.Abs Go.Proofs
open Go.RowKit
section
variable {G:Nat→List FD}
theorem zxh {l:List Abs.zab}:∀i,i<(l.map enc).length→((l.map enc).getD i .nilf).cells.length=4:=fun i hi=>by
 have hi2:i<l.length:=by simpa using hi
 rw[List.getD_eq_getElem?_getD,List.getElem?_map,List.getElem?_eq_getElem hi2]
 show(enc l[i]).cells.length=4
 rw[zaD];rfl
theorem ze5 (l:List Abs.zab):(zaU l).length=l.length*4:=by
 unfold zaU
 rw[zbk zxh,List.length_map]
theorem zhS (f:Abs.zab)(l:List Abs.zab):zaU (f::l)=[.fz (.i .i64 f.kind),.fz (.s f.name.l),.fz (.sl (f.words.map enc)),.fz (.sl (f.subs.map enc))]++zaU l:=by
 unfold zaU;rw[List.map_cons,zaD];rfl
theorem zAe (a b:List Abs.zab):zaU (a++b)=zaU a++zaU b:=by
 unfold zaU zaf;rw[List.map_append,List.flatMap_append]
theorem zi8:∀{l:List Abs.zab} {i:Nat} (h:i<l.length),(zaU l|>.drop (i*4)|>.take 4)=[.fz (.i .i64 l[i].kind),.fz (.s l[i].name.l),.fz (.sl (l[i].words.map enc)),.fz (.sl (l[i].subs.map enc))]
 |[],_,h=>by simp at h
 |p::l,0,_=>by rw[zhS];rfl
 |p::l,i+1,h=>by
  rw[zhS,Nat.add_mul,Nat.one_mul,Nat.add_comm,←List.drop_drop]
  exact zi8 (l:=l) (by simpa using h)
theorem zsb:∀{l:List Abs.zab} {i:Nat},(zaU l).take (i*4)=zaU (l.take i)
 |[],i=>by simp[zaU,zaf]
 |p::l,0=>by simp[zaU,zaf]
 |p::l,i+1=>by
  rw[zhS,List.take_succ_cons,zhS,Nat.add_mul,Nat.one_mul,Nat.add_comm]
  have:4+i*4=([D.fz (.i .i64 p.kind),.fz (.s p.name.l),.fz (.sl (p.words.map enc)),.fz (.sl (p.subs.map enc))]:List D).length+i*4:=rfl
  rw[this,List.take_length_add_append,zsb]
theorem zAf:∀{l:List Abs.zab} {i:Nat} {f:Abs.zab},i<l.length→zdc (zaU l) (i*4) [.fz (.i .i64 f.kind),.fz (.s f.name.l),.fz (.sl (f.words.map enc)),.fz (.sl (f.subs.map enc))]=zaU (l.set i f):=by
 intro l i f h
 apply List.ext_getElem?
 intro j
 rcases Nat.lt_or_ge j (l.length*4)with hj|hj
 ·have e0:(zdc (zaU l) (i*4) [.fz (.i .i64 f.kind),.fz (.s f.name.l),.fz (.sl (f.words.map enc)),.fz (.sl (f.subs.map enc))]).getD j .junk=(zaU (l.set i f)).getD j .junk:=by
   unfold zdc
   rw[zjn _ _ _ _ _ (by rw[ze5];simp only[List.length_cons,List.length_nil];omega)]
   have hm:j % 4<4:=Nat.mod_lt _ (by omega)
   have hd:j / 4<l.length:=by omega
   have hjj:j / 4*4+j % 4=j:=by omega
   have e1:∀{M:List Abs.zab} (h:j / 4<M.length),(zaU M).getD j .junk=([.fz (.i .i64 M[j / 4].kind),.fz (.s M[j / 4].name.l),.fz (.sl (M[j / 4].words.map enc)),.fz (.sl (M[j / 4].subs.map enc))]:List D).getD (j % 4) .junk:=fun{M} h=>by
    rw[←zi8 h,List.getD_eq_getElem?_getD,List.getD_eq_getElem?_getD,List.getElem?_take_of_lt hm,List.getElem?_drop,hjj]
   rw[e1 (M:=l.set i f) (by rw[List.length_set];exact hd),e1 hd]
   by_cases hq:j / 4=i
   ·subst hq
    rw[if_pos (by simp only[List.length_cons,List.length_nil];omega),List.getElem_set_self,show j-(j / 4*4+0)=j % 4 by omega]
   ·rw[if_neg (by simp only[List.length_cons,List.length_nil];omega),List.getElem_set_ne (fun e=>hq e.symm)]
  rw[List.getD_eq_getElem?_getD,List.getD_eq_getElem?_getD,List.getElem?_eq_getElem (by rw[zeC,ze5];exact hj),List.getElem?_eq_getElem (by rw[ze5,List.length_set];exact hj)]at e0
  rw[List.getElem?_eq_getElem (by rw[zeC,ze5];exact hj),List.getElem?_eq_getElem (by rw[ze5,List.length_set];exact hj)]
  exact congrArg some e0
 ·rw[List.getElem?_eq_none (by rw[zeC,ze5];exact hj),List.getElem?_eq_none (by rw[ze5,List.length_set];exact hj)]
theorem ztQ {te:TI}{n:Nat}(h:te.zero.length=te.size)(h0:0<te.size)(h1:te.zero.all zcf=true):(zkZ te n).all zcf=true:=by
 rw[List.all_eq_true]at h1 ⊢
 intro d hd
 unfold zkZ at hd
 obtain⟨j,_,rfl⟩:=List.mem_map.1 hd
 have hm:j % te.size<te.zero.length:=by rw[h];exact Nat.mod_lt _ h0
 rw[List.getD_eq_getElem?_getD,List.getElem?_eq_getElem hm]
 exact h1 _ (List.getElem_mem hm)
structure zHo (l:List Abs.zab)(k0 n:Nat) where
 k:Nat
 j:Nat
 m:Nat
 M:List Abs.zab
 h1:k≤k0+j
 h2:k0+j+1<l.length
 h3:n≤m
 h4:M.length=l.length
 h5:M.take (k+1)=dd l (k0+j+2)
 h6:M.drop (k0+j+1)=l.drop (k0+j+1)
set_option maxHeartbeats 8000000 in
theorem zDx {l:List Abs.zab}{a:Abs.Id}{vt:Bool}{H:zaw}{n:Nat}{R:D→zaw→Nat→Prop}(hoa:H a=some ⟨zaU l,false,vt⟩)(hvt:vt=true→l=[])(hl:l.length≤1000000000)
  (hR:∀H' n',n≤n'→H' a=some ⟨zaU (znm l),false,vt⟩→(∀id,id≠a→H' id=H id)→R (.arr a 4 0 (znm l).length) H' n'):
  zaH Tryz.prog GA 31 [.arr a 4 0 l.length,.fn 32 []] H n R:=by
 have kR:=Kp.mk hR
 clear hR
 obtain⟨H2,hH2⟩:∃H2,H2=zaI H a none:=⟨_,rfl⟩
 have hHa:H2 a=none:=by rw[hH2];simp[zaI]
 have hHo:∀id,id≠a→H2 id=H id:=fun id h=>by rw[hH2];simp[zaI,h]
 have e:H=hpX [(a,some ⟨zaU l,false,vt⟩)] H2:=by
  rw[hH2];funext id
  simp only[hpX,zaI]
  split
  ·rename_i e;rw[e,hoa]
  ·rfl
 rw[e]
 clear hH2 e
 have hX:∀id o,H2 id=some o→id≠a:=fun id o h e=>by rw[e,hHa]at h;cases h
 have kX:=Kp.mk hX
 clear hX
 have hfl:=ze5 l
 refine zt8 (N:=66) hm hN2 31000 (lsw [] [1000014]) zIM Tryz.func31 rfl rfl (by simp) (by kernel_rfl) ?_
 repeat'(first|refine And.intro ?_ ?_|exact True.intro|refine rq fun _=>?_|refine rf fun _=>?_|simp only[go_sem,zac,zad,zaa,Tryz.f31])
 refine za1.d (fun hlt=>?_) (fun hlt=>?_)
 ·have hd:znm l=l:=by
   unfold znm
   match l,hlt with
   |[],_=>rfl
   |[x],_=>rfl
   |x::y::l,h=>simp at h;omega
  repeat'(first|refine And.intro ?_ ?_|exact True.intro|refine rq fun _=>?_|refine rf fun _=>?_|simp only[go_sem,zac,zad,zaa,hlt,Tryz.f31])
  all_goals
   have h9:=kR.out
   rw[hd]at h9
   exact h9 _ _ (by omega) (by simp only[go_sem]) (fun id hid=>by simp only[go_sem,hid,hHo id hid])
 repeat'(first|refine And.intro ?_ ?_|exact True.intro|refine rq fun _=>?_|refine rf fun _=>?_|simp only[go_sem,zac,zad,zaa,hlt,Tryz.f31])
 refine zn8 hm hN2 31000 (lsw [] [1000014]) (ι:=zjB (l.length-1) n fun i=>dd l (i+1)=l.take (i+1))
  ⟨fun q=>⟨frL [(0,.arr a 4 0 l.length),(1,.fn 32 []),(5,.fz (.i .i64 ((q.i:Int)+1)))],hpX [(a,some ⟨zaU l,false,vt⟩)] H2,q.m⟩,fun q=>l.length-1-q.i⟩
  ⟨0,n,by omega,Nat.le_refl _,rfl⟩ (by kernel_rfl) ?_ ?_
 ·refine zaP ?_ ?_ (fun id2 o2 ho2=>?_) ?_
  ·simp only[go_sem]
  ·simp only[go_sem]
  ·simp only[go_sem,kX.out id2 o2 ho2,ho2]
  ·first|omega|(simp only[go_sem];done)|(simp only[go_sem];omega)
 rintro⟨i,m,hi,hm1,hp⟩
 try simp only at hi hm1 hp
 repeat'(first|refine And.intro ?_ ?_|exact True.intro|refine rq fun _=>?_|refine rf fun _=>?_|simp only[go_sem,zac,zad,zaa,Tryz.f31])
 refine za1.d (fun h1=>?_) (fun h1=>?_)
 ·have hi1:i+1<l.length:=by omega
  have hv:vt=false:=by
   cases hv:vt with
   |false=>rfl
   |true=>rw[hvt hv]at hi1;simp at hi1
  subst hv
  have ht1:((i:Int)+1).toNat=i+1:=by omega
  have ht2:((i:Int)+1-1)=i:=by omega
  have ht3:(i:Int).toNat=i:=by omega
  have g0:=zi8 hi1
  have g1:=zi8 (show i<l.length by omega)
  obtain⟨x,hx⟩:∃x,l[i+1]=x:=⟨_,rfl⟩
  obtain⟨y,hy⟩:∃y,l[i]=y:=⟨_,rfl⟩
  rw[hx]at g0
  rw[hy]at g1
  by_cases hxy:x=y
  ·repeat'(first|refine zaA.i ⟨by omega,rfl⟩ fun _=>?_|refine And.intro ?_ ?_|exact True.intro|refine rq fun _=>?_|refine rf fun _=>?_|simp only[go_sem,zac,zad,zaa,h1,hi1,hxy,eq_true hxy,g0,g1,ht1,ht2,ht3,hfl,Tryz.f31])
   obtain⟨L,hL⟩:∃L,L=l.length-(i+1):=⟨_,rfl⟩
   have ht4:((l.length:Int)-((i:Int)+1)).toNat=L:=by omega
   rw[hxy]at hx
   refine zn8 hm hN2 31000 (lsw [] [1000014]) (ι:=zHo l i n)
    ⟨fun q=>⟨frL [(0,.arr a 4 0 l.length),(1,.fn 32 []),(5,.fz (.i .i64 ((q.k:Int)+1))),(6,.arr a 4 ((i+1)*4) L),(7,.fz (.i .i64 ((q.j:Int)+1)))],hpX [(a,some ⟨zaU q.M,false,false⟩)] H2,q.m⟩,fun q=>l.length-q.j⟩
    ⟨i,0,m,l,by omega,by omega,by omega,rfl,by rw[←hp,Nat.add_zero];exact(zw6 hi1 (by rw[hx,hy])).symm,rfl⟩ (by kernel_rfl) ?_ ?_
   ·refine zaP ?_ ?_ (fun id2 o2 ho2=>?_) ?_
    ·simp only[go_sem,ht4]
    ·simp only[go_sem]
    ·simp only[go_sem,kX.out id2 o2 ho2,ho2]
    ·first|omega|(simp only[go_sem];done)|(simp only[go_sem];omega)
   rintro⟨k,j,m2,M,c1,c2,c3,c4,c5,c6⟩
   try simp only at c1 c2 c3 c4 c5 c6
   have ht5:((j:Int)+1).toNat=j+1:=by omega
   have ht6:((j:Int)+1-1)=j:=by omega
   have ht7:(j:Int).toNat=j:=by omega
   have hfm:=ze5 M
   repeat'(first|refine And.intro ?_ ?_|exact True.intro|refine rq fun _=>?_|refine rf fun _=>?_|simp only[go_sem,zac,zad,zaa,ht5,Tryz.f31])
   refine za1.d (fun h2=>?_) (fun h2=>?_)
   ·have hpl:i+j+2<l.length:=by omega
    obtain⟨x,hx⟩:∃x,l[i+j+2]=x:=⟨_,rfl⟩
    obtain⟨y,hy⟩:∃y,l[i+j+1]=y:=⟨_,rfl⟩
    have g0:=zi8 (l:=M) (i:=i+j+2) (by omega)
    have g1:=zi8 (l:=M) (i:=i+j+1) (by omega)
    have k0:M[i+j+2]'(by omega)=x:=by
     have:=congrArg (fun z:List Abs.zab=>z[1]?) c6
     simp only[List.getElem?_drop]at this
     rw[List.getElem?_eq_getElem (by omega),List.getElem?_eq_getElem (by omega)]at this
     rw[←hx];exact Option.some.inj this
    have k1:M[i+j+1]'(by omega)=y:=by
     have:=congrArg (fun z:List Abs.zab=>z[0]?) c6
     simp only[List.getElem?_drop]at this
     rw[List.getElem?_eq_getElem (by omega),List.getElem?_eq_getElem (by omega)]at this
     rw[←hy];exact Option.some.inj this
    rw[k0,show(i+j+2)*4=(i+1)*4+(j+1)*4 by omega]at g0
    rw[k1,show(i+j+1)*4=(i+1)*4+j*4 by omega]at g1
    by_cases hxy:x=y
    ·repeat'(first|refine zaA.i ⟨by omega,rfl⟩ fun _=>?_|refine And.intro ?_ ?_|exact True.intro|refine rq fun _=>?_|refine rf fun _=>?_|simp only[go_sem,zac,zad,zaa,h2,hxy,eq_true hxy,g0,g1,ht5,ht6,ht7,hfm,c4,Tryz.f31])
     refine⟨⟨k,j+1,m2,M,by omega,by omega,by omega,c4,by rw[c5];exact(zw6 (i:=i+j+1) (by omega) (by rw[hx,hy,hxy])).symm,by
      have:=congrArg (List.drop 1) c6
      rw[List.drop_drop,List.drop_drop]at this
      exact this⟩,by simp only;omega,?_⟩
     refine zaP ?_ ?_ (fun id2 o2 ho2=>?_) ?_
     ·simp only[go_sem]
     ·simp only[go_sem]
     ·simp only[go_sem,kX.out id2 o2 ho2,ho2]
     ·first|omega|(simp only[go_sem];done)|(simp only[go_sem];omega)
    ·have hS:=zAf (l:=M) (i:=k+1) (f:=x) (by omega)
     have ht8:((k:Int)+1).toNat=k+1:=by omega
     repeat'(first|refine zaA.i ⟨by omega,rfl⟩ fun _=>?_|refine And.intro ?_ ?_|exact True.intro|refine rq fun _=>?_|refine rf fun _=>?_|simp only[go_sem,zac,zad,zaa,h2,eq_false hxy,g0,g1,ht5,ht6,ht7,ht8,hfm,c4,hS,Tryz.f31])
     refine⟨⟨k+1,j+1,m2,M.set (k+1) x,by omega,by omega,by omega,by rw[List.length_set];exact c4,by
      rw[List.take_succ_eq_append_getElem (by rw[List.length_set];omega),List.take_set_of_le (Nat.le_refl _),c5,List.getElem_set_self,←hx]
      exact(zw7 (i:=i+j+1) (by omega) (by rw[hx,hy];exact hxy)).symm,by
      rw[List.drop_set_of_lt (by omega)]
      have:=congrArg (List.drop 1) c6
      rw[List.drop_drop,List.drop_drop]at this
      exact this⟩,by simp only;omega,?_⟩
     refine zaP ?_ ?_ (fun id2 o2 ho2=>?_) ?_
     ·simp only[go_sem]
     ·simp only[go_sem]
     ·simp only[go_sem,kX.out id2 o2 ho2,ho2]
     ·first|omega|(simp only[go_sem];done)|(simp only[go_sem];omega)
   ·have hpl:i+j+2=l.length:=by omega
    have ht8:((k:Int)+1).toNat=k+1:=by omega
    have hkl:k+1=(znm l).length:=by
     have:=congrArg List.length c5
     rw[List.length_take,Nat.min_eq_left (by omega)]at this
     rw[this];unfold znm;rw[←hpl]
    have hMk:zaU (M.take (k+1))=zaU (znm l):=by rw[c5];unfold znm;rw[←hpl]
    have hft:=zsb (l:=M) (i:=k+1)
    have ht9:((l.length:Int)-((k:Int)+1)).toNat=l.length-(k+1):=by omega
    repeat'(first|refine zaA.i ⟨by omega,rfl⟩ fun _=>?_|refine And.intro ?_ ?_|exact True.intro|refine rq fun _=>?_|refine rf fun _=>?_|simp only[go_sem,zac,zad,zaa,h2,ht8,c4,Tryz.f31])
    refine zpq (rid:=14) hN2 31000 (lsw [] [1000014]) 3 rfl rfl rfl rfl rfl rfl rfl ?_
    repeat'(first|refine zaA.i ⟨by omega,rfl⟩ fun _=>?_|refine And.intro ?_ ?_|exact True.intro|refine rq fun _=>?_|refine rf fun _=>?_|simp only[go_sem,zac,zad,zaa,h2,ht8,ht9,c4,Tryz.f31])
    refine zzE.i (te:=⟨4,72,[.fz (.i .i64 0),.fz (.s []),.full [],.full []],(.struct [(0,3),(1,9),(2,24),(3,30)]),true,false,[(.int .i64),.str,(.slice 9),(.slice 37)]⟩) (aid:=a) (s:=(k+1)*4) (len:=l.length-(k+1)) (o:=⟨zaU M,false,false⟩) (by simp only[go_sem]) (by simp only[go_sem]) (by simp only[go_sem]) (by omega) (by decide) (ztQ rfl (by decide) rfl) (by simp only;omega) ?_
    repeat'(first|refine zaA.i ⟨by omega,rfl⟩ fun _=>?_|refine And.intro ?_ ?_|exact True.intro|refine rq fun _=>?_|refine rf fun _=>?_|simp only[go_sem,zac,zad,zaa,h2,ht8,c4,hft,hMk,Tryz.f31])
    all_goals
     have h9:=kR.out
     rw[←hkl]at h9
     exact h9 _ _ (by omega) (by simp only[go_sem]) (fun id hid=>by simp only[go_sem,hid,hHo id hid])
  ·
   repeat'(first|refine zaA.i ⟨by omega,rfl⟩ fun _=>?_|refine And.intro ?_ ?_|exact True.intro|refine rq fun _=>?_|refine rf fun _=>?_|simp only[go_sem,zac,zad,zaa,h1,hi1,eq_false hxy,g0,g1,ht1,ht2,ht3,hfl,Tryz.f31])
   refine⟨⟨i+1,m,by omega,by omega,?_⟩,by simp only;omega,?_⟩
   ·rw[zw7 hi1 (by rw[hx,hy];exact hxy),hp,←List.take_succ_eq_append_getElem hi1]
   refine zaP ?_ ?_ (fun id2 o2 ho2=>?_) ?_
   ·simp only[go_sem]
   ·simp only[go_sem]
   ·simp only[go_sem,kX.out id2 o2 ho2,ho2]
   ·first|omega|(simp only[go_sem];done)|(simp only[go_sem];omega)
 ·have he:i+1=l.length:=by omega
  have hd:znm l=l:=by
   unfold znm
   rw[←he,hp,List.take_of_length_le (by omega)]
  repeat'(first|refine And.intro ?_ ?_|exact True.intro|refine rq fun _=>?_|refine rf fun _=>?_|simp only[go_sem,zac,zad,zaa,h1,Tryz.f31])
  all_goals
   have h9:=kR.out
   rw[hd]at h9
   exact h9 _ _ (by omega) (by simp only[go_sem]) (fun id hid=>by simp only[go_sem,hid,hHo id hid])
end
end Go.Proofs.YtmconmiemdinkaaGreatDoor
namespace Go.Proofs.YtmconmiemdinkaaGreatDoor
open Go Go.Abs Go.Proofs
theorem zqM {s:zao}(h:(zaZ s).code=0):zaZ s=⟨0,0⟩:=by
 unfold zaZ at h ⊢
 split at h
 ·exact absurd h (by decide)
 rename_i h1
 rw[if_neg h1]
 split at h
 ·rename_i h2;exact absurd h h2
 rename_i h2
 rw[if_neg h2]
 split at h
 ·exact absurd h (by decide)
 rename_i h3
 rw[if_neg h3]
 split at h
 ·exact absurd h (by decide)
 rename_i h4
 rw[if_neg h4]
 split at h
 ·exact absurd h (by decide)
 rename_i h5
 rw[if_neg h5]
 split at h
 ·exact absurd h (by decide)
 rename_i h6
 rw[if_neg h6]
 split at h
 ·rename_i h7
  exact absurd h h7
 ·rename_i h7
  rw[if_neg h7]
def Rd0:Tbl:=Tbl.or Sc6 N2
theorem zB5:zai Tryz.prog GA Rd0:=zhc zIk hN2
theorem zxi (l:List Abs.zab)(f:Abs.zab):zaU (l++[f])=zaU l++[.fz (.i .i64 f.kind),.fz (.s f.name.l),.fz (.sl (f.words.map enc)),.fz (.sl (f.subs.map enc))]:=by
 rw[zAe];congr 1;rw[zhS];rfl
theorem zsv {l:List Abs.zab}{f:Abs.zab}:(l++[f]).isEmpty=false:=by cases l<;>rfl
def zmo (s:zao):List Abs.zab×zg2:=if(zaZ s).code≠0 then([],zaZ s)else(zcV s,⟨0,0⟩)
theorem zqc {s:zao}{l:List Nat}(hs:zg9 s)(h:okL s l)(ht:zcX s l=true):zfL (zcN s l) s (zbH s (zeG (nP s) l)):=
 ⟨⟨zwC hs h,by rw[zfU];exact ht⟩,fun x hx=>zdX (i:=zeG (nP s) l) (by rw[zbQ];exact hx),Nat.le_trans (zbo (zlQ hs (i:=zeG (nP s) l) h.t.1)) (by omega)⟩
theorem zmj {s:zao}(hs:zg9 s):(zda s).length≤10000:=by
 unfold zda
 split
 ·simp
 ·rename_i hne
  have h1:=ziC (s:=s) (zbt s.pieces).length (List.replicate (nP s) false) []
  have hn6:=hs.n6
  have h5:(zbt s.pieces).length≤5:=by omega
  exact Nat.le_trans h1 (Nat.le_trans (Nat.le_trans (Nat.pow_le_pow_left hn6 _) (Nat.pow_le_pow_right (by omega) h5)) (by decide))
set_option maxHeartbeats 8000000 in
theorem zFa (s:zao):zaH Tryz.prog GA 8 [.fz (enc s)] (hpL []) 0 (fun d H _=>if(zaZ s).code≠0 then D.val d=some (.tup [.fz (enc ([]:List Abs.zab)),.fz (enc (zaZ s))])else∃id vt,d= .tup [.arr id 4 0 (zcV s).length,.agg [.fz (.i .i64 0),.fz (.i .i64 0)]]∧H id=some ⟨zaU (zcV s),false,vt⟩∧(vt=true→zcV s=[])):=by
 obtain⟨Q,hQ⟩:∃Q:D→zaw→Nat→Prop,Q=(fun d H _=>if(zaZ s).code≠0 then D.val d=some (.tup [.fz (enc ([]:List Abs.zab)),.fz (enc (zaZ s))])else∃id vt,d= .tup [.arr id 4 0 (zcV s).length,.agg [.fz (.i .i64 0),.fz (.i .i64 0)]]∧H id=some ⟨zaU (zcV s),false,vt⟩∧(vt=true→zcV s=[])):=⟨_,rfl⟩
 rw[←hQ]
 by_cases h0:(zaZ s).code=0
 case neg=>
  have h0':((zaZ s).code=0)=False:=eq_false h0
  refine zam (N:=41) Go.Proofs.YtmconmiemdinkaaGreatDoor.hm zB5 8000 (lst [34]) ok8 Tryz.func8 rfl rfl (by simp) (by kernel_rfl) ?_
  repeat'(first|refine And.intro ?_ ?_|exact True.intro|refine rq fun _=>?_|refine rf fun _=>?_|simp only[go_sem,h0',zac,zad,zaM,zak,zap,zaN,zaa,Tryz.f8,Rd0,Sc6,Sc5,Sc4,Su4,Su3,Su2,Su1,Sc3,Sc2,Sc1,Sc0])
  all_goals
   simp only[hQ,ne_eq,h0,not_false_eq_true,if_true]
   simp only[go_sem]
  all_goals trace_state
 have hs:=zkH h0
 have h0':((zaZ s).code=0)=True:=eq_true h0
 have hsc:zaZ s=⟨0,0⟩:=zqM h0
 have hpf:=zmj hs
 obtain⟨L,hL⟩:∃L,(zda s).length=L:=⟨_,rfl⟩
 have hpl:(zeB s).length=L:=by unfold zeB;rw[List.length_map,hL]
 have hfl:(zcd s).length=L:=by unfold zcd;rw[List.length_map,hL]
 obtain⟨A,hA⟩:∃A:Nat→List Abs.zab,A=fun j=>(zcd s).take j:=⟨_,rfl⟩
 have hA0:A 0=[]:=by rw[hA];rfl
 have hAl:∀j,j≤L→(A j).length=j:=fun j hj=>by rw[hA];simp only[List.length_take];omega
 have hAe:A L=zcd s:=by rw[hA];simp only;rw[←hfl,List.take_length]
 have hAs:∀j (h:j<L) l,(zda s)[j]'(by omega)=l→A (j+1)=A j++[zha s l]:=fun j h l e=>by
  rw[hA];simp only
  rw[List.take_succ_eq_append_getElem (show j<(zcd s).length by omega)]
  unfold zcd
  rw[List.getElem_map,e]
 have kA:=Kp.mk hAs
 have kAl:=Kp.mk hAl
 clear hAs hAl hA
 refine zam (N:=41) Go.Proofs.YtmconmiemdinkaaGreatDoor.hm zB5 8000 (lst [34]) ok8 Tryz.func8 rfl rfl (by simp) (by kernel_rfl) ?_
 repeat'(first|refine And.intro ?_ ?_|exact True.intro|refine rq fun _=>?_|refine rf fun _=>?_|simp only[go_sem,h0',zac,zad,zaM,zak,zap,zaN,zaa,Tryz.f8,Rd0,Sc6,Sc5,Sc4,Su4,Su3,Su2,Su1,Sc3,Sc2,Sc1,Sc0])
 refine zaJ Go.Proofs.YtmconmiemdinkaaGreatDoor.hm zB5 8000 (lst [34]) (ι:=zg3 L 5 fun _=>True)
  ⟨fun q=>⟨frL [(1,.ptr (8001,0) 0),(3,.ptr (8003,1) 0),(5,.arr (8034,q.g) 4 0 q.i),(15,.fz (.sl ((zeB s).map enc))),(16,.fz (.i .i64 L)),(17,.fz (.i .i64 q.i))],
   hpL [((8001,0),some ⟨[.fz (.sl (s.pieces.map enc)),.fz (.sl (s.overs.map enc)),.fz (.sl (s.vars.map enc))],true,false⟩),((8003,1),some ⟨[.fz (.i .i64 0),.fz (.i .i64 0)],true,false⟩),((8034,q.g),some ⟨zaU (A q.i),false,(A q.i).isEmpty⟩)],q.m⟩,fun q=>L-q.i⟩
  ⟨0,4,5,by omega,by omega,by omega,trivial⟩ (by kernel_rfl) ?_ ?_
 ·refine zei [] [(8034,4)] [] ?_ ?_ ?_ ?_ ?_<;>(try simp only[go_sem,hA0,hpl,show zaU []=[]from rfl])
  all_goals first|done|rfl|omega
 rintro⟨j,g,m,hj,hg,hm2,_⟩
 try simp only at hj hg hm2
 have hal:=kAl.out j hj
 have hac:=ze5 (A j)
 rcases Nat.lt_or_ge j L with h1|h1
 ·obtain⟨l,hl⟩:∃l,(zda s)[j]'(by omega)=l:=⟨_,rfl⟩
  have hlm:l∈zda s:=by rw[←hl];exact List.getElem_mem _
  obtain⟨hk,hT,_⟩:=znS hs hlm
  have hAs:A (j+1)=A j++[zha s l]:=kA.out j h1 l hl
  have hwf:=zjv hk hT
  have hfo:=zqc hs hk hT
  have hfit:(zcS s l).fit=true∧(zcS s l).size≤1000:=⟨zdJ hs _ _,Nat.le_trans (zde hs hk hT) (by decide)⟩
  have hpj:(zeB s)[j]'(by omega)=zcN s l:=by unfold zeB;rw[List.getElem_map,hl]
  have htl:zeG (nP s) l<s.pieces.length:=hk.t.1
  obtain⟨t,ht⟩:∃t,zeG (nP s) l=t:=⟨_,rfl⟩
  have hPt:(zcN s l).top=(t:Int):=by rw[←ht];rfl
  rw[ht]at htl hwf hfo
  obtain⟨pc,hpc⟩:∃pc,s.pieces[t]=pc:=⟨_,rfl⟩
  have hfi:zbH s t=pc.form:=by unfold zbH;rw[List.getElem?_eq_getElem htl,hpc]
  rw[hfi]at hwf hfo
  obtain⟨P,hP⟩:∃P,zcN s l=P:=⟨_,rfl⟩
  rw[hP]at hpj hPt hwf hfo
  obtain⟨Z,hZ⟩:∃Z,zcS s l=Z:=⟨_,rfl⟩
  have hR:zha s l=zat Z []:=by unfold zha;rw[hZ]
  rw[hZ]at hwf hfit
  rw[hR]at hAs
  have hjq:j<(zeB s).length:=by omega
  have hPe:(⟨P.holes,P.pieces,(t:Int)⟩:zed)=P:=by rw[←hPt]
  have hnp:s.pieces.length=nP s:=rfl
  have hn6:=hs.n6
  repeat'(first|refine zaA.i hfo fun _=>?_|refine zaA.i hfit fun _=>?_|refine And.intro ?_ ?_|exact True.intro|refine rq fun _=>?_|refine rf fun _=>?_|simp only[go_sem,hPe,h1,hjq,hpj,hPt,htl,hpc,hwf,hal,hac,zac,zad,zaM,zak,zap,zaN,zaa,Tryz.f8,Rd0,Sc6,Sc5,Sc4,Su4,Su3,Su2,Su1,Sc3,Sc2,Sc1,Sc0])
  have htk:(zaU (A j)).take (j*4)=zaU (A j):=List.take_of_length_le (by omega)
  have hfz:zaf [FD.agg [FD.i .i64 (zat Z []).kind,FD.s (zat Z []).name.l,FD.sl ((zat Z []).words.map enc),FD.sl ((zat Z []).subs.map enc)]]=[.fz (.i .i64 (zat Z []).kind),.fz (.s (zat Z []).name.l),.fz (.sl ((zat Z []).words.map enc)),.fz (.sl ((zat Z []).subs.map enc))]:=rfl
  refine⟨⟨j+1,m+1,m+2,by omega,by omega,by omega,trivial⟩,by simp only;omega,?_⟩
  refine zau ?_ ?_ ?_<;>simp only[go_sem,hAs,zxi,htk,hfz,zsv,List.isEmpty_cons,Bool.and_false]
  all_goals first|done|rfl|omega
 ·obtain rfl:j=L:=by omega
  have hall:∀f∈zcd s,txG f:=fun f hf=>by
   obtain⟨l,hl,rfl⟩:=List.mem_map.1 hf
   obtain⟨hk,hT,_⟩:=znS hs hl
   obtain⟨q1,q2⟩:=zBs hs hk hT
   exact⟨q1,by omega⟩
  have hsort:∀{id':Abs.Id} {bx vt:Bool} {H:zaw} {n:Nat},H id'=some ⟨zaU (zcd s),bx,vt⟩→zaH Tryz.prog GA 28 [.arr id' 4 0 j,.fn 29 []] H n fun d H' n'=>d= .tup []∧∃S:List Abs.zab,S.Perm (zcd s)∧(S.Pairwise fun a b=>¬txt b<txt a)∧H'=zaI H id' (some ⟨zaU S,bx,vt⟩)∧n'=n:=fun{id' bx vt H n} ho=>by
   have:=zFf (G:=GA) (n:=n) hall ho
   rwa [hfl]at this
  repeat'(first|refine And.intro ?_ ?_|exact True.intro|refine rq fun _=>?_|refine rf fun _=>?_|simp only[go_sem,Nat.lt_irrefl,hal,hac,hAe,zac,zad,zaM,zak,zap,zaN,zaa,Tryz.f8,Rd0,Sc6,Sc5,Sc4,Su4,Su3,Su2,Su1,Sc3,Sc2,Sc1,Sc0])
  refine zaV.i (zaK (hsort (bx:=false) (vt:=(zcd s).isEmpty) (by simp only[go_sem,hAe])) ?_)
  rintro d' H' n' ⟨rfl,S,hp,hsr,rfl,rfl⟩
  have hdd:znm S=zcV s:=zrW (zlR hs) hp hsr
  have hSl:S.length=j:=by rw[hp.length_eq,hfl]
  have hvS:(zcd s).isEmpty=true→S=[]:=fun h=>by
   have:=hp.length_eq
   rw[List.isEmpty_iff.1 h]at this
   exact List.length_eq_zero_iff.1 this
  have hvR:(zcd s).isEmpty=true→zcV s=[]:=fun h=>by
   rw[←hdd,hvS h];rfl
  have hcomp:∀{a:Abs.Id} {H:zaw} {n:Nat} {R:D→zaw→Nat→Prop},H a=some ⟨zaU S,false,(zcd s).isEmpty⟩→(∀H' n',n≤n'→H' a=some ⟨zaU (zcV s),false,(zcd s).isEmpty⟩→(∀id,id≠a→H' id=H id)→R (.arr a 4 0 (zcV s).length) H' n')→zaH Tryz.prog GA 31 [.arr a 4 0 j,.fn 32 []] H n R:=fun{a H n R} ho hR=>by
   have:=zDx (R:=R) ho hvS (by omega) (by rw[hdd];exact hR)
   rwa [hSl]at this
  repeat'(first|refine And.intro ?_ ?_|exact True.intro|refine rq fun _=>?_|refine rf fun _=>?_|simp only[go_sem,hAe,zac,zad,zaM,zak,zap,zaN,zaa,Tryz.f8,Rd0,Sc6,Sc5,Sc4,Su4,Su3,Su2,Su1,Sc3,Sc2,Sc1,Sc0])
  refine zaV.i (hcomp (by simp only[go_sem,hAe]) fun H' n' hn' e1 e2=>?_)
  have b1:=e2 (8001,0) (by simp)
  have b3:=e2 (8003,1) (by simp)
  simp only[go_sem]at b1
  simp only[go_sem]at b3
  rw[show H'=hpX [] H' from rfl]
  repeat'(first|refine And.intro ?_ ?_|exact True.intro|refine rq fun _=>?_|refine rf fun _=>?_|simp only[go_sem,hAe,b1,b3,e1,zac,zad,zaM,zak,zap,zaN,zaa,Tryz.f8,Rd0,Sc6,Sc5,Sc4,Su4,Su3,Su2,Su1,Sc3,Sc2,Sc1,Sc0])
  all_goals
   simp only[hQ,ne_eq,h0,not_true,if_false]
   exact⟨_,_,rfl,by simp only[go_sem,e1],hvR⟩
def Rd1:Tbl:=Rd0.add 8 (ztk zmo fun _=>True)
theorem zFB:zai Tryz.prog GA Rd1:=by
 refine zgu ok8 zB5 fun s _ _=>?_
 refine zcr (zFa s) ?_
 rintro d H n hq
 have e:H0=hpL []:=rfl
 by_cases h0:(zaZ s).code=0
 ·rw[if_neg (by simp[h0])]at hq
  obtain⟨id,vt,rfl,ho,hv⟩:=hq
  have hr:zmo s=(zcV s,⟨0,0⟩):=by unfold zmo;rw[if_neg (by simp[h0])]
  rw[hr]
  refine⟨.tup [.fz (.sl ((zcV s).map enc)),.agg [.fz (.i .i64 0),.fz (.i .i64 0)]],H0,n,?_,rfl⟩
  rw[e]
  refine zei [] [] [(id,(zcV s).map enc)] ?_ ?_ ?_ ?_ ?_<;>simp only[go_sem,ho]
  case refine_2=>exact⟨rfl,fun h=>by rw[hv h];rfl⟩
 ·rw[if_pos h0]at hq
  have hr:zmo s=([],zaZ s):=by unfold zmo;rw[if_pos h0]
  rw[hr]
  exact⟨d,H,n,zeh.refl _,hq⟩
end Go.Proofs.YtmconmiemdinkaaGreatDoor
namespace Go.Proofs.YtmconmiemdinkaaGreatDoor
open Go Go.Abs Go.Proofs
def zwF:Str:=⟨[101,118,101,114,121]⟩
def zFd:Str:=⟨[115,101,101]⟩
def zBw:Str:=⟨[115,111,109,101]⟩
def zHf:Str:=⟨[99,97,116]⟩
def sH0:Str:=⟨[104,48]⟩
def sH1:Str:=⟨[104,49]⟩
def zsq (x:Str):Abs.zab:= .mk 10 x [] []
def zzQ (k:Int)(x:Str)(f:Abs.zab):Abs.zab:= .mk k x [] [f]
def zvj:zao:=⟨[⟨zwF,zzQ 8 sX (zBJ 7 (zmk zFc [sX]) (zsq sH0))⟩,⟨zBw,zzQ 9 sY (zBJ 5 (zmk zHf [sY]) (zsq sH1))⟩,⟨zFd,zmk zFd [sX,sY]⟩],[],[sX,sY]⟩
def Re1:Tbl:=Rd1.add 22 (sp1 zsq fun _=>True)
theorem zFC:zai Tryz.prog GA Re1:=by
 refine zdd zGB zFB fun a _ _=>?_
 unfold zsq
 refine zam (N:=5) Go.Proofs.YtmconmiemdinkaaGreatDoor.hm zFB 22000 (lst []) zGB Tryz.func22 rfl rfl (by simp) (by kernel_rfl) ?_
 repeat'(first|refine And.intro ?_ ?_|exact True.intro|refine rq fun _=>?_|refine rf fun _=>?_|simp only[go_sem,zac,zad,zak,zap,zaN,zaa,Tryz.f22,Rd1,Rd0,Sc6,Sc5,Sc4,Su4,Su3,Su2,Su1,Sc3,Sc2,Sc1,Sc0])
 all_goals first|done|rfl|omega
def Re2:Tbl:=Re1.add 23 (sp3 zzQ fun _ _ _=>True)
theorem zFD:zai Tryz.prog GA Re2:=by
 refine zmG zGC zFC fun a b c _ _ _ _=>?_
 unfold zzQ
 refine zam (N:=12) Go.Proofs.YtmconmiemdinkaaGreatDoor.hm zFC 23000 (lst []) zGC Tryz.func23 rfl rfl (by simp) (by kernel_rfl) ?_
 repeat'(first|refine And.intro ?_ ?_|exact True.intro|refine rq fun _=>?_|refine rf fun _=>?_|simp only[go_sem,zac,zad,zak,zap,zaN,zaa,Tryz.f23,Re1,Rd1,Rd0,Sc6,Sc5,Sc4,Su4,Su3,Su2,Su1,Sc3,Sc2,Sc1,Sc0])
 all_goals first|done|rfl|omega
def Re3:Tbl:=Re2.add 7 (sp0 zvj)
set_option maxHeartbeats 4000000 in
theorem zIf:zai Tryz.prog GA Re3:=by
 refine zBz zFD ?_
 refine zam (N:=22) Go.Proofs.YtmconmiemdinkaaGreatDoor.hm zFD 7000 (lst []) ok7 Tryz.func7 rfl rfl (by simp) (by kernel_rfl) ?_
 repeat'(first|refine And.intro ?_ ?_|exact True.intro|refine rq fun _=>?_|refine rf fun _=>?_|simp only[go_sem,zvj,zsq,zzQ,zBJ,zmk,zwF,zFd,zBw,zHf,sH0,sH1,sX,sY,zFc,zac,zad,zak,zap,zaN,zaa,Tryz.f7,Re2,Re1,Rd1,Rd0,Sc6,Sc5,Sc4,Su4,Su3,Su2,Su1,Sc3,Sc2,Sc1,Sc0])
 all_goals first|done|rfl|omega
theorem zE6:zaZ zvj=⟨0,0⟩:=by kernel_rfl
theorem zC2:(zcV zvj).length=2:=by kernel_rfl
def zd8 (s:zao)(o:zjC):zao:=⟨s.pieces,s.overs++[o],s.vars⟩
theorem zkV:zaZ (zd8 zvj ⟨sH0,zBw⟩)=⟨0,0⟩:=by kernel_rfl
theorem zco:(zcV (zd8 zvj ⟨sH0,zBw⟩)).length=1:=by kernel_rfl
def zC1:zao:=⟨[⟨⟨[97]⟩,zmk zFc [⟨[107,105,109]⟩]⟩],[],[]⟩
theorem zBm:zaZ zC1=⟨0,0⟩:=by kernel_rfl
theorem zid:(zcV zC1).length=1:=by kernel_rfl
theorem zoL (f:Abs.zab):∀l:List Abs.zab,(zqn f l).length≤l.length+1
 |[]=>by simp[zqn]
 |g::l=>by
  have:=zoL f l
  rw[zqn]
  split
  ·simp
  ·split
   ·simp
   ·simp only[List.length_cons];omega
theorem zmF:∀l:List Abs.zab,(ziN l).length≤l.length
 |[]=>Nat.le_refl _
 |f::l=>by
  have h1:=zmF l
  have h2:=zoL f (ziN l)
  show(zqn f (ziN l)).length≤_
  rw[List.length_cons];omega
theorem zvu {s:zao}(hs:zg9 s):(zcV s).length≤10000:=by
 have h1:=zmF (zcd s)
 have h2:=zmj hs
 have h3:(zcd s).length=(zda s).length:=by unfold zcd;rw[List.length_map]
 unfold zcV
 omega
theorem zoW {s:zao}(h:(zaZ s).code=0):zmo s=(zcV s,⟨0,0⟩):=by unfold zmo;rw[if_neg (by simp[h])]
end Go.Proofs.YtmconmiemdinkaaGreatDoor

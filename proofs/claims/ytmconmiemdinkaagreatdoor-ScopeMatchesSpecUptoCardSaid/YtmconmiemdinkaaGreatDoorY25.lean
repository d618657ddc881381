/- several texts of this proof in one; no conditions -/
import Derived.Test.YtmconmiemdinkaaGreatDoorAT
import Derived.Test.YtmconmiemdinkaaGreatDoorY24
import Derived.Test.YtmconmiemdinkaaGreatDoorY2
import Derived.Test.YtmconmiemdinkaaGreatDoorY20
import Derived.Test.YtmconmiemdinkaaGreatDoorY22
set_option maxRecDepth 100000
set_option maxHeartbeats 1000000
set_option linter.unusedSimpArgs false
namespace Go.Proofs.YtmconmiemdinkaaGreatDoor
open Go Go.Abs Go.Proofs
open Go.RowKit
section
variable {G:Nat→List FD}
theorem zyz {l:List Abs.zac}:∀i,i<(l.map enc).length→((l.map enc).getD i .nilf).cells.length=4:=fun i hi=>by
 have hi2:i<l.length:=by simpa using hi
 rw[List.getD_eq_getElem?_getD,List.getElem?_map,List.getElem?_eq_getElem hi2]
 show(enc l[i]).cells.length=4
 rw[zaz];rfl
theorem zfz (l:List Abs.zac):(zaY l).length=l.length*4:=by
 unfold zaY
 rw[zbq zyz,List.length_map]
theorem ziy (f:Abs.zac)(l:List Abs.zac):zaY (f::l)=[.fz (.i .i64 f.kind),.fz (.s f.name.l),.fz (.sl (f.words.map enc)),.fz (.sl (f.subs.map enc))]++zaY l:=by
 unfold zaY;rw[List.map_cons,zaz];rfl
theorem zBA (a b:List Abs.zac):zaY (a++b)=zaY a++zaY b:=by
 unfold zaY zaf;rw[List.map_append,List.flatMap_append]
theorem zjV:∀{l:List Abs.zac} {i:Nat} (h:i<l.length),(zaY l|>.drop (i*4)|>.take 4)=[.fz (.i .i64 l[i].kind),.fz (.s l[i].name.l),.fz (.sl (l[i].words.map enc)),.fz (.sl (l[i].subs.map enc))]
 |[],_,h=>by simp at h
 |p::l,0,_=>by rw[ziy];rfl
 |p::l,i+1,h=>by
  rw[ziy,Nat.add_mul,Nat.one_mul,Nat.add_comm,←List.drop_drop]
  exact zjV (l:=l) (by simpa using h)
theorem ztb:∀{l:List Abs.zac} {i:Nat},(zaY l).take (i*4)=zaY (l.take i)
 |[],i=>by simp[zaY,zaf]
 |p::l,0=>by simp[zaY,zaf]
 |p::l,i+1=>by
  rw[ziy,List.take_succ_cons,ziy,Nat.add_mul,Nat.one_mul,Nat.add_comm]
  have:4+i*4=([D.fz (.i .i64 p.kind),.fz (.s p.name.l),.fz (.sl (p.words.map enc)),.fz (.sl (p.subs.map enc))]:List D).length+i*4:=rfl
  rw[this,List.take_length_add_append,ztb]
theorem zBB:∀{l:List Abs.zac} {i:Nat} {f:Abs.zac},i<l.length→zdA (zaY l) (i*4) [.fz (.i .i64 f.kind),.fz (.s f.name.l),.fz (.sl (f.words.map enc)),.fz (.sl (f.subs.map enc))]=zaY (l.set i f):=by
 intro l i f h
 apply List.ext_getElem?
 intro j
 rcases Nat.lt_or_ge j (l.length*4)with hj|hj
 ·have e0:(zdA (zaY l) (i*4) [.fz (.i .i64 f.kind),.fz (.s f.name.l),.fz (.sl (f.words.map enc)),.fz (.sl (f.subs.map enc))]).getD j .junk=(zaY (l.set i f)).getD j .junk:=by
   unfold zdA
   rw[zkh _ _ _ _ _ (by rw[zfz];simp only[List.length_cons,List.length_nil];omega)]
   have hm:j % 4<4:=Nat.mod_lt _ (by omega)
   have hd:j / 4<l.length:=by omega
   have hjj:j / 4*4+j % 4=j:=by omega
   have e1:∀{M:List Abs.zac} (h:j / 4<M.length),(zaY M).getD j .junk=([.fz (.i .i64 M[j / 4].kind),.fz (.s M[j / 4].name.l),.fz (.sl (M[j / 4].words.map enc)),.fz (.sl (M[j / 4].subs.map enc))]:List D).getD (j % 4) .junk:=fun{M} h=>by
    rw[←zjV h,List.getD_eq_getElem?_getD,List.getD_eq_getElem?_getD,List.getElem?_take_of_lt hm,List.getElem?_drop,hjj]
   rw[e1 (M:=l.set i f) (by rw[List.length_set];exact hd),e1 hd]
   by_cases hq:j / 4=i
   ·subst hq
    rw[if_pos (by simp only[List.length_cons,List.length_nil];omega),List.getElem_set_self,show j-(j / 4*4+0)=j % 4 by omega]
   ·rw[if_neg (by simp only[List.length_cons,List.length_nil];omega),List.getElem_set_ne (fun e=>hq e.symm)]
  rw[List.getD_eq_getElem?_getD,List.getD_eq_getElem?_getD,List.getElem?_eq_getElem (by rw[ze7,zfz];exact hj),List.getElem?_eq_getElem (by rw[zfz,List.length_set];exact hj)]at e0
  rw[List.getElem?_eq_getElem (by rw[ze7,zfz];exact hj),List.getElem?_eq_getElem (by rw[zfz,List.length_set];exact hj)]
  exact congrArg some e0
 ·rw[List.getElem?_eq_none (by rw[ze7,zfz];exact hj),List.getElem?_eq_none (by rw[zfz,List.length_set];exact hj)]
theorem zu1 {te:TI}{n:Nat}(h:te.zero.length=te.size)(h0:0<te.size)(h1:te.zero.all zcp=true):(zlS te n).all zcp=true:=by
 rw[List.all_eq_true]at h1 ⊢
 intro d hd
 unfold zlS at hd
 obtain⟨j,_,rfl⟩:=List.mem_map.1 hd
 have hm:j % te.size<te.zero.length:=by rw[h];exact Nat.mod_lt _ h0
 rw[List.getD_eq_getElem?_getD,List.getElem?_eq_getElem hm]
 exact h1 _ (List.getElem_mem hm)
structure zJa (l:List Abs.zac)(k0 n:Nat) where
 k:Nat
 j:Nat
 m:Nat
 M:List Abs.zac
 h1:k≤k0+j
 h2:k0+j+1<l.length
 h3:n≤m
 h4:M.length=l.length
 h5:M.take (k+1)=dd l (k0+j+2)
 h6:M.drop (k0+j+1)=l.drop (k0+j+1)
set_option maxHeartbeats 8000000 in
theorem zE2 {l:List Abs.zac}{a:Abs.Id}{vt:Bool}{H:zax}{n:Nat}{R:D→zax→Nat→Prop}(hoa:H a=some ⟨zaY l,false,vt⟩)(hvt:vt=true→l=[])(hl:l.length≤1000000000)
  (hR:∀H' n',n≤n'→H' a=some ⟨zaY (zoj l),false,vt⟩→(∀id,id≠a→H' id=H id)→R (.arr a 4 0 (zoj l).length) H' n'):
  zaH Tryz.prog GA 31 [.arr a 4 0 l.length,.fn 32 []] H n R:=by
 have kR:=Kp.mk hR
 clear hR
 obtain⟨H2,hH2⟩:∃H2,H2=zaM H a none:=⟨_,rfl⟩
 have hHa:H2 a=none:=by rw[hH2];simp[zaM]
 have hHo:∀id,id≠a→H2 id=H id:=fun id h=>by rw[hH2];simp[zaM,h]
 have e:H=hpX [(a,some ⟨zaY l,false,vt⟩)] H2:=by
  rw[hH2];funext id
  simp only[hpX,zaM]
  split
  ·rename_i e;rw[e,hoa]
  ·rfl
 rw[e]
 clear hH2 e
 have hX:∀id o,H2 id=some o→id≠a:=fun id o h e=>by rw[e,hHa]at h;cases h
 have kX:=Kp.mk hX
 clear hX
 have hfl:=zfz l
 refine zvk (N:=66) hm hN2 31000 (lsw [] [1000014]) zKw Tryz.func31 rfl rfl (by simp) (by kernel_rfl) ?_
 repeat'(first|refine And.intro ?_ ?_|exact True.intro|refine rq fun _=>?_|refine rf fun _=>?_|simp only[go_sem,zab,zad,zaa,Tryz.f31])
 refine zaW.d (fun hlt=>?_) (fun hlt=>?_)
 ·have hd:zoj l=l:=by
   unfold zoj
   match l,hlt with
   |[],_=>rfl
   |[x],_=>rfl
   |x::y::l,h=>simp at h;omega
  repeat'(first|refine And.intro ?_ ?_|exact True.intro|refine rq fun _=>?_|refine rf fun _=>?_|simp only[go_sem,zab,zad,zaa,hlt,Tryz.f31])
  all_goals
   have h9:=kR.out
   rw[hd]at h9
   exact h9 _ _ (by omega) (by simp only[go_sem]) (fun id hid=>by simp only[go_sem,hid,hHo id hid])
 repeat'(first|refine And.intro ?_ ?_|exact True.intro|refine rq fun _=>?_|refine rf fun _=>?_|simp only[go_sem,zab,zad,zaa,hlt,Tryz.f31])
 refine zo8 hm hN2 31000 (lsw [] [1000014]) (ι:=zeC (l.length-1) n fun i=>dd l (i+1)=l.take (i+1))
  ⟨fun q=>⟨frL [(0,.arr a 4 0 l.length),(1,.fn 32 []),(5,.fz (.i .i64 ((q.i:Int)+1)))],hpX [(a,some ⟨zaY l,false,vt⟩)] H2,q.m⟩,fun q=>l.length-1-q.i⟩
  ⟨0,n,by omega,Nat.le_refl _,rfl⟩ (by kernel_rfl) ?_ ?_
 ·refine zay ?_ ?_ (fun id2 o2 ho2=>?_) ?_
  ·simp only[go_sem]
  ·simp only[go_sem]
  ·simp only[go_sem,kX.out id2 o2 ho2,ho2]
  ·first|omega|(simp only[go_sem];done)|(simp only[go_sem];omega)
 rintro⟨i,m,hi,hm1,hp⟩
 try simp only at hi hm1 hp
 repeat'(first|refine And.intro ?_ ?_|exact True.intro|refine rq fun _=>?_|refine rf fun _=>?_|simp only[go_sem,zab,zad,zaa,Tryz.f31])
 refine zaW.d (fun h1=>?_) (fun h1=>?_)
 ·have hi1:i+1<l.length:=by omega
  have hv:vt=false:=by
   cases hv:vt with
   |false=>rfl
   |true=>rw[hvt hv]at hi1;simp at hi1
  subst hv
  have ht1:((i:Int)+1).toNat=i+1:=by omega
  have ht2:((i:Int)+1-1)=i:=by omega
  have ht3:(i:Int).toNat=i:=by omega
  have g0:=zjV hi1
  have g1:=zjV (show i<l.length by omega)
  obtain⟨x,hx⟩:∃x,l[i+1]=x:=⟨_,rfl⟩
  obtain⟨y,hy⟩:∃y,l[i]=y:=⟨_,rfl⟩
  rw[hx]at g0
  rw[hy]at g1
  by_cases hxy:x=y
  ·repeat'(first|refine zaq.i ⟨by omega,rfl⟩ fun _=>?_|refine And.intro ?_ ?_|exact True.intro|refine rq fun _=>?_|refine rf fun _=>?_|simp only[go_sem,zab,zad,zaa,h1,hi1,hxy,eq_true hxy,g0,g1,ht1,ht2,ht3,hfl,Tryz.f31])
   obtain⟨L,hL⟩:∃L,L=l.length-(i+1):=⟨_,rfl⟩
   have ht4:((l.length:Int)-((i:Int)+1)).toNat=L:=by omega
   rw[hxy]at hx
   refine zo8 hm hN2 31000 (lsw [] [1000014]) (ι:=zJa l i n)
    ⟨fun q=>⟨frL [(0,.arr a 4 0 l.length),(1,.fn 32 []),(5,.fz (.i .i64 ((q.k:Int)+1))),(6,.arr a 4 ((i+1)*4) L),(7,.fz (.i .i64 ((q.j:Int)+1)))],hpX [(a,some ⟨zaY q.M,false,false⟩)] H2,q.m⟩,fun q=>l.length-q.j⟩
    ⟨i,0,m,l,by omega,by omega,by omega,rfl,by rw[←hp,Nat.add_zero];exact(zym hi1 (by rw[hx,hy])).symm,rfl⟩ (by kernel_rfl) ?_ ?_
   ·refine zay ?_ ?_ (fun id2 o2 ho2=>?_) ?_
    ·simp only[go_sem,ht4]
    ·simp only[go_sem]
    ·simp only[go_sem,kX.out id2 o2 ho2,ho2]
    ·first|omega|(simp only[go_sem];done)|(simp only[go_sem];omega)
   rintro⟨k,j,m2,M,c1,c2,c3,c4,c5,c6⟩
   try simp only at c1 c2 c3 c4 c5 c6
   have ht5:((j:Int)+1).toNat=j+1:=by omega
   have ht6:((j:Int)+1-1)=j:=by omega
   have ht7:(j:Int).toNat=j:=by omega
   have hfm:=zfz M
   repeat'(first|refine And.intro ?_ ?_|exact True.intro|refine rq fun _=>?_|refine rf fun _=>?_|simp only[go_sem,zab,zad,zaa,ht5,Tryz.f31])
   refine zaW.d (fun h2=>?_) (fun h2=>?_)
   ·have hpl:i+j+2<l.length:=by omega
    obtain⟨x,hx⟩:∃x,l[i+j+2]=x:=⟨_,rfl⟩
    obtain⟨y,hy⟩:∃y,l[i+j+1]=y:=⟨_,rfl⟩
    have g0:=zjV (l:=M) (i:=i+j+2) (by omega)
    have g1:=zjV (l:=M) (i:=i+j+1) (by omega)
    have k0:M[i+j+2]'(by omega)=x:=by
     have:=congrArg (fun z:List Abs.zac=>z[1]?) c6
     simp only[List.getElem?_drop]at this
     rw[List.getElem?_eq_getElem (by omega),List.getElem?_eq_getElem (by omega)]at this
     rw[←hx];exact Option.some.inj this
    have k1:M[i+j+1]'(by omega)=y:=by
     have:=congrArg (fun z:List Abs.zac=>z[0]?) c6
     simp only[List.getElem?_drop]at this
     rw[List.getElem?_eq_getElem (by omega),List.getElem?_eq_getElem (by omega)]at this
     rw[←hy];exact Option.some.inj this
    rw[k0,show(i+j+2)*4=(i+1)*4+(j+1)*4 by omega]at g0
    rw[k1,show(i+j+1)*4=(i+1)*4+j*4 by omega]at g1
    by_cases hxy:x=y
    ·repeat'(first|refine zaq.i ⟨by omega,rfl⟩ fun _=>?_|refine And.intro ?_ ?_|exact True.intro|refine rq fun _=>?_|refine rf fun _=>?_|simp only[go_sem,zab,zad,zaa,h2,hxy,eq_true hxy,g0,g1,ht5,ht6,ht7,hfm,c4,Tryz.f31])
     refine⟨⟨k,j+1,m2,M,by omega,by omega,by omega,c4,by rw[c5];exact(zym (i:=i+j+1) (by omega) (by rw[hx,hy,hxy])).symm,by
      have:=congrArg (List.drop 1) c6
      rw[List.drop_drop,List.drop_drop]at this
      exact this⟩,by simp only;omega,?_⟩
     refine zay ?_ ?_ (fun id2 o2 ho2=>?_) ?_
     ·simp only[go_sem]
     ·simp only[go_sem]
     ·simp only[go_sem,kX.out id2 o2 ho2,ho2]
     ·first|omega|(simp only[go_sem];done)|(simp only[go_sem];omega)
    ·have hS:=zBB (l:=M) (i:=k+1) (f:=x) (by omega)
     have ht8:((k:Int)+1).toNat=k+1:=by omega
     repeat'(first|refine zaq.i ⟨by omega,rfl⟩ fun _=>?_|refine And.intro ?_ ?_|exact True.intro|refine rq fun _=>?_|refine rf fun _=>?_|simp only[go_sem,zab,zad,zaa,h2,eq_false hxy,g0,g1,ht5,ht6,ht7,ht8,hfm,c4,hS,Tryz.f31])
     refine⟨⟨k+1,j+1,m2,M.set (k+1) x,by omega,by omega,by omega,by rw[List.length_set];exact c4,by
      rw[List.take_succ_eq_append_getElem (by rw[List.length_set];omega),List.take_set_of_le (Nat.le_refl _),c5,List.getElem_set_self,←hx]
      exact(zyn (i:=i+j+1) (by omega) (by rw[hx,hy];exact hxy)).symm,by
      rw[List.drop_set_of_lt (by omega)]
      have:=congrArg (List.drop 1) c6
      rw[List.drop_drop,List.drop_drop]at this
      exact this⟩,by simp only;omega,?_⟩
     refine zay ?_ ?_ (fun id2 o2 ho2=>?_) ?_
     ·simp only[go_sem]
     ·simp only[go_sem]
     ·simp only[go_sem,kX.out id2 o2 ho2,ho2]
     ·first|omega|(simp only[go_sem];done)|(simp only[go_sem];omega)
   ·have hpl:i+j+2=l.length:=by omega
    have ht8:((k:Int)+1).toNat=k+1:=by omega
    have hkl:k+1=(zoj l).length:=by
     have:=congrArg List.length c5
     rw[List.length_take,Nat.min_eq_left (by omega)]at this
     rw[this];unfold zoj;rw[←hpl]
    have hMk:zaY (M.take (k+1))=zaY (zoj l):=by rw[c5];unfold zoj;rw[←hpl]
    have hft:=ztb (l:=M) (i:=k+1)
    have ht9:((l.length:Int)-((k:Int)+1)).toNat=l.length-(k+1):=by omega
    repeat'(first|refine zaq.i ⟨by omega,rfl⟩ fun _=>?_|refine And.intro ?_ ?_|exact True.intro|refine rq fun _=>?_|refine rf fun _=>?_|simp only[go_sem,zab,zad,zaa,h2,ht8,c4,Tryz.f31])
    refine zqv (rid:=14) hN2 31000 (lsw [] [1000014]) 3 rfl rfl rfl rfl rfl rfl rfl ?_
    repeat'(first|refine zaq.i ⟨by omega,rfl⟩ fun _=>?_|refine And.intro ?_ ?_|exact True.intro|refine rq fun _=>?_|refine rf fun _=>?_|simp only[go_sem,zab,zad,zaa,h2,ht8,ht9,c4,Tryz.f31])
    refine zAW.i (te:=⟨4,72,[.fz (.i .i64 0),.fz (.s []),.full [],.full []],(.struct [(0,3),(1,9),(2,24),(3,30)]),true,false,[(.int .i64),.str,(.slice 9),(.slice 37)]⟩) (aid:=a) (s:=(k+1)*4) (len:=l.length-(k+1)) (o:=⟨zaY M,false,false⟩) (by simp only[go_sem]) (by simp only[go_sem]) (by simp only[go_sem]) (by omega) (by decide) (zu1 rfl (by decide) rfl) (by simp only;omega) ?_
    repeat'(first|refine zaq.i ⟨by omega,rfl⟩ fun _=>?_|refine And.intro ?_ ?_|exact True.intro|refine rq fun _=>?_|refine rf fun _=>?_|simp only[go_sem,zab,zad,zaa,h2,ht8,c4,hft,hMk,Tryz.f31])
    all_goals
     have h9:=kR.out
     rw[←hkl]at h9
     exact h9 _ _ (by omega) (by simp only[go_sem]) (fun id hid=>by simp only[go_sem,hid,hHo id hid])
  ·
   repeat'(first|refine zaq.i ⟨by omega,rfl⟩ fun _=>?_|refine And.intro ?_ ?_|exact True.intro|refine rq fun _=>?_|refine rf fun _=>?_|simp only[go_sem,zab,zad,zaa,h1,hi1,eq_false hxy,g0,g1,ht1,ht2,ht3,hfl,Tryz.f31])
   refine⟨⟨i+1,m,by omega,by omega,?_⟩,by simp only;omega,?_⟩
   ·rw[zyn hi1 (by rw[hx,hy];exact hxy),hp,←List.take_succ_eq_append_getElem hi1]
   refine zay ?_ ?_ (fun id2 o2 ho2=>?_) ?_
   ·simp only[go_sem]
   ·simp only[go_sem]
   ·simp only[go_sem,kX.out id2 o2 ho2,ho2]
   ·first|omega|(simp only[go_sem];done)|(simp only[go_sem];omega)
 ·have he:i+1=l.length:=by omega
  have hd:zoj l=l:=by
   unfold zoj
   rw[←he,hp,List.take_of_length_le (by omega)]
  repeat'(first|refine And.intro ?_ ?_|exact True.intro|refine rq fun _=>?_|refine rf fun _=>?_|simp only[go_sem,zab,zad,zaa,h1,Tryz.f31])
  all_goals
   have h9:=kR.out
   rw[hd]at h9
   exact h9 _ _ (by omega) (by simp only[go_sem]) (fun id hid=>by simp only[go_sem,hid,hHo id hid])
end
end Go.Proofs.YtmconmiemdinkaaGreatDoor
namespace Go.Proofs.YtmconmiemdinkaaGreatDoor
open Go Go.Abs Go.Proofs
theorem zkg {s:zar}(h:(zaZ s).code=0):zaZ s=⟨0,0⟩:=by
 unfold zaZ at h ⊢
 split at h
 ·exact absurd h (by decide)
 rename_i h1
 rw[if_neg h1]
 split at h
 ·rename_i h2;exact absurd h h2
 rename_i h2
 rw[if_neg h2]
 split at h
 ·exact absurd h (by decide)
 rename_i h3
 rw[if_neg h3]
 split at h
 ·exact absurd h (by decide)
 rename_i h4
 rw[if_neg h4]
 split at h
 ·exact absurd h (by decide)
 rename_i h5
 rw[if_neg h5]
 split at h
 ·exact absurd h (by decide)
 rename_i h6
 rw[if_neg h6]
 split at h
 ·rename_i h7
  exact absurd h h7
 ·rename_i h7
  rw[if_neg h7]
def Rd0:Tbl:=Tbl.or Sc6 N2
theorem zDz:zan Tryz.prog GA Rd0:=zf0 zJ2 hN2
theorem zyA (l:List Abs.zac)(f:Abs.zac):zaY (l++[f])=zaY l++[.fz (.i .i64 f.kind),.fz (.s f.name.l),.fz (.sl (f.words.map enc)),.fz (.sl (f.subs.map enc))]:=by
 rw[zBA];congr 1;rw[ziy];rfl
theorem ztv {l:List Abs.zac}{f:Abs.zac}:(l++[f]).isEmpty=false:=by cases l<;>rfl
def zhN (s:zar):List Abs.zac×zhH:=if(zaZ s).code≠0 then([],zaZ s)else(zdU s,⟨0,0⟩)
theorem zrf {s:zar}{l:List Nat}(hs:ze3 s)(h:okL s l)(ht:zcx s l=true):zeA (zbY s l) s (zbH s (zdE (nP s) l)):=
 ⟨⟨ztY hs h,by rw[zec];exact ht⟩,fun x hx=>zdK (i:=zdE (nP s) l) (by rw[zbV];exact hx),Nat.le_trans (za3 (zmG hs (i:=zdE (nP s) l) h.t.1)) (by omega)⟩
theorem zt4 {s:zar}(hs:ze3 s):(zdy s).length≤10000:=by
 unfold zdy
 split
 ·simp
 ·rename_i hne
  have h1:=zjk (s:=s) (za5 s.pieces).length (List.replicate (nP s) false) []
  have hn6:=hs.n6
  have h5:(za5 s.pieces).length≤5:=by omega
  exact Nat.le_trans h1 (Nat.le_trans (Nat.le_trans (Nat.pow_le_pow_left hn6 _) (Nat.pow_le_pow_right (by omega) h5)) (by decide))
set_option maxHeartbeats 8000000 in
theorem zGH (s:zar):zaH Tryz.prog GA 8 [.fz (enc s)] (hpL []) 0 (fun d H _=>if(zaZ s).code≠0 then D.val d=some (.tup [.fz (enc ([]:List Abs.zac)),.fz (enc (zaZ s))])else∃id vt,d= .tup [.arr id 4 0 (zdU s).length,.agg [.fz (.i .i64 0),.fz (.i .i64 0)]]∧H id=some ⟨zaY (zdU s),false,vt⟩∧(vt=true→zdU s=[])):=by
 obtain⟨Q,hQ⟩:∃Q:D→zax→Nat→Prop,Q=(fun d H _=>if(zaZ s).code≠0 then D.val d=some (.tup [.fz (enc ([]:List Abs.zac)),.fz (enc (zaZ s))])else∃id vt,d= .tup [.arr id 4 0 (zdU s).length,.agg [.fz (.i .i64 0),.fz (.i .i64 0)]]∧H id=some ⟨zaY (zdU s),false,vt⟩∧(vt=true→zdU s=[])):=⟨_,rfl⟩
 rw[←hQ]
 by_cases h0:(zaZ s).code=0
 case neg=>
  have h0':((zaZ s).code=0)=False:=eq_false h0
  refine zaj (N:=41) Go.Proofs.YtmconmiemdinkaaGreatDoor.hm zDz 8000 (lst [34]) ok8 Tryz.func8 rfl rfl (by simp) (by kernel_rfl) ?_
  repeat'(first|refine And.intro ?_ ?_|exact True.intro|refine rq fun _=>?_|refine rf fun _=>?_|simp only[go_sem,h0',zab,zad,zaO,zae,zag,zai,zaa,Tryz.f8,Rd0,Sc6,Sc5,Sc4,Su4,Su3,Su2,Su1,Sc3,Sc2,Sc1,Sc0])
  all_goals
   simp only[hQ,ne_eq,h0,not_false_eq_true,if_true]
   simp only[go_sem]
  all_goals trace_state
 have hs:=zp5 h0
 have h0':((zaZ s).code=0)=True:=eq_true h0
 have hsc:zaZ s=⟨0,0⟩:=zkg h0
 have hpf:=zt4 hs
 obtain⟨L,hL⟩:∃L,(zdy s).length=L:=⟨_,rfl⟩
 have hpl:(ze5 s).length=L:=by unfold ze5;rw[List.length_map,hL]
 have hfl:(zcC s).length=L:=by unfold zcC;rw[List.length_map,hL]
 obtain⟨A,hA⟩:∃A:Nat→List Abs.zac,A=fun j=>(zcC s).take j:=⟨_,rfl⟩
 have hA0:A 0=[]:=by rw[hA];rfl
 have hAl:∀j,j≤L→(A j).length=j:=fun j hj=>by rw[hA];simp only[List.length_take];omega
 have hAe:A L=zcC s:=by rw[hA];simp only;rw[←hfl,List.take_length]
 have hAs:∀j (h:j<L) l,(zdy s)[j]'(by omega)=l→A (j+1)=A j++[ziX s l]:=fun j h l e=>by
  rw[hA];simp only
  rw[List.take_succ_eq_append_getElem (show j<(zcC s).length by omega)]
  unfold zcC
  rw[List.getElem_map,e]
 have kA:=Kp.mk hAs
 have kAl:=Kp.mk hAl
 clear hAs hAl hA
 refine zaj (N:=41) Go.Proofs.YtmconmiemdinkaaGreatDoor.hm zDz 8000 (lst [34]) ok8 Tryz.func8 rfl rfl (by simp) (by kernel_rfl) ?_
 repeat'(first|refine And.intro ?_ ?_|exact True.intro|refine rq fun _=>?_|refine rf fun _=>?_|simp only[go_sem,h0',zab,zad,zaO,zae,zag,zai,zaa,Tryz.f8,Rd0,Sc6,Sc5,Sc4,Su4,Su3,Su2,Su1,Sc3,Sc2,Sc1,Sc0])
 refine zam Go.Proofs.YtmconmiemdinkaaGreatDoor.hm zDz 8000 (lst [34]) (ι:=zdR L 5 fun _=>True)
  ⟨fun q=>⟨frL [(1,.ptr (8001,0) 0),(3,.ptr (8003,1) 0),(5,.arr (8034,q.g) 4 0 q.i),(15,.fz (.sl ((ze5 s).map enc))),(16,.fz (.i .i64 L)),(17,.fz (.i .i64 q.i))],
   hpL [((8001,0),some ⟨[.fz (.sl (s.pieces.map enc)),.fz (.sl (s.overs.map enc)),.fz (.sl (s.vars.map enc))],true,false⟩),((8003,1),some ⟨[.fz (.i .i64 0),.fz (.i .i64 0)],true,false⟩),((8034,q.g),some ⟨zaY (A q.i),false,(A q.i).isEmpty⟩)],q.m⟩,fun q=>L-q.i⟩
  ⟨0,4,5,by omega,by omega,by omega,trivial⟩ (by kernel_rfl) ?_ ?_
 ·refine zb6 [] [(8034,4)] [] ?_ ?_ ?_ ?_ ?_<;>(try simp only[go_sem,hA0,hpl,show zaY []=[]from rfl])
  all_goals first|done|rfl|omega
 rintro⟨j,g,m,hj,hg,hm2,_⟩
 try simp only at hj hg hm2
 have hal:=kAl.out j hj
 have hac:=zfz (A j)
 rcases Nat.lt_or_ge j L with h1|h1
 ·obtain⟨l,hl⟩:∃l,(zdy s)[j]'(by omega)=l:=⟨_,rfl⟩
  have hlm:l∈zdy s:=by rw[←hl];exact List.getElem_mem _
  obtain⟨hk,hT,_⟩:=zgY hs hlm
  have hAs:A (j+1)=A j++[ziX s l]:=kA.out j h1 l hl
  have hwf:=zhc hk hT
  have hfo:=zrf hs hk hT
  have hfit:(zcz s l).fit=true∧(zcz s l).size≤1000:=⟨zcQ hs _ _,Nat.le_trans (zck hs hk hT) (by decide)⟩
  have hpj:(ze5 s)[j]'(by omega)=zbY s l:=by unfold ze5;rw[List.getElem_map,hl]
  have htl:zdE (nP s) l<s.pieces.length:=hk.t.1
  obtain⟨t,ht⟩:∃t,zdE (nP s) l=t:=⟨_,rfl⟩
  have hPt:(zbY s l).top=(t:Int):=by rw[←ht];rfl
  rw[ht]at htl hwf hfo
  obtain⟨pc,hpc⟩:∃pc,s.pieces[t]=pc:=⟨_,rfl⟩
  have hfi:zbH s t=pc.form:=by unfold zbH;rw[List.getElem?_eq_getElem htl,hpc]
  rw[hfi]at hwf hfo
  obtain⟨P,hP⟩:∃P,zbY s l=P:=⟨_,rfl⟩
  rw[hP]at hpj hPt hwf hfo
  obtain⟨Z,hZ⟩:∃Z,zcz s l=Z:=⟨_,rfl⟩
  have hR:ziX s l=zaN Z []:=by unfold ziX;rw[hZ]
  rw[hZ]at hwf hfit
  rw[hR]at hAs
  have hjq:j<(ze5 s).length:=by omega
  have hPe:(⟨P.holes,P.pieces,(t:Int)⟩:zeE)=P:=by rw[←hPt]
  have hnp:s.pieces.length=nP s:=rfl
  have hn6:=hs.n6
  repeat'(first|refine zaq.i hfo fun _=>?_|refine zaq.i hfit fun _=>?_|refine And.intro ?_ ?_|exact True.intro|refine rq fun _=>?_|refine rf fun _=>?_|simp only[go_sem,hPe,h1,hjq,hpj,hPt,htl,hpc,hwf,hal,hac,zab,zad,zaO,zae,zag,zai,zaa,Tryz.f8,Rd0,Sc6,Sc5,Sc4,Su4,Su3,Su2,Su1,Sc3,Sc2,Sc1,Sc0])
  have htk:(zaY (A j)).take (j*4)=zaY (A j):=List.take_of_length_le (by omega)
  have hfz:zaf [FD.agg [FD.i .i64 (zaN Z []).kind,FD.s (zaN Z []).name.l,FD.sl ((zaN Z []).words.map enc),FD.sl ((zaN Z []).subs.map enc)]]=[.fz (.i .i64 (zaN Z []).kind),.fz (.s (zaN Z []).name.l),.fz (.sl ((zaN Z []).words.map enc)),.fz (.sl ((zaN Z []).subs.map enc))]:=rfl
  refine⟨⟨j+1,m+1,m+2,by omega,by omega,by omega,trivial⟩,by simp only;omega,?_⟩
  refine zah ?_ ?_ ?_<;>simp only[go_sem,hAs,zyA,htk,hfz,ztv,List.isEmpty_cons,Bool.and_false]
  all_goals first|done|rfl|omega
 ·obtain rfl:j=L:=by omega
  have hall:∀f∈zcC s,txG f:=fun f hf=>by
   obtain⟨l,hl,rfl⟩:=List.mem_map.1 hf
   obtain⟨hk,hT,_⟩:=zgY hs hl
   obtain⟨q1,q2⟩:=zxP hs hk hT
   exact⟨q1,by omega⟩
  have hsort:∀{id':Abs.Id} {bx vt:Bool} {H:zax} {n:Nat},H id'=some ⟨zaY (zcC s),bx,vt⟩→zaH Tryz.prog GA 28 [.arr id' 4 0 j,.fn 29 []] H n fun d H' n'=>d= .tup []∧∃S:List Abs.zac,S.Perm (zcC s)∧(S.Pairwise fun a b=>¬txt b<txt a)∧H'=zaM H id' (some ⟨zaY S,bx,vt⟩)∧n'=n:=fun{id' bx vt H n} ho=>by
   have:=zGL (G:=GA) (n:=n) hall ho
   rwa [hfl]at this
  repeat'(first|refine And.intro ?_ ?_|exact True.intro|refine rq fun _=>?_|refine rf fun _=>?_|simp only[go_sem,Nat.lt_irrefl,hal,hac,hAe,zab,zad,zaO,zae,zag,zai,zaa,Tryz.f8,Rd0,Sc6,Sc5,Sc4,Su4,Su3,Su2,Su1,Sc3,Sc2,Sc1,Sc0])
  refine zaQ.i (zaL (hsort (bx:=false) (vt:=(zcC s).isEmpty) (by simp only[go_sem,hAe])) ?_)
  rintro d' H' n' ⟨rfl,S,hp,hsr,rfl,rfl⟩
  have hdd:zoj S=zdU s:=zsY (zmI hs) hp hsr
  have hSl:S.length=j:=by rw[hp.length_eq,hfl]
  have hvS:(zcC s).isEmpty=true→S=[]:=fun h=>by
   have:=hp.length_eq
   rw[List.isEmpty_iff.1 h]at this
   exact List.length_eq_zero_iff.1 this
  have hvR:(zcC s).isEmpty=true→zdU s=[]:=fun h=>by
   rw[←hdd,hvS h];rfl
  have hcomp:∀{a:Abs.Id} {H:zax} {n:Nat} {R:D→zax→Nat→Prop},H a=some ⟨zaY S,false,(zcC s).isEmpty⟩→(∀H' n',n≤n'→H' a=some ⟨zaY (zdU s),false,(zcC s).isEmpty⟩→(∀id,id≠a→H' id=H id)→R (.arr a 4 0 (zdU s).length) H' n')→zaH Tryz.prog GA 31 [.arr a 4 0 j,.fn 32 []] H n R:=fun{a H n R} ho hR=>by
   have:=zE2 (R:=R) ho hvS (by omega) (by rw[hdd];exact hR)
   rwa [hSl]at this
  repeat'(first|refine And.intro ?_ ?_|exact True.intro|refine rq fun _=>?_|refine rf fun _=>?_|simp only[go_sem,hAe,zab,zad,zaO,zae,zag,zai,zaa,Tryz.f8,Rd0,Sc6,Sc5,Sc4,Su4,Su3,Su2,Su1,Sc3,Sc2,Sc1,Sc0])
  refine zaQ.i (hcomp (by simp only[go_sem,hAe]) fun H' n' hn' e1 e2=>?_)
  have b1:=e2 (8001,0) (by simp)
  have b3:=e2 (8003,1) (by simp)
  simp only[go_sem]at b1
  simp only[go_sem]at b3
  rw[show H'=hpX [] H' from rfl]
  repeat'(first|refine And.intro ?_ ?_|exact True.intro|refine rq fun _=>?_|refine rf fun _=>?_|simp only[go_sem,hAe,b1,b3,e1,zab,zad,zaO,zae,zag,zai,zaa,Tryz.f8,Rd0,Sc6,Sc5,Sc4,Su4,Su3,Su2,Su1,Sc3,Sc2,Sc1,Sc0])
  all_goals
   simp only[hQ,ne_eq,h0,not_true,if_false]
   exact⟨_,_,rfl,by simp only[go_sem,e1],hvR⟩
def Rd1:Tbl:=Rd0.add 8 (zum zhN fun _=>True)
theorem zHd:zan Tryz.prog GA Rd1:=by
 refine zg5 ok8 zDz fun s _ _=>?_
 refine zb1 (zGH s) ?_
 rintro d H n hq
 have e:H0=hpL []:=rfl
 by_cases h0:(zaZ s).code=0
 ·rw[if_neg (by simp[h0])]at hq
  obtain⟨id,vt,rfl,ho,hv⟩:=hq
  have hr:zhN s=(zdU s,⟨0,0⟩):=by unfold zhN;rw[if_neg (by simp[h0])]
  rw[hr]
  refine⟨.tup [.fz (.sl ((zdU s).map enc)),.agg [.fz (.i .i64 0),.fz (.i .i64 0)]],H0,n,?_,rfl⟩
  rw[e]
  refine zb6 [] [] [(id,(zdU s).map enc)] ?_ ?_ ?_ ?_ ?_<;>simp only[go_sem,ho]
  case refine_2=>exact⟨rfl,fun h=>by rw[hv h];rfl⟩
 ·rw[if_pos h0]at hq
  have hr:zhN s=([],zaZ s):=by unfold zhN;rw[if_pos h0]
  rw[hr]
  exact⟨d,H,n,zd2.refl _,hq⟩
end Go.Proofs.YtmconmiemdinkaaGreatDoor
namespace Go.Proofs.YtmconmiemdinkaaGreatDoor
open Go Go.Abs Go.Proofs
def zxR:Str:=⟨[101,118,101,114,121]⟩
def zGJ:Str:=⟨[115,101,101]⟩
def zCY:Str:=⟨[115,111,109,101]⟩
def zI1:Str:=⟨[99,97,116]⟩
def sH0:Str:=⟨[104,48]⟩
def sH1:Str:=⟨[104,49]⟩
def ztp (x:Str):Abs.zac:= .mk 10 x [] []
def zBb (k:Int)(x:Str)(f:Abs.zac):Abs.zac:= .mk k x [] [f]
def zt0:zar:=⟨[⟨zxR,zBb 8 sX (zDb 7 (zrw zI2 [sX]) (ztp sH0))⟩,⟨zCY,zBb 9 sY (zDb 5 (zrw zI1 [sY]) (ztp sH1))⟩,⟨zGJ,zrw zGJ [sX,sY]⟩],[],[sX,sY]⟩
def Re1:Tbl:=Rd1.add 22 (sp1 ztp fun _=>True)
theorem zHe:zan Tryz.prog GA Re1:=by
 refine zbR zIe zHd fun a _ _=>?_
 unfold ztp
 refine zaj (N:=5) Go.Proofs.YtmconmiemdinkaaGreatDoor.hm zHd 22000 (lst []) zIe Tryz.func22 rfl rfl (by simp) (by kernel_rfl) ?_
 repeat'(first|refine And.intro ?_ ?_|exact True.intro|refine rq fun _=>?_|refine rf fun _=>?_|simp only[go_sem,zab,zad,zae,zag,zai,zaa,Tryz.f22,Rd1,Rd0,Sc6,Sc5,Sc4,Su4,Su3,Su2,Su1,Sc3,Sc2,Sc1,Sc0])
 all_goals first|done|rfl|omega
def Re2:Tbl:=Re1.add 23 (sp3 zBb fun _ _ _=>True)
theorem zHf:zan Tryz.prog GA Re2:=by
 refine zgx zIf zHe fun a b c _ _ _ _=>?_
 unfold zBb
 refine zaj (N:=12) Go.Proofs.YtmconmiemdinkaaGreatDoor.hm zHe 23000 (lst []) zIf Tryz.func23 rfl rfl (by simp) (by kernel_rfl) ?_
 repeat'(first|refine And.intro ?_ ?_|exact True.intro|refine rq fun _=>?_|refine rf fun _=>?_|simp only[go_sem,zab,zad,zae,zag,zai,zaa,Tryz.f23,Re1,Rd1,Rd0,Sc6,Sc5,Sc4,Su4,Su3,Su2,Su1,Sc3,Sc2,Sc1,Sc0])
 all_goals first|done|rfl|omega
def Re3:Tbl:=Re2.add 7 (sp0 zt0)
set_option maxHeartbeats 4000000 in
theorem zJX:zan Tryz.prog GA Re3:=by
 refine zC0 zHf ?_
 refine zaj (N:=22) Go.Proofs.YtmconmiemdinkaaGreatDoor.hm zHf 7000 (lst []) ok7 Tryz.func7 rfl rfl (by simp) (by kernel_rfl) ?_
 repeat'(first|refine And.intro ?_ ?_|exact True.intro|refine rq fun _=>?_|refine rf fun _=>?_|simp only[go_sem,zt0,ztp,zBb,zDb,zrw,zxR,zGJ,zCY,zI1,sH0,sH1,sX,sY,zI2,zab,zad,zae,zag,zai,zaa,Tryz.f7,Re2,Re1,Rd1,Rd0,Sc6,Sc5,Sc4,Su4,Su3,Su2,Su1,Sc3,Sc2,Sc1,Sc0])
 all_goals first|done|rfl|omega
theorem zzo:zaZ zt0=⟨0,0⟩:=by kernel_rfl
theorem zpX:(zdU zt0).length=2:=by kernel_rfl
theorem zp2 {s:zar}(h:(zaZ s).code=0):zhN s=(zdU s,⟨0,0⟩):=by unfold zhN;rw[if_neg (by simp[h])]
end Go.Proofs.YtmconmiemdinkaaGreatDoor

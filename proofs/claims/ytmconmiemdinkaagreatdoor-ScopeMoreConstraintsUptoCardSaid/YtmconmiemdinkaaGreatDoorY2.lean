/- several texts of this proof in one; no conditions -/
import Derived.Test.YtmconmiemdinkaaGreatDoorAT
import Derived.Test.YtmconmiemdinkaaGreatDoorY1
import Derived.Test.YtmconmiemdinkaaGreatDoorY6
import Derived.Test.YtmconmiemdinkaaGreatDoorY19
import Derived.Test.YtmconmiemdinkaaGreatDoorY18
set_option maxRecDepth 100000
set_option maxHeartbeats 1000000
set_option linter.unusedSimpArgs false
namespace Go.Proofs.YtmconmiemdinkaaGreatDoor
open Go Go.Abs Go.Proofs
section
variable {P:Program} {G:Nat→List FD}
theorem ztf {k:Nat}(xs:List FD):zqN k (zaf xs)=zaf xs:=by
 rw[zeT]
 conv=>rhs;rw[←List.map_id (zaf xs)]
 refine List.map_congr_left fun d hd=>?_
 obtain⟨x,hx,hd⟩:=List.mem_flatMap.1 hd
 obtain⟨y,_,rfl⟩:=List.mem_map.1 hd
 rfl
theorem zpt {f:FuncId}{args:List D}{xs ys:List FD}{hl:List (Abs.Id×Option O)}{n t len:Nat}{bx vt:Bool}{R:D→zaw→Nat→Prop}(ha:D.toFDs args=some xs)
  (h:zaH P G f (xs.map .fz) (hpL []) 0 (fun d H1 n1=>∃g,g<n1∧d= .arr (t,g) 1 0 len∧H1 (t,g)=some ⟨zaf ys,bx,vt⟩))(hR:∀g n',n≤g→g<n'→R (.arr (t,g) 1 0 len) (hpL (((t,g),some ⟨zaf ys,bx,vt⟩)::hl)) n'):zaH P G f args (hpL hl) n R:=by
 rw[←zft]at h
 refine ze8 h.1 fun hfr=>zcr (zk5 ha h) ?_
 rintro d H' n' ⟨d1,H1,n1,⟨g,hg,rfl,ho⟩,rfl,rfl,rfl⟩
 have hsh:shH n (hpL hl) H1 (t,g+n)=some ⟨zaf ys,bx,vt⟩:=by
  unfold shH
  rw[if_pos (by simp),show(t,g+n-n)=(t,g) by rw[Nat.add_sub_cancel],ho]
  simp only[Option.map_some,shO,ztf]
 refine⟨.arr (t,g+n) 1 0 len,hpL (((t,g+n),some ⟨zaf ys,bx,vt⟩)::hl),n+n1,zeK ?_ (fun id o hid=>?_) (Nat.le_refl _),hR (g+n) (n+n1) (by omega) (by omega)⟩
 ·exact⟨rfl,trivial⟩
 ·simp only[hpL]at hid
  split at hid
  ·rename_i e;subst e;rw[←hid];exact hsh
  ·have hlt:id.2<n:=by
    rcases Nat.lt_or_ge id.2 n with h3|h3
    ·exact h3
    ·rw[hfr id h3]at hid;cases hid
   show shH n (hpL hl) H1 id=some o
   unfold shH
   rw[if_neg (by omega)]
   exact hid
end
theorem zoK (k:List (Abs.Id×Option O)):∀l:List (Abs.Id×Option O),hpL (l++k)=hpX l (hpL k)
 |[]=>rfl
 |(i,o)::l=>by funext j;simp only[List.cons_append,hpL,hpX,zoK k l]
def zs8 (b:za8)(w:Str):Str:=if w=b.fr then b.to else w
theorem zqE (env:List za8)(b:za8)(u:List Str):zeZ (env++[b]) u=(zeZ env u).map (zs8 b):=by
 unfold zeZ;rw[List.foldl_append];rfl
def ziL (b:za8)(u:List Str)(i:Nat):List Str:=(u.take i).map (zs8 b)++u.drop i
theorem zkc {b:za8}{u:List Str}{i:Nat}:(ziL b u i).length=u.length:=by
 unfold ziL;rw[List.length_append,List.length_map,List.length_take,List.length_drop];omega
theorem zsp {b:za8}{u:List Str}:ziL b u 0=u:=by simp[ziL]
theorem zuV {b:za8}{u:List Str}:ziL b u u.length=u.map (zs8 b):=by simp[ziL]
theorem zuW {b:za8}{u:List Str}{i:Nat}(h:i<u.length):(zaf ((ziL b u i).map enc)).getD i .junk= .fz (.s u[i].l):=by
 have h2:i<(ziL b u i).length:=by rw[zkc];exact h
 rw[zsd h2]
 have h3:(ziL b u i)[i]?=some u[i]:=by
  unfold ziL
  rw[List.getElem?_append_right (by rw[List.length_map,List.length_take];omega)]
  simp[List.length_take,Nat.min_eq_left (Nat.le_of_lt h),h]
 rw[(List.getElem?_eq_some_iff.1 h3).2]
 rfl
theorem zsn {b:za8}{u:List Str}{i:Nat}(h:i<u.length):(ziL b u i).set i u[i]=ziL b u i:=by
 have h2:i<(ziL b u i).length:=by rw[zkc];exact h
 have h3:(ziL b u i)[i]?=some u[i]:=by
  unfold ziL
  rw[List.getElem?_append_right (by rw[List.length_map,List.length_take];omega)]
  simp[List.length_take,Nat.min_eq_left (Nat.le_of_lt h),h]
 have h4:=(List.getElem?_eq_some_iff.1 h3).2
 rw[←h4]
 exact List.set_getElem_self h2
theorem zso {b:za8}{u:List Str}{i:Nat}(h:i<u.length):ziL b u (i+1)=(ziL b u i).set i (zs8 b u[i]):=by
 unfold ziL
 have hl:((u.take i).map (zs8 b)).length=i:=by rw[List.length_map,List.length_take];omega
 rw[List.set_append_right _ _ (by omega),hl,Nat.sub_self,List.take_succ_eq_append_getElem h,List.map_append,List.append_assoc,List.drop_eq_getElem_cons h]
 rfl
theorem zge {f:Abs.zab}(h:f.fit=true)(bd:List Str):(cst f bd).length≤1000*f.size:=by
 suffices hh:∀m,(∀(f:Abs.zab) (bd:List Str),f.size≤m→f.fit=true→(cst f bd).length≤1000*f.size)∧(∀(fs:List Abs.zab) (bd:List Str),zab.sizes fs≤m→zab.fits fs=true→(zbR fs bd).length≤1000*zab.sizes fs)from(hh f.size).1 f bd (Nat.le_refl _) h
 intro m
 induction m with
 |zero=>
  refine⟨fun f _ h=>by have:=f.size_pos;omega,fun fs bd h _=>?_⟩
  cases fs with
  |nil=>simp[zbR]
  |cons f fs=>rw[zab.sizes]at h;have:=f.size_pos;omega
 |succ m ih=>
  have h1:∀(f:Abs.zab) (bd:List Str),f.size≤m+1→f.fit=true→(cst f bd).length≤1000*f.size:=by
   rintro⟨k,nm,ws,s⟩ bd hs hf
   rw[zab.size]at hs ⊢
   rw[zab.fit]at hf
   simp only[Bool.and_eq_true,decide_eq_true_eq]at hf
   rw[cst,List.length_append]
   have h2:=ih.2 s (if isQ k then bd++[nm]else bd) (by omega) hf.2
   have h3:=List.length_filter_le (fun w=>decide (w∉bd)) ws
   omega
  refine⟨h1,fun fs=>?_⟩
  induction fs with
  |nil=>intro bd _ _;simp[zbR]
  |cons f fs ih2=>
   intro bd hs hf
   rw[zab.sizes]at hs ⊢
   rw[zab.fits,Bool.and_eq_true]at hf
   rw[zbR,List.length_append]
   have h2:=h1 f bd (by omega) hf.1
   have h3:=ih2 bd (by omega) hf.2
   omega
structure zHr (n:Nat) where
 e:Nat
 m:Nat
 he:e≤n
structure zHu (n m0:Nat) where
 i:Nat
 hi:i≤n
def zom (f:Abs.zab)(env:List za8):Prop:=f.fit=true∧f.size≤1000∧env.length≤1000
def R2:Tbl:=R1.add 60 (sp2 zat zom)
attribute [go_sem] R2
theorem hR2:zai Tryz.prog GA R2:=by
 refine zbC zGW hR1 fun f env hpre hw _=>?_
 obtain⟨hfit,hsz,hel⟩:=hpre
 have hcl:=zge hfit []
 have hul:=ziA f
 have h167:=f49 hw (by omega) (by omega)
 rw[zaD]at h167
 obtain⟨u,hu⟩:∃u,zbX f=u:=⟨_,rfl⟩
 obtain⟨vt,hvt⟩:∃vt,(cst f []).isEmpty=vt:=⟨_,rfl⟩
 have hvu:u≠[]→vt=false:=fun h=>by
  rw[←hvt]
  cases hc:cst f []with
  |cons=>rfl
  |nil=>rw[hc]at hul;rw[hu]at hul;simp only[List.length_nil,Nat.le_zero]at hul;exact absurd (List.eq_nil_of_length_eq_zero hul) h
 have hvu2:vt=true→u=[]:=fun h=>by
  cases hc:u with
  |nil=>rfl
  |cons a l=>have:=hvu (by rw[hc];simp);rw[this]at h;cases h
 rw[hu,hvt]at h167
 rw[hu]at hul
 refine zam (N:=43) hm hR1 60000 (lst []) zGW Tryz.func60 rfl rfl (by simp) (by kernel_rfl) ?_
 repeat'(first|refine rq fun _=>?_|simp only[go_sem,Tryz.f60])
 refine zaV.i (zpt rfl h167 fun g m hg hgm=>?_)
 repeat'(first|refine rq fun _=>?_|simp only[go_sem,Tryz.f60])
 obtain⟨X,hXd⟩:∃X:Nat→List Str,X=fun e=>zeZ (env.take e) u:=⟨_,rfl⟩
 have hX0:X 0=u:=by rw[hXd];rfl
 have hXs:∀e (h:e<env.length),X (e+1)=(X e).map (zs8 env[e]):=fun e h=>by rw[hXd];simp only[List.take_succ_eq_append_getElem h,zqE]
 have hXl:∀e,(X e).length=u.length:=fun e=>by rw[hXd];exact zmx _ _
 have hXe:X env.length=zeZ env u:=by rw[hXd];simp only[List.take_length]
 clear hXd
 refine zaJ hm hR1 60000 (lst []) (ι:=zHr env.length)
  ⟨fun q=>⟨frL [(1,.fz (.sl (env.map enc))),(2,.ptr (60002,0) 0),(4,.ptr (60004,1) 0),(5,.ptr (60005,m) 0),(14,.fz (.sl (env.map enc))),(15,.fz (.i .i64 env.length)),(16,.fz (.i .i64 q.e))],
   hpL [((60002,0),some ⟨[.fz (.i .i64 f.kind),.fz (.s f.name.l),.fz (.sl (f.words.map enc)),.fz (.sl (f.subs.map enc))],true,false⟩),((60004,1),some ⟨[.fz (.i .i64 0),.fz (.s []),.full [],.full []],true,false⟩),
    ((60005,m),some ⟨[.arr (77024,g) 1 0 u.length],true,false⟩),((77024,g),some ⟨zaf ((X q.e).map enc),false,vt⟩)],m+1+q.m⟩,fun q=>env.length-q.e⟩
  ⟨0,0,by omega⟩ (by kernel_rfl) ?_ ?_
 ·refine zau ?_ ?_ ?_<;>simp only[go_sem,hX0]
 rintro⟨e,q,he⟩
 try simp only at he
 rcases Nat.lt_or_ge e env.length with h1|h1
 ·obtain⟨b,hb⟩:∃b,env[e]=b:=⟨_,rfl⟩
  have hXe1:=hXs e h1
  have hXl1:=hXl e
  rw[hb]at hXe1
  obtain⟨x,hx⟩:∃x,X e=x:=⟨_,rfl⟩
  rw[hx]at hXl1 hXe1
  repeat'(first|refine rq fun _=>?_|simp only[go_sem,h1,hb,hx,zaa,Tryz.f60])
  refine zaJ hm hR1 60000 (lst []) (ι:=zHu x.length 0)
   ⟨fun p=>⟨frL [(1,.fz (.sl (env.map enc))),(2,.ptr (60002,0) 0),(4,.ptr (60004,1) 0),(5,.ptr (60005,m) 0),(7,.ptr (60007,m+1+q) 0),(14,.fz (.sl (env.map enc))),(15,.fz (.i .i64 env.length)),(16,.fz (.i .i64 e)),
     (20,.arr (77024,g) 1 0 u.length),(21,.fz (.i .i64 u.length)),(22,.fz (.i .i64 p.i))],
    hpL [((60002,0),some ⟨[.fz (.i .i64 f.kind),.fz (.s f.name.l),.fz (.sl (f.words.map enc)),.fz (.sl (f.subs.map enc))],true,false⟩),((60004,1),some ⟨[.fz (.i .i64 0),.fz (.s []),.full [],.full []],true,false⟩),
     ((60005,m),some ⟨[.arr (77024,g) 1 0 u.length],true,false⟩),((60007,m+1+q),some ⟨[.fz (.s b.fr.l),.fz (.s b.to.l)],true,false⟩),
     ((77024,g),some ⟨zaf ((ziL b x p.i).map enc),false,vt⟩)],m+1+q+1⟩,fun p=>x.length-p.i⟩
   ⟨0,by omega⟩ (by kernel_rfl) ?_ ?_
  ·refine zau ?_ ?_ ?_<;>simp only[go_sem,zsp]
  rintro⟨i,hi⟩
  try simp only at hi
  rcases Nat.lt_or_ge i x.length with h2|h2
  ·have hv0:vt=false:=hvu (by intro e;rw[e]at hXl1;simp only[List.length_nil]at hXl1;omega)
   have hgt:=zuW (b:=b) h2
   have hi2:i<u.length:=by omega
   obtain⟨w,hw2⟩:∃w,x[i]=w:=⟨_,rfl⟩
   have hsc:=zso (b:=b) h2
   rw[hw2]at hgt hsc
   have hhl:=@zkc b x i
   obtain⟨y,hy⟩:∃y,ziL b x i=y:=⟨_,rfl⟩
   rw[hy]at hgt hsc hhl
   have hst:(zaf (y.map enc)).set i (.fz (.s b.to.l))=zaf ((y.set i b.to).map enc):=zoH (a:=b.to)
   by_cases he2:w.l=b.fr.l
   ·have hr:zs8 b w=b.to:=by unfold zs8;rw[if_pos (by cases w;cases b;simp only at he2;simp[he2])]
    rw[hr]at hsc
    repeat'(first|refine rq fun _=>?_|simp only[go_sem,hi2,hy,hgt,he2,hv0,hst,Tryz.f60])
    refine⟨⟨i+1,by omega⟩,by simp only;omega,?_⟩
    refine zau ?_ ?_ ?_<;>simp only[go_sem,hsc,hv0]
   ·have hr:zs8 b w=w:=by unfold zs8;rw[if_neg (fun e=>he2 (by rw[e]))]
    rw[hr]at hsc
    repeat'(first|refine rq fun _=>?_|simp only[go_sem,hi2,hy,hgt,he2,hv0,Tryz.f60])
    have hkp:=zsn (b:=b) h2
    rw[hw2,hy]at hkp
    rw[hkp]at hsc
    refine⟨⟨i+1,by omega⟩,by simp only;omega,?_⟩
    refine zau ?_ ?_ ?_<;>simp only[go_sem,hsc,hv0]
  ·obtain rfl:i=x.length:=by omega
   have ha:ziL b x u.length=x.map (zs8 b):=by rw[←hXl1];exact zuV
   repeat'(first|refine rq fun _=>?_|simp only[go_sem,Nat.lt_irrefl,hXl1,Tryz.f60])
   refine⟨⟨e+1,q+1,by omega⟩,by simp only;omega,?_⟩
   refine zau ?_ ?_ ?_<;>simp only[go_sem,hXe1,hXl1,ha]
   all_goals first|done|omega
 ·obtain rfl:e=env.length:=by omega
  have hrl:=zmx env u
  obtain⟨r,hr⟩:∃r,zeZ env u=r:=⟨_,rfl⟩
  rw[hr]at hrl hXe
  have h215:=f85 (used:=r) (ga:=m+1+q) (gb:=m) f.size f env 0 (m+1+q+1) (hpL [((60004,1),some ⟨[.fz (.i .i64 0),.fz (.s []),.full [],.full []],true,false⟩)]) (Nat.le_refl _) hw hfit (by omega) (by omega)
   (by
    have h5:(r.length+1)*f.size≤1000001*1000:=Nat.mul_le_mul (by omega) hsz
    omega) (by omega) (fun id o ho=>by
    simp only[hpL]at ho
    split at ho
    ·rename_i e;subst e;simp only;omega
    ·cases ho)
  have hcan:(ren (vg r) f env 0).1=zat f env:=by unfold zat;rw[hu,hr]
  rw[hcan]at h215
  obtain⟨c,hc⟩:∃c,zat f env=c:=⟨_,rfl⟩
  rw[hc]at h215 ⊢
  rw[zaD (f:=f)]at h215
  repeat'(first|refine rq fun _=>?_|simp only[go_sem,Nat.lt_irrefl,hXe,Tryz.f60])
  refine zaV.i (zdO rfl (zjE (args':=[.fz (.agg [.i .i64 f.kind,.s f.name.l,.sl (f.words.map enc),.sl (f.subs.map enc)]),.fz (enc env),.fn 84 [.ptr (60010,m+1+q) 0,.ptr (60005,m) 0]])
   (hl:=HHn 0 r (m+1+q) m++[((60004,1),some ⟨[.fz (.i .i64 0),.fz (.s []),.full [],.full []],true,false⟩)]) (n':=m+1+q+1) [] [] [((77024,g),r.map enc)] rfl ?_ ?_ ?_ ?_ ?_ ?_))
  case _=>omega
  case _=>
   simp only[go_sem]
   intro h
   have h9:=hvu2 h
   rw[h9,List.length_nil]at hrl
   rw[List.eq_nil_of_length_eq_zero hrl]
   rfl
  case _=>simp only[go_sem,HHn];(repeat'(first|omega|rfl|apply And.intro))
  case _=>simp only[go_sem,HHn];(repeat'(first|omega|rfl|apply And.intro))
  case _=>simp only[go_sem];(repeat'(first|omega|rfl|apply And.intro))
  rw[zoK]
  refine zaK h215 ?_
  rintro d' H' n' ⟨rfl,e1,e2,e3⟩
  have b4:=e3 (60004,1) ⟨[.fz (.i .i64 0),.fz (.s []),.full [],.full []],true,false⟩ (by simp only[go_sem])
  rw[show H'=hpX [] H' from rfl]
  repeat'(first|refine rq fun _=>?_|simp only[go_sem,b4,Tryz.f60])
def R3:Tbl:=R2
attribute [go_sem] R3
theorem hR3:zai Tryz.prog GA R3:=hR2
def R4:Tbl:=R3.add 26 (sp1 (fun f:Abs.zab=>zat f []) fun f=>f.fit=true∧f.size≤1000)
attribute [go_sem] R4
theorem hR4:zai Tryz.prog GA R4:=by
 refine zdd zGF hR3 fun f hpre _=>?_
 have hp:zom f []:=⟨hpre.1,hpre.2,by simp⟩
 refine zam (N:=5) hm hR3 26000 (lst []) zGF Tryz.func26 rfl rfl (by simp) (by kernel_rfl) ?_
 repeat'(first|refine rq fun _=>?_|refine zaA.i hp fun _=>?_|simp only[go_sem,R3,R2,Tryz.f26])
end Go.Proofs.YtmconmiemdinkaaGreatDoor
namespace Go.Proofs.YtmconmiemdinkaaGreatDoor
open Go Go.Abs Go.Proofs
section
variable {P:Program} {G:Nat→List FD} {T:Tbl}
end
theorem zlA {n:Nat}(h:n<10):zbm n=[UInt8.ofNat (48+n)]:=by unfold zbm;rw[Lib.decDigits,dif_pos h]
structure zKw (n0:Nat) where
 n:Nat
 s:List UInt8
 hn:n≤n0
 h:zbm n0=zbm n++s
 hl:s.length≤n0-n
def R5:Tbl:=R4
attribute [go_sem] R5
theorem hR5:zai Tryz.prog GA R5:=hR4
end Go.Proofs.YtmconmiemdinkaaGreatDoor
namespace Go.Proofs.YtmconmiemdinkaaGreatDoor
open Go Go.Abs Go.Proofs
def twN (l:List Str)(s:Str):Nat:=(l.takeWhile fun x=>decide (x.l<s.l)).length
theorem zf4 {x s:Str}{l:List Str}:twN (x::l) s=if x.l<s.l then twN l s+1 else 0:=by
 unfold twN
 by_cases h:x.l<s.l
 ·rw[List.takeWhile_cons_of_pos (by simpa using h),if_pos h,List.length_cons]
 ·rw[List.takeWhile_cons_of_neg (by simpa using h),if_neg h];rfl
theorem zty (s:Str):∀l:List Str,twN l s≤l.length
 |[]=>Nat.le_refl _
 |x::l=>by
  rw[zf4]
  have:=zty s l
  split<;>simp only[List.length_cons]<;>omega
theorem ztz {s:Str}:∀{l:List Str} {i:Nat} (h:i<l.length),i<twN l s→l[i].l<s.l
 |x::l,0,_,h2=>by
  rw[zf4]at h2
  split at h2
  ·assumption
  ·omega
 |x::l,i+1,h,h2=>by
  rw[zf4]at h2
  split at h2
  ·exact ztz (l:=l) (by simpa using h) (by omega)
  ·omega
theorem ztx {s:Str}:∀{l:List Str} {i:Nat} (h:i<l.length),i=twN l s→¬l[i].l<s.l
 |x::l,0,_,h2=>by
  rw[zf4]at h2
  split at h2
  ·omega
  ·assumption
 |x::l,i+1,h,h2=>by
  rw[zf4]at h2
  split at h2
  ·exact ztx (l:=l) (by simpa using h) (by omega)
  ·omega
theorem zcD:∀x y:List UInt8,Op.bytesLess x y=decide (x<y)
 |[],[]=>by simp[Op.bytesLess]
 |_::_,[]=>by simp[Op.bytesLess]
 |[],_::_=>by simp[Op.bytesLess]
 |a::x,b::y=>by
  rw[Op.bytesLess,zcD x y]
  by_cases h1:a<b<;>by_cases h2:a=b<;>simp[h1,h2,List.cons_lt_cons_iff]
theorem zrV {α:Type}[Enc α]{l:List α}{i:Nat}:zbS (l.map enc) (i:Int) (l.length:Int)=(l.drop i).map enc:=by
 have h:=@zz4 (l.map enc) i
 rw[List.length_map]at h;rw[h,List.map_drop]
def R6:Tbl:=R5.add 45 (sp2 zhm fun l _=>l.length≤1000000)
attribute [go_sem] R6
theorem hR6:zai Tryz.prog GA R6:=by
 refine zbC zzz hR5 fun l s hl _ _=>?_
 by_cases hin:s∈l
 ·have e:zhm l s=l:=by unfold zhm;rw[if_pos hin]
  rw[e]
  refine zam (N:=39) hm hR5 45000 (lsw [29,33,38] []) zzz Tryz.func45 rfl rfl (by simp) (by kernel_rfl) ?_
  repeat'(first|refine rq fun _=>?_|simp only[go_sem,hin,Tryz.f45])
 ·have e:zhm l s=l.take (twN l s)++[s]++l.drop (twN l s):=by unfold zhm;rw[if_neg hin];rfl
  rw[e]
  clear e
  have hlt:∀i (h:i<l.length),i<twN l s→Op.bytesLess l[i].l s.l=true:=fun i h h2=>by rw[zcD];exact decide_eq_true (ztz h h2)
  have hat:∀i (h:i<l.length),i=twN l s→Op.bytesLess l[i].l s.l=false:=fun i h h2=>by rw[zcD];exact decide_eq_false (ztx h h2)
  have htl:=zty s l
  obtain⟨T,hT⟩:∃T,twN l s=T:=⟨_,rfl⟩
  rw[hT]at hlt hat htl ⊢
  clear hT
  have kl:=Kp.mk hlt
  have ka:=Kp.mk hat
  clear hlt hat
  refine zam (N:=39) hm hR5 45000 (lsw [29,33,38] []) zzz Tryz.func45 rfl rfl (by simp) (by kernel_rfl) ?_
  repeat'(first|refine rq fun _=>?_|simp only[go_sem,hin,Tryz.f45])
  refine zaJ hm hR5 45000 (lsw [29,33,38] []) (ι:=zg4 T fun _=>True)
   ⟨fun q=>⟨frL [(0,.fz (.sl (l.map enc))),(1,.fz (.s s.l)),(5,.full []),(6,.fz (.i .i64 q.i))],hpL [],0⟩,fun q=>T-q.i⟩
   ⟨0,by omega,trivial⟩ (by kernel_rfl) ?_ ?_
  ·refine zau ?_ ?_ ?_<;>simp only[go_sem]
  rintro⟨i,hi,_⟩
  try simp only at hi
  rcases Nat.lt_or_ge i T with h1|h1
  ·have h2:i<l.length:=by omega
   have h3:=kl.out i h2 h1
   repeat'(first|refine rq fun _=>?_|simp only[go_sem,h2,h3,zaa,Tryz.f45])
   refine⟨⟨i+1,by omega,trivial⟩,by simp only;omega,?_⟩
   refine zau ?_ ?_ ?_<;>simp only[go_sem]
  ·obtain rfl:i=T:=by omega
   have hlt:(l.take i).length=i:=by rw[List.length_take];omega
   rcases Nat.lt_or_ge i l.length with h2|h2
   case' inl=>have h3:=ka.out i h2 rfl
   case' inr=>have h3:¬i<l.length:=by omega
   all_goals
    repeat'(first|refine rq fun _=>?_|refine zaA.i (zaE (by first|omega|(simp only[List.length_map,List.length_take,List.length_drop,List.length_append,List.length_cons,List.length_nil];omega)) (by decide)) fun _=>?_|refine rq fun _=>?_|simp only[go_sem,h2,h3,zrV,zaa,Tryz.f45])
   all_goals first|done|(simp only[List.map_append,List.map_take,List.map_drop,List.map_cons,List.map_nil,zr8])
end Go.Proofs.YtmconmiemdinkaaGreatDoor
namespace Go.Abs
open Go
def vEq (x d:D):Prop:=x=d∨D.val x=some d
def FrV (fr:Nat→D):List (Nat×D)→Prop
 |[]=>True
 |(k,d)::l=>vEq (fr k) d∧FrV fr l
@[go_sem] theorem zDh {fr:Nat→D}:FrV fr []=True:=rfl
@[go_sem] theorem zBQ {fr:Nat→D}{k:Nat}{d:D}{l:List (Nat×D)}:FrV fr ((k,d)::l)=(vEq (fr k) d∧FrV fr l):=rfl
@[go_sem] theorem zDd {d:D}:vEq d d=True:=eq_true (.inl rfl)
@[go_sem] theorem zHm {id:Abs.Id}{es:Nat}{xs ys:List FD}:vEq (.ow id es xs) (.fz (.sl ys))=(xs=ys):=by
 unfold vEq;rw[zBN];simp
@[go_sem] theorem zDc {xs ys:List FD}:vEq (.full xs) (.fz (.sl ys))=(xs=ys):=by
 unfold vEq;rw[zvV];simp
@[go_sem] theorem zHl {x y:FD}:vEq (.fz x) (.fz y)=(x=y):=by
 unfold vEq;rw[zBM];simp
theorem FrV.get {fr:Nat→D}:∀{l:List (Nat×D)},FrV fr l→∀t,frL l t=fr t∨D.val (fr t)=some (frL l t)∨frL l t= .junk
 |[],_,_=> .inr (.inr rfl)
 |(k,d)::l,h,t=>by
  simp only[frL]
  split
  ·rename_i e;subst e
   rcases h.1 with h1|h1
   ·exact .inl h1.symm
   ·exact .inr (.inl h1)
  ·exact FrV.get h.2 t
end Go.Abs
namespace Go.Abs
open Go
mutual
theorem zun:∀(f:Abs.zab) (bd l:List Str),f.fit=true→(zyJ f bd l).length≤l.length+1000*f.size
 | .mk k nm ws s,bd,l,h=>by
  rw[zab.fit]at h
  simp only[Bool.and_eq_true,decide_eq_true_eq]at h
  rw[zyJ,zab.size]
  have h1:=zlo s (if isQ k then bd++[nm]else bd) (ws.foldl (fun l w=>if w∈bd then l else zhm l w) l) h.2
  have h2:=zlP bd ws l
  omega
theorem zlo:∀(fs:List Abs.zab) (bd l:List Str),zab.fits fs=true→(zln fs bd l).length≤l.length+1000*zab.sizes fs
 |[],_,l,_=>by rw[zln];omega
 |f::fs,bd,l,h=>by
  rw[zab.fits,Bool.and_eq_true]at h
  rw[zln,zab.sizes]
  have h1:=zun f bd l h.1
  have h2:=zlo fs bd (zyJ f bd l) h.2
  omega
end
end Go.Abs
namespace Go.Proofs.YtmconmiemdinkaaGreatDoor
open Go Go.Abs Go.Proofs
def R7:Tbl:=R6
attribute [go_sem] R7
theorem hR7:zai Tryz.prog GA R7:=hR6
def R8:Tbl:=R7
attribute [go_sem] R8
theorem hR8:zai Tryz.prog GA R8:=hR7
end Go.Proofs.YtmconmiemdinkaaGreatDoor
namespace Go.Proofs.YtmconmiemdinkaaGreatDoor
open Go Go.Abs Go.Proofs
section
variable {P:Program} {G:Nat→List FD} {T:Tbl}
theorem zvC {α β ρ:Type}[Enc α][Enc β][Enc ρ]{f:FuncId}{g:α→β→ρ}(m:α→Nat)(hc:zal P f)(hT:zai P G T)
  (h:∀n,zai P G (T.add f (sp2 g fun a _=>m a<n))→∀a b,m a=n→(enc a).Wf→(enc b).Wf→zaH P G f [.fz (enc a),.fz (enc b)] (hpL []) 0 (fun d _ _=>D.val d=some (.fz (enc (g a b))))):zai P G (T.add f (sp2 g fun _ _=>True)):=by
 have key:∀n,zai P G (T.add f (sp2 g fun a _=>m a<n)):=by
  intro n
  induction n with
  |zero=>exact zbC hc hT fun a _ ha=>by omega
  |succ n ih=>
   refine zbC hc hT fun a b ha hw hw2=>?_
   rcases Nat.lt_or_ge (m a) n with h3|h3
   ·have h4:=ih f (sp2 g fun a _=>m a<n) [enc a,enc b] _ _ (by simp[Tbl.add]) (zu8) ⟨by rw[dec_enc],by rw[dec_enc],by rw[dec_enc];exact h3⟩
    rw[dec_enc,dec_enc,zft]at h4
    exact h4
   ·exact h n ih a b (by omega) hw hw2
 exact zbC hc hT fun a b _ hw hw2=>h (m a) (key _) a b rfl hw hw2
end
theorem zsg {a b:Abs.zab}(h1:a.kind=b.kind)(h2:a.name=b.name)(h3:a.words=b.words)(h4:a.subs=b.subs):a=b:=by
 cases a;cases b;simp only[zae,zbg,zbJ,zaR]at*;subst h1 h2 h3 h4;rfl
theorem zhP {α:Type}{a b:List α}(h:a.length=b.length)(h2:a.take a.length=b.take a.length):a=b:=by
 rw[List.take_length]at h2
 rw[h,List.take_length]at h2
 exact h2
section
variable {P:Program} {G:Nat→List FD} {T:Tbl}
theorem zBA {α β ρ:Type}[Enc α][Enc β][Enc ρ]{f:FuncId}{g:α→β→ρ}{pre:α→β→Prop}(m:α→Nat)(hc:zal P f)(hT:zai P G T)
  (h:∀n,zai P G (T.add f (sp2 g fun a b=>m a<n∧pre a b))→∀a b,m a=n→pre a b→(enc a).Wf→(enc b).Wf→zaH P G f [.fz (enc a),.fz (enc b)] (hpL []) 0 (fun d _ _=>D.val d=some (.fz (enc (g a b))))):zai P G (T.add f (sp2 g pre)):=by
 have key:∀n,zai P G (T.add f (sp2 g fun a b=>m a<n∧pre a b)):=by
  intro n
  induction n with
  |zero=>exact zbC hc hT fun a b ha=>by omega
  |succ n ih=>
   refine zbC hc hT fun a b ha hw hw2=>?_
   rcases Nat.lt_or_ge (m a) n with h1|h1
   ·have h2:=ih f (sp2 g fun a b=>m a<n∧pre a b) [enc a,enc b] _ _ (by simp[Tbl.add]) (zu8) ⟨by rw[dec_enc],by rw[dec_enc],by rw[dec_enc,dec_enc];exact⟨h1,ha.2⟩⟩
    rw[dec_enc,dec_enc,zft]at h2
    exact h2
   ·exact h n ih a b (by omega) ha.2 hw hw2
 exact zbC hc hT fun a b ha hw hw2=>h (m a) (key _) a b rfl ha hw hw2
end
def N1:Tbl:=R4.add 65 (sp2 (fun a b:List Str=>decide (a=b)) fun _ _=>True)
attribute [go_sem] N1
theorem hN1:zai Tryz.prog GA N1:=by
 refine zbC zGX hR4 fun a b _ hwa hwb=>?_
 obtain⟨Q,hQ⟩:∃Q:D→zaw→Nat→Prop,Q=(fun d _ _=>D.val d=some (.fz (enc (decide (a=b))))):=⟨_,rfl⟩
 rw[←hQ]
 have hf:a≠b→∀{H' n'},Q (.fz (.b false)) H' n':=fun h H' n'=>by rw[hQ];show _=some (D.fz (.b (decide (a=b))));rw[decide_eq_false h];rfl
 have ht:a=b→∀{H' n'},Q (.fz (.b true)) H' n':=fun h H' n'=>by rw[hQ];show _=some (D.fz (.b (decide (a=b))));rw[decide_eq_true h];rfl
 have hsl:a.length≤zbr:=by
  have:=zd9 hwa
  simpa using this
 unfold zbr at hsl
 have kf:=Kp.mk @hf
 have kt:=Kp.mk @ht
 clear hf ht hQ hwa hwb
 refine zam (N:=26) hm hR4 65000 (lst []) zGX Tryz.func65 rfl rfl (by simp) (by kernel_rfl) ?_
 repeat'(first|refine za1.d (fun _=>?_) (fun _=>?_)|refine rq fun _=>?_|simp only[go_sem,Tryz.f65])
 all_goals try(refine kf.out (fun e=>?_);subst e;omega)
 rename_i e1
 have hlen:a.length=b.length:=by omega
 refine zaJ hm hR4 65000 (lst []) (ι:=zg4 a.length fun i=>a.take i=b.take i)
  ⟨fun q=>⟨frL [(0,.fz (.sl (a.map enc))),(1,.fz (.sl (b.map enc))),(12,.fz (.i .i64 a.length)),(13,.fz (.i .i64 q.i))],hpL [],0⟩,fun q=>a.length-q.i⟩
  ⟨0,by omega,rfl⟩ (by kernel_rfl) ?_ ?_
 ·refine zau ?_ ?_ ?_<;>simp only[go_sem]
 rintro⟨i,hi,hpi⟩
 rcases Nat.lt_or_ge i a.length with h1|h1
 ·have h2:i<b.length:=by omega
  obtain⟨x,hx⟩:∃x,a[i]=x:=⟨_,rfl⟩
  obtain⟨y,hy⟩:∃y,b[i]=y:=⟨_,rfl⟩
  by_cases hxy:x=y
  ·repeat'(first|refine rq fun _=>?_|simp only[go_sem,h1,h2,hx,hy,eq_true hxy,zaa,Tryz.f65])
   refine⟨⟨i+1,by omega,?_⟩,by simp only;omega,?_⟩
   ·rw[List.take_succ_eq_append_getElem h1,List.take_succ_eq_append_getElem h2,hpi,hx,hy,hxy]
   ·refine zau ?_ ?_ ?_<;>simp only[go_sem]
  ·repeat'(first|refine rq fun _=>?_|simp only[go_sem,h1,h2,hx,hy,eq_false hxy,zaa,Tryz.f65])
   exact kf.out fun e=>hxy (by subst e;rw[←hx,←hy])
 ·have h1':¬i<a.length:=by omega
  obtain rfl:i=a.length:=by omega
  repeat'(first|refine rq fun _=>?_|simp only[go_sem,Nat.lt_irrefl,h1',Tryz.f65])
  exact kt.out (zhP hlen hpi)
def N2:Tbl:=N1.add 32 (sp2 (fun a b:Abs.zab=>decide (a=b)) fun _ _=>True)
attribute [go_sem] N2
theorem hN2:zai Tryz.prog GA N2:=by
 refine zvC zab.size zGH hN1 fun n hT a b hn hwa hwb=>?_
 obtain⟨Q,hQ⟩:∃Q:D→zaw→Nat→Prop,Q=(fun d _ _=>D.val d=some (.fz (enc (decide (a=b))))):=⟨_,rfl⟩
 rw[←hQ]
 have hf:a≠b→∀{H' n'},Q (.fz (.b false)) H' n':=fun h H' n'=>by rw[hQ];show _=some (D.fz (.b (decide (a=b))));rw[decide_eq_false h];rfl
 have ht:a=b→∀{H' n'},Q (.fz (.b true)) H' n':=fun h H' n'=>by rw[hQ];show _=some (D.fz (.b (decide (a=b))));rw[decide_eq_true h];rfl
 have hsl:a.subs.length≤zbr:=by
  have h:=zc2 (by have h:=hwa;rw[zaD]at h;exact h) (FD.sl (a.subs.map enc)) (by simp)
  have:=zd9 h
  simpa using this
 unfold zbr at hsl
 have hsz:∀g∈a.subs,g.size<n:=fun g hg=>by have:=zab.size_sub hg;omega
 have kf:=Kp.mk @hf
 have kt:=Kp.mk @ht
 have kz:=Kp.mk hsz
 have kT:=Kp.mk hT
 clear hf ht hQ hwa hwb hsz hT
 refine zam (N:=54) hm kT.out 32000 (lst []) zGH Tryz.func32 rfl rfl (by simp) (by kernel_rfl) ?_
 repeat'(first|refine za1.d (fun _=>?_) (fun _=>?_)|refine za1.i (fun _=>?_) (fun _=>?_)|refine rq fun _=>?_|simp only[go_sem,Tryz.f32, *])
 all_goals try(refine kf.out (fun e=>?_);subst e;contradiction)
 rename_i e1 e2 e3 e4
 have hlen:a.subs.length=b.subs.length:=by omega
 refine zaJ hm kT.out 32000 (lst []) (ι:=zg4 a.subs.length fun i=>a.subs.take i=b.subs.take i)
  ⟨fun q=>⟨frL [(2,.ptr (32002,0) 0),(3,.ptr (32003,1) 0),(37,.fz (.i .i64 a.subs.length)),(38,.fz (.i .i64 q.i))],
   hpL [((32002,0),some ⟨[.fz (.i .i64 a.kind),.fz (.s a.name.l),.fz (.sl (a.words.map enc)),.fz (.sl (a.subs.map enc))],true,false⟩),((32003,1),some ⟨[.fz (.i .i64 b.kind),.fz (.s b.name.l),.fz (.sl (b.words.map enc)),.fz (.sl (b.subs.map enc))],true,false⟩)],2⟩,fun q=>a.subs.length-q.i⟩
  ⟨0,by omega,rfl⟩ (by kernel_rfl) ?_ ?_
 ·refine zau ?_ ?_ ?_<;>simp only[go_sem, *]
 rintro⟨i,hi,hpi⟩
 rcases Nat.lt_or_ge i a.subs.length with h1|h1
 ·have h2:i<b.subs.length:=by omega
  obtain⟨x,hx⟩:∃x,a.subs[i]=x:=⟨_,rfl⟩
  obtain⟨y,hy⟩:∃y,b.subs[i]=y:=⟨_,rfl⟩
  have hxs:x.size<n:=kz.out x (by rw[←hx];exact List.getElem_mem h1)
  by_cases hxy:x=y
  ·repeat'(first|refine rq fun _=>?_|simp only[go_sem,h1,h2,hx,hy,hxs,eq_true hxy,zaa,Tryz.f32])
   refine⟨⟨i+1,by omega,?_⟩,by simp only;omega,?_⟩
   ·rw[List.take_succ_eq_append_getElem h1,List.take_succ_eq_append_getElem h2,hpi,hx,hy,hxy]
   ·refine zau ?_ ?_ ?_<;>simp only[go_sem]
  ·repeat'(first|refine rq fun _=>?_|simp only[go_sem,h1,h2,hx,hy,hxs,eq_false hxy,zaa,Tryz.f32])
   exact kf.out fun e=>hxy (by subst e;rw[←hx,←hy])
 ·have h1':¬i<a.subs.length:=by omega
  obtain rfl:i=a.subs.length:=by omega
  repeat'(first|refine rq fun _=>?_|simp only[go_sem,Nat.lt_irrefl,h1',Tryz.f32])
  exact kt.out (zsg e1 e2 e3 (zhP hlen hpi))
def N3:Tbl:=N2
attribute [go_sem] N3
def N4:Tbl:=N3
attribute [go_sem] N4
end Go.Proofs.YtmconmiemdinkaaGreatDoor

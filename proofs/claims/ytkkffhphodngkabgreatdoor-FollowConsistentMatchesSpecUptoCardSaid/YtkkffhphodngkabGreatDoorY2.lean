/- several texts of this proof in one; no conditions -/
import Derived.Test.YtkkffhphodngkabGreatDoorAT
import Derived.Test.YtkkffhphodngkabGreatDoorY1
import Derived.Test.YtkkffhphodngkabGreatDoorY6
set_option maxRecDepth 100000
set_option maxHeartbeats 1000000
set_option linter.unusedSimpArgs false
namespace Go.Proofs.YtkkffhphodngkabGreatDoor
open Go Go.Abs Go.Proofs
section
variable {P:Program} {G:Nat→List FD}
theorem zon {k:Nat}(xs:List FD):zrj k (zaf xs)=zaf xs:=by
 rw[ze0]
 conv=>rhs;rw[←List.map_id (zaf xs)]
 refine List.map_congr_left fun d hd=>?_
 obtain⟨x,hx,hd⟩:=List.mem_flatMap.1 hd
 obtain⟨y,_,rfl⟩:=List.mem_map.1 hd
 rfl
theorem zrP {f:FuncId}{args:List D}{xs ys:List FD}{hl:List (Abs.Id×Option O)}{n t len:Nat}{bx vt:Bool}{R:D→zav→Nat→Prop}(ha:D.toFDs args=some xs)
  (h:zaw P G f (xs.map .fz) (hpL []) 0 (fun d H1 n1=>∃g,g<n1∧d= .arr (t,g) 1 0 len∧H1 (t,g)=some ⟨zaf ys,bx,vt⟩))(hR:∀g n',n≤g→g<n'→R (.arr (t,g) 1 0 len) (hpL (((t,g),some ⟨zaf ys,bx,vt⟩)::hl)) n'):zaw P G f args (hpL hl) n R:=by
 rw[←zdV]at h
 refine zc3 h.1 fun hfr=>zaU (zfc ha h) ?_
 rintro d H' n' ⟨d1,H1,n1,⟨g,hg,rfl,ho⟩,rfl,rfl,rfl⟩
 have hsh:shH n (hpL hl) H1 (t,g+n)=some ⟨zaf ys,bx,vt⟩:=by
  unfold shH
  rw[if_pos (by simp),show(t,g+n-n)=(t,g) by rw[Nat.add_sub_cancel],ho]
  simp only[Option.map_some,shO,zon]
 refine⟨.arr (t,g+n) 1 0 len,hpL (((t,g+n),some ⟨zaf ys,bx,vt⟩)::hl),n+n1,zb1 ?_ (fun id o hid=>?_) (Nat.le_refl _),hR (g+n) (n+n1) (by omega) (by omega)⟩
 ·exact⟨rfl,trivial⟩
 ·simp only[hpL]at hid
  split at hid
  ·rename_i e;subst e;rw[←hid];exact hsh
  ·have hlt:id.2<n:=by
    rcases Nat.lt_or_ge id.2 n with h3|h3
    ·exact h3
    ·rw[hfr id h3]at hid;cases hid
   show shH n (hpL hl) H1 id=some o
   unfold shH
   rw[if_neg (by omega)]
   exact hid
end
theorem zqT (k:List (Abs.Id×Option O)):∀l:List (Abs.Id×Option O),hpL (l++k)=hpX l (hpL k)
 |[]=>rfl
 |(i,o)::l=>by funext j;simp only[List.cons_append,hpL,hpX,zqT k l]
def zvW (b:za4)(w:Str):Str:=if w=b.fr then b.to else w
theorem zs6 (env:List za4)(b:za4)(u:List Str):zfA (env++[b]) u=(zfA env u).map (zvW b):=by
 unfold zfA;rw[List.foldl_append];rfl
def zj0 (b:za4)(u:List Str)(i:Nat):List Str:=(u.take i).map (zvW b)++u.drop i
theorem zlx {b:za4}{u:List Str}{i:Nat}:(zj0 b u i).length=u.length:=by
 unfold zj0;rw[List.length_append,List.length_map,List.length_take,List.length_drop];omega
theorem zu5 {b:za4}{u:List Str}:zj0 b u 0=u:=by simp[zj0]
theorem zyf {b:za4}{u:List Str}:zj0 b u u.length=u.map (zvW b):=by simp[zj0]
theorem zyg {b:za4}{u:List Str}{i:Nat}(h:i<u.length):(zaf ((zj0 b u i).map enc)).getD i .junk= .fz (.s u[i].l):=by
 have h2:i<(zj0 b u i).length:=by rw[zlx];exact h
 rw[znt h2]
 have h3:(zj0 b u i)[i]?=some u[i]:=by
  unfold zj0
  rw[List.getElem?_append_right (by rw[List.length_map,List.length_take];omega)]
  simp[List.length_take,Nat.min_eq_left (Nat.le_of_lt h),h]
 rw[(List.getElem?_eq_some_iff.1 h3).2]
 rfl
theorem zu3 {b:za4}{u:List Str}{i:Nat}(h:i<u.length):(zj0 b u i).set i u[i]=zj0 b u i:=by
 have h2:i<(zj0 b u i).length:=by rw[zlx];exact h
 have h3:(zj0 b u i)[i]?=some u[i]:=by
  unfold zj0
  rw[List.getElem?_append_right (by rw[List.length_map,List.length_take];omega)]
  simp[List.length_take,Nat.min_eq_left (Nat.le_of_lt h),h]
 have h4:=(List.getElem?_eq_some_iff.1 h3).2
 rw[←h4]
 exact List.set_getElem_self h2
theorem zu4 {b:za4}{u:List Str}{i:Nat}(h:i<u.length):zj0 b u (i+1)=(zj0 b u i).set i (zvW b u[i]):=by
 unfold zj0
 have hl:((u.take i).map (zvW b)).length=i:=by rw[List.length_map,List.length_take];omega
 rw[List.set_append_right _ _ (by omega),hl,Nat.sub_self,List.take_succ_eq_append_getElem h,List.map_append,List.append_assoc,List.drop_eq_getElem_cons h]
 rfl
theorem zdJ {f:Abs.zac}(h:f.fit=true)(bd:List Str):(cst f bd).length≤1000*f.size:=by
 suffices hh:∀m,(∀(f:Abs.zac) (bd:List Str),f.size≤m→f.fit=true→(cst f bd).length≤1000*f.size)∧(∀(fs:List Abs.zac) (bd:List Str),zac.sizes fs≤m→zac.fits fs=true→(zbN fs bd).length≤1000*zac.sizes fs)from(hh f.size).1 f bd (Nat.le_refl _) h
 intro m
 induction m with
 |zero=>
  refine⟨fun f _ h=>by have:=f.size_pos;omega,fun fs bd h _=>?_⟩
  cases fs with
  |nil=>simp[zbN]
  |cons f fs=>rw[zac.sizes]at h;have:=f.size_pos;omega
 |succ m ih=>
  have h1:∀(f:Abs.zac) (bd:List Str),f.size≤m+1→f.fit=true→(cst f bd).length≤1000*f.size:=by
   rintro⟨k,nm,ws,s⟩ bd hs hf
   rw[zac.size]at hs ⊢
   rw[zac.fit]at hf
   simp only[Bool.and_eq_true,decide_eq_true_eq]at hf
   rw[cst,List.length_append]
   have h2:=ih.2 s (if isQ k then bd++[nm]else bd) (by omega) hf.2
   have h3:=List.length_filter_le (fun w=>decide (w∉bd)) ws
   omega
  refine⟨h1,fun fs=>?_⟩
  induction fs with
  |nil=>intro bd _ _;simp[zbN]
  |cons f fs ih2=>
   intro bd hs hf
   rw[zac.sizes]at hs ⊢
   rw[zac.fits,Bool.and_eq_true]at hf
   rw[zbN,List.length_append]
   have h2:=h1 f bd (by omega) hf.1
   have h3:=ih2 bd (by omega) hf.2
   omega
structure zLR (n:Nat) where
 e:Nat
 m:Nat
 he:e≤n
structure zLT (n m0:Nat) where
 i:Nat
 hi:i≤n
def zif (f:Abs.zac)(env:List za4):Prop:=f.fit=true∧f.size≤1000∧env.length≤1000
def R2:Tbl:=R1.add 109 (sp2 zaC zif)
attribute [go_sem] R2
theorem hR2:zaq Tryz.prog GA R2:=by
 refine zbC zEL hR1 fun f env hpre hw _=>?_
 obtain⟨hfit,hsz,hel⟩:=hpre
 have hcl:=zdJ hfit []
 have hul:=zeF f
 have h167:=f87 hw (by omega) (by omega)
 rw[zaE]at h167
 obtain⟨u,hu⟩:∃u,zaP f=u:=⟨_,rfl⟩
 obtain⟨vt,hvt⟩:∃vt,(cst f []).isEmpty=vt:=⟨_,rfl⟩
 have hvu:u≠[]→vt=false:=fun h=>by
  rw[←hvt]
  cases hc:cst f []with
  |cons=>rfl
  |nil=>rw[hc]at hul;rw[hu]at hul;simp only[List.length_nil,Nat.le_zero]at hul;exact absurd (List.eq_nil_of_length_eq_zero hul) h
 have hvu2:vt=true→u=[]:=fun h=>by
  cases hc:u with
  |nil=>rfl
  |cons a l=>have:=hvu (by rw[hc];simp);rw[this]at h;cases h
 rw[hu,hvt]at h167
 rw[hu]at hul
 refine zae (N:=43) hm hR1 109000 (lst []) zEL Tryz.func109 rfl rfl (by simp) (by kernel_rfl) ?_
 repeat'(first|refine rq fun _=>?_|simp only[go_sem,Tryz.f109])
 refine zak.i (zrP rfl h167 fun g m hg hgm=>?_)
 repeat'(first|refine rq fun _=>?_|simp only[go_sem,Tryz.f109])
 obtain⟨X,hXd⟩:∃X:Nat→List Str,X=fun e=>zfA (env.take e) u:=⟨_,rfl⟩
 have hX0:X 0=u:=by rw[hXd];rfl
 have hXs:∀e (h:e<env.length),X (e+1)=(X e).map (zvW env[e]):=fun e h=>by rw[hXd];simp only[List.take_succ_eq_append_getElem h,zs6]
 have hXl:∀e,(X e).length=u.length:=fun e=>by rw[hXd];exact zof _ _
 have hXe:X env.length=zfA env u:=by rw[hXd];simp only[List.take_length]
 clear hXd
 refine zat hm hR1 109000 (lst []) (ι:=zLR env.length)
  ⟨fun q=>⟨frL [(1,.fz (.sl (env.map enc))),(2,.ptr (109002,0) 0),(4,.ptr (109004,1) 0),(5,.ptr (109005,m) 0),(14,.fz (.sl (env.map enc))),(15,.fz (.i .i64 env.length)),(16,.fz (.i .i64 q.e))],
   hpL [((109002,0),some ⟨[.fz (.i .i64 f.kind),.fz (.s f.name.l),.fz (.sl (f.words.map enc)),.fz (.sl (f.subs.map enc))],true,false⟩),((109004,1),some ⟨[.fz (.i .i64 0),.fz (.s []),.full [],.full []],true,false⟩),
    ((109005,m),some ⟨[.arr (123024,g) 1 0 u.length],true,false⟩),((123024,g),some ⟨zaf ((X q.e).map enc),false,vt⟩)],m+1+q.m⟩,fun q=>env.length-q.e⟩
  ⟨0,0,by omega⟩ (by kernel_rfl) ?_ ?_
 ·refine zaj ?_ ?_ ?_<;>simp only[go_sem,hX0]
 rintro⟨e,q,he⟩
 try simp only at he
 rcases Nat.lt_or_ge e env.length with h1|h1
 ·obtain⟨b,hb⟩:∃b,env[e]=b:=⟨_,rfl⟩
  have hXe1:=hXs e h1
  have hXl1:=hXl e
  rw[hb]at hXe1
  obtain⟨x,hx⟩:∃x,X e=x:=⟨_,rfl⟩
  rw[hx]at hXl1 hXe1
  repeat'(first|refine rq fun _=>?_|simp only[go_sem,h1,hb,hx,zaa,Tryz.f109])
  refine zat hm hR1 109000 (lst []) (ι:=zLT x.length 0)
   ⟨fun p=>⟨frL [(1,.fz (.sl (env.map enc))),(2,.ptr (109002,0) 0),(4,.ptr (109004,1) 0),(5,.ptr (109005,m) 0),(7,.ptr (109007,m+1+q) 0),(14,.fz (.sl (env.map enc))),(15,.fz (.i .i64 env.length)),(16,.fz (.i .i64 e)),
     (20,.arr (123024,g) 1 0 u.length),(21,.fz (.i .i64 u.length)),(22,.fz (.i .i64 p.i))],
    hpL [((109002,0),some ⟨[.fz (.i .i64 f.kind),.fz (.s f.name.l),.fz (.sl (f.words.map enc)),.fz (.sl (f.subs.map enc))],true,false⟩),((109004,1),some ⟨[.fz (.i .i64 0),.fz (.s []),.full [],.full []],true,false⟩),
     ((109005,m),some ⟨[.arr (123024,g) 1 0 u.length],true,false⟩),((109007,m+1+q),some ⟨[.fz (.s b.fr.l),.fz (.s b.to.l)],true,false⟩),
     ((123024,g),some ⟨zaf ((zj0 b x p.i).map enc),false,vt⟩)],m+1+q+1⟩,fun p=>x.length-p.i⟩
   ⟨0,by omega⟩ (by kernel_rfl) ?_ ?_
  ·refine zaj ?_ ?_ ?_<;>simp only[go_sem,zu5]
  rintro⟨i,hi⟩
  try simp only at hi
  rcases Nat.lt_or_ge i x.length with h2|h2
  ·have hv0:vt=false:=hvu (by intro e;rw[e]at hXl1;simp only[List.length_nil]at hXl1;omega)
   have hgt:=zyg (b:=b) h2
   have hi2:i<u.length:=by omega
   obtain⟨w,hw2⟩:∃w,x[i]=w:=⟨_,rfl⟩
   have hsc:=zu4 (b:=b) h2
   rw[hw2]at hgt hsc
   have hhl:=@zlx b x i
   obtain⟨y,hy⟩:∃y,zj0 b x i=y:=⟨_,rfl⟩
   rw[hy]at hgt hsc hhl
   have hst:(zaf (y.map enc)).set i (.fz (.s b.to.l))=zaf ((y.set i b.to).map enc):=zlp (a:=b.to)
   by_cases he2:w.l=b.fr.l
   ·have hr:zvW b w=b.to:=by unfold zvW;rw[if_pos (by cases w;cases b;simp only at he2;simp[he2])]
    rw[hr]at hsc
    repeat'(first|refine rq fun _=>?_|simp only[go_sem,hi2,hy,hgt,he2,hv0,hst,Tryz.f109])
    refine⟨⟨i+1,by omega⟩,by simp only;omega,?_⟩
    refine zaj ?_ ?_ ?_<;>simp only[go_sem,hsc,hv0]
   ·have hr:zvW b w=w:=by unfold zvW;rw[if_neg (fun e=>he2 (by rw[e]))]
    rw[hr]at hsc
    repeat'(first|refine rq fun _=>?_|simp only[go_sem,hi2,hy,hgt,he2,hv0,Tryz.f109])
    have hkp:=zu3 (b:=b) h2
    rw[hw2,hy]at hkp
    rw[hkp]at hsc
    refine⟨⟨i+1,by omega⟩,by simp only;omega,?_⟩
    refine zaj ?_ ?_ ?_<;>simp only[go_sem,hsc,hv0]
  ·obtain rfl:i=x.length:=by omega
   have ha:zj0 b x u.length=x.map (zvW b):=by rw[←hXl1];exact zyf
   repeat'(first|refine rq fun _=>?_|simp only[go_sem,Nat.lt_irrefl,hXl1,Tryz.f109])
   refine⟨⟨e+1,q+1,by omega⟩,by simp only;omega,?_⟩
   refine zaj ?_ ?_ ?_<;>simp only[go_sem,hXe1,hXl1,ha]
   all_goals first|done|omega
 ·obtain rfl:e=env.length:=by omega
  have hrl:=zof env u
  obtain⟨r,hr⟩:∃r,zfA env u=r:=⟨_,rfl⟩
  rw[hr]at hrl hXe
  have h215:=f140 (used:=r) (ga:=m+1+q) (gb:=m) f.size f env 0 (m+1+q+1) (hpL [((109004,1),some ⟨[.fz (.i .i64 0),.fz (.s []),.full [],.full []],true,false⟩)]) (Nat.le_refl _) hw hfit (by omega) (by omega)
   (by
    have h5:(r.length+1)*f.size≤1000001*1000:=Nat.mul_le_mul (by omega) hsz
    omega) (by omega) (fun id o ho=>by
    simp only[hpL]at ho
    split at ho
    ·rename_i e;subst e;simp only;omega
    ·cases ho)
  have hcan:(ren (vg r) f env 0).1=zaC f env:=by unfold zaC;rw[hu,hr]
  rw[hcan]at h215
  obtain⟨c,hc⟩:∃c,zaC f env=c:=⟨_,rfl⟩
  rw[hc]at h215 ⊢
  rw[zaE (f:=f)]at h215
  repeat'(first|refine rq fun _=>?_|simp only[go_sem,Nat.lt_irrefl,hXe,Tryz.f109])
  refine zak.i (zcv rfl (zoQ (args':=[.fz (.agg [.i .i64 f.kind,.s f.name.l,.sl (f.words.map enc),.sl (f.subs.map enc)]),.fz (enc env),.fn 139 [.ptr (109010,m+1+q) 0,.ptr (109005,m) 0]])
   (hl:=HHn 0 r (m+1+q) m++[((109004,1),some ⟨[.fz (.i .i64 0),.fz (.s []),.full [],.full []],true,false⟩)]) (n':=m+1+q+1) [] [] [((123024,g),r.map enc)] rfl ?_ ?_ ?_ ?_ ?_ ?_))
  case _=>omega
  case _=>
   simp only[go_sem]
   intro h
   have h9:=hvu2 h
   rw[h9,List.length_nil]at hrl
   rw[List.eq_nil_of_length_eq_zero hrl]
   rfl
  case _=>simp only[go_sem,HHn];(repeat'(first|omega|rfl|apply And.intro))
  case _=>simp only[go_sem,HHn];(repeat'(first|omega|rfl|apply And.intro))
  case _=>simp only[go_sem];(repeat'(first|omega|rfl|apply And.intro))
  rw[zqT]
  refine zaK h215 ?_
  rintro d' H' n' ⟨rfl,e1,e2,e3⟩
  have b4:=e3 (109004,1) ⟨[.fz (.i .i64 0),.fz (.s []),.full [],.full []],true,false⟩ (by simp only[go_sem])
  rw[show H'=hpX [] H' from rfl]
  repeat'(first|refine rq fun _=>?_|simp only[go_sem,b4,Tryz.f109])
def R3:Tbl:=R2.add 80 (sp3 (fun(f:Abs.zac) (a b:Str)=>zaC f [⟨a,b⟩]) fun f _ _=>f.fit=true∧f.size≤1000)
attribute [go_sem] R3
theorem zuC {a b:List UInt8}:dec (α:=List za4) (.sl [.agg [.s a,.s b]])=[⟨⟨a⟩,⟨b⟩⟩]:=rfl
theorem hR3:zaq Tryz.prog GA R3:=by
 refine zf4 zLn hR2 fun f a b hpre _ _ _=>?_
 have hp:zif f [⟨a,b⟩]:=⟨hpre.1,hpre.2,by simp⟩
 refine zae (N:=13) hm hR2 80000 (lst []) zLn Tryz.func80 rfl rfl (by simp) (by kernel_rfl) ?_
 repeat'(first|refine rq fun _=>?_|refine zaA.i hp fun _=>?_|refine rq fun _=>?_|simp only[go_sem,zad,zuC,Tryz.f80])
def R4:Tbl:=R3.add 67 (sp1 (fun f:Abs.zac=>zaC f []) fun f=>f.fit=true∧f.size≤1000)
attribute [go_sem] R4
theorem hR4:zaq Tryz.prog GA R4:=by
 refine zb3 zLf hR3 fun f hpre _=>?_
 have hp:zif f []:=⟨hpre.1,hpre.2,by simp⟩
 refine zae (N:=5) hm hR3 67000 (lst []) zLf Tryz.func67 rfl rfl (by simp) (by kernel_rfl) ?_
 repeat'(first|refine rq fun _=>?_|refine zaA.i hp fun _=>?_|simp only[go_sem,R3,R2,Tryz.f67])
end Go.Proofs.YtkkffhphodngkabGreatDoor
namespace Go.Proofs.YtkkffhphodngkabGreatDoor
open Go Go.Abs Go.Proofs
section
variable {P:Program} {G:Nat→List FD} {T:Tbl}
end
structure zPu (n0:Nat) where
 n:Nat
 s:List UInt8
 hn:n≤n0
 h:zbv n0=zbv n++s
 hl:s.length≤n0-n
def R5:Tbl:=R4
attribute [go_sem] R5
end Go.Proofs.YtkkffhphodngkabGreatDoor
namespace Go.Proofs.YtkkffhphodngkabGreatDoor
open Go Go.Abs Go.Proofs
def R6:Tbl:=R5
attribute [go_sem] R6
end Go.Proofs.YtkkffhphodngkabGreatDoor
namespace Go.Abs
open Go
def vEq (x d:D):Prop:=x=d∨D.val x=some d
def FrV (fr:Nat→D):List (Nat×D)→Prop
 |[]=>True
 |(k,d)::l=>vEq (fr k) d∧FrV fr l
@[go_sem] theorem zHg {fr:Nat→D}:FrV fr []=True:=rfl
@[go_sem] theorem zFK {fr:Nat→D}{k:Nat}{d:D}{l:List (Nat×D)}:FrV fr ((k,d)::l)=(vEq (fr k) d∧FrV fr l):=rfl
@[go_sem] theorem zHb {d:D}:vEq d d=True:=eq_true (.inl rfl)
@[go_sem] theorem zLJ {id:Abs.Id}{es:Nat}{xs ys:List FD}:vEq (.ow id es xs) (.fz (.sl ys))=(xs=ys):=by
 unfold vEq;rw[zFH];simp
@[go_sem] theorem zHa {xs ys:List FD}:vEq (.full xs) (.fz (.sl ys))=(xs=ys):=by
 unfold vEq;rw[zzo];simp
@[go_sem] theorem zLI {x y:FD}:vEq (.fz x) (.fz y)=(x=y):=by
 unfold vEq;rw[zFG];simp
theorem FrV.get {fr:Nat→D}:∀{l:List (Nat×D)},FrV fr l→∀t,frL l t=fr t∨D.val (fr t)=some (frL l t)∨frL l t= .junk
 |[],_,_=> .inr (.inr rfl)
 |(k,d)::l,h,t=>by
  simp only[frL]
  split
  ·rename_i e;subst e
   rcases h.1 with h1|h1
   ·exact .inl h1.symm
   ·exact .inr (.inl h1)
  ·exact FrV.get h.2 t
end Go.Abs
namespace Go.Abs
open Go
mutual
theorem zxE:∀(f:Abs.zac) (bd l:List Str),f.fit=true→(zwT f bd l).length≤l.length+1000*f.size
 | .mk k nm ws s,bd,l,h=>by
  rw[zac.fit]at h
  simp only[Bool.and_eq_true,decide_eq_true_eq]at h
  rw[zwT,zac.size]
  have h1:=zm0 s (if isQ k then bd++[nm]else bd) (ws.foldl (fun l w=>if w∈bd then l else zvM l w) l) h.2
  have h2:=zi3 bd ws l
  omega
theorem zm0:∀(fs:List Abs.zac) (bd l:List Str),zac.fits fs=true→(ziS fs bd l).length≤l.length+1000*zac.sizes fs
 |[],_,l,_=>by rw[ziS];omega
 |f::fs,bd,l,h=>by
  rw[zac.fits,Bool.and_eq_true]at h
  rw[ziS,zac.sizes]
  have h1:=zxE f bd l h.1
  have h2:=zm0 fs bd (zwT f bd l) h.2
  omega
end
end Go.Abs
namespace Go.Proofs.YtkkffhphodngkabGreatDoor
open Go Go.Abs Go.Proofs
def R7:Tbl:=R6
attribute [go_sem] R7
def R8:Tbl:=R7
attribute [go_sem] R8
end Go.Proofs.YtkkffhphodngkabGreatDoor

/- several texts of this proof in one; no conditions -/
import Derived.Test.YtkkffhphodngkaaGreatDoorAT
import Derived.Test.YtkkffhphodngkaaGreatDoorY1
import Derived.Test.YtkkffhphodngkaaGreatDoorY6
set_option maxRecDepth 100000
set_option maxHeartbeats 1000000
set_option linter.unusedSimpArgs false
namespace Go.Proofs.YtkkffhphodngkaaGreatDoor
open Go Go.Abs Go.Proofs
section
variable {P:Program} {G:Nat→List FD}
theorem znM {k:Nat}(xs:List FD):zqD k (zad xs)=zad xs:=by
 rw[zeK]
 conv=>rhs;rw[←List.map_id (zad xs)]
 refine List.map_congr_left fun d hd=>?_
 obtain⟨x,hx,hd⟩:=List.mem_flatMap.1 hd
 obtain⟨y,_,rfl⟩:=List.mem_map.1 hd
 rfl
theorem zq8 {f:FuncId}{args:List D}{xs ys:List FD}{hl:List (Abs.Id×Option O)}{n t len:Nat}{bx vt:Bool}{R:D→zas→Nat→Prop}(ha:D.toFDs args=some xs)
  (h:zau P G f (xs.map .fz) (hpL []) 0 (fun d H1 n1=>∃g,g<n1∧d= .arr (t,g) 1 0 len∧H1 (t,g)=some ⟨zad ys,bx,vt⟩))(hR:∀g n',n≤g→g<n'→R (.arr (t,g) 1 0 len) (hpL (((t,g),some ⟨zad ys,bx,vt⟩)::hl)) n'):zau P G f args (hpL hl) n R:=by
 rw[←zes]at h
 refine zcQ h.1 fun hfr=>zaU (zeU ha h) ?_
 rintro d H' n' ⟨d1,H1,n1,⟨g,hg,rfl,ho⟩,rfl,rfl,rfl⟩
 have hsh:shH n (hpL hl) H1 (t,g+n)=some ⟨zad ys,bx,vt⟩:=by
  unfold shH
  rw[if_pos (by simp),show(t,g+n-n)=(t,g) by rw[Nat.add_sub_cancel],ho]
  simp only[Option.map_some,shO,znM]
 refine⟨.arr (t,g+n) 1 0 len,hpL (((t,g+n),some ⟨zad ys,bx,vt⟩)::hl),n+n1,zbS ?_ (fun id o hid=>?_) (Nat.le_refl _),hR (g+n) (n+n1) (by omega) (by omega)⟩
 ·exact⟨rfl,trivial⟩
 ·simp only[hpL]at hid
  split at hid
  ·rename_i e;subst e;rw[←hid];exact hsh
  ·have hlt:id.2<n:=by
    rcases Nat.lt_or_ge id.2 n with h3|h3
    ·exact h3
    ·rw[hfr id h3]at hid;cases hid
   show shH n (hpL hl) H1 id=some o
   unfold shH
   rw[if_neg (by omega)]
   exact hid
end
theorem zqc (k:List (Abs.Id×Option O)):∀l:List (Abs.Id×Option O),hpL (l++k)=hpX l (hpL k)
 |[]=>rfl
 |(i,o)::l=>by funext j;simp only[List.cons_append,hpL,hpX,zqc k l]
def zu3 (b:za3)(w:Str):Str:=if w=b.fr then b.to else w
theorem zsj (env:List za3)(b:za3)(u:List Str):zfi (env++[b]) u=(zfi env u).map (zu3 b):=by
 unfold zfi;rw[List.foldl_append];rfl
def zjq (b:za3)(u:List Str)(i:Nat):List Str:=(u.take i).map (zu3 b)++u.drop i
theorem zkZ {b:za3}{u:List Str}{i:Nat}:(zjq b u i).length=u.length:=by
 unfold zjq;rw[List.length_append,List.length_map,List.length_take,List.length_drop];omega
theorem zud {b:za3}{u:List Str}:zjq b u 0=u:=by simp[zjq]
theorem zxc {b:za3}{u:List Str}:zjq b u u.length=u.map (zu3 b):=by simp[zjq]
theorem zxd {b:za3}{u:List Str}{i:Nat}(h:i<u.length):(zad ((zjq b u i).map enc)).getD i .junk= .fz (.s u[i].l):=by
 have h2:i<(zjq b u i).length:=by rw[zkZ];exact h
 rw[zmS h2]
 have h3:(zjq b u i)[i]?=some u[i]:=by
  unfold zjq
  rw[List.getElem?_append_right (by rw[List.length_map,List.length_take];omega)]
  simp[List.length_take,Nat.min_eq_left (Nat.le_of_lt h),h]
 rw[(List.getElem?_eq_some_iff.1 h3).2]
 rfl
theorem zub {b:za3}{u:List Str}{i:Nat}(h:i<u.length):(zjq b u i).set i u[i]=zjq b u i:=by
 have h2:i<(zjq b u i).length:=by rw[zkZ];exact h
 have h3:(zjq b u i)[i]?=some u[i]:=by
  unfold zjq
  rw[List.getElem?_append_right (by rw[List.length_map,List.length_take];omega)]
  simp[List.length_take,Nat.min_eq_left (Nat.le_of_lt h),h]
 have h4:=(List.getElem?_eq_some_iff.1 h3).2
 rw[←h4]
 exact List.set_getElem_self h2
theorem zuc {b:za3}{u:List Str}{i:Nat}(h:i<u.length):zjq b u (i+1)=(zjq b u i).set i (zu3 b u[i]):=by
 unfold zjq
 have hl:((u.take i).map (zu3 b)).length=i:=by rw[List.length_map,List.length_take];omega
 rw[List.set_append_right _ _ (by omega),hl,Nat.sub_self,List.take_succ_eq_append_getElem h,List.map_append,List.append_assoc,List.drop_eq_getElem_cons h]
 rfl
theorem zd0 {f:Abs.zab}(h:f.fit=true)(bd:List Str):(cst f bd).length≤1000*f.size:=by
 suffices hh:∀m,(∀(f:Abs.zab) (bd:List Str),f.size≤m→f.fit=true→(cst f bd).length≤1000*f.size)∧(∀(fs:List Abs.zab) (bd:List Str),zab.sizes fs≤m→zab.fits fs=true→(zbC fs bd).length≤1000*zab.sizes fs)from(hh f.size).1 f bd (Nat.le_refl _) h
 intro m
 induction m with
 |zero=>
  refine⟨fun f _ h=>by have:=f.size_pos;omega,fun fs bd h _=>?_⟩
  cases fs with
  |nil=>simp[zbC]
  |cons f fs=>rw[zab.sizes]at h;have:=f.size_pos;omega
 |succ m ih=>
  have h1:∀(f:Abs.zab) (bd:List Str),f.size≤m+1→f.fit=true→(cst f bd).length≤1000*f.size:=by
   rintro⟨k,nm,ws,s⟩ bd hs hf
   rw[zab.size]at hs ⊢
   rw[zab.fit]at hf
   simp only[Bool.and_eq_true,decide_eq_true_eq]at hf
   rw[cst,List.length_append]
   have h2:=ih.2 s (if isQ k then bd++[nm]else bd) (by omega) hf.2
   have h3:=List.length_filter_le (fun w=>decide (w∉bd)) ws
   omega
  refine⟨h1,fun fs=>?_⟩
  induction fs with
  |nil=>intro bd _ _;simp[zbC]
  |cons f fs ih2=>
   intro bd hs hf
   rw[zab.sizes]at hs ⊢
   rw[zab.fits,Bool.and_eq_true]at hf
   rw[zbC,List.length_append]
   have h2:=h1 f bd (by omega) hf.1
   have h3:=ih2 bd (by omega) hf.2
   omega
structure zKz (n:Nat) where
 e:Nat
 m:Nat
 he:e≤n
structure zKC (n m0:Nat) where
 i:Nat
 hi:i≤n
def zkz (f:Abs.zab)(env:List za3):Prop:=f.fit=true∧f.size≤1000∧env.length≤1000
def R2:Tbl:=R1.add 44 (sp2 zaD zkz)
attribute [go_sem] R2
theorem hR2:zan Tryz.prog GA R2:=by
 refine zcx zJY hR1 fun f env hpre hw _=>?_
 obtain⟨hfit,hsz,hel⟩:=hpre
 have hcl:=zd0 hfit []
 have hul:=zfn f
 have h167:=f48 hw (by omega) (by omega)
 rw[zaI]at h167
 obtain⟨u,hu⟩:∃u,zaP f=u:=⟨_,rfl⟩
 obtain⟨vt,hvt⟩:∃vt,(cst f []).isEmpty=vt:=⟨_,rfl⟩
 have hvu:u≠[]→vt=false:=fun h=>by
  rw[←hvt]
  cases hc:cst f []with
  |cons=>rfl
  |nil=>rw[hc]at hul;rw[hu]at hul;simp only[List.length_nil,Nat.le_zero]at hul;exact absurd (List.eq_nil_of_length_eq_zero hul) h
 have hvu2:vt=true→u=[]:=fun h=>by
  cases hc:u with
  |nil=>rfl
  |cons a l=>have:=hvu (by rw[hc];simp);rw[this]at h;cases h
 rw[hu,hvt]at h167
 rw[hu]at hul
 refine zag (N:=43) hm hR1 44000 (lst []) zJY Tryz.func44 rfl rfl (by simp) (by kernel_rfl) ?_
 repeat'(first|refine rq fun _=>?_|simp only[go_sem,Tryz.f44])
 refine zav.i (zq8 rfl h167 fun g m hg hgm=>?_)
 repeat'(first|refine rq fun _=>?_|simp only[go_sem,Tryz.f44])
 obtain⟨X,hXd⟩:∃X:Nat→List Str,X=fun e=>zfi (env.take e) u:=⟨_,rfl⟩
 have hX0:X 0=u:=by rw[hXd];rfl
 have hXs:∀e (h:e<env.length),X (e+1)=(X e).map (zu3 env[e]):=fun e h=>by rw[hXd];simp only[List.take_succ_eq_append_getElem h,zsj]
 have hXl:∀e,(X e).length=u.length:=fun e=>by rw[hXd];exact znF _ _
 have hXe:X env.length=zfi env u:=by rw[hXd];simp only[List.take_length]
 clear hXd
 refine zaq hm hR1 44000 (lst []) (ι:=zKz env.length)
  ⟨fun q=>⟨frL [(1,.fz (.sl (env.map enc))),(2,.ptr (44002,0) 0),(4,.ptr (44004,1) 0),(5,.ptr (44005,m) 0),(14,.fz (.sl (env.map enc))),(15,.fz (.i .i64 env.length)),(16,.fz (.i .i64 q.e))],
   hpL [((44002,0),some ⟨[.fz (.i .i64 f.kind),.fz (.s f.name.l),.fz (.sl (f.words.map enc)),.fz (.sl (f.subs.map enc))],true,false⟩),((44004,1),some ⟨[.fz (.i .i64 0),.fz (.s []),.full [],.full []],true,false⟩),
    ((44005,m),some ⟨[.arr (72024,g) 1 0 u.length],true,false⟩),((72024,g),some ⟨zad ((X q.e).map enc),false,vt⟩)],m+1+q.m⟩,fun q=>env.length-q.e⟩
  ⟨0,0,by omega⟩ (by kernel_rfl) ?_ ?_
 ·refine zaj ?_ ?_ ?_<;>simp only[go_sem,hX0]
 rintro⟨e,q,he⟩
 try simp only at he
 rcases Nat.lt_or_ge e env.length with h1|h1
 ·obtain⟨b,hb⟩:∃b,env[e]=b:=⟨_,rfl⟩
  have hXe1:=hXs e h1
  have hXl1:=hXl e
  rw[hb]at hXe1
  obtain⟨x,hx⟩:∃x,X e=x:=⟨_,rfl⟩
  rw[hx]at hXl1 hXe1
  repeat'(first|refine rq fun _=>?_|simp only[go_sem,h1,hb,hx,zaa,Tryz.f44])
  refine zaq hm hR1 44000 (lst []) (ι:=zKC x.length 0)
   ⟨fun p=>⟨frL [(1,.fz (.sl (env.map enc))),(2,.ptr (44002,0) 0),(4,.ptr (44004,1) 0),(5,.ptr (44005,m) 0),(7,.ptr (44007,m+1+q) 0),(14,.fz (.sl (env.map enc))),(15,.fz (.i .i64 env.length)),(16,.fz (.i .i64 e)),
     (20,.arr (72024,g) 1 0 u.length),(21,.fz (.i .i64 u.length)),(22,.fz (.i .i64 p.i))],
    hpL [((44002,0),some ⟨[.fz (.i .i64 f.kind),.fz (.s f.name.l),.fz (.sl (f.words.map enc)),.fz (.sl (f.subs.map enc))],true,false⟩),((44004,1),some ⟨[.fz (.i .i64 0),.fz (.s []),.full [],.full []],true,false⟩),
     ((44005,m),some ⟨[.arr (72024,g) 1 0 u.length],true,false⟩),((44007,m+1+q),some ⟨[.fz (.s b.fr.l),.fz (.s b.to.l)],true,false⟩),
     ((72024,g),some ⟨zad ((zjq b x p.i).map enc),false,vt⟩)],m+1+q+1⟩,fun p=>x.length-p.i⟩
   ⟨0,by omega⟩ (by kernel_rfl) ?_ ?_
  ·refine zaj ?_ ?_ ?_<;>simp only[go_sem,zud]
  rintro⟨i,hi⟩
  try simp only at hi
  rcases Nat.lt_or_ge i x.length with h2|h2
  ·have hv0:vt=false:=hvu (by intro e;rw[e]at hXl1;simp only[List.length_nil]at hXl1;omega)
   have hgt:=zxd (b:=b) h2
   have hi2:i<u.length:=by omega
   obtain⟨w,hw2⟩:∃w,x[i]=w:=⟨_,rfl⟩
   have hsc:=zuc (b:=b) h2
   rw[hw2]at hgt hsc
   have hhl:=@zkZ b x i
   obtain⟨y,hy⟩:∃y,zjq b x i=y:=⟨_,rfl⟩
   rw[hy]at hgt hsc hhl
   have hst:(zad (y.map enc)).set i (.fz (.s b.to.l))=zad ((y.set i b.to).map enc):=zkR (a:=b.to)
   by_cases he2:w.l=b.fr.l
   ·have hr:zu3 b w=b.to:=by unfold zu3;rw[if_pos (by cases w;cases b;simp only at he2;simp[he2])]
    rw[hr]at hsc
    repeat'(first|refine rq fun _=>?_|simp only[go_sem,hi2,hy,hgt,he2,hv0,hst,Tryz.f44])
    refine⟨⟨i+1,by omega⟩,by simp only;omega,?_⟩
    refine zaj ?_ ?_ ?_<;>simp only[go_sem,hsc,hv0]
   ·have hr:zu3 b w=w:=by unfold zu3;rw[if_neg (fun e=>he2 (by rw[e]))]
    rw[hr]at hsc
    repeat'(first|refine rq fun _=>?_|simp only[go_sem,hi2,hy,hgt,he2,hv0,Tryz.f44])
    have hkp:=zub (b:=b) h2
    rw[hw2,hy]at hkp
    rw[hkp]at hsc
    refine⟨⟨i+1,by omega⟩,by simp only;omega,?_⟩
    refine zaj ?_ ?_ ?_<;>simp only[go_sem,hsc,hv0]
  ·obtain rfl:i=x.length:=by omega
   have ha:zjq b x u.length=x.map (zu3 b):=by rw[←hXl1];exact zxc
   repeat'(first|refine rq fun _=>?_|simp only[go_sem,Nat.lt_irrefl,hXl1,Tryz.f44])
   refine⟨⟨e+1,q+1,by omega⟩,by simp only;omega,?_⟩
   refine zaj ?_ ?_ ?_<;>simp only[go_sem,hXe1,hXl1,ha]
   all_goals first|done|omega
 ·obtain rfl:e=env.length:=by omega
  have hrl:=znF env u
  obtain⟨r,hr⟩:∃r,zfi env u=r:=⟨_,rfl⟩
  rw[hr]at hrl hXe
  have h215:=f68 (used:=r) (ga:=m+1+q) (gb:=m) f.size f env 0 (m+1+q+1) (hpL [((44004,1),some ⟨[.fz (.i .i64 0),.fz (.s []),.full [],.full []],true,false⟩)]) (Nat.le_refl _) hw hfit (by omega) (by omega)
   (by
    have h5:(r.length+1)*f.size≤1000001*1000:=Nat.mul_le_mul (by omega) hsz
    omega) (by omega) (fun id o ho=>by
    simp only[hpL]at ho
    split at ho
    ·rename_i e;subst e;simp only;omega
    ·cases ho)
  have hcan:(ren (vg r) f env 0).1=zaD f env:=by unfold zaD;rw[hu,hr]
  rw[hcan]at h215
  obtain⟨c,hc⟩:∃c,zaD f env=c:=⟨_,rfl⟩
  rw[hc]at h215 ⊢
  rw[zaI (f:=f)]at h215
  repeat'(first|refine rq fun _=>?_|simp only[go_sem,Nat.lt_irrefl,hXe,Tryz.f44])
  refine zav.i (zdp rfl (zof (args':=[.fz (.agg [.i .i64 f.kind,.s f.name.l,.sl (f.words.map enc),.sl (f.subs.map enc)]),.fz (enc env),.fn 67 [.ptr (44010,m+1+q) 0,.ptr (44005,m) 0]])
   (hl:=HHn 0 r (m+1+q) m++[((44004,1),some ⟨[.fz (.i .i64 0),.fz (.s []),.full [],.full []],true,false⟩)]) (n':=m+1+q+1) [] [] [((72024,g),r.map enc)] rfl ?_ ?_ ?_ ?_ ?_ ?_))
  case _=>omega
  case _=>
   simp only[go_sem]
   intro h
   have h9:=hvu2 h
   rw[h9,List.length_nil]at hrl
   rw[List.eq_nil_of_length_eq_zero hrl]
   rfl
  case _=>simp only[go_sem,HHn];(repeat'(first|omega|rfl|apply And.intro))
  case _=>simp only[go_sem,HHn];(repeat'(first|omega|rfl|apply And.intro))
  case _=>simp only[go_sem];(repeat'(first|omega|rfl|apply And.intro))
  rw[zqc]
  refine zaG h215 ?_
  rintro d' H' n' ⟨rfl,e1,e2,e3⟩
  have b4:=e3 (44004,1) ⟨[.fz (.i .i64 0),.fz (.s []),.full [],.full []],true,false⟩ (by simp only[go_sem])
  rw[show H'=hpX [] H' from rfl]
  repeat'(first|refine rq fun _=>?_|simp only[go_sem,b4,Tryz.f44])
def R3:Tbl:=R2
attribute [go_sem] R3
theorem hR3:zan Tryz.prog GA R3:=hR2
def R4:Tbl:=R3.add 21 (sp1 (fun f:Abs.zab=>zaD f []) fun f=>f.fit=true∧f.size≤1000)
attribute [go_sem] R4
theorem hR4:zan Tryz.prog GA R4:=by
 refine zbE zJI hR3 fun f hpre _=>?_
 have hp:zkz f []:=⟨hpre.1,hpre.2,by simp⟩
 refine zag (N:=5) hm hR3 21000 (lst []) zJI Tryz.func21 rfl rfl (by simp) (by kernel_rfl) ?_
 repeat'(first|refine rq fun _=>?_|refine zaJ.i hp fun _=>?_|simp only[go_sem,R3,R2,Tryz.f21])
end Go.Proofs.YtkkffhphodngkaaGreatDoor
namespace Go.Proofs.YtkkffhphodngkaaGreatDoor
open Go Go.Abs Go.Proofs
section
variable {P:Program} {G:Nat→List FD} {T:Tbl}
theorem zAP {α β γ ρ:Type}[Enc α][Enc β][Enc γ][Enc ρ]{f:FuncId}{g:α→β→γ→ρ}{pre:α→β→γ→Prop}(m:α→Nat)(hc:zam P f)(hT:zan P G T)
  (h:∀n,zan P G (T.add f (sp3 g fun a b c=>m a<n∧pre a b c))→∀a b c,m a=n→pre a b c→(enc a).Wf→(enc b).Wf→(enc c).Wf→zau P G f [.fz (enc a),.fz (enc b),.fz (enc c)] (hpL []) 0 (fun d _ _=>D.val d=some (.fz (enc (g a b c))))):zan P G (T.add f (sp3 g pre)):=by
 have key:∀n,zan P G (T.add f (sp3 g fun a b c=>m a<n∧pre a b c)):=by
  intro n
  induction n with
  |zero=>exact zfk hc hT fun a b c ha=>by omega
  |succ n ih=>
   refine zfk hc hT fun a b c ha hw hw2 hw3=>?_
   rcases Nat.lt_or_ge (m a) n with h1|h1
   ·have h2:=ih f (sp3 g fun a b c=>m a<n∧pre a b c) [enc a,enc b,enc c] _ _ (by simp[Tbl.add]) (zDe) ⟨by rw[dec_enc],by rw[dec_enc],by rw[dec_enc],by rw[dec_enc,dec_enc,dec_enc];exact⟨h1,ha.2⟩⟩
    rw[dec_enc,dec_enc,dec_enc,zes]at h2
    exact h2
   ·exact h n ih a b c (by omega) ha.2 hw hw2 hw3
 exact zfk hc hT fun a b c ha hw hw2 hw3=>h (m a) (key _) a b c rfl ha hw hw2 hw3
end
structure zNw (n0:Nat) where
 n:Nat
 s:List UInt8
 hn:n≤n0
 h:zbr n0=zbr n++s
 hl:s.length≤n0-n
def R5:Tbl:=R4
attribute [go_sem] R5
end Go.Proofs.YtkkffhphodngkaaGreatDoor
namespace Go.Proofs.YtkkffhphodngkaaGreatDoor
open Go Go.Abs Go.Proofs
def twN (l:List Str)(s:Str):Nat:=(l.takeWhile fun x=>decide (x.l<s.l)).length
theorem zgB {x s:Str}{l:List Str}:twN (x::l) s=if x.l<s.l then twN l s+1 else 0:=by
 unfold twN
 by_cases h:x.l<s.l
 ·rw[List.takeWhile_cons_of_pos (by simpa using h),if_pos h,List.length_cons]
 ·rw[List.takeWhile_cons_of_neg (by simpa using h),if_neg h];rfl
theorem zzd (s:Str):∀l:List Str,twN l s≤l.length
 |[]=>Nat.le_refl _
 |x::l=>by
  rw[zgB]
  have:=zzd s l
  split<;>simp only[List.length_cons]<;>omega
theorem zze {s:Str}:∀{l:List Str} {i:Nat} (h:i<l.length),i<twN l s→l[i].l<s.l
 |x::l,0,_,h2=>by
  rw[zgB]at h2
  split at h2
  ·assumption
  ·omega
 |x::l,i+1,h,h2=>by
  rw[zgB]at h2
  split at h2
  ·exact zze (l:=l) (by simpa using h) (by omega)
  ·omega
theorem zzc {s:Str}:∀{l:List Str} {i:Nat} (h:i<l.length),i=twN l s→¬l[i].l<s.l
 |x::l,0,_,h2=>by
  rw[zgB]at h2
  split at h2
  ·omega
  ·assumption
 |x::l,i+1,h,h2=>by
  rw[zgB]at h2
  split at h2
  ·exact zzc (l:=l) (by simpa using h) (by omega)
  ·omega
theorem zeY:∀x y:List UInt8,Op.bytesLess x y=decide (x<y)
 |[],[]=>by simp[Op.bytesLess]
 |_::_,[]=>by simp[Op.bytesLess]
 |[],_::_=>by simp[Op.bytesLess]
 |a::x,b::y=>by
  rw[Op.bytesLess,zeY x y]
  by_cases h1:a<b<;>by_cases h2:a=b<;>simp[h1,h2,List.cons_lt_cons_iff]
theorem zzF {α:Type}[Enc α]{l:List α}{i:Nat}:zb5 (l.map enc) (i:Int) (l.length:Int)=(l.drop i).map enc:=by
 have h:=@zCr (l.map enc) i
 rw[List.length_map]at h;rw[h,List.map_drop]
def R6:Tbl:=R5.add 37 (sp2 zka fun l _=>l.length≤1000000)
attribute [go_sem] R6
end Go.Proofs.YtkkffhphodngkaaGreatDoor
namespace Go.Abs
open Go
def vEq (x d:D):Prop:=x=d∨D.val x=some d
def FrV (fr:Nat→D):List (Nat×D)→Prop
 |[]=>True
 |(k,d)::l=>vEq (fr k) d∧FrV fr l
@[go_sem] theorem zFP {fr:Nat→D}:FrV fr []=True:=rfl
@[go_sem] theorem zEo {fr:Nat→D}{k:Nat}{d:D}{l:List (Nat×D)}:FrV fr ((k,d)::l)=(vEq (fr k) d∧FrV fr l):=rfl
@[go_sem] theorem zFK {d:D}:vEq d d=True:=eq_true (.inl rfl)
@[go_sem] theorem zKr {id:Abs.Id}{es:Nat}{xs ys:List FD}:vEq (.ow id es xs) (.fz (.sl ys))=(xs=ys):=by
 unfold vEq;rw[zEk];simp
@[go_sem] theorem zFJ {xs ys:List FD}:vEq (.full xs) (.fz (.sl ys))=(xs=ys):=by
 unfold vEq;rw[zyi];simp
@[go_sem] theorem zKq {x y:FD}:vEq (.fz x) (.fz y)=(x=y):=by
 unfold vEq;rw[zEj];simp
theorem FrV.get {fr:Nat→D}:∀{l:List (Nat×D)},FrV fr l→∀t,frL l t=fr t∨D.val (fr t)=some (frL l t)∨frL l t= .junk
 |[],_,_=> .inr (.inr rfl)
 |(k,d)::l,h,t=>by
  simp only[frL]
  split
  ·rename_i e;subst e
   rcases h.1 with h1|h1
   ·exact .inl h1.symm
   ·exact .inr (.inl h1)
  ·exact FrV.get h.2 t
theorem zwd {G:Nat→List FD}{N:Nat}{st:St}{l:List (Nat×D)}(hf:FrV st.fr l):zeQ G N st ⟨frL l,st.H,st.n⟩:=by
 intro a w L F hr
 refine⟨L,F,⟨hr.ok,hr.size,fun t=>?_,hr.nd⟩,zbt.refl _ _ _ _ _⟩
 have:=hr.fr t
 simp only
 rcases hf.get t with e|e|e
 ·rw[e];exact this
 ·exact this.val e
 ·rw[e];exact trivial
end Go.Abs
namespace Go.Abs
open Go
theorem zzD {f:Abs.zab}{bd l:List Str}:zjg f bd l=zdM f.subs (if isQ f.kind then bd++[f.name]else bd) (f.words.foldl (fun l w=>if w∈bd then l else zka l w) l):=by cases f;rw[zjg];rfl
mutual
theorem zwz:∀(f:Abs.zab) (bd l:List Str),f.fit=true→(zjg f bd l).length≤l.length+1000*f.size
 | .mk k nm ws s,bd,l,h=>by
  rw[zab.fit]at h
  simp only[Bool.and_eq_true,decide_eq_true_eq]at h
  rw[zjg,zab.size]
  have h1:=zil s (if isQ k then bd++[nm]else bd) (ws.foldl (fun l w=>if w∈bd then l else zka l w) l) h.2
  have h2:=zgi bd ws l
  omega
theorem zil:∀(fs:List Abs.zab) (bd l:List Str),zab.fits fs=true→(zdM fs bd l).length≤l.length+1000*zab.sizes fs
 |[],_,l,_=>by rw[zdM];omega
 |f::fs,bd,l,h=>by
  rw[zab.fits,Bool.and_eq_true]at h
  rw[zdM,zab.sizes]
  have h1:=zwz f bd l h.1
  have h2:=zil fs bd (zjg f bd l) h.2
  omega
end
theorem zmR:∀{fs:List Abs.zab} (j:Nat),zab.fits fs=true→zab.fits (fs.take j)=true
 |[],j,_=>by rw[List.take_nil,zab.fits]
 |f::fs,0,_=>by rw[List.take_zero,zab.fits]
 |f::fs,j+1,h=>by
  rw[zab.fits,Bool.and_eq_true]at h
  rw[List.take_succ_cons,zab.fits,Bool.and_eq_true]
  exact⟨h.1,zmR j h.2⟩
end Go.Abs
namespace Go.Proofs.YtkkffhphodngkaaGreatDoor
open Go Go.Abs Go.Proofs
def zvs:Tv:=(.q 0 (.q 1 (.q 3 (.r 4 (.q 5 (.br [(2,(.br [(6,(.q 7 .leaf))]))]))))))
def zpU (f:Abs.zab)(bd l:List Str):Prop:=f.fit=true∧bd.length+f.size≤2000∧l.length+1000*f.size≤1000000
def R7:Tbl:=R6.add 16 (sp3 zjg zpU)
attribute [go_sem] R7
def R8:Tbl:=R7.add 10 (sp1 (fun f=>zjg f [] []) fun f=>f.fit=true∧f.size≤1000)
attribute [go_sem] R8
end Go.Proofs.YtkkffhphodngkaaGreatDoor

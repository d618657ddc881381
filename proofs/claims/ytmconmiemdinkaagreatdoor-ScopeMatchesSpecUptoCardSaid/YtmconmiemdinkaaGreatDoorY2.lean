/- several texts of this proof in one; no conditions -/
import Derived.Test.YtmconmiemdinkaaGreatDoorAT
import Derived.Test.YtmconmiemdinkaaGreatDoorY1
import Derived.Test.YtmconmiemdinkaaGreatDoorY6
import Derived.Test.YtmconmiemdinkaaGreatDoorY19
import Derived.Test.YtmconmiemdinkaaGreatDoorY18
set_option maxRecDepth 100000
set_option maxHeartbeats 1000000
set_option linter.unusedSimpArgs false
namespace Go.Proofs.YtmconmiemdinkaaGreatDoor
open Go Go.Abs Go.Proofs
section
variable {P:Program} {G:Nat→List FD}
theorem zuj {k:Nat}(xs:List FD):zrL k (zaf xs)=zaf xs:=by
 rw[zfp]
 conv=>rhs;rw[←List.map_id (zaf xs)]
 refine List.map_congr_left fun d hd=>?_
 obtain⟨x,hx,hd⟩:=List.mem_flatMap.1 hd
 obtain⟨y,_,rfl⟩:=List.mem_map.1 hd
 rfl
theorem zqy {f:FuncId}{args:List D}{xs ys:List FD}{hl:List (Abs.Id×Option O)}{n t len:Nat}{bx vt:Bool}{R:D→zax→Nat→Prop}(ha:D.toFDs args=some xs)
  (h:zaH P G f (xs.map .fz) (hpL []) 0 (fun d H1 n1=>∃g,g<n1∧d= .arr (t,g) 1 0 len∧H1 (t,g)=some ⟨zaf ys,bx,vt⟩))(hR:∀g n',n≤g→g<n'→R (.arr (t,g) 1 0 len) (hpL (((t,g),some ⟨zaf ys,bx,vt⟩)::hl)) n'):zaH P G f args (hpL hl) n R:=by
 rw[←zfD]at h
 refine zfE h.1 fun hfr=>zb1 (zlZ ha h) ?_
 rintro d H' n' ⟨d1,H1,n1,⟨g,hg,rfl,ho⟩,rfl,rfl,rfl⟩
 have hsh:shH n (hpL hl) H1 (t,g+n)=some ⟨zaf ys,bx,vt⟩:=by
  unfold shH
  rw[if_pos (by simp),show(t,g+n-n)=(t,g) by rw[Nat.add_sub_cancel],ho]
  simp only[Option.map_some,shO,zuj]
 refine⟨.arr (t,g+n) 1 0 len,hpL (((t,g+n),some ⟨zaf ys,bx,vt⟩)::hl),n+n1,zff ?_ (fun id o hid=>?_) (Nat.le_refl _),hR (g+n) (n+n1) (by omega) (by omega)⟩
 ·exact⟨rfl,trivial⟩
 ·simp only[hpL]at hid
  split at hid
  ·rename_i e;subst e;rw[←hid];exact hsh
  ·have hlt:id.2<n:=by
    rcases Nat.lt_or_ge id.2 n with h3|h3
    ·exact h3
    ·rw[hfr id h3]at hid;cases hid
   show shH n (hpL hl) H1 id=some o
   unfold shH
   rw[if_neg (by omega)]
   exact hid
end
theorem zpJ (k:List (Abs.Id×Option O)):∀l:List (Abs.Id×Option O),hpL (l++k)=hpX l (hpL k)
 |[]=>rfl
 |(i,o)::l=>by funext j;simp only[List.cons_append,hpL,hpX,zpJ k l]
def zuc (b:zbg)(w:Str):Str:=if w=b.fr then b.to else w
theorem zrF (env:List zbg)(b:zbg)(u:List Str):zg3 (env++[b]) u=(zg3 env u).map (zuc b):=by
 unfold zg3;rw[List.foldl_append];rfl
def zjt (b:zbg)(u:List Str)(i:Nat):List Str:=(u.take i).map (zuc b)++u.drop i
theorem zk8 {b:zbg}{u:List Str}{i:Nat}:(zjt b u i).length=u.length:=by
 unfold zjt;rw[List.length_append,List.length_map,List.length_take,List.length_drop];omega
theorem zto {b:zbg}{u:List Str}:zjt b u 0=u:=by simp[zjt]
theorem zwa {b:zbg}{u:List Str}:zjt b u u.length=u.map (zuc b):=by simp[zjt]
theorem zwb {b:zbg}{u:List Str}{i:Nat}(h:i<u.length):(zaf ((zjt b u i).map enc)).getD i .junk= .fz (.s u[i].l):=by
 have h2:i<(zjt b u i).length:=by rw[zk8];exact h
 rw[zmF h2]
 have h3:(zjt b u i)[i]?=some u[i]:=by
  unfold zjt
  rw[List.getElem?_append_right (by rw[List.length_map,List.length_take];omega)]
  simp[List.length_take,Nat.min_eq_left (Nat.le_of_lt h),h]
 rw[(List.getElem?_eq_some_iff.1 h3).2]
 rfl
theorem ztm {b:zbg}{u:List Str}{i:Nat}(h:i<u.length):(zjt b u i).set i u[i]=zjt b u i:=by
 have h2:i<(zjt b u i).length:=by rw[zk8];exact h
 have h3:(zjt b u i)[i]?=some u[i]:=by
  unfold zjt
  rw[List.getElem?_append_right (by rw[List.length_map,List.length_take];omega)]
  simp[List.length_take,Nat.min_eq_left (Nat.le_of_lt h),h]
 have h4:=(List.getElem?_eq_some_iff.1 h3).2
 rw[←h4]
 exact List.set_getElem_self h2
theorem ztn {b:zbg}{u:List Str}{i:Nat}(h:i<u.length):zjt b u (i+1)=(zjt b u i).set i (zuc b u[i]):=by
 unfold zjt
 have hl:((u.take i).map (zuc b)).length=i:=by rw[List.length_map,List.length_take];omega
 rw[List.set_append_right _ _ (by omega),hl,Nat.sub_self,List.take_succ_eq_append_getElem h,List.map_append,List.append_assoc,List.drop_eq_getElem_cons h]
 rfl
theorem zin {f:Abs.zac}(h:f.fit=true)(bd:List Str):(cst f bd).length≤1000*f.size:=by
 suffices hh:∀m,(∀(f:Abs.zac) (bd:List Str),f.size≤m→f.fit=true→(cst f bd).length≤1000*f.size)∧(∀(fs:List Abs.zac) (bd:List Str),zac.sizes fs≤m→zac.fits fs=true→(zb9 fs bd).length≤1000*zac.sizes fs)from(hh f.size).1 f bd (Nat.le_refl _) h
 intro m
 induction m with
 |zero=>
  refine⟨fun f _ h=>by have:=f.size_pos;omega,fun fs bd h _=>?_⟩
  cases fs with
  |nil=>simp[zb9]
  |cons f fs=>rw[zac.sizes]at h;have:=f.size_pos;omega
 |succ m ih=>
  have h1:∀(f:Abs.zac) (bd:List Str),f.size≤m+1→f.fit=true→(cst f bd).length≤1000*f.size:=by
   rintro⟨k,nm,ws,s⟩ bd hs hf
   rw[zac.size]at hs ⊢
   rw[zac.fit]at hf
   simp only[Bool.and_eq_true,decide_eq_true_eq]at hf
   rw[cst,List.length_append]
   have h2:=ih.2 s (if isQ k then bd++[nm]else bd) (by omega) hf.2
   have h3:=List.length_filter_le (fun w=>decide (w∉bd)) ws
   omega
  refine⟨h1,fun fs=>?_⟩
  induction fs with
  |nil=>intro bd _ _;simp[zb9]
  |cons f fs ih2=>
   intro bd hs hf
   rw[zac.sizes]at hs ⊢
   rw[zac.fits,Bool.and_eq_true]at hf
   rw[zb9,List.length_append]
   have h2:=h1 f bd (by omega) hf.1
   have h3:=ih2 bd (by omega) hf.2
   omega
structure zJe (n:Nat) where
 e:Nat
 m:Nat
 he:e≤n
structure zJg (n m0:Nat) where
 i:Nat
 hi:i≤n
def zpl (f:Abs.zac)(env:List zbg):Prop:=f.fit=true∧f.size≤1000∧env.length≤1000
def R2:Tbl:=R1.add 60 (sp2 zaN zpl)
attribute [go_sem] R2
theorem hR2:zan Tryz.prog GA R2:=by
 refine zbI zID hR1 fun f env hpre hw _=>?_
 obtain⟨hfit,hsz,hel⟩:=hpre
 have hcl:=zin hfit []
 have hul:=znQ f
 have h167:=f49 hw (by omega) (by omega)
 rw[zaz]at h167
 obtain⟨u,hu⟩:∃u,zcy f=u:=⟨_,rfl⟩
 obtain⟨vt,hvt⟩:∃vt,(cst f []).isEmpty=vt:=⟨_,rfl⟩
 have hvu:u≠[]→vt=false:=fun h=>by
  rw[←hvt]
  cases hc:cst f []with
  |cons=>rfl
  |nil=>rw[hc]at hul;rw[hu]at hul;simp only[List.length_nil,Nat.le_zero]at hul;exact absurd (List.eq_nil_of_length_eq_zero hul) h
 have hvu2:vt=true→u=[]:=fun h=>by
  cases hc:u with
  |nil=>rfl
  |cons a l=>have:=hvu (by rw[hc];simp);rw[this]at h;cases h
 rw[hu,hvt]at h167
 rw[hu]at hul
 refine zaj (N:=43) hm hR1 60000 (lst []) zID Tryz.func60 rfl rfl (by simp) (by kernel_rfl) ?_
 repeat'(first|refine rq fun _=>?_|simp only[go_sem,Tryz.f60])
 refine zaQ.i (zqy rfl h167 fun g m hg hgm=>?_)
 repeat'(first|refine rq fun _=>?_|simp only[go_sem,Tryz.f60])
 obtain⟨X,hXd⟩:∃X:Nat→List Str,X=fun e=>zg3 (env.take e) u:=⟨_,rfl⟩
 have hX0:X 0=u:=by rw[hXd];rfl
 have hXs:∀e (h:e<env.length),X (e+1)=(X e).map (zuc env[e]):=fun e h=>by rw[hXd];simp only[List.take_succ_eq_append_getElem h,zrF]
 have hXl:∀e,(X e).length=u.length:=fun e=>by rw[hXd];exact znq _ _
 have hXe:X env.length=zg3 env u:=by rw[hXd];simp only[List.take_length]
 clear hXd
 refine zam hm hR1 60000 (lst []) (ι:=zJe env.length)
  ⟨fun q=>⟨frL [(1,.fz (.sl (env.map enc))),(2,.ptr (60002,0) 0),(4,.ptr (60004,1) 0),(5,.ptr (60005,m) 0),(14,.fz (.sl (env.map enc))),(15,.fz (.i .i64 env.length)),(16,.fz (.i .i64 q.e))],
   hpL [((60002,0),some ⟨[.fz (.i .i64 f.kind),.fz (.s f.name.l),.fz (.sl (f.words.map enc)),.fz (.sl (f.subs.map enc))],true,false⟩),((60004,1),some ⟨[.fz (.i .i64 0),.fz (.s []),.full [],.full []],true,false⟩),
    ((60005,m),some ⟨[.arr (77024,g) 1 0 u.length],true,false⟩),((77024,g),some ⟨zaf ((X q.e).map enc),false,vt⟩)],m+1+q.m⟩,fun q=>env.length-q.e⟩
  ⟨0,0,by omega⟩ (by kernel_rfl) ?_ ?_
 ·refine zah ?_ ?_ ?_<;>simp only[go_sem,hX0]
 rintro⟨e,q,he⟩
 try simp only at he
 rcases Nat.lt_or_ge e env.length with h1|h1
 ·obtain⟨b,hb⟩:∃b,env[e]=b:=⟨_,rfl⟩
  have hXe1:=hXs e h1
  have hXl1:=hXl e
  rw[hb]at hXe1
  obtain⟨x,hx⟩:∃x,X e=x:=⟨_,rfl⟩
  rw[hx]at hXl1 hXe1
  repeat'(first|refine rq fun _=>?_|simp only[go_sem,h1,hb,hx,zaa,Tryz.f60])
  refine zam hm hR1 60000 (lst []) (ι:=zJg x.length 0)
   ⟨fun p=>⟨frL [(1,.fz (.sl (env.map enc))),(2,.ptr (60002,0) 0),(4,.ptr (60004,1) 0),(5,.ptr (60005,m) 0),(7,.ptr (60007,m+1+q) 0),(14,.fz (.sl (env.map enc))),(15,.fz (.i .i64 env.length)),(16,.fz (.i .i64 e)),
     (20,.arr (77024,g) 1 0 u.length),(21,.fz (.i .i64 u.length)),(22,.fz (.i .i64 p.i))],
    hpL [((60002,0),some ⟨[.fz (.i .i64 f.kind),.fz (.s f.name.l),.fz (.sl (f.words.map enc)),.fz (.sl (f.subs.map enc))],true,false⟩),((60004,1),some ⟨[.fz (.i .i64 0),.fz (.s []),.full [],.full []],true,false⟩),
     ((60005,m),some ⟨[.arr (77024,g) 1 0 u.length],true,false⟩),((60007,m+1+q),some ⟨[.fz (.s b.fr.l),.fz (.s b.to.l)],true,false⟩),
     ((77024,g),some ⟨zaf ((zjt b x p.i).map enc),false,vt⟩)],m+1+q+1⟩,fun p=>x.length-p.i⟩
   ⟨0,by omega⟩ (by kernel_rfl) ?_ ?_
  ·refine zah ?_ ?_ ?_<;>simp only[go_sem,zto]
  rintro⟨i,hi⟩
  try simp only at hi
  rcases Nat.lt_or_ge i x.length with h2|h2
  ·have hv0:vt=false:=hvu (by intro e;rw[e]at hXl1;simp only[List.length_nil]at hXl1;omega)
   have hgt:=zwb (b:=b) h2
   have hi2:i<u.length:=by omega
   obtain⟨w,hw2⟩:∃w,x[i]=w:=⟨_,rfl⟩
   have hsc:=ztn (b:=b) h2
   rw[hw2]at hgt hsc
   have hhl:=@zk8 b x i
   obtain⟨y,hy⟩:∃y,zjt b x i=y:=⟨_,rfl⟩
   rw[hy]at hgt hsc hhl
   have hst:(zaf (y.map enc)).set i (.fz (.s b.to.l))=zaf ((y.set i b.to).map enc):=zhV (a:=b.to)
   by_cases he2:w.l=b.fr.l
   ·have hr:zuc b w=b.to:=by unfold zuc;rw[if_pos (by cases w;cases b;simp only at he2;simp[he2])]
    rw[hr]at hsc
    repeat'(first|refine rq fun _=>?_|simp only[go_sem,hi2,hy,hgt,he2,hv0,hst,Tryz.f60])
    refine⟨⟨i+1,by omega⟩,by simp only;omega,?_⟩
    refine zah ?_ ?_ ?_<;>simp only[go_sem,hsc,hv0]
   ·have hr:zuc b w=w:=by unfold zuc;rw[if_neg (fun e=>he2 (by rw[e]))]
    rw[hr]at hsc
    repeat'(first|refine rq fun _=>?_|simp only[go_sem,hi2,hy,hgt,he2,hv0,Tryz.f60])
    have hkp:=ztm (b:=b) h2
    rw[hw2,hy]at hkp
    rw[hkp]at hsc
    refine⟨⟨i+1,by omega⟩,by simp only;omega,?_⟩
    refine zah ?_ ?_ ?_<;>simp only[go_sem,hsc,hv0]
  ·obtain rfl:i=x.length:=by omega
   have ha:zjt b x u.length=x.map (zuc b):=by rw[←hXl1];exact zwa
   repeat'(first|refine rq fun _=>?_|simp only[go_sem,Nat.lt_irrefl,hXl1,Tryz.f60])
   refine⟨⟨e+1,q+1,by omega⟩,by simp only;omega,?_⟩
   refine zah ?_ ?_ ?_<;>simp only[go_sem,hXe1,hXl1,ha]
   all_goals first|done|omega
 ·obtain rfl:e=env.length:=by omega
  have hrl:=znq env u
  obtain⟨r,hr⟩:∃r,zg3 env u=r:=⟨_,rfl⟩
  rw[hr]at hrl hXe
  have h215:=f85 (used:=r) (ga:=m+1+q) (gb:=m) f.size f env 0 (m+1+q+1) (hpL [((60004,1),some ⟨[.fz (.i .i64 0),.fz (.s []),.full [],.full []],true,false⟩)]) (Nat.le_refl _) hw hfit (by omega) (by omega)
   (by
    have h5:(r.length+1)*f.size≤1000001*1000:=Nat.mul_le_mul (by omega) hsz
    omega) (by omega) (fun id o ho=>by
    simp only[hpL]at ho
    split at ho
    ·rename_i e;subst e;simp only;omega
    ·cases ho)
  have hcan:(ren (vg r) f env 0).1=zaN f env:=by unfold zaN;rw[hu,hr]
  rw[hcan]at h215
  obtain⟨c,hc⟩:∃c,zaN f env=c:=⟨_,rfl⟩
  rw[hc]at h215 ⊢
  rw[zaz (f:=f)]at h215
  repeat'(first|refine rq fun _=>?_|simp only[go_sem,Nat.lt_irrefl,hXe,Tryz.f60])
  refine zaQ.i (zdF rfl (zky (args':=[.fz (.agg [.i .i64 f.kind,.s f.name.l,.sl (f.words.map enc),.sl (f.subs.map enc)]),.fz (enc env),.fn 84 [.ptr (60010,m+1+q) 0,.ptr (60005,m) 0]])
   (hl:=HHn 0 r (m+1+q) m++[((60004,1),some ⟨[.fz (.i .i64 0),.fz (.s []),.full [],.full []],true,false⟩)]) (n':=m+1+q+1) [] [] [((77024,g),r.map enc)] rfl ?_ ?_ ?_ ?_ ?_ ?_))
  case _=>omega
  case _=>
   simp only[go_sem]
   intro h
   have h9:=hvu2 h
   rw[h9,List.length_nil]at hrl
   rw[List.eq_nil_of_length_eq_zero hrl]
   rfl
  case _=>simp only[go_sem,HHn];(repeat'(first|omega|rfl|apply And.intro))
  case _=>simp only[go_sem,HHn];(repeat'(first|omega|rfl|apply And.intro))
  case _=>simp only[go_sem];(repeat'(first|omega|rfl|apply And.intro))
  rw[zpJ]
  refine zaL h215 ?_
  rintro d' H' n' ⟨rfl,e1,e2,e3⟩
  have b4:=e3 (60004,1) ⟨[.fz (.i .i64 0),.fz (.s []),.full [],.full []],true,false⟩ (by simp only[go_sem])
  rw[show H'=hpX [] H' from rfl]
  repeat'(first|refine rq fun _=>?_|simp only[go_sem,b4,Tryz.f60])
def R3:Tbl:=R2
attribute [go_sem] R3
theorem hR3:zan Tryz.prog GA R3:=hR2
def R4:Tbl:=R3.add 26 (sp1 (fun f:Abs.zac=>zaN f []) fun f=>f.fit=true∧f.size≤1000)
attribute [go_sem] R4
theorem hR4:zan Tryz.prog GA R4:=by
 refine zbR zIi hR3 fun f hpre _=>?_
 have hp:zpl f []:=⟨hpre.1,hpre.2,by simp⟩
 refine zaj (N:=5) hm hR3 26000 (lst []) zIi Tryz.func26 rfl rfl (by simp) (by kernel_rfl) ?_
 repeat'(first|refine rq fun _=>?_|refine zaq.i hp fun _=>?_|simp only[go_sem,R3,R2,Tryz.f26])
end Go.Proofs.YtmconmiemdinkaaGreatDoor
namespace Go.Proofs.YtmconmiemdinkaaGreatDoor
open Go Go.Abs Go.Proofs
section
variable {P:Program} {G:Nat→List FD} {T:Tbl}
theorem zoW {α β γ ρ:Type}[Enc α][Enc β][Enc γ][Enc ρ]{f:FuncId}{g:α→β→γ→ρ}{pre:α→β→γ→Prop}(m:α→Nat)(hc:zap P f)(hT:zan P G T)
  (h:∀n,zan P G (T.add f (sp3 g fun a b c=>m a<n∧pre a b c))→∀a b c,m a=n→pre a b c→(enc a).Wf→(enc b).Wf→(enc c).Wf→zaH P G f [.fz (enc a),.fz (enc b),.fz (enc c)] (hpL []) 0 (fun d _ _=>D.val d=some (.fz (enc (g a b c))))):zan P G (T.add f (sp3 g pre)):=by
 have key:∀n,zan P G (T.add f (sp3 g fun a b c=>m a<n∧pre a b c)):=by
  intro n
  induction n with
  |zero=>exact zgx hc hT fun a b c ha=>by omega
  |succ n ih=>
   refine zgx hc hT fun a b c ha hw hw2 hw3=>?_
   rcases Nat.lt_or_ge (m a) n with h1|h1
   ·have h2:=ih f (sp3 g fun a b c=>m a<n∧pre a b c) [enc a,enc b,enc c] _ _ (by simp[Tbl.add]) (zCj) ⟨by rw[dec_enc],by rw[dec_enc],by rw[dec_enc],by rw[dec_enc,dec_enc,dec_enc];exact⟨h1,ha.2⟩⟩
    rw[dec_enc,dec_enc,dec_enc,zfD]at h2
    exact h2
   ·exact h n ih a b c (by omega) ha.2 hw hw2 hw3
 exact zgx hc hT fun a b c ha hw hw2 hw3=>h (m a) (key _) a b c rfl ha hw hw2 hw3
end
theorem zBK {n:Int}(h1:0≤n)(h2:n≤255):inK .u8 n:=⟨h1,h2⟩
def zE9 (n:Int):Str:=⟨zbb n.toNat⟩
theorem zmo {n:Nat}(h:n<10):zbb n=[UInt8.ofNat (48+n)]:=by unfold zbb;rw[Lib.decDigits,dif_pos h]
theorem zqU {n:Nat}(h:¬n<10):zbb n=zbb (n / 10)++[UInt8.ofNat (48+n % 10)]:=by unfold zbb;rw[Lib.decDigits,dif_neg h]
structure zJc (n0:Nat) where
 n:Nat
 s:List UInt8
 hn:n≤n0
 h:zbb n0=zbb n++s
 hl:s.length≤n0-n
def R5:Tbl:=R4.add 102 (sp1 zE9 fun n=>0≤n∧n≤1000000000000)
attribute [go_sem] R5
theorem hR5:zan Tryz.prog GA R5:=by
 refine zbR zCM hR4 fun n0 hn0 _=>?_
 obtain⟨k,rfl⟩:∃k:Nat,n0=(k:Int):=⟨n0.toNat,by omega⟩
 have hd:enc (zE9 (k:Int))= .s (zbb k):=rfl
 rw[hd]
 refine zaj (N:=17) hm hR4 102000 (lst []) zCM Tryz.func102 rfl rfl (by simp) (by kernel_rfl) ?_
 repeat'(first|refine rq fun _=>?_|simp only[go_sem,Tryz.f102])
 refine zam hm hR4 102000 (lst []) (ι:=zJc k)
  ⟨fun q=>⟨frL [(0,.fz (.i .i64 q.n)),(3,.fz (.s q.s))],hpL [],0⟩,fun q=>q.n⟩
  ⟨k,[],Nat.le_refl _,by simp,by simp⟩ (by kernel_rfl) ?_ ?_
 ·refine zah ?_ ?_ ?_<;>simp only[go_sem]
 rintro⟨n,s,hn,h,hl⟩
 try simp only at hn h hl
 have hk:=hn0.2
 have hb:UInt8.ofNat (48+(n:Int) % 10).toNat=UInt8.ofNat (48+n % 10):=by congr 1
 have hdv:(n:Int) / 10=((n / 10:Nat):Int):=by omega
 by_cases h10:n<10
 ·have h0:(n:Int) / 10=0:=by omega
  have hmod:n % 10=n:=Nat.mod_eq_of_lt h10
  rw[zmo h10]at h
  repeat'(first|refine rq fun _=>?_|refine zaq.i (zBK (by omega) (by omega)) fun _=>?_|simp only[go_sem,hb,h0,hmod,h,List.cons_append,List.nil_append,List.singleton_append,Tryz.f102])
 ·have h0:¬(n:Int) / 10=0:=by omega
  rw[zqU h10]at h
  repeat'(first|refine rq fun _=>?_|refine zaq.i (zBK (by omega) (by omega)) fun _=>?_|simp only[go_sem,hb,h0,Tryz.f102])
  refine⟨⟨n / 10,UInt8.ofNat (48+n % 10)::s,by omega,by(rw[h,List.append_assoc];try rfl),(by simp only[List.length_cons];omega)⟩,by first|omega|(simp only;omega),?_⟩
  refine zah ?_ ?_ ?_<;>simp only[go_sem,hb,hdv]
end Go.Proofs.YtmconmiemdinkaaGreatDoor
namespace Go.Proofs.YtmconmiemdinkaaGreatDoor
open Go Go.Abs Go.Proofs
def twN (l:List Str)(s:Str):Nat:=(l.takeWhile fun x=>decide (x.l<s.l)).length
theorem zgD {x s:Str}{l:List Str}:twN (x::l) s=if x.l<s.l then twN l s+1 else 0:=by
 unfold twN
 by_cases h:x.l<s.l
 ·rw[List.takeWhile_cons_of_pos (by simpa using h),if_pos h,List.length_cons]
 ·rw[List.takeWhile_cons_of_neg (by simpa using h),if_neg h];rfl
theorem zuJ (s:Str):∀l:List Str,twN l s≤l.length
 |[]=>Nat.le_refl _
 |x::l=>by
  rw[zgD]
  have:=zuJ s l
  split<;>simp only[List.length_cons]<;>omega
theorem zuK {s:Str}:∀{l:List Str} {i:Nat} (h:i<l.length),i<twN l s→l[i].l<s.l
 |x::l,0,_,h2=>by
  rw[zgD]at h2
  split at h2
  ·assumption
  ·omega
 |x::l,i+1,h,h2=>by
  rw[zgD]at h2
  split at h2
  ·exact zuK (l:=l) (by simpa using h) (by omega)
  ·omega
theorem zuI {s:Str}:∀{l:List Str} {i:Nat} (h:i<l.length),i=twN l s→¬l[i].l<s.l
 |x::l,0,_,h2=>by
  rw[zgD]at h2
  split at h2
  ·omega
  ·assumption
 |x::l,i+1,h,h2=>by
  rw[zgD]at h2
  split at h2
  ·exact zuI (l:=l) (by simpa using h) (by omega)
  ·omega
theorem zc0:∀x y:List UInt8,Op.bytesLess x y=decide (x<y)
 |[],[]=>by simp[Op.bytesLess]
 |_::_,[]=>by simp[Op.bytesLess]
 |[],_::_=>by simp[Op.bytesLess]
 |a::x,b::y=>by
  rw[Op.bytesLess,zc0 x y]
  by_cases h1:a<b<;>by_cases h2:a=b<;>simp[h1,h2,List.cons_lt_cons_iff]
theorem zsX {α:Type}[Enc α]{l:List α}{i:Nat}:zb2 (l.map enc) (i:Int) (l.length:Int)=(l.drop i).map enc:=by
 have h:=@zBq (l.map enc) i
 rw[List.length_map]at h;rw[h,List.map_drop]
def R6:Tbl:=R5.add 45 (sp2 ze6 fun l _=>l.length≤1000000)
attribute [go_sem] R6
theorem hR6:zan Tryz.prog GA R6:=by
 refine zbI zAS hR5 fun l s hl _ _=>?_
 by_cases hin:s∈l
 ·have e:ze6 l s=l:=by unfold ze6;rw[if_pos hin]
  rw[e]
  refine zaj (N:=39) hm hR5 45000 (lsw [29,33,38] []) zAS Tryz.func45 rfl rfl (by simp) (by kernel_rfl) ?_
  repeat'(first|refine rq fun _=>?_|simp only[go_sem,hin,Tryz.f45])
 ·have e:ze6 l s=l.take (twN l s)++[s]++l.drop (twN l s):=by unfold ze6;rw[if_neg hin];rfl
  rw[e]
  clear e
  have hlt:∀i (h:i<l.length),i<twN l s→Op.bytesLess l[i].l s.l=true:=fun i h h2=>by rw[zc0];exact decide_eq_true (zuK h h2)
  have hat:∀i (h:i<l.length),i=twN l s→Op.bytesLess l[i].l s.l=false:=fun i h h2=>by rw[zc0];exact decide_eq_false (zuI h h2)
  have htl:=zuJ s l
  obtain⟨T,hT⟩:∃T,twN l s=T:=⟨_,rfl⟩
  rw[hT]at hlt hat htl ⊢
  clear hT
  have kl:=Kp.mk hlt
  have ka:=Kp.mk hat
  clear hlt hat
  refine zaj (N:=39) hm hR5 45000 (lsw [29,33,38] []) zAS Tryz.func45 rfl rfl (by simp) (by kernel_rfl) ?_
  repeat'(first|refine rq fun _=>?_|simp only[go_sem,hin,Tryz.f45])
  refine zam hm hR5 45000 (lsw [29,33,38] []) (ι:=zcX T fun _=>True)
   ⟨fun q=>⟨frL [(0,.fz (.sl (l.map enc))),(1,.fz (.s s.l)),(5,.full []),(6,.fz (.i .i64 q.i))],hpL [],0⟩,fun q=>T-q.i⟩
   ⟨0,by omega,trivial⟩ (by kernel_rfl) ?_ ?_
  ·refine zah ?_ ?_ ?_<;>simp only[go_sem]
  rintro⟨i,hi,_⟩
  try simp only at hi
  rcases Nat.lt_or_ge i T with h1|h1
  ·have h2:i<l.length:=by omega
   have h3:=kl.out i h2 h1
   repeat'(first|refine rq fun _=>?_|simp only[go_sem,h2,h3,zaa,Tryz.f45])
   refine⟨⟨i+1,by omega,trivial⟩,by simp only;omega,?_⟩
   refine zah ?_ ?_ ?_<;>simp only[go_sem]
  ·obtain rfl:i=T:=by omega
   have hlt:(l.take i).length=i:=by rw[List.length_take];omega
   rcases Nat.lt_or_ge i l.length with h2|h2
   case' inl=>have h3:=ka.out i h2 rfl
   case' inr=>have h3:¬i<l.length:=by omega
   all_goals
    repeat'(first|refine rq fun _=>?_|refine zaq.i (zal (by first|omega|(simp only[List.length_map,List.length_take,List.length_drop,List.length_append,List.length_cons,List.length_nil];omega)) (by decide)) fun _=>?_|refine rq fun _=>?_|simp only[go_sem,h2,h3,zsX,zaa,Tryz.f45])
   all_goals first|done|(simp only[List.map_append,List.map_take,List.map_drop,List.map_cons,List.map_nil,zs8])
end Go.Proofs.YtmconmiemdinkaaGreatDoor
namespace Go.Abs
open Go
def vEq (x d:D):Prop:=x=d∨D.val x=some d
def FrV (fr:Nat→D):List (Nat×D)→Prop
 |[]=>True
 |(k,d)::l=>vEq (fr k) d∧FrV fr l
@[go_sem] theorem zEL {fr:Nat→D}:FrV fr []=True:=rfl
@[go_sem] theorem zDh {fr:Nat→D}{k:Nat}{d:D}{l:List (Nat×D)}:FrV fr ((k,d)::l)=(vEq (fr k) d∧FrV fr l):=rfl
@[go_sem] theorem zEH {d:D}:vEq d d=True:=eq_true (.inl rfl)
@[go_sem] theorem zI8 {id:Abs.Id}{es:Nat}{xs ys:List FD}:vEq (.ow id es xs) (.fz (.sl ys))=(xs=ys):=by
 unfold vEq;rw[zDf];simp
@[go_sem] theorem zEG {xs ys:List FD}:vEq (.full xs) (.fz (.sl ys))=(xs=ys):=by
 unfold vEq;rw[zw8];simp
@[go_sem] theorem zI7 {x y:FD}:vEq (.fz x) (.fz y)=(x=y):=by
 unfold vEq;rw[zDe];simp
theorem FrV.get {fr:Nat→D}:∀{l:List (Nat×D)},FrV fr l→∀t,frL l t=fr t∨D.val (fr t)=some (frL l t)∨frL l t= .junk
 |[],_,_=> .inr (.inr rfl)
 |(k,d)::l,h,t=>by
  simp only[frL]
  split
  ·rename_i e;subst e
   rcases h.1 with h1|h1
   ·exact .inl h1.symm
   ·exact .inr (.inl h1)
  ·exact FrV.get h.2 t
theorem zkz {G:Nat→List FD}{N:Nat}{st:St}{l:List (Nat×D)}(hf:FrV st.fr l):zd2 G N st ⟨frL l,st.H,st.n⟩:=by
 intro a w L F hr
 refine⟨L,F,⟨hr.ok,hr.size,fun t=>?_,hr.nd⟩,zbv.refl _ _ _ _ _⟩
 have:=hr.fr t
 simp only
 rcases hf.get t with e|e|e
 ·rw[e];exact this
 ·exact this.val e
 ·rw[e];exact trivial
end Go.Abs
namespace Go.Abs
open Go
theorem zsV {f:Abs.zac}{bd l:List Str}:zgL f bd l=zc2 f.subs (if isQ f.kind then bd++[f.name]else bd) (f.words.foldl (fun l w=>if w∈bd then l else ze6 l w) l):=by cases f;rw[zgL];rfl
mutual
theorem zpt:∀(f:Abs.zac) (bd l:List Str),f.fit=true→(zgL f bd l).length≤l.length+1000*f.size
 | .mk k nm ws s,bd,l,h=>by
  rw[zac.fit]at h
  simp only[Bool.and_eq_true,decide_eq_true_eq]at h
  rw[zgL,zac.size]
  have h1:=zf8 s (if isQ k then bd++[nm]else bd) (ws.foldl (fun l w=>if w∈bd then l else ze6 l w) l) h.2
  have h2:=zeY bd ws l
  omega
theorem zf8:∀(fs:List Abs.zac) (bd l:List Str),zac.fits fs=true→(zc2 fs bd l).length≤l.length+1000*zac.sizes fs
 |[],_,l,_=>by rw[zc2];omega
 |f::fs,bd,l,h=>by
  rw[zac.fits,Bool.and_eq_true]at h
  rw[zc2,zac.sizes]
  have h1:=zpt f bd l h.1
  have h2:=zf8 fs bd (zgL f bd l) h.2
  omega
end
theorem ziz:∀{fs:List Abs.zac} (j:Nat),zac.fits fs=true→zac.fits (fs.take j)=true
 |[],j,_=>by rw[List.take_nil,zac.fits]
 |f::fs,0,_=>by rw[List.take_zero,zac.fits]
 |f::fs,j+1,h=>by
  rw[zac.fits,Bool.and_eq_true]at h
  rw[List.take_succ_cons,zac.fits,Bool.and_eq_true]
  exact⟨h.1,ziz j h.2⟩
end Go.Abs
namespace Go.Proofs.YtmconmiemdinkaaGreatDoor
open Go Go.Abs Go.Proofs
def zlO:Tv:=(.q 0 (.q 1 (.q 3 (.r 4 (.q 5 (.br [(2,(.br [(6,(.q 7 .leaf))]))]))))))
def zjK (f:Abs.zac)(bd l:List Str):Prop:=f.fit=true∧bd.length+f.size≤2000∧l.length+1000*f.size≤1000000
def R7:Tbl:=R6.add 100 (sp3 zgL zjK)
attribute [go_sem] R7
theorem hR7:zan Tryz.prog GA R7:=by
 refine zoW zac.size zwx hR6 fun n hT f bd l hn hpre hw _ _=>?_
 obtain⟨hfit,hbl,hll⟩:=hpre
 obtain⟨hwl,hsl,hfs⟩:=zac.fit_eq hfit
 have hszs:f.size=zac.sizes f.subs+1:=by cases f;rw[zac.size];rfl
 have hsz:∀g∈f.subs,g.size<n∧g.fit=true:=fun g hg=>⟨by have:=zac.size_sub hg;omega,zac.fits_mem hfs hg⟩
 obtain⟨L,hL⟩:∃L:Nat→List Str,L=fun i=>(f.words.take i).foldl (fun l w=>if w∈bd then l else ze6 l w) l:=⟨_,rfl⟩
 have hL0:L 0=l:=by rw[hL];rfl
 have hLs:∀i (h:i<f.words.length),L (i+1)=if f.words[i]∈bd then L i else ze6 (L i) f.words[i]:=fun i h=>by
  rw[hL];simp only[List.take_succ_eq_append_getElem h,List.foldl_append,List.foldl_cons,List.foldl_nil]
 have hLl:∀i,(L i).length≤l.length+1000:=fun i=>by
  have:=zeY bd (f.words.take i) l
  rw[hL];simp only;rw[List.length_take]at this;omega
 obtain⟨bd2,hbd2⟩:∃bd2,(if isQ f.kind then bd++[f.name]else bd)=bd2:=⟨_,rfl⟩
 have hbl2:bd2.length≤bd.length+1:=by rw[←hbd2];split<;>simp
 obtain⟨lw,hlw⟩:∃lw,L f.words.length=lw:=⟨_,rfl⟩
 have hlwl:lw.length≤l.length+1000:=by rw[←hlw];exact hLl _
 have hcst:zgL f bd l=zc2 f.subs bd2 lw:=by rw[zsV,hbd2,←hlw,hL];simp only[List.take_length]
 obtain⟨M,hM⟩:∃M:Nat→List Str,M=fun j=>zc2 (f.subs.take j) bd2 lw:=⟨_,rfl⟩
 have hM0:M 0=lw:=by rw[hM];simp only[List.take_zero,zc2]
 have hMs:∀j (h:j<f.subs.length),M (j+1)=zgL f.subs[j] bd2 (M j):=fun j h=>by
  rw[hM];simp only[List.take_succ_eq_append_getElem h,zio,zc2]
 have hMl:∀j (h:j<f.subs.length),zjK f.subs[j] bd2 (M j):=fun j h=>by
  have h1:=zf8 (f.subs.take j) bd2 lw (ziz j hfs)
  have h2:=zcR h
  have h3:=zac.size_mem (List.getElem_mem h)
  refine⟨(hsz _ (List.getElem_mem h)).2,by omega,?_⟩
  rw[hM];simp only;omega
 have hMe:M f.subs.length=zgL f bd l:=by rw[hcst,hM];simp only[List.take_length]
 have kT:=Kp.mk hT
 have kz:=Kp.mk hsz
 have kL:=Kp.mk hLs
 have kM:=Kp.mk hMs
 have kN:=Kp.mk hMl
 have kb:=Kp.mk hbd2
 have kl:=Kp.mk hLl
 rw[←hMe]
 clear hT hsz hLs hMs hMl hbd2 hL hM hcst hLl hw hMe hfit hfs
 refine zaj (N:=56) hm kT.out 100000 (lsw [35,39] [1000008]) zwx Tryz.func100 rfl rfl (by simp) (by kernel_rfl) ?_
 repeat'(first|refine rq fun _=>?_|simp only[go_sem,Tryz.f100])
 refine zb0 (zdG (id:=(100003,0)) (t:=3) (b:=true) (ys:=[.i .i64 f.kind,.s f.name.l,.sl (f.words.map enc),.sl (f.subs.map enc)]) (by simp only[go_sem]) (by simp only[go_sem])) ?_
 refine zam hm kT.out 100000 (lsw [35,39] [1000008]) (ι:=zcX f.words.length fun _=>True)
  ⟨fun q=>⟨frL [(1,.fz (.sl (bd.map enc))),(2,.fz (.sl ((L q.i).map enc))),(3,.rp [.i .i64 f.kind,.s f.name.l,.sl (f.words.map enc),.sl (f.subs.map enc)]),(11,.fz (.sl (f.words.map enc))),(12,.fz (.i .i64 f.words.length)),(13,.fz (.i .i64 q.i))],hpL [],1⟩,fun q=>f.words.length-q.i⟩
  ⟨0,by omega,trivial⟩ (by kernel_rfl) ?_ ?_
 ·refine zah ?_ ?_ ?_<;>simp only[go_sem,hL0]
 rintro⟨i,hi,_⟩
 try simp only at hi
 rcases Nat.lt_or_ge i f.words.length with h1|h1
 ·have hls:=kL.out i h1
  have hll2:=kl.out i
  obtain⟨w,hwi⟩:∃w,f.words[i]=w:=⟨_,rfl⟩
  rw[hwi]at hls
  by_cases hin:w∈bd
  ·rw[if_pos hin]at hls
   repeat'(first|refine rq fun _=>?_|simp only[go_sem,h1,hwi,hin,zad,zaa,Tryz.f100])
   refine⟨⟨i+1,by omega,trivial⟩,by simp only;omega,?_⟩
   refine zah ?_ ?_ ?_<;>simp only[go_sem,hls]
  ·rw[if_neg hin]at hls
   repeat'(first|refine rq fun _=>?_|simp only[go_sem,h1,hwi,hin,zad,zaa,Tryz.f100])
   refine⟨⟨i+1,by omega,trivial⟩,by simp only;omega,?_⟩
   refine zah ?_ ?_ ?_<;>simp only[go_sem,hls]
 ·obtain rfl:i=f.words.length:=by omega
  by_cases hq:isQ f.kind
  case' pos=>
   have hb2:=kb.out
   rw[if_pos hq]at hb2
   unfold isQ at hq
   have hq8:((f.kind=8)=True∧(f.kind=8)=True)∨((f.kind=8)=False∧(f.kind=9)=True):=by
    rcases hq with h|h
    ·exact .inl ⟨eq_true h,eq_true h⟩
    ·exact .inr ⟨eq_false (by omega),eq_true h⟩
   rcases hq8 with⟨h8,h9⟩|⟨h8,h9⟩
   all_goals
    repeat'(first|refine rq fun _=>?_|simp only[go_sem,h8,h9,hlw,Nat.lt_irrefl,Tryz.f100])
   all_goals
    refine zbk hm kT.out 100000 (lsw [35,39] [1000008]) zlO (by kernel_rfl) (by kernel_rfl) ?_
    repeat'(first|refine And.intro ?_ ?_|exact True.intro|refine rq fun _=>?_|refine zaq.i (zal (by first|omega|(simp only[List.length_map,List.length_append,List.length_cons,List.length_nil];omega)) (by decide)) fun _=>?_|simp only[go_sem,zlO,hlw,Tryz.f100])
  case' neg=>
   have hb2:=kb.out
   rw[if_neg hq]at hb2
   unfold isQ at hq
   have h8:(f.kind=8)=False:=eq_false fun h=>hq (.inl h)
   have h9:(f.kind=9)=False:=eq_false fun h=>hq (.inr h)
   repeat'(first|refine rq fun _=>?_|simp only[go_sem,h8,h9,hlw,Nat.lt_irrefl,Tryz.f100])
  all_goals
   refine zam hm kT.out 100000 (lsw [35,39] [1000008]) (ι:=zcX f.subs.length fun _=>True)
    ⟨fun q=>⟨frL [(1,.fz (.sl (bd2.map enc))),(2,.fz (.sl ((M q.i).map enc))),(3,.rp [.i .i64 f.kind,.s f.name.l,.sl (f.words.map enc),.sl (f.subs.map enc)]),(42,.fz (.i .i64 f.subs.length)),(43,.fz (.i .i64 q.i))],hpL [],100⟩,fun q=>f.subs.length-q.i⟩
    ⟨0,by omega,trivial⟩ (by kernel_rfl) ?_ ?_
   ·refine zbw (zkz (l:=[(1,.fz (.sl (bd2.map enc))),(2,.fz (.sl (lw.map enc))),(3,.rp [.i .i64 f.kind,.s f.name.l,.sl (f.words.map enc),.sl (f.subs.map enc)]),(42,.fz (.i .i64 f.subs.length)),(43,.fz (.i .i64 0))]) (by simp only[go_sem,←hb2,List.map_append])) (zah ?_ ?_ ?_)<;>simp only[go_sem,hM0]
   rintro⟨j,hj,_⟩
   try simp only at hj
   rcases Nat.lt_or_ge j f.subs.length with h2|h2
   ·have hms:=kM.out j h2
    have hmn:=kN.out j h2
    have hsz:=(kz.out _ (List.getElem_mem h2)).1
    obtain⟨x,hx⟩:∃x,f.subs[j]=x:=⟨_,rfl⟩
    rw[hx]at hms hmn hsz
    repeat'(first|refine rq fun _=>?_|refine zaq.i ⟨hsz,hmn⟩ fun _=>?_|simp only[go_sem,h2,hx,hsz,zaa,Tryz.f100])
    refine⟨⟨j+1,by omega,trivial⟩,by simp only;omega,?_⟩
    refine zah ?_ ?_ ?_<;>simp only[go_sem,hms]
   ·obtain rfl:j=f.subs.length:=by omega
    repeat'(first|refine rq fun _=>?_|simp only[go_sem,Nat.lt_irrefl,Tryz.f100])
def R8:Tbl:=R7.add 75 (sp1 (fun f=>zgL f [] []) fun f=>f.fit=true∧f.size≤1000)
attribute [go_sem] R8
theorem hR8:zan Tryz.prog GA R8:=by
 refine zbR zEw hR7 fun f hpre _=>?_
 have hp:zjK f [] []:=⟨hpre.1,by simp only[List.length_nil];omega,by simp only[List.length_nil];omega⟩
 refine zaj (N:=5) hm hR7 75000 (lst []) zEw Tryz.func75 rfl rfl (by simp) (by kernel_rfl) ?_
 repeat'(first|refine rq fun _=>?_|refine zaq.i hp fun _=>?_|simp only[go_sem,Tryz.f75])
end Go.Proofs.YtmconmiemdinkaaGreatDoor
namespace Go.Proofs.YtmconmiemdinkaaGreatDoor
open Go Go.Abs Go.Proofs
section
variable {P:Program} {G:Nat→List FD} {T:Tbl}
theorem zwO {α β ρ:Type}[Enc α][Enc β][Enc ρ]{f:FuncId}{g:α→β→ρ}(m:α→Nat)(hc:zap P f)(hT:zan P G T)
  (h:∀n,zan P G (T.add f (sp2 g fun a _=>m a<n))→∀a b,m a=n→(enc a).Wf→(enc b).Wf→zaH P G f [.fz (enc a),.fz (enc b)] (hpL []) 0 (fun d _ _=>D.val d=some (.fz (enc (g a b))))):zan P G (T.add f (sp2 g fun _ _=>True)):=by
 have key:∀n,zan P G (T.add f (sp2 g fun a _=>m a<n)):=by
  intro n
  induction n with
  |zero=>exact zbI hc hT fun a _ ha=>by omega
  |succ n ih=>
   refine zbI hc hT fun a b ha hw hw2=>?_
   rcases Nat.lt_or_ge (m a) n with h3|h3
   ·have h4:=ih f (sp2 g fun a _=>m a<n) [enc a,enc b] _ _ (by simp[Tbl.add]) (zwq) ⟨by rw[dec_enc],by rw[dec_enc],by rw[dec_enc];exact h3⟩
    rw[dec_enc,dec_enc,zfD]at h4
    exact h4
   ·exact h n ih a b (by omega) hw hw2
 exact zbI hc hT fun a b _ hw hw2=>h (m a) (key _) a b rfl hw hw2
end
theorem zte {a b:Abs.zac}(h1:a.kind=b.kind)(h2:a.name=b.name)(h3:a.words=b.words)(h4:a.subs=b.subs):a=b:=by
 cases a;cases b;simp only[zaG,zcs,zcK,zaU]at*;subst h1 h2 h3 h4;rfl
theorem zfJ {α:Type}{a b:List α}(h:a.length=b.length)(h2:a.take a.length=b.take a.length):a=b:=by
 rw[List.take_length]at h2
 rw[h,List.take_length]at h2
 exact h2
section
variable {P:Program} {G:Nat→List FD} {T:Tbl}
end
def N1:Tbl:=R4.add 65 (sp2 (fun a b:List Str=>decide (a=b)) fun _ _=>True)
attribute [go_sem] N1
theorem hN1:zan Tryz.prog GA N1:=by
 refine zbI zIE hR4 fun a b _ hwa hwb=>?_
 obtain⟨Q,hQ⟩:∃Q:D→zax→Nat→Prop,Q=(fun d _ _=>D.val d=some (.fz (enc (decide (a=b))))):=⟨_,rfl⟩
 rw[←hQ]
 have hf:a≠b→∀{H' n'},Q (.fz (.b false)) H' n':=fun h H' n'=>by rw[hQ];show _=some (D.fz (.b (decide (a=b))));rw[decide_eq_false h];rfl
 have ht:a=b→∀{H' n'},Q (.fz (.b true)) H' n':=fun h H' n'=>by rw[hQ];show _=some (D.fz (.b (decide (a=b))));rw[decide_eq_true h];rfl
 have hsl:a.length≤za6:=by
  have:=zcI hwa
  simpa using this
 unfold za6 at hsl
 have kf:=Kp.mk @hf
 have kt:=Kp.mk @ht
 clear hf ht hQ hwa hwb
 refine zaj (N:=26) hm hR4 65000 (lst []) zIE Tryz.func65 rfl rfl (by simp) (by kernel_rfl) ?_
 repeat'(first|refine zaW.d (fun _=>?_) (fun _=>?_)|refine rq fun _=>?_|simp only[go_sem,Tryz.f65])
 all_goals try(refine kf.out (fun e=>?_);subst e;omega)
 rename_i e1
 have hlen:a.length=b.length:=by omega
 refine zam hm hR4 65000 (lst []) (ι:=zcX a.length fun i=>a.take i=b.take i)
  ⟨fun q=>⟨frL [(0,.fz (.sl (a.map enc))),(1,.fz (.sl (b.map enc))),(12,.fz (.i .i64 a.length)),(13,.fz (.i .i64 q.i))],hpL [],0⟩,fun q=>a.length-q.i⟩
  ⟨0,by omega,rfl⟩ (by kernel_rfl) ?_ ?_
 ·refine zah ?_ ?_ ?_<;>simp only[go_sem]
 rintro⟨i,hi,hpi⟩
 rcases Nat.lt_or_ge i a.length with h1|h1
 ·have h2:i<b.length:=by omega
  obtain⟨x,hx⟩:∃x,a[i]=x:=⟨_,rfl⟩
  obtain⟨y,hy⟩:∃y,b[i]=y:=⟨_,rfl⟩
  by_cases hxy:x=y
  ·repeat'(first|refine rq fun _=>?_|simp only[go_sem,h1,h2,hx,hy,eq_true hxy,zaa,Tryz.f65])
   refine⟨⟨i+1,by omega,?_⟩,by simp only;omega,?_⟩
   ·rw[List.take_succ_eq_append_getElem h1,List.take_succ_eq_append_getElem h2,hpi,hx,hy,hxy]
   ·refine zah ?_ ?_ ?_<;>simp only[go_sem]
  ·repeat'(first|refine rq fun _=>?_|simp only[go_sem,h1,h2,hx,hy,eq_false hxy,zaa,Tryz.f65])
   exact kf.out fun e=>hxy (by subst e;rw[←hx,←hy])
 ·have h1':¬i<a.length:=by omega
  obtain rfl:i=a.length:=by omega
  repeat'(first|refine rq fun _=>?_|simp only[go_sem,Nat.lt_irrefl,h1',Tryz.f65])
  exact kt.out (zfJ hlen hpi)
def N2:Tbl:=N1.add 32 (sp2 (fun a b:Abs.zac=>decide (a=b)) fun _ _=>True)
attribute [go_sem] N2
theorem hN2:zan Tryz.prog GA N2:=by
 refine zwO zac.size zIk hN1 fun n hT a b hn hwa hwb=>?_
 obtain⟨Q,hQ⟩:∃Q:D→zax→Nat→Prop,Q=(fun d _ _=>D.val d=some (.fz (enc (decide (a=b))))):=⟨_,rfl⟩
 rw[←hQ]
 have hf:a≠b→∀{H' n'},Q (.fz (.b false)) H' n':=fun h H' n'=>by rw[hQ];show _=some (D.fz (.b (decide (a=b))));rw[decide_eq_false h];rfl
 have ht:a=b→∀{H' n'},Q (.fz (.b true)) H' n':=fun h H' n'=>by rw[hQ];show _=some (D.fz (.b (decide (a=b))));rw[decide_eq_true h];rfl
 have hsl:a.subs.length≤za6:=by
  have h:=zbL (by have h:=hwa;rw[zaz]at h;exact h) (FD.sl (a.subs.map enc)) (by simp)
  have:=zcI h
  simpa using this
 unfold za6 at hsl
 have hsz:∀g∈a.subs,g.size<n:=fun g hg=>by have:=zac.size_sub hg;omega
 have kf:=Kp.mk @hf
 have kt:=Kp.mk @ht
 have kz:=Kp.mk hsz
 have kT:=Kp.mk hT
 clear hf ht hQ hwa hwb hsz hT
 refine zaj (N:=54) hm kT.out 32000 (lst []) zIk Tryz.func32 rfl rfl (by simp) (by kernel_rfl) ?_
 repeat'(first|refine zaW.d (fun _=>?_) (fun _=>?_)|refine zaW.i (fun _=>?_) (fun _=>?_)|refine rq fun _=>?_|simp only[go_sem,Tryz.f32, *])
 all_goals try(refine kf.out (fun e=>?_);subst e;contradiction)
 rename_i e1 e2 e3 e4
 have hlen:a.subs.length=b.subs.length:=by omega
 refine zam hm kT.out 32000 (lst []) (ι:=zcX a.subs.length fun i=>a.subs.take i=b.subs.take i)
  ⟨fun q=>⟨frL [(2,.ptr (32002,0) 0),(3,.ptr (32003,1) 0),(37,.fz (.i .i64 a.subs.length)),(38,.fz (.i .i64 q.i))],
   hpL [((32002,0),some ⟨[.fz (.i .i64 a.kind),.fz (.s a.name.l),.fz (.sl (a.words.map enc)),.fz (.sl (a.subs.map enc))],true,false⟩),((32003,1),some ⟨[.fz (.i .i64 b.kind),.fz (.s b.name.l),.fz (.sl (b.words.map enc)),.fz (.sl (b.subs.map enc))],true,false⟩)],2⟩,fun q=>a.subs.length-q.i⟩
  ⟨0,by omega,rfl⟩ (by kernel_rfl) ?_ ?_
 ·refine zah ?_ ?_ ?_<;>simp only[go_sem, *]
 rintro⟨i,hi,hpi⟩
 rcases Nat.lt_or_ge i a.subs.length with h1|h1
 ·have h2:i<b.subs.length:=by omega
  obtain⟨x,hx⟩:∃x,a.subs[i]=x:=⟨_,rfl⟩
  obtain⟨y,hy⟩:∃y,b.subs[i]=y:=⟨_,rfl⟩
  have hxs:x.size<n:=kz.out x (by rw[←hx];exact List.getElem_mem h1)
  by_cases hxy:x=y
  ·repeat'(first|refine rq fun _=>?_|simp only[go_sem,h1,h2,hx,hy,hxs,eq_true hxy,zaa,Tryz.f32])
   refine⟨⟨i+1,by omega,?_⟩,by simp only;omega,?_⟩
   ·rw[List.take_succ_eq_append_getElem h1,List.take_succ_eq_append_getElem h2,hpi,hx,hy,hxy]
   ·refine zah ?_ ?_ ?_<;>simp only[go_sem]
  ·repeat'(first|refine rq fun _=>?_|simp only[go_sem,h1,h2,hx,hy,hxs,eq_false hxy,zaa,Tryz.f32])
   exact kf.out fun e=>hxy (by subst e;rw[←hx,←hy])
 ·have h1':¬i<a.subs.length:=by omega
  obtain rfl:i=a.subs.length:=by omega
  repeat'(first|refine rq fun _=>?_|simp only[go_sem,Nat.lt_irrefl,h1',Tryz.f32])
  exact kt.out (zte e1 e2 e3 (zfJ hlen hpi))
def N3:Tbl:=N2
attribute [go_sem] N3
def N4:Tbl:=N3
attribute [go_sem] N4
end Go.Proofs.YtmconmiemdinkaaGreatDoor

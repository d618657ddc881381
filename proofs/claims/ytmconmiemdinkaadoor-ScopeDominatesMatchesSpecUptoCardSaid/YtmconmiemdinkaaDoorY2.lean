/- several texts of this proof in one; no conditions -/
import Derived.Test.YtmconmiemdinkaaDoorAT
import Derived.Test.YtmconmiemdinkaaDoorY1
import Derived.Test.YtmconmiemdinkaaDoorY6
set_option maxRecDepth 100000
set_option maxHeartbeats 1000000
set_option linter.unusedSimpArgs false
namespace Go.Proofs.YtmconmiemdinkaaDoor
open Go Go.Abs Go.Proofs
section
variable {P:Program} {G:Nat→List FD}
end
theorem zja {f:Abs.zab}(h:f.fit=true)(bd:List Str):(cst f bd).length≤1000*f.size:=by
 suffices hh:∀m,(∀(f:Abs.zab) (bd:List Str),f.size≤m→f.fit=true→(cst f bd).length≤1000*f.size)∧(∀(fs:List Abs.zab) (bd:List Str),zab.sizes fs≤m→zab.fits fs=true→(zb3 fs bd).length≤1000*zab.sizes fs)from(hh f.size).1 f bd (Nat.le_refl _) h
 intro m
 induction m with
 |zero=>
  refine⟨fun f _ h=>by have:=f.size_pos;omega,fun fs bd h _=>?_⟩
  cases fs with
  |nil=>simp[zb3]
  |cons f fs=>rw[zab.sizes]at h;have:=f.size_pos;omega
 |succ m ih=>
  have h1:∀(f:Abs.zab) (bd:List Str),f.size≤m+1→f.fit=true→(cst f bd).length≤1000*f.size:=by
   rintro⟨k,nm,ws,s⟩ bd hs hf
   rw[zab.size]at hs ⊢
   rw[zab.fit]at hf
   simp only[Bool.and_eq_true,decide_eq_true_eq]at hf
   rw[cst,List.length_append]
   have h2:=ih.2 s (if isQ k then bd++[nm]else bd) (by omega) hf.2
   have h3:=List.length_filter_le (fun w=>decide (w∉bd)) ws
   omega
  refine⟨h1,fun fs=>?_⟩
  induction fs with
  |nil=>intro bd _ _;simp[zb3]
  |cons f fs ih2=>
   intro bd hs hf
   rw[zab.sizes]at hs ⊢
   rw[zab.fits,Bool.and_eq_true]at hf
   rw[zb3,List.length_append]
   have h2:=h1 f bd (by omega) hf.1
   have h3:=ih2 bd (by omega) hf.2
   omega
structure zFu (n:Nat) where
 e:Nat
 m:Nat
 he:e≤n
structure zFw (n m0:Nat) where
 i:Nat
 hi:i≤n
def R2:Tbl:=R1
attribute [go_sem] R2
theorem hR2:zam Tryd.prog GA R2:=hR1
def R3:Tbl:=R2
attribute [go_sem] R3
theorem hR3:zam Tryd.prog GA R3:=hR2
def R4:Tbl:=R3
attribute [go_sem] R4
theorem hR4:zam Tryd.prog GA R4:=hR3
end Go.Proofs.YtmconmiemdinkaaDoor
namespace Go.Proofs.YtmconmiemdinkaaDoor
open Go Go.Abs Go.Proofs
section
variable {P:Program} {G:Nat→List FD} {T:Tbl}
theorem zqI {α β γ ρ:Type}[Enc α][Enc β][Enc γ][Enc ρ]{f:FuncId}{g:α→β→γ→ρ}{pre:α→β→γ→Prop}(m:α→Nat)(hc:zat P f)(hT:zam P G T)
  (h:∀n,zam P G (T.add f (sp3 g fun a b c=>m a<n∧pre a b c))→∀a b c,m a=n→pre a b c→(enc a).Wf→(enc b).Wf→(enc c).Wf→zaE P G f [.fz (enc a),.fz (enc b),.fz (enc c)] (hpL []) 0 (fun d _ _=>D.val d=some (.fz (enc (g a b c))))):zam P G (T.add f (sp3 g pre)):=by
 have key:∀n,zam P G (T.add f (sp3 g fun a b c=>m a<n∧pre a b c)):=by
  intro n
  induction n with
  |zero=>exact zfA hc hT fun a b c ha=>by omega
  |succ n ih=>
   refine zfA hc hT fun a b c ha hw hw2 hw3=>?_
   rcases Nat.lt_or_ge (m a) n with h1|h1
   ·have h2:=ih f (sp3 g fun a b c=>m a<n∧pre a b c) [enc a,enc b,enc c] _ _ (by simp[Tbl.add]) (zw2) ⟨by rw[dec_enc],by rw[dec_enc],by rw[dec_enc],by rw[dec_enc,dec_enc,dec_enc];exact⟨h1,ha.2⟩⟩
    rw[dec_enc,dec_enc,dec_enc,zfN]at h2
    exact h2
   ·exact h n ih a b c (by omega) ha.2 hw hw2 hw3
 exact zfA hc hT fun a b c ha hw hw2 hw3=>h (m a) (key _) a b c rfl ha hw hw2 hw3
end
structure zFt (n0:Nat) where
 n:Nat
 s:List UInt8
 hn:n≤n0
 h:zca n0=zca n++s
 hl:s.length≤n0-n
def R5:Tbl:=R4
attribute [go_sem] R5
theorem hR5:zam Tryd.prog GA R5:=hR4
end Go.Proofs.YtmconmiemdinkaaDoor
namespace Go.Proofs.YtmconmiemdinkaaDoor
open Go Go.Abs Go.Proofs
def twN (l:List Str)(s:Str):Nat:=(l.takeWhile fun x=>decide (x.l<s.l)).length
theorem zfE {x s:Str}{l:List Str}:twN (x::l) s=if x.l<s.l then twN l s+1 else 0:=by
 unfold twN
 by_cases h:x.l<s.l
 ·rw[List.takeWhile_cons_of_pos (by simpa using h),if_pos h,List.length_cons]
 ·rw[List.takeWhile_cons_of_neg (by simpa using h),if_neg h];rfl
theorem zqY (s:Str):∀l:List Str,twN l s≤l.length
 |[]=>Nat.le_refl _
 |x::l=>by
  rw[zfE]
  have:=zqY s l
  split<;>simp only[List.length_cons]<;>omega
theorem zqZ {s:Str}:∀{l:List Str} {i:Nat} (h:i<l.length),i<twN l s→l[i].l<s.l
 |x::l,0,_,h2=>by
  rw[zfE]at h2
  split at h2
  ·assumption
  ·omega
 |x::l,i+1,h,h2=>by
  rw[zfE]at h2
  split at h2
  ·exact zqZ (l:=l) (by simpa using h) (by omega)
  ·omega
theorem zqX {s:Str}:∀{l:List Str} {i:Nat} (h:i<l.length),i=twN l s→¬l[i].l<s.l
 |x::l,0,_,h2=>by
  rw[zfE]at h2
  split at h2
  ·omega
  ·assumption
 |x::l,i+1,h,h2=>by
  rw[zfE]at h2
  split at h2
  ·exact zqX (l:=l) (by simpa using h) (by omega)
  ·omega
theorem zcp:∀x y:List UInt8,Op.bytesLess x y=decide (x<y)
 |[],[]=>by simp[Op.bytesLess]
 |_::_,[]=>by simp[Op.bytesLess]
 |[],_::_=>by simp[Op.bytesLess]
 |a::x,b::y=>by
  rw[Op.bytesLess,zcp x y]
  by_cases h1:a<b<;>by_cases h2:a=b<;>simp[h1,h2,List.cons_lt_cons_iff]
theorem zpC {α:Type}[Enc α]{l:List α}{i:Nat}:zbD (l.map enc) (i:Int) (l.length:Int)=(l.drop i).map enc:=by
 have h:=@zwg (l.map enc) i
 rw[List.length_map]at h;rw[h,List.map_drop]
def R6:Tbl:=R5.add 57 (sp2 zgD fun l _=>l.length≤1000000)
attribute [go_sem] R6
theorem hR6:zam Tryd.prog GA R6:=by
 refine zc7 zvM hR5 fun l s hl _ _=>?_
 by_cases hin:s∈l
 ·have e:zgD l s=l:=by unfold zgD;rw[if_pos hin]
  rw[e]
  refine zak (N:=39) hm hR5 57000 (lsw [29,33,38] []) zvM Tryd.func57 rfl rfl (by simp) (by kernel_rfl) ?_
  repeat'(first|refine rq fun _=>?_|simp only[go_sem,hin,Tryd.f57])
 ·have e:zgD l s=l.take (twN l s)++[s]++l.drop (twN l s):=by unfold zgD;rw[if_neg hin];rfl
  rw[e]
  clear e
  have hlt:∀i (h:i<l.length),i<twN l s→Op.bytesLess l[i].l s.l=true:=fun i h h2=>by rw[zcp];exact decide_eq_true (zqZ h h2)
  have hat:∀i (h:i<l.length),i=twN l s→Op.bytesLess l[i].l s.l=false:=fun i h h2=>by rw[zcp];exact decide_eq_false (zqX h h2)
  have htl:=zqY s l
  obtain⟨T,hT⟩:∃T,twN l s=T:=⟨_,rfl⟩
  rw[hT]at hlt hat htl ⊢
  clear hT
  have kl:=Kp.mk hlt
  have ka:=Kp.mk hat
  clear hlt hat
  refine zak (N:=39) hm hR5 57000 (lsw [29,33,38] []) zvM Tryd.func57 rfl rfl (by simp) (by kernel_rfl) ?_
  repeat'(first|refine rq fun _=>?_|simp only[go_sem,hin,Tryd.f57])
  refine zap hm hR5 57000 (lsw [29,33,38] []) (ι:=zd3 T fun _=>True)
   ⟨fun q=>⟨frL [(0,.fz (.sl (l.map enc))),(1,.fz (.s s.l)),(5,.full []),(6,.fz (.i .i64 q.i))],hpL [],0⟩,fun q=>T-q.i⟩
   ⟨0,by omega,trivial⟩ (by kernel_rfl) ?_ ?_
  ·refine zai ?_ ?_ ?_<;>simp only[go_sem]
  rintro⟨i,hi,_⟩
  try simp only at hi
  rcases Nat.lt_or_ge i T with h1|h1
  ·have h2:i<l.length:=by omega
   have h3:=kl.out i h2 h1
   repeat'(first|refine rq fun _=>?_|simp only[go_sem,h2,h3,zaa,Tryd.f57])
   refine⟨⟨i+1,by omega,trivial⟩,by simp only;omega,?_⟩
   refine zai ?_ ?_ ?_<;>simp only[go_sem]
  ·obtain rfl:i=T:=by omega
   have hlt:(l.take i).length=i:=by rw[List.length_take];omega
   rcases Nat.lt_or_ge i l.length with h2|h2
   case' inl=>have h3:=ka.out i h2 rfl
   case' inr=>have h3:¬i<l.length:=by omega
   all_goals
    repeat'(first|refine rq fun _=>?_|refine zaG.i (zaA (by first|omega|(simp only[List.length_map,List.length_take,List.length_drop,List.length_append,List.length_cons,List.length_nil];omega)) (by decide)) fun _=>?_|refine rq fun _=>?_|simp only[go_sem,h2,h3,zpC,zaa,Tryd.f57])
   all_goals first|done|(simp only[List.map_append,List.map_take,List.map_drop,List.map_cons,List.map_nil,zpO])
end Go.Proofs.YtmconmiemdinkaaDoor
namespace Go.Abs
open Go
def vEq (x d:D):Prop:=x=d∨D.val x=some d
def FrV (fr:Nat→D):List (Nat×D)→Prop
 |[]=>True
 |(k,d)::l=>vEq (fr k) d∧FrV fr l
@[go_sem] theorem zzl {fr:Nat→D}:FrV fr []=True:=rfl
@[go_sem] theorem zxT {fr:Nat→D}{k:Nat}{d:D}{l:List (Nat×D)}:FrV fr ((k,d)::l)=(vEq (fr k) d∧FrV fr l):=rfl
@[go_sem] theorem zzi {d:D}:vEq d d=True:=eq_true (.inl rfl)
@[go_sem] theorem zDh {id:Abs.Id}{es:Nat}{xs ys:List FD}:vEq (.ow id es xs) (.fz (.sl ys))=(xs=ys):=by
 unfold vEq;rw[zxQ];simp
@[go_sem] theorem zzh {xs ys:List FD}:vEq (.full xs) (.fz (.sl ys))=(xs=ys):=by
 unfold vEq;rw[zsM];simp
@[go_sem] theorem zDg {x y:FD}:vEq (.fz x) (.fz y)=(x=y):=by
 unfold vEq;rw[zxP];simp
theorem FrV.get {fr:Nat→D}:∀{l:List (Nat×D)},FrV fr l→∀t,frL l t=fr t∨D.val (fr t)=some (frL l t)∨frL l t= .junk
 |[],_,_=> .inr (.inr rfl)
 |(k,d)::l,h,t=>by
  simp only[frL]
  split
  ·rename_i e;subst e
   rcases h.1 with h1|h1
   ·exact .inl h1.symm
   ·exact .inr (.inl h1)
  ·exact FrV.get h.2 t
theorem zmy {G:Nat→List FD}{N:Nat}{st:St}{l:List (Nat×D)}(hf:FrV st.fr l):zeu G N st ⟨frL l,st.H,st.n⟩:=by
 intro a w L F hr
 refine⟨L,F,⟨hr.ok,hr.size,fun t=>?_,hr.nd⟩,zbt.refl _ _ _ _ _⟩
 have:=hr.fr t
 simp only
 rcases hf.get t with e|e|e
 ·rw[e];exact this
 ·exact this.val e
 ·rw[e];exact trivial
end Go.Abs
namespace Go.Abs
open Go
theorem zpB {f:Abs.zab}{bd l:List Str}:zhW f bd l=zcX f.subs (if isQ f.kind then bd++[f.name]else bd) (f.words.foldl (fun l w=>if w∈bd then l else zgD l w) l):=by cases f;rw[zhW];rfl
mutual
theorem zrC:∀(f:Abs.zab) (bd l:List Str),f.fit=true→(zhW f bd l).length≤l.length+1000*f.size
 | .mk k nm ws s,bd,l,h=>by
  rw[zab.fit]at h
  simp only[Bool.and_eq_true,decide_eq_true_eq]at h
  rw[zhW,zab.size]
  have h1:=zfd s (if isQ k then bd++[nm]else bd) (ws.foldl (fun l w=>if w∈bd then l else zgD l w) l) h.2
  have h2:=zfk bd ws l
  omega
theorem zfd:∀(fs:List Abs.zab) (bd l:List Str),zab.fits fs=true→(zcX fs bd l).length≤l.length+1000*zab.sizes fs
 |[],_,l,_=>by rw[zcX];omega
 |f::fs,bd,l,h=>by
  rw[zab.fits,Bool.and_eq_true]at h
  rw[zcX,zab.sizes]
  have h1:=zrC f bd l h.1
  have h2:=zfd fs bd (zhW f bd l) h.2
  omega
end
theorem zhh:∀{fs:List Abs.zab} (j:Nat),zab.fits fs=true→zab.fits (fs.take j)=true
 |[],j,_=>by rw[List.take_nil,zab.fits]
 |f::fs,0,_=>by rw[List.take_zero,zab.fits]
 |f::fs,j+1,h=>by
  rw[zab.fits,Bool.and_eq_true]at h
  rw[List.take_succ_cons,zab.fits,Bool.and_eq_true]
  exact⟨h.1,zhh j h.2⟩
end Go.Abs
namespace Go.Proofs.YtmconmiemdinkaaDoor
open Go Go.Abs Go.Proofs
def zjT:Tv:=(.q 0 (.q 1 (.q 3 (.r 4 (.q 5 (.br [(2,(.br [(6,(.q 7 .leaf))]))]))))))
def zij (f:Abs.zab)(bd l:List Str):Prop:=f.fit=true∧bd.length+f.size≤2000∧l.length+1000*f.size≤1000000
def R7:Tbl:=R6.add 46 (sp3 zhW zij)
attribute [go_sem] R7
theorem hR7:zam Tryd.prog GA R7:=by
 refine zqI zab.size zy6 hR6 fun n hT f bd l hn hpre hw _ _=>?_
 obtain⟨hfit,hbl,hll⟩:=hpre
 obtain⟨hwl,hsl,hfs⟩:=zab.fit_eq hfit
 have hszs:f.size=zab.sizes f.subs+1:=by cases f;rw[zab.size];rfl
 have hsz:∀g∈f.subs,g.size<n∧g.fit=true:=fun g hg=>⟨by have:=zab.size_sub hg;omega,zab.fits_mem hfs hg⟩
 obtain⟨L,hL⟩:∃L:Nat→List Str,L=fun i=>(f.words.take i).foldl (fun l w=>if w∈bd then l else zgD l w) l:=⟨_,rfl⟩
 have hL0:L 0=l:=by rw[hL];rfl
 have hLs:∀i (h:i<f.words.length),L (i+1)=if f.words[i]∈bd then L i else zgD (L i) f.words[i]:=fun i h=>by
  rw[hL];simp only[List.take_succ_eq_append_getElem h,List.foldl_append,List.foldl_cons,List.foldl_nil]
 have hLl:∀i,(L i).length≤l.length+1000:=fun i=>by
  have:=zfk bd (f.words.take i) l
  rw[hL];simp only;rw[List.length_take]at this;omega
 obtain⟨bd2,hbd2⟩:∃bd2,(if isQ f.kind then bd++[f.name]else bd)=bd2:=⟨_,rfl⟩
 have hbl2:bd2.length≤bd.length+1:=by rw[←hbd2];split<;>simp
 obtain⟨lw,hlw⟩:∃lw,L f.words.length=lw:=⟨_,rfl⟩
 have hlwl:lw.length≤l.length+1000:=by rw[←hlw];exact hLl _
 have hcst:zhW f bd l=zcX f.subs bd2 lw:=by rw[zpB,hbd2,←hlw,hL];simp only[List.take_length]
 obtain⟨M,hM⟩:∃M:Nat→List Str,M=fun j=>zcX (f.subs.take j) bd2 lw:=⟨_,rfl⟩
 have hM0:M 0=lw:=by rw[hM];simp only[List.take_zero,zcX]
 have hMs:∀j (h:j<f.subs.length),M (j+1)=zhW f.subs[j] bd2 (M j):=fun j h=>by
  rw[hM];simp only[List.take_succ_eq_append_getElem h,zg9,zcX]
 have hMl:∀j (h:j<f.subs.length),zij f.subs[j] bd2 (M j):=fun j h=>by
  have h1:=zfd (f.subs.take j) bd2 lw (zhh j hfs)
  have h2:=zdB h
  have h3:=zab.size_mem (List.getElem_mem h)
  refine⟨(hsz _ (List.getElem_mem h)).2,by omega,?_⟩
  rw[hM];simp only;omega
 have hMe:M f.subs.length=zhW f bd l:=by rw[hcst,hM];simp only[List.take_length]
 have kT:=Kp.mk hT
 have kz:=Kp.mk hsz
 have kL:=Kp.mk hLs
 have kM:=Kp.mk hMs
 have kN:=Kp.mk hMl
 have kb:=Kp.mk hbd2
 have kl:=Kp.mk hLl
 rw[←hMe]
 clear hT hsz hLs hMs hMl hbd2 hL hM hcst hLl hw hMe hfit hfs
 refine zak (N:=56) hm kT.out 46000 (lsw [35,39] [1000008]) zy6 Tryd.func46 rfl rfl (by simp) (by kernel_rfl) ?_
 repeat'(first|refine rq fun _=>?_|simp only[go_sem,Tryd.f46])
 refine zcl (ze4 (id:=(46003,0)) (t:=3) (b:=true) (ys:=[.i .i64 f.kind,.s f.name.l,.sl (f.words.map enc),.sl (f.subs.map enc)]) (by simp only[go_sem]) (by simp only[go_sem])) ?_
 refine zap hm kT.out 46000 (lsw [35,39] [1000008]) (ι:=zd3 f.words.length fun _=>True)
  ⟨fun q=>⟨frL [(1,.fz (.sl (bd.map enc))),(2,.fz (.sl ((L q.i).map enc))),(3,.rp [.i .i64 f.kind,.s f.name.l,.sl (f.words.map enc),.sl (f.subs.map enc)]),(11,.fz (.sl (f.words.map enc))),(12,.fz (.i .i64 f.words.length)),(13,.fz (.i .i64 q.i))],hpL [],1⟩,fun q=>f.words.length-q.i⟩
  ⟨0,by omega,trivial⟩ (by kernel_rfl) ?_ ?_
 ·refine zai ?_ ?_ ?_<;>simp only[go_sem,hL0]
 rintro⟨i,hi,_⟩
 try simp only at hi
 rcases Nat.lt_or_ge i f.words.length with h1|h1
 ·have hls:=kL.out i h1
  have hll2:=kl.out i
  obtain⟨w,hwi⟩:∃w,f.words[i]=w:=⟨_,rfl⟩
  rw[hwi]at hls
  by_cases hin:w∈bd
  ·rw[if_pos hin]at hls
   repeat'(first|refine rq fun _=>?_|simp only[go_sem,h1,hwi,hin,zae,zaa,Tryd.f46])
   refine⟨⟨i+1,by omega,trivial⟩,by simp only;omega,?_⟩
   refine zai ?_ ?_ ?_<;>simp only[go_sem,hls]
  ·rw[if_neg hin]at hls
   repeat'(first|refine rq fun _=>?_|simp only[go_sem,h1,hwi,hin,zae,zaa,Tryd.f46])
   refine⟨⟨i+1,by omega,trivial⟩,by simp only;omega,?_⟩
   refine zai ?_ ?_ ?_<;>simp only[go_sem,hls]
 ·obtain rfl:i=f.words.length:=by omega
  by_cases hq:isQ f.kind
  case' pos=>
   have hb2:=kb.out
   rw[if_pos hq]at hb2
   unfold isQ at hq
   have hq8:((f.kind=8)=True∧(f.kind=8)=True)∨((f.kind=8)=False∧(f.kind=9)=True):=by
    rcases hq with h|h
    ·exact .inl ⟨eq_true h,eq_true h⟩
    ·exact .inr ⟨eq_false (by omega),eq_true h⟩
   rcases hq8 with⟨h8,h9⟩|⟨h8,h9⟩
   all_goals
    repeat'(first|refine rq fun _=>?_|simp only[go_sem,h8,h9,hlw,Nat.lt_irrefl,Tryd.f46])
   all_goals
    refine zdc hm kT.out 46000 (lsw [35,39] [1000008]) zjT (by kernel_rfl) (by kernel_rfl) ?_
    repeat'(first|refine And.intro ?_ ?_|exact True.intro|refine rq fun _=>?_|refine zaG.i (zaA (by first|omega|(simp only[List.length_map,List.length_append,List.length_cons,List.length_nil];omega)) (by decide)) fun _=>?_|simp only[go_sem,zjT,hlw,Tryd.f46])
  case' neg=>
   have hb2:=kb.out
   rw[if_neg hq]at hb2
   unfold isQ at hq
   have h8:(f.kind=8)=False:=eq_false fun h=>hq (.inl h)
   have h9:(f.kind=9)=False:=eq_false fun h=>hq (.inr h)
   repeat'(first|refine rq fun _=>?_|simp only[go_sem,h8,h9,hlw,Nat.lt_irrefl,Tryd.f46])
  all_goals
   refine zap hm kT.out 46000 (lsw [35,39] [1000008]) (ι:=zd3 f.subs.length fun _=>True)
    ⟨fun q=>⟨frL [(1,.fz (.sl (bd2.map enc))),(2,.fz (.sl ((M q.i).map enc))),(3,.rp [.i .i64 f.kind,.s f.name.l,.sl (f.words.map enc),.sl (f.subs.map enc)]),(42,.fz (.i .i64 f.subs.length)),(43,.fz (.i .i64 q.i))],hpL [],100⟩,fun q=>f.subs.length-q.i⟩
    ⟨0,by omega,trivial⟩ (by kernel_rfl) ?_ ?_
   ·refine ze5 (zmy (l:=[(1,.fz (.sl (bd2.map enc))),(2,.fz (.sl (lw.map enc))),(3,.rp [.i .i64 f.kind,.s f.name.l,.sl (f.words.map enc),.sl (f.subs.map enc)]),(42,.fz (.i .i64 f.subs.length)),(43,.fz (.i .i64 0))]) (by simp only[go_sem,←hb2,List.map_append])) (zai ?_ ?_ ?_)<;>simp only[go_sem,hM0]
   rintro⟨j,hj,_⟩
   try simp only at hj
   rcases Nat.lt_or_ge j f.subs.length with h2|h2
   ·have hms:=kM.out j h2
    have hmn:=kN.out j h2
    have hsz:=(kz.out _ (List.getElem_mem h2)).1
    obtain⟨x,hx⟩:∃x,f.subs[j]=x:=⟨_,rfl⟩
    rw[hx]at hms hmn hsz
    repeat'(first|refine rq fun _=>?_|refine zaG.i ⟨hsz,hmn⟩ fun _=>?_|simp only[go_sem,h2,hx,hsz,zaa,Tryd.f46])
    refine⟨⟨j+1,by omega,trivial⟩,by simp only;omega,?_⟩
    refine zai ?_ ?_ ?_<;>simp only[go_sem,hms]
   ·obtain rfl:j=f.subs.length:=by omega
    repeat'(first|refine rq fun _=>?_|simp only[go_sem,Nat.lt_irrefl,Tryd.f46])
def R8:Tbl:=R7.add 28 (sp1 (fun f=>zhW f [] []) fun f=>f.fit=true∧f.size≤1000)
attribute [go_sem] R8
theorem hR8:zam Tryd.prog GA R8:=by
 refine zcu zy4 hR7 fun f hpre _=>?_
 have hp:zij f [] []:=⟨hpre.1,by simp only[List.length_nil];omega,by simp only[List.length_nil];omega⟩
 refine zak (N:=5) hm hR7 28000 (lst []) zy4 Tryd.func28 rfl rfl (by simp) (by kernel_rfl) ?_
 repeat'(first|refine rq fun _=>?_|refine zaG.i hp fun _=>?_|simp only[go_sem,Tryd.f28])
end Go.Proofs.YtmconmiemdinkaaDoor

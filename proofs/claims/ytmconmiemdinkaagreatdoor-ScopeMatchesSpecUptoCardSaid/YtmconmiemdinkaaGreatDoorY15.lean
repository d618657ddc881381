/- several texts of this proof in one; no conditions -/
import Derived.Test.YtmconmiemdinkaaGreatDoorY14
import Derived.Test.YtmconmiemdinkaaGreatDoorY8
set_option linter.unusedSimpArgs false
namespace Go.Abs
open Go
mutual
def zac.fit:zac→Bool
 | .mk _ _ w s=>decide (w.length≤1000)&&decide (s.length≤1000)&&zac.fits s
def zac.fits:List zac→Bool
 |[]=>true
 |f::fs=>f.fit&&zac.fits fs
end
theorem zac.fits_mem:∀{l:List zac} {f:zac},zac.fits l=true→f∈l→f.fit=true
 |g::l,f,h,hm=>by
  rw[zac.fits,Bool.and_eq_true]at h
  rcases List.mem_cons.1 hm with rfl|hm
  ·exact h.1
  ·exact zac.fits_mem h.2 hm
theorem zac.fit_eq {f:zac}(h:f.fit=true):f.words.length≤1000∧f.subs.length≤1000∧zac.fits f.subs=true:=by
 cases f;rw[zac.fit]at h
 simp only[Bool.and_eq_true,decide_eq_true_eq]at h
 exact⟨h.1.1,h.1.2,h.2⟩
theorem ztV {op:Bool}{f:zac}{d:Int}{n:Nat}(h:zdb op f d n=0):f.words.length≤1000∧f.subs.length≤1000:=by
 unfold zdb at h
 split at h
 ·simp at h
 split at h
 ·simp at h
 split at h
 ·simp at h
 rename_i h1 h2 h3
 have h4:=Decidable.not_not.1 h3
 have h5:za7 op f≤2:=by
  unfold za7 zcd
  repeat'(split<;>try decide)
 have h6:=h4.2
 unfold zdB at h6
 refine⟨?_,by omega⟩
 split at h6
 ·simp only[decide_eq_true_eq]at h6;omega
 split at h6
 ·simp only[decide_eq_true_eq]at h6;omega
 ·simp only[decide_eq_true_eq]at h6;omega
mutual
theorem zsK {op:Bool}:∀(f:zac) (d:Int) (n:Nat),(chk op f d n).1.code=0→f.fit=true
 | .mk k nm w s,d,n,h=>by
  rw[chk]at h
  split at h
  ·rename_i h1;exact absurd h h1
  rename_i h1
  have h2:=ztV (Decidable.not_not.1 h1)
  rw[zac.fit]
  simp only[Bool.and_eq_true,decide_eq_true_eq]
  exact⟨h2,zpo s _ _ h⟩
theorem zpo {op:Bool}:∀(fs:List zac) (d:Int) (n:Nat),(zej op fs d n).1.code=0→zac.fits fs=true
 |[],_,_,_=>by rw[zac.fits]
 |f::fs,d,n,h=>by
  rw[zej]at h
  split at h
  ·rename_i h1;exact absurd h h1
  rename_i h1
  rw[zac.fits,Bool.and_eq_true]
  exact⟨zsK f d n (Decidable.not_not.1 h1),zpo fs _ _ h⟩
end
theorem zfj {op:Bool}{f:zac}(h:(zaV op f).code=0):f.fit=true:=zsK f 1 0 h
def zDd (l:List UInt8):Nat:=l.foldl (fun a d=>a*10+(d.toNat-48)) 0
theorem zuS (l:List UInt8)(d:UInt8):zDd (l++[d])=zDd l*10+(d.toNat-48):=by
 unfold zDd;rw[List.foldl_append];rfl
theorem zs0 {u:Nat}(h:u<10):(UInt8.ofNat (48+u)).toNat-48=u:=by
 rw[UInt8.toNat_ofNat',Nat.mod_eq_of_lt (by omega)];omega
theorem zkr:∀u,zDd (zbb u)=u:=by
 intro u
 unfold zbb
 induction u using Nat.strongRecOn with
 |_ u ih=>
  rw[Lib.decDigits]
  split
  ·rename_i h
   have:=zs0 h
   simpa[zDd]using this
  ·rename_i h
   rw[zuS,ih (u / 10) (by omega),zs0 (by omega)]
   omega
theorem zjP {u v:Nat}(h:zbb u=zbb v):u=v:=by rw[←zkr u,←zkr v,h]
theorem zfk (u:Nat):(zbb u).length≤u+1:=zga u
def zew (k:Nat):Str:=⟨118::zbb k⟩
def zob (k:Nat):Str:=⟨33::zbb k⟩
theorem zlQ {u v:Nat}(h:zew u=zew v):u=v:=zjP (List.cons.inj (Str.mk.inj h)).2
theorem zvs {u v:Nat}(h:zob u=zob v):u=v:=zjP (List.cons.inj (Str.mk.inj h)).2
def zgK (w:Str):Prop:=w.l.head? =some 33
instance (w:Str):Decidable (zgK w):=inferInstanceAs (Decidable (_=_))
theorem zid (k:Nat):zgK (zob k):=rfl
theorem zlk (k:Nat):¬zgK (zew k):=by unfold zgK zew;simp
def zfQ (used:List Str):Nat→Nat→Nat
 |0,k=>k
 |m+1,k=>if zew k∈used then zfQ used m (k+1)else k
def zbX (used:List Str)(k:Nat):Nat:=zfQ used used.length k
theorem zpV (used:List Str):∀m k,k≤zfQ used m k∧zfQ used m k≤k+m
 |0,k=>by simp[zfQ]
 |m+1,k=>by
  rw[zfQ]
  split
  ·have:=zpV used m (k+1);omega
  ·omega
theorem ziQ (used:List Str):∀m k i,k≤i→i<zfQ used m k→zew i∈used
 |0,k,i,h1,h2=>by simp only[zfQ]at h2;omega
 |m+1,k,i,h1,h2=>by
  rw[zfQ]at h2
  split at h2
  ·rename_i h
   rcases Nat.eq_or_lt_of_le h1 with rfl|h1
   ·exact h
   ·exact ziQ used m (k+1) i h1 h2
  ·omega
theorem zj6 (used:List Str):∀m k,zfQ used m k<k+m→zew (zfQ used m k)∉used
 |0,k,h=>by simp[zfQ]at h
 |m+1,k,h=>by
  rw[zfQ]at h ⊢
  split
  ·rename_i h1
   rw[if_pos h1]at h
   exact zj6 used m (k+1) (by omega)
  ·assumption
theorem pig:∀(used:List Str) (S:List Nat),S.Nodup→(∀i∈S,zew i∈used)→S.length≤used.length
 |[],S,_,h=>by
  cases S with
  |nil=>simp
  |cons i S=>have:=h i (by simp);simp at this
 |u::us,S,hn,h=>by
  by_cases he:∃i∈S,zew i=u
  ·obtain⟨i,hi,rfl⟩:=he
   have h1:=pig us (S.erase i) (hn.erase i) fun j hj=>by
    have h2:=(List.Nodup.mem_erase_iff hn).1 hj
    rcases List.mem_cons.1 (h j h2.2)with h3|h3
    ·exact absurd (zlQ h3) h2.1
    ·exact h3
   rw[List.length_erase_of_mem hi]at h1
   simp only[List.length_cons]
   omega
  ·have h1:=pig us S hn fun j hj=>by
    rcases List.mem_cons.1 (h j hj)with h3|h3
    ·exact absurd ⟨j,hj,h3⟩ he
    ·exact h3
   simp only[List.length_cons]
   omega
theorem za9 (used:List Str)(k:Nat):k≤zbX used k∧zbX used k≤k+used.length∧zew (zbX used k)∉used∧∀i,k≤i→i<zbX used k→zew i∈used:=by
 unfold zbX
 have h1:=zpV used used.length k
 have h2:=ziQ used used.length k
 refine⟨h1.1,h1.2,?_,h2⟩
 rcases Nat.lt_or_ge (zfQ used used.length k) (k+used.length)with h|h
 ·exact zj6 used _ _ h
 ·have he:zfQ used used.length k=k+used.length:=by omega
  intro hin
  rw[he]at hin h2
  have h3:=pig used (List.range' k (used.length+1)) List.nodup_range' fun i hi=>by
   have:=List.mem_range'_1.1 hi
   rcases Nat.lt_or_ge i (k+used.length)with h4|h4
   ·exact h2 i this.1 h4
   ·obtain rfl:i=k+used.length:=by omega
    exact hin
  rw[List.length_range']at h3
  omega
theorem zoO {a b:List Str}(h:∀j,zew j∈a↔zew j∈b)(k:Nat):zbX a k=zbX b k:=by
 obtain⟨a1,_,a3,a4⟩:=za9 a k
 obtain⟨b1,_,b3,b4⟩:=za9 b k
 rcases Nat.lt_trichotomy (zbX a k) (zbX b k)with h1|h1|h1
 ·exact absurd ((h _).2 (b4 _ a1 h1)) a3
 ·exact h1
 ·exact absurd ((h _).1 (a4 _ b1 h1)) b3
theorem zpW {used:List Str}{k:Nat}(h:zew k∈used):zbX used k=zbX used (k+1):=by
 obtain⟨a1,_,a3,a4⟩:=za9 used k
 obtain⟨b1,_,b3,b4⟩:=za9 used (k+1)
 have h0:zbX used k≠k:=by intro e;rw[e]at a3;exact a3 h
 rcases Nat.lt_trichotomy (zbX used k) (zbX used (k+1))with h1|h1|h1
 ·exact absurd (b4 _ (by omega) h1) a3
 ·exact h1
 ·exact absurd (a4 _ (by omega) h1) b3
theorem zm9 {used:List Str}{k:Nat}(h:zew k∉used):zbX used k=k:=by
 obtain⟨a1,_,a3,a4⟩:=za9 used k
 rcases Nat.eq_or_lt_of_le a1 with h1|h1
 ·exact h1.symm
 ·exact absurd (a4 k (Nat.le_refl _) h1) h
structure zbg where
 fr:Str
 to:Str
 deriving DecidableEq,Inhabited
instance:Enc zbg:=⟨fun b=> .agg [.s b.fr.l,.s b.to.l],fun x=>match x with| .agg [.s a,.s b]=>⟨⟨a⟩,⟨b⟩⟩|_=>⟨⟨[]⟩,⟨[]⟩⟩,fun b=>by cases b;rfl⟩
@[go_sem] theorem zvG {b:zbg}:enc b= .agg [.s b.fr.l,.s b.to.l]:=rfl
@[go_sem] theorem zDp {a b:List UInt8}:dec (α:=zbg) (.agg [.s a,.s b])=⟨⟨a⟩,⟨b⟩⟩:=rfl
instance:Kc zbg 2:=⟨fun _=>rfl⟩
@[go_sem] theorem zAK {l:List zbg}:zbC (l.map enc) 2=True:=eq_true (zdS l)
@[go_sem] theorem zyG {l:List zbg}:(zaf (l.map enc)).all zcp=true:=by
 rw[List.all_eq_true]
 intro d hd
 simp only[zaf,List.mem_flatMap,List.mem_map]at hd
 obtain⟨_,⟨a,_,rfl⟩,x,hx,rfl⟩:=hd
 simp only[zvG,FD.cells,List.mem_cons,List.not_mem_nil,or_false]at hx
 rcases hx with rfl|rfl<;>rfl
def zhM (env:List zbg)(w:Str):Nat→Str
 |0=>w
 |i+1=>if(env.getD i default).fr=w then(env.getD i default).to else zhM env w i
def lkp (env:List zbg)(w:Str):Str:=zhM env w env.length
theorem zpP (env:List zbg)(b:zbg)(w:Str):∀i,i≤env.length→zhM (env++[b]) w i=zhM env w i
 |0,_=>rfl
 |i+1,h=>by
  rw[zhM,zhM,zpP env b w i (by omega)]
  have:(env++[b]).getD i default=env.getD i default:=by
   rw[List.getD_eq_getElem?_getD,List.getD_eq_getElem?_getD,List.getElem?_append_left (by omega)]
  rw[this]
theorem zdM (env:List zbg)(b:zbg)(w:Str):lkp (env++[b]) w=if b.fr=w then b.to else lkp env w:=by
 unfold lkp
 rw[List.length_append,List.length_singleton,zhM,zpP env b w _ (Nat.le_refl _)]
 have:(env++[b]).getD env.length default=b:=by
  rw[List.getD_eq_getElem?_getD,List.getElem?_append_right (Nat.le_refl _),Nat.sub_self];rfl
 rw[this]
theorem zgV (w:Str):lkp [] w=w:=rfl
theorem ztL {env env':List zbg}{s:Str→Str}(h1:env'.map (·.fr)=env.map (·.fr))(h2:env'.map (·.to)=env.map fun b=>s b.to){w:Str}(hw:s w=w):lkp env' w=s (lkp env w):=by
 have hl:env'.length=env.length:=by have:=congrArg List.length h1;simpa using this
 have key:∀i,i≤env.length→zhM env' w i=s (zhM env w i):=by
  intro i
  induction i with
  |zero=>intro _;exact hw.symm
  |succ i ih=>
   intro hi
   have e1:(env'.getD i default).fr=(env.getD i default).fr:=by
    have:=congrArg (fun l:List Str=>l[i]?) h1
    simp only[List.getElem?_map,List.getElem?_eq_getElem (show i<env.length by omega),List.getElem?_eq_getElem (show i<env'.length by omega),Option.map_some,Option.some.injEq]at this
    simp only[List.getD_eq_getElem?_getD,List.getElem?_eq_getElem (show i<env.length by omega),List.getElem?_eq_getElem (show i<env'.length by omega),Option.getD_some]
    exact this
   have e2:(env'.getD i default).to=s (env.getD i default).to:=by
    have:=congrArg (fun l:List Str=>l[i]?) h2
    simp only[List.getElem?_map,List.getElem?_eq_getElem (show i<env.length by omega),List.getElem?_eq_getElem (show i<env'.length by omega),Option.map_some,Option.some.injEq]at this
    simp only[List.getD_eq_getElem?_getD,List.getElem?_eq_getElem (show i<env.length by omega),List.getElem?_eq_getElem (show i<env'.length by omega),Option.getD_some]
    exact this
   rw[zhM,zhM,e1,e2,ih (by omega)]
   split<;>rfl
 unfold lkp
 rw[hl]
 exact key _ (Nat.le_refl _)
def isQ (k:Int):Prop:=k=8∨k=9
instance (k:Int):Decidable (isQ k):=inferInstanceAs (Decidable (_∨_))
mutual
def cst:zac→List Str→List Str
 | .mk k nm ws s,bd=>ws.filter (fun w=>decide (w∉bd))++zb9 s (if isQ k then bd++[nm]else bd)
def zb9:List zac→List Str→List Str
 |[],_=>[]
 |f::fs,bd=>cst f bd++zb9 fs bd
end
theorem zkP (bd:List Str):∀a b:List zac,zb9 (a++b) bd=zb9 a bd++zb9 b bd
 |[],b=>by rw[zb9];rfl
 |f::a,b=>by rw[List.cons_append,zb9,zb9,zkP bd a b,List.append_assoc]
mutual
def ren (g:Nat→Str×Nat):zac→List zbg→Nat→zac×Nat
 | .mk k nm ws s,env,n=>
  if isQ k then(.mk k (g n).1 (ws.map (lkp env)) (zbd g s (env++[⟨nm,(g n).1⟩]) (g n).2).1,(zbd g s (env++[⟨nm,(g n).1⟩]) (g n).2).2)
  else(.mk k nm (ws.map (lkp env)) (zbd g s env n).1,(zbd g s env n).2)
def zbd (g:Nat→Str×Nat):List zac→List zbg→Nat→List zac×Nat
 |[],_,n=>([],n)
 |f::fs,env,n=>((ren g f env n).1::(zbd g fs env (ren g f env n).2).1,(zbd g fs env (ren g f env n).2).2)
end
theorem zlw (g:Nat→Str×Nat)(env:List zbg):∀(a b:List zac) (n:Nat),zbd g (a++b) env n=((zbd g a env n).1++(zbd g b env (zbd g a env n).2).1,(zbd g b env (zbd g a env n).2).2)
 |[],b,n=>by simp[zbd]
 |f::a,b,n=>by rw[List.cons_append,zbd,zbd,zlw g env a b];rfl
theorem zdj (g:Nat→Str×Nat)(env:List zbg):∀(a:List zac) (n:Nat),(zbd g a env n).1.length=a.length
 |[],n=>by simp[zbd]
 |f::a,n=>by rw[zbd];simp[zdj g env a]
def vg (used:List Str)(k:Nat):Str×Nat:=(zew (zbX used k),zbX used k+1)
def bg (n:Nat):Str×Nat:=(zob n,n+1)
theorem zht {g:Nat→Str×Nat}{u:Nat}(hg:∀k,k≤(g k).2∧(g k).2≤k+u):
  (∀(f:zac) (env:List zbg) (n:Nat),n≤(ren g f env n).2∧(ren g f env n).2≤n+u*f.size)∧∀(fs:List zac) (env:List zbg) (n:Nat),n≤(zbd g fs env n).2∧(zbd g fs env n).2≤n+u*zac.sizes fs:=by
 suffices h:∀m,(∀(f:zac) (env:List zbg) (n:Nat),f.size≤m→n≤(ren g f env n).2∧(ren g f env n).2≤n+u*f.size)∧∀(fs:List zac) (env:List zbg) (n:Nat),zac.sizes fs≤m→n≤(zbd g fs env n).2∧(zbd g fs env n).2≤n+u*zac.sizes fs from
  ⟨fun f env n=>(h _).1 f env n (Nat.le_refl _),fun fs env n=>(h _).2 fs env n (Nat.le_refl _)⟩
 intro m
 induction m with
 |zero=>
  refine⟨fun f env n h=>by have:=f.size_pos;omega,fun fs env n h=>?_⟩
  cases fs with
  |nil=>simp[zbd]
  |cons f fs=>rw[zac.sizes]at h;have:=f.size_pos;omega
 |succ m ih=>
  have h1:∀(f:zac) (env:List zbg) (n:Nat),f.size≤m+1→n≤(ren g f env n).2∧(ren g f env n).2≤n+u*f.size:=by
   rintro⟨k,nm,ws,s⟩ env n h
   rw[zac.size]at h ⊢
   rw[Nat.mul_add,Nat.mul_one]
   rw[ren]
   split
   ·have h2:=ih.2 s (env++[⟨nm,(g n).1⟩]) (g n).2 (by omega)
    have h3:=hg n
    simp only
    omega
   ·have h2:=ih.2 s env n (by omega)
    simp only
    omega
  refine⟨h1,fun fs=>?_⟩
  induction fs with
  |nil=>intro env n h;simp[zbd]
  |cons f fs ih2=>
   intro env n h
   rw[zac.sizes]at h ⊢
   rw[zbd,Nat.mul_add]
   have h2:=h1 f env n (by omega)
   have h3:=ih2 env (ren g f env n).2 (by omega)
   simp only
   omega
theorem zuT (used:List Str)(k:Nat):k≤(vg used k).2∧(vg used k).2≤k+(used.length+1):=by
 have:=za9 used k
 unfold vg
 simp only
 omega
theorem zvr (k:Nat):k≤(bg k).2∧(bg k).2≤k+1:=by unfold bg;simp
def zcy (f:zac):List Str:=(zen (zlF ((cst f []).map (·.l)))).map Str.mk
def zg3 (env:List zbg)(used:List Str):List Str:=env.foldl (fun u b=>u.map fun w=>if w=b.fr then b.to else w) used
def zaN (f:zac)(env:List zbg):zac:=(ren (vg (zg3 env (zcy f))) f env 0).1
theorem ztP:∀(l:List (List UInt8)) (x:List UInt8),x∈zen l↔x∈l:=by
 intro l x
 unfold zen Lib.compact Lib.compactUpTo
 have hget:∀j (h:j<l.length),(l.toArray)[j]! =l[j]:=fun j h=>by simp[h]
 constructor
 ·intro h
  obtain⟨j,hj,rfl⟩:=List.mem_map.1 h
  have hj':j<l.length:=List.mem_range.1 (List.mem_filter.1 hj).1
  rw[hget j hj']
  exact List.getElem_mem hj'
 ·intro h
  obtain⟨j,hj,rfl⟩:=List.getElem_of_mem h
  induction j with
  |zero=>exact List.mem_map.2 ⟨0,List.mem_filter.2 ⟨List.mem_range.2 hj,by simp[Lib.keeps]⟩,hget 0 hj⟩
  |succ j ih=>
   by_cases he:l[j+1]=l[j]
   ·rw[he];exact ih (by omega) (List.getElem_mem _)
   ·exact List.mem_map.2 ⟨j+1,List.mem_filter.2 ⟨List.mem_range.2 hj,by
     simp only[Lib.keeps,decide_eq_true_eq,Nat.add_sub_cancel]
     rw[hget _ hj,hget j (by omega)]
     exact .inr he⟩,hget _ hj⟩
theorem ze2 (f:zac)(x:Str):x∈zcy f↔x∈cst f []:=by
 unfold zcy
 simp only[List.mem_map,ztP,(zg4 _).mem_iff]
 constructor
 ·rintro⟨y,⟨z,hz,rfl⟩,rfl⟩;exact hz
 ·intro h;exact⟨x.l,⟨x,h,rfl⟩,rfl⟩
theorem znQ (f:zac):(zcy f).length≤(cst f []).length:=by
 unfold zcy
 rw[List.length_map]
 refine Nat.le_trans (zmc _) ?_
 rw[zi2,List.length_map];exact Nat.le_refl _
theorem znq (env:List zbg):∀(used:List Str),(zg3 env used).length=used.length:=by
 unfold zg3
 induction env with
 |nil=>intro u;rfl
 |cons b env ih=>intro u;rw[List.foldl_cons,ih,List.length_map]
def ze6 (l:List Str)(s:Str):List Str:=if s∈l then l else l.take (l.takeWhile fun x=>decide (x.l<s.l)).length++[s]++l.drop (l.takeWhile fun x=>decide (x.l<s.l)).length
theorem zpS (l:List Str)(s x:Str):x∈ze6 l s↔x∈l∨x=s:=by
 unfold ze6
 split
 ·rename_i h
  constructor
  ·exact .inl
  ·rintro(h1|rfl)
   ·exact h1
   ·exact h
 ·have h1:=List.take_append_drop (l.takeWhile fun x=>decide (x.l<s.l)).length l
  constructor
  ·intro h
   simp only[List.mem_append,List.mem_singleton]at h
   rcases h with(h|h)|h
   ·exact .inl (List.mem_of_mem_take h)
   ·exact .inr h
   ·exact .inl (List.mem_of_mem_drop h)
  ·rintro(h|rfl)
   ·rw[←h1]at h
    simp only[List.mem_append,List.mem_singleton]at h ⊢
    rcases h with h|h
    ·exact .inl (.inl h)
    ·exact .inr h
   ·simp
mutual
def zgL:zac→List Str→List Str→List Str
 | .mk k nm ws s,bd,l=>zc2 s (if isQ k then bd++[nm]else bd) (ws.foldl (fun l w=>if w∈bd then l else ze6 l w) l)
def zc2:List zac→List Str→List Str→List Str
 |[],_,l=>l
 |f::fs,bd,l=>zc2 fs bd (zgL f bd l)
end
theorem zio (bd:List Str):∀(a b:List zac) (l:List Str),zc2 (a++b) bd l=zc2 b bd (zc2 a bd l)
 |[],b,l=>by rw[zc2];rfl
 |f::a,b,l=>by rw[List.cons_append,zc2,zc2,zio bd a b]
theorem zm5 (bd:List Str)(x:Str):∀(ws l:List Str),x∈ws.foldl (fun l w=>if w∈bd then l else ze6 l w) l↔x∈l∨x∈ws.filter (fun w=>decide (w∉bd))
 |[],l=>by simp
 |w::ws,l=>by
  rw[List.foldl_cons,zm5 bd x ws,List.filter_cons]
  by_cases h:w∈bd
  ·rw[if_pos h,if_neg (by simpa using h)]
  ·rw[if_neg h,if_pos (by simpa using h),zpS,List.mem_cons,or_assoc]
mutual
theorem zlf (x:Str):∀(f:zac) (bd l:List Str),x∈zgL f bd l↔x∈l∨x∈cst f bd
 | .mk k nm ws s,bd,l=>by rw[zgL,cst,zm4 x s,zm5,List.mem_append,or_assoc]
theorem zm4 (x:Str):∀(fs:List zac) (bd l:List Str),x∈zc2 fs bd l↔x∈l∨x∈zb9 fs bd
 |[],bd,l=>by simp[zc2,zb9]
 |f::fs,bd,l=>by rw[zc2,zb9,zm4 x fs,zlf x f,List.mem_append,or_assoc]
end
theorem zp0 (l:List Str)(s:Str):(ze6 l s).length≤l.length+1:=by
 unfold ze6
 split
 ·omega
 ·simp only[List.length_append,List.length_take,List.length_drop,List.length_singleton];omega
theorem zeY (bd:List Str):∀(ws l:List Str),(ws.foldl (fun l w=>if w∈bd then l else ze6 l w) l).length≤l.length+ws.length
 |[],l=>by simp
 |w::ws,l=>by
  rw[List.foldl_cons]
  have h1:=zeY bd ws (if w∈bd then l else ze6 l w)
  have h2:(if w∈bd then l else ze6 l w).length≤l.length+1:=by
   split
   ·omega
   ·exact zp0 l w
  simp only[List.length_cons]
  omega
def zbZ (fr to:List Str)(w:Str):Str:=match fr,to with
 |a::fr,b::to=>if a=w then b else zbZ fr to w
 |_,_=>w
mutual
def swp (fr to:List Str):zac→zac
 | .mk k nm ws s=> .mk k (if isQ k then zbZ fr to nm else nm) (ws.map (zbZ fr to)) (zwU fr to s)
def zwU (fr to:List Str):List zac→List zac
 |[]=>[]
 |f::fs=>swp fr to f::zwU fr to fs
end
theorem zqf (fr to:List Str):∀l:List zac,zwU fr to l=l.map (swp fr to)
 |[]=>by rw[zwU];rfl
 |f::l=>by rw[zwU,zqf fr to l];rfl
def ctr (used:List Str):Nat→Nat→Nat
 |k,0=>k
 |k,i+1=>ctr used (zbX used k+1) i
def zdT (n:Nat):List Str:=(List.range n).map zob
def zed (used:List Str)(n:Nat):List Str:=(List.range n).map fun i=>zew (zbX used (ctr used 0 i))
def zoL (f:zac)(env:List zbg):zac×Nat:=ren bg f env 0
def zo4 (f:zac)(env:List zbg):List Str:=zgL (zoL f env).1 [] []
def zxX (f:zac)(env:List zbg):zac:=swp (zdT (zoL f env).2) (zed (zo4 f env) (zoL f env).2) (zoL f env).1
theorem zhS (used:List Str):∀i k,ctr used k (i+1)=zbX used (ctr used k i)+1
 |0,k=>rfl
 |i+1,k=>by rw[ctr,zhS used i,ctr]
theorem zo0 {fr to:List Str}{w:Str}(h:w∉fr):zbZ fr to w=w:=by
 induction fr generalizing to with
 |nil=>unfold zbZ;rfl
 |cons a fr ih=>
  cases to with
  |nil=>unfold zbZ;rfl
  |cons b to=>
   unfold zbZ
   rw[if_neg (by rintro rfl;simp at h),ih (by intro h2;exact h (List.mem_cons_of_mem _ h2))]
theorem zwT {f:Nat→Str}(hf:∀i j,f i=f j→i=j){g:Nat→Str}{n i s:Nat}(h:i<n):zbZ ((List.range' s n).map f) ((List.range' s n).map g) (f (s+i))=g (s+i):=by
 induction n generalizing s i with
 |zero=>omega
 |succ n ih=>
  rw[List.range'_succ,List.map_cons,List.map_cons]
  unfold zbZ
  cases i with
  |zero=>rw[Nat.add_zero,if_pos rfl]
  |succ i=>
   rw[if_neg (by intro e;have:=hf _ _ e;omega),show s+(i+1)=s+1+i by omega]
   exact ih (by omega)
theorem zko {used:List Str}{n i:Nat}(h:i<n):zbZ (zdT n) (zed used n) (zob i)=zew (zbX used (ctr used 0 i)):=by
 have:=zwT (f:=zob) (fun _ _=>zvs) (g:=fun i=>zew (zbX used (ctr used 0 i))) (s:=0) h
 rw[Nat.zero_add,←List.range_eq_range']at this
 exact this
theorem zjd {used:List Str}{n:Nat}{w:Str}(h:¬zgK w):zbZ (zdT n) (zed used n) w=w:=by
 refine zo0 fun h1=>?_
 unfold zdT at h1
 obtain⟨i,_,rfl⟩:=List.mem_map.1 h1
 exact h (zid i)
mutual
def zeO:zac→Prop
 | .mk _ _ ws s=>(∀w∈ws,¬zgK w)∧zcB s
def zcB:List zac→Prop
 |[]=>True
 |f::fs=>zeO f∧zcB fs
end
theorem zzu {used:List Str}{N:Nat}:∀m,(∀(f:zac) (env env':List zbg) (n:Nat),f.size≤m→zeO f→(ren bg f env n).2≤N→env'.map (·.fr)=env.map (·.fr)→env'.map (·.to)=env.map (fun b=>zbZ (zdT N) (zed used N) b.to)→
   ren (vg used) f env' (ctr used 0 n)=(swp (zdT N) (zed used N) (ren bg f env n).1,ctr used 0 (ren bg f env n).2))∧
  (∀(fs:List zac) (env env':List zbg) (n:Nat),zac.sizes fs≤m→zcB fs→(zbd bg fs env n).2≤N→env'.map (·.fr)=env.map (·.fr)→env'.map (·.to)=env.map (fun b=>zbZ (zdT N) (zed used N) b.to)→
   zbd (vg used) fs env' (ctr used 0 n)=(zwU (zdT N) (zed used N) (zbd bg fs env n).1,ctr used 0 (zbd bg fs env n).2)):=by
 intro m
 induction m with
 |zero=>
  refine⟨fun f env env' n h=>by have:=f.size_pos;omega,fun fs env env' n h _ _ _ _=>?_⟩
  cases fs with
  |nil=>simp[zbd,zwU]
  |cons f fs=>rw[zac.sizes]at h;have:=f.size_pos;omega
 |succ m ih=>
  have h1:∀(f:zac) (env env':List zbg) (n:Nat),f.size≤m+1→zeO f→(ren bg f env n).2≤N→env'.map (·.fr)=env.map (·.fr)→env'.map (·.to)=env.map (fun b=>zbZ (zdT N) (zed used N) b.to)→
    ren (vg used) f env' (ctr used 0 n)=(swp (zdT N) (zed used N) (ren bg f env n).1,ctr used 0 (ren bg f env n).2):=by
   rintro⟨k,nm,ws,s⟩ env env' n hs hcl hN e1 e2
   rw[zac.size]at hs
   rw[zeO]at hcl
   have hws:ws.map (lkp env')=(ws.map (lkp env)).map (zbZ (zdT N) (zed used N)):=by
    rw[List.map_map]
    exact List.map_congr_left fun w hw=>ztL e1 e2 (zjd (hcl.1 w hw))
   rw[ren]at hN ⊢
   rw[ren]
   split
   ·rename_i hq
    rw[if_pos hq]at hN
    simp only at hN
    have h2:=(zht zvr).2 s (env++[⟨nm,(bg n).1⟩]) (bg n).2
    have hn:n<N:=by have:(bg n).2=n+1:=rfl;omega
    have h3:=ih.2 s (env++[⟨nm,(bg n).1⟩]) (env'++[⟨nm,(vg used (ctr used 0 n)).1⟩]) (bg n).2 (by omega) hcl.2 hN (by simp[e1]) (by
     rw[List.map_append,List.map_append,e2]
     simp only[List.map_cons,List.map_nil]
     rw[show(bg n).1=zob n from rfl,zko hn]
     rfl)
    have h4:(vg used (ctr used 0 n)).2=ctr used 0 (bg n).2:=(zhS used n 0).symm
    rw[h4,h3,swp,if_pos hq,hws]
    rw[show(bg n).1=zob n from rfl,zko hn]
    rfl
   ·rename_i hq
    rw[if_neg hq]at hN
    simp only at hN
    have h3:=ih.2 s env env' n (by omega) hcl.2 hN e1 e2
    rw[h3,swp,if_neg hq,hws]
  refine⟨h1,fun fs=>?_⟩
  induction fs with
  |nil=>intro env env' n _ _ _ _ _;simp[zbd,zwU]
  |cons f fs ih2=>
   intro env env' n hs hcl hN e1 e2
   rw[zac.sizes]at hs
   rw[zcB]at hcl
   rw[zbd]at hN ⊢
   rw[zbd]
   simp only at hN
   have h2:=(zht zvr).2 fs env (ren bg f env n).2
   rw[h1 f env env' n (by omega) hcl.1 (by omega) e1 e2]
   simp only
   rw[ih2 env env' (ren bg f env n).2 (by omega) hcl.2 hN e1 e2,zwU]
theorem zwu {env0:List zbg}{x:Str}(hx:¬zgK x):∀m,(∀(f:zac) (env:List zbg) (bd bdR:List Str) (n:Nat),f.size≤m→(∀b∈bdR,zgK b)→(∀w,(w∈bd→zgK (lkp env w))∧(w∉bd→lkp env w=lkp env0 w))→
   (x∈cst (ren bg f env n).1 bdR↔∃w∈cst f bd,x=lkp env0 w))∧
  (∀(fs:List zac) (env:List zbg) (bd bdR:List Str) (n:Nat),zac.sizes fs≤m→(∀b∈bdR,zgK b)→(∀w,(w∈bd→zgK (lkp env w))∧(w∉bd→lkp env w=lkp env0 w))→
   (x∈zb9 (zbd bg fs env n).1 bdR↔∃w∈zb9 fs bd,x=lkp env0 w)):=by
 intro m
 induction m with
 |zero=>
  refine⟨fun f env bd bdR n h=>by have:=f.size_pos;omega,fun fs env bd bdR n h _ _=>?_⟩
  cases fs with
  |nil=>simp[zbd,zb9]
  |cons f fs=>rw[zac.sizes]at h;have:=f.size_pos;omega
 |succ m ih=>
  have h1:∀(f:zac) (env:List zbg) (bd bdR:List Str) (n:Nat),f.size≤m+1→(∀b∈bdR,zgK b)→(∀w,(w∈bd→zgK (lkp env w))∧(w∉bd→lkp env w=lkp env0 w))→
    (x∈cst (ren bg f env n).1 bdR↔∃w∈cst f bd,x=lkp env0 w):=by
   rintro⟨k,nm,ws,s⟩ env bd bdR n hs hb hl
   rw[zac.size]at hs
   have hws:x∈(ws.map (lkp env)).filter (fun w=>decide (w∉bdR))↔∃w∈ws.filter (fun w=>decide (w∉bd)),x=lkp env0 w:=by
    simp only[List.mem_filter,List.mem_map,decide_eq_true_eq]
    constructor
    ·rintro⟨⟨w,hw,rfl⟩,_⟩
     by_cases hin:w∈bd
     ·exact absurd ((hl w).1 hin) hx
     ·exact⟨w,⟨hw,hin⟩,(hl w).2 hin⟩
    ·rintro⟨w,⟨hw,hin⟩,rfl⟩
     exact⟨⟨w,hw,(hl w).2 hin⟩,fun h=>hx (hb _ h)⟩
   have key:∀{A B C D:Prop} {p:Str→Prop} {q:Str→Prop},(A↔∃w,p w∧x=lkp env0 w)→(B↔∃w,q w∧x=lkp env0 w)→(A∨B↔∃w,(p w∨q w)∧x=lkp env0 w):=by
    intro A B C D p q h2 h3
    rw[h2,h3]
    constructor
    ·rintro(⟨w,h,e⟩|⟨w,h,e⟩)
     ·exact⟨w,.inl h,e⟩
     ·exact⟨w,.inr h,e⟩
    ·rintro⟨w,h|h,e⟩
     ·exact .inl ⟨w,h,e⟩
     ·exact .inr ⟨w,h,e⟩
   rw[ren,cst]
   split
   ·rename_i hq
    simp only[cst,List.mem_append,if_pos hq]
    refine key (C:=True) (D:=True) hws (ih.2 s _ _ _ _ (by omega) (fun b hb2=>?_) fun w=>?_)
    ·rcases List.mem_append.1 hb2 with h|h
     ·exact hb b h
     ·obtain rfl:=List.mem_singleton.1 h
      exact zid n
    ·rw[zdM]
     constructor
     ·intro hw
      by_cases he:nm=w
      ·simp only[he,if_true];exact zid n
      ·simp only[he,if_false]
       rcases List.mem_append.1 hw with h|h
       ·exact(hl w).1 h
       ·exact absurd (List.mem_singleton.1 h).symm he
     ·intro hw
      have he:¬nm=w:=fun e=>hw (by simp[e])
      simp only[he,if_false]
      exact(hl w).2 fun h=>hw (List.mem_append_left _ h)
   ·rename_i hq
    simp only[cst,List.mem_append,if_neg hq]
    exact key (C:=True) (D:=True) hws (ih.2 s _ _ _ _ (by omega) hb hl)
  refine⟨h1,fun fs=>?_⟩
  induction fs with
  |nil=>intro env bd bdR n _ _ _;simp[zbd,zb9]
  |cons f fs ih2=>
   intro env bd bdR n hs hb hl
   rw[zac.sizes]at hs
   rw[zbd,zb9,zb9,List.mem_append,h1 f env bd bdR n (by omega) hb hl,ih2 env bd bdR _ (by omega) hb hl]
   simp only[List.mem_append]
   constructor
   ·rintro(⟨w,h,e⟩|⟨w,h,e⟩)
    ·exact⟨w,.inl h,e⟩
    ·exact⟨w,.inr h,e⟩
   ·rintro⟨w,h|h,e⟩
    ·exact .inl ⟨w,h,e⟩
    ·exact .inr ⟨w,h,e⟩
theorem zue {env:List zbg}(h:env.length≤1)(used:List Str):zg3 env used=used.map (lkp env):=by
 match env,h with
 |[],_=>
  rw[show lkp []=id from funext fun w=>zgV w,List.map_id]
  rfl
 |[b],_=>
  simp only[zg3,List.foldl_cons,List.foldl_nil]
  refine List.map_congr_left fun w _=>?_
  have:=zdM [] b w
  rw[List.nil_append]at this
  rw[this,zgV]
  by_cases e:w=b.fr
  ·rw[if_pos e,if_pos e.symm]
  ·rw[if_neg e,if_neg fun e2=>e e2.symm]
theorem zqH {f:zac}{env:List zbg}(hf:zeO f)(hl:env.length≤1)(hto:∀b∈env,¬zgK b.to):zaN f env=zxX f env:=by
 have hu:∀j,zew j∈zg3 env (zcy f)↔zew j∈zo4 f env:=by
  intro j
  rw[zue hl]
  unfold zo4 zoL
  rw[zlf,(zwu (env0:=env) (zlk j) f.size).1 f env [] [] 0 (Nat.le_refl _) (by simp) (fun w=>⟨by simp,fun _=>rfl⟩),List.mem_map]
  constructor
  ·rintro⟨w,h,e⟩;exact .inr ⟨w,(ze2 f w).1 h,e.symm⟩
  ·rintro(h|⟨w,h,e⟩)
   ·simp at h
   ·exact⟨w,(ze2 f w).2 h,e.symm⟩
 have hv:vg (zg3 env (zcy f))=vg (zo4 f env):=by
  funext k
  unfold vg
  rw[zoO hu]
 unfold zaN zxX
 rw[hv]
 have:=(zzu (used:=zo4 f env) (N:=(zoL f env).2) f.size).1 f env env 0 (Nat.le_refl _) hf (Nat.le_refl _) rfl (List.map_congr_left fun b hb=>(zjd (hto b hb)).symm)
 rw[show ctr (zo4 f env) 0 0=0 from rfl]at this
 rw[this]
 rfl
end Go.Abs
namespace Go.Abs
open Go
mutual
def zac.depth:zac→Nat
 | .mk _ _ _ s=>zac.depths s+1
def zac.depths:List zac→Nat
 |[]=>0
 |f::fs=>max f.depth (zac.depths fs)
end
def zk0 (f:zac):Bool:=decide (f.size≤200∧f.depth≤40)
mutual
theorem zac.depth_size:∀f:zac,f.depth≤f.size
 | .mk k n w s=>by rw[zac.depth,zac.size];have:=zac.depths_size s;omega
theorem zac.depths_size:∀fs:List zac,zac.depths fs≤zac.sizes fs
 |[]=>by rw[zac.depths,zac.sizes];exact Nat.le_refl _
 |f::fs=>by rw[zac.depths,zac.sizes];have:=f.depth_size;have:=zac.depths_size fs;omega
end
theorem zac.sizes_app:∀a b:List zac,zac.sizes (a++b)=zac.sizes a+zac.sizes b
 |[],b=>by rw[List.nil_append,zac.sizes];omega
 |f::a,b=>by rw[List.cons_append,zac.sizes,zac.sizes,zac.sizes_app a b];omega
theorem zac.depths_app:∀a b:List zac,zac.depths (a++b)=max (zac.depths a) (zac.depths b)
 |[],b=>by rw[List.nil_append,zac.depths];omega
 |f::a,b=>by rw[List.cons_append,zac.depths,zac.depths,zac.depths_app a b];omega
mutual
theorem zpn {op:Bool}:∀(f:zac) (d:Int) (n:Nat),(chk op f d n).1.code=0→(chk op f d n).2=n+f.size
 | .mk k nm w s,d,n,h=>by
  rw[chk]at h ⊢
  split at h
  ·rename_i h1;exact absurd h h1
  ·rename_i h1
   rw[if_neg h1,zac.size,zmb s _ _ h];omega
theorem zmb {op:Bool}:∀(fs:List zac) (d:Int) (n:Nat),(zej op fs d n).1.code=0→(zej op fs d n).2=n+zac.sizes fs
 |[],d,n,_=>by rw[zej,zac.sizes];rfl
 |f::fs,d,n,h=>by
  rw[zej]at h ⊢
  split at h
  ·rename_i h1;exact absurd h h1
  ·rename_i h1
   have h2:=zpn f d n (Decidable.not_not.1 h1)
   rw[if_neg h1,zmb fs d _ h,h2,zac.sizes];omega
end
theorem za3 {op:Bool}{f:zac}(h:(zaV op f).code=0):f.size≤200:=by
 have h1:=zpn f 1 0 h
 have h2:=(zsL f 1 0 h).2.1
 omega
theorem zm7 {s:Str}(h:zav s=true):¬zgK s:=by
 unfold zav at h
 have h:=(of_decide_eq_true h).2.2.1
 intro hb
 unfold zgK at hb
 have h0:s.l.getD 0 0=33:=by rw[List.getD_eq_getElem?_getD,←List.head?_eq_getElem?,hb];rfl
 rw[h0]at h
 exact absurd h (by decide)
theorem zcO {op:Bool}{f:zac}{d:Int}{n:Nat}(h:zdb op f d n=0):f.words.all zav=true∧(named f=true→zav f.name=true)∧(named f=false→f.name=⟨[]⟩)∧zdB f=true∧(f.subs.length:Int)=za7 op f:=by
 unfold zdb at h
 split at h
 ·simp at h
 split at h
 ·simp at h
 split at h
 ·simp at h
 rename_i h3
 split at h
 ·simp at h
 rename_i h4
 split at h
 ·simp at h
 rename_i h5
 split at h
 ·simp at h
 rename_i h6
 have h7:=Decidable.not_not.1 h3
 refine⟨by simpa using h6,fun h8=>?_,fun h8=>?_,h7.2,h7.1⟩
 ·cases hn:zav f.name with
  |true=>rfl
  |false=>exact absurd ⟨h8,hn⟩ h4
 ·exact Decidable.not_not.1 fun hn=>h5 ⟨h8,hn⟩
mutual
theorem zsI {op:Bool}:∀(f:zac) (d:Int) (n:Nat),(chk op f d n).1.code=0→zeO f
 | .mk k nm w s,d,n,h=>by
  rw[chk]at h
  split at h
  ·rename_i h1;exact absurd h h1
  ·rename_i h1
   have h2:=(zcO (Decidable.not_not.1 h1)).1
   rw[zeO]
   exact⟨fun x hx=>zm7 (List.all_eq_true.1 h2 x hx),zjH s _ _ h⟩
theorem zjH {op:Bool}:∀(fs:List zac) (d:Int) (n:Nat),(zej op fs d n).1.code=0→zcB fs
 |[],d,n,_=>by rw[zcB];trivial
 |f::fs,d,n,h=>by
  rw[zej]at h
  split at h
  ·rename_i h1;exact absurd h h1
  ·rename_i h1
   rw[zcB]
   exact⟨zsI f d n (Decidable.not_not.1 h1),zjH fs d _ h⟩
end
theorem fits_mem:∀l:List zac,zac.fits l=true↔∀f∈l,f.fit=true
 |[]=>by rw[zac.fits];simp
 |f::l=>by rw[zac.fits,Bool.and_eq_true,fits_mem l];simp
theorem znx {c:Nat}:∀l:List zac,(∀f∈l,f.size≤c)→zac.sizes l≤l.length*c
 |[],_=>by rw[zac.sizes];omega
 |f::l,h=>by
  rw[zac.sizes,List.length_cons,Nat.add_mul,Nat.one_mul]
  have h1:=h f (by simp)
  have h2:=znx l fun g hg=>h g (by simp[hg])
  omega
theorem ztJ (env:List zbg)(w:Str):∀i,i≤env.length→zhM env w i=w∨∃b∈env,zhM env w i=b.to
 |0,_=> .inl rfl
 |i+1,h=>by
  rw[zhM]
  split
  ·refine .inr ⟨env.getD i default,?_,rfl⟩
   rw[List.getD_eq_getElem?_getD,List.getElem?_eq_getElem (by omega)]
   exact List.getElem_mem _
  ·exact ztJ env w i (by omega)
theorem zxI (env:List zbg)(w:Str):lkp env w=w∨∃b∈env,lkp env w=b.to:=ztJ env w _ (Nat.le_refl _)
mutual
theorem zlu (g:Nat→Str×Nat):∀(f:zac) (env:List zbg) (n:Nat),(ren g f env n).1.size=f.size
 | .mk k nm ws s,env,n=>by
  rw[ren]
  split
  ·rw[zac.size,zac.size,ziZ g s]
  ·rw[zac.size,zac.size,ziZ g s]
theorem ziZ (g:Nat→Str×Nat):∀(fs:List zac) (env:List zbg) (n:Nat),zac.sizes (zbd g fs env n).1=zac.sizes fs
 |[],env,n=>by rw[zbd]
 |f::fs,env,n=>by rw[zbd,zac.sizes,zac.sizes,zlu g f,ziZ g fs]
end
mutual
theorem zoT (g:Nat→Str×Nat):∀(f:zac) (env:List zbg) (n:Nat),(ren g f env n).1.fit=f.fit
 | .mk k nm ws s,env,n=>by
  rw[ren]
  split
  ·rw[zac.fit,zac.fit,zlx g s,List.length_map,zdj]
  ·rw[zac.fit,zac.fit,zlx g s,List.length_map,zdj]
theorem zlx (g:Nat→Str×Nat):∀(fs:List zac) (env:List zbg) (n:Nat),zac.fits (zbd g fs env n).1=zac.fits fs
 |[],env,n=>by rw[zbd]
 |f::fs,env,n=>by rw[zbd,zac.fits,zac.fits,zoT g f,zlx g fs]
end
theorem zm2 {env:List zbg}{ws:List Str}(h:∀w∈ws,¬zgK w)(he:∀b∈env,¬zgK b.to):∀w∈ws.map (lkp env),¬zgK w:=by
 intro w hw
 obtain⟨x,hx,rfl⟩:=List.mem_map.1 hw
 rcases zxI env x with e|⟨b,hb,e⟩
 ·rw[e];exact h x hx
 ·rw[e];exact he b hb
mutual
theorem zub {g:Nat→Str×Nat}(hg:∀k,¬zgK (g k).1):∀(f:zac) (env:List zbg) (n:Nat),zeO f→(∀b∈env,¬zgK b.to)→zeO (ren g f env n).1
 | .mk k nm ws s,env,n,h,he=>by
  rw[zeO]at h
  rw[ren]
  split
  ·rw[zeO]
   refine⟨zm2 h.1 he,zg0 hg s _ _ h.2 fun b hb=>?_⟩
   rcases List.mem_append.1 hb with hb|hb
   ·exact he b hb
   ·rw[List.mem_singleton.1 hb];exact hg n
  ·rw[zeO]
   exact⟨zm2 h.1 he,zg0 hg s _ _ h.2 he⟩
theorem zg0 {g:Nat→Str×Nat}(hg:∀k,¬zgK (g k).1):∀(fs:List zac) (env:List zbg) (n:Nat),zcB fs→(∀b∈env,¬zgK b.to)→zcB (zbd g fs env n).1
 |[],env,n,_,_=>by rw[zbd,zcB];trivial
 |f::fs,env,n,h,he=>by
  rw[zcB]at h
  rw[zbd,zcB]
  exact⟨zub hg f _ _ h.1 he,zg0 hg fs _ _ h.2 he⟩
end
theorem zfG (f:zac)(env:List zbg):(zaN f env).size=f.size:=zlu _ f env 0
theorem zqG (f:zac)(env:List zbg):(zaN f env).fit=f.fit:=zoT _ f env 0
def zeq (k:Int):List zac→zac
 |[]=> .mk 0 ⟨[]⟩ [] []
 |f::l=>l.foldl (fun a x=> .mk k ⟨[]⟩ [] [a,x]) f
theorem zgS (k:Int):∀(l:List zac) (f:zac),((l.foldl (fun a x=>zac.mk k ⟨[]⟩ [] [a,x]) f).size=f.size+zac.sizes l+l.length)∧((l.foldl (fun a x=>zac.mk k ⟨[]⟩ [] [a,x]) f).fit=(f.fit&&zac.fits l))∧(zeO (l.foldl (fun a x=>zac.mk k ⟨[]⟩ [] [a,x]) f)↔zeO f∧zcB l)
 |[],f=>by rw[zac.sizes,zac.fits,zcB];simp
 |x::l,f=>by
  rw[List.foldl_cons]
  obtain⟨h1,h2,h3⟩:=zgS k l (.mk k ⟨[]⟩ [] [f,x])
  refine⟨?_,?_,?_⟩
  ·rw[h1];simp only[zac.size,zac.sizes,List.length_cons];omega
  ·rw[h2];simp only[zac.fit,zac.fits,List.length_nil,List.length_cons,Nat.zero_le,decide_true,Bool.true_and,Bool.and_true,Bool.and_assoc];rfl
  ·rw[h3];simp only[zeO,zcB,List.not_mem_nil,false_implies,implies_true,true_and,and_true,and_assoc]
theorem zrm (k:Int)(l:List zac):(zeq k l).size≤zac.sizes l+l.length+1:=by
 cases l with
 |nil=>simp only[zeq,zac.size,zac.sizes,List.length_nil];omega
 |cons f l=>
  have:=(zgS k l f).1
  show(l.foldl (fun a x=>zac.mk k ⟨[]⟩ [] [a,x]) f).size≤_
  rw[this,zac.sizes,List.length_cons];omega
theorem ztx (k:Int){l:List zac}(h:zac.fits l=true):(zeq k l).fit=true:=by
 cases l with
 |nil=>simp only[zeq,zac.fit,zac.fits,List.length_nil,Nat.zero_le,decide_true,Bool.true_and]
 |cons f l=>
  show(l.foldl (fun a x=>zac.mk k ⟨[]⟩ [] [a,x]) f).fit=_
  rw[(zgS k l f).2.1];rwa [zac.fits]at h
def zhP:zac:= .mk 0 ⟨[]⟩ [] []
end Go.Abs
namespace Go.Abs
open Go
structure zb8 where
 label:Str
 form:zac
deriving DecidableEq
structure znX where
 hole:Str
 label:Str
deriving DecidableEq
structure zar where
 pieces:List zb8
 overs:List znX
 vars:List Str
deriving DecidableEq
@[go_sem] theorem zag {p:zb8}:zb8.mk p.label p.form=p:=by cases p;rfl
@[go_sem] theorem zai {p:znX}:znX.mk p.hole p.label=p:=by cases p;rfl
@[go_sem] theorem zae {p:zar}:zar.mk p.pieces p.overs p.vars=p:=by cases p;rfl
instance:Inhabited znX:=⟨⟨⟨[]⟩,⟨[]⟩⟩⟩
instance:Inhabited zb8:=⟨⟨⟨[]⟩,default⟩⟩
instance:Enc znX:=⟨fun b=> .agg [.s b.hole.l,.s b.label.l],fun x=>match x with| .agg [.s a,.s b]=>⟨⟨a⟩,⟨b⟩⟩|_=>⟨⟨[]⟩,⟨[]⟩⟩,fun b=>by cases b;rfl⟩
@[go_sem] theorem zpC {b:znX}:enc b= .agg [.s b.hole.l,.s b.label.l]:=rfl
@[go_sem] theorem zDt {a b:List UInt8}:dec (α:=znX) (.agg [.s a,.s b])=⟨⟨a⟩,⟨b⟩⟩:=rfl
instance:Kc znX 2:=⟨fun _=>rfl⟩
@[go_sem] theorem zAQ {l:List znX}:zbC (l.map enc) 2=True:=eq_true (zdS l)
@[go_sem] theorem zyJ {l:List znX}:(zaf (l.map enc)).all zcp=true:=by
 rw[List.all_eq_true]
 intro d hd
 simp only[zaf,List.mem_flatMap,List.mem_map]at hd
 obtain⟨_,⟨a,_,rfl⟩,x,hx,rfl⟩:=hd
 simp only[zpC,FD.cells,List.mem_cons,List.not_mem_nil,or_false]at hx
 rcases hx with rfl|rfl<;>rfl
instance:Enc zb8:=⟨fun p=> .agg [.s p.label.l,.i .i64 p.form.kind,.s p.form.name.l,.sl (p.form.words.map enc),.sl (p.form.subs.map enc)],
 fun x=>match x with| .agg [.s a,.i _ k,.s n,.sl w,.sl s]=>⟨⟨a⟩,.mk k ⟨n⟩ (w.map dec) (s.map dec)⟩|_=>⟨⟨[]⟩,default⟩,fun p=>by
  cases p with
  |mk l f=>simp only[zbW];rw[show(⟨f.name.l⟩:Str)=f.name from rfl,zab]⟩
@[go_sem] theorem zmu {p:zb8}:enc p= .agg [.s p.label.l,.i .i64 p.form.kind,.s p.form.name.l,.sl (p.form.words.map enc),.sl (p.form.subs.map enc)]:=rfl
@[go_sem] theorem zBu {i a k n w s}:dec (α:=zb8) (.agg [.s a,.i i k,.s n,.sl w,.sl s])=⟨⟨a⟩,.mk k ⟨n⟩ (dec (.sl w)) (dec (.sl s))⟩:=rfl
instance:Kc zb8 5:=⟨fun _=>rfl⟩
@[go_sem] theorem zze {l:List zb8}:zbC (l.map enc) 5=True:=eq_true (zdS l)
@[go_sem] theorem zxy {l:List zb8}:(zaf (l.map enc)).all zcp=true:=by
 rw[List.all_eq_true]
 intro d hd
 simp only[zaf,List.mem_flatMap,List.mem_map]at hd
 obtain⟨_,⟨a,_,rfl⟩,x,hx,rfl⟩:=hd
 simp only[zmu,FD.cells,List.mem_cons,List.not_mem_nil,or_false]at hx
 rcases hx with rfl|rfl|rfl|rfl|rfl<;>rfl
instance:Enc zar:=⟨fun s=> .agg [.sl (s.pieces.map enc),.sl (s.overs.map enc),.sl (s.vars.map enc)],
 fun x=>match x with| .agg [.sl a,.sl b,.sl c]=>⟨a.map dec,b.map dec,c.map dec⟩|_=>⟨[],[],[]⟩,fun p=>by
  cases p;simp only[zbW]⟩
@[go_sem] theorem zdm {s:zar}:enc s= .agg [.sl (s.pieces.map enc),.sl (s.overs.map enc),.sl (s.vars.map enc)]:=rfl
@[go_sem] theorem zz6 {a b c}:dec (α:=zar) (.agg [.sl a,.sl b,.sl c])=⟨dec (.sl a),dec (.sl b),dec (.sl c)⟩:=rfl
mutual
def zau:zac→List Str
 | .mk k nm _ s=>if k=10 then[nm]else zaP s
def zaP:List zac→List Str
 |[]=>[]
 |f::fs=>zau f++zaP fs
end
mutual
def zde:zac→List Str
 | .mk k nm _ s=>(if k=10 then[nm]else[])++za1 s
def za1:List zac→List Str
 |[]=>[]
 |f::fs=>zde f++za1 fs
end
theorem zmN {f:zac}:zau f=if f.kind=10 then[f.name]else zaP f.subs:=by cases f;rw[zau];rfl
theorem ztq {f:zac}:zde f=(if f.kind=10 then[f.name]else[])++za1 f.subs:=by cases f;rw[zde];rfl
theorem ziC:∀a b:List zac,zaP (a++b)=zaP a++zaP b
 |[],b=>by rw[zaP];rfl
 |f::a,b=>by rw[List.cons_append,zaP,zaP,ziC a b,List.append_assoc]
theorem ziE:∀a b:List zac,za1 (a++b)=za1 a++za1 b
 |[],b=>by rw[za1];rfl
 |f::a,b=>by rw[List.cons_append,za1,za1,ziE a b,List.append_assoc]
theorem zhm {s:List zac}{i:Nat}(h:i<s.length):zaP (s.take (i+1))=zaP (s.take i)++zau s[i]:=by
 rw[List.take_succ_eq_append_getElem h,ziC,zaP,zaP,List.append_nil]
theorem zhn {s:List zac}{i:Nat}(h:i<s.length):za1 (s.take (i+1))=za1 (s.take i)++zde s[i]:=by
 rw[List.take_succ_eq_append_getElem h,ziE,za1,za1,List.append_nil]
mutual
theorem zbM:∀f:zac,(zau f).length≤f.size
 | .mk k nm ws s=>by
  rw[zau,zac.size]
  split
  ·simp
  ·have:=zfM s;omega
theorem zfM:∀fs:List zac,(zaP fs).length≤zac.sizes fs
 |[]=>by rw[zaP];simp
 |f::fs=>by rw[zaP,zac.sizes,List.length_append];have:=zbM f;have:=zfM fs;omega
end
mutual
theorem zrl:∀f:zac,(zde f).length≤f.size
 | .mk k nm ws s=>by
  rw[zde,zac.size,List.length_append]
  have:=zfN s
  split
  ·simp;omega
  ·simp;omega
theorem zfN:∀fs:List zac,(za1 fs).length≤zac.sizes fs
 |[]=>by rw[za1];simp
 |f::fs=>by rw[za1,zac.sizes,List.length_append];have:=zrl f;have:=zfN fs;omega
end
mutual
theorem zl9 {op:Bool}:∀(f:zac) (d:Int) (n:Nat),(chk op f d n).1.code=0→zde f=zau f
 | .mk k nm w s,d,n,h=>by
  rw[chk]at h
  split at h
  ·rename_i h1;exact absurd h h1
  ·rename_i h1
   have h2:=(zcO (Decidable.not_not.1 h1)).2.2.2.2
   have h3:=zjI s _ _ h
   rw[zde,zau]
   split
   ·rename_i hk
    subst hk
    simp only[zaU]at h2
    have:za7 op (zac.mk 10 nm w s)≤0:=by
     unfold za7 zcd
     simp only[zaG]
     repeat'(split<;>try decide)
     all_goals omega
    have hs:s=[]:=List.eq_nil_of_length_eq_zero (by omega)
    subst hs
    rw[za1];rfl
   ·rw[h3,List.nil_append]
theorem zjI {op:Bool}:∀(fs:List zac) (d:Int) (n:Nat),(zej op fs d n).1.code=0→za1 fs=zaP fs
 |[],d,n,_=>by rw[za1,zaP]
 |f::fs,d,n,h=>by
  rw[zej]at h
  split at h
  ·rename_i h1;exact absurd h h1
  ·rename_i h1
   rw[za1,zaP,zl9 f d n (Decidable.not_not.1 h1),zjI fs d _ h]
end
theorem zc1 {op:Bool}{f:zac}(h:(zaV op f).code=0):zde f=zau f:=zl9 f 1 0 h
def zom:List Str→List Str→Bool
 |_,[]=>false
 |all,h::hs=>decide (h∈all)||zom (all++[h]) hs
def zcD (labels all:List Str)(p:zb8):Int:=
 if zav p.label=false then 10 else if p.label∈labels then 7 else if(zaV true p.form).code≠0 then(zaV true p.form).code else if zom all (zau p.form)=true then 7 else 0
def zgv:List Str→List Str→List zb8→Nat→zhH
 |_,_,[],_=>⟨0,0⟩
 |l,a,p::ps,i=>if zcD l a p≠0 then⟨zcD l a p,i⟩else zgv (l++[p.label]) (a++zau p.form) ps (i+1)
def zbn (labels all:List Str)(o:znX):Bool:=decide (o.hole∈all)&&decide (o.label∈labels)
def zqo (bef:List Str)(v:Str):Int:=if zav v=false then 10 else if v∈bef then 7 else 0
def zgw:List Str→List Str→Int
 |_,[]=>0
 |b,v::vs=>if zqo b v≠0 then zqo b v else zgw (b++[v]) vs
def zcu (l:List zb8):Nat:=zac.sizes (l.map (·.form))
def zdh:List zb8→Nat
 |[]=>0
 |p::ps=>p.form.depth+zdh ps
def zaK (l:List zb8):List Str:=l.map (·.label)
def za5 (l:List zb8):List Str:=l.flatMap fun p=>zau p.form
def zaZ (s:zar):zhH:=
 if s.pieces.length=0∨6<s.pieces.length then⟨2, -1⟩
 else if(zgv [] [] s.pieces 0).code≠0 then zgv [] [] s.pieces 0
 else if 200<zcu s.pieces∨40<zdh s.pieces then⟨1, -1⟩
 else if 300<s.overs.length then⟨2, -2⟩
 else if s.overs.all (zbn (zaK s.pieces) (za5 s.pieces))=false then⟨6, -2⟩
 else if 6<s.vars.length then⟨2, -3⟩
 else if zgw [] s.vars≠0 then⟨zgw [] s.vars, -3⟩else⟨0,0⟩
theorem znv {s:zar}(h0:¬s.pieces.length=0)(h6:¬6<s.pieces.length):zaZ s=if(zgv [] [] s.pieces 0).code≠0 then zgv [] [] s.pieces 0
 else if 200<zcu s.pieces∨40<zdh s.pieces then⟨1, -1⟩
 else if 300<s.overs.length then⟨2, -2⟩
 else if s.overs.all (zbn (zaK s.pieces) (za5 s.pieces))=false then⟨6, -2⟩
 else if 6<s.vars.length then⟨2, -3⟩
 else if zgw [] s.vars≠0 then⟨zgw [] s.vars, -3⟩else⟨0,0⟩:=by
 unfold zaZ;rw[if_neg (by omega)]
theorem zmn:∀a b:List zb8,zdh (a++b)=zdh a+zdh b
 |[],b=>by rw[zdh];simp
 |p::a,b=>by rw[List.cons_append,zdh,zdh,zmn a b];omega
theorem ziS {l:List zb8}{i:Nat}(h:i<l.length):zcu (l.take (i+1))=zcu (l.take i)+l[i].form.size:=by
 unfold zcu
 rw[List.take_succ_eq_append_getElem h,List.map_append,zac.sizes_app]
 simp[zac.sizes]
theorem zjO {l:List zb8}{i:Nat}(h:i<l.length):zdh (l.take (i+1))=zdh (l.take i)+l[i].form.depth:=by
 rw[List.take_succ_eq_append_getElem h,zmn,zdh,zdh];omega
theorem zhp {l:List zb8}{i:Nat}(h:i<l.length):zaK (l.take (i+1))=zaK (l.take i)++[l[i].label]:=by
 unfold zaK;rw[List.take_succ_eq_append_getElem h,List.map_append];rfl
theorem zl3 {l:List zb8}{i:Nat}(h:i<l.length):za5 (l.take (i+1))=za5 (l.take i)++zau l[i].form:=by
 unfold za5;rw[List.take_succ_eq_append_getElem h,List.flatMap_append];simp
theorem zke {l a:List Str}{ps:List zb8}{i:Nat}(h:i<ps.length):zgv l a (ps.drop i) i=if zcD l a ps[i]≠0 then⟨zcD l a ps[i],i⟩else zgv (l++[ps[i].label]) (a++zau ps[i].form) (ps.drop (i+1)) (i+1):=by
 rw[List.drop_eq_getElem_cons h,zgv]
theorem zkf {b vs:List Str}{i:Nat}(h:i<vs.length):zgw b (vs.drop i)=if zqo b vs[i]≠0 then zqo b vs[i]else zgw (b++[vs[i]]) (vs.drop (i+1)):=by
 rw[List.drop_eq_getElem_cons h,zgw]
theorem zmp {a hs:List Str}{i:Nat}(h:i<hs.length):zom a (hs.drop i)=(decide (hs[i]∈a)||zom (a++[hs[i]]) (hs.drop (i+1))):=by
 rw[List.drop_eq_getElem_cons h,zom]
end Go.Abs
namespace Go.Abs
open Go
structure zc8 where
 name:Str
 value:Int
deriving DecidableEq
structure zrZ where
 name:Str
 arity:Int
 tuples:List (List Int)
deriving DecidableEq
structure zdg where
 size:Int
 consts:List zc8
 rels:List zrZ
deriving DecidableEq
instance:Inhabited zc8:=⟨⟨⟨[]⟩,0⟩⟩
instance:Inhabited zrZ:=⟨⟨⟨[]⟩,0,[]⟩⟩
@[go_sem] theorem zBp {c:zc8}:zc8.mk c.name c.value=c:=by cases c;rfl
@[go_sem] theorem zGI {r:zrZ}:zrZ.mk r.name r.arity r.tuples=r:=by cases r;rfl
@[go_sem] theorem zCG {m:zdg}:zdg.mk m.size m.consts m.rels=m:=by cases m;rfl
instance:Enc zc8:=⟨fun c=> .agg [.s c.name.l,.i .i64 c.value],fun x=>match x with| .agg [.s a,.i _ n]=>⟨⟨a⟩,n⟩|_=>default,fun c=>by cases c;rfl⟩
@[go_sem] theorem zs6 {c:zc8}:enc c= .agg [.s c.name.l,.i .i64 c.value]:=rfl
@[go_sem] theorem zBs {a i n}:dec (α:=zc8) (.agg [.s a,.i i n])=⟨⟨a⟩,n⟩:=rfl
instance:Kc zc8 2:=⟨fun _=>rfl⟩
@[go_sem] theorem zzd {l:List zc8}:zbC (l.map enc) 2=True:=eq_true (zdS l)
@[go_sem] theorem zxx {l:List zc8}:(zaf (l.map enc)).all zcp=true:=by
 rw[List.all_eq_true]
 intro d hd
 simp only[zaf,List.mem_flatMap,List.mem_map]at hd
 obtain⟨_,⟨a,_,rfl⟩,x,hx,rfl⟩:=hd
 simp only[zs6,FD.cells,List.mem_cons,List.not_mem_nil,or_false]at hx
 rcases hx with rfl|rfl<;>rfl
instance:Enc zrZ:=⟨fun r=> .agg [.s r.name.l,.i .i64 r.arity,.sl (r.tuples.map enc)],fun x=>match x with| .agg [.s a,.i _ n,.sl t]=>⟨⟨a⟩,n,t.map dec⟩|_=>default,fun r=>by
 cases r;simp only[zbW]⟩
@[go_sem] theorem zyt {r:zrZ}:enc r= .agg [.s r.name.l,.i .i64 r.arity,.sl (r.tuples.map enc)]:=rfl
@[go_sem] theorem zE8 {a i n t}:dec (α:=zrZ) (.agg [.s a,.i i n,.sl t])=⟨⟨a⟩,n,dec (.sl t)⟩:=rfl
instance:Kc zrZ 3:=⟨fun _=>rfl⟩
@[go_sem] theorem zCA {l:List zrZ}:zbC (l.map enc) 3=True:=eq_true (zdS l)
@[go_sem] theorem zAi {l:List zrZ}:(zaf (l.map enc)).all zcp=true:=by
 rw[List.all_eq_true]
 intro d hd
 simp only[zaf,List.mem_flatMap,List.mem_map]at hd
 obtain⟨_,⟨a,_,rfl⟩,x,hx,rfl⟩:=hd
 simp only[zyt,FD.cells,List.mem_cons,List.not_mem_nil,or_false]at hx
 rcases hx with rfl|rfl|rfl<;>rfl
instance:Enc zdg:=⟨fun m=> .agg [.i .i64 m.size,.sl (m.consts.map enc),.sl (m.rels.map enc)],fun x=>match x with| .agg [.i _ n,.sl c,.sl r]=>⟨n,c.map dec,r.map dec⟩|_=>⟨0,[],[]⟩,fun m=>by
 cases m;simp only[zbW]⟩
@[go_sem] theorem zBy {m:zdg}:enc m= .agg [.i .i64 m.size,.sl (m.consts.map enc),.sl (m.rels.map enc)]:=rfl
@[go_sem] theorem zBt {i n c r}:dec (α:=zdg) (.agg [.i i n,.sl c,.sl r])=⟨n,dec (.sl c),dec (.sl r)⟩:=rfl
theorem zem:∀x y:List UInt8,Op.bytesLess x y=decide (x<y)
 |[],[]=>by simp[Op.bytesLess]
 |_::_,[]=>by simp[Op.bytesLess]
 |[],_::_=>by simp[Op.bytesLess]
 |a::x,b::y=>by
  rw[Op.bytesLess,zem x y]
  by_cases h1:a<b<;>by_cases h2:a=b<;>simp[h1,h2,List.cons_lt_cons_iff]
def zG2 (a b:Int):Int:=if a<b then-1 else if b<a then 1 else 0
def zG3:List Int→List Int→Int
 |[],[]=>0
 |[],_::_=> -1
 |_::_,[]=>1
 |a::as,b::bs=>if zG2 a b≠0 then zG2 a b else zG3 as bs
def ltR (a b:zrZ):Prop:=a.name.l<b.name.l∨(a.name=b.name∧a.arity<b.arity)
def zFc (m:zdg)(w:Str):Option zc8:=m.consts.find? fun c=>decide (c.name=w)
def zv1 (m:zdg)(w:Str)(n:Int):Option zrZ:=m.rels.find? fun r=>decide (r.name=w∧r.arity=n)
def zfO:List zc8→Str→Option Int
 |[],_=>none
 |e::es,w=>match zfO es w with
  |some v=>some v
  |none=>if e.name=w then some e.value else none
theorem zmU (w:Str):∀(a b:List zc8),zfO (a++b) w=match zfO b w with|some v=>some v|none=>zfO a w
 |[],b=>by rw[List.nil_append,zfO];cases zfO b w<;>rfl
 |e::a,b=>by
  rw[List.cons_append,zfO,zmU w a b,zfO]
  cases zfO b w<;>rfl
theorem zrn (a:List zc8)(e:zc8)(w:Str):zfO (a++[e]) w=if e.name=w then some e.value else zfO a w:=by
 rw[zmU,zfO,zfO]
 by_cases h:e.name=w
 ·rw[if_pos h,if_pos h]
 ·rw[if_neg h,if_neg h]
def zxq (m:zdg)(w:Str):Int:=match zFc m w with|some c=>c.value|none=>0
def zgE (m:zdg)(env:List zc8)(w:Str):Int:=match zfO env w with|some v=>v|none=>zxq m w
def zGO (m:zdg)(w:Str)(n:Int):List (List Int):=match zv1 m w n with|some r=>r.tuples|none=>[]
def zBL (m:zdg):List Int:=(List.range m.size.toNat).map Int.ofNat
mutual
def zzU (m:zdg):zac→List zc8→Bool
 | .mk k nm ws s,env=>
  if k=1 then true
  else if k=2 then decide (ws.map (zgE m env)∈zGO m nm ws.length)
  else if k=3 then decide (zgE m env (ws.getD 0 ⟨[]⟩)=zgE m env (ws.getD 1 ⟨[]⟩))
  else if k=4 then !(zeD m s env).getD 0 false
  else if k=5 then(zeD m s env).getD 0 false&&(zeD m s env).getD 1 false
  else if k=6 then(zeD m s env).getD 0 false||(zeD m s env).getD 1 false
  else if k=7 then !(zeD m s env).getD 0 false||(zeD m s env).getD 1 false
  else if k=8 then(zBL m).all fun v=>(zeD m s (env++[⟨nm,v⟩])).getD 0 false
  else if k=9 then(zBL m).any fun v=>(zeD m s (env++[⟨nm,v⟩])).getD 0 false
  else false
def zeD (m:zdg):List zac→List zc8→List Bool
 |[],_=>[]
 |f::fs,env=>zzU m f env::zeD m fs env
end
mutual
def zm8:zac→Nat
 | .mk k _ _ s=>zgq s+if isQ k then 1 else 0
def zgq:List zac→Nat
 |[]=>0
 |f::fs=>max (zm8 f) (zgq fs)
end
mutual
def zyP (m:zdg):zac→Bool
 | .mk k nm ws s=>(!decide (k=2)||(zv1 m nm ws.length).isSome)&&zk9 m s
def zk9 (m:zdg):List zac→Bool
 |[]=>true
 |f::fs=>zyP m f&&zk9 m fs
end
end Go.Abs
namespace Go.Abs
open Go
mutual
def vok:zac→Prop
 | .mk k _ ws s=>1≤k∧k≤9∧(k=2→ws.length≤3)∧(k=3→ws.length=2)∧(k=4∨k=8∨k=9→s.length=1)∧(k=5∨k=6∨k=7→s.length=2)∧zh2 s
def zh2:List zac→Prop
 |[]=>True
 |f::fs=>vok f∧zh2 fs
end
theorem zlR:∀l:List zac,zh2 l↔∀f∈l,vok f
 |[]=>by rw[zh2];simp
 |f::l=>by rw[zh2,zlR l];simp
theorem zqq {f:zac}:vok f↔1≤f.kind∧f.kind≤9∧(f.kind=2→f.words.length≤3)∧(f.kind=3→f.words.length=2)∧(f.kind=4∨f.kind=8∨f.kind=9→f.subs.length=1)∧(f.kind=5∨f.kind=6∨f.kind=7→f.subs.length=2)∧zh2 f.subs:=by
 cases f;rw[vok];rfl
mutual
theorem zyh:∀(f:zac) (d:Int) (n:Nat),(chk false f d n).1.code=0→vok f
 | .mk k nm w s,d,n,h=>by
  rw[chk]at h
  split at h
  ·rename_i h1;exact absurd h h1
  ·rename_i h1
   have h2:=zcO (Decidable.not_not.1 h1)
   have h3:=h2.2.2.2.2
   have h4:(if k=2 then decide (w.length≤3)else if k=3 then decide (w.length=2)else decide (w.length=0))=true:=h2.2.2.2.1
   simp only[zaU]at h3
   have h5:za7 false (.mk k nm w s)=zcd k:=by unfold za7;simp[zaG]
   rw[h5]at h3
   unfold zcd at h3
   rw[vok]
   have h6:=zpq s _ _ h
   refine⟨?_,?_,fun e=>?_,fun e=>?_,fun e=>?_,fun e=>?_,h6⟩
   ·repeat'(first|omega|split at h3)
   ·repeat'(first|omega|split at h3)
   ·rw[if_pos e]at h4;simpa using h4
   ·rw[if_neg (by omega),if_pos e]at h4;simpa using h4
   ·rw[if_neg (by omega),if_pos e]at h3;omega
   ·rw[if_neg (by omega),if_neg (by omega),if_pos e]at h3;omega
theorem zpq:∀(fs:List zac) (d:Int) (n:Nat),(zej false fs d n).1.code=0→zh2 fs
 |[],d,n,_=>by rw[zh2];trivial
 |f::fs,d,n,h=>by
  rw[zej]at h
  split at h
  ·rename_i h1;exact absurd h h1
  ·rename_i h1
   rw[zh2]
   exact⟨zyh f d n (Decidable.not_not.1 h1),zpq fs d _ h⟩
end
structure zKq (m:zdg):Prop where
 c:∀i j (hi:i<m.consts.length) (hj:j<m.consts.length),i<j→m.consts[i].name.l<m.consts[j].name.l
 r:∀i j (hi:i<m.rels.length) (hj:j<m.rels.length),i<j→ltR m.rels[i] m.rels[j]
 t:∀r∈m.rels,∀i j (hi:i<r.tuples.length) (hj:j<r.tuples.length),i<j→zG3 r.tuples[i] r.tuples[j]<0
 s1:1≤m.size
 s6:m.size≤6
 lc:m.consts.length≤10000000
 lr:m.rels.length≤300
end Go.Abs

/- several texts of this proof in one; no conditions -/
import Derived.Test.YtmconmiemdinkaaGreatDoorY14
import Derived.Test.YtmconmiemdinkaaGreatDoorY8
set_option linter.unusedSimpArgs false
namespace Go.Abs
open Go
mutual
def zab.fit:zab→Bool
 | .mk _ _ w s=>decide (w.length≤1000)&&decide (s.length≤1000)&&zab.fits s
def zab.fits:List zab→Bool
 |[]=>true
 |f::fs=>f.fit&&zab.fits fs
end
theorem zab.fits_mem:∀{l:List zab} {f:zab},zab.fits l=true→f∈l→f.fit=true
 |g::l,f,h,hm=>by
  rw[zab.fits,Bool.and_eq_true]at h
  rcases List.mem_cons.1 hm with rfl|hm
  ·exact h.1
  ·exact zab.fits_mem h.2 hm
theorem zab.fit_eq {f:zab}(h:f.fit=true):f.words.length≤1000∧f.subs.length≤1000∧zab.fits f.subs=true:=by
 cases f;rw[zab.fit]at h
 simp only[Bool.and_eq_true,decide_eq_true_eq]at h
 exact⟨h.1.1,h.1.2,h.2⟩
theorem zsS {op:Bool}{f:zab}{d:Int}{n:Nat}(h:zeb op f d n=0):f.words.length≤1000∧f.subs.length≤1000:=by
 unfold zeb at h
 split at h
 ·simp at h
 split at h
 ·simp at h
 split at h
 ·simp at h
 rename_i h1 h2 h3
 have h4:=Decidable.not_not.1 h3
 have h5:zbe op f≤2:=by
  unfold zbe zcw
  repeat'(split<;>try decide)
 have h6:=h4.2
 unfold zdf at h6
 refine⟨?_,by omega⟩
 split at h6
 ·simp only[decide_eq_true_eq]at h6;omega
 split at h6
 ·simp only[decide_eq_true_eq]at h6;omega
 ·simp only[decide_eq_true_eq]at h6;omega
mutual
theorem zrL {op:Bool}:∀(f:zab) (d:Int) (n:Nat),(chk op f d n).1.code=0→f.fit=true
 | .mk k nm w s,d,n,h=>by
  rw[chk]at h
  split at h
  ·rename_i h1;exact absurd h h1
  rename_i h1
  have h2:=zsS (Decidable.not_not.1 h1)
  rw[zab.fit]
  simp only[Bool.and_eq_true,decide_eq_true_eq]
  exact⟨h2,zoq s _ _ h⟩
theorem zoq {op:Bool}:∀(fs:List zab) (d:Int) (n:Nat),(zea op fs d n).1.code=0→zab.fits fs=true
 |[],_,_,_=>by rw[zab.fits]
 |f::fs,d,n,h=>by
  rw[zea]at h
  split at h
  ·rename_i h1;exact absurd h h1
  rename_i h1
  rw[zab.fits,Bool.and_eq_true]
  exact⟨zrL f d n (Decidable.not_not.1 h1),zoq fs _ _ h⟩
end
theorem zcZ {op:Bool}{f:zab}(h:(zaX op f).code=0):f.fit=true:=zrL f 1 0 h
def zBL (l:List UInt8):Nat:=l.foldl (fun a d=>a*10+(d.toNat-48)) 0
theorem ztI (l:List UInt8)(d:UInt8):zBL (l++[d])=zBL l*10+(d.toNat-48):=by
 unfold zBL;rw[List.foldl_append];rfl
theorem zrY {u:Nat}(h:u<10):(UInt8.ofNat (48+u)).toNat-48=u:=by
 rw[UInt8.toNat_ofNat',Nat.mod_eq_of_lt (by omega)];omega
theorem zju:∀u,zBL (zbm u)=u:=by
 intro u
 unfold zbm
 induction u using Nat.strongRecOn with
 |_ u ih=>
  rw[Lib.decDigits]
  split
  ·rename_i h
   have:=zrY h
   simpa[zBL]using this
  ·rename_i h
   rw[ztI,ih (u / 10) (by omega),zrY (by omega)]
   omega
theorem zpQ {u v:Nat}(h:zbm u=zbm v):u=v:=by rw[←zju u,←zju v,h]
theorem zpR (u:Nat):(zbm u).length≤u+1:=zfG u
def zeW (k:Nat):Str:=⟨118::zbm k⟩
theorem zkX {u v:Nat}(h:zeW u=zeW v):u=v:=zpQ (List.cons.inj (Str.mk.inj h)).2
def zmY (w:Str):Prop:=w.l.head? =some 33
instance (w:Str):Decidable (zmY w):=inferInstanceAs (Decidable (_=_))
def zfi (used:List Str):Nat→Nat→Nat
 |0,k=>k
 |m+1,k=>if zeW k∈used then zfi used m (k+1)else k
def zb8 (used:List Str)(k:Nat):Nat:=zfi used used.length k
theorem zoR (used:List Str):∀m k,k≤zfi used m k∧zfi used m k≤k+m
 |0,k=>by simp[zfi]
 |m+1,k=>by
  rw[zfi]
  split
  ·have:=zoR used m (k+1);omega
  ·omega
theorem zia (used:List Str):∀m k i,k≤i→i<zfi used m k→zeW i∈used
 |0,k,i,h1,h2=>by simp only[zfi]at h2;omega
 |m+1,k,i,h1,h2=>by
  rw[zfi]at h2
  split at h2
  ·rename_i h
   rcases Nat.eq_or_lt_of_le h1 with rfl|h1
   ·exact h
   ·exact zia used m (k+1) i h1 h2
  ·omega
theorem zji (used:List Str):∀m k,zfi used m k<k+m→zeW (zfi used m k)∉used
 |0,k,h=>by simp[zfi]at h
 |m+1,k,h=>by
  rw[zfi]at h ⊢
  split
  ·rename_i h1
   rw[if_pos h1]at h
   exact zji used m (k+1) (by omega)
  ·assumption
theorem pig:∀(used:List Str) (S:List Nat),S.Nodup→(∀i∈S,zeW i∈used)→S.length≤used.length
 |[],S,_,h=>by
  cases S with
  |nil=>simp
  |cons i S=>have:=h i (by simp);simp at this
 |u::us,S,hn,h=>by
  by_cases he:∃i∈S,zeW i=u
  ·obtain⟨i,hi,rfl⟩:=he
   have h1:=pig us (S.erase i) (hn.erase i) fun j hj=>by
    have h2:=(List.Nodup.mem_erase_iff hn).1 hj
    rcases List.mem_cons.1 (h j h2.2)with h3|h3
    ·exact absurd (zkX h3) h2.1
    ·exact h3
   rw[List.length_erase_of_mem hi]at h1
   simp only[List.length_cons]
   omega
  ·have h1:=pig us S hn fun j hj=>by
    rcases List.mem_cons.1 (h j hj)with h3|h3
    ·exact absurd ⟨j,hj,h3⟩ he
    ·exact h3
   simp only[List.length_cons]
   omega
theorem zba (used:List Str)(k:Nat):k≤zb8 used k∧zb8 used k≤k+used.length∧zeW (zb8 used k)∉used∧∀i,k≤i→i<zb8 used k→zeW i∈used:=by
 unfold zb8
 have h1:=zoR used used.length k
 have h2:=zia used used.length k
 refine⟨h1.1,h1.2,?_,h2⟩
 rcases Nat.lt_or_ge (zfi used used.length k) (k+used.length)with h|h
 ·exact zji used _ _ h
 ·have he:zfi used used.length k=k+used.length:=by omega
  intro hin
  rw[he]at hin h2
  have h3:=pig used (List.range' k (used.length+1)) List.nodup_range' fun i hi=>by
   have:=List.mem_range'_1.1 hi
   rcases Nat.lt_or_ge i (k+used.length)with h4|h4
   ·exact h2 i this.1 h4
   ·obtain rfl:i=k+used.length:=by omega
    exact hin
  rw[List.length_range']at h3
  omega
theorem znO {a b:List Str}(h:∀j,zeW j∈a↔zeW j∈b)(k:Nat):zb8 a k=zb8 b k:=by
 obtain⟨a1,_,a3,a4⟩:=zba a k
 obtain⟨b1,_,b3,b4⟩:=zba b k
 rcases Nat.lt_trichotomy (zb8 a k) (zb8 b k)with h1|h1|h1
 ·exact absurd ((h _).2 (b4 _ a1 h1)) a3
 ·exact h1
 ·exact absurd ((h _).1 (a4 _ b1 h1)) b3
theorem zvg {used:List Str}{k:Nat}(h:zeW k∈used):zb8 used k=zb8 used (k+1):=by
 obtain⟨a1,_,a3,a4⟩:=zba used k
 obtain⟨b1,_,b3,b4⟩:=zba used (k+1)
 have h0:zb8 used k≠k:=by intro e;rw[e]at a3;exact a3 h
 rcases Nat.lt_trichotomy (zb8 used k) (zb8 used (k+1))with h1|h1|h1
 ·exact absurd (b4 _ (by omega) h1) a3
 ·exact h1
 ·exact absurd (a4 _ (by omega) h1) b3
theorem zsQ {used:List Str}{k:Nat}(h:zeW k∉used):zb8 used k=k:=by
 obtain⟨a1,_,a3,a4⟩:=zba used k
 rcases Nat.eq_or_lt_of_le a1 with h1|h1
 ·exact h1.symm
 ·exact absurd (a4 k (Nat.le_refl _) h1) h
structure za8 where
 fr:Str
 to:Str
 deriving DecidableEq,Inhabited
instance:Enc za8:=⟨fun b=> .agg [.s b.fr.l,.s b.to.l],fun x=>match x with| .agg [.s a,.s b]=>⟨⟨a⟩,⟨b⟩⟩|_=>⟨⟨[]⟩,⟨[]⟩⟩,fun b=>by cases b;rfl⟩
@[go_sem] theorem zur {b:za8}:enc b= .agg [.s b.fr.l,.s b.to.l]:=rfl
@[go_sem] theorem zBV {a b:List UInt8}:dec (α:=za8) (.agg [.s a,.s b])=⟨⟨a⟩,⟨b⟩⟩:=rfl
instance:Kc za8 2:=⟨fun _=>rfl⟩
@[go_sem] theorem zzr {l:List za8}:zbB (l.map enc) 2=True:=eq_true (zdt l)
@[go_sem] theorem zxn {l:List za8}:(zaf (l.map enc)).all zcf=true:=by
 rw[List.all_eq_true]
 intro d hd
 simp only[zaf,List.mem_flatMap,List.mem_map]at hd
 obtain⟨_,⟨a,_,rfl⟩,x,hx,rfl⟩:=hd
 simp only[zur,FD.cells,List.mem_cons,List.not_mem_nil,or_false]at hx
 rcases hx with rfl|rfl<;>rfl
def zh5 (env:List za8)(w:Str):Nat→Str
 |0=>w
 |i+1=>if(env.getD i default).fr=w then(env.getD i default).to else zh5 env w i
def lkp (env:List za8)(w:Str):Str:=zh5 env w env.length
theorem zoO (env:List za8)(b:za8)(w:Str):∀i,i≤env.length→zh5 (env++[b]) w i=zh5 env w i
 |0,_=>rfl
 |i+1,h=>by
  rw[zh5,zh5,zoO env b w i (by omega)]
  have:(env++[b]).getD i default=env.getD i default:=by
   rw[List.getD_eq_getElem?_getD,List.getD_eq_getElem?_getD,List.getElem?_append_left (by omega)]
  rw[this]
theorem zcj (env:List za8)(b:za8)(w:Str):lkp (env++[b]) w=if b.fr=w then b.to else lkp env w:=by
 unfold lkp
 rw[List.length_append,List.length_singleton,zh5,zoO env b w _ (Nat.le_refl _)]
 have:(env++[b]).getD env.length default=b:=by
  rw[List.getD_eq_getElem?_getD,List.getElem?_append_right (Nat.le_refl _),Nat.sub_self];rfl
 rw[this]
theorem zfh (w:Str):lkp [] w=w:=rfl
theorem zxX {env env':List za8}{s:Str→Str}(h1:env'.map (·.fr)=env.map (·.fr))(h2:env'.map (·.to)=env.map fun b=>s b.to){w:Str}(hw:s w=w):lkp env' w=s (lkp env w):=by
 have hl:env'.length=env.length:=by have:=congrArg List.length h1;simpa using this
 have key:∀i,i≤env.length→zh5 env' w i=s (zh5 env w i):=by
  intro i
  induction i with
  |zero=>intro _;exact hw.symm
  |succ i ih=>
   intro hi
   have e1:(env'.getD i default).fr=(env.getD i default).fr:=by
    have:=congrArg (fun l:List Str=>l[i]?) h1
    simp only[List.getElem?_map,List.getElem?_eq_getElem (show i<env.length by omega),List.getElem?_eq_getElem (show i<env'.length by omega),Option.map_some,Option.some.injEq]at this
    simp only[List.getD_eq_getElem?_getD,List.getElem?_eq_getElem (show i<env.length by omega),List.getElem?_eq_getElem (show i<env'.length by omega),Option.getD_some]
    exact this
   have e2:(env'.getD i default).to=s (env.getD i default).to:=by
    have:=congrArg (fun l:List Str=>l[i]?) h2
    simp only[List.getElem?_map,List.getElem?_eq_getElem (show i<env.length by omega),List.getElem?_eq_getElem (show i<env'.length by omega),Option.map_some,Option.some.injEq]at this
    simp only[List.getD_eq_getElem?_getD,List.getElem?_eq_getElem (show i<env.length by omega),List.getElem?_eq_getElem (show i<env'.length by omega),Option.getD_some]
    exact this
   rw[zh5,zh5,e1,e2,ih (by omega)]
   split<;>rfl
 unfold lkp
 rw[hl]
 exact key _ (Nat.le_refl _)
def isQ (k:Int):Prop:=k=8∨k=9
instance (k:Int):Decidable (isQ k):=inferInstanceAs (Decidable (_∨_))
mutual
def cst:zab→List Str→List Str
 | .mk k nm ws s,bd=>ws.filter (fun w=>decide (w∉bd))++zbR s (if isQ k then bd++[nm]else bd)
def zbR:List zab→List Str→List Str
 |[],_=>[]
 |f::fs,bd=>cst f bd++zbR fs bd
end
theorem zjU (bd:List Str):∀a b:List zab,zbR (a++b) bd=zbR a bd++zbR b bd
 |[],b=>by rw[zbR];rfl
 |f::a,b=>by rw[List.cons_append,zbR,zbR,zjU bd a b,List.append_assoc]
mutual
def ren (g:Nat→Str×Nat):zab→List za8→Nat→zab×Nat
 | .mk k nm ws s,env,n=>
  if isQ k then(.mk k (g n).1 (ws.map (lkp env)) (za5 g s (env++[⟨nm,(g n).1⟩]) (g n).2).1,(za5 g s (env++[⟨nm,(g n).1⟩]) (g n).2).2)
  else(.mk k nm (ws.map (lkp env)) (za5 g s env n).1,(za5 g s env n).2)
def za5 (g:Nat→Str×Nat):List zab→List za8→Nat→List zab×Nat
 |[],_,n=>([],n)
 |f::fs,env,n=>((ren g f env n).1::(za5 g fs env (ren g f env n).2).1,(za5 g fs env (ren g f env n).2).2)
end
theorem zoZ (g:Nat→Str×Nat)(env:List za8):∀(a b:List zab) (n:Nat),za5 g (a++b) env n=((za5 g a env n).1++(za5 g b env (za5 g a env n).2).1,(za5 g b env (za5 g a env n).2).2)
 |[],b,n=>by simp[za5]
 |f::a,b,n=>by rw[List.cons_append,za5,za5,zoZ g env a b];rfl
theorem zcB (g:Nat→Str×Nat)(env:List za8):∀(a:List zab) (n:Nat),(za5 g a env n).1.length=a.length
 |[],n=>by simp[za5]
 |f::a,n=>by rw[za5];simp[zcB g env a]
def vg (used:List Str)(k:Nat):Str×Nat:=(zeW (zb8 used k),zb8 used k+1)
theorem zmu {g:Nat→Str×Nat}{u:Nat}(hg:∀k,k≤(g k).2∧(g k).2≤k+u):
  (∀(f:zab) (env:List za8) (n:Nat),n≤(ren g f env n).2∧(ren g f env n).2≤n+u*f.size)∧∀(fs:List zab) (env:List za8) (n:Nat),n≤(za5 g fs env n).2∧(za5 g fs env n).2≤n+u*zab.sizes fs:=by
 suffices h:∀m,(∀(f:zab) (env:List za8) (n:Nat),f.size≤m→n≤(ren g f env n).2∧(ren g f env n).2≤n+u*f.size)∧∀(fs:List zab) (env:List za8) (n:Nat),zab.sizes fs≤m→n≤(za5 g fs env n).2∧(za5 g fs env n).2≤n+u*zab.sizes fs from
  ⟨fun f env n=>(h _).1 f env n (Nat.le_refl _),fun fs env n=>(h _).2 fs env n (Nat.le_refl _)⟩
 intro m
 induction m with
 |zero=>
  refine⟨fun f env n h=>by have:=f.size_pos;omega,fun fs env n h=>?_⟩
  cases fs with
  |nil=>simp[za5]
  |cons f fs=>rw[zab.sizes]at h;have:=f.size_pos;omega
 |succ m ih=>
  have h1:∀(f:zab) (env:List za8) (n:Nat),f.size≤m+1→n≤(ren g f env n).2∧(ren g f env n).2≤n+u*f.size:=by
   rintro⟨k,nm,ws,s⟩ env n h
   rw[zab.size]at h ⊢
   rw[Nat.mul_add,Nat.mul_one]
   rw[ren]
   split
   ·have h2:=ih.2 s (env++[⟨nm,(g n).1⟩]) (g n).2 (by omega)
    have h3:=hg n
    simp only
    omega
   ·have h2:=ih.2 s env n (by omega)
    simp only
    omega
  refine⟨h1,fun fs=>?_⟩
  induction fs with
  |nil=>intro env n h;simp[za5]
  |cons f fs ih2=>
   intro env n h
   rw[zab.sizes]at h ⊢
   rw[za5,Nat.mul_add]
   have h2:=h1 f env n (by omega)
   have h3:=ih2 env (ren g f env n).2 (by omega)
   simp only
   omega
theorem zqX (used:List Str)(k:Nat):k≤(vg used k).2∧(vg used k).2≤k+(used.length+1):=by
 have:=zba used k
 unfold vg
 simp only
 omega
def zbX (f:zab):List Str:=(zdS (zkK ((cst f []).map (·.l)))).map Str.mk
def zeZ (env:List za8)(used:List Str):List Str:=env.foldl (fun u b=>u.map fun w=>if w=b.fr then b.to else w) used
def zat (f:zab)(env:List za8):zab:=(ren (vg (zeZ env (zbX f))) f env 0).1
theorem zsM:∀(l:List (List UInt8)) (x:List UInt8),x∈zdS l↔x∈l:=by
 intro l x
 unfold zdS Lib.compact Lib.compactUpTo
 have hget:∀j (h:j<l.length),(l.toArray)[j]! =l[j]:=fun j h=>by simp[h]
 constructor
 ·intro h
  obtain⟨j,hj,rfl⟩:=List.mem_map.1 h
  have hj':j<l.length:=List.mem_range.1 (List.mem_filter.1 hj).1
  rw[hget j hj']
  exact List.getElem_mem hj'
 ·intro h
  obtain⟨j,hj,rfl⟩:=List.getElem_of_mem h
  induction j with
  |zero=>exact List.mem_map.2 ⟨0,List.mem_filter.2 ⟨List.mem_range.2 hj,by simp[Lib.keeps]⟩,hget 0 hj⟩
  |succ j ih=>
   by_cases he:l[j+1]=l[j]
   ·rw[he];exact ih (by omega) (List.getElem_mem _)
   ·exact List.mem_map.2 ⟨j+1,List.mem_filter.2 ⟨List.mem_range.2 hj,by
     simp only[Lib.keeps,decide_eq_true_eq,Nat.add_sub_cancel]
     rw[hget _ hj,hget j (by omega)]
     exact .inr he⟩,hget _ hj⟩
theorem zcE (f:zab)(x:Str):x∈zbX f↔x∈cst f []:=by
 unfold zbX
 simp only[List.mem_map,zsM,(zgt _).mem_iff]
 constructor
 ·rintro⟨y,⟨z,hz,rfl⟩,rfl⟩;exact hz
 ·intro h;exact⟨x.l,⟨x,h,rfl⟩,rfl⟩
theorem ziA (f:zab):(zbX f).length≤(cst f []).length:=by
 unfold zbX
 rw[List.length_map]
 refine Nat.le_trans (zll _) ?_
 rw[zil,List.length_map];exact Nat.le_refl _
theorem zmx (env:List za8):∀(used:List Str),(zeZ env used).length=used.length:=by
 unfold zeZ
 induction env with
 |nil=>intro u;rfl
 |cons b env ih=>intro u;rw[List.foldl_cons,ih,List.length_map]
def zhm (l:List Str)(s:Str):List Str:=if s∈l then l else l.take (l.takeWhile fun x=>decide (x.l<s.l)).length++[s]++l.drop (l.takeWhile fun x=>decide (x.l<s.l)).length
theorem zve (l:List Str)(s x:Str):x∈zhm l s↔x∈l∨x=s:=by
 unfold zhm
 split
 ·rename_i h
  constructor
  ·exact .inl
  ·rintro(h1|rfl)
   ·exact h1
   ·exact h
 ·have h1:=List.take_append_drop (l.takeWhile fun x=>decide (x.l<s.l)).length l
  constructor
  ·intro h
   simp only[List.mem_append,List.mem_singleton]at h
   rcases h with(h|h)|h
   ·exact .inl (List.mem_of_mem_take h)
   ·exact .inr h
   ·exact .inl (List.mem_of_mem_drop h)
  ·rintro(h|rfl)
   ·rw[←h1]at h
    simp only[List.mem_append,List.mem_singleton]at h ⊢
    rcases h with h|h
    ·exact .inl (.inl h)
    ·exact .inr h
   ·simp
mutual
def zyJ:zab→List Str→List Str→List Str
 | .mk k nm ws s,bd,l=>zln s (if isQ k then bd++[nm]else bd) (ws.foldl (fun l w=>if w∈bd then l else zhm l w) l)
def zln:List zab→List Str→List Str→List Str
 |[],_,l=>l
 |f::fs,bd,l=>zln fs bd (zyJ f bd l)
end
theorem zl8 (bd:List Str)(x:Str):∀(ws l:List Str),x∈ws.foldl (fun l w=>if w∈bd then l else zhm l w) l↔x∈l∨x∈ws.filter (fun w=>decide (w∉bd))
 |[],l=>by simp
 |w::ws,l=>by
  rw[List.foldl_cons,zl8 bd x ws,List.filter_cons]
  by_cases h:w∈bd
  ·rw[if_pos h,if_neg (by simpa using h)]
  ·rw[if_neg h,if_pos (by simpa using h),zve,List.mem_cons,or_assoc]
mutual
theorem zvc (x:Str):∀(f:zab) (bd l:List Str),x∈zyJ f bd l↔x∈l∨x∈cst f bd
 | .mk k nm ws s,bd,l=>by rw[zyJ,cst,zl7 x s,zl8,List.mem_append,or_assoc]
theorem zl7 (x:Str):∀(fs:List zab) (bd l:List Str),x∈zln fs bd l↔x∈l∨x∈zbR fs bd
 |[],bd,l=>by simp[zln,zbR]
 |f::fs,bd,l=>by rw[zln,zbR,zl7 x fs,zvc x f,List.mem_append,or_assoc]
end
theorem zvo (l:List Str)(s:Str):(zhm l s).length≤l.length+1:=by
 unfold zhm
 split
 ·omega
 ·simp only[List.length_append,List.length_take,List.length_drop,List.length_singleton];omega
theorem zlP (bd:List Str):∀(ws l:List Str),(ws.foldl (fun l w=>if w∈bd then l else zhm l w) l).length≤l.length+ws.length
 |[],l=>by simp
 |w::ws,l=>by
  rw[List.foldl_cons]
  have h1:=zlP bd ws (if w∈bd then l else zhm l w)
  have h2:(if w∈bd then l else zhm l w).length≤l.length+1:=by
   split
   ·omega
   ·exact zvo l w
  simp only[List.length_cons]
  omega
def zyn (fr to:List Str)(w:Str):Str:=match fr,to with
 |a::fr,b::to=>if a=w then b else zyn fr to w
 |_,_=>w
mutual
def swp (fr to:List Str):zab→zab
 | .mk k nm ws s=> .mk k (if isQ k then zyn fr to nm else nm) (ws.map (zyn fr to)) (zHg fr to s)
def zHg (fr to:List Str):List zab→List zab
 |[]=>[]
 |f::fs=>swp fr to f::zHg fr to fs
end
mutual
def zMv:zab→Prop
 | .mk _ _ ws s=>(∀w∈ws,¬zmY w)∧zcP s
def zcP:List zab→Prop
 |[]=>True
 |f::fs=>zMv f∧zcP fs
end
end Go.Abs
namespace Go.Abs
open Go
mutual
def zab.depth:zab→Nat
 | .mk _ _ _ s=>zab.depths s+1
def zab.depths:List zab→Nat
 |[]=>0
 |f::fs=>max f.depth (zab.depths fs)
end
def zhT (f:zab):Bool:=decide (f.size≤200∧f.depth≤40)
mutual
theorem zab.depth_size:∀f:zab,f.depth≤f.size
 | .mk k n w s=>by rw[zab.depth,zab.size];have:=zab.depths_size s;omega
theorem zab.depths_size:∀fs:List zab,zab.depths fs≤zab.sizes fs
 |[]=>by rw[zab.depths,zab.sizes];exact Nat.le_refl _
 |f::fs=>by rw[zab.depths,zab.sizes];have:=f.depth_size;have:=zab.depths_size fs;omega
end
theorem zab.sizes_app:∀a b:List zab,zab.sizes (a++b)=zab.sizes a+zab.sizes b
 |[],b=>by rw[List.nil_append,zab.sizes];omega
 |f::a,b=>by rw[List.cons_append,zab.sizes,zab.sizes,zab.sizes_app a b];omega
theorem zab.depths_app:∀a b:List zab,zab.depths (a++b)=max (zab.depths a) (zab.depths b)
 |[],b=>by rw[List.nil_append,zab.depths];omega
 |f::a,b=>by rw[List.cons_append,zab.depths,zab.depths,zab.depths_app a b];omega
mutual
theorem zop {op:Bool}:∀(f:zab) (d:Int) (n:Nat),(chk op f d n).1.code=0→(chk op f d n).2=n+f.size
 | .mk k nm w s,d,n,h=>by
  rw[chk]at h ⊢
  split at h
  ·rename_i h1;exact absurd h h1
  ·rename_i h1
   rw[if_neg h1,zab.size,zlk s _ _ h];omega
theorem zlk {op:Bool}:∀(fs:List zab) (d:Int) (n:Nat),(zea op fs d n).1.code=0→(zea op fs d n).2=n+zab.sizes fs
 |[],d,n,_=>by rw[zea,zab.sizes];rfl
 |f::fs,d,n,h=>by
  rw[zea]at h ⊢
  split at h
  ·rename_i h1;exact absurd h h1
  ·rename_i h1
   have h2:=zop f d n (Decidable.not_not.1 h1)
   rw[if_neg h1,zlk fs d _ h,h2,zab.sizes];omega
end
theorem zbo {op:Bool}{f:zab}(h:(zaX op f).code=0):f.size≤200:=by
 have h1:=zop f 1 0 h
 have h2:=(zuj f 1 0 h).2.1
 omega
theorem zmb {s:Str}(h:zaq s=true):¬zmY s:=by
 unfold zaq at h
 have h:=(of_decide_eq_true h).2.2.1
 intro hb
 unfold zmY at hb
 have h0:s.l.getD 0 0=33:=by rw[List.getD_eq_getElem?_getD,←List.head?_eq_getElem?,hb];rfl
 rw[h0]at h
 exact absurd h (by decide)
theorem zb9 {op:Bool}{f:zab}{d:Int}{n:Nat}(h:zeb op f d n=0):f.words.all zaq=true∧(named f=true→zaq f.name=true)∧(named f=false→f.name=⟨[]⟩)∧zdf f=true∧(f.subs.length:Int)=zbe op f:=by
 unfold zeb at h
 split at h
 ·simp at h
 split at h
 ·simp at h
 split at h
 ·simp at h
 rename_i h3
 split at h
 ·simp at h
 rename_i h4
 split at h
 ·simp at h
 rename_i h5
 split at h
 ·simp at h
 rename_i h6
 have h7:=Decidable.not_not.1 h3
 refine⟨by simpa using h6,fun h8=>?_,fun h8=>?_,h7.2,h7.1⟩
 ·cases hn:zaq f.name with
  |true=>rfl
  |false=>exact absurd ⟨h8,hn⟩ h4
 ·exact Decidable.not_not.1 fun hn=>h5 ⟨h8,hn⟩
mutual
theorem zrK {op:Bool}:∀(f:zab) (d:Int) (n:Nat),(chk op f d n).1.code=0→zMv f
 | .mk k nm w s,d,n,h=>by
  rw[chk]at h
  split at h
  ·rename_i h1;exact absurd h h1
  ·rename_i h1
   have h2:=(zb9 (Decidable.not_not.1 h1)).1
   rw[zMv]
   exact⟨fun x hx=>zmb (List.all_eq_true.1 h2 x hx),zi3 s _ _ h⟩
theorem zi3 {op:Bool}:∀(fs:List zab) (d:Int) (n:Nat),(zea op fs d n).1.code=0→zcP fs
 |[],d,n,_=>by rw[zcP];trivial
 |f::fs,d,n,h=>by
  rw[zea]at h
  split at h
  ·rename_i h1;exact absurd h h1
  ·rename_i h1
   rw[zcP]
   exact⟨zrK f d n (Decidable.not_not.1 h1),zi3 fs d _ h⟩
end
theorem fits_mem:∀l:List zab,zab.fits l=true↔∀f∈l,f.fit=true
 |[]=>by rw[zab.fits];simp
 |f::l=>by rw[zab.fits,Bool.and_eq_true,fits_mem l];simp
theorem zmB {c:Nat}:∀l:List zab,(∀f∈l,f.size≤c)→zab.sizes l≤l.length*c
 |[],_=>by rw[zab.sizes];omega
 |f::l,h=>by
  rw[zab.sizes,List.length_cons,Nat.add_mul,Nat.one_mul]
  have h1:=h f (by simp)
  have h2:=zmB l fun g hg=>h g (by simp[hg])
  omega
theorem zsG (env:List za8)(w:Str):∀i,i≤env.length→zh5 env w i=w∨∃b∈env,zh5 env w i=b.to
 |0,_=> .inl rfl
 |i+1,h=>by
  rw[zh5]
  split
  ·refine .inr ⟨env.getD i default,?_,rfl⟩
   rw[List.getD_eq_getElem?_getD,List.getElem?_eq_getElem (by omega)]
   exact List.getElem_mem _
  ·exact zsG env w i (by omega)
theorem zsI (env:List za8)(w:Str):lkp env w=w∨∃b∈env,lkp env w=b.to:=zsG env w _ (Nat.le_refl _)
mutual
theorem zoY (g:Nat→Str×Nat):∀(f:zab) (env:List za8) (n:Nat),(ren g f env n).1.size=f.size
 | .mk k nm ws s,env,n=>by
  rw[ren]
  split
  ·rw[zab.size,zab.size,zig g s]
  ·rw[zab.size,zab.size,zig g s]
theorem zig (g:Nat→Str×Nat):∀(fs:List zab) (env:List za8) (n:Nat),zab.sizes (za5 g fs env n).1=zab.sizes fs
 |[],env,n=>by rw[za5]
 |f::fs,env,n=>by rw[za5,zab.sizes,zab.sizes,zoY g f,zig g fs]
end
mutual
theorem zs5 (g:Nat→Str×Nat):∀(f:zab) (env:List za8) (n:Nat),(ren g f env n).1.fit=f.fit
 | .mk k nm ws s,env,n=>by
  rw[ren]
  split
  ·rw[zab.fit,zab.fit,zky g s,List.length_map,zcB]
  ·rw[zab.fit,zab.fit,zky g s,List.length_map,zcB]
theorem zky (g:Nat→Str×Nat):∀(fs:List zab) (env:List za8) (n:Nat),zab.fits (za5 g fs env n).1=zab.fits fs
 |[],env,n=>by rw[za5]
 |f::fs,env,n=>by rw[za5,zab.fits,zab.fits,zs5 g f,zky g fs]
end
theorem zl5 {env:List za8}{ws:List Str}(h:∀w∈ws,¬zmY w)(he:∀b∈env,¬zmY b.to):∀w∈ws.map (lkp env),¬zmY w:=by
 intro w hw
 obtain⟨x,hx,rfl⟩:=List.mem_map.1 hw
 rcases zsI env x with e|⟨b,hb,e⟩
 ·rw[e];exact h x hx
 ·rw[e];exact he b hb
mutual
theorem zs4 {g:Nat→Str×Nat}(hg:∀k,¬zmY (g k).1):∀(f:zab) (env:List za8) (n:Nat),zMv f→(∀b∈env,¬zmY b.to)→zMv (ren g f env n).1
 | .mk k nm ws s,env,n,h,he=>by
  rw[zMv]at h
  rw[ren]
  split
  ·rw[zMv]
   refine⟨zl5 h.1 he,zgn hg s _ _ h.2 fun b hb=>?_⟩
   rcases List.mem_append.1 hb with hb|hb
   ·exact he b hb
   ·rw[List.mem_singleton.1 hb];exact hg n
  ·rw[zMv]
   exact⟨zl5 h.1 he,zgn hg s _ _ h.2 he⟩
theorem zgn {g:Nat→Str×Nat}(hg:∀k,¬zmY (g k).1):∀(fs:List zab) (env:List za8) (n:Nat),zcP fs→(∀b∈env,¬zmY b.to)→zcP (za5 g fs env n).1
 |[],env,n,_,_=>by rw[za5,zcP];trivial
 |f::fs,env,n,h,he=>by
  rw[zcP]at h
  rw[za5,zcP]
  exact⟨zs4 hg f _ _ h.1 he,zgn hg fs _ _ h.2 he⟩
end
theorem zc4 (f:zab)(env:List za8):(zat f env).size=f.size:=zoY _ f env 0
theorem zgc (f:zab)(env:List za8):(zat f env).fit=f.fit:=zs5 _ f env 0
def zdY (k:Int):List zab→zab
 |[]=> .mk 0 ⟨[]⟩ [] []
 |f::l=>l.foldl (fun a x=> .mk k ⟨[]⟩ [] [a,x]) f
theorem zgi (k:Int):∀(l:List zab) (f:zab),((l.foldl (fun a x=>zab.mk k ⟨[]⟩ [] [a,x]) f).size=f.size+zab.sizes l+l.length)∧((l.foldl (fun a x=>zab.mk k ⟨[]⟩ [] [a,x]) f).fit=(f.fit&&zab.fits l))∧(zMv (l.foldl (fun a x=>zab.mk k ⟨[]⟩ [] [a,x]) f)↔zMv f∧zcP l)
 |[],f=>by rw[zab.sizes,zab.fits,zcP];simp
 |x::l,f=>by
  rw[List.foldl_cons]
  obtain⟨h1,h2,h3⟩:=zgi k l (.mk k ⟨[]⟩ [] [f,x])
  refine⟨?_,?_,?_⟩
  ·rw[h1];simp only[zab.size,zab.sizes,List.length_cons];omega
  ·rw[h2];simp only[zab.fit,zab.fits,List.length_nil,List.length_cons,Nat.zero_le,decide_true,Bool.true_and,Bool.and_true,Bool.and_assoc];rfl
  ·rw[h3];simp only[zMv,zcP,List.not_mem_nil,false_implies,implies_true,true_and,and_true,and_assoc]
theorem zqo (k:Int)(l:List zab):(zdY k l).size≤zab.sizes l+l.length+1:=by
 cases l with
 |nil=>simp only[zdY,zab.size,zab.sizes,List.length_nil];omega
 |cons f l=>
  have:=(zgi k l f).1
  show(l.foldl (fun a x=>zab.mk k ⟨[]⟩ [] [a,x]) f).size≤_
  rw[this,zab.sizes,List.length_cons];omega
theorem zsw (k:Int){l:List zab}(h:zab.fits l=true):(zdY k l).fit=true:=by
 cases l with
 |nil=>simp only[zdY,zab.fit,zab.fits,List.length_nil,Nat.zero_le,decide_true,Bool.true_and]
 |cons f l=>
  show(l.foldl (fun a x=>zab.mk k ⟨[]⟩ [] [a,x]) f).fit=_
  rw[(zgi k l f).2.1];rwa [zab.fits]at h
def zfq:zab:= .mk 0 ⟨[]⟩ [] []
end Go.Abs
namespace Go.Abs
open Go
structure zbD where
 label:Str
 form:zab
deriving DecidableEq
structure zjC where
 hole:Str
 label:Str
deriving DecidableEq
structure zao where
 pieces:List zbD
 overs:List zjC
 vars:List Str
deriving DecidableEq
@[go_sem] theorem zap {p:zbD}:zbD.mk p.label p.form=p:=by cases p;rfl
@[go_sem] theorem zaN {p:zjC}:zjC.mk p.hole p.label=p:=by cases p;rfl
@[go_sem] theorem zak {p:zao}:zao.mk p.pieces p.overs p.vars=p:=by cases p;rfl
instance:Inhabited zjC:=⟨⟨⟨[]⟩,⟨[]⟩⟩⟩
instance:Inhabited zbD:=⟨⟨⟨[]⟩,default⟩⟩
instance:Enc zjC:=⟨fun b=> .agg [.s b.hole.l,.s b.label.l],fun x=>match x with| .agg [.s a,.s b]=>⟨⟨a⟩,⟨b⟩⟩|_=>⟨⟨[]⟩,⟨[]⟩⟩,fun b=>by cases b;rfl⟩
@[go_sem] theorem zoD {b:zjC}:enc b= .agg [.s b.hole.l,.s b.label.l]:=rfl
@[go_sem] theorem zBZ {a b:List UInt8}:dec (α:=zjC) (.agg [.s a,.s b])=⟨⟨a⟩,⟨b⟩⟩:=rfl
instance:Kc zjC 2:=⟨fun _=>rfl⟩
@[go_sem] theorem zzx {l:List zjC}:zbB (l.map enc) 2=True:=eq_true (zdt l)
@[go_sem] theorem zxq {l:List zjC}:(zaf (l.map enc)).all zcf=true:=by
 rw[List.all_eq_true]
 intro d hd
 simp only[zaf,List.mem_flatMap,List.mem_map]at hd
 obtain⟨_,⟨a,_,rfl⟩,x,hx,rfl⟩:=hd
 simp only[zoD,FD.cells,List.mem_cons,List.not_mem_nil,or_false]at hx
 rcases hx with rfl|rfl<;>rfl
instance:Enc zbD:=⟨fun p=> .agg [.s p.label.l,.i .i64 p.form.kind,.s p.form.name.l,.sl (p.form.words.map enc),.sl (p.form.subs.map enc)],
 fun x=>match x with| .agg [.s a,.i _ k,.s n,.sl w,.sl s]=>⟨⟨a⟩,.mk k ⟨n⟩ (w.map dec) (s.map dec)⟩|_=>⟨⟨[]⟩,default⟩,fun p=>by
  cases p with
  |mk l f=>simp only[zbE];rw[show(⟨f.name.l⟩:Str)=f.name from rfl,zac]⟩
@[go_sem] theorem zlF {p:zbD}:enc p= .agg [.s p.label.l,.i .i64 p.form.kind,.s p.form.name.l,.sl (p.form.words.map enc),.sl (p.form.subs.map enc)]:=rfl
@[go_sem] theorem zz8 {i a k n w s}:dec (α:=zbD) (.agg [.s a,.i i k,.s n,.sl w,.sl s])=⟨⟨a⟩,.mk k ⟨n⟩ (dec (.sl w)) (dec (.sl s))⟩:=rfl
instance:Kc zbD 5:=⟨fun _=>rfl⟩
@[go_sem] theorem zxV {l:List zbD}:zbB (l.map enc) 5=True:=eq_true (zdt l)
@[go_sem] theorem zwn {l:List zbD}:(zaf (l.map enc)).all zcf=true:=by
 rw[List.all_eq_true]
 intro d hd
 simp only[zaf,List.mem_flatMap,List.mem_map]at hd
 obtain⟨_,⟨a,_,rfl⟩,x,hx,rfl⟩:=hd
 simp only[zlF,FD.cells,List.mem_cons,List.not_mem_nil,or_false]at hx
 rcases hx with rfl|rfl|rfl|rfl|rfl<;>rfl
instance:Enc zao:=⟨fun s=> .agg [.sl (s.pieces.map enc),.sl (s.overs.map enc),.sl (s.vars.map enc)],
 fun x=>match x with| .agg [.sl a,.sl b,.sl c]=>⟨a.map dec,b.map dec,c.map dec⟩|_=>⟨[],[],[]⟩,fun p=>by
  cases p;simp only[zbE]⟩
@[go_sem] theorem zgg {s:zao}:enc s= .agg [.sl (s.pieces.map enc),.sl (s.overs.map enc),.sl (s.vars.map enc)]:=rfl
@[go_sem] theorem zyO {a b c}:dec (α:=zao) (.agg [.sl a,.sl b,.sl c])=⟨dec (.sl a),dec (.sl b),dec (.sl c)⟩:=rfl
mutual
def zas:zab→List Str
 | .mk k nm _ s=>if k=10 then[nm]else zaG s
def zaG:List zab→List Str
 |[]=>[]
 |f::fs=>zas f++zaG fs
end
mutual
def zjc:zab→List Str
 | .mk k nm _ s=>(if k=10 then[nm]else[])++zdW s
def zdW:List zab→List Str
 |[]=>[]
 |f::fs=>zjc f++zdW fs
end
theorem zlV {f:zab}:zas f=if f.kind=10 then[f.name]else zaG f.subs:=by cases f;rw[zas];rfl
theorem zhX:∀a b:List zab,zaG (a++b)=zaG a++zaG b
 |[],b=>by rw[zaG];rfl
 |f::a,b=>by rw[List.cons_append,zaG,zaG,zhX a b,List.append_assoc]
theorem zgK {s:List zab}{i:Nat}(h:i<s.length):zaG (s.take (i+1))=zaG (s.take i)++zas s[i]:=by
 rw[List.take_succ_eq_append_getElem h,zhX,zaG,zaG,List.append_nil]
mutual
theorem zdG:∀f:zab,(zas f).length≤f.size
 | .mk k nm ws s=>by
  rw[zas,zab.size]
  split
  ·simp
  ·have:=zff s;omega
theorem zff:∀fs:List zab,(zaG fs).length≤zab.sizes fs
 |[]=>by rw[zaG];simp
 |f::fs=>by rw[zaG,zab.sizes,List.length_append];have:=zdG f;have:=zff fs;omega
end
mutual
theorem zql:∀f:zab,(zjc f).length≤f.size
 | .mk k nm ws s=>by
  rw[zjc,zab.size,List.length_append]
  have:=zhZ s
  split
  ·simp;omega
  ·simp;omega
theorem zhZ:∀fs:List zab,(zdW fs).length≤zab.sizes fs
 |[]=>by rw[zdW];simp
 |f::fs=>by rw[zdW,zab.sizes,List.length_append];have:=zql f;have:=zhZ fs;omega
end
mutual
theorem zli {op:Bool}:∀(f:zab) (d:Int) (n:Nat),(chk op f d n).1.code=0→zjc f=zas f
 | .mk k nm w s,d,n,h=>by
  rw[chk]at h
  split at h
  ·rename_i h1;exact absurd h h1
  ·rename_i h1
   have h2:=(zb9 (Decidable.not_not.1 h1)).2.2.2.2
   have h3:=zi4 s _ _ h
   rw[zjc,zas]
   split
   ·rename_i hk
    subst hk
    simp only[zaR]at h2
    have:zbe op (zab.mk 10 nm w s)≤0:=by
     unfold zbe zcw
     simp only[zae]
     repeat'(split<;>try decide)
     all_goals omega
    have hs:s=[]:=List.eq_nil_of_length_eq_zero (by omega)
    subst hs
    rw[zdW];rfl
   ·rw[h3,List.nil_append]
theorem zi4 {op:Bool}:∀(fs:List zab) (d:Int) (n:Nat),(zea op fs d n).1.code=0→zdW fs=zaG fs
 |[],d,n,_=>by rw[zdW,zaG]
 |f::fs,d,n,h=>by
  rw[zea]at h
  split at h
  ·rename_i h1;exact absurd h h1
  ·rename_i h1
   rw[zdW,zaG,zli f d n (Decidable.not_not.1 h1),zi4 fs d _ h]
end
theorem zlh {op:Bool}{f:zab}(h:(zaX op f).code=0):zjc f=zas f:=zli f 1 0 h
def zr1:List Str→List Str→Bool
 |_,[]=>false
 |all,h::hs=>decide (h∈all)||zr1 (all++[h]) hs
def zd7 (labels all:List Str)(p:zbD):Int:=
 if zaq p.label=false then 10 else if p.label∈labels then 7 else if(zaX true p.form).code≠0 then(zaX true p.form).code else if zr1 all (zas p.form)=true then 7 else 0
def zgr:List Str→List Str→List zbD→Nat→zg2
 |_,_,[],_=>⟨0,0⟩
 |l,a,p::ps,i=>if zd7 l a p≠0 then⟨zd7 l a p,i⟩else zgr (l++[p.label]) (a++zas p.form) ps (i+1)
def zck (labels all:List Str)(o:zjC):Bool:=decide (o.hole∈all)&&decide (o.label∈labels)
def zvW (bef:List Str)(v:Str):Int:=if zaq v=false then 10 else if v∈bef then 7 else 0
def zii:List Str→List Str→Int
 |_,[]=>0
 |b,v::vs=>if zvW b v≠0 then zvW b v else zii (b++[v]) vs
def zdq (l:List zbD):Nat:=zab.sizes (l.map (·.form))
def zdT:List zbD→Nat
 |[]=>0
 |p::ps=>p.form.depth+zdT ps
def zaS (l:List zbD):List Str:=l.map (·.label)
def zbt (l:List zbD):List Str:=l.flatMap fun p=>zas p.form
def zaZ (s:zao):zg2:=
 if s.pieces.length=0∨6<s.pieces.length then⟨2, -1⟩
 else if(zgr [] [] s.pieces 0).code≠0 then zgr [] [] s.pieces 0
 else if 200<zdq s.pieces∨40<zdT s.pieces then⟨1, -1⟩
 else if 300<s.overs.length then⟨2, -2⟩
 else if s.overs.all (zck (zaS s.pieces) (zbt s.pieces))=false then⟨6, -2⟩
 else if 6<s.vars.length then⟨2, -3⟩
 else if zii [] s.vars≠0 then⟨zii [] s.vars, -3⟩else⟨0,0⟩
theorem zte {s:zao}(h0:¬s.pieces.length=0)(h6:¬6<s.pieces.length):zaZ s=if(zgr [] [] s.pieces 0).code≠0 then zgr [] [] s.pieces 0
 else if 200<zdq s.pieces∨40<zdT s.pieces then⟨1, -1⟩
 else if 300<s.overs.length then⟨2, -2⟩
 else if s.overs.all (zck (zaS s.pieces) (zbt s.pieces))=false then⟨6, -2⟩
 else if 6<s.vars.length then⟨2, -3⟩
 else if zii [] s.vars≠0 then⟨zii [] s.vars, -3⟩else⟨0,0⟩:=by
 unfold zaZ;rw[if_neg (by omega)]
theorem zlz:∀a b:List zbD,zdT (a++b)=zdT a+zdT b
 |[],b=>by rw[zdT];simp
 |p::a,b=>by rw[List.cons_append,zdT,zdT,zlz a b];omega
theorem znP {l:List zbD}{i:Nat}(h:i<l.length):zdq (l.take (i+1))=zdq (l.take i)+l[i].form.size:=by
 unfold zdq
 rw[List.take_succ_eq_append_getElem h,List.map_append,zab.sizes_app]
 simp[zab.sizes]
theorem zpP {l:List zbD}{i:Nat}(h:i<l.length):zdT (l.take (i+1))=zdT (l.take i)+l[i].form.depth:=by
 rw[List.take_succ_eq_append_getElem h,zlz,zdT,zdT];omega
theorem zlX {l:List zbD}{i:Nat}(h:i<l.length):zaS (l.take (i+1))=zaS (l.take i)++[l[i].label]:=by
 unfold zaS;rw[List.take_succ_eq_append_getElem h,List.map_append];rfl
theorem zrw {l:List zbD}{i:Nat}(h:i<l.length):zbt (l.take (i+1))=zbt (l.take i)++zas l[i].form:=by
 unfold zbt;rw[List.take_succ_eq_append_getElem h,List.flatMap_append];simp
theorem zqH {l a:List Str}{ps:List zbD}{i:Nat}(h:i<ps.length):zgr l a (ps.drop i) i=if zd7 l a ps[i]≠0 then⟨zd7 l a ps[i],i⟩else zgr (l++[ps[i].label]) (a++zas ps[i].form) (ps.drop (i+1)) (i+1):=by
 rw[List.drop_eq_getElem_cons h,zgr]
theorem zqI {b vs:List Str}{i:Nat}(h:i<vs.length):zii b (vs.drop i)=if zvW b vs[i]≠0 then zvW b vs[i]else zii (b++[vs[i]]) (vs.drop (i+1)):=by
 rw[List.drop_eq_getElem_cons h,zii]
theorem zr2 {a hs:List Str}{i:Nat}(h:i<hs.length):zr1 a (hs.drop i)=(decide (hs[i]∈a)||zr1 (a++[hs[i]]) (hs.drop (i+1))):=by
 rw[List.drop_eq_getElem_cons h,zr1]
end Go.Abs
namespace Go.Abs
open Go
structure zcK where
 name:Str
 value:Int
deriving DecidableEq
structure zq3 where
 name:Str
 arity:Int
 tuples:List (List Int)
deriving DecidableEq
structure zdh where
 size:Int
 consts:List zcK
 rels:List zq3
deriving DecidableEq
instance:Inhabited zcK:=⟨⟨⟨[]⟩,0⟩⟩
instance:Inhabited zq3:=⟨⟨⟨[]⟩,0,[]⟩⟩
@[go_sem] theorem zz3 {c:zcK}:zcK.mk c.name c.value=c:=by cases c;rfl
@[go_sem] theorem zFb {r:zq3}:zq3.mk r.name r.arity r.tuples=r:=by cases r;rfl
@[go_sem] theorem zBf {m:zdh}:zdh.mk m.size m.consts m.rels=m:=by cases m;rfl
instance:Enc zcK:=⟨fun c=> .agg [.s c.name.l,.i .i64 c.value],fun x=>match x with| .agg [.s a,.i _ n]=>⟨⟨a⟩,n⟩|_=>default,fun c=>by cases c;rfl⟩
@[go_sem] theorem zr6 {c:zcK}:enc c= .agg [.s c.name.l,.i .i64 c.value]:=rfl
@[go_sem] theorem zz6 {a i n}:dec (α:=zcK) (.agg [.s a,.i i n])=⟨⟨a⟩,n⟩:=rfl
instance:Kc zcK 2:=⟨fun _=>rfl⟩
@[go_sem] theorem zxU {l:List zcK}:zbB (l.map enc) 2=True:=eq_true (zdt l)
@[go_sem] theorem zwm {l:List zcK}:(zaf (l.map enc)).all zcf=true:=by
 rw[List.all_eq_true]
 intro d hd
 simp only[zaf,List.mem_flatMap,List.mem_map]at hd
 obtain⟨_,⟨a,_,rfl⟩,x,hx,rfl⟩:=hd
 simp only[zr6,FD.cells,List.mem_cons,List.not_mem_nil,or_false]at hx
 rcases hx with rfl|rfl<;>rfl
instance:Enc zq3:=⟨fun r=> .agg [.s r.name.l,.i .i64 r.arity,.sl (r.tuples.map enc)],fun x=>match x with| .agg [.s a,.i _ n,.sl t]=>⟨⟨a⟩,n,t.map dec⟩|_=>default,fun r=>by
 cases r;simp only[zbE]⟩
@[go_sem] theorem zxb {r:zq3}:enc r= .agg [.s r.name.l,.i .i64 r.arity,.sl (r.tuples.map enc)]:=rfl
@[go_sem] theorem zDD {a i n t}:dec (α:=zq3) (.agg [.s a,.i i n,.sl t])=⟨⟨a⟩,n,dec (.sl t)⟩:=rfl
instance:Kc zq3 3:=⟨fun _=>rfl⟩
@[go_sem] theorem zBb {l:List zq3}:zbB (l.map enc) 3=True:=eq_true (zdt l)
@[go_sem] theorem zy0 {l:List zq3}:(zaf (l.map enc)).all zcf=true:=by
 rw[List.all_eq_true]
 intro d hd
 simp only[zaf,List.mem_flatMap,List.mem_map]at hd
 obtain⟨_,⟨a,_,rfl⟩,x,hx,rfl⟩:=hd
 simp only[zxb,FD.cells,List.mem_cons,List.not_mem_nil,or_false]at hx
 rcases hx with rfl|rfl|rfl<;>rfl
instance:Enc zdh:=⟨fun m=> .agg [.i .i64 m.size,.sl (m.consts.map enc),.sl (m.rels.map enc)],fun x=>match x with| .agg [.i _ n,.sl c,.sl r]=>⟨n,c.map dec,r.map dec⟩|_=>⟨0,[],[]⟩,fun m=>by
 cases m;simp only[zbE]⟩
@[go_sem] theorem zAc {m:zdh}:enc m= .agg [.i .i64 m.size,.sl (m.consts.map enc),.sl (m.rels.map enc)]:=rfl
@[go_sem] theorem zz7 {i n c r}:dec (α:=zdh) (.agg [.i i n,.sl c,.sl r])=⟨n,dec (.sl c),dec (.sl r)⟩:=rfl
theorem zdQ:∀x y:List UInt8,Op.bytesLess x y=decide (x<y)
 |[],[]=>by simp[Op.bytesLess]
 |_::_,[]=>by simp[Op.bytesLess]
 |[],_::_=>by simp[Op.bytesLess]
 |a::x,b::y=>by
  rw[Op.bytesLess,zdQ x y]
  by_cases h1:a<b<;>by_cases h2:a=b<;>simp[h1,h2,List.cons_lt_cons_iff]
def zFv (a b:Int):Int:=if a<b then-1 else if b<a then 1 else 0
def zFw:List Int→List Int→Int
 |[],[]=>0
 |[],_::_=> -1
 |_::_,[]=>1
 |a::as,b::bs=>if zFv a b≠0 then zFv a b else zFw as bs
def ltR (a b:zq3):Prop:=a.name.l<b.name.l∨(a.name=b.name∧a.arity<b.arity)
def zDF (m:zdh)(w:Str):Option zcK:=m.consts.find? fun c=>decide (c.name=w)
def zAg (m:zdh)(w:Str)(n:Int):Option zq3:=m.rels.find? fun r=>decide (r.name=w∧r.arity=n)
def zfg:List zcK→Str→Option Int
 |[],_=>none
 |e::es,w=>match zfg es w with
  |some v=>some v
  |none=>if e.name=w then some e.value else none
theorem zlY (w:Str):∀(a b:List zcK),zfg (a++b) w=match zfg b w with|some v=>some v|none=>zfg a w
 |[],b=>by rw[List.nil_append,zfg];cases zfg b w<;>rfl
 |e::a,b=>by
  rw[List.cons_append,zfg,zlY w a b,zfg]
  cases zfg b w<;>rfl
theorem zqp (a:List zcK)(e:zcK)(w:Str):zfg (a++[e]) w=if e.name=w then some e.value else zfg a w:=by
 rw[zlY,zfg,zfg]
 by_cases h:e.name=w
 ·rw[if_pos h,if_pos h]
 ·rw[if_neg h,if_neg h]
def zwf (m:zdh)(w:Str):Int:=match zDF m w with|some c=>c.value|none=>0
def zf5 (m:zdh)(env:List zcK)(w:Str):Int:=match zfg env w with|some v=>v|none=>zwf m w
def zFk (m:zdh)(w:Str)(n:Int):List (List Int):=match zAg m w n with|some r=>r.tuples|none=>[]
def zAo (m:zdh):List Int:=(List.range m.size.toNat).map Int.ofNat
mutual
def zyA (m:zdh):zab→List zcK→Bool
 | .mk k nm ws s,env=>
  if k=1 then true
  else if k=2 then decide (ws.map (zf5 m env)∈zFk m nm ws.length)
  else if k=3 then decide (zf5 m env (ws.getD 0 ⟨[]⟩)=zf5 m env (ws.getD 1 ⟨[]⟩))
  else if k=4 then !(zec m s env).getD 0 false
  else if k=5 then(zec m s env).getD 0 false&&(zec m s env).getD 1 false
  else if k=6 then(zec m s env).getD 0 false||(zec m s env).getD 1 false
  else if k=7 then !(zec m s env).getD 0 false||(zec m s env).getD 1 false
  else if k=8 then(zAo m).all fun v=>(zec m s (env++[⟨nm,v⟩])).getD 0 false
  else if k=9 then(zAo m).any fun v=>(zec m s (env++[⟨nm,v⟩])).getD 0 false
  else false
def zec (m:zdh):List zab→List zcK→List Bool
 |[],_=>[]
 |f::fs,env=>zyA m f env::zec m fs env
end
mutual
def zmd:zab→Nat
 | .mk k _ _ s=>zfV s+if isQ k then 1 else 0
def zfV:List zab→Nat
 |[]=>0
 |f::fs=>max (zmd f) (zfV fs)
end
mutual
def zAn (m:zdh):zab→Bool
 | .mk k nm ws s=>(!decide (k=2)||(zAg m nm ws.length).isSome)&&zqk m s
def zqk (m:zdh):List zab→Bool
 |[]=>true
 |f::fs=>zAn m f&&zqk m fs
end
end Go.Abs
namespace Go.Abs
open Go
mutual
def vok:zab→Prop
 | .mk k _ ws s=>1≤k∧k≤9∧(k=2→ws.length≤3)∧(k=3→ws.length=2)∧(k=4∨k=8∨k=9→s.length=1)∧(k=5∨k=6∨k=7→s.length=2)∧zgX s
def zgX:List zab→Prop
 |[]=>True
 |f::fs=>vok f∧zgX fs
end
theorem zkY:∀l:List zab,zgX l↔∀f∈l,vok f
 |[]=>by rw[zgX];simp
 |f::l=>by rw[zgX,zkY l];simp
theorem zpl {f:zab}:vok f↔1≤f.kind∧f.kind≤9∧(f.kind=2→f.words.length≤3)∧(f.kind=3→f.words.length=2)∧(f.kind=4∨f.kind=8∨f.kind=9→f.subs.length=1)∧(f.kind=5∨f.kind=6∨f.kind=7→f.subs.length=2)∧zgX f.subs:=by
 cases f;rw[vok];rfl
mutual
theorem zw1:∀(f:zab) (d:Int) (n:Nat),(chk false f d n).1.code=0→vok f
 | .mk k nm w s,d,n,h=>by
  rw[chk]at h
  split at h
  ·rename_i h1;exact absurd h h1
  ·rename_i h1
   have h2:=zb9 (Decidable.not_not.1 h1)
   have h3:=h2.2.2.2.2
   have h4:(if k=2 then decide (w.length≤3)else if k=3 then decide (w.length=2)else decide (w.length=0))=true:=h2.2.2.2.1
   simp only[zaR]at h3
   have h5:zbe false (.mk k nm w s)=zcw k:=by unfold zbe;simp[zae]
   rw[h5]at h3
   unfold zcw at h3
   rw[vok]
   have h6:=zot s _ _ h
   refine⟨?_,?_,fun e=>?_,fun e=>?_,fun e=>?_,fun e=>?_,h6⟩
   ·repeat'(first|omega|split at h3)
   ·repeat'(first|omega|split at h3)
   ·rw[if_pos e]at h4;simpa using h4
   ·rw[if_neg (by omega),if_pos e]at h4;simpa using h4
   ·rw[if_neg (by omega),if_pos e]at h3;omega
   ·rw[if_neg (by omega),if_neg (by omega),if_pos e]at h3;omega
theorem zot:∀(fs:List zab) (d:Int) (n:Nat),(zea false fs d n).1.code=0→zgX fs
 |[],d,n,_=>by rw[zgX];trivial
 |f::fs,d,n,h=>by
  rw[zea]at h
  split at h
  ·rename_i h1;exact absurd h h1
  ·rename_i h1
   rw[zgX]
   exact⟨zw1 f d n (Decidable.not_not.1 h1),zot fs d _ h⟩
end
structure zIH (m:zdh):Prop where
 c:∀i j (hi:i<m.consts.length) (hj:j<m.consts.length),i<j→m.consts[i].name.l<m.consts[j].name.l
 r:∀i j (hi:i<m.rels.length) (hj:j<m.rels.length),i<j→ltR m.rels[i] m.rels[j]
 t:∀r∈m.rels,∀i j (hi:i<r.tuples.length) (hj:j<r.tuples.length),i<j→zFw r.tuples[i] r.tuples[j]<0
 s1:1≤m.size
 s6:m.size≤6
 lc:m.consts.length≤10000000
 lr:m.rels.length≤300
end Go.Abs

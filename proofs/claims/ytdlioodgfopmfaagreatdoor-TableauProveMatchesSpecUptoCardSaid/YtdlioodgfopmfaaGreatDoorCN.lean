import Derived.Test.YtdlioodgfopmfaaGreatDoorFC
import Derived.Test.YtdlioodgfopmfaaGreatDoorAbs44
set_option linter.unusedSimpArgs false
namespace Go.Abs
open Go
mutual
def zac.fit:zac→Bool
 | .mk _ _ w s=>decide (w.length≤1000)&&decide (s.length≤1000)&&zac.fits s
def zac.fits:List zac→Bool
 |[]=>true
 |f::fs=>f.fit&&zac.fits fs
end
theorem zac.fits_mem:∀{l:List zac} {f:zac},zac.fits l=true→f∈l→f.fit=true
 |g::l,f,h,hm=>by
  rw[zac.fits,Bool.and_eq_true]at h
  rcases List.mem_cons.1 hm with rfl|hm
  ·exact h.1
  ·exact zac.fits_mem h.2 hm
theorem zac.fit_eq {f:zac}(h:f.fit=true):f.words.length≤1000∧f.subs.length≤1000∧zac.fits f.subs=true:=by
 cases f;rw[zac.fit]at h
 simp only[Bool.and_eq_true,decide_eq_true_eq]at h
 exact⟨h.1.1,h.1.2,h.2⟩
theorem ztv {op:Bool}{f:zac}{d:Int}{n:Nat}(h:zdA op f d n=0):f.words.length≤1000∧f.subs.length≤1000:=by
 unfold zdA at h
 split at h
 ·simp at h
 split at h
 ·simp at h
 split at h
 ·simp at h
 rename_i h1 h2 h3
 have h4:=Decidable.not_not.1 h3
 have h5:zbt op f≤2:=by
  unfold zbt zdH
  repeat'(split<;>try decide)
 have h6:=h4.2
 unfold zdc at h6
 refine⟨?_,by omega⟩
 split at h6
 ·simp only[decide_eq_true_eq]at h6;omega
 split at h6
 ·simp only[decide_eq_true_eq]at h6;omega
 ·simp only[decide_eq_true_eq]at h6;omega
mutual
theorem zsh {op:Bool}:∀(f:zac) (d:Int) (n:Nat),(chk op f d n).1.code=0→f.fit=true
 | .mk k nm w s,d,n,h=>by
  rw[chk]at h
  split at h
  ·rename_i h1;exact absurd h h1
  rename_i h1
  have h2:=ztv (Decidable.not_not.1 h1)
  rw[zac.fit]
  simp only[Bool.and_eq_true,decide_eq_true_eq]
  exact⟨h2,zoY s _ _ h⟩
theorem zoY {op:Bool}:∀(fs:List zac) (d:Int) (n:Nat),(zeH op fs d n).1.code=0→zac.fits fs=true
 |[],_,_,_=>by rw[zac.fits]
 |f::fs,d,n,h=>by
  rw[zeH]at h
  split at h
  ·rename_i h1;exact absurd h h1
  rename_i h1
  rw[zac.fits,Bool.and_eq_true]
  exact⟨zsh f d n (Decidable.not_not.1 h1),zoY fs _ _ h⟩
end
theorem zfl {op:Bool}{f:zac}(h:(zaE op f).code=0):f.fit=true:=zsh f 1 0 h
def zCt (l:List UInt8):Nat:=l.foldl (fun a d=>a*10+(d.toNat-48)) 0
theorem zuL (l:List UInt8)(d:UInt8):zCt (l++[d])=zCt l*10+(d.toNat-48):=by
 unfold zCt;rw[List.foldl_append];rfl
theorem zsB {u:Nat}(h:u<10):(UInt8.ofNat (48+u)).toNat-48=u:=by
 rw[UInt8.toNat_ofNat',Nat.mod_eq_of_lt (by omega)];omega
theorem zkb:∀u,zCt (zaP u)=u:=by
 intro u
 unfold zaP
 induction u using Nat.strongRecOn with
 |_ u ih=>
  rw[Lib.decDigits]
  split
  ·rename_i h
   have:=zsB h
   simpa[zCt]using this
  ·rename_i h
   rw[zuL,ih (u / 10) (by omega),zsB (by omega)]
   omega
theorem zgT {u v:Nat}(h:zaP u=zaP v):u=v:=by rw[←zkb u,←zkb v,h]
theorem zcP (u:Nat):(zaP u).length≤u+1:=zf6 u
def zdR (k:Nat):Str:=⟨118::zaP k⟩
def znO (k:Nat):Str:=⟨33::zaP k⟩
theorem zlx {u v:Nat}(h:zdR u=zdR v):u=v:=zgT (List.cons.inj (Str.mk.inj h)).2
theorem zvf {u v:Nat}(h:znO u=znO v):u=v:=zgT (List.cons.inj (Str.mk.inj h)).2
def zfE (w:Str):Prop:=w.l.head? =some 33
instance (w:Str):Decidable (zfE w):=inferInstanceAs (Decidable (_=_))
theorem zih (k:Nat):zfE (znO k):=rfl
theorem zgs (k:Nat):¬zfE (zdR k):=by unfold zfE zdR;simp
def zfP (used:List Str):Nat→Nat→Nat
 |0,k=>k
 |m+1,k=>if zdR k∈used then zfP used m (k+1)else k
def zbR (used:List Str)(k:Nat):Nat:=zfP used used.length k
theorem zpr (used:List Str):∀m k,k≤zfP used m k∧zfP used m k≤k+m
 |0,k=>by simp[zfP]
 |m+1,k=>by
  rw[zfP]
  split
  ·have:=zpr used m (k+1);omega
  ·omega
theorem ziQ (used:List Str):∀m k i,k≤i→i<zfP used m k→zdR i∈used
 |0,k,i,h1,h2=>by simp only[zfP]at h2;omega
 |m+1,k,i,h1,h2=>by
  rw[zfP]at h2
  split at h2
  ·rename_i h
   rcases Nat.eq_or_lt_of_le h1 with rfl|h1
   ·exact h
   ·exact ziQ used m (k+1) i h1 h2
  ·omega
theorem zjX (used:List Str):∀m k,zfP used m k<k+m→zdR (zfP used m k)∉used
 |0,k,h=>by simp[zfP]at h
 |m+1,k,h=>by
  rw[zfP]at h ⊢
  split
  ·rename_i h1
   rw[if_pos h1]at h
   exact zjX used m (k+1) (by omega)
  ·assumption
theorem pig:∀(used:List Str) (S:List Nat),S.Nodup→(∀i∈S,zdR i∈used)→S.length≤used.length
 |[],S,_,h=>by
  cases S with
  |nil=>simp
  |cons i S=>have:=h i (by simp);simp at this
 |u::us,S,hn,h=>by
  by_cases he:∃i∈S,zdR i=u
  ·obtain⟨i,hi,rfl⟩:=he
   have h1:=pig us (S.erase i) (hn.erase i) fun j hj=>by
    have h2:=(List.Nodup.mem_erase_iff hn).1 hj
    rcases List.mem_cons.1 (h j h2.2)with h3|h3
    ·exact absurd (zlx h3) h2.1
    ·exact h3
   rw[List.length_erase_of_mem hi]at h1
   simp only[List.length_cons]
   omega
  ·have h1:=pig us S hn fun j hj=>by
    rcases List.mem_cons.1 (h j hj)with h3|h3
    ·exact absurd ⟨j,hj,h3⟩ he
    ·exact h3
   simp only[List.length_cons]
   omega
theorem za4 (used:List Str)(k:Nat):k≤zbR used k∧zbR used k≤k+used.length∧zdR (zbR used k)∉used∧∀i,k≤i→i<zbR used k→zdR i∈used:=by
 unfold zbR
 have h1:=zpr used used.length k
 have h2:=ziQ used used.length k
 refine⟨h1.1,h1.2,?_,h2⟩
 rcases Nat.lt_or_ge (zfP used used.length k) (k+used.length)with h|h
 ·exact zjX used _ _ h
 ·have he:zfP used used.length k=k+used.length:=by omega
  intro hin
  rw[he]at hin h2
  have h3:=pig used (List.range' k (used.length+1)) List.nodup_range' fun i hi=>by
   have:=List.mem_range'_1.1 hi
   rcases Nat.lt_or_ge i (k+used.length)with h4|h4
   ·exact h2 i this.1 h4
   ·obtain rfl:i=k+used.length:=by omega
    exact hin
  rw[List.length_range']at h3
  omega
theorem ziR {a b:List Str}(h:∀j,zdR j∈a↔zdR j∈b)(k:Nat):zbR a k=zbR b k:=by
 obtain⟨a1,_,a3,a4⟩:=za4 a k
 obtain⟨b1,_,b3,b4⟩:=za4 b k
 rcases Nat.lt_trichotomy (zbR a k) (zbR b k)with h1|h1|h1
 ·exact absurd ((h _).2 (b4 _ a1 h1)) a3
 ·exact h1
 ·exact absurd ((h _).1 (a4 _ b1 h1)) b3
theorem zps {used:List Str}{k:Nat}(h:zdR k∈used):zbR used k=zbR used (k+1):=by
 obtain⟨a1,_,a3,a4⟩:=za4 used k
 obtain⟨b1,_,b3,b4⟩:=za4 used (k+1)
 have h0:zbR used k≠k:=by intro e;rw[e]at a3;exact a3 h
 rcases Nat.lt_trichotomy (zbR used k) (zbR used (k+1))with h1|h1|h1
 ·exact absurd (b4 _ (by omega) h1) a3
 ·exact h1
 ·exact absurd (a4 _ (by omega) h1) b3
theorem zmV {used:List Str}{k:Nat}(h:zdR k∉used):zbR used k=k:=by
 obtain⟨a1,_,a3,a4⟩:=za4 used k
 rcases Nat.eq_or_lt_of_le a1 with h1|h1
 ·exact h1.symm
 ·exact absurd (a4 k (Nat.le_refl _) h1) h
structure zaR where
 fr:Str
 to:Str
 deriving DecidableEq,Inhabited
instance:Enc zaR:=⟨fun b=> .agg [.s b.fr.l,.s b.to.l],fun x=>match x with| .agg [.s a,.s b]=>⟨⟨a⟩,⟨b⟩⟩|_=>⟨⟨[]⟩,⟨[]⟩⟩,fun b=>by cases b;rfl⟩
@[go_sem] theorem zvr {b:zaR}:enc b= .agg [.s b.fr.l,.s b.to.l]:=rfl
@[go_sem] theorem zCF {a b:List UInt8}:dec (α:=zaR) (.agg [.s a,.s b])=⟨⟨a⟩,⟨b⟩⟩:=rfl
instance:Kc zaR 2:=⟨fun _=>rfl⟩
@[go_sem] theorem zAb {l:List zaR}:zbC (l.map enc) 2=True:=eq_true (zdW l)
@[go_sem] theorem zyq {l:List zaR}:(zaf (l.map enc)).all zcL=true:=by
 rw[List.all_eq_true]
 intro d hd
 simp only[zaf,List.mem_flatMap,List.mem_map]at hd
 obtain⟨_,⟨a,_,rfl⟩,x,hx,rfl⟩:=hd
 simp only[zvr,FD.cells,List.mem_cons,List.not_mem_nil,or_false]at hx
 rcases hx with rfl|rfl<;>rfl
def zhK (env:List zaR)(w:Str):Nat→Str
 |0=>w
 |i+1=>if(env.getD i default).fr=w then(env.getD i default).to else zhK env w i
def lkp (env:List zaR)(w:Str):Str:=zhK env w env.length
theorem zpl (env:List zaR)(b:zaR)(w:Str):∀i,i≤env.length→zhK (env++[b]) w i=zhK env w i
 |0,_=>rfl
 |i+1,h=>by
  rw[zhK,zhK,zpl env b w i (by omega)]
  have:(env++[b]).getD i default=env.getD i default:=by
   rw[List.getD_eq_getElem?_getD,List.getD_eq_getElem?_getD,List.getElem?_append_left (by omega)]
  rw[this]
theorem zcc (env:List zaR)(b:zaR)(w:Str):lkp (env++[b]) w=if b.fr=w then b.to else lkp env w:=by
 unfold lkp
 rw[List.length_append,List.length_singleton,zhK,zpl env b w _ (Nat.le_refl _)]
 have:(env++[b]).getD env.length default=b:=by
  rw[List.getD_eq_getElem?_getD,List.getElem?_append_right (Nat.le_refl _),Nat.sub_self];rfl
 rw[this]
theorem zeA (w:Str):lkp [] w=w:=rfl
theorem ztg {env env':List zaR}{s:Str→Str}(h1:env'.map (·.fr)=env.map (·.fr))(h2:env'.map (·.to)=env.map fun b=>s b.to){w:Str}(hw:s w=w):lkp env' w=s (lkp env w):=by
 have hl:env'.length=env.length:=by have:=congrArg List.length h1;simpa using this
 have key:∀i,i≤env.length→zhK env' w i=s (zhK env w i):=by
  intro i
  induction i with
  |zero=>intro _;exact hw.symm
  |succ i ih=>
   intro hi
   have e1:(env'.getD i default).fr=(env.getD i default).fr:=by
    have:=congrArg (fun l:List Str=>l[i]?) h1
    simp only[List.getElem?_map,List.getElem?_eq_getElem (show i<env.length by omega),List.getElem?_eq_getElem (show i<env'.length by omega),Option.map_some,Option.some.injEq]at this
    simp only[List.getD_eq_getElem?_getD,List.getElem?_eq_getElem (show i<env.length by omega),List.getElem?_eq_getElem (show i<env'.length by omega),Option.getD_some]
    exact this
   have e2:(env'.getD i default).to=s (env.getD i default).to:=by
    have:=congrArg (fun l:List Str=>l[i]?) h2
    simp only[List.getElem?_map,List.getElem?_eq_getElem (show i<env.length by omega),List.getElem?_eq_getElem (show i<env'.length by omega),Option.map_some,Option.some.injEq]at this
    simp only[List.getD_eq_getElem?_getD,List.getElem?_eq_getElem (show i<env.length by omega),List.getElem?_eq_getElem (show i<env'.length by omega),Option.getD_some]
    exact this
   rw[zhK,zhK,e1,e2,ih (by omega)]
   split<;>rfl
 unfold lkp
 rw[hl]
 exact key _ (Nat.le_refl _)
def isQ (k:Int):Prop:=k=8∨k=9
instance (k:Int):Decidable (isQ k):=inferInstanceAs (Decidable (_∨_))
mutual
def cst:zac→List Str→List Str
 | .mk k nm ws s,bd=>ws.filter (fun w=>decide (w∉bd))++zbU s (if isQ k then bd++[nm]else bd)
def zbU:List zac→List Str→List Str
 |[],_=>[]
 |f::fs,bd=>cst f bd++zbU fs bd
end
theorem zkA (bd:List Str):∀a b:List zac,zbU (a++b) bd=zbU a bd++zbU b bd
 |[],b=>by rw[zbU];rfl
 |f::a,b=>by rw[List.cons_append,zbU,zbU,zkA bd a b,List.append_assoc]
mutual
def ren (g:Nat→Str×Nat):zac→List zaR→Nat→zac×Nat
 | .mk k nm ws s,env,n=>
  if isQ k then(.mk k (g n).1 (ws.map (lkp env)) (za5 g s (env++[⟨nm,(g n).1⟩]) (g n).2).1,(za5 g s (env++[⟨nm,(g n).1⟩]) (g n).2).2)
  else(.mk k nm (ws.map (lkp env)) (za5 g s env n).1,(za5 g s env n).2)
def za5 (g:Nat→Str×Nat):List zac→List zaR→Nat→List zac×Nat
 |[],_,n=>([],n)
 |f::fs,env,n=>((ren g f env n).1::(za5 g fs env (ren g f env n).2).1,(za5 g fs env (ren g f env n).2).2)
end
theorem zlc (g:Nat→Str×Nat)(env:List zaR):∀(a b:List zac) (n:Nat),za5 g (a++b) env n=((za5 g a env n).1++(za5 g b env (za5 g a env n).2).1,(za5 g b env (za5 g a env n).2).2)
 |[],b,n=>by simp[za5]
 |f::a,b,n=>by rw[List.cons_append,za5,za5,zlc g env a b];rfl
theorem zdk (g:Nat→Str×Nat)(env:List zaR):∀(a:List zac) (n:Nat),(za5 g a env n).1.length=a.length
 |[],n=>by simp[za5]
 |f::a,n=>by rw[za5];simp[zdk g env a]
def vg (used:List Str)(k:Nat):Str×Nat:=(zdR (zbR used k),zbR used k+1)
def bg (n:Nat):Str×Nat:=(znO n,n+1)
theorem zgu {g:Nat→Str×Nat}{u:Nat}(hg:∀k,k≤(g k).2∧(g k).2≤k+u):
  (∀(f:zac) (env:List zaR) (n:Nat),n≤(ren g f env n).2∧(ren g f env n).2≤n+u*f.size)∧∀(fs:List zac) (env:List zaR) (n:Nat),n≤(za5 g fs env n).2∧(za5 g fs env n).2≤n+u*zac.sizes fs:=by
 suffices h:∀m,(∀(f:zac) (env:List zaR) (n:Nat),f.size≤m→n≤(ren g f env n).2∧(ren g f env n).2≤n+u*f.size)∧∀(fs:List zac) (env:List zaR) (n:Nat),zac.sizes fs≤m→n≤(za5 g fs env n).2∧(za5 g fs env n).2≤n+u*zac.sizes fs from
  ⟨fun f env n=>(h _).1 f env n (Nat.le_refl _),fun fs env n=>(h _).2 fs env n (Nat.le_refl _)⟩
 intro m
 induction m with
 |zero=>
  refine⟨fun f env n h=>by have:=f.size_pos;omega,fun fs env n h=>?_⟩
  cases fs with
  |nil=>simp[za5]
  |cons f fs=>rw[zac.sizes]at h;have:=f.size_pos;omega
 |succ m ih=>
  have h1:∀(f:zac) (env:List zaR) (n:Nat),f.size≤m+1→n≤(ren g f env n).2∧(ren g f env n).2≤n+u*f.size:=by
   rintro⟨k,nm,ws,s⟩ env n h
   rw[zac.size]at h ⊢
   rw[Nat.mul_add,Nat.mul_one]
   rw[ren]
   split
   ·have h2:=ih.2 s (env++[⟨nm,(g n).1⟩]) (g n).2 (by omega)
    have h3:=hg n
    simp only
    omega
   ·have h2:=ih.2 s env n (by omega)
    simp only
    omega
  refine⟨h1,fun fs=>?_⟩
  induction fs with
  |nil=>intro env n h;simp[za5]
  |cons f fs ih2=>
   intro env n h
   rw[zac.sizes]at h ⊢
   rw[za5,Nat.mul_add]
   have h2:=h1 f env n (by omega)
   have h3:=ih2 env (ren g f env n).2 (by omega)
   simp only
   omega
theorem zrx (used:List Str)(k:Nat):k≤(vg used k).2∧(vg used k).2≤k+(used.length+1):=by
 have:=za4 used k
 unfold vg
 simp only
 omega
theorem zve (k:Nat):k≤(bg k).2∧(bg k).2≤k+1:=by unfold bg;simp
def zba (f:zac):List Str:=(zds (zgw ((cst f []).map (·.l)))).map Str.mk
def zeC (env:List zaR)(used:List Str):List Str:=env.foldl (fun u b=>u.map fun w=>if w=b.fr then b.to else w) used
def zau (f:zac)(env:List zaR):zac:=(ren (vg (zeC env (zba f))) f env 0).1
theorem zgm:∀(l:List (List UInt8)) (x:List UInt8),x∈zds l↔x∈l:=by
 intro l x
 unfold zds Lib.compact Lib.compactUpTo
 have hget:∀j (h:j<l.length),(l.toArray)[j]! =l[j]:=fun j h=>by simp[h]
 constructor
 ·intro h
  obtain⟨j,hj,rfl⟩:=List.mem_map.1 h
  have hj':j<l.length:=List.mem_range.1 (List.mem_filter.1 hj).1
  rw[hget j hj']
  exact List.getElem_mem hj'
 ·intro h
  obtain⟨j,hj,rfl⟩:=List.getElem_of_mem h
  induction j with
  |zero=>exact List.mem_map.2 ⟨0,List.mem_filter.2 ⟨List.mem_range.2 hj,by simp[Lib.keeps]⟩,hget 0 hj⟩
  |succ j ih=>
   by_cases he:l[j+1]=l[j]
   ·rw[he];exact ih (by omega) (List.getElem_mem _)
   ·exact List.mem_map.2 ⟨j+1,List.mem_filter.2 ⟨List.mem_range.2 hj,by
     simp only[Lib.keeps,decide_eq_true_eq,Nat.add_sub_cancel]
     rw[hget _ hj,hget j (by omega)]
     exact .inr he⟩,hget _ hj⟩
theorem zbz (f:zac)(x:Str):x∈zba f↔x∈cst f []:=by
 unfold zba
 simp only[List.mem_map,zgm,(zcT _).mem_iff]
 constructor
 ·rintro⟨y,⟨z,hz,rfl⟩,rfl⟩;exact hz
 ·intro h;exact⟨x.l,⟨x,h,rfl⟩,rfl⟩
theorem zjb (f:zac):(zba f).length≤(cst f []).length:=by
 unfold zba
 rw[List.length_map]
 refine Nat.le_trans (zd9 _) ?_
 rw[ze9,List.length_map];exact Nat.le_refl _
theorem zm8 (env:List zaR):∀(used:List Str),(zeC env used).length=used.length:=by
 unfold zeC
 induction env with
 |nil=>intro u;rfl
 |cons b env ih=>intro u;rw[List.foldl_cons,ih,List.length_map]
def zeh (l:List Str)(s:Str):List Str:=if s∈l then l else l.take (l.takeWhile fun x=>decide (x.l<s.l)).length++[s]++l.drop (l.takeWhile fun x=>decide (x.l<s.l)).length
theorem zpn (l:List Str)(s x:Str):x∈zeh l s↔x∈l∨x=s:=by
 unfold zeh
 split
 ·rename_i h
  constructor
  ·exact .inl
  ·rintro(h1|rfl)
   ·exact h1
   ·exact h
 ·have h1:=List.take_append_drop (l.takeWhile fun x=>decide (x.l<s.l)).length l
  constructor
  ·intro h
   simp only[List.mem_append,List.mem_singleton]at h
   rcases h with(h|h)|h
   ·exact .inl (List.mem_of_mem_take h)
   ·exact .inr h
   ·exact .inl (List.mem_of_mem_drop h)
  ·rintro(h|rfl)
   ·rw[←h1]at h
    simp only[List.mem_append,List.mem_singleton]at h ⊢
    rcases h with h|h
    ·exact .inl (.inl h)
    ·exact .inr h
   ·simp
mutual
def zgR:zac→List Str→List Str→List Str
 | .mk k nm ws s,bd,l=>zdF s (if isQ k then bd++[nm]else bd) (ws.foldl (fun l w=>if w∈bd then l else zeh l w) l)
def zdF:List zac→List Str→List Str→List Str
 |[],_,l=>l
 |f::fs,bd,l=>zdF fs bd (zgR f bd l)
end
theorem zl0 (bd:List Str):∀(a b:List zac) (l:List Str),zdF (a++b) bd l=zdF b bd (zdF a bd l)
 |[],b,l=>by rw[zdF];rfl
 |f::a,b,l=>by rw[List.cons_append,zdF,zdF,zl0 bd a b]
theorem zmP (bd:List Str)(x:Str):∀(ws l:List Str),x∈ws.foldl (fun l w=>if w∈bd then l else zeh l w) l↔x∈l∨x∈ws.filter (fun w=>decide (w∉bd))
 |[],l=>by simp
 |w::ws,l=>by
  rw[List.foldl_cons,zmP bd x ws,List.filter_cons]
  by_cases h:w∈bd
  ·rw[if_pos h,if_neg (by simpa using h)]
  ·rw[if_neg h,if_pos (by simpa using h),zpn,List.mem_cons,or_assoc]
mutual
theorem zkZ (x:Str):∀(f:zac) (bd l:List Str),x∈zgR f bd l↔x∈l∨x∈cst f bd
 | .mk k nm ws s,bd,l=>by rw[zgR,cst,zmO x s,zmP,List.mem_append,or_assoc]
theorem zmO (x:Str):∀(fs:List zac) (bd l:List Str),x∈zdF fs bd l↔x∈l∨x∈zbU fs bd
 |[],bd,l=>by simp[zdF,zbU]
 |f::fs,bd,l=>by rw[zdF,zbU,zmO x fs,zkZ x f,List.mem_append,or_assoc]
end
theorem zpv (l:List Str)(s:Str):(zeh l s).length≤l.length+1:=by
 unfold zeh
 split
 ·omega
 ·simp only[List.length_append,List.length_take,List.length_drop,List.length_singleton];omega
theorem zgd (bd:List Str):∀(ws l:List Str),(ws.foldl (fun l w=>if w∈bd then l else zeh l w) l).length≤l.length+ws.length
 |[],l=>by simp
 |w::ws,l=>by
  rw[List.foldl_cons]
  have h1:=zgd bd ws (if w∈bd then l else zeh l w)
  have h2:(if w∈bd then l else zeh l w).length≤l.length+1:=by
   split
   ·omega
   ·exact zpv l w
  simp only[List.length_cons]
  omega
def zb8 (fr to:List Str)(w:Str):Str:=match fr,to with
 |a::fr,b::to=>if a=w then b else zb8 fr to w
 |_,_=>w
mutual
def swp (fr to:List Str):zac→zac
 | .mk k nm ws s=> .mk k (if isQ k then zb8 fr to nm else nm) (ws.map (zb8 fr to)) (zwH fr to s)
def zwH (fr to:List Str):List zac→List zac
 |[]=>[]
 |f::fs=>swp fr to f::zwH fr to fs
end
theorem zpF (fr to:List Str):∀l:List zac,zwH fr to l=l.map (swp fr to)
 |[]=>by rw[zwH];rfl
 |f::l=>by rw[zwH,zpF fr to l];rfl
def ctr (used:List Str):Nat→Nat→Nat
 |k,0=>k
 |k,i+1=>ctr used (zbR used k+1) i
def zdX (n:Nat):List Str:=(List.range n).map znO
def zee (used:List Str)(n:Nat):List Str:=(List.range n).map fun i=>zdR (zbR used (ctr used 0 i))
def zol (f:zac)(env:List zaR):zac×Nat:=ren bg f env 0
def zoH (f:zac)(env:List zaR):List Str:=zgR (zol f env).1 [] []
def zje (f:zac)(env:List zaR):zac:=swp (zdX (zol f env).2) (zee (zoH f env) (zol f env).2) (zol f env).1
theorem zhR (used:List Str):∀i k,ctr used k (i+1)=zbR used (ctr used k i)+1
 |0,k=>rfl
 |i+1,k=>by rw[ctr,zhR used i,ctr]
theorem zoD {fr to:List Str}{w:Str}(h:w∉fr):zb8 fr to w=w:=by
 induction fr generalizing to with
 |nil=>unfold zb8;rfl
 |cons a fr ih=>
  cases to with
  |nil=>unfold zb8;rfl
  |cons b to=>
   unfold zb8
   rw[if_neg (by rintro rfl;simp at h),ih (by intro h2;exact h (List.mem_cons_of_mem _ h2))]
theorem zwF {f:Nat→Str}(hf:∀i j,f i=f j→i=j){g:Nat→Str}{n i s:Nat}(h:i<n):zb8 ((List.range' s n).map f) ((List.range' s n).map g) (f (s+i))=g (s+i):=by
 induction n generalizing s i with
 |zero=>omega
 |succ n ih=>
  rw[List.range'_succ,List.map_cons,List.map_cons]
  unfold zb8
  cases i with
  |zero=>rw[Nat.add_zero,if_pos rfl]
  |succ i=>
   rw[if_neg (by intro e;have:=hf _ _ e;omega),show s+(i+1)=s+1+i by omega]
   exact ih (by omega)
theorem zj9 {used:List Str}{n i:Nat}(h:i<n):zb8 (zdX n) (zee used n) (znO i)=zdR (zbR used (ctr used 0 i)):=by
 have:=zwF (f:=znO) (fun _ _=>zvf) (g:=fun i=>zdR (zbR used (ctr used 0 i))) (s:=0) h
 rw[Nat.zero_add,←List.range_eq_range']at this
 exact this
theorem zi6 {used:List Str}{n:Nat}{w:Str}(h:¬zfE w):zb8 (zdX n) (zee used n) w=w:=by
 refine zoD fun h1=>?_
 unfold zdX at h1
 obtain⟨i,_,rfl⟩:=List.mem_map.1 h1
 exact h (zih i)
mutual
def clean:zac→Prop
 | .mk _ _ ws s=>(∀w∈ws,¬zfE w)∧zb0 s
def zb0:List zac→Prop
 |[]=>True
 |f::fs=>clean f∧zb0 fs
end
theorem zy4 {used:List Str}{N:Nat}:∀m,(∀(f:zac) (env env':List zaR) (n:Nat),f.size≤m→clean f→(ren bg f env n).2≤N→env'.map (·.fr)=env.map (·.fr)→env'.map (·.to)=env.map (fun b=>zb8 (zdX N) (zee used N) b.to)→
   ren (vg used) f env' (ctr used 0 n)=(swp (zdX N) (zee used N) (ren bg f env n).1,ctr used 0 (ren bg f env n).2))∧
  (∀(fs:List zac) (env env':List zaR) (n:Nat),zac.sizes fs≤m→zb0 fs→(za5 bg fs env n).2≤N→env'.map (·.fr)=env.map (·.fr)→env'.map (·.to)=env.map (fun b=>zb8 (zdX N) (zee used N) b.to)→
   za5 (vg used) fs env' (ctr used 0 n)=(zwH (zdX N) (zee used N) (za5 bg fs env n).1,ctr used 0 (za5 bg fs env n).2)):=by
 intro m
 induction m with
 |zero=>
  refine⟨fun f env env' n h=>by have:=f.size_pos;omega,fun fs env env' n h _ _ _ _=>?_⟩
  cases fs with
  |nil=>simp[za5,zwH]
  |cons f fs=>rw[zac.sizes]at h;have:=f.size_pos;omega
 |succ m ih=>
  have h1:∀(f:zac) (env env':List zaR) (n:Nat),f.size≤m+1→clean f→(ren bg f env n).2≤N→env'.map (·.fr)=env.map (·.fr)→env'.map (·.to)=env.map (fun b=>zb8 (zdX N) (zee used N) b.to)→
    ren (vg used) f env' (ctr used 0 n)=(swp (zdX N) (zee used N) (ren bg f env n).1,ctr used 0 (ren bg f env n).2):=by
   rintro⟨k,nm,ws,s⟩ env env' n hs hcl hN e1 e2
   rw[zac.size]at hs
   rw[clean]at hcl
   have hws:ws.map (lkp env')=(ws.map (lkp env)).map (zb8 (zdX N) (zee used N)):=by
    rw[List.map_map]
    exact List.map_congr_left fun w hw=>ztg e1 e2 (zi6 (hcl.1 w hw))
   rw[ren]at hN ⊢
   rw[ren]
   split
   ·rename_i hq
    rw[if_pos hq]at hN
    simp only at hN
    have h2:=(zgu zve).2 s (env++[⟨nm,(bg n).1⟩]) (bg n).2
    have hn:n<N:=by have:(bg n).2=n+1:=rfl;omega
    have h3:=ih.2 s (env++[⟨nm,(bg n).1⟩]) (env'++[⟨nm,(vg used (ctr used 0 n)).1⟩]) (bg n).2 (by omega) hcl.2 hN (by simp[e1]) (by
     rw[List.map_append,List.map_append,e2]
     simp only[List.map_cons,List.map_nil]
     rw[show(bg n).1=znO n from rfl,zj9 hn]
     rfl)
    have h4:(vg used (ctr used 0 n)).2=ctr used 0 (bg n).2:=(zhR used n 0).symm
    rw[h4,h3,swp,if_pos hq,hws]
    rw[show(bg n).1=znO n from rfl,zj9 hn]
    rfl
   ·rename_i hq
    rw[if_neg hq]at hN
    simp only at hN
    have h3:=ih.2 s env env' n (by omega) hcl.2 hN e1 e2
    rw[h3,swp,if_neg hq,hws]
  refine⟨h1,fun fs=>?_⟩
  induction fs with
  |nil=>intro env env' n _ _ _ _ _;simp[za5,zwH]
  |cons f fs ih2=>
   intro env env' n hs hcl hN e1 e2
   rw[zac.sizes]at hs
   rw[zb0]at hcl
   rw[za5]at hN ⊢
   rw[za5]
   simp only at hN
   have h2:=(zgu zve).2 fs env (ren bg f env n).2
   rw[h1 f env env' n (by omega) hcl.1 (by omega) e1 e2]
   simp only
   rw[ih2 env env' (ren bg f env n).2 (by omega) hcl.2 hN e1 e2,zwH]
theorem zwc {env0:List zaR}{x:Str}(hx:¬zfE x):∀m,(∀(f:zac) (env:List zaR) (bd bdR:List Str) (n:Nat),f.size≤m→(∀b∈bdR,zfE b)→(∀w,(w∈bd→zfE (lkp env w))∧(w∉bd→lkp env w=lkp env0 w))→
   (x∈cst (ren bg f env n).1 bdR↔∃w∈cst f bd,x=lkp env0 w))∧
  (∀(fs:List zac) (env:List zaR) (bd bdR:List Str) (n:Nat),zac.sizes fs≤m→(∀b∈bdR,zfE b)→(∀w,(w∈bd→zfE (lkp env w))∧(w∉bd→lkp env w=lkp env0 w))→
   (x∈zbU (za5 bg fs env n).1 bdR↔∃w∈zbU fs bd,x=lkp env0 w)):=by
 intro m
 induction m with
 |zero=>
  refine⟨fun f env bd bdR n h=>by have:=f.size_pos;omega,fun fs env bd bdR n h _ _=>?_⟩
  cases fs with
  |nil=>simp[za5,zbU]
  |cons f fs=>rw[zac.sizes]at h;have:=f.size_pos;omega
 |succ m ih=>
  have h1:∀(f:zac) (env:List zaR) (bd bdR:List Str) (n:Nat),f.size≤m+1→(∀b∈bdR,zfE b)→(∀w,(w∈bd→zfE (lkp env w))∧(w∉bd→lkp env w=lkp env0 w))→
    (x∈cst (ren bg f env n).1 bdR↔∃w∈cst f bd,x=lkp env0 w):=by
   rintro⟨k,nm,ws,s⟩ env bd bdR n hs hb hl
   rw[zac.size]at hs
   have hws:x∈(ws.map (lkp env)).filter (fun w=>decide (w∉bdR))↔∃w∈ws.filter (fun w=>decide (w∉bd)),x=lkp env0 w:=by
    simp only[List.mem_filter,List.mem_map,decide_eq_true_eq]
    constructor
    ·rintro⟨⟨w,hw,rfl⟩,_⟩
     by_cases hin:w∈bd
     ·exact absurd ((hl w).1 hin) hx
     ·exact⟨w,⟨hw,hin⟩,(hl w).2 hin⟩
    ·rintro⟨w,⟨hw,hin⟩,rfl⟩
     exact⟨⟨w,hw,(hl w).2 hin⟩,fun h=>hx (hb _ h)⟩
   have key:∀{A B C D:Prop} {p:Str→Prop} {q:Str→Prop},(A↔∃w,p w∧x=lkp env0 w)→(B↔∃w,q w∧x=lkp env0 w)→(A∨B↔∃w,(p w∨q w)∧x=lkp env0 w):=by
    intro A B C D p q h2 h3
    rw[h2,h3]
    constructor
    ·rintro(⟨w,h,e⟩|⟨w,h,e⟩)
     ·exact⟨w,.inl h,e⟩
     ·exact⟨w,.inr h,e⟩
    ·rintro⟨w,h|h,e⟩
     ·exact .inl ⟨w,h,e⟩
     ·exact .inr ⟨w,h,e⟩
   rw[ren,cst]
   split
   ·rename_i hq
    simp only[cst,List.mem_append,if_pos hq]
    refine key (C:=True) (D:=True) hws (ih.2 s _ _ _ _ (by omega) (fun b hb2=>?_) fun w=>?_)
    ·rcases List.mem_append.1 hb2 with h|h
     ·exact hb b h
     ·obtain rfl:=List.mem_singleton.1 h
      exact zih n
    ·rw[zcc]
     constructor
     ·intro hw
      by_cases he:nm=w
      ·simp only[he,if_true];exact zih n
      ·simp only[he,if_false]
       rcases List.mem_append.1 hw with h|h
       ·exact(hl w).1 h
       ·exact absurd (List.mem_singleton.1 h).symm he
     ·intro hw
      have he:¬nm=w:=fun e=>hw (by simp[e])
      simp only[he,if_false]
      exact(hl w).2 fun h=>hw (List.mem_append_left _ h)
   ·rename_i hq
    simp only[cst,List.mem_append,if_neg hq]
    exact key (C:=True) (D:=True) hws (ih.2 s _ _ _ _ (by omega) hb hl)
  refine⟨h1,fun fs=>?_⟩
  induction fs with
  |nil=>intro env bd bdR n _ _ _;simp[za5,zbU]
  |cons f fs ih2=>
   intro env bd bdR n hs hb hl
   rw[zac.sizes]at hs
   rw[za5,zbU,zbU,List.mem_append,h1 f env bd bdR n (by omega) hb hl,ih2 env bd bdR _ (by omega) hb hl]
   simp only[List.mem_append]
   constructor
   ·rintro(⟨w,h,e⟩|⟨w,h,e⟩)
    ·exact⟨w,.inl h,e⟩
    ·exact⟨w,.inr h,e⟩
   ·rintro⟨w,h|h,e⟩
    ·exact .inl ⟨w,h,e⟩
    ·exact .inr ⟨w,h,e⟩
theorem ztP {env:List zaR}(h:env.length≤1)(used:List Str):zeC env used=used.map (lkp env):=by
 match env,h with
 |[],_=>
  rw[show lkp []=id from funext fun w=>zeA w,List.map_id]
  rfl
 |[b],_=>
  simp only[zeC,List.foldl_cons,List.foldl_nil]
  refine List.map_congr_left fun w _=>?_
  have:=zcc [] b w
  rw[List.nil_append]at this
  rw[this,zeA]
  by_cases e:w=b.fr
  ·rw[if_pos e,if_pos e.symm]
  ·rw[if_neg e,if_neg fun e2=>e e2.symm]
theorem zgO {f:zac}{env:List zaR}(hf:clean f)(hl:env.length≤1)(hto:∀b∈env,¬zfE b.to):zau f env=zje f env:=by
 have hu:∀j,zdR j∈zeC env (zba f)↔zdR j∈zoH f env:=by
  intro j
  rw[ztP hl]
  unfold zoH zol
  rw[zkZ,(zwc (env0:=env) (zgs j) f.size).1 f env [] [] 0 (Nat.le_refl _) (by simp) (fun w=>⟨by simp,fun _=>rfl⟩),List.mem_map]
  constructor
  ·rintro⟨w,h,e⟩;exact .inr ⟨w,(zbz f w).1 h,e.symm⟩
  ·rintro(h|⟨w,h,e⟩)
   ·simp at h
   ·exact⟨w,(zbz f w).2 h,e.symm⟩
 have hv:vg (zeC env (zba f))=vg (zoH f env):=by
  funext k
  unfold vg
  rw[ziR hu]
 unfold zau zje
 rw[hv]
 have:=(zy4 (used:=zoH f env) (N:=(zol f env).2) f.size).1 f env env 0 (Nat.le_refl _) hf (Nat.le_refl _) rfl (List.map_congr_left fun b hb=>(zi6 (hto b hb)).symm)
 rw[show ctr (zoH f env) 0 0=0 from rfl]at this
 rw[this]
 rfl
end Go.Abs

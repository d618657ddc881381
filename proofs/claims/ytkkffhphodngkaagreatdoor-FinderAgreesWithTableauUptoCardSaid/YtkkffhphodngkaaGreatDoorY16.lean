/- several texts of this proof in one; no conditions -/
import Derived.Test.YtkkffhphodngkaaGreatDoorY15
import Derived.Test.YtkkffhphodngkaaGreatDoorY8
set_option linter.unusedSimpArgs false
namespace Go.Abs
open Go
mutual
def zab.fit:zab→Bool
 | .mk _ _ w s=>decide (w.length≤1000)&&decide (s.length≤1000)&&zab.fits s
def zab.fits:List zab→Bool
 |[]=>true
 |f::fs=>f.fit&&zab.fits fs
end
theorem zab.fits_mem:∀{l:List zab} {f:zab},zab.fits l=true→f∈l→f.fit=true
 |g::l,f,h,hm=>by
  rw[zab.fits,Bool.and_eq_true]at h
  rcases List.mem_cons.1 hm with rfl|hm
  ·exact h.1
  ·exact zab.fits_mem h.2 hm
theorem zab.fit_eq {f:zab}(h:f.fit=true):f.words.length≤1000∧f.subs.length≤1000∧zab.fits f.subs=true:=by
 cases f;rw[zab.fit]at h
 simp only[Bool.and_eq_true,decide_eq_true_eq]at h
 exact⟨h.1.1,h.1.2,h.2⟩
theorem zuJ {op:Bool}{f:zab}{d:Int}{n:Nat}(h:zdh op f d n=0):f.words.length≤1000∧f.subs.length≤1000:=by
 unfold zdh at h
 split at h
 ·simp at h
 split at h
 ·simp at h
 split at h
 ·simp at h
 rename_i h1 h2 h3
 have h4:=Decidable.not_not.1 h3
 have h5:zbn op f≤2:=by
  unfold zbn zdO
  repeat'(split<;>try decide)
 have h6:=h4.2
 unfold zdk at h6
 refine⟨?_,by omega⟩
 split at h6
 ·simp only[decide_eq_true_eq]at h6;omega
 split at h6
 ·simp only[decide_eq_true_eq]at h6;omega
 ·simp only[decide_eq_true_eq]at h6;omega
mutual
theorem ztp {op:Bool}:∀(f:zab) (d:Int) (n:Nat),(chk op f d n).1.code=0→f.fit=true
 | .mk k nm w s,d,n,h=>by
  rw[chk]at h
  split at h
  ·rename_i h1;exact absurd h h1
  rename_i h1
  have h2:=zuJ (Decidable.not_not.1 h1)
  rw[zab.fit]
  simp only[Bool.and_eq_true,decide_eq_true_eq]
  exact⟨h2,zpH s _ _ h⟩
theorem zpH {op:Bool}:∀(fs:List zab) (d:Int) (n:Nat),(zea op fs d n).1.code=0→zab.fits fs=true
 |[],_,_,_=>by rw[zab.fits]
 |f::fs,d,n,h=>by
  rw[zea]at h
  split at h
  ·rename_i h1;exact absurd h h1
  rename_i h1
  rw[zab.fits,Bool.and_eq_true]
  exact⟨ztp f d n (Decidable.not_not.1 h1),zpH fs _ _ h⟩
end
theorem zb3 {op:Bool}{f:zab}(h:(zaw op f).code=0):f.fit=true:=ztp f 1 0 h
def zEi (l:List UInt8):Nat:=l.foldl (fun a d=>a*10+(d.toNat-48)) 0
theorem zvO (l:List UInt8)(d:UInt8):zEi (l++[d])=zEi l*10+(d.toNat-48):=by
 unfold zEi;rw[List.foldl_append];rfl
theorem ztM {u:Nat}(h:u<10):(UInt8.ofNat (48+u)).toNat-48=u:=by
 rw[UInt8.toNat_ofNat',Nat.mod_eq_of_lt (by omega)];omega
theorem zkh:∀u,zEi (zbr u)=u:=by
 intro u
 unfold zbr
 induction u using Nat.strongRecOn with
 |_ u ih=>
  rw[Lib.decDigits]
  split
  ·rename_i h
   have:=ztM h
   simpa[zEi]using this
  ·rename_i h
   rw[zvO,ih (u / 10) (by omega),ztM (by omega)]
   omega
theorem zjO {u v:Nat}(h:zbr u=zbr v):u=v:=by rw[←zkh u,←zkh v,h]
theorem zgN (u:Nat):(zbr u).length≤u+1:=zf9 u
def zfB (k:Nat):Str:=⟨118::zbr k⟩
theorem zlO {u v:Nat}(h:zfB u=zfB v):u=v:=zjO (List.cons.inj (Str.mk.inj h)).2
def zn8 (w:Str):Prop:=w.l.head? =some 33
instance (w:Str):Decidable (zn8 w):=inferInstanceAs (Decidable (_=_))
def zfQ (used:List Str):Nat→Nat→Nat
 |0,k=>k
 |m+1,k=>if zfB k∈used then zfQ used m (k+1)else k
def zcI (used:List Str)(k:Nat):Nat:=zfQ used used.length k
theorem zqo (used:List Str):∀m k,k≤zfQ used m k∧zfQ used m k≤k+m
 |0,k=>by simp[zfQ]
 |m+1,k=>by
  rw[zfQ]
  split
  ·have:=zqo used m (k+1);omega
  ·omega
theorem ziL (used:List Str):∀m k i,k≤i→i<zfQ used m k→zfB i∈used
 |0,k,i,h1,h2=>by simp only[zfQ]at h2;omega
 |m+1,k,i,h1,h2=>by
  rw[zfQ]at h2
  split at h2
  ·rename_i h
   rcases Nat.eq_or_lt_of_le h1 with rfl|h1
   ·exact h
   ·exact ziL used m (k+1) i h1 h2
  ·omega
theorem zj5 (used:List Str):∀m k,zfQ used m k<k+m→zfB (zfQ used m k)∉used
 |0,k,h=>by simp[zfQ]at h
 |m+1,k,h=>by
  rw[zfQ]at h ⊢
  split
  ·rename_i h1
   rw[if_pos h1]at h
   exact zj5 used m (k+1) (by omega)
  ·assumption
theorem pig:∀(used:List Str) (S:List Nat),S.Nodup→(∀i∈S,zfB i∈used)→S.length≤used.length
 |[],S,_,h=>by
  cases S with
  |nil=>simp
  |cons i S=>have:=h i (by simp);simp at this
 |u::us,S,hn,h=>by
  by_cases he:∃i∈S,zfB i=u
  ·obtain⟨i,hi,rfl⟩:=he
   have h1:=pig us (S.erase i) (hn.erase i) fun j hj=>by
    have h2:=(List.Nodup.mem_erase_iff hn).1 hj
    rcases List.mem_cons.1 (h j h2.2)with h3|h3
    ·exact absurd (zlO h3) h2.1
    ·exact h3
   rw[List.length_erase_of_mem hi]at h1
   simp only[List.length_cons]
   omega
  ·have h1:=pig us S hn fun j hj=>by
    rcases List.mem_cons.1 (h j hj)with h3|h3
    ·exact absurd ⟨j,hj,h3⟩ he
    ·exact h3
   simp only[List.length_cons]
   omega
theorem zbj (used:List Str)(k:Nat):k≤zcI used k∧zcI used k≤k+used.length∧zfB (zcI used k)∉used∧∀i,k≤i→i<zcI used k→zfB i∈used:=by
 unfold zcI
 have h1:=zqo used used.length k
 have h2:=ziL used used.length k
 refine⟨h1.1,h1.2,?_,h2⟩
 rcases Nat.lt_or_ge (zfQ used used.length k) (k+used.length)with h|h
 ·exact zj5 used _ _ h
 ·have he:zfQ used used.length k=k+used.length:=by omega
  intro hin
  rw[he]at hin h2
  have h3:=pig used (List.range' k (used.length+1)) List.nodup_range' fun i hi=>by
   have:=List.mem_range'_1.1 hi
   rcases Nat.lt_or_ge i (k+used.length)with h4|h4
   ·exact h2 i this.1 h4
   ·obtain rfl:i=k+used.length:=by omega
    exact hin
  rw[List.length_range']at h3
  omega
theorem zo4 {a b:List Str}(h:∀j,zfB j∈a↔zfB j∈b)(k:Nat):zcI a k=zcI b k:=by
 obtain⟨a1,_,a3,a4⟩:=zbj a k
 obtain⟨b1,_,b3,b4⟩:=zbj b k
 rcases Nat.lt_trichotomy (zcI a k) (zcI b k)with h1|h1|h1
 ·exact absurd ((h _).2 (b4 _ a1 h1)) a3
 ·exact h1
 ·exact absurd ((h _).1 (a4 _ b1 h1)) b3
theorem zxw {used:List Str}{k:Nat}(h:zfB k∈used):zcI used k=zcI used (k+1):=by
 obtain⟨a1,_,a3,a4⟩:=zbj used k
 obtain⟨b1,_,b3,b4⟩:=zbj used (k+1)
 have h0:zcI used k≠k:=by intro e;rw[e]at a3;exact a3 h
 rcases Nat.lt_trichotomy (zcI used k) (zcI used (k+1))with h1|h1|h1
 ·exact absurd (b4 _ (by omega) h1) a3
 ·exact h1
 ·exact absurd (a4 _ (by omega) h1) b3
theorem zuH {used:List Str}{k:Nat}(h:zfB k∉used):zcI used k=k:=by
 obtain⟨a1,_,a3,a4⟩:=zbj used k
 rcases Nat.eq_or_lt_of_le a1 with h1|h1
 ·exact h1.symm
 ·exact absurd (a4 k (Nat.le_refl _) h1) h
structure za3 where
 fr:Str
 to:Str
 deriving DecidableEq,Inhabited
instance:Enc za3:=⟨fun b=> .agg [.s b.fr.l,.s b.to.l],fun x=>match x with| .agg [.s a,.s b]=>⟨⟨a⟩,⟨b⟩⟩|_=>⟨⟨[]⟩,⟨[]⟩⟩,fun b=>by cases b;rfl⟩
@[go_sem] theorem zwF {b:za3}:enc b= .agg [.s b.fr.l,.s b.to.l]:=rfl
@[go_sem] theorem zEx {a b:List UInt8}:dec (α:=za3) (.agg [.s a,.s b])=⟨⟨a⟩,⟨b⟩⟩:=rfl
instance:Kc za3 2:=⟨fun _=>rfl⟩
@[go_sem] theorem zBM {l:List za3}:zbx (l.map enc) 2=True:=eq_true (zdf l)
@[go_sem] theorem zzV {l:List za3}:(zad (l.map enc)).all zcN=true:=by
 rw[List.all_eq_true]
 intro d hd
 simp only[zad,List.mem_flatMap,List.mem_map]at hd
 obtain⟨_,⟨a,_,rfl⟩,x,hx,rfl⟩:=hd
 simp only[zwF,FD.cells,List.mem_cons,List.not_mem_nil,or_false]at hx
 rcases hx with rfl|rfl<;>rfl
def ziF (env:List za3)(w:Str):Nat→Str
 |0=>w
 |i+1=>if(env.getD i default).fr=w then(env.getD i default).to else ziF env w i
def lkp (env:List za3)(w:Str):Str:=ziF env w env.length
theorem zqk (env:List za3)(b:za3)(w:Str):∀i,i≤env.length→ziF (env++[b]) w i=ziF env w i
 |0,_=>rfl
 |i+1,h=>by
  rw[ziF,ziF,zqk env b w i (by omega)]
  have:(env++[b]).getD i default=env.getD i default:=by
   rw[List.getD_eq_getElem?_getD,List.getD_eq_getElem?_getD,List.getElem?_append_left (by omega)]
  rw[this]
theorem zb7 (env:List za3)(b:za3)(w:Str):lkp (env++[b]) w=if b.fr=w then b.to else lkp env w:=by
 unfold lkp
 rw[List.length_append,List.length_singleton,ziF,zqk env b w _ (Nat.le_refl _)]
 have:(env++[b]).getD env.length default=b:=by
  rw[List.getD_eq_getElem?_getD,List.getElem?_append_right (Nat.le_refl _),Nat.sub_self];rfl
 rw[this]
theorem zcS (w:Str):lkp [] w=w:=rfl
theorem zAs {env env':List za3}{s:Str→Str}(h1:env'.map (·.fr)=env.map (·.fr))(h2:env'.map (·.to)=env.map fun b=>s b.to){w:Str}(hw:s w=w):lkp env' w=s (lkp env w):=by
 have hl:env'.length=env.length:=by have:=congrArg List.length h1;simpa using this
 have key:∀i,i≤env.length→ziF env' w i=s (ziF env w i):=by
  intro i
  induction i with
  |zero=>intro _;exact hw.symm
  |succ i ih=>
   intro hi
   have e1:(env'.getD i default).fr=(env.getD i default).fr:=by
    have:=congrArg (fun l:List Str=>l[i]?) h1
    simp only[List.getElem?_map,List.getElem?_eq_getElem (show i<env.length by omega),List.getElem?_eq_getElem (show i<env'.length by omega),Option.map_some,Option.some.injEq]at this
    simp only[List.getD_eq_getElem?_getD,List.getElem?_eq_getElem (show i<env.length by omega),List.getElem?_eq_getElem (show i<env'.length by omega),Option.getD_some]
    exact this
   have e2:(env'.getD i default).to=s (env.getD i default).to:=by
    have:=congrArg (fun l:List Str=>l[i]?) h2
    simp only[List.getElem?_map,List.getElem?_eq_getElem (show i<env.length by omega),List.getElem?_eq_getElem (show i<env'.length by omega),Option.map_some,Option.some.injEq]at this
    simp only[List.getD_eq_getElem?_getD,List.getElem?_eq_getElem (show i<env.length by omega),List.getElem?_eq_getElem (show i<env'.length by omega),Option.getD_some]
    exact this
   rw[ziF,ziF,e1,e2,ih (by omega)]
   split<;>rfl
 unfold lkp
 rw[hl]
 exact key _ (Nat.le_refl _)
def isQ (k:Int):Prop:=k=8∨k=9
instance (k:Int):Decidable (isQ k):=inferInstanceAs (Decidable (_∨_))
mutual
def cst:zab→List Str→List Str
 | .mk k nm ws s,bd=>ws.filter (fun w=>decide (w∉bd))++zbC s (if isQ k then bd++[nm]else bd)
def zbC:List zab→List Str→List Str
 |[],_=>[]
 |f::fs,bd=>cst f bd++zbC fs bd
end
theorem zkF (bd:List Str):∀a b:List zab,zbC (a++b) bd=zbC a bd++zbC b bd
 |[],b=>by rw[zbC];rfl
 |f::a,b=>by rw[List.cons_append,zbC,zbC,zkF bd a b,List.append_assoc]
mutual
def ren (g:Nat→Str×Nat):zab→List za3→Nat→zab×Nat
 | .mk k nm ws s,env,n=>
  if isQ k then(.mk k (g n).1 (ws.map (lkp env)) (zbb g s (env++[⟨nm,(g n).1⟩]) (g n).2).1,(zbb g s (env++[⟨nm,(g n).1⟩]) (g n).2).2)
  else(.mk k nm (ws.map (lkp env)) (zbb g s env n).1,(zbb g s env n).2)
def zbb (g:Nat→Str×Nat):List zab→List za3→Nat→List zab×Nat
 |[],_,n=>([],n)
 |f::fs,env,n=>((ren g f env n).1::(zbb g fs env (ren g f env n).2).1,(zbb g fs env (ren g f env n).2).2)
end
theorem zqy (g:Nat→Str×Nat)(env:List za3):∀(a b:List zab) (n:Nat),zbb g (a++b) env n=((zbb g a env n).1++(zbb g b env (zbb g a env n).2).1,(zbb g b env (zbb g a env n).2).2)
 |[],b,n=>by simp[zbb]
 |f::a,b,n=>by rw[List.cons_append,zbb,zbb,zqy g env a b];rfl
theorem zdV (g:Nat→Str×Nat)(env:List za3):∀(a:List zab) (n:Nat),(zbb g a env n).1.length=a.length
 |[],n=>by simp[zbb]
 |f::a,n=>by rw[zbb];simp[zdV g env a]
def vg (used:List Str)(k:Nat):Str×Nat:=(zfB (zcI used k),zcI used k+1)
theorem znC {g:Nat→Str×Nat}{u:Nat}(hg:∀k,k≤(g k).2∧(g k).2≤k+u):
  (∀(f:zab) (env:List za3) (n:Nat),n≤(ren g f env n).2∧(ren g f env n).2≤n+u*f.size)∧∀(fs:List zab) (env:List za3) (n:Nat),n≤(zbb g fs env n).2∧(zbb g fs env n).2≤n+u*zab.sizes fs:=by
 suffices h:∀m,(∀(f:zab) (env:List za3) (n:Nat),f.size≤m→n≤(ren g f env n).2∧(ren g f env n).2≤n+u*f.size)∧∀(fs:List zab) (env:List za3) (n:Nat),zab.sizes fs≤m→n≤(zbb g fs env n).2∧(zbb g fs env n).2≤n+u*zab.sizes fs from
  ⟨fun f env n=>(h _).1 f env n (Nat.le_refl _),fun fs env n=>(h _).2 fs env n (Nat.le_refl _)⟩
 intro m
 induction m with
 |zero=>
  refine⟨fun f env n h=>by have:=f.size_pos;omega,fun fs env n h=>?_⟩
  cases fs with
  |nil=>simp[zbb]
  |cons f fs=>rw[zab.sizes]at h;have:=f.size_pos;omega
 |succ m ih=>
  have h1:∀(f:zab) (env:List za3) (n:Nat),f.size≤m+1→n≤(ren g f env n).2∧(ren g f env n).2≤n+u*f.size:=by
   rintro⟨k,nm,ws,s⟩ env n h
   rw[zab.size]at h ⊢
   rw[Nat.mul_add,Nat.mul_one]
   rw[ren]
   split
   ·have h2:=ih.2 s (env++[⟨nm,(g n).1⟩]) (g n).2 (by omega)
    have h3:=hg n
    simp only
    omega
   ·have h2:=ih.2 s env n (by omega)
    simp only
    omega
  refine⟨h1,fun fs=>?_⟩
  induction fs with
  |nil=>intro env n h;simp[zbb]
  |cons f fs ih2=>
   intro env n h
   rw[zab.sizes]at h ⊢
   rw[zbb,Nat.mul_add]
   have h2:=h1 f env n (by omega)
   have h3:=ih2 env (ren g f env n).2 (by omega)
   simp only
   omega
theorem zsE (used:List Str)(k:Nat):k≤(vg used k).2∧(vg used k).2≤k+(used.length+1):=by
 have:=zbj used k
 unfold vg
 simp only
 omega
def zaP (f:zab):List Str:=(zdC (zg7 ((cst f []).map (·.l)))).map Str.mk
def zfi (env:List za3)(used:List Str):List Str:=env.foldl (fun u b=>u.map fun w=>if w=b.fr then b.to else w) used
def zaD (f:zab)(env:List za3):zab:=(ren (vg (zfi env (zaP f))) f env 0).1
theorem zeh:∀(l:List (List UInt8)) (x:List UInt8),x∈zdC l↔x∈l:=by
 intro l x
 unfold zdC Lib.compact Lib.compactUpTo
 have hget:∀j (h:j<l.length),(l.toArray)[j]! =l[j]:=fun j h=>by simp[h]
 constructor
 ·intro h
  obtain⟨j,hj,rfl⟩:=List.mem_map.1 h
  have hj':j<l.length:=List.mem_range.1 (List.mem_filter.1 hj).1
  rw[hget j hj']
  exact List.getElem_mem hj'
 ·intro h
  obtain⟨j,hj,rfl⟩:=List.getElem_of_mem h
  induction j with
  |zero=>exact List.mem_map.2 ⟨0,List.mem_filter.2 ⟨List.mem_range.2 hj,by simp[Lib.keeps]⟩,hget 0 hj⟩
  |succ j ih=>
   by_cases he:l[j+1]=l[j]
   ·rw[he];exact ih (by omega) (List.getElem_mem _)
   ·exact List.mem_map.2 ⟨j+1,List.mem_filter.2 ⟨List.mem_range.2 hj,by
     simp only[Lib.keeps,decide_eq_true_eq,Nat.add_sub_cancel]
     rw[hget _ hj,hget j (by omega)]
     exact .inr he⟩,hget _ hj⟩
theorem zbm (f:zab)(x:Str):x∈zaP f↔x∈cst f []:=by
 unfold zaP
 simp only[List.mem_map,zeh,(zcw _).mem_iff]
 constructor
 ·rintro⟨y,⟨z,hz,rfl⟩,rfl⟩;exact hz
 ·intro h;exact⟨x.l,⟨x,h,rfl⟩,rfl⟩
theorem zfn (f:zab):(zaP f).length≤(cst f []).length:=by
 unfold zaP
 rw[List.length_map]
 refine Nat.le_trans (zc3 _) ?_
 rw[zel,List.length_map];exact Nat.le_refl _
theorem znF (env:List za3):∀(used:List Str),(zfi env used).length=used.length:=by
 unfold zfi
 induction env with
 |nil=>intro u;rfl
 |cons b env ih=>intro u;rw[List.foldl_cons,ih,List.length_map]
def zka (l:List Str)(s:Str):List Str:=if s∈l then l else l.take (l.takeWhile fun x=>decide (x.l<s.l)).length++[s]++l.drop (l.takeWhile fun x=>decide (x.l<s.l)).length
theorem zxv (l:List Str)(s x:Str):x∈zka l s↔x∈l∨x=s:=by
 unfold zka
 split
 ·rename_i h
  constructor
  ·exact .inl
  ·rintro(h1|rfl)
   ·exact h1
   ·exact h
 ·have h1:=List.take_append_drop (l.takeWhile fun x=>decide (x.l<s.l)).length l
  constructor
  ·intro h
   simp only[List.mem_append,List.mem_singleton]at h
   rcases h with(h|h)|h
   ·exact .inl (List.mem_of_mem_take h)
   ·exact .inr h
   ·exact .inl (List.mem_of_mem_drop h)
  ·rintro(h|rfl)
   ·rw[←h1]at h
    simp only[List.mem_append,List.mem_singleton]at h ⊢
    rcases h with h|h
    ·exact .inl (.inl h)
    ·exact .inr h
   ·simp
mutual
def zjg:zab→List Str→List Str→List Str
 | .mk k nm ws s,bd,l=>zdM s (if isQ k then bd++[nm]else bd) (ws.foldl (fun l w=>if w∈bd then l else zka l w) l)
def zdM:List zab→List Str→List Str→List Str
 |[],_,l=>l
 |f::fs,bd,l=>zdM fs bd (zjg f bd l)
end
theorem zmp (bd:List Str):∀(a b:List zab) (l:List Str),zdM (a++b) bd l=zdM b bd (zdM a bd l)
 |[],b,l=>by rw[zdM];rfl
 |f::a,b,l=>by rw[List.cons_append,zdM,zdM,zmp bd a b]
theorem zne (bd:List Str)(x:Str):∀(ws l:List Str),x∈ws.foldl (fun l w=>if w∈bd then l else zka l w) l↔x∈l∨x∈ws.filter (fun w=>decide (w∉bd))
 |[],l=>by simp
 |w::ws,l=>by
  rw[List.foldl_cons,zne bd x ws,List.filter_cons]
  by_cases h:w∈bd
  ·rw[if_pos h,if_neg (by simpa using h)]
  ·rw[if_neg h,if_pos (by simpa using h),zxv,List.mem_cons,or_assoc]
mutual
theorem zql (x:Str):∀(f:zab) (bd l:List Str),x∈zjg f bd l↔x∈l∨x∈cst f bd
 | .mk k nm ws s,bd,l=>by rw[zjg,cst,znd x s,zne,List.mem_append,or_assoc]
theorem znd (x:Str):∀(fs:List zab) (bd l:List Str),x∈zdM fs bd l↔x∈l∨x∈zbC fs bd
 |[],bd,l=>by simp[zdM,zbC]
 |f::fs,bd,l=>by rw[zdM,zbC,znd x fs,zql x f,List.mem_append,or_assoc]
end
theorem zxP (l:List Str)(s:Str):(zka l s).length≤l.length+1:=by
 unfold zka
 split
 ·omega
 ·simp only[List.length_append,List.length_take,List.length_drop,List.length_singleton];omega
theorem zgi (bd:List Str):∀(ws l:List Str),(ws.foldl (fun l w=>if w∈bd then l else zka l w) l).length≤l.length+ws.length
 |[],l=>by simp
 |w::ws,l=>by
  rw[List.foldl_cons]
  have h1:=zgi bd ws (if w∈bd then l else zka l w)
  have h2:(if w∈bd then l else zka l w).length≤l.length+1:=by
   split
   ·omega
   ·exact zxP l w
  simp only[List.length_cons]
  omega
def zAX (fr to:List Str)(w:Str):Str:=match fr,to with
 |a::fr,b::to=>if a=w then b else zAX fr to w
 |_,_=>w
mutual
def swp (fr to:List Str):zab→zab
 | .mk k nm ws s=> .mk k (if isQ k then zAX fr to nm else nm) (ws.map (zAX fr to)) (zKl fr to s)
def zKl (fr to:List Str):List zab→List zab
 |[]=>[]
 |f::fs=>swp fr to f::zKl fr to fs
end
mutual
def clean:zab→Prop
 | .mk _ _ ws s=>(∀w∈ws,¬zn8 w)∧zdl s
def zdl:List zab→Prop
 |[]=>True
 |f::fs=>clean f∧zdl fs
end
theorem zu6 {env:List za3}(h:env.length≤1)(used:List Str):zfi env used=used.map (lkp env):=by
 match env,h with
 |[],_=>
  rw[show lkp []=id from funext fun w=>zcS w,List.map_id]
  rfl
 |[b],_=>
  simp only[zfi,List.foldl_cons,List.foldl_nil]
  refine List.map_congr_left fun w _=>?_
  have:=zb7 [] b w
  rw[List.nil_append]at this
  rw[this,zcS]
  by_cases e:w=b.fr
  ·rw[if_pos e,if_pos e.symm]
  ·rw[if_neg e,if_neg fun e2=>e e2.symm]
end Go.Abs
namespace Go.Abs
open Go
mutual
def zab.depth:zab→Nat
 | .mk _ _ _ s=>zab.depths s+1
def zab.depths:List zab→Nat
 |[]=>0
 |f::fs=>max f.depth (zab.depths fs)
end
def zkQ (f:zab):Bool:=decide (f.size≤200∧f.depth≤40)
mutual
theorem zab.depth_size:∀f:zab,f.depth≤f.size
 | .mk k n w s=>by rw[zab.depth,zab.size];have:=zab.depths_size s;omega
theorem zab.depths_size:∀fs:List zab,zab.depths fs≤zab.sizes fs
 |[]=>by rw[zab.depths,zab.sizes];exact Nat.le_refl _
 |f::fs=>by rw[zab.depths,zab.sizes];have:=f.depth_size;have:=zab.depths_size fs;omega
end
mutual
theorem zpG {op:Bool}:∀(f:zab) (d:Int) (n:Nat),(chk op f d n).1.code=0→(chk op f d n).2=n+f.size
 | .mk k nm w s,d,n,h=>by
  rw[chk]at h ⊢
  split at h
  ·rename_i h1;exact absurd h h1
  ·rename_i h1
   rw[if_neg h1,zab.size,zmj s _ _ h];omega
theorem zmj {op:Bool}:∀(fs:List zab) (d:Int) (n:Nat),(zea op fs d n).1.code=0→(zea op fs d n).2=n+zab.sizes fs
 |[],d,n,_=>by rw[zea,zab.sizes];rfl
 |f::fs,d,n,h=>by
  rw[zea]at h ⊢
  split at h
  ·rename_i h1;exact absurd h h1
  ·rename_i h1
   have h2:=zpG f d n (Decidable.not_not.1 h1)
   rw[if_neg h1,zmj fs d _ h,h2,zab.sizes];omega
end
theorem za7 {op:Bool}{f:zab}(h:(zaw op f).code=0):f.size≤200:=by
 have h1:=zpG f 1 0 h
 have h2:=(ztq f 1 0 h).2.1
 omega
theorem zni {s:Str}(h:zat s=true):¬zn8 s:=by
 unfold zat at h
 have h:=(of_decide_eq_true h).2.2.1
 intro hb
 unfold zn8 at hb
 have h0:s.l.getD 0 0=33:=by rw[List.getD_eq_getElem?_getD,←List.head?_eq_getElem?,hb];rfl
 rw[h0]at h
 exact absurd h (by decide)
theorem zdI {op:Bool}{f:zab}{d:Int}{n:Nat}(h:zdh op f d n=0):f.words.all zat=true∧(named f=true→zat f.name=true)∧(named f=false→f.name=⟨[]⟩)∧zdk f=true∧(f.subs.length:Int)=zbn op f:=by
 unfold zdh at h
 split at h
 ·simp at h
 split at h
 ·simp at h
 split at h
 ·simp at h
 rename_i h3
 split at h
 ·simp at h
 rename_i h4
 split at h
 ·simp at h
 rename_i h5
 split at h
 ·simp at h
 rename_i h6
 have h7:=Decidable.not_not.1 h3
 refine⟨by simpa using h6,fun h8=>?_,fun h8=>?_,h7.2,h7.1⟩
 ·cases hn:zat f.name with
  |true=>rfl
  |false=>exact absurd ⟨h8,hn⟩ h4
 ·exact Decidable.not_not.1 fun hn=>h5 ⟨h8,hn⟩
mutual
theorem ztn {op:Bool}:∀(f:zab) (d:Int) (n:Nat),(chk op f d n).1.code=0→clean f
 | .mk k nm w s,d,n,h=>by
  rw[chk]at h
  split at h
  ·rename_i h1;exact absurd h h1
  ·rename_i h1
   have h2:=(zdI (Decidable.not_not.1 h1)).1
   rw[clean]
   exact⟨fun x hx=>zni (List.all_eq_true.1 h2 x hx),zjJ s _ _ h⟩
theorem zjJ {op:Bool}:∀(fs:List zab) (d:Int) (n:Nat),(zea op fs d n).1.code=0→zdl fs
 |[],d,n,_=>by rw[zdl];trivial
 |f::fs,d,n,h=>by
  rw[zea]at h
  split at h
  ·rename_i h1;exact absurd h h1
  ·rename_i h1
   rw[zdl]
   exact⟨ztn f d n (Decidable.not_not.1 h1),zjJ fs d _ h⟩
end
theorem fits_mem:∀l:List zab,zab.fits l=true↔∀f∈l,f.fit=true
 |[]=>by rw[zab.fits];simp
 |f::l=>by rw[zab.fits,Bool.and_eq_true,fits_mem l];simp
theorem znN {c:Nat}:∀l:List zab,(∀f∈l,f.size≤c)→zab.sizes l≤l.length*c
 |[],_=>by rw[zab.sizes];omega
 |f::l,h=>by
  rw[zab.sizes,List.length_cons,Nat.add_mul,Nat.one_mul]
  have h1:=h f (by simp)
  have h2:=znN l fun g hg=>h g (by simp[hg])
  omega
theorem zuu (env:List za3)(w:Str):∀i,i≤env.length→ziF env w i=w∨∃b∈env,ziF env w i=b.to
 |0,_=> .inl rfl
 |i+1,h=>by
  rw[ziF]
  split
  ·refine .inr ⟨env.getD i default,?_,rfl⟩
   rw[List.getD_eq_getElem?_getD,List.getElem?_eq_getElem (by omega)]
   exact List.getElem_mem _
  ·exact zuu env w i (by omega)
theorem zuw (env:List za3)(w:Str):lkp env w=w∨∃b∈env,lkp env w=b.to:=zuu env w _ (Nat.le_refl _)
mutual
theorem zqx (g:Nat→Str×Nat):∀(f:zab) (env:List za3) (n:Nat),(ren g f env n).1.size=f.size
 | .mk k nm ws s,env,n=>by
  rw[ren]
  split
  ·rw[zab.size,zab.size,ziY g s]
  ·rw[zab.size,zab.size,ziY g s]
theorem ziY (g:Nat→Str×Nat):∀(fs:List zab) (env:List za3) (n:Nat),zab.sizes (zbb g fs env n).1=zab.sizes fs
 |[],env,n=>by rw[zbb]
 |f::fs,env,n=>by rw[zbb,zab.sizes,zab.sizes,zqx g f,ziY g fs]
end
mutual
theorem zu1 (g:Nat→Str×Nat):∀(f:zab) (env:List za3) (n:Nat),(ren g f env n).1.fit=f.fit
 | .mk k nm ws s,env,n=>by
  rw[ren]
  split
  ·rw[zab.fit,zab.fit,zlr g s,List.length_map,zdV]
  ·rw[zab.fit,zab.fit,zlr g s,List.length_map,zdV]
theorem zlr (g:Nat→Str×Nat):∀(fs:List zab) (env:List za3) (n:Nat),zab.fits (zbb g fs env n).1=zab.fits fs
 |[],env,n=>by rw[zbb]
 |f::fs,env,n=>by rw[zbb,zab.fits,zab.fits,zu1 g f,zlr g fs]
end
theorem znb {env:List za3}{ws:List Str}(h:∀w∈ws,¬zn8 w)(he:∀b∈env,¬zn8 b.to):∀w∈ws.map (lkp env),¬zn8 w:=by
 intro w hw
 obtain⟨x,hx,rfl⟩:=List.mem_map.1 hw
 rcases zuw env x with e|⟨b,hb,e⟩
 ·rw[e];exact h x hx
 ·rw[e];exact he b hb
mutual
theorem zu0 {g:Nat→Str×Nat}(hg:∀k,¬zn8 (g k).1):∀(f:zab) (env:List za3) (n:Nat),clean f→(∀b∈env,¬zn8 b.to)→clean (ren g f env n).1
 | .mk k nm ws s,env,n,h,he=>by
  rw[clean]at h
  rw[ren]
  split
  ·rw[clean]
   refine⟨znb h.1 he,zg0 hg s _ _ h.2 fun b hb=>?_⟩
   rcases List.mem_append.1 hb with hb|hb
   ·exact he b hb
   ·rw[List.mem_singleton.1 hb];exact hg n
  ·rw[clean]
   exact⟨znb h.1 he,zg0 hg s _ _ h.2 he⟩
theorem zg0 {g:Nat→Str×Nat}(hg:∀k,¬zn8 (g k).1):∀(fs:List zab) (env:List za3) (n:Nat),zdl fs→(∀b∈env,¬zn8 b.to)→zdl (zbb g fs env n).1
 |[],env,n,_,_=>by rw[zbb,zdl];trivial
 |f::fs,env,n,h,he=>by
  rw[zdl]at h
  rw[zbb,zdl]
  exact⟨zu0 hg f _ _ h.1 he,zg0 hg fs _ _ h.2 he⟩
end
theorem zcl (f:zab)(env:List za3):(zaD f env).size=f.size:=zqx _ f env 0
theorem zgK (f:zab)(env:List za3):(zaD f env).fit=f.fit:=zu1 _ f env 0
def zeD (k:Int):List zab→zab
 |[]=> .mk 0 ⟨[]⟩ [] []
 |f::l=>l.foldl (fun a x=> .mk k ⟨[]⟩ [] [a,x]) f
theorem zgS (k:Int):∀(l:List zab) (f:zab),((l.foldl (fun a x=>zab.mk k ⟨[]⟩ [] [a,x]) f).size=f.size+zab.sizes l+l.length)∧((l.foldl (fun a x=>zab.mk k ⟨[]⟩ [] [a,x]) f).fit=(f.fit&&zab.fits l))∧(clean (l.foldl (fun a x=>zab.mk k ⟨[]⟩ [] [a,x]) f)↔clean f∧zdl l)
 |[],f=>by rw[zab.sizes,zab.fits,zdl];simp
 |x::l,f=>by
  rw[List.foldl_cons]
  obtain⟨h1,h2,h3⟩:=zgS k l (.mk k ⟨[]⟩ [] [f,x])
  refine⟨?_,?_,?_⟩
  ·rw[h1];simp only[zab.size,zab.sizes,List.length_cons];omega
  ·rw[h2];simp only[zab.fit,zab.fits,List.length_nil,List.length_cons,Nat.zero_le,decide_true,Bool.true_and,Bool.and_true,Bool.and_assoc];rfl
  ·rw[h3];simp only[clean,zdl,List.not_mem_nil,false_implies,implies_true,true_and,and_true,and_assoc]
theorem zrX (k:Int)(l:List zab):(zeD k l).size≤zab.sizes l+l.length+1:=by
 cases l with
 |nil=>simp only[zeD,zab.size,zab.sizes,List.length_nil];omega
 |cons f l=>
  have:=(zgS k l f).1
  show(l.foldl (fun a x=>zab.mk k ⟨[]⟩ [] [a,x]) f).size≤_
  rw[this,zab.sizes,List.length_cons];omega
theorem zul (k:Int){l:List zab}(h:zab.fits l=true):(zeD k l).fit=true:=by
 cases l with
 |nil=>simp only[zeD,zab.fit,zab.fits,List.length_nil,Nat.zero_le,decide_true,Bool.true_and]
 |cons f l=>
  show(l.foldl (fun a x=>zab.mk k ⟨[]⟩ [] [a,x]) f).fit=_
  rw[(zgS k l f).2.1];rwa [zab.fits]at h
def za2:zab:= .mk 0 ⟨[]⟩ [] []
end Go.Abs
namespace Go.Abs
open Go
mutual
def zbK (p:Str→Prop):zab→Prop
 | .mk k nm ws s=>(∀w∈ws,p w)∧(isQ k→p nm)∧zaQ p s
def zaQ (p:Str→Prop):List zab→Prop
 |[]=>True
 |f::fs=>zbK p f∧zaQ p fs
end
mutual
def zgp (σ:Str→Str):zab→zab
 | .mk k nm ws s=> .mk k (if isQ k then σ nm else nm) (ws.map σ) (zcd σ s)
def zcd (σ:Str→Str):List zab→List zab
 |[]=>[]
 |f::fs=>zgp σ f::zcd σ fs
end
theorem zna (σ:Str→Str):∀l:List zab,zcd σ l=l.map (zgp σ)
 |[]=>by rw[zcd];rfl
 |f::l=>by rw[zcd,zna σ l];rfl
theorem zf1 (p:Str→Prop):∀l:List zab,zaQ p l↔∀f∈l,zbK p f
 |[]=>by rw[zaQ];simp
 |f::l=>by rw[zaQ,zf1 p l];simp
mutual
theorem zl4 {p q:Str→Prop}(h:∀w,p w→q w):∀f:zab,zbK p f→zbK q f
 | .mk k nm ws s,hf=>by
  rw[zbK]at hf ⊢
  exact⟨fun w hw=>h w (hf.1 w hw),fun hk=>h nm (hf.2.1 hk),zjD h s hf.2.2⟩
theorem zjD {p q:Str→Prop}(h:∀w,p w→q w):∀fs:List zab,zaQ p fs→zaQ q fs
 |[],_=>by rw[zaQ];trivial
 |f::fs,hf=>by rw[zaQ]at hf ⊢;exact⟨zl4 h f hf.1,zjD h fs hf.2⟩
end
mutual
theorem zjC {p:Str→Prop}(h:∀w,p w→¬zn8 w):∀f:zab,zbK p f→clean f
 | .mk k nm ws s,hf=>by rw[zbK]at hf;rw[clean];exact⟨fun w hw=>h w (hf.1 w hw),zh5 h s hf.2.2⟩
theorem zh5 {p:Str→Prop}(h:∀w,p w→¬zn8 w):∀fs:List zab,zaQ p fs→zdl fs
 |[],_=>by rw[zdl];trivial
 |f::fs,hf=>by rw[zaQ]at hf;rw[zdl];exact⟨zjC h f hf.1,zh5 h fs hf.2⟩
end
mutual
theorem zuy (σ:Str→Str):∀f:zab,(zgp σ f).size=f.size
 | .mk k nm ws s=>by rw[zgp,zab.size,zab.size,ziG σ s]
theorem ziG (σ:Str→Str):∀fs:List zab,zab.sizes (zcd σ fs)=zab.sizes fs
 |[]=>by rw[zcd]
 |f::fs=>by rw[zcd,zab.sizes,zab.sizes,zuy σ f,ziG σ fs]
end
mutual
theorem zrZ (σ:Str→Str):∀f:zab,(zgp σ f).depth=f.depth
 | .mk k nm ws s=>by rw[zgp,zab.depth,zab.depth,zht σ s]
theorem zht (σ:Str→Str):∀fs:List zab,zab.depths (zcd σ fs)=zab.depths fs
 |[]=>by rw[zcd]
 |f::fs=>by rw[zcd,zab.depths,zab.depths,zrZ σ f,zht σ fs]
end
theorem zuz (σ:Str→Str)(l:List zab):(zcd σ l).length=l.length:=by rw[zna,List.length_map]
mutual
theorem zxu (σ:Str→Str):∀f:zab,(zgp σ f).fit=f.fit
 | .mk k nm ws s=>by rw[zgp,zab.fit,zab.fit,zj0 σ s,List.length_map,zuz]
theorem zj0 (σ:Str→Str):∀fs:List zab,zab.fits (zcd σ fs)=zab.fits fs
 |[]=>by rw[zcd]
 |f::fs=>by rw[zcd,zab.fits,zab.fits,zxu σ f,zj0 σ fs]
end
theorem zmV (σ:Str→Str)(k:Int)(hk:¬isQ k):∀(l:List zab) (f:zab),zgp σ (l.foldl (fun a x=>zab.mk k ⟨[]⟩ [] [a,x]) f)=(l.map (zgp σ)).foldl (fun a x=>zab.mk k ⟨[]⟩ [] [a,x]) (zgp σ f)
 |[],f=>rfl
 |x::l,f=>by
  rw[List.foldl_cons,zmV σ k hk l,List.map_cons,List.foldl_cons]
  simp only[zgp,zcd,if_neg hk,List.map_nil]
theorem zum (σ:Str→Str)(k:Int)(hk:¬isQ k)(l:List zab):zgp σ (zeD k l)=zeD k (l.map (zgp σ)):=by
 cases l with
 |nil=>simp[zeD,zgp,zcd,isQ]
 |cons f l=>exact zmV σ k hk l f
theorem zjV (p:Str→Prop)(k:Int)(hk:¬isQ k):∀(l:List zab) (f:zab),zbK p f→zaQ p l→zbK p (l.foldl (fun a x=>zab.mk k ⟨[]⟩ [] [a,x]) f)
 |[],f,h,_=>h
 |x::l,f,h,hl=>by
  rw[List.foldl_cons]
  rw[zaQ]at hl
  refine zjV p k hk l _ ?_ hl.2
  simp only[zbK,zaQ]
  exact⟨by simp,fun h=>absurd h hk,h,hl.1,trivial⟩
theorem zjX (p:Str→Prop)(k:Int)(hk:¬isQ k){l:List zab}(h:zaQ p l):zbK p (zeD k l):=by
 cases l with
 |nil=>simp[zeD,zbK,zaQ,isQ]
 |cons f l=>rw[zaQ]at h;exact zjV p k hk l f h.1 h.2
mutual
theorem zmo:∀(f:zab) (bd:List Str) (x:Str),x∈cst f bd→x∉bd
 | .mk k nm ws s,bd,x,h=>by
  rw[cst,List.mem_append]at h
  rcases h with h|h
  ·simpa using(List.mem_filter.1 h).2
  ·have:=zfs s _ x h
   split at this
   ·exact fun hb=>this (List.mem_append_left _ hb)
   ·exact this
theorem zfs:∀(fs:List zab) (bd:List Str) (x:Str),x∈zbC fs bd→x∉bd
 |[],bd,x,h=>by rw[zbC]at h;simp at h
 |f::fs,bd,x,h=>by
  rw[zbC,List.mem_append]at h
  rcases h with h|h
  ·exact zmo f bd x h
  ·exact zfs fs bd x h
end
mutual
theorem zkE {p:Str→Prop}:∀(f:zab) (bd:List Str) (x:Str),zbK p f→x∈cst f bd→p x
 | .mk k nm ws s,bd,x,hf,h=>by
  rw[zbK]at hf
  rw[cst,List.mem_append]at h
  rcases h with h|h
  ·exact hf.1 x (List.mem_filter.1 h).1
  ·exact zmq s _ x hf.2.2 h
theorem zmq {p:Str→Prop}:∀(fs:List zab) (bd:List Str) (x:Str),zaQ p fs→x∈zbC fs bd→p x
 |[],bd,x,_,h=>by rw[zbC]at h;simp at h
 |f::fs,bd,x,hf,h=>by
  rw[zaQ]at hf
  rw[zbC,List.mem_append]at h
  rcases h with h|h
  ·exact zkE f bd x hf.1 h
  ·exact zmq fs bd x hf.2 h
end
mutual
theorem zzE {σ:Str→Str}{p:Str→Prop}(hi:∀a b,p a→p b→σ a=σ b→a=b):∀(f:zab) (bd:List Str),zbK p f→(∀b∈bd,p b)→cst (zgp σ f) (bd.map σ)=(cst f bd).map σ
 | .mk k nm ws s,bd,hf,hb=>by
  rw[zbK]at hf
  rw[zgp,cst,cst,List.map_append]
  congr 1
  ·rw[List.filter_map]
   congr 1
   refine List.filter_congr fun w hw=>?_
   simp only[Function.comp]
   rw[decide_eq_decide]
   constructor
   ·intro h hw2;exact h (List.mem_map_of_mem hw2)
   ·intro h hw2
    obtain⟨b,hb2,e⟩:=List.mem_map.1 hw2
    exact h (hi b w (hb b hb2) (hf.1 w hw) e▸hb2)
  ·by_cases hq:isQ k
   ·rw[if_pos hq,if_pos hq,if_pos hq]
    have:=zkG hi s (bd++[nm]) hf.2.2 fun b hb2=>by
     rcases List.mem_append.1 hb2 with h|h
     ·exact hb b h
     ·rw[List.mem_singleton.1 h];exact hf.2.1 hq
    rw[List.map_append]at this
    exact this
   ·rw[if_neg hq,if_neg hq]
    exact zkG hi s bd hf.2.2 hb
theorem zkG {σ:Str→Str}{p:Str→Prop}(hi:∀a b,p a→p b→σ a=σ b→a=b):∀(fs:List zab) (bd:List Str),zaQ p fs→(∀b∈bd,p b)→zbC (zcd σ fs) (bd.map σ)=(zbC fs bd).map σ
 |[],bd,_,_=>by rw[zcd,zbC,zbC];rfl
 |f::fs,bd,hf,hb=>by
  rw[zaQ]at hf
  rw[zcd,zbC,zbC,List.map_append,zzE hi f bd hf.1 hb,zkG hi fs bd hf.2 hb]
end
theorem zuv {σ:Str→Str}{p:Str→Prop}(hi:∀a b,p a→p b→σ a=σ b→a=b){env:List za3}{w:Str}(hw:p w)(he:∀b∈env,p b.fr):
  lkp (env.map fun b=>⟨σ b.fr,b.to⟩) (σ w)=lkp env w∨(lkp (env.map fun b=>⟨σ b.fr,b.to⟩) (σ w)=σ w∧lkp env w=w∧w∉env.map (·.fr)):=by
 have key:∀i,i≤env.length→ziF (env.map fun b=>⟨σ b.fr,b.to⟩) (σ w) i=ziF env w i∨(ziF (env.map fun b=>⟨σ b.fr,b.to⟩) (σ w) i=σ w∧ziF env w i=w∧∀j (h:j<env.length),j<i→env[j].fr≠w):=by
  intro i
  induction i with
  |zero=>intro _;exact .inr ⟨rfl,rfl,fun j h1 h2=>by omega⟩
  |succ i ih=>
   intro hi2
   have hlt:i<env.length:=by omega
   have e1:env.getD i default=env[i]:=by rw[List.getD_eq_getElem?_getD,List.getElem?_eq_getElem hlt];rfl
   have e2:(env.map fun b=>(⟨σ b.fr,b.to⟩:za3)).getD i default=⟨σ env[i].fr,env[i].to⟩:=by
    rw[List.getD_eq_getElem?_getD,List.getElem?_map,List.getElem?_eq_getElem hlt];rfl
   rw[ziF,ziF,e1,e2]
   by_cases hc:env[i].fr=w
   ·rw[if_pos hc,if_pos (by simp only;rw[hc])]
    exact .inl rfl
   ·rw[if_neg hc,if_neg (fun e=>hc (hi _ _ (he _ (List.getElem_mem hlt)) hw e))]
    rcases ih (by omega)with h|⟨h1,h2,h3⟩
    ·exact .inl h
    ·refine .inr ⟨h1,h2,fun j hj hji=>?_⟩
     rcases Nat.lt_or_ge j i with h|h
     ·exact h3 j hj h
     ·obtain rfl:j=i:=by omega
      exact hc
 rcases key env.length (Nat.le_refl _)with h|⟨h1,h2,h3⟩
 ·refine .inl ?_
  unfold lkp;rw[List.length_map];exact h
 ·refine .inr ⟨?_,h2,fun hm=>?_⟩
  ·unfold lkp;rw[List.length_map];exact h1
  ·obtain⟨b,hb,e⟩:=List.mem_map.1 hm
   obtain⟨j,hj,rfl⟩:=List.getElem_of_mem hb
   exact h3 j hj hj e
mutual
theorem zF4 {g:Nat→Str×Nat}{σ:Str→Str}{p:Str→Prop}(hi:∀a b,p a→p b→σ a=σ b→a=b):∀(f:zab) (env:List za3) (n:Nat),zbK p f→(∀b∈env,p b.fr)→(∀x∈cst f (env.map (·.fr)),σ x=x)→
  ren g (zgp σ f) (env.map fun b=>⟨σ b.fr,b.to⟩) n=ren g f env n
 | .mk k nm ws s,env,n,hf,he,hc=>by
  rw[zbK]at hf
  rw[cst]at hc
  have hw:(ws.map σ).map (lkp (env.map fun b=>⟨σ b.fr,b.to⟩))=ws.map (lkp env):=by
   rw[List.map_map]
   refine List.map_congr_left fun w hw=>?_
   rcases zuv hi (hf.1 w hw) he with e|⟨e1,e2,e3⟩
   ·exact e
   ·show lkp _ (σ w)=_
    rw[e1,e2]
    exact hc w (List.mem_append_left _ (List.mem_filter.2 ⟨hw,by simpa using e3⟩))
  rw[zgp,ren,ren,hw]
  by_cases hq:isQ k
  ·rw[if_pos hq]at hc
   simp only[if_pos hq]
   have h3:=zs8 (g:=g) hi s (env++[⟨nm,(g n).1⟩]) (g n).2 hf.2.2 (fun b hb=>by
    rcases List.mem_append.1 hb with h|h
    ·exact he b h
    ·rw[List.mem_singleton.1 h];exact hf.2.1 hq) (fun x hx=>hc x (List.mem_append_right _ (by rw[List.map_append]at hx;exact hx)))
   rw[List.map_append]at h3
   simp only[List.map_cons,List.map_nil]at h3
   rw[h3]
  ·rw[if_neg hq]at hc
   simp only[if_neg hq]
   rw[zs8 hi s env n hf.2.2 he fun x hx=>hc x (List.mem_append_right _ hx)]
theorem zs8 {g:Nat→Str×Nat}{σ:Str→Str}{p:Str→Prop}(hi:∀a b,p a→p b→σ a=σ b→a=b):∀(fs:List zab) (env:List za3) (n:Nat),zaQ p fs→(∀b∈env,p b.fr)→(∀x∈zbC fs (env.map (·.fr)),σ x=x)→
  zbb g (zcd σ fs) (env.map fun b=>⟨σ b.fr,b.to⟩) n=zbb g fs env n
 |[],env,n,_,_,_=>by rw[zcd,zbb,zbb]
 |f::fs,env,n,hf,he,hc=>by
  rw[zaQ]at hf
  rw[zbC]at hc
  rw[zcd,zbb,zbb,zF4 hi f env n hf.1 he fun x hx=>hc x (List.mem_append_left _ hx)]
  rw[zs8 hi fs env _ hf.2 he fun x hx=>hc x (List.mem_append_right _ hx)]
end
mutual
theorem zAH {g:Nat→Str×Nat}{σ:Str→Str}(hg:∀k,σ (g k).1=(g k).1):∀(f:zab) (env env':List za3) (n:Nat),zbK (fun w=>σ w=w) f→env'.map (·.fr)=env.map (·.fr)→env'.map (·.to)=env.map (fun b=>σ b.to)→
  ren g f env' n=(zgp σ (ren g f env n).1,(ren g f env n).2)
 | .mk k nm ws s,env,env',n,hf,e1,e2=>by
  rw[zbK]at hf
  have hw:ws.map (lkp env')=(ws.map (lkp env)).map σ:=by
   rw[List.map_map]
   exact List.map_congr_left fun w hw=>zAs e1 e2 (hf.1 w hw)
  rw[ren,ren,hw]
  by_cases hq:isQ k
  ·simp only[if_pos hq]
   have h3:=zls (g:=g) hg s (env++[⟨nm,(g n).1⟩]) (env'++[⟨nm,(g n).1⟩]) (g n).2 hf.2.2 (by rw[List.map_append,List.map_append,e1]) (by rw[List.map_append,List.map_append,e2];simp only[List.map_cons,List.map_nil,hg])
   rw[h3]
   simp only[zgp,if_pos hq,hg]
  ·simp only[if_neg hq]
   rw[zls hg s env env' n hf.2.2 e1 e2]
   simp only[zgp,if_neg hq]
theorem zls {g:Nat→Str×Nat}{σ:Str→Str}(hg:∀k,σ (g k).1=(g k).1):∀(fs:List zab) (env env':List za3) (n:Nat),zaQ (fun w=>σ w=w) fs→env'.map (·.fr)=env.map (·.fr)→env'.map (·.to)=env.map (fun b=>σ b.to)→
  zbb g fs env' n=(zcd σ (zbb g fs env n).1,(zbb g fs env n).2)
 |[],env,env',n,_,_,_=>by rw[zbb,zbb,zcd]
 |f::fs,env,env',n,hf,e1,e2=>by
  rw[zaQ]at hf
  rw[zbb,zbb,zAH hg f env env' n hf.1 e1 e2]
  simp only
  rw[zls hg fs env env' _ hf.2 e1 e2,zcd]
end
mutual
theorem zxX {g:Nat→Str×Nat}{p:Str→Prop}(hg:∀k,p (g k).1):∀(f:zab) (env:List za3) (n:Nat),zbK p f→(∀b∈env,p b.to)→zbK p (ren g f env n).1
 | .mk k nm ws s,env,n,hf,he=>by
  rw[zbK]at hf
  have hw:∀w∈ws.map (lkp env),p w:=fun w hw=>by
   obtain⟨x,hx,rfl⟩:=List.mem_map.1 hw
   rcases zuw env x with e|⟨b,hb,e⟩
   ·rw[e];exact hf.1 x hx
   ·rw[e];exact he b hb
  rw[ren]
  split
  ·rw[zbK]
   refine⟨hw,fun _=>hg n,ziX hg s _ _ hf.2.2 fun b hb=>?_⟩
   rcases List.mem_append.1 hb with h|h
   ·exact he b h
   ·rw[List.mem_singleton.1 h];exact hg n
  ·rename_i hq
   rw[zbK]
   exact⟨hw,fun h=>absurd h hq,ziX hg s _ _ hf.2.2 he⟩
theorem ziX {g:Nat→Str×Nat}{p:Str→Prop}(hg:∀k,p (g k).1):∀(fs:List zab) (env:List za3) (n:Nat),zaQ p fs→(∀b∈env,p b.to)→zaQ p (zbb g fs env n).1
 |[],env,n,_,_=>by rw[zbb,zaQ];trivial
 |f::fs,env,n,hf,he=>by
  rw[zaQ]at hf
  rw[zbb,zaQ]
  exact⟨zxX hg f _ _ hf.1 he,ziX hg fs _ _ hf.2 he⟩
end
mutual
theorem zpF {op:Bool}:∀(f:zab) (d:Int) (n:Nat),(chk op f d n).1.code=0→zbK (fun w=>zat w=true) f
 | .mk k nm w s,d,n,h=>by
  rw[chk]at h
  split at h
  ·rename_i h1;exact absurd h h1
  ·rename_i h1
   have h2:=zdI (Decidable.not_not.1 h1)
   rw[zbK]
   refine⟨fun x hx=>List.all_eq_true.1 h2.1 x hx,fun hq=>h2.2.1 ?_,zmi s _ _ h⟩
   unfold named
   have hq':k=8∨k=9:=hq
   have:(zab.mk k nm w s).kind=k:=rfl
   rw[this]
   exact decide_eq_true (by omega)
theorem zmi {op:Bool}:∀(fs:List zab) (d:Int) (n:Nat),(zea op fs d n).1.code=0→zaQ (fun w=>zat w=true) fs
 |[],d,n,_=>by rw[zaQ];trivial
 |f::fs,d,n,h=>by
  rw[zea]at h
  split at h
  ·rename_i h1;exact absurd h h1
  ·rename_i h1
   rw[zaQ]
   exact⟨zpF f d n (Decidable.not_not.1 h1),zmi fs d _ h⟩
end
theorem zih {op:Bool}{f:zab}(h:(zaw op f).code=0):zbK (fun w=>zat w=true) f:=zpF f 1 0 h
def qn (i:Nat):Str:=⟨63::zbr i⟩
def sg (w:Str):Str:=match w with
 |⟨c::t⟩=>if c=63 then⟨36::t⟩else⟨c::t⟩
 |⟨[]⟩=>⟨[]⟩
def wrap (v:Nat→Str):Nat→zab→zab
 |0,c=>c
 |i+1,c=>wrap v i (.mk 9 (v i) [] [c])
def lwP (n:Nat)(x:Str):Prop:=(x.l.head? =some 63→∃i,i<n∧x=qn i)∧x.l.head? ≠some 36∧¬zn8 x
theorem zxt {n:Nat}{x:Str}(h:zat x=true):lwP n x:=by
 unfold zat at h
 have h:=(of_decide_eq_true h).2.2.1
 have hd:∀c:UInt8,x.l.head? =some c→zgJ c:=fun c hc=>by
  have h0:x.l.getD 0 0=c:=by rw[List.getD_eq_getElem?_getD,←List.head?_eq_getElem?,hc];rfl
  rwa [h0]at h
 exact⟨fun e=>absurd (hd 63 e) (by decide),fun e=>absurd (hd 36 e) (by decide),fun e=>absurd (hd 33 e) (by decide)⟩
def zbD (f:zab):zab:= .mk 4 ⟨[]⟩ [] [f]
theorem zuK {p:Str→Prop}{f:zab}(h:zbK p f):zbK p (zbD f):=by
 simp only[zbD,zbK,zaQ];exact⟨by simp,fun h=>absurd h (by decide),h,trivial⟩
theorem zxA {f:zab}{x:Str}(h:x∈cst (zbD f) []):x∈cst f []:=by
 rw[zbD,cst,if_neg (by decide),zbC,zbC]at h;simpa using h
end Go.Abs

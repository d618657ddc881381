/- several texts of this proof in one; no conditions -/
import Derived.Test.YtmconmiemdinkaaDoorY12
import Derived.Test.YtmconmiemdinkaaDoorY8
set_option linter.unusedSimpArgs false
namespace Go.Abs
open Go
mutual
def zab.fit:zab→Bool
 | .mk _ _ w s=>decide (w.length≤1000)&&decide (s.length≤1000)&&zab.fits s
def zab.fits:List zab→Bool
 |[]=>true
 |f::fs=>f.fit&&zab.fits fs
end
theorem zab.fits_mem:∀{l:List zab} {f:zab},zab.fits l=true→f∈l→f.fit=true
 |g::l,f,h,hm=>by
  rw[zab.fits,Bool.and_eq_true]at h
  rcases List.mem_cons.1 hm with rfl|hm
  ·exact h.1
  ·exact zab.fits_mem h.2 hm
theorem zab.fit_eq {f:zab}(h:f.fit=true):f.words.length≤1000∧f.subs.length≤1000∧zab.fits f.subs=true:=by
 cases f;rw[zab.fit]at h
 simp only[Bool.and_eq_true,decide_eq_true_eq]at h
 exact⟨h.1.1,h.1.2,h.2⟩
theorem zqp {op:Bool}{f:zab}{d:Int}{n:Nat}(h:zcB op f d n=0):f.words.length≤1000∧f.subs.length≤1000:=by
 unfold zcB at h
 split at h
 ·simp at h
 split at h
 ·simp at h
 split at h
 ·simp at h
 rename_i h1 h2 h3
 have h4:=Decidable.not_not.1 h3
 have h5:za1 op f≤2:=by
  unfold za1 zdb
  repeat'(split<;>try decide)
 have h6:=h4.2
 unfold zdl at h6
 refine⟨?_,by omega⟩
 split at h6
 ·simp only[decide_eq_true_eq]at h6;omega
 split at h6
 ·simp only[decide_eq_true_eq]at h6;omega
 ·simp only[decide_eq_true_eq]at h6;omega
mutual
theorem zpr {op:Bool}:∀(f:zab) (d:Int) (n:Nat),(chk op f d n).1.code=0→f.fit=true
 | .mk k nm w s,d,n,h=>by
  rw[chk]at h
  split at h
  ·rename_i h1;exact absurd h h1
  rename_i h1
  have h2:=zqp (Decidable.not_not.1 h1)
  rw[zab.fit]
  simp only[Bool.and_eq_true,decide_eq_true_eq]
  exact⟨h2,zmG s _ _ h⟩
theorem zmG {op:Bool}:∀(fs:List zab) (d:Int) (n:Nat),(zdH op fs d n).1.code=0→zab.fits fs=true
 |[],_,_,_=>by rw[zab.fits]
 |f::fs,d,n,h=>by
  rw[zdH]at h
  split at h
  ·rename_i h1;exact absurd h h1
  rename_i h1
  rw[zab.fits,Bool.and_eq_true]
  exact⟨zpr f d n (Decidable.not_not.1 h1),zmG fs _ _ h⟩
end
theorem zew {op:Bool}{f:zab}(h:(zaP op f).code=0):f.fit=true:=zpr f 1 0 h
def zxO (l:List UInt8):Nat:=l.foldl (fun a d=>a*10+(d.toNat-48)) 0
theorem zq5 (l:List UInt8)(d:UInt8):zxO (l++[d])=zxO l*10+(d.toNat-48):=by
 unfold zxO;rw[List.foldl_append];rfl
theorem zpE {u:Nat}(h:u<10):(UInt8.ofNat (48+u)).toNat-48=u:=by
 rw[UInt8.toNat_ofNat',Nat.mod_eq_of_lt (by omega)];omega
theorem ziS:∀u,zxO (zca u)=u:=by
 intro u
 unfold zca
 induction u using Nat.strongRecOn with
 |_ u ih=>
  rw[Lib.decDigits]
  split
  ·rename_i h
   have:=zpE h
   simpa[zxO]using this
  ·rename_i h
   rw[zq5,ih (u / 10) (by omega),zpE (by omega)]
   omega
theorem znV {u v:Nat}(h:zca u=zca v):u=v:=by rw[←ziS u,←ziS v,h]
def zhT (k:Nat):Str:=⟨118::zca k⟩
theorem zjU {u v:Nat}(h:zhT u=zhT v):u=v:=znV (List.cons.inj (Str.mk.inj h)).2
def zlx (w:Str):Prop:=w.l.head? =some 33
instance (w:Str):Decidable (zlx w):=inferInstanceAs (Decidable (_=_))
def zeT (used:List Str):Nat→Nat→Nat
 |0,k=>k
 |m+1,k=>if zhT k∈used then zeT used m (k+1)else k
def zd0 (used:List Str)(k:Nat):Nat:=zeT used used.length k
theorem zm9 (used:List Str):∀m k,k≤zeT used m k∧zeT used m k≤k+m
 |0,k=>by simp[zeT]
 |m+1,k=>by
  rw[zeT]
  split
  ·have:=zm9 used m (k+1);omega
  ·omega
theorem zhu (used:List Str):∀m k i,k≤i→i<zeT used m k→zhT i∈used
 |0,k,i,h1,h2=>by simp only[zeT]at h2;omega
 |m+1,k,i,h1,h2=>by
  rw[zeT]at h2
  split at h2
  ·rename_i h
   rcases Nat.eq_or_lt_of_le h1 with rfl|h1
   ·exact h
   ·exact zhu used m (k+1) i h1 h2
  ·omega
theorem ziE (used:List Str):∀m k,zeT used m k<k+m→zhT (zeT used m k)∉used
 |0,k,h=>by simp[zeT]at h
 |m+1,k,h=>by
  rw[zeT]at h ⊢
  split
  ·rename_i h1
   rw[if_pos h1]at h
   exact ziE used m (k+1) (by omega)
  ·assumption
theorem pig:∀(used:List Str) (S:List Nat),S.Nodup→(∀i∈S,zhT i∈used)→S.length≤used.length
 |[],S,_,h=>by
  cases S with
  |nil=>simp
  |cons i S=>have:=h i (by simp);simp at this
 |u::us,S,hn,h=>by
  by_cases he:∃i∈S,zhT i=u
  ·obtain⟨i,hi,rfl⟩:=he
   have h1:=pig us (S.erase i) (hn.erase i) fun j hj=>by
    have h2:=(List.Nodup.mem_erase_iff hn).1 hj
    rcases List.mem_cons.1 (h j h2.2)with h3|h3
    ·exact absurd (zjU h3) h2.1
    ·exact h3
   rw[List.length_erase_of_mem hi]at h1
   simp only[List.length_cons]
   omega
  ·have h1:=pig us S hn fun j hj=>by
    rcases List.mem_cons.1 (h j hj)with h3|h3
    ·exact absurd ⟨j,hj,h3⟩ he
    ·exact h3
   simp only[List.length_cons]
   omega
theorem zeC (used:List Str)(k:Nat):k≤zd0 used k∧zd0 used k≤k+used.length∧zhT (zd0 used k)∉used∧∀i,k≤i→i<zd0 used k→zhT i∈used:=by
 unfold zd0
 have h1:=zm9 used used.length k
 have h2:=zhu used used.length k
 refine⟨h1.1,h1.2,?_,h2⟩
 rcases Nat.lt_or_ge (zeT used used.length k) (k+used.length)with h|h
 ·exact ziE used _ _ h
 ·have he:zeT used used.length k=k+used.length:=by omega
  intro hin
  rw[he]at hin h2
  have h3:=pig used (List.range' k (used.length+1)) List.nodup_range' fun i hi=>by
   have:=List.mem_range'_1.1 hi
   rcases Nat.lt_or_ge i (k+used.length)with h4|h4
   ·exact h2 i this.1 h4
   ·obtain rfl:i=k+used.length:=by omega
    exact hin
  rw[List.length_range']at h3
  omega
structure zbH where
 fr:Str
 to:Str
 deriving DecidableEq,Inhabited
instance:Enc zbH:=⟨fun b=> .agg [.s b.fr.l,.s b.to.l],fun x=>match x with| .agg [.s a,.s b]=>⟨⟨a⟩,⟨b⟩⟩|_=>⟨⟨[]⟩,⟨[]⟩⟩,fun b=>by cases b;rfl⟩
@[go_sem] theorem zrD {b:zbH}:enc b= .agg [.s b.fr.l,.s b.to.l]:=rfl
@[go_sem] theorem zx1 {a b:List UInt8}:dec (α:=zbH) (.agg [.s a,.s b])=⟨⟨a⟩,⟨b⟩⟩:=rfl
instance:Kc zbH 2:=⟨fun _=>rfl⟩
@[go_sem] theorem zvE {l:List zbH}:zbi (l.map enc) 2=True:=eq_true (zdg l)
@[go_sem] theorem ztU {l:List zbH}:(zag (l.map enc)).all zcm=true:=by
 rw[List.all_eq_true]
 intro d hd
 simp only[zag,List.mem_flatMap,List.mem_map]at hd
 obtain⟨_,⟨a,_,rfl⟩,x,hx,rfl⟩:=hd
 simp only[zrD,FD.cells,List.mem_cons,List.not_mem_nil,or_false]at hx
 rcases hx with rfl|rfl<;>rfl
def zh6 (env:List zbH)(w:Str):Nat→Str
 |0=>w
 |i+1=>if(env.getD i default).fr=w then(env.getD i default).to else zh6 env w i
def lkp (env:List zbH)(w:Str):Str:=zh6 env w env.length
theorem zm4 (env:List zbH)(b:zbH)(w:Str):∀i,i≤env.length→zh6 (env++[b]) w i=zh6 env w i
 |0,_=>rfl
 |i+1,h=>by
  rw[zh6,zh6,zm4 env b w i (by omega)]
  have:(env++[b]).getD i default=env.getD i default:=by
   rw[List.getD_eq_getElem?_getD,List.getD_eq_getElem?_getD,List.getElem?_append_left (by omega)]
  rw[this]
theorem zeA (env:List zbH)(b:zbH)(w:Str):lkp (env++[b]) w=if b.fr=w then b.to else lkp env w:=by
 unfold lkp
 rw[List.length_append,List.length_singleton,zh6,zm4 env b w _ (Nat.le_refl _)]
 have:(env++[b]).getD env.length default=b:=by
  rw[List.getD_eq_getElem?_getD,List.getElem?_append_right (Nat.le_refl _),Nat.sub_self];rfl
 rw[this]
theorem zjy (w:Str):lkp [] w=w:=rfl
theorem zuu {env env':List zbH}{s:Str→Str}(h1:env'.map (·.fr)=env.map (·.fr))(h2:env'.map (·.to)=env.map fun b=>s b.to){w:Str}(hw:s w=w):lkp env' w=s (lkp env w):=by
 have hl:env'.length=env.length:=by have:=congrArg List.length h1;simpa using this
 have key:∀i,i≤env.length→zh6 env' w i=s (zh6 env w i):=by
  intro i
  induction i with
  |zero=>intro _;exact hw.symm
  |succ i ih=>
   intro hi
   have e1:(env'.getD i default).fr=(env.getD i default).fr:=by
    have:=congrArg (fun l:List Str=>l[i]?) h1
    simp only[List.getElem?_map,List.getElem?_eq_getElem (show i<env.length by omega),List.getElem?_eq_getElem (show i<env'.length by omega),Option.map_some,Option.some.injEq]at this
    simp only[List.getD_eq_getElem?_getD,List.getElem?_eq_getElem (show i<env.length by omega),List.getElem?_eq_getElem (show i<env'.length by omega),Option.getD_some]
    exact this
   have e2:(env'.getD i default).to=s (env.getD i default).to:=by
    have:=congrArg (fun l:List Str=>l[i]?) h2
    simp only[List.getElem?_map,List.getElem?_eq_getElem (show i<env.length by omega),List.getElem?_eq_getElem (show i<env'.length by omega),Option.map_some,Option.some.injEq]at this
    simp only[List.getD_eq_getElem?_getD,List.getElem?_eq_getElem (show i<env.length by omega),List.getElem?_eq_getElem (show i<env'.length by omega),Option.getD_some]
    exact this
   rw[zh6,zh6,e1,e2,ih (by omega)]
   split<;>rfl
 unfold lkp
 rw[hl]
 exact key _ (Nat.le_refl _)
def isQ (k:Int):Prop:=k=8∨k=9
instance (k:Int):Decidable (isQ k):=inferInstanceAs (Decidable (_∨_))
mutual
def cst:zab→List Str→List Str
 | .mk k nm ws s,bd=>ws.filter (fun w=>decide (w∉bd))++zb3 s (if isQ k then bd++[nm]else bd)
def zb3:List zab→List Str→List Str
 |[],_=>[]
 |f::fs,bd=>cst f bd++zb3 fs bd
end
theorem zjb (bd:List Str):∀a b:List zab,zb3 (a++b) bd=zb3 a bd++zb3 b bd
 |[],b=>by rw[zb3];rfl
 |f::a,b=>by rw[List.cons_append,zb3,zb3,zjb bd a b,List.append_assoc]
mutual
def ren (g:Nat→Str×Nat):zab→List zbH→Nat→zab×Nat
 | .mk k nm ws s,env,n=>
  if isQ k then(.mk k (g n).1 (ws.map (lkp env)) (zbJ g s (env++[⟨nm,(g n).1⟩]) (g n).2).1,(zbJ g s (env++[⟨nm,(g n).1⟩]) (g n).2).2)
  else(.mk k nm (ws.map (lkp env)) (zbJ g s env n).1,(zbJ g s env n).2)
def zbJ (g:Nat→Str×Nat):List zab→List zbH→Nat→List zab×Nat
 |[],_,n=>([],n)
 |f::fs,env,n=>((ren g f env n).1::(zbJ g fs env (ren g f env n).2).1,(zbJ g fs env (ren g f env n).2).2)
end
theorem zdR (g:Nat→Str×Nat)(env:List zbH):∀(a:List zab) (n:Nat),(zbJ g a env n).1.length=a.length
 |[],n=>by simp[zbJ]
 |f::a,n=>by rw[zbJ];simp[zdR g env a]
def vg (used:List Str)(k:Nat):Str×Nat:=(zhT (zd0 used k),zd0 used k+1)
theorem zqA {g:Nat→Str×Nat}{u:Nat}(hg:∀k,k≤(g k).2∧(g k).2≤k+u):
  (∀(f:zab) (env:List zbH) (n:Nat),n≤(ren g f env n).2∧(ren g f env n).2≤n+u*f.size)∧∀(fs:List zab) (env:List zbH) (n:Nat),n≤(zbJ g fs env n).2∧(zbJ g fs env n).2≤n+u*zab.sizes fs:=by
 suffices h:∀m,(∀(f:zab) (env:List zbH) (n:Nat),f.size≤m→n≤(ren g f env n).2∧(ren g f env n).2≤n+u*f.size)∧∀(fs:List zab) (env:List zbH) (n:Nat),zab.sizes fs≤m→n≤(zbJ g fs env n).2∧(zbJ g fs env n).2≤n+u*zab.sizes fs from
  ⟨fun f env n=>(h _).1 f env n (Nat.le_refl _),fun fs env n=>(h _).2 fs env n (Nat.le_refl _)⟩
 intro m
 induction m with
 |zero=>
  refine⟨fun f env n h=>by have:=f.size_pos;omega,fun fs env n h=>?_⟩
  cases fs with
  |nil=>simp[zbJ]
  |cons f fs=>rw[zab.sizes]at h;have:=f.size_pos;omega
 |succ m ih=>
  have h1:∀(f:zab) (env:List zbH) (n:Nat),f.size≤m+1→n≤(ren g f env n).2∧(ren g f env n).2≤n+u*f.size:=by
   rintro⟨k,nm,ws,s⟩ env n h
   rw[zab.size]at h ⊢
   rw[Nat.mul_add,Nat.mul_one]
   rw[ren]
   split
   ·have h2:=ih.2 s (env++[⟨nm,(g n).1⟩]) (g n).2 (by omega)
    have h3:=hg n
    simp only
    omega
   ·have h2:=ih.2 s env n (by omega)
    simp only
    omega
  refine⟨h1,fun fs=>?_⟩
  induction fs with
  |nil=>intro env n h;simp[zbJ]
  |cons f fs ih2=>
   intro env n h
   rw[zab.sizes]at h ⊢
   rw[zbJ,Nat.mul_add]
   have h2:=h1 f env n (by omega)
   have h3:=ih2 env (ren g f env n).2 (by omega)
   simp only
   omega
theorem zuR (used:List Str)(k:Nat):k≤(vg used k).2∧(vg used k).2≤k+(used.length+1):=by
 have:=zeC used k
 unfold vg
 simp only
 omega
def zcw (f:zab):List Str:=(zdM (zjM ((cst f []).map (·.l)))).map Str.mk
def zA7 (env:List zbH)(used:List Str):List Str:=env.foldl (fun u b=>u.map fun w=>if w=b.fr then b.to else w) used
def zbX (f:zab)(env:List zbH):zab:=(ren (vg (zA7 env (zcw f))) f env 0).1
theorem zqj:∀(l:List (List UInt8)) (x:List UInt8),x∈zdM l↔x∈l:=by
 intro l x
 unfold zdM Lib.compact Lib.compactUpTo
 have hget:∀j (h:j<l.length),(l.toArray)[j]! =l[j]:=fun j h=>by simp[h]
 constructor
 ·intro h
  obtain⟨j,hj,rfl⟩:=List.mem_map.1 h
  have hj':j<l.length:=List.mem_range.1 (List.mem_filter.1 hj).1
  rw[hget j hj']
  exact List.getElem_mem hj'
 ·intro h
  obtain⟨j,hj,rfl⟩:=List.getElem_of_mem h
  induction j with
  |zero=>exact List.mem_map.2 ⟨0,List.mem_filter.2 ⟨List.mem_range.2 hj,by simp[Lib.keeps]⟩,hget 0 hj⟩
  |succ j ih=>
   by_cases he:l[j+1]=l[j]
   ·rw[he];exact ih (by omega) (List.getElem_mem _)
   ·exact List.mem_map.2 ⟨j+1,List.mem_filter.2 ⟨List.mem_range.2 hj,by
     simp only[Lib.keeps,decide_eq_true_eq,Nat.add_sub_cancel]
     rw[hget _ hj,hget j (by omega)]
     exact .inr he⟩,hget _ hj⟩
theorem zhq (f:zab)(x:Str):x∈zcw f↔x∈cst f []:=by
 unfold zcw
 simp only[List.mem_map,zqj,(zf4 _).mem_iff]
 constructor
 ·rintro⟨y,⟨z,hz,rfl⟩,rfl⟩;exact hz
 ·intro h;exact⟨x.l,⟨x,h,rfl⟩,rfl⟩
theorem zq3 (f:zab):(zcw f).length≤(cst f []).length:=by
 unfold zcw
 rw[List.length_map]
 refine Nat.le_trans (zj9 _) ?_
 rw[zhH,List.length_map];exact Nat.le_refl _
def zgD (l:List Str)(s:Str):List Str:=if s∈l then l else l.take (l.takeWhile fun x=>decide (x.l<s.l)).length++[s]++l.drop (l.takeWhile fun x=>decide (x.l<s.l)).length
theorem zsj (l:List Str)(s x:Str):x∈zgD l s↔x∈l∨x=s:=by
 unfold zgD
 split
 ·rename_i h
  constructor
  ·exact .inl
  ·rintro(h1|rfl)
   ·exact h1
   ·exact h
 ·have h1:=List.take_append_drop (l.takeWhile fun x=>decide (x.l<s.l)).length l
  constructor
  ·intro h
   simp only[List.mem_append,List.mem_singleton]at h
   rcases h with(h|h)|h
   ·exact .inl (List.mem_of_mem_take h)
   ·exact .inr h
   ·exact .inl (List.mem_of_mem_drop h)
  ·rintro(h|rfl)
   ·rw[←h1]at h
    simp only[List.mem_append,List.mem_singleton]at h ⊢
    rcases h with h|h
    ·exact .inl (.inl h)
    ·exact .inr h
   ·simp
mutual
def zhW:zab→List Str→List Str→List Str
 | .mk k nm ws s,bd,l=>zcX s (if isQ k then bd++[nm]else bd) (ws.foldl (fun l w=>if w∈bd then l else zgD l w) l)
def zcX:List zab→List Str→List Str→List Str
 |[],_,l=>l
 |f::fs,bd,l=>zcX fs bd (zhW f bd l)
end
theorem zg9 (bd:List Str):∀(a b:List zab) (l:List Str),zcX (a++b) bd l=zcX b bd (zcX a bd l)
 |[],b,l=>by rw[zcX];rfl
 |f::a,b,l=>by rw[List.cons_append,zcX,zcX,zg9 bd a b]
theorem zkS (bd:List Str)(x:Str):∀(ws l:List Str),x∈ws.foldl (fun l w=>if w∈bd then l else zgD l w) l↔x∈l∨x∈ws.filter (fun w=>decide (w∉bd))
 |[],l=>by simp
 |w::ws,l=>by
  rw[List.foldl_cons,zkS bd x ws,List.filter_cons]
  by_cases h:w∈bd
  ·rw[if_pos h,if_neg (by simpa using h)]
  ·rw[if_neg h,if_pos (by simpa using h),zsj,List.mem_cons,or_assoc]
mutual
theorem zm6 (x:Str):∀(f:zab) (bd l:List Str),x∈zhW f bd l↔x∈l∨x∈cst f bd
 | .mk k nm ws s,bd,l=>by rw[zhW,cst,zkR x s,zkS,List.mem_append,or_assoc]
theorem zkR (x:Str):∀(fs:List zab) (bd l:List Str),x∈zcX fs bd l↔x∈l∨x∈zb3 fs bd
 |[],bd,l=>by simp[zcX,zb3]
 |f::fs,bd,l=>by rw[zcX,zb3,zkR x fs,zm6 x f,List.mem_append,or_assoc]
end
theorem zsr (l:List Str)(s:Str):(zgD l s).length≤l.length+1:=by
 unfold zgD
 split
 ·omega
 ·simp only[List.length_append,List.length_take,List.length_drop,List.length_singleton];omega
theorem zfk (bd:List Str):∀(ws l:List Str),(ws.foldl (fun l w=>if w∈bd then l else zgD l w) l).length≤l.length+ws.length
 |[],l=>by simp
 |w::ws,l=>by
  rw[List.foldl_cons]
  have h1:=zfk bd ws (if w∈bd then l else zgD l w)
  have h2:(if w∈bd then l else zgD l w).length≤l.length+1:=by
   split
   ·omega
   ·exact zsr l w
  simp only[List.length_cons]
  omega
def zuM (fr to:List Str)(w:Str):Str:=match fr,to with
 |a::fr,b::to=>if a=w then b else zuM fr to w
 |_,_=>w
mutual
def swp (fr to:List Str):zab→zab
 | .mk k nm ws s=> .mk k (if isQ k then zuM fr to nm else nm) (ws.map (zuM fr to)) (zDc fr to s)
def zDc (fr to:List Str):List zab→List zab
 |[]=>[]
 |f::fs=>swp fr to f::zDc fr to fs
end
mutual
def zfR:zab→Prop
 | .mk _ _ ws s=>(∀w∈ws,¬zlx w)∧zcE s
def zcE:List zab→Prop
 |[]=>True
 |f::fs=>zfR f∧zcE fs
end
end Go.Abs
namespace Go.Abs
open Go
mutual
def zab.depth:zab→Nat
 | .mk _ _ _ s=>zab.depths s+1
def zab.depths:List zab→Nat
 |[]=>0
 |f::fs=>max f.depth (zab.depths fs)
end
def zjl (f:zab):Bool:=decide (f.size≤200∧f.depth≤40)
mutual
theorem zab.depth_size:∀f:zab,f.depth≤f.size
 | .mk k n w s=>by rw[zab.depth,zab.size];have:=zab.depths_size s;omega
theorem zab.depths_size:∀fs:List zab,zab.depths fs≤zab.sizes fs
 |[]=>by rw[zab.depths,zab.sizes];exact Nat.le_refl _
 |f::fs=>by rw[zab.depths,zab.sizes];have:=f.depth_size;have:=zab.depths_size fs;omega
end
theorem zab.sizes_app:∀a b:List zab,zab.sizes (a++b)=zab.sizes a+zab.sizes b
 |[],b=>by rw[List.nil_append,zab.sizes];omega
 |f::a,b=>by rw[List.cons_append,zab.sizes,zab.sizes,zab.sizes_app a b];omega
theorem zab.depths_app:∀a b:List zab,zab.depths (a++b)=max (zab.depths a) (zab.depths b)
 |[],b=>by rw[List.nil_append,zab.depths];omega
 |f::a,b=>by rw[List.cons_append,zab.depths,zab.depths,zab.depths_app a b];omega
mutual
theorem zmF {op:Bool}:∀(f:zab) (d:Int) (n:Nat),(chk op f d n).1.code=0→(chk op f d n).2=n+f.size
 | .mk k nm w s,d,n,h=>by
  rw[chk]at h ⊢
  split at h
  ·rename_i h1;exact absurd h h1
  ·rename_i h1
   rw[if_neg h1,zab.size,zj8 s _ _ h];omega
theorem zj8 {op:Bool}:∀(fs:List zab) (d:Int) (n:Nat),(zdH op fs d n).1.code=0→(zdH op fs d n).2=n+zab.sizes fs
 |[],d,n,_=>by rw[zdH,zab.sizes];rfl
 |f::fs,d,n,h=>by
  rw[zdH]at h ⊢
  split at h
  ·rename_i h1;exact absurd h h1
  ·rename_i h1
   have h2:=zmF f d n (Decidable.not_not.1 h1)
   rw[if_neg h1,zj8 fs d _ h,h2,zab.sizes];omega
end
theorem zaV {op:Bool}{f:zab}(h:(zaP op f).code=0):f.size≤200:=by
 have h1:=zmF f 1 0 h
 have h2:=(zps f 1 0 h).2.1
 omega
theorem zqk {s:Str}(h:zax s=true):¬zlx s:=by
 unfold zax at h
 have h:=(of_decide_eq_true h).2.2.1
 intro hb
 unfold zlx at hb
 have h0:s.l.getD 0 0=33:=by rw[List.getD_eq_getElem?_getD,←List.head?_eq_getElem?,hb];rfl
 rw[h0]at h
 exact absurd h (by decide)
theorem zch {op:Bool}{f:zab}{d:Int}{n:Nat}(h:zcB op f d n=0):f.words.all zax=true∧(named f=true→zax f.name=true)∧(named f=false→f.name=⟨[]⟩)∧zdl f=true∧(f.subs.length:Int)=za1 op f:=by
 unfold zcB at h
 split at h
 ·simp at h
 split at h
 ·simp at h
 split at h
 ·simp at h
 rename_i h3
 split at h
 ·simp at h
 rename_i h4
 split at h
 ·simp at h
 rename_i h5
 split at h
 ·simp at h
 rename_i h6
 have h7:=Decidable.not_not.1 h3
 refine⟨by simpa using h6,fun h8=>?_,fun h8=>?_,h7.2,h7.1⟩
 ·cases hn:zax f.name with
  |true=>rfl
  |false=>exact absurd ⟨h8,hn⟩ h4
 ·exact Decidable.not_not.1 fun hn=>h5 ⟨h8,hn⟩
mutual
theorem zpp {op:Bool}:∀(f:zab) (d:Int) (n:Nat),(chk op f d n).1.code=0→zfR f
 | .mk k nm w s,d,n,h=>by
  rw[chk]at h
  split at h
  ·rename_i h1;exact absurd h h1
  ·rename_i h1
   have h2:=(zch (Decidable.not_not.1 h1)).1
   rw[zfR]
   exact⟨fun x hx=>zqk (List.all_eq_true.1 h2 x hx),zig s _ _ h⟩
theorem zig {op:Bool}:∀(fs:List zab) (d:Int) (n:Nat),(zdH op fs d n).1.code=0→zcE fs
 |[],d,n,_=>by rw[zcE];trivial
 |f::fs,d,n,h=>by
  rw[zdH]at h
  split at h
  ·rename_i h1;exact absurd h h1
  ·rename_i h1
   rw[zcE]
   exact⟨zpp f d n (Decidable.not_not.1 h1),zig fs d _ h⟩
end
theorem fits_mem:∀l:List zab,zab.fits l=true↔∀f∈l,f.fit=true
 |[]=>by rw[zab.fits];simp
 |f::l=>by rw[zab.fits,Bool.and_eq_true,fits_mem l];simp
theorem zlb {c:Nat}:∀l:List zab,(∀f∈l,f.size≤c)→zab.sizes l≤l.length*c
 |[],_=>by rw[zab.sizes];omega
 |f::l,h=>by
  rw[zab.sizes,List.length_cons,Nat.add_mul,Nat.one_mul]
  have h1:=h f (by simp)
  have h2:=zlb l fun g hg=>h g (by simp[hg])
  omega
theorem zqe (env:List zbH)(w:Str):∀i,i≤env.length→zh6 env w i=w∨∃b∈env,zh6 env w i=b.to
 |0,_=> .inl rfl
 |i+1,h=>by
  rw[zh6]
  split
  ·refine .inr ⟨env.getD i default,?_,rfl⟩
   rw[List.getD_eq_getElem?_getD,List.getElem?_eq_getElem (by omega)]
   exact List.getElem_mem _
  ·exact zqe env w i (by omega)
theorem ztf (env:List zbH)(w:Str):lkp env w=w∨∃b∈env,lkp env w=b.to:=zqe env w _ (Nat.le_refl _)
mutual
theorem znd (g:Nat→Str×Nat):∀(f:zab) (env:List zbH) (n:Nat),(ren g f env n).1.size=f.size
 | .mk k nm ws s,env,n=>by
  rw[ren]
  split
  ·rw[zab.size,zab.size,zhE g s]
  ·rw[zab.size,zab.size,zhE g s]
theorem zhE (g:Nat→Str×Nat):∀(fs:List zab) (env:List zbH) (n:Nat),zab.sizes (zbJ g fs env n).1=zab.sizes fs
 |[],env,n=>by rw[zbJ]
 |f::fs,env,n=>by rw[zbJ,zab.sizes,zab.sizes,znd g f,zhE g fs]
end
mutual
theorem zuB (g:Nat→Str×Nat):∀(f:zab) (env:List zbH) (n:Nat),(ren g f env n).1.fit=f.fit
 | .mk k nm ws s,env,n=>by
  rw[ren]
  split
  ·rw[zab.fit,zab.fit,zjF g s,List.length_map,zdR]
  ·rw[zab.fit,zab.fit,zjF g s,List.length_map,zdR]
theorem zjF (g:Nat→Str×Nat):∀(fs:List zab) (env:List zbH) (n:Nat),zab.fits (zbJ g fs env n).1=zab.fits fs
 |[],env,n=>by rw[zbJ]
 |f::fs,env,n=>by rw[zbJ,zab.fits,zab.fits,zuB g f,zjF g fs]
end
theorem zkP {env:List zbH}{ws:List Str}(h:∀w∈ws,¬zlx w)(he:∀b∈env,¬zlx b.to):∀w∈ws.map (lkp env),¬zlx w:=by
 intro w hw
 obtain⟨x,hx,rfl⟩:=List.mem_map.1 hw
 rcases ztf env x with e|⟨b,hb,e⟩
 ·rw[e];exact h x hx
 ·rw[e];exact he b hb
mutual
theorem zqz {g:Nat→Str×Nat}(hg:∀k,¬zlx (g k).1):∀(f:zab) (env:List zbH) (n:Nat),zfR f→(∀b∈env,¬zlx b.to)→zfR (ren g f env n).1
 | .mk k nm ws s,env,n,h,he=>by
  rw[zfR]at h
  rw[ren]
  split
  ·rw[zfR]
   refine⟨zkP h.1 he,zf1 hg s _ _ h.2 fun b hb=>?_⟩
   rcases List.mem_append.1 hb with hb|hb
   ·exact he b hb
   ·rw[List.mem_singleton.1 hb];exact hg n
  ·rw[zfR]
   exact⟨zkP h.1 he,zf1 hg s _ _ h.2 he⟩
theorem zf1 {g:Nat→Str×Nat}(hg:∀k,¬zlx (g k).1):∀(fs:List zab) (env:List zbH) (n:Nat),zcE fs→(∀b∈env,¬zlx b.to)→zcE (zbJ g fs env n).1
 |[],env,n,_,_=>by rw[zbJ,zcE];trivial
 |f::fs,env,n,h,he=>by
  rw[zcE]at h
  rw[zbJ,zcE]
  exact⟨zqz hg f _ _ h.1 he,zf1 hg fs _ _ h.2 he⟩
end
theorem zg4 (f:zab)(env:List zbH):(zbX f env).size=f.size:=znd _ f env 0
def zdQ (k:Int):List zab→zab
 |[]=> .mk 0 ⟨[]⟩ [] []
 |f::l=>l.foldl (fun a x=> .mk k ⟨[]⟩ [] [a,x]) f
theorem zfU (k:Int):∀(l:List zab) (f:zab),((l.foldl (fun a x=>zab.mk k ⟨[]⟩ [] [a,x]) f).size=f.size+zab.sizes l+l.length)∧((l.foldl (fun a x=>zab.mk k ⟨[]⟩ [] [a,x]) f).fit=(f.fit&&zab.fits l))∧(zfR (l.foldl (fun a x=>zab.mk k ⟨[]⟩ [] [a,x]) f)↔zfR f∧zcE l)
 |[],f=>by rw[zab.sizes,zab.fits,zcE];simp
 |x::l,f=>by
  rw[List.foldl_cons]
  obtain⟨h1,h2,h3⟩:=zfU k l (.mk k ⟨[]⟩ [] [f,x])
  refine⟨?_,?_,?_⟩
  ·rw[h1];simp only[zab.size,zab.sizes,List.length_cons];omega
  ·rw[h2];simp only[zab.fit,zab.fits,List.length_nil,List.length_cons,Nat.zero_le,decide_true,Bool.true_and,Bool.and_true,Bool.and_assoc];rfl
  ·rw[h3];simp only[zfR,zcE,List.not_mem_nil,false_implies,implies_true,true_and,and_true,and_assoc]
theorem zom (k:Int)(l:List zab):(zdQ k l).size≤zab.sizes l+l.length+1:=by
 cases l with
 |nil=>simp only[zdQ,zab.size,zab.sizes,List.length_nil];omega
 |cons f l=>
  have:=(zfU k l f).1
  show(l.foldl (fun a x=>zab.mk k ⟨[]⟩ [] [a,x]) f).size≤_
  rw[this,zab.sizes,List.length_cons];omega
theorem zp7 (k:Int){l:List zab}(h:zab.fits l=true):(zdQ k l).fit=true:=by
 cases l with
 |nil=>simp only[zdQ,zab.fit,zab.fits,List.length_nil,Nat.zero_le,decide_true,Bool.true_and]
 |cons f l=>
  show(l.foldl (fun a x=>zab.mk k ⟨[]⟩ [] [a,x]) f).fit=_
  rw[(zfU k l f).2.1];rwa [zab.fits]at h
def zgG:zab:= .mk 0 ⟨[]⟩ [] []
end Go.Abs
namespace Go.Abs
open Go
structure zbB where
 label:Str
 form:zab
deriving DecidableEq
structure zlw where
 hole:Str
 label:Str
deriving DecidableEq
structure zal where
 pieces:List zbB
 overs:List zlw
 vars:List Str
deriving DecidableEq
@[go_sem] theorem zaf {p:zbB}:zbB.mk p.label p.form=p:=by cases p;rfl
@[go_sem] theorem zah {p:zlw}:zlw.mk p.hole p.label=p:=by cases p;rfl
@[go_sem] theorem zad {p:zal}:zal.mk p.pieces p.overs p.vars=p:=by cases p;rfl
instance:Inhabited zlw:=⟨⟨⟨[]⟩,⟨[]⟩⟩⟩
instance:Inhabited zbB:=⟨⟨⟨[]⟩,default⟩⟩
instance:Enc zlw:=⟨fun b=> .agg [.s b.hole.l,.s b.label.l],fun x=>match x with| .agg [.s a,.s b]=>⟨⟨a⟩,⟨b⟩⟩|_=>⟨⟨[]⟩,⟨[]⟩⟩,fun b=>by cases b;rfl⟩
@[go_sem] theorem zmR {b:zlw}:enc b= .agg [.s b.hole.l,.s b.label.l]:=rfl
@[go_sem] theorem zx5 {a b:List UInt8}:dec (α:=zlw) (.agg [.s a,.s b])=⟨⟨a⟩,⟨b⟩⟩:=rfl
instance:Kc zlw 2:=⟨fun _=>rfl⟩
@[go_sem] theorem zvK {l:List zlw}:zbi (l.map enc) 2=True:=eq_true (zdg l)
@[go_sem] theorem ztY {l:List zlw}:(zag (l.map enc)).all zcm=true:=by
 rw[List.all_eq_true]
 intro d hd
 simp only[zag,List.mem_flatMap,List.mem_map]at hd
 obtain⟨_,⟨a,_,rfl⟩,x,hx,rfl⟩:=hd
 simp only[zmR,FD.cells,List.mem_cons,List.not_mem_nil,or_false]at hx
 rcases hx with rfl|rfl<;>rfl
instance:Enc zbB:=⟨fun p=> .agg [.s p.label.l,.i .i64 p.form.kind,.s p.form.name.l,.sl (p.form.words.map enc),.sl (p.form.subs.map enc)],
 fun x=>match x with| .agg [.s a,.i _ k,.s n,.sl w,.sl s]=>⟨⟨a⟩,.mk k ⟨n⟩ (w.map dec) (s.map dec)⟩|_=>⟨⟨[]⟩,default⟩,fun p=>by
  cases p with
  |mk l f=>simp only[zbz];rw[show(⟨f.name.l⟩:Str)=f.name from rfl,zac]⟩
@[go_sem] theorem zkq {p:zbB}:enc p= .agg [.s p.label.l,.i .i64 p.form.kind,.s p.form.name.l,.sl (p.form.words.map enc),.sl (p.form.subs.map enc)]:=rfl
@[go_sem] theorem zwj {i a k n w s}:dec (α:=zbB) (.agg [.s a,.i i k,.s n,.sl w,.sl s])=⟨⟨a⟩,.mk k ⟨n⟩ (dec (.sl w)) (dec (.sl s))⟩:=rfl
instance:Kc zbB 5:=⟨fun _=>rfl⟩
@[go_sem] theorem zur {l:List zbB}:zbi (l.map enc) 5=True:=eq_true (zdg l)
@[go_sem] theorem zs4 {l:List zbB}:(zag (l.map enc)).all zcm=true:=by
 rw[List.all_eq_true]
 intro d hd
 simp only[zag,List.mem_flatMap,List.mem_map]at hd
 obtain⟨_,⟨a,_,rfl⟩,x,hx,rfl⟩:=hd
 simp only[zkq,FD.cells,List.mem_cons,List.not_mem_nil,or_false]at hx
 rcases hx with rfl|rfl|rfl|rfl|rfl<;>rfl
instance:Enc zal:=⟨fun s=> .agg [.sl (s.pieces.map enc),.sl (s.overs.map enc),.sl (s.vars.map enc)],
 fun x=>match x with| .agg [.sl a,.sl b,.sl c]=>⟨a.map dec,b.map dec,c.map dec⟩|_=>⟨[],[],[]⟩,fun p=>by
  cases p;simp only[zbz]⟩
@[go_sem] theorem zcR {s:zal}:enc s= .agg [.sl (s.pieces.map enc),.sl (s.overs.map enc),.sl (s.vars.map enc)]:=rfl
@[go_sem] theorem zu1 {a b c}:dec (α:=zal) (.agg [.sl a,.sl b,.sl c])=⟨dec (.sl a),dec (.sl b),dec (.sl c)⟩:=rfl
mutual
def zar:zab→List Str
 | .mk k nm _ s=>if k=10 then[nm]else zaI s
def zaI:List zab→List Str
 |[]=>[]
 |f::fs=>zar f++zaI fs
end
mutual
def zcG:zab→List Str
 | .mk k nm _ s=>(if k=10 then[nm]else[])++zaS s
def zaS:List zab→List Str
 |[]=>[]
 |f::fs=>zcG f++zaS fs
end
theorem zkF {f:zab}:zar f=if f.kind=10 then[f.name]else zaI f.subs:=by cases f;rw[zar];rfl
theorem zp2 {f:zab}:zcG f=(if f.kind=10 then[f.name]else[])++zaS f.subs:=by cases f;rw[zcG];rfl
theorem zhj:∀a b:List zab,zaI (a++b)=zaI a++zaI b
 |[],b=>by rw[zaI];rfl
 |f::a,b=>by rw[List.cons_append,zaI,zaI,zhj a b,List.append_assoc]
theorem zhl:∀a b:List zab,zaS (a++b)=zaS a++zaS b
 |[],b=>by rw[zaS];rfl
 |f::a,b=>by rw[List.cons_append,zaS,zaS,zhl a b,List.append_assoc]
theorem zgj {s:List zab}{i:Nat}(h:i<s.length):zaI (s.take (i+1))=zaI (s.take i)++zar s[i]:=by
 rw[List.take_succ_eq_append_getElem h,zhj,zaI,zaI,List.append_nil]
theorem zgk {s:List zab}{i:Nat}(h:i<s.length):zaS (s.take (i+1))=zaS (s.take i)++zcG s[i]:=by
 rw[List.take_succ_eq_append_getElem h,zhl,zaS,zaS,List.append_nil]
mutual
theorem zbr:∀f:zab,(zar f).length≤f.size
 | .mk k nm ws s=>by
  rw[zar,zab.size]
  split
  ·simp
  ·have:=zeQ s;omega
theorem zeQ:∀fs:List zab,(zaI fs).length≤zab.sizes fs
 |[]=>by rw[zaI];simp
 |f::fs=>by rw[zaI,zab.sizes,List.length_append];have:=zbr f;have:=zeQ fs;omega
end
mutual
theorem zok:∀f:zab,(zcG f).length≤f.size
 | .mk k nm ws s=>by
  rw[zcG,zab.size,List.length_append]
  have:=zeR s
  split
  ·simp;omega
  ·simp;omega
theorem zeR:∀fs:List zab,(zaS fs).length≤zab.sizes fs
 |[]=>by rw[zaS];simp
 |f::fs=>by rw[zaS,zab.sizes,List.length_append];have:=zok f;have:=zeR fs;omega
end
mutual
theorem zj6 {op:Bool}:∀(f:zab) (d:Int) (n:Nat),(chk op f d n).1.code=0→zcG f=zar f
 | .mk k nm w s,d,n,h=>by
  rw[chk]at h
  split at h
  ·rename_i h1;exact absurd h h1
  ·rename_i h1
   have h2:=(zch (Decidable.not_not.1 h1)).2.2.2.2
   have h3:=zih s _ _ h
   rw[zcG,zar]
   split
   ·rename_i hk
    subst hk
    simp only[zby]at h2
    have:za1 op (zab.mk 10 nm w s)≤0:=by
     unfold za1 zdb
     simp only[zaR]
     repeat'(split<;>try decide)
     all_goals omega
    have hs:s=[]:=List.eq_nil_of_length_eq_zero (by omega)
    subst hs
    rw[zaS];rfl
   ·rw[h3,List.nil_append]
theorem zih {op:Bool}:∀(fs:List zab) (d:Int) (n:Nat),(zdH op fs d n).1.code=0→zaS fs=zaI fs
 |[],d,n,_=>by rw[zaS,zaI]
 |f::fs,d,n,h=>by
  rw[zdH]at h
  split at h
  ·rename_i h1;exact absurd h h1
  ·rename_i h1
   rw[zaS,zaI,zj6 f d n (Decidable.not_not.1 h1),zih fs d _ h]
end
theorem zcq {op:Bool}{f:zab}(h:(zaP op f).code=0):zcG f=zar f:=zj6 f 1 0 h
def zlU:List Str→List Str→Bool
 |_,[]=>false
 |all,h::hs=>decide (h∈all)||zlU (all++[h]) hs
def zcb (labels all:List Str)(p:zbB):Int:=
 if zax p.label=false then 10 else if p.label∈labels then 7 else if(zaP true p.form).code≠0 then(zaP true p.form).code else if zlU all (zar p.form)=true then 7 else 0
def zfx:List Str→List Str→List zbB→Nat→zgV
 |_,_,[],_=>⟨0,0⟩
 |l,a,p::ps,i=>if zcb l a p≠0 then⟨zcb l a p,i⟩else zfx (l++[p.label]) (a++zar p.form) ps (i+1)
def za5 (labels all:List Str)(o:zlw):Bool:=decide (o.hole∈all)&&decide (o.label∈labels)
def znr (bef:List Str)(v:Str):Int:=if zax v=false then 10 else if v∈bef then 7 else 0
def zfy:List Str→List Str→Int
 |_,[]=>0
 |b,v::vs=>if znr b v≠0 then znr b v else zfy (b++[v]) vs
def zb8 (l:List zbB):Nat:=zab.sizes (l.map (·.form))
def zcK:List zbB→Nat
 |[]=>0
 |p::ps=>p.form.depth+zcK ps
def zan (l:List zbB):List Str:=l.map (·.label)
def zaU (l:List zbB):List Str:=l.flatMap fun p=>zar p.form
def za9 (s:zal):zgV:=
 if s.pieces.length=0∨6<s.pieces.length then⟨2, -1⟩
 else if(zfx [] [] s.pieces 0).code≠0 then zfx [] [] s.pieces 0
 else if 200<zb8 s.pieces∨40<zcK s.pieces then⟨1, -1⟩
 else if 300<s.overs.length then⟨2, -2⟩
 else if s.overs.all (za5 (zan s.pieces) (zaU s.pieces))=false then⟨6, -2⟩
 else if 6<s.vars.length then⟨2, -3⟩
 else if zfy [] s.vars≠0 then⟨zfy [] s.vars, -3⟩else⟨0,0⟩
theorem zk8 {s:zal}(h0:¬s.pieces.length=0)(h6:¬6<s.pieces.length):za9 s=if(zfx [] [] s.pieces 0).code≠0 then zfx [] [] s.pieces 0
 else if 200<zb8 s.pieces∨40<zcK s.pieces then⟨1, -1⟩
 else if 300<s.overs.length then⟨2, -2⟩
 else if s.overs.all (za5 (zan s.pieces) (zaU s.pieces))=false then⟨6, -2⟩
 else if 6<s.vars.length then⟨2, -3⟩
 else if zfy [] s.vars≠0 then⟨zfy [] s.vars, -3⟩else⟨0,0⟩:=by
 unfold za9;rw[if_neg (by omega)]
theorem zkk:∀a b:List zbB,zcK (a++b)=zcK a+zcK b
 |[],b=>by rw[zcK];simp
 |p::a,b=>by rw[List.cons_append,zcK,zcK,zkk a b];omega
theorem zhw {l:List zbB}{i:Nat}(h:i<l.length):zb8 (l.take (i+1))=zb8 (l.take i)+l[i].form.size:=by
 unfold zb8
 rw[List.take_succ_eq_append_getElem h,List.map_append,zab.sizes_app]
 simp[zab.sizes]
theorem zim {l:List zbB}{i:Nat}(h:i<l.length):zcK (l.take (i+1))=zcK (l.take i)+l[i].form.depth:=by
 rw[List.take_succ_eq_append_getElem h,zkk,zcK,zcK];omega
theorem zgl {l:List zbB}{i:Nat}(h:i<l.length):zan (l.take (i+1))=zan (l.take i)++[l[i].label]:=by
 unfold zan;rw[List.take_succ_eq_append_getElem h,List.map_append];rfl
theorem zj1 {l:List zbB}{i:Nat}(h:i<l.length):zaU (l.take (i+1))=zaU (l.take i)++zar l[i].form:=by
 unfold zaU;rw[List.take_succ_eq_append_getElem h,List.flatMap_append];simp
theorem ziL {l a:List Str}{ps:List zbB}{i:Nat}(h:i<ps.length):zfx l a (ps.drop i) i=if zcb l a ps[i]≠0 then⟨zcb l a ps[i],i⟩else zfx (l++[ps[i].label]) (a++zar ps[i].form) (ps.drop (i+1)) (i+1):=by
 rw[List.drop_eq_getElem_cons h,zfx]
theorem ziM {b vs:List Str}{i:Nat}(h:i<vs.length):zfy b (vs.drop i)=if znr b vs[i]≠0 then znr b vs[i]else zfy (b++[vs[i]]) (vs.drop (i+1)):=by
 rw[List.drop_eq_getElem_cons h,zfy]
theorem zkl {a hs:List Str}{i:Nat}(h:i<hs.length):zlU a (hs.drop i)=(decide (hs[i]∈a)||zlU (a++[hs[i]]) (hs.drop (i+1))):=by
 rw[List.drop_eq_getElem_cons h,zlU]
end Go.Abs
namespace Go.Abs
open Go
structure zcx where
 name:Str
 value:Int
deriving DecidableEq
structure zoO where
 name:Str
 arity:Int
 tuples:List (List Int)
deriving DecidableEq
structure zcJ where
 size:Int
 consts:List zcx
 rels:List zoO
deriving DecidableEq
instance:Inhabited zcx:=⟨⟨⟨[]⟩,0⟩⟩
instance:Inhabited zoO:=⟨⟨⟨[]⟩,0,[]⟩⟩
@[go_sem] theorem zwf {c:zcx}:zcx.mk c.name c.value=c:=by cases c;rfl
@[go_sem] theorem zA6 {r:zoO}:zoO.mk r.name r.arity r.tuples=r:=by cases r;rfl
@[go_sem] theorem zxq {m:zcJ}:zcJ.mk m.size m.consts m.rels=m:=by cases m;rfl
instance:Enc zcx:=⟨fun c=> .agg [.s c.name.l,.i .i64 c.value],fun x=>match x with| .agg [.s a,.i _ n]=>⟨⟨a⟩,n⟩|_=>default,fun c=>by cases c;rfl⟩
@[go_sem] theorem zpM {c:zcx}:enc c= .agg [.s c.name.l,.i .i64 c.value]:=rfl
@[go_sem] theorem zwh {a i n}:dec (α:=zcx) (.agg [.s a,.i i n])=⟨⟨a⟩,n⟩:=rfl
instance:Kc zcx 2:=⟨fun _=>rfl⟩
@[go_sem] theorem zuq {l:List zcx}:zbi (l.map enc) 2=True:=eq_true (zdg l)
@[go_sem] theorem zs3 {l:List zcx}:(zag (l.map enc)).all zcm=true:=by
 rw[List.all_eq_true]
 intro d hd
 simp only[zag,List.mem_flatMap,List.mem_map]at hd
 obtain⟨_,⟨a,_,rfl⟩,x,hx,rfl⟩:=hd
 simp only[zpM,FD.cells,List.mem_cons,List.not_mem_nil,or_false]at hx
 rcases hx with rfl|rfl<;>rfl
instance:Enc zoO:=⟨fun r=> .agg [.s r.name.l,.i .i64 r.arity,.sl (r.tuples.map enc)],fun x=>match x with| .agg [.s a,.i _ n,.sl t]=>⟨⟨a⟩,n,t.map dec⟩|_=>default,fun r=>by
 cases r;simp only[zbz]⟩
@[go_sem] theorem ztL {r:zoO}:enc r= .agg [.s r.name.l,.i .i64 r.arity,.sl (r.tuples.map enc)]:=rfl
@[go_sem] theorem zzF {a i n t}:dec (α:=zoO) (.agg [.s a,.i i n,.sl t])=⟨⟨a⟩,n,dec (.sl t)⟩:=rfl
instance:Kc zoO 3:=⟨fun _=>rfl⟩
@[go_sem] theorem zxk {l:List zoO}:zbi (l.map enc) 3=True:=eq_true (zdg l)
@[go_sem] theorem zvd {l:List zoO}:(zag (l.map enc)).all zcm=true:=by
 rw[List.all_eq_true]
 intro d hd
 simp only[zag,List.mem_flatMap,List.mem_map]at hd
 obtain⟨_,⟨a,_,rfl⟩,x,hx,rfl⟩:=hd
 simp only[ztL,FD.cells,List.mem_cons,List.not_mem_nil,or_false]at hx
 rcases hx with rfl|rfl|rfl<;>rfl
instance:Enc zcJ:=⟨fun m=> .agg [.i .i64 m.size,.sl (m.consts.map enc),.sl (m.rels.map enc)],fun x=>match x with| .agg [.i _ n,.sl c,.sl r]=>⟨n,c.map dec,r.map dec⟩|_=>⟨0,[],[]⟩,fun m=>by
 cases m;simp only[zbz]⟩
@[go_sem] theorem zwm {m:zcJ}:enc m= .agg [.i .i64 m.size,.sl (m.consts.map enc),.sl (m.rels.map enc)]:=rfl
@[go_sem] theorem zwi {i n c r}:dec (α:=zcJ) (.agg [.i i n,.sl c,.sl r])=⟨n,dec (.sl c),dec (.sl r)⟩:=rfl
def zBr (a b:Int):Int:=if a<b then-1 else if b<a then 1 else 0
def zBs:List Int→List Int→Int
 |[],[]=>0
 |[],_::_=> -1
 |_::_,[]=>1
 |a::as,b::bs=>if zBr a b≠0 then zBr a b else zBs as bs
def ltR (a b:zoO):Prop:=a.name.l<b.name.l∨(a.name=b.name∧a.arity<b.arity)
def zzI (m:zcJ)(w:Str):Option zcx:=m.consts.find? fun c=>decide (c.name=w)
def zrY (m:zcJ)(w:Str)(n:Int):Option zoO:=m.rels.find? fun r=>decide (r.name=w∧r.arity=n)
def zeS:List zcx→Str→Option Int
 |[],_=>none
 |e::es,w=>match zeS es w with
  |some v=>some v
  |none=>if e.name=w then some e.value else none
theorem zkK (w:Str):∀(a b:List zcx),zeS (a++b) w=match zeS b w with|some v=>some v|none=>zeS a w
 |[],b=>by rw[List.nil_append,zeS];cases zeS b w<;>rfl
 |e::a,b=>by
  rw[List.cons_append,zeS,zkK w a b,zeS]
  cases zeS b w<;>rfl
theorem zon (a:List zcx)(e:zcx)(w:Str):zeS (a++[e]) w=if e.name=w then some e.value else zeS a w:=by
 rw[zkK,zeS,zeS]
 by_cases h:e.name=w
 ·rw[if_pos h,if_pos h]
 ·rw[if_neg h,if_neg h]
def zsX (m:zcJ)(w:Str):Int:=match zzI m w with|some c=>c.value|none=>0
def zfG (m:zcJ)(env:List zcx)(w:Str):Int:=match zeS env w with|some v=>v|none=>zsX m w
def zBc (m:zcJ)(w:Str)(n:Int):List (List Int):=match zrY m w n with|some r=>r.tuples|none=>[]
def zwu (m:zcJ):List Int:=(List.range m.size.toNat).map Int.ofNat
mutual
def zuQ (m:zcJ):zab→List zcx→Bool
 | .mk k nm ws s,env=>
  if k=1 then true
  else if k=2 then decide (ws.map (zfG m env)∈zBc m nm ws.length)
  else if k=3 then decide (zfG m env (ws.getD 0 ⟨[]⟩)=zfG m env (ws.getD 1 ⟨[]⟩))
  else if k=4 then !(zd1 m s env).getD 0 false
  else if k=5 then(zd1 m s env).getD 0 false&&(zd1 m s env).getD 1 false
  else if k=6 then(zd1 m s env).getD 0 false||(zd1 m s env).getD 1 false
  else if k=7 then !(zd1 m s env).getD 0 false||(zd1 m s env).getD 1 false
  else if k=8 then(zwu m).all fun v=>(zd1 m s (env++[⟨nm,v⟩])).getD 0 false
  else if k=9 then(zwu m).any fun v=>(zd1 m s (env++[⟨nm,v⟩])).getD 0 false
  else false
def zd1 (m:zcJ):List zab→List zcx→List Bool
 |[],_=>[]
 |f::fs,env=>zuQ m f env::zd1 m fs env
end
mutual
def zkU:zab→Nat
 | .mk k _ _ s=>zft s+if isQ k then 1 else 0
def zft:List zab→Nat
 |[]=>0
 |f::fs=>max (zkU f) (zft fs)
end
mutual
def zt5 (m:zcJ):zab→Bool
 | .mk k nm ws s=>(!decide (k=2)||(zrY m nm ws.length).isSome)&&zju m s
def zju (m:zcJ):List zab→Bool
 |[]=>true
 |f::fs=>zt5 m f&&zju m fs
end
end Go.Abs
namespace Go.Abs
open Go
mutual
def vok:zab→Prop
 | .mk k _ ws s=>1≤k∧k≤9∧(k=2→ws.length≤3)∧(k=3→ws.length=2)∧(k=4∨k=8∨k=9→s.length=1)∧(k=5∨k=6∨k=7→s.length=2)∧zls s
def zls:List zab→Prop
 |[]=>True
 |f::fs=>vok f∧zls fs
end
theorem zns:∀l:List zab,zls l↔∀f∈l,vok f
 |[]=>by rw[zls];simp
 |f::l=>by rw[zls,zns l];simp
mutual
theorem ztB:∀(f:zab) (d:Int) (n:Nat),(chk false f d n).1.code=0→vok f
 | .mk k nm w s,d,n,h=>by
  rw[chk]at h
  split at h
  ·rename_i h1;exact absurd h h1
  ·rename_i h1
   have h2:=zch (Decidable.not_not.1 h1)
   have h3:=h2.2.2.2.2
   have h4:(if k=2 then decide (w.length≤3)else if k=3 then decide (w.length=2)else decide (w.length=0))=true:=h2.2.2.2.1
   simp only[zby]at h3
   have h5:za1 false (.mk k nm w s)=zdb k:=by unfold za1;simp[zaR]
   rw[h5]at h3
   unfold zdb at h3
   rw[vok]
   have h6:=zmI s _ _ h
   refine⟨?_,?_,fun e=>?_,fun e=>?_,fun e=>?_,fun e=>?_,h6⟩
   ·repeat'(first|omega|split at h3)
   ·repeat'(first|omega|split at h3)
   ·rw[if_pos e]at h4;simpa using h4
   ·rw[if_neg (by omega),if_pos e]at h4;simpa using h4
   ·rw[if_neg (by omega),if_pos e]at h3;omega
   ·rw[if_neg (by omega),if_neg (by omega),if_pos e]at h3;omega
theorem zmI:∀(fs:List zab) (d:Int) (n:Nat),(zdH false fs d n).1.code=0→zls fs
 |[],d,n,_=>by rw[zls];trivial
 |f::fs,d,n,h=>by
  rw[zdH]at h
  split at h
  ·rename_i h1;exact absurd h h1
  ·rename_i h1
   rw[zls]
   exact⟨ztB f d n (Decidable.not_not.1 h1),zmI fs d _ h⟩
end
structure zEw (m:zcJ):Prop where
 c:∀i j (hi:i<m.consts.length) (hj:j<m.consts.length),i<j→m.consts[i].name.l<m.consts[j].name.l
 r:∀i j (hi:i<m.rels.length) (hj:j<m.rels.length),i<j→ltR m.rels[i] m.rels[j]
 t:∀r∈m.rels,∀i j (hi:i<r.tuples.length) (hj:j<r.tuples.length),i<j→zBs r.tuples[i] r.tuples[j]<0
 s1:1≤m.size
 s6:m.size≤6
 lc:m.consts.length≤10000000
 lr:m.rels.length≤300
end Go.Abs

import Derived.Test.YtkkffhphodngkaaDoorFC
import Derived.Test.YtkkffhphodngkaaDoorAbs44
set_option linter.unusedSimpArgs false
namespace Go.Abs
open Go
mutual
def zac.fit:zac→Bool
 | .mk _ _ w s=>decide (w.length≤1000)&&decide (s.length≤1000)&&zac.fits s
def zac.fits:List zac→Bool
 |[]=>true
 |f::fs=>f.fit&&zac.fits fs
end
theorem zac.fits_mem:∀{l:List zac} {f:zac},zac.fits l=true→f∈l→f.fit=true
 |g::l,f,h,hm=>by
  rw[zac.fits,Bool.and_eq_true]at h
  rcases List.mem_cons.1 hm with rfl|hm
  ·exact h.1
  ·exact zac.fits_mem h.2 hm
theorem zac.fit_eq {f:zac}(h:f.fit=true):f.words.length≤1000∧f.subs.length≤1000∧zac.fits f.subs=true:=by
 cases f;rw[zac.fit]at h
 simp only[Bool.and_eq_true,decide_eq_true_eq]at h
 exact⟨h.1.1,h.1.2,h.2⟩
theorem zrr {op:Bool}{f:zac}{d:Int}{n:Nat}(h:zc7 op f d n=0):f.words.length≤1000∧f.subs.length≤1000:=by
 unfold zc7 at h
 split at h
 ·simp at h
 split at h
 ·simp at h
 split at h
 ·simp at h
 rename_i h1 h2 h3
 have h4:=Decidable.not_not.1 h3
 have h5:zba op f≤2:=by
  unfold zba zdI
  repeat'(split<;>try decide)
 have h6:=h4.2
 unfold zda at h6
 refine⟨?_,by omega⟩
 split at h6
 ·simp only[decide_eq_true_eq]at h6;omega
 split at h6
 ·simp only[decide_eq_true_eq]at h6;omega
 ·simp only[decide_eq_true_eq]at h6;omega
mutual
theorem zqt {op:Bool}:∀(f:zac) (d:Int) (n:Nat),(chk op f d n).1.code=0→f.fit=true
 | .mk k nm w s,d,n,h=>by
  rw[chk]at h
  split at h
  ·rename_i h1;exact absurd h h1
  rename_i h1
  have h2:=zrr (Decidable.not_not.1 h1)
  rw[zac.fit]
  simp only[Bool.and_eq_true,decide_eq_true_eq]
  exact⟨h2,znd s _ _ h⟩
theorem znd {op:Bool}:∀(fs:List zac) (d:Int) (n:Nat),(zdZ op fs d n).1.code=0→zac.fits fs=true
 |[],_,_,_=>by rw[zac.fits]
 |f::fs,d,n,h=>by
  rw[zdZ]at h
  split at h
  ·rename_i h1;exact absurd h h1
  rename_i h1
  rw[zac.fits,Bool.and_eq_true]
  exact⟨zqt f d n (Decidable.not_not.1 h1),znd fs _ _ h⟩
end
theorem zb1 {op:Bool}{f:zac}(h:(zaz op f).code=0):f.fit=true:=zqt f 1 0 h
def zzy (l:List UInt8):Nat:=l.foldl (fun a d=>a*10+(d.toNat-48)) 0
theorem zr9 (l:List UInt8)(d:UInt8):zzy (l++[d])=zzy l*10+(d.toNat-48):=by
 unfold zzy;rw[List.foldl_append];rfl
theorem zqF {u:Nat}(h:u<10):(UInt8.ofNat (48+u)).toNat-48=u:=by
 rw[UInt8.toNat_ofNat',Nat.mod_eq_of_lt (by omega)];omega
theorem ziY:∀u,zzy (zcf u)=u:=by
 intro u
 unfold zcf
 induction u using Nat.strongRecOn with
 |_ u ih=>
  rw[Lib.decDigits]
  split
  ·rename_i h
   have:=zqF h
   simpa[zzy]using this
  ·rename_i h
   rw[zr9,ih (u / 10) (by omega),zqF (by omega)]
   omega
theorem zoN {u v:Nat}(h:zcf u=zcf v):u=v:=by rw[←ziY u,←ziY v,h]
def zh7 (k:Nat):Str:=⟨118::zcf k⟩
theorem zj5 {u v:Nat}(h:zh7 u=zh7 v):u=v:=zoN (List.cons.inj (Str.mk.inj h)).2
def zlU (w:Str):Prop:=w.l.head? =some 33
instance (w:Str):Decidable (zlU w):=inferInstanceAs (Decidable (_=_))
def zeZ (used:List Str):Nat→Nat→Nat
 |0,k=>k
 |m+1,k=>if zh7 k∈used then zeZ used m (k+1)else k
def zeM (used:List Str)(k:Nat):Nat:=zeZ used used.length k
theorem znQ (used:List Str):∀m k,k≤zeZ used m k∧zeZ used m k≤k+m
 |0,k=>by simp[zeZ]
 |m+1,k=>by
  rw[zeZ]
  split
  ·have:=znQ used m (k+1);omega
  ·omega
theorem zhH (used:List Str):∀m k i,k≤i→i<zeZ used m k→zh7 i∈used
 |0,k,i,h1,h2=>by simp only[zeZ]at h2;omega
 |m+1,k,i,h1,h2=>by
  rw[zeZ]at h2
  split at h2
  ·rename_i h
   rcases Nat.eq_or_lt_of_le h1 with rfl|h1
   ·exact h
   ·exact zhH used m (k+1) i h1 h2
  ·omega
theorem ziO (used:List Str):∀m k,zeZ used m k<k+m→zh7 (zeZ used m k)∉used
 |0,k,h=>by simp[zeZ]at h
 |m+1,k,h=>by
  rw[zeZ]at h ⊢
  split
  ·rename_i h1
   rw[if_pos h1]at h
   exact ziO used m (k+1) (by omega)
  ·assumption
theorem pig:∀(used:List Str) (S:List Nat),S.Nodup→(∀i∈S,zh7 i∈used)→S.length≤used.length
 |[],S,_,h=>by
  cases S with
  |nil=>simp
  |cons i S=>have:=h i (by simp);simp at this
 |u::us,S,hn,h=>by
  by_cases he:∃i∈S,zh7 i=u
  ·obtain⟨i,hi,rfl⟩:=he
   have h1:=pig us (S.erase i) (hn.erase i) fun j hj=>by
    have h2:=(List.Nodup.mem_erase_iff hn).1 hj
    rcases List.mem_cons.1 (h j h2.2)with h3|h3
    ·exact absurd (zj5 h3) h2.1
    ·exact h3
   rw[List.length_erase_of_mem hi]at h1
   simp only[List.length_cons]
   omega
  ·have h1:=pig us S hn fun j hj=>by
    rcases List.mem_cons.1 (h j hj)with h3|h3
    ·exact absurd ⟨j,hj,h3⟩ he
    ·exact h3
   simp only[List.length_cons]
   omega
theorem zeG (used:List Str)(k:Nat):k≤zeM used k∧zeM used k≤k+used.length∧zh7 (zeM used k)∉used∧∀i,k≤i→i<zeM used k→zh7 i∈used:=by
 unfold zeM
 have h1:=znQ used used.length k
 have h2:=zhH used used.length k
 refine⟨h1.1,h1.2,?_,h2⟩
 rcases Nat.lt_or_ge (zeZ used used.length k) (k+used.length)with h|h
 ·exact ziO used _ _ h
 ·have he:zeZ used used.length k=k+used.length:=by omega
  intro hin
  rw[he]at hin h2
  have h3:=pig used (List.range' k (used.length+1)) List.nodup_range' fun i hi=>by
   have:=List.mem_range'_1.1 hi
   rcases Nat.lt_or_ge i (k+used.length)with h4|h4
   ·exact h2 i this.1 h4
   ·obtain rfl:i=k+used.length:=by omega
    exact hin
  rw[List.length_range']at h3
  omega
structure zbI where
 fr:Str
 to:Str
 deriving DecidableEq,Inhabited
instance:Enc zbI:=⟨fun b=> .agg [.s b.fr.l,.s b.to.l],fun x=>match x with| .agg [.s a,.s b]=>⟨⟨a⟩,⟨b⟩⟩|_=>⟨⟨[]⟩,⟨[]⟩⟩,fun b=>by cases b;rfl⟩
@[go_sem] theorem zsR {b:zbI}:enc b= .agg [.s b.fr.l,.s b.to.l]:=rfl
@[go_sem] theorem zzM {a b:List UInt8}:dec (α:=zbI) (.agg [.s a,.s b])=⟨⟨a⟩,⟨b⟩⟩:=rfl
instance:Kc zbI 2:=⟨fun _=>rfl⟩
@[go_sem] theorem zxg {l:List zbI}:zbi (l.map enc) 2=True:=eq_true (zdo l)
@[go_sem] theorem zvm {l:List zbI}:(zad (l.map enc)).all zcF=true:=by
 rw[List.all_eq_true]
 intro d hd
 simp only[zad,List.mem_flatMap,List.mem_map]at hd
 obtain⟨_,⟨a,_,rfl⟩,x,hx,rfl⟩:=hd
 simp only[zsR,FD.cells,List.mem_cons,List.not_mem_nil,or_false]at hx
 rcases hx with rfl|rfl<;>rfl
def zij (env:List zbI)(w:Str):Nat→Str
 |0=>w
 |i+1=>if(env.getD i default).fr=w then(env.getD i default).to else zij env w i
def lkp (env:List zbI)(w:Str):Str:=zij env w env.length
theorem znM (env:List zbI)(b:zbI)(w:Str):∀i,i≤env.length→zij (env++[b]) w i=zij env w i
 |0,_=>rfl
 |i+1,h=>by
  rw[zij,zij,znM env b w i (by omega)]
  have:(env++[b]).getD i default=env.getD i default:=by
   rw[List.getD_eq_getElem?_getD,List.getD_eq_getElem?_getD,List.getElem?_append_left (by omega)]
  rw[this]
theorem zeC (env:List zbI)(b:zbI)(w:Str):lkp (env++[b]) w=if b.fr=w then b.to else lkp env w:=by
 unfold lkp
 rw[List.length_append,List.length_singleton,zij,znM env b w _ (Nat.le_refl _)]
 have:(env++[b]).getD env.length default=b:=by
  rw[List.getD_eq_getElem?_getD,List.getElem?_append_right (Nat.le_refl _),Nat.sub_self];rfl
 rw[this]
theorem zjH (w:Str):lkp [] w=w:=rfl
theorem zvU {env env':List zbI}{s:Str→Str}(h1:env'.map (·.fr)=env.map (·.fr))(h2:env'.map (·.to)=env.map fun b=>s b.to){w:Str}(hw:s w=w):lkp env' w=s (lkp env w):=by
 have hl:env'.length=env.length:=by have:=congrArg List.length h1;simpa using this
 have key:∀i,i≤env.length→zij env' w i=s (zij env w i):=by
  intro i
  induction i with
  |zero=>intro _;exact hw.symm
  |succ i ih=>
   intro hi
   have e1:(env'.getD i default).fr=(env.getD i default).fr:=by
    have:=congrArg (fun l:List Str=>l[i]?) h1
    simp only[List.getElem?_map,List.getElem?_eq_getElem (show i<env.length by omega),List.getElem?_eq_getElem (show i<env'.length by omega),Option.map_some,Option.some.injEq]at this
    simp only[List.getD_eq_getElem?_getD,List.getElem?_eq_getElem (show i<env.length by omega),List.getElem?_eq_getElem (show i<env'.length by omega),Option.getD_some]
    exact this
   have e2:(env'.getD i default).to=s (env.getD i default).to:=by
    have:=congrArg (fun l:List Str=>l[i]?) h2
    simp only[List.getElem?_map,List.getElem?_eq_getElem (show i<env.length by omega),List.getElem?_eq_getElem (show i<env'.length by omega),Option.map_some,Option.some.injEq]at this
    simp only[List.getD_eq_getElem?_getD,List.getElem?_eq_getElem (show i<env.length by omega),List.getElem?_eq_getElem (show i<env'.length by omega),Option.getD_some]
    exact this
   rw[zij,zij,e1,e2,ih (by omega)]
   split<;>rfl
 unfold lkp
 rw[hl]
 exact key _ (Nat.le_refl _)
def isQ (k:Int):Prop:=k=8∨k=9
instance (k:Int):Decidable (isQ k):=inferInstanceAs (Decidable (_∨_))
mutual
def cst:zac→List Str→List Str
 | .mk k nm ws s,bd=>ws.filter (fun w=>decide (w∉bd))++zbW s (if isQ k then bd++[nm]else bd)
def zbW:List zac→List Str→List Str
 |[],_=>[]
 |f::fs,bd=>cst f bd++zbW fs bd
end
theorem zjk (bd:List Str):∀a b:List zac,zbW (a++b) bd=zbW a bd++zbW b bd
 |[],b=>by rw[zbW];rfl
 |f::a,b=>by rw[List.cons_append,zbW,zbW,zjk bd a b,List.append_assoc]
mutual
def ren (g:Nat→Str×Nat):zac→List zbI→Nat→zac×Nat
 | .mk k nm ws s,env,n=>
  if isQ k then(.mk k (g n).1 (ws.map (lkp env)) (zbK g s (env++[⟨nm,(g n).1⟩]) (g n).2).1,(zbK g s (env++[⟨nm,(g n).1⟩]) (g n).2).2)
  else(.mk k nm (ws.map (lkp env)) (zbK g s env n).1,(zbK g s env n).2)
def zbK (g:Nat→Str×Nat):List zac→List zbI→Nat→List zac×Nat
 |[],_,n=>([],n)
 |f::fs,env,n=>((ren g f env n).1::(zbK g fs env (ren g f env n).2).1,(zbK g fs env (ren g f env n).2).2)
end
theorem zdW (g:Nat→Str×Nat)(env:List zbI):∀(a:List zac) (n:Nat),(zbK g a env n).1.length=a.length
 |[],n=>by simp[zbK]
 |f::a,n=>by rw[zbK];simp[zdW g env a]
def vg (used:List Str)(k:Nat):Str×Nat:=(zh7 (zeM used k),zeM used k+1)
theorem zrD {g:Nat→Str×Nat}{u:Nat}(hg:∀k,k≤(g k).2∧(g k).2≤k+u):
  (∀(f:zac) (env:List zbI) (n:Nat),n≤(ren g f env n).2∧(ren g f env n).2≤n+u*f.size)∧∀(fs:List zac) (env:List zbI) (n:Nat),n≤(zbK g fs env n).2∧(zbK g fs env n).2≤n+u*zac.sizes fs:=by
 suffices h:∀m,(∀(f:zac) (env:List zbI) (n:Nat),f.size≤m→n≤(ren g f env n).2∧(ren g f env n).2≤n+u*f.size)∧∀(fs:List zac) (env:List zbI) (n:Nat),zac.sizes fs≤m→n≤(zbK g fs env n).2∧(zbK g fs env n).2≤n+u*zac.sizes fs from
  ⟨fun f env n=>(h _).1 f env n (Nat.le_refl _),fun fs env n=>(h _).2 fs env n (Nat.le_refl _)⟩
 intro m
 induction m with
 |zero=>
  refine⟨fun f env n h=>by have:=f.size_pos;omega,fun fs env n h=>?_⟩
  cases fs with
  |nil=>simp[zbK]
  |cons f fs=>rw[zac.sizes]at h;have:=f.size_pos;omega
 |succ m ih=>
  have h1:∀(f:zac) (env:List zbI) (n:Nat),f.size≤m+1→n≤(ren g f env n).2∧(ren g f env n).2≤n+u*f.size:=by
   rintro⟨k,nm,ws,s⟩ env n h
   rw[zac.size]at h ⊢
   rw[Nat.mul_add,Nat.mul_one]
   rw[ren]
   split
   ·have h2:=ih.2 s (env++[⟨nm,(g n).1⟩]) (g n).2 (by omega)
    have h3:=hg n
    simp only
    omega
   ·have h2:=ih.2 s env n (by omega)
    simp only
    omega
  refine⟨h1,fun fs=>?_⟩
  induction fs with
  |nil=>intro env n h;simp[zbK]
  |cons f fs ih2=>
   intro env n h
   rw[zac.sizes]at h ⊢
   rw[zbK,Nat.mul_add]
   have h2:=h1 f env n (by omega)
   have h3:=ih2 env (ren g f env n).2 (by omega)
   simp only
   omega
theorem zwu (used:List Str)(k:Nat):k≤(vg used k).2∧(vg used k).2≤k+(used.length+1):=by
 have:=zeG used k
 unfold vg
 simp only
 omega
def zbv (f:zac):List Str:=(zcZ (zf9 ((cst f []).map (·.l)))).map Str.mk
def zCX (env:List zbI)(used:List Str):List Str:=env.foldl (fun u b=>u.map fun w=>if w=b.fr then b.to else w) used
def zb0 (f:zac)(env:List zbI):zac:=(ren (vg (zCX env (zbv f))) f env 0).1
theorem zhz:∀(l:List (List UInt8)) (x:List UInt8),x∈zcZ l↔x∈l:=by
 intro l x
 unfold zcZ Lib.compact Lib.compactUpTo
 have hget:∀j (h:j<l.length),(l.toArray)[j]! =l[j]:=fun j h=>by simp[h]
 constructor
 ·intro h
  obtain⟨j,hj,rfl⟩:=List.mem_map.1 h
  have hj':j<l.length:=List.mem_range.1 (List.mem_filter.1 hj).1
  rw[hget j hj']
  exact List.getElem_mem hj'
 ·intro h
  obtain⟨j,hj,rfl⟩:=List.getElem_of_mem h
  induction j with
  |zero=>exact List.mem_map.2 ⟨0,List.mem_filter.2 ⟨List.mem_range.2 hj,by simp[Lib.keeps]⟩,hget 0 hj⟩
  |succ j ih=>
   by_cases he:l[j+1]=l[j]
   ·rw[he];exact ih (by omega) (List.getElem_mem _)
   ·exact List.mem_map.2 ⟨j+1,List.mem_filter.2 ⟨List.mem_range.2 hj,by
     simp only[Lib.keeps,decide_eq_true_eq,Nat.add_sub_cancel]
     rw[hget _ hj,hget j (by omega)]
     exact .inr he⟩,hget _ hj⟩
theorem zdF (f:zac)(x:Str):x∈zbv f↔x∈cst f []:=by
 unfold zbv
 simp only[List.mem_map,zhz,(zdH _).mem_iff]
 constructor
 ·rintro⟨y,⟨z,hz,rfl⟩,rfl⟩;exact hz
 ·intro h;exact⟨x.l,⟨x,h,rfl⟩,rfl⟩
theorem zfJ (f:zac):(zbv f).length≤(cst f []).length:=by
 unfold zbv
 rw[List.length_map]
 refine Nat.le_trans (zfh _) ?_
 rw[zfE,List.length_map];exact Nat.le_refl _
def ziR (l:List Str)(s:Str):List Str:=if s∈l then l else l.take (l.takeWhile fun x=>decide (x.l<s.l)).length++[s]++l.drop (l.takeWhile fun x=>decide (x.l<s.l)).length
theorem ztw (l:List Str)(s x:Str):x∈ziR l s↔x∈l∨x=s:=by
 unfold ziR
 split
 ·rename_i h
  constructor
  ·exact .inl
  ·rintro(h1|rfl)
   ·exact h1
   ·exact h
 ·have h1:=List.take_append_drop (l.takeWhile fun x=>decide (x.l<s.l)).length l
  constructor
  ·intro h
   simp only[List.mem_append,List.mem_singleton]at h
   rcases h with(h|h)|h
   ·exact .inl (List.mem_of_mem_take h)
   ·exact .inr h
   ·exact .inl (List.mem_of_mem_drop h)
  ·rintro(h|rfl)
   ·rw[←h1]at h
    simp only[List.mem_append,List.mem_singleton]at h ⊢
    rcases h with h|h
    ·exact .inl (.inl h)
    ·exact .inr h
   ·simp
mutual
def zji:zac→List Str→List Str→List Str
 | .mk k nm ws s,bd,l=>zdd s (if isQ k then bd++[nm]else bd) (ws.foldl (fun l w=>if w∈bd then l else ziR l w) l)
def zdd:List zac→List Str→List Str→List Str
 |[],_,l=>l
 |f::fs,bd,l=>zdd fs bd (zji f bd l)
end
theorem zkq (bd:List Str):∀(a b:List zac) (l:List Str),zdd (a++b) bd l=zdd b bd (zdd a bd l)
 |[],b,l=>by rw[zdd];rfl
 |f::a,b,l=>by rw[List.cons_append,zdd,zdd,zkq bd a b]
theorem zld (bd:List Str)(x:Str):∀(ws l:List Str),x∈ws.foldl (fun l w=>if w∈bd then l else ziR l w) l↔x∈l∨x∈ws.filter (fun w=>decide (w∉bd))
 |[],l=>by simp
 |w::ws,l=>by
  rw[List.foldl_cons,zld bd x ws,List.filter_cons]
  by_cases h:w∈bd
  ·rw[if_pos h,if_neg (by simpa using h)]
  ·rw[if_neg h,if_pos (by simpa using h),ztw,List.mem_cons,or_assoc]
mutual
theorem ztv (x:Str):∀(f:zac) (bd l:List Str),x∈zji f bd l↔x∈l∨x∈cst f bd
 | .mk k nm ws s,bd,l=>by rw[zji,cst,zlc x s,zld,List.mem_append,or_assoc]
theorem zlc (x:Str):∀(fs:List zac) (bd l:List Str),x∈zdd fs bd l↔x∈l∨x∈zbW fs bd
 |[],bd,l=>by simp[zdd,zbW]
 |f::fs,bd,l=>by rw[zdd,zbW,zlc x fs,ztv x f,List.mem_append,or_assoc]
end
theorem ztE (l:List Str)(s:Str):(ziR l s).length≤l.length+1:=by
 unfold ziR
 split
 ·omega
 ·simp only[List.length_append,List.length_take,List.length_drop,List.length_singleton];omega
theorem zfq (bd:List Str):∀(ws l:List Str),(ws.foldl (fun l w=>if w∈bd then l else ziR l w) l).length≤l.length+ws.length
 |[],l=>by simp
 |w::ws,l=>by
  rw[List.foldl_cons]
  have h1:=zfq bd ws (if w∈bd then l else ziR l w)
  have h2:(if w∈bd then l else ziR l w).length≤l.length+1:=by
   split
   ·omega
   ·exact ztE l w
  simp only[List.length_cons]
  omega
def zwo (fr to:List Str)(w:Str):Str:=match fr,to with
 |a::fr,b::to=>if a=w then b else zwo fr to w
 |_,_=>w
mutual
def swp (fr to:List Str):zac→zac
 | .mk k nm ws s=> .mk k (if isQ k then zwo fr to nm else nm) (ws.map (zwo fr to)) (zFb fr to s)
def zFb (fr to:List Str):List zac→List zac
 |[]=>[]
 |f::fs=>swp fr to f::zFb fr to fs
end
mutual
def zfV:zac→Prop
 | .mk _ _ ws s=>(∀w∈ws,¬zlU w)∧zcI s
def zcI:List zac→Prop
 |[]=>True
 |f::fs=>zfV f∧zcI fs
end
end Go.Abs

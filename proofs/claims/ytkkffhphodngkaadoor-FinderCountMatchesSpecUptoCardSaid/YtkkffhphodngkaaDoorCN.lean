import Derived.Test.YtkkffhphodngkaaDoorFC
import Derived.Test.YtkkffhphodngkaaDoorAbs44
set_option linter.unusedSimpArgs false
namespace Go.Abs
open Go
mutual
def zaf.fit:zaf→Bool
 | .mk _ _ w s=>decide (w.length≤1000)&&decide (s.length≤1000)&&zaf.fits s
def zaf.fits:List zaf→Bool
 |[]=>true
 |f::fs=>f.fit&&zaf.fits fs
end
theorem zaf.fits_mem:∀{l:List zaf} {f:zaf},zaf.fits l=true→f∈l→f.fit=true
 |g::l,f,h,hm=>by
  rw[zaf.fits,Bool.and_eq_true]at h
  rcases List.mem_cons.1 hm with rfl|hm
  ·exact h.1
  ·exact zaf.fits_mem h.2 hm
theorem zaf.fit_eq {f:zaf}(h:f.fit=true):f.words.length≤1000∧f.subs.length≤1000∧zaf.fits f.subs=true:=by
 cases f;rw[zaf.fit]at h
 simp only[Bool.and_eq_true,decide_eq_true_eq]at h
 exact⟨h.1.1,h.1.2,h.2⟩
theorem zsj {op:Bool}{f:zaf}{d:Int}{n:Nat}(h:zdj op f d n=0):f.words.length≤1000∧f.subs.length≤1000:=by
 unfold zdj at h
 split at h
 ·simp at h
 split at h
 ·simp at h
 split at h
 ·simp at h
 rename_i h1 h2 h3
 have h4:=Decidable.not_not.1 h3
 have h5:zbl op f≤2:=by
  unfold zbl zd3
  repeat'(split<;>try decide)
 have h6:=h4.2
 unfold zdn at h6
 refine⟨?_,by omega⟩
 split at h6
 ·simp only[decide_eq_true_eq]at h6;omega
 split at h6
 ·simp only[decide_eq_true_eq]at h6;omega
 ·simp only[decide_eq_true_eq]at h6;omega
mutual
theorem zrm {op:Bool}:∀(f:zaf) (d:Int) (n:Nat),(chk op f d n).1.code=0→f.fit=true
 | .mk k nm w s,d,n,h=>by
  rw[chk]at h
  split at h
  ·rename_i h1;exact absurd h h1
  rename_i h1
  have h2:=zsj (Decidable.not_not.1 h1)
  rw[zaf.fit]
  simp only[Bool.and_eq_true,decide_eq_true_eq]
  exact⟨h2,zn7 s _ _ h⟩
theorem zn7 {op:Bool}:∀(fs:List zaf) (d:Int) (n:Nat),(zek op fs d n).1.code=0→zaf.fits fs=true
 |[],_,_,_=>by rw[zaf.fits]
 |f::fs,d,n,h=>by
  rw[zek]at h
  split at h
  ·rename_i h1;exact absurd h h1
  rename_i h1
  rw[zaf.fits,Bool.and_eq_true]
  exact⟨zrm f d n (Decidable.not_not.1 h1),zn7 fs _ _ h⟩
end
theorem zbN {op:Bool}{f:zaf}(h:(zaA op f).code=0):f.fit=true:=zrm f 1 0 h
def zAO (l:List UInt8):Nat:=l.foldl (fun a d=>a*10+(d.toNat-48)) 0
theorem ztd (l:List UInt8)(d:UInt8):zAO (l++[d])=zAO l*10+(d.toNat-48):=by
 unfold zAO;rw[List.foldl_append];rfl
theorem zrx {u:Nat}(h:u<10):(UInt8.ofNat (48+u)).toNat-48=u:=by
 rw[UInt8.toNat_ofNat',Nat.mod_eq_of_lt (by omega)];omega
theorem zjA:∀u,zAO (zco u)=u:=by
 intro u
 unfold zco
 induction u using Nat.strongRecOn with
 |_ u ih=>
  rw[Lib.decDigits]
  split
  ·rename_i h
   have:=zrx h
   simpa[zAO]using this
  ·rename_i h
   rw[ztd,ih (u / 10) (by omega),zrx (by omega)]
   omega
theorem zpH {u v:Nat}(h:zco u=zco v):u=v:=by rw[←zjA u,←zjA v,h]
def ziM (k:Nat):Str:=⟨118::zco k⟩
theorem zkM {u v:Nat}(h:ziM u=ziM v):u=v:=zpH (List.cons.inj (Str.mk.inj h)).2
def zmF (w:Str):Prop:=w.l.head? =some 33
instance (w:Str):Decidable (zmF w):=inferInstanceAs (Decidable (_=_))
def zfn (used:List Str):Nat→Nat→Nat
 |0,k=>k
 |m+1,k=>if ziM k∈used then zfn used m (k+1)else k
def ze9 (used:List Str)(k:Nat):Nat:=zfn used used.length k
theorem zoI (used:List Str):∀m k,k≤zfn used m k∧zfn used m k≤k+m
 |0,k=>by simp[zfn]
 |m+1,k=>by
  rw[zfn]
  split
  ·have:=zoI used m (k+1);omega
  ·omega
theorem zip (used:List Str):∀m k i,k≤i→i<zfn used m k→ziM i∈used
 |0,k,i,h1,h2=>by simp only[zfn]at h2;omega
 |m+1,k,i,h1,h2=>by
  rw[zfn]at h2
  split at h2
  ·rename_i h
   rcases Nat.eq_or_lt_of_le h1 with rfl|h1
   ·exact h
   ·exact zip used m (k+1) i h1 h2
  ·omega
theorem zjq (used:List Str):∀m k,zfn used m k<k+m→ziM (zfn used m k)∉used
 |0,k,h=>by simp[zfn]at h
 |m+1,k,h=>by
  rw[zfn]at h ⊢
  split
  ·rename_i h1
   rw[if_pos h1]at h
   exact zjq used m (k+1) (by omega)
  ·assumption
theorem pig:∀(used:List Str) (S:List Nat),S.Nodup→(∀i∈S,ziM i∈used)→S.length≤used.length
 |[],S,_,h=>by
  cases S with
  |nil=>simp
  |cons i S=>have:=h i (by simp);simp at this
 |u::us,S,hn,h=>by
  by_cases he:∃i∈S,ziM i=u
  ·obtain⟨i,hi,rfl⟩:=he
   have h1:=pig us (S.erase i) (hn.erase i) fun j hj=>by
    have h2:=(List.Nodup.mem_erase_iff hn).1 hj
    rcases List.mem_cons.1 (h j h2.2)with h3|h3
    ·exact absurd (zkM h3) h2.1
    ·exact h3
   rw[List.length_erase_of_mem hi]at h1
   simp only[List.length_cons]
   omega
  ·have h1:=pig us S hn fun j hj=>by
    rcases List.mem_cons.1 (h j hj)with h3|h3
    ·exact absurd ⟨j,hj,h3⟩ he
    ·exact h3
   simp only[List.length_cons]
   omega
theorem ze3 (used:List Str)(k:Nat):k≤ze9 used k∧ze9 used k≤k+used.length∧ziM (ze9 used k)∉used∧∀i,k≤i→i<ze9 used k→ziM i∈used:=by
 unfold ze9
 have h1:=zoI used used.length k
 have h2:=zip used used.length k
 refine⟨h1.1,h1.2,?_,h2⟩
 rcases Nat.lt_or_ge (zfn used used.length k) (k+used.length)with h|h
 ·exact zjq used _ _ h
 ·have he:zfn used used.length k=k+used.length:=by omega
  intro hin
  rw[he]at hin h2
  have h3:=pig used (List.range' k (used.length+1)) List.nodup_range' fun i hi=>by
   have:=List.mem_range'_1.1 hi
   rcases Nat.lt_or_ge i (k+used.length)with h4|h4
   ·exact h2 i this.1 h4
   ·obtain rfl:i=k+used.length:=by omega
    exact hin
  rw[List.length_range']at h3
  omega
structure zbU where
 fr:Str
 to:Str
 deriving DecidableEq,Inhabited
instance:Enc zbU:=⟨fun b=> .agg [.s b.fr.l,.s b.to.l],fun x=>match x with| .agg [.s a,.s b]=>⟨⟨a⟩,⟨b⟩⟩|_=>⟨⟨[]⟩,⟨[]⟩⟩,fun b=>by cases b;rfl⟩
@[go_sem] theorem ztW {b:zbU}:enc b= .agg [.s b.fr.l,.s b.to.l]:=rfl
@[go_sem] theorem zA1 {a b:List UInt8}:dec (α:=zbU) (.agg [.s a,.s b])=⟨⟨a⟩,⟨b⟩⟩:=rfl
instance:Kc zbU 2:=⟨fun _=>rfl⟩
@[go_sem] theorem zyu {l:List zbU}:zbs (l.map enc) 2=True:=eq_true (zdF l)
@[go_sem] theorem zwy {l:List zbU}:(zae (l.map enc)).all zcx=true:=by
 rw[List.all_eq_true]
 intro d hd
 simp only[zae,List.mem_flatMap,List.mem_map]at hd
 obtain⟨_,⟨a,_,rfl⟩,x,hx,rfl⟩:=hd
 simp only[ztW,FD.cells,List.mem_cons,List.not_mem_nil,or_false]at hx
 rcases hx with rfl|rfl<;>rfl
def ziX (env:List zbU)(w:Str):Nat→Str
 |0=>w
 |i+1=>if(env.getD i default).fr=w then(env.getD i default).to else ziX env w i
def lkp (env:List zbU)(w:Str):Str:=ziX env w env.length
theorem zoC (env:List zbU)(b:zbU)(w:Str):∀i,i≤env.length→ziX (env++[b]) w i=ziX env w i
 |0,_=>rfl
 |i+1,h=>by
  rw[ziX,ziX,zoC env b w i (by omega)]
  have:(env++[b]).getD i default=env.getD i default:=by
   rw[List.getD_eq_getElem?_getD,List.getD_eq_getElem?_getD,List.getElem?_append_left (by omega)]
  rw[this]
theorem zeZ (env:List zbU)(b:zbU)(w:Str):lkp (env++[b]) w=if b.fr=w then b.to else lkp env w:=by
 unfold lkp
 rw[List.length_append,List.length_singleton,ziX,zoC env b w _ (Nat.le_refl _)]
 have:(env++[b]).getD env.length default=b:=by
  rw[List.getD_eq_getElem?_getD,List.getElem?_append_right (Nat.le_refl _),Nat.sub_self];rfl
 rw[this]
theorem zkm (w:Str):lkp [] w=w:=rfl
theorem zw7 {env env':List zbU}{s:Str→Str}(h1:env'.map (·.fr)=env.map (·.fr))(h2:env'.map (·.to)=env.map fun b=>s b.to){w:Str}(hw:s w=w):lkp env' w=s (lkp env w):=by
 have hl:env'.length=env.length:=by have:=congrArg List.length h1;simpa using this
 have key:∀i,i≤env.length→ziX env' w i=s (ziX env w i):=by
  intro i
  induction i with
  |zero=>intro _;exact hw.symm
  |succ i ih=>
   intro hi
   have e1:(env'.getD i default).fr=(env.getD i default).fr:=by
    have:=congrArg (fun l:List Str=>l[i]?) h1
    simp only[List.getElem?_map,List.getElem?_eq_getElem (show i<env.length by omega),List.getElem?_eq_getElem (show i<env'.length by omega),Option.map_some,Option.some.injEq]at this
    simp only[List.getD_eq_getElem?_getD,List.getElem?_eq_getElem (show i<env.length by omega),List.getElem?_eq_getElem (show i<env'.length by omega),Option.getD_some]
    exact this
   have e2:(env'.getD i default).to=s (env.getD i default).to:=by
    have:=congrArg (fun l:List Str=>l[i]?) h2
    simp only[List.getElem?_map,List.getElem?_eq_getElem (show i<env.length by omega),List.getElem?_eq_getElem (show i<env'.length by omega),Option.map_some,Option.some.injEq]at this
    simp only[List.getD_eq_getElem?_getD,List.getElem?_eq_getElem (show i<env.length by omega),List.getElem?_eq_getElem (show i<env'.length by omega),Option.getD_some]
    exact this
   rw[ziX,ziX,e1,e2,ih (by omega)]
   split<;>rfl
 unfold lkp
 rw[hl]
 exact key _ (Nat.le_refl _)
def isQ (k:Int):Prop:=k=8∨k=9
instance (k:Int):Decidable (isQ k):=inferInstanceAs (Decidable (_∨_))
mutual
def cst:zaf→List Str→List Str
 | .mk k nm ws s,bd=>ws.filter (fun w=>decide (w∉bd))++zb8 s (if isQ k then bd++[nm]else bd)
def zb8:List zaf→List Str→List Str
 |[],_=>[]
 |f::fs,bd=>cst f bd++zb8 fs bd
end
theorem zjX (bd:List Str):∀a b:List zaf,zb8 (a++b) bd=zb8 a bd++zb8 b bd
 |[],b=>by rw[zb8];rfl
 |f::a,b=>by rw[List.cons_append,zb8,zb8,zjX bd a b,List.append_assoc]
mutual
def ren (g:Nat→Str×Nat):zaf→List zbU→Nat→zaf×Nat
 | .mk k nm ws s,env,n=>
  if isQ k then(.mk k (g n).1 (ws.map (lkp env)) (zbX g s (env++[⟨nm,(g n).1⟩]) (g n).2).1,(zbX g s (env++[⟨nm,(g n).1⟩]) (g n).2).2)
  else(.mk k nm (ws.map (lkp env)) (zbX g s env n).1,(zbX g s env n).2)
def zbX (g:Nat→Str×Nat):List zaf→List zbU→Nat→List zaf×Nat
 |[],_,n=>([],n)
 |f::fs,env,n=>((ren g f env n).1::(zbX g fs env (ren g f env n).2).1,(zbX g fs env (ren g f env n).2).2)
end
theorem zeh (g:Nat→Str×Nat)(env:List zbU):∀(a:List zaf) (n:Nat),(zbX g a env n).1.length=a.length
 |[],n=>by simp[zbX]
 |f::a,n=>by rw[zbX];simp[zeh g env a]
def vg (used:List Str)(k:Nat):Str×Nat:=(ziM (ze9 used k),ze9 used k+1)
theorem zsy {g:Nat→Str×Nat}{u:Nat}(hg:∀k,k≤(g k).2∧(g k).2≤k+u):
  (∀(f:zaf) (env:List zbU) (n:Nat),n≤(ren g f env n).2∧(ren g f env n).2≤n+u*f.size)∧∀(fs:List zaf) (env:List zbU) (n:Nat),n≤(zbX g fs env n).2∧(zbX g fs env n).2≤n+u*zaf.sizes fs:=by
 suffices h:∀m,(∀(f:zaf) (env:List zbU) (n:Nat),f.size≤m→n≤(ren g f env n).2∧(ren g f env n).2≤n+u*f.size)∧∀(fs:List zaf) (env:List zbU) (n:Nat),zaf.sizes fs≤m→n≤(zbX g fs env n).2∧(zbX g fs env n).2≤n+u*zaf.sizes fs from
  ⟨fun f env n=>(h _).1 f env n (Nat.le_refl _),fun fs env n=>(h _).2 fs env n (Nat.le_refl _)⟩
 intro m
 induction m with
 |zero=>
  refine⟨fun f env n h=>by have:=f.size_pos;omega,fun fs env n h=>?_⟩
  cases fs with
  |nil=>simp[zbX]
  |cons f fs=>rw[zaf.sizes]at h;have:=f.size_pos;omega
 |succ m ih=>
  have h1:∀(f:zaf) (env:List zbU) (n:Nat),f.size≤m+1→n≤(ren g f env n).2∧(ren g f env n).2≤n+u*f.size:=by
   rintro⟨k,nm,ws,s⟩ env n h
   rw[zaf.size]at h ⊢
   rw[Nat.mul_add,Nat.mul_one]
   rw[ren]
   split
   ·have h2:=ih.2 s (env++[⟨nm,(g n).1⟩]) (g n).2 (by omega)
    have h3:=hg n
    simp only
    omega
   ·have h2:=ih.2 s env n (by omega)
    simp only
    omega
  refine⟨h1,fun fs=>?_⟩
  induction fs with
  |nil=>intro env n h;simp[zbX]
  |cons f fs ih2=>
   intro env n h
   rw[zaf.sizes]at h ⊢
   rw[zbX,Nat.mul_add]
   have h2:=h1 f env n (by omega)
   have h3:=ih2 env (ren g f env n).2 (by omega)
   simp only
   omega
theorem zxJ (used:List Str)(k:Nat):k≤(vg used k).2∧(vg used k).2≤k+(used.length+1):=by
 have:=ze3 used k
 unfold vg
 simp only
 omega
def zbH (f:zaf):List Str:=(zda (zgL ((cst f []).map (·.l)))).map Str.mk
def zEg (env:List zbU)(used:List Str):List Str:=env.foldl (fun u b=>u.map fun w=>if w=b.fr then b.to else w) used
def zcc (f:zaf)(env:List zbU):zaf:=(ren (vg (zEg env (zbH f))) f env 0).1
theorem zii:∀(l:List (List UInt8)) (x:List UInt8),x∈zda l↔x∈l:=by
 intro l x
 unfold zda Lib.compact Lib.compactUpTo
 have hget:∀j (h:j<l.length),(l.toArray)[j]! =l[j]:=fun j h=>by simp[h]
 constructor
 ·intro h
  obtain⟨j,hj,rfl⟩:=List.mem_map.1 h
  have hj':j<l.length:=List.mem_range.1 (List.mem_filter.1 hj).1
  rw[hget j hj']
  exact List.getElem_mem hj'
 ·intro h
  obtain⟨j,hj,rfl⟩:=List.getElem_of_mem h
  induction j with
  |zero=>exact List.mem_map.2 ⟨0,List.mem_filter.2 ⟨List.mem_range.2 hj,by simp[Lib.keeps]⟩,hget 0 hj⟩
  |succ j ih=>
   by_cases he:l[j+1]=l[j]
   ·rw[he];exact ih (by omega) (List.getElem_mem _)
   ·exact List.mem_map.2 ⟨j+1,List.mem_filter.2 ⟨List.mem_range.2 hj,by
     simp only[Lib.keeps,decide_eq_true_eq,Nat.add_sub_cancel]
     rw[hget _ hj,hget j (by omega)]
     exact .inr he⟩,hget _ hj⟩
theorem zd0 (f:zaf)(x:Str):x∈zbH f↔x∈cst f []:=by
 unfold zbH
 simp only[List.mem_map,zii,(zd2 _).mem_iff]
 constructor
 ·rintro⟨y,⟨z,hz,rfl⟩,rfl⟩;exact hz
 ·intro h;exact⟨x.l,⟨x,h,rfl⟩,rfl⟩
theorem zgg (f:zaf):(zbH f).length≤(cst f []).length:=by
 unfold zbH
 rw[List.length_map]
 refine Nat.le_trans (zfL _) ?_
 rw[zga,List.length_map];exact Nat.le_refl _
def zeo (l:List Str)(s:Str):List Str:=if s∈l then l else l.take (l.takeWhile fun x=>decide (x.l<s.l)).length++[s]++l.drop (l.takeWhile fun x=>decide (x.l<s.l)).length
theorem zoF (l:List Str)(s x:Str):x∈zeo l s↔x∈l∨x=s:=by
 unfold zeo
 split
 ·rename_i h
  constructor
  ·exact .inl
  ·rintro(h1|rfl)
   ·exact h1
   ·exact h
 ·have h1:=List.take_append_drop (l.takeWhile fun x=>decide (x.l<s.l)).length l
  constructor
  ·intro h
   simp only[List.mem_append,List.mem_singleton]at h
   rcases h with(h|h)|h
   ·exact .inl (List.mem_of_mem_take h)
   ·exact .inr h
   ·exact .inl (List.mem_of_mem_drop h)
  ·rintro(h|rfl)
   ·rw[←h1]at h
    simp only[List.mem_append,List.mem_singleton]at h ⊢
    rcases h with h|h
    ·exact .inl (.inl h)
    ·exact .inr h
   ·simp
mutual
def zgv:zaf→List Str→List Str→List Str
 | .mk k nm ws s,bd,l=>zdr s (if isQ k then bd++[nm]else bd) (ws.foldl (fun l w=>if w∈bd then l else zeo l w) l)
def zdr:List zaf→List Str→List Str→List Str
 |[],_,l=>l
 |f::fs,bd,l=>zdr fs bd (zgv f bd l)
end
theorem zk9 (bd:List Str):∀(a b:List zaf) (l:List Str),zdr (a++b) bd l=zdr b bd (zdr a bd l)
 |[],b,l=>by rw[zdr];rfl
 |f::a,b,l=>by rw[List.cons_append,zdr,zdr,zk9 bd a b]
theorem zlY (bd:List Str)(x:Str):∀(ws l:List Str),x∈ws.foldl (fun l w=>if w∈bd then l else zeo l w) l↔x∈l∨x∈ws.filter (fun w=>decide (w∉bd))
 |[],l=>by simp
 |w::ws,l=>by
  rw[List.foldl_cons,zlY bd x ws,List.filter_cons]
  by_cases h:w∈bd
  ·rw[if_pos h,if_neg (by simpa using h)]
  ·rw[if_neg h,if_pos (by simpa using h),zoF,List.mem_cons,or_assoc]
mutual
theorem zoD (x:Str):∀(f:zaf) (bd l:List Str),x∈zgv f bd l↔x∈l∨x∈cst f bd
 | .mk k nm ws s,bd,l=>by rw[zgv,cst,zlX x s,zlY,List.mem_append,or_assoc]
theorem zlX (x:Str):∀(fs:List zaf) (bd l:List Str),x∈zdr fs bd l↔x∈l∨x∈zb8 fs bd
 |[],bd,l=>by simp[zdr,zb8]
 |f::fs,bd,l=>by rw[zdr,zb8,zlX x fs,zoD x f,List.mem_append,or_assoc]
end
theorem zoQ (l:List Str)(s:Str):(zeo l s).length≤l.length+1:=by
 unfold zeo
 split
 ·omega
 ·simp only[List.length_append,List.length_take,List.length_drop,List.length_singleton];omega
theorem zfU (bd:List Str):∀(ws l:List Str),(ws.foldl (fun l w=>if w∈bd then l else zeo l w) l).length≤l.length+ws.length
 |[],l=>by simp
 |w::ws,l=>by
  rw[List.foldl_cons]
  have h1:=zfU bd ws (if w∈bd then l else zeo l w)
  have h2:(if w∈bd then l else zeo l w).length≤l.length+1:=by
   split
   ·omega
   ·exact zoQ l w
  simp only[List.length_cons]
  omega
def zxD (fr to:List Str)(w:Str):Str:=match fr,to with
 |a::fr,b::to=>if a=w then b else zxD fr to w
 |_,_=>w
mutual
def swp (fr to:List Str):zaf→zaf
 | .mk k nm ws s=> .mk k (if isQ k then zxD fr to nm else nm) (ws.map (zxD fr to)) (zGz fr to s)
def zGz (fr to:List Str):List zaf→List zaf
 |[]=>[]
 |f::fs=>swp fr to f::zGz fr to fs
end
mutual
def zgs:zaf→Prop
 | .mk _ _ ws s=>(∀w∈ws,¬zmF w)∧zcS s
def zcS:List zaf→Prop
 |[]=>True
 |f::fs=>zgs f∧zcS fs
end
end Go.Abs

/- several texts of this proof in one; no conditions -/
import Derived.Test.YtkkffhphodngkabGreatDoorY15
import Derived.Test.YtkkffhphodngkabGreatDoorY8
set_option linter.unusedSimpArgs false
namespace Go.Abs
open Go
mutual
def zac.fit:zac→Bool
 | .mk _ _ w s=>decide (w.length≤1000)&&decide (s.length≤1000)&&zac.fits s
def zac.fits:List zac→Bool
 |[]=>true
 |f::fs=>f.fit&&zac.fits fs
end
theorem zac.fits_mem:∀{l:List zac} {f:zac},zac.fits l=true→f∈l→f.fit=true
 |g::l,f,h,hm=>by
  rw[zac.fits,Bool.and_eq_true]at h
  rcases List.mem_cons.1 hm with rfl|hm
  ·exact h.1
  ·exact zac.fits_mem h.2 hm
theorem zac.fit_eq {f:zac}(h:f.fit=true):f.words.length≤1000∧f.subs.length≤1000∧zac.fits f.subs=true:=by
 cases f;rw[zac.fit]at h
 simp only[Bool.and_eq_true,decide_eq_true_eq]at h
 exact⟨h.1.1,h.1.2,h.2⟩
theorem zvB {op:Bool}{f:zac}{d:Int}{n:Nat}(h:zex op f d n=0):f.words.length≤1000∧f.subs.length≤1000:=by
 unfold zex at h
 split at h
 ·simp at h
 split at h
 ·simp at h
 split at h
 ·simp at h
 rename_i h1 h2 h3
 have h4:=Decidable.not_not.1 h3
 have h5:zcj op f≤2:=by
  unfold zcj zg0
  repeat'(split<;>try decide)
 have h6:=h4.2
 unfold zdq at h6
 refine⟨?_,by omega⟩
 split at h6
 ·simp only[decide_eq_true_eq]at h6;omega
 split at h6
 ·simp only[decide_eq_true_eq]at h6;omega
 ·simp only[decide_eq_true_eq]at h6;omega
mutual
theorem zuj {op:Bool}:∀(f:zac) (d:Int) (n:Nat),(chk op f d n).1.code=0→f.fit=true
 | .mk k nm w s,d,n,h=>by
  rw[chk]at h
  split at h
  ·rename_i h1;exact absurd h h1
  rename_i h1
  have h2:=zvB (Decidable.not_not.1 h1)
  rw[zac.fit]
  simp only[Bool.and_eq_true,decide_eq_true_eq]
  exact⟨h2,zqt s _ _ h⟩
theorem zqt {op:Bool}:∀(fs:List zac) (d:Int) (n:Nat),(zfb op fs d n).1.code=0→zac.fits fs=true
 |[],_,_,_=>by rw[zac.fits]
 |f::fs,d,n,h=>by
  rw[zfb]at h
  split at h
  ·rename_i h1;exact absurd h h1
  rename_i h1
  rw[zac.fits,Bool.and_eq_true]
  exact⟨zuj f d n (Decidable.not_not.1 h1),zqt fs _ _ h⟩
end
theorem zbW {op:Bool}{f:zac}(h:(zaz op f).code=0):f.fit=true:=zuj f 1 0 h
def zFF (l:List UInt8):Nat:=l.foldl (fun a d=>a*10+(d.toNat-48)) 0
theorem zwM (l:List UInt8)(d:UInt8):zFF (l++[d])=zFF l*10+(d.toNat-48):=by
 unfold zFF;rw[List.foldl_append];rfl
theorem zuE {u:Nat}(h:u<10):(UInt8.ofNat (48+u)).toNat-48=u:=by
 rw[UInt8.toNat_ofNat',Nat.mod_eq_of_lt (by omega)];omega
theorem zkN:∀u,zFF (zbv u)=u:=by
 intro u
 unfold zbv
 induction u using Nat.strongRecOn with
 |_ u ih=>
  rw[Lib.decDigits]
  split
  ·rename_i h
   have:=zuE h
   simpa[zFF]using this
  ·rename_i h
   rw[zwM,ih (u / 10) (by omega),zuE (by omega)]
   omega
theorem zkp {u v:Nat}(h:zbv u=zbv v):u=v:=by rw[←zkN u,←zkN v,h]
theorem zhj (u:Nat):(zbv u).length≤u+1:=zgB u
def zfU (k:Nat):Str:=⟨118::zbv k⟩
theorem zmr {u v:Nat}(h:zfU u=zfU v):u=v:=zkp (List.cons.inj (Str.mk.inj h)).2
def zoI (w:Str):Prop:=w.l.head? =some 33
instance (w:Str):Decidable (zoI w):=inferInstanceAs (Decidable (_=_))
def zgd (used:List Str):Nat→Nat→Nat
 |0,k=>k
 |m+1,k=>if zfU k∈used then zgd used m (k+1)else k
def zcS (used:List Str)(k:Nat):Nat:=zgd used used.length k
theorem zq3 (used:List Str):∀m k,k≤zgd used m k∧zgd used m k≤k+m
 |0,k=>by simp[zgd]
 |m+1,k=>by
  rw[zgd]
  split
  ·have:=zq3 used m (k+1);omega
  ·omega
theorem zjl (used:List Str):∀m k i,k≤i→i<zgd used m k→zfU i∈used
 |0,k,i,h1,h2=>by simp only[zgd]at h2;omega
 |m+1,k,i,h1,h2=>by
  rw[zgd]at h2
  split at h2
  ·rename_i h
   rcases Nat.eq_or_lt_of_le h1 with rfl|h1
   ·exact h
   ·exact zjl used m (k+1) i h1 h2
  ·omega
theorem zkC (used:List Str):∀m k,zgd used m k<k+m→zfU (zgd used m k)∉used
 |0,k,h=>by simp[zgd]at h
 |m+1,k,h=>by
  rw[zgd]at h ⊢
  split
  ·rename_i h1
   rw[if_pos h1]at h
   exact zkC used m (k+1) (by omega)
  ·assumption
theorem pig:∀(used:List Str) (S:List Nat),S.Nodup→(∀i∈S,zfU i∈used)→S.length≤used.length
 |[],S,_,h=>by
  cases S with
  |nil=>simp
  |cons i S=>have:=h i (by simp);simp at this
 |u::us,S,hn,h=>by
  by_cases he:∃i∈S,zfU i=u
  ·obtain⟨i,hi,rfl⟩:=he
   have h1:=pig us (S.erase i) (hn.erase i) fun j hj=>by
    have h2:=(List.Nodup.mem_erase_iff hn).1 hj
    rcases List.mem_cons.1 (h j h2.2)with h3|h3
    ·exact absurd (zmr h3) h2.1
    ·exact h3
   rw[List.length_erase_of_mem hi]at h1
   simp only[List.length_cons]
   omega
  ·have h1:=pig us S hn fun j hj=>by
    rcases List.mem_cons.1 (h j hj)with h3|h3
    ·exact absurd ⟨j,hj,h3⟩ he
    ·exact h3
   simp only[List.length_cons]
   omega
theorem zbn (used:List Str)(k:Nat):k≤zcS used k∧zcS used k≤k+used.length∧zfU (zcS used k)∉used∧∀i,k≤i→i<zcS used k→zfU i∈used:=by
 unfold zcS
 have h1:=zq3 used used.length k
 have h2:=zjl used used.length k
 refine⟨h1.1,h1.2,?_,h2⟩
 rcases Nat.lt_or_ge (zgd used used.length k) (k+used.length)with h|h
 ·exact zkC used _ _ h
 ·have he:zgd used used.length k=k+used.length:=by omega
  intro hin
  rw[he]at hin h2
  have h3:=pig used (List.range' k (used.length+1)) List.nodup_range' fun i hi=>by
   have:=List.mem_range'_1.1 hi
   rcases Nat.lt_or_ge i (k+used.length)with h4|h4
   ·exact h2 i this.1 h4
   ·obtain rfl:i=k+used.length:=by omega
    exact hin
  rw[List.length_range']at h3
  omega
theorem zpP {a b:List Str}(h:∀j,zfU j∈a↔zfU j∈b)(k:Nat):zcS a k=zcS b k:=by
 obtain⟨a1,_,a3,a4⟩:=zbn a k
 obtain⟨b1,_,b3,b4⟩:=zbn b k
 rcases Nat.lt_trichotomy (zcS a k) (zcS b k)with h1|h1|h1
 ·exact absurd ((h _).2 (b4 _ a1 h1)) a3
 ·exact h1
 ·exact absurd ((h _).1 (a4 _ b1 h1)) b3
theorem zyA {used:List Str}{k:Nat}(h:zfU k∈used):zcS used k=zcS used (k+1):=by
 obtain⟨a1,_,a3,a4⟩:=zbn used k
 obtain⟨b1,_,b3,b4⟩:=zbn used (k+1)
 have h0:zcS used k≠k:=by intro e;rw[e]at a3;exact a3 h
 rcases Nat.lt_trichotomy (zcS used k) (zcS used (k+1))with h1|h1|h1
 ·exact absurd (b4 _ (by omega) h1) a3
 ·exact h1
 ·exact absurd (a4 _ (by omega) h1) b3
theorem zvz {used:List Str}{k:Nat}(h:zfU k∉used):zcS used k=k:=by
 obtain⟨a1,_,a3,a4⟩:=zbn used k
 rcases Nat.eq_or_lt_of_le a1 with h1|h1
 ·exact h1.symm
 ·exact absurd (a4 k (Nat.le_refl _) h1) h
structure za4 where
 fr:Str
 to:Str
 deriving DecidableEq,Inhabited
instance:Enc za4:=⟨fun b=> .agg [.s b.fr.l,.s b.to.l],fun x=>match x with| .agg [.s a,.s b]=>⟨⟨a⟩,⟨b⟩⟩|_=>⟨⟨[]⟩,⟨[]⟩⟩,fun b=>by cases b;rfl⟩
@[go_sem] theorem zxK {b:za4}:enc b= .agg [.s b.fr.l,.s b.to.l]:=rfl
@[go_sem] theorem zFU {a b:List UInt8}:dec (α:=za4) (.agg [.s a,.s b])=⟨⟨a⟩,⟨b⟩⟩:=rfl
instance:Kc za4 2:=⟨fun _=>rfl⟩
@[go_sem] theorem zCP {l:List za4}:zbE (l.map enc) 2=True:=eq_true (zdm l)
@[go_sem] theorem zAY {l:List za4}:(zaf (l.map enc)).all zc0=true:=by
 rw[List.all_eq_true]
 intro d hd
 simp only[zaf,List.mem_flatMap,List.mem_map]at hd
 obtain⟨_,⟨a,_,rfl⟩,x,hx,rfl⟩:=hd
 simp only[zxK,FD.cells,List.mem_cons,List.not_mem_nil,or_false]at hx
 rcases hx with rfl|rfl<;>rfl
def zjd (env:List za4)(w:Str):Nat→Str
 |0=>w
 |i+1=>if(env.getD i default).fr=w then(env.getD i default).to else zjd env w i
def lkp (env:List za4)(w:Str):Str:=zjd env w env.length
theorem zq1 (env:List za4)(b:za4)(w:Str):∀i,i≤env.length→zjd (env++[b]) w i=zjd env w i
 |0,_=>rfl
 |i+1,h=>by
  rw[zjd,zjd,zq1 env b w i (by omega)]
  have:(env++[b]).getD i default=env.getD i default:=by
   rw[List.getD_eq_getElem?_getD,List.getD_eq_getElem?_getD,List.getElem?_append_left (by omega)]
  rw[this]
theorem zcf (env:List za4)(b:za4)(w:Str):lkp (env++[b]) w=if b.fr=w then b.to else lkp env w:=by
 unfold lkp
 rw[List.length_append,List.length_singleton,zjd,zq1 env b w _ (Nat.le_refl _)]
 have:(env++[b]).getD env.length default=b:=by
  rw[List.getD_eq_getElem?_getD,List.getElem?_append_right (Nat.le_refl _),Nat.sub_self];rfl
 rw[this]
theorem zdn (w:Str):lkp [] w=w:=rfl
theorem zBw {env env':List za4}{s:Str→Str}(h1:env'.map (·.fr)=env.map (·.fr))(h2:env'.map (·.to)=env.map fun b=>s b.to){w:Str}(hw:s w=w):lkp env' w=s (lkp env w):=by
 have hl:env'.length=env.length:=by have:=congrArg List.length h1;simpa using this
 have key:∀i,i≤env.length→zjd env' w i=s (zjd env w i):=by
  intro i
  induction i with
  |zero=>intro _;exact hw.symm
  |succ i ih=>
   intro hi
   have e1:(env'.getD i default).fr=(env.getD i default).fr:=by
    have:=congrArg (fun l:List Str=>l[i]?) h1
    simp only[List.getElem?_map,List.getElem?_eq_getElem (show i<env.length by omega),List.getElem?_eq_getElem (show i<env'.length by omega),Option.map_some,Option.some.injEq]at this
    simp only[List.getD_eq_getElem?_getD,List.getElem?_eq_getElem (show i<env.length by omega),List.getElem?_eq_getElem (show i<env'.length by omega),Option.getD_some]
    exact this
   have e2:(env'.getD i default).to=s (env.getD i default).to:=by
    have:=congrArg (fun l:List Str=>l[i]?) h2
    simp only[List.getElem?_map,List.getElem?_eq_getElem (show i<env.length by omega),List.getElem?_eq_getElem (show i<env'.length by omega),Option.map_some,Option.some.injEq]at this
    simp only[List.getD_eq_getElem?_getD,List.getElem?_eq_getElem (show i<env.length by omega),List.getElem?_eq_getElem (show i<env'.length by omega),Option.getD_some]
    exact this
   rw[zjd,zjd,e1,e2,ih (by omega)]
   split<;>rfl
 unfold lkp
 rw[hl]
 exact key _ (Nat.le_refl _)
def isQ (k:Int):Prop:=k=8∨k=9
instance (k:Int):Decidable (isQ k):=inferInstanceAs (Decidable (_∨_))
mutual
def cst:zac→List Str→List Str
 | .mk k nm ws s,bd=>ws.filter (fun w=>decide (w∉bd))++zbN s (if isQ k then bd++[nm]else bd)
def zbN:List zac→List Str→List Str
 |[],_=>[]
 |f::fs,bd=>cst f bd++zbN fs bd
end
theorem zlc (bd:List Str):∀a b:List zac,zbN (a++b) bd=zbN a bd++zbN b bd
 |[],b=>by rw[zbN];rfl
 |f::a,b=>by rw[List.cons_append,zbN,zbN,zlc bd a b,List.append_assoc]
mutual
def ren (g:Nat→Str×Nat):zac→List za4→Nat→zac×Nat
 | .mk k nm ws s,env,n=>
  if isQ k then(.mk k (g n).1 (ws.map (lkp env)) (zbj g s (env++[⟨nm,(g n).1⟩]) (g n).2).1,(zbj g s (env++[⟨nm,(g n).1⟩]) (g n).2).2)
  else(.mk k nm (ws.map (lkp env)) (zbj g s env n).1,(zbj g s env n).2)
def zbj (g:Nat→Str×Nat):List zac→List za4→Nat→List zac×Nat
 |[],_,n=>([],n)
 |f::fs,env,n=>((ren g f env n).1::(zbj g fs env (ren g f env n).2).1,(zbj g fs env (ren g f env n).2).2)
end
theorem zrd (g:Nat→Str×Nat)(env:List za4):∀(a b:List zac) (n:Nat),zbj g (a++b) env n=((zbj g a env n).1++(zbj g b env (zbj g a env n).2).1,(zbj g b env (zbj g a env n).2).2)
 |[],b,n=>by simp[zbj]
 |f::a,b,n=>by rw[List.cons_append,zbj,zbj,zrd g env a b];rfl
theorem zd6 (g:Nat→Str×Nat)(env:List za4):∀(a:List zac) (n:Nat),(zbj g a env n).1.length=a.length
 |[],n=>by simp[zbj]
 |f::a,n=>by rw[zbj];simp[zd6 g env a]
def vg (used:List Str)(k:Nat):Str×Nat:=(zfU (zcS used k),zcS used k+1)
theorem zoc {g:Nat→Str×Nat}{u:Nat}(hg:∀k,k≤(g k).2∧(g k).2≤k+u):
  (∀(f:zac) (env:List za4) (n:Nat),n≤(ren g f env n).2∧(ren g f env n).2≤n+u*f.size)∧∀(fs:List zac) (env:List za4) (n:Nat),n≤(zbj g fs env n).2∧(zbj g fs env n).2≤n+u*zac.sizes fs:=by
 suffices h:∀m,(∀(f:zac) (env:List za4) (n:Nat),f.size≤m→n≤(ren g f env n).2∧(ren g f env n).2≤n+u*f.size)∧∀(fs:List zac) (env:List za4) (n:Nat),zac.sizes fs≤m→n≤(zbj g fs env n).2∧(zbj g fs env n).2≤n+u*zac.sizes fs from
  ⟨fun f env n=>(h _).1 f env n (Nat.le_refl _),fun fs env n=>(h _).2 fs env n (Nat.le_refl _)⟩
 intro m
 induction m with
 |zero=>
  refine⟨fun f env n h=>by have:=f.size_pos;omega,fun fs env n h=>?_⟩
  cases fs with
  |nil=>simp[zbj]
  |cons f fs=>rw[zac.sizes]at h;have:=f.size_pos;omega
 |succ m ih=>
  have h1:∀(f:zac) (env:List za4) (n:Nat),f.size≤m+1→n≤(ren g f env n).2∧(ren g f env n).2≤n+u*f.size:=by
   rintro⟨k,nm,ws,s⟩ env n h
   rw[zac.size]at h ⊢
   rw[Nat.mul_add,Nat.mul_one]
   rw[ren]
   split
   ·have h2:=ih.2 s (env++[⟨nm,(g n).1⟩]) (g n).2 (by omega)
    have h3:=hg n
    simp only
    omega
   ·have h2:=ih.2 s env n (by omega)
    simp only
    omega
  refine⟨h1,fun fs=>?_⟩
  induction fs with
  |nil=>intro env n h;simp[zbj]
  |cons f fs ih2=>
   intro env n h
   rw[zac.sizes]at h ⊢
   rw[zbj,Nat.mul_add]
   have h2:=h1 f env n (by omega)
   have h3:=ih2 env (ren g f env n).2 (by omega)
   simp only
   omega
theorem ztr (used:List Str)(k:Nat):k≤(vg used k).2∧(vg used k).2≤k+(used.length+1):=by
 have:=zbn used k
 unfold vg
 simp only
 omega
def zaP (f:zac):List Str:=(zdH (zhC ((cst f []).map (·.l)))).map Str.mk
def zfA (env:List za4)(used:List Str):List Str:=env.foldl (fun u b=>u.map fun w=>if w=b.fr then b.to else w) used
def zaC (f:zac)(env:List za4):zac:=(ren (vg (zfA env (zaP f))) f env 0).1
theorem zew:∀(l:List (List UInt8)) (x:List UInt8),x∈zdH l↔x∈l:=by
 intro l x
 unfold zdH Lib.compact Lib.compactUpTo
 have hget:∀j (h:j<l.length),(l.toArray)[j]! =l[j]:=fun j h=>by simp[h]
 constructor
 ·intro h
  obtain⟨j,hj,rfl⟩:=List.mem_map.1 h
  have hj':j<l.length:=List.mem_range.1 (List.mem_filter.1 hj).1
  rw[hget j hj']
  exact List.getElem_mem hj'
 ·intro h
  obtain⟨j,hj,rfl⟩:=List.getElem_of_mem h
  induction j with
  |zero=>exact List.mem_map.2 ⟨0,List.mem_filter.2 ⟨List.mem_range.2 hj,by simp[Lib.keeps]⟩,hget 0 hj⟩
  |succ j ih=>
   by_cases he:l[j+1]=l[j]
   ·rw[he];exact ih (by omega) (List.getElem_mem _)
   ·exact List.mem_map.2 ⟨j+1,List.mem_filter.2 ⟨List.mem_range.2 hj,by
     simp only[Lib.keeps,decide_eq_true_eq,Nat.add_sub_cancel]
     rw[hget _ hj,hget j (by omega)]
     exact .inr he⟩,hget _ hj⟩
theorem za9 (f:zac)(x:Str):x∈zaP f↔x∈cst f []:=by
 unfold zaP
 simp only[List.mem_map,zew,(zcK _).mem_iff]
 constructor
 ·rintro⟨y,⟨z,hz,rfl⟩,rfl⟩;exact hz
 ·intro h;exact⟨x.l,⟨x,h,rfl⟩,rfl⟩
theorem zeF (f:zac):(zaP f).length≤(cst f []).length:=by
 unfold zaP
 rw[List.length_map]
 refine Nat.le_trans (zdh _) ?_
 rw[zeA,List.length_map];exact Nat.le_refl _
theorem zof (env:List za4):∀(used:List Str),(zfA env used).length=used.length:=by
 unfold zfA
 induction env with
 |nil=>intro u;rfl
 |cons b env ih=>intro u;rw[List.foldl_cons,ih,List.length_map]
def zvM (l:List Str)(s:Str):List Str:=if s∈l then l else l.take (l.takeWhile fun x=>decide (x.l<s.l)).length++[s]++l.drop (l.takeWhile fun x=>decide (x.l<s.l)).length
theorem zyw (l:List Str)(s x:Str):x∈zvM l s↔x∈l∨x=s:=by
 unfold zvM
 split
 ·rename_i h
  constructor
  ·exact .inl
  ·rintro(h1|rfl)
   ·exact h1
   ·exact h
 ·have h1:=List.take_append_drop (l.takeWhile fun x=>decide (x.l<s.l)).length l
  constructor
  ·intro h
   simp only[List.mem_append,List.mem_singleton]at h
   rcases h with(h|h)|h
   ·exact .inl (List.mem_of_mem_take h)
   ·exact .inr h
   ·exact .inl (List.mem_of_mem_drop h)
  ·rintro(h|rfl)
   ·rw[←h1]at h
    simp only[List.mem_append,List.mem_singleton]at h ⊢
    rcases h with h|h
    ·exact .inl (.inl h)
    ·exact .inr h
   ·simp
mutual
def zwT:zac→List Str→List Str→List Str
 | .mk k nm ws s,bd,l=>ziS s (if isQ k then bd++[nm]else bd) (ws.foldl (fun l w=>if w∈bd then l else zvM l w) l)
def ziS:List zac→List Str→List Str→List Str
 |[],_,l=>l
 |f::fs,bd,l=>ziS fs bd (zwT f bd l)
end
theorem znS (bd:List Str)(x:Str):∀(ws l:List Str),x∈ws.foldl (fun l w=>if w∈bd then l else zvM l w) l↔x∈l∨x∈ws.filter (fun w=>decide (w∉bd))
 |[],l=>by simp
 |w::ws,l=>by
  rw[List.foldl_cons,znS bd x ws,List.filter_cons]
  by_cases h:w∈bd
  ·rw[if_pos h,if_neg (by simpa using h)]
  ·rw[if_neg h,if_pos (by simpa using h),zyw,List.mem_cons,or_assoc]
mutual
theorem zyv (x:Str):∀(f:zac) (bd l:List Str),x∈zwT f bd l↔x∈l∨x∈cst f bd
 | .mk k nm ws s,bd,l=>by rw[zwT,cst,znR x s,znS,List.mem_append,or_assoc]
theorem znR (x:Str):∀(fs:List zac) (bd l:List Str),x∈ziS fs bd l↔x∈l∨x∈zbN fs bd
 |[],bd,l=>by simp[ziS,zbN]
 |f::fs,bd,l=>by rw[ziS,zbN,znR x fs,zyv x f,List.mem_append,or_assoc]
end
theorem zyQ (l:List Str)(s:Str):(zvM l s).length≤l.length+1:=by
 unfold zvM
 split
 ·omega
 ·simp only[List.length_append,List.length_take,List.length_drop,List.length_singleton];omega
theorem zi3 (bd:List Str):∀(ws l:List Str),(ws.foldl (fun l w=>if w∈bd then l else zvM l w) l).length≤l.length+ws.length
 |[],l=>by simp
 |w::ws,l=>by
  rw[List.foldl_cons]
  have h1:=zi3 bd ws (if w∈bd then l else zvM l w)
  have h2:(if w∈bd then l else zvM l w).length≤l.length+1:=by
   split
   ·omega
   ·exact zyQ l w
  simp only[List.length_cons]
  omega
def zBX (fr to:List Str)(w:Str):Str:=match fr,to with
 |a::fr,b::to=>if a=w then b else zBX fr to w
 |_,_=>w
mutual
def swp (fr to:List Str):zac→zac
 | .mk k nm ws s=> .mk k (if isQ k then zBX fr to nm else nm) (ws.map (zBX fr to)) (zLD fr to s)
def zLD (fr to:List Str):List zac→List zac
 |[]=>[]
 |f::fs=>swp fr to f::zLD fr to fs
end
mutual
def clean:zac→Prop
 | .mk _ _ ws s=>(∀w∈ws,¬zoI w)∧zdr s
def zdr:List zac→Prop
 |[]=>True
 |f::fs=>clean f∧zdr fs
end
theorem zvZ {env:List za4}(h:env.length≤1)(used:List Str):zfA env used=used.map (lkp env):=by
 match env,h with
 |[],_=>
  rw[show lkp []=id from funext fun w=>zdn w,List.map_id]
  rfl
 |[b],_=>
  simp only[zfA,List.foldl_cons,List.foldl_nil]
  refine List.map_congr_left fun w _=>?_
  have:=zcf [] b w
  rw[List.nil_append]at this
  rw[this,zdn]
  by_cases e:w=b.fr
  ·rw[if_pos e,if_pos e.symm]
  ·rw[if_neg e,if_neg fun e2=>e e2.symm]
end Go.Abs
namespace Go.Abs
open Go
mutual
def zac.depth:zac→Nat
 | .mk _ _ _ s=>zac.depths s+1
def zac.depths:List zac→Nat
 |[]=>0
 |f::fs=>max f.depth (zac.depths fs)
end
def zlo (f:zac):Bool:=decide (f.size≤200∧f.depth≤40)
mutual
theorem zac.depth_size:∀f:zac,f.depth≤f.size
 | .mk k n w s=>by rw[zac.depth,zac.size];have:=zac.depths_size s;omega
theorem zac.depths_size:∀fs:List zac,zac.depths fs≤zac.sizes fs
 |[]=>by rw[zac.depths,zac.sizes];exact Nat.le_refl _
 |f::fs=>by rw[zac.depths,zac.sizes];have:=f.depth_size;have:=zac.depths_size fs;omega
end
mutual
theorem zqs {op:Bool}:∀(f:zac) (d:Int) (n:Nat),(chk op f d n).1.code=0→(chk op f d n).2=n+f.size
 | .mk k nm w s,d,n,h=>by
  rw[chk]at h ⊢
  split at h
  ·rename_i h1;exact absurd h h1
  ·rename_i h1
   rw[if_neg h1,zac.size,zmS s _ _ h];omega
theorem zmS {op:Bool}:∀(fs:List zac) (d:Int) (n:Nat),(zfb op fs d n).1.code=0→(zfb op fs d n).2=n+zac.sizes fs
 |[],d,n,_=>by rw[zfb,zac.sizes];rfl
 |f::fs,d,n,h=>by
  rw[zfb]at h ⊢
  split at h
  ·rename_i h1;exact absurd h h1
  ·rename_i h1
   have h2:=zqs f d n (Decidable.not_not.1 h1)
   rw[if_neg h1,zmS fs d _ h,h2,zac.sizes];omega
end
theorem zaY {op:Bool}{f:zac}(h:(zaz op f).code=0):f.size≤200:=by
 have h1:=zqs f 1 0 h
 have h2:=(zxB f 1 0 h).2.1
 omega
theorem znW {s:Str}(h:zas s=true):¬zoI s:=by
 unfold zas at h
 have h:=(of_decide_eq_true h).2.2.1
 intro hb
 unfold zoI at hb
 have h0:s.l.getD 0 0=33:=by rw[List.getD_eq_getElem?_getD,←List.head?_eq_getElem?,hb];rfl
 rw[h0]at h
 exact absurd h (by decide)
theorem zdS {op:Bool}{f:zac}{d:Int}{n:Nat}(h:zex op f d n=0):f.words.all zas=true∧(named f=true→zas f.name=true)∧(named f=false→f.name=⟨[]⟩)∧zdq f=true∧(f.subs.length:Int)=zcj op f:=by
 unfold zex at h
 split at h
 ·simp at h
 split at h
 ·simp at h
 split at h
 ·simp at h
 rename_i h3
 split at h
 ·simp at h
 rename_i h4
 split at h
 ·simp at h
 rename_i h5
 split at h
 ·simp at h
 rename_i h6
 have h7:=Decidable.not_not.1 h3
 refine⟨by simpa using h6,fun h8=>?_,fun h8=>?_,h7.2,h7.1⟩
 ·cases hn:zas f.name with
  |true=>rfl
  |false=>exact absurd ⟨h8,hn⟩ h4
 ·exact Decidable.not_not.1 fun hn=>h5 ⟨h8,hn⟩
mutual
theorem zui {op:Bool}:∀(f:zac) (d:Int) (n:Nat),(chk op f d n).1.code=0→clean f
 | .mk k nm w s,d,n,h=>by
  rw[chk]at h
  split at h
  ·rename_i h1;exact absurd h h1
  ·rename_i h1
   have h2:=(zdS (Decidable.not_not.1 h1)).1
   rw[clean]
   exact⟨fun x hx=>znW (List.all_eq_true.1 h2 x hx),zkl s _ _ h⟩
theorem zkl {op:Bool}:∀(fs:List zac) (d:Int) (n:Nat),(zfb op fs d n).1.code=0→zdr fs
 |[],d,n,_=>by rw[zdr];trivial
 |f::fs,d,n,h=>by
  rw[zfb]at h
  split at h
  ·rename_i h1;exact absurd h h1
  ·rename_i h1
   rw[zdr]
   exact⟨zui f d n (Decidable.not_not.1 h1),zkl fs d _ h⟩
end
theorem fits_mem:∀l:List zac,zac.fits l=true↔∀f∈l,f.fit=true
 |[]=>by rw[zac.fits];simp
 |f::l=>by rw[zac.fits,Bool.and_eq_true,fits_mem l];simp
theorem zoo {c:Nat}:∀l:List zac,(∀f∈l,f.size≤c)→zac.sizes l≤l.length*c
 |[],_=>by rw[zac.sizes];omega
 |f::l,h=>by
  rw[zac.sizes,List.length_cons,Nat.add_mul,Nat.one_mul]
  have h1:=h f (by simp)
  have h2:=zoo l fun g hg=>h g (by simp[hg])
  omega
theorem zvm (env:List za4)(w:Str):∀i,i≤env.length→zjd env w i=w∨∃b∈env,zjd env w i=b.to
 |0,_=> .inl rfl
 |i+1,h=>by
  rw[zjd]
  split
  ·refine .inr ⟨env.getD i default,?_,rfl⟩
   rw[List.getD_eq_getElem?_getD,List.getElem?_eq_getElem (by omega)]
   exact List.getElem_mem _
  ·exact zvm env w i (by omega)
theorem zvo (env:List za4)(w:Str):lkp env w=w∨∃b∈env,lkp env w=b.to:=zvm env w _ (Nat.le_refl _)
mutual
theorem zrc (g:Nat→Str×Nat):∀(f:zac) (env:List za4) (n:Nat),(ren g f env n).1.size=f.size
 | .mk k nm ws s,env,n=>by
  rw[ren]
  split
  ·rw[zac.size,zac.size,zjz g s]
  ·rw[zac.size,zac.size,zjz g s]
theorem zjz (g:Nat→Str×Nat):∀(fs:List zac) (env:List za4) (n:Nat),zac.sizes (zbj g fs env n).1=zac.sizes fs
 |[],env,n=>by rw[zbj]
 |f::fs,env,n=>by rw[zbj,zac.sizes,zac.sizes,zrc g f,zjz g fs]
end
mutual
theorem zvU (g:Nat→Str×Nat):∀(f:zac) (env:List za4) (n:Nat),(ren g f env n).1.fit=f.fit
 | .mk k nm ws s,env,n=>by
  rw[ren]
  split
  ·rw[zac.fit,zac.fit,zl0 g s,List.length_map,zd6]
  ·rw[zac.fit,zac.fit,zl0 g s,List.length_map,zd6]
theorem zl0 (g:Nat→Str×Nat):∀(fs:List zac) (env:List za4) (n:Nat),zac.fits (zbj g fs env n).1=zac.fits fs
 |[],env,n=>by rw[zbj]
 |f::fs,env,n=>by rw[zbj,zac.fits,zac.fits,zvU g f,zl0 g fs]
end
theorem znP {env:List za4}{ws:List Str}(h:∀w∈ws,¬zoI w)(he:∀b∈env,¬zoI b.to):∀w∈ws.map (lkp env),¬zoI w:=by
 intro w hw
 obtain⟨x,hx,rfl⟩:=List.mem_map.1 hw
 rcases zvo env x with e|⟨b,hb,e⟩
 ·rw[e];exact h x hx
 ·rw[e];exact he b hb
mutual
theorem zvT {g:Nat→Str×Nat}(hg:∀k,¬zoI (g k).1):∀(f:zac) (env:List za4) (n:Nat),clean f→(∀b∈env,¬zoI b.to)→clean (ren g f env n).1
 | .mk k nm ws s,env,n,h,he=>by
  rw[clean]at h
  rw[ren]
  split
  ·rw[clean]
   refine⟨znP h.1 he,zhw hg s _ _ h.2 fun b hb=>?_⟩
   rcases List.mem_append.1 hb with hb|hb
   ·exact he b hb
   ·rw[List.mem_singleton.1 hb];exact hg n
  ·rw[clean]
   exact⟨znP h.1 he,zhw hg s _ _ h.2 he⟩
theorem zhw {g:Nat→Str×Nat}(hg:∀k,¬zoI (g k).1):∀(fs:List zac) (env:List za4) (n:Nat),zdr fs→(∀b∈env,¬zoI b.to)→zdr (zbj g fs env n).1
 |[],env,n,_,_=>by rw[zbj,zdr];trivial
 |f::fs,env,n,h,he=>by
  rw[zdr]at h
  rw[zbj,zdr]
  exact⟨zvT hg f _ _ h.1 he,zhw hg fs _ _ h.2 he⟩
end
theorem zcA (f:zac)(env:List za4):(zaC f env).size=f.size:=zrc _ f env 0
theorem zhe (f:zac)(env:List za4):(zaC f env).fit=f.fit:=zvU _ f env 0
def zeP (k:Int):List zac→zac
 |[]=> .mk 0 ⟨[]⟩ [] []
 |f::l=>l.foldl (fun a x=> .mk k ⟨[]⟩ [] [a,x]) f
theorem zhl (k:Int):∀(l:List zac) (f:zac),((l.foldl (fun a x=>zac.mk k ⟨[]⟩ [] [a,x]) f).size=f.size+zac.sizes l+l.length)∧((l.foldl (fun a x=>zac.mk k ⟨[]⟩ [] [a,x]) f).fit=(f.fit&&zac.fits l))∧(clean (l.foldl (fun a x=>zac.mk k ⟨[]⟩ [] [a,x]) f)↔clean f∧zdr l)
 |[],f=>by rw[zac.sizes,zac.fits,zdr];simp
 |x::l,f=>by
  rw[List.foldl_cons]
  obtain⟨h1,h2,h3⟩:=zhl k l (.mk k ⟨[]⟩ [] [f,x])
  refine⟨?_,?_,?_⟩
  ·rw[h1];simp only[zac.size,zac.sizes,List.length_cons];omega
  ·rw[h2];simp only[zac.fit,zac.fits,List.length_nil,List.length_cons,Nat.zero_le,decide_true,Bool.true_and,Bool.and_true,Bool.and_assoc];rfl
  ·rw[h3];simp only[clean,zdr,List.not_mem_nil,false_implies,implies_true,true_and,and_true,and_assoc]
theorem zsI (k:Int)(l:List zac):(zeP k l).size≤zac.sizes l+l.length+1:=by
 cases l with
 |nil=>simp only[zeP,zac.size,zac.sizes,List.length_nil];omega
 |cons f l=>
  have:=(zhl k l f).1
  show(l.foldl (fun a x=>zac.mk k ⟨[]⟩ [] [a,x]) f).size≤_
  rw[this,zac.sizes,List.length_cons];omega
theorem zvd (k:Int){l:List zac}(h:zac.fits l=true):(zeP k l).fit=true:=by
 cases l with
 |nil=>simp only[zeP,zac.fit,zac.fits,List.length_nil,Nat.zero_le,decide_true,Bool.true_and]
 |cons f l=>
  show(l.foldl (fun a x=>zac.mk k ⟨[]⟩ [] [a,x]) f).fit=_
  rw[(zhl k l f).2.1];rwa [zac.fits]at h
def za7:zac:= .mk 0 ⟨[]⟩ [] []
end Go.Abs
namespace Go.Abs
open Go
mutual
def zbU (p:Str→Prop):zac→Prop
 | .mk k nm ws s=>(∀w∈ws,p w)∧(isQ k→p nm)∧zaR p s
def zaR (p:Str→Prop):List zac→Prop
 |[]=>True
 |f::fs=>zbU p f∧zaR p fs
end
mutual
def zgP (σ:Str→Str):zac→zac
 | .mk k nm ws s=> .mk k (if isQ k then σ nm else nm) (ws.map σ) (zct σ s)
def zct (σ:Str→Str):List zac→List zac
 |[]=>[]
 |f::fs=>zgP σ f::zct σ fs
end
theorem znO (σ:Str→Str):∀l:List zac,zct σ l=l.map (zgP σ)
 |[]=>by rw[zct];rfl
 |f::l=>by rw[zct,znO σ l];rfl
theorem zgp (p:Str→Prop):∀l:List zac,zaR p l↔∀f∈l,zbU p f
 |[]=>by rw[zaR];simp
 |f::l=>by rw[zaR,zgp p l];simp
mutual
theorem zmG {p q:Str→Prop}(h:∀w,p w→q w):∀f:zac,zbU p f→zbU q f
 | .mk k nm ws s,hf=>by
  rw[zbU]at hf ⊢
  exact⟨fun w hw=>h w (hf.1 w hw),fun hk=>h nm (hf.2.1 hk),zkg h s hf.2.2⟩
theorem zkg {p q:Str→Prop}(h:∀w,p w→q w):∀fs:List zac,zaR p fs→zaR q fs
 |[],_=>by rw[zaR];trivial
 |f::fs,hf=>by rw[zaR]at hf ⊢;exact⟨zmG h f hf.1,zkg h fs hf.2⟩
end
mutual
theorem zkf {p:Str→Prop}(h:∀w,p w→¬zoI w):∀f:zac,zbU p f→clean f
 | .mk k nm ws s,hf=>by rw[zbU]at hf;rw[clean];exact⟨fun w hw=>h w (hf.1 w hw),ziC h s hf.2.2⟩
theorem ziC {p:Str→Prop}(h:∀w,p w→¬zoI w):∀fs:List zac,zaR p fs→zdr fs
 |[],_=>by rw[zdr];trivial
 |f::fs,hf=>by rw[zaR]at hf;rw[zdr];exact⟨zkf h f hf.1,ziC h fs hf.2⟩
end
mutual
theorem zvp (σ:Str→Str):∀f:zac,(zgP σ f).size=f.size
 | .mk k nm ws s=>by rw[zgP,zac.size,zac.size,zje σ s]
theorem zje (σ:Str→Str):∀fs:List zac,zac.sizes (zct σ fs)=zac.sizes fs
 |[]=>by rw[zct]
 |f::fs=>by rw[zct,zac.sizes,zac.sizes,zvp σ f,zje σ fs]
end
mutual
theorem zsK (σ:Str→Str):∀f:zac,(zgP σ f).depth=f.depth
 | .mk k nm ws s=>by rw[zgP,zac.depth,zac.depth,zhY σ s]
theorem zhY (σ:Str→Str):∀fs:List zac,zac.depths (zct σ fs)=zac.depths fs
 |[]=>by rw[zct]
 |f::fs=>by rw[zct,zac.depths,zac.depths,zsK σ f,zhY σ fs]
end
theorem zvq (σ:Str→Str)(l:List zac):(zct σ l).length=l.length:=by rw[znO,List.length_map]
mutual
theorem zyu (σ:Str→Str):∀f:zac,(zgP σ f).fit=f.fit
 | .mk k nm ws s=>by rw[zgP,zac.fit,zac.fit,zky σ s,List.length_map,zvq]
theorem zky (σ:Str→Str):∀fs:List zac,zac.fits (zct σ fs)=zac.fits fs
 |[]=>by rw[zct]
 |f::fs=>by rw[zct,zac.fits,zac.fits,zyu σ f,zky σ fs]
end
theorem znw (σ:Str→Str)(k:Int)(hk:¬isQ k):∀(l:List zac) (f:zac),zgP σ (l.foldl (fun a x=>zac.mk k ⟨[]⟩ [] [a,x]) f)=(l.map (zgP σ)).foldl (fun a x=>zac.mk k ⟨[]⟩ [] [a,x]) (zgP σ f)
 |[],f=>rfl
 |x::l,f=>by
  rw[List.foldl_cons,znw σ k hk l,List.map_cons,List.foldl_cons]
  simp only[zgP,zct,if_neg hk,List.map_nil]
theorem zve (σ:Str→Str)(k:Int)(hk:¬isQ k)(l:List zac):zgP σ (zeP k l)=zeP k (l.map (zgP σ)):=by
 cases l with
 |nil=>simp[zeP,zgP,zct,isQ]
 |cons f l=>exact znw σ k hk l f
theorem zku (p:Str→Prop)(k:Int)(hk:¬isQ k):∀(l:List zac) (f:zac),zbU p f→zaR p l→zbU p (l.foldl (fun a x=>zac.mk k ⟨[]⟩ [] [a,x]) f)
 |[],f,h,_=>h
 |x::l,f,h,hl=>by
  rw[List.foldl_cons]
  rw[zaR]at hl
  refine zku p k hk l _ ?_ hl.2
  simp only[zbU,zaR]
  exact⟨by simp,fun h=>absurd h hk,h,hl.1,trivial⟩
theorem zkv (p:Str→Prop)(k:Int)(hk:¬isQ k){l:List zac}(h:zaR p l):zbU p (zeP k l):=by
 cases l with
 |nil=>simp[zeP,zbU,zaR,isQ]
 |cons f l=>rw[zaR]at h;exact zku p k hk l f h.1 h.2
mutual
theorem zmZ:∀(f:zac) (bd:List Str) (x:Str),x∈cst f bd→x∉bd
 | .mk k nm ws s,bd,x,h=>by
  rw[cst,List.mem_append]at h
  rcases h with h|h
  ·simpa using(List.mem_filter.1 h).2
  ·have:=zfK s _ x h
   split at this
   ·exact fun hb=>this (List.mem_append_left _ hb)
   ·exact this
theorem zfK:∀(fs:List zac) (bd:List Str) (x:Str),x∈zbN fs bd→x∉bd
 |[],bd,x,h=>by rw[zbN]at h;simp at h
 |f::fs,bd,x,h=>by
  rw[zbN,List.mem_append]at h
  rcases h with h|h
  ·exact zmZ f bd x h
  ·exact zfK fs bd x h
end
mutual
theorem zih {p:Str→Prop}:∀(f:zac) (bd:List Str) (x:Str),zbU p f→x∈cst f bd→p x
 | .mk k nm ws s,bd,x,hf,h=>by
  rw[zbU]at hf
  rw[cst,List.mem_append]at h
  rcases h with h|h
  ·exact hf.1 x (List.mem_filter.1 h).1
  ·exact zm1 s _ x hf.2.2 h
theorem zm1 {p:Str→Prop}:∀(fs:List zac) (bd:List Str) (x:Str),zaR p fs→x∈zbN fs bd→p x
 |[],bd,x,_,h=>by rw[zbN]at h;simp at h
 |f::fs,bd,x,hf,h=>by
  rw[zaR]at hf
  rw[zbN,List.mem_append]at h
  rcases h with h|h
  ·exact zih f bd x hf.1 h
  ·exact zm1 fs bd x hf.2 h
end
mutual
theorem zAJ {σ:Str→Str}{p:Str→Prop}(hi:∀a b,p a→p b→σ a=σ b→a=b):∀(f:zac) (bd:List Str),zbU p f→(∀b∈bd,p b)→cst (zgP σ f) (bd.map σ)=(cst f bd).map σ
 | .mk k nm ws s,bd,hf,hb=>by
  rw[zbU]at hf
  rw[zgP,cst,cst,List.map_append]
  congr 1
  ·rw[List.filter_map]
   congr 1
   refine List.filter_congr fun w hw=>?_
   simp only[Function.comp]
   rw[decide_eq_decide]
   constructor
   ·intro h hw2;exact h (List.mem_map_of_mem hw2)
   ·intro h hw2
    obtain⟨b,hb2,e⟩:=List.mem_map.1 hw2
    exact h (hi b w (hb b hb2) (hf.1 w hw) e▸hb2)
  ·by_cases hq:isQ k
   ·rw[if_pos hq,if_pos hq,if_pos hq]
    have:=zld hi s (bd++[nm]) hf.2.2 fun b hb2=>by
     rcases List.mem_append.1 hb2 with h|h
     ·exact hb b h
     ·rw[List.mem_singleton.1 h];exact hf.2.1 hq
    rw[List.map_append]at this
    exact this
   ·rw[if_neg hq,if_neg hq]
    exact zld hi s bd hf.2.2 hb
theorem zld {σ:Str→Str}{p:Str→Prop}(hi:∀a b,p a→p b→σ a=σ b→a=b):∀(fs:List zac) (bd:List Str),zaR p fs→(∀b∈bd,p b)→zbN (zct σ fs) (bd.map σ)=(zbN fs bd).map σ
 |[],bd,_,_=>by rw[zct,zbN,zbN];rfl
 |f::fs,bd,hf,hb=>by
  rw[zaR]at hf
  rw[zct,zbN,zbN,List.map_append,zAJ hi f bd hf.1 hb,zld hi fs bd hf.2 hb]
end
theorem zvn {σ:Str→Str}{p:Str→Prop}(hi:∀a b,p a→p b→σ a=σ b→a=b){env:List za4}{w:Str}(hw:p w)(he:∀b∈env,p b.fr):
  lkp (env.map fun b=>⟨σ b.fr,b.to⟩) (σ w)=lkp env w∨(lkp (env.map fun b=>⟨σ b.fr,b.to⟩) (σ w)=σ w∧lkp env w=w∧w∉env.map (·.fr)):=by
 have key:∀i,i≤env.length→zjd (env.map fun b=>⟨σ b.fr,b.to⟩) (σ w) i=zjd env w i∨(zjd (env.map fun b=>⟨σ b.fr,b.to⟩) (σ w) i=σ w∧zjd env w i=w∧∀j (h:j<env.length),j<i→env[j].fr≠w):=by
  intro i
  induction i with
  |zero=>intro _;exact .inr ⟨rfl,rfl,fun j h1 h2=>by omega⟩
  |succ i ih=>
   intro hi2
   have hlt:i<env.length:=by omega
   have e1:env.getD i default=env[i]:=by rw[List.getD_eq_getElem?_getD,List.getElem?_eq_getElem hlt];rfl
   have e2:(env.map fun b=>(⟨σ b.fr,b.to⟩:za4)).getD i default=⟨σ env[i].fr,env[i].to⟩:=by
    rw[List.getD_eq_getElem?_getD,List.getElem?_map,List.getElem?_eq_getElem hlt];rfl
   rw[zjd,zjd,e1,e2]
   by_cases hc:env[i].fr=w
   ·rw[if_pos hc,if_pos (by simp only;rw[hc])]
    exact .inl rfl
   ·rw[if_neg hc,if_neg (fun e=>hc (hi _ _ (he _ (List.getElem_mem hlt)) hw e))]
    rcases ih (by omega)with h|⟨h1,h2,h3⟩
    ·exact .inl h
    ·refine .inr ⟨h1,h2,fun j hj hji=>?_⟩
     rcases Nat.lt_or_ge j i with h|h
     ·exact h3 j hj h
     ·obtain rfl:j=i:=by omega
      exact hc
 rcases key env.length (Nat.le_refl _)with h|⟨h1,h2,h3⟩
 ·refine .inl ?_
  unfold lkp;rw[List.length_map];exact h
 ·refine .inr ⟨?_,h2,fun hm=>?_⟩
  ·unfold lkp;rw[List.length_map];exact h1
  ·obtain⟨b,hb,e⟩:=List.mem_map.1 hm
   obtain⟨j,hj,rfl⟩:=List.getElem_of_mem hb
   exact h3 j hj hj e
mutual
theorem zHv {g:Nat→Str×Nat}{σ:Str→Str}{p:Str→Prop}(hi:∀a b,p a→p b→σ a=σ b→a=b):∀(f:zac) (env:List za4) (n:Nat),zbU p f→(∀b∈env,p b.fr)→(∀x∈cst f (env.map (·.fr)),σ x=x)→
  ren g (zgP σ f) (env.map fun b=>⟨σ b.fr,b.to⟩) n=ren g f env n
 | .mk k nm ws s,env,n,hf,he,hc=>by
  rw[zbU]at hf
  rw[cst]at hc
  have hw:(ws.map σ).map (lkp (env.map fun b=>⟨σ b.fr,b.to⟩))=ws.map (lkp env):=by
   rw[List.map_map]
   refine List.map_congr_left fun w hw=>?_
   rcases zvn hi (hf.1 w hw) he with e|⟨e1,e2,e3⟩
   ·exact e
   ·show lkp _ (σ w)=_
    rw[e1,e2]
    exact hc w (List.mem_append_left _ (List.mem_filter.2 ⟨hw,by simpa using e3⟩))
  rw[zgP,ren,ren,hw]
  by_cases hq:isQ k
  ·rw[if_pos hq]at hc
   simp only[if_pos hq]
   have h3:=ztY (g:=g) hi s (env++[⟨nm,(g n).1⟩]) (g n).2 hf.2.2 (fun b hb=>by
    rcases List.mem_append.1 hb with h|h
    ·exact he b h
    ·rw[List.mem_singleton.1 h];exact hf.2.1 hq) (fun x hx=>hc x (List.mem_append_right _ (by rw[List.map_append]at hx;exact hx)))
   rw[List.map_append]at h3
   simp only[List.map_cons,List.map_nil]at h3
   rw[h3]
  ·rw[if_neg hq]at hc
   simp only[if_neg hq]
   rw[ztY hi s env n hf.2.2 he fun x hx=>hc x (List.mem_append_right _ hx)]
theorem ztY {g:Nat→Str×Nat}{σ:Str→Str}{p:Str→Prop}(hi:∀a b,p a→p b→σ a=σ b→a=b):∀(fs:List zac) (env:List za4) (n:Nat),zaR p fs→(∀b∈env,p b.fr)→(∀x∈zbN fs (env.map (·.fr)),σ x=x)→
  zbj g (zct σ fs) (env.map fun b=>⟨σ b.fr,b.to⟩) n=zbj g fs env n
 |[],env,n,_,_,_=>by rw[zct,zbj,zbj]
 |f::fs,env,n,hf,he,hc=>by
  rw[zaR]at hf
  rw[zbN]at hc
  rw[zct,zbj,zbj,zHv hi f env n hf.1 he fun x hx=>hc x (List.mem_append_left _ hx)]
  rw[ztY hi fs env _ hf.2 he fun x hx=>hc x (List.mem_append_right _ hx)]
end
mutual
theorem zBK {g:Nat→Str×Nat}{σ:Str→Str}(hg:∀k,σ (g k).1=(g k).1):∀(f:zac) (env env':List za4) (n:Nat),zbU (fun w=>σ w=w) f→env'.map (·.fr)=env.map (·.fr)→env'.map (·.to)=env.map (fun b=>σ b.to)→
  ren g f env' n=(zgP σ (ren g f env n).1,(ren g f env n).2)
 | .mk k nm ws s,env,env',n,hf,e1,e2=>by
  rw[zbU]at hf
  have hw:ws.map (lkp env')=(ws.map (lkp env)).map σ:=by
   rw[List.map_map]
   exact List.map_congr_left fun w hw=>zBw e1 e2 (hf.1 w hw)
  rw[ren,ren,hw]
  by_cases hq:isQ k
  ·simp only[if_pos hq]
   have h3:=zl1 (g:=g) hg s (env++[⟨nm,(g n).1⟩]) (env'++[⟨nm,(g n).1⟩]) (g n).2 hf.2.2 (by rw[List.map_append,List.map_append,e1]) (by rw[List.map_append,List.map_append,e2];simp only[List.map_cons,List.map_nil,hg])
   rw[h3]
   simp only[zgP,if_pos hq,hg]
  ·simp only[if_neg hq]
   rw[zl1 hg s env env' n hf.2.2 e1 e2]
   simp only[zgP,if_neg hq]
theorem zl1 {g:Nat→Str×Nat}{σ:Str→Str}(hg:∀k,σ (g k).1=(g k).1):∀(fs:List zac) (env env':List za4) (n:Nat),zaR (fun w=>σ w=w) fs→env'.map (·.fr)=env.map (·.fr)→env'.map (·.to)=env.map (fun b=>σ b.to)→
  zbj g fs env' n=(zct σ (zbj g fs env n).1,(zbj g fs env n).2)
 |[],env,env',n,_,_,_=>by rw[zbj,zbj,zct]
 |f::fs,env,env',n,hf,e1,e2=>by
  rw[zaR]at hf
  rw[zbj,zbj,zBK hg f env env' n hf.1 e1 e2]
  simp only
  rw[zl1 hg fs env env' _ hf.2 e1 e2,zct]
end
mutual
theorem zyX {g:Nat→Str×Nat}{p:Str→Prop}(hg:∀k,p (g k).1):∀(f:zac) (env:List za4) (n:Nat),zbU p f→(∀b∈env,p b.to)→zbU p (ren g f env n).1
 | .mk k nm ws s,env,n,hf,he=>by
  rw[zbU]at hf
  have hw:∀w∈ws.map (lkp env),p w:=fun w hw=>by
   obtain⟨x,hx,rfl⟩:=List.mem_map.1 hw
   rcases zvo env x with e|⟨b,hb,e⟩
   ·rw[e];exact hf.1 x hx
   ·rw[e];exact he b hb
  rw[ren]
  split
  ·rw[zbU]
   refine⟨hw,fun _=>hg n,zjy hg s _ _ hf.2.2 fun b hb=>?_⟩
   rcases List.mem_append.1 hb with h|h
   ·exact he b h
   ·rw[List.mem_singleton.1 h];exact hg n
  ·rename_i hq
   rw[zbU]
   exact⟨hw,fun h=>absurd h hq,zjy hg s _ _ hf.2.2 he⟩
theorem zjy {g:Nat→Str×Nat}{p:Str→Prop}(hg:∀k,p (g k).1):∀(fs:List zac) (env:List za4) (n:Nat),zaR p fs→(∀b∈env,p b.to)→zaR p (zbj g fs env n).1
 |[],env,n,_,_=>by rw[zbj,zaR];trivial
 |f::fs,env,n,hf,he=>by
  rw[zaR]at hf
  rw[zbj,zaR]
  exact⟨zyX hg f _ _ hf.1 he,zjy hg fs _ _ hf.2 he⟩
end
mutual
theorem zqr {op:Bool}:∀(f:zac) (d:Int) (n:Nat),(chk op f d n).1.code=0→zbU (fun w=>zas w=true) f
 | .mk k nm w s,d,n,h=>by
  rw[chk]at h
  split at h
  ·rename_i h1;exact absurd h h1
  ·rename_i h1
   have h2:=zdS (Decidable.not_not.1 h1)
   rw[zbU]
   refine⟨fun x hx=>List.all_eq_true.1 h2.1 x hx,fun hq=>h2.2.1 ?_,zmR s _ _ h⟩
   unfold named
   have hq':k=8∨k=9:=hq
   have:(zac.mk k nm w s).kind=k:=rfl
   rw[this]
   exact decide_eq_true (by omega)
theorem zmR {op:Bool}:∀(fs:List zac) (d:Int) (n:Nat),(zfb op fs d n).1.code=0→zaR (fun w=>zas w=true) fs
 |[],d,n,_=>by rw[zaR];trivial
 |f::fs,d,n,h=>by
  rw[zfb]at h
  split at h
  ·rename_i h1;exact absurd h h1
  ·rename_i h1
   rw[zaR]
   exact⟨zqr f d n (Decidable.not_not.1 h1),zmR fs d _ h⟩
end
theorem zeJ {op:Bool}{f:zac}(h:(zaz op f).code=0):zbU (fun w=>zas w=true) f:=zqr f 1 0 h
def qn (i:Nat):Str:=⟨63::zbv i⟩
def sg (w:Str):Str:=match w with
 |⟨c::t⟩=>if c=63 then⟨36::t⟩else⟨c::t⟩
 |⟨[]⟩=>⟨[]⟩
def wrap (v:Nat→Str):Nat→zac→zac
 |0,c=>c
 |i+1,c=>wrap v i (.mk 9 (v i) [] [c])
def lwP (n:Nat)(x:Str):Prop:=(x.l.head? =some 63→∃i,i<n∧x=qn i)∧x.l.head? ≠some 36∧¬zoI x
theorem zyt {n:Nat}{x:Str}(h:zas x=true):lwP n x:=by
 unfold zas at h
 have h:=(of_decide_eq_true h).2.2.1
 have hd:∀c:UInt8,x.l.head? =some c→znM c:=fun c hc=>by
  have h0:x.l.getD 0 0=c:=by rw[List.getD_eq_getElem?_getD,←List.head?_eq_getElem?,hc];rfl
  rwa [h0]at h
 exact⟨fun e=>absurd (hd 63 e) (by decide),fun e=>absurd (hd 36 e) (by decide),fun e=>absurd (hd 33 e) (by decide)⟩
def zbx (f:zac):zac:= .mk 4 ⟨[]⟩ [] [f]
theorem zvC {p:Str→Prop}{f:zac}(h:zbU p f):zbU p (zbx f):=by
 simp only[zbx,zbU,zaR];exact⟨by simp,fun h=>absurd h (by decide),h,trivial⟩
end Go.Abs

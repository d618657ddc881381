/- several texts of this proof in one; no conditions -/
import Derived.Test.YtalbdmcklgglbaaDoorY9
import Derived.Test.YtalbdmcklgglbaaDoorY7
set_option linter.unusedSimpArgs false
namespace Go.Abs
open Go
mutual
def zac.fit:zac→Bool
 | .mk _ _ w s=>decide (w.length≤1000)&&decide (s.length≤1000)&&zac.fits s
def zac.fits:List zac→Bool
 |[]=>true
 |f::fs=>f.fit&&zac.fits fs
end
theorem zac.fits_mem:∀{l:List zac} {f:zac},zac.fits l=true→f∈l→f.fit=true
 |g::l,f,h,hm=>by
  rw[zac.fits,Bool.and_eq_true]at h
  rcases List.mem_cons.1 hm with rfl|hm
  ·exact h.1
  ·exact zac.fits_mem h.2 hm
theorem zac.fit_eq {f:zac}(h:f.fit=true):f.words.length≤1000∧f.subs.length≤1000∧zac.fits f.subs=true:=by
 cases f;rw[zac.fit]at h
 simp only[Bool.and_eq_true,decide_eq_true_eq]at h
 exact⟨h.1.1,h.1.2,h.2⟩
theorem zrw {op:Bool}{f:zac}{d:Int}{n:Nat}(h:zda op f d n=0):f.words.length≤1000∧f.subs.length≤1000:=by
 unfold zda at h
 split at h
 ·simp at h
 split at h
 ·simp at h
 split at h
 ·simp at h
 rename_i h1 h2 h3
 have h4:=Decidable.not_not.1 h3
 have h5:za2 op f≤2:=by
  unfold za2 zcn
  repeat'(split<;>try decide)
 have h6:=h4.2
 unfold zdw at h6
 refine⟨?_,by omega⟩
 split at h6
 ·simp only[decide_eq_true_eq]at h6;omega
 split at h6
 ·simp only[decide_eq_true_eq]at h6;omega
 ·simp only[decide_eq_true_eq]at h6;omega
mutual
theorem zqr {op:Bool}:∀(f:zac) (d:Int) (n:Nat),(chk op f d n).1.code=0→f.fit=true
 | .mk k nm w s,d,n,h=>by
  rw[chk]at h
  split at h
  ·rename_i h1;exact absurd h h1
  rename_i h1
  have h2:=zrw (Decidable.not_not.1 h1)
  rw[zac.fit]
  simp only[Bool.and_eq_true,decide_eq_true_eq]
  exact⟨h2,znx s _ _ h⟩
theorem znx {op:Bool}:∀(fs:List zac) (d:Int) (n:Nat),(zd3 op fs d n).1.code=0→zac.fits fs=true
 |[],_,_,_=>by rw[zac.fits]
 |f::fs,d,n,h=>by
  rw[zd3]at h
  split at h
  ·rename_i h1;exact absurd h h1
  rename_i h1
  rw[zac.fits,Bool.and_eq_true]
  exact⟨zqr f d n (Decidable.not_not.1 h1),znx fs _ _ h⟩
end
theorem zfZ {op:Bool}{f:zac}(h:(zaL op f).code=0):f.fit=true:=zqr f 1 0 h
def zzP (l:List UInt8):Nat:=l.foldl (fun a d=>a*10+(d.toNat-48)) 0
theorem zsz (l:List UInt8)(d:UInt8):zzP (l++[d])=zzP l*10+(d.toNat-48):=by
 unfold zzP;rw[List.foldl_append];rfl
theorem zqK {u:Nat}(h:u<10):(UInt8.ofNat (48+u)).toNat-48=u:=by
 rw[UInt8.toNat_ofNat',Nat.mod_eq_of_lt (by omega)];omega
theorem zi3:∀u,zzP (zcO u)=u:=by
 intro u
 unfold zcO
 induction u using Nat.strongRecOn with
 |_ u ih=>
  rw[Lib.decDigits]
  split
  ·rename_i h
   have:=zqK h
   simpa[zzP]using this
  ·rename_i h
   rw[zsz,ih (u / 10) (by omega),zqK (by omega)]
   omega
theorem zoP {u v:Nat}(h:zcO u=zcO v):u=v:=by rw[←zi3 u,←zi3 v,h]
def zh5 (k:Nat):Str:=⟨118::zcO k⟩
theorem zkb {u v:Nat}(h:zh5 u=zh5 v):u=v:=zoP (List.cons.inj (Str.mk.inj h)).2
def zmc (w:Str):Prop:=w.l.head? =some 33
instance (w:Str):Decidable (zmc w):=inferInstanceAs (Decidable (_=_))
def ze2 (used:List Str):Nat→Nat→Nat
 |0,k=>k
 |m+1,k=>if zh5 k∈used then ze2 used m (k+1)else k
def zfB (used:List Str)(k:Nat):Nat:=ze2 used used.length k
theorem znS (used:List Str):∀m k,k≤ze2 used m k∧ze2 used m k≤k+m
 |0,k=>by simp[ze2]
 |m+1,k=>by
  rw[ze2]
  split
  ·have:=znS used m (k+1);omega
  ·omega
theorem zhD (used:List Str):∀m k i,k≤i→i<ze2 used m k→zh5 i∈used
 |0,k,i,h1,h2=>by simp only[ze2]at h2;omega
 |m+1,k,i,h1,h2=>by
  rw[ze2]at h2
  split at h2
  ·rename_i h
   rcases Nat.eq_or_lt_of_le h1 with rfl|h1
   ·exact h
   ·exact zhD used m (k+1) i h1 h2
  ·omega
theorem ziL (used:List Str):∀m k,ze2 used m k<k+m→zh5 (ze2 used m k)∉used
 |0,k,h=>by simp[ze2]at h
 |m+1,k,h=>by
  rw[ze2]at h ⊢
  split
  ·rename_i h1
   rw[if_pos h1]at h
   exact ziL used m (k+1) (by omega)
  ·assumption
theorem pig:∀(used:List Str) (S:List Nat),S.Nodup→(∀i∈S,zh5 i∈used)→S.length≤used.length
 |[],S,_,h=>by
  cases S with
  |nil=>simp
  |cons i S=>have:=h i (by simp);simp at this
 |u::us,S,hn,h=>by
  by_cases he:∃i∈S,zh5 i=u
  ·obtain⟨i,hi,rfl⟩:=he
   have h1:=pig us (S.erase i) (hn.erase i) fun j hj=>by
    have h2:=(List.Nodup.mem_erase_iff hn).1 hj
    rcases List.mem_cons.1 (h j h2.2)with h3|h3
    ·exact absurd (zkb h3) h2.1
    ·exact h3
   rw[List.length_erase_of_mem hi]at h1
   simp only[List.length_cons]
   omega
  ·have h1:=pig us S hn fun j hj=>by
    rcases List.mem_cons.1 (h j hj)with h3|h3
    ·exact absurd ⟨j,hj,h3⟩ he
    ·exact h3
   simp only[List.length_cons]
   omega
theorem zeJ (used:List Str)(k:Nat):k≤zfB used k∧zfB used k≤k+used.length∧zh5 (zfB used k)∉used∧∀i,k≤i→i<zfB used k→zh5 i∈used:=by
 unfold zfB
 have h1:=znS used used.length k
 have h2:=zhD used used.length k
 refine⟨h1.1,h1.2,?_,h2⟩
 rcases Nat.lt_or_ge (ze2 used used.length k) (k+used.length)with h|h
 ·exact ziL used _ _ h
 ·have he:ze2 used used.length k=k+used.length:=by omega
  intro hin
  rw[he]at hin h2
  have h3:=pig used (List.range' k (used.length+1)) List.nodup_range' fun i hi=>by
   have:=List.mem_range'_1.1 hi
   rcases Nat.lt_or_ge i (k+used.length)with h4|h4
   ·exact h2 i this.1 h4
   ·obtain rfl:i=k+used.length:=by omega
    exact hin
  rw[List.length_range']at h3
  omega
structure zbR where
 fr:Str
 to:Str
 deriving DecidableEq,Inhabited
instance:Enc zbR:=⟨fun b=> .agg [.s b.fr.l,.s b.to.l],fun x=>match x with| .agg [.s a,.s b]=>⟨⟨a⟩,⟨b⟩⟩|_=>⟨⟨[]⟩,⟨[]⟩⟩,fun b=>by cases b;rfl⟩
@[go_sem] theorem zte {b:zbR}:enc b= .agg [.s b.fr.l,.s b.to.l]:=rfl
@[go_sem] theorem zzS {a b:List UInt8}:dec (α:=zbR) (.agg [.s a,.s b])=⟨⟨a⟩,⟨b⟩⟩:=rfl
instance:Kc zbR 2:=⟨fun _=>rfl⟩
@[go_sem] theorem zxI {l:List zbR}:zbi (l.map enc) 2=True:=eq_true (zek l)
@[go_sem] theorem zvP {l:List zbR}:(zag (l.map enc)).all zcJ=true:=by
 rw[List.all_eq_true]
 intro d hd
 simp only[zag,List.mem_flatMap,List.mem_map]at hd
 obtain⟨_,⟨a,_,rfl⟩,x,hx,rfl⟩:=hd
 simp only[zte,FD.cells,List.mem_cons,List.not_mem_nil,or_false]at hx
 rcases hx with rfl|rfl<;>rfl
def ziH (env:List zbR)(w:Str):Nat→Str
 |0=>w
 |i+1=>if(env.getD i default).fr=w then(env.getD i default).to else ziH env w i
def lkp (env:List zbR)(w:Str):Str:=ziH env w env.length
theorem znQ (env:List zbR)(b:zbR)(w:Str):∀i,i≤env.length→ziH (env++[b]) w i=ziH env w i
 |0,_=>rfl
 |i+1,h=>by
  rw[ziH,ziH,znQ env b w i (by omega)]
  have:(env++[b]).getD i default=env.getD i default:=by
   rw[List.getD_eq_getElem?_getD,List.getD_eq_getElem?_getD,List.getElem?_append_left (by omega)]
  rw[this]
theorem zeH (env:List zbR)(b:zbR)(w:Str):lkp (env++[b]) w=if b.fr=w then b.to else lkp env w:=by
 unfold lkp
 rw[List.length_append,List.length_singleton,ziH,znQ env b w _ (Nat.le_refl _)]
 have:(env++[b]).getD env.length default=b:=by
  rw[List.getD_eq_getElem?_getD,List.getElem?_append_right (Nat.le_refl _),Nat.sub_self];rfl
 rw[this]
theorem zjA (w:Str):lkp [] w=w:=rfl
theorem zwn {env env':List zbR}{s:Str→Str}(h1:env'.map (·.fr)=env.map (·.fr))(h2:env'.map (·.to)=env.map fun b=>s b.to){w:Str}(hw:s w=w):lkp env' w=s (lkp env w):=by
 have hl:env'.length=env.length:=by have:=congrArg List.length h1;simpa using this
 have key:∀i,i≤env.length→ziH env' w i=s (ziH env w i):=by
  intro i
  induction i with
  |zero=>intro _;exact hw.symm
  |succ i ih=>
   intro hi
   have e1:(env'.getD i default).fr=(env.getD i default).fr:=by
    have:=congrArg (fun l:List Str=>l[i]?) h1
    simp only[List.getElem?_map,List.getElem?_eq_getElem (show i<env.length by omega),List.getElem?_eq_getElem (show i<env'.length by omega),Option.map_some,Option.some.injEq]at this
    simp only[List.getD_eq_getElem?_getD,List.getElem?_eq_getElem (show i<env.length by omega),List.getElem?_eq_getElem (show i<env'.length by omega),Option.getD_some]
    exact this
   have e2:(env'.getD i default).to=s (env.getD i default).to:=by
    have:=congrArg (fun l:List Str=>l[i]?) h2
    simp only[List.getElem?_map,List.getElem?_eq_getElem (show i<env.length by omega),List.getElem?_eq_getElem (show i<env'.length by omega),Option.map_some,Option.some.injEq]at this
    simp only[List.getD_eq_getElem?_getD,List.getElem?_eq_getElem (show i<env.length by omega),List.getElem?_eq_getElem (show i<env'.length by omega),Option.getD_some]
    exact this
   rw[ziH,ziH,e1,e2,ih (by omega)]
   split<;>rfl
 unfold lkp
 rw[hl]
 exact key _ (Nat.le_refl _)
def isQ (k:Int):Prop:=k=8∨k=9
instance (k:Int):Decidable (isQ k):=inferInstanceAs (Decidable (_∨_))
mutual
def cst:zac→List Str→List Str
 | .mk k nm ws s,bd=>ws.filter (fun w=>decide (w∉bd))++zdD s (if isQ k then bd++[nm]else bd)
def zdD:List zac→List Str→List Str
 |[],_=>[]
 |f::fs,bd=>cst f bd++zdD fs bd
end
mutual
def ren (g:Nat→Str×Nat):zac→List zbR→Nat→zac×Nat
 | .mk k nm ws s,env,n=>
  if isQ k then(.mk k (g n).1 (ws.map (lkp env)) (zbT g s (env++[⟨nm,(g n).1⟩]) (g n).2).1,(zbT g s (env++[⟨nm,(g n).1⟩]) (g n).2).2)
  else(.mk k nm (ws.map (lkp env)) (zbT g s env n).1,(zbT g s env n).2)
def zbT (g:Nat→Str×Nat):List zac→List zbR→Nat→List zac×Nat
 |[],_,n=>([],n)
 |f::fs,env,n=>((ren g f env n).1::(zbT g fs env (ren g f env n).2).1,(zbT g fs env (ren g f env n).2).2)
end
theorem zdW (g:Nat→Str×Nat)(env:List zbR):∀(a:List zac) (n:Nat),(zbT g a env n).1.length=a.length
 |[],n=>by simp[zbT]
 |f::a,n=>by rw[zbT];simp[zdW g env a]
def vg (used:List Str)(k:Nat):Str×Nat:=(zh5 (zfB used k),zfB used k+1)
theorem zrN {g:Nat→Str×Nat}{u:Nat}(hg:∀k,k≤(g k).2∧(g k).2≤k+u):
  (∀(f:zac) (env:List zbR) (n:Nat),n≤(ren g f env n).2∧(ren g f env n).2≤n+u*f.size)∧∀(fs:List zac) (env:List zbR) (n:Nat),n≤(zbT g fs env n).2∧(zbT g fs env n).2≤n+u*zac.sizes fs:=by
 suffices h:∀m,(∀(f:zac) (env:List zbR) (n:Nat),f.size≤m→n≤(ren g f env n).2∧(ren g f env n).2≤n+u*f.size)∧∀(fs:List zac) (env:List zbR) (n:Nat),zac.sizes fs≤m→n≤(zbT g fs env n).2∧(zbT g fs env n).2≤n+u*zac.sizes fs from
  ⟨fun f env n=>(h _).1 f env n (Nat.le_refl _),fun fs env n=>(h _).2 fs env n (Nat.le_refl _)⟩
 intro m
 induction m with
 |zero=>
  refine⟨fun f env n h=>by have:=f.size_pos;omega,fun fs env n h=>?_⟩
  cases fs with
  |nil=>simp[zbT]
  |cons f fs=>rw[zac.sizes]at h;have:=f.size_pos;omega
 |succ m ih=>
  have h1:∀(f:zac) (env:List zbR) (n:Nat),f.size≤m+1→n≤(ren g f env n).2∧(ren g f env n).2≤n+u*f.size:=by
   rintro⟨k,nm,ws,s⟩ env n h
   rw[zac.size]at h ⊢
   rw[Nat.mul_add,Nat.mul_one]
   rw[ren]
   split
   ·have h2:=ih.2 s (env++[⟨nm,(g n).1⟩]) (g n).2 (by omega)
    have h3:=hg n
    simp only
    omega
   ·have h2:=ih.2 s env n (by omega)
    simp only
    omega
  refine⟨h1,fun fs=>?_⟩
  induction fs with
  |nil=>intro env n h;simp[zbT]
  |cons f fs ih2=>
   intro env n h
   rw[zac.sizes]at h ⊢
   rw[zbT,Nat.mul_add]
   have h2:=h1 f env n (by omega)
   have h3:=ih2 env (ren g f env n).2 (by omega)
   simp only
   omega
theorem zwX (used:List Str)(k:Nat):k≤(vg used k).2∧(vg used k).2≤k+(used.length+1):=by
 have:=zeJ used k
 unfold vg
 simp only
 omega
def zka (f:zac):List Str:=(zqx (zwK ((cst f []).map (·.l)))).map Str.mk
def zDe (env:List zbR)(used:List Str):List Str:=env.foldl (fun u b=>u.map fun w=>if w=b.fr then b.to else w) used
def zb4 (f:zac)(env:List zbR):zac:=(ren (vg (zDe env (zka f))) f env 0).1
theorem zrk:∀(l:List (List UInt8)) (x:List UInt8),x∈zqx l↔x∈l:=by
 intro l x
 unfold zqx Lib.compact Lib.compactUpTo
 have hget:∀j (h:j<l.length),(l.toArray)[j]! =l[j]:=fun j h=>by simp[h]
 constructor
 ·intro h
  obtain⟨j,hj,rfl⟩:=List.mem_map.1 h
  have hj':j<l.length:=List.mem_range.1 (List.mem_filter.1 hj).1
  rw[hget j hj']
  exact List.getElem_mem hj'
 ·intro h
  obtain⟨j,hj,rfl⟩:=List.getElem_of_mem h
  induction j with
  |zero=>exact List.mem_map.2 ⟨0,List.mem_filter.2 ⟨List.mem_range.2 hj,by simp[Lib.keeps]⟩,hget 0 hj⟩
  |succ j ih=>
   by_cases he:l[j+1]=l[j]
   ·rw[he];exact ih (by omega) (List.getElem_mem _)
   ·exact List.mem_map.2 ⟨j+1,List.mem_filter.2 ⟨List.mem_range.2 hj,by
     simp only[Lib.keeps,decide_eq_true_eq,Nat.add_sub_cancel]
     rw[hget _ hj,hget j (by omega)]
     exact .inr he⟩,hget _ hj⟩
theorem zrl (f:zac)(x:Str):x∈zka f↔x∈cst f []:=by
 unfold zka
 simp only[List.mem_map,zrk,(ziU _).mem_iff]
 constructor
 ·rintro⟨y,⟨z,hz,rfl⟩,rfl⟩;exact hz
 ·intro h;exact⟨x.l,⟨x,h,rfl⟩,rfl⟩
theorem zsy (f:zac):(zka f).length≤(cst f []).length:=by
 unfold zka
 rw[List.length_map]
 refine Nat.le_trans (zqy _) ?_
 rw[zr6,List.length_map];exact Nat.le_refl _
def zA4 (l:List Str)(s:Str):List Str:=if s∈l then l else l.take (l.takeWhile fun x=>decide (x.l<s.l)).length++[s]++l.drop (l.takeWhile fun x=>decide (x.l<s.l)).length
theorem ztQ (l:List Str)(s x:Str):x∈zA4 l s↔x∈l∨x=s:=by
 unfold zA4
 split
 ·rename_i h
  constructor
  ·exact .inl
  ·rintro(h1|rfl)
   ·exact h1
   ·exact h
 ·have h1:=List.take_append_drop (l.takeWhile fun x=>decide (x.l<s.l)).length l
  constructor
  ·intro h
   simp only[List.mem_append,List.mem_singleton]at h
   rcases h with(h|h)|h
   ·exact .inl (List.mem_of_mem_take h)
   ·exact .inr h
   ·exact .inl (List.mem_of_mem_drop h)
  ·rintro(h|rfl)
   ·rw[←h1]at h
    simp only[List.mem_append,List.mem_singleton]at h ⊢
    rcases h with h|h
    ·exact .inl (.inl h)
    ·exact .inr h
   ·simp
mutual
def zBw:zac→List Str→List Str→List Str
 | .mk k nm ws s,bd,l=>zqH s (if isQ k then bd++[nm]else bd) (ws.foldl (fun l w=>if w∈bd then l else zA4 l w) l)
def zqH:List zac→List Str→List Str→List Str
 |[],_,l=>l
 |f::fs,bd,l=>zqH fs bd (zBw f bd l)
end
theorem zls (bd:List Str)(x:Str):∀(ws l:List Str),x∈ws.foldl (fun l w=>if w∈bd then l else zA4 l w) l↔x∈l∨x∈ws.filter (fun w=>decide (w∉bd))
 |[],l=>by simp
 |w::ws,l=>by
  rw[List.foldl_cons,zls bd x ws,List.filter_cons]
  by_cases h:w∈bd
  ·rw[if_pos h,if_neg (by simpa using h)]
  ·rw[if_neg h,if_pos (by simpa using h),ztQ,List.mem_cons,or_assoc]
mutual
theorem ztP (x:Str):∀(f:zac) (bd l:List Str),x∈zBw f bd l↔x∈l∨x∈cst f bd
 | .mk k nm ws s,bd,l=>by rw[zBw,cst,zlr x s,zls,List.mem_append,or_assoc]
theorem zlr (x:Str):∀(fs:List zac) (bd l:List Str),x∈zqH fs bd l↔x∈l∨x∈zdD fs bd
 |[],bd,l=>by simp[zqH,zdD]
 |f::fs,bd,l=>by rw[zqH,zdD,zlr x fs,ztP x f,List.mem_append,or_assoc]
end
def zwR (fr to:List Str)(w:Str):Str:=match fr,to with
 |a::fr,b::to=>if a=w then b else zwR fr to w
 |_,_=>w
mutual
def swp (fr to:List Str):zac→zac
 | .mk k nm ws s=> .mk k (if isQ k then zwR fr to nm else nm) (ws.map (zwR fr to)) (zFB fr to s)
def zFB (fr to:List Str):List zac→List zac
 |[]=>[]
 |f::fs=>swp fr to f::zFB fr to fs
end
mutual
def clean:zac→Prop
 | .mk _ _ ws s=>(∀w∈ws,¬zmc w)∧zbE s
def zbE:List zac→Prop
 |[]=>True
 |f::fs=>clean f∧zbE fs
end
end Go.Abs
namespace Go.Abs
open Go
mutual
def zac.depth:zac→Nat
 | .mk _ _ _ s=>zac.depths s+1
def zac.depths:List zac→Nat
 |[]=>0
 |f::fs=>max f.depth (zac.depths fs)
end
def zig (f:zac):Bool:=decide (f.size≤200∧f.depth≤40)
mutual
theorem zac.depth_size:∀f:zac,f.depth≤f.size
 | .mk k n w s=>by rw[zac.depth,zac.size];have:=zac.depths_size s;omega
theorem zac.depths_size:∀fs:List zac,zac.depths fs≤zac.sizes fs
 |[]=>by rw[zac.depths,zac.sizes];exact Nat.le_refl _
 |f::fs=>by rw[zac.depths,zac.sizes];have:=f.depth_size;have:=zac.depths_size fs;omega
end
mutual
theorem znw {op:Bool}:∀(f:zac) (d:Int) (n:Nat),(chk op f d n).1.code=0→(chk op f d n).2=n+f.size
 | .mk k nm w s,d,n,h=>by
  rw[chk]at h ⊢
  split at h
  ·rename_i h1;exact absurd h h1
  ·rename_i h1
   rw[if_neg h1,zac.size,zkF s _ _ h];omega
theorem zkF {op:Bool}:∀(fs:List zac) (d:Int) (n:Nat),(zd3 op fs d n).1.code=0→(zd3 op fs d n).2=n+zac.sizes fs
 |[],d,n,_=>by rw[zd3,zac.sizes];rfl
 |f::fs,d,n,h=>by
  rw[zd3]at h ⊢
  split at h
  ·rename_i h1;exact absurd h h1
  ·rename_i h1
   have h2:=znw f d n (Decidable.not_not.1 h1)
   rw[if_neg h1,zkF fs d _ h,h2,zac.sizes];omega
end
theorem zmt {op:Bool}{f:zac}(h:(zaL op f).code=0):f.size≤200:=by
 have h1:=znw f 1 0 h
 have h2:=(zs5 f 1 0 h).2.1
 omega
theorem zro {s:Str}(h:zai s=true):¬zmc s:=by
 unfold zai at h
 have h:=(of_decide_eq_true h).2.2.1
 intro hb
 unfold zmc at hb
 have h0:s.l.getD 0 0=33:=by rw[List.getD_eq_getElem?_getD,←List.head?_eq_getElem?,hb];rfl
 rw[h0]at h
 exact absurd h (by decide)
theorem zdb {op:Bool}{f:zac}{d:Int}{n:Nat}(h:zda op f d n=0):f.words.all zai=true∧(named f=true→zai f.name=true)∧(named f=false→f.name=⟨[]⟩)∧zdw f=true∧(f.subs.length:Int)=za2 op f:=by
 unfold zda at h
 split at h
 ·simp at h
 split at h
 ·simp at h
 split at h
 ·simp at h
 rename_i h3
 split at h
 ·simp at h
 rename_i h4
 split at h
 ·simp at h
 rename_i h5
 split at h
 ·simp at h
 rename_i h6
 have h7:=Decidable.not_not.1 h3
 refine⟨by simpa using h6,fun h8=>?_,fun h8=>?_,h7.2,h7.1⟩
 ·cases hn:zai f.name with
  |true=>rfl
  |false=>exact absurd ⟨h8,hn⟩ h4
 ·exact Decidable.not_not.1 fun hn=>h5 ⟨h8,hn⟩
mutual
theorem zqp {op:Bool}:∀(f:zac) (d:Int) (n:Nat),(chk op f d n).1.code=0→clean f
 | .mk k nm w s,d,n,h=>by
  rw[chk]at h
  split at h
  ·rename_i h1;exact absurd h h1
  ·rename_i h1
   have h2:=(zdb (Decidable.not_not.1 h1)).1
   rw[clean]
   exact⟨fun x hx=>zro (List.all_eq_true.1 h2 x hx),zit s _ _ h⟩
theorem zit {op:Bool}:∀(fs:List zac) (d:Int) (n:Nat),(zd3 op fs d n).1.code=0→zbE fs
 |[],d,n,_=>by rw[zbE];trivial
 |f::fs,d,n,h=>by
  rw[zd3]at h
  split at h
  ·rename_i h1;exact absurd h h1
  ·rename_i h1
   rw[zbE]
   exact⟨zqp f d n (Decidable.not_not.1 h1),zit fs d _ h⟩
end
theorem fits_mem:∀l:List zac,zac.fits l=true↔∀f∈l,f.fit=true
 |[]=>by rw[zac.fits];simp
 |f::l=>by rw[zac.fits,Bool.and_eq_true,fits_mem l];simp
theorem zlM {c:Nat}:∀l:List zac,(∀f∈l,f.size≤c)→zac.sizes l≤l.length*c
 |[],_=>by rw[zac.sizes];omega
 |f::l,h=>by
  rw[zac.sizes,List.length_cons,Nat.add_mul,Nat.one_mul]
  have h1:=h f (by simp)
  have h2:=zlM l fun g hg=>h g (by simp[hg])
  omega
theorem zrc (env:List zbR)(w:Str):∀i,i≤env.length→ziH env w i=w∨∃b∈env,ziH env w i=b.to
 |0,_=> .inl rfl
 |i+1,h=>by
  rw[ziH]
  split
  ·refine .inr ⟨env.getD i default,?_,rfl⟩
   rw[List.getD_eq_getElem?_getD,List.getElem?_eq_getElem (by omega)]
   exact List.getElem_mem _
  ·exact zrc env w i (by omega)
theorem zuY (env:List zbR)(w:Str):lkp env w=w∨∃b∈env,lkp env w=b.to:=zrc env w _ (Nat.le_refl _)
mutual
theorem znW (g:Nat→Str×Nat):∀(f:zac) (env:List zbR) (n:Nat),(ren g f env n).1.size=f.size
 | .mk k nm ws s,env,n=>by
  rw[ren]
  split
  ·rw[zac.size,zac.size,zhQ g s]
  ·rw[zac.size,zac.size,zhQ g s]
theorem zhQ (g:Nat→Str×Nat):∀(fs:List zac) (env:List zbR) (n:Nat),zac.sizes (zbT g fs env n).1=zac.sizes fs
 |[],env,n=>by rw[zbT]
 |f::fs,env,n=>by rw[zbT,zac.sizes,zac.sizes,znW g f,zhQ g fs]
end
mutual
theorem zwA (g:Nat→Str×Nat):∀(f:zac) (env:List zbR) (n:Nat),(ren g f env n).1.fit=f.fit
 | .mk k nm ws s,env,n=>by
  rw[ren]
  split
  ·rw[zac.fit,zac.fit,zjO g s,List.length_map,zdW]
  ·rw[zac.fit,zac.fit,zjO g s,List.length_map,zdW]
theorem zjO (g:Nat→Str×Nat):∀(fs:List zac) (env:List zbR) (n:Nat),zac.fits (zbT g fs env n).1=zac.fits fs
 |[],env,n=>by rw[zbT]
 |f::fs,env,n=>by rw[zbT,zac.fits,zac.fits,zwA g f,zjO g fs]
end
theorem zlp {env:List zbR}{ws:List Str}(h:∀w∈ws,¬zmc w)(he:∀b∈env,¬zmc b.to):∀w∈ws.map (lkp env),¬zmc w:=by
 intro w hw
 obtain⟨x,hx,rfl⟩:=List.mem_map.1 hw
 rcases zuY env x with e|⟨b,hb,e⟩
 ·rw[e];exact h x hx
 ·rw[e];exact he b hb
mutual
theorem zrM {g:Nat→Str×Nat}(hg:∀k,¬zmc (g k).1):∀(f:zac) (env:List zbR) (n:Nat),clean f→(∀b∈env,¬zmc b.to)→clean (ren g f env n).1
 | .mk k nm ws s,env,n,h,he=>by
  rw[clean]at h
  rw[ren]
  split
  ·rw[clean]
   refine⟨zlp h.1 he,zf7 hg s _ _ h.2 fun b hb=>?_⟩
   rcases List.mem_append.1 hb with hb|hb
   ·exact he b hb
   ·rw[List.mem_singleton.1 hb];exact hg n
  ·rw[clean]
   exact⟨zlp h.1 he,zf7 hg s _ _ h.2 he⟩
theorem zf7 {g:Nat→Str×Nat}(hg:∀k,¬zmc (g k).1):∀(fs:List zac) (env:List zbR) (n:Nat),zbE fs→(∀b∈env,¬zmc b.to)→zbE (zbT g fs env n).1
 |[],env,n,_,_=>by rw[zbT,zbE];trivial
 |f::fs,env,n,h,he=>by
  rw[zbE]at h
  rw[zbT,zbE]
  exact⟨zrM hg f _ _ h.1 he,zf7 hg fs _ _ h.2 he⟩
end
theorem zhc (f:zac)(env:List zbR):(zb4 f env).size=f.size:=znW _ f env 0
def zdG (k:Int):List zac→zac
 |[]=> .mk 0 ⟨[]⟩ [] []
 |f::l=>l.foldl (fun a x=> .mk k ⟨[]⟩ [] [a,x]) f
theorem zf3 (k:Int):∀(l:List zac) (f:zac),((l.foldl (fun a x=>zac.mk k ⟨[]⟩ [] [a,x]) f).size=f.size+zac.sizes l+l.length)∧((l.foldl (fun a x=>zac.mk k ⟨[]⟩ [] [a,x]) f).fit=(f.fit&&zac.fits l))∧(clean (l.foldl (fun a x=>zac.mk k ⟨[]⟩ [] [a,x]) f)↔clean f∧zbE l)
 |[],f=>by rw[zac.sizes,zac.fits,zbE];simp
 |x::l,f=>by
  rw[List.foldl_cons]
  obtain⟨h1,h2,h3⟩:=zf3 k l (.mk k ⟨[]⟩ [] [f,x])
  refine⟨?_,?_,?_⟩
  ·rw[h1];simp only[zac.size,zac.sizes,List.length_cons];omega
  ·rw[h2];simp only[zac.fit,zac.fits,List.length_nil,List.length_cons,Nat.zero_le,decide_true,Bool.true_and,Bool.and_true,Bool.and_assoc];rfl
  ·rw[h3];simp only[clean,zbE,List.not_mem_nil,false_implies,implies_true,true_and,and_true,and_assoc]
theorem zpg (k:Int)(l:List zac):(zdG k l).size≤zac.sizes l+l.length+1:=by
 cases l with
 |nil=>simp only[zdG,zac.size,zac.sizes,List.length_nil];omega
 |cons f l=>
  have:=(zf3 k l f).1
  show(l.foldl (fun a x=>zac.mk k ⟨[]⟩ [] [a,x]) f).size≤_
  rw[this,zac.sizes,List.length_cons];omega
theorem zq5 (k:Int){l:List zac}(h:zac.fits l=true):(zdG k l).fit=true:=by
 cases l with
 |nil=>simp only[zdG,zac.fit,zac.fits,List.length_nil,Nat.zero_le,decide_true,Bool.true_and]
 |cons f l=>
  show(l.foldl (fun a x=>zac.mk k ⟨[]⟩ [] [a,x]) f).fit=_
  rw[(zf3 k l f).2.1];rwa [zac.fits]at h
def zgI:zac:= .mk 0 ⟨[]⟩ [] []
end Go.Abs
namespace Go.Abs
open Go
structure zcl where
 name:Str
 value:Int
deriving DecidableEq
structure zpO where
 name:Str
 arity:Int
 tuples:List (List Int)
deriving DecidableEq
structure zcZ where
 size:Int
 consts:List zcl
 rels:List zpO
deriving DecidableEq
instance:Inhabited zcl:=⟨⟨⟨[]⟩,0⟩⟩
instance:Inhabited zpO:=⟨⟨⟨[]⟩,0,[]⟩⟩
@[go_sem] theorem zyf {c:zcl}:zcl.mk c.name c.value=c:=by cases c;rfl
@[go_sem] theorem zDd {r:zpO}:zpO.mk r.name r.arity r.tuples=r:=by cases r;rfl
@[go_sem] theorem zzp {m:zcZ}:zcZ.mk m.size m.consts m.rels=m:=by cases m;rfl
instance:Enc zcl:=⟨fun c=> .agg [.s c.name.l,.i .i64 c.value],fun x=>match x with| .agg [.s a,.i _ n]=>⟨⟨a⟩,n⟩|_=>default,fun c=>by cases c;rfl⟩
@[go_sem] theorem zqQ {c:zcl}:enc c= .agg [.s c.name.l,.i .i64 c.value]:=rfl
@[go_sem] theorem zyg {a i n}:dec (α:=zcl) (.agg [.s a,.i i n])=⟨⟨a⟩,n⟩:=rfl
instance:Kc zcl 2:=⟨fun _=>rfl⟩
@[go_sem] theorem zwl {l:List zcl}:zbi (l.map enc) 2=True:=eq_true (zek l)
@[go_sem] theorem zuN {l:List zcl}:(zag (l.map enc)).all zcJ=true:=by
 rw[List.all_eq_true]
 intro d hd
 simp only[zag,List.mem_flatMap,List.mem_map]at hd
 obtain⟨_,⟨a,_,rfl⟩,x,hx,rfl⟩:=hd
 simp only[zqQ,FD.cells,List.mem_cons,List.not_mem_nil,or_false]at hx
 rcases hx with rfl|rfl<;>rfl
instance:Enc zpO:=⟨fun r=> .agg [.s r.name.l,.i .i64 r.arity,.sl (r.tuples.map enc)],fun x=>match x with| .agg [.s a,.i _ n,.sl t]=>⟨⟨a⟩,n,t.map dec⟩|_=>default,fun r=>by
 cases r;simp only[zcu]⟩
@[go_sem] theorem zvH {r:zpO}:enc r= .agg [.s r.name.l,.i .i64 r.arity,.sl (r.tuples.map enc)]:=rfl
@[go_sem] theorem zBC {a i n t}:dec (α:=zpO) (.agg [.s a,.i i n,.sl t])=⟨⟨a⟩,n,dec (.sl t)⟩:=rfl
instance:Kc zpO 3:=⟨fun _=>rfl⟩
@[go_sem] theorem zzl {l:List zpO}:zbi (l.map enc) 3=True:=eq_true (zek l)
@[go_sem] theorem zxh {l:List zpO}:(zag (l.map enc)).all zcJ=true:=by
 rw[List.all_eq_true]
 intro d hd
 simp only[zag,List.mem_flatMap,List.mem_map]at hd
 obtain⟨_,⟨a,_,rfl⟩,x,hx,rfl⟩:=hd
 simp only[zvH,FD.cells,List.mem_cons,List.not_mem_nil,or_false]at hx
 rcases hx with rfl|rfl|rfl<;>rfl
instance:Enc zcZ:=⟨fun m=> .agg [.i .i64 m.size,.sl (m.consts.map enc),.sl (m.rels.map enc)],fun x=>match x with| .agg [.i _ n,.sl c,.sl r]=>⟨n,c.map dec,r.map dec⟩|_=>⟨0,[],[]⟩,fun m=>by
 cases m;simp only[zcu]⟩
@[go_sem] theorem zyo {m:zcZ}:enc m= .agg [.i .i64 m.size,.sl (m.consts.map enc),.sl (m.rels.map enc)]:=rfl
@[go_sem] theorem zyh {i n c r}:dec (α:=zcZ) (.agg [.i i n,.sl c,.sl r])=⟨n,dec (.sl c),dec (.sl r)⟩:=rfl
def zDx (a b:Int):Int:=if a<b then-1 else if b<a then 1 else 0
def zDy:List Int→List Int→Int
 |[],[]=>0
 |[],_::_=> -1
 |_::_,[]=>1
 |a::as,b::bs=>if zDx a b≠0 then zDx a b else zDy as bs
def ltR (a b:zpO):Prop:=a.name.l<b.name.l∨(a.name=b.name∧a.arity<b.arity)
def zBF (m:zcZ)(w:Str):Option zcl:=m.consts.find? fun c=>decide (c.name=w)
def zyq (m:zcZ)(w:Str)(n:Int):Option zpO:=m.rels.find? fun r=>decide (r.name=w∧r.arity=n)
def ze1:List zcl→Str→Option Int
 |[],_=>none
 |e::es,w=>match ze1 es w with
  |some v=>some v
  |none=>if e.name=w then some e.value else none
theorem zlh (w:Str):∀(a b:List zcl),ze1 (a++b) w=match ze1 b w with|some v=>some v|none=>ze1 a w
 |[],b=>by rw[List.nil_append,ze1];cases ze1 b w<;>rfl
 |e::a,b=>by
  rw[List.cons_append,ze1,zlh w a b,ze1]
  cases ze1 b w<;>rfl
theorem zph (a:List zcl)(e:zcl)(w:Str):ze1 (a++[e]) w=if e.name=w then some e.value else ze1 a w:=by
 rw[zlh,ze1,ze1]
 by_cases h:e.name=w
 ·rw[if_pos h,if_pos h]
 ·rw[if_neg h,if_neg h]
def zuF (m:zcZ)(w:Str):Int:=match zBF m w with|some c=>c.value|none=>0
def zdf (m:zcZ)(env:List zcl)(w:Str):Int:=match ze1 env w with|some v=>v|none=>zuF m w
def zDk (m:zcZ)(w:Str)(n:Int):List (List Int):=match zyq m w n with|some r=>r.tuples|none=>[]
def zyx (m:zcZ):List Int:=(List.range m.size.toNat).map Int.ofNat
mutual
def zpG (m:zcZ):zac→List zcl→Bool
 | .mk k nm ws s,env=>
  if k=1 then true
  else if k=2 then decide (ws.map (zdf m env)∈zDk m nm ws.length)
  else if k=3 then decide (zdf m env (ws.getD 0 ⟨[]⟩)=zdf m env (ws.getD 1 ⟨[]⟩))
  else if k=4 then !(zcI m s env).getD 0 false
  else if k=5 then(zcI m s env).getD 0 false&&(zcI m s env).getD 1 false
  else if k=6 then(zcI m s env).getD 0 false||(zcI m s env).getD 1 false
  else if k=7 then !(zcI m s env).getD 0 false||(zcI m s env).getD 1 false
  else if k=8 then(zyx m).all fun v=>(zcI m s (env++[⟨nm,v⟩])).getD 0 false
  else if k=9 then(zyx m).any fun v=>(zcI m s (env++[⟨nm,v⟩])).getD 0 false
  else false
def zcI (m:zcZ):List zac→List zcl→List Bool
 |[],_=>[]
 |f::fs,env=>zpG m f env::zcI m fs env
end
mutual
def zrq:zac→Nat
 | .mk k _ _ s=>ziK s+if isQ k then 1 else 0
def ziK:List zac→Nat
 |[]=>0
 |f::fs=>max (zrq f) (ziK fs)
end
mutual
def zyw (m:zcZ):zac→Bool
 | .mk k nm ws s=>(!decide (k=2)||(zyq m nm ws.length).isSome)&&zpe m s
def zpe (m:zcZ):List zac→Bool
 |[]=>true
 |f::fs=>zyw m f&&zpe m fs
end
end Go.Abs
namespace Go.Abs
open Go
mutual
def vok:zac→Prop
 | .mk k _ ws s=>1≤k∧k≤9∧(k=2→ws.length≤3)∧(k=3→ws.length=2)∧(k=4∨k=8∨k=9→s.length=1)∧(k=5∨k=6∨k=7→s.length=2)∧zgg s
def zgg:List zac→Prop
 |[]=>True
 |f::fs=>vok f∧zgg fs
end
theorem zkc:∀l:List zac,zgg l↔∀f∈l,vok f
 |[]=>by rw[zgg];simp
 |f::l=>by rw[zgg,zkc l];simp
theorem zvf {f:zac}:vok f↔1≤f.kind∧f.kind≤9∧(f.kind=2→f.words.length≤3)∧(f.kind=3→f.words.length=2)∧(f.kind=4∨f.kind=8∨f.kind=9→f.subs.length=1)∧(f.kind=5∨f.kind=6∨f.kind=7→f.subs.length=2)∧zgg f.subs:=by
 cases f;rw[vok];rfl
mutual
theorem zqt:∀(f:zac) (d:Int) (n:Nat),(chk false f d n).1.code=0→vok f
 | .mk k nm w s,d,n,h=>by
  rw[chk]at h
  split at h
  ·rename_i h1;exact absurd h h1
  ·rename_i h1
   have h2:=zdb (Decidable.not_not.1 h1)
   have h3:=h2.2.2.2.2
   have h4:(if k=2 then decide (w.length≤3)else if k=3 then decide (w.length=2)else decide (w.length=0))=true:=h2.2.2.2.1
   simp only[zbV]at h3
   have h5:za2 false (.mk k nm w s)=zcn k:=by unfold za2;simp[zaG]
   rw[h5]at h3
   unfold zcn at h3
   rw[vok]
   have h6:=znz s _ _ h
   refine⟨?_,?_,fun e=>?_,fun e=>?_,fun e=>?_,fun e=>?_,h6⟩
   ·repeat'(first|omega|split at h3)
   ·repeat'(first|omega|split at h3)
   ·rw[if_pos e]at h4;simpa using h4
   ·rw[if_neg (by omega),if_pos e]at h4;simpa using h4
   ·rw[if_neg (by omega),if_pos e]at h3;omega
   ·rw[if_neg (by omega),if_neg (by omega),if_pos e]at h3;omega
theorem znz:∀(fs:List zac) (d:Int) (n:Nat),(zd3 false fs d n).1.code=0→zgg fs
 |[],d,n,_=>by rw[zgg];trivial
 |f::fs,d,n,h=>by
  rw[zd3]at h
  split at h
  ·rename_i h1;exact absurd h h1
  ·rename_i h1
   rw[zgg]
   exact⟨zqt f d n (Decidable.not_not.1 h1),znz fs d _ h⟩
end
theorem zis {f:zac}(h:(zaL false f).code=0):vok f:=zqt f 1 0 h
structure zHA (m:zcZ):Prop where
 c:∀i j (hi:i<m.consts.length) (hj:j<m.consts.length),i<j→m.consts[i].name.l<m.consts[j].name.l
 r:∀i j (hi:i<m.rels.length) (hj:j<m.rels.length),i<j→ltR m.rels[i] m.rels[j]
 t:∀r∈m.rels,∀i j (hi:i<r.tuples.length) (hj:j<r.tuples.length),i<j→zDy r.tuples[i] r.tuples[j]<0
 s1:1≤m.size
 s6:m.size≤6
 lc:m.consts.length≤10000000
 lr:m.rels.length≤300
end Go.Abs

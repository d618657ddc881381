/- several texts of this proof in one; no conditions -/
import Derived.Test.YtkkffhphodngkabGreatDoorY17
import Derived.KernelRfl
import Derived.Test.YtkkffhphodngkabGreatDoorBF
import Derived.Test.YtkkffhphodngkabGreatDoorVS
set_option linter.unusedSimpArgs false
namespace Go.Abs
open Go
structure Brn where
 list:List zac
 used:List Bool
 seen:List (List Str)
 rounds:Int
def zAM (b:Brn):FD:= .agg [.sl (b.list.map enc),.sl (b.used.map enc),.sl (b.seen.map enc),.i .i64 b.rounds]
def zAK:FD→Brn
 | .agg [l,u,s,.i _ r]=>⟨dec l,dec u,dec s,r⟩
 |_=>⟨[],[],[],0⟩
theorem zpf (b:Brn):zAK (zAM b)=b:=by
 have h1:dec (.sl (b.list.map enc))=b.list:=dec_enc b.list
 have h2:dec (.sl (b.used.map enc))=b.used:=dec_enc b.used
 have h3:dec (.sl (b.seen.map enc))=b.seen:=dec_enc b.seen
 unfold zAK zAM
 simp only[h1,h2,h3]
instance:Enc Brn:=⟨zAM,zAK,zpf⟩
@[go_sem] theorem zHG {b:Brn}:enc b= .agg [.sl (b.list.map enc),.sl (b.used.map enc),.sl (b.seen.map enc),.i .i64 b.rounds]:=rfl
@[go_sem] theorem zHC {l u s:FD}{i:IntKind}{r:Int}:dec (α:=Brn) (.agg [l,u,s,.i i r])=⟨dec l,dec u,dec s,r⟩:=rfl
@[go_sem] theorem zFP {l u s r}:(Brn.mk l u s r).list=l:=rfl
@[go_sem] theorem zFR {l u s r}:(Brn.mk l u s r).used=u:=rfl
@[go_sem] theorem zFQ {l u s r}:(Brn.mk l u s r).seen=s:=rfl
@[go_sem] theorem zB7 {l u s r}:(Brn.mk l u s r).rounds=r:=rfl
@[go_sem] theorem zaB {b:Brn}:Brn.mk b.list b.used b.seen b.rounds=b:=by cases b;rfl
def zbT (b:Brn)(fs:List zac):Brn:=⟨b.list++fs,b.used++List.replicate fs.length false,b.seen++List.replicate fs.length [],b.rounds⟩
def zb0:Prf:= .mk 0 0 0 ⟨[]⟩ []
def zf2 (p:zac→Bool):List zac→Nat→Option Nat
 |[],_=>none
 |x::xs,k=>if p x then some k else zf2 p xs (k+1)
def zcQ (c:List za4)(l:List zac)(f:zac)(i:Nat):Option Prf:=
 if zmx c f then some (.mk 1 i i ⟨[]⟩ [])
 else if f.kind=4∧(zb6 f).kind=2 then(zf2 (fun h=>zeI c h (zb6 f)) l 0).map fun(k:Nat)=>Prf.mk 1 (k:Int) i ⟨[]⟩ []
 else none
def zeb (c:List za4)(l:List zac):List zac→Nat→Option Prf
 |[],_=>none
 |f::fs,i=>match zcQ c l f i with
  |some p=>some p
  |none=>zeb c l fs (i+1)
def zc4 (l:List zac):Option Prf:=zeb (zgx l) l l 0
def zhh (l:List zac):Prf×Bool:=match zc4 l with
 |some p=>(p,true)
 |none=>(zb0,false)
def zaH (l:List zac):List Str:=(zdH (zhC ((l.flatMap zaP).map (·.l)))).map Str.mk
def zcO (k:Nat):Str:=⟨99::zbv k⟩
def zcI (have':List Str):Nat→Nat→Nat
 |0,k=>k
 |m+1,k=>if zcO k∈have' then zcI have' m (k+1)else k
def zf3 (have':List Str):Str:=zcO (zcI have' have'.length 0)
structure Res where
 p:Prf
 ok:Bool
 lim:Bool
 added:Int
def zoL (a:Int):Res:=⟨zb0,false,true,a⟩
def zc9 (want:Int):List zac→List Bool→Nat→Option Nat
 |f::fs,u::us,i=>if u=false∧(zah f).1=want then some i else zc9 want fs us (i+1)
 |[],_,_=>none
 |_::_,[],_=>none
def ze5 (rec:Brn→Int→Res)(b1:Brn)(i:Nat):List zac→List Prf→Int→Res
 |[],subs,a=>⟨.mk 3 i 0 ⟨[]⟩ subs,true,false,a⟩
 |x::xs,subs,a=>
  if 300<a+1 then zoL (a+1)
  else if(rec (zbT b1 [x]) (a+1)).ok=false then⟨zb0,false,(rec (zbT b1 [x]) (a+1)).lim,(rec (zbT b1 [x]) (a+1)).added⟩
  else ze5 rec b1 i xs (subs++[(rec (zbT b1 [x]) (a+1)).p]) (rec (zbT b1 [x]) (a+1)).added
def zcX (b:Brn)(i:Nat):Brn:=⟨b.list,b.used.set i true,b.seen,b.rounds⟩
def zqh (i:Nat)(r:Res):Res:=⟨.mk 2 i 0 ⟨[]⟩ [r.p],r.ok,r.lim,r.added⟩
def zna (i:Nat)(nm:Str)(r:Res):Res:=⟨.mk 5 i 0 nm [r.p],r.ok,r.lim,r.added⟩
def zcR (rec:Brn→Int→Res)(b:Brn)(a:Int)(i:Nat)(f:zac):Res:=
 if(zah f).1=1 then
  if 300<a+(zah f).2.1.length then zoL (a+(zah f).2.1.length)
  else zqh i (rec (zbT (zcX b i) (zah f).2.1) (a+(zah f).2.1.length))
 else if(zah f).1=4 then
  if 300<a+1 then zoL (a+1)
  else zna i (zf3 (zaH b.list)) (rec (zbT (zcX b i) [zbK (zah f).2.2.1 (zah f).2.2.2 (zf3 (zaH b.list))]) (a+1))
 else ze5 rec (zcX b i) i (zah f).2.1 [] a
structure GS where
 c:Brn
 steps:List Prf
 added:Int
inductive GR where
 |lim (a:Int)
 |go (s:GS)
def saw (c:Brn)(i:Nat)(w:Str):Brn:=⟨c.list,c.used,c.seen.set i (c.seen.getD i []++[w]),c.rounds⟩
def zii (q:zac)(t:Bool)(i:Nat):List Str→GS→GR
 |[],s=> .go s
 |w::ws,s=>
  if w∈s.c.seen.getD i []then zii q t i ws s
  else if 300<s.added+1 then .lim (s.added+1)
  else zii q t i ws ⟨zbT (saw s.c i w) [zbK q t w],s.steps++[.mk 4 i 0 w []],s.added+1⟩
def GR.bind (r:GR)(k:GS→GR):GR:=match r with
 | .lim a=> .lim a
 | .go s=>k s
def zhm (ws:List Str):List zac→Nat→GS→GR
 |[],_,s=> .go s
 |f::fs,i,s=>if(zah f).1=3 then(zii (zah f).2.2.1 (zah f).2.2.2 i ws s).bind (zhm ws fs (i+1))else zhm ws fs (i+1) s
def zid (steps:List Prf)(p:Prf):Prf:=steps.foldr (fun s p=> .mk s.kind s.form s.other s.name [p]) p
def zdI (l:List zac):List Str:=if zaH l=[]then[⟨[99,48]⟩]else zaH l
def zyd (rec:Brn→Int→Res):GR→Res
 | .lim a=>zoL a
 | .go s=>if s.steps=[]then⟨zb0,false,false,s.added⟩else⟨zid s.steps (rec s.c s.added).p,(rec s.c s.added).ok,(rec s.c s.added).lim,(rec s.c s.added).added⟩
def zft (rec:Brn→Int→Res)(uses:Int)(b:Brn)(a:Int):Res:=
 if b.rounds=uses then⟨zb0,false,false,a⟩
 else zyd rec (zhm (zdI b.list) b.list 0 ⟨⟨b.list,b.used,b.seen,b.rounds+1⟩,[],a⟩)
def zfz (rec:Brn→Int→Res)(b:Brn)(a:Int)(k:Res):List Int→Res
 |[]=>k
 |w::ws=>match zc9 w b.list b.used 0 with
  |some i=>zcR rec b a i (b.list.getD i za7)
  |none=>zfz rec b a k ws
def zmb (rec:Brn→Int→Res)(uses:Int)(b:Brn)(a:Int):Res:=match zc4 b.list with
 |some p=>⟨p,true,false,a⟩
 |none=>zfz rec b a (zft rec uses b a) [1,4,2]
def zfR (uses:Int):Nat→Brn→Int→Res
 |0,_,a=>zoL a
 |n+1,b,a=>zmb (zfR uses n) uses b a
section
variable {r1 r2:Brn→Int→Res}
theorem zqj {b1:Brn}{i:Nat}(h:∀b a,b.rounds=b1.rounds→(r1 b a).ok=true→r2 b a=r1 b a):∀(xs:List zac) (subs:List Prf) (a:Int),(ze5 r1 b1 i xs subs a).ok=true→ze5 r2 b1 i xs subs a=ze5 r1 b1 i xs subs a
 |[],subs,a,_=>rfl
 |x::xs,subs,a,hk=>by
  rw[ze5]at hk ⊢
  rw[ze5]
  by_cases h1:300<a+1
  ·rw[if_pos h1,if_pos h1]
  ·rw[if_neg h1]at hk ⊢
   rw[if_neg h1]
   by_cases h2:(r1 (zbT b1 [x]) (a+1)).ok=false
   ·rw[if_pos h2]at hk
    simp at hk
   ·have h3:=h (zbT b1 [x]) (a+1) rfl (by simpa using h2)
    rw[if_neg h2]at hk ⊢
    rw[h3,if_neg h2]
    exact zqj h xs _ _ hk
theorem zgc {q:zac}{t:Bool}{i:Nat}:∀(ws:List Str) (s s':GS),zii q t i ws s= .go s'→s'.c.rounds=s.c.rounds
 |[],s,s',h=>by rw[zii]at h;cases h;rfl
 |w::ws,s,s',h=>by
  rw[zii]at h
  by_cases h1:w∈s.c.seen.getD i []
  ·rw[if_pos h1]at h
   exact zgc ws s s' h
  ·rw[if_neg h1]at h
   by_cases h2:300<s.added+1
   ·rw[if_pos h2]at h;cases h
   ·rw[if_neg h2]at h
    have h3:=zgc ws _ s' h
    exact h3
theorem zgb {ws:List Str}:∀(l:List zac) (i:Nat) (s s':GS),zhm ws l i s= .go s'→s'.c.rounds=s.c.rounds
 |[],i,s,s',h=>by rw[zhm]at h;cases h;rfl
 |f::fs,i,s,s',h=>by
  rw[zhm]at h
  split at h
  ·cases hg:zii (zah f).2.2.1 (zah f).2.2.2 i ws s with
   |lim a=>rw[hg]at h;cases h
   |go s1=>
    rw[hg]at h
    exact(zgb fs (i+1) s1 s' h).trans (zgc ws s s1 hg)
  ·exact zgb fs (i+1) s s' h
theorem zuW {b:Brn}{a:Int}{i:Nat}{f:zac}(h:∀b' a,b'.rounds=b.rounds→(r1 b' a).ok=true→r2 b' a=r1 b' a)(hk:(zcR r1 b a i f).ok=true):zcR r2 b a i f=zcR r1 b a i f:=by
 unfold zcR at hk ⊢
 by_cases h1:(zah f).1=1
 ·rw[if_pos h1]at hk
  rw[if_pos h1,if_pos h1]
  by_cases h2:300<a+(zah f).2.1.length
  ·rw[if_pos h2,if_pos h2]
  ·rw[if_neg h2]at hk
   rw[if_neg h2,if_neg h2]
   exact congrArg (zqh i) (h _ _ (by rfl) hk)
 ·rw[if_neg h1]at hk
  rw[if_neg h1,if_neg h1]
  by_cases h3:(zah f).1=4
  ·rw[if_pos h3]at hk
   rw[if_pos h3,if_pos h3]
   by_cases h2:300<a+1
   ·rw[if_pos h2,if_pos h2]
   ·rw[if_neg h2]at hk
    rw[if_neg h2,if_neg h2]
    exact congrArg (zna i _) (h _ _ (by rfl) hk)
  ·rw[if_neg h3]at hk
   rw[if_neg h3,if_neg h3]
   have h4:=zqj (b1:=zcX b i) (fun b' a hb=>h b' a hb) _ _ _ hk
   exact h4
theorem zq8 {b:Brn}{a:Int}{k1 k2:Res}(h:∀b' a,b'.rounds=b.rounds→(r1 b' a).ok=true→r2 b' a=r1 b' a)(hkk:k1.ok=true→k2=k1):∀ws:List Int,(zfz r1 b a k1 ws).ok=true→zfz r2 b a k2 ws=zfz r1 b a k1 ws
 |[],hk=>hkk hk
 |w::ws,hk=>by
  rw[zfz]at hk ⊢
  rw[zfz]
  cases hi:zc9 w b.list b.used 0 with
  |some i=>
   rw[hi]at hk
   exact zuW h hk
  |none=>
   rw[hi]at hk
   exact zq8 h hkk ws hk
end
theorem zpY {uses:Int}:∀(n:Nat) (b:Brn) (a:Int),b.rounds≤uses→(zfR uses n b a).ok=true→zfR (uses+1) n b a=zfR uses n b a
 |0,b,a,_,_=>rfl
 |n+1,b,a,hb,hk=>by
  rw[zfR]at hk ⊢
  rw[zfR]
  unfold zmb at hk ⊢
  cases hp:zc4 b.list with
  |some p=>rfl
  |none=>
   rw[hp]at hk
   refine zq8 (fun b' a' e h1=>zpY n b' a' (by omega) h1) (fun hg=>?_) _ hk
   unfold zft at hg ⊢
   by_cases h1:b.rounds=uses
   ·rw[if_pos h1]at hg
    simp at hg
   ·rw[if_neg h1]at hg ⊢
    rw[if_neg (by omega)]
    cases hG:zhm (zdI b.list) b.list 0 ⟨⟨b.list,b.used,b.seen,b.rounds+1⟩,[],a⟩with
    |lim a'=>rfl
    |go s=>
     rw[hG]at hg
     have hr:=zgb _ _ _ _ hG
     simp only at hr
     unfold zyd at hg ⊢
     simp only at hg ⊢
     by_cases h2:s.steps=[]
     ·rw[if_pos h2,if_pos h2]
     ·rw[if_neg h2]at hg ⊢
      rw[if_neg h2]
      rw[zpY n s.c s.added (by omega) hg]
theorem zkD {f g:zac}{j:Int}(k4:f.kind=4)(s0:zb6 f=g)(hj:g.kind=j):
  (zah f).1=if j=4 then 1 else if j=5 then 2 else if j=6 then 1 else if j=7 then 1 else if j=8 then 4 else if j=9 then 3 else 0:=by
 subst hj s0
 unfold zah
 rw[if_neg (by omega),if_neg (by omega),if_neg (by omega),if_neg (by omega),if_neg (by omega),if_pos k4]
 repeat'(first|rfl|(split;try rfl))
theorem zjn {f:zac}{j:Int}(k4:¬f.kind=4)(hj:f.kind=j):
  (zah f).1=if j=5 then 1 else if j=6 then 2 else if j=7 then 2 else if j=8 then 3 else if j=9 then 4 else 0:=by
 subst hj
 unfold zah
 repeat'(first|rfl|(split;try rfl))
 all_goals contradiction
end Go.Abs
namespace Go.Abs
open Go
structure zcN (uses:Int)(b:Brn)(a:Int):Prop where
 br:∀f∈b.list,brF f
 ll:(b.list.length:Int)≤41+a
 ul:b.used.length=b.list.length
 sl:b.seen.length=b.list.length
 ss:∀s∈b.seen,(s.length:Int)≤a
 r0:0≤b.rounds
 r1:b.rounds≤uses
 u:uses≤1000
 a0:0≤a
 a1:a≤300
section
variable {uses:Int} {b:Brn} {a:Int}
theorem zcN.mono (h:zcN uses b a){a':Int}(h1:a≤a')(h2:a'≤300):zcN uses b a':=
 ⟨h.br,by have:=h.ll;omega,h.ul,h.sl,fun s hs=>by have:=h.ss s hs;omega,h.r0,h.r1,h.u,by have:=h.a0;omega,h2⟩
theorem zcN.mark (h:zcN uses b a)(i:Nat):zcN uses (zcX b i) a:=
 ⟨h.br,h.ll,by unfold zcX;simp only[List.length_set];exact h.ul,h.sl,h.ss,h.r0,h.r1,h.u,h.a0,h.a1⟩
theorem zcN.add (h:zcN uses b a){fs:List zac}(hf:∀f∈fs,brF f){a':Int}(ha:a'=a+fs.length)(h2:a'≤300):zcN uses (zbT b fs) a':=by
 subst ha
 have hll:=h.ll
 have ha0:=h.a0
 refine⟨fun f hf'=>?_,?_,?_,?_,fun s hs=>?_,h.r0,h.r1,h.u,by omega,h2⟩
 ·rcases List.mem_append.1 hf' with h1|h1
  ·exact h.br f h1
  ·exact hf f h1
 ·show((b.list++fs).length:Int)≤_
  rw[List.length_append];omega
 ·show(b.used++List.replicate fs.length false).length=(b.list++fs).length
  rw[List.length_append,List.length_append,List.length_replicate,h.ul]
 ·show(b.seen++List.replicate fs.length []).length=(b.list++fs).length
  rw[List.length_append,List.length_append,List.length_replicate,h.sl]
 ·rcases List.mem_append.1 hs with h1|h1
  ·have:=h.ss s h1;omega
  ·rw[(List.mem_replicate.1 h1).2];simp only[List.length_nil];omega
theorem zcN.saw (h:zcN uses b a){i:Nat}{w:Str}{I:zac}(hi:i<b.seen.length)(hI:brF I)(h2:a+1≤300):zcN uses (zbT (saw b i w) [I]) (a+1):=by
 have hll:=h.ll
 have ha0:=h.a0
 refine⟨fun f hf'=>?_,?_,?_,?_,fun s hs=>?_,h.r0,h.r1,h.u,by omega,h2⟩
 ·rcases List.mem_append.1 hf' with h1|h1
  ·exact h.br f h1
  ·rw[List.mem_singleton.1 h1];exact hI
 ·show((b.list++[I]).length:Int)≤_
  rw[List.length_append,List.length_singleton];omega
 ·show(b.used++List.replicate 1 false).length=(b.list++[I]).length
  rw[List.length_append,List.length_append,List.length_replicate,h.ul];rfl
 ·show(b.seen.set i (b.seen.getD i []++[w])++List.replicate 1 []).length=(b.list++[I]).length
  rw[List.length_append,List.length_append,List.length_replicate,List.length_set,h.sl];rfl
 ·rcases List.mem_append.1 hs with h1|h1
  ·rcases List.mem_or_eq_of_mem_set h1 with h3|h3
   ·have:=h.ss s h3;omega
   ·have hm:b.seen.getD i []∈b.seen:=by
     rw[List.getD_eq_getElem?_getD,List.getElem?_eq_getElem hi];exact List.getElem_mem hi
    have h4:=h.ss _ hm
    rw[h3,List.length_append,List.length_singleton]
    omega
  ·rw[(List.mem_replicate.1 h1).2];simp only[List.length_nil];omega
theorem zmH {f:zac}(h:(zah f).1=1):1≤(zah f).2.1.length:=by
 unfold zah at h ⊢
 by_cases h0:f.kind=5
 ·rw[if_pos h0];exact(by decide:(1:Nat)≤2)
 rw[if_neg h0]at h ⊢
 by_cases h1:f.kind=6
 ·rw[if_pos h1]at h;exact absurd h (show¬((2:Int)=1) by decide)
 rw[if_neg h1]at h ⊢
 by_cases h2:f.kind=7
 ·rw[if_pos h2]at h;exact absurd h (show¬((2:Int)=1) by decide)
 rw[if_neg h2]at h ⊢
 by_cases h3:f.kind=8
 ·rw[if_pos h3]at h;exact absurd h (show¬((3:Int)=1) by decide)
 rw[if_neg h3]at h ⊢
 by_cases h4:f.kind=9
 ·rw[if_pos h4]at h;exact absurd h (show¬((4:Int)=1) by decide)
 rw[if_neg h4]at h ⊢
 by_cases hk:f.kind=4
 rotate_left
 ·rw[if_neg hk]at h;exact absurd h (show¬((0:Int)=1) by decide)
 rw[if_pos hk]at h ⊢
 by_cases h5:(zb6 f).kind=4
 ·rw[if_pos h5];exact(by decide:(1:Nat)≤1)
 rw[if_neg h5]at h ⊢
 by_cases h6:(zb6 f).kind=5
 ·rw[if_pos h6]at h;exact absurd h (show¬((2:Int)=1) by decide)
 rw[if_neg h6]at h ⊢
 by_cases h7:(zb6 f).kind=6
 ·rw[if_pos h7];exact(by decide:(1:Nat)≤2)
 rw[if_neg h7]at h ⊢
 by_cases h8:(zb6 f).kind=7
 ·rw[if_pos h8];exact(by decide:(1:Nat)≤2)
 rw[if_neg h8]at h ⊢
 by_cases h9:(zb6 f).kind=8
 ·rw[if_pos h9]at h;exact absurd h (show¬((4:Int)=1) by decide)
 rw[if_neg h9]at h ⊢
 by_cases h10:(zb6 f).kind=9
 ·rw[if_pos h10]at h;exact absurd h (show¬((3:Int)=1) by decide)
 rw[if_neg h10]at h ⊢
 exact absurd h (show¬((0:Int)=1) by decide)
theorem zho {q:zac}{t:Bool}{i:Nat}:∀(ws:List Str) (s:GS),s.added≤300→match zii q t i ws s with
  | .lim a=>s.added≤a
  | .go s'=>s.added≤s'.added∧s'.added≤300
 |[],s,h=>by rw[zii];exact⟨Int.le_refl _,h⟩
 |w::ws,s,h=>by
  rw[zii]
  by_cases h1:w∈s.c.seen.getD i []
  ·rw[if_pos h1];exact zho ws s h
  ·rw[if_neg h1]
   by_cases h2:300<s.added+1
   ·rw[if_pos h2];simp only;omega
   ·rw[if_neg h2]
    have h3:=zho (q:=q) (t:=t) (i:=i) ws ⟨zbT (saw s.c i w) [zbK q t w],s.steps++[.mk 4 i 0 w []],s.added+1⟩ (by simp only;omega)
    revert h3
    generalize zii q t i ws ⟨zbT (saw s.c i w) [zbK q t w],s.steps++[.mk 4 i 0 w []],s.added+1⟩=r
    cases r with
    |lim a=>intro h3;simp only at h3 ⊢;omega
    |go s'=>intro h3;simp only at h3 ⊢;omega
theorem zhn {ws:List Str}:∀(l:List zac) (i:Nat) (s:GS),s.added≤300→match zhm ws l i s with
  | .lim a=>s.added≤a
  | .go s'=>s.added≤s'.added∧s'.added≤300
 |[],i,s,h=>by rw[zhm];exact⟨Int.le_refl _,h⟩
 |f::fs,i,s,h=>by
  rw[zhm]
  by_cases h1:(zah f).1=3
  ·rw[if_pos h1]
   have h2:=zho (q:=(zah f).2.2.1) (t:=(zah f).2.2.2) (i:=i) ws s h
   revert h2
   generalize zii (zah f).2.2.1 (zah f).2.2.2 i ws s=r
   cases r with
   |lim a=>intro h2;exact h2
   |go s'=>
    intro h2
    have h3:=zhn (ws:=ws) fs (i+1) s' h2.2
    show match zhm ws fs (i+1) s' with
     | .lim a=>s.added≤a
     | .go s'=>s.added≤s'.added∧s'.added≤300
    revert h3
    generalize zhm ws fs (i+1) s'=r
    cases r with
    |lim a=>intro h3;simp only at h2 h3 ⊢;omega
    |go s''=>intro h3;simp only at h2 h3 ⊢;omega
  ·rw[if_neg h1];exact zhn fs (i+1) s h
def zkV (a:Int)(r:Res):Prop:=a≤r.added∧(r.ok=true→r.added≤300)
theorem ziF {rec:Brn→Int→Res}{b1:Brn}{i:Nat}(h:∀b a,a≤300→zkV a (rec b a)):∀(xs:List zac) (subs:List Prf) (a:Int),a≤300→zkV a (ze5 rec b1 i xs subs a)
 |[],subs,a,ha=>⟨Int.le_refl _,fun _=>ha⟩
 |x::xs,subs,a,ha=>by
  rw[ze5]
  by_cases h1:300<a+1
  ·rw[if_pos h1];exact⟨by show a≤a+1;omega,fun e=>by cases e⟩
  ·rw[if_neg h1]
   have h2:=h (zbT b1 [x]) (a+1) (by omega)
   by_cases h3:(rec (zbT b1 [x]) (a+1)).ok=false
   ·rw[if_pos h3]
    exact⟨by have:=h2.1;simp only;omega,fun e=>by cases e⟩
   ·rw[if_neg h3]
    have h4:=ziF (b1:=b1) (i:=i) h xs (subs++[(rec (zbT b1 [x]) (a+1)).p]) _ (h2.2 (by simpa using h3))
    exact⟨by have:=h2.1;have:=h4.1;omega,h4.2⟩
theorem znx {rec:Brn→Int→Res}{i:Nat}{f:zac}(h:∀b a,a≤300→zkV a (rec b a))(ha:a≤300):zkV a (zcR rec b a i f):=by
 unfold zcR
 by_cases h1:(zah f).1=1
 ·rw[if_pos h1]
  by_cases h2:300<a+(zah f).2.1.length
  ·rw[if_pos h2];exact⟨by show a≤a+_;omega,fun e=>by cases e⟩
  ·rw[if_neg h2]
   have h3:=h (zbT (zcX b i) (zah f).2.1) (a+(zah f).2.1.length) (by omega)
   exact⟨by have:=h3.1;show a≤(rec _ _).added;omega,h3.2⟩
 ·rw[if_neg h1]
  by_cases h4:(zah f).1=4
  ·rw[if_pos h4]
   by_cases h2:300<a+1
   ·rw[if_pos h2];exact⟨by show a≤a+1;omega,fun e=>by cases e⟩
   ·rw[if_neg h2]
    have h3:=h (zbT (zcX b i) [zbK (zah f).2.2.1 (zah f).2.2.2 (zf3 (zaH b.list))]) (a+1) (by omega)
    exact⟨by have:=h3.1;show a≤(rec _ _).added;omega,h3.2⟩
  ·rw[if_neg h4];exact ziF h _ _ _ ha
theorem zfS {uses:Int}:∀(n:Nat) (b:Brn) (a:Int),a≤300→zkV a (zfR uses n b a)
 |0,b,a,ha=>⟨Int.le_refl _,fun e=>by cases e⟩
 |n+1,b,a,ha=>by
  rw[zfR]
  unfold zmb
  have ih:=zfS (uses:=uses) n
  cases zc4 b.list with
  |some p=>exact⟨Int.le_refl _,fun _=>ha⟩
  |none=>
   have hg:zkV a (zft (zfR uses n) uses b a):=by
    unfold zft
    by_cases h1:b.rounds=uses
    ·rw[if_pos h1];exact⟨Int.le_refl _,fun e=>by cases e⟩
    ·rw[if_neg h1]
     have h2:=zhn (ws:=zdI b.list) b.list 0 ⟨⟨b.list,b.used,b.seen,b.rounds+1⟩,[],a⟩ ha
     revert h2
     generalize zhm (zdI b.list) b.list 0 ⟨⟨b.list,b.used,b.seen,b.rounds+1⟩,[],a⟩=r
     cases r with
     |lim a'=>intro h2;exact⟨h2,fun e=>by cases e⟩
     |go s=>
      intro h2
      simp only at h2
      unfold zyd
      simp only
      by_cases h3:s.steps=[]
      ·rw[if_pos h3];exact⟨h2.1,fun e=>by cases e⟩
      ·rw[if_neg h3]
       have h4:=ih s.c s.added h2.2
       exact⟨by have:=h4.1;have:=h2.1;simp only;omega,h4.2⟩
   have key:∀ws:List Int,zkV a (zfz (zfR uses n) b a (zft (zfR uses n) uses b a) ws):=by
    intro ws
    induction ws with
    |nil=>exact hg
    |cons w ws ihw=>
     rw[zfz]
     cases zc9 w b.list b.used 0 with
     |some i=>exact znx ih ha
     |none=>exact ihw
   exact key _
theorem zhu {want:Int}{l:List zac}{u:List Bool}{i k:Nat}(h:i<l.length)(h2:i<u.length):zc9 want (l.drop i) (u.drop i) k=if u[i]=false∧(zah l[i]).1=want then some k else zc9 want (l.drop (i+1)) (u.drop (i+1)) (k+1):=by
 rw[List.drop_eq_getElem_cons h,List.drop_eq_getElem_cons h2,zc9]
theorem zjq {want:Int}{l:List zac}{u:List Bool}{i k:Nat}(h:l.length≤i):zc9 want (l.drop i) (u.drop i) k=none:=by
 rw[List.drop_eq_nil_of_le h,zc9]
theorem zu1 {q:zac}{t:Bool}{i j:Nat}{ws:List Str}{s:GS}(h:j<ws.length):zii q t i (ws.drop j) s=
  if ws[j]∈s.c.seen.getD i []then zii q t i (ws.drop (j+1)) s
  else if 300<s.added+1 then .lim (s.added+1)
  else zii q t i (ws.drop (j+1)) ⟨zbT (saw s.c i ws[j]) [zbK q t ws[j]],s.steps++[.mk 4 i 0 ws[j] []],s.added+1⟩:=by
 rw[List.drop_eq_getElem_cons h,zii]
theorem zu0 {ws:List Str}{l:List zac}{i k:Nat}{s:GS}(h:i<l.length):zhm ws (l.drop i) k s=
  if(zah l[i]).1=3 then(zii (zah l[i]).2.2.1 (zah l[i]).2.2.2 k ws s).bind (zhm ws (l.drop (i+1)) (k+1))else zhm ws (l.drop (i+1)) (k+1) s:=by
 rw[List.drop_eq_getElem_cons h,zhm]
theorem zr0 {rec:Brn→Int→Res}{b1:Brn}{i j:Nat}{xs:List zac}{subs:List Prf}(h:j<xs.length):ze5 rec b1 i (xs.drop j) subs a=
  if 300<a+1 then zoL (a+1)
  else if(rec (zbT b1 [xs[j]]) (a+1)).ok=false then⟨zb0,false,(rec (zbT b1 [xs[j]]) (a+1)).lim,(rec (zbT b1 [xs[j]]) (a+1)).added⟩
  else ze5 rec b1 i (xs.drop (j+1)) (subs++[(rec (zbT b1 [xs[j]]) (a+1)).p]) (rec (zbT b1 [xs[j]]) (a+1)).added:=by
 rw[List.drop_eq_getElem_cons h,ze5]
end
theorem zut {u v:Nat}(h:zcO u=zcO v):u=v:=zkp (List.cons.inj (Str.mk.inj h)).2
theorem zny (used:List Str):∀m k,k≤zcI used m k∧zcI used m k≤k+m
 |0,k=>by simp[zcI]
 |m+1,k=>by
  rw[zcI]
  split
  ·have:=zny used m (k+1);omega
  ·omega
theorem zhW (used:List Str):∀m k i,k≤i→i<zcI used m k→zcO i∈used
 |0,k,i,h1,h2=>by simp only[zcI]at h2;omega
 |m+1,k,i,h1,h2=>by
  rw[zcI]at h2
  split at h2
  ·rename_i h
   rcases Nat.eq_or_lt_of_le h1 with rfl|h1
   ·exact h
   ·exact zhW used m (k+1) i h1 h2
  ·omega
theorem zi4 (used:List Str):∀m k,zcI used m k<k+m→zcO (zcI used m k)∉used
 |0,k,h=>by simp[zcI]at h
 |m+1,k,h=>by
  rw[zcI]at h ⊢
  split
  ·rename_i h1
   rw[if_pos h1]at h
   exact zi4 used m (k+1) (by omega)
  ·assumption
theorem zJn:∀(used:List Str) (S:List Nat),S.Nodup→(∀i∈S,zcO i∈used)→S.length≤used.length
 |[],S,_,h=>by
  cases S with
  |nil=>simp
  |cons i S=>have:=h i (by simp);simp at this
 |u::us,S,hn,h=>by
  by_cases he:∃i∈S,zcO i=u
  ·obtain⟨i,hi,rfl⟩:=he
   have h1:=zJn us (S.erase i) (hn.erase i) fun j hj=>by
    have h2:=(List.Nodup.mem_erase_iff hn).1 hj
    rcases List.mem_cons.1 (h j h2.2)with h3|h3
    ·exact absurd (zut h3) h2.1
    ·exact h3
   rw[List.length_erase_of_mem hi]at h1
   simp only[List.length_cons]
   omega
  ·have h1:=zJn us S hn fun j hj=>by
    rcases List.mem_cons.1 (h j hj)with h3|h3
    ·exact absurd ⟨j,hj,h3⟩ he
    ·exact h3
   simp only[List.length_cons]
   omega
theorem zi5 (used:List Str):zcI used used.length 0≤used.length∧zcO (zcI used used.length 0)∉used∧∀i,i<zcI used used.length 0→zcO i∈used:=by
 have h1:=zny used used.length 0
 have h2:=zhW used used.length 0
 refine⟨by omega,?_,fun i hi=>h2 i (Nat.zero_le _) hi⟩
 rcases Nat.lt_or_ge (zcI used used.length 0) (0+used.length)with h|h
 ·exact zi4 used _ _ h
 ·have he:zcI used used.length 0=used.length:=by omega
  intro hin
  rw[he]at hin h2
  have h3:=zJn used (List.range' 0 (used.length+1)) List.nodup_range' fun i hi=>by
   have:=List.mem_range'_1.1 hi
   rcases Nat.lt_or_ge i used.length with h4|h4
   ·exact h2 i (Nat.zero_le _) h4
   ·obtain rfl:i=used.length:=by omega
    exact hin
  rw[List.length_range']at h3
  omega
end Go.Abs
namespace Go.Abs
open Go
def zlK:Str:=⟨[109,97,110]⟩
def zwZ:Str:=⟨[109,111,114,116,97,108]⟩
def zjS:Str:=⟨[107,105,109]⟩
def exS:Str:=⟨[120]⟩
def v0S:Str:=⟨[118,48]⟩
def prF (n w:Str):zac:= .mk 2 n [w] []
def zxm (x:Str):zac:= .mk 8 x [] [.mk 7 ⟨[]⟩ [] [prF zlK x,prF zwZ x]]
def zfx:List zac:=[zxm exS,prF zlK zjS]
def zj3:zac:=prF zwZ zjS
theorem zzm {f:zac}(h:cst f []=[]):zaP f=[]:=by
 cases hu:zaP f with
 |nil=>rfl
 |cons x l=>
  have:=(za9 f x).1 (by rw[hu];simp)
  rw[h]at this
  simp at this
theorem zyx:zaC (zxm exS) []=zxm v0S:=by
 unfold zaC
 rw[zzm (by kernel_rfl)]
 kernel_rfl
theorem zvw:zaC (prF zlK zjS) []=prF zlK zjS:=by kernel_rfl
end Go.Abs
namespace Go.Abs
open Go
theorem zr6 {j:Nat}(h:j<10^20):zas (zcO j)=true:=by
 have h1:=znb 19 j h
 refine zjh ?_ ?_ ?_ fun i hi=>?_
 ·simp[zcO]
 ·simp only[zcO,List.length_cons];omega
 ·simp[zcO,znM]
 ·simp only[zcO,List.length_cons]at hi ⊢
  cases i with
  |zero=>show okc (99:UInt8);decide
  |succ i=>
   rw[List.getD_cons_succ]
   have hm:(zbv j).getD i 0∈zbv j:=by
    rw[List.getD_eq_getElem?_getD,List.getElem?_eq_getElem (by omega)]
    exact List.getElem_mem _
   have:=h1.2 _ hm
   exact .inr (.inl ⟨by omega,by omega⟩)
theorem zy3 {f:zac}(h:brF f)(hs:(zah f).1=3∨(zah f).1=4):f.kind=8∨f.kind=9∨(f.kind=4∧((zb6 f).kind=8∨(zb6 f).kind=9)):=by
 unfold zah at hs
 have hkb:=zcl.1 h.v
 by_cases k8:f.kind=8
 ·exact .inl k8
 by_cases k9:f.kind=9
 ·exact .inr (.inl k9)
 refine .inr (.inr ?_)
 by_cases k4:f.kind=4
 ·refine⟨k4,?_⟩
  by_cases j8:(zb6 f).kind=8
  ·exact .inl j8
  by_cases j9:(zb6 f).kind=9
  ·exact .inr j9
  exfalso
  simp only[k4,j8,j9,if_false,if_true,show¬((4:Int)=5) by decide,show¬((4:Int)=6) by decide,show¬((4:Int)=7) by decide,show¬((4:Int)=8) by decide,show¬((4:Int)=9) by decide]at hs
  split at hs<;>(try split at hs)<;>(try split at hs)<;>(try split at hs)<;>simp at hs
 ·exfalso
  simp only[k4,k8,k9,if_false]at hs
  split at hs<;>(try split at hs)<;>(try split at hs)<;>simp at hs
theorem zhF {f a:zac}(h:BF f)(ha:a∈f.subs):BF0 a∧a.size+1≤800:=⟨h.o.sub ha,by have:=zac.size_sub ha;have:=h.o.b.s;omega⟩
theorem ze1 {f g a:zac}(h:BF f)(hg:g∈f.subs)(ha:a∈g.subs):BF0 a∧a.size+1≤800:=⟨(h.o.sub hg).sub ha,by have:=zac.size_sub hg;have:=zac.size_sub ha;have:=h.o.b.s;omega⟩
theorem zet {f:zac}{i:Nat}(h:i<f.subs.length):f.subs.getD i za7∈f.subs:=by
 rw[List.getD_eq_getElem?_getD,List.getElem?_eq_getElem h];exact List.getElem_mem h
theorem zvH {f:zac}(h:BF f):∀g∈(zah f).2.1,BF g:=by
 have hv:=zcl.1 h.o.b.v
 have one:∀{x:zac},vok x→(x.kind=4∨x.kind=8∨x.kind=9)→zb6 x∈x.subs:=fun{x} hx hk=>zet (f:=x) (i:=0) (by rw[(zcl.1 hx).2.2.2.2.1 hk];omega)
 have two0:∀{x:zac},vok x→(x.kind=5∨x.kind=6∨x.kind=7)→zb6 x∈x.subs:=fun{x} hx hk=>zet (f:=x) (i:=0) (by rw[(zcl.1 hx).2.2.2.2.2.1 hk];omega)
 have two1:∀{x:zac},vok x→(x.kind=5∨x.kind=6∨x.kind=7)→zzb x∈x.subs:=fun{x} hx hk=>zet (f:=x) (i:=1) (by rw[(zcl.1 hx).2.2.2.2.2.1 hk];omega)
 have C:∀{a:zac},BF0 a∧a.size+1≤800→BF (cnn a):=fun h=>h.1.cn
 have N:∀{a:zac},BF0 a∧a.size+1≤800→BF (ngg a):=fun h=>h.1.ng h.2
 have fv:=h.o.b.v
 intro g hg
 unfold zah at hg
 by_cases k5:f.kind=5
 ·rw[if_pos k5]at hg
  simp only[List.mem_cons,List.not_mem_nil,or_false]at hg
  rcases hg with rfl|rfl
  ·exact C (zhF h (two0 fv (by omega)))
  ·exact C (zhF h (two1 fv (by omega)))
 rw[if_neg k5]at hg
 by_cases k6:f.kind=6
 ·rw[if_pos k6]at hg
  simp only[List.mem_cons,List.not_mem_nil,or_false]at hg
  rcases hg with rfl|rfl
  ·exact C (zhF h (two0 fv (by omega)))
  ·exact C (zhF h (two1 fv (by omega)))
 rw[if_neg k6]at hg
 by_cases k7:f.kind=7
 ·rw[if_pos k7]at hg
  simp only[List.mem_cons,List.not_mem_nil,or_false]at hg
  rcases hg with rfl|rfl
  ·exact N (zhF h (two0 fv (by omega)))
  ·exact C (zhF h (two1 fv (by omega)))
 rw[if_neg k7]at hg
 by_cases k8:f.kind=8
 ·rw[if_pos k8]at hg
  exact absurd hg List.not_mem_nil
 rw[if_neg k8]at hg
 by_cases k9:f.kind=9
 ·rw[if_pos k9]at hg
  exact absurd hg List.not_mem_nil
 rw[if_neg k9]at hg
 by_cases k4:f.kind=4
 rotate_left
 ·rw[if_neg k4]at hg
  exact absurd hg List.not_mem_nil
 rw[if_pos k4]at hg
 have hs:=one fv (.inl k4)
 have gv:vok (zb6 f):=(h.o.sub hs).b.v
 by_cases j4:(zb6 f).kind=4
 ·rw[if_pos j4]at hg
  simp only[List.mem_cons,List.not_mem_nil,or_false]at hg
  rw[hg]
  exact C (ze1 h hs (one gv (.inl j4)))
 rw[if_neg j4]at hg
 by_cases j5:(zb6 f).kind=5
 ·rw[if_pos j5]at hg
  simp only[List.mem_cons,List.not_mem_nil,or_false]at hg
  rcases hg with rfl|rfl
  ·exact N (ze1 h hs (two0 gv (by omega)))
  ·exact N (ze1 h hs (two1 gv (by omega)))
 rw[if_neg j5]at hg
 by_cases j6:(zb6 f).kind=6
 ·rw[if_pos j6]at hg
  simp only[List.mem_cons,List.not_mem_nil,or_false]at hg
  rcases hg with rfl|rfl
  ·exact N (ze1 h hs (two0 gv (by omega)))
  ·exact N (ze1 h hs (two1 gv (by omega)))
 rw[if_neg j6]at hg
 by_cases j7:(zb6 f).kind=7
 ·rw[if_pos j7]at hg
  simp only[List.mem_cons,List.not_mem_nil,or_false]at hg
  rcases hg with rfl|rfl
  ·exact C (ze1 h hs (two0 gv (by omega)))
  ·exact N (ze1 h hs (two1 gv (by omega)))
 rw[if_neg j7]at hg
 by_cases j8:(zb6 f).kind=8
 ·rw[if_pos j8]at hg
  exact absurd hg List.not_mem_nil
 rw[if_neg j8]at hg
 by_cases j9:(zb6 f).kind=9
 ·rw[if_pos j9]at hg
  exact absurd hg List.not_mem_nil
 rw[if_neg j9]at hg
 exact absurd hg List.not_mem_nil
theorem zqY {f:zac}{nm:Str}(h:BF f)(hs:(zah f).1=3∨(zah f).1=4)(hn:zas nm=true):BF (zbK (zah f).2.2.1 (zah f).2.2.2 nm):=by
 have hq:=zy3 h.o.b hs
 have key:∀{q:zac},BF0 q→(q.kind=8∨q.kind=9)→BF (zjU q nm):=fun{q} hq0 hk=>by
  have hl:=(zcl.1 hq0.b.v).2.2.2.2.1 (.inr hk)
  have hm:zb6 q∈q.subs:=zet (f:=q) (i:=0) (by omega)
  exact(hq0.sub hm).can (by simp) fun b hb=>by rw[List.mem_singleton.1 hb];exact hn
 by_cases k4:f.kind=4
 ·have hl:=(zcl.1 h.o.b.v).2.2.2.2.1 (.inl k4)
  have hm:zb6 f∈f.subs:=zet (f:=f) (i:=0) (by omega)
  have hqk:(zb6 f).kind=8∨(zb6 f).kind=9:=by omega
  have e:zbK (zah f).2.2.1 (zah f).2.2.2 nm=ngg (zjU (zb6 f) nm):=by
   unfold zah
   rcases hqk with j|j<;>(rw[k4,j];rfl)
  have hb:=key (h.o.sub hm) hqk
  rw[e]
  refine hb.o.ng ?_
  have h2:=(zcl.1 (h.o.sub hm).b.v).2.2.2.2.1 (.inr hqk)
  have hm2:zb6 (zb6 f)∈(zb6 f).subs:=zet (f:=zb6 f) (i:=0) (by omega)
  have:=zac.size_sub hm
  have:=zac.size_sub hm2
  have:=h.o.b.s
  unfold zjU
  rw[zcA];omega
 ·have hqk:f.kind=8∨f.kind=9:=by omega
  have e:zbK (zah f).2.2.1 (zah f).2.2.2 nm=zjU f nm:=by
   unfold zah
   rcases hqk with j|j<;>(rw[j];rfl)
  rw[e]
  exact key h.o hqk
def zh8 (l:List zac):Prop:=∀f∈l,BF f
theorem zwK {f:zac}{w:Str}(h:BF f)(hw:w∈zaP f):zas w=true:=zih f [] w h.o.aw ((za9 f w).1 hw)
theorem znT {l:List zac}{w:Str}:w∈zaH l↔∃f∈l,w∈zaP f:=by
 unfold zaH
 constructor
 ·intro h
  obtain⟨x,hx,rfl⟩:=List.mem_map.1 h
  have h2:=(zcK _).mem_iff.1 ((zew _ _).1 hx)
  obtain⟨y,hy,rfl⟩:=List.mem_map.1 h2
  exact List.mem_flatMap.1 hy
 ·rintro⟨f,hf,hw⟩
  refine List.mem_map.2 ⟨w.l,(zew _ _).2 ((zcK _).mem_iff.2 (List.mem_map.2 ⟨w,List.mem_flatMap.2 ⟨f,hf,hw⟩,rfl⟩)),rfl⟩
theorem zpd {l:List zac}(h:zh8 l){w:Str}(hw:w∈zdI l):zas w=true:=by
 unfold zdI at hw
 split at hw
 ·rw[List.mem_singleton.1 hw];decide
 ·obtain⟨f,hf,h2⟩:=znT.1 hw
  exact zwK (h f hf) h2
theorem zvG {l:List zac}{w:Str}(h:w∉zaH l):zyH l w=false:=by
 unfold zyH
 rw[List.any_eq_false]
 intro f hf h2
 exact h (znT.2 ⟨f,hf,by simpa using h2⟩)
theorem zi8 {l:List zac}{i:Nat}(h:i<l.length):inL l i=true:=by
 unfold inL
 simp[h]
theorem zf9 {l:List zac}{i:Nat}(h:i<l.length):atL l i=l[i]:=by
 unfold atL
 rw[Int.toNat_natCast,List.getD_eq_getElem?_getD,List.getElem?_eq_getElem h];rfl
theorem zi2 {p:zac→Bool}:∀{l:List zac} {k n:Nat},zf2 p l k=some n→∃j,∃h:j<l.length,n=k+j∧p l[j]=true
 |[],k,n,h=>by rw[zf2]at h;cases h
 |x::l,k,n,h=>by
  rw[zf2]at h
  by_cases hp:p x=true
  ·rw[if_pos hp]at h
   cases h
   exact⟨0,by simp,rfl,hp⟩
  ·rw[if_neg hp]at h
   obtain⟨j,hj,e,h2⟩:=zi2 h
   exact⟨j+1,by simpa using hj,by omega,by simpa using h2⟩
theorem zhS {c:List za4}{l:List zac}{p:Prf}:∀{fs:List zac} {k:Nat},zeb c l fs k=some p→∃j,∃h:j<fs.length,zcQ c l fs[j] (k+j)=some p
 |[],k,h=>by rw[zeb]at h;cases h
 |f::fs,k,h=>by
  rw[zeb]at h
  cases hc:zcQ c l f k with
  |some q=>
   rw[hc]at h
   exact⟨0,by simp,by simpa using hc.trans h⟩
  |none=>
   rw[hc]at h
   obtain⟨j,hj,h2⟩:=zhS h
   exact⟨j+1,by simpa using hj,by simp only[List.getElem_cons_succ];rw[←h2];congr 1;omega⟩
theorem zr4 {l:List zac}{p:Prf}(h:zc4 l=some p):zcd p l=true∧p.size=1:=by
 unfold zc4 at h
 obtain⟨i,hi,h2⟩:=zhS h
 rw[Nat.zero_add]at h2
 unfold zcQ at h2
 by_cases hc:zmx (zgx l) l[i]=true
 ·rw[if_pos hc]at h2
  cases h2
  refine⟨?_,rfl⟩
  rw[zfh]
  unfold zug
  simp only[zeW,zeV,zdT,zeX,zi8 hi,zf9 hi,hc]
  simp
 ·rw[if_neg hc]at h2
  split at h2
  ·rename_i hk
   obtain⟨n,hn,rfl⟩:=Option.map_eq_some_iff.1 h2
   obtain⟨j,hj,e,ha⟩:=zi2 hn
   rw[Nat.zero_add]at e
   subst e
   refine⟨?_,rfl⟩
   have ha2:=ha
   unfold zeI at ha2
   simp only[Bool.and_eq_true,decide_eq_true_eq]at ha2
   have hne:¬((i:Int)=(n:Int)):=fun e=>by
    have e2:i=n:=by omega
    subst e2
    have:=ha2.1.1.1
    omega
   rw[zfh]
   unfold zug
   simp only[zeW,zeV,zdT,zeX,zi8 hj,zi8 hi,zf9 hj,zf9 hi]
   unfold ziP
   rw[ha,decide_eq_true hk.1]
   simp[hne]
  ·cases h2
theorem zkE {want:Int}:∀{l:List zac} {u:List Bool} {k i:Nat},zc9 want l u k=some i→∃j,∃h:j<l.length,i=k+j∧(zah l[j]).1=want
 |[],u,k,i,h=>by rw[zc9]at h;cases h
 |_::_,[],k,i,h=>by rw[zc9]at h;cases h
 |f::fs,u::us,k,i,h=>by
  rw[zc9]at h
  by_cases hc:u=false∧(zah f).1=want
  ·rw[if_pos hc]at h
   cases h
   exact⟨0,by simp,rfl,hc.2⟩
  ·rw[if_neg hc]at h
   obtain⟨j,hj,e,h2⟩:=zkE h
   exact⟨j+1,by simpa using hj,by omega,by simpa using h2⟩
theorem zjr {rec:Brn→Int→Res}{b:Brn}{a:Int}{K:Res}:∀{ws:List Int},(∃w∈ws,∃i,zc9 w b.list b.used 0=some i∧zfz rec b a K ws=zcR rec b a i (b.list.getD i za7))∨zfz rec b a K ws=K
 |[]=> .inr rfl
 |w::ws=>by
  rw[zfz]
  cases h:zc9 w b.list b.used 0 with
  |some i=>exact .inl ⟨w,by simp,i,h,rfl⟩
  |none=>
   rcases zjr (rec:=rec) (b:=b) (a:=a) (K:=K) (ws:=ws)with⟨w2,hw,i,h1,h2⟩|h1
   ·exact .inl ⟨w2,List.mem_cons_of_mem _ hw,i,h1,h2⟩
   ·exact .inr h1
theorem zBP {k f o:Int}{n:Str}{p:Prf}:(Prf.mk k f o n [p]).size=p.size+1:=by rw[Prf.size,Prf.sizes,Prf.sizes]
theorem zJt {k f o:Int}{n:Str}{p q:Prf}:(Prf.mk k f o n [p,q]).size=p.size+q.size+1:=by rw[Prf.size,Prf.sizes,Prf.sizes,Prf.sizes];rfl
theorem zL1 {l:List zac}{i:Nat}{p:Prf}(h:i<l.length)(hk:(zah l[i]).1=1)(hp:zcd p (l++(zah l[i]).2.1)=true):zcd (.mk 2 i 0 ⟨[]⟩ [p]) l=true:=by
 rw[zfh]
 unfold zug
 simp only[zeW,zeV,zdT,zeX,zi8 h,zf9 h,hk]
 simp[hp]
theorem zL2 {l:List zac}{i:Nat}{p q:Prf}{x y:zac}(h:i<l.length)(hk:(zah l[i]).1=2)(ho:(zah l[i]).2.1=[x,y])(hp:zcd p (l++[x])=true)(hq:zcd q (l++[y])=true):zcd (.mk 3 i 0 ⟨[]⟩ [p,q]) l=true:=by
 rw[zfh]
 unfold zug
 simp only[zeW,zeV,zdT,zeX,zi8 h,zf9 h,hk,ho]
 simp[hp,hq]
theorem zL3 {l:List zac}{i:Nat}{p:Prf}{w:Str}(h:i<l.length)(hk:(zah l[i]).1=3)(hw:zas w=true)(hp:zcd p (l++[zbK (zah l[i]).2.2.1 (zah l[i]).2.2.2 w])=true):zcd (.mk 4 i 0 w [p]) l=true:=by
 rw[zfh]
 unfold zug
 simp only[zeW,zeV,zdT,zlV,zeX,zi8 h,zf9 h,hk,hw]
 simp[hp]
theorem zL4 {l:List zac}{i:Nat}{p:Prf}{w:Str}(h:i<l.length)(hk:(zah l[i]).1=4)(hw:zas w=true)(ho:zyH l w=false)(hp:zcd p (l++[zbK (zah l[i]).2.2.1 (zah l[i]).2.2.2 w])=true):zcd (.mk 5 i 0 w [p]) l=true:=by
 rw[zfh]
 unfold zug
 simp only[zeW,zeV,zdT,zlV,zeX,zi8 h,zf9 h,hk,hw,ho]
 simp[hp]
structure zix (uses:Int)(s0 s:GS):Prop where
 ok:zcN uses s.c s.added
 bf:zh8 s.c.list
 ex:∃e,s.c.list=s0.c.list++e
 st:∃T:List Prf,s.steps=s0.steps++T∧s.added=s0.added+T.length∧(∀p,zcd p s.c.list=true→zcd (zid T p) s0.c.list=true)∧∀p:Prf,(zid T p).size=T.length+p.size
theorem zix.refl {uses:Int}{s:GS}(h:zcN uses s.c s.added)(h2:zh8 s.c.list):zix uses s s:=
 ⟨h,h2,⟨[],by simp⟩,⟨[],by simp,by simp,fun p hp=>hp,fun p=>by simp[zid]⟩⟩
theorem zrH {A B:List Prf}{p:Prf}:zid (A++B) p=zid A (zid B p):=by unfold zid;rw[List.foldr_append]
theorem zix.trans {uses:Int}{s0 s1 s2:GS}(h:zix uses s0 s1)(h2:zix uses s1 s2):zix uses s0 s2:=by
 obtain⟨e1,he1⟩:=h.ex
 obtain⟨e2,he2⟩:=h2.ex
 obtain⟨T1,a1,a2,a3,a4⟩:=h.st
 obtain⟨T2,b1,b2,b3,b4⟩:=h2.st
 refine⟨h2.ok,h2.bf,⟨e1++e2,by rw[he2,he1,List.append_assoc]⟩,⟨T1++T2,by rw[b1,a1,List.append_assoc],by rw[b2,a2,List.length_append];omega,fun p hp=>?_,fun p=>?_⟩⟩
 ·rw[zrH];exact a3 _ (b3 _ hp)
 ·rw[zrH,a4,b4,List.length_append];omega
theorem zlt {uses:Int}{q:zac}{t:Bool}{i:Nat}{f:zac}(hq:q=(zah f).2.2.1)(ht:t=(zah f).2.2.2)(hk:(zah f).1=3):∀(ws:List Str) (s s':GS),(∀w∈ws,zas w=true)→zcN uses s.c s.added→zh8 s.c.list→
  (h:i<s.c.list.length)→s.c.list[i]=f→zii q t i ws s= .go s'→zix uses s s'
 |[],s,s',_,h1,h2,_,_,h=>by rw[zii]at h;cases h;exact zix.refl h1 h2
 |w::ws,s,s',hw,h1,h2,hi,hf,h=>by
  rw[zii]at h
  by_cases hin:w∈s.c.seen.getD i []
  ·rw[if_pos hin]at h
   exact zlt hq ht hk ws s s' (fun x hx=>hw x (List.mem_cons_of_mem _ hx)) h1 h2 hi hf h
  ·rw[if_neg hin]at h
   by_cases hfu:300<s.added+1
   ·rw[if_pos hfu]at h;cases h
   ·rw[if_neg hfu]at h
    have hwn:=hw w (by simp)
    have hbf:BF f:=by rw[←hf];exact h2 _ (List.getElem_mem hi)
    have hI:BF (zbK q t w):=by rw[hq,ht];exact zqY hbf (.inl hk) hwn
    have hsl:i<s.c.seen.length:=by rw[h1.sl];exact hi
    have hok:=h1.saw (i:=i) (w:=w) hsl hI.o.b (by omega)
    have hl1:(zbT (saw s.c i w) [zbK q t w]).list=s.c.list++[zbK q t w]:=rfl
    have hbf1:zh8 (zbT (saw s.c i w) [zbK q t w]).list:=fun x hx=>by
     rw[hl1]at hx
     rcases List.mem_append.1 hx with h3|h3
     ·exact h2 x h3
     ·rw[List.mem_singleton.1 h3];exact hI
    have hi1:i<(zbT (saw s.c i w) [zbK q t w]).list.length:=by rw[hl1,List.length_append];omega
    have hf1:(zbT (saw s.c i w) [zbK q t w]).list[i]=f:=by
     have:(zbT (saw s.c i w) [zbK q t w]).list[i]=(s.c.list++[zbK q t w])[i]'(by rw[List.length_append];omega):=rfl
     rw[this,List.getElem_append_left hi];exact hf
    have ih:=zlt hq ht hk ws ⟨zbT (saw s.c i w) [zbK q t w],s.steps++[.mk 4 i 0 w []],s.added+1⟩ s' (fun x hx=>hw x (List.mem_cons_of_mem _ hx)) hok hbf1 hi1 hf1 h
    refine zix.trans ⟨hok,hbf1,⟨[zbK q t w],rfl⟩,⟨[.mk 4 i 0 w []],rfl,rfl,fun p hp=>?_,fun p=>?_⟩⟩ ih
    ·exact zL3 hi (by rw[hf];exact hk) hwn (by rw[hf,←hq,←ht];exact hp)
    ·show(Prf.mk 4 i 0 w [p]).size=_
     rw[zBP];simp;omega
theorem zls {uses:Int}{ws:List Str}(hw:∀w∈ws,zas w=true):∀(l:List zac) (i:Nat) (s s':GS),zcN uses s.c s.added→zh8 s.c.list→(∃e,s.c.list.drop i=l++e)→zhm ws l i s= .go s'→zix uses s s'
 |[],i,s,s',h1,h2,_,h=>by rw[zhm]at h;cases h;exact zix.refl h1 h2
 |f::fs,i,s,s',h1,h2,⟨e,he⟩,h=>by
  have hi:i<s.c.list.length:=by
   rcases Nat.lt_or_ge i s.c.list.length with h3|h3
   ·exact h3
   ·rw[List.drop_eq_nil_of_le h3]at he;simp at he
  rw[List.drop_eq_getElem_cons hi,List.cons_append]at he
  obtain⟨hf,he⟩:=List.cons.inj he
  rw[zhm]at h
  by_cases hk:(zah f).1=3
  ·rw[if_pos hk]at h
   cases hg:zii (zah f).2.2.1 (zah f).2.2.2 i ws s with
   |lim a=>rw[hg]at h;cases h
   |go s1=>
    rw[hg]at h
    have h3:=zlt rfl rfl hk ws s s1 hw h1 h2 hi hf hg
    obtain⟨e1,he1⟩:=h3.ex
    have h4:=zls hw fs (i+1) s1 s' h3.ok h3.bf ⟨e++e1,by rw[he1,List.drop_append_of_le_length (by omega),he,List.append_assoc]⟩ h
    exact h3.trans h4
  ·rw[if_neg hk]at h
   exact zls hw fs (i+1) s s' h1 h2 ⟨e,he⟩ h
theorem zsP {l:List zac}(h:∀f∈l,brF f)(hl:l.length≤1000):(zaH l).length<10^20:=by
 have h1:∀l:List zac,(∀f∈l,brF f)→(l.flatMap zaP).length≤l.length*1000000:=by
  intro l
  induction l with
  |nil=>intro _;simp
  |cons x l ih=>
   intro h
   rw[List.flatMap_cons,List.length_append,List.length_cons,Nat.succ_mul]
   have h2:=ih fun f hf=>h f (by simp[hf])
   have hx:=h x (by simp)
   have h3:=zdJ x [] hx.ft
   have h4:=hx.s
   have h5:(zaP x).length≤(cst x []).length:=by
    unfold zaP
    rw[List.length_map]
    refine Nat.le_trans (zdh _) ?_
    rw[zeA,List.length_map]
    exact Nat.le_refl _
   omega
 have h2:=h1 l h
 have h3:(zaH l).length≤(l.flatMap zaP).length:=by
  unfold zaH
  rw[List.length_map]
  refine Nat.le_trans (zdh _) ?_
  rw[zeA,List.length_map]
  exact Nat.le_refl _
 have h4:l.length*1000000≤1000*1000000:=Nat.mul_le_mul_right _ hl
 omega
def zvL (rec:Brn→Int→Res)(b:Brn)(a:Int):Prop:=(rec b a).ok=true→zcd (rec b a).p b.list=true∧((rec b a).p.size:Int)≤2*((rec b a).added-a)+1
theorem zuX {uses:Int}{rec:Brn→Int→Res}(ih:∀b a,zcN uses b a→zh8 b.list→zvL rec b a)(had:∀b a,a≤300→zkV a (rec b a)){b:Brn}{a:Int}(hok:zcN uses b a)(hbf:zh8 b.list){w:Int}(hw:w=1∨w=4∨w=2){i:Nat}(hi:i<b.list.length)(hk:(zah b.list[i]).1=w)
  (hv:(zcR rec b a i b.list[i]).ok=true):zcd (zcR rec b a i b.list[i]).p b.list=true∧((zcR rec b a i b.list[i]).p.size:Int)≤2*((zcR rec b a i b.list[i]).added-a)+1:=by
 obtain⟨f,hf⟩:∃f,b.list[i]=f:=⟨_,rfl⟩
 have hfB:BF f:=by rw[←hf];exact hbf _ (List.getElem_mem hi)
 have hpB:=zvH hfB
 have hab:∀xs:List zac,(∀x∈xs,BF x)→zh8 (zbT (zcX b i) xs).list:=fun xs hx y hy=>by
  rcases List.mem_append.1 hy with h|h
  ·exact hbf y h
  ·exact hx y h
 have hok2:∀(xs:List zac) (a1 a2:Int),(∀x∈xs,BF x)→a≤a1→a2=a1+xs.length→a2≤300→zcN uses (zbT (zcX b i) xs) a2:=fun xs a1 a2 hx h1 h2 h3=>
  ((hok.mark i).mono h1 (by omega)).add (fun y hy=>(hx y hy).o.b) h2 h3
 rw[hf]at hk hv ⊢
 unfold zcR at hv ⊢
 rcases hw with rfl|rfl|rfl
 ·rw[if_pos hk]at hv
  rw[if_pos hk]
  have hpos:=zmH hk
  by_cases hfu:300<a+(zah f).2.1.length
  ·rw[if_pos hfu]at hv;cases hv
  ·rw[if_neg hfu]at hv
   rw[if_neg hfu]
   obtain⟨c1,c2⟩:=ih _ _ (hok2 _ a _ hpB (by omega) rfl (by omega)) (hab _ hpB) hv
   refine⟨zL1 hi (by rw[hf];exact hk) (by rw[hf];exact c1),?_⟩
   show(((Prf.mk 2 i 0 ⟨[]⟩ [_]).size:Nat):Int)≤2*((rec _ _).added-a)+1
   rw[zBP]
   omega
 ·rw[if_neg (by omega),if_pos hk]at hv
  rw[if_neg (by omega),if_pos hk]
  by_cases hfu:300<a+1
  ·rw[if_pos hfu]at hv;cases hv
  ·rw[if_neg hfu]at hv
   rw[if_neg hfu]
   obtain⟨f1,f2,f3⟩:=zi5 (zaH b.list)
   have hll:=hok.ll
   have ha1:=hok.a1
   have hnl:=zsP (fun y hy=>(hbf y hy).o.b) (show b.list.length≤1000 by omega)
   have hnm:zas (zf3 (zaH b.list))=true:=zr6 (Nat.lt_of_le_of_lt f1 hnl)
   have hoc:zyH b.list (zf3 (zaH b.list))=false:=zvG f2
   have hI:BF (zbK (zah f).2.2.1 (zah f).2.2.2 (zf3 (zaH b.list))):=zqY hfB (.inr hk) hnm
   have hx1:∀x∈[zbK (zah f).2.2.1 (zah f).2.2.2 (zf3 (zaH b.list))],BF x:=fun x hx=>by rw[List.mem_singleton.1 hx];exact hI
   obtain⟨c1,c2⟩:=ih _ (a+1) (hok2 _ a (a+1) hx1 (by omega) rfl (by omega)) (hab _ hx1) hv
   refine⟨zL4 hi (by rw[hf];exact hk) hnm hoc (by rw[hf];exact c1),?_⟩
   show(((Prf.mk 5 i 0 _ [_]).size:Nat):Int)≤2*((rec _ _).added-a)+1
   rw[zBP]
   push_cast
   omega
 ·rw[if_neg (by omega),if_neg (by omega)]at hv
  rw[if_neg (by omega),if_neg (by omega)]
  obtain⟨_,q2,_,_⟩:=zeU hfB.o.b
  have hl2:=q2 hk
  obtain⟨x,y,hxy⟩:∃x y,(zah f).2.1=[x,y]:=by
   match h:(zah f).2.1,hl2 with
   |[x,y],_=>exact⟨x,y,rfl⟩
  rw[hxy]at hv hpB ⊢
  have hx1:∀z∈[x],BF z:=fun z hz=>hpB z (by rw[List.mem_singleton.1 hz];simp)
  have hy1:∀z∈[y],BF z:=fun z hz=>hpB z (by rw[List.mem_singleton.1 hz];simp)
  rw[ze5]at hv ⊢
  by_cases g1:300<a+1
  ·rw[if_pos g1]at hv;cases hv
  rw[if_neg g1]at hv ⊢
  by_cases g2:(rec (zbT (zcX b i) [x]) (a+1)).ok=false
  ·rw[if_pos g2]at hv;cases hv
  rw[if_neg g2]at hv ⊢
  have k1:=ih _ _ (hok2 [x] a (a+1) hx1 (by omega) rfl (by omega)) (hab _ hx1) (by simpa using g2)
  have d1:=had (zbT (zcX b i) [x]) (a+1) (by omega)
  have d2:=d1.2 (by simpa using g2)
  have d3:=d1.1
  obtain⟨r1,hr1⟩:∃r,rec (zbT (zcX b i) [x]) (a+1)=r:=⟨_,rfl⟩
  rw[hr1]at hv k1 d2 d3 ⊢
  rw[ze5]at hv ⊢
  by_cases g3:300<r1.added+1
  ·rw[if_pos g3]at hv;cases hv
  rw[if_neg g3]at hv ⊢
  by_cases g4:(rec (zbT (zcX b i) [y]) (r1.added+1)).ok=false
  ·rw[if_pos g4]at hv;cases hv
  rw[if_neg g4]at hv ⊢
  have k2:=ih _ _ (hok2 [y] r1.added (r1.added+1) hy1 (by omega) rfl (by omega)) (hab _ hy1) (by simpa using g4)
  obtain⟨r2,hr2⟩:∃r,rec (zbT (zcX b i) [y]) (r1.added+1)=r:=⟨_,rfl⟩
  rw[hr2]at hv k2 ⊢
  rw[ze5]
  refine⟨zL2 hi (by rw[hf];exact hk) (by rw[hf];exact hxy) k1.1 k2.1,?_⟩
  have e1:=k1.2
  have e2:=k2.2
  show(((Prf.mk 3 i 0 ⟨[]⟩ [r1.p,r2.p]).size:Nat):Int)≤2*(r2.added-a)+1
  rw[zJt]
  push_cast
  omega
theorem zpZ {uses:Int}:∀(n:Nat) (b:Brn) (a:Int),zcN uses b a→zh8 b.list→zvL (zfR uses n) b a
 |0,b,a,_,_=>fun h=>by cases h
 |n+1,b,a,hok,hbf=>fun hv=>by
  have ih:=zpZ (uses:=uses) n
  rw[zfR]at hv ⊢
  unfold zmb at hv ⊢
  cases hM:zc4 b.list with
  |some p=>
   obtain⟨c1,c2⟩:=zr4 hM
   exact⟨c1,by simp only;rw[c2];omega⟩
  |none=>
   rw[hM]at hv
   simp only at hv ⊢
   rcases zjr (rec:=zfR uses n) (b:=b) (a:=a) (K:=zft (zfR uses n) uses b a) (ws:=[1,4,2])with⟨w,hw,i,hp,he⟩|he
   ·rw[he]at hv ⊢
    obtain⟨j,hj,e,hk⟩:=zkE hp
    rw[Nat.zero_add]at e
    subst e
    have hg:b.list.getD i za7=b.list[i]:=by rw[List.getD_eq_getElem?_getD,List.getElem?_eq_getElem hj];rfl
    rw[hg]at hv ⊢
    exact zuX ih (fun b a h=>zfS n b a h) hok hbf (by simpa using hw) hj hk hv
   ·rw[he]at hv ⊢
    unfold zft at hv ⊢
    by_cases hr:b.rounds=uses
    ·rw[if_pos hr]at hv;cases hv
    rw[if_neg hr]at hv ⊢
    cases hG:zhm (zdI b.list) b.list 0 ⟨⟨b.list,b.used,b.seen,b.rounds+1⟩,[],a⟩with
    |lim a'=>rw[hG]at hv;cases hv
    |go s=>
     rw[hG]at hv
     have hr1:=hok.r1
     have hr0:=hok.r0
     have hok0:zcN uses ⟨b.list,b.used,b.seen,b.rounds+1⟩ a:=⟨hok.br,hok.ll,hok.ul,hok.sl,hok.ss,by simp only;omega,by simp only;omega,hok.u,hok.a0,hok.a1⟩
     have hgo:=zls (uses:=uses) (fun w hw=>zpd hbf hw) b.list 0 ⟨⟨b.list,b.used,b.seen,b.rounds+1⟩,[],a⟩ s hok0 hbf ⟨[],by simp⟩ hG
     obtain⟨T,t1,t2,t3,t4⟩:=hgo.st
     simp only[List.nil_append]at t1
     unfold zyd at hv ⊢
     simp only at hv ⊢
     by_cases h0:s.steps=[]
     ·rw[if_pos h0]at hv;cases hv
     rw[if_neg h0]at hv ⊢
     obtain⟨c1,c2⟩:=ih s.c s.added hgo.ok hgo.bf hv
     simp only
     rw[t1]
     refine⟨t3 _ c1,?_⟩
     rw[t4]
     simp only at t2
     push_cast
     omega
end Go.Abs
namespace Go.Abs
open Go
def zw2 (m:zay)(ev:List zaG)(l:List zac):Prop:=∀f∈l,za2 m f ev=true
def zCg (m:zay)(ev:List zaG):Prop:=∀w,zbi m ev w∈zdA m
mutual
theorem zuA:∀(f:zac) (bd bd':List Str) (x:Str),x∈cst f bd→x∉bd'→x∈cst f bd'
 | .mk k nm ws s,bd,bd',x,h,hx=>by
  rw[cst]at h ⊢
  rcases List.mem_append.1 h with h|h
  ·exact List.mem_append_left _ (List.mem_filter.2 ⟨(List.mem_filter.1 h).1,by simpa using hx⟩)
  ·refine List.mem_append_right _ (zqF s _ _ x h ?_)
   split
   ·rename_i hq
    rw[if_pos hq]at h
    have h2:=zfK s _ x h
    simp only[List.mem_append,not_or]at h2 ⊢
    exact⟨hx,h2.2⟩
   ·exact hx
theorem zqF:∀(fs:List zac) (bd bd':List Str) (x:Str),x∈zbN fs bd→x∉bd'→x∈zbN fs bd'
 |[],bd,bd',x,h,hx=>by rw[zbN]at h;cases h
 |f::fs,bd,bd',x,h,hx=>by
  rw[zbN]at h ⊢
  rcases List.mem_append.1 h with h|h
  ·exact List.mem_append_left _ (zuA f _ _ x h hx)
  ·exact List.mem_append_right _ (zqF fs _ _ x h hx)
end
theorem zoC {q a:zac}{w:Str}(hk:q.kind=8∨q.kind=9)(hq:q.subs=[a])(hw:w∈zaP a)(hn:w≠q.name):w∈zaP q:=by
 rw[za9]at hw ⊢
 cases q with
 |mk k nm ws s=>
  rw[zai]at hk;rw[zaM]at hq;rw[zbV]at hn;subst hq
  rw[cst,if_pos (show isQ k from hk),zbN,zbN,List.append_nil]
  exact List.mem_append_right _ (zuA a _ _ w hw (by simpa using hn))
theorem zwL {f a:zac}{w:Str}(hk:f.kind=4)(hq:f.subs=[a])(hw:w∈zaP a):w∈zaP f:=by
 rw[za9]at hw ⊢
 cases f with
 |mk k nm ws s=>
  rw[zai]at hk;rw[zaM]at hq;subst hq hk
  rw[cst,if_neg (show¬isQ 4 by decide),zbN,zbN,List.append_nil]
  exact List.mem_append_right _ hw
theorem zsY {f:zac}(h:brF f)(hs:(zah f).1=3∨(zah f).1=4){a:zac}(ha:(zah f).2.2.1.subs=[a]){w:Str}(hw:w∈zaP a)(hn:w≠(zah f).2.2.1.name):w∈zaP f:=by
 by_cases k4:f.kind=4
 ·obtain⟨g,hg,s0,hbg⟩:=zcr h (.inl k4)
  have e:g.kind=8∨g.kind=9:=by
   rw[zkD k4 s0 rfl]at hs
   repeat'(first|omega|split at hs)
  have e2:(zah f).2.2.1=g:=by
   unfold zah
   rw[s0]
   rcases e with j|j<;>(rw[k4,j];rfl)
  rw[e2]at ha hn
  exact zwL k4 hg (zoC e ha hw hn)
 ·have e:f.kind=8∨f.kind=9:=by
   rw[zjn k4 rfl]at hs
   repeat'(first|omega|split at hs)
  have e2:(zah f).2.2.1=f:=by
   unfold zah
   rcases e with j|j<;>(rw[j];rfl)
  rw[e2]at ha hn
  exact zoC e ha hw hn
section
variable {m:zay} {ev ev':List zaG}
theorem zsb {f:zac}(hv:vok f)(h:∀w∈zaP f,zbi m ev w=zbi m ev' w):za2 m (zaC f []) ev'=za2 m f ev:=by
 refine zlY m (U:=zaP f) f [] [] 0 ev ev' hv (fun w hw=>?_) fun x hx=>(za9 f x).2 hx
 rw[zdn]
 rcases hw with h1|h1
 ·simp at h1
 ·exact⟨h w h1,.inl h1⟩
theorem zAH {f:zac}(hv:vok f):za2 m (cnn f) ev=za2 m f ev:=zsb hv fun _ _=>rfl
theorem zzC {f:zac}(hv:vok f)(h:∀w∈zaP f,zbi m ev w=zbi m ev' w):za2 m f ev'=za2 m f ev:=
 (zsb hv fun _ _=>rfl).symm.trans (zsb hv h)
theorem zDF {f:zac}{nm:Str}{d:Int}(hv:vok f)(h:nm∉zaP f):za2 m f (ev++[(⟨nm,d⟩:zaG)])=za2 m f ev:=
 (zsb hv fun _ _=>rfl).symm.trans (zsb hv fun w hw=>by rw[zcL,if_neg (by rintro rfl;exact h hw)])
theorem zJo {f:zac}{nm g:Str}(hv:vok f):za2 m (zaC f [⟨nm,g⟩]) ev=za2 m f (ev++[(⟨nm,zbi m ev g⟩:zaG)]):=by
 refine zlY m (U:=zaP f) f [⟨nm,g⟩] [] 0 (ev++[(⟨nm,zbi m ev g⟩:zaG)]) ev hv (fun w hw=>?_) fun x hx=>(za9 f x).2 hx
 have e:lkp [⟨nm,g⟩] w=if nm=w then g else w:=by
  have:=zcf [] ⟨nm,g⟩ w
  rw[List.nil_append,zdn]at this
  exact this
 rw[e,zcL]
 rcases hw with h|h
 ·simp at h
 refine⟨?_,.inl ?_⟩
 ·by_cases h:nm=w
  ·rw[if_pos h,if_pos h]
  ·rw[if_neg h,if_neg h]
 ·rw[zvZ (by simp),←e]
  exact List.mem_map_of_mem h
theorem zzq {f:zac}(h:vok f):vok (zbx f):=by
 unfold zbx
 rw[vok,ziu,ziu]
 exact⟨by decide,by decide,fun e=>absurd e (by decide),fun e=>absurd e (by decide),fun _=>rfl,fun e=>by omega,h,trivial⟩
theorem zFE {f a:zac}(hk:f.kind=4)(hs:f.subs=[a]):za2 m f ev= !za2 m a ev:=by
 cases f with
 |mk k nm ws s=>
  rw[zai]at hk;rw[zaM]at hs;subst hk hs
  rw[za2,zdU];rfl
theorem zLL {f a b:zac}(hk:f.kind=5)(hs:f.subs=[a,b]):za2 m f ev=(za2 m a ev&&za2 m b ev):=by
 cases f with
 |mk k nm ws s=>
  rw[zai]at hk;rw[zaM]at hs;subst hk hs
  rw[za2,zdU];rfl
theorem zLM {f a b:zac}(hk:f.kind=6)(hs:f.subs=[a,b]):za2 m f ev=(za2 m a ev||za2 m b ev):=by
 cases f with
 |mk k nm ws s=>
  rw[zai]at hk;rw[zaM]at hs;subst hk hs
  rw[za2,zdU];rfl
theorem zLN {f a b:zac}(hk:f.kind=7)(hs:f.subs=[a,b]):za2 m f ev=(!za2 m a ev||za2 m b ev):=by
 cases f with
 |mk k nm ws s=>
  rw[zai]at hk;rw[zaM]at hs;subst hk hs
  rw[za2,zdU];rfl
theorem zLO {f a:zac}(hk:f.kind=8)(hs:f.subs=[a]):za2 m f ev=(zdA m).all fun v=>za2 m a (ev++[(⟨f.name,v⟩:zaG)]):=by
 cases f with
 |mk k nm ws s=>
  rw[zai]at hk;rw[zaM]at hs;subst hk hs
  rw[za2]
  simp only[zdU]
  rfl
theorem zLP {f a:zac}(hk:f.kind=9)(hs:f.subs=[a]):za2 m f ev=(zdA m).any fun v=>za2 m a (ev++[(⟨f.name,v⟩:zaG)]):=by
 cases f with
 |mk k nm ws s=>
  rw[zai]at hk;rw[zaM]at hs;subst hk hs
  rw[za2]
  simp only[zdU]
  rfl
theorem zPs {f:zac}(hk:f.kind=1):za2 m f ev=true:=by
 cases f with
 |mk k nm ws s=>rw[zai]at hk;subst hk;rw[za2];rfl
theorem zLK {f:zac}(hk:f.kind=2):za2 m f ev=decide (f.words.map (zbi m ev)∈ztm m f.name f.words.length):=by
 cases f with
 |mk k nm ws s=>rw[zai]at hk;subst hk;rw[za2];rfl
theorem zJJ {f:zac}(hk:f.kind=3):za2 m f ev=decide (zbi m ev (f.words.getD 0 ⟨[]⟩)=zbi m ev (f.words.getD 1 ⟨[]⟩)):=by
 cases f with
 |mk k nm ws s=>rw[zai]at hk;subst hk;rw[za2];rfl
theorem zw0 {f:zac}(hv:vok f):za2 m (ngg f) ev= !za2 m f ev:=by
 unfold ngg
 rw[zsb (ev:=ev) (zzq hv) fun _ _=>rfl]
 exact zFE rfl rfl
def zCh (m:zay)(ev:List zaG)(P:Int×List zac×zac×Bool):Prop:=
 (P.1=1→∀g∈P.2.1,za2 m g ev=true)∧(P.1=2→∃g∈P.2.1,za2 m g ev=true)∧
 (P.1=3→∃a,P.2.2.1.subs=[a]∧brF a∧∀v∈zdA m,za2 m a (ev++[(⟨P.2.2.1.name,v⟩:zaG)])= !P.2.2.2)∧
 (P.1=4→∃a,P.2.2.1.subs=[a]∧brF a∧∃v∈zdA m,za2 m a (ev++[(⟨P.2.2.1.name,v⟩:zaG)])= !P.2.2.2)
theorem zF1 {l:List zac}{q:zac}{t:Bool}(h:∀g∈l,za2 m g ev=true):zCh m ev (1,l,q,t):=⟨fun _=>h,fun e=>absurd (show((1:Int)=2)from e) (by decide),fun e=>absurd (show((1:Int)=3)from e) (by decide),fun e=>absurd (show((1:Int)=4)from e) (by decide)⟩
theorem zHI {l:List zac}{q:zac}{t:Bool}(h:∃g∈l,za2 m g ev=true):zCh m ev (2,l,q,t):=⟨fun e=>absurd (show((2:Int)=1)from e) (by decide),fun _=>h,fun e=>absurd (show((2:Int)=3)from e) (by decide),fun e=>absurd (show((2:Int)=4)from e) (by decide)⟩
theorem zJ6 {l:List zac}{q a:zac}{t:Bool}(ha:q.subs=[a])(hb:brF a)(h:∀v∈zdA m,za2 m a (ev++[(⟨q.name,v⟩:zaG)])= !t):zCh m ev (3,l,q,t):=⟨fun e=>absurd (show((3:Int)=1)from e) (by decide),fun e=>absurd (show((3:Int)=2)from e) (by decide),fun _=>⟨a,ha,hb,h⟩,fun e=>absurd (show((3:Int)=4)from e) (by decide)⟩
theorem zJ7 {l:List zac}{q a:zac}{t:Bool}(ha:q.subs=[a])(hb:brF a)(h:∃v∈zdA m,za2 m a (ev++[(⟨q.name,v⟩:zaG)])= !t):zCh m ev (4,l,q,t):=⟨fun e=>absurd (show((4:Int)=1)from e) (by decide),fun e=>absurd (show((4:Int)=2)from e) (by decide),fun e=>absurd (show((4:Int)=3)from e) (by decide),fun _=>⟨a,ha,hb,h⟩⟩
theorem zJ5 {l:List zac}{q:zac}{t:Bool}:zCh m ev (0,l,q,t):=⟨fun e=>absurd (show((0:Int)=1)from e) (by decide),fun e=>absurd (show((0:Int)=2)from e) (by decide),fun e=>absurd (show((0:Int)=3)from e) (by decide),fun e=>absurd (show((0:Int)=4)from e) (by decide)⟩
theorem zvI {f:zac}(h:brF f)(hv:za2 m f ev=true):zCh m ev (zah f):=by
 by_cases k5:f.kind=5
 ·obtain⟨a,b,hab,s0,s1,ha,hb⟩:=zcZ h (by omega)
  have e:zah f=(1,[cnn a,cnn b],za7,false):=by unfold zah;rw[s0,s1,k5];rfl
  rw[e]
  rw[zLL k5 hab,Bool.and_eq_true]at hv
  refine zF1 fun g hg=>?_
  simp only[List.mem_cons,List.not_mem_nil,or_false]at hg
  rcases hg with rfl|rfl
  ·rw[zAH ha.v];exact hv.1
  ·rw[zAH hb.v];exact hv.2
 by_cases k6:f.kind=6
 ·obtain⟨a,b,hab,s0,s1,ha,hb⟩:=zcZ h (by omega)
  have e:zah f=(2,[cnn a,cnn b],za7,false):=by unfold zah;rw[s0,s1,k6];rfl
  rw[e]
  rw[zLM k6 hab,Bool.or_eq_true]at hv
  refine zHI ?_
  rcases hv with hv|hv
  ·exact⟨cnn a,by simp,by rw[zAH ha.v];exact hv⟩
  ·exact⟨cnn b,by simp,by rw[zAH hb.v];exact hv⟩
 by_cases k7:f.kind=7
 ·obtain⟨a,b,hab,s0,s1,ha,hb⟩:=zcZ h (by omega)
  have e:zah f=(2,[ngg a,cnn b],za7,false):=by unfold zah;rw[s0,s1,k7];rfl
  rw[e]
  rw[zLN k7 hab,Bool.or_eq_true]at hv
  refine zHI ?_
  rcases hv with hv|hv
  ·exact⟨ngg a,by simp,by rw[zw0 ha.v];exact hv⟩
  ·exact⟨cnn b,by simp,by rw[zAH hb.v];exact hv⟩
 by_cases k8:f.kind=8
 ·obtain⟨a,ha,s0,hb⟩:=zcr h (by omega)
  have e:zah f=(3,[],f,false):=by unfold zah;rw[k8];rfl
  rw[e]
  rw[zLO k8 ha,List.all_eq_true]at hv
  exact zJ6 ha hb fun v hv2=>by rw[hv v hv2];rfl
 by_cases k9:f.kind=9
 ·obtain⟨a,ha,s0,hb⟩:=zcr h (by omega)
  have e:zah f=(4,[],f,false):=by unfold zah;rw[k9];rfl
  rw[e]
  rw[zLP k9 ha,List.any_eq_true]at hv
  obtain⟨v,h1,h2⟩:=hv
  exact zJ7 ha hb ⟨v,h1,by rw[h2];rfl⟩
 by_cases k4:f.kind=4
 ·obtain⟨g,hg,s0,hbg⟩:=zcr h (.inl k4)
  rw[zFE k4 hg,Bool.not_eq_true']at hv
  by_cases j4:g.kind=4
  ·obtain⟨a,ha,t0,hb⟩:=zcr hbg (.inl j4)
   have e:zah f=(1,[cnn a],za7,false):=by unfold zah;rw[s0,t0,k4,j4];rfl
   rw[e]
   rw[zFE j4 ha]at hv
   refine zF1 fun x hx=>?_
   rw[List.mem_singleton.1 hx,zAH hb.v]
   simpa using hv
  by_cases j5:g.kind=5
  ·obtain⟨a,b,hab,t0,t1,ha,hb⟩:=zcZ hbg (by omega)
   have e:zah f=(2,[ngg a,ngg b],za7,false):=by unfold zah;rw[s0,t0,t1,k4,j5];rfl
   rw[e]
   rw[zLL j5 hab,Bool.and_eq_false_iff]at hv
   refine zHI ?_
   rcases hv with hv|hv
   ·exact⟨ngg a,by simp,by rw[zw0 ha.v,hv];rfl⟩
   ·exact⟨ngg b,by simp,by rw[zw0 hb.v,hv];rfl⟩
  by_cases j6:g.kind=6
  ·obtain⟨a,b,hab,t0,t1,ha,hb⟩:=zcZ hbg (by omega)
   have e:zah f=(1,[ngg a,ngg b],za7,false):=by unfold zah;rw[s0,t0,t1,k4,j6];rfl
   rw[e]
   rw[zLM j6 hab,Bool.or_eq_false_iff]at hv
   refine zF1 fun x hx=>?_
   simp only[List.mem_cons,List.not_mem_nil,or_false]at hx
   rcases hx with rfl|rfl
   ·rw[zw0 ha.v,hv.1];rfl
   ·rw[zw0 hb.v,hv.2];rfl
  by_cases j7:g.kind=7
  ·obtain⟨a,b,hab,t0,t1,ha,hb⟩:=zcZ hbg (by omega)
   have e:zah f=(1,[cnn a,ngg b],za7,false):=by unfold zah;rw[s0,t0,t1,k4,j7];rfl
   rw[e]
   rw[zLN j7 hab,Bool.or_eq_false_iff]at hv
   refine zF1 fun x hx=>?_
   simp only[List.mem_cons,List.not_mem_nil,or_false]at hx
   rcases hx with rfl|rfl
   ·rw[zAH ha.v];simpa using hv.1
   ·rw[zw0 hb.v,hv.2];rfl
  by_cases j8:g.kind=8
  ·obtain⟨a,ha,t0,hb⟩:=zcr hbg (by omega)
   have e:zah f=(4,[],g,true):=by unfold zah;rw[s0,k4,j8];rfl
   rw[e]
   rw[zLO j8 ha,List.all_eq_false]at hv
   obtain⟨v,h1,h2⟩:=hv
   exact zJ7 ha hb ⟨v,h1,by simpa using h2⟩
  by_cases j9:g.kind=9
  ·obtain⟨a,ha,t0,hb⟩:=zcr hbg (by omega)
   have e:zah f=(3,[],g,true):=by unfold zah;rw[s0,k4,j9];rfl
   rw[e]
   rw[zLP j9 ha,List.any_eq_false]at hv
   exact zJ6 ha hb fun v hv2=>by simpa using hv v hv2
  have e:zah f=(0,[],za7,false):=by
   unfold zah
   rw[if_neg k5,if_neg k6,if_neg k7,if_neg k8,if_neg k9,if_pos k4,s0,if_neg j4,if_neg j5,if_neg j6,if_neg j7,if_neg j8,if_neg j9]
  rw[e];exact zJ5
 ·have e:zah f=(0,[],za7,false):=by
   unfold zah
   rw[if_neg k5,if_neg k6,if_neg k7,if_neg k8,if_neg k9,if_neg k4]
  rw[e];exact zJ5
theorem zDJ {q a:zac}{t:Bool}{w:Str}(hq:q.subs=[a])(ha:brF a):za2 m (zbK q t w) ev=(za2 m a (ev++[(⟨q.name,zbi m ev w⟩:zaG)])!=t):=by
 have e:zjU q w=zaC a [⟨q.name,w⟩]:=by unfold zjU zb6;rw[hq];rfl
 unfold zbK
 rw[e]
 cases t with
 |false=>
  simp only[Bool.false_eq_true,if_false]
  rw[zJo ha.v]
  cases za2 m a (ev++[(⟨q.name,zbi m ev w⟩:zaG)])<;>rfl
 |true=>
  simp only[if_true]
  rw[zw0 (ziJ ha.v),zJo ha.v]
  cases za2 m a (ev++[(⟨q.name,zbi m ev w⟩:zaG)])<;>rfl
theorem zoj:∀(l:List zac) (c:List za4),(∀w,zbi m ev (zaX c w)=zbi m ev w)→(∀f∈l,za2 m f ev=true)→∀w,zbi m ev (zaX (l.foldl zpG c) w)=zbi m ev w
 |[],c,hc,_,w=>hc w
 |f::l,c,hc,hs,w=>by
  rw[List.foldl_cons]
  refine zoj l _ (fun w=>?_) (fun g hg=>hs g (List.mem_cons_of_mem _ hg)) w
  have hf:=hs f (by simp)
  unfold zpG
  split
  ·exact hc w
  ·rename_i hk
   split
   ·exact hc w
   ·rw[zhB]
    split
    ·rename_i h1
     rw[zJJ (Decidable.not_not.1 hk)]at hf
     have h2:=of_decide_eq_true hf
     rw[←hc w,h1]
     exact((hc _).trans h2.symm).trans (hc _).symm
    ·exact hc w
theorem zl8 {l:List zac}(hs:zw2 m ev l)(w:Str):zbi m ev (zaX (zgx l) w)=zbi m ev w:=zoj l [] (fun _=>rfl) hs w
theorem zxl {l:List zac}{f g:zac}(hs:zw2 m ev l)(h:zeI (zgx l) f g=true):za2 m f ev=za2 m g ev:=by
 unfold zeI at h
 simp only[Bool.and_eq_true,decide_eq_true_eq]at h
 obtain⟨⟨⟨h1,h2⟩,h3⟩,h4⟩:=h
 have hw:f.words.map (zbi m ev)=g.words.map (zbi m ev):=by
  have e:∀ws:List Str,(ws.map (zaX (zgx l))).map (zbi m ev)=ws.map (zbi m ev):=fun ws=>by
   rw[List.map_map]
   exact List.map_congr_left fun w _=>zl8 hs w
  rw[←e f.words,h4,e]
 have hl:f.words.length=g.words.length:=by
  have:=congrArg List.length h4
  simpa using this
 rw[zLK h1,zLK h2,hw,h3,hl]
theorem zuv {l:List zac}{f:zac}(hs:zw2 m ev l)(hm:f∈l)(hb:brF f)(h:zmx (zgx l) f=true):False:=by
 unfold zmx at h
 simp only[Bool.and_eq_true,Bool.or_eq_true,decide_eq_true_eq]at h
 obtain⟨h4,h⟩:=h
 obtain⟨g,hg,s0,hbg⟩:=zcr hb (.inl h4)
 have hv:=hs f hm
 rw[zFE h4 hg]at hv
 rw[s0]at h
 rcases h with h|⟨h,h2⟩
 ·rw[zPs h]at hv;cases hv
 ·rw[zJJ h,←zl8 hs,h2,zl8 hs]at hv
  simp at hv
theorem zo9 {l:List zac}{f g:zac}(hs:zw2 m ev l)(hf:f∈l)(hg:g∈l)(hbf:brF f)(hbg:brF g)(h:ziP l f g=true):False:=by
 unfold ziP at h
 simp only[Bool.and_eq_true,Bool.or_eq_true,decide_eq_true_eq]at h
 have v1:=hs f hf
 have v2:=hs g hg
 rcases h with h|⟨h4,h⟩
 ·rw[←h,zw0 hbf.v,v1]at v2
  cases v2
 ·obtain⟨a,ha,s0,_⟩:=zcr hbg (.inl h4)
  rw[zFE h4 ha]at v2
  rw[s0]at h
  rw[←zxl hs h,v1]at v2
  cases v2
theorem zri {l k:List zac}(h1:zw2 m ev l)(h2:∀f∈k,za2 m f ev=true):zw2 m ev (l++k):=fun f hf=>by
 rcases List.mem_append.1 hf with h|h
 ·exact h1 f h
 ·exact h2 f h
theorem zqV {l:List zac}{i:Int}(h:inL l i=true):atL l i∈l:=by
 unfold inL at h
 simp only[Bool.and_eq_true,decide_eq_true_eq]at h
 unfold atL
 rw[List.getD_eq_getElem?_getD,List.getElem?_eq_getElem (show i.toNat<l.length by omega)]
 exact List.getElem_mem _
theorem zBC {l:List zac}{w:Str}(h:zyH l w=false):∀f∈l,w∉zaP f:=fun f hf hw=>by
 unfold zyH at h
 rw[List.any_eq_false]at h
 exact h f hf (by simpa using hw)
theorem zzE {l k:List zac}(h1:∀f∈l,brF f)(h2:∀f∈k,brF f):∀f∈l++k,brF f:=fun f hf=>by
 rcases List.mem_append.1 hf with h|h
 ·exact h1 f h
 ·exact h2 f h
theorem ziH {l:List zac}{g:zac}(h1:∀f∈l,brF f)(h2:brF g):∀f∈l++[g],brF f:=zzE h1 fun f hf=>by rw[List.mem_singleton.1 hf];exact h2
theorem zgW {l:List zac}{g:zac}(h1:zw2 m ev l)(h2:za2 m g ev=true):zw2 m ev (l++[g]):=zri h1 fun f hf=>by rw[List.mem_singleton.1 hf];exact h2
end
theorem zmQ {m:zay}:∀(n:Nat) (p:Prf),p.size≤n→∀(l:List zac) (ev:List zaG),zCg m ev→(∀f∈l,brF f)→zw2 m ev l→zcd p l=true→False
 |0,p,hn,_,_,_,_,_,_=>by cases p;rw[Prf.size]at hn;omega
 |n+1,p,hn,l,ev,hev,hbr,hs,hc=>by
  cases p with
  |mk k fo ot nm s=>
  rw[Prf.size]at hn
  have hsz:∀(s:List Prf),∀q∈s,q.size≤Prf.sizes s:=by
   intro s
   induction s with
   |nil=>intro q hq;cases hq
   |cons x s ih=>
    intro q hq
    rw[Prf.sizes]
    rcases List.mem_cons.1 hq with h|h
    ·rw[h];omega
    ·have:=ih q h;omega
  have ih:=fun(q:Prf) (hq:q∈s)=>zmQ (m:=m) n q (by have:=hsz s q hq;omega)
  rw[zfh]at hc
  simp only[zeW,zeV,zdT,zlV,zeX]at hc
  unfold zug at hc
  split at hc
  ·cases hc
  rename_i hin
  have hfm:=zqV (by simpa using hin)
  obtain⟨f,hf⟩:∃f,atL l fo=f:=⟨_,rfl⟩
  rw[hf]at hc hfm
  have hbf:=hbr f hfm
  have hvf:=hs f hfm
  obtain⟨q1,q2,q3,q4⟩:=zeU hbf
  have hx:=zvI hbf hvf
  have one:(s.map zcd).length=1→∃q,q∈s∧(s.map zcd).getD 0 (fun _=>false)=zcd q:=fun h=>by
   match s,h with
   |[q],_=>exact⟨q,by simp,rfl⟩
  split at hc
  ·simp only[Bool.and_eq_true]at hc
   obtain⟨⟨_,ho⟩,hc⟩:=hc
   split at hc
   ·exact zuv hs hfm hbf hc
   ·exact zo9 hs hfm (zqV ho) hbf (hbr _ (zqV ho)) hc
  split at hc
  ·simp only[Bool.and_eq_true,decide_eq_true_eq]at hc
   obtain⟨⟨h1,h2⟩,hc⟩:=hc
   obtain⟨q,hq,e⟩:=one h2
   rw[e]at hc
   exact ih q hq _ ev hev (zzE hbr q1) (zri hs (hx.1 h1)) hc
  split at hc
  ·simp only[Bool.and_eq_true,decide_eq_true_eq]at hc
   obtain⟨⟨⟨h1,h2⟩,hc1⟩,hc2⟩:=hc
   obtain⟨x,y,hxy⟩:∃x y,(zah f).2.1=[x,y]:=by
    match h:(zah f).2.1,q2 h1 with
    |[x,y],_=>exact⟨x,y,rfl⟩
   obtain⟨g,hg,hv⟩:=hx.2.1 h1
   rw[hxy]at hc1 hc2 hg q1
   obtain⟨p1,p2,hp⟩:∃p1 p2,s=[p1,p2]:=by
    match s,h2 with
    |[p1,p2],_=>exact⟨p1,p2,rfl⟩
   rw[hp]at hc1 hc2 ih
   simp only[List.mem_cons,List.not_mem_nil,or_false]at hg
   rcases hg with rfl|rfl
   ·exact ih p1 (by simp) _ ev hev (ziH hbr (q1 _ (by simp))) (zgW hs hv) hc1
   ·exact ih p2 (by simp) _ ev hev (ziH hbr (q1 _ (by simp))) (zgW hs hv) hc2
  split at hc
  ·simp only[Bool.and_eq_true,decide_eq_true_eq]at hc
   obtain⟨⟨⟨h1,_⟩,h2⟩,hc⟩:=hc
   obtain⟨q,hq,e⟩:=one h2
   rw[e]at hc
   obtain⟨a,ha,hba,hv⟩:=hx.2.2.1 h1
   obtain⟨b,hb,_,hb3⟩:=q4 (.inl h1)
   have hab:a=b:=by rw[ha]at hb;exact(List.cons.inj hb).1
   subst hab
   refine ih q hq _ ev hev (ziH hbr (zhr ha hba hb3)) (zgW hs ?_) hc
   rw[zDJ ha hba,hv _ (hev nm)]
   cases(zah f).2.2.2<;>rfl
  split at hc
  ·simp only[Bool.and_eq_true,decide_eq_true_eq,Bool.not_eq_true']at hc
   obtain⟨⟨⟨⟨h1,_⟩,h3⟩,h2⟩,hc⟩:=hc
   obtain⟨q,hq,e⟩:=one h2
   rw[e]at hc
   obtain⟨a,ha,hba,v,hv1,hv⟩:=hx.2.2.2 h1
   obtain⟨b,hb,_,hb3⟩:=q4 (.inr h1)
   have hab:a=b:=by rw[ha]at hb;exact(List.cons.inj hb).1
   subst hab
   have hno:=zBC h3
   obtain⟨ev2,hev2⟩:∃ev2,ev++[(⟨nm,v⟩:zaG)]=ev2:=⟨_,rfl⟩
   have hw2:∀w,zbi m ev2 w=if nm=w then v else zbi m ev w:=fun w=>by rw[←hev2,zcL]
   have hin2:zCg m ev2:=fun w=>by
    rw[hw2]
    split
    ·exact hv1
    ·exact hev w
   have hs2:zw2 m ev2 l:=fun x hx=>by rw[←hev2,zDF (hbr x hx).v (hno x hx)];exact hs x hx
   refine ih q hq _ ev2 hin2 (ziH hbr (zhr ha hba hb3)) (zgW hs2 ?_) hc
   rw[zDJ ha hba,hw2,if_pos rfl]
   have e3:za2 m a (ev2++[(⟨(zah f).2.2.1.name,v⟩:zaG)])=za2 m a (ev++[(⟨(zah f).2.2.1.name,v⟩:zaG)]):=zzC hba.v fun w hw=>by
    rw[zcL,zcL,hw2]
    split
    ·rfl
    ·rename_i hn
     rw[if_neg]
     rintro rfl
     exact hno f hfm (zsY hbf (.inr h1) ha hw fun e=>hn e.symm)
   rw[e3,hv]
   cases(zah f).2.2.2<;>rfl
  split at hc
  ·simp only[Bool.and_eq_true,decide_eq_true_eq]at hc
   obtain⟨⟨⟨⟨h1,ho⟩,h2⟩,h3⟩,hc⟩:=hc
   obtain⟨q,hq,e⟩:=one h2
   rw[e]at hc
   obtain⟨g,hg⟩:∃g,atL l ot=g:=⟨_,rfl⟩
   have hgm:=zqV ho
   rw[hg]at hc hgm
   refine ih q hq _ ev hev (ziH hbr (hbr g hgm).cn) (zgW hs ?_) hc
   rw[zJo (hbr g hgm).v]
   rw[zJJ h1]at hvf
   have hvf:=of_decide_eq_true hvf
   have hl:=(zcl.1 hbf.v).2.2.2.1 h1
   obtain⟨a,b,hab⟩:∃a b,f.words=[a,b]:=by
    match h:f.words,hl with
    |[a,b],_=>exact⟨a,b,rfl⟩
   rw[hab]at hvf h3
   have hsw:zbi m ev (zot f nm)=zbi m ev nm:=by
    unfold zot
    rw[hab]
    simp only[List.getD_cons_zero,List.getD_cons_succ]at hvf ⊢
    simp only[List.mem_cons,List.not_mem_nil,or_false]at h3
    split
    ·rename_i h;rw[←h];exact hvf.symm
    ·rename_i h
     rcases h3 with h3|h3
     ·exact absurd h3.symm h
     ·rw[h3];exact hvf
   rw[hsw]
   rw[←hs g hgm]
   refine zzC (hbr g hgm).v fun w hw=>?_
   rw[zcL]
   split
   ·rename_i h;rw[h]
   ·rfl
  ·cases hc
end Go.Abs

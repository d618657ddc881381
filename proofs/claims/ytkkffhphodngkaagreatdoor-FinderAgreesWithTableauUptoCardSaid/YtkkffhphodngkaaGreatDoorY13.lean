/- several texts of this proof in one; no conditions -/
import Derived.Test.YtkkffhphodngkaaGreatDoorY17
import Derived.KernelRfl
import Derived.Test.YtkkffhphodngkaaGreatDoorBF
import Derived.Test.YtkkffhphodngkaaGreatDoorVS
set_option linter.unusedSimpArgs false
namespace Go.Abs
open Go
structure Brn where
 list:List zab
 used:List Bool
 seen:List (List Str)
 rounds:Int
def zzH (b:Brn):FD:= .agg [.sl (b.list.map enc),.sl (b.used.map enc),.sl (b.seen.map enc),.i .i64 b.rounds]
def zzG:FD→Brn
 | .agg [l,u,s,.i _ r]=>⟨dec l,dec u,dec s,r⟩
 |_=>⟨[],[],[],0⟩
theorem zoz (b:Brn):zzG (zzH b)=b:=by
 have h1:dec (.sl (b.list.map enc))=b.list:=dec_enc b.list
 have h2:dec (.sl (b.used.map enc))=b.used:=dec_enc b.used
 have h3:dec (.sl (b.seen.map enc))=b.seen:=dec_enc b.seen
 unfold zzG zzH
 simp only[h1,h2,h3]
instance:Enc Brn:=⟨zzH,zzG,zoz⟩
@[go_sem] theorem zGe {b:Brn}:enc b= .agg [.sl (b.list.map enc),.sl (b.used.map enc),.sl (b.seen.map enc),.i .i64 b.rounds]:=rfl
@[go_sem] theorem zF9 {l u s:FD}{i:IntKind}{r:Int}:dec (α:=Brn) (.agg [l,u,s,.i i r])=⟨dec l,dec u,dec s,r⟩:=rfl
@[go_sem] theorem zEt {l u s r}:(Brn.mk l u s r).list=l:=rfl
@[go_sem] theorem zEv {l u s r}:(Brn.mk l u s r).used=u:=rfl
@[go_sem] theorem zEu {l u s r}:(Brn.mk l u s r).seen=s:=rfl
@[go_sem] theorem zA5 {l u s r}:(Brn.mk l u s r).rounds=r:=rfl
@[go_sem] theorem zax {b:Brn}:Brn.mk b.list b.used b.seen b.rounds=b:=by cases b;rfl
def zbX (b:Brn)(fs:List zab):Brn:=⟨b.list++fs,b.used++List.replicate fs.length false,b.seen++List.replicate fs.length [],b.rounds⟩
def zbU:Prf:= .mk 0 0 0 ⟨[]⟩ []
def zeO (p:zab→Bool):List zab→Nat→Option Nat
 |[],_=>none
 |x::xs,k=>if p x then some k else zeO p xs (k+1)
def zcb (c:List za3)(l:List zab)(f:zab)(i:Nat):Option Prf:=
 if zlU c f then some (.mk 1 i i ⟨[]⟩ [])
 else if f.kind=4∧(zbJ f).kind=2 then(zeO (fun h=>zeu c h (zbJ f)) l 0).map fun(k:Nat)=>Prf.mk 1 (k:Int) i ⟨[]⟩ []
 else none
def zde (c:List za3)(l:List zab):List zab→Nat→Option Prf
 |[],_=>none
 |f::fs,i=>match zcb c l f i with
  |some p=>some p
  |none=>zde c l fs (i+1)
def zcF (l:List zab):Option Prf:=zde (zfE l) l l 0
def zgM (l:List zab):Prf×Bool:=match zcF l with
 |some p=>(p,true)
 |none=>(zbU,false)
def zaL (l:List zab):List Str:=(zdC (zg7 ((l.flatMap zaP).map (·.l)))).map Str.mk
def zcz (k:Nat):Str:=⟨99::zbr k⟩
def zcu (have':List Str):Nat→Nat→Nat
 |0,k=>k
 |m+1,k=>if zcz k∈have' then zcu have' m (k+1)else k
def zfK (have':List Str):Str:=zcz (zcu have' have'.length 0)
structure Res where
 p:Prf
 ok:Bool
 lim:Bool
 added:Int
def zoa (a:Int):Res:=⟨zbU,false,true,a⟩
def zcf (want:Int):List zab→List Bool→Nat→Option Nat
 |f::fs,u::us,i=>if u=false∧(zaf f).1=want then some i else zcf want fs us (i+1)
 |[],_,_=>none
 |_::_,[],_=>none
def zeX (rec:Brn→Int→Res)(b1:Brn)(i:Nat):List zab→List Prf→Int→Res
 |[],subs,a=>⟨.mk 3 i 0 ⟨[]⟩ subs,true,false,a⟩
 |x::xs,subs,a=>
  if 300<a+1 then zoa (a+1)
  else if(rec (zbX b1 [x]) (a+1)).ok=false then⟨zbU,false,(rec (zbX b1 [x]) (a+1)).lim,(rec (zbX b1 [x]) (a+1)).added⟩
  else zeX rec b1 i xs (subs++[(rec (zbX b1 [x]) (a+1)).p]) (rec (zbX b1 [x]) (a+1)).added
def zcL (b:Brn)(i:Nat):Brn:=⟨b.list,b.used.set i true,b.seen,b.rounds⟩
def zs7 (i:Nat)(r:Res):Res:=⟨.mk 2 i 0 ⟨[]⟩ [r.p],r.ok,r.lim,r.added⟩
def zp0 (i:Nat)(nm:Str)(r:Res):Res:=⟨.mk 5 i 0 nm [r.p],r.ok,r.lim,r.added⟩
def zc6 (rec:Brn→Int→Res)(b:Brn)(a:Int)(i:Nat)(f:zab):Res:=
 if(zaf f).1=1 then
  if 300<a+(zaf f).2.1.length then zoa (a+(zaf f).2.1.length)
  else zs7 i (rec (zbX (zcL b i) (zaf f).2.1) (a+(zaf f).2.1.length))
 else if(zaf f).1=4 then
  if 300<a+1 then zoa (a+1)
  else zp0 i (zfK (zaL b.list)) (rec (zbX (zcL b i) [zb6 (zaf f).2.2.1 (zaf f).2.2.2 (zfK (zaL b.list))]) (a+1))
 else zeX rec (zcL b i) i (zaf f).2.1 [] a
structure GS where
 c:Brn
 steps:List Prf
 added:Int
inductive GR where
 |lim (a:Int)
 |go (s:GS)
def saw (c:Brn)(i:Nat)(w:Str):Brn:=⟨c.list,c.used,c.seen.set i (c.seen.getD i []++[w]),c.rounds⟩
def zjW (q:zab)(t:Bool)(i:Nat):List Str→GS→GR
 |[],s=> .go s
 |w::ws,s=>
  if w∈s.c.seen.getD i []then zjW q t i ws s
  else if 300<s.added+1 then .lim (s.added+1)
  else zjW q t i ws ⟨zbX (saw s.c i w) [zb6 q t w],s.steps++[.mk 4 i 0 w []],s.added+1⟩
def GR.bind (r:GR)(k:GS→GR):GR:=match r with
 | .lim a=> .lim a
 | .go s=>k s
def zji (ws:List Str):List zab→Nat→GS→GR
 |[],_,s=> .go s
 |f::fs,i,s=>if(zaf f).1=3 then(zjW (zaf f).2.2.1 (zaf f).2.2.2 i ws s).bind (zji ws fs (i+1))else zji ws fs (i+1) s
def zhL (steps:List Prf)(p:Prf):Prf:=steps.foldr (fun s p=> .mk s.kind s.form s.other s.name [p]) p
def ze3 (l:List zab):List Str:=if zaL l=[]then[⟨[99,48]⟩]else zaL l
def zz0 (rec:Brn→Int→Res):GR→Res
 | .lim a=>zoa a
 | .go s=>if s.steps=[]then⟨zbU,false,false,s.added⟩else⟨zhL s.steps (rec s.c s.added).p,(rec s.c s.added).ok,(rec s.c s.added).lim,(rec s.c s.added).added⟩
def zgk (rec:Brn→Int→Res)(uses:Int)(b:Brn)(a:Int):Res:=
 if b.rounds=uses then⟨zbU,false,false,a⟩
 else zz0 rec (zji (ze3 b.list) b.list 0 ⟨⟨b.list,b.used,b.seen,b.rounds+1⟩,[],a⟩)
def zgv (rec:Brn→Int→Res)(b:Brn)(a:Int)(k:Res):List Int→Res
 |[]=>k
 |w::ws=>match zcf w b.list b.used 0 with
  |some i=>zc6 rec b a i (b.list.getD i za2)
  |none=>zgv rec b a k ws
def znS (rec:Brn→Int→Res)(uses:Int)(b:Brn)(a:Int):Res:=match zcF b.list with
 |some p=>⟨p,true,false,a⟩
 |none=>zgv rec b a (zgk rec uses b a) [1,4,2]
def zhJ (uses:Int):Nat→Brn→Int→Res
 |0,_,a=>zoa a
 |n+1,b,a=>znS (zhJ uses n) uses b a
section
variable {r1 r2:Brn→Int→Res}
end
theorem zj7 {f g:zab}{j:Int}(k4:f.kind=4)(s0:zbJ f=g)(hj:g.kind=j):
  (zaf f).1=if j=4 then 1 else if j=5 then 2 else if j=6 then 1 else if j=7 then 1 else if j=8 then 4 else if j=9 then 3 else 0:=by
 subst hj s0
 unfold zaf
 rw[if_neg (by omega),if_neg (by omega),if_neg (by omega),if_neg (by omega),if_neg (by omega),if_pos k4]
 repeat'(first|rfl|(split;try rfl))
theorem ziO {f:zab}{j:Int}(k4:¬f.kind=4)(hj:f.kind=j):
  (zaf f).1=if j=5 then 1 else if j=6 then 2 else if j=7 then 2 else if j=8 then 3 else if j=9 then 4 else 0:=by
 subst hj
 unfold zaf
 repeat'(first|rfl|(split;try rfl))
 all_goals contradiction
end Go.Abs
namespace Go.Abs
open Go
structure zcC (uses:Int)(b:Brn)(a:Int):Prop where
 br:∀f∈b.list,brF f
 ll:(b.list.length:Int)≤41+a
 ul:b.used.length=b.list.length
 sl:b.seen.length=b.list.length
 ss:∀s∈b.seen,(s.length:Int)≤a
 r0:0≤b.rounds
 r1:b.rounds≤uses
 u:uses≤1000
 a0:0≤a
 a1:a≤300
section
variable {uses:Int} {b:Brn} {a:Int}
theorem zcC.mono (h:zcC uses b a){a':Int}(h1:a≤a')(h2:a'≤300):zcC uses b a':=
 ⟨h.br,by have:=h.ll;omega,h.ul,h.sl,fun s hs=>by have:=h.ss s hs;omega,h.r0,h.r1,h.u,by have:=h.a0;omega,h2⟩
theorem zcC.mark (h:zcC uses b a)(i:Nat):zcC uses (zcL b i) a:=
 ⟨h.br,h.ll,by unfold zcL;simp only[List.length_set];exact h.ul,h.sl,h.ss,h.r0,h.r1,h.u,h.a0,h.a1⟩
theorem zcC.add (h:zcC uses b a){fs:List zab}(hf:∀f∈fs,brF f){a':Int}(ha:a'=a+fs.length)(h2:a'≤300):zcC uses (zbX b fs) a':=by
 subst ha
 have hll:=h.ll
 have ha0:=h.a0
 refine⟨fun f hf'=>?_,?_,?_,?_,fun s hs=>?_,h.r0,h.r1,h.u,by omega,h2⟩
 ·rcases List.mem_append.1 hf' with h1|h1
  ·exact h.br f h1
  ·exact hf f h1
 ·show((b.list++fs).length:Int)≤_
  rw[List.length_append];omega
 ·show(b.used++List.replicate fs.length false).length=(b.list++fs).length
  rw[List.length_append,List.length_append,List.length_replicate,h.ul]
 ·show(b.seen++List.replicate fs.length []).length=(b.list++fs).length
  rw[List.length_append,List.length_append,List.length_replicate,h.sl]
 ·rcases List.mem_append.1 hs with h1|h1
  ·have:=h.ss s h1;omega
  ·rw[(List.mem_replicate.1 h1).2];simp only[List.length_nil];omega
theorem zcC.saw (h:zcC uses b a){i:Nat}{w:Str}{I:zab}(hi:i<b.seen.length)(hI:brF I)(h2:a+1≤300):zcC uses (zbX (saw b i w) [I]) (a+1):=by
 have hll:=h.ll
 have ha0:=h.a0
 refine⟨fun f hf'=>?_,?_,?_,?_,fun s hs=>?_,h.r0,h.r1,h.u,by omega,h2⟩
 ·rcases List.mem_append.1 hf' with h1|h1
  ·exact h.br f h1
  ·rw[List.mem_singleton.1 h1];exact hI
 ·show((b.list++[I]).length:Int)≤_
  rw[List.length_append,List.length_singleton];omega
 ·show(b.used++List.replicate 1 false).length=(b.list++[I]).length
  rw[List.length_append,List.length_append,List.length_replicate,h.ul];rfl
 ·show(b.seen.set i (b.seen.getD i []++[w])++List.replicate 1 []).length=(b.list++[I]).length
  rw[List.length_append,List.length_append,List.length_replicate,List.length_set,h.sl];rfl
 ·rcases List.mem_append.1 hs with h1|h1
  ·rcases List.mem_or_eq_of_mem_set h1 with h3|h3
   ·have:=h.ss s h3;omega
   ·have hm:b.seen.getD i []∈b.seen:=by
     rw[List.getD_eq_getElem?_getD,List.getElem?_eq_getElem hi];exact List.getElem_mem hi
    have h4:=h.ss _ hm
    rw[h3,List.length_append,List.length_singleton]
    omega
  ·rw[(List.mem_replicate.1 h1).2];simp only[List.length_nil];omega
theorem zl6 {f:zab}(h:(zaf f).1=1):1≤(zaf f).2.1.length:=by
 unfold zaf at h ⊢
 by_cases h0:f.kind=5
 ·rw[if_pos h0];exact(by decide:(1:Nat)≤2)
 rw[if_neg h0]at h ⊢
 by_cases h1:f.kind=6
 ·rw[if_pos h1]at h;exact absurd h (show¬((2:Int)=1) by decide)
 rw[if_neg h1]at h ⊢
 by_cases h2:f.kind=7
 ·rw[if_pos h2]at h;exact absurd h (show¬((2:Int)=1) by decide)
 rw[if_neg h2]at h ⊢
 by_cases h3:f.kind=8
 ·rw[if_pos h3]at h;exact absurd h (show¬((3:Int)=1) by decide)
 rw[if_neg h3]at h ⊢
 by_cases h4:f.kind=9
 ·rw[if_pos h4]at h;exact absurd h (show¬((4:Int)=1) by decide)
 rw[if_neg h4]at h ⊢
 by_cases hk:f.kind=4
 rotate_left
 ·rw[if_neg hk]at h;exact absurd h (show¬((0:Int)=1) by decide)
 rw[if_pos hk]at h ⊢
 by_cases h5:(zbJ f).kind=4
 ·rw[if_pos h5];exact(by decide:(1:Nat)≤1)
 rw[if_neg h5]at h ⊢
 by_cases h6:(zbJ f).kind=5
 ·rw[if_pos h6]at h;exact absurd h (show¬((2:Int)=1) by decide)
 rw[if_neg h6]at h ⊢
 by_cases h7:(zbJ f).kind=6
 ·rw[if_pos h7];exact(by decide:(1:Nat)≤2)
 rw[if_neg h7]at h ⊢
 by_cases h8:(zbJ f).kind=7
 ·rw[if_pos h8];exact(by decide:(1:Nat)≤2)
 rw[if_neg h8]at h ⊢
 by_cases h9:(zbJ f).kind=8
 ·rw[if_pos h9]at h;exact absurd h (show¬((4:Int)=1) by decide)
 rw[if_neg h9]at h ⊢
 by_cases h10:(zbJ f).kind=9
 ·rw[if_pos h10]at h;exact absurd h (show¬((3:Int)=1) by decide)
 rw[if_neg h10]at h ⊢
 exact absurd h (show¬((0:Int)=1) by decide)
theorem zgU {q:zab}{t:Bool}{i:Nat}:∀(ws:List Str) (s:GS),s.added≤300→match zjW q t i ws s with
  | .lim a=>s.added≤a
  | .go s'=>s.added≤s'.added∧s'.added≤300
 |[],s,h=>by rw[zjW];exact⟨Int.le_refl _,h⟩
 |w::ws,s,h=>by
  rw[zjW]
  by_cases h1:w∈s.c.seen.getD i []
  ·rw[if_pos h1];exact zgU ws s h
  ·rw[if_neg h1]
   by_cases h2:300<s.added+1
   ·rw[if_pos h2];simp only;omega
   ·rw[if_neg h2]
    have h3:=zgU (q:=q) (t:=t) (i:=i) ws ⟨zbX (saw s.c i w) [zb6 q t w],s.steps++[.mk 4 i 0 w []],s.added+1⟩ (by simp only;omega)
    revert h3
    generalize zjW q t i ws ⟨zbX (saw s.c i w) [zb6 q t w],s.steps++[.mk 4 i 0 w []],s.added+1⟩=r
    cases r with
    |lim a=>intro h3;simp only at h3 ⊢;omega
    |go s'=>intro h3;simp only at h3 ⊢;omega
theorem zgT {ws:List Str}:∀(l:List zab) (i:Nat) (s:GS),s.added≤300→match zji ws l i s with
  | .lim a=>s.added≤a
  | .go s'=>s.added≤s'.added∧s'.added≤300
 |[],i,s,h=>by rw[zji];exact⟨Int.le_refl _,h⟩
 |f::fs,i,s,h=>by
  rw[zji]
  by_cases h1:(zaf f).1=3
  ·rw[if_pos h1]
   have h2:=zgU (q:=(zaf f).2.2.1) (t:=(zaf f).2.2.2) (i:=i) ws s h
   revert h2
   generalize zjW (zaf f).2.2.1 (zaf f).2.2.2 i ws s=r
   cases r with
   |lim a=>intro h2;exact h2
   |go s'=>
    intro h2
    have h3:=zgT (ws:=ws) fs (i+1) s' h2.2
    show match zji ws fs (i+1) s' with
     | .lim a=>s.added≤a
     | .go s'=>s.added≤s'.added∧s'.added≤300
    revert h3
    generalize zji ws fs (i+1) s'=r
    cases r with
    |lim a=>intro h3;simp only at h2 h3 ⊢;omega
    |go s''=>intro h3;simp only at h2 h3 ⊢;omega
  ·rw[if_neg h1];exact zgT fs (i+1) s h
def zkp (a:Int)(r:Res):Prop:=a≤r.added∧(r.ok=true→r.added≤300)
theorem zh8 {rec:Brn→Int→Res}{b1:Brn}{i:Nat}(h:∀b a,a≤300→zkp a (rec b a)):∀(xs:List zab) (subs:List Prf) (a:Int),a≤300→zkp a (zeX rec b1 i xs subs a)
 |[],subs,a,ha=>⟨Int.le_refl _,fun _=>ha⟩
 |x::xs,subs,a,ha=>by
  rw[zeX]
  by_cases h1:300<a+1
  ·rw[if_pos h1];exact⟨by show a≤a+1;omega,fun e=>by cases e⟩
  ·rw[if_neg h1]
   have h2:=h (zbX b1 [x]) (a+1) (by omega)
   by_cases h3:(rec (zbX b1 [x]) (a+1)).ok=false
   ·rw[if_pos h3]
    exact⟨by have:=h2.1;simp only;omega,fun e=>by cases e⟩
   ·rw[if_neg h3]
    have h4:=zh8 (b1:=b1) (i:=i) h xs (subs++[(rec (zbX b1 [x]) (a+1)).p]) _ (h2.2 (by simpa using h3))
    exact⟨by have:=h2.1;have:=h4.1;omega,h4.2⟩
theorem zmW {rec:Brn→Int→Res}{i:Nat}{f:zab}(h:∀b a,a≤300→zkp a (rec b a))(ha:a≤300):zkp a (zc6 rec b a i f):=by
 unfold zc6
 by_cases h1:(zaf f).1=1
 ·rw[if_pos h1]
  by_cases h2:300<a+(zaf f).2.1.length
  ·rw[if_pos h2];exact⟨by show a≤a+_;omega,fun e=>by cases e⟩
  ·rw[if_neg h2]
   have h3:=h (zbX (zcL b i) (zaf f).2.1) (a+(zaf f).2.1.length) (by omega)
   exact⟨by have:=h3.1;show a≤(rec _ _).added;omega,h3.2⟩
 ·rw[if_neg h1]
  by_cases h4:(zaf f).1=4
  ·rw[if_pos h4]
   by_cases h2:300<a+1
   ·rw[if_pos h2];exact⟨by show a≤a+1;omega,fun e=>by cases e⟩
   ·rw[if_neg h2]
    have h3:=h (zbX (zcL b i) [zb6 (zaf f).2.2.1 (zaf f).2.2.2 (zfK (zaL b.list))]) (a+1) (by omega)
    exact⟨by have:=h3.1;show a≤(rec _ _).added;omega,h3.2⟩
  ·rw[if_neg h4];exact zh8 h _ _ _ ha
theorem zg5 {uses:Int}:∀(n:Nat) (b:Brn) (a:Int),a≤300→zkp a (zhJ uses n b a)
 |0,b,a,ha=>⟨Int.le_refl _,fun e=>by cases e⟩
 |n+1,b,a,ha=>by
  rw[zhJ]
  unfold znS
  have ih:=zg5 (uses:=uses) n
  cases zcF b.list with
  |some p=>exact⟨Int.le_refl _,fun _=>ha⟩
  |none=>
   have hg:zkp a (zgk (zhJ uses n) uses b a):=by
    unfold zgk
    by_cases h1:b.rounds=uses
    ·rw[if_pos h1];exact⟨Int.le_refl _,fun e=>by cases e⟩
    ·rw[if_neg h1]
     have h2:=zgT (ws:=ze3 b.list) b.list 0 ⟨⟨b.list,b.used,b.seen,b.rounds+1⟩,[],a⟩ ha
     revert h2
     generalize zji (ze3 b.list) b.list 0 ⟨⟨b.list,b.used,b.seen,b.rounds+1⟩,[],a⟩=r
     cases r with
     |lim a'=>intro h2;exact⟨h2,fun e=>by cases e⟩
     |go s=>
      intro h2
      simp only at h2
      unfold zz0
      simp only
      by_cases h3:s.steps=[]
      ·rw[if_pos h3];exact⟨h2.1,fun e=>by cases e⟩
      ·rw[if_neg h3]
       have h4:=ih s.c s.added h2.2
       exact⟨by have:=h4.1;have:=h2.1;simp only;omega,h4.2⟩
   have key:∀ws:List Int,zkp a (zgv (zhJ uses n) b a (zgk (zhJ uses n) uses b a) ws):=by
    intro ws
    induction ws with
    |nil=>exact hg
    |cons w ws ihw=>
     rw[zgv]
     cases zcf w b.list b.used 0 with
     |some i=>exact zmW ih ha
     |none=>exact ihw
   exact key _
theorem zgX {want:Int}{l:List zab}{u:List Bool}{i k:Nat}(h:i<l.length)(h2:i<u.length):zcf want (l.drop i) (u.drop i) k=if u[i]=false∧(zaf l[i]).1=want then some k else zcf want (l.drop (i+1)) (u.drop (i+1)) (k+1):=by
 rw[List.drop_eq_getElem_cons h,List.drop_eq_getElem_cons h2,zcf]
theorem ziS {want:Int}{l:List zab}{u:List Bool}{i k:Nat}(h:l.length≤i):zcf want (l.drop i) (u.drop i) k=none:=by
 rw[List.drop_eq_nil_of_le h,zcf]
theorem zt9 {q:zab}{t:Bool}{i j:Nat}{ws:List Str}{s:GS}(h:j<ws.length):zjW q t i (ws.drop j) s=
  if ws[j]∈s.c.seen.getD i []then zjW q t i (ws.drop (j+1)) s
  else if 300<s.added+1 then .lim (s.added+1)
  else zjW q t i (ws.drop (j+1)) ⟨zbX (saw s.c i ws[j]) [zb6 q t ws[j]],s.steps++[.mk 4 i 0 ws[j] []],s.added+1⟩:=by
 rw[List.drop_eq_getElem_cons h,zjW]
theorem zt8 {ws:List Str}{l:List zab}{i k:Nat}{s:GS}(h:i<l.length):zji ws (l.drop i) k s=
  if(zaf l[i]).1=3 then(zjW (zaf l[i]).2.2.1 (zaf l[i]).2.2.2 k ws s).bind (zji ws (l.drop (i+1)) (k+1))else zji ws (l.drop (i+1)) (k+1) s:=by
 rw[List.drop_eq_getElem_cons h,zji]
theorem zri {rec:Brn→Int→Res}{b1:Brn}{i j:Nat}{xs:List zab}{subs:List Prf}(h:j<xs.length):zeX rec b1 i (xs.drop j) subs a=
  if 300<a+1 then zoa (a+1)
  else if(rec (zbX b1 [xs[j]]) (a+1)).ok=false then⟨zbU,false,(rec (zbX b1 [xs[j]]) (a+1)).lim,(rec (zbX b1 [xs[j]]) (a+1)).added⟩
  else zeX rec b1 i (xs.drop (j+1)) (subs++[(rec (zbX b1 [xs[j]]) (a+1)).p]) (rec (zbX b1 [xs[j]]) (a+1)).added:=by
 rw[List.drop_eq_getElem_cons h,zeX]
end
theorem ztA {u v:Nat}(h:zcz u=zcz v):u=v:=zjO (List.cons.inj (Str.mk.inj h)).2
theorem zmX (used:List Str):∀m k,k≤zcu used m k∧zcu used m k≤k+m
 |0,k=>by simp[zcu]
 |m+1,k=>by
  rw[zcu]
  split
  ·have:=zmX used m (k+1);omega
  ·omega
theorem zhr (used:List Str):∀m k i,k≤i→i<zcu used m k→zcz i∈used
 |0,k,i,h1,h2=>by simp only[zcu]at h2;omega
 |m+1,k,i,h1,h2=>by
  rw[zcu]at h2
  split at h2
  ·rename_i h
   rcases Nat.eq_or_lt_of_le h1 with rfl|h1
   ·exact h
   ·exact zhr used m (k+1) i h1 h2
  ·omega
theorem zix (used:List Str):∀m k,zcu used m k<k+m→zcz (zcu used m k)∉used
 |0,k,h=>by simp[zcu]at h
 |m+1,k,h=>by
  rw[zcu]at h ⊢
  split
  ·rename_i h1
   rw[if_pos h1]at h
   exact zix used m (k+1) (by omega)
  ·assumption
theorem zHM:∀(used:List Str) (S:List Nat),S.Nodup→(∀i∈S,zcz i∈used)→S.length≤used.length
 |[],S,_,h=>by
  cases S with
  |nil=>simp
  |cons i S=>have:=h i (by simp);simp at this
 |u::us,S,hn,h=>by
  by_cases he:∃i∈S,zcz i=u
  ·obtain⟨i,hi,rfl⟩:=he
   have h1:=zHM us (S.erase i) (hn.erase i) fun j hj=>by
    have h2:=(List.Nodup.mem_erase_iff hn).1 hj
    rcases List.mem_cons.1 (h j h2.2)with h3|h3
    ·exact absurd (ztA h3) h2.1
    ·exact h3
   rw[List.length_erase_of_mem hi]at h1
   simp only[List.length_cons]
   omega
  ·have h1:=zHM us S hn fun j hj=>by
    rcases List.mem_cons.1 (h j hj)with h3|h3
    ·exact absurd ⟨j,hj,h3⟩ he
    ·exact h3
   simp only[List.length_cons]
   omega
theorem ziy (used:List Str):zcu used used.length 0≤used.length∧zcz (zcu used used.length 0)∉used∧∀i,i<zcu used used.length 0→zcz i∈used:=by
 have h1:=zmX used used.length 0
 have h2:=zhr used used.length 0
 refine⟨by omega,?_,fun i hi=>h2 i (Nat.zero_le _) hi⟩
 rcases Nat.lt_or_ge (zcu used used.length 0) (0+used.length)with h|h
 ·exact zix used _ _ h
 ·have he:zcu used used.length 0=used.length:=by omega
  intro hin
  rw[he]at hin h2
  have h3:=zHM used (List.range' 0 (used.length+1)) List.nodup_range' fun i hi=>by
   have:=List.mem_range'_1.1 hi
   rcases Nat.lt_or_ge i used.length with h4|h4
   ·exact h2 i (Nat.zero_le _) h4
   ·obtain rfl:i=used.length:=by omega
    exact hin
  rw[List.length_range']at h3
  omega
end Go.Abs
namespace Go.Abs
open Go
end Go.Abs
namespace Go.Abs
open Go
theorem zrp {j:Nat}(h:j<10^20):zat (zcz j)=true:=by
 have h1:=zmz 19 j h
 refine zgs ?_ ?_ ?_ fun i hi=>?_
 ·simp[zcz]
 ·simp only[zcz,List.length_cons];omega
 ·simp[zcz,zgJ]
 ·simp only[zcz,List.length_cons]at hi ⊢
  cases i with
  |zero=>show okc (99:UInt8);decide
  |succ i=>
   rw[List.getD_cons_succ]
   have hm:(zbr j).getD i 0∈zbr j:=by
    rw[List.getD_eq_getElem?_getD,List.getElem?_eq_getElem (by omega)]
    exact List.getElem_mem _
   have:=h1.2 _ hm
   exact .inr (.inl ⟨by omega,by omega⟩)
theorem zx2 {f:zab}(h:brF f)(hs:(zaf f).1=3∨(zaf f).1=4):f.kind=8∨f.kind=9∨(f.kind=4∧((zbJ f).kind=8∨(zbJ f).kind=9)):=by
 unfold zaf at hs
 have hkb:=zbM.1 h.v
 by_cases k8:f.kind=8
 ·exact .inl k8
 by_cases k9:f.kind=9
 ·exact .inr (.inl k9)
 refine .inr (.inr ?_)
 by_cases k4:f.kind=4
 ·refine⟨k4,?_⟩
  by_cases j8:(zbJ f).kind=8
  ·exact .inl j8
  by_cases j9:(zbJ f).kind=9
  ·exact .inr j9
  exfalso
  simp only[k4,j8,j9,if_false,if_true,show¬((4:Int)=5) by decide,show¬((4:Int)=6) by decide,show¬((4:Int)=7) by decide,show¬((4:Int)=8) by decide,show¬((4:Int)=9) by decide]at hs
  split at hs<;>(try split at hs)<;>(try split at hs)<;>(try split at hs)<;>simp at hs
 ·exfalso
  simp only[k4,k8,k9,if_false]at hs
  split at hs<;>(try split at hs)<;>(try split at hs)<;>simp at hs
theorem zha {f a:zab}(h:BF f)(ha:a∈f.subs):BF0 a∧a.size+1≤800:=⟨h.o.sub ha,by have:=zab.size_sub ha;have:=h.o.b.s;omega⟩
theorem zeM {f g a:zab}(h:BF f)(hg:g∈f.subs)(ha:a∈g.subs):BF0 a∧a.size+1≤800:=⟨(h.o.sub hg).sub ha,by have:=zab.size_sub hg;have:=zab.size_sub ha;have:=h.o.b.s;omega⟩
theorem zee {f:zab}{i:Nat}(h:i<f.subs.length):f.subs.getD i za2∈f.subs:=by
 rw[List.getD_eq_getElem?_getD,List.getElem?_eq_getElem h];exact List.getElem_mem h
theorem zuO {f:zab}(h:BF f):∀g∈(zaf f).2.1,BF g:=by
 have hv:=zbM.1 h.o.b.v
 have one:∀{x:zab},vok x→(x.kind=4∨x.kind=8∨x.kind=9)→zbJ x∈x.subs:=fun{x} hx hk=>zee (f:=x) (i:=0) (by rw[(zbM.1 hx).2.2.2.2.1 hk];omega)
 have two0:∀{x:zab},vok x→(x.kind=5∨x.kind=6∨x.kind=7)→zbJ x∈x.subs:=fun{x} hx hk=>zee (f:=x) (i:=0) (by rw[(zbM.1 hx).2.2.2.2.2.1 hk];omega)
 have two1:∀{x:zab},vok x→(x.kind=5∨x.kind=6∨x.kind=7)→zvm x∈x.subs:=fun{x} hx hk=>zee (f:=x) (i:=1) (by rw[(zbM.1 hx).2.2.2.2.2.1 hk];omega)
 have C:∀{a:zab},BF0 a∧a.size+1≤800→BF (cnn a):=fun h=>h.1.cn
 have N:∀{a:zab},BF0 a∧a.size+1≤800→BF (ngg a):=fun h=>h.1.ng h.2
 have fv:=h.o.b.v
 intro g hg
 unfold zaf at hg
 by_cases k5:f.kind=5
 ·rw[if_pos k5]at hg
  simp only[List.mem_cons,List.not_mem_nil,or_false]at hg
  rcases hg with rfl|rfl
  ·exact C (zha h (two0 fv (by omega)))
  ·exact C (zha h (two1 fv (by omega)))
 rw[if_neg k5]at hg
 by_cases k6:f.kind=6
 ·rw[if_pos k6]at hg
  simp only[List.mem_cons,List.not_mem_nil,or_false]at hg
  rcases hg with rfl|rfl
  ·exact C (zha h (two0 fv (by omega)))
  ·exact C (zha h (two1 fv (by omega)))
 rw[if_neg k6]at hg
 by_cases k7:f.kind=7
 ·rw[if_pos k7]at hg
  simp only[List.mem_cons,List.not_mem_nil,or_false]at hg
  rcases hg with rfl|rfl
  ·exact N (zha h (two0 fv (by omega)))
  ·exact C (zha h (two1 fv (by omega)))
 rw[if_neg k7]at hg
 by_cases k8:f.kind=8
 ·rw[if_pos k8]at hg
  exact absurd hg List.not_mem_nil
 rw[if_neg k8]at hg
 by_cases k9:f.kind=9
 ·rw[if_pos k9]at hg
  exact absurd hg List.not_mem_nil
 rw[if_neg k9]at hg
 by_cases k4:f.kind=4
 rotate_left
 ·rw[if_neg k4]at hg
  exact absurd hg List.not_mem_nil
 rw[if_pos k4]at hg
 have hs:=one fv (.inl k4)
 have gv:vok (zbJ f):=(h.o.sub hs).b.v
 by_cases j4:(zbJ f).kind=4
 ·rw[if_pos j4]at hg
  simp only[List.mem_cons,List.not_mem_nil,or_false]at hg
  rw[hg]
  exact C (zeM h hs (one gv (.inl j4)))
 rw[if_neg j4]at hg
 by_cases j5:(zbJ f).kind=5
 ·rw[if_pos j5]at hg
  simp only[List.mem_cons,List.not_mem_nil,or_false]at hg
  rcases hg with rfl|rfl
  ·exact N (zeM h hs (two0 gv (by omega)))
  ·exact N (zeM h hs (two1 gv (by omega)))
 rw[if_neg j5]at hg
 by_cases j6:(zbJ f).kind=6
 ·rw[if_pos j6]at hg
  simp only[List.mem_cons,List.not_mem_nil,or_false]at hg
  rcases hg with rfl|rfl
  ·exact N (zeM h hs (two0 gv (by omega)))
  ·exact N (zeM h hs (two1 gv (by omega)))
 rw[if_neg j6]at hg
 by_cases j7:(zbJ f).kind=7
 ·rw[if_pos j7]at hg
  simp only[List.mem_cons,List.not_mem_nil,or_false]at hg
  rcases hg with rfl|rfl
  ·exact C (zeM h hs (two0 gv (by omega)))
  ·exact N (zeM h hs (two1 gv (by omega)))
 rw[if_neg j7]at hg
 by_cases j8:(zbJ f).kind=8
 ·rw[if_pos j8]at hg
  exact absurd hg List.not_mem_nil
 rw[if_neg j8]at hg
 by_cases j9:(zbJ f).kind=9
 ·rw[if_pos j9]at hg
  exact absurd hg List.not_mem_nil
 rw[if_neg j9]at hg
 exact absurd hg List.not_mem_nil
theorem zqh {f:zab}{nm:Str}(h:BF f)(hs:(zaf f).1=3∨(zaf f).1=4)(hn:zat nm=true):BF (zb6 (zaf f).2.2.1 (zaf f).2.2.2 nm):=by
 have hq:=zx2 h.o.b hs
 have key:∀{q:zab},BF0 q→(q.kind=8∨q.kind=9)→BF (zjj q nm):=fun{q} hq0 hk=>by
  have hl:=(zbM.1 hq0.b.v).2.2.2.2.1 (.inr hk)
  have hm:zbJ q∈q.subs:=zee (f:=q) (i:=0) (by omega)
  exact(hq0.sub hm).can (by simp) fun b hb=>by rw[List.mem_singleton.1 hb];exact hn
 by_cases k4:f.kind=4
 ·have hl:=(zbM.1 h.o.b.v).2.2.2.2.1 (.inl k4)
  have hm:zbJ f∈f.subs:=zee (f:=f) (i:=0) (by omega)
  have hqk:(zbJ f).kind=8∨(zbJ f).kind=9:=by omega
  have e:zb6 (zaf f).2.2.1 (zaf f).2.2.2 nm=ngg (zjj (zbJ f) nm):=by
   unfold zaf
   rcases hqk with j|j<;>(rw[k4,j];rfl)
  have hb:=key (h.o.sub hm) hqk
  rw[e]
  refine hb.o.ng ?_
  have h2:=(zbM.1 (h.o.sub hm).b.v).2.2.2.2.1 (.inr hqk)
  have hm2:zbJ (zbJ f)∈(zbJ f).subs:=zee (f:=zbJ f) (i:=0) (by omega)
  have:=zab.size_sub hm
  have:=zab.size_sub hm2
  have:=h.o.b.s
  unfold zjj
  rw[zcl];omega
 ·have hqk:f.kind=8∨f.kind=9:=by omega
  have e:zb6 (zaf f).2.2.1 (zaf f).2.2.2 nm=zjj f nm:=by
   unfold zaf
   rcases hqk with j|j<;>(rw[j];rfl)
  rw[e]
  exact key h.o hqk
def zh4 (l:List zab):Prop:=∀f∈l,BF f
theorem zvM {f:zab}{w:Str}(h:BF f)(hw:w∈zaP f):zat w=true:=zkE f [] w h.o.aw ((zbm f w).1 hw)
theorem znf {l:List zab}{w:Str}:w∈zaL l↔∃f∈l,w∈zaP f:=by
 unfold zaL
 constructor
 ·intro h
  obtain⟨x,hx,rfl⟩:=List.mem_map.1 h
  have h2:=(zcw _).mem_iff.1 ((zeh _ _).1 hx)
  obtain⟨y,hy,rfl⟩:=List.mem_map.1 h2
  exact List.mem_flatMap.1 hy
 ·rintro⟨f,hf,hw⟩
  refine List.mem_map.2 ⟨w.l,(zeh _ _).2 ((zcw _).mem_iff.2 (List.mem_map.2 ⟨w,List.mem_flatMap.2 ⟨f,hf,hw⟩,rfl⟩)),rfl⟩
theorem zoy {l:List zab}(h:zh4 l){w:Str}(hw:w∈ze3 l):zat w=true:=by
 unfold ze3 at hw
 split at hw
 ·rw[List.mem_singleton.1 hw];decide
 ·obtain⟨f,hf,h2⟩:=znf.1 hw
  exact zvM (h f hf) h2
theorem zuL {l:List zab}{w:Str}(h:w∉zaL l):zAz l w=false:=by
 unfold zAz
 rw[List.any_eq_false]
 intro f hf h2
 exact h (znf.2 ⟨f,hf,by simpa using h2⟩)
theorem ziz {l:List zab}{i:Nat}(h:i<l.length):inL l i=true:=by
 unfold inL
 simp[h]
theorem zfN {l:List zab}{i:Nat}(h:i<l.length):atL l i=l[i]:=by
 unfold atL
 rw[Int.toNat_natCast,List.getD_eq_getElem?_getD,List.getElem?_eq_getElem h];rfl
theorem ziw {p:zab→Bool}:∀{l:List zab} {k n:Nat},zeO p l k=some n→∃j,∃h:j<l.length,n=k+j∧p l[j]=true
 |[],k,n,h=>by rw[zeO]at h;cases h
 |x::l,k,n,h=>by
  rw[zeO]at h
  by_cases hp:p x=true
  ·rw[if_pos hp]at h
   cases h
   exact⟨0,by simp,rfl,hp⟩
  ·rw[if_neg hp]at h
   obtain⟨j,hj,e,h2⟩:=ziw h
   exact⟨j+1,by simpa using hj,by omega,by simpa using h2⟩
theorem zho {c:List za3}{l:List zab}{p:Prf}:∀{fs:List zab} {k:Nat},zde c l fs k=some p→∃j,∃h:j<fs.length,zcb c l fs[j] (k+j)=some p
 |[],k,h=>by rw[zde]at h;cases h
 |f::fs,k,h=>by
  rw[zde]at h
  cases hc:zcb c l f k with
  |some q=>
   rw[hc]at h
   exact⟨0,by simp,by simpa using hc.trans h⟩
  |none=>
   rw[hc]at h
   obtain⟨j,hj,h2⟩:=zho h
   exact⟨j+1,by simpa using hj,by simp only[List.getElem_cons_succ];rw[←h2];congr 1;omega⟩
theorem zrn {l:List zab}{p:Prf}(h:zcF l=some p):zii p l=true∧p.size=1:=by
 unfold zcF at h
 obtain⟨i,hi,h2⟩:=zho h
 rw[Nat.zero_add]at h2
 unfold zcb at h2
 by_cases hc:zlU (zfE l) l[i]=true
 ·rw[if_pos hc]at h2
  cases h2
  refine⟨?_,rfl⟩
  rw[zfP]
  unfold zwv
  simp only[zeH,zeG,zdK,zeI,ziz hi,zfN hi,hc]
  simp
 ·rw[if_neg hc]at h2
  split at h2
  ·rename_i hk
   obtain⟨n,hn,rfl⟩:=Option.map_eq_some_iff.1 h2
   obtain⟨j,hj,e,ha⟩:=ziw hn
   rw[Nat.zero_add]at e
   subst e
   refine⟨?_,rfl⟩
   have ha2:=ha
   unfold zeu at ha2
   simp only[Bool.and_eq_true,decide_eq_true_eq]at ha2
   have hne:¬((i:Int)=(n:Int)):=fun e=>by
    have e2:i=n:=by omega
    subst e2
    have:=ha2.1.1.1
    omega
   rw[zfP]
   unfold zwv
   simp only[zeH,zeG,zdK,zeI,ziz hj,ziz hi,zfN hj,zfN hi]
   unfold zpL
   rw[ha,decide_eq_true hk.1]
   simp[hne]
  ·cases h2
theorem zj8 {want:Int}:∀{l:List zab} {u:List Bool} {k i:Nat},zcf want l u k=some i→∃j,∃h:j<l.length,i=k+j∧(zaf l[j]).1=want
 |[],u,k,i,h=>by rw[zcf]at h;cases h
 |_::_,[],k,i,h=>by rw[zcf]at h;cases h
 |f::fs,u::us,k,i,h=>by
  rw[zcf]at h
  by_cases hc:u=false∧(zaf f).1=want
  ·rw[if_pos hc]at h
   cases h
   exact⟨0,by simp,rfl,hc.2⟩
  ·rw[if_neg hc]at h
   obtain⟨j,hj,e,h2⟩:=zj8 h
   exact⟨j+1,by simpa using hj,by omega,by simpa using h2⟩
theorem ziT {rec:Brn→Int→Res}{b:Brn}{a:Int}{K:Res}:∀{ws:List Int},(∃w∈ws,∃i,zcf w b.list b.used 0=some i∧zgv rec b a K ws=zc6 rec b a i (b.list.getD i za2))∨zgv rec b a K ws=K
 |[]=> .inr rfl
 |w::ws=>by
  rw[zgv]
  cases h:zcf w b.list b.used 0 with
  |some i=>exact .inl ⟨w,by simp,i,h,rfl⟩
  |none=>
   rcases ziT (rec:=rec) (b:=b) (a:=a) (K:=K) (ws:=ws)with⟨w2,hw,i,h1,h2⟩|h1
   ·exact .inl ⟨w2,List.mem_cons_of_mem _ hw,i,h1,h2⟩
   ·exact .inr h1
theorem zAL {k f o:Int}{n:Str}{p:Prf}:(Prf.mk k f o n [p]).size=p.size+1:=by rw[Prf.size,Prf.sizes,Prf.sizes]
theorem zHU {k f o:Int}{n:Str}{p q:Prf}:(Prf.mk k f o n [p,q]).size=p.size+q.size+1:=by rw[Prf.size,Prf.sizes,Prf.sizes,Prf.sizes];rfl
theorem zKJ {l:List zab}{i:Nat}{p:Prf}(h:i<l.length)(hk:(zaf l[i]).1=1)(hp:zii p (l++(zaf l[i]).2.1)=true):zii (.mk 2 i 0 ⟨[]⟩ [p]) l=true:=by
 rw[zfP]
 unfold zwv
 simp only[zeH,zeG,zdK,zeI,ziz h,zfN h,hk]
 simp[hp]
theorem zKK {l:List zab}{i:Nat}{p q:Prf}{x y:zab}(h:i<l.length)(hk:(zaf l[i]).1=2)(ho:(zaf l[i]).2.1=[x,y])(hp:zii p (l++[x])=true)(hq:zii q (l++[y])=true):zii (.mk 3 i 0 ⟨[]⟩ [p,q]) l=true:=by
 rw[zfP]
 unfold zwv
 simp only[zeH,zeG,zdK,zeI,ziz h,zfN h,hk,ho]
 simp[hp,hq]
theorem zKL {l:List zab}{i:Nat}{p:Prf}{w:Str}(h:i<l.length)(hk:(zaf l[i]).1=3)(hw:zat w=true)(hp:zii p (l++[zb6 (zaf l[i]).2.2.1 (zaf l[i]).2.2.2 w])=true):zii (.mk 4 i 0 w [p]) l=true:=by
 rw[zfP]
 unfold zwv
 simp only[zeH,zeG,zdK,zll,zeI,ziz h,zfN h,hk,hw]
 simp[hp]
theorem zKM {l:List zab}{i:Nat}{p:Prf}{w:Str}(h:i<l.length)(hk:(zaf l[i]).1=4)(hw:zat w=true)(ho:zAz l w=false)(hp:zii p (l++[zb6 (zaf l[i]).2.2.1 (zaf l[i]).2.2.2 w])=true):zii (.mk 5 i 0 w [p]) l=true:=by
 rw[zfP]
 unfold zwv
 simp only[zeH,zeG,zdK,zll,zeI,ziz h,zfN h,hk,hw,ho]
 simp[hp]
structure zhZ (uses:Int)(s0 s:GS):Prop where
 ok:zcC uses s.c s.added
 bf:zh4 s.c.list
 ex:∃e,s.c.list=s0.c.list++e
 st:∃T:List Prf,s.steps=s0.steps++T∧s.added=s0.added+T.length∧(∀p,zii p s.c.list=true→zii (zhL T p) s0.c.list=true)∧∀p:Prf,(zhL T p).size=T.length+p.size
theorem zhZ.refl {uses:Int}{s:GS}(h:zcC uses s.c s.added)(h2:zh4 s.c.list):zhZ uses s s:=
 ⟨h,h2,⟨[],by simp⟩,⟨[],by simp,by simp,fun p hp=>hp,fun p=>by simp[zhL]⟩⟩
theorem zq0 {A B:List Prf}{p:Prf}:zhL (A++B) p=zhL A (zhL B p):=by unfold zhL;rw[List.foldr_append]
theorem zhZ.trans {uses:Int}{s0 s1 s2:GS}(h:zhZ uses s0 s1)(h2:zhZ uses s1 s2):zhZ uses s0 s2:=by
 obtain⟨e1,he1⟩:=h.ex
 obtain⟨e2,he2⟩:=h2.ex
 obtain⟨T1,a1,a2,a3,a4⟩:=h.st
 obtain⟨T2,b1,b2,b3,b4⟩:=h2.st
 refine⟨h2.ok,h2.bf,⟨e1++e2,by rw[he2,he1,List.append_assoc]⟩,⟨T1++T2,by rw[b1,a1,List.append_assoc],by rw[b2,a2,List.length_append];omega,fun p hp=>?_,fun p=>?_⟩⟩
 ·rw[zq0];exact a3 _ (b3 _ hp)
 ·rw[zq0,a4,b4,List.length_append];omega
theorem zkV {uses:Int}{q:zab}{t:Bool}{i:Nat}{f:zab}(hq:q=(zaf f).2.2.1)(ht:t=(zaf f).2.2.2)(hk:(zaf f).1=3):∀(ws:List Str) (s s':GS),(∀w∈ws,zat w=true)→zcC uses s.c s.added→zh4 s.c.list→
  (h:i<s.c.list.length)→s.c.list[i]=f→zjW q t i ws s= .go s'→zhZ uses s s'
 |[],s,s',_,h1,h2,_,_,h=>by rw[zjW]at h;cases h;exact zhZ.refl h1 h2
 |w::ws,s,s',hw,h1,h2,hi,hf,h=>by
  rw[zjW]at h
  by_cases hin:w∈s.c.seen.getD i []
  ·rw[if_pos hin]at h
   exact zkV hq ht hk ws s s' (fun x hx=>hw x (List.mem_cons_of_mem _ hx)) h1 h2 hi hf h
  ·rw[if_neg hin]at h
   by_cases hfu:300<s.added+1
   ·rw[if_pos hfu]at h;cases h
   ·rw[if_neg hfu]at h
    have hwn:=hw w (by simp)
    have hbf:BF f:=by rw[←hf];exact h2 _ (List.getElem_mem hi)
    have hI:BF (zb6 q t w):=by rw[hq,ht];exact zqh hbf (.inl hk) hwn
    have hsl:i<s.c.seen.length:=by rw[h1.sl];exact hi
    have hok:=h1.saw (i:=i) (w:=w) hsl hI.o.b (by omega)
    have hl1:(zbX (saw s.c i w) [zb6 q t w]).list=s.c.list++[zb6 q t w]:=rfl
    have hbf1:zh4 (zbX (saw s.c i w) [zb6 q t w]).list:=fun x hx=>by
     rw[hl1]at hx
     rcases List.mem_append.1 hx with h3|h3
     ·exact h2 x h3
     ·rw[List.mem_singleton.1 h3];exact hI
    have hi1:i<(zbX (saw s.c i w) [zb6 q t w]).list.length:=by rw[hl1,List.length_append];omega
    have hf1:(zbX (saw s.c i w) [zb6 q t w]).list[i]=f:=by
     have:(zbX (saw s.c i w) [zb6 q t w]).list[i]=(s.c.list++[zb6 q t w])[i]'(by rw[List.length_append];omega):=rfl
     rw[this,List.getElem_append_left hi];exact hf
    have ih:=zkV hq ht hk ws ⟨zbX (saw s.c i w) [zb6 q t w],s.steps++[.mk 4 i 0 w []],s.added+1⟩ s' (fun x hx=>hw x (List.mem_cons_of_mem _ hx)) hok hbf1 hi1 hf1 h
    refine zhZ.trans ⟨hok,hbf1,⟨[zb6 q t w],rfl⟩,⟨[.mk 4 i 0 w []],rfl,rfl,fun p hp=>?_,fun p=>?_⟩⟩ ih
    ·exact zKL hi (by rw[hf];exact hk) hwn (by rw[hf,←hq,←ht];exact hp)
    ·show(Prf.mk 4 i 0 w [p]).size=_
     rw[zAL];simp;omega
theorem zkU {uses:Int}{ws:List Str}(hw:∀w∈ws,zat w=true):∀(l:List zab) (i:Nat) (s s':GS),zcC uses s.c s.added→zh4 s.c.list→(∃e,s.c.list.drop i=l++e)→zji ws l i s= .go s'→zhZ uses s s'
 |[],i,s,s',h1,h2,_,h=>by rw[zji]at h;cases h;exact zhZ.refl h1 h2
 |f::fs,i,s,s',h1,h2,⟨e,he⟩,h=>by
  have hi:i<s.c.list.length:=by
   rcases Nat.lt_or_ge i s.c.list.length with h3|h3
   ·exact h3
   ·rw[List.drop_eq_nil_of_le h3]at he;simp at he
  rw[List.drop_eq_getElem_cons hi,List.cons_append]at he
  obtain⟨hf,he⟩:=List.cons.inj he
  rw[zji]at h
  by_cases hk:(zaf f).1=3
  ·rw[if_pos hk]at h
   cases hg:zjW (zaf f).2.2.1 (zaf f).2.2.2 i ws s with
   |lim a=>rw[hg]at h;cases h
   |go s1=>
    rw[hg]at h
    have h3:=zkV rfl rfl hk ws s s1 hw h1 h2 hi hf hg
    obtain⟨e1,he1⟩:=h3.ex
    have h4:=zkU hw fs (i+1) s1 s' h3.ok h3.bf ⟨e++e1,by rw[he1,List.drop_append_of_le_length (by omega),he,List.append_assoc]⟩ h
    exact h3.trans h4
  ·rw[if_neg hk]at h
   exact zkU hw fs (i+1) s s' h1 h2 ⟨e,he⟩ h
theorem zr4 {l:List zab}(h:∀f∈l,brF f)(hl:l.length≤1000):(zaL l).length<10^20:=by
 have h1:∀l:List zab,(∀f∈l,brF f)→(l.flatMap zaP).length≤l.length*1000000:=by
  intro l
  induction l with
  |nil=>intro _;simp
  |cons x l ih=>
   intro h
   rw[List.flatMap_cons,List.length_append,List.length_cons,Nat.succ_mul]
   have h2:=ih fun f hf=>h f (by simp[hf])
   have hx:=h x (by simp)
   have h3:=zd0 x [] hx.ft
   have h4:=hx.s
   have h5:(zaP x).length≤(cst x []).length:=by
    unfold zaP
    rw[List.length_map]
    refine Nat.le_trans (zc3 _) ?_
    rw[zel,List.length_map]
    exact Nat.le_refl _
   omega
 have h2:=h1 l h
 have h3:(zaL l).length≤(l.flatMap zaP).length:=by
  unfold zaL
  rw[List.length_map]
  refine Nat.le_trans (zc3 _) ?_
  rw[zel,List.length_map]
  exact Nat.le_refl _
 have h4:l.length*1000000≤1000*1000000:=Nat.mul_le_mul_right _ hl
 omega
def zuS (rec:Brn→Int→Res)(b:Brn)(a:Int):Prop:=(rec b a).ok=true→zii (rec b a).p b.list=true∧((rec b a).p.size:Int)≤2*((rec b a).added-a)+1
theorem zt5 {uses:Int}{rec:Brn→Int→Res}(ih:∀b a,zcC uses b a→zh4 b.list→zuS rec b a)(had:∀b a,a≤300→zkp a (rec b a)){b:Brn}{a:Int}(hok:zcC uses b a)(hbf:zh4 b.list){w:Int}(hw:w=1∨w=4∨w=2){i:Nat}(hi:i<b.list.length)(hk:(zaf b.list[i]).1=w)
  (hv:(zc6 rec b a i b.list[i]).ok=true):zii (zc6 rec b a i b.list[i]).p b.list=true∧((zc6 rec b a i b.list[i]).p.size:Int)≤2*((zc6 rec b a i b.list[i]).added-a)+1:=by
 obtain⟨f,hf⟩:∃f,b.list[i]=f:=⟨_,rfl⟩
 have hfB:BF f:=by rw[←hf];exact hbf _ (List.getElem_mem hi)
 have hpB:=zuO hfB
 have hab:∀xs:List zab,(∀x∈xs,BF x)→zh4 (zbX (zcL b i) xs).list:=fun xs hx y hy=>by
  rcases List.mem_append.1 hy with h|h
  ·exact hbf y h
  ·exact hx y h
 have hok2:∀(xs:List zab) (a1 a2:Int),(∀x∈xs,BF x)→a≤a1→a2=a1+xs.length→a2≤300→zcC uses (zbX (zcL b i) xs) a2:=fun xs a1 a2 hx h1 h2 h3=>
  ((hok.mark i).mono h1 (by omega)).add (fun y hy=>(hx y hy).o.b) h2 h3
 rw[hf]at hk hv ⊢
 unfold zc6 at hv ⊢
 rcases hw with rfl|rfl|rfl
 ·rw[if_pos hk]at hv
  rw[if_pos hk]
  have hpos:=zl6 hk
  by_cases hfu:300<a+(zaf f).2.1.length
  ·rw[if_pos hfu]at hv;cases hv
  ·rw[if_neg hfu]at hv
   rw[if_neg hfu]
   obtain⟨c1,c2⟩:=ih _ _ (hok2 _ a _ hpB (by omega) rfl (by omega)) (hab _ hpB) hv
   refine⟨zKJ hi (by rw[hf];exact hk) (by rw[hf];exact c1),?_⟩
   show(((Prf.mk 2 i 0 ⟨[]⟩ [_]).size:Nat):Int)≤2*((rec _ _).added-a)+1
   rw[zAL]
   omega
 ·rw[if_neg (by omega),if_pos hk]at hv
  rw[if_neg (by omega),if_pos hk]
  by_cases hfu:300<a+1
  ·rw[if_pos hfu]at hv;cases hv
  ·rw[if_neg hfu]at hv
   rw[if_neg hfu]
   obtain⟨f1,f2,f3⟩:=ziy (zaL b.list)
   have hll:=hok.ll
   have ha1:=hok.a1
   have hnl:=zr4 (fun y hy=>(hbf y hy).o.b) (show b.list.length≤1000 by omega)
   have hnm:zat (zfK (zaL b.list))=true:=zrp (Nat.lt_of_le_of_lt f1 hnl)
   have hoc:zAz b.list (zfK (zaL b.list))=false:=zuL f2
   have hI:BF (zb6 (zaf f).2.2.1 (zaf f).2.2.2 (zfK (zaL b.list))):=zqh hfB (.inr hk) hnm
   have hx1:∀x∈[zb6 (zaf f).2.2.1 (zaf f).2.2.2 (zfK (zaL b.list))],BF x:=fun x hx=>by rw[List.mem_singleton.1 hx];exact hI
   obtain⟨c1,c2⟩:=ih _ (a+1) (hok2 _ a (a+1) hx1 (by omega) rfl (by omega)) (hab _ hx1) hv
   refine⟨zKM hi (by rw[hf];exact hk) hnm hoc (by rw[hf];exact c1),?_⟩
   show(((Prf.mk 5 i 0 _ [_]).size:Nat):Int)≤2*((rec _ _).added-a)+1
   rw[zAL]
   push_cast
   omega
 ·rw[if_neg (by omega),if_neg (by omega)]at hv
  rw[if_neg (by omega),if_neg (by omega)]
  obtain⟨_,q2,_,_⟩:=zfz hfB.o.b
  have hl2:=q2 hk
  obtain⟨x,y,hxy⟩:∃x y,(zaf f).2.1=[x,y]:=by
   match h:(zaf f).2.1,hl2 with
   |[x,y],_=>exact⟨x,y,rfl⟩
  rw[hxy]at hv hpB ⊢
  have hx1:∀z∈[x],BF z:=fun z hz=>hpB z (by rw[List.mem_singleton.1 hz];simp)
  have hy1:∀z∈[y],BF z:=fun z hz=>hpB z (by rw[List.mem_singleton.1 hz];simp)
  rw[zeX]at hv ⊢
  by_cases g1:300<a+1
  ·rw[if_pos g1]at hv;cases hv
  rw[if_neg g1]at hv ⊢
  by_cases g2:(rec (zbX (zcL b i) [x]) (a+1)).ok=false
  ·rw[if_pos g2]at hv;cases hv
  rw[if_neg g2]at hv ⊢
  have k1:=ih _ _ (hok2 [x] a (a+1) hx1 (by omega) rfl (by omega)) (hab _ hx1) (by simpa using g2)
  have d1:=had (zbX (zcL b i) [x]) (a+1) (by omega)
  have d2:=d1.2 (by simpa using g2)
  have d3:=d1.1
  obtain⟨r1,hr1⟩:∃r,rec (zbX (zcL b i) [x]) (a+1)=r:=⟨_,rfl⟩
  rw[hr1]at hv k1 d2 d3 ⊢
  rw[zeX]at hv ⊢
  by_cases g3:300<r1.added+1
  ·rw[if_pos g3]at hv;cases hv
  rw[if_neg g3]at hv ⊢
  by_cases g4:(rec (zbX (zcL b i) [y]) (r1.added+1)).ok=false
  ·rw[if_pos g4]at hv;cases hv
  rw[if_neg g4]at hv ⊢
  have k2:=ih _ _ (hok2 [y] r1.added (r1.added+1) hy1 (by omega) rfl (by omega)) (hab _ hy1) (by simpa using g4)
  obtain⟨r2,hr2⟩:∃r,rec (zbX (zcL b i) [y]) (r1.added+1)=r:=⟨_,rfl⟩
  rw[hr2]at hv k2 ⊢
  rw[zeX]
  refine⟨zKK hi (by rw[hf];exact hk) (by rw[hf];exact hxy) k1.1 k2.1,?_⟩
  have e1:=k1.2
  have e2:=k2.2
  show(((Prf.mk 3 i 0 ⟨[]⟩ [r1.p,r2.p]).size:Nat):Int)≤2*(r2.added-a)+1
  rw[zHU]
  push_cast
  omega
theorem zva {uses:Int}:∀(n:Nat) (b:Brn) (a:Int),zcC uses b a→zh4 b.list→zuS (zhJ uses n) b a
 |0,b,a,_,_=>fun h=>by cases h
 |n+1,b,a,hok,hbf=>fun hv=>by
  have ih:=zva (uses:=uses) n
  rw[zhJ]at hv ⊢
  unfold znS at hv ⊢
  cases hM:zcF b.list with
  |some p=>
   obtain⟨c1,c2⟩:=zrn hM
   exact⟨c1,by simp only;rw[c2];omega⟩
  |none=>
   rw[hM]at hv
   simp only at hv ⊢
   rcases ziT (rec:=zhJ uses n) (b:=b) (a:=a) (K:=zgk (zhJ uses n) uses b a) (ws:=[1,4,2])with⟨w,hw,i,hp,he⟩|he
   ·rw[he]at hv ⊢
    obtain⟨j,hj,e,hk⟩:=zj8 hp
    rw[Nat.zero_add]at e
    subst e
    have hg:b.list.getD i za2=b.list[i]:=by rw[List.getD_eq_getElem?_getD,List.getElem?_eq_getElem hj];rfl
    rw[hg]at hv ⊢
    exact zt5 ih (fun b a h=>zg5 n b a h) hok hbf (by simpa using hw) hj hk hv
   ·rw[he]at hv ⊢
    unfold zgk at hv ⊢
    by_cases hr:b.rounds=uses
    ·rw[if_pos hr]at hv;cases hv
    rw[if_neg hr]at hv ⊢
    cases hG:zji (ze3 b.list) b.list 0 ⟨⟨b.list,b.used,b.seen,b.rounds+1⟩,[],a⟩with
    |lim a'=>rw[hG]at hv;cases hv
    |go s=>
     rw[hG]at hv
     have hr1:=hok.r1
     have hr0:=hok.r0
     have hok0:zcC uses ⟨b.list,b.used,b.seen,b.rounds+1⟩ a:=⟨hok.br,hok.ll,hok.ul,hok.sl,hok.ss,by simp only;omega,by simp only;omega,hok.u,hok.a0,hok.a1⟩
     have hgo:=zkU (uses:=uses) (fun w hw=>zoy hbf hw) b.list 0 ⟨⟨b.list,b.used,b.seen,b.rounds+1⟩,[],a⟩ s hok0 hbf ⟨[],by simp⟩ hG
     obtain⟨T,t1,t2,t3,t4⟩:=hgo.st
     simp only[List.nil_append]at t1
     unfold zz0 at hv ⊢
     simp only at hv ⊢
     by_cases h0:s.steps=[]
     ·rw[if_pos h0]at hv;cases hv
     rw[if_neg h0]at hv ⊢
     obtain⟨c1,c2⟩:=ih s.c s.added hgo.ok hgo.bf hv
     simp only
     rw[t1]
     refine⟨t3 _ c1,?_⟩
     rw[t4]
     simp only at t2
     push_cast
     omega
end Go.Abs
namespace Go.Abs
open Go
def zv1 (m:zaB)(ev:List zaH)(l:List zab):Prop:=∀f∈l,zaT m f ev=true
def zCz (m:zaB)(ev:List zaH):Prop:=∀w,za1 m ev w∈zc7 m
mutual
theorem ztJ:∀(f:zab) (bd bd':List Str) (x:Str),x∈cst f bd→x∉bd'→x∈cst f bd'
 | .mk k nm ws s,bd,bd',x,h,hx=>by
  rw[cst]at h ⊢
  rcases List.mem_append.1 h with h|h
  ·exact List.mem_append_left _ (List.mem_filter.2 ⟨(List.mem_filter.1 h).1,by simpa using hx⟩)
  ·refine List.mem_append_right _ (zpX s _ _ x h ?_)
   split
   ·rename_i hq
    rw[if_pos hq]at h
    have h2:=zfs s _ x h
    simp only[List.mem_append,not_or]at h2 ⊢
    exact⟨hx,h2.2⟩
   ·exact hx
theorem zpX:∀(fs:List zab) (bd bd':List Str) (x:Str),x∈zbC fs bd→x∉bd'→x∈zbC fs bd'
 |[],bd,bd',x,h,hx=>by rw[zbC]at h;cases h
 |f::fs,bd,bd',x,h,hx=>by
  rw[zbC]at h ⊢
  rcases List.mem_append.1 h with h|h
  ·exact List.mem_append_left _ (ztJ f _ _ x h hx)
  ·exact List.mem_append_right _ (zpX fs _ _ x h hx)
end
theorem zn2 {q a:zab}{w:Str}(hk:q.kind=8∨q.kind=9)(hq:q.subs=[a])(hw:w∈zaP a)(hn:w≠q.name):w∈zaP q:=by
 rw[zbm]at hw ⊢
 cases q with
 |mk k nm ws s=>
  rw[zah]at hk;rw[zaK]at hq;rw[zb2]at hn;subst hq
  rw[cst,if_pos (show isQ k from hk),zbC,zbC,List.append_nil]
  exact List.mem_append_right _ (ztJ a _ _ w hw (by simpa using hn))
theorem zvN {f a:zab}{w:Str}(hk:f.kind=4)(hq:f.subs=[a])(hw:w∈zaP a):w∈zaP f:=by
 rw[zbm]at hw ⊢
 cases f with
 |mk k nm ws s=>
  rw[zah]at hk;rw[zaK]at hq;subst hq hk
  rw[cst,if_neg (show¬isQ 4 by decide),zbC,zbC,List.append_nil]
  exact List.mem_append_right _ hw
theorem zsa {f:zab}(h:brF f)(hs:(zaf f).1=3∨(zaf f).1=4){a:zab}(ha:(zaf f).2.2.1.subs=[a]){w:Str}(hw:w∈zaP a)(hn:w≠(zaf f).2.2.1.name):w∈zaP f:=by
 by_cases k4:f.kind=4
 ·obtain⟨g,hg,s0,hbg⟩:=zcr h (.inl k4)
  have e:g.kind=8∨g.kind=9:=by
   rw[zj7 k4 s0 rfl]at hs
   repeat'(first|omega|split at hs)
  have e2:(zaf f).2.2.1=g:=by
   unfold zaf
   rw[s0]
   rcases e with j|j<;>(rw[k4,j];rfl)
  rw[e2]at ha hn
  exact zvN k4 hg (zn2 e ha hw hn)
 ·have e:f.kind=8∨f.kind=9:=by
   rw[ziO k4 rfl]at hs
   repeat'(first|omega|split at hs)
  have e2:(zaf f).2.2.1=f:=by
   unfold zaf
   rcases e with j|j<;>(rw[j];rfl)
  rw[e2]at ha hn
  exact zn2 e ha hw hn
section
variable {m:zaB} {ev ev':List zaH}
theorem zrt {f:zab}(hv:vok f)(h:∀w∈zaP f,za1 m ev w=za1 m ev' w):zaT m (zaD f []) ev'=zaT m f ev:=by
 refine zlp m (U:=zaP f) f [] [] 0 ev ev' hv (fun w hw=>?_) fun x hx=>(zbm f x).2 hx
 rw[zcS]
 rcases hw with h1|h1
 ·simp at h1
 ·exact⟨h w h1,.inl h1⟩
theorem zzB {f:zab}(hv:vok f):zaT m (cnn f) ev=zaT m f ev:=zrt hv fun _ _=>rfl
theorem zyw {f:zab}(hv:vok f)(h:∀w∈zaP f,za1 m ev w=za1 m ev' w):zaT m f ev'=zaT m f ev:=
 (zrt hv fun _ _=>rfl).symm.trans (zrt hv h)
theorem zCD {f:zab}{nm:Str}{d:Int}(hv:vok f)(h:nm∉zaP f):zaT m f (ev++[(⟨nm,d⟩:zaH)])=zaT m f ev:=
 (zrt hv fun _ _=>rfl).symm.trans (zrt hv fun w hw=>by rw[zcy,if_neg (by rintro rfl;exact h hw)])
theorem zHN {f:zab}{nm g:Str}(hv:vok f):zaT m (zaD f [⟨nm,g⟩]) ev=zaT m f (ev++[(⟨nm,za1 m ev g⟩:zaH)]):=by
 refine zlp m (U:=zaP f) f [⟨nm,g⟩] [] 0 (ev++[(⟨nm,za1 m ev g⟩:zaH)]) ev hv (fun w hw=>?_) fun x hx=>(zbm f x).2 hx
 have e:lkp [⟨nm,g⟩] w=if nm=w then g else w:=by
  have:=zb7 [] ⟨nm,g⟩ w
  rw[List.nil_append,zcS]at this
  exact this
 rw[e,zcy]
 rcases hw with h|h
 ·simp at h
 refine⟨?_,.inl ?_⟩
 ·by_cases h:nm=w
  ·rw[if_pos h,if_pos h]
  ·rw[if_neg h,if_neg h]
 ·rw[zu6 (by simp),←e]
  exact List.mem_map_of_mem h
theorem zyk {f:zab}(h:vok f):vok (zbD f):=by
 unfold zbD
 rw[vok,zhA,zhA]
 exact⟨by decide,by decide,fun e=>absurd e (by decide),fun e=>absurd e (by decide),fun _=>rfl,fun e=>by omega,h,trivial⟩
theorem zEh {f a:zab}(hk:f.kind=4)(hs:f.subs=[a]):zaT m f ev= !zaT m a ev:=by
 cases f with
 |mk k nm ws s=>
  rw[zah]at hk;rw[zaK]at hs;subst hk hs
  rw[zaT,zdc];rfl
theorem zKt {f a b:zab}(hk:f.kind=5)(hs:f.subs=[a,b]):zaT m f ev=(zaT m a ev&&zaT m b ev):=by
 cases f with
 |mk k nm ws s=>
  rw[zah]at hk;rw[zaK]at hs;subst hk hs
  rw[zaT,zdc];rfl
theorem zKu {f a b:zab}(hk:f.kind=6)(hs:f.subs=[a,b]):zaT m f ev=(zaT m a ev||zaT m b ev):=by
 cases f with
 |mk k nm ws s=>
  rw[zah]at hk;rw[zaK]at hs;subst hk hs
  rw[zaT,zdc];rfl
theorem zKv {f a b:zab}(hk:f.kind=7)(hs:f.subs=[a,b]):zaT m f ev=(!zaT m a ev||zaT m b ev):=by
 cases f with
 |mk k nm ws s=>
  rw[zah]at hk;rw[zaK]at hs;subst hk hs
  rw[zaT,zdc];rfl
theorem zKw {f a:zab}(hk:f.kind=8)(hs:f.subs=[a]):zaT m f ev=(zc7 m).all fun v=>zaT m a (ev++[(⟨f.name,v⟩:zaH)]):=by
 cases f with
 |mk k nm ws s=>
  rw[zah]at hk;rw[zaK]at hs;subst hk hs
  rw[zaT]
  simp only[zdc]
  rfl
theorem zKx {f a:zab}(hk:f.kind=9)(hs:f.subs=[a]):zaT m f ev=(zc7 m).any fun v=>zaT m a (ev++[(⟨f.name,v⟩:zaH)]):=by
 cases f with
 |mk k nm ws s=>
  rw[zah]at hk;rw[zaK]at hs;subst hk hs
  rw[zaT]
  simp only[zdc]
  rfl
theorem zNu {f:zab}(hk:f.kind=1):zaT m f ev=true:=by
 cases f with
 |mk k nm ws s=>rw[zah]at hk;subst hk;rw[zaT];rfl
theorem zKs {f:zab}(hk:f.kind=2):zaT m f ev=decide (f.words.map (za1 m ev)∈zi8 m f.name f.words.length):=by
 cases f with
 |mk k nm ws s=>rw[zah]at hk;subst hk;rw[zaT];rfl
theorem zIa {f:zab}(hk:f.kind=3):zaT m f ev=decide (za1 m ev (f.words.getD 0 ⟨[]⟩)=za1 m ev (f.words.getD 1 ⟨[]⟩)):=by
 cases f with
 |mk k nm ws s=>rw[zah]at hk;subst hk;rw[zaT];rfl
theorem zv0 {f:zab}(hv:vok f):zaT m (ngg f) ev= !zaT m f ev:=by
 unfold ngg
 rw[zrt (ev:=ev) (zyk hv) fun _ _=>rfl]
 exact zEh rfl rfl
def zBf (m:zaB)(ev:List zaH)(P:Int×List zab×zab×Bool):Prop:=
 (P.1=1→∀g∈P.2.1,zaT m g ev=true)∧(P.1=2→∃g∈P.2.1,zaT m g ev=true)∧
 (P.1=3→∃a,P.2.2.1.subs=[a]∧brF a∧∀v∈zc7 m,zaT m a (ev++[(⟨P.2.2.1.name,v⟩:zaH)])= !P.2.2.2)∧
 (P.1=4→∃a,P.2.2.1.subs=[a]∧brF a∧∃v∈zc7 m,zaT m a (ev++[(⟨P.2.2.1.name,v⟩:zaH)])= !P.2.2.2)
theorem zEE {l:List zab}{q:zab}{t:Bool}(h:∀g∈l,zaT m g ev=true):zBf m ev (1,l,q,t):=⟨fun _=>h,fun e=>absurd (show((1:Int)=2)from e) (by decide),fun e=>absurd (show((1:Int)=3)from e) (by decide),fun e=>absurd (show((1:Int)=4)from e) (by decide)⟩
theorem zGf {l:List zab}{q:zab}{t:Bool}(h:∃g∈l,zaT m g ev=true):zBf m ev (2,l,q,t):=⟨fun e=>absurd (show((2:Int)=1)from e) (by decide),fun _=>h,fun e=>absurd (show((2:Int)=3)from e) (by decide),fun e=>absurd (show((2:Int)=4)from e) (by decide)⟩
theorem zIx {l:List zab}{q a:zab}{t:Bool}(ha:q.subs=[a])(hb:brF a)(h:∀v∈zc7 m,zaT m a (ev++[(⟨q.name,v⟩:zaH)])= !t):zBf m ev (3,l,q,t):=⟨fun e=>absurd (show((3:Int)=1)from e) (by decide),fun e=>absurd (show((3:Int)=2)from e) (by decide),fun _=>⟨a,ha,hb,h⟩,fun e=>absurd (show((3:Int)=4)from e) (by decide)⟩
theorem zIy {l:List zab}{q a:zab}{t:Bool}(ha:q.subs=[a])(hb:brF a)(h:∃v∈zc7 m,zaT m a (ev++[(⟨q.name,v⟩:zaH)])= !t):zBf m ev (4,l,q,t):=⟨fun e=>absurd (show((4:Int)=1)from e) (by decide),fun e=>absurd (show((4:Int)=2)from e) (by decide),fun e=>absurd (show((4:Int)=3)from e) (by decide),fun _=>⟨a,ha,hb,h⟩⟩
theorem zIw {l:List zab}{q:zab}{t:Bool}:zBf m ev (0,l,q,t):=⟨fun e=>absurd (show((0:Int)=1)from e) (by decide),fun e=>absurd (show((0:Int)=2)from e) (by decide),fun e=>absurd (show((0:Int)=3)from e) (by decide),fun e=>absurd (show((0:Int)=4)from e) (by decide)⟩
theorem zuP {f:zab}(h:brF f)(hv:zaT m f ev=true):zBf m ev (zaf f):=by
 by_cases k5:f.kind=5
 ·obtain⟨a,b,hab,s0,s1,ha,hb⟩:=zcM h (by omega)
  have e:zaf f=(1,[cnn a,cnn b],za2,false):=by unfold zaf;rw[s0,s1,k5];rfl
  rw[e]
  rw[zKt k5 hab,Bool.and_eq_true]at hv
  refine zEE fun g hg=>?_
  simp only[List.mem_cons,List.not_mem_nil,or_false]at hg
  rcases hg with rfl|rfl
  ·rw[zzB ha.v];exact hv.1
  ·rw[zzB hb.v];exact hv.2
 by_cases k6:f.kind=6
 ·obtain⟨a,b,hab,s0,s1,ha,hb⟩:=zcM h (by omega)
  have e:zaf f=(2,[cnn a,cnn b],za2,false):=by unfold zaf;rw[s0,s1,k6];rfl
  rw[e]
  rw[zKu k6 hab,Bool.or_eq_true]at hv
  refine zGf ?_
  rcases hv with hv|hv
  ·exact⟨cnn a,by simp,by rw[zzB ha.v];exact hv⟩
  ·exact⟨cnn b,by simp,by rw[zzB hb.v];exact hv⟩
 by_cases k7:f.kind=7
 ·obtain⟨a,b,hab,s0,s1,ha,hb⟩:=zcM h (by omega)
  have e:zaf f=(2,[ngg a,cnn b],za2,false):=by unfold zaf;rw[s0,s1,k7];rfl
  rw[e]
  rw[zKv k7 hab,Bool.or_eq_true]at hv
  refine zGf ?_
  rcases hv with hv|hv
  ·exact⟨ngg a,by simp,by rw[zv0 ha.v];exact hv⟩
  ·exact⟨cnn b,by simp,by rw[zzB hb.v];exact hv⟩
 by_cases k8:f.kind=8
 ·obtain⟨a,ha,s0,hb⟩:=zcr h (by omega)
  have e:zaf f=(3,[],f,false):=by unfold zaf;rw[k8];rfl
  rw[e]
  rw[zKw k8 ha,List.all_eq_true]at hv
  exact zIx ha hb fun v hv2=>by rw[hv v hv2];rfl
 by_cases k9:f.kind=9
 ·obtain⟨a,ha,s0,hb⟩:=zcr h (by omega)
  have e:zaf f=(4,[],f,false):=by unfold zaf;rw[k9];rfl
  rw[e]
  rw[zKx k9 ha,List.any_eq_true]at hv
  obtain⟨v,h1,h2⟩:=hv
  exact zIy ha hb ⟨v,h1,by rw[h2];rfl⟩
 by_cases k4:f.kind=4
 ·obtain⟨g,hg,s0,hbg⟩:=zcr h (.inl k4)
  rw[zEh k4 hg,Bool.not_eq_true']at hv
  by_cases j4:g.kind=4
  ·obtain⟨a,ha,t0,hb⟩:=zcr hbg (.inl j4)
   have e:zaf f=(1,[cnn a],za2,false):=by unfold zaf;rw[s0,t0,k4,j4];rfl
   rw[e]
   rw[zEh j4 ha]at hv
   refine zEE fun x hx=>?_
   rw[List.mem_singleton.1 hx,zzB hb.v]
   simpa using hv
  by_cases j5:g.kind=5
  ·obtain⟨a,b,hab,t0,t1,ha,hb⟩:=zcM hbg (by omega)
   have e:zaf f=(2,[ngg a,ngg b],za2,false):=by unfold zaf;rw[s0,t0,t1,k4,j5];rfl
   rw[e]
   rw[zKt j5 hab,Bool.and_eq_false_iff]at hv
   refine zGf ?_
   rcases hv with hv|hv
   ·exact⟨ngg a,by simp,by rw[zv0 ha.v,hv];rfl⟩
   ·exact⟨ngg b,by simp,by rw[zv0 hb.v,hv];rfl⟩
  by_cases j6:g.kind=6
  ·obtain⟨a,b,hab,t0,t1,ha,hb⟩:=zcM hbg (by omega)
   have e:zaf f=(1,[ngg a,ngg b],za2,false):=by unfold zaf;rw[s0,t0,t1,k4,j6];rfl
   rw[e]
   rw[zKu j6 hab,Bool.or_eq_false_iff]at hv
   refine zEE fun x hx=>?_
   simp only[List.mem_cons,List.not_mem_nil,or_false]at hx
   rcases hx with rfl|rfl
   ·rw[zv0 ha.v,hv.1];rfl
   ·rw[zv0 hb.v,hv.2];rfl
  by_cases j7:g.kind=7
  ·obtain⟨a,b,hab,t0,t1,ha,hb⟩:=zcM hbg (by omega)
   have e:zaf f=(1,[cnn a,ngg b],za2,false):=by unfold zaf;rw[s0,t0,t1,k4,j7];rfl
   rw[e]
   rw[zKv j7 hab,Bool.or_eq_false_iff]at hv
   refine zEE fun x hx=>?_
   simp only[List.mem_cons,List.not_mem_nil,or_false]at hx
   rcases hx with rfl|rfl
   ·rw[zzB ha.v];simpa using hv.1
   ·rw[zv0 hb.v,hv.2];rfl
  by_cases j8:g.kind=8
  ·obtain⟨a,ha,t0,hb⟩:=zcr hbg (by omega)
   have e:zaf f=(4,[],g,true):=by unfold zaf;rw[s0,k4,j8];rfl
   rw[e]
   rw[zKw j8 ha,List.all_eq_false]at hv
   obtain⟨v,h1,h2⟩:=hv
   exact zIy ha hb ⟨v,h1,by simpa using h2⟩
  by_cases j9:g.kind=9
  ·obtain⟨a,ha,t0,hb⟩:=zcr hbg (by omega)
   have e:zaf f=(3,[],g,true):=by unfold zaf;rw[s0,k4,j9];rfl
   rw[e]
   rw[zKx j9 ha,List.any_eq_false]at hv
   exact zIx ha hb fun v hv2=>by simpa using hv v hv2
  have e:zaf f=(0,[],za2,false):=by
   unfold zaf
   rw[if_neg k5,if_neg k6,if_neg k7,if_neg k8,if_neg k9,if_pos k4,s0,if_neg j4,if_neg j5,if_neg j6,if_neg j7,if_neg j8,if_neg j9]
  rw[e];exact zIw
 ·have e:zaf f=(0,[],za2,false):=by
   unfold zaf
   rw[if_neg k5,if_neg k6,if_neg k7,if_neg k8,if_neg k9,if_neg k4]
  rw[e];exact zIw
theorem zCH {q a:zab}{t:Bool}{w:Str}(hq:q.subs=[a])(ha:brF a):zaT m (zb6 q t w) ev=(zaT m a (ev++[(⟨q.name,za1 m ev w⟩:zaH)])!=t):=by
 have e:zjj q w=zaD a [⟨q.name,w⟩]:=by unfold zjj zbJ;rw[hq];rfl
 unfold zb6
 rw[e]
 cases t with
 |false=>
  simp only[Bool.false_eq_true,if_false]
  rw[zHN ha.v]
  cases zaT m a (ev++[(⟨q.name,za1 m ev w⟩:zaH)])<;>rfl
 |true=>
  simp only[if_true]
  rw[zv0 (zid ha.v),zHN ha.v]
  cases zaT m a (ev++[(⟨q.name,za1 m ev w⟩:zaH)])<;>rfl
theorem znI:∀(l:List zab) (c:List za3),(∀w,za1 m ev (zaM c w)=za1 m ev w)→(∀f∈l,zaT m f ev=true)→∀w,za1 m ev (zaM (l.foldl zjs c) w)=za1 m ev w
 |[],c,hc,_,w=>hc w
 |f::l,c,hc,hs,w=>by
  rw[List.foldl_cons]
  refine znI l _ (fun w=>?_) (fun g hg=>hs g (List.mem_cons_of_mem _ hg)) w
  have hf:=hs f (by simp)
  unfold zjs
  split
  ·exact hc w
  ·rename_i hk
   split
   ·exact hc w
   ·rw[zcX]
    split
    ·rename_i h1
     rw[zIa (Decidable.not_not.1 hk)]at hf
     have h2:=of_decide_eq_true hf
     rw[←hc w,h1]
     exact((hc _).trans h2.symm).trans (hc _).symm
    ·exact hc w
theorem zly {l:List zab}(hs:zv1 m ev l)(w:Str):za1 m ev (zaM (zfE l) w)=za1 m ev w:=znI l [] (fun _=>rfl) hs w
theorem zwj {l:List zab}{f g:zab}(hs:zv1 m ev l)(h:zeu (zfE l) f g=true):zaT m f ev=zaT m g ev:=by
 unfold zeu at h
 simp only[Bool.and_eq_true,decide_eq_true_eq]at h
 obtain⟨⟨⟨h1,h2⟩,h3⟩,h4⟩:=h
 have hw:f.words.map (za1 m ev)=g.words.map (za1 m ev):=by
  have e:∀ws:List Str,(ws.map (zaM (zfE l))).map (za1 m ev)=ws.map (za1 m ev):=fun ws=>by
   rw[List.map_map]
   exact List.map_congr_left fun w _=>zly hs w
  rw[←e f.words,h4,e]
 have hl:f.words.length=g.words.length:=by
  have:=congrArg List.length h4
  simpa using this
 rw[zKs h1,zKs h2,hw,h3,hl]
theorem ztE {l:List zab}{f:zab}(hs:zv1 m ev l)(hm:f∈l)(hb:brF f)(h:zlU (zfE l) f=true):False:=by
 unfold zlU at h
 simp only[Bool.and_eq_true,Bool.or_eq_true,decide_eq_true_eq]at h
 obtain⟨h4,h⟩:=h
 obtain⟨g,hg,s0,hbg⟩:=zcr hb (.inl h4)
 have hv:=hs f hm
 rw[zEh h4 hg]at hv
 rw[s0]at h
 rcases h with h|⟨h,h2⟩
 ·rw[zNu h]at hv;cases hv
 ·rw[zIa h,←zly hs,h2,zly hs]at hv
  simp at hv
theorem zov {l:List zab}{f g:zab}(hs:zv1 m ev l)(hf:f∈l)(hg:g∈l)(hbf:brF f)(hbg:brF g)(h:zpL l f g=true):False:=by
 unfold zpL at h
 simp only[Bool.and_eq_true,Bool.or_eq_true,decide_eq_true_eq]at h
 have v1:=hs f hf
 have v2:=hs g hg
 rcases h with h|⟨h4,h⟩
 ·rw[←h,zv0 hbf.v,v1]at v2
  cases v2
 ·obtain⟨a,ha,s0,_⟩:=zcr hbg (.inl h4)
  rw[zEh h4 ha]at v2
  rw[s0]at h
  rw[←zwj hs h,v1]at v2
  cases v2
theorem zqB {l k:List zab}(h1:zv1 m ev l)(h2:∀f∈k,zaT m f ev=true):zv1 m ev (l++k):=fun f hf=>by
 rcases List.mem_append.1 hf with h|h
 ·exact h1 f h
 ·exact h2 f h
theorem zqe {l:List zab}{i:Int}(h:inL l i=true):atL l i∈l:=by
 unfold inL at h
 simp only[Bool.and_eq_true,decide_eq_true_eq]at h
 unfold atL
 rw[List.getD_eq_getElem?_getD,List.getElem?_eq_getElem (show i.toNat<l.length by omega)]
 exact List.getElem_mem _
theorem zAA {l:List zab}{w:Str}(h:zAz l w=false):∀f∈l,w∉zaP f:=fun f hf hw=>by
 unfold zAz at h
 rw[List.any_eq_false]at h
 exact h f hf (by simpa using hw)
theorem zyx {l k:List zab}(h1:∀f∈l,brF f)(h2:∀f∈k,brF f):∀f∈l++k,brF f:=fun f hf=>by
 rcases List.mem_append.1 hf with h|h
 ·exact h1 f h
 ·exact h2 f h
theorem zib {l:List zab}{g:zab}(h1:∀f∈l,brF f)(h2:brF g):∀f∈l++[g],brF f:=zyx h1 fun f hf=>by rw[List.mem_singleton.1 hf];exact h2
theorem zgx {l:List zab}{g:zab}(h1:zv1 m ev l)(h2:zaT m g ev=true):zv1 m ev (l++[g]):=zqB h1 fun f hf=>by rw[List.mem_singleton.1 hf];exact h2
end
theorem zmh {m:zaB}:∀(n:Nat) (p:Prf),p.size≤n→∀(l:List zab) (ev:List zaH),zCz m ev→(∀f∈l,brF f)→zv1 m ev l→zii p l=true→False
 |0,p,hn,_,_,_,_,_,_=>by cases p;rw[Prf.size]at hn;omega
 |n+1,p,hn,l,ev,hev,hbr,hs,hc=>by
  cases p with
  |mk k fo ot nm s=>
  rw[Prf.size]at hn
  have hsz:∀(s:List Prf),∀q∈s,q.size≤Prf.sizes s:=by
   intro s
   induction s with
   |nil=>intro q hq;cases hq
   |cons x s ih=>
    intro q hq
    rw[Prf.sizes]
    rcases List.mem_cons.1 hq with h|h
    ·rw[h];omega
    ·have:=ih q h;omega
  have ih:=fun(q:Prf) (hq:q∈s)=>zmh (m:=m) n q (by have:=hsz s q hq;omega)
  rw[zfP]at hc
  simp only[zeH,zeG,zdK,zll,zeI]at hc
  unfold zwv at hc
  split at hc
  ·cases hc
  rename_i hin
  have hfm:=zqe (by simpa using hin)
  obtain⟨f,hf⟩:∃f,atL l fo=f:=⟨_,rfl⟩
  rw[hf]at hc hfm
  have hbf:=hbr f hfm
  have hvf:=hs f hfm
  obtain⟨q1,q2,q3,q4⟩:=zfz hbf
  have hx:=zuP hbf hvf
  have one:(s.map zii).length=1→∃q,q∈s∧(s.map zii).getD 0 (fun _=>false)=zii q:=fun h=>by
   match s,h with
   |[q],_=>exact⟨q,by simp,rfl⟩
  split at hc
  ·simp only[Bool.and_eq_true]at hc
   obtain⟨⟨_,ho⟩,hc⟩:=hc
   split at hc
   ·exact ztE hs hfm hbf hc
   ·exact zov hs hfm (zqe ho) hbf (hbr _ (zqe ho)) hc
  split at hc
  ·simp only[Bool.and_eq_true,decide_eq_true_eq]at hc
   obtain⟨⟨h1,h2⟩,hc⟩:=hc
   obtain⟨q,hq,e⟩:=one h2
   rw[e]at hc
   exact ih q hq _ ev hev (zyx hbr q1) (zqB hs (hx.1 h1)) hc
  split at hc
  ·simp only[Bool.and_eq_true,decide_eq_true_eq]at hc
   obtain⟨⟨⟨h1,h2⟩,hc1⟩,hc2⟩:=hc
   obtain⟨x,y,hxy⟩:∃x y,(zaf f).2.1=[x,y]:=by
    match h:(zaf f).2.1,q2 h1 with
    |[x,y],_=>exact⟨x,y,rfl⟩
   obtain⟨g,hg,hv⟩:=hx.2.1 h1
   rw[hxy]at hc1 hc2 hg q1
   obtain⟨p1,p2,hp⟩:∃p1 p2,s=[p1,p2]:=by
    match s,h2 with
    |[p1,p2],_=>exact⟨p1,p2,rfl⟩
   rw[hp]at hc1 hc2 ih
   simp only[List.mem_cons,List.not_mem_nil,or_false]at hg
   rcases hg with rfl|rfl
   ·exact ih p1 (by simp) _ ev hev (zib hbr (q1 _ (by simp))) (zgx hs hv) hc1
   ·exact ih p2 (by simp) _ ev hev (zib hbr (q1 _ (by simp))) (zgx hs hv) hc2
  split at hc
  ·simp only[Bool.and_eq_true,decide_eq_true_eq]at hc
   obtain⟨⟨⟨h1,_⟩,h2⟩,hc⟩:=hc
   obtain⟨q,hq,e⟩:=one h2
   rw[e]at hc
   obtain⟨a,ha,hba,hv⟩:=hx.2.2.1 h1
   obtain⟨b,hb,_,hb3⟩:=q4 (.inl h1)
   have hab:a=b:=by rw[ha]at hb;exact(List.cons.inj hb).1
   subst hab
   refine ih q hq _ ev hev (zib hbr (zk8 ha hba hb3)) (zgx hs ?_) hc
   rw[zCH ha hba,hv _ (hev nm)]
   cases(zaf f).2.2.2<;>rfl
  split at hc
  ·simp only[Bool.and_eq_true,decide_eq_true_eq,Bool.not_eq_true']at hc
   obtain⟨⟨⟨⟨h1,_⟩,h3⟩,h2⟩,hc⟩:=hc
   obtain⟨q,hq,e⟩:=one h2
   rw[e]at hc
   obtain⟨a,ha,hba,v,hv1,hv⟩:=hx.2.2.2 h1
   obtain⟨b,hb,_,hb3⟩:=q4 (.inr h1)
   have hab:a=b:=by rw[ha]at hb;exact(List.cons.inj hb).1
   subst hab
   have hno:=zAA h3
   obtain⟨ev2,hev2⟩:∃ev2,ev++[(⟨nm,v⟩:zaH)]=ev2:=⟨_,rfl⟩
   have hw2:∀w,za1 m ev2 w=if nm=w then v else za1 m ev w:=fun w=>by rw[←hev2,zcy]
   have hin2:zCz m ev2:=fun w=>by
    rw[hw2]
    split
    ·exact hv1
    ·exact hev w
   have hs2:zv1 m ev2 l:=fun x hx=>by rw[←hev2,zCD (hbr x hx).v (hno x hx)];exact hs x hx
   refine ih q hq _ ev2 hin2 (zib hbr (zk8 ha hba hb3)) (zgx hs2 ?_) hc
   rw[zCH ha hba,hw2,if_pos rfl]
   have e3:zaT m a (ev2++[(⟨(zaf f).2.2.1.name,v⟩:zaH)])=zaT m a (ev++[(⟨(zaf f).2.2.1.name,v⟩:zaH)]):=zyw hba.v fun w hw=>by
    rw[zcy,zcy,hw2]
    split
    ·rfl
    ·rename_i hn
     rw[if_neg]
     rintro rfl
     exact hno f hfm (zsa hbf (.inr h1) ha hw fun e=>hn e.symm)
   rw[e3,hv]
   cases(zaf f).2.2.2<;>rfl
  split at hc
  ·simp only[Bool.and_eq_true,decide_eq_true_eq]at hc
   obtain⟨⟨⟨⟨h1,ho⟩,h2⟩,h3⟩,hc⟩:=hc
   obtain⟨q,hq,e⟩:=one h2
   rw[e]at hc
   obtain⟨g,hg⟩:∃g,atL l ot=g:=⟨_,rfl⟩
   have hgm:=zqe ho
   rw[hg]at hc hgm
   refine ih q hq _ ev hev (zib hbr (hbr g hgm).cn) (zgx hs ?_) hc
   rw[zHN (hbr g hgm).v]
   rw[zIa h1]at hvf
   have hvf:=of_decide_eq_true hvf
   have hl:=(zbM.1 hbf.v).2.2.2.1 h1
   obtain⟨a,b,hab⟩:∃a b,f.words=[a,b]:=by
    match h:f.words,hl with
    |[a,b],_=>exact⟨a,b,rfl⟩
   rw[hab]at hvf h3
   have hsw:za1 m ev (zvn f nm)=za1 m ev nm:=by
    unfold zvn
    rw[hab]
    simp only[List.getD_cons_zero,List.getD_cons_succ]at hvf ⊢
    simp only[List.mem_cons,List.not_mem_nil,or_false]at h3
    split
    ·rename_i h;rw[←h];exact hvf.symm
    ·rename_i h
     rcases h3 with h3|h3
     ·exact absurd h3.symm h
     ·rw[h3];exact hvf
   rw[hsw]
   rw[←hs g hgm]
   refine zyw (hbr g hgm).v fun w hw=>?_
   rw[zcy]
   split
   ·rename_i h;rw[h]
   ·rfl
  ·cases hc
end Go.Abs

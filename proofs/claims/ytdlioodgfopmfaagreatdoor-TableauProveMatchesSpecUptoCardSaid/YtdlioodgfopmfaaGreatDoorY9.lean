/- several texts of this proof in one; no conditions -/
import Derived.Test.YtdlioodgfopmfaaGreatDoorTK
set_option linter.unusedSimpArgs false
namespace Go.Abs
open Go
structure Brn where
 list:List zac
 used:List Bool
 seen:List (List Str)
 rounds:Int
def zye (b:Brn):FD:= .agg [.sl (b.list.map enc),.sl (b.used.map enc),.sl (b.seen.map enc),.i .i64 b.rounds]
def zyd:FD→Brn
 | .agg [l,u,s,.i _ r]=>⟨dec l,dec u,dec s,r⟩
 |_=>⟨[],[],[],0⟩
theorem znZ (b:Brn):zyd (zye b)=b:=by
 have h1:dec (.sl (b.list.map enc))=b.list:=dec_enc b.list
 have h2:dec (.sl (b.used.map enc))=b.used:=dec_enc b.used
 have h3:dec (.sl (b.seen.map enc))=b.seen:=dec_enc b.seen
 unfold zyd zye
 simp only[h1,h2,h3]
instance:Enc Brn:=⟨zye,zyd,znZ⟩
@[go_sem] theorem zEk {b:Brn}:enc b= .agg [.sl (b.list.map enc),.sl (b.used.map enc),.sl (b.seen.map enc),.i .i64 b.rounds]:=rfl
@[go_sem] theorem zEf {l u s:FD}{i:IntKind}{r:Int}:dec (α:=Brn) (.agg [l,u,s,.i i r])=⟨dec l,dec u,dec s,r⟩:=rfl
@[go_sem] theorem zCB {l u s r}:(Brn.mk l u s r).list=l:=rfl
@[go_sem] theorem zCD {l u s r}:(Brn.mk l u s r).used=u:=rfl
@[go_sem] theorem zCC {l u s r}:(Brn.mk l u s r).seen=s:=rfl
@[go_sem] theorem zzw {l u s r}:(Brn.mk l u s r).rounds=r:=rfl
@[go_sem] theorem zax {b:Brn}:Brn.mk b.list b.used b.seen b.rounds=b:=by cases b;rfl
def zbS (b:Brn)(fs:List zac):Brn:=⟨b.list++fs,b.used++List.replicate fs.length false,b.seen++List.replicate fs.length [],b.rounds⟩
def zbK:Prf:= .mk 0 0 0 ⟨[]⟩ []
def zeI (p:zac→Bool):List zac→Nat→Option Nat
 |[],_=>none
 |x::xs,k=>if p x then some k else zeI p xs (k+1)
def zb1 (c:List zaR)(l:List zac)(f:zac)(i:Nat):Option Prf:=
 if zhG c f then some (.mk 1 i i ⟨[]⟩ [])
 else if f.kind=4∧(zbo f).kind=2 then(zeI (fun h=>zci c h (zbo f)) l 0).map fun(k:Nat)=>Prf.mk 1 (k:Int) i ⟨[]⟩ []
 else none
def zc5 (c:List zaR)(l:List zac):List zac→Nat→Option Prf
 |[],_=>none
 |f::fs,i=>match zb1 c l f i with
  |some p=>some p
  |none=>zc5 c l fs (i+1)
def zcD (l:List zac):Option Prf:=zc5 (zeM l) l l 0
def zgP (l:List zac):Prf×Bool:=match zcD l with
 |some p=>(p,true)
 |none=>(zbK,false)
def za6 (l:List zac):List Str:=(zds (zgw ((l.flatMap zba).map (·.l)))).map Str.mk
def zb2 (k:Nat):Str:=⟨99::zaP k⟩
def zch (have':List Str):Nat→Nat→Nat
 |0,k=>k
 |m+1,k=>if zb2 k∈have' then zch have' m (k+1)else k
def zea (have':List Str):Str:=zb2 (zch have' have'.length 0)
structure Res where
 p:Prf
 ok:Bool
 lim:Bool
 added:Int
def zjR (a:Int):Res:=⟨zbK,false,true,a⟩
def zb7 (want:Int):List zac→List Bool→Nat→Option Nat
 |f::fs,u::us,i=>if u=false∧(zag f).1=want then some i else zb7 want fs us (i+1)
 |[],_,_=>none
 |_::_,[],_=>none
def zeL (rec:Brn→Int→Res)(b1:Brn)(i:Nat):List zac→List Prf→Int→Res
 |[],subs,a=>⟨.mk 3 i 0 ⟨[]⟩ subs,true,false,a⟩
 |x::xs,subs,a=>
  if 300<a+1 then zjR (a+1)
  else if(rec (zbS b1 [x]) (a+1)).ok=false then⟨zbK,false,(rec (zbS b1 [x]) (a+1)).lim,(rec (zbS b1 [x]) (a+1)).added⟩
  else zeL rec b1 i xs (subs++[(rec (zbS b1 [x]) (a+1)).p]) (rec (zbS b1 [x]) (a+1)).added
def zb6 (b:Brn)(i:Nat):Brn:=⟨b.list,b.used.set i true,b.seen,b.rounds⟩
def zlM (i:Nat)(r:Res):Res:=⟨.mk 2 i 0 ⟨[]⟩ [r.p],r.ok,r.lim,r.added⟩
def ziy (i:Nat)(nm:Str)(r:Res):Res:=⟨.mk 5 i 0 nm [r.p],r.ok,r.lim,r.added⟩
def zb5 (rec:Brn→Int→Res)(b:Brn)(a:Int)(i:Nat)(f:zac):Res:=
 if(zag f).1=1 then
  if 300<a+(zag f).2.1.length then zjR (a+(zag f).2.1.length)
  else zlM i (rec (zbS (zb6 b i) (zag f).2.1) (a+(zag f).2.1.length))
 else if(zag f).1=4 then
  if 300<a+1 then zjR (a+1)
  else ziy i (zea (za6 b.list)) (rec (zbS (zb6 b i) [zbJ (zag f).2.2.1 (zag f).2.2.2 (zea (za6 b.list))]) (a+1))
 else zeL rec (zb6 b i) i (zag f).2.1 [] a
structure GS where
 c:Brn
 steps:List Prf
 added:Int
inductive GR where
 |lim (a:Int)
 |go (s:GS)
def saw (c:Brn)(i:Nat)(w:Str):Brn:=⟨c.list,c.used,c.seen.set i (c.seen.getD i []++[w]),c.rounds⟩
def ziH (q:zac)(t:Bool)(i:Nat):List Str→GS→GR
 |[],s=> .go s
 |w::ws,s=>
  if w∈s.c.seen.getD i []then ziH q t i ws s
  else if 300<s.added+1 then .lim (s.added+1)
  else ziH q t i ws ⟨zbS (saw s.c i w) [zbJ q t w],s.steps++[.mk 4 i 0 w []],s.added+1⟩
def GR.bind (r:GR)(k:GS→GR):GR:=match r with
 | .lim a=> .lim a
 | .go s=>k s
def zgH (ws:List Str):List zac→Nat→GS→GR
 |[],_,s=> .go s
 |f::fs,i,s=>if(zag f).1=3 then(ziH (zag f).2.2.1 (zag f).2.2.2 i ws s).bind (zgH ws fs (i+1))else zgH ws fs (i+1) s
def zhM (steps:List Prf)(p:Prf):Prf:=steps.foldr (fun s p=> .mk s.kind s.form s.other s.name [p]) p
def zc6 (l:List zac):List Str:=if za6 l=[]then[⟨[99,48]⟩]else za6 l
def zmz (rec:Brn→Int→Res):GR→Res
 | .lim a=>zjR a
 | .go s=>if s.steps=[]then⟨zbK,false,false,s.added⟩else⟨zhM s.steps (rec s.c s.added).p,(rec s.c s.added).ok,(rec s.c s.added).lim,(rec s.c s.added).added⟩
def zdN (rec:Brn→Int→Res)(uses:Int)(b:Brn)(a:Int):Res:=
 if b.rounds=uses then⟨zbK,false,false,a⟩
 else zmz rec (zgH (zc6 b.list) b.list 0 ⟨⟨b.list,b.used,b.seen,b.rounds+1⟩,[],a⟩)
def zeN (rec:Brn→Int→Res)(b:Brn)(a:Int)(k:Res):List Int→Res
 |[]=>k
 |w::ws=>match zb7 w b.list b.used 0 with
  |some i=>zb5 rec b a i (b.list.getD i zbk)
  |none=>zeN rec b a k ws
def zha (rec:Brn→Int→Res)(uses:Int)(b:Brn)(a:Int):Res:=match zcD b.list with
 |some p=>⟨p,true,false,a⟩
 |none=>zeN rec b a (zdN rec uses b a) [1,4,2]
def zeQ (uses:Int):Nat→Brn→Int→Res
 |0,_,a=>zjR a
 |n+1,b,a=>zha (zeQ uses n) uses b a
section
variable {r1 r2:Brn→Int→Res}
end
theorem zq1 {f g:zac}{j:Int}(k4:f.kind=4)(s0:zbo f=g)(hj:g.kind=j):
  (zag f).1=if j=4 then 1 else if j=5 then 2 else if j=6 then 1 else if j=7 then 1 else if j=8 then 4 else if j=9 then 3 else 0:=by
 subst hj s0
 unfold zag
 rw[if_neg (by omega),if_neg (by omega),if_neg (by omega),if_neg (by omega),if_neg (by omega),if_pos k4]
 repeat'(first|rfl|(split;try rfl))
theorem zoq {f:zac}{j:Int}(k4:¬f.kind=4)(hj:f.kind=j):
  (zag f).1=if j=5 then 1 else if j=6 then 2 else if j=7 then 2 else if j=8 then 3 else if j=9 then 4 else 0:=by
 subst hj
 unfold zag
 repeat'(first|rfl|(split;try rfl))
 all_goals contradiction
end Go.Abs
namespace Go.Abs
open Go
structure zb9 (uses:Int)(b:Brn)(a:Int):Prop where
 br:∀f∈b.list,brF f
 ll:(b.list.length:Int)≤41+a
 ul:b.used.length=b.list.length
 sl:b.seen.length=b.list.length
 ss:∀s∈b.seen,(s.length:Int)≤a
 r0:0≤b.rounds
 r1:b.rounds≤uses
 u:uses≤1000
 a0:0≤a
 a1:a≤300
section
variable {uses:Int} {b:Brn} {a:Int}
theorem zb9.mono (h:zb9 uses b a){a':Int}(h1:a≤a')(h2:a'≤300):zb9 uses b a':=
 ⟨h.br,by have:=h.ll;omega,h.ul,h.sl,fun s hs=>by have:=h.ss s hs;omega,h.r0,h.r1,h.u,by have:=h.a0;omega,h2⟩
theorem zb9.mark (h:zb9 uses b a)(i:Nat):zb9 uses (zb6 b i) a:=
 ⟨h.br,h.ll,by unfold zb6;simp only[List.length_set];exact h.ul,h.sl,h.ss,h.r0,h.r1,h.u,h.a0,h.a1⟩
theorem zb9.add (h:zb9 uses b a){fs:List zac}(hf:∀f∈fs,brF f){a':Int}(ha:a'=a+fs.length)(h2:a'≤300):zb9 uses (zbS b fs) a':=by
 subst ha
 have hll:=h.ll
 have ha0:=h.a0
 refine⟨fun f hf'=>?_,?_,?_,?_,fun s hs=>?_,h.r0,h.r1,h.u,by omega,h2⟩
 ·rcases List.mem_append.1 hf' with h1|h1
  ·exact h.br f h1
  ·exact hf f h1
 ·show((b.list++fs).length:Int)≤_
  rw[List.length_append];omega
 ·show(b.used++List.replicate fs.length false).length=(b.list++fs).length
  rw[List.length_append,List.length_append,List.length_replicate,h.ul]
 ·show(b.seen++List.replicate fs.length []).length=(b.list++fs).length
  rw[List.length_append,List.length_append,List.length_replicate,h.sl]
 ·rcases List.mem_append.1 hs with h1|h1
  ·have:=h.ss s h1;omega
  ·rw[(List.mem_replicate.1 h1).2];simp only[List.length_nil];omega
theorem zb9.saw (h:zb9 uses b a){i:Nat}{w:Str}{I:zac}(hi:i<b.seen.length)(hI:brF I)(h2:a+1≤300):zb9 uses (zbS (saw b i w) [I]) (a+1):=by
 have hll:=h.ll
 have ha0:=h.a0
 refine⟨fun f hf'=>?_,?_,?_,?_,fun s hs=>?_,h.r0,h.r1,h.u,by omega,h2⟩
 ·rcases List.mem_append.1 hf' with h1|h1
  ·exact h.br f h1
  ·rw[List.mem_singleton.1 h1];exact hI
 ·show((b.list++[I]).length:Int)≤_
  rw[List.length_append,List.length_singleton];omega
 ·show(b.used++List.replicate 1 false).length=(b.list++[I]).length
  rw[List.length_append,List.length_append,List.length_replicate,h.ul];rfl
 ·show(b.seen.set i (b.seen.getD i []++[w])++List.replicate 1 []).length=(b.list++[I]).length
  rw[List.length_append,List.length_append,List.length_replicate,List.length_set,h.sl];rfl
 ·rcases List.mem_append.1 hs with h1|h1
  ·rcases List.mem_or_eq_of_mem_set h1 with h3|h3
   ·have:=h.ss s h3;omega
   ·have hm:b.seen.getD i []∈b.seen:=by
     rw[List.getD_eq_getElem?_getD,List.getElem?_eq_getElem hi];exact List.getElem_mem hi
    have h4:=h.ss _ hm
    rw[h3,List.length_append,List.length_singleton]
    omega
  ·rw[(List.mem_replicate.1 h1).2];simp only[List.length_nil];omega
theorem zid {f:zac}(h:(zag f).1=1):1≤(zag f).2.1.length:=by
 unfold zag at h ⊢
 by_cases h0:f.kind=5
 ·rw[if_pos h0];exact(by decide:(1:Nat)≤2)
 rw[if_neg h0]at h ⊢
 by_cases h1:f.kind=6
 ·rw[if_pos h1]at h;exact absurd h (show¬((2:Int)=1) by decide)
 rw[if_neg h1]at h ⊢
 by_cases h2:f.kind=7
 ·rw[if_pos h2]at h;exact absurd h (show¬((2:Int)=1) by decide)
 rw[if_neg h2]at h ⊢
 by_cases h3:f.kind=8
 ·rw[if_pos h3]at h;exact absurd h (show¬((3:Int)=1) by decide)
 rw[if_neg h3]at h ⊢
 by_cases h4:f.kind=9
 ·rw[if_pos h4]at h;exact absurd h (show¬((4:Int)=1) by decide)
 rw[if_neg h4]at h ⊢
 by_cases hk:f.kind=4
 rotate_left
 ·rw[if_neg hk]at h;exact absurd h (show¬((0:Int)=1) by decide)
 rw[if_pos hk]at h ⊢
 by_cases h5:(zbo f).kind=4
 ·rw[if_pos h5];exact(by decide:(1:Nat)≤1)
 rw[if_neg h5]at h ⊢
 by_cases h6:(zbo f).kind=5
 ·rw[if_pos h6]at h;exact absurd h (show¬((2:Int)=1) by decide)
 rw[if_neg h6]at h ⊢
 by_cases h7:(zbo f).kind=6
 ·rw[if_pos h7];exact(by decide:(1:Nat)≤2)
 rw[if_neg h7]at h ⊢
 by_cases h8:(zbo f).kind=7
 ·rw[if_pos h8];exact(by decide:(1:Nat)≤2)
 rw[if_neg h8]at h ⊢
 by_cases h9:(zbo f).kind=8
 ·rw[if_pos h9]at h;exact absurd h (show¬((4:Int)=1) by decide)
 rw[if_neg h9]at h ⊢
 by_cases h10:(zbo f).kind=9
 ·rw[if_pos h10]at h;exact absurd h (show¬((3:Int)=1) by decide)
 rw[if_neg h10]at h ⊢
 exact absurd h (show¬((0:Int)=1) by decide)
theorem zgZ {q:zac}{t:Bool}{i:Nat}:∀(ws:List Str) (s:GS),s.added≤300→match ziH q t i ws s with
  | .lim a=>s.added≤a
  | .go s'=>s.added≤s'.added∧s'.added≤300
 |[],s,h=>by rw[ziH];exact⟨Int.le_refl _,h⟩
 |w::ws,s,h=>by
  rw[ziH]
  by_cases h1:w∈s.c.seen.getD i []
  ·rw[if_pos h1];exact zgZ ws s h
  ·rw[if_neg h1]
   by_cases h2:300<s.added+1
   ·rw[if_pos h2];simp only;omega
   ·rw[if_neg h2]
    have h3:=zgZ (q:=q) (t:=t) (i:=i) ws ⟨zbS (saw s.c i w) [zbJ q t w],s.steps++[.mk 4 i 0 w []],s.added+1⟩ (by simp only;omega)
    revert h3
    generalize ziH q t i ws ⟨zbS (saw s.c i w) [zbJ q t w],s.steps++[.mk 4 i 0 w []],s.added+1⟩=r
    cases r with
    |lim a=>intro h3;simp only at h3 ⊢;omega
    |go s'=>intro h3;simp only at h3 ⊢;omega
theorem zgY {ws:List Str}:∀(l:List zac) (i:Nat) (s:GS),s.added≤300→match zgH ws l i s with
  | .lim a=>s.added≤a
  | .go s'=>s.added≤s'.added∧s'.added≤300
 |[],i,s,h=>by rw[zgH];exact⟨Int.le_refl _,h⟩
 |f::fs,i,s,h=>by
  rw[zgH]
  by_cases h1:(zag f).1=3
  ·rw[if_pos h1]
   have h2:=zgZ (q:=(zag f).2.2.1) (t:=(zag f).2.2.2) (i:=i) ws s h
   revert h2
   generalize ziH (zag f).2.2.1 (zag f).2.2.2 i ws s=r
   cases r with
   |lim a=>intro h2;exact h2
   |go s'=>
    intro h2
    have h3:=zgY (ws:=ws) fs (i+1) s' h2.2
    show match zgH ws fs (i+1) s' with
     | .lim a=>s.added≤a
     | .go s'=>s.added≤s'.added∧s'.added≤300
    revert h3
    generalize zgH ws fs (i+1) s'=r
    cases r with
    |lim a=>intro h3;simp only at h2 h3 ⊢;omega
    |go s''=>intro h3;simp only at h2 h3 ⊢;omega
  ·rw[if_neg h1];exact zgY fs (i+1) s h
def zjh (a:Int)(r:Res):Prop:=a≤r.added∧(r.ok=true→r.added≤300)
theorem zii {rec:Brn→Int→Res}{b1:Brn}{i:Nat}(h:∀b a,a≤300→zjh a (rec b a)):∀(xs:List zac) (subs:List Prf) (a:Int),a≤300→zjh a (zeL rec b1 i xs subs a)
 |[],subs,a,ha=>⟨Int.le_refl _,fun _=>ha⟩
 |x::xs,subs,a,ha=>by
  rw[zeL]
  by_cases h1:300<a+1
  ·rw[if_pos h1];exact⟨by show a≤a+1;omega,fun e=>by cases e⟩
  ·rw[if_neg h1]
   have h2:=h (zbS b1 [x]) (a+1) (by omega)
   by_cases h3:(rec (zbS b1 [x]) (a+1)).ok=false
   ·rw[if_pos h3]
    exact⟨by have:=h2.1;simp only;omega,fun e=>by cases e⟩
   ·rw[if_neg h3]
    have h4:=zii (b1:=b1) (i:=i) h xs (subs++[(rec (zbS b1 [x]) (a+1)).p]) _ (h2.2 (by simpa using h3))
    exact⟨by have:=h2.1;have:=h4.1;omega,h4.2⟩
theorem zmv {rec:Brn→Int→Res}{i:Nat}{f:zac}(h:∀b a,a≤300→zjh a (rec b a))(ha:a≤300):zjh a (zb5 rec b a i f):=by
 unfold zb5
 by_cases h1:(zag f).1=1
 ·rw[if_pos h1]
  by_cases h2:300<a+(zag f).2.1.length
  ·rw[if_pos h2];exact⟨by show a≤a+_;omega,fun e=>by cases e⟩
  ·rw[if_neg h2]
   have h3:=h (zbS (zb6 b i) (zag f).2.1) (a+(zag f).2.1.length) (by omega)
   exact⟨by have:=h3.1;show a≤(rec _ _).added;omega,h3.2⟩
 ·rw[if_neg h1]
  by_cases h4:(zag f).1=4
  ·rw[if_pos h4]
   by_cases h2:300<a+1
   ·rw[if_pos h2];exact⟨by show a≤a+1;omega,fun e=>by cases e⟩
   ·rw[if_neg h2]
    have h3:=h (zbS (zb6 b i) [zbJ (zag f).2.2.1 (zag f).2.2.2 (zea (za6 b.list))]) (a+1) (by omega)
    exact⟨by have:=h3.1;show a≤(rec _ _).added;omega,h3.2⟩
  ·rw[if_neg h4];exact zii h _ _ _ ha
theorem zei {uses:Int}:∀(n:Nat) (b:Brn) (a:Int),a≤300→zjh a (zeQ uses n b a)
 |0,b,a,ha=>⟨Int.le_refl _,fun e=>by cases e⟩
 |n+1,b,a,ha=>by
  rw[zeQ]
  unfold zha
  have ih:=zei (uses:=uses) n
  cases zcD b.list with
  |some p=>exact⟨Int.le_refl _,fun _=>ha⟩
  |none=>
   have hg:zjh a (zdN (zeQ uses n) uses b a):=by
    unfold zdN
    by_cases h1:b.rounds=uses
    ·rw[if_pos h1];exact⟨Int.le_refl _,fun e=>by cases e⟩
    ·rw[if_neg h1]
     have h2:=zgY (ws:=zc6 b.list) b.list 0 ⟨⟨b.list,b.used,b.seen,b.rounds+1⟩,[],a⟩ ha
     revert h2
     generalize zgH (zc6 b.list) b.list 0 ⟨⟨b.list,b.used,b.seen,b.rounds+1⟩,[],a⟩=r
     cases r with
     |lim a'=>intro h2;exact⟨h2,fun e=>by cases e⟩
     |go s=>
      intro h2
      simp only at h2
      unfold zmz
      simp only
      by_cases h3:s.steps=[]
      ·rw[if_pos h3];exact⟨h2.1,fun e=>by cases e⟩
      ·rw[if_neg h3]
       have h4:=ih s.c s.added h2.2
       exact⟨by have:=h4.1;have:=h2.1;simp only;omega,h4.2⟩
   have key:∀ws:List Int,zjh a (zeN (zeQ uses n) b a (zdN (zeQ uses n) uses b a) ws):=by
    intro ws
    induction ws with
    |nil=>exact hg
    |cons w ws ihw=>
     rw[zeN]
     cases zb7 w b.list b.used 0 with
     |some i=>exact zmv ih ha
     |none=>exact ihw
   exact key _
theorem zdn {want:Int}{l:List zac}{u:List Bool}{i k:Nat}(h:i<l.length)(h2:i<u.length):zb7 want (l.drop i) (u.drop i) k=if u[i]=false∧(zag l[i]).1=want then some k else zb7 want (l.drop (i+1)) (u.drop (i+1)) (k+1):=by
 rw[List.drop_eq_getElem_cons h,List.drop_eq_getElem_cons h2,zb7]
theorem zef {want:Int}{l:List zac}{u:List Bool}{i k:Nat}(h:l.length≤i):zb7 want (l.drop i) (u.drop i) k=none:=by
 rw[List.drop_eq_nil_of_le h,zb7]
theorem zmB {q:zac}{t:Bool}{i j:Nat}{ws:List Str}{s:GS}(h:j<ws.length):ziH q t i (ws.drop j) s=
  if ws[j]∈s.c.seen.getD i []then ziH q t i (ws.drop (j+1)) s
  else if 300<s.added+1 then .lim (s.added+1)
  else ziH q t i (ws.drop (j+1)) ⟨zbS (saw s.c i ws[j]) [zbJ q t ws[j]],s.steps++[.mk 4 i 0 ws[j] []],s.added+1⟩:=by
 rw[List.drop_eq_getElem_cons h,ziH]
theorem zmA {ws:List Str}{l:List zac}{i k:Nat}{s:GS}(h:i<l.length):zgH ws (l.drop i) k s=
  if(zag l[i]).1=3 then(ziH (zag l[i]).2.2.1 (zag l[i]).2.2.2 k ws s).bind (zgH ws (l.drop (i+1)) (k+1))else zgH ws (l.drop (i+1)) (k+1) s:=by
 rw[List.drop_eq_getElem_cons h,zgH]
theorem zjz {rec:Brn→Int→Res}{b1:Brn}{i j:Nat}{xs:List zac}{subs:List Prf}(h:j<xs.length):zeL rec b1 i (xs.drop j) subs a=
  if 300<a+1 then zjR (a+1)
  else if(rec (zbS b1 [xs[j]]) (a+1)).ok=false then⟨zbK,false,(rec (zbS b1 [xs[j]]) (a+1)).lim,(rec (zbS b1 [xs[j]]) (a+1)).added⟩
  else zeL rec b1 i (xs.drop (j+1)) (subs++[(rec (zbS b1 [xs[j]]) (a+1)).p]) (rec (zbS b1 [xs[j]]) (a+1)).added:=by
 rw[List.drop_eq_getElem_cons h,zeL]
end
theorem zsq {u v:Nat}(h:zb2 u=zb2 v):u=v:=zgT (List.cons.inj (Str.mk.inj h)).2
theorem zmw (used:List Str):∀m k,k≤zch used m k∧zch used m k≤k+m
 |0,k=>by simp[zch]
 |m+1,k=>by
  rw[zch]
  split
  ·have:=zmw used m (k+1);omega
  ·omega
theorem zhs (used:List Str):∀m k i,k≤i→i<zch used m k→zb2 i∈used
 |0,k,i,h1,h2=>by simp only[zch]at h2;omega
 |m+1,k,i,h1,h2=>by
  rw[zch]at h2
  split at h2
  ·rename_i h
   rcases Nat.eq_or_lt_of_le h1 with rfl|h1
   ·exact h
   ·exact zhs used m (k+1) i h1 h2
  ·omega
theorem ziG (used:List Str):∀m k,zch used m k<k+m→zb2 (zch used m k)∉used
 |0,k,h=>by simp[zch]at h
 |m+1,k,h=>by
  rw[zch]at h ⊢
  split
  ·rename_i h1
   rw[if_pos h1]at h
   exact ziG used m (k+1) (by omega)
  ·assumption
theorem zFK:∀(used:List Str) (S:List Nat),S.Nodup→(∀i∈S,zb2 i∈used)→S.length≤used.length
 |[],S,_,h=>by
  cases S with
  |nil=>simp
  |cons i S=>have:=h i (by simp);simp at this
 |u::us,S,hn,h=>by
  by_cases he:∃i∈S,zb2 i=u
  ·obtain⟨i,hi,rfl⟩:=he
   have h1:=zFK us (S.erase i) (hn.erase i) fun j hj=>by
    have h2:=(List.Nodup.mem_erase_iff hn).1 hj
    rcases List.mem_cons.1 (h j h2.2)with h3|h3
    ·exact absurd (zsq h3) h2.1
    ·exact h3
   rw[List.length_erase_of_mem hi]at h1
   simp only[List.length_cons]
   omega
  ·have h1:=zFK us S hn fun j hj=>by
    rcases List.mem_cons.1 (h j hj)with h3|h3
    ·exact absurd ⟨j,hj,h3⟩ he
    ·exact h3
   simp only[List.length_cons]
   omega
theorem zfN (used:List Str):zch used used.length 0≤used.length∧zb2 (zch used used.length 0)∉used∧∀i,i<zch used used.length 0→zb2 i∈used:=by
 have h1:=zmw used used.length 0
 have h2:=zhs used used.length 0
 refine⟨by omega,?_,fun i hi=>h2 i (Nat.zero_le _) hi⟩
 rcases Nat.lt_or_ge (zch used used.length 0) (0+used.length)with h|h
 ·exact ziG used _ _ h
 ·have he:zch used used.length 0=used.length:=by omega
  intro hin
  rw[he]at hin h2
  have h3:=zFK used (List.range' 0 (used.length+1)) List.nodup_range' fun i hi=>by
   have:=List.mem_range'_1.1 hi
   rcases Nat.lt_or_ge i used.length with h4|h4
   ·exact h2 i (Nat.zero_le _) h4
   ·obtain rfl:i=used.length:=by omega
    exact hin
  rw[List.length_range']at h3
  omega
end Go.Abs

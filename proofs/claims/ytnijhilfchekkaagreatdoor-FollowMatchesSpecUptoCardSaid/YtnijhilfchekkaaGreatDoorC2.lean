import Derived.KernelRfl
import Derived.Shelf.SlSortCmp.WholeK
import Derived.Test.YtnijhilfchekkaaGreatDoorC1
set_option linter.unusedSimpArgs false
namespace Go.Abs
open Go
structure Brn where
 list:List aH
 used:List Bool
 seen:List (List Str)
 rounds:Int
def Aw (b:Brn):FD:= .agg [.sl (b.list.map enc),.sl (b.used.map enc),.sl (b.seen.map enc),.i .i64 b.rounds]
def Av:FD→Brn
 | .agg [l,u,s,.i _ r]=>⟨dec l,dec u,dec s,r⟩
 |_=>⟨[],[],[],0⟩
theorem WE (b:Brn):Av (Aw b)=b:=by have h1:dec (.sl (b.list.map enc))=b.list:=dec_enc b.list;have h2:dec (.sl (b.used.map enc))=b.used:=dec_enc b.used;have h3:dec (.sl (b.seen.map enc))=b.seen:=dec_enc b.seen;unfold Av Aw;simp only[h1,h2,h3]
instance:Enc Brn:=⟨Aw,Av,WE⟩
@[go_sem] theorem zMf {b:Brn}:enc b= .agg [.sl (b.list.map enc),.sl (b.used.map enc),.sl (b.seen.map enc),.i .i64 b.rounds]:=rfl
@[go_sem] theorem zMa {l u s:FD}{i:IntKind}{r:Int}:dec (α:=Brn) (.agg [l,u,s,.i i r])=⟨dec l,dec u,dec s,r⟩:=rfl
@[go_sem] theorem zKi {l u s r}:(Brn.mk l u s r).list=l:=rfl
@[go_sem] theorem zKk {l u s r}:(Brn.mk l u s r).used=u:=rfl
@[go_sem] theorem zKj {l u s r}:(Brn.mk l u s r).seen=s:=rfl
@[go_sem] theorem zGy {l u s r}:(Brn.mk l u s r).rounds=r:=rfl
@[go_sem] theorem fg {b:Brn}:Brn.mk b.list b.used b.seen b.rounds=b:=by cases b;rfl
def eo (b:Brn)(fs:List aH):Brn:=⟨b.list++fs,b.used++List.replicate fs.length false,b.seen++List.replicate fs.length [],b.rounds⟩
def ig:Prf:= .mk 0 0 0 ⟨[]⟩ []
def pD (p:aH→Bool):List aH→Nat→Option Nat
 |[],_=>none
 |x::xs,k=>if p x then some k else pD p xs (k+1)
def nt (c:List cX)(l:List aH)(f:aH)(i:Nat):Option Prf:=
 if jP c f then some (.mk 1 i i ⟨[]⟩ [])
 else if f.kind=4∧(dv f).kind=2 then(pD (fun h=>iF c h (dv f)) l 0).map fun(k:Nat)=>Prf.mk 1 (k:Int) i ⟨[]⟩ []
 else none
def pp (c:List cX)(l:List aH):List aH→Nat→Option Prf
 |[],_=>none
 |f::fs,i=>match nt c l f i with
  |some p=>some p
  |none=>pp c l fs (i+1)
def nP (l:List aH):Option Prf:=pp (ii l) l l 0
def vd (l:List aH):Prf×Bool:=match nP l with
 |some p=>(p,true)
 |none=>(ig,false)
def e7 (l:List aH):List Str:=(lD (oC ((l.flatMap eR).map (·.l)))).map Str.mk
def ir (k:Nat):Str:=⟨99::fV k⟩
def lu (have':List Str):Nat→Nat→Nat
 |0,k=>k
 |m+1,k=>if ir k∈have' then lu have' m (k+1)else k
def oS (have':List Str):Str:=ir (lu have' have'.length 0)
structure Res where
 p:Prf
 ok:Bool
 lim:Bool
 added:Int
def l3 (a:Int):Res:=⟨ig,false,true,a⟩
def ik (want:Int):List aH→List Bool→Nat→Option Nat
 |f::fs,u::us,i=>if u=false∧(bY f).1=want then some i else ik want fs us (i+1)
 |[],_,_=>none
 |_::_,[],_=>none
def kH (rec:Brn→Int→Res)(b1:Brn)(i:Nat):List aH→List Prf→Int→Res
 |[],subs,a=>⟨.mk 3 i 0 ⟨[]⟩ subs,true,false,a⟩
 |x::xs,subs,a=>
  if 300<a+1 then l3 (a+1)
  else if(rec (eo b1 [x]) (a+1)).ok=false then⟨ig,false,(rec (eo b1 [x]) (a+1)).lim,(rec (eo b1 [x]) (a+1)).added⟩
  else kH rec b1 i xs (subs++[(rec (eo b1 [x]) (a+1)).p]) (rec (eo b1 [x]) (a+1)).added
def il (b:Brn)(i:Nat):Brn:=⟨b.list,b.used.set i true,b.seen,b.rounds⟩
def vD (i:Nat)(r:Res):Res:=⟨.mk 2 i 0 ⟨[]⟩ [r.p],r.ok,r.lim,r.added⟩
def sL (i:Nat)(nm:Str)(r:Res):Res:=⟨.mk 5 i 0 nm [r.p],r.ok,r.lim,r.added⟩
def jr (rec:Brn→Int→Res)(b:Brn)(a:Int)(i:Nat)(f:aH):Res:=
 if(bY f).1=1 then
  if 300<a+(bY f).2.1.length then l3 (a+(bY f).2.1.length)
  else vD i (rec (eo (il b i) (bY f).2.1) (a+(bY f).2.1.length))
 else if(bY f).1=4 then
  if 300<a+1 then l3 (a+1)
  else sL i (oS (e7 b.list)) (rec (eo (il b i) [gP (bY f).2.2.1 (bY f).2.2.2 (oS (e7 b.list))]) (a+1))
 else kH rec (il b i) i (bY f).2.1 [] a
structure GS where
 c:Brn
 steps:List Prf
 added:Int
inductive GR where
 |lim (a:Int)
 |go (s:GS)
def saw (c:Brn)(i:Nat)(w:Str):Brn:=⟨c.list,c.used,c.seen.set i (c.seen.getD i []++[w]),c.rounds⟩
def jt (q:aH)(t:Bool)(i:Nat):List Str→GS→GR
 |[],s=> .go s
 |w::ws,s=>
  if w∈s.c.seen.getD i []then jt q t i ws s
  else if 300<s.added+1 then .lim (s.added+1)
  else jt q t i ws ⟨eo (saw s.c i w) [gP q t w],s.steps++[.mk 4 i 0 w []],s.added+1⟩
def GR.bind (r:GR)(k:GS→GR):GR:=match r with
 | .lim a=> .lim a
 | .go s=>k s
def iQ (ws:List Str):List aH→Nat→GS→GR
 |[],_,s=> .go s
 |f::fs,i,s=>if(bY f).1=3 then(jt (bY f).2.2.1 (bY f).2.2.2 i ws s).bind (iQ ws fs (i+1))else iQ ws fs (i+1) s
def pH (steps:List Prf)(p:Prf):Prf:=steps.foldr (fun s p=> .mk s.kind s.form s.other s.name [p]) p
def oN (l:List aH):List Str:=if e7 l=[]then[⟨[99,48]⟩]else e7 l
def mF (rec:Brn→Int→Res):GR→Res
 | .lim a=>l3 a
 | .go s=>if s.steps=[]then⟨ig,false,false,s.added⟩else⟨pH s.steps (rec s.c s.added).p,(rec s.c s.added).ok,(rec s.c s.added).lim,(rec s.c s.added).added⟩
def nQ (rec:Brn→Int→Res)(uses:Int)(b:Brn)(a:Int):Res:=
 if b.rounds=uses then⟨ig,false,false,a⟩
 else mF rec (iQ (oN b.list) b.list 0 ⟨⟨b.list,b.used,b.seen,b.rounds+1⟩,[],a⟩)
def kY (rec:Brn→Int→Res)(b:Brn)(a:Int)(k:Res):List Int→Res
 |[]=>k
 |w::ws=>match ik w b.list b.used 0 with
  |some i=>jr rec b a i (b.list.getD i fQ)
  |none=>kY rec b a k ws
def oD (rec:Brn→Int→Res)(uses:Int)(b:Brn)(a:Int):Res:=match nP b.list with
 |some p=>⟨p,true,false,a⟩
 |none=>kY rec b a (nQ rec uses b a) [1,4,2]
def gQ (uses:Int):Nat→Brn→Int→Res
 |0,_,a=>l3 a
 |n+1,b,a=>oD (gQ uses n) uses b a
section
variable {r1 r2:Brn→Int→Res}
theorem Ml {b1:Brn}{i:Nat}(h:∀b a,b.rounds=b1.rounds→(r1 b a).ok=true→r2 b a=r1 b a):∀(xs:List aH) (subs:List Prf) (a:Int),(kH r1 b1 i xs subs a).ok=true→kH r2 b1 i xs subs a=kH r1 b1 i xs subs a
 |[],subs,a,_=>rfl
 |x::xs,subs,a,hk=>by
  rw[kH]at hk ⊢;rw[kH];by_cases h1:300<a+1
  ·rw[aF h1,aF h1]
  ·rw[az h1]at hk ⊢;rw[az h1];by_cases h2:(r1 (eo b1 [x]) (a+1)).ok=false
   ·rw[aF h2]at hk;simp at hk
   ·have h3:=h (eo b1 [x]) (a+1) rfl qQ4;rw[az h2]at hk ⊢;rw[h3,az h2];exact Ml h xs _ _ hk
theorem BH {q:aH}{t:Bool}{i:Nat}:∀(ws:List Str) (s s':GS),jt q t i ws s= .go s'→s'.c.rounds=s.c.rounds
 |[],s,s',h=>by rw[jt]at h;cases h;rfl
 |w::ws,s,s',h=>by
  rw[jt]at h;by_cases h1:w∈s.c.seen.getD i []
  ·rw[aF h1]at h;exact BH ws s s' h
  ·rw[az h1]at h;by_cases h2:300<s.added+1
   ·rw[aF h2]at h;cases h
   ·rw[az h2]at h;have h3:=BH ws _ s' h;exact h3
theorem BG {ws:List Str}:∀(l:List aH) (i:Nat) (s s':GS),iQ ws l i s= .go s'→s'.c.rounds=s.c.rounds
 |[],i,s,s',h=>by rw[iQ]at h;cases h;rfl
 |f::fs,i,s,s',h=>by
  rw[iQ]at h;split at h
  ·cases hg:jt (bY f).2.2.1 (bY f).2.2.2 i ws s with
   |lim a=>rw[hg]at h;cases h
   |go s1=>rw[hg]at h;exact(BG fs (i+1) s1 s' h).trans (BH ws s s1 hg)
  ·exact BG fs (i+1) s s' h
theorem Zr {b:Brn}{a:Int}{i:Nat}{f:aH}(h:∀b' a,b'.rounds=b.rounds→(r1 b' a).ok=true→r2 b' a=r1 b' a)(hk:(jr r1 b a i f).ok=true):jr r2 b a i f=jr r1 b a i f:=by
 unfold jr at hk ⊢;by_cases h1:(bY f).1=1
 ·rw[aF h1]at hk;rw[aF h1,aF h1];by_cases h2:300<a+(bY f).2.1.length
  ·rw[aF h2,aF h2]
  ·rw[az h2]at hk;rw[az h2,az h2];exact a8 (vD i) (h _ _ qQi hk)
 ·rw[az h1]at hk;rw[az h1,az h1];by_cases h3:(bY f).1=4
  ·rw[aF h3]at hk;rw[aF h3,aF h3];by_cases h2:300<a+1
   ·rw[aF h2,aF h2]
   ·rw[az h2]at hk;rw[az h2,az h2];exact a8 (sL i _) (h _ _ qQi hk)
  ·rw[az h3]at hk;rw[az h3,az h3];have h4:=Ml (b1:=il b i) (fun b' a hb=>h b' a hb) _ _ _ hk;exact h4
theorem M0 {b:Brn}{a:Int}{k1 k2:Res}(h:∀b' a,b'.rounds=b.rounds→(r1 b' a).ok=true→r2 b' a=r1 b' a)(hkk:k1.ok=true→k2=k1):∀ws:List Int,(kY r1 b a k1 ws).ok=true→kY r2 b a k2 ws=kY r1 b a k1 ws
 |[],hk=>hkk hk
 |w::ws,hk=>by
  rw[kY]at hk ⊢;rw[kY];cases hi:ik w b.list b.used 0 with
  |some i=>rw[hi]at hk;exact Zr h hk
  |none=>rw[hi]at hk;exact M0 h hkk ws hk
end
theorem DF {uses:Int}:∀(n:Nat) (b:Brn) (a:Int),b.rounds≤uses→(gQ uses n b a).ok=true→gQ (uses+1) n b a=gQ uses n b a
 |0,b,a,_,_=>rfl
 |n+1,b,a,hb,hk=>by
  rw[gQ]at hk ⊢;rw[gQ];unfold oD at hk ⊢;cases hp:nP b.list with
  |some p=>rfl
  |none=>
   rw[hp]at hk;refine M0 (fun b' a' e h1=>DF n b' a' ae h1) (fun hg=>?_) _ hk;unfold nQ at hg ⊢;by_cases h1:b.rounds=uses
   ·rw[aF h1]at hg;simp at hg
   ·rw[az h1]at hg ⊢;rw[az ae];cases hG:iQ (oN b.list) b.list 0 ⟨⟨b.list,b.used,b.seen,b.rounds+1⟩,[],a⟩with
    |lim a'=>rfl
    |go s=>
     rw[hG]at hg;have hr:=BG _ _ _ _ hG;simp only at hr;unfold mF at hg ⊢;simp only at hg ⊢;by_cases h2:s.steps=[]
     ·rw[aF h2,aF h2]
     ·rw[az h2]at hg ⊢;rw[az h2];rw[DF n s.c s.added ae hg]
theorem Yh {f g:aH}{j:Int}(k4:f.kind=4)(s0:dv f=g)(hj:g.kind=j):
  (bY f).1=if j=4 then 1 else if j=5 then 2 else if j=6 then 1 else if j=7 then 1 else if j=8 then 4 else if j=9 then 3 else 0:=by
 subst hj s0;unfold bY;rw[az ae,az ae,az ae,az ae,az ae,aF k4]
 repeat'(first|rfl|(split;try rfl))
theorem WZ {f:aH}{j:Int}(k4:¬f.kind=4)(hj:f.kind=j):
  (bY f).1=if j=5 then 1 else if j=6 then 2 else if j=7 then 2 else if j=8 then 3 else if j=9 then 4 else 0:=by
 subst hj;unfold bY
 repeat'(first|rfl|(split;try rfl))
 all_goals contradiction
structure ix (uses:Int)(b:Brn)(a:Int):Prop where
 br:∀f∈b.list,brF f
 ll:(b.list.length:Int)≤41+a
 ul:b.used.length=b.list.length
 sl:b.seen.length=b.list.length
 ss:∀s∈b.seen,(s.length:Int)≤a
 r0:0≤b.rounds
 r1:b.rounds≤uses
 u:uses≤1000
 a0:0≤a
 a1:a≤300
section
variable {uses:Int} {b:Brn} {a:Int}
theorem ix.mono (h:ix uses b a){a':Int}(h1:a≤a')(h2:a'≤300):ix uses b a':=
 ⟨h.br,by have:=h.ll;omega,h.ul,h.sl,fun s hs=>by have:=h.ss s hs;omega,h.r0,h.r1,h.u,by have:=h.a0;omega,h2⟩
theorem ix.mark (h:ix uses b a)(i:Nat):ix uses (il b i) a:=
 ⟨h.br,h.ll,by unfold il;simp only[cY];exact h.ul,h.sl,h.ss,h.r0,h.r1,h.u,h.a0,h.a1⟩
theorem ix.add (h:ix uses b a){fs:List aH}(hf:∀f∈fs,brF f){a':Int}(ha:a'=a+fs.length)(h2:a'≤300):ix uses (eo b fs) a':=by
 subst ha;have hll:=h.ll;have ha0:=h.a0;refine⟨fun f hf'=>?_,?_,?_,?_,fun s hs=>?_,h.r0,h.r1,h.u,ae,h2⟩
 ·rcases aO.1 hf' with h1|h1
  ·exact h.br f h1
  ·exact hf f h1
 ·show((b.list++fs).length:Int)≤_;rw[aD];omega
 ·show(b.used++List.replicate fs.length false).length=(b.list++fs).length;rw[aD,aD,cE,h.ul]
 ·show(b.seen++List.replicate fs.length []).length=(b.list++fs).length;rw[aD,aD,cE,h.sl]
 ·rcases aO.1 hs with h1|h1
  ·have:=h.ss s h1;omega
  ·rw[(l8.1 h1).2];simp only[bj];omega
theorem ix.saw (h:ix uses b a){i:Nat}{w:Str}{I:aH}(hi:i<b.seen.length)(hI:brF I)(h2:a+1≤300):ix uses (eo (saw b i w) [I]) (a+1):=by
 have hll:=h.ll;have ha0:=h.a0;refine⟨fun f hf'=>?_,?_,?_,?_,fun s hs=>?_,h.r0,h.r1,h.u,ae,h2⟩
 ·rcases aO.1 hf' with h1|h1
  ·exact h.br f h1
  ·rw[a7.1 h1];exact hI
 ·show((b.list++[I]).length:Int)≤_;rw[aD,bU];omega
 ·show(b.used++List.replicate 1 false).length=(b.list++[I]).length;rw[aD,aD,cE,h.ul];rfl
 ·show(b.seen.set i (b.seen.getD i []++[w])++List.replicate 1 []).length=(b.list++[I]).length;rw[aD,aD,cE,cY,h.sl];rfl
 ·rcases aO.1 hs with h1|h1
  ·rcases List.mem_or_eq_of_mem_set h1 with h3|h3
   ·have:=h.ss s h3;omega
   ·have hm:b.seen.getD i []∈b.seen:=by rw[av,ay hi];exact aT hi
    have h4:=h.ss _ hm;rw[h3,aD,bU];omega
  ·rw[(l8.1 h1).2];simp only[bj];omega
theorem Ca {f:aH}(h:(bY f).1=1):1≤(bY f).2.1.length:=by
 unfold bY at h ⊢;by_cases h0:f.kind=5
 ·rw[aF h0];exact(by decide:(1:Nat)≤2)
 rw[az h0]at h ⊢;by_cases h1:f.kind=6
 ·rw[aF h1]at h;exact absurd h (show¬((2:Int)=1) by decide)
 rw[az h1]at h ⊢;by_cases h2:f.kind=7
 ·rw[aF h2]at h;exact absurd h (show¬((2:Int)=1) by decide)
 rw[az h2]at h ⊢;by_cases h3:f.kind=8
 ·rw[aF h3]at h;exact absurd h (show¬((3:Int)=1) by decide)
 rw[az h3]at h ⊢;by_cases h4:f.kind=9
 ·rw[aF h4]at h;exact absurd h (show¬((4:Int)=1) by decide)
 rw[az h4]at h ⊢;by_cases hk:f.kind=4;rotate_left
 ·rw[az hk]at h;exact absurd h (show¬((0:Int)=1) by decide)
 rw[aF hk]at h ⊢;by_cases h5:(dv f).kind=4
 ·rw[aF h5];exact(by decide:(1:Nat)≤1)
 rw[az h5]at h ⊢;by_cases h6:(dv f).kind=5
 ·rw[aF h6]at h;exact absurd h (show¬((2:Int)=1) by decide)
 rw[az h6]at h ⊢;by_cases h7:(dv f).kind=6
 ·rw[aF h7];exact(by decide:(1:Nat)≤2)
 rw[az h7]at h ⊢;by_cases h8:(dv f).kind=7
 ·rw[aF h8];exact(by decide:(1:Nat)≤2)
 rw[az h8]at h ⊢;by_cases h9:(dv f).kind=8
 ·rw[aF h9]at h;exact absurd h (show¬((4:Int)=1) by decide)
 rw[az h9]at h ⊢;by_cases h10:(dv f).kind=9
 ·rw[aF h10]at h;exact absurd h (show¬((3:Int)=1) by decide)
 rw[az h10]at h ⊢;exact absurd h (show¬((0:Int)=1) by decide)
theorem BU {q:aH}{t:Bool}{i:Nat}:∀(ws:List Str) (s:GS),s.added≤300→match jt q t i ws s with
  | .lim a=>s.added≤a
  | .go s'=>s.added≤s'.added∧s'.added≤300
 |[],s,h=>by rw[jt];exact⟨fN _,h⟩
 |w::ws,s,h=>by
  rw[jt];by_cases h1:w∈s.c.seen.getD i []
  ·rw[aF h1];exact BU ws s h
  ·rw[az h1];by_cases h2:300<s.added+1
   ·rw[aF h2];simp only;omega
   ·rw[az h2];have h3:=BU (q:=q) (t:=t) (i:=i) ws ⟨eo (saw s.c i w) [gP q t w],s.steps++[.mk 4 i 0 w []],s.added+1⟩ af;revert h3;generalize jt q t i ws ⟨eo (saw s.c i w) [gP q t w],s.steps++[.mk 4 i 0 w []],s.added+1⟩=r;cases r with
    |lim a=>intro h3;simp only at h3 ⊢;omega
    |go s'=>intro h3;simp only at h3 ⊢;omega
theorem BT {ws:List Str}:∀(l:List aH) (i:Nat) (s:GS),s.added≤300→match iQ ws l i s with
  | .lim a=>s.added≤a
  | .go s'=>s.added≤s'.added∧s'.added≤300
 |[],i,s,h=>by rw[iQ];exact⟨fN _,h⟩
 |f::fs,i,s,h=>by
  rw[iQ];by_cases h1:(bY f).1=3
  ·rw[aF h1];have h2:=BU (q:=(bY f).2.2.1) (t:=(bY f).2.2.2) (i:=i) ws s h;revert h2;generalize jt (bY f).2.2.1 (bY f).2.2.2 i ws s=r;cases r with
   |lim a=>intro h2;exact h2
   |go s'=>
    intro h2;have h3:=BT (ws:=ws) fs (i+1) s' h2.2;show match iQ ws fs (i+1) s' with
     | .lim a=>s.added≤a
     | .go s'=>s.added≤s'.added∧s'.added≤300
    revert h3;generalize iQ ws fs (i+1) s'=r;cases r with
    |lim a=>intro h3;simp only at h2 h3 ⊢;omega
    |go s''=>intro h3;simp only at h2 h3 ⊢;omega
  ·rw[az h1];exact BT fs (i+1) s h
def qL (a:Int)(r:Res):Prop:=a≤r.added∧(r.ok=true→r.added≤300)
theorem Is {rec:Brn→Int→Res}{b1:Brn}{i:Nat}(h:∀b a,a≤300→qL a (rec b a)):∀(xs:List aH) (subs:List Prf) (a:Int),a≤300→qL a (kH rec b1 i xs subs a)
 |[],subs,a,ha=>⟨fN _,fun _=>ha⟩
 |x::xs,subs,a,ha=>by
  rw[kH];by_cases h1:300<a+1
  ·rw[aF h1];exact⟨by show a≤a+1;omega,fun e=>by cases e⟩
  ·rw[az h1];have h2:=h (eo b1 [x]) (a+1) ae;by_cases h3:(rec (eo b1 [x]) (a+1)).ok=false
   ·rw[aF h3];exact⟨by have:=h2.1;simp only;omega,fun e=>by cases e⟩
   ·rw[az h3];have h4:=Is (b1:=b1) (i:=i) h xs (subs++[(rec (eo b1 [x]) (a+1)).p]) _ (h2.2 (by simpa using h3));exact⟨by have:=h2.1;have:=h4.1;omega,h4.2⟩
theorem Wx {rec:Brn→Int→Res}{i:Nat}{f:aH}(h:∀b a,a≤300→qL a (rec b a))(ha:a≤300):qL a (jr rec b a i f):=by
 unfold jr;by_cases h1:(bY f).1=1
 ·rw[aF h1];by_cases h2:300<a+(bY f).2.1.length
  ·rw[aF h2];exact⟨by show a≤a+_;omega,fun e=>by cases e⟩
  ·rw[az h2];have h3:=h (eo (il b i) (bY f).2.1) (a+(bY f).2.1.length) ae;exact⟨by have:=h3.1;show a≤(rec _ _).added;omega,h3.2⟩
 ·rw[az h1];by_cases h4:(bY f).1=4
  ·rw[aF h4];by_cases h2:300<a+1
   ·rw[aF h2];exact⟨by show a≤a+1;omega,fun e=>by cases e⟩
   ·rw[az h2];have h3:=h (eo (il b i) [gP (bY f).2.2.1 (bY f).2.2.2 (oS (e7 b.list))]) (a+1) ae;exact⟨by have:=h3.1;show a≤(rec _ _).added;omega,h3.2⟩
  ·rw[az h4];exact Is h _ _ _ ha
theorem wJ {uses:Int}:∀(n:Nat) (b:Brn) (a:Int),a≤300→qL a (gQ uses n b a)
 |0,b,a,ha=>⟨fN _,fun e=>by cases e⟩
 |n+1,b,a,ha=>by
  rw[gQ];unfold oD;have ih:=wJ (uses:=uses) n;cases nP b.list with
  |some p=>exact⟨fN _,fun _=>ha⟩
  |none=>
   have hg:qL a (nQ (gQ uses n) uses b a):=by
    unfold nQ;by_cases h1:b.rounds=uses
    ·rw[aF h1];exact⟨fN _,fun e=>by cases e⟩
    ·rw[az h1];have h2:=BT (ws:=oN b.list) b.list 0 ⟨⟨b.list,b.used,b.seen,b.rounds+1⟩,[],a⟩ ha;revert h2;generalize iQ (oN b.list) b.list 0 ⟨⟨b.list,b.used,b.seen,b.rounds+1⟩,[],a⟩=r;cases r with
     |lim a'=>intro h2;exact⟨h2,fun e=>by cases e⟩
     |go s=>
      intro h2;simp only at h2;unfold mF;simp only;by_cases h3:s.steps=[]
      ·rw[aF h3];exact⟨h2.1,fun e=>by cases e⟩
      ·rw[az h3];have h4:=ih s.c s.added h2.2;exact⟨by have:=h4.1;have:=h2.1;simp only;omega,h4.2⟩
   have key:∀ws:List Int,qL a (kY (gQ uses n) b a (nQ (gQ uses n) uses b a) ws):=by
    intro ws;induction ws with
    |nil=>exact hg
    |cons w ws ihw=>
     rw[kY];cases ik w b.list b.used 0 with
     |some i=>exact Wx ih ha
     |none=>exact ihw
   exact key _
theorem uH {want:Int}{l:List aH}{u:List Bool}{i k:Nat}(h:i<l.length)(h2:i<u.length):ik want (l.drop i) (u.drop i) k=if u[i]=false∧(bY l[i]).1=want then some k else ik want (l.drop (i+1)) (u.drop (i+1)) (k+1):=by rw[aR h,aR h2,ik]
theorem uM {want:Int}{l:List aH}{u:List Bool}{i k:Nat}(h:l.length≤i):ik want (l.drop i) (u.drop i) k=none:=by rw[cL h,ik]
theorem Le {q:aH}{t:Bool}{i j:Nat}{ws:List Str}{s:GS}(h:j<ws.length):jt q t i (ws.drop j) s=
  if ws[j]∈s.c.seen.getD i []then jt q t i (ws.drop (j+1)) s
  else if 300<s.added+1 then .lim (s.added+1)
  else jt q t i (ws.drop (j+1)) ⟨eo (saw s.c i ws[j]) [gP q t ws[j]],s.steps++[.mk 4 i 0 ws[j] []],s.added+1⟩:=by
 rw[aR h,jt]
theorem Ld {ws:List Str}{l:List aH}{i k:Nat}{s:GS}(h:i<l.length):iQ ws (l.drop i) k s=
  if(bY l[i]).1=3 then(jt (bY l[i]).2.2.1 (bY l[i]).2.2.2 k ws s).bind (iQ ws (l.drop (i+1)) (k+1))else iQ ws (l.drop (i+1)) (k+1) s:=by
 rw[aR h,iQ]
theorem JH {rec:Brn→Int→Res}{b1:Brn}{i j:Nat}{xs:List aH}{subs:List Prf}(h:j<xs.length):kH rec b1 i (xs.drop j) subs a=
  if 300<a+1 then l3 (a+1)
  else if(rec (eo b1 [xs[j]]) (a+1)).ok=false then⟨ig,false,(rec (eo b1 [xs[j]]) (a+1)).lim,(rec (eo b1 [xs[j]]) (a+1)).added⟩
  else kH rec b1 i (xs.drop (j+1)) (subs++[(rec (eo b1 [xs[j]]) (a+1)).p]) (rec (eo b1 [xs[j]]) (a+1)).added:=by
 rw[aR h,kH]
end
theorem YG {u v:Nat}(h:ir u=ir v):u=v:=BO (fx (Str.mk.inj h)).2
theorem Lc (used:List Str):∀m k,k≤lu used m k∧lu used m k≤k+m
 |0,k=>by simp[lu]
 |m+1,k=>by
  rw[lu];split
  ·have:=Lc used m (k+1);omega
  ·omega
theorem H5 (used:List Str):∀m k i,k≤i→i<lu used m k→ir i∈used
 |0,k,i,h1,h2=>by simp only[lu]at h2;omega
 |m+1,k,i,h1,h2=>by
  rw[lu]at h2;split at h2
  ·rename_i h;rcases dY h1 with rfl|h1
   ·exact h
   ·exact H5 used m (k+1) i h1 h2
  ·omega
theorem II (used:List Str):∀m k,lu used m k<k+m→ir (lu used m k)∉used
 |0,k,h=>by simp[lu]at h
 |m+1,k,h=>by
  rw[lu]at h ⊢;split
  ·rename_i h1;rw[aF h1]at h;exact II used m (k+1) ae
  ·assumption
theorem Bs:∀(used:List Str) (S:List Nat),S.Nodup→(∀i∈S,ir i∈used)→S.length≤used.length
 |[],S,_,h=>by
  cases S with
  |nil=>simp
  |cons i S=>have:=h i ak;simp at this
 |u::us,S,hn,h=>by
  by_cases he:∃i∈S,ir i=u
  ·obtain⟨i,hi,rfl⟩:=he;have h1:=Bs us (S.erase i) (hn.erase i) fun j hj=>by
    have h2:=(List.Nodup.mem_erase_iff hn).1 hj;rcases aV.1 (h j h2.2)with h3|h3
    ·exact absurd (YG h3) h2.1
    ·exact h3
   rw[List.length_erase_of_mem hi]at h1;simp only[aN];omega
  ·have h1:=Bs us S hn fun j hj=>by
    rcases aV.1 (h j hj)with h3|h3
    ·exact absurd ⟨j,hj,h3⟩ he
    ·exact h3
   simp only[aN];omega
theorem BE (used:List Str):lu used used.length 0≤used.length∧ir (lu used used.length 0)∉used∧∀i,i<lu used used.length 0→ir i∈used:=by
 have h1:=Lc used used.length 0;have h2:=H5 used used.length 0;refine⟨ae,?_,fun i hi=>h2 i (gL _) hi⟩;rcases aA (lu used used.length 0) (0+used.length)with h|h
 ·exact II used _ _ h
 ·have he:lu used used.length 0=used.length:=ae
  intro hin;rw[he]at hin h2;have h3:=Bs used (List.range' 0 (used.length+1)) List.nodup_range' fun i hi=>by
   have:=List.mem_range'_1.1 hi;rcases aA i used.length with h4|h4
   ·exact h2 i (gL _) h4
   ·obtain rfl:i=used.length:=ae
    exact hin
  rw[List.length_range']at h3;omega
def oc:Str:=⟨[109,97,110]⟩
def qg:Str:=⟨[109,111,114,116,97,108]⟩
def jQ:Str:=⟨[107,105,109]⟩
def exS:Str:=⟨[120]⟩
def v0S:Str:=⟨[118,48]⟩
def prF (n w:Str):aH:= .mk 2 n [w] []
def sT (x:Str):aH:= .mk 8 x [] [.mk 7 ⟨[]⟩ [] [prF oc x,prF qg x]]
def px:List aH:=[sT exS,prF oc jQ]
def nU:aH:=prF qg jQ
def pG:List aH:=[sT v0S,prF oc jQ,.mk 4 ⟨[]⟩ [] [nU]]
theorem MQ {f:aH}(h:cst f []=[]):eR f=[]:=by
 cases hu:eR f with
 |nil=>rfl
 |cons x l=>have:=(og f x).1 (by rw[hu];simp);rw[h]at this;simp at this
theorem Lu {k:List UInt8}{n:Nat}:oC (List.replicate n k)=List.replicate n k:=List.perm_replicate.1 (ry _)
theorem Mw {f:aH}{w:Str}(h:cst f []=[w]):eR f=[w]:=by unfold eR;rw[h];have e:([w].map (·.l))=List.replicate 1 w.l:=rfl;rw[e,Lu];rfl
theorem MS:eC (sT exS) []=sT v0S:=by unfold eC;rw[MQ ah];kernel_rfl
theorem KY:eC (prF oc jQ) []=prF oc jQ:=ah
theorem MT:ngg nU= .mk 4 ⟨[]⟩ [] [nU]:=ah
theorem Xr:e7 pG=[jQ]:=by
 unfold e7;have e1:eR (sT v0S)=[]:=MQ ah;have e2:eR (prF oc jQ)=[jQ]:=Mw ah;have e3:eR (.mk 4 ⟨[]⟩ [] [nU])=[jQ]:=Mw ah;have e:(pG.flatMap eR)=[jQ,jQ]:=by unfold pG;rw[cU,cU,cU,nG,e1,e2,e3];rfl
 rw[e];have e4:([jQ,jQ].map (·.l))=List.replicate 2 jQ.l:=rfl;rw[e4,Lu];have e5:(lD (List.replicate 2 jQ.l)).map Str.mk=[jQ]:=ah
 exact e5
def mg:Brn:=eo ⟨[],[],[],0⟩ pG
theorem Qv {uses:Int}(h:0<uses)(n:Nat):gQ uses (n+1) mg 0=mF (gQ uses n) (iQ [jQ] pG 0 ⟨⟨pG,mg.used,mg.seen,1⟩,[],0⟩):=by
 rw[gQ];unfold oD;have h1:nP mg.list=none:=ah
 have h2:ik 1 mg.list mg.used 0=none:=ah
 have h3:ik 4 mg.list mg.used 0=none:=ah
 have h4:ik 2 mg.list mg.used 0=none:=ah
 rw[h1];simp only[kY,h2,h3,h4];unfold nQ;have h5:mg.rounds=0:=rfl;have h6:mg.list=pG:=rfl;rw[az (by rw[h5];omega)];have h7:oN pG=[jQ]:=by unfold oN;rw[Xr,az ak]
 rw[h6,h7];rfl
theorem Et:(gQ 1 301 mg 0).ok=true∧(gQ 1 301 mg 0).lim=false∧(gQ 1 301 mg 0).p.kind≠0:=by
 rw[Qv ai];refine⟨ah,ah,?_⟩;have e:(mF (gQ 1 300) (iQ [jQ] pG 0 ⟨⟨pG,mg.used,mg.seen,1⟩,[],0⟩)).p.kind=4:=ah
 rw[e];decide
theorem BN {j:Nat}(h:j<10^20):dI (ir j)=true:=by
 have h1:=Kb 19 j h;refine yL ?_ ?_ ?_ fun i hi=>?_
 ·simp[ir]
 ·simp only[ir,aN];omega
 ·simp[ir,mZ]
 ·simp only[ir,aN]at hi ⊢;cases i with
  |zero=>show okc (99:UInt8);decide
  |succ i=>
   rw[di];have hm:(fV j).getD i 0∈fV j:=by rw[av,ay ae];exact aT _
   have:=h1.2 _ hm;exact .inr (.inl ⟨ae,ae⟩)
theorem Qk {f:aH}(h:brF f)(hs:(bY f).1=3∨(bY f).1=4):f.kind=8∨f.kind=9∨(f.kind=4∧((dv f).kind=8∨(dv f).kind=9)):=by
 unfold bY at hs;have hkb:=fU.1 h.v;by_cases k8:f.kind=8
 ·exact .inl k8
 by_cases k9:f.kind=9
 ·exact .inr (.inl k9)
 refine .inr (.inr ?_);by_cases k4:f.kind=4
 ·refine⟨k4,?_⟩;by_cases j8:(dv f).kind=8
  ·exact .inl j8
  by_cases j9:(dv f).kind=9
  ·exact .inr j9
  exfalso;simp only[k4,j8,j9,cd,cJ,show¬((4:Int)=5) by decide,show¬((4:Int)=6) by decide,show¬((4:Int)=7) by decide,show¬((4:Int)=8) by decide,show¬((4:Int)=9) by decide]at hs;split at hs<;>(try split at hs)<;>(try split at hs)<;>(try split at hs)<;>simp at hs
 ·exfalso;simp only[k4,k8,k9,cd]at hs;split at hs<;>(try split at hs)<;>(try split at hs)<;>simp at hs
theorem vp {f a:aH}(h:BF f)(ha:a∈f.subs):BF0 a∧a.size+1≤800:=⟨h.o.sub ha,by have:=aH.size_sub ha;have:=h.o.b.s;omega⟩
theorem tA {f g a:aH}(h:BF f)(hg:g∈f.subs)(ha:a∈g.subs):BF0 a∧a.size+1≤800:=⟨(h.o.sub hg).sub ha,by have:=aH.size_sub hg;have:=aH.size_sub ha;have:=h.o.b.s;omega⟩
theorem uJ {f:aH}{i:Nat}(h:i<f.subs.length):f.subs.getD i fQ∈f.subs:=by rw[av,ay h];exact aT h
theorem yN {f:aH}(h:BF f):∀g∈(bY f).2.1,BF g:=by
 have hv:=fU.1 h.o.b.v;have one:∀{x:aH},vok x→(x.kind=4∨x.kind=8∨x.kind=9)→dv x∈x.subs:=fun{x} hx hk=>uJ (f:=x) (i:=0) (by rw[(fU.1 hx).2.2.2.2.1 hk];omega);have two0:∀{x:aH},vok x→(x.kind=5∨x.kind=6∨x.kind=7)→dv x∈x.subs:=fun{x} hx hk=>uJ (f:=x) (i:=0) qQx;have two1:∀{x:aH},vok x→(x.kind=5∨x.kind=6∨x.kind=7)→qc x∈x.subs:=fun{x} hx hk=>uJ (f:=x) (i:=1) qQx;have C:∀{a:aH},BF0 a∧a.size+1≤800→BF (cnn a):=fun h=>h.1.cn;have N:∀{a:aH},BF0 a∧a.size+1≤800→BF (ngg a):=fun h=>h.1.ng h.2;have fv:=h.o.b.v;intro g hg;unfold bY at hg;by_cases k5:f.kind=5
 ·rw[aF k5]at hg;simp only[aV,aZ,ct]at hg;rcases hg with rfl|rfl
  ·exact C (vp h (two0 fv ae))
  ·exact C (vp h (two1 fv ae))
 rw[az k5]at hg;by_cases k6:f.kind=6
 ·rw[aF k6]at hg;simp only[aV,aZ,ct]at hg;rcases hg with rfl|rfl
  ·exact C (vp h (two0 fv ae))
  ·exact C (vp h (two1 fv ae))
 rw[az k6]at hg;by_cases k7:f.kind=7
 ·rw[aF k7]at hg;simp only[aV,aZ,ct]at hg;rcases hg with rfl|rfl
  ·exact N (vp h (two0 fv ae))
  ·exact C (vp h (two1 fv ae))
 rw[az k7]at hg;by_cases k8:f.kind=8
 ·rw[aF k8]at hg;exact absurd hg aZ
 rw[az k8]at hg;by_cases k9:f.kind=9
 ·rw[aF k9]at hg;exact absurd hg aZ
 rw[az k9]at hg;by_cases k4:f.kind=4;rotate_left
 ·rw[az k4]at hg;exact absurd hg aZ
 rw[aF k4]at hg;have hs:=one fv (.inl k4);have gv:vok (dv f):=(h.o.sub hs).b.v;by_cases j4:(dv f).kind=4
 ·rw[aF j4]at hg;simp only[aV,aZ,ct]at hg;rw[hg];exact C (tA h hs (one gv (.inl j4)))
 rw[az j4]at hg;by_cases j5:(dv f).kind=5
 ·rw[aF j5]at hg;simp only[aV,aZ,ct]at hg;rcases hg with rfl|rfl
  ·exact N (tA h hs (two0 gv ae))
  ·exact N (tA h hs (two1 gv ae))
 rw[az j5]at hg;by_cases j6:(dv f).kind=6
 ·rw[aF j6]at hg;simp only[aV,aZ,ct]at hg;rcases hg with rfl|rfl
  ·exact N (tA h hs (two0 gv ae))
  ·exact N (tA h hs (two1 gv ae))
 rw[az j6]at hg;by_cases j7:(dv f).kind=7
 ·rw[aF j7]at hg;simp only[aV,aZ,ct]at hg;rcases hg with rfl|rfl
  ·exact C (tA h hs (two0 gv ae))
  ·exact N (tA h hs (two1 gv ae))
 rw[az j7]at hg;by_cases j8:(dv f).kind=8
 ·rw[aF j8]at hg;exact absurd hg aZ
 rw[az j8]at hg;by_cases j9:(dv f).kind=9
 ·rw[aF j9]at hg;exact absurd hg aZ
 rw[az j9]at hg;exact absurd hg aZ
theorem zg {f:aH}{nm:Str}(h:BF f)(hs:(bY f).1=3∨(bY f).1=4)(hn:dI nm=true):BF (gP (bY f).2.2.1 (bY f).2.2.2 nm):=by
 have hq:=Qk h.o.b hs;have key:∀{q:aH},BF0 q→(q.kind=8∨q.kind=9)→BF (lx q nm):=fun{q} hq0 hk=>by have hl:=(fU.1 hq0.b.v).2.2.2.2.1 (.inr hk);have hm:dv q∈q.subs:=uJ (f:=q) (i:=0) ae;exact(hq0.sub hm).can ak fun b hb=>by rw[a7.1 hb];exact hn
 by_cases k4:f.kind=4
 ·have hl:=(fU.1 h.o.b.v).2.2.2.2.1 (.inl k4);have hm:dv f∈f.subs:=uJ (f:=f) (i:=0) ae;have hqk:(dv f).kind=8∨(dv f).kind=9:=ae
  have e:gP (bY f).2.2.1 (bY f).2.2.2 nm=ngg (lx (dv f) nm):=by unfold bY;rcases hqk with j|j<;>(rw[k4,j];rfl)
  have hb:=key (h.o.sub hm) hqk;rw[e];refine hb.o.ng ?_;have h2:=(fU.1 (h.o.sub hm).b.v).2.2.2.2.1 (.inr hqk);have hm2:dv (dv f)∈(dv f).subs:=uJ (f:=dv f) (i:=0) ae;have:=aH.size_sub hm;have:=aH.size_sub hm2;have:=h.o.b.s;unfold lx;rw[uw];omega
 ·have hqk:f.kind=8∨f.kind=9:=ae
  have e:gP (bY f).2.2.1 (bY f).2.2.2 nm=lx f nm:=by unfold bY;rcases hqk with j|j<;>(rw[j];rfl)
  rw[e];exact key h.o hqk
def oZ (l:List aH):Prop:=∀f∈l,BF f
theorem OO {f:aH}{w:Str}(h:BF f)(hw:w∈eR f):dI w=true:=JL f [] w h.o.aw ((og f w).1 hw)
theorem KU {l:List aH}{w:Str}:w∈e7 l↔∃f∈l,w∈eR f:=by
 unfold e7;constructor
 ·intro h;obtain⟨x,hx,rfl⟩:=be.1 h;have h2:=(ry _).mem_iff.1 ((uL _ _).1 hx);obtain⟨y,hy,rfl⟩:=be.1 h2;exact ff.1 hy
 ·rintro⟨f,hf,hw⟩;refine be.2 ⟨w.l,(uL _ _).2 ((ry _).mem_iff.2 (be.2 ⟨w,ff.2 ⟨f,hf,hw⟩,rfl⟩)),rfl⟩
theorem Iv {l:List aH}(h:oZ l){w:Str}(hw:w∈oN l):dI w=true:=by
 unfold oN at hw;split at hw
 ·rw[a7.1 hw];decide
 ·obtain⟨f,hf,h2⟩:=KU.1 hw;exact OO (h f hf) h2
theorem YY {l:List aH}{w:Str}(h:w∉e7 l):r8 l w=false:=by unfold r8;rw[List.any_eq_false];intro f hf h2;exact h (KU.2 ⟨f,hf,qQ4⟩)
theorem tK {l:List aH}{i:Nat}(h:i<l.length):inL l i=true:=by unfold inL;simp[h]
theorem tD {l:List aH}{i:Nat}(h:i<l.length):atL l i=l[i]:=by unfold atL;rw[bo,av,ay h];rfl
theorem IE {p:aH→Bool}:∀{l:List aH} {k n:Nat},pD p l k=some n→∃j,∃h:j<l.length,n=k+j∧p l[j]=true
 |[],k,n,h=>by rw[pD]at h;cases h
 |x::l,k,n,h=>by
  rw[pD]at h;by_cases hp:p x=true
  ·rw[aF hp]at h;cases h;exact⟨0,ak,rfl,hp⟩
  ·rw[az hp]at h;obtain⟨j,hj,e,h2⟩:=IE h;exact⟨j+1,qWg,ae,qQ4⟩
theorem HZ {c:List cX}{l:List aH}{p:Prf}:∀{fs:List aH} {k:Nat},pp c l fs k=some p→∃j,∃h:j<fs.length,nt c l fs[j] (k+j)=some p
 |[],k,h=>by rw[pp]at h;cases h
 |f::fs,k,h=>by
  rw[pp]at h;cases hc:nt c l f k with
  |some q=>rw[hc]at h;exact⟨0,ak,by simpa using hc.trans h⟩
  |none=>rw[hc]at h;obtain⟨j,hj,h2⟩:=HZ h;exact⟨j+1,qWg,by simp only[jm];rw[←h2];congr 1;omega⟩
theorem X0 {l:List aH}{p:Prf}(h:nP l=some p):dC p l=true∧p.size=1:=by
 unfold nP at h;obtain⟨i,hi,h2⟩:=HZ h;rw[bE]at h2;unfold nt at h2;by_cases hc:jP (ii l) l[i]=true
 ·rw[aF hc]at h2;cases h2;refine⟨?_,rfl⟩;rw[ov];unfold lf;simp only[uZ,uY,uN,u',tK hi,tD hi,hc];simp
 ·rw[az hc]at h2;split at h2
  ·rename_i hk;obtain⟨n,hn,rfl⟩:=bN.1 h2;obtain⟨j,hj,e,ha⟩:=IE hn;rw[bE]at e;subst e;refine⟨?_,rfl⟩;have ha2:=ha;unfold iF at ha2;simp only[aS,bi]at ha2;have hne:¬((i:Int)=(n:Int)):=fun e=>by
    have e2:i=n:=ae
    subst e2;have:=ha2.1.1.1;omega
   rw[ov];unfold lf;simp only[uZ,uY,uN,u',tK hj,tK hi,tD hj,tD hi];unfold sK;rw[ha,ba hk.1];simp[hne]
  ·cases h2
theorem IZ {want:Int}:∀{l:List aH} {u:List Bool} {k i:Nat},ik want l u k=some i→∃j,∃h:j<l.length,i=k+j∧(bY l[j]).1=want
 |[],u,k,i,h=>by rw[ik]at h;cases h
 |_::_,[],k,i,h=>by rw[ik]at h;cases h
 |f::fs,u::us,k,i,h=>by
  rw[ik]at h;by_cases hc:u=false∧(bY f).1=want
  ·rw[aF hc]at h;cases h;exact⟨0,ak,rfl,hc.2⟩
  ·rw[az hc]at h;obtain⟨j,hj,e,h2⟩:=IZ h;exact⟨j+1,qWg,ae,qQ4⟩
theorem IW {rec:Brn→Int→Res}{b:Brn}{a:Int}{K:Res}:∀{ws:List Int},(∃w∈ws,∃i,ik w b.list b.used 0=some i∧kY rec b a K ws=jr rec b a i (b.list.getD i fQ))∨kY rec b a K ws=K
 |[]=> .inr rfl
 |w::ws=>by
  rw[kY];cases h:ik w b.list b.used 0 with
  |some i=>exact .inl ⟨w,ak,i,h,rfl⟩
  |none=>
   rcases IW (rec:=rec) (b:=b) (a:=a) (K:=K) (ws:=ws)with⟨w2,hw,i,h1,h2⟩|h1
   ·exact .inl ⟨w2,cg _ hw,i,h1,h2⟩
   ·exact .inr h1
theorem Ay {k f o:Int}{n:Str}{p:Prf}:(Prf.mk k f o n [p]).size=p.size+1:=by rw[Prf.size,Prf.sizes,Prf.sizes]
theorem TM {k f o:Int}{n:Str}{p q:Prf}:(Prf.mk k f o n [p,q]).size=p.size+q.size+1:=by rw[Prf.size,Prf.sizes,Prf.sizes,Prf.sizes];rfl
theorem UA {l:List aH}{i:Nat}{p:Prf}(h:i<l.length)(hk:(bY l[i]).1=1)(hp:dC p (l++(bY l[i]).2.1)=true):dC (.mk 2 i 0 ⟨[]⟩ [p]) l=true:=by rw[ov];unfold lf;simp only[uZ,uY,uN,u',tK h,tD h,hk];simp[hp]
theorem UB {l:List aH}{i:Nat}{p q:Prf}{x y:aH}(h:i<l.length)(hk:(bY l[i]).1=2)(ho:(bY l[i]).2.1=[x,y])(hp:dC p (l++[x])=true)(hq:dC q (l++[y])=true):dC (.mk 3 i 0 ⟨[]⟩ [p,q]) l=true:=by rw[ov];unfold lf;simp only[uZ,uY,uN,u',tK h,tD h,hk,ho];simp[hp,hq]
theorem UC {l:List aH}{i:Nat}{p:Prf}{w:Str}(h:i<l.length)(hk:(bY l[i]).1=3)(hw:dI w=true)(hp:dC p (l++[gP (bY l[i]).2.2.1 (bY l[i]).2.2.2 w])=true):dC (.mk 4 i 0 w [p]) l=true:=by rw[ov];unfold lf;simp only[uZ,uY,uN,M1,u',tK h,tD h,hk,hw];simp[hp]
theorem UD {l:List aH}{i:Nat}{p:Prf}{w:Str}(h:i<l.length)(hk:(bY l[i]).1=4)(hw:dI w=true)(ho:r8 l w=false)(hp:dC p (l++[gP (bY l[i]).2.2.1 (bY l[i]).2.2.2 w])=true):dC (.mk 5 i 0 w [p]) l=true:=by rw[ov];unfold lf;simp only[uZ,uY,uN,M1,u',tK h,tD h,hk,hw,ho];simp[hp]
structure p5 (uses:Int)(s0 s:GS):Prop where
 ok:ix uses s.c s.added
 bf:oZ s.c.list
 ex:∃e,s.c.list=s0.c.list++e
 st:∃T:List Prf,s.steps=s0.steps++T∧s.added=s0.added+T.length∧(∀p,dC p s.c.list=true→dC (pH T p) s0.c.list=true)∧∀p:Prf,(pH T p).size=T.length+p.size
theorem p5.refl {uses:Int}{s:GS}(h:ix uses s.c s.added)(h2:oZ s.c.list):p5 uses s s:=
 ⟨h,h2,⟨[],ak⟩,⟨[],ak,ak,fun p hp=>hp,fun p=>by simp[pH]⟩⟩
theorem My {A B:List Prf}{p:Prf}:pH (A++B) p=pH A (pH B p):=by unfold pH;rw[List.foldr_append]
theorem p5.trans {uses:Int}{s0 s1 s2:GS}(h:p5 uses s0 s1)(h2:p5 uses s1 s2):p5 uses s0 s2:=by
 obtain⟨e1,he1⟩:=h.ex;obtain⟨e2,he2⟩:=h2.ex;obtain⟨T1,a1,a2,a3,a4⟩:=h.st;obtain⟨T2,b1,b2,b3,b4⟩:=h2.st;refine⟨h2.ok,h2.bf,⟨e1++e2,by rw[he2,he1,bu]⟩,⟨T1++T2,by rw[b1,a1,bu],by rw[b2,a2,aD];omega,fun p hp=>?_,fun p=>?_⟩⟩
 ·rw[My];exact a3 _ (b3 _ hp)
 ·rw[My,a4,b4,aD];omega
theorem Cz {uses:Int}{q:aH}{t:Bool}{i:Nat}{f:aH}(hq:q=(bY f).2.2.1)(ht:t=(bY f).2.2.2)(hk:(bY f).1=3):∀(ws:List Str) (s s':GS),(∀w∈ws,dI w=true)→ix uses s.c s.added→oZ s.c.list→
  (h:i<s.c.list.length)→s.c.list[i]=f→jt q t i ws s= .go s'→p5 uses s s'
 |[],s,s',_,h1,h2,_,_,h=>by rw[jt]at h;cases h;exact p5.refl h1 h2
 |w::ws,s,s',hw,h1,h2,hi,hf,h=>by
  rw[jt]at h;by_cases hin:w∈s.c.seen.getD i []
  ·rw[aF hin]at h;exact Cz hq ht hk ws s s' (fun x hx=>hw x (cg _ hx)) h1 h2 hi hf h
  ·rw[az hin]at h;by_cases hfu:300<s.added+1
   ·rw[aF hfu]at h;cases h
   ·rw[az hfu]at h;have hwn:=hw w ak;have hbf:BF f:=by rw[←hf];exact h2 _ (aT hi)
    have hI:BF (gP q t w):=by rw[hq,ht];exact zg hbf (.inl hk) hwn
    have hsl:i<s.c.seen.length:=by rw[h1.sl];exact hi
    have hok:=h1.saw (i:=i) (w:=w) hsl hI.o.b ae;have hl1:(eo (saw s.c i w) [gP q t w]).list=s.c.list++[gP q t w]:=rfl;have hbf1:oZ (eo (saw s.c i w) [gP q t w]).list:=fun x hx=>by
     rw[hl1]at hx;rcases aO.1 hx with h3|h3
     ·exact h2 x h3
     ·rw[a7.1 h3];exact hI
    have hi1:i<(eo (saw s.c i w) [gP q t w]).list.length:=by rw[hl1,aD];omega
    have hf1:(eo (saw s.c i w) [gP q t w]).list[i]=f:=by have:(eo (saw s.c i w) [gP q t w]).list[i]=(s.c.list++[gP q t w])[i]' qQz:=rfl;rw[this,c5 hi];exact hf
    have ih:=Cz hq ht hk ws ⟨eo (saw s.c i w) [gP q t w],s.steps++[.mk 4 i 0 w []],s.added+1⟩ s' (fun x hx=>hw x (cg _ hx)) hok hbf1 hi1 hf1 h;refine p5.trans ⟨hok,hbf1,⟨[gP q t w],rfl⟩,⟨[.mk 4 i 0 w []],rfl,rfl,fun p hp=>?_,fun p=>?_⟩⟩ ih
    ·exact UC hi (by rw[hf];exact hk) hwn (by rw[hf,←hq,←ht];exact hp)
    ·show(Prf.mk 4 i 0 w [p]).size=_;rw[Ay];simp;omega
theorem Cy {uses:Int}{ws:List Str}(hw:∀w∈ws,dI w=true):∀(l:List aH) (i:Nat) (s s':GS),ix uses s.c s.added→oZ s.c.list→(∃e,s.c.list.drop i=l++e)→iQ ws l i s= .go s'→p5 uses s s'
 |[],i,s,s',h1,h2,_,h=>by rw[iQ]at h;cases h;exact p5.refl h1 h2
 |f::fs,i,s,s',h1,h2,⟨e,he⟩,h=>by
  have hi:i<s.c.list.length:=by
   rcases aA i s.c.list.length with h3|h3
   ·exact h3
   ·rw[cL h3]at he;simp at he
  rw[aR hi,a6]at he;obtain⟨hf,he⟩:=fx he;rw[iQ]at h;by_cases hk:(bY f).1=3
  ·rw[aF hk]at h;cases hg:jt (bY f).2.2.1 (bY f).2.2.2 i ws s with
   |lim a=>rw[hg]at h;cases h
   |go s1=>rw[hg]at h;have h3:=Cz rfl rfl hk ws s s1 hw h1 h2 hi hf hg;obtain⟨e1,he1⟩:=h3.ex;have h4:=Cy hw fs (i+1) s1 s' h3.ok h3.bf ⟨e++e1,by rw[he1,List.drop_append_of_le_length ae,he,bu]⟩ h;exact h3.trans h4
  ·rw[az hk]at h;exact Cy hw fs (i+1) s s' h1 h2 ⟨e,he⟩ h
theorem Jw {l:List aH}(h:∀f∈l,brF f)(hl:l.length≤1000):(e7 l).length<10^20:=by
 have h1:∀l:List aH,(∀f∈l,brF f)→(l.flatMap eR).length≤l.length*1000000:=by
  intro l;induction l with
  |nil=>intro _;simp
  |cons x l ih=>
   intro h;rw[cU,aD,aN,Nat.succ_mul];have h2:=ih fun f hf=>h f (by simp[hf]);have hx:=h x ak;have h3:=rM x [] hx.ft;have h4:=hx.s;have h5:(eR x).length≤(cst x []).length:=by unfold eR;rw[aG];refine bz (sq _) ?_;rw[uP,aG];exact aI _
   omega
 have h2:=h1 l h;have h3:(e7 l).length≤(l.flatMap eR).length:=by unfold e7;rw[aG];refine bz (sq _) ?_;rw[uP,aG];exact aI _
 have h4:l.length*1000000≤1000*1000000:=bW _ hl;omega
def Ol (rec:Brn→Int→Res)(b:Brn)(a:Int):Prop:=(rec b a).ok=true→dC (rec b a).p b.list=true∧((rec b a).p.size:Int)≤2*((rec b a).added-a)+1
theorem Zs {uses:Int}{rec:Brn→Int→Res}(ih:∀b a,ix uses b a→oZ b.list→Ol rec b a)(had:∀b a,a≤300→qL a (rec b a)){b:Brn}{a:Int}(hok:ix uses b a)(hbf:oZ b.list){w:Int}(hw:w=1∨w=4∨w=2){i:Nat}(hi:i<b.list.length)(hk:(bY b.list[i]).1=w)
  (hv:(jr rec b a i b.list[i]).ok=true):dC (jr rec b a i b.list[i]).p b.list=true∧((jr rec b a i b.list[i]).p.size:Int)≤2*((jr rec b a i b.list[i]).added-a)+1:=by
 obtain⟨f,hf⟩:∃f,b.list[i]=f:=⟨_,rfl⟩;have hfB:BF f:=by rw[←hf];exact hbf _ (aT hi)
 have hpB:=yN hfB;have hab:∀xs:List aH,(∀x∈xs,BF x)→oZ (eo (il b i) xs).list:=fun xs hx y hy=>by
  rcases aO.1 hy with h|h
  ·exact hbf y h
  ·exact hx y h
 have hok2:∀(xs:List aH) (a1 a2:Int),(∀x∈xs,BF x)→a≤a1→a2=a1+xs.length→a2≤300→ix uses (eo (il b i) xs) a2:=fun xs a1 a2 hx h1 h2 h3=>
  ((hok.mark i).mono h1 ae).add (fun y hy=>(hx y hy).o.b) h2 h3
 rw[hf]at hk hv ⊢;unfold jr at hv ⊢;rcases hw with rfl|rfl|rfl
 ·rw[aF hk]at hv;rw[aF hk];have hpos:=Ca hk;by_cases hfu:300<a+(bY f).2.1.length
  ·rw[aF hfu]at hv;cases hv
  ·rw[az hfu]at hv;rw[az hfu];obtain⟨c1,c2⟩:=ih _ _ (hok2 _ a _ hpB ae rfl ae) (hab _ hpB) hv;refine⟨UA hi (by rw[hf];exact hk) (by rw[hf];exact c1),?_⟩;show(((Prf.mk 2 i 0 ⟨[]⟩ [_]).size:Nat):Int)≤2*((rec _ _).added-a)+1;rw[Ay];omega
 ·rw[az ae,aF hk]at hv;rw[az ae,aF hk];by_cases hfu:300<a+1
  ·rw[aF hfu]at hv;cases hv
  ·rw[az hfu]at hv;rw[az hfu];obtain⟨f1,f2,f3⟩:=BE (e7 b.list);have hll:=hok.ll;have ha1:=hok.a1;have hnl:=Jw (fun y hy=>(hbf y hy).o.b) (show b.list.length≤1000 by omega);have hnm:dI (oS (e7 b.list))=true:=BN (Nat.lt_of_le_of_lt f1 hnl);have hoc:r8 b.list (oS (e7 b.list))=false:=YY f2;have hI:BF (gP (bY f).2.2.1 (bY f).2.2.2 (oS (e7 b.list))):=zg hfB (.inr hk) hnm;have hx1:∀x∈[gP (bY f).2.2.1 (bY f).2.2.2 (oS (e7 b.list))],BF x:=fun x hx=>by rw[a7.1 hx];exact hI
   obtain⟨c1,c2⟩:=ih _ (a+1) (hok2 _ a (a+1) hx1 ae rfl ae) (hab _ hx1) hv;refine⟨UD hi (by rw[hf];exact hk) hnm hoc (by rw[hf];exact c1),?_⟩;show(((Prf.mk 5 i 0 _ [_]).size:Nat):Int)≤2*((rec _ _).added-a)+1;rw[Ay]
   push_cast
   omega
 ·rw[az ae,az ae]at hv;rw[az ae,az ae];obtain⟨_,q2,_,_⟩:=pV hfB.o.b;have hl2:=q2 hk;obtain⟨x,y,hxy⟩:∃x y,(bY f).2.1=[x,y]:=by
   match h:(bY f).2.1,hl2 with
   |[x,y],_=>exact⟨x,y,rfl⟩
  rw[hxy]at hv hpB ⊢;have hx1:∀z∈[x],BF z:=fun z hz=>hpB z (by rw[a7.1 hz];simp);have hy1:∀z∈[y],BF z:=fun z hz=>hpB z (by rw[a7.1 hz];simp);rw[kH]at hv ⊢;by_cases g1:300<a+1
  ·rw[aF g1]at hv;cases hv
  rw[az g1]at hv ⊢;by_cases g2:(rec (eo (il b i) [x]) (a+1)).ok=false
  ·rw[aF g2]at hv;cases hv
  rw[az g2]at hv ⊢;have k1:=ih _ _ (hok2 [x] a (a+1) hx1 ae rfl ae) (hab _ hx1) (by simpa using g2);have d1:=had (eo (il b i) [x]) (a+1) ae;have d2:=d1.2 (by simpa using g2);have d3:=d1.1;obtain⟨r1,hr1⟩:∃r,rec (eo (il b i) [x]) (a+1)=r:=⟨_,rfl⟩;rw[hr1]at hv k1 d2 d3 ⊢;rw[kH]at hv ⊢;by_cases g3:300<r1.added+1
  ·rw[aF g3]at hv;cases hv
  rw[az g3]at hv ⊢;by_cases g4:(rec (eo (il b i) [y]) (r1.added+1)).ok=false
  ·rw[aF g4]at hv;cases hv
  rw[az g4]at hv ⊢;have k2:=ih _ _ (hok2 [y] r1.added (r1.added+1) hy1 ae rfl ae) (hab _ hy1) (by simpa using g4);obtain⟨r2,hr2⟩:∃r,rec (eo (il b i) [y]) (r1.added+1)=r:=⟨_,rfl⟩;rw[hr2]at hv k2 ⊢;rw[kH];refine⟨UB hi (by rw[hf];exact hk) (by rw[hf];exact hxy) k1.1 k2.1,?_⟩;have e1:=k1.2;have e2:=k2.2;show(((Prf.mk 3 i 0 ⟨[]⟩ [r1.p,r2.p]).size:Nat):Int)≤2*(r2.added-a)+1;rw[TM]
  push_cast
  omega
theorem Ot {uses:Int}:∀(n:Nat) (b:Brn) (a:Int),ix uses b a→oZ b.list→Ol (gQ uses n) b a
 |0,b,a,_,_=>fun h=>by cases h
 |n+1,b,a,hok,hbf=>fun hv=>by
  have ih:=Ot (uses:=uses) n;rw[gQ]at hv ⊢;unfold oD at hv ⊢;cases hM:nP b.list with
  |some p=>obtain⟨c1,c2⟩:=X0 hM;exact⟨c1,by simp only;rw[c2];omega⟩
  |none=>
   rw[hM]at hv;simp only at hv ⊢;rcases IW (rec:=gQ uses n) (b:=b) (a:=a) (K:=nQ (gQ uses n) uses b a) (ws:=[1,4,2])with⟨w,hw,i,hp,he⟩|he
   ·rw[he]at hv ⊢;obtain⟨j,hj,e,hk⟩:=IZ hp;rw[bE]at e;subst e;have hg:b.list.getD i fQ=b.list[i]:=by rw[av,ay hj];rfl
    rw[hg]at hv ⊢;exact Zs ih (fun b a h=>wJ n b a h) hok hbf (by simpa using hw) hj hk hv
   ·rw[he]at hv ⊢;unfold nQ at hv ⊢;by_cases hr:b.rounds=uses
    ·rw[aF hr]at hv;cases hv
    rw[az hr]at hv ⊢;cases hG:iQ (oN b.list) b.list 0 ⟨⟨b.list,b.used,b.seen,b.rounds+1⟩,[],a⟩with
    |lim a'=>rw[hG]at hv;cases hv
    |go s=>
     rw[hG]at hv;have hr1:=hok.r1;have hr0:=hok.r0;have hok0:ix uses ⟨b.list,b.used,b.seen,b.rounds+1⟩ a:=⟨hok.br,hok.ll,hok.ul,hok.sl,hok.ss,af,af,hok.u,hok.a0,hok.a1⟩;have hgo:=Cy (uses:=uses) (fun w hw=>Iv hbf hw) b.list 0 ⟨⟨b.list,b.used,b.seen,b.rounds+1⟩,[],a⟩ s hok0 hbf ⟨[],ak⟩ hG;obtain⟨T,t1,t2,t3,t4⟩:=hgo.st;simp only[aK]at t1;unfold mF at hv ⊢;simp only at hv ⊢;by_cases h0:s.steps=[]
     ·rw[aF h0]at hv;cases hv
     rw[az h0]at hv ⊢;obtain⟨c1,c2⟩:=ih s.c s.added hgo.ok hgo.bf hv;simp only;rw[t1];refine⟨t3 _ c1,?_⟩;rw[t4];simp only at t2
     push_cast
     omega
mutual
theorem Rc:∀(f:aH) (bd bd':List Str) (x:Str),x∈cst f bd→x∉bd'→x∈cst f bd'
 | .mk k nm ws s,bd,bd',x,h,hx=>by
  rw[cst]at h ⊢;rcases aO.1 h with h|h
  ·exact cx _ (cD.2 ⟨(cD.1 h).1,by simpa using hx⟩)
  ·refine cP _ (LZ s _ _ x h ?_);split
   ·rename_i hq;rw[aF hq]at h;have h2:=yw s _ x h;simp only[aO,not_or]at h2 ⊢;exact⟨hx,h2.2⟩
   ·exact hx
theorem LZ:∀(fs:List aH) (bd bd':List Str) (x:Str),x∈ef fs bd→x∉bd'→x∈ef fs bd'
 |[],bd,bd',x,h,hx=>by rw[ef]at h;cases h
 |f::fs,bd,bd',x,h,hx=>by
  rw[ef]at h ⊢;rcases aO.1 h with h|h
  ·exact cx _ (Rc f _ _ x h hx)
  ·exact cP _ (LZ fs _ _ x h hx)
end
section
variable {m:dd} {ev ev':List dT}
end
structure Pd where
 name:Str
 arity:Int
 deriving DecidableEq
instance:Inhabited Pd:=⟨⟨⟨[]⟩,0⟩⟩
instance:Enc Pd:=⟨fun c=> .agg [.s c.name.l,.i .i64 c.arity],fun x=>match x with| .agg [.s a,.i _ n]=>⟨⟨a⟩,n⟩|_=>default,ak⟩
@[go_sem] theorem xt {c:Pd}:enc c= .agg [.s c.name.l,.i .i64 c.arity]:=rfl
instance:Kc Pd 2:=⟨fun _=>rfl⟩
def ltP (a b:Pd):Prop:=a.name.l<b.name.l∨(a.name=b.name∧a.arity<b.arity)
instance (a b:Pd):Decidable (ltP a b):=by unfold ltP;exact inferInstance
theorem Bx {a:Pd}:¬ltP a a:=fun h=>by
 rcases h with h|⟨_,h⟩
 all_goals grind
theorem y6 {a b c:Pd}(h:ltP a b)(h2:ltP b c):ltP a c:=by
 rcases h with h|⟨e,h⟩<;>rcases h2 with h2|⟨e2,h2⟩
 ·exact .inl (JK h h2)
 ·exact .inl (e2▸h)
 ·exact .inl (e▸h2)
 ·exact .inr ap
theorem DQ {a b:Pd}(h:¬ltP a b)(h2:a≠b):ltP b a:=by
 by_cases hn:a.name=b.name
 ·refine .inr ⟨hn.symm,?_⟩;have h3:¬a.arity<b.arity:=fun h3=>h (.inr ⟨hn,h3⟩);have h4:a.arity≠b.arity:=fun e=>h2 (by cases a;simp_all);omega
 ·exact .inl (QC (fun h3=>h (.inl h3)) (EV hn))
def q' (l:List Pd):Prop:=l.Pairwise ltP
theorem MD:∀{a b:List Pd},q' a→q' b→(∀x,x∈a↔x∈b)→a=b
 |[],[],_,_,_=>rfl
 |[],y::b,_,_,h=>absurd ((h y).2 ak) ak
 |x::a,[],_,_,h=>absurd ((h x).1 ak) ak
 |x::a,y::b,ha,hb,h=>by
  have ha':=dz.1 ha;have hb':=dz.1 hb;have e:x=y:=by
   refine ee fun hne=>?_;have h1:x∈b:=by
    rcases aV.1 ((h x).1 ak)with h1|h1
    ·grind
    ·exact h1
   have h2:y∈a:=by
    rcases aV.1 ((h y).2 ak)with h2|h2
    ·grind
    ·exact h2
   exact (by grind[Bx,y6])
  subst e;rw[MD ha'.2 hb'.2 fun z=>?_];grind[Bx]
mutual
def pds:aH→List Pd
 | .mk k nm ws s=>(if k=2 then[⟨nm,(ws.length:Int)⟩]else[])++fL s
def fL:List aH→List Pd
 |[]=>[]
 |f::fs=>pds f++fL fs
end
theorem zl {x:Pd}:∀{l:List aH},x∈fL l↔∃f∈l,x∈pds f
 |[]=>by simp[fL]
 |f::fs=>by grind[fL,zl (l:=fs)]
def lF:List Pd→Pd→List Pd
 |[],p=>[p]
 |x::l,p=>if ltP x p then x::lF l p else if x=p then x::l else p::x::l
theorem C9 {x p:Pd}:∀{l:List Pd},x∈lF l p↔x∈l∨x=p
 |[]=>by simp[lF]
 |y::l=>by
  rw[lF];split
  ·rw[aV,C9 (l:=l),aV,je]
  grind
theorem LI {p:Pd}:∀{l:List Pd},q' l→q' (lF l p)
 |[],_=>by simp[lF,q']
 |y::l,h=>by
  have h':=dz.1 h;rw[lF];split
  ·rename_i hy;refine dz.2 ⟨fun z hz=>?_,LI h'.2⟩;grind[C9]
  ·split
   ·exact h
   ·rename_i h1 h2;have h3:=DQ h1 h2;refine dz.2 ⟨fun z hz=>?_,h⟩;grind[y6]
def jX (l:List Pd)(ps:List Pd):List Pd:=ps.foldl lF l
def iz (fs:List aH):List Pd:=jX [] (fL fs)
theorem M7:∀(ps l:List Pd),q' l→q' (jX l ps)
 |[],_,h=>h
 |p::ps,l,h=>M7 ps (lF l p) (LI h)
theorem M6 {x:Pd}:∀(ps l:List Pd),x∈jX l ps↔x∈l∨x∈ps
 |[],l=>by simp[jX]
 |p::ps,l=>by show x∈jX (lF l p) ps↔_;rw[M6 ps (lF l p),C9,aV,je]
theorem M8 (fs:List aH):q' (iz fs):=M7 _ _ List.Pairwise.nil
theorem CZ {fs:List aH}{x:Pd}:x∈iz fs↔∃f∈fs,x∈pds f:=by simp_all[iz,M6,zl]
def pn (l:List Pd)(p:Pd):List Pd:=if p∈l then l else l++[p]
def lA (l:List Pd)(ps:List Pd):List Pd:=ps.foldl pn l
theorem XQ {l:List Pd}{p x:Pd}:x∈pn l p↔x∈l∨x=p:=by grind[pn]
theorem Wa {l:List Pd}{p:Pd}(h:l.Pairwise (· ≠·)):(pn l p).Pairwise (· ≠·):=by grind[pn]
theorem Cn {x:Pd}:∀(ps l:List Pd),x∈lA l ps↔x∈l∨x∈ps
 |[],l=>by simp[lA]
 |p::ps,l=>by show x∈lA (pn l p) ps↔_;rw[Cn ps,XQ,aV,je]
theorem ID:∀(ps l:List Pd),l.Pairwise (· ≠·)→(lA l ps).Pairwise (· ≠·)
 |[],_,h=>h
 |_::ps,_,h=>ID ps _ (Wa h)
theorem yR:∀(ps l:List Pd),(lA l ps).length≤l.length+ps.length
 |[],l=>by simp[lA]
 |p::ps,l=>by grind[lA,pn,yR ps (pn l p)]
theorem X9 {fs:List aH}{U S:List Pd}(hU:∀x,x∈U↔∃f∈fs,x∈pds f)(hn:U.Pairwise (· ≠·))(hp:S.Perm U)(hs:S.Pairwise fun a b=>¬ltP b a):S=iz fs:=by
 refine MD ?_ (M8 fs) fun x=>?_
 ·have hn2:S.Pairwise (· ≠·):=(hp.pairwise_iff ap).2 hn;refine List.Pairwise.imp₂ (fun a b h1 h2=>?_) hs hn2;exact ee (by grind[DQ])
 grind[CZ]
theorem LS:∀(a x y:List Int),gW (a++x) (a++y)=gW x y
 |[],_,_=>rfl
 |h::a,x,y=>by grind[gW,wY,LS a x y]
theorem LR:∀{a b:List Int} (x y:List Int),a.length=b.length→gW a b<0→gW (a++x) (b++y)<0
 |[],[],_,_,_,h=>by simp[gW]at h
 |[],_::_,_,_,hl,_=>by simp at hl
 |_::_,[],_,_,hl,_=>by simp at hl
 |p::a,q::b,x,y,hl,h=>by
  rw[a6,a6,gW];rw[gW]at h;split
  ·rename_i hc;rw[aF hc]at h;exact h
  ·rename_i hc;rw[az hc]at h;exact LR x y (by simpa using hl) h
theorem Nf {s:Nat}(hs:0<s):∀(k i j:Nat),i<j→j<s^k→gW (fc s k i) (fc s k j)<0
 |0,i,j,h,hj=>ap
 |k+1,i,j,h,hj=>by
  rw[fc,fc];by_cases hq:i / s=j / s
  ·rw[hq,LS,gW,aF]
   ·rw[LQ];have h1:=du i s;have h2:=du j s;grind
   ·intro e;rw[wY]at e;have h1:=du i s;have h2:=du j s;grind
  ·have h3:i / s<j / s:=Nat.lt_of_le_of_ne (Nat.div_le_div_right ae) hq;refine LR _ _ (by rw[mR,mR]) (Nf hs k _ _ h3 ?_);simp_all[cF,e9,df]
def p3:List Nat→Nat
 |[]=>1
 |t::ts=>t*p3 ts
theorem K8:∀(a b:List Nat),p3 (a++b)=p3 a*p3 b
 |[],b=>by simp[p3]
 |x::a,b=>by grind[p3,K8 a b]
theorem Cv (s:Nat):∀c,p3 (List.replicate c s)=s^c
 |0=>rfl
 |c+1=>by grind[p3,Cv s c]
def nY:Nat→List Nat→Option Nat
 |n,[]=>some n
 |n,t::ts=>if 8192<n*t then none else nY (n*t) ts
theorem KA:∀{ts:List Nat} {n r:Nat},(∀t∈ts,1≤t)→n≤8192→nY n ts=some r→r=n*p3 ts∧r≤8192
 |[],n,r,_,hn,h=>by simp only[nY,aL]at h;subst h;exact⟨by simp[p3],hn⟩
 |t::ts,n,r,h1,hn,h=>by
  rw[nY]at h;split at h
  ·cases h
  ·rename_i h2;obtain⟨h3,h4⟩:=KA (fun x hx=>h1 x (by simp[hx])) ae h;exact⟨by rw[h3,p3,Nat.mul_assoc],h4⟩
def o9 (size:Nat)(p:Pd):Nat:=size^p.arity.toNat
def gM (size:Nat):List Pd→Nat
 |[]=>0
 |p::ps=>o9 size p+gM size ps
def r6 (size:Nat):List Pd→List Nat
 |[]=>[]
 |p::ps=>List.replicate (o9 size p) 2++r6 size ps
def vW (size c:Nat)(ps:List Pd):List Nat:=List.replicate c size++r6 size ps
theorem yQ (size:Nat):∀ps:List Pd,r6 size ps=List.replicate (gM size ps) 2
 |[]=>rfl
 |p::ps=>by rw[r6,gM,yQ size ps,List.replicate_append_replicate]
theorem P5 {size:Nat}(h:1≤size)(p:Pd):1≤o9 size p:=Nat.pow_pos ae
theorem KB {size:Nat}(h:1≤size):∀ps:List Pd,ps.length≤gM size ps
 |[]=>aI _
 |p::ps=>by grind[P5,gM,KB h ps]
theorem PX {size c:Nat}{ps:List Pd}(h:1≤size):∀t∈vW size c ps,1≤t:=by grind[vW,yQ]
def vE (size c:Nat)(ps:List Pd):Option Nat:=nY 1 (vW size c ps)
theorem yC {size c:Nat}{ps:List Pd}{r:Nat}(h:1≤size)(hr:vE size c ps=some r):r=size^c*2^gM size ps∧r≤8192∧gM size ps≤13:=by
 obtain⟨h1,h2⟩:=KA (PX h) ae hr;unfold vW at h1;rw[yQ,K8,Cv,Cv,jZ]at h1;refine⟨h1,h2,?_⟩;refine ee fun hc=>?_;have h3:2^14≤2^gM size ps:=dm ae ae;have h4:1≤size^c:=ap
 have h5:1*2^14≤size^c*2^gM size ps:=eN h4 h3;omega
def vP (cells n:Nat):List Bool:=(fc 2 cells n).map fun d=>decide (d=1)
def tR (size ar:Nat)(bits:List Bool):List (List Int):=((List.range (size^ar)).filter fun k=>bits.getD k false).map (fc size ar)
def nW (size:Nat):List Pd→List Bool→List gV
 |[],_=>[]
 |p::ps,bits=>⟨p.name,p.arity,tR size p.arity.toNat bits⟩::nW size ps (bits.drop (o9 size p))
def mW (names:List Str)(ps:List Pd)(size n:Nat):dd:=⟨size,List.zipWith dT.mk names (fc size names.length (n / 2^gM size ps)),nW size ps (vP (gM size ps) n)⟩
theorem Dh (size:Nat):∀(ps:List Pd) (bits:List Bool),(nW size ps bits).map (fun r=>(⟨r.name,r.arity⟩:Pd))=ps
 |[],_=>rfl
 |p::ps,bits=>by rw[nW,aM,Dh size ps]
theorem Ci (size:Nat)(ps:List Pd)(bits:List Bool):(nW size ps bits).length=ps.length:=by have h:=a8 List.length (Dh size ps bits);grind
theorem yO {size:Nat}:∀{ps:List Pd} {bits:List Bool} {r:gV},r∈nW size ps bits→∃p∈ps,∃b,r=⟨p.name,p.arity,tR size p.arity.toNat b⟩
 |[],_,r,h=>by simp[nW]at h
 |p::ps,bits,r,h=>by
  rw[nW]at h;rcases aV.1 h with rfl|h
  ·exact⟨p,ak,_,rfl⟩
  ·obtain⟨q,hq,b,e⟩:=yO h;exact⟨q,by simp[hq],b,e⟩
theorem P0 {size ar:Nat}{bits:List Bool}(hs:0<size):(tR size ar bits).Pairwise fun a b=>gW a b<0:=by grind[tR,List.Pairwise.imp_of_mem,List.pairwise_lt_range,Nf]
theorem PZ {size ar:Nat}{bits:List Bool}(hs:0<size){t:List Int}(h:t∈tR size ar bits):t.length=ar∧∀v∈t,0≤v∧v<(size:Int):=by unfold tR at h;obtain⟨k,_,rfl⟩:=be.1 h;exact⟨mR _ _ _,sA hs ar k⟩
structure FO (names:List Str)(ps:List Pd)(size:Nat):Prop where
 nm:oG names
 pd:q' ps
 ar:∀p∈ps,0≤p.arity∧p.arity≤3
 s1:1≤size
 s4:size≤4
 ln:names.length≤10000000
 lp:ps.length≤300
theorem BB (names:List Str)(ps:List Pd)(size n:Nat):(mW names ps size n).consts.map (·.name)=names:=by show(List.zipWith dT.mk names (fc size names.length _)).map (·.name)=names;have:=yy (vars:=names) (l:=fc size names.length (n / 2^gM size ps)) (mR _ _ _);exact this
theorem Pm {names:List Str}{ps:List Pd}{size n:Nat}{c:dT}(hs:0<size)(h:c∈(mW names ps size n).consts):0≤c.value∧c.value<(size:Int):=by have h2:c∈lg names (fc size names.length (n / 2^gM size ps)):=h;exact sA hs _ _ _ (yW h2)
theorem Zq {names:List Str}{ps:List Pd}{size n:Nat}(h:FO names ps size):re (mW names ps size n):=by
 have hc:(mW names ps size n).consts.length=names.length:=by have:=a8 List.length (BB names ps size n);simpa using this
 have hr:(mW names ps size n).rels.length=ps.length:=Ci _ _ _;refine⟨fun i j hi hj hij=>?_,fun i j hi hj hij=>?_,fun r hr i j hi hj hij=>?_,by show(1:Int)≤(size:Int);have:=h.s1;omega,by show(size:Int)≤6;have:=h.s4;omega,by rw[hc];exact h.ln,by rw[hr];exact h.lp⟩
 ·have e1:∀k (hk:k<(mW names ps size n).consts.length),(mW names ps size n).consts[k].name=names[k]' ae:=by grind[BB]
  rw[e1 i hi,e1 j hj];exact(dy.1 h.nm) i j _ _ hij
 ·have e1:∀k (hk:k<(mW names ps size n).rels.length),(⟨(mW names ps size n).rels[k].name,(mW names ps size n).rels[k].arity⟩:Pd)=ps[k]' ae:=fun k hk=>by have:=List.getElem_of_eq (Dh size ps (vP (gM size ps) n)) (i:=k) (by rw[aG];exact hk);rw[←this,cm];rfl
  have h2:=(dy.1 h.pd) i j ae ae hij;rw[←e1 i hi,←e1 j hj]at h2;exact h2
 ·obtain⟨p,_,b,rfl⟩:=yO hr;exact(dy.1 (P0 (by have:=h.s1;omega))) i j hi hj hij
theorem XG {names:List Str}{ps:List Pd}{size n:Nat}{w:Str}(h:w∈names):(pE (mW names ps size n) w).isSome=true:=by grind[pE,BB]
def iv:List Nat→List Int→List Int×Bool
 |t::ts,d::ds=>if(iv ts ds).2=true then(if d+1<(t:Int)then((d+1)::(iv ts ds).1,false)else(0::(iv ts ds).1,true))else(d::(iv ts ds).1,false)
 |[],_=>([],true)
 |_::_,[]=>([],true)
theorem Li:∀(ts:List Nat) (t:Nat) (ds:List Int) (d:Int),ts.length=ds.length→iv (ts++[t]) (ds++[d])=if d+1<(t:Int)then(ds++[d+1],false)else((iv ts ds).1++[0],(iv ts ds).2)
 |[],t,[],d,_=>by rfl
 |[],_,_::_,_,h=>ap
 |_::_,_,[],_,h=>ap
 |t0::ts,t,d0::ds,d,h=>by
  rw[a6,a6,iv,Li ts t ds d ap];by_cases h1:d+1<(t:Int)
  ·simp[h1]
  ·simp only[h1,cd];grind[iv]
theorem ze:∀(ts1:List Nat) (ds1:List Int) (ts2:List Nat) (ds2:List Int),ts1.length=ds1.length→iv (ts1++ts2) (ds1++ds2)=if(iv ts2 ds2).2=true then((iv ts1 ds1).1++(iv ts2 ds2).1,(iv ts1 ds1).2)else(ds1++(iv ts2 ds2).1,false)
 |[],[],ts2,ds2,_=>by grind[iv]
 |[],_::_,_,_,h=>ap
 |_::_,[],_,_,h=>ap
 |t0::ts,d0::ds,ts2,ds2,h=>by
  rw[a6,a6,iv,ze ts ds ts2 ds2 ap];cases h2:(iv ts2 ds2).2
  ·simp
  ·simp only[cJ];grind[iv]
theorem Bw (s:Nat):∀k,fc s k 0=List.replicate k 0
 |0=>rfl
 |k+1=>by rw[fc,Nat.zero_div,Bw s k,Nat.zero_mod,dF];rfl
theorem tj {s:Nat}(hs:0<s):∀k i,fc s k (i % s^k)=fc s k i
 |0,_=>rfl
 |k+1,i=>by
  rw[fc,fc];have h1:i % s^(k+1) / s=(i / s) % s^k:=by rw[cF,df,Nat.mod_mul,Nat.add_mul_div_left _ _ hs,gp (ez _ hs),bE]
  have h2:i % s^(k+1) % s=i % s:=by rw[cF,df,Nat.mod_mul,Nat.add_mul_mod_self_left,Nat.mod_mod]
  rw[h1,h2,tj hs k]
theorem uK {s:Nat}(hs:0<s):∀(k i:Nat),i<s^k→iv (List.replicate k s) (fc s k i)=(fc s k ((i+1) % s^k),decide (i+1=s^k))
 |0,i,h=>by
  have:i=0:=by simpa using h
  subst this;rfl
 |k+1,i,h=>by
  rw[dF,fc,Li _ _ _ _ (by simp_all[mR])];have hd:=du i s;have hq:i / s<s^k:=by simp_all[e9,cF,df]
  have hm:=ez i hs;by_cases h1:i % s+1<s
  ·rw[aF ae];have e1:(i+1) / s=i / s:=by rw[←hd,cz,jv hs,gp h1,bJ,hd]
   have e2:(i+1) % s=i % s+1:=by rw[←hd,cz,jx,dA h1,hd]
   have hne:i+1≠s^(k+1):=by grind[Nat.mul_mod_left]
   rw[dA (Nat.lt_of_le_of_ne h hne),fc,e1,e2,aW hne];rfl
  ·rw[az ae,uK hs k (i / s) hq];have e0:i+1=s*(i / s+1):=by rw[ej];omega
   have e1:(i+1) % s^(k+1)=s*((i / s+1) % s^k):=by rw[e0,cF,df (s^k) s,Nat.mul_mod_mul_left]
   have e2:(i+1=s^(k+1))↔(i / s+1=s^k):=by rw[e0,cF,df (s^k) s];exact Nat.mul_right_inj ae
   simp_all[fc]
def jH (size c cells n:Nat):List Int:=fc size c (n / 2^cells)++fc 2 cells n
theorem VN (size c cells n:Nat):(jH size c cells n).length=c+cells:=by simp_all[jH,mR]
theorem Wh (size c cells:Nat):jH size c cells 0=List.replicate (c+cells) 0:=by simp_all[jH,Bw]
theorem Xf {size c cells n:Nat}(hs:0<size)(h:n+1<size^c*2^cells):(iv (List.replicate c size++List.replicate cells 2) (jH size c cells n)).1=jH size c cells (n+1):=by
 unfold jH;obtain⟨m,hm⟩:∃m,2^cells=m:=⟨_,rfl⟩;have hm0:0<m:=by rw[←hm];exact ap
 have hr:=ez n hm0;have hd:=du n m;rw[ze _ _ _ _ (by simp_all[mR]),←tj ae cells n,uK ae cells _ ae,hm];rw[hm]at h;have hq:n / m<size^c:=e9 ap;by_cases h1:n % m+1=m
 ·simp only[h1,j0,cJ];rw[uK hs c _ hq,Nat.mod_self];have e0:n+1=m*(n / m+1):=by rw[ej];omega
  grind[Nat.mul_div_cancel_left,tj,Nat.mul_mod_right]
 ·simp only[h1,decide_false,bK,cd];have h2:n % m+1<m:=ae
  have e1:(n+1) / m=n / m:=by rw[←hd,cz,jv hm0,gp h2,bJ,hd]
  have e2:(n+1) % m=n % m+1:=by rw[←hd,cz,jx,dA h2,hd]
  grind[tj]
def okF (fs:List aH)(m:dd):Bool:=fs.all fun f=>fB m f []
def lG (fs:List aH)(size:Nat):Option Nat:=vE size (e7 fs).length (iz fs)
def pI (fs:List aH)(size n:Nat):dd:=mW (e7 fs) (iz fs) size n
def lB (fs:List aH)(size n:Nat):List dd:=((List.range n).map (pI fs size)).filter (okF fs)
def jD (fs:List aH)(size:Nat):Option (List dd):=(lG fs size).map (lB fs size)
theorem Jv (fs:List aH)(size n:Nat):lB fs size (n+1)=lB fs size n++(if okF fs (pI fs size n)=true then[pI fs size n]else[]):=by simp_all[lB,fC,nF]
theorem KV (fs:List aH)(size:Nat):∀n,(lB fs size n).length≤n:=by grind[lB]
theorem KW (fs:List aH)(size:Nat){n t:Nat}(h:n≤t):∃r,lB fs size t=lB fs size n++r:=by obtain⟨k,rfl⟩:=Nat.exists_eq_add_of_le h;simp_all[lB,List.range_add]
def Ar (fs:List aH)(size most:Nat):Option (List dd):=(jD fs size).map (List.take most)
def gi:dd:=⟨0,[],[]⟩
def o4:List aH→Nat→iY
 |[],_=>⟨0,0⟩
 |f::fs,i=>if(dB false f).code≠0 then⟨(dB false f).code,i⟩else if 5<gE f then⟨17,i⟩else o4 fs (i+1)
def gU (fs:List aH)(size:Int):iY:=if 41<fs.length then⟨2, -1⟩else if(o4 fs 0).code≠0 then o4 fs 0 else if size<1∨4<size then⟨3, -2⟩else⟨0,0⟩
theorem Ku:∀{fs:List aH} {i:Nat},(o4 fs i).code=0→o4 fs i=⟨0,0⟩∧∀f∈fs,(dB false f).code=0∧gE f≤5
 |[],i,_=>⟨rfl,ak⟩
 |f::fs,i,h=>by
  rw[o4]at h ⊢;by_cases h1:(dB false f).code=0
  ·rw[az (by simp[h1])]at h ⊢;by_cases h2:5<gE f
   ·rw[aF h2]at h;simp at h
   ·rw[az h2]at h ⊢;obtain⟨h3,h4⟩:=Ku h;refine⟨h3,fun g hg=>?_⟩;rcases aV.1 hg with rfl|hg
    ·exact⟨h1,ae⟩
    ·exact h4 g hg
  ·rw[aF h1]at h;exact absurd h h1
theorem B9 {fs:List aH}{size:Int}(h:(gU fs size).code=0):gU fs size=⟨0,0⟩∧fs.length≤41∧(∀f∈fs,(dB false f).code=0∧gE f≤5)∧1≤size∧size≤4:=by grind[gU,Ku]
def p6 (fs:List aH):Nat→Nat→dd×Bool×iY
 |_,0=>(gi,false,⟨0,0⟩)
 |k,left+1=>match jD fs k with
  |none=>(gi,false,⟨17, -2⟩)
  |some []=>p6 fs (k+1) left
  |some (m::_)=>(m,true,⟨0,0⟩)
def kP (fs:List aH)(size:Int):dd×Bool×iY:=
 if(gU fs size).code≠0 then(gi,false,gU fs size)else p6 fs 1 size.toNat
theorem GK {l:List aH}{w:Str}:w∈e7 l↔∃f∈l,w∈cst f []:=by
 unfold e7;constructor
 ·intro h;obtain⟨x,hx,rfl⟩:=be.1 h;have h2:=(ry _).mem_iff.1 ((uL _ _).1 hx);obtain⟨y,hy,rfl⟩:=be.1 h2;simp_all[og]
 ·rintro⟨f,hf,hw⟩;refine be.2 ⟨w.l,(uL _ _).2 ((ry _).mem_iff.2 (by grind[og])),rfl⟩
theorem Xt (l:List aH):oG (e7 l):=C0 _
theorem Mb:∀{l:List aH},(∀f∈l,f.fit=true∧f.size≤200)→(l.flatMap eR).length≤l.length*200000
 |[],_=>ak
 |f::l,h=>by grind[rM,yz,Mb fun g hg=>h g (List.mem_cons_of_mem _ hg)]
theorem QN {l:List aH}(h:∀f∈l,(dB false f).code=0):∀f∈l,f.fit=true∧f.size≤200:=by grind[rB,nq]
theorem BV {l:List aH}(h:∀f∈l,(dB false f).code=0)(hl:l.length≤41):(e7 l).length≤10000000:=by have h1:=Mb (QN h);grind[e7,sq,uP]
mutual
theorem Am:∀(f:aH),vok f→∀p∈pds f,0≤p.arity∧p.arity≤3
 | .mk k nm ws s,h,p,hp=>by
  rw[vok]at h;rw[pds]at hp;rcases aO.1 hp with hp|hp
  ·grind
  ·exact ND s h.2.2.2.2.2.2 p hp
theorem ND:∀(fs:List aH),lI fs→∀p∈fL fs,0≤p.arity∧p.arity≤3
 |[],_,p,hp=>by simp[fL]at hp
 |f::fs,h,p,hp=>by
  rw[lI]at h;rw[fL]at hp;rcases aO.1 hp with hp|hp
  ·exact Am f h.1 p hp
  ·exact ND fs h.2 p hp
end
theorem S4 {fs:List aH}(hv:∀f∈fs,(dB false f).code=0):∀p∈iz fs,0≤p.arity∧p.arity≤3:=fun p hp=>by obtain⟨f,hf,h⟩:=CZ.1 hp;exact Am f (wM (hv f hf)) p h
theorem S5 {fs:List aH}{size n:Nat}(hv:∀f∈fs,(dB false f).code=0)(hl:fs.length≤41)(h1:1≤size)(h4:size≤4)(hn:lG fs size=some n):FO (e7 fs) (iz fs) size:=by obtain⟨_,_,h3⟩:=yC h1 hn;have h5:=KB h1 (iz fs);exact⟨Xt fs,M8 fs,S4 hv,h1,h4,BV hv hl,ae⟩
mutual
theorem P4:∀(f:aH),shp false f→∀p∈pds f,dI p.name=true
 | .mk k nm ws s,h,p,hp=>by
  rw[shp]at h;rw[pds]at hp;rcases aO.1 hp with hp|hp
  ·split at hp
   ·rename_i hk;rw[a7.1 hp];subst hk;exact h.1.2.2.1 rfl (by unfold isQ;show¬((2:Int)=8∨(2:Int)=9);omega)
   grind
  ·exact K7 s h.2 p hp
theorem K7:∀(fs:List aH),ij false fs→∀p∈fL fs,dI p.name=true
 |[],_,p,hp=>by simp[fL]at hp
 |f::fs,h,p,hp=>by
  rw[ij]at h;rw[fL]at hp;rcases aO.1 hp with hp|hp
  ·exact P4 f h.1 p hp
  ·exact K7 fs h.2 p hp
end
mutual
theorem OX {m:dd}:∀(f:aH),(∀p∈pds f,(qR m p.name p.arity).isSome=true)→sY m f=true
 | .mk k nm ws s,h=>by
  rw[sY];have h2:=Lf s fun p hp=>h p (by rw[pds];exact cP _ hp);by_cases hk:k=2
  ·have h3:=h ⟨nm,ws.length⟩ (by rw[pds,aF hk];simp);simp[h2,h3]
  ·simp[h2,hk]
theorem Lf {m:dd}:∀(fs:List aH),(∀p∈fL fs,(qR m p.name p.arity).isSome=true)→rW m fs=true
 |[],_=>by rw[rW]
 |f::fs,h=>by rw[rW,OX f fun p hp=>h p (by rw[fL];exact cx _ hp),Lf fs fun p hp=>h p (by rw[fL];exact cP _ hp)];rfl
end
theorem Qt {l:List aH}{k:Nat}{ms:List dd}{m:dd}(h:jD l k=some ms)(hm:m∈ms):∃n i,lG l k=some n∧m=pI l k i∧okF l m=true:=by
 unfold jD at h;cases hn:lG l k with
 |none=>grind
 |some n=>grind[lB]
theorem KX {l:List aH}{k:Nat}{x:dd}{ms:List dd}(h:jD l k=some ms)(hx:x∈ms):x.size=(k:Int):=by obtain⟨n,i,_,rfl,_⟩:=Qt h hx;rfl
structure sb where
 kind:Int
 proof:Prf
 model:dd
@[go_sem] theorem lM {v:sb}:sb.mk v.kind v.proof v.model=v:=by cases v;rfl
instance:Enc sb:=⟨fun v=> .agg [.i .i64 v.kind,.i .i64 v.proof.kind,.i .i64 v.proof.form,.i .i64 v.proof.other,.s v.proof.name.l,.sl (v.proof.subs.map enc),.i .i64 v.model.size,.sl (v.model.consts.map enc),.sl (v.model.rels.map enc)],
 fun x=>match x with| .agg [.i _ k,.i _ a,.i _ b,.i _ c,.s n,.sl s,.i _ z,.sl cs,.sl rs]=>⟨k,.mk a b c ⟨n⟩ (s.map dec),⟨z,cs.map dec,rs.map dec⟩⟩|_=>⟨0,.mk 0 0 0 ⟨[]⟩ [],⟨0,[],[]⟩⟩,fun v=>by
  cases v with
  |mk k p m=>simp only[uB];rw[show(⟨p.name.l⟩:Str)=p.name from rfl,cT]⟩
@[go_sem] theorem zKu {v:sb}:enc v= .agg [.i .i64 v.kind,.i .i64 v.proof.kind,.i .i64 v.proof.form,.i .i64 v.proof.other,.s v.proof.name.l,.sl (v.proof.subs.map enc),.i .i64 v.model.size,.sl (v.model.consts.map enc),.sl (v.model.rels.map enc)]:=rfl
@[go_sem] theorem zKq {i j h l i2 k a b c n s z cs rs}:dec (α:=sb) (.agg [.i i k,.i j a,.i h b,.i l c,.s n,.sl s,.i i2 z,.sl cs,.sl rs])=⟨k,.mk a b c ⟨n⟩ (dec (.sl s)),⟨z,dec (.sl cs),dec (.sl rs)⟩⟩:=rfl
def uo (p:Prf×Bool×iY)(m:dd×Bool×iY):sb×iY:=
 if p.2.2.code≠0∧p.2.2.code≠17 then(⟨0,.mk 0 0 0 ⟨[]⟩ [],gi⟩,p.2.2)
 else if p.2.1=true then(⟨1,p.1,gi⟩,⟨0,0⟩)
 else if m.2.1=true then(⟨2,.mk 0 0 0 ⟨[]⟩ [],m.1⟩,⟨0,0⟩)
 else(⟨3,.mk 0 0 0 ⟨[]⟩ [],gi⟩,⟨0,0⟩)
def acM (l:List aH):List Str:=l.foldl (fun out f=>(iH f [] []).foldl fM out) []
structure acP (f:aH):Prop where
 ft:f.fit=true
 s:f.size≤1000
 n:(iH f [] []).length≤2400
theorem CN {l:List aH}{i:Nat}(h:i<l.length):acM (l.take (i+1))=(iH l[i] [] []).foldl fM (acM (l.take i)):=by grind[acM,List.take_succ_eq_append_getElem]
theorem zo:∀(ws l:List Str),(ws.foldl fM l).length≤l.length+ws.length
 |[],l=>ak
 |w::ws,l=>by grind[M2,zo ws (fM l w)]
theorem K9 {ws l:List Str}{j:Nat}(h:j<ws.length):(ws.take (j+1)).foldl fM l=fM ((ws.take j).foldl fM l) ws[j]:=by grind[List.take_succ_eq_append_getElem]
theorem zG {l:List aH}(hp:∀f∈l,acP f):∀i,i≤l.length→(acM (l.take i)).length≤2400*i:=by
 intro i;induction i with
 |zero=>intro _;simp[acM]
 |succ i ih=>intro h;rw[CN ae];have h1:=ih ae;have h2:=zo (iH l[i] [] []) (acM (l.take i));have h3:=(hp l[i] ap).n;omega
theorem LM (x:Str):∀(ws l:List Str),x∈ws.foldl fM l↔x∈l∨x∈ws
 |[],l=>ak
 |w::ws,l=>by rw[bQ,LM x ws,MR,aV,je]
theorem NK (x:Str)(l:List aH):x∈acM l↔∃f∈l,x∈cst f []:=by
 unfold acM;suffices h:∀(l:List aH) (o:List Str),x∈l.foldl (fun out f=>(iH f [] []).foldl fM out) o↔x∈o∨∃f∈l,x∈cst f [] by grind
 intro l;induction l with
 |nil=>simp
 |cons f l ih=>simp_all[LM,Dc,je]
mutual
theorem Ce:∀(f:aH) (bd l:List Str),shp false f→(iH f bd l).length≤l.length+3*f.size
 | .mk k nm ws s,bd,l,h=>by
  rw[shp]at h;have hw:ws.length≤3:=by
   have h2:=h.1.2.1;unfold pA at h2;rw[dS,pT]at h2;split at h2
   ·grind
   ·grind
  rw[iH,aH.size];have h1:=Jl s (if isQ k then bd++[nm]else bd) (ws.foldl (fun l w=>if w∈bd then l else fM l w) l) h.2;have h2:=wN bd ws l;omega
theorem Jl:∀(fs:List aH) (bd l:List Str),ij false fs→(jC fs bd l).length≤l.length+3*aH.sizes fs
 |[],_,l,_=>by rw[jC];omega
 |f::fs,bd,l,h=>by rw[ij]at h;rw[jC,aH.sizes];have h1:=Ce f bd l h.1;have h2:=Jl fs bd (iH f bd l) h.2;omega
end
theorem Ob:∀(l:List aH) (out:List Str),oG out→oG (l.foldl (fun out f=>(iH f [] []).foldl fM out) out)
 |[],_,h=>h
 |f::l,out,h=>Ob l _ (by simp_all[ME])
theorem yF (l:List aH):acM l=e7 l:=by refine Oc (Ob l [] List.Pairwise.nil) (C0 _) fun x=>?_;rw[NK,GK]
theorem OL {f:aH}(h:(dB false f).code=0):acP f:=⟨rB h,by have:=nq h;omega,by grind[Ce,HL,nq]⟩
theorem PH {f:aH}(h:(dB false f).code=0):(eR f).length≤1000000∧(cst f []).length≤1000000:=by grind[rM,rB,nq,yz]
theorem wh {ts:List Nat}{ds:List Int}(hl:ts.length=ds.length){jj p:Nat}(h:iv (ts.drop (p+1)) (ds.drop (p+1))=(List.replicate jj 0,true))(h1:p<ts.length)(h2:p<ds.length):
  (¬ds[p]+1<(ts[p]:Int)→iv (ts.drop p) (ds.drop p)=(List.replicate (jj+1) 0,true))∧(ds[p]+1<(ts[p]:Int)→iv ts ds=(ds.take p++(ds[p]+1)::List.replicate jj 0,false)):=by
 have e:iv (ts.drop p) (ds.drop p)=if ds[p]+1<(ts[p]:Int)then((ds[p]+1)::List.replicate jj 0,false)else(0::List.replicate jj 0,true):=by rw[aR h1,aR h2,iv,h];simp
 refine⟨ap,fun h3=>?_⟩;rw[aF h3]at e;have h4:=ze (ts.take p) (ds.take p) (ts.drop p) (ds.drop p) ap;simp_all
theorem Lj {ts:List Nat}{ds:List Int}(hl:ts.length=ds.length):iv (ts.drop ts.length) (ds.drop ts.length)=(List.replicate 0 0,true):=by rw[fe,hl,fe];rfl
def fA (ds:List Int)(L jj:Nat):List Int:=ds.take (L-jj)++List.replicate jj 0
theorem KG {ds:List Int}{L:Nat}(h:ds.length=L):fA ds L 0=ds:=by simp_all[fA,bV]
theorem w7 {ds:List Int}{L jj:Nat}(h:ds.length=L)(hj:jj≤L):(fA ds L jj).length=L:=by simp_all[fA]
theorem w6 {ds:List Int}{L jj p:Nat}(h:ds.length=L)(hp:p+jj+1=L)(h1:p<(fA ds L jj).length)(h2:p<ds.length):(fA ds L jj)[p]=ds[p]:=by grind[fA]
theorem vf {ds:List Int}{L jj p:Nat}(h:ds.length=L)(hp:p+jj+1=L)(v:Int):(fA ds L jj).set p v=ds.take p++v::List.replicate jj 0:=by unfold fA;rw[show L-jj=p+1 by omega,aB ae,bu,gl _ _ ap,aX,eU ae,cM];rfl
theorem w8 {ds:List Int}{L jj p:Nat}(h:ds.length=L)(hp:p+jj+1=L):(fA ds L jj).set p 0=fA ds L (jj+1):=by grind[vf,fA]
theorem RP {S j K n:Nat}(hs:0<S)(h:n<S^j*2^K):(iv (List.replicate j S++List.replicate K 2) (jH S j K n)).1=jH S j K (n+1):=by
 by_cases h1:n+1<S^j*2^K
 ·exact Xf hs h1
 have e:n+1=S^j*2^K:=ae
 obtain⟨m,hm⟩:∃m,2^K=m:=⟨_,rfl⟩;obtain⟨t,ht⟩:∃t,S^j=t:=⟨_,rfl⟩;have hm0:0<m:=by rw[←hm];exact ap
 have ht0:0<t:=by rw[←ht];exact Nat.pow_pos hs
 rw[hm,ht]at e;obtain⟨t',rfl⟩:∃t',t=t'+1:=⟨t-1,ae⟩;obtain⟨m',rfl⟩:∃m',m=m'+1:=⟨m-1,ae⟩;have en:n=(m'+1)*t'+m':=by
  have:(t'+1)*(m'+1)=(m'+1)*t'+(m'+1):=by rw[df,ej,fO]
  omega
 have hd:n / (m'+1)=t':=by rw[en,jv ae,gp ae,bJ]
 have hr:n % (m'+1)=m':=by rw[en,jx,dA ae]
 have hd2:(n+1) / (m'+1)=t'+1:=by rw[e,Nat.mul_div_cancel _ ae]
 have hr2:(n+1) % (m'+1)=0:=by rw[e,Nat.mul_mod_left]
 unfold jH;rw[hm,ze _ _ _ _ (by simp_all[mR]),←tj ae K n,hm,hr,hd,uK ae K m' ae,uK hs j t' ae,hm,ht,hd2,←tj ae K (n+1),hm,hr2,←tj hs j (t'+1),ht];simp
structure jW where
 at':Int
 name:Str
def Tz (d:jW):FD:= .agg [.i .i64 d.at',.s d.name.l]
def Tl:FD→jW
 | .agg [.i _ a,.s n]=>⟨a,⟨n⟩⟩
 |_=>⟨0,⟨[]⟩⟩
instance:Enc jW:=⟨Tz,Tl,fun d=>by rfl⟩
@[go_sem] theorem zKs {d:jW}:enc d= .agg [.i .i64 d.at',.s d.name.l]:=rfl
def oA (made:List jW)(n:Nat):List (List Str):=(List.range n).map fun i=>(made.filter fun d=>decide (d.at'=((i:Nat):Int))).map (·.name)
theorem Jc {made:List jW}{n i:Nat}(h:i<n):(oA made n).getD i []=(made.filter fun d=>decide (d.at'=((i:Nat):Int))).map (·.name):=by simp_all[oA]
theorem X5 {made:List jW}{n i:Nat}{w:Str}(h:i<n):w∈(oA made n).getD i []↔∃d∈made,d.at'=(i:Int)∧d.name=w:=by rw[Jc h];grind
theorem X6 {n:Nat}:oA [] n=List.replicate n []:=by unfold oA;apply cC ak;simp
def p9 (made:List jW)(n:Nat):Prop:=∀d∈made,0≤d.at'∧d.at'<n
theorem p9.mono {made:List jW}{n m:Nat}(h:p9 made n)(hm:n≤m):p9 made m:=fun d hd=>⟨(h d hd).1,by have:=(h d hd).2;omega⟩
theorem p9.snoc {made:List jW}{n:Nat}(h:p9 made n){i:Nat}(hi:i<n)(w:Str):p9 (made++[⟨i,w⟩]) n:=fun d hd=>by
 rcases aO.1 hd with h1|h1
 ·exact h d h1
 grind
theorem Jb {made:List jW}{n:Nat}(h:p9 made n)(k:Nat):oA made (n+k)=oA made n++List.replicate k []:=by
 unfold oA;apply cC ak;intro i h1 h2;simp only[cm,List.getElem_range];rcases aA i n with h3|h3
 ·grind
 ·rw[iA ap];simp only[eQ,List.map_eq_nil_iff,List.filter_eq_nil_iff,bi];intro d hd e;have:=(h d hd).2;omega
theorem W5 {made:List jW}{n i:Nat}{w:Str}(hi:i<n):oA (made++[⟨i,w⟩]) n=(oA made n).set i ((oA made n).getD i []++[w]):=by rw[Jc hi];unfold oA;apply cC ak;intro j h1 h2;rw[nH];grind
def brD (l:List aH)(used:List Bool)(made:List jW)(rounds:Int):Brn:=⟨l,used,oA made l.length,rounds⟩
theorem Dt {l fs:List aH}{used:List Bool}{made:List jW}{r:Int}{i:Nat}(h:p9 made l.length):eo (il (brD l used made r) i) fs=brD (l++fs) (used.set i true++List.replicate fs.length false) made r:=by simp_all[eo,il,brD,Jb]
theorem NA {l:List aH}{used:List Bool}{made:List jW}{r:Int}{i:Nat}{w:Str}{I:aH}(h:p9 made l.length)(hi:i<l.length):eo (saw (brD l used made r) i w) [I]=brD (l++[I]) (used++[false]) (made++[⟨i,w⟩]) r:=by unfold eo saw brD;simp only[aD,bU];rw[Jb (h.snoc hi w),W5 hi];rfl
def ji (r:Res):Int:=if r.ok=true then 1 else if r.lim=true then 2 else 0
theorem KI {r:Res}:ji r=1↔r.ok=true:=by grind[ji]
def tV (c:List cX)(l:List aH)(f:aH):Bool:=jP c f||(decide (f.kind=4)&&decide ((dv f).kind=2)&&l.any fun h=>iF c h (dv f))
def vU (l:List aH):Bool:=l.any (tV (ii l) l)
theorem Jo (p:aH→Bool):∀(l:List aH) (k:Nat),(pD p l k).isSome=l.any p
 |[],k=>rfl
 |x::l,k=>by grind[pD,Jo p l (k+1)]
theorem Wq (c:List cX)(l:List aH)(f:aH)(i:Nat):(nt c l f i).isSome=tV c l f:=by
 unfold nt tV;cases hc:jP c f with
 |true=>simp
 |false=>
  by_cases h:f.kind=4∧(dv f).kind=2
  ·have e:=Jo (fun h=>iF c h (dv f)) l 0;grind
  grind
theorem HY (c:List cX)(l:List aH):∀(fs:List aH) (i:Nat),(pp c l fs i).isSome=fs.any (tV c l)
 |[],i=>rfl
 |f::fs,i=>by grind[pp,Wq,HY c l fs (i+1)]
theorem WD (l:List aH):(nP l).isSome=vU l:=HY (ii l) l l 0
section
variable {P:Program} {G:Nat→List FD}
theorem sr {f:FuncId}{T:Nat}{sid:Id}{ds:List D}{xs cs cs':List FD}{r:D}{H:bR}{n:Nat}{R:D→bR→Nat→Prop}(ha:D.toFDs ds=some xs)
  (h:cS P G f (.ptr (T,0) 0::xs.map .fz) (hpL [((T,0),some ⟨cs.map .fz,true,false⟩)]) 1 (fun d H' _=>D.val d=some r∧H' (T,0)=some ⟨cs'.map .fz,true,false⟩))
  (ho:H sid=some ⟨cs.map .fz,true,false⟩)(hR:R r (cp H sid (some ⟨cs'.map .fz,true,false⟩)) n):cS P G f (.ptr sid 0::ds) H n R:=by
 refine⟨h.1,fun w L F vs hok hvs=>?_⟩;obtain⟨hUs,hrs⟩:=hok.live sid _ ho;have hv3:(L sid).3=false:=by
  cases hv:(L sid).3
  ·rfl
  ·simp_all[iT]
 obtain⟨r1,cs0,T0,r2,r3,r4⟩:=iL hrs hv3;obtain⟨L1,hL1⟩:∃L1:Loc,L1=fun _=>L sid:=⟨_,rfl⟩;have hL1':∀id,L1 id=L sid:=ap
 obtain⟨K,hK⟩:∃K:bR,K=hpL [((T,0),some ⟨cs.map .fz,true,false⟩)]:=⟨_,rfl⟩;have hKs:∀id o,K id=some o→id=(T,0)∧o=⟨cs.map .fz,true,false⟩:=fun id o e=>by rw[hK]at e;grind[hpL]
 have hK0:K (T,0)=some ⟨cs.map .fz,true,false⟩:=by rw[hK];simp[hpL]
 have hfzs:∀(zs:List FD) (j:Nat) (L2:Loc) (F2:Nat→Nat→Prop) (U2 U3:Id→Prop) (L3:Loc) (w2:World) (v:Value),bw w2 L2 F2 U2 ((zs.map D.fz).getD j .junk) v→bw w2 L3 F2 U3 ((zs.map D.fz).getD j .junk) v:=by grind[bw]
 have hok1:OkW G w L1 F (Ub 1) K:=by
  refine⟨hok.fb,fun id o e=>?_,fun id id' o o' e e' _ _ _=>?_,hok.glob⟩
  ·obtain⟨rfl,rfl⟩:=hKs id o e;refine⟨qQt,?_⟩;unfold iT;grind
  ·grind
 rw[←hK]at h;have hvs1:cA w L1 F (Ub 1) (.ptr (T,0) 0::xs.map .fz) vs:=by
  cases vs with
  |nil=>simp[cA]at hvs
  |cons v vs=>simp only[cA]at hvs ⊢;refine⟨?_,hvs.2.of_toFDs ha⟩;grind[bw,Ub]
 refine(h.2 w L1 F vs hok1 hvs1).mono fun e w' he=>?_;obtain⟨v,d1,H1,n1,L2,F2,rfl,⟨hQ1,hQ2⟩,g1,g2,g3⟩:=he;have hL2:L2 (T,0)=L sid:=(g3.l (T,0) qQt).trans (hL1' _);have bk:∀b,Blk K L1 b→Blk H L b:=by rintro b ⟨id,o,e1,_,e3⟩;obtain⟨rfl,_⟩:=hKs id o e1;rw[hL1']at e3;exact⟨sid,_,ho,hv3,e3⟩
 have ok':∀b k,Own K L1 b k→(L sid).1=b∧(L sid).2≤k:=by rintro b k ⟨id,o,e1,_,e3,e4⟩;rw[hL1']at e3 e4;exact⟨e3,e4⟩
 have own:∀b k,Own K L1 b k→Own H L b k:=fun b k hb=>let⟨e1,e2⟩:=ok' b k hb;⟨sid,_,ho,hv3,e1,e2⟩;have ext:Ext w L F (Ub n) w' L F2 (Ub n):=⟨fun _ h=>h,fun _ _=>rfl,g3.f,fun b k hb=>g3.keepc b k (hok.fb b k hb) ap,g3.size,g3.shape⟩;have cas:∀id o,cp H sid (some ⟨cs'.map .fz,true,false⟩) id=some o→(id=sid∧o=⟨cs'.map .fz,true,false⟩)∨(id≠sid∧H id=some o):=by grind[cp]
 have some':∀id o,cp H sid (some ⟨cs'.map .fz,true,false⟩) id=some o→∃o',H id=some o':=ap
 refine⟨v,r,_,n,L,F2,rfl,hR,⟨g1.fb,fun id o e=>?_,fun id id' o o' e e' v1 v2 eb=>?_,g1.glob⟩,g2.val hQ1,?_⟩
 ·rcases cas id o e with⟨rfl,rfl⟩|⟨hne,e1⟩
  ·refine⟨hUs,?_⟩;have hl:=(g1.live _ _ hQ2).2;unfold iT at hl ⊢;grind
  ·obtain⟨a,b⟩:=hok.live id o e1;refine⟨a,b.ext ext a fun hv=>?_⟩;have hlt:=hok.blk_lt e1 hv;have nb:¬(L sid).1=(L id).1:=fun eq=>hne (hok.inj id sid _ _ e1 ho hv hv3 eq.symm);refine⟨g3.keep _ hlt ?_,fun k hk hF=>?_⟩
   ·rintro⟨id2,o2,e2,_,e3⟩;grind
   ·rcases g3.fnew _ _ hF with h|h|h
    all_goals grind[iL]
 ·obtain⟨o1,e1⟩:=some' _ _ e;obtain⟨o2,e2⟩:=some' _ _ e';exact hok.inj _ _ _ _ e1 e2 v1 v2 eb
 ·refine⟨fun _ h=>h,fun _ _=>rfl,g3.f,g3.size,fun b hb nb=>g3.keep b hb ap,fun b k hb no=>g3.keepc b k hb ap,g3.shape,fun b k hb=>?_,fun b k hb=>?_,g3.os,g3.tape,g3.output,g3.drawn⟩
  ·rcases g3.fnew b k hb with h|h|h
   all_goals grind
  ·obtain⟨id,o,e1,e2,e3,e4⟩:=hb;obtain⟨o',e1'⟩:=some' _ _ e1;exact .inr ⟨id,o',e1',e2,e3,e4⟩
end
def l6 (te:TI)(n:Nat):List D:=(List.range (n*te.size)).map fun j=>te.zero.getD (j % te.size) .junk
theorem MA {te:TI}{n:Nat}:(l6 te n).length=n*te.size:=by simp[l6]
section
variable {P:Program} {w:World} {t u ty e:TypeId} {i:TypeInfo} {z:Value} {kk:IntKind}
theorem Ff {n:Nat}(h:n≤dt):IntKind.i64.wrap (n:Int)=n:=by grind[dt,IntKind.wrap,IntKind.bits]
theorem yn (ht:P.underlying t=some (.slice e))(hu:P.underlying u=some (.int kk))(hi:P.info? e=some i)(hz:i.zero=some z)
  {base:Option Addr}{sLen sCap:Nat}{n:Nat}(hzs:z.cells.size=i.size)(hm:n≤dt)(hb:n*i.bytes≤281474976710656)(hg:sLen+n≤sCap){w':World}
  (hst:∀a,base=some a→(storeCells (a.add (sLen*i.size)) (Builtin.zeroCells z.cells n).toList).run P w= .ok () w')(hb0:base=none→w'=w):
  (Builtin.append_ #[t,u] ty #[.slice base sLen sCap,.int .i64 n]).run P w= .ok (.slice base (sLen+n) sCap) w':=by
 have hw:=Ff hm;have h0:¬((n:Int)<0):=ae
 have h1:¬(281474976710656<(n:Int)*(i.bytes:Int)):=by
  have e2:(n:Int)*(i.bytes:Int)=((n*i.bytes:Nat):Int):=ak
  rw[e2];omega
 have he:n*i.size=0→Builtin.zeroCells z.cells n= #[]:=by simp_all[Builtin.zeroCells]
 by_cases hs:n*i.size=0
 ·have he':=he hs;cases base with
  |none=>obtain rfl:=hb0 rfl;simp[Builtin.append_,bc ht,bc hu,sizeOf,typeInfo,hi,asInt,asIntOf,hw,h0,h1,hg,hs]
  |some a=>have:=hst a rfl;rw[he']at this;simp[Builtin.append_,bc ht,bc hu,sizeOf,typeInfo,hi,asInt,asIntOf,hw,h0,h1,hg,hs]at this ⊢;simp[this]
 ·cases base with
  |none=>obtain rfl:=hb0 rfl;simp[Builtin.append_,bc ht,bc hu,sizeOf,typeInfo,zeroValue,hi,hz,asInt,asIntOf,hw,h0,h1,hg,hs]
  |some a=>have:=hst a rfl;simp[Builtin.append_,bc ht,bc hu,sizeOf,typeInfo,zeroValue,hi,hz,asInt,asIntOf,hw,h0,h1,hg,hs,this]
theorem HA (ht:P.underlying t=some (.slice e))(hu:P.underlying u=some (.int kk))(hi:P.info? e=some i)(hz:i.zero=some z)
  {base:Option Addr}{sLen sCap:Nat}{n:Nat}{olds:Array Value}(hzs:z.cells.size=i.size)
  (hold:(Builtin.firstCells i.size sLen (.slice base sLen sCap)).run P w.drew= .ok olds w.drew)
  (hg:sCap<sLen+n)(hf:fits (sLen+n) i.bytes):
  (Builtin.append_ #[t,u] ty #[.slice base sLen sCap,.int .i64 n]).run P w= .ok (.slice (some ⟨w.heap.size,0,none⟩) (sLen+n) (grownCap w (sLen+n) sCap e))
   (w.drew.alloc (.cells (olds++Builtin.zeroCells z.cells n++Builtin.zeroCells z.cells (grownCap w (sLen+n) sCap e-(sLen+n))) e)):=by
 have hn:¬(sLen+n≤sCap):=ae
 have hm:n≤dt:=by have:=hf.1;omega
 have hb:n*i.bytes≤281474976710656:=bz ap hf.2;have hw:=Ff hm;have h0:¬((n:Int)<0):=ae
 have h1:¬(281474976710656<(n:Int)*(i.bytes:Int)):=by
  have e2:(n:Int)*(i.bytes:Int)=((n*i.bytes:Nat):Int):=ak
  rw[e2];omega
 have h63':¬(9223372036854775807<((sLen:Int)+(n:Int))):=by have:=hf.1;unfold dt at this;omega
 have h48':¬(281474976710656<Builtin.nextslicecap (sLen+n) sCap*i.bytes):=by have:=JX hf hg;omega
 by_cases hs:n*i.size=0
 ·have he':Builtin.zeroCells z.cells n= #[]:=by unfold Builtin.zeroCells;rw[hzs,hs];simp
  rw[he'];simp[Builtin.append_,bc ht,bc hu,sizeOf,typeInfo,zeroValue,hi,hz,asInt,asIntOf,hw,h0,h1,hn,h63',h48',hs,Question.forced,hold,newRow,grownCap]
 ·simp[Builtin.append_,bc ht,bc hu,sizeOf,typeInfo,zeroValue,hi,hz,asInt,asIntOf,hw,h0,h1,hn,h63',h48',hs,Question.forced,hold,newRow,grownCap]
end
section
variable {P:Program} {G:Nat→List FD} {w:World} {L:Loc} {F:Nat→Nat→Prop} {U:Id→Prop} {H:bR}
theorem yT {i:TypeInfo}{z:Value}(hz:z.cells.size=i.size){te:TI}(h0:te.zero=z.cells.toList.map r5)(h1:te.size=i.size){n j:Nat}(hj:j<n*i.size):
  bw w L F U ((l6 te n).getD j .junk) (z.cells[j % z.cells.size]!):=by
 have hp:0<i.size:=ap
 have hm:j % i.size<z.cells.toList.length:=by rw[cG,hz];exact ez _ hp
 have e:(l6 te n).getD j .junk=r5 (z.cells[j % z.cells.size]!):=by unfold l6;rw[av,bp,fm ap];simp only[bL,bD];rw[h0,h1,av,bp,ay hm,hz];simp only[bL,bD];congr 1;rw[cG]at hm;simp[hm]
 rw[e];exact CT _
theorem yS {i:TypeInfo}{z:Value}(hz:z.cells.size=i.size){n:Nat}:Builtin.zeroCells z.cells n=((List.range (n*i.size)).map fun j=>z.cells[j % z.cells.size]!).toArray:=by grind[Builtin.zeroCells]
theorem WM (hok:OkW G w L F U H){t u ty e:TypeId}{te:TI}{kk:IntKind}(ht:P.underlying t=some (.slice e))(hu:P.underlying u=some (.int kk))(hte:cN P e=some te)
  {base:Option Addr}{len cap:Nat}{n:Nat}{c1 c2:List D}(h1:Src w L F U te.size (.slice base len cap) len c1)(h2:c2=l6 te n)
  (hg:cap<len+n)(hf:fits (len+n) te.bytes){H':bR}(hH:∀i o,H' i=some o→H i=some o){id:Id}{U':Id→Prop}(hid:¬U id)(hU:∀i,U i→U' i)(hid':U' id):
  ∃v w' L',(Builtin.append_ #[t,u] ty #[.slice base len cap,.int .i64 n]).run P w= .ok v w'∧OkW G w' L' F U' (cp H' id (some ⟨c1++c2,false,false⟩))∧
   bw w' L' F U' (.arr id te.size 0 (len+n)) v∧dH H w L F U (cp H' id (some ⟨c1++c2,false,false⟩)) w' L' F U':=by
 obtain⟨i,z,d,g1,g2,g3,rfl⟩:=jg hte;have hz:=rz hte;dsimp only at h1 h2 hf ⊢;simp only[aG,cG]at hz;obtain⟨f1,r1,v1⟩:=h1.run (P:=P) (w':=w.drew) rfl;obtain⟨f2,hf2⟩:∃f2:Nat→Value,f2=fun j=>z.cells[j % z.cells.size]! :=⟨_,rfl⟩;have hz':z.cells.size=i.size:=by have h:=rz hte;simpa using h
 have v2:∀j,j<n*i.size→bw w L F U ((c2).getD j .junk) (f2 j):=by grind[yT]
 have hnews:Builtin.zeroCells z.cells n=((List.range (n*i.size)).map f2).toArray:=by rw[hf2];exact yS hz'
 have l2:c2.length=n*i.size:=by rw[h2,MA]
 obtain⟨a',cap',he,_,_,l1,_⟩:=h1;have hrun:=HA (P:=P) (w:=w) (ty:=ty) ht hu g1 g2 hz' r1 hg hf;rw[hnews]at hrun;have hge:=wE w (len+n) cap e;generalize grownCap w (len+n) cap e=gc at hrun hge;have hp:=j'.drewAlloc w (.cells (((List.range (len*i.size)).map f1).toArray++((List.range (n*i.size)).map f2).toArray++Builtin.zeroCells z.cells (gc-(len+n))) e);have hsub:=hok.sub hH;obtain⟨k1,k2⟩:=vl hsub hp (cells:=c1++c2) hid hU hid' ap (fun j hj=>by grind[Array.getElem?_append_right]) false;refine⟨_,_,_,hrun,k1,?_,((dH.refl H w L F U).sub hH).trans k2⟩;simp only[bw];refine⟨hid',_,_,rfl,ae,hf.1,.inr ⟨qQr,qQr,qQr,fun cs T fr hcs=>?_⟩⟩;have hL:fj L id ⟨w.heap.size,0,false⟩ id=⟨w.heap.size,0,false⟩:=by simp[fj]
 rw[hL]at hcs ⊢;rw[hp.new]at hcs;simp only[aL,eA]at hcs;obtain⟨rfl,_,_⟩:=hcs;have e1:gc*i.size=len*i.size+n*i.size+(gc-(len+n))*i.size:=by rw[←ci,←ci];congr 1;omega
 simp_all[Builtin.zeroCells]
theorem WL (hok:OkW G w L F U H){t u ty e:TypeId}{te:TI}{kk:IntKind}(ht:P.underlying t=some (.slice e))(hu:P.underlying u=some (.int kk))(hte:cN P e=some te)
  {aid:Id}{s len:Nat}{vx:Value}{n:Nat}{c2:List D}(hx:bw w L F U (.arr aid te.size s len) vx){o:O}(ho:H aid=some o)(hb:s+len*te.size≤o.cells.length)
  (h2:c2=l6 te n)(hone:c2.all fh=true)(hs:0<te.size)(hf:fits (len+n) te.bytes){id:Id}{U':Id→Prop}(hid:¬U id)(hU:∀i,U i→U' i)(hid':U' id):
  ∃v w' L',(Builtin.append_ #[t,u] ty #[vx,.int .i64 n]).run P w= .ok v w'∧
   OkW G w' L' F U' (cp (cp H aid none) id (some ⟨(o.cells.drop s).take (len*te.size)++c2,false,o.virt&&((o.cells.drop s).take (len*te.size)++c2).isEmpty⟩))∧
   bw w' L' F U' (.arr id te.size 0 (len+n)) v∧
   dH H w L F U (cp (cp H aid none) id (some ⟨(o.cells.drop s).take (len*te.size)++c2,false,o.virt&&((o.cells.drop s).take (len*te.size)++c2).isEmpty⟩)) w' L' F U':=by
 have h1:=Dv hok hx ho hb;have hx':=hx;simp only[bw]at hx';obtain⟨hUa,a,cap,rfl,q1,q2,q3⟩:=hx';have l2:c2.length=n*te.size:=by rw[h2,MA]
 have hsub:∀i x,cp H aid none i=some x→H i=some x:=by simp_all[cp]
 have hne:id≠aid:=by rintro rfl;exact hid hUa
 have hlen1:((o.cells.drop s).take (len*te.size)).length=len*te.size:=ao
 rcases aA cap (len+n)with hg|hg
 ·have he:(o.virt&&((o.cells.drop s).take (len*te.size)++c2).isEmpty)=false:=by
   have:0<c2.length:=by rw[l2];exact Nat.mul_pos ae hs
   cases c2 with
   |nil=>grind
   |cons=>simp
  rw[he];exact WM hok ht hu hte h1 h2 hg hf hsub hid hU hid'
 ·obtain⟨i,z,d,g1,g2,g3,rfl⟩:=jg hte;dsimp only at*;obtain⟨f2,hf2⟩:∃f2:Nat→Value,f2=fun j=>z.cells[j % z.cells.size]! :=⟨_,rfl⟩;have hz':z.cells.size=i.size:=by have h:=rz hte;simpa using h
  have v2:∀j,j<n*i.size→bw w L F U ((c2).getD j .junk) (f2 j):=by grind[yT]
  have hnews:Builtin.zeroCells z.cells n=((List.range (n*i.size)).map f2).toArray:=by rw[hf2];exact yS hz'
  cases hv:(L aid).3
  ·
   obtain⟨_,cs,T,hblk,hfit,hcell⟩:=iL (hok.live aid o ho).2 hv;have hL':fj L id ⟨(L aid).1,(L aid).2+s,false⟩ id=⟨(L aid).1,(L aid).2+s,false⟩:=by simp[fj]
   have hLo:∀j,U j→fj L id ⟨(L aid).1,(L aid).2+s,false⟩ j=L j:=by grind[fj]
   have hcapn:n=0∨(a=some ⟨(L aid).1,(L aid).2+s,none⟩∧(L aid).2+s+cap*i.size≤cs.size):=by
    rcases q3 with q3|⟨q3,_,_,q4⟩
    ·omega
    ·grind
   have hroom:(L aid).2+s+len*i.size+n*i.size≤cs.size:=by
    rcases hcapn with rfl|⟨_,h⟩
    ·omega
    ·have:(len+n)*i.size≤cap*i.size:=bW _ hg;grind
   have hnl:((List.range (n*i.size)).map f2).length=n*i.size:=ak
   have hone':∀u∈(List.range (n*i.size)).map f2,u.oneCell'=true:=by
    intro u hu';obtain⟨j,hj,rfl⟩:=be.1 hu';have hj':j<n*i.size:=by simpa using hj
    rw[cB]at hone;refine wR (v2 j hj') (hone _ ?_);rw[av,ay ae];exact ap
   have hrun:=ux (P:=P) (b:=(L aid).1) (off:=(L aid).2+s+len*i.size) (T:=T) ((List.range (n*i.size)).map f2) 0 w cs hblk hone' ae
   have key:=wV hok ho hv hblk (qm ((List.range (n*i.size)).map f2) 0 ((L aid).2+s+len*i.size) cs) (fun q hq=>by rw[pg _ _ _ _ _ (by rw[hnl];omega),az ae]) (id':=id)
    (o':=⟨(o.cells.drop s).take (len*i.size)++c2,false,o.virt&&((o.cells.drop s).take (len*i.size)++c2).isEmpty⟩) (L':=fj L id ⟨(L aid).1,(L aid).2+s,false⟩) (U':=U') hU hid' hLo qWe ap qWe (.inr hid)
    ap (fun j hj=>by
     simp only[aD,hlen1,l2]at hj;rw[hL',pg _ _ _ _ _ ae,hnl];dsimp only;by_cases hj1:j<len*i.size
     ·rw[az ae,qk ae,Hx hj1,cz];grind
     ·have hj2:j-len*i.size<n*i.size:=ae
      have e2:(L aid).2+s+j-((L aid).2+s+len*i.size+0)=j-len*i.size:=ae
      rw[aF ae,ql ae,hlen1,e2];grind)
   refine⟨.slice a (len+n) cap,_,_,?_,by simpa using key.1,?_,ap⟩
   ·refine yn (P:=P) (w:=w) (ty:=ty) ht hu g1 g2 hz' (by have:=hf.1;omega) (bz (bW _ ae) hf.2) hg (fun x hx=>?_) (fun hn=>?_)
    ·grind[storeCells,mQ]
    simp_all[zx]
   ·simp only[bw];refine⟨hid',a,cap,rfl,hg,hf.1,?_⟩;rcases q3 with q3|⟨q3,_,q5,q4⟩
    ·omega
    ·refine .inr ⟨by rw[hL',q3];simp,qWe,by rw[hL',uR];exact q5,fun cs1 T1 fr1 h=>?_⟩;rw[hL']at h ⊢;rw[qu (pe hblk)]at h;simp only[aL,eA]at h;obtain⟨rfl,_,_⟩:=h;simp_all[qm]
  ·
   have hor:=(hok.live aid o ho).2;simp only[iT,hv,cJ]at hor;obtain⟨hor1,hor2⟩:=hor;have hcap:cap=0:=by
    rcases q3 with q3|⟨_,q3,_⟩
    ·exact q3
    ·grind
   subst hcap;obtain rfl:len=0:=ae
   obtain rfl:n=0:=ae
   have hc2:c2=[]:=ap
   subst hc2;obtain⟨k1,k2⟩:=tw (hok.sub hsub) hid hU hid' false;refine⟨.slice a 0 0,w,fj L id ⟨0,0,true⟩,?_,ap,?_,by simpa[hor2]using((dH.refl H w L F U).sub hsub).trans k2⟩
   ·have:=yn (P:=P) (w:=w) (ty:=ty) (w':=w) ht hu g1 g2 hz' (base:=a) (sLen:=0) (sCap:=0) (n:=0) ae ak ae (by simp_all[storeCells]) (fun _=>rfl);omega
   grind[bw]
theorem V9 (hok:OkW G w L F U H){t u ty e:TypeId}{te:TI}{kk:IntKind}(ht:P.underlying t=some (.slice e))(hu:P.underlying u=some (.int kk))(hte:cN P e=some te)
  {base:Option Addr}{cap:Nat}{xs ys:List FD}(hx:dD w F (.slice base xs.length cap) (.sl xs))(h2:bA ys=l6 te ys.length)(hlx:dP xs te.size)(hly:dP ys te.size)
  (hg:cap<xs.length+ys.length)(hf:fits (xs.length+ys.length) te.bytes){H':bR}(hH:∀i o,H' i=some o→H i=some o){id:Id}{U':Id→Prop}(hid:¬U id)(hU:∀i,U i→U' i)(hid':U' id):
  ∃v w' L' F',(Builtin.append_ #[t,u] ty #[.slice base xs.length cap,.int .i64 ys.length]).run P w= .ok v w'∧OkW G w' L' F' U' (cp H' id (some tok))∧
   bw w' L' F' U' (.ow id te.size (xs++ys)) v∧dH H w L F U (cp H' id (some tok)) w' L' F' U':=by
 have h1:=sD (L:=L) (U:=U) hx hlx;obtain⟨i,z,d,g1,g2,g3,rfl⟩:=jg hte;have hz:=rz hte;dsimp only at*;simp only[aG,cG]at hz;obtain⟨f1,r1,v1⟩:=h1.run (P:=P) (w':=w.drew) rfl;obtain⟨f2,hf2⟩:∃f2:Nat→Value,f2=fun j=>z.cells[j % z.cells.size]! :=⟨_,rfl⟩;have hz':z.cells.size=i.size:=by have h:=rz hte;simpa using h
 have v2:∀j,j<ys.length*i.size→bw w L F U ((bA ys).getD j .junk) (f2 j):=by grind[yT]
 have hnews:Builtin.zeroCells z.cells ys.length=((List.range (ys.length*i.size)).map f2).toArray:=by rw[hf2];exact yS hz'
 have hrun:=HA (P:=P) (w:=w) (ty:=ty) ht hu g1 g2 hz' r1 hg hf;rw[hnews]at hrun;have hge:=wE w (xs.length+ys.length) cap e;generalize grownCap w (xs.length+ys.length) cap e=gc at hrun hge;have hp:=j'.drewAlloc w (.cells (((List.range (xs.length*i.size)).map f1).toArray++((List.range (ys.length*i.size)).map f2).toArray++Builtin.zeroCells z.cells (gc-(xs.length+ys.length))) e);have hsub:=hok.sub hH;have hsz:((((List.range (xs.length*i.size)).map f1).toArray++((List.range (ys.length*i.size)).map f2).toArray++Builtin.zeroCells z.cells (gc-(xs.length+ys.length)))).size=xs.length*i.size+ys.length*i.size+(gc-(xs.length+ys.length))*i.size:=by simp[Builtin.zeroCells,hz]
 have hmul:(xs.length+ys.length)*i.size=xs.length*i.size+ys.length*i.size:=ci _ _ _;obtain⟨k1,k2⟩:=De hsub hp (s:=(xs.length+ys.length)*i.size) (cells:=[]) hid hU hid' ap ap false true;refine⟨_,_,_,_,hrun,k1,?_,((dH.refl H w L F U).sub hH).trans k2⟩;have hlall:dP (xs++ys) i.size:=fun x hx=>by
  rcases aO.1 hx with h|h
  ·exact hlx x h
  ·exact hly x h
 have hfl:bA (xs++ys)=bA xs++bA ys:=by simp[bA]
 have hll:=mw (jJ hlx);have hll2:=mw (jJ hly);have ex:=k2.ext hsub;have key:dD (w.drew.alloc (.cells (((List.range (xs.length*i.size)).map f1).toArray++((List.range (ys.length*i.size)).map f2).toArray++Builtin.zeroCells z.cells (gc-(xs.length+ys.length))) e)) (fun b k=>F b k∨(b=w.heap.size∧k<(xs.length+ys.length)*i.size)) (.slice (some ⟨w.heap.size,0,none⟩) (xs++ys).length gc) (.sl (xs++ys)):=by
  refine yY (L:=L) (U:=U) hlall ap (by rw[aD];exact hf.1) (fun k hk=>?_) (fun k hk=>?_)
  ·grind
  ·rw[aD,hmul]at hk;rw[nA hp.new,bE,hfl];by_cases hj1:k<xs.length*i.size
   ·refine⟨f1 k,?_,?_⟩
    ·grind
    ·have h3:=v1 k hj1;rw[qk ae];obtain⟨x,hx⟩:=sC (xs:=xs) (k:=k) ae;rw[hx]at h3 ⊢;exact h3.mono_ow ex.fk ex.f
   ·have hj2:k-xs.length*i.size<ys.length*i.size:=ae
    refine⟨f2 (k-xs.length*i.size),?_,?_⟩
    ·grind
    ·have h3:=v2 _ hj2;rw[ql ae,hll];obtain⟨x,hx⟩:=sC (xs:=ys) (k:=k-xs.length*i.size) ae;rw[hx]at h3 ⊢;exact h3.mono_ow ex.fk ex.f
 simp only[bw];rw[aD]at key;refine⟨hid',key,some ⟨w.heap.size,0,none⟩,gc,ak,.inr ⟨w.heap.size,0,rfl,by simp_all[fj],ak,fun cs T fr hcs=>?_⟩⟩;rw[hp.new]at hcs;simp only[aL,eA]at hcs;obtain⟨rfl,_,_⟩:=hcs;rw[hsz,bE,←ci,←ci];grind
theorem XS (hok:OkW G w L F U H){t u ty e:TypeId}{te:TI}{kk:IntKind}(ht:P.underlying t=some (.slice e))(hu:P.underlying u=some (.int kk))(hte:cN P e=some te)
  {aid:Id}{vx:Value}{xs ys:List FD}(hx:bw w L F U (.ow aid te.size xs) vx){o:O}(ho:H aid=some o)(h2:bA ys=l6 te ys.length)(hlx:dP xs te.size)(hly:dP ys te.size)(hone:(bA ys).all fh=true)
  (hf:fits (xs.length+ys.length) te.bytes){id:Id}{U':Id→Prop}(hid:¬U id)(hU:∀i,U i→U' i)(hid':U' id):
  ∃v w' L' F',(Builtin.append_ #[t,u] ty #[vx,.int .i64 ys.length]).run P w= .ok v w'∧OkW G w' L' F' U' (cp (cp H aid none) id (some tok))∧
   bw w' L' F' U' (.ow id te.size (xs++ys)) v∧dH H w L F U (cp (cp H aid none) id (some tok)) w' L' F' U':=by
 simp only[bw]at hx;obtain⟨hUa,hx,a,cap,rfl,hcap⟩:=hx;have hle:xs.length≤cap:=by obtain⟨a',cap',he,h1,_⟩:=hx.sl_inv;injection he with _ _ e3;omega
 have hsub:∀i x,cp H aid none i=some x→H i=some x:=by simp_all[cp]
 have hne:id≠aid:=by rintro rfl;exact hid hUa
 rcases aA cap (xs.length+ys.length)with hg|hg
 ·exact V9 hok ht hu hte hx h2 hlx hly hg hf hsub hid hU hid'
 obtain⟨i,z,d,g1,g2,g3,rfl⟩:=jg hte;dsimp only at*;obtain⟨f2,hf2⟩:∃f2:Nat→Value,f2=fun j=>z.cells[j % z.cells.size]! :=⟨_,rfl⟩;have hz':z.cells.size=i.size:=by have h:=rz hte;simpa using h
 have v2:∀j,j<ys.length*i.size→bw w L F U ((bA ys).getD j .junk) (f2 j):=by grind[yT]
 have hnews:Builtin.zeroCells z.cells ys.length=((List.range (ys.length*i.size)).map f2).toArray:=by rw[hf2];exact yS hz'
 rcases hcap with hcap|⟨b,off,rfl,hLa,hlt,hsz⟩
 ·
  have hy0:ys=[]:=bG ae;subst hy0;obtain⟨k1,k2⟩:=tw (hok.sub hsub) hid hU hid' false;refine⟨.slice a xs.length cap,w,fj L id ⟨0,0,true⟩,F,?_,k1,?_,((dH.refl H w L F U).sub hsub).trans k2⟩
  ·have:=yn (P:=P) (w:=w) (ty:=ty) (w':=w) ht hu g1 g2 hz' (base:=a) (sLen:=xs.length) (sCap:=cap) (n:=0) ae ak ae (by simp_all[storeCells]) (fun _=>rfl);omega
  grind[bw]
 ·have hv:(L aid).3=false:=by rw[hLa]
  obtain⟨hnF,cs,T,hblk,hfit,_⟩:=iL (hok.live aid o ho).2 hv;have hLa1:(L aid).1=b:=by rw[hLa]
  have hLa2:(L aid).2=off+xs.length*i.size:=by rw[hLa]
  rw[hLa1]at hblk;have hcs:=hsz _ _ _ hblk;have hmul:(xs.length+ys.length)*i.size=xs.length*i.size+ys.length*i.size:=ci _ _ _;have hroom:off+xs.length*i.size+ys.length*i.size≤cs.size:=by have:(xs.length+ys.length)*i.size≤cap*i.size:=bW _ hg;omega
  have hnl:((List.range (ys.length*i.size)).map f2).length=ys.length*i.size:=ak
  have hll2:=mw (jJ hly);have hone':∀u∈(List.range (ys.length*i.size)).map f2,u.oneCell'=true:=by
   intro u hu';obtain⟨j,hj,rfl⟩:=be.1 hu';have hj':j<ys.length*i.size:=by simpa using hj
   rw[cB]at hone;refine wR (v2 j hj') (hone _ ?_);rw[av,ay ae];exact ap
  have hrun:=ux (P:=P) (b:=b) (off:=off+xs.length*i.size) (T:=T) ((List.range (ys.length*i.size)).map f2) 0 w cs hblk hone' ae;have hL':fj L id ⟨b,off+(xs.length+ys.length)*i.size,false⟩ id=⟨b,off+(xs.length+ys.length)*i.size,false⟩:=by simp[fj]
  have hLo:∀j,U j→fj L id ⟨b,off+(xs.length+ys.length)*i.size,false⟩ j=L j:=by grind[fj]
  have hlow:∀q,q<off+xs.length*i.size→((((List.range (ys.length*i.size)).map f2).zipIdx 0).foldl (fun cs (p:Value×Nat)=>cs.setIfInBounds (off+xs.length*i.size+p.2) p.1) cs)[q]?=cs[q]?:=fun q hq=>by rw[pg _ _ _ _ _ ae,az ae]
  have key:=B6 hok ho hv (by rw[hLa1];exact hblk) (qm ((List.range (ys.length*i.size)).map f2) 0 (off+xs.length*i.size) cs) (fun q hq=>hlow q (by rw[←hLa2];exact hq)) (id':=id)
   (o':=tok) (L':=fj L id ⟨b,off+(xs.length+ys.length)*i.size,false⟩) (U':=U') hU hid' hLo ap ap qWe (.inr hid)
   (F':=fun b' k=>F b' k∨(b'=b∧off+xs.length*i.size≤k∧k<off+(xs.length+ys.length)*i.size)) ap ap
   (by grind[tok]) (by simp_all[tok])
  rw[hLa1]at key;obtain⟨k1,k2⟩:=key;have e:=k2.ext hok;refine⟨.slice (some ⟨b,off,none⟩) (xs.length+ys.length) cap,_,_,_,?_,k1,?_,k2⟩
  ·refine yn (P:=P) (w:=w) (ty:=ty) ht hu g1 g2 hz' (by have:=hf.1;omega) (bz ap hf.2) hg (fun x hx=>?_) ap;grind[mQ]
  ·have hlall:dP (xs++ys) i.size:=fun x hx=>by
    rcases aO.1 hx with h|h
    ·exact hlx x h
    ·exact hly x h
   have hfl:bA (xs++ys)=bA xs++bA ys:=by simp[bA]
   have hll:=mw (jJ hlx);obtain⟨a1,c1,he1,q1,q2,_,q4⟩:=sD (L:=L) (U:=U) hx hlx;injection he1 with e1 _ _;subst e1;simp only[bw];refine⟨hid',?_,some ⟨b,off,none⟩,cap,ak,.inr ⟨b,off,rfl,ap,by rw[uR];omega,fun cs1 T1 fr1 h=>?_⟩⟩
   ·have hap:(xs++ys).length=xs.length+ys.length:=aD;have key2:=@yY (w:=js w b (.cells ((((List.range (ys.length*i.size)).map f2).zipIdx 0).foldl (fun cs (p:Value×Nat)=>cs.setIfInBounds (off+xs.length*i.size+p.2) p.1) cs) T (0,0))) (F:=fun b' k=>F b' k∨(b'=b∧off+xs.length*i.size≤k∧k<off+(xs.length+ys.length)*i.size)) (L:=L) (U:=U) (xs:=xs++ys) (es:=i.size) (b:=b) (off:=off) (cap:=cap);rw[hap]at key2;refine key2 hlall hg hf.1 (fun k hk=>?_) (fun k hk=>?_)
    ·rw[hmul]at hk;by_cases hj1:k<xs.length*i.size
     ·left;have hpos:0<xs.length:=by
       rcases cj xs.length with h|h
       ·rw[h]at hj1;omega
       ·exact h
      obtain⟨_,_,_,_,_,h3⟩:=hx.sl_inv;rename_i he _ _;obtain⟨b2,off2,es2,vs2,hab,hF2,hes2,_⟩:=h3 hpos;injection he with he1 _ _;rw[←he1]at hab;injection hab with hab;injection hab with hb2 hoff2;have hes3:es2=i.size:=by rw[←hes2 0 hpos,jJ hlx 0 hpos]
      subst hb2 hoff2 hes3;exact hF2 k hj1
     omega
    ·rw[hmul]at hk;rw[nA (qu (pe hblk)),hfl];by_cases hj1:k<xs.length*i.size
     ·have hpos:0<xs.length:=by
       rcases cj xs.length with h|h
       ·rw[h]at hj1;omega
       ·exact h
      obtain⟨b3,o3,hab,hc3⟩:=q4 hpos;injection hab with hab;injection hab with hb3 ho3;subst hb3 ho3;obtain⟨u,u1,u2⟩:=hc3 k ae;rw[tE hblk]at u1;rw[hlow _ ae];refine⟨u,u1,?_⟩;rw[qk ae];obtain⟨x,hx⟩:=sC (xs:=xs) (k:=k) ae;rw[hx]at u2 ⊢;exact u2.mono_ow e.fk e.f
     ·have hj2:k-xs.length*i.size<ys.length*i.size:=ae
      rw[pg _ _ _ _ _ ae,hnl,aF ae];have e2:off+k-(off+xs.length*i.size+0)=k-xs.length*i.size:=ae
      refine⟨f2 (k-xs.length*i.size),by rw[e2];simp[hj2],?_⟩;have h3:=v2 _ hj2;rw[ql ae,hll];obtain⟨x,hx⟩:=sC (xs:=ys) (k:=k-xs.length*i.size) ae;rw[hx]at h3 ⊢;exact h3.mono_ow e.fk e.f
   ·rw[qu (pe hblk)]at h;simp only[aL,eA]at h;obtain⟨rfl,_,_⟩:=h;rw[qm];omega
end
section
variable {P:Program} {G:Nat→List FD} {T:Tbl} {N tag0:Nat} {am:Nat→Bool} {st:St} {a:Act} {w:World} {L:Loc} {F:Nat→Nat→Prop} {K:St→Prop} {ops:Array Oper}
def AP (P:Program)(G:Nat→List FD)(N tag:Nat)(t u:TypeId)(x y:Operand)(d:Nat)(K:St→Prop)(st:St):Prop:=
  ∃te kk m,fG P t=some te∧P.underlying u=some (.int kk)∧d<N∧st.ev G y= .fz (.i .i64 m)∧0≤m∧
    ((∃id xs ys o,st.ev G x= .ow id te.size xs∧ys.length=m.toNat∧bA ys=l6 te m.toNat∧st.H id=some o∧dP xs te.size∧dP ys te.size∧(bA ys).all fh=true∧fits (xs.length+m.toNat) te.bytes∧
        K ({st with H:=cp st.H id none}.new (tag,st.n) tok (some d) (.ow (tag,st.n) te.size (xs++ys))))∨
     (∃id s len o,st.ev G x= .arr id te.size s len∧st.H id=some o∧s+len*te.size≤o.cells.length∧(l6 te m.toNat).all fh=true∧0<te.size∧fits (len+m.toNat) te.bytes∧
        K ({st with H:=cp st.H id none}.new (tag,st.n) ⟨(o.cells.drop s).take (len*te.size)++l6 te m.toNat,false,o.virt&&((o.cells.drop s).take (len*te.size)++l6 te m.toNat).isEmpty⟩ (some d) (.arr (tag,st.n) te.size 0 (len+m.toNat)))))
theorem Sf {o:Oper}{c:Call}{Q:Exit→Act→World→Prop}(h:Rel G N st a w L F)(ho:o.op= .call c)(hc:c.callee= .builtin .append){x y:Operand}{t u:TypeId}(ha:c.args.toList=[x,y])(ht:c.argTypes.toList=[t,u])
  {d tag:Nat}(hd:o.dst=some d)(hs:AP P G N tag t u x y d K st):o.wp P a w (Sat G N st w L F K) Q:=by
 obtain⟨te,kk,m,hte,hu,hdN,hy,h0,hs⟩:=hs;obtain⟨e,hut,he⟩:=pf hte;have hyr:=h.ev y;rw[hy]at hyr;obtain⟨hyv,_⟩:=mH hyr;have hm:(m.toNat:Int)=m:=ae
 have hyv':a.eval y= .int .i64 (m.toNat:Int):=by rw[hm];exact hyv
 have hdk:fI N o.dst=true:=by simp[hd,fI,hdN]
 rcases hs with⟨id,xs,ys,ob,hx,hl,hz,hob,h2,h3,h4,h5,hK⟩|⟨id,s,len,ob,hx,hob,h1,h2,h3,h5,hK⟩
 ·have hxr:=h.ev x;rw[hx]at hxr;obtain⟨v,w',L',F',g1,g2,g3,g4⟩:=XS (ty:=o.type) h.ok hut hu he hxr hob ap h2 h3 h4 ap (id:=(tag,st.n)) (U':=Ub (st.n+1)) qH qC qB;grind[qK,td]
 ·have hxr:=h.ev x;rw[hx]at hxr;obtain⟨v,w',L',g1,g2,g3,g4⟩:=WL (ty:=o.type) h.ok hut hu he hxr hob h1 rfl h2 h3 h5 (id:=(tag,st.n)) (U':=Ub (st.n+1)) qH qC qB;grind[qK,td]
theorem YM (hT:b9 P G T){Q:Exit→St→Prop}{rid:Nat}(pre post:List Oper){o:Oper}{c:Call}{x y t u d}(hops:ops.toList=pre++o::post)(ho:o.op= .call c)(hc:c.callee= .builtin .append)(ha:c.args.toList=[x,y])(ht:c.argTypes.toList=[t,u])(hd:o.dst=some d)(hg:o.guard=none)
  (h:lH P G T N tag0 am ops pre (AP P G N (tag0+d) t u x y d fun s=>lH P G T N tag0 am ops post (Q .normal) s) st):W P G N (.region rid ops false) Q st:=by
 intro a w L F hr;refine wp_region ?_;have hget:∀(j:Nat) (o':Oper),ops.toList[j]?=some o'→ops[j]?=some o':=ap
 have e:List.range ops.size=(List.range pre.length).map (0+·)++(pre.length::((List.range post.length).map (pre.length+1+·)++[])):=by
  have hs:ops.size=pre.length+(1+post.length):=by rw[←cG,hops];simp;omega
  rw[hs,List.range_add,bP];congr 1
  ·simp
  ·rw[jo 1,gf];simp only[aM,bX,bJ];congr 1;grind[List.map_congr_left]
 rw[e];refine wT hT (Q':=fun e a' w'=>Sat G N st w L F (Q e) a' w') pre 0 (fun j o' h'=>ap) st a w L F hr h ?_;rintro a1 w1 ⟨st1,L1,F1,h1,h2,h3⟩;have h0:ops[pre.length]?=some o:=ap
 have hw:Region.wanted o (yielded ops a1.tmps)=true:=by simp[Region.wanted,hg]
 simp only[wpOps,h0,hw,cJ];refine .inl (gm (fun a2 w2 hs=>?_) (Sf (K:=fun s=>lH P G T N tag0 am ops post (Q .normal) s) h2 ho hc ha ht hd h1));obtain⟨st2,L2,F2,k1,k2,k3⟩:=hs;exact wT hT (Q':=fun e a' w'=>Sat G N st w L F (Q e) a' w') post (pre.length+1) (fun j o' h'=>by
  grind[List.getElem?_append_right]) st2 a2 w2 L2 F2 k2 k1
  (fun a3 w3 hs=>by simp only[wpOps];exact(hs.trans k3).trans h3)
def tL (P:Program)(G:Nat→List FD)(N tag:Nat)(t u:TypeId)(x y:Operand)(d:Nat)(st:St)[k:Kn St]:Prop:=AP P G N tag t u x y d k.run st
theorem Jz (hT:b9 P G T){q:Exit→St→Prop}{rid:Nat}(tag0:Nat)(am:Nat→Bool)(j:Nat){o:Oper}{c:Call}{x y t u d}(hj:ops.toList[j]?=some o)(ho:o.op= .call c)(hc:c.callee= .builtin .append)(ha:c.args.toList=[x,y])(ht:c.argTypes.toList=[t,u])(hd:o.dst=some d)(hg:o.guard=none)
  (h:@oB P G T N tag0 am ops (ops.toList.take j) st ⟨fun s=>@tL P G N (tag0+d) t u x y d s ⟨fun s=>@oB P G T N tag0 am ops (ops.toList.drop (j+1)) s ⟨q .normal⟩⟩⟩):@WK P G N (.region rid ops false) st ⟨q⟩:=by
 unfold WK;unfold oB at h;have hlt:=(dw.1 hj).1;have he:=(dw.1 hj).2;refine YM hT (ops.toList.take j) (ops.toList.drop (j+1)) ?_ ho hc ha ht hd hg h;grind[List.drop_eq_getElem_cons,List.take_append_drop]
theorem tL.ow {t u x y d tag te kk m id xs}{kc:St→Prop}(ys:List FD)(hte:fG P t=some te)(hu:P.underlying u=some (.int kk))(hd:d<N)(hx:st.ev G x= .ow id te.size xs)(hy:st.ev G y= .fz (.i .i64 m))(h0:0≤m)
  {o:O}(hl:ys.length=m.toNat)(hz:bA ys=l6 te m.toNat)(ho:st.H id=some o)(h2:dP xs te.size)(h3:dP ys te.size)(h4:(bA ys).all fh=true)(h5:fits (xs.length+m.toNat) te.bytes)
  (h:kc ({st with H:=cp st.H id none}.new (tag,st.n) tok (some d) (.ow (tag,st.n) te.size (xs++ys)))):@tL P G N tag t u x y d st ⟨kc⟩:=
 ⟨te,kk,m,hte,hu,hd,hy,h0,ap⟩
theorem tL.arr {t u x y d tag te kk m id s len}{kc:St→Prop}(hte:fG P t=some te)(hu:P.underlying u=some (.int kk))(hd:d<N)(hx:st.ev G x= .arr id te.size s len)(hy:st.ev G y= .fz (.i .i64 m))(h0:0≤m)
  {o:O}(ho:st.H id=some o)(h1:s+len*te.size≤o.cells.length)(h2:(l6 te m.toNat).all fh=true)(h3:0<te.size)(h5:fits (len+m.toNat) te.bytes)
  (h:kc ({st with H:=cp st.H id none}.new (tag,st.n) ⟨(o.cells.drop s).take (len*te.size)++l6 te m.toNat,false,o.virt&&((o.cells.drop s).take (len*te.size)++l6 te m.toNat).isEmpty⟩ (some d) (.arr (tag,st.n) te.size 0 (len+m.toNat)))):@tL P G N tag t u x y d st ⟨kc⟩:=
 ⟨te,kk,m,hte,hu,hd,hy,h0,ap⟩
end
attribute [irreducible] tL
mutual
def fzD (id:Id)(xs:List FD):D→D
 | .arr i es s len=>if i=id∧es=1∧s=0∧len=xs.length then .fz (.sl xs)else .arr i es s len
 | .agg ds=> .agg (oF id xs ds)
 | .ptr i k=> .ptr i k
 | .fn f caps=> .fn f caps
 | .tup ds=> .tup ds
 | .junk=> .junk
 | .fz x=> .fz x
 | .full xs=> .full xs
 | .rp xs=> .rp xs
 | .ow i es xs=> .ow i es xs
def oF (id:Id)(xs:List FD):List D→List D
 |[]=>[]
 |d::ds=>fzD id xs d::oF id xs ds
end
theorem Cx (id:Id)(xs:List FD):∀l:List D,oF id xs l=l.map (fzD id xs)
 |[]=>rfl
 |d::l=>by rw[oF,Cx id xs l];rfl
section
variable {w:World} {L:Loc} {F F':Nat→Nat→Prop} {U:Id→Prop} {id:Id} {xs:List FD}
theorem sJ (hF:∀b k,F b k→F' b k):Ext w L F U w L F' U:=⟨fun _ h=>h,fun _ _=>rfl,hF,fun _ _ _=>rfl,aI _,ap⟩
mutual
theorem bw.fzd (hF:∀b k,F b k→F' b k)(hp:∀v,bw w L F U (.arr id 1 0 xs.length) v→dD w F' v (.sl xs)):
  ∀(d:D) (v:Value),bw w L F U d v→bw w L F' U (fzD id xs d) v
 | .arr i es s len,v,h=>by grind[fzD,bw]
 | .agg ds,v,h=>by rw[fzD];simp only[bw]at h ⊢;obtain⟨vs,h1,h2⟩:=h;exact⟨vs,h1,cA.fzd hF hp _ _ h2⟩
 | .ptr i k,v,h=>bw.ext (sJ hF) (.ptr i k) v h
 | .fn f caps,v,h=>bw.ext (sJ hF) (.fn f caps) v h
 | .tup ds,v,h=>bw.ext (sJ hF) (.tup ds) v h
 | .junk,v,h=>by simp_all[fzD,bw]
 | .fz x,v,h=>bw.ext (sJ hF) (.fz x) v h
 | .full xs,v,h=>bw.ext (sJ hF) (.full xs) v h
 | .rp xs,v,h=>bw.ext (sJ hF) (.rp xs) v h
 | .ow i es xs,v,h=>bw.ext (sJ hF) (.ow i es xs) v h
theorem cA.fzd (hF:∀b k,F b k→F' b k)(hp:∀v,bw w L F U (.arr id 1 0 xs.length) v→dD w F' v (.sl xs)):
  ∀(ds:List D) (vs:List Value),cA w L F U ds vs→cA w L F' U (oF id xs ds) vs
 |[],[],_=>by simp_all[oF,cA]
 |d::ds,v::vs,h=>by rw[oF];simp only[cA]at h ⊢;exact⟨bw.fzd hF hp d v h.1,cA.fzd hF hp ds vs h.2⟩
 |[],_::_,h=>by simp only[cA]at h
 |_::_,[],h=>by simp only[cA]at h
end
end
theorem LA:∀{ds:List D} {xs:List FD},D.toFDs ds=some xs→ds.length=xs.length∧∀j,j<xs.length→(ds.getD j .junk).toFD=some (xs.getD j .nilf)
 |[],xs,h=>by simp_all[D.toFDs]
 |d::ds,xs,h=>by
  rw[D.toFDs]at h;split at h
  ·rename_i x ys h1 h2;grind[LA h2]
  grind
section
variable {P:Program} {G:Nat→List FD} {N:Nat} {st:St}
theorem OI {id:Id}{xs:List FD}{o:O}(ho:st.H id=some o)(_hv:o.virt=true→xs=[])(hc:D.toFDs o.cells=some xs)(h1:∀x∈xs,x.cells=[x]):gH G N st ⟨fun t=>fzD id xs (st.fr t),cp st.H id none,st.n⟩:=by
 intro a w L F h;obtain⟨hu,hob⟩:=h.ok.live id _ ho;obtain⟨hlc,hgc⟩:=LA hc;obtain⟨F',hF'⟩:∃F':Nat→Nat→Prop,F'=fun b k=>F b k∨((L id).3=false∧b=(L id).1∧(L id).2≤k):=⟨_,rfl⟩;have hsub:∀b k,F b k→F' b k:=ap
 have e:Ext w L F (Ub st.n) w L F' (Ub st.n):=sJ hsub;have hold:∀id' o',cp st.H id none id'=some o'→id'≠id∧st.H id'=some o':=by simp_all[cp]
 have hfz:∀v,bw w L F (Ub st.n) (.arr id 1 0 xs.length) v→dD w F' v (.sl xs):=fun v hv'=>by
  simp only[bw]at hv';obtain⟨_,a',cap,rfl,g1,g2,g3⟩:=hv';refine dD.sl_mk g1 g2 fun hpos=>?_;rcases g3 with g3|⟨rfl,hL3,hlt,_⟩
  ·omega
  ·obtain⟨hnF,cs,T,hcs,hsz,hcell⟩:=iL hob hL3;have hL:dP xs 1:=fun x hx=>ap
   refine⟨(L id).1,(L id).2+0,1,fun i j=>cs.getD ((L id).2+(i*1+j)) undef,rfl,ap,jJ hL,fun i j hi hj=>?_,fun i j hi hj=>?_⟩
   ·obtain⟨u,hu1,_⟩:=hcell (i*1+j) ae;have he:cs.getD ((L id).2+(i*1+j)) undef=u:=by rw[cu,hu1];rfl
    rw[nA hcs,show(L id).2+0+i*1+j=(L id).2+(i*1+j) by omega,hu1];grind
   ·obtain rfl:j=0:=ae
    obtain⟨u,hu1,hu2⟩:=hcell (i*1+0) ae;have hx:=bw.toFD _ _ _ hu2 (by rw[show i*1+0=i by omega];exact hgc i hi);have he:cs.getD ((L id).2+(i*1+0)) undef=u:=by rw[cu,hu1];rfl
    have hm:xs.getD i .nilf∈xs:=by rw[av,ay hi];exact ap
    simp only;rw[he,h1 _ hm];exact hx.mono (fun _ _ _=>rfl) hsub
 refine⟨L,F',⟨⟨fun b k hb=>?_,fun id' o' h1=>?_,fun i1 i2 o1 o2 h1 h2=>h.ok.inj i1 i2 o1 o2 (hold _ _ h1).2 (hold _ _ h2).2,rH hsub (fun _ _ _=>rfl) h.ok.glob⟩,h.size,fun s=>bw.fzd hsub hfz _ _ (h.fr s),h.nd⟩,
  fun _ h=>h,fun _ _=>rfl,hsub,aI _,fun _ _ _=>rfl,fun _ _ _ _=>rfl,ap,fun b k hb=>?_,fun b k hb=>?_,rfl,rfl,rfl,aI _⟩
 ·rw[hF']at hb;rcases hb with hb|⟨h3,rfl,_⟩
  ·exact h.ok.fb b k hb
  ·exact h.ok.blk_lt ho h3
 ·obtain⟨hne,h2⟩:=hold _ _ h1;obtain⟨h3,h4⟩:=h.ok.live id' o' h2;refine⟨h3,h4.ext e h3 fun hv=>⟨rfl,fun k hk hb=>?_⟩⟩;rw[hF']at hb;rcases hb with hb|⟨hv3,hb,_⟩
  ·grind[iL]
  ·exact hne (h.ok.inj id' id _ _ h2 ho hv hv3 hb)
 ·rw[hF']at hb;rcases hb with hb|⟨hv3,rfl,hk⟩
  ·grind
  ·exact .inr (.inr ⟨id,_,ho,hv3,rfl,hk⟩)
 ·obtain⟨id',o',h1,h2,h3,h4⟩:=hb;exact .inr ⟨id',o',(hold _ _ h1).2,h2,h3,h4⟩
theorem wW {f:FuncId}{args args':List D}{H:bR}{n:Nat}{R:D→bR→Nat→Prop}(id:Id)(xs:List FD){o:O}(ho:H id=some o)(hv:o.virt=true→xs=[])(hc:D.toFDs o.cells=some xs)(h1:∀x∈xs,x.cells=[x])(ha:oF id xs args=args')
  (h:cS P G f args' (cp H id none) n R):cS P G f args H n R:=by
 subst ha;refine uF (by simp_all[Cx]) ?_ h;have e:(fun t=>fzD id xs (frL (lE 0 args) t))=frL (lE 0 (oF id xs args)):=by funext t;rw[←sx,←sx];simp only[rZ];rw[Cx,av,av,bp];cases args[t]?<;>rfl
 rw[←e];exact OI (st:=⟨frL (lE 0 args),H,n⟩) ho hv hc h1
end
section
attribute [local semireducible] BiK obK lT mD gG VvK XOK xp Cw y8 y9 DR w9 oB XCK DS wa uW wb dJ WK xy XEK
theorem OH {P:Program}{G:Nat→List FD}{T:Tbl}(hm:P.follows .mixedOrders=true)(hT:b9 P G T){f:FuncId}{fn:Func}{c:Code}{args:List D}{H:bR}{n:Nat}{R:D→bR→Nat→Prop}(tag0:Nat)(am:Nat→Bool)(hcall:cW P f)(hf:P.funcs[f]?=some fn)(hb:fn.body=some c){N:Nat}(hN:fn.ntmps=N)(hl:args.length≤N)
  (hd:mc am T c=true)(h:@XEK P G T N tag0 am c ⟨frL (lE 0 args),H,n⟩ ⟨fun e st=>@wb P fn e st ⟨R⟩⟩):cS P G f args H n R:=
 Io hcall hf hb hN hl (by rw[sx];exact tN hm hT _ _ _ hd h)
end
section
variable {P:Program} {G:Nat→List FD}
theorem cA.lastp {w:World}{L L':Loc}{F:Nat→Nat→Prop}{U U':Id→Prop}{p p':D}(hp:∀v,bw w L F U p v→bw w L' F U' p' v):∀{xs:List FD} {ds:List D} {vs:List Value},D.toFDs ds=some xs→cA w L F U (ds++[p]) vs→cA w L' F U' (xs.map .fz++[p']) vs:=by
 intro xs ds vs h hv;have key:∀(ds:List D) (vs:List Value),cA w L F U (ds++[p]) vs→∃us v,vs=us++[v]∧cA w L F U ds us∧bw w L F U p v:=by
  intro ds;induction ds with
  |nil=>
   intro vs hv
   match vs,hv with
   |[v],hv=>grind[cA]
   |[],hv=>simp[cA]at hv
   |_::_::_,hv=>simp[cA]at hv
  |cons d ds ih=>
   intro vs hv
   match vs,hv with
   |[],hv=>simp[cA]at hv
   |v::vs,hv=>grind[cA]
 have back:∀(ds:List D) (us:List Value) (v:Value),cA w L' F U' ds us→bw w L' F U' p' v→cA w L' F U' (ds++[p']) (us++[v]):=by
  intro ds;induction ds with
  |nil=>
   intro us v h1 h2
   match us,h1 with
   |[],_=>simp_all[cA]
   |_::_,h1=>simp[cA]at h1
  |cons d ds ih=>
   intro us v h1 h2
   match us,h1 with
   |[],h1=>simp[cA]at h1
   |u::us,h1=>simp_all[cA]
 obtain⟨us,v,rfl,h1,h2⟩:=key ds vs hv;exact back _ us v (h1.of_toFDs h) (hp v h2)
theorem wB {f:FuncId}{T:Nat}{sid:Id}{ds:List D}{xs cs cs':List FD}{r:D}{H:bR}{n:Nat}{R:D→bR→Nat→Prop}(ha:D.toFDs ds=some xs)
  (h:cS P G f (xs.map .fz++[.ptr (T,0) 0]) (hpL [((T,0),some ⟨cs.map .fz,true,false⟩)]) 1 (fun d H' _=>D.val d=some r∧H' (T,0)=some ⟨cs'.map .fz,true,false⟩))
  (ho:H sid=some ⟨cs.map .fz,true,false⟩)(hR:R r (cp H sid (some ⟨cs'.map .fz,true,false⟩)) n):cS P G f (ds++[.ptr sid 0]) H n R:=by
 refine⟨h.1,fun w L F vs hok hvs=>?_⟩;obtain⟨hUs,hrs⟩:=hok.live sid _ ho;have hv3:(L sid).3=false:=by
  cases hv:(L sid).3
  ·rfl
  ·simp_all[iT]
 obtain⟨r1,cs0,T0,r2,r3,r4⟩:=iL hrs hv3;obtain⟨L1,hL1⟩:∃L1:Loc,L1=fun _=>L sid:=⟨_,rfl⟩;have hL1':∀id,L1 id=L sid:=ap
 obtain⟨K,hK⟩:∃K:bR,K=hpL [((T,0),some ⟨cs.map .fz,true,false⟩)]:=⟨_,rfl⟩;have hKs:∀id o,K id=some o→id=(T,0)∧o=⟨cs.map .fz,true,false⟩:=fun id o e=>by rw[hK]at e;grind[hpL]
 have hK0:K (T,0)=some ⟨cs.map .fz,true,false⟩:=by rw[hK];simp[hpL]
 have hfzs:∀(zs:List FD) (j:Nat) (L2:Loc) (F2:Nat→Nat→Prop) (U2 U3:Id→Prop) (L3:Loc) (w2:World) (v:Value),bw w2 L2 F2 U2 ((zs.map D.fz).getD j .junk) v→bw w2 L3 F2 U3 ((zs.map D.fz).getD j .junk) v:=by grind[bw]
 have hok1:OkW G w L1 F (Ub 1) K:=by
  refine⟨hok.fb,fun id o e=>?_,fun id id' o o' e e' _ _ _=>?_,hok.glob⟩
  ·obtain⟨rfl,rfl⟩:=hKs id o e;refine⟨qQt,?_⟩;unfold iT;grind
  ·grind
 rw[←hK]at h;have hvs1:cA w L1 F (Ub 1) (xs.map .fz++[.ptr (T,0) 0]) vs:=by grind[cA.lastp,bw,Ub]
 refine(h.2 w L1 F vs hok1 hvs1).mono fun e w' he=>?_;obtain⟨v,d1,H1,n1,L2,F2,rfl,⟨hQ1,hQ2⟩,g1,g2,g3⟩:=he;have hL2:L2 (T,0)=L sid:=(g3.l (T,0) qQt).trans (hL1' _);have bk:∀b,Blk K L1 b→Blk H L b:=by rintro b ⟨id,o,e1,_,e3⟩;obtain⟨rfl,_⟩:=hKs id o e1;rw[hL1']at e3;exact⟨sid,_,ho,hv3,e3⟩
 have ok':∀b k,Own K L1 b k→(L sid).1=b∧(L sid).2≤k:=by rintro b k ⟨id,o,e1,_,e3,e4⟩;rw[hL1']at e3 e4;exact⟨e3,e4⟩
 have own:∀b k,Own K L1 b k→Own H L b k:=fun b k hb=>let⟨e1,e2⟩:=ok' b k hb;⟨sid,_,ho,hv3,e1,e2⟩;have ext:Ext w L F (Ub n) w' L F2 (Ub n):=⟨fun _ h=>h,fun _ _=>rfl,g3.f,fun b k hb=>g3.keepc b k (hok.fb b k hb) ap,g3.size,g3.shape⟩;have cas:∀id o,cp H sid (some ⟨cs'.map .fz,true,false⟩) id=some o→(id=sid∧o=⟨cs'.map .fz,true,false⟩)∨(id≠sid∧H id=some o):=by grind[cp]
 have some':∀id o,cp H sid (some ⟨cs'.map .fz,true,false⟩) id=some o→∃o',H id=some o':=ap
 refine⟨v,r,_,n,L,F2,rfl,hR,⟨g1.fb,fun id o e=>?_,fun id id' o o' e e' v1 v2 eb=>?_,g1.glob⟩,g2.val hQ1,?_⟩
 ·rcases cas id o e with⟨rfl,rfl⟩|⟨hne,e1⟩
  ·refine⟨hUs,?_⟩;have hl:=(g1.live _ _ hQ2).2;unfold iT at hl ⊢;grind
  ·obtain⟨a,b⟩:=hok.live id o e1;refine⟨a,b.ext ext a fun hv=>?_⟩;have hlt:=hok.blk_lt e1 hv;have nb:¬(L sid).1=(L id).1:=fun eq=>hne (hok.inj id sid _ _ e1 ho hv hv3 eq.symm);refine⟨g3.keep _ hlt ?_,fun k hk hF=>?_⟩
   ·rintro⟨id2,o2,e2,_,e3⟩;grind
   ·rcases g3.fnew _ _ hF with h|h|h
    all_goals grind[iL]
 ·obtain⟨o1,e1⟩:=some' _ _ e;obtain⟨o2,e2⟩:=some' _ _ e';exact hok.inj _ _ _ _ e1 e2 v1 v2 eb
 ·refine⟨fun _ h=>h,fun _ _=>rfl,g3.f,g3.size,fun b hb nb=>g3.keep b hb ap,fun b k hb no=>g3.keepc b k hb ap,g3.shape,fun b k hb=>?_,fun b k hb=>?_,g3.os,g3.tape,g3.output,g3.drawn⟩
  ·rcases g3.fnew b k hb with h|h|h
   all_goals grind
  ·obtain⟨id,o,e1,e2,e3,e4⟩:=hb;obtain⟨o',e1'⟩:=some' _ _ e1;exact .inr ⟨id,o',e1',e2,e3,e4⟩
end
section
variable {P:Program} {G:Nat→List FD} {w w':World} {L:Loc} {F:Nat→Nat→Prop} {U:Id→Prop} {H:bR}
theorem OY {a b:Array Obj}(hs:a.size≤b.size)(h:∀i,i<a.size→b[i]?=a[i]?):b=a++b.extract a.size b.size:=by
 apply fE;intro i;rcases aA i a.size with hi|hi
 ·rw[h i hi,Array.getElem?_append_left hi]
 ·rw[ib hi,Array.getElem?_extract];split
  ·rw[show a.size+(i-a.size)=i by omega]
  ·rw[fX ae]
theorem dH.grow {L':Loc}{F':Nat→Nat→Prop}{U':Id→Prop}{H':bR}(h:dH H0 w L F U H' w' L' F' U'):∃q os,w'=Sort.grow (w.drewN q) os:=by
 refine⟨w'.drawn-w.drawn,w'.heap.extract w.heap.size w'.heap.size,?_⟩;have h1:=OY h.size fun b hb=>h.keep b hb (by rintro⟨_,_,hh,_⟩;cases hh);have h2:w.drawn+(w'.drawn-w.drawn)=w'.drawn:=by have:=h.drawn;omega
 have h3:=h.os;have h4:=h.tape;have h5:=h.output;show w'={heap:=w.heap++w'.heap.extract w.heap.size w'.heap.size,tape:=w.tape,drawn:=w.drawn+(w'.drawn-w.drawn),os:=w.os,output:=w.output};rw[←h1,h2,←h3,←h4,←h5]
theorem YU {g:FuncId}{x y:FD}{z:Int}{v1 v2:Value}(hg:cS P G g [.fz x,.fz y] H0 0 (fun d _ _=>D.val d=some (.fz (.i .i64 z))))(hok:OkW G w L F (Ub 0) H0)
  (h1:dD w F v1 x)(h2:dD w F v2 y):Calls P g #[v1,v2] w fun e w'=>e= .returned (.int .i64 z)∧∃q os,w'=Sort.grow (w.drewN q) os:=by
 refine(hg.2 w L F [v1,v2] hok (by simp only[cA,bw];exact⟨h1,h2,trivial⟩)).mono fun e w' he=>?_;obtain⟨v,d,H',n',L',F',rfl,hQ,_,hv,hst⟩:=he;have h3:=bw.val (L':=L') (U':=Ub n') hv hQ;simp only[bw]at h3;obtain⟨rfl,_⟩:=h3.int_inv;exact⟨rfl,hst.grow⟩
theorem Yn {off:Nat}{ys cs:Array Value}(h:off+ys.size≤cs.size){j:Nat}(hj:j<ys.size):(Sort.putCells id off ys cs)[off+j]?=some ys[j]! :=by unfold Sort.putCells;rw[Array.getElem?_mapIdx,Array.getElem?_eq_getElem ae];simp only[bL];rw[aF ⟨ae,ae⟩,show off+j-off=j by omega];rfl
theorem Yo {off:Nat}{ys cs:Array Value}{k:Nat}(hk:k<off):(Sort.putCells id off ys cs)[k]?=cs[k]?:=by
 unfold Sort.putCells;rw[Array.getElem?_mapIdx];cases cs[k]? with
 |none=>rfl
 |some x=>simp only[bL];rw[az ae]
theorem P7 (hok:OkW G w L F U H){id':Id}{o:O}(ho:H id'=some o)(hv:(L id').3=false){cs:Array Value}{T:TypeId}(hb:w.heap[(L id').1]?=some (.cells cs T (0,0)))
  {ys:Array Value}{ds:List D}(hlen:(L id').2+ys.size≤cs.size)(hz:ds.length≤ys.size)(hd:∀j,j<ds.length→bw w L F U (ds.getD j .junk) ys[j]!){n:Nat}{os:Array Obj}
  (hw:w'=Sort.grow (Sort.putRow id (Sort.ahead w n) (L id').1 (L id').2 ys) os):
  OkW G w' L F U (cp H id' (some ⟨ds,o.box,o.virt⟩))∧dH H w L F U (cp H id' (some ⟨ds,o.box,o.virt⟩)) w' L F U:=by
 obtain⟨hU,_⟩:=hok.live id' o ho;have hH:cp (cp H id' none) id' (some (⟨ds,o.box,o.virt⟩:O))=cp H id' (some ⟨ds,o.box,o.virt⟩):=by funext i;simp only[cp];split<;>rfl
 have hsz:(Sort.putCells id (L id').2 ys cs).size=cs.size:=by simp[Sort.putCells]
 obtain⟨g1,g2⟩:=wV (id':=id') (o':=⟨ds,o.box,o.virt⟩) (L':=L) (U':=U) hok ho hv hb hsz (fun k hk=>Yo hk) (fun _ h=>h) hU (fun _ _=>rfl) rfl (aI _) hv (.inl rfl)
  af (fun j hj=>⟨_,Yn hlen (by simp only at hj;omega),hd j hj⟩)
 rw[hH]at g1 g2;have hheap:w'.heap=(js w (L id').1 (.cells (Sort.putCells id (L id').2 ys cs) T (0,0))).heap++os:=by
  rw[hw];show(Array.modify w.heap (L id').1 _)++os=_;congr 1;apply fE;intro k;rw[Array.getElem?_modify];simp only[js];by_cases hk:(L id').1=k
  ·subst hk;rw[mo,aF rfl,hb,aF (pe hb)];rfl
  ·rw[az hk,Array.getElem?_setIfInBounds_ne hk]
 obtain⟨k1,k2⟩:=DM g1 os hheap (by rw[hw];rfl) (by rw[hw];rfl) (by rw[hw];rfl) (by rw[hw];exact nI _ _);exact⟨k1,g2.trans k2⟩
structure El (w:World)(F:Nat→Nat→Prop)(k:Nat)(pre:List FD→Prop) where
 c:List FD
 vs:List Value
 hp:pre c
 hc:c.length=k
 hl:vs.length=k
 h1:∀y∈c,y.cells=[y]
 hr:∀j,j<k→dD w F (vs.getD j undef) (c.getD j .nilf)
theorem dD.one {v:Value}{y:FD}(h:dD w F v y)(h1:y.cells=[y]):v.oneCell'=true:=by
 cases h with
 |agg vs xs _ _=>have e:xs=[FD.agg xs]:=h1;have:=a8 (fun l:List FD=>SizeOf.sizeOf l) e;simp at this;omega
 |_=>rfl
theorem El.one {k:Nat}{pre:List FD→Prop}(e:El w F k pre):∀v∈e.vs,v.oneCell'=true:=fun v hv=>by
 obtain⟨j,hj,rfl⟩:=bI hv;have hj2:j<k:=by rw[←e.hl];exact hj
 have h:=e.hr j hj2;rw[av,ay hj,bD]at h;have hjc:j<e.c.length:=by rw[e.hc];exact hj2
 rw[av,ay hjc,bD]at h;exact h.one (e.h1 _ (aT hjc))
theorem El.rep {k:Nat}{pre:List FD→Prop}(e:El w F k pre):dD w F (.agg e.vs.toArray) (.agg e.c):=
 .agg _ _ (by rw[e.hl,e.hc]) fun j hj=>e.hr j (by rw[←e.hc];exact hj)
theorem QP {k:Nat}{pre:List FD→Prop}[Inhabited (El w F k pre)](hk:0<k)(d:Array (El w F k pre)){t:Nat}(ht:t<d.size*k):
  dD w F (Sort.flatK El.vs k d)[t]! ((d[t / k]!).c.getD (t % k) .nilf):=by
 rw[Sort.get_flatK _ _ _ _ ht];have h:=(d[t / k]!).hr (t % k) (ez _ hk);have hl:t % k<(d[t / k]!).vs.length:=by rw[(d[t / k]!).hl];exact ez _ hk
 rw[av,ay hl,bD]at h;rw[ic (d[t / k]!).vs (t % k) hl];exact h
theorem Su {k:Nat}{pre:List FD→Prop}[Inhabited (El w F k pre)](hk:0<k)(d:Array (El w F k pre)):(bA (d.toList.map fun e=> .agg e.c)).length=d.size*k∧
  ∀t,t<d.size*k→(bA (d.toList.map fun e=>FD.agg e.c)).getD t .junk= .fz ((d[t / k]!).c.getD (t % k) .nilf):=by
 have hcell:∀i,i<(d.toList.map fun e=>FD.agg e.c).length→((d.toList.map fun e=>FD.agg e.c).getD i .nilf).cells.length=k:=fun i hi=>by
  have hi2:i<d.toList.length:=by simpa using hi
  rw[av,bp,ay hi2];exact(d.toList[i]).hc
 have hlen:(d.toList.map fun e=>FD.agg e.c).length=d.size:=ak
 refine⟨by rw[mw hcell,hlen],fun t ht=>?_⟩;have hq:t / k<d.size:=e9 (by rw[df];exact ht);have h:=uG hcell (i:=t / k) (j:=t % k) (by rw[hlen];exact hq) (ez _ hk);rw[df,du]at h;have hi2:t / k<d.toList.length:=by simpa using hq
 have e:(d.toList.map fun e=>FD.agg e.c).getD (t / k) .nilf=FD.agg (d[t / k]!).c:=by rw[av,bp,ay hi2,ic d _ hq];rfl
 rw[h,e];rfl
theorem WH {f g:FuncId}{k:Nat}{pre:List FD→Prop}{cmp:List FD→List FD→Int}(hk0:0<k)(hc:cW P f)
  (hsort:∀(α:Type) [Inhabited α] (enc:α→List Value) (_:∀x,(enc x).length=k) (_:∀x,∀v∈enc x,v.oneCell'=true) (cf:α→α→Int) (_:Sort.SWO (Proofs.ltOf cf)) (blk off cap:Nat) (d:Array α) (w:World),
   Proofs.CmpLays P g #[] enc k cf blk off d.size w→Sort.HoldsK enc k w blk off d→blk<w.heap.size→d.size<4611686018427387904→Calls P f #[.slice (some ⟨blk,off,none⟩) d.size cap,.func (.func g) #[] #[]] w fun e w'=>
    e= .returned (.tuple #[])∧∃d' n os,Sort.PermIn 0 d.size d d'∧Sort.SortedIn (Proofs.ltOf cf) 0 d.size d'∧w'=Proofs.sortWorldK enc k w blk off n d' os)
  (h0:∀(p:Option Addr) (cap:Nat) (fv:Value) (w:World),Calls P f #[.slice p 0 cap,fv] w fun e w'=>e= .returned (.tuple #[])∧w'=w)
  (hg:∀x y,pre x→pre y→cS P G g [.fz (.agg x),.fz (.agg y)] H0 0 (fun d _ _=>D.val d=some (.fz (.i .i64 (cmp x y)))))
  (o1:∀x,pre x→¬cmp x x<0)(o2:∀x y z,pre x→pre y→pre z→cmp x y<0→cmp y z<0→cmp x z<0)(o3:∀x y z,pre x→pre y→pre z→¬cmp x y<0→¬cmp y z<0→¬cmp x z<0)
  {id':Id}{rows:List (List FD)}{bx vt:Bool}{n:Nat}(hpre:∀r∈rows,pre r∧r.length=k∧∀y∈r,y.cells=[y])(ho:H id'=some ⟨bA (rows.map .agg),bx,vt⟩):
  cS P G f [.arr id' k 0 rows.length,.fn g []] H n fun d H' n'=>d= .tup []∧∃rows':List (List FD),rows'.Perm rows∧(rows'.Pairwise fun a b=>¬cmp b a<0)∧H'=cp H id' (some ⟨bA (rows'.map .agg),bx,vt⟩)∧n'=n:=by
 refine⟨hc,fun w L F vs hok hvs=>?_⟩;obtain⟨v,rfl,hv⟩:∃v,vs=[v,.func (.func g) #[] #[]]∧bw w L F (Ub n) (.arr id' k 0 rows.length) v:=by
  match vs,hvs with
  |[v,u],h=>
   rw[cA,cA]at h;obtain⟨h1,h2,_⟩:=h;simp only[bw]at h2;obtain⟨us,rfl,h3⟩:=h2;have:us=[]:=by
    cases us with
    |nil=>rfl
    |cons _ _=>simp[cA]at h3
   subst this;exact⟨v,rfl,h1⟩
  |[],h=>simp[cA]at h
  |[_],h=>simp[cA]at h
  |_::_::_::_,h=>simp[cA]at h
 by_cases hne:rows=[]
 ·subst hne;have hv2:=hv;simp only[bw]at hv2;obtain⟨_,a,cap,rfl,_⟩:=hv2;refine(h0 a cap _ w).mono fun e w' he=>?_;obtain⟨rfl,rfl⟩:=he;have hH:cp H id' (some ⟨bA (([]:List (List FD)).map .agg),bx,vt⟩)=H:=by
   funext i;simp only[cp];split
   ·rename_i e;subst e;rw[ho]
   ·rfl
  exact⟨_,_,H,n,L,F,rfl,⟨rfl,[],List.Perm.refl _,List.Pairwise.nil,hH.symm,rfl⟩,hok,by simp only[bw];exact⟨[],rfl,by simp[cA]⟩,dH.refl _ _ _ _ _⟩
 have hpos:0<rows.length:=List.length_pos_iff.2 hne;simp only[bw]at hv;obtain⟨_,a,cap,rfl,hcap,hmax,hv3⟩:=hv;rcases hv3 with hv3|⟨rfl,hL3,hlt,_⟩
 ·omega
 obtain⟨_,cs,T,hb,h4,h5⟩:=iL (hok.live id' _ ho).2 hL3;simp only at h4 h5;have hcell:∀i,i<(rows.map FD.agg).length→((rows.map FD.agg).getD i .nilf).cells.length=k:=fun i hi=>by
  have hi2:i<rows.length:=by simpa using hi
  rw[av,bp,ay hi2];exact(hpre _ (aT hi2)).2.1
 have hlenR:(rows.map FD.agg).length=rows.length:=ak
 have hfl:(bA (rows.map .agg)).length=rows.length*k:=by rw[mw hcell,hlenR]
 rw[hfl]at h4 h5;have h6:∀i j (hi:i<rows.length),j<k→∃v,cs[(L id').2+(i*k+j)]?=some v∧dD w F v (rows[i].getD j .nilf):=fun i j hi hj=>by
  obtain⟨v,e1,e2⟩:=h5 (i*k+j) (vJ hi hj);have e0:(rows.map FD.agg).getD i .nilf=FD.agg rows[i]:=by rw[av,bp,ay hi];rfl
  rw[uG hcell (by rw[hlenR];exact hi) hj,e0]at e2;simp only[bw]at e2;exact⟨v,e1,e2⟩
 obtain⟨val,hval⟩:∃val:Nat→Nat→Value,val=fun i j=>(cs[(L id').2+(i*k+j)]?).getD undef:=⟨_,rfl⟩;have h7:∀i j (hi:i<rows.length),j<k→cs[(L id').2+(i*k+j)]?=some (val i j)∧dD w F (val i j) (rows[i].getD j .nilf):=fun i j hi hj=>by
  obtain⟨v,e1,e2⟩:=h6 i j hi hj;have:val i j=v:=by rw[hval];simp only[e1,bD]
  rw[this];exact⟨e1,e2⟩
 have mk:∀i (_:i<rows.length),∃e:El w F k pre,e.c=rows.getD i []∧e.vs=(List.range k).map (val i):=fun i hi=>by
  have hm:=hpre _ (aT hi);have e0:rows.getD i []=rows[i]:=by rw[av,ay hi];rfl
  refine⟨⟨rows.getD i [],(List.range k).map (val i),by rw[e0];exact hm.1,by rw[e0];exact hm.2.1,ak,by rw[e0];exact hm.2.2,fun j hj=>?_⟩,rfl,rfl⟩;rw[e0,av,bp,fm hj];exact(h7 i j hi hj).2
 obtain⟨e0,_⟩:=mk 0 hpos
 letI:Inhabited (El w F k pre):=⟨e0⟩
 have mk2:∀i:Nat,∃e:El w F k pre,i<rows.length→e.c=rows.getD i []∧e.vs=(List.range k).map (val i):=fun i=>by
  by_cases hi:i<rows.length
  ·obtain⟨e,he⟩:=mk i hi;exact⟨e,fun _=>he⟩
  ·exact⟨e0,fun h=>absurd h hi⟩
 obtain⟨el,hel⟩:∃el:Nat→El w F k pre,∀i,i<rows.length→(el i).c=rows.getD i []∧(el i).vs=(List.range k).map (val i):=⟨fun i=>(mk2 i).choose,fun i=>(mk2 i).choose_spec⟩;obtain⟨d,hd⟩:∃d:Array (El w F k pre),d=((List.range rows.length).map el).toArray:=⟨_,rfl⟩;have hds:d.size=rows.length:=by rw[hd];simp
 have hdi:∀i,i<rows.length→d[i]! =el i:=fun i hi=>by rw[ic d i (by rw[hds];exact hi)];simp[hd]
 have hdc:d.toList.map El.c=rows:=by rw[hd];apply cC ak;intro i h1 h2;simp only[cm,List.getElem_range];rw[(hel i h2).1,av,ay h2];rfl
 have hH:Sort.HoldsK El.vs k w (L id').1 (L id').2 d:=fun t ht=>by
  have ht2:t<d.size*k:=by simpa using ht
  rw[hds]at ht2;have hq:t / k<rows.length:=e9 (by rw[df];exact ht2);have hm:=ez t hk0;rw[Sort.get_flatK _ _ _ _ (by rw[hds];exact ht2),hdi _ hq,(hel _ hq).2];have e1:=(h7 (t / k) (t % k) hq hm).1;rw[show t / k*k+t % k=t by rw[df];exact du t k]at e1;have e2:((List.range k).map (val (t / k)))[t % k]! =val (t / k) (t % k):=by rw[ic _ _ (by simpa using hm)];simp
  rw[e2];constructor
  ·have:World.at w (L id').1 ((L id').2+t)=cs[(L id').2+t]?:=nA hb;rw[show w.cell? ⟨(L id').1,(L id').2+t,none⟩=World.at w (L id').1 ((L id').2+t)from rfl,this,e1];rfl
  ·unfold World.frozen?;simp only[hb];simp
 have hput:∀(w':World) (dk:Array (El w F k pre)) (m:Nat) (os:Array Obj),dk.size=d.size→w'=Proofs.sortWorldK El.vs k w (L id').1 (L id').2 m dk os→
   OkW G w' L F (Ub n) (cp H id' (some ⟨bA (dk.toList.map fun e=> .agg e.c),bx,vt⟩))∧dH H w L F (Ub n) (cp H id' (some ⟨bA (dk.toList.map fun e=> .agg e.c),bx,vt⟩)) w' L F (Ub n):=by
  intro w' dk m os hs hw;obtain⟨f1,f2⟩:=Su hk0 dk;refine P7 (o:=⟨_,bx,vt⟩) (ys:=Sort.flatK El.vs k dk) hok ho hL3 hb (by rw[Sort.size_flatK,hs,hds];exact h4) (by rw[f1,Sort.size_flatK];exact aI _) (fun j hj=>?_) hw;rw[f1]at hj;rw[f2 j hj];simp only[bw];exact QP hk0 dk hj
 have hcmp:Proofs.CmpLays P g #[] El.vs k (fun x y=>cmp x.c y.c) (L id').1 (L id').2 d.size w:=fun m os dk hs x y=>by obtain⟨g1,g2⟩:=hput _ dk m os hs rfl;have hx:=g2.ext hok;have hok0:OkW G (Proofs.sortWorldK El.vs k w (L id').1 (L id').2 m dk os) L F (Ub 0) H0:=⟨g1.fb,(fun _ _ h=>by cases h),(fun _ _ _ _ h=>by cases h),g1.glob⟩;exact YU (hg x.c y.c x.hp y.hp) hok0 (x.rep.mono hx.fk hx.f) (y.rep.mono hx.fk hx.f)
 have hO:Sort.SWO (Proofs.ltOf fun x y:El w F k pre=>cmp x.c y.c):=by
  refine⟨fun x=>?_,fun x y z h1 h2=>?_,fun x y z h1 h2=>?_⟩
  ·exact aW (o1 _ x.hp)
  ·exact ba (o2 _ _ _ x.hp y.hp z.hp (bO h1) (bO h2))
  ·exact aW (o3 _ _ _ x.hp y.hp z.hp (mb h1) (mb h2))
 have hbl:(L id').1<w.heap.size:=hlt;have hsz:d.size<4611686018427387904:=by rw[hds];unfold dt at hmax;omega
 have hrun:=hsort (El w F k pre) El.vs (fun x=>x.hl) (fun x=>x.one) _ hO (L id').1 (L id').2 cap d w hcmp hH hbl hsz;rw[hds]at hrun;rw[bJ];refine hrun.mono fun e w' he=>?_;obtain⟨rfl,d',m,os,hp,hs,hw⟩:=he;have hds':d'.size=d.size:=by rw[hp.1]
 obtain⟨g1,g2⟩:=hput w' d' m os hds' hw;have e1:(d'.toList.map fun e=>FD.agg e.c)=(d'.toList.map El.c).map .agg:=by rw[bX];rfl
 rw[e1]at g1 g2;refine⟨_,_,_,n,L,F,rfl,⟨rfl,d'.toList.map El.c,?_,?_,rfl,rfl⟩,g1,by simp only[bw];exact⟨[],rfl,by simp[cA]⟩,g2⟩
 ·have h8:=hp.2.2;have f1:(d'.extract 0 rows.length).toList=d'.toList:=by rw[←hds,←hds'];simp
  have f2:(d.extract 0 rows.length).toList=d.toList:=by rw[←hds];simp
  rw[f1,f2]at h8;have h9:=h8.map El.c;rw[hdc]at h9;exact h9
 ·rw[iK,dy];intro i j hi hj hij;have hi':i<d'.size:=by simpa using hi
  have hj':j<d'.size:=by simpa using hj
  have h8:=hs i j (gL _) hij (by rw[←hds,←hds'];exact hj');rw[ic d' i hi',ic d' j hj']at h8;have h9:=mb h8;simpa using h9
end
section
variable {P:Program} {G:Nat→List FD}
theorem BL {f g:FuncId}{T:Nat}{sid:Id}{ds:List D}{xs cs cs':List FD}{r:D}{H:bR}{n:Nat}{R:D→bR→Nat→Prop}(ha:D.toFDs ds=some xs)
  (h:cS P G f (xs.map .fz++[.fn g [.ptr (T,0) 0]]) (hpL [((T,0),some ⟨cs.map .fz,true,false⟩)]) 1 (fun d H' _=>D.val d=some r∧H' (T,0)=some ⟨cs'.map .fz,true,false⟩))
  (ho:H sid=some ⟨cs.map .fz,true,false⟩)(hR:R r (cp H sid (some ⟨cs'.map .fz,true,false⟩)) n):cS P G f (ds++[.fn g [.ptr sid 0]]) H n R:=by
 refine⟨h.1,fun w L F vs hok hvs=>?_⟩;obtain⟨hUs,hrs⟩:=hok.live sid _ ho;have hv3:(L sid).3=false:=by
  cases hv:(L sid).3
  ·rfl
  ·unfold iT at hrs;rw[hv]at hrs;simp only[cJ]at hrs;exact absurd hrs.2 ai
 obtain⟨r1,cs0,T0,r2,r3,r4⟩:=iL hrs hv3;obtain⟨L1,hL1⟩:∃L1:Loc,L1=fun _=>L sid:=⟨_,rfl⟩;have hL1':∀id,L1 id=L sid:=fun id=>by rw[hL1]
 obtain⟨K,hK⟩:∃K:bR,K=hpL [((T,0),some ⟨cs.map .fz,true,false⟩)]:=⟨_,rfl⟩;have hKs:∀id o,K id=some o→id=(T,0)∧o=⟨cs.map .fz,true,false⟩:=fun id o e=>by
  rw[hK]at e;simp only[hpL]at e;split at e
  ·rename_i e1;exact⟨e1,(bq e).symm⟩
  ·cases e
 have hK0:K (T,0)=some ⟨cs.map .fz,true,false⟩:=by rw[hK];simp[hpL]
 have hfzs:∀(zs:List FD) (j:Nat) (L2:Loc) (F2:Nat→Nat→Prop) (U2 U3:Id→Prop) (L3:Loc) (w2:World) (v:Value),bw w2 L2 F2 U2 ((zs.map D.fz).getD j .junk) v→bw w2 L3 F2 U3 ((zs.map D.fz).getD j .junk) v:=fun zs j L2 F2 U2 U3 L3 w2 v hv=>by
  rcases aA j zs.length with hj|hj
  ·have e:(zs.map D.fz).getD j .junk= .fz zs[j]:=by simp[av,hj]
   rw[e]at hv ⊢;simpa only[bw]using hv
  ·have e:(zs.map D.fz).getD j .junk= .junk:=by simp[av,hj]
   rw[e];simp[bw]
 have hok1:OkW G w L1 F (Ub 1) K:=by
  refine⟨hok.fb,fun id o e=>?_,fun id id' o o' e e' _ _ _=>?_,hok.glob⟩
  ·obtain⟨rfl,rfl⟩:=hKs id o e;refine⟨qQt,?_⟩;unfold iT;rw[hL1',hv3];simp only[bK,cd];exact⟨r1,cs0,T0,r2,r3,fun j hj=>let⟨v,a,b⟩:=r4 j hj;⟨v,a,hfzs _ _ _ _ _ _ _ _ _ b⟩⟩
  ·rw[(hKs id o e).1,(hKs id' o' e').1]
 rw[←hK]at h;have hvs1:cA w L1 F (Ub 1) (xs.map .fz++[.fn g [.ptr (T,0) 0]]) vs:=cA.lastp (fun v h1=>by
  simp only[bw]at h1 ⊢;obtain⟨us,rfl,h2⟩:=h1;refine⟨us,rfl,?_⟩
  match us,h2 with
  |[],h2=>simp[cA]at h2
  |[u],h2=>simp only[cA,bw]at h2 ⊢;rw[hL1'];exact⟨⟨qQt,h2.1.2⟩,trivial⟩
  |_::_::_,h2=>simp[cA]at h2) ha hvs
 refine(h.2 w L1 F vs hok1 hvs1).mono fun e w' he=>?_;obtain⟨v,d1,H1,n1,L2,F2,rfl,⟨hQ1,hQ2⟩,g1,g2,g3⟩:=he;have hL2:L2 (T,0)=L sid:=(g3.l (T,0) qQt).trans (hL1' _);have bk:∀b,Blk K L1 b→Blk H L b:=by rintro b ⟨id,o,e1,_,e3⟩;obtain⟨rfl,_⟩:=hKs id o e1;rw[hL1']at e3;exact⟨sid,_,ho,hv3,e3⟩
 have ok':∀b k,Own K L1 b k→(L sid).1=b∧(L sid).2≤k:=by rintro b k ⟨id,o,e1,_,e3,e4⟩;rw[hL1']at e3 e4;exact⟨e3,e4⟩
 have own:∀b k,Own K L1 b k→Own H L b k:=fun b k hb=>let⟨e1,e2⟩:=ok' b k hb;⟨sid,_,ho,hv3,e1,e2⟩;have ext:Ext w L F (Ub n) w' L F2 (Ub n):=⟨fun _ h=>h,fun _ _=>rfl,g3.f,fun b k hb=>g3.keepc b k (hok.fb b k hb) (fun hb'=>hok.not_own hb (own _ _ hb')),g3.size,g3.shape⟩;have cas:∀id o,cp H sid (some ⟨cs'.map .fz,true,false⟩) id=some o→(id=sid∧o=⟨cs'.map .fz,true,false⟩)∨(id≠sid∧H id=some o):=fun id o e=>by
  unfold cp at e;split at e
  ·rename_i e1;exact .inl ⟨e1,(bq e).symm⟩
  ·rename_i e1;exact .inr ⟨e1,e⟩
 have some':∀id o,cp H sid (some ⟨cs'.map .fz,true,false⟩) id=some o→∃o',H id=some o':=fun id o e=>by
  rcases cas id o e with⟨rfl,_⟩|⟨_,e1⟩
  ·exact⟨_,ho⟩
  ·exact⟨_,e1⟩
 refine⟨v,r,_,n,L,F2,rfl,hR,⟨g1.fb,fun id o e=>?_,fun id id' o o' e e' v1 v2 eb=>?_,g1.glob⟩,g2.val hQ1,?_⟩
 ·rcases cas id o e with⟨rfl,rfl⟩|⟨hne,e1⟩
  ·refine⟨hUs,?_⟩;have hl:=(g1.live _ _ hQ2).2;unfold iT at hl ⊢;rw[hL2]at hl;rw[hv3]at hl ⊢;simp only[bK,cd]at hl ⊢;obtain⟨a1,cs1,T1,a2,a3,a4⟩:=hl;exact⟨a1,cs1,T1,a2,a3,fun j hj=>let⟨v,a,b⟩:=a4 j hj;⟨v,a,hfzs _ _ _ _ _ _ _ _ _ b⟩⟩
  ·obtain⟨a,b⟩:=hok.live id o e1;refine⟨a,b.ext ext a fun hv=>?_⟩;have hlt:=hok.blk_lt e1 hv;have nb:¬(L sid).1=(L id).1:=fun eq=>hne (hok.inj id sid _ _ e1 ho hv hv3 eq.symm);refine⟨g3.keep _ hlt ?_,fun k hk hF=>?_⟩
   ·rintro⟨id2,o2,e2,_,e3⟩;rw[hL1']at e3;exact nb e3
   ·rcases g3.fnew _ _ hF with h|h|h
    ·exact(iL b hv).1 k hk h
    ·omega
    ·exact nb (ok' _ _ h).1
 ·obtain⟨o1,e1⟩:=some' _ _ e;obtain⟨o2,e2⟩:=some' _ _ e';exact hok.inj _ _ _ _ e1 e2 v1 v2 eb
 ·refine⟨fun _ h=>h,fun _ _=>rfl,g3.f,g3.size,fun b hb nb=>g3.keep b hb fun hb'=>nb (bk b hb'),fun b k hb no=>g3.keepc b k hb fun hb'=>no (own b k hb'),g3.shape,fun b k hb=>?_,fun b k hb=>?_,g3.os,g3.tape,g3.output,g3.drawn⟩
  ·rcases g3.fnew b k hb with h|h|h
   ·exact .inl h
   ·exact .inr (.inl h)
   ·exact .inr (.inr (own b k h))
  ·obtain⟨id,o,e1,e2,e3,e4⟩:=hb;obtain⟨o',e1'⟩:=some' _ _ e1;exact .inr ⟨id,o',e1',e2,e3,e4⟩
end
end Go.Abs

/- several texts of this proof in one; no conditions -/
import Derived.Calls
import Derived.RunT
import Derived.Test.YtmconmiemdinkaaGreatDoorY9
import Derived.StillTail
import Derived.Lib.FrozenHead
import Derived.Lib.OthersKept
set_option linter.unusedSimpArgs false
namespace Go.Abs
open Go
def ROk {α:Type}(n:Nat):Result α→Prop
 | .ok _ w=>n≤w.drawn
 | .halt _ w=>n≤w.drawn
theorem ROk.ok {α:Type}{n:Nat}{r:Result α}{a:α}{w:World}(h:ROk n r)(e:r= .ok a w):n≤w.drawn:=by subst e;exact h
theorem ROk.halt {α:Type}{n:Nat}{r:Result α}{a:Halt}{w:World}(h:ROk n r)(e:r= .halt a w):n≤w.drawn:=by subst e;exact h
theorem ROk.mono {α:Type}{n m:Nat}{r:Result α}(h:ROk n r)(e:m≤n):ROk m r:=by
 cases r<;>exact Nat.le_trans e h
theorem zkI {α:Type}:∀(x:Ask α) (w:World),w.drawn≤(w.ask x).2.drawn
 | .done a,w=>by rw[World.ask];exact Nat.le_refl _
 | .ask what range k,w=>by
  rw[World.ask]
  split
  ·exact zkI _ w
  ·exact Nat.le_trans (Nat.le_succ w.drawn) (zkI _ {w with drawn:=w.drawn+1})
theorem zwW (w:World)(c:Sys):w.drawn≤(w.sys c).2.drawn:=by
 unfold World.sys
 split
 ·exact Nat.le_refl _
 ·rename_i h
  have:=zkI (Kernel.perform c w.os) w
  rw[h]at this
  exact this
theorem zju {p:Program}{w w':World}{a:Addr}{u:TypeId}{k:Addr}{v:Value}{at_:Bool}{l:List Addr}(h:w.viewStore p a u k v at_= .ok (w',l)):w'.drawn=w.drawn:=by
 unfold World.viewStore at h
 simp only[bind,Except.bind,pure,Except.pure]at h
 repeat'(split at h)
 all_goals first|(cases h;rfl)|(cases h;done)
theorem zkY {p:Program}{w w':World}{a:Addr}{v:Value}{at_:Bool}{l:List Addr}(h:w.farStore p a v at_= .ok (w',l)):w'.drawn=w.drawn:=by
 unfold World.farStore at h
 split at h
 ·split at h
  ·rename_i h2
   cases h
   exact zju h2
  ·cases h
 ·cases h
theorem zaw {α:Type}{p:Program}:∀(s:Sem α) (w:World),ROk w.drawn (s.run p w)
 | .pure a,w=>Nat.le_refl _
 | .load m a k,w=>by
  rw[Sem.run]
  split
  ·exact zaw _ w
  ·split
   ·exact zaw _ w
   ·exact Nat.le_refl _
 | .store m a v k,w=>by
  cases v
  case agg=>rw[Sem.run];exact Nat.le_refl _
  case tuple=>rw[Sem.run];exact Nat.le_refl _
  all_goals
   rw[Sem.run]
   split
   ·split
    ·exact Nat.le_refl _
    ·exact(zaw k _).mono (Nat.le_refl _)
   ·split
    ·rename_i h
     exact(zaw k _).mono (Nat.le_of_eq (zkY h).symm)
    ·exact Nat.le_refl _
   all_goals(intro x h;cases h)
 | .new o k,w=>by rw[Sem.run];exact(zaw _ _).mono (Nat.le_refl _)
 | .shape r k,w=>by rw[Sem.run];exact zaw _ w
 | .freeze a n k,w=>by
  rw[Sem.run]
  refine(zaw k _).mono ?_
  unfold World.freeze
  repeat' split
  all_goals exact Nat.le_refl _
 | .frozen a k,w=>by rw[Sem.run];exact zaw _ w
 | .getObj r k,w=>by
  rw[Sem.run]
  split
  ·exact Nat.le_refl _
  ·exact zaw _ w
  ·exact Nat.le_refl _
 | .setObj r o k,w=>by
  rw[Sem.run]
  split
  ·exact Nat.le_refl _
  ·exact(zaw k _).mono (Nat.le_refl _)
  ·exact Nat.le_refl _
 | .choose q k,w=>by
  rw[Sem.run]
  split
  ·exact zaw _ w
  ·exact(zaw _ _).mono (Nat.le_succ _)
 | .sys c k,w=>by rw[Sem.run];exact(zaw _ _).mono (zwW w c)
 | .program k,w=>by rw[Sem.run];exact zaw _ w
 | .mark m k,w=>by rw[Sem.run];exact zaw _ w
 | .halt h,w=>Nat.le_refl _
theorem rT {α:Type}{p:Program}{s:Sem α}{w:World}{es es':Array Event}{r:Result α}(h:s.runT p w es=(r,es')):ROk w.drawn r:=by
 have:=zaw (p:=p) s w
 rw[←Sem.runT_fst p s w es,h]at this
 exact this
def GOk (n:Nat):GStep→Prop
 | .go _ w _=>n≤w.drawn
 | .comm _ _ _ _ w _=>n≤w.drawn
 | .spawn _ _ w _=>n≤w.drawn
 | .count _ w _=>n≤w.drawn
 | .timer _ _ w _=>n≤w.drawn
 | .alone _ _ w _=>n≤w.drawn
 | .newcoro _ _ _ w _=>n≤w.drawn
 | .coroswitch _ _ _ w _=>n≤w.drawn
 | .collect _ w _=>n≤w.drawn
 | .watch _ w _=>n≤w.drawn
 | .ended _ _ _=>True
theorem zfg {n:Nat}{es:Array Event}{s:GStep}(h:GOk n s):GOk n (GStep.after es s):=by cases s<;>exact h
theorem GOk.mono {n m:Nat}{s:GStep}(h:GOk n s)(e:m≤n):GOk m s:=by
 cases s<;>first|exact Nat.le_trans e h|trivial
theorem zho {n:Nat}{c:Prop}[Decidable c]{a b:GStep}(ha:GOk n a)(hb:GOk n b):GOk n (if c then a else b):=by split<;>assumption
theorem zvD {fr:Frame}{a:List ByteArray}{m:String}{b:Bool}{w:World}:GOk w.drawn (dieOf fr a m b w):=Nat.le_refl _
theorem zcJ {fr:Frame}{m:String}{w:World}:GOk w.drawn (endThrow fr m w):=Nat.le_refl _
theorem zq1 {n:Nat}{w:World}{fd:Nat}{t:ByteArray}{o:Outcome}:GOk n (endWith w fd t o):=by
 unfold endWith
 simp only[]
 repeat' split
 all_goals trivial
theorem zfx {p:Program}{fr:Frame}{v:Value}{w:World}:GOk w.drawn (endPrinting p fr v w):=by
 unfold endPrinting
 simp only[]
 split
 ·exact zcJ
 ·trivial
theorem zfI {p:Program}{fr:Frame}{cs:List Frame}{dy:Option Dying}{m:String}{w:World}:GOk w.drawn (endFatal p fr cs dy m w):=by
 unfold endFatal
 simp only[]
 split
 ·rename_i h
  exact zvD.mono ((zaw _ w).ok h)
 ·trivial
 ·trivial
theorem zrX {p:Program}{fr:Frame}{d:Dying}{f:Fatal}{w:World}:GOk w.drawn (writeOn p fr d f w):=by
 unfold writeOn
 simp only[]
 split
 ·trivial
 ·split
  all_goals rename_i h
  all_goals first|trivial|exact rT h
theorem zBv {p:Program}{fr:Frame}{d:Dying}{w:World}:GOk w.drawn (die p fr d w):=by
 unfold die
 simp only[]
 split
 ·exact zrX
 ·split
  ·split
   ·exact Nat.le_refl _
   ·exact zq1
  ·split
   ·exact Nat.le_refl _
   ·split
    ·rename_i h
     exact(zaw _ w).ok h
    ·trivial
   ·refine zfg ?_
    have h1:=fun(s:Sem Next)=>zaw (p:=p) s w
    split
    all_goals rename_i h
    all_goals first|trivial|(rw[Sem.runT_fst]at h;exact(h1 _).ok h)|(rw[Sem.runT_fst]at h;exact zfx.mono ((h1 _).halt h))
   ·trivial
theorem zfH {p:Program}{b:Bool}{fr:Frame}{cs:List Frame}{dy:Option Dying}{v:Value}{w:World}:GOk w.drawn (doReturn p b fr cs dy v w):=by
 unfold doReturn
 simp only[]
 repeat' split
 all_goals first|exact Nat.le_refl _|trivial
theorem zig {p:Program}{fr:Frame}{cs:List Frame}{dy:Option Dying}{d:Deferred}{w:World}:GOk w.drawn (callDeferred p fr cs dy d w):=by
 unfold callDeferred
 simp only[]
 refine zho trivial (zfg ?_)
 have h1:=zaw (p:=p) (invoke d.target d.args) w
 rw[←Sem.runT_fst p _ w #[]]at h1
 revert h1
 generalize ((invoke d.target d.args).runT p w #[]).1=r
 intro h1
 repeat' split
 all_goals first|exact h1|trivial|exact zfI.mono h1|exact zcJ.mono h1
theorem zuN {p:Program}{b:Bool}{fr:Frame}{cs:List Frame}{dy:Option Dying}{w:World}:GOk w.drawn (unwind p b fr cs dy w):=by
 unfold unwind
 simp only[]
 split
 ·rename_i block args ds _
  refine zfg ?_
  have h1:=zaw (p:=p) (Instr.takeDeferred block) w
  rw[←Sem.runT_fst p _ w #[]]at h1
  revert h1
  generalize ((Instr.takeDeferred block).runT p w #[]).1=r
  intro h1
  split
  all_goals first|exact h1|trivial
 ·exact zig
 ·split
  ·trivial
  ·refine zho trivial ?_
   split
   ·exact Nat.le_refl _
   ·split
    ·refine zho (Nat.le_refl _) ?_
     split
     ·rename_i h
      exact(zaw _ w).ok h
     ·trivial
     ·trivial
    ·split
     ·exact zfx
     ·trivial
  ·split
   ·exact zfH
   ·rename_i fn _
    refine zfg ?_
    have h1:=zaw (p:=p) (results fn fr.tmps) w
    rw[←Sem.runT_fst p _ w #[]]at h1
    revert h1
    generalize ((results fn fr.tmps).runT p w #[]).1=r
    intro h1
    split
    ·exact zfH.mono h1
    ·trivial
    ·trivial
theorem zpA {p:Program}{fr:Frame}{cs:List Frame}{dy:Option Dying}{g:Nat}{w:World}:GOk w.drawn (early p fr cs dy g w):=by
 unfold early
 simp only[]
 have hn:∀w1:World,w.drawn≤w1.drawn→GOk w.drawn (match w1.heap[g]? with
  |some (.pending c elem)=> .go {frame:=fr,callers:=cs,status:= .running,dying:=dy} {w1 with heap:=w1.heap.setIfInBounds g (.cells c elem)}
  |_=> .ended (.stuck "early: the variable does not wait" (fr.pos p)) w1):=fun w1 h=>by
  split
  ·exact h
  ·trivial
 refine zho (hn w (Nat.le_refl _)) ?_
 split
 ·trivial
 ·refine zho (hn w (Nat.le_refl _)) (zho (hn w (Nat.le_refl _)) ?_)
  split
  ·trivial
  ·exact Nat.le_refl _
  ·trivial
  ·exact hn w (Nat.le_refl _)
  ·refine zho (Nat.le_refl _) (zho (hn w (Nat.le_refl _)) ?_)
   split
   all_goals rename_i h
   ·exact hn _ ((zaw _ w).ok h)
   ·exact(zaw _ w).ok h
   ·trivial
theorem zkF {p:Program}{b:Bool}{fr:Frame}{cs:List Frame}{dy:Option Dying}{s:Sem Next}{w:World}:GOk w.drawn (stepG.apply p b fr cs dy s w):=by
 unfold stepG.apply
 simp only[]
 have h1:=zaw (p:=p) s w
 have h2:∀(c:Bool),ROk w.drawn (if c=true then s.runT p w #[]else(s.run p w, #[])).1:=fun c=>by
  cases c
  ·exact h1
  ·simp only[if_true];rw[Sem.runT_fst];exact h1
 have h3:=h2 b
 revert h3
 generalize (if b=true then s.runT p w #[]else(s.run p w, #[]))=r
 intro h3
 obtain⟨r,es⟩:=r
 simp only at h3
 refine zfg ?_
 repeat' split
 all_goals first|exact h3|trivial|exact h3.ok (by assumption)|exact h3.halt (by assumption)|exact zcJ.mono (h3.ok (by assumption))|exact zcJ.mono (h3.halt (by assumption))|exact zfI.mono (h3.halt (by assumption))|exact zpA.mono (h3.halt (by assumption))|exact zcJ.mono h3|exact zfI.mono h3|exact zpA.mono h3
theorem zzp {p:Program}{b:Bool}{fr:Frame}{cs:List Frame}{dy:Option Dying}{w:World}:GOk w.drawn (stepG.oper p b fr cs dy w):=by
 unfold stepG.oper
 split
 ·trivial
 ·split<;>exact zkF
theorem zyr {α:Type}{n:Nat}{o:Option α}{a:GStep}{f:α→GStep}(h1:GOk n a)(h2:∀x,GOk n (f x)):GOk n (o.elim a f):=by
 cases o<;>simp only[Option.elim]<;>first|exact h1|exact h2 _
theorem rT1 {α:Type}{p:Program}{s:Sem α}{w:World}{es:Array Event}:ROk w.drawn (s.runT p w es).1:=by
 rw[Sem.runT_fst];exact zaw s w
theorem zyy {p:Program}{main b:Bool}{fr:Frame}{cs:List Frame}{dy:Option Dying}{w:World}:GOk w.drawn (stepG.exec p main b fr cs dy w):=by
 unfold stepG.exec
 simp only[]
 repeat' first
  |exact Nat.le_refl _
  |trivial
  |exact zkF
  |exact zzp
  |exact rT1.ok (by assumption)
  |exact rT1.halt (by assumption)
  |exact(zaw _ w).ok (by assumption)
  |exact zfH.mono (rT1.ok (by assumption))
  |exact zkF.mono (rT1.ok (by assumption))
  |refine zfg ?_
  |refine zyr ?_ fun _=>?_
  |split
theorem zwQ {p:Program}{main:Bool}{g:Goroutine}{w:World}{b:Bool}:GOk w.drawn (stepG p main g w b):=by
 obtain⟨fr,callers,status,dying,offers⟩:=g
 simp only[stepG]
 split
 ·exact zBv
 ·exact zyy
 ·exact zuN
def SOk (n:Nat):Stepped→Prop
 | .next m=>n≤m.world.drawn
 | .ended _ _=>True
theorem SOk.mono {n m:Nat}{s:Stepped}(h:SOk n s)(e:m≤n):SOk m s:=by
 cases s<;>first|exact Nat.le_trans e h|trivial
theorem zjn {p:Program}{rest:Rest}{gs:Array Goroutine}{i:Nat}{g:Goroutine}{cs:Array CommCase}{bl:Bool}{sh:CommShape}{w:World}:SOk w.drawn (communicate p rest gs i g cs bl sh w).1:=by
 have hwait:∀w2,waitingAt rest cs w=some w2→w.drawn≤w2.drawn:=fun w2 h=>by
  unfold waitingAt at h
  repeat'(split at h)
  all_goals first|(cases h;exact Nat.le_refl _)|cases h
 unfold communicate
 simp only[]
 repeat' first
  |exact Nat.le_refl _
  |trivial
  |exact hwait _ (by assumption)
  |exact(zaw _ w).ok (by assumption)
  |(have h1:=(zaw (p:=p) _ w).ok (by assumption);exact h1)
  |(have h1:=(zaw (p:=p) _ w).ok (by assumption);have h2:=(zaw (p:=p) (choose _) _).ok (by assumption);exact Nat.le_trans h1 h2)
  |(have h1:=(zaw (p:=p) _ w).ok (by assumption);have h2:=(zaw (p:=p) (runtimePanic _:Sem Unit) _).halt (by assumption);exact Nat.le_trans h1 h2)
  |split
theorem zoK {p:Program}{gs:Array Goroutine}{rest:Rest}{w:World}:SOk w.drawn (look p gs rest w):=by
 unfold look
 simp only[]
 repeat' first
  |exact Nat.le_refl _
  |trivial
  |(have h1:=(zaw (p:=p) _ w).ok (by assumption);exact h1)
  |split
theorem zwK {p:Program}{m:Machine}{k:Nat}:SOk m.world.drawn (serve p m k):=by
 unfold serve
 simp only[]
 repeat' first
  |exact Nat.le_refl _
  |trivial
  |split
theorem zvF {w:World}{c:Nat}:w.drawn≤(drain w c).2.drawn:=by
 unfold drain
 split<;>exact Nat.le_refl _
theorem znt {m:Machine}{k:Nat}{t:Timer}{a b:Nat}:m.world.drawn≤(retime m k t a b).2.world.drawn:=by
 unfold retime
 simp only[]
 split
 ·exact zvF
 ·exact Nat.le_refl _
theorem zrR {m m':Machine}{op:TimerOp}{v:Value}(h:timerOp m op= .ok (v,m')):m.world.drawn≤m'.world.drawn:=by
 have hop:∀var m2,timerOp.opened m var=some m2→m.world.drawn≤m2.world.drawn:=fun var m2 h=>by
  unfold timerOp.opened at h
  repeat'(split at h)
  all_goals first|(cases h;exact Nat.le_refl _)|cases h
 have hnm:∀(m1:Machine) var (f:Nat→Timer→Value×Machine),timerOp.named m1 var f= .ok (v,m')→∃k t,f k t=(v,m'):=fun m1 var f h=>by
  unfold timerOp.named at h
  split at h
  ·exact⟨_,_,Except.ok.inj h⟩
  ·cases h
 unfold timerOp at h
 simp only[]at h
 repeat' first
  |(cases h;exact Nat.le_refl _)
  |(cases h;done)
  |(obtain⟨k,t,e⟩:=hnm _ _ _ h;rw[show m'=(v,m').2 from rfl,←e];exact znt)
  |(have h1:=hop _ _ (by assumption);obtain⟨k,t,e⟩:=hnm _ _ _ h;rw[show m'=(v,m').2 from rfl,←e];exact Nat.le_trans h1 znt)
  |split at h
theorem zzy {p:Program}{m:Machine}{i:Nat}{b:Bool}:SOk m.world.drawn (runT p m i b).1:=by
 simp only[runT]
 generalize m.gs.swapAt! _ _=gg
 have hs:=zwQ (p:=p) (main:=i==0) (g:=gg.1) (w:=m.world) (b:=b)
 revert hs
 generalize stepG p _ gg.1 m.world b=s
 intro hs
 cases s<;>simp only[]
 all_goals first
  |exact hs
  |trivial
  |exact zjn.mono hs
  |exact zoK.mono hs
  |(repeat' first
    |exact hs
    |trivial
    |(have h1:=zrR (by assumption);exact Nat.le_trans hs h1)
    |(have h1:GOk _ _:=zcJ.mono hs;rename_i h2;rw[h2]at h1;exact h1)
    |split)
def zzX (n:Nat):Move→Prop
 | .goroutine m _=>n≤m.world.drawn
 | .machine s _=>SOk n s
theorem zzX.mono {n m:Nat}{s:Move}(h:zzX n s)(e:m≤n):zzX m s:=by
 cases s
 ·exact Nat.le_trans e h
 ·exact SOk.mono h e
theorem zkH {p:Program}{m:Machine}:zzX m.world.drawn (askOn p m):=by
 unfold askOn
 simp only[]
 repeat' first
  |exact Nat.le_refl _
  |trivial
  |(have h0:=(zaw (p:=p) _ m.world).ok (by assumption);exact zwK.mono h0)
  |(have h0:=(zaw (p:=p) _ m.world).ok (by assumption);exact h0)
  |(have h0:=(zaw (p:=p) _ m.world).ok (by assumption);have hc:=(zaw (p:=p) (choose (.extern "clock.wait" _)) _).ok (by assumption);exact Nat.le_trans h0 hc)
  |(have h0:=(zaw (p:=p) _ m.world).ok (by assumption);have hc:=(zaw (p:=p) (choose (.extern "clock.wait" _)) _).ok (by assumption);have hs:=(zaw (p:=p) (choose (.sched _)) _).ok (by assumption);have hl:=(zaw (p:=p) (choose (.extern "sched.slice" _)) _).ok (by assumption);exact Nat.le_trans (Nat.le_trans (Nat.le_trans h0 hc) hs) hl)
  |(have h0:=(zaw (p:=p) _ m.world).ok (by assumption);have hs:=(zaw (p:=p) (choose (.sched _)) _).ok (by assumption);have hl:=(zaw (p:=p) (choose (.extern "sched.slice" _)) _).ok (by assumption);exact Nat.le_trans (Nat.le_trans h0 hs) hl)
  |(have h0:=(zaw (p:=p) _ m.world).ok (by assumption);have hc:=(zaw (p:=p) (choose (.extern "clock.wait" _)) _).ok (by assumption);have hs:=(zaw (p:=p) (choose (.sched _)) _).ok (by assumption);exact Nat.le_trans (Nat.le_trans h0 hc) hs)
  |(have h0:=(zaw (p:=p) _ m.world).ok (by assumption);have hs:=(zaw (p:=p) (choose (.sched _)) _).ok (by assumption);exact Nat.le_trans h0 hs)
  |split
theorem zBa {p:Program}{m:Machine}:zzX m.world.drawn (ask p m):=by
 unfold ask
 split
 ·split
  ·trivial
  ·rename_i h
   have h0:=(zaw (p:=p) _ m.world).ok h
   split
   ·rename_i h2
    have h3:=zoK (p:=p) (gs:=m.gs) (rest:=m.rest) (w:= ‹World›)
    rw[h2]at h3
    exact zkH.mono (Nat.le_trans h0 h3)
   ·exact zoK.mono h0
  ·rename_i h
   have h0:=(zaw (p:=p) _ m.world).ok h
   exact zkH.mono h0
 ·exact zkH
theorem zzk {p:Program}{m:Machine}:zzX m.world.drawn (move p m):=by
 unfold move
 simp only[]
 repeat' first
  |exact Nat.le_refl _
  |trivial
  |exact zBa
  |split
theorem zzD {p:Program}{m:Machine}:SOk m.world.drawn (step p m):=by
 unfold step stepT
 have h:=zzk (p:=p) (m:=m)
 revert h
 generalize move p m=mv
 intro h
 cases mv
 ·exact zzy.mono h
 ·exact h
theorem zuh {p:Program}:∀(n:Nat) (m m':Machine),runN p n m= .next m'→m.world.drawn≤m'.world.drawn
 |0,m,m',h=>by cases h;exact Nat.le_refl _
 |n+1,m,m',h=>by
  have h1:=zzD (p:=p) (m:=m)
  unfold runN at h
  cases hs:step p m with
  |next m1=>
   rw[hs]at h h1
   exact Nat.le_trans h1 (zuh n m1 m' h)
  |ended o w=>rw[hs]at h;cases h
theorem zvj {p:Program}{m m':Machine}(h:Steps p m m'):m.world.drawn≤m'.world.drawn:=let⟨n,hn⟩:=h;zuh n m m' hn
theorem zn0 {P:Program}{f:FuncId}{args:Array Value}{w:World}{R:Ending→World→Prop}(hR:∀e w',R e w'→∃v,e= .returned v)(h:Calls P f args w R):Calls P f args w fun e w'=>R e w'∧w.drawn≤w'.drawn:=by
 intro cs
 obtain⟨e,w',fr,h1,h2,h3,h4⟩:=h cs
 refine⟨e,w',fr,⟨h1,?_⟩,h2,h3,h4⟩
 obtain⟨v,rfl⟩:=hR _ _ h1
 exact zvj h2
end Go.Abs
namespace Go.Abs
open Go
def zhQ (l:List (Option Tmp))(a a':Act):Prop:=∀t,some t∉l→a'.tmps[t]?=a.tmps[t]?
theorem zhQ.refl {l:List (Option Tmp)}{a:Act}:zhQ l a a:=fun _ _=>rfl
theorem zhQ.trans {l:List (Option Tmp)}{a b c:Act}(h:zhQ l a b)(h2:zhQ l b c):zhQ l a c:=fun t ht=>(h2 t ht).trans (h t ht)
theorem zer {l:List (Option Tmp)}{a:Act}{d:Option Tmp}{v:Value}(h:d∈l):zhQ l a (a.put d v):=fun t ht=>by
 cases d with
 |none=>rfl
 |some d=>
  have hne:d≠t:=fun e=>ht (e▸h)
  show(a.tmps.setIfInBounds d v)[t]?=_
  exact Array.getElem?_setIfInBounds_ne hne
section
variable {P:Program} {ops:Array Oper} {Q Q1:Exit→Act→World→Prop} {K K2:Act→World→Prop} {a:Act} {w:World} {l:List (Option Tmp)}
theorem wp_keep {o:Oper}(hd:o.dst∈l)(h:o.wp P a w K Q1)(hQ:∀e a w,Q1 e a w→e= .normal)(hk:∀a' w',K a' w'→zhQ l a a'→K2 a' w'):o.wp P a w K2 Q:=by
 have no:∀{e a w},e≠Exit.normal→¬Q1 e a w:=fun he h=>he (hQ _ _ _ h)
 unfold Oper.wp at h ⊢
 generalize (execOp a.eval o).run P w=r at h ⊢
 cases r with
 |ok n w1=>
  cases n<;>simp only[Oper.upon]at h ⊢
  case value v=>exact hk _ _ h (zer hd)
  case skip=>exact hk _ _ h (zer hd)
  case defer d=>exact hk _ _ h (fun t ht=>(zer (a:={a with defers:=d::a.defers}) hd) t ht)
  case enter f args=>
   refine Calls.mono h fun e w2 he=>?_
   cases e with
   |returned v=>exact hk _ _ he (zer hd)
   |panicked c=>exact absurd he (no (by simp))
   |outgrown=>obtain⟨a',w',h'⟩:=he;exact absurd h' (no (by simp))
  case row row args=>exact Rows.mono h fun v w2 he=>hk _ _ he (zer hd)
  all_goals exact h
 |halt x w1=>
  cases x<;>simp only[Oper.upon]at h ⊢
  case panic v=>exact absurd h (no (by simp))
  all_goals first|exact h|exact absurd h (no (by simp))
def zib (ops:Array Oper):Bool:=(List.range ops.size).all fun i=>match ops[i]? with
 |some o=>o.after.all fun e=> !Region.binds .any e||decide (e.on<i)
 |none=>true
theorem zic (h:zib ops=true){i:Nat}{o:Oper}(ho:ops[i]?=some o):∀e∈o.after,Region.binds .any e=true→e.on<i:=by
 have hi:i<ops.size:=by
  rcases Nat.lt_or_ge i ops.size with h'|h'
  ·exact h'
  ·rw[Array.getElem?_eq_none h']at ho;cases ho
 have h1:=List.all_eq_true.1 h i (List.mem_range.2 hi)
 rw[ho]at h1
 intro e he hb
 have h2:=Array.all_eq_true'.1 h1 e he
 rw[hb]at h2
 simpa using h2
theorem zlq {k:Nat}(hk:ops.size=k+1){i:Nat}(hi:i<k):ops.pop[i]?=ops[i]?:=by
 rw[Array.getElem?_pop,if_pos (by omega)]
section
variable {k:Nat} {X:Act→World→Prop} {a0:Act}
theorem zxN (hk:ops.size=k+1)(hg:∀(i:Nat) (o:Oper),ops[i]?=some o→o.guard=none)(hl:∀(i:Nat) (o:Oper),i<k→ops[i]?=some o→o.dst∈l){i:Nat}(hi:i<k){a:Act}{w:World}(hkp:zhQ l a0 a)
  (h:wpOp P ops.pop (fun e a w=>e= .normal∧X a w) i K a w)(hK:∀a' w',zhQ l a0 a'→K a' w'→K2 a' w'):wpOp P ops Q i K2 a w:=by
 unfold wpOp at h ⊢
 rw[zlq hk hi]at h
 cases ho:ops[i]? with
 |none=>rw[ho]at h;exact hK _ _ hkp h
 |some o=>
  rw[ho]at h
  have hw:∀y,Region.wanted o y=true:=fun y=>by simp[Region.wanted,hg _ _ ho]
  simp only[hw,if_true]at h ⊢
  rcases h with h|h
  ·exact .inl (wp_keep (hl _ _ hi ho) h (fun _ _ _ h=>h.1) fun a' w' h1 h2=>hK _ _ (hkp.trans h2) h1)
  ·obtain⟨_,a',w',h1,_⟩:=h
   cases h1
theorem zoR (hk:ops.size=k+1)(hg:∀(i:Nat) (o:Oper),ops[i]?=some o→o.guard=none)(hl:∀(i:Nat) (o:Oper),i<k→ops[i]?=some o→o.dst∈l)
  (hX:∀a' w',X a' w'→zhQ l a0 a'→wpOp P ops Q k (Q .normal) a' w'):∀(idx:List Nat),(∀i∈idx,i<k)→∀(a:Act) (w:World),zhQ l a0 a→
  wpOps P ops.pop (fun e a w=>e= .normal∧X a w) idx a w→wpOps P ops Q (idx++[k]) a w
 |[],_,a,w,hkp,h=>by
  rw[List.nil_append,wpOps_cons]
  exact wpOp_mono (fun _ _ h=>h) (hX a w h.2 hkp)
 |i::idx,hi,a,w,hkp,h=>by
  rw[List.cons_append,wpOps_cons]
  rw[wpOps_cons]at h
  exact zxN hk hg hl (hi i (by simp)) hkp h fun a' w' h1 h2=>zoR hk hg hl hX idx (fun j hj=>hi j (by simp[hj])) a' w' h1 h2
theorem zyC {fuel:Nat}{L:Array Bool}{a:Act}{w:World}(hr:Region.ready .any ops L=[])(h:Q .normal a w):wpAny P .any ops Q fuel L a w:=by
 cases fuel with
 |zero=>exact⟨hr,h⟩
 |succ n=>exact⟨fun _=>h,fun i hi=>by rw[hr]at hi;cases hi⟩
theorem znk (hk:ops.size=k+1)(hback:zib ops=true){L L':Array Bool}(hL:L.size=k+1)(hL':L'.size=k)(he:∀j,j<k→L'.getD j false=L.getD j false){i:Nat}(hi:i<k):
  i∈Region.ready .any ops L↔i∈Region.ready .any ops.pop L':=by
 rw[mem_ready,mem_ready,zlq hk hi]
 have e1:L.getD i true=false↔L'.getD i true=false:=
  ⟨fun h=>getD_in (by omega) (by rw[he i hi];exact getD_both h),fun h=>getD_in (by omega) (by rw[←he i hi];exact getD_both h)⟩
 rw[e1]
 refine and_congr_right fun _=>exists_congr fun o=>and_congr_right fun ho=>forall_congr' fun e=>forall_congr' fun hm=>forall_congr' fun hb=>?_
 rw[he e.on (by have:=zic hback ho e hm hb;omega)]
theorem zjC {L:Array Bool}(inv:HeadInv .any ops k L)(hsink:Region.sinkB .any ops k=true)(hr:k∈Region.ready .any ops L):∀(m j:Nat),j<k→k-j≤m→L.getD j false=true
 |0,j,hj,hm=>by omega
 |m+1,j,hj,hm=>by
  obtain⟨_,ok,hok,hall⟩:=mem_ready.1 hr
  have h1:=List.all_eq_true.1 hsink j (List.mem_range.2 hj)
  obtain⟨i,hi,hw⟩:=List.any_eq_true.1 h1
  rw[Bool.and_eq_true,decide_eq_true_eq]at hw
  have hi':=List.mem_range.1 hi
  obtain⟨oi,hoi,e,he,hb,hon⟩:=Region.waitsFor_spec hw.2
  by_cases hik:i=k
  ·subst hik
   rw[hok]at hoi
   cases hoi
   rw[←hon]
   exact hall e he hb
  ·rw[←hon]
   exact inv.closed i oi hoi (zjC inv hsink hr m i (by omega) (by omega)) e he hb
theorem zj7 (hk:ops.size=k+1)(hback:zib ops=true){L':Array Bool}(hL':L'.size=k)(hr:Region.ready .any ops.pop L'=[]):∀(m j:Nat),j<m→j<k→L'.getD j false=true
 |0,j,hj,_=>by omega
 |m+1,j,hj,hjk=>by
  have ih:=zj7 hk hback hL' hr m
  by_cases h:j<m
  ·exact ih j h hjk
  ·cases hv:L'.getD j false with
   |true=>rfl
   |false=>
    have hlt:j<ops.size:=by omega
    have hm:j∈Region.ready .any ops.pop L':=mem_ready.2 ⟨getD_in (by omega) hv,ops[j],by rw[zlq hk hjk];exact Array.getElem?_eq_getElem hlt,fun e he hb=>by
     have:=zic hback (Array.getElem?_eq_getElem hlt) e he hb
     exact ih e.on (by omega) (by omega)⟩
    rw[hr]at hm;cases hm
theorem zyc (hk:ops.size=k+1)(hsink:Region.sinkB .any ops k=true)(hback:zib ops=true)(hg:∀(i:Nat) (o:Oper),ops[i]?=some o→o.guard=none)(hl:∀(i:Nat) (o:Oper),i<k→ops[i]?=some o→o.dst∈l)
  (hX:∀a' w',X a' w'→zhQ l a0 a'→wpOp P ops Q k (Q .normal) a' w'):∀(fuel:Nat) (L L':Array Bool) (a:Act) (w:World),HeadInv .any ops k L→L'.size=k→(∀j,j<k→L'.getD j false=L.getD j false)→zhQ l a0 a→
  wpAny P .any ops.pop (fun e a w=>e= .normal∧X a w) fuel L' a w→wpAny P .any ops Q (fuel+1) L a w:=by
 have last:∀(f:Nat) (L L':Array Bool) (a:Act) (w:World),HeadInv .any ops k L→L'.size=k→(∀j,j<k→L'.getD j false=L.getD j false)→zhQ l a0 a→Region.ready .any ops.pop L'=[]→X a w→wpAny P .any ops Q (f+1) L a w:=by
  intro f L L' a w inv hL' he hkp hr hx
  have hall:∀j,j<k→L.getD j false=true:=fun j hj=>by rw[←he j hj];exact zj7 hk hback hL' hr (j+1) j (by omega) hj
  have hsz:=inv.size
  have hkr:k∈Region.ready .any ops L:=mem_ready.2 ⟨inv.tail k (Nat.le_refl _) (by omega),ops[k],Array.getElem?_eq_getElem (by omega),fun e he hb=>by
   have:=zic hback (Array.getElem?_eq_getElem (by omega:k<ops.size)) e he hb
   exact hall e.on this⟩
  refine⟨fun h=>(by rw[h]at hkr;cases hkr),fun i hi=>?_⟩
  have hik:i=k:=by
   obtain⟨h1,o,ho,_⟩:=mem_ready.1 hi
   have hlt:i<ops.size:=by
    rcases Nat.lt_or_ge i ops.size with h'|h'
    ·exact h'
    ·rw[Array.getElem?_eq_none h']at ho;cases ho
   by_cases h:i<k
   ·have:=hall i h
    rw[getD_both h1]at this;cases this
   ·omega
  subst hik
  refine wpOp_mono (fun a' w' h=>zyC ?_ h) (hX a w hx hkp)
  rw[List.eq_nil_iff_forall_not_mem]
  intro j hj
  obtain⟨h1,o,ho,_⟩:=mem_ready.1 hj
  have hlt:j<ops.size:=by
   rcases Nat.lt_or_ge j ops.size with h'|h'
   ·exact h'
   ·rw[Array.getElem?_eq_none h']at ho;cases ho
  have h2:=getD_both h1
  by_cases hji:i=j
  ·subst hji
   rw[Array.getD_eq_getD_getElem?,Array.getElem?_setIfInBounds_self_of_lt (by omega)]at h2
   cases h2
  ·rw[getD_set_ne false hji]at h2
   rw[hall j (by omega)]at h2;cases h2
 intro fuel
 induction fuel with
 |zero=>
  intro L L' a w inv hL' he hkp h
  exact last 0 L L' a w inv hL' he hkp h.1 h.2.2
 |succ fuel ih=>
  intro L L' a w inv hL' he hkp h
  have hsz:=inv.size
  by_cases hr:Region.ready .any ops.pop L'=[]
  ·exact last _ L L' a w inv hL' he hkp hr (h.1 hr).2
  ·refine⟨fun hr2=>absurd ?_ hr,fun i hi=>?_⟩
   ·rw[List.eq_nil_iff_forall_not_mem]
    intro j hj
    have hjk:j<k:=by
     obtain⟨_,o,ho,_⟩:=mem_ready.1 hj
     rcases Nat.lt_or_ge j k with h'|h'
     ·exact h'
     ·rw[Array.getElem?_eq_none (by rw[Array.size_pop];omega)]at ho;cases ho
    have:=(znk hk hback (by omega) hL' he hjk).2 hj
    rw[hr2]at this;cases this
   ·have hlt:i<ops.size:=by
     obtain⟨_,o,ho,_⟩:=mem_ready.1 hi
     rcases Nat.lt_or_ge i ops.size with h'|h'
     ·exact h'
     ·rw[Array.getElem?_eq_none h']at ho;cases ho
    by_cases hik:i<k
    ·have hi':=(znk hk hback (by omega) hL' he hik).1 hi
     refine zxN hk hg hl hik hkp (h.2 i hi') fun a' w' h1 h2=>ih _ _ a' w' (inv.set hi hik) (by simpa using hL') (fun j hj=>?_) h1 h2
     by_cases hij:i=j
     ·subst hij
      rw[Array.getD_eq_getD_getElem?,Array.getD_eq_getD_getElem?,Array.getElem?_setIfInBounds_self_of_lt (by omega),Array.getElem?_setIfInBounds_self_of_lt (by omega)]
     ·rw[getD_set_ne false hij,getD_set_ne false hij];exact he j hj
    ·obtain rfl:i=k:=by omega
     refine absurd ?_ hr
     rw[List.eq_nil_iff_forall_not_mem]
     intro j hj
     obtain⟨h1,o,ho,_⟩:=mem_ready.1 hj
     have hjk:j<i:=by
      rcases Nat.lt_or_ge j i with h'|h'
      ·exact h'
      ·rw[Array.getElem?_eq_none (by rw[Array.size_pop];omega)]at ho;cases ho
     have h2:=zjC inv hsink hi i j hjk (by omega)
     rw[←he j hjk,getD_both h1]at h2
     cases h2
end
theorem zoS {G:Nat→List FD}{T:Tbl}{N tag0 k id:Nat}{am:Nat→Bool}{st:St}{L:Loc}{F:Nat→Nat→Prop}{Ks:St→Prop}(hm:P.follows .mixedOrders=true)(hT:zan P G T)(d:Bool)(hk:ops.size=k+1)
  (hs:d=true→Region.sinkB .any ops k=true∧zib ops=true∧ziu am T ops.pop=true)
  (hg:∀(i:Nat) (o:Oper),ops[i]?=some o→o.guard=none)(hl:∀(i:Nat) (o:Oper),i<k→ops[i]?=some o→o.dst∈l)
  (h:zgO P G T N tag0 am ops.pop ops.pop.toList Ks st)(hr:Rel G N st a w L F)
  (hX:∀a' w',Sat G N st w L F Ks a' w'→zhQ l a a'→wpOp P ops Q k (Q .normal) a' w'):(Code.region id ops d).wp P Q a w:=by
 have hsz:ops.pop.toList.length=k:=by rw[Array.length_toList,Array.size_pop];omega
 cases d with
 |false=>
  refine wp_region ?_
  have h1:=zo2 hT (Q':=fun e a' w'=>e= .normal∧Sat G N st w L F Ks a' w') ops.pop.toList 0 (fun j=>by rw[Array.getElem?_toList,Nat.zero_add]) st a w L F hr h (fun _ _ hs=>⟨rfl,hs⟩)
  have e1:(List.range ops.pop.toList.length).map (0+·)=List.range k:=by rw[hsz];simp
  rw[e1]at h1
  have h2:=zoR (l:=l) (a0:=a) (Q:=Q) hk hg hl hX (List.range k) (fun i hi=>List.mem_range.1 hi) a w zhQ.refl h1
  rw[hk,List.range_succ]
  exact h2
 |true=>
  obtain⟨s1,s2,s3⟩:=hs rfl
  refine wp_region_any hm ?_
  have hr':Rel G N st a {w with drawn:=w.drawn+1} L F:=⟨hr.ok.heap rfl,hr.size,fun t=>(hr.fr t).ext (zhW (w:=w) (w':={w with drawn:=w.drawn+1}) rfl),hr.nd⟩
  have hst:zfZ st w L F st {w with drawn:=w.drawn+1} L F:=⟨fun _ h=>h,fun _ _=>rfl,fun _ _ h=>h,Nat.le_refl _,fun _ _ _=>rfl,fun _ _ _ _=>rfl,fun _ cs T fr _ h=>⟨cs,T,fr,h,Nat.le_refl _⟩,fun _ _ h=> .inl h,fun _ _ h=> .inr h,rfl,rfl,rfl,Nat.le_succ _⟩
  have hd':zit am T ops.pop ops.pop.toList.length 0 (Array.replicate ops.pop.size false)=true:=by simpa[ziu]using s3
  have h1:=zkD hT (Q':=fun e a' w'=>e= .normal∧Sat G N st w L F Ks a' w') _ _ st a _ L F hr' (zgA hT ops.pop.toList 0 _ st (fun j=>by rw[Array.getElem?_toList,Nat.zero_add]) hd' h) (fun _ _ hs=>⟨rfl,hs.trans hst⟩)
  rw[hsz]at h1
  rw[hk]
  refine zyc (l:=l) (a0:=a) hk s1 s2 hg hl hX k _ _ a _ ⟨by rw[Array.size_replicate,hk],fun j oj _ hl=>?_,fun t ht ht'=>?_⟩ (by rw[Array.size_replicate,Array.size_pop];omega) (fun j hj=>?_) zhQ.refl h1
  ·rw[getD_replicate_false]at hl;cases hl
  ·exact getD_in (by rw[Array.size_replicate];omega) (getD_replicate_false _ _)
  ·rw[getD_replicate_false,getD_replicate_false]
theorem zmV {k:Nat}{o:Oper}{c:Call}{f:Operand}{g:FuncId}(hoo:ops[k]?=some o)(hgd:o.guard=none)(ho:o.op= .call c)(hc:c.callee= .value f)(hf:a.eval f= .func (.func g) #[] #[])(hok:zap P g)
  (h:Calls P g (c.args.toList.map a.eval).toArray w fun e w'=>∃v,e= .returned v∧Q .normal (a.put o.dst v) w'):wpOp P ops Q k (Q .normal) a w:=by
 unfold wpOp
 rw[hoo]
 have hw:Region.wanted o (yielded ops a.tmps)=true:=by simp[Region.wanted,hgd]
 simp only[hw,if_true]
 refine .inl ?_
 unfold Oper.wp
 rw[zhb (caps:=[]) ho hc hf hok,Oper.upon_enter]
 rw[List.append_nil]
 refine h.mono fun e w' he=>?_
 obtain⟨v,rfl,hq⟩:=he
 exact hq
end
end Go.Abs
namespace Go.Abs
open Go Go.RowKit
def zjj (o:Oper):Bool:=
 match o.op with
 | .move _| .assign _| .load _ _| .fieldAddr _ _ _| .indexAddr _ _ _=>true
 | .binOp _ _ _ y _=> !zdL y
 |_=>false
section
variable {P:Program} {G:Nat→List FD} {T:Tbl} {N tag0 k id:Nat} {am:Nat→Bool} {st:St} {ops:Array Oper} {Q:Exit→Act→World→Prop} {a:Act} {w:World} {L:Loc} {F:Nat→Nat→Prop} {K:St→Prop} {l:List (Option Tmp)}
theorem zzS {o:Oper}(h:zjj o=true):zc5 am T o=true:=by
 obtain⟨dst,op,ty,pos,after,guard⟩:=o
 cases op<;>first|rfl|(simp only[zjj]at h;cases h;done)|exact h
theorem zzT {o:Oper}(h:zjj o=true){ev:Operand→D}{H:zax}{r:D×Prop}(hq:zbz P T o ev H=some r):zby P o ev H=some r:=by
 unfold zbz at hq
 split at hq
 ·rename_i h1;rw[h1];exact hq
 ·obtain⟨dst,op,ty,pos,after,guard⟩:=o
  cases op<;>first|(simp only[zjj]at h;cases h;done)|(simp only at hq;cases hq;done)
def zA2 (G:Nat→List FD)(N:Nat)(w:World)(L:Loc)(F:Nat→Nat→Prop)(K:St→Prop)(a:Act)(w':World):Prop:=w'=w∧∃st,K st∧Rel G N st a w L F
theorem zg7:∀(ls:List Oper) (j:Nat),(∀i,ls[i]?=ops[j+i]?)→(∀o∈ls,zjj o=true∧o.guard=none)→∀(st:St) (a:Act),Rel G N st a w L F→zgO P G T N tag0 am ops ls K st→
  wpOps P ops (fun e a' w'=>e= .normal∧zA2 G N w L F K a' w') ((List.range ls.length).map (j+·)) a w
 |[],j,_,_,st,a,hr,h=>⟨rfl,rfl,st,h,hr⟩
 |o::ls,j,hl,hv,st,a,hr,h=>by
  have h0:ops[j]?=some o:=by have:=hl 0;simpa using this.symm
  have hl':∀i,ls[i]?=ops[j+1+i]?:=fun i=>by have:=hl (i+1);simp at this;rw[this];congr 1;omega
  obtain⟨hvo,hgo⟩:=hv o (by simp)
  have hrest:(List.range (o::ls).length).map (j+·)=j::(List.range ls.length).map (j+1+·):=by
   simp only[List.length_cons,List.range_succ_eq_map,List.map_cons,List.map_map,Nat.add_zero]
   congr 1
   apply List.map_congr_left
   intro i _
   simp;omega
  rw[hrest,wpOps_cons]
  simp only[zgO]at h
  obtain⟨b,hb,h1,_⟩:=zb7 h
  rw[hgo]at hb
  cases hb
  obtain⟨d,c,g1,g2,g3,g4⟩:=zEV o (zzS hvo) (h1 rfl)
  obtain⟨v,e1,e2⟩:=zpE (zzT hvo g1) g3 hr.ok hr.ev
  have hw:Region.wanted o (yielded ops a.tmps)=true:=by simp[Region.wanted,hgo]
  unfold wpOp
  simp only[h0,hw,if_true]
  refine .inl ?_
  unfold Oper.wp
  rw[e1]
  have hH:(st.put o.dst d).H=st.H:=by cases o.dst<;>rfl
  have hn:(st.put o.dst d).n=st.n:=by cases o.dst<;>rfl
  refine zg7 ls (j+1) hl' (fun o ho=>hv o (by simp[ho])) (st.put o.dst d) (a.put o.dst v) (hr.put (st':=st.put o.dst d) (by rw[hH,hn];exact hr.ok) (by rw[hH,hn];exact zbv.refl _ _ _ _ _) g2 (by rw[hn];exact e2) rfl) g4
theorem zlc {X:Act→World→Prop}{a0:Act}(hg:∀(i:Nat) (o:Oper),ops[i]?=some o→o.guard=none)(hl:∀(i:Nat) (o:Oper),ops[i]?=some o→o.dst∈l)
  (hX:∀a' w',X a' w'→zhQ l a0 a'→Q .normal a' w'):∀(idx:List Nat) (a:Act) (w:World),zhQ l a0 a→
  wpOps P ops (fun e a w=>e= .normal∧X a w) idx a w→wpOps P ops Q idx a w
 |[],a,w,hkp,h=>hX a w h.2 hkp
 |i::idx,a,w,hkp,h=>by
  rw[wpOps_cons]at h ⊢
  unfold wpOp at h ⊢
  cases ho:ops[i]? with
  |none=>rw[ho]at h;exact zlc hg hl hX idx a w hkp h
  |some o=>
   rw[ho]at h
   have hw:∀y,Region.wanted o y=true:=fun y=>by simp[Region.wanted,hg _ _ ho]
   simp only[hw,if_true]at h ⊢
   rcases h with h|h
   ·exact .inl (wp_keep (hl _ _ ho) h (fun _ _ _ h=>h.1) fun a' w' h1 h2=>zlc hg hl hX idx a' w' (hkp.trans h2) h1)
   ·obtain⟨_,a',w',h1,_⟩:=h
    cases h1
theorem znn (hv:∀o∈ops.toList,zjj o=true∧o.guard=none)(hl:∀(i:Nat) (o:Oper),ops[i]?=some o→o.dst∈l)(h:zgO P G T N tag0 am ops ops.toList K st)(hr:Rel G N st a w L F)
  (hX:∀a' st',K st'→Rel G N st' a' w L F→zhQ l a a'→Q .normal a' w):(Code.region id ops false).wp P Q a w:=by
 refine wp_region ?_
 have h1:=zg7 (w:=w) ops.toList 0 (fun j=>by rw[Array.getElem?_toList,Nat.zero_add]) hv st a hr h
 have e1:(List.range ops.toList.length).map (0+·)=List.range ops.size:=by simp
 rw[e1]at h1
 refine zlc (l:=l) (a0:=a) (fun i o ho=>(hv o (by rw[Array.mem_toList_iff];exact Array.mem_of_getElem? ho)).2) hl ?_ _ a w zhQ.refl h1
 rintro a' w' ⟨rfl,st',h2,h3⟩ hk
 exact hX a' st' h2 h3 hk
theorem znm (hk:ops.size=k+1)(hg:∀(i:Nat) (o:Oper),ops[i]?=some o→o.guard=none)(hl:∀(i:Nat) (o:Oper),i<k→ops[i]?=some o→o.dst∈l)
  (hv:∀o∈ops.pop.toList,zjj o=true)(h:zgO P G T N tag0 am ops.pop ops.pop.toList K st)(hr:Rel G N st a w L F)
  (hX:∀a' st',K st'→Rel G N st' a' w L F→zhQ l a a'→wpOp P ops Q k (Q .normal) a' w):(Code.region id ops false).wp P Q a w:=by
 refine wp_region ?_
 have hsz:ops.pop.toList.length=k:=by rw[Array.length_toList,Array.size_pop];omega
 have h1:=zg7 (w:=w) ops.pop.toList 0 (fun j=>by rw[Array.getElem?_toList,Nat.zero_add]) (fun o ho=>⟨hv o ho,by
  obtain⟨i,hi⟩:=List.getElem?_of_mem ho
  rw[Array.getElem?_toList]at hi
  have hik:i<k:=by
   rcases Nat.lt_or_ge i k with h'|h'
   ·exact h'
   ·rw[Array.getElem?_eq_none (by rw[Array.size_pop];omega)]at hi;cases hi
  exact hg i o (by rw[←zlq hk hik];exact hi)⟩) st a hr h
 have e1:(List.range ops.pop.toList.length).map (0+·)=List.range k:=by rw[hsz];simp
 rw[e1]at h1
 have h2:=zoR (l:=l) (a0:=a) (Q:=Q) hk hg hl (X:=zA2 G N w L F K) (fun a' w' hx hkp=>by
  obtain⟨rfl,st',g1,g2⟩:=hx
  exact hX a' st' g1 g2 hkp) (List.range k) (fun i hi=>List.mem_range.1 hi) a w zhQ.refl h1
 rw[hk,List.range_succ]
 exact h2
theorem zjf {ls:List Oper}(h:@zeu P G T N tag0 am ops ls st ⟨K⟩):zgO P G T N tag0 am ops ls K st:=by unfold zeu at h;exact h
theorem zrE {t:TypeId}{x:Operand}{o:Oper}(hops:ops= #[o])(ho:o.op= .box t x)(hg:o.guard=none)
  (h:Q .normal (a.put o.dst (.pointer (some ⟨w.heap.size,0,none⟩))) (w.alloc (.cells (a.eval x).cells t))):(Code.region id ops false).wp P Q a w:=by
 subst hops
 refine wp_region ?_
 show wpOps P #[o] Q [0] a w
 rw[wpOps_cons]
 have hget:(#[o]:Array Oper)[0]?=some o:=rfl
 have hw:∀y,Region.wanted o y=true:=fun y=>by simp[Region.wanted,hg]
 unfold wpOp
 simp only[hget,hw,if_true]
 refine .inl ?_
 unfold Oper.wp
 have e:(execOp a.eval o).run P w= .ok (.value (.pointer (some ⟨w.heap.size,0,none⟩))) (w.alloc (.cells (a.eval x).cells t)):=by
  simp only[execOp,ho]
  exact zcg (by simp[Instr.box,newVar,newRow])
 rw[e]
 exact h
end
def Pin (x:FD):Prop:=∀(w w':World) (F F':Nat→Nat→Prop) (v:Value),za8 w F v x→za8 w' F' v x
theorem zbE {x:Bool}:Pin (.b x):=fun _ _ _ _ _ h=>by rw[h.b_inv];exact .b x
theorem zGE {k:IntKind}{n:Int}:Pin (.i k n):=fun _ _ _ _ _ h=>by
 obtain⟨rfl,h1,h2⟩:=h.int_inv
 exact .i _ _ h1 h2
theorem zzq {l:List UInt8}:Pin (.s l):=fun _ _ _ _ _ h=>by
 obtain⟨x,rfl,rfl,h2,h3⟩:=h.s_inv
 exact .s x (by omega)
theorem zpe {T e:TypeId}{B b:Nat}{bs:List Value}{w w':World}(h:Lib.IsBuilderF T e B b bs w)(hk:∀k,k<w.heap.size→w'.heap[k]?=w.heap[k]?):Lib.IsBuilderF T e B b bs w':=by
 have lt:∀{k:Nat} {o:Obj},w.heap[k]?=some o→k<w.heap.size:=fun{k o} h=>by
  rcases Nat.lt_or_ge k w.heap.size with h'|h'
  ·exact h'
  ·rw[Array.getElem?_eq_none h']at h;cases h
 have one:∀{p:Value},Lib.BuilderAtF T e B b p bs w→Lib.BuilderAtF T e B b p bs w':=fun{p} h=>by
  obtain⟨h1,v,h2,⟨h3,h4⟩,h5⟩:=h
  refine⟨h1,v,by rw[hk _ (lt h2)];exact h2,⟨h3,?_⟩,h5⟩
  rcases h4 with h4|⟨g,cap,cur,fz,g1,g2,g3,g4⟩
  ·exact .inl h4
  ·exact .inr ⟨g,cap,cur,fz,g1,g2,by rw[hk _ (lt g3)];exact g3,g4⟩
 exact h.imp one one
theorem zjF {T e:TypeId}{B b:Nat}{bs:List Value}{w:World}(h:Lib.IsBuilderF T e B b bs w):B≤b∧b<w.heap.size:=by
 have one:∀{p:Value},Lib.BuilderAtF T e B b p bs w→B≤b∧b<w.heap.size:=fun{p} h=>by
  obtain⟨h1,v,h2,_⟩:=h
  refine⟨h1,?_⟩
  rcases Nat.lt_or_ge b w.heap.size with h'|h'
  ·exact h'
  ·rw[Array.getElem?_eq_none h']at h2;cases h2
 exact h.elim one one
structure WF0 (G:Nat→List FD)(e TF:TypeId)(w0:World)(B b tb:Nat)(F:Nat→Nat→Prop)(vals:List Value)(flds:List FD):Prop where
 prot:∀k j,F k j→k<w0.heap.size∧k≠b∧(k<B∨∃o,w0.heap[k]?=some o∧∀c fz,o≠ .cells c e fz)
 glob:zfX G w0 F
 hB:B≤b
 htb:tb≠b
 hT:TF≠e
 vl:vals.length=flds.length
 vr:∀j,j<flds.length→za8 w0 F (vals.getD j undef) (flds.getD j .nilf)
structure WS (T e TF:TypeId)(N sb sx:Nat)(w0:World)(B b tb:Nat)(F:Nat→Nat→Prop)(vals:List Value)(ex:List (Nat×FD))(l:List UInt8)(a:Act)(w:World):Prop where
 sz:a.tmps.size=N
 nd:a.defers=[]
 p0:a.tmps[sb]?=some (.pointer (some ⟨b,0,none⟩))
 p3:a.tmps[sx]?=some (.pointer (some ⟨tb,0,none⟩))
 px:∀p∈ex,Pin p.2∧∃v,a.tmps[p.1]?=some v∧za8 w0 F v p.2
 fk:∀k j,F k j→w.heap[k]?=w0.heap[k]?
 bld:Lib.IsBuilderF T e B b (Lib.byteCells l) w
 box:w.heap[tb]?=some (.cells vals.toArray TF (0,0))
 below:Below B w0 w
 oth:Lib.OthersKept e (some b) w0 w
def stB (sb sx:Nat)(flds:List FD)(ex:List (Nat×FD)):St:=⟨frL ((sb,.ptr (0,0) 0)::(sx,.rp flds)::ex.map fun p=>(p.1,.fz p.2)),hpL [],1⟩
def LB (b:Nat):Loc:=fun _=>⟨b,0,false⟩
def FB (F:Nat→Nat→Prop)(tb:Nat):Nat→Nat→Prop:=fun k j=>F k j∨k=tb
theorem getD_some {a:Array Value}{t:Nat}{v:Value}(h:a[t]?=some v):a.getD t undef=v:=by
 rw[Array.getD_eq_getD_getElem?,h];rfl
theorem zCL {L:Loc}{b:Nat}:¬Blk (hpL []) L b:=fun⟨id,o,h,_⟩=>by cases h
section
variable {P:Program} {G:Nat→List FD} {T e TF:TypeId} {N sb sx:Nat} {w0:World} {B b tb:Nat} {F:Nat→Nat→Prop} {vals:List Value} {flds:List FD} {ex ex':List (Nat×FD)} {l S:List UInt8} {a a':Act} {w w':World}
theorem WS.rel (s:WF0 G e TF w0 B b tb F vals flds)(h:WS T e TF N sb sx w0 B b tb F vals ex l a w):Rel G N (stB sb sx flds ex) a w (LB b) (FB F tb):=by
 have hat:∀k j,F k j→World.at w k j=World.at w0 k j:=fun k j hf=>zeJ (h.fk k j hf) j
 have htb:tb<w.heap.size:=by
  rcases Nat.lt_or_ge tb w.heap.size with h'|h'
  ·exact h'
  ·have:=h.box;rw[Array.getElem?_eq_none h']at this;cases this
 refine⟨⟨fun k j hk=>?_,fun id o ho=>(by cases ho),fun id id' o o' ho=>(by cases ho),zce (fun _ _ h=> .inl h) hat s.glob⟩,h.sz,fun t=>?_,h.nd⟩
 ·rcases hk with hk|rfl
  ·exact Nat.lt_of_lt_of_le (s.prot k j hk).1 h.below.size
  ·exact htb
 ·unfold stB
  simp only[zk1]
  by_cases h0:t=sb
  ·subst h0
   rw[if_pos rfl,getD_some h.p0]
   simp only[zak]
   exact⟨by unfold Ub;omega,(zjF h.bld).2,by unfold LB;rfl⟩
  ·rw[if_neg h0]
   by_cases h3:t=sx
   ·subst h3
    rw[if_pos rfl,getD_some h.p3]
    simp only[zak]
    refine⟨tb,0,rfl,fun j hj=>⟨.inr rfl,vals.getD j undef,?_,(s.vr j hj).mono hat fun _ _ h=> .inl h⟩⟩
    rw[zft h.box,Nat.zero_add]
    have hj':j<vals.length:=by rw[s.vl];exact hj
    simp[List.getD_eq_getElem?_getD,List.getElem?_eq_getElem hj',hj']
   ·rw[if_neg h3]
    have hpx:=h.px
    clear h0 h3
    induction ex with
    |nil=>simp[frL,zak]
    |cons p ex ih=>
     simp only[List.map_cons,zk1]
     by_cases hp:t=p.1
     ·rw[if_pos hp]
      obtain⟨h1,v,h2,h3⟩:=hpx p (by simp)
      rw[hp,getD_some h2]
      simp only[zak]
      exact h1 _ _ _ _ _ h3
     ·rw[if_neg hp]
      exact ih ⟨h.sz,h.nd,h.p0,h.p3,fun q hq=>h.px q (by simp[hq]),h.fk,h.bld,h.box,h.below,h.oth⟩ fun q hq=>hpx q (by simp[hq])
theorem WS.step (s:WF0 G e TF w0 B b tb F vals flds)(h:WS T e TF N sb sx w0 B b tb F vals ex l a w)(keep:∀k,k<w.heap.size→w'.heap[k]?=w.heap[k]?)(hs:w.heap.size≤w'.heap.size)(ho:w'.os=w.os)(ht:w'.tape=w.tape)(hu:w'.output=w.output)
  (sz:a'.tmps.size=N)(nd:a'.defers=[])(hsub:∀p∈ex',p∈ex)(hk:∀t∈sb::sx::ex'.map (·.1),a'.tmps[t]?=a.tmps[t]?):WS T e TF N sb sx w0 B b tb F vals ex' l a' w':=by
 have lt:∀{k:Nat} {o:Obj},w.heap[k]?=some o→k<w.heap.size:=fun{k o} h=>by
  rcases Nat.lt_or_ge k w.heap.size with h'|h'
  ·exact h'
  ·rw[Array.getElem?_eq_none h']at h;cases h
 have hBw:=zjF h.bld
 refine⟨sz,nd,by rw[hk sb (by simp)];exact h.p0,by rw[hk sx (by simp)];exact h.p3,fun p hp=>?_,fun k j hf=>?_,zpe h.bld keep,by rw[keep _ (lt h.box)];exact h.box,?_,?_⟩
 ·obtain⟨h1,v,h2,h3⟩:=h.px p (hsub p hp)
  exact⟨h1,v,by rw[hk p.1 (by simp only[List.mem_cons,List.mem_map];exact .inr (.inr ⟨p,hp,rfl⟩))];exact h2,h3⟩
 ·rw[keep k (Nat.lt_of_lt_of_le (s.prot k j hf).1 h.below.size)];exact h.fk k j hf
 ·exact h.below.trans ⟨ho,ht,hu,hs,fun k hk=>keep k (by omega)⟩
 ·exact h.oth.trans fun k o hk _ _=>by rw[keep k (lt hk)];exact hk
theorem WS.call (s:WF0 G e TF w0 B b tb F vals flds)(h:WS T e TF N sb sx w0 B b tb F vals ex l a w)(h1:Lib.IsBuilderF T e B b (Lib.byteCells (l++S)) w')(h2:Below B w w')(h3:Lib.OthersKept e (some b) w w')
  {d:Option Tmp}{v:Value}(hd:∀t∈sb::sx::ex.map (·.1),some t∉[d]):WS T e TF N sb sx w0 B b tb F vals ex (l++S) (a.put d v) w':=by
 have hp:=zer (l:=[d]) (a:=a) (d:=d) (v:=v) (by simp)
 refine⟨?_,?_,by rw[hp sb (hd sb (by simp))];exact h.p0,by rw[hp sx (hd sx (by simp))];exact h.p3,fun p hq=>?_,fun k j hf=>?_,h1,?_,h.below.trans h2,h.oth.trans h3⟩
 ·cases d
  ·exact h.sz
  ·show(a.tmps.setIfInBounds _ _).size=_
   rw[Array.size_setIfInBounds];exact h.sz
 ·cases d<;>exact h.nd
 ·obtain⟨g1,u,g2,g3⟩:=h.px p hq
  exact⟨g1,u,by rw[hp p.1 (hd p.1 (by simp only[List.mem_cons,List.mem_map];exact .inr (.inr ⟨p,hq,rfl⟩)))];exact g2,g3⟩
 ·rw[←h.fk k j hf]
  obtain⟨p1,p2,p3⟩:=s.prot k j hf
  rcases p3 with p3|⟨o,p3,p4⟩
  ·exact h2.block k p3
  ·rw[←h.fk k j hf]at p3
   rw[p3]
   exact h3 k o p3 (fun e=>p2 (Option.some.inj e)) p4
 ·refine h3 tb _ h.box (fun e=>?_) fun c fz e=>?_
  ·exact s.htb (Option.some.inj e)
  ·have e2:=congrArg (fun o:Obj=>match o with| .cells _ t _=>t|_=>TF) e
   exact s.hT e2
theorem WS.bool {t:Nat}{x:Bool}(h:WS T e TF N sb sx w0 B b tb F vals ((t,.b x)::ex) l a w):a.eval (.tmp t)= .bool x:=by
 obtain⟨_,v,h1,h2⟩:=h.px (t,.b x) (by simp)
 show a.tmps.getD t undef=_
 rw[getD_some h1,h2.b_inv]
section
variable {Tb:Tbl} {tag0 k id:Nat} {am:Nat→Bool} {ops:Array Oper} {Q:Exit→Act→World→Prop} {dl:List (Option Tmp)} {o:Oper} {c:Call} {g:FuncId} {x0 x1:Operand} {y:FD}
theorem zA3 (s:WF0 G e TF w0 B b tb F vals flds)(h:WS T e TF N sb sx w0 B b tb F vals ex l a w)(t:Nat)(x:FD)(ex':List (Nat×FD))(hv:∀o∈ops.toList,zjj o=true∧o.guard=none)(hl:∀(i:Nat) (o:Oper),ops[i]?=some o→o.dst∈dl)
  (hX:zgO P G Tb N tag0 am ops ops.toList (fun st=>st.fr t= .fz x) (stB sb sx flds ex))(hp:Pin x)(ht:t<N)(hk:∀u∈sb::sx::ex'.map (·.1),some u∉dl)(hsub:∀p∈ex',p∈ex)
  (hK:∀a',WS T e TF N sb sx w0 B b tb F vals ((t,x)::ex') l a' w→Q .normal a' w):(Code.region id ops false).wp P Q a w:=by
 refine znn (l:=dl) hv hl hX (h.rel s) fun a' st' h1 h2 h3=>hK a' ?_
 have h4:=h.step (ex':=ex') (a':=a') s (fun _ _=>rfl) (Nat.le_refl _) rfl rfl rfl h2.size h2.nd hsub fun u hu=>h3 u (hk u hu)
 refine{h4 with px:=fun p hq=>?_}
 rcases List.mem_cons.1 hq with rfl|hq
 ·have h5:=h2.fr t
  rw[h1]at h5
  have hlt:t<a'.tmps.size:=by rw[h2.size];exact ht
  refine⟨hp,a'.tmps[t],Array.getElem?_eq_getElem hlt,?_⟩
  rw[getD_some (Array.getElem?_eq_getElem hlt)]at h5
  simp only[zak]at h5
  exact hp _ _ _ _ _ h5
 ·exact h4.px p hq
theorem zqk {f:Operand→Value}{x0 x1:Operand}{l:List Operand}(h:l=[x0,x1]):(l.map f).toArray= #[f x0,f x1]:=by subst h;rfl
theorem zx2 (s:WF0 G e TF w0 B b tb F vals flds)(h:WS T e TF N sb sx w0 B b tb F vals ex l a w)(hk:ops.size=k+1)(hg:∀(i:Nat) (o:Oper),ops[i]?=some o→o.guard=none)(hl:∀(i:Nat) (o:Oper),ops[i]?=some o→o.dst∈dl)
  (hv:∀o∈ops.pop.toList,zjj o=true)(ho:ops[k]?=some o)(hoc:o.op= .call c)(hc:c.callee= .value (.func g))(ha:c.args.toList=[x0,x1])(hok:zap P g)
  (hX:zgO P G Tb N tag0 am ops.pop ops.pop.toList (fun st=>st.ev G x0= .ptr (0,0) 0∧st.ev G x1= .fz y) (stB sb sx flds ex))(hkp:∀u∈sb::sx::ex.map (·.1),some u∉dl)
  (hcall:∀v,za8 w (FB F tb) v y→Calls P g #[.pointer (some ⟨b,0,none⟩),v] w fun E w'=>∃r,E= .returned r∧Lib.IsBuilderF T e B b (Lib.byteCells (l++S)) w'∧Below B w w'∧Lib.OthersKept e (some b) w w')
  (hK:∀a' w',WS T e TF N sb sx w0 B b tb F vals ex (l++S) a' w'→Q .normal a' w'):(Code.region id ops false).wp P Q a w:=by
 refine znm (l:=dl) hk hg (fun i o _ h=>hl i o h) hv hX (h.rel s) fun a' st' h1 h2 h3=>?_
 have h4:=h.step (ex':=ex) (a':=a') s (fun _ _=>rfl) (Nat.le_refl _) rfl rfl rfl h2.size h2.nd (fun _ h=>h) fun u hu=>h3 u (hkp u hu)
 have e0:=h2.ev x0
 have e1:=h2.ev x1
 rw[h1.1]at e0
 rw[h1.2]at e1
 simp only[zak]at e0 e1
 refine zmV ho (hg k o ho) hoc hc rfl hok ?_
 rw[zqk ha,e0.2.2]
 refine(hcall _ e1).mono fun E w' he=>?_
 obtain⟨r,rfl,g1,g2,g3⟩:=he
 refine⟨r,rfl,hK _ _ (h4.call s g1 g2 g3 fun u hu hm=>hkp u hu ?_)⟩
 rw[List.mem_singleton.1 hm];exact hl k o ho
theorem zx3 (s:WF0 G e TF w0 B b tb F vals flds)(h:WS T e TF N sb sx w0 B b tb F vals ex l a w)(hm:P.follows .mixedOrders=true)(hT:zan P G Tb)(d:Bool)(hk:ops.size=k+1)(hs:d=true→Region.sinkB .any ops k=true∧zib ops=true∧ziu am Tb ops.pop=true)
  (hg:∀(i:Nat) (o:Oper),ops[i]?=some o→o.guard=none)(hl:∀(i:Nat) (o:Oper),ops[i]?=some o→o.dst∈dl)
  (ho:ops[k]?=some o)(hoc:o.op= .call c)(hc:c.callee= .value (.func g))(ha:c.args.toList=[x0,x1])(hok:zap P g)
  (hX:zgO P G Tb N tag0 am ops.pop ops.pop.toList (fun st=>st.ev G x0= .ptr (0,0) 0∧st.ev G x1= .fz y) (stB sb sx flds ex))(hkp:∀u∈sb::sx::ex.map (·.1),some u∉dl)
  (hcall:∀w1 F1 v,za8 w1 F1 v y→Lib.IsBuilderF T e B b (Lib.byteCells l) w1→Calls P g #[.pointer (some ⟨b,0,none⟩),v] w1 fun E w'=>∃r,E= .returned r∧Lib.IsBuilderF T e B b (Lib.byteCells (l++S)) w'∧Below B w1 w'∧Lib.OthersKept e (some b) w1 w')
  (hK:∀a' w',WS T e TF N sb sx w0 B b tb F vals ex (l++S) a' w'→Q .normal a' w'):(Code.region id ops d).wp P Q a w:=by
 refine zoS (l:=dl) hm hT d hk hs hg (fun i o _ h=>hl i o h) hX (h.rel s) fun a' w1 hsat h3=>?_
 obtain⟨st',L',F',h1,h2,h5⟩:=hsat
 unfold zfZ at h5
 have hkeep:∀q,q<w.heap.size→w1.heap[q]?=w.heap[q]?:=fun q hq=>h5.keep q hq zCL
 have h4:=h.step (ex':=ex) (a':=a') s hkeep h5.size h5.os h5.tape h5.output h2.size h2.nd (fun _ h=>h) fun u hu=>h3 u (hkp u hu)
 have e0:=h2.ev x0
 have e1:=h2.ev x1
 rw[h1.1]at e0
 rw[h1.2]at e1
 simp only[zak]at e0 e1
 have hL:L' (0,0)=⟨b,0,false⟩:=h5.l (0,0) (by unfold Ub stB;exact Nat.zero_lt_one)
 rw[hL]at e0
 refine zmV ho (hg k o ho) hoc hc rfl hok ?_
 rw[zqk ha,e0.2.2]
 refine(hcall _ _ _ e1 h4.bld).mono fun E w' he=>?_
 obtain⟨r,rfl,g1,g2,g3⟩:=he
 refine⟨r,rfl,hK _ _ (h4.call s g1 g2 g3 fun u hu hm=>hkp u hu ?_)⟩
 rw[List.mem_singleton.1 hm];exact hl k o ho
theorem zzi {q:Oper→Bool}(h:ops.toList.all q=true):∀(i:Nat) (o:Oper),ops[i]?=some o→q o=true:=fun i o ho=>
 List.all_eq_true.1 h o (by rw[Array.mem_toList_iff];exact Array.mem_of_getElem? ho)
theorem ztW {l:List Nat}(h:(l.all fun u=> !dl.contains (some u))=true):∀u∈l,some u∉dl:=fun u hu hm=>by
 have:=List.all_eq_true.1 h u hu
 simp only[Bool.not_eq_true',List.contains_eq_mem,decide_eq_false_iff_not]at this
 exact this hm
def stA (dl:List (Option Tmp))(ops:Array Oper):Bool:=ops.toList.all fun o=>o.guard.isNone&&dl.contains o.dst
theorem zlH (h:stA dl ops=true):(∀(i:Nat) (o:Oper),ops[i]?=some o→o.guard=none)∧∀(i:Nat) (o:Oper),ops[i]?=some o→o.dst∈dl:=by
 have h1:=zzi h
 refine⟨fun i o ho=>?_,fun i o ho=>?_⟩
 ·have:=h1 i o ho
  rw[Bool.and_eq_true]at this
  simpa using this.1
 ·have:=h1 i o ho
  rw[Bool.and_eq_true]at this
  simpa using this.2
theorem zaJ (s:WF0 G e TF w0 B b tb F vals flds)(h:WS T e TF N sb sx w0 B b tb F vals ex l a w)(t:Nat)(x:FD)(ex':List (Nat×FD))(dl:List (Option Tmp))(h1:(stA dl ops&&ops.toList.all zjj)=true)(h2:((sb::sx::ex'.map (·.1)).all fun u=> !dl.contains (some u))=true)(ht:t<N)(hp:Pin x)(hsub:∀p∈ex',p∈ex)
  (hX:@zeu P G Tb N tag0 am ops ops.toList (stB sb sx flds ex) ⟨fun st=>st.fr t= .fz x⟩)(hK:∀a',WS T e TF N sb sx w0 B b tb F vals ((t,x)::ex') l a' w→Q .normal a' w):(Code.region id ops false).wp P Q a w:=by
 rw[Bool.and_eq_true]at h1
 obtain⟨g1,g2⟩:=zlH h1.1
 refine zA3 (dl:=dl) s h t x ex' (fun o ho=>⟨List.all_eq_true.1 h1.2 o ho,?_⟩) g2 (zjf hX) hp ht (ztW h2) hsub hK
 obtain⟨i,hi⟩:=List.getElem?_of_mem ho
 rw[Array.getElem?_toList]at hi
 exact g1 i o hi
theorem zbh (s:WF0 G e TF w0 B b tb F vals flds)(h:WS T e TF N sb sx w0 B b tb F vals ex l a w)(k:Nat)(dl:List (Option Tmp))(hk:ops.size=k+1)(h1:(stA dl ops&&ops.pop.toList.all zjj)=true)(h2:((sb::sx::ex.map (·.1)).all fun u=> !dl.contains (some u))=true)
  (ho:ops[k]?=some o)(hoc:o.op= .call c)(hc:c.callee= .value (.func g))(ha:c.args.toList=[x0,x1])(hok:zap P g)
  (hX:@zeu P G Tb N tag0 am ops.pop ops.pop.toList (stB sb sx flds ex) ⟨fun st=>st.ev G x0= .ptr (0,0) 0∧st.ev G x1= .fz y⟩)
  (hcall:∀v,za8 w (FB F tb) v y→Calls P g #[.pointer (some ⟨b,0,none⟩),v] w fun E w'=>∃r,E= .returned r∧Lib.IsBuilderF T e B b (Lib.byteCells (l++S)) w'∧Below B w w'∧Lib.OthersKept e (some b) w w')
  (hK:∀a' w',WS T e TF N sb sx w0 B b tb F vals ex (l++S) a' w'→Q .normal a' w'):(Code.region id ops false).wp P Q a w:=by
 rw[Bool.and_eq_true]at h1
 obtain⟨g1,g2⟩:=zlH h1.1
 exact zx2 (dl:=dl) s h hk g1 g2 (fun o ho=>List.all_eq_true.1 h1.2 o ho) ho hoc hc ha hok (zjf hX) (ztW h2) hcall hK
theorem zfY (s:WF0 G e TF w0 B b tb F vals flds)(h:WS T e TF N sb sx w0 B b tb F vals ex l a w)(hm:P.follows .mixedOrders=true)(hT:zan P G Tb)(d:Bool)(k:Nat)(dl:List (Option Tmp))(hk:ops.size=k+1)(h1:stA dl ops=true)(h0:(!d||(Region.sinkB .any ops k&&zib ops&&ziu am Tb ops.pop))=true)(h2:((sb::sx::ex.map (·.1)).all fun u=> !dl.contains (some u))=true)
  (ho:ops[k]?=some o)(hoc:o.op= .call c)(hc:c.callee= .value (.func g))(ha:c.args.toList=[x0,x1])(hok:zap P g)
  (hX:@zeu P G Tb N tag0 am ops.pop ops.pop.toList (stB sb sx flds ex) ⟨fun st=>st.ev G x0= .ptr (0,0) 0∧st.ev G x1= .fz y⟩)
  (hcall:∀w1 F1 v,za8 w1 F1 v y→Lib.IsBuilderF T e B b (Lib.byteCells l) w1→Calls P g #[.pointer (some ⟨b,0,none⟩),v] w1 fun E w'=>∃r,E= .returned r∧Lib.IsBuilderF T e B b (Lib.byteCells (l++S)) w'∧Below B w1 w'∧Lib.OthersKept e (some b) w1 w')
  (hK:∀a' w',WS T e TF N sb sx w0 B b tb F vals ex (l++S) a' w'→Q .normal a' w'):(Code.region id ops d).wp P Q a w:=by
 obtain⟨g1,g2⟩:=zlH h1
 refine zx3 (dl:=dl) s h hm hT d hk (fun hd=>?_) g1 g2 ho hoc hc ha hok (zjf hX) (ztW h2) hcall hK
 subst hd
 simp only[Bool.not_true,Bool.false_or,Bool.and_eq_true]at h0
 exact⟨h0.1.1,h0.1.2,h0.2⟩
theorem ztZ {i:Nat}{K:Act→World→Prop}{w1:World}{v:Value}(ho:ops[i]?=some o)(hg:o.guard=none)(hrun:(execOp a.eval o).run P w= .ok (.value v) w1)(h:K (a.put o.dst v) w1):wpOp P ops Q i K a w:=by
 have hw:Region.wanted o (yielded ops a.tmps)=true:=by simp[Region.wanted,hg]
 unfold wpOp
 simp only[ho,hw,if_true]
 refine .inl ?_
 unfold Oper.wp
 rw[hrun]
 exact h
theorem zzn {i:Nat}{K:Act→World→Prop}{f:Operand}{d:Option Tmp}(hoo:ops[i]?=some o)(hgd:o.guard=none)(hd:o.dst=d)(ho:o.op= .call c)(hc:c.callee= .value f)(hf:a.eval f= .func (.func g) #[] #[])(hok:zap P g)
  (h:Calls P g (c.args.toList.map a.eval).toArray w fun e w'=>∃v,e= .returned v∧K (a.put d v) w'):wpOp P ops Q i K a w:=by
 subst hd
 have hw:Region.wanted o (yielded ops a.tmps)=true:=by simp[Region.wanted,hgd]
 unfold wpOp
 simp only[hoo,hw,if_true]
 refine .inl ?_
 unfold Oper.wp
 rw[zhb (caps:=[]) ho hc hf hok,Oper.upon_enter,List.append_nil]
 refine h.mono fun e w' he=>?_
 obtain⟨v,rfl,hq⟩:=he
 exact hq
theorem znb {i:Nat}{K:Act→World→Prop}{x:Operand}{d:Option Tmp}{v:Value}(hoo:ops[i]?=some o)(hgd:o.guard=none)(ho:o.op= .assign x)(hd:o.dst=d)(hv:a.eval x=v)(h:K (a.put d v) w):wpOp P ops Q i K a w:=
 ztZ hoo hgd (v:=v) (w1:=w) (by simp only[execOp,ho,hv];rfl) (by rw[hd];exact h)
theorem zaE {K:Act→World→Prop}(h:K a w):Exit.then K Q .normal a w:=h
theorem zel {i:Nat}(h:Q .normal a w):Exit.inBlock i Q .normal a w:=h
end
end
theorem WF0.next {G:Nat→List FD}{T e TF:TypeId}{N sb sx:Nat}{w0:World}{B b tb:Nat}{F:Nat→Nat→Prop}{vals:List Value}{flds:List FD}{ex:List (Nat×FD)}{l:List UInt8}{a:Act}{w:World}(s:WF0 G e TF w0 B b tb F vals flds)(h:WS T e TF N sb sx w0 B b tb F vals ex l a w):
  ∀k j,FB F tb k j→k<w.heap.size∧k≠b∧(k<B∨∃o,w.heap[k]?=some o∧∀c fz,o≠ .cells c e fz):=fun k j hk=>by
 rcases hk with hk|rfl
 ·obtain⟨p1,p2,p3⟩:=s.prot k j hk
  refine⟨Nat.lt_of_lt_of_le p1 h.below.size,p2,p3.imp_right fun⟨o,g1,g2⟩=>⟨o,by rw[h.fk k j hk];exact g1,g2⟩⟩
 ·refine⟨?_,s.htb,.inr ⟨_,h.box,fun c fz e2=>?_⟩⟩
  ·rcases Nat.lt_or_ge k w.heap.size with h'|h'
   ·exact h'
   ·have:=h.box;rw[Array.getElem?_eq_none h']at this;cases this
  ·have e3:=congrArg (fun o:Obj=>match o with| .cells _ t _=>t|_=>TF) e2
   exact s.hT e3
end Go.Abs

import Derived.Test.YtkkffhphodngkaaDoorY5
set_option linter.unusedSimpArgs false
namespace Go.Abs
open Go
inductive zac where
 |mk (kind:Int) (name:Str) (words:List Str) (subs:List zac)
namespace zac
def kind:zac→Int|mk k _ _ _=>k
def name:zac→Str|mk _ n _ _=>n
def words:zac→List Str|mk _ _ w _=>w
def subs:zac→List zac|mk _ _ _ s=>s
end zac
@[go_sem] theorem zax {k n w s}:(zac.mk k n w s).kind=k:=rfl
@[go_sem] theorem zel {k n w s}:(zac.mk k n w s).name=n:=rfl
@[go_sem] theorem zdD {k n w s}:(zac.mk k n w s).words=w:=rfl
@[go_sem] theorem zaN {k n w s}:(zac.mk k n w s).subs=s:=rfl
@[go_sem] theorem zag {f:zac}:zac.mk f.kind f.name f.words f.subs=f:=by cases f;rfl
mutual
def zwI:zac→FD
 | .mk k n w s=> .agg [.i .i64 k,.s n.l,.sl (w.map enc),.sl (zoT s)]
def zoT:List zac→List FD
 |[]=>[]
 |f::fs=>zwI f::zoT fs
end
mutual
def zwE:FD→zac
 | .agg [.i _ k,.s n,.sl w,.sl s]=> .mk k ⟨n⟩ (w.map dec) (zoL s)
 |_=> .mk 0 ⟨[]⟩ [] []
def zoL:List FD→List zac
 |[]=>[]
 |x::xs=>zwE x::zoL xs
end
theorem zc5 {α:Type}[Enc α](l:List α):(l.map enc).map dec=l:=by
 rw[List.map_map,show(dec∘enc:α→α)=id from funext fun a=>dec_enc a];simp
mutual
theorem zkw:∀f,zwE (zwI f)=f
 | .mk k n w s=>by
  simp only[zwI,zwE,zc5,zhi s]
theorem zhi:∀s,zoL (zoT s)=s
 |[]=>rfl
 |f::fs=>by simp only[zoT,zoL,zkw f,zhi fs]
end
instance:Enc zac:=⟨zwI,zwE,zkw⟩
theorem zkF:∀s:List zac,zoT s=s.map enc
 |[]=>rfl
 |f::fs=>by rw[zoT,zkF fs];rfl
theorem zkx:∀s:List FD,zoL s=dec (α:=List zac) (.sl s)
 |[]=>rfl
 |f::fs=>by rw[zoL,zkx fs];rfl
@[go_sem] theorem zaG {f:zac}:enc f= .agg [.i .i64 f.kind,.s f.name.l,.sl (f.words.map enc),.sl (f.subs.map enc)]:=by
 cases f with
 |mk k n w s=>show zwI _=_;rw[zwI,zkF];rfl
@[go_sem] theorem zzP {i k n w s}:dec (α:=zac) (.agg [.i i k,.s n,.sl w,.sl s])= .mk k ⟨n⟩ (dec (.sl w)) (dec (.sl s)):=by
 show zwE _=_;rw[zwE,zkx];rfl
instance:Kc zac 4:=⟨fun f=>by rw[zaG];rfl⟩
@[go_sem] theorem zxk {l:List zac}:zbi (l.map enc) 4=True:=eq_true (zdo l)
@[go_sem] theorem zvp {l:List zac}:(zad (l.map enc)).all zcF=true:=by
 rw[List.all_eq_true]
 intro d hd
 simp only[zad,List.mem_flatMap,List.mem_map]at hd
 obtain⟨_,⟨a,_,rfl⟩,x,hx,rfl⟩:=hd
 simp only[zaG,FD.cells,List.mem_cons,List.not_mem_nil,or_false]at hx
 rcases hx with rfl|rfl|rfl|rfl<;>rfl
mutual
def zac.beq:zac→zac→Bool
 | .mk k n w s,.mk k' n' w' s'=>decide (k=k')&&decide (n=n')&&decide (w=w')&&zac.beqs s s'
def zac.beqs:List zac→List zac→Bool
 |[],[]=>true
 |f::fs,g::gs=>zac.beq f g&&zac.beqs fs gs
 |[],_::_=>false
 |_::_,[]=>false
end
mutual
theorem zac.beq_iff:∀f g:zac,zac.beq f g=true↔f=g
 | .mk k n w s,.mk k' n' w' s'=>by
  simp only[zac.beq,Bool.and_eq_true,decide_eq_true_eq,zac.beqs_iff s s',zac.mk.injEq]
  constructor
  ·rintro⟨⟨⟨a,b⟩,c⟩,d⟩;exact⟨a,b,c,d⟩
  ·rintro⟨a,b,c,d⟩;exact⟨⟨⟨a,b⟩,c⟩,d⟩
theorem zac.beqs_iff:∀f g:List zac,zac.beqs f g=true↔f=g
 |[],[]=>by simp[zac.beqs]
 |f::fs,g::gs=>by simp only[zac.beqs,Bool.and_eq_true,zac.beq_iff f g,zac.beqs_iff fs gs,List.cons.injEq]
 |[],_::_=>by simp[zac.beqs]
 |_::_,[]=>by simp[zac.beqs]
end
instance:DecidableEq zac:=fun f g=>decidable_of_iff _ (zac.beq_iff f g)
instance:Inhabited zac:=⟨.mk 0 ⟨[]⟩ [] []⟩
mutual
def zac.size:zac→Nat
 | .mk _ _ _ s=>zac.sizes s+1
def zac.sizes:List zac→Nat
 |[]=>0
 |f::fs=>f.size+zac.sizes fs
end
theorem zac.size_mem:∀{l:List zac} {f:zac},f∈l→f.size≤zac.sizes l
 |g::l,f,h=>by
  rw[zac.sizes]
  rcases List.mem_cons.1 h with rfl|h
  ·omega
  ·have:=zac.size_mem h;omega
theorem zac.size_sub {f g:zac}(h:g∈f.subs):g.size<f.size:=by
 cases f with
 |mk k n w s=>rw[zac.size];have:=zac.size_mem (show g∈s from h);omega
theorem zac.size_pos (f:zac):0<f.size:=by cases f;rw[zac.size];omega
section
variable {P:Program} {G:Nat→List FD} {T:Tbl}
theorem zrO {α ρ:Type}[Enc α][Enc ρ]{f:FuncId}{g:α→ρ}{pre:α→Prop}(m:α→Nat)(hc:zao P f)(hT:zap P G T)
  (h:∀n,zap P G (T.add f (sp1 g fun a=>m a<n∧pre a))→∀a,m a=n→pre a→(enc a).Wf→zaw P G f [.fz (enc a)] (hpL []) 0 (fun d _ _=>D.val d=some (.fz (enc (g a))))):zap P G (T.add f (sp1 g pre)):=by
 have key:∀n,zap P G (T.add f (sp1 g fun a=>m a<n∧pre a)):=by
  intro n
  induction n with
  |zero=>exact zb6 hc hT fun a ha=>by omega
  |succ n ih=>
   refine zb6 hc hT fun a ha hw=>?_
   rcases Nat.lt_or_ge (m a) n with h1|h1
   ·have h2:=ih f (sp1 g fun a=>m a<n∧pre a) [enc a] _ _ (by simp[Tbl.add]) (zCB) ⟨by rw[dec_enc],by rw[dec_enc];exact⟨h1,ha.2⟩⟩
    rw[dec_enc,zgW]at h2
    exact h2
   ·exact h n ih a (by omega) ha.2 hw
 refine zb6 hc hT fun a ha hw=>h (m a) (key _) a rfl ha hw
end
end Go.Abs

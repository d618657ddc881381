import Derived.Test.YtkkffhphodngkaaDoorY5
set_option linter.unusedSimpArgs false
namespace Go.Abs
open Go
inductive zaf where
 |mk (kind:Int) (name:Str) (words:List Str) (subs:List zaf)
namespace zaf
def kind:zaf→Int|mk k _ _ _=>k
def name:zaf→Str|mk _ n _ _=>n
def words:zaf→List Str|mk _ _ w _=>w
def subs:zaf→List zaf|mk _ _ _ s=>s
end zaf
@[go_sem] theorem zaz {k n w s}:(zaf.mk k n w s).kind=k:=rfl
@[go_sem] theorem zeI {k n w s}:(zaf.mk k n w s).name=n:=rfl
@[go_sem] theorem zdX {k n w s}:(zaf.mk k n w s).words=w:=rfl
@[go_sem] theorem zaW {k n w s}:(zaf.mk k n w s).subs=s:=rfl
@[go_sem] theorem zad {f:zaf}:zaf.mk f.kind f.name f.words f.subs=f:=by cases f;rfl
mutual
def zxW:zaf→FD
 | .mk k n w s=> .agg [.i .i64 k,.s n.l,.sl (w.map enc),.sl (zpN s)]
def zpN:List zaf→List FD
 |[]=>[]
 |f::fs=>zxW f::zpN fs
end
mutual
def zxT:FD→zaf
 | .agg [.i _ k,.s n,.sl w,.sl s]=> .mk k ⟨n⟩ (w.map dec) (zpF s)
 |_=> .mk 0 ⟨[]⟩ [] []
def zpF:List FD→List zaf
 |[]=>[]
 |x::xs=>zxT x::zpF xs
end
theorem zdi {α:Type}[Enc α](l:List α):(l.map enc).map dec=l:=by
 rw[List.map_map,show(dec∘enc:α→α)=id from funext fun a=>dec_enc a];simp
mutual
theorem zlf:∀f,zxT (zxW f)=f
 | .mk k n w s=>by
  simp only[zxW,zxT,zdi,zhX s]
theorem zhX:∀s,zpF (zpN s)=s
 |[]=>rfl
 |f::fs=>by simp only[zpN,zpF,zlf f,zhX fs]
end
instance:Enc zaf:=⟨zxW,zxT,zlf⟩
theorem zlo:∀s:List zaf,zpN s=s.map enc
 |[]=>rfl
 |f::fs=>by rw[zpN,zlo fs];rfl
theorem zlg:∀s:List FD,zpF s=dec (α:=List zaf) (.sl s)
 |[]=>rfl
 |f::fs=>by rw[zpF,zlg fs];rfl
@[go_sem] theorem zaH {f:zaf}:enc f= .agg [.i .i64 f.kind,.s f.name.l,.sl (f.words.map enc),.sl (f.subs.map enc)]:=by
 cases f with
 |mk k n w s=>show zxW _=_;rw[zxW,zlo];rfl
@[go_sem] theorem zA4 {i k n w s}:dec (α:=zaf) (.agg [.i i k,.s n,.sl w,.sl s])= .mk k ⟨n⟩ (dec (.sl w)) (dec (.sl s)):=by
 show zxT _=_;rw[zxT,zlg];rfl
instance:Kc zaf 4:=⟨fun f=>by rw[zaH];rfl⟩
@[go_sem] theorem zyy {l:List zaf}:zbs (l.map enc) 4=True:=eq_true (zdF l)
@[go_sem] theorem zwB {l:List zaf}:(zae (l.map enc)).all zcx=true:=by
 rw[List.all_eq_true]
 intro d hd
 simp only[zae,List.mem_flatMap,List.mem_map]at hd
 obtain⟨_,⟨a,_,rfl⟩,x,hx,rfl⟩:=hd
 simp only[zaH,FD.cells,List.mem_cons,List.not_mem_nil,or_false]at hx
 rcases hx with rfl|rfl|rfl|rfl<;>rfl
mutual
def zaf.beq:zaf→zaf→Bool
 | .mk k n w s,.mk k' n' w' s'=>decide (k=k')&&decide (n=n')&&decide (w=w')&&zaf.beqs s s'
def zaf.beqs:List zaf→List zaf→Bool
 |[],[]=>true
 |f::fs,g::gs=>zaf.beq f g&&zaf.beqs fs gs
 |[],_::_=>false
 |_::_,[]=>false
end
mutual
theorem zaf.beq_iff:∀f g:zaf,zaf.beq f g=true↔f=g
 | .mk k n w s,.mk k' n' w' s'=>by
  simp only[zaf.beq,Bool.and_eq_true,decide_eq_true_eq,zaf.beqs_iff s s',zaf.mk.injEq]
  constructor
  ·rintro⟨⟨⟨a,b⟩,c⟩,d⟩;exact⟨a,b,c,d⟩
  ·rintro⟨a,b,c,d⟩;exact⟨⟨⟨a,b⟩,c⟩,d⟩
theorem zaf.beqs_iff:∀f g:List zaf,zaf.beqs f g=true↔f=g
 |[],[]=>by simp[zaf.beqs]
 |f::fs,g::gs=>by simp only[zaf.beqs,Bool.and_eq_true,zaf.beq_iff f g,zaf.beqs_iff fs gs,List.cons.injEq]
 |[],_::_=>by simp[zaf.beqs]
 |_::_,[]=>by simp[zaf.beqs]
end
instance:DecidableEq zaf:=fun f g=>decidable_of_iff _ (zaf.beq_iff f g)
instance:Inhabited zaf:=⟨.mk 0 ⟨[]⟩ [] []⟩
mutual
def zaf.size:zaf→Nat
 | .mk _ _ _ s=>zaf.sizes s+1
def zaf.sizes:List zaf→Nat
 |[]=>0
 |f::fs=>f.size+zaf.sizes fs
end
theorem zaf.size_mem:∀{l:List zaf} {f:zaf},f∈l→f.size≤zaf.sizes l
 |g::l,f,h=>by
  rw[zaf.sizes]
  rcases List.mem_cons.1 h with rfl|h
  ·omega
  ·have:=zaf.size_mem h;omega
theorem zaf.size_sub {f g:zaf}(h:g∈f.subs):g.size<f.size:=by
 cases f with
 |mk k n w s=>rw[zaf.size];have:=zaf.size_mem (show g∈s from h);omega
theorem zaf.size_pos (f:zaf):0<f.size:=by cases f;rw[zaf.size];omega
section
variable {P:Program} {G:Nat→List FD} {T:Tbl}
theorem zsM {α ρ:Type}[Enc α][Enc ρ]{f:FuncId}{g:α→ρ}{pre:α→Prop}(m:α→Nat)(hc:zam P f)(hT:zan P G T)
  (h:∀n,zan P G (T.add f (sp1 g fun a=>m a<n∧pre a))→∀a,m a=n→pre a→(enc a).Wf→zay P G f [.fz (enc a)] (hpL []) 0 (fun d _ _=>D.val d=some (.fz (enc (g a))))):zan P G (T.add f (sp1 g pre)):=by
 have key:∀n,zan P G (T.add f (sp1 g fun a=>m a<n∧pre a)):=by
  intro n
  induction n with
  |zero=>exact zb4 hc hT fun a ha=>by omega
  |succ n ih=>
   refine zb4 hc hT fun a ha hw=>?_
   rcases Nat.lt_or_ge (m a) n with h1|h1
   ·have h2:=ih f (sp1 g fun a=>m a<n∧pre a) [enc a] _ _ (by simp[Tbl.add]) (zDS) ⟨by rw[dec_enc],by rw[dec_enc];exact⟨h1,ha.2⟩⟩
    rw[dec_enc,zhe]at h2
    exact h2
   ·exact h n ih a (by omega) ha.2 hw
 refine zb4 hc hT fun a ha hw=>h (m a) (key _) a rfl ha hw
end
end Go.Abs

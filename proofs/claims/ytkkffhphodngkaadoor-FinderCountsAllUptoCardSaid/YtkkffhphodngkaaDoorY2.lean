/- several texts of this proof in one; no conditions -/
import Derived.Test.YtkkffhphodngkaaDoorAT
import Derived.Test.YtkkffhphodngkaaDoorY1
import Derived.Test.YtkkffhphodngkaaDoorAbs40
set_option linter.unusedSimpArgs false
namespace Go.Proofs.YtkkffhphodngkaaDoor
open Go Go.Abs Go.Proofs
section
variable {P:Program} {G:Nat→List FD}
theorem zrL {k:Nat}(xs:List FD):zpT k (zad xs)=zad xs:=by
 rw[zfA]
 conv=>rhs;rw[←List.map_id (zad xs)]
 refine List.map_congr_left fun d hd=>?_
 obtain⟨x,hx,hd⟩:=List.mem_flatMap.1 hd
 obtain⟨y,_,rfl⟩:=List.mem_map.1 hd
 rfl
end
theorem zfX {f:Abs.zac}(h:f.fit=true)(bd:List Str):(cst f bd).length≤1000*f.size:=by
 suffices hh:∀m,(∀(f:Abs.zac) (bd:List Str),f.size≤m→f.fit=true→(cst f bd).length≤1000*f.size)∧(∀(fs:List Abs.zac) (bd:List Str),zac.sizes fs≤m→zac.fits fs=true→(zbW fs bd).length≤1000*zac.sizes fs)from(hh f.size).1 f bd (Nat.le_refl _) h
 intro m
 induction m with
 |zero=>
  refine⟨fun f _ h=>by have:=f.size_pos;omega,fun fs bd h _=>?_⟩
  cases fs with
  |nil=>simp[zbW]
  |cons f fs=>rw[zac.sizes]at h;have:=f.size_pos;omega
 |succ m ih=>
  have h1:∀(f:Abs.zac) (bd:List Str),f.size≤m+1→f.fit=true→(cst f bd).length≤1000*f.size:=by
   rintro⟨k,nm,ws,s⟩ bd hs hf
   rw[zac.size]at hs ⊢
   rw[zac.fit]at hf
   simp only[Bool.and_eq_true,decide_eq_true_eq]at hf
   rw[cst,List.length_append]
   have h2:=ih.2 s (if isQ k then bd++[nm]else bd) (by omega) hf.2
   have h3:=List.length_filter_le (fun w=>decide (w∉bd)) ws
   omega
  refine⟨h1,fun fs=>?_⟩
  induction fs with
  |nil=>intro bd _ _;simp[zbW]
  |cons f fs ih2=>
   intro bd hs hf
   rw[zac.sizes]at hs ⊢
   rw[zac.fits,Bool.and_eq_true]at hf
   rw[zbW,List.length_append]
   have h2:=h1 f bd (by omega) hf.1
   have h3:=ih2 bd (by omega) hf.2
   omega
structure zHW (n:Nat) where
 e:Nat
 m:Nat
 he:e≤n
structure zHX (n m0:Nat) where
 i:Nat
 hi:i≤n
def R2:Tbl:=R1
attribute [go_sem] R2
theorem hR2:zap Tryd.prog GA R2:=hR1
def R3:Tbl:=R2
attribute [go_sem] R3
def R4:Tbl:=R3
attribute [go_sem] R4
end Go.Proofs.YtkkffhphodngkaaDoor
namespace Go.Proofs.YtkkffhphodngkaaDoor
open Go Go.Abs Go.Proofs
section
variable {P:Program} {G:Nat→List FD} {T:Tbl}
theorem zwh {α β γ ρ:Type}[Enc α][Enc β][Enc γ][Enc ρ]{f:FuncId}{g:α→β→γ→ρ}{pre:α→β→γ→Prop}(m:α→Nat)(hc:zao P f)(hT:zap P G T)
  (h:∀n,zap P G (T.add f (sp3 g fun a b c=>m a<n∧pre a b c))→∀a b c,m a=n→pre a b c→(enc a).Wf→(enc b).Wf→(enc c).Wf→zaw P G f [.fz (enc a),.fz (enc b),.fz (enc c)] (hpL []) 0 (fun d _ _=>D.val d=some (.fz (enc (g a b c))))):zap P G (T.add f (sp3 g pre)):=by
 have key:∀n,zap P G (T.add f (sp3 g fun a b c=>m a<n∧pre a b c)):=by
  intro n
  induction n with
  |zero=>exact zgs hc hT fun a b c ha=>by omega
  |succ n ih=>
   refine zgs hc hT fun a b c ha hw hw2 hw3=>?_
   rcases Nat.lt_or_ge (m a) n with h1|h1
   ·have h2:=ih f (sp3 g fun a b c=>m a<n∧pre a b c) [enc a,enc b,enc c] _ _ (by simp[Tbl.add]) (zyH) ⟨by rw[dec_enc],by rw[dec_enc],by rw[dec_enc],by rw[dec_enc,dec_enc,dec_enc];exact⟨h1,ha.2⟩⟩
    rw[dec_enc,dec_enc,dec_enc,zgW]at h2
    exact h2
   ·exact h n ih a b c (by omega) ha.2 hw hw2 hw3
 exact zgs hc hT fun a b c ha hw hw2 hw3=>h (m a) (key _) a b c rfl ha hw hw2 hw3
end
structure zHV (n0:Nat) where
 n:Nat
 s:List UInt8
 hn:n≤n0
 h:zcf n0=zcf n++s
 hl:s.length≤n0-n
def R5:Tbl:=R4
attribute [go_sem] R5
end Go.Proofs.YtkkffhphodngkaaDoor
namespace Go.Proofs.YtkkffhphodngkaaDoor
open Go Go.Abs Go.Proofs
def twN (l:List Str)(s:Str):Nat:=(l.takeWhile fun x=>decide (x.l<s.l)).length
theorem zfH {x s:Str}{l:List Str}:twN (x::l) s=if x.l<s.l then twN l s+1 else 0:=by
 unfold twN
 by_cases h:x.l<s.l
 ·rw[List.takeWhile_cons_of_pos (by simpa using h),if_pos h,List.length_cons]
 ·rw[List.takeWhile_cons_of_neg (by simpa using h),if_neg h];rfl
theorem zuJ (s:Str):∀l:List Str,twN l s≤l.length
 |[]=>Nat.le_refl _
 |x::l=>by
  rw[zfH]
  have:=zuJ s l
  split<;>simp only[List.length_cons]<;>omega
theorem zuK {s:Str}:∀{l:List Str} {i:Nat} (h:i<l.length),i<twN l s→l[i].l<s.l
 |x::l,0,_,h2=>by
  rw[zfH]at h2
  split at h2
  ·assumption
  ·omega
 |x::l,i+1,h,h2=>by
  rw[zfH]at h2
  split at h2
  ·exact zuK (l:=l) (by simpa using h) (by omega)
  ·omega
theorem zuI {s:Str}:∀{l:List Str} {i:Nat} (h:i<l.length),i=twN l s→¬l[i].l<s.l
 |x::l,0,_,h2=>by
  rw[zfH]at h2
  split at h2
  ·omega
  ·assumption
 |x::l,i+1,h,h2=>by
  rw[zfH]at h2
  split at h2
  ·exact zuI (l:=l) (by simpa using h) (by omega)
  ·omega
theorem zd7:∀x y:List UInt8,Op.bytesLess x y=decide (x<y)
 |[],[]=>by simp[Op.bytesLess]
 |_::_,[]=>by simp[Op.bytesLess]
 |[],_::_=>by simp[Op.bytesLess]
 |a::x,b::y=>by
  rw[Op.bytesLess,zd7 x y]
  by_cases h1:a<b<;>by_cases h2:a=b<;>simp[h1,h2,List.cons_lt_cons_iff]
theorem zu7 {α:Type}[Enc α]{l:List α}{i:Nat}:zbC (l.map enc) (i:Int) (l.length:Int)=(l.drop i).map enc:=by
 have h:=@zxX (l.map enc) i
 rw[List.length_map]at h;rw[h,List.map_drop]
def R6:Tbl:=R5.add 40 (sp2 ziR fun l _=>l.length≤1000000)
attribute [go_sem] R6
end Go.Proofs.YtkkffhphodngkaaDoor
namespace Go.Abs
open Go
def vEq (x d:D):Prop:=x=d∨D.val x=some d
def FrV (fr:Nat→D):List (Nat×D)→Prop
 |[]=>True
 |(k,d)::l=>vEq (fr k) d∧FrV fr l
@[go_sem] theorem zA6 {fr:Nat→D}:FrV fr []=True:=rfl
@[go_sem] theorem zzC {fr:Nat→D}{k:Nat}{d:D}{l:List (Nat×D)}:FrV fr ((k,d)::l)=(vEq (fr k) d∧FrV fr l):=rfl
@[go_sem] theorem zA2 {d:D}:vEq d d=True:=eq_true (.inl rfl)
@[go_sem] theorem zFh {id:Abs.Id}{es:Nat}{xs ys:List FD}:vEq (.ow id es xs) (.fz (.sl ys))=(xs=ys):=by
 unfold vEq;rw[zzA];simp
@[go_sem] theorem zA1 {xs ys:List FD}:vEq (.full xs) (.fz (.sl ys))=(xs=ys):=by
 unfold vEq;rw[zt7];simp
@[go_sem] theorem zFg {x y:FD}:vEq (.fz x) (.fz y)=(x=y):=by
 unfold vEq;rw[zzz];simp
theorem FrV.get {fr:Nat→D}:∀{l:List (Nat×D)},FrV fr l→∀t,frL l t=fr t∨D.val (fr t)=some (frL l t)∨frL l t= .junk
 |[],_,_=> .inr (.inr rfl)
 |(k,d)::l,h,t=>by
  simp only[frL]
  split
  ·rename_i e;subst e
   rcases h.1 with h1|h1
   ·exact .inl h1.symm
   ·exact .inr (.inl h1)
  ·exact FrV.get h.2 t
theorem zsx {G:Nat→List FD}{N:Nat}{st:St}{l:List (Nat×D)}(hf:FrV st.fr l):ze9 G N st ⟨frL l,st.H,st.n⟩:=by
 intro a w L F hr
 refine⟨L,F,⟨hr.ok,hr.size,fun t=>?_,hr.nd⟩,zbn.refl _ _ _ _ _⟩
 have:=hr.fr t
 simp only
 rcases hf.get t with e|e|e
 ·rw[e];exact this
 ·exact this.val e
 ·rw[e];exact trivial
end Go.Abs
namespace Go.Abs
open Go
theorem zu5 {f:Abs.zac}{bd l:List Str}:zji f bd l=zdd f.subs (if isQ f.kind then bd++[f.name]else bd) (f.words.foldl (fun l w=>if w∈bd then l else ziR l w) l):=by cases f;rw[zji];rfl
mutual
theorem zsM:∀(f:Abs.zac) (bd l:List Str),f.fit=true→(zji f bd l).length≤l.length+1000*f.size
 | .mk k nm ws s,bd,l,h=>by
  rw[zac.fit]at h
  simp only[Bool.and_eq_true,decide_eq_true_eq]at h
  rw[zji,zac.size]
  have h1:=zhf s (if isQ k then bd++[nm]else bd) (ws.foldl (fun l w=>if w∈bd then l else ziR l w) l) h.2
  have h2:=zfq bd ws l
  omega
theorem zhf:∀(fs:List Abs.zac) (bd l:List Str),zac.fits fs=true→(zdd fs bd l).length≤l.length+1000*zac.sizes fs
 |[],_,l,_=>by rw[zdd];omega
 |f::fs,bd,l,h=>by
  rw[zac.fits,Bool.and_eq_true]at h
  rw[zdd,zac.sizes]
  have h1:=zsM f bd l h.1
  have h2:=zhf fs bd (zji f bd l) h.2
  omega
end
theorem zkU:∀{fs:List Abs.zac} (j:Nat),zac.fits fs=true→zac.fits (fs.take j)=true
 |[],j,_=>by rw[List.take_nil,zac.fits]
 |f::fs,0,_=>by rw[List.take_zero,zac.fits]
 |f::fs,j+1,h=>by
  rw[zac.fits,Bool.and_eq_true]at h
  rw[List.take_succ_cons,zac.fits,Bool.and_eq_true]
  exact⟨h.1,zkU j h.2⟩
end Go.Abs
namespace Go.Proofs.YtkkffhphodngkaaDoor
open Go Go.Abs Go.Proofs
def zrZ:Tv:=(.q 0 (.q 1 (.q 3 (.r 4 (.q 5 (.br [(2,(.br [(6,(.q 7 .leaf))]))]))))))
def znm (f:Abs.zac)(bd l:List Str):Prop:=f.fit=true∧bd.length+f.size≤2000∧l.length+1000*f.size≤1000000
def R7:Tbl:=R6.add 67 (sp3 zji znm)
attribute [go_sem] R7
def R8:Tbl:=R7.add 39 (sp1 (fun f=>zji f [] []) fun f=>f.fit=true∧f.size≤1000)
attribute [go_sem] R8
end Go.Proofs.YtkkffhphodngkaaDoor

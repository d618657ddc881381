/- several texts of this proof in one; no conditions -/
import Derived.Test.YtkkffhphodngkaaDoorAT
import Derived.Test.YtkkffhphodngkaaDoorY1
import Derived.Test.YtkkffhphodngkaaDoorAbs40
set_option linter.unusedSimpArgs false
namespace Go.Proofs.YtkkffhphodngkaaDoor
open Go Go.Abs Go.Proofs
section
variable {P:Program} {G:Nat→List FD}
theorem zsI {k:Nat}(xs:List FD):zqN k (zae xs)=zae xs:=by
 rw[zf7]
 conv=>rhs;rw[←List.map_id (zae xs)]
 refine List.map_congr_left fun d hd=>?_
 obtain⟨x,hx,hd⟩:=List.mem_flatMap.1 hd
 obtain⟨y,_,rfl⟩:=List.mem_map.1 hd
 rfl
end
theorem zgw {f:Abs.zaf}(h:f.fit=true)(bd:List Str):(cst f bd).length≤1000*f.size:=by
 suffices hh:∀m,(∀(f:Abs.zaf) (bd:List Str),f.size≤m→f.fit=true→(cst f bd).length≤1000*f.size)∧(∀(fs:List Abs.zaf) (bd:List Str),zaf.sizes fs≤m→zaf.fits fs=true→(zb8 fs bd).length≤1000*zaf.sizes fs)from(hh f.size).1 f bd (Nat.le_refl _) h
 intro m
 induction m with
 |zero=>
  refine⟨fun f _ h=>by have:=f.size_pos;omega,fun fs bd h _=>?_⟩
  cases fs with
  |nil=>simp[zb8]
  |cons f fs=>rw[zaf.sizes]at h;have:=f.size_pos;omega
 |succ m ih=>
  have h1:∀(f:Abs.zaf) (bd:List Str),f.size≤m+1→f.fit=true→(cst f bd).length≤1000*f.size:=by
   rintro⟨k,nm,ws,s⟩ bd hs hf
   rw[zaf.size]at hs ⊢
   rw[zaf.fit]at hf
   simp only[Bool.and_eq_true,decide_eq_true_eq]at hf
   rw[cst,List.length_append]
   have h2:=ih.2 s (if isQ k then bd++[nm]else bd) (by omega) hf.2
   have h3:=List.length_filter_le (fun w=>decide (w∉bd)) ws
   omega
  refine⟨h1,fun fs=>?_⟩
  induction fs with
  |nil=>intro bd _ _;simp[zb8]
  |cons f fs ih2=>
   intro bd hs hf
   rw[zaf.sizes]at hs ⊢
   rw[zaf.fits,Bool.and_eq_true]at hf
   rw[zb8,List.length_append]
   have h2:=h1 f bd (by omega) hf.1
   have h3:=ih2 bd (by omega) hf.2
   omega
structure zJm (n:Nat) where
 e:Nat
 m:Nat
 he:e≤n
structure zJn (n m0:Nat) where
 i:Nat
 hi:i≤n
def R2:Tbl:=R1
attribute [go_sem] R2
theorem hR2:zan Tryd.prog GA R2:=hR1
def R3:Tbl:=R2
attribute [go_sem] R3
def R4:Tbl:=R3
attribute [go_sem] R4
end Go.Proofs.YtkkffhphodngkaaDoor
namespace Go.Proofs.YtkkffhphodngkaaDoor
open Go Go.Abs Go.Proofs
section
variable {P:Program} {G:Nat→List FD} {T:Tbl}
theorem zxw {α β γ ρ:Type}[Enc α][Enc β][Enc γ][Enc ρ]{f:FuncId}{g:α→β→γ→ρ}{pre:α→β→γ→Prop}(m:α→Nat)(hc:zam P f)(hT:zan P G T)
  (h:∀n,zan P G (T.add f (sp3 g fun a b c=>m a<n∧pre a b c))→∀a b c,m a=n→pre a b c→(enc a).Wf→(enc b).Wf→(enc c).Wf→zay P G f [.fz (enc a),.fz (enc b),.fz (enc c)] (hpL []) 0 (fun d _ _=>D.val d=some (.fz (enc (g a b c))))):zan P G (T.add f (sp3 g pre)):=by
 have key:∀n,zan P G (T.add f (sp3 g fun a b c=>m a<n∧pre a b c)):=by
  intro n
  induction n with
  |zero=>exact zg3 hc hT fun a b c ha=>by omega
  |succ n ih=>
   refine zg3 hc hT fun a b c ha hw hw2 hw3=>?_
   rcases Nat.lt_or_ge (m a) n with h1|h1
   ·have h2:=ih f (sp3 g fun a b c=>m a<n∧pre a b c) [enc a,enc b,enc c] _ _ (by simp[Tbl.add]) (zzU) ⟨by rw[dec_enc],by rw[dec_enc],by rw[dec_enc],by rw[dec_enc,dec_enc,dec_enc];exact⟨h1,ha.2⟩⟩
    rw[dec_enc,dec_enc,dec_enc,zhe]at h2
    exact h2
   ·exact h n ih a b c (by omega) ha.2 hw hw2 hw3
 exact zg3 hc hT fun a b c ha hw hw2 hw3=>h (m a) (key _) a b c rfl ha hw hw2 hw3
end
structure zJl (n0:Nat) where
 n:Nat
 s:List UInt8
 hn:n≤n0
 h:zco n0=zco n++s
 hl:s.length≤n0-n
def R5:Tbl:=R4
attribute [go_sem] R5
end Go.Proofs.YtkkffhphodngkaaDoor
namespace Go.Proofs.YtkkffhphodngkaaDoor
open Go Go.Abs Go.Proofs
def twN (l:List Str)(s:Str):Nat:=(l.takeWhile fun x=>decide (x.l<s.l)).length
theorem zge {x s:Str}{l:List Str}:twN (x::l) s=if x.l<s.l then twN l s+1 else 0:=by
 unfold twN
 by_cases h:x.l<s.l
 ·rw[List.takeWhile_cons_of_pos (by simpa using h),if_pos h,List.length_cons]
 ·rw[List.takeWhile_cons_of_neg (by simpa using h),if_neg h];rfl
theorem zvY (s:Str):∀l:List Str,twN l s≤l.length
 |[]=>Nat.le_refl _
 |x::l=>by
  rw[zge]
  have:=zvY s l
  split<;>simp only[List.length_cons]<;>omega
theorem zvZ {s:Str}:∀{l:List Str} {i:Nat} (h:i<l.length),i<twN l s→l[i].l<s.l
 |x::l,0,_,h2=>by
  rw[zge]at h2
  split at h2
  ·assumption
  ·omega
 |x::l,i+1,h,h2=>by
  rw[zge]at h2
  split at h2
  ·exact zvZ (l:=l) (by simpa using h) (by omega)
  ·omega
theorem zvX {s:Str}:∀{l:List Str} {i:Nat} (h:i<l.length),i=twN l s→¬l[i].l<s.l
 |x::l,0,_,h2=>by
  rw[zge]at h2
  split at h2
  ·omega
  ·assumption
 |x::l,i+1,h,h2=>by
  rw[zge]at h2
  split at h2
  ·exact zvX (l:=l) (by simpa using h) (by omega)
  ·omega
theorem zet:∀x y:List UInt8,Op.bytesLess x y=decide (x<y)
 |[],[]=>by simp[Op.bytesLess]
 |_::_,[]=>by simp[Op.bytesLess]
 |[],_::_=>by simp[Op.bytesLess]
 |a::x,b::y=>by
  rw[Op.bytesLess,zet x y]
  by_cases h1:a<b<;>by_cases h2:a=b<;>simp[h1,h2,List.cons_lt_cons_iff]
theorem zjZ {α:Type}[Enc α]{l:List α}{i:Nat}:zbO (l.map enc) (i:Int) (l.length:Int)=(l.drop i).map enc:=by
 have h:=@zy8 (l.map enc) i
 rw[List.length_map]at h;rw[h,List.map_drop]
def R6:Tbl:=R5.add 40 (sp2 zeo fun l _=>l.length≤1000000)
attribute [go_sem] R6
end Go.Proofs.YtkkffhphodngkaaDoor
namespace Go.Abs
open Go
def vEq (x d:D):Prop:=x=d∨D.val x=some d
def FrV (fr:Nat→D):List (Nat×D)→Prop
 |[]=>True
 |(k,d)::l=>vEq (fr k) d∧FrV fr l
@[go_sem] theorem zCl {fr:Nat→D}:FrV fr []=True:=rfl
@[go_sem] theorem zAS {fr:Nat→D}{k:Nat}{d:D}{l:List (Nat×D)}:FrV fr ((k,d)::l)=(vEq (fr k) d∧FrV fr l):=rfl
@[go_sem] theorem zCh {d:D}:vEq d d=True:=eq_true (.inl rfl)
@[go_sem] theorem zGF {id:Abs.Id}{es:Nat}{xs ys:List FD}:vEq (.ow id es xs) (.fz (.sl ys))=(xs=ys):=by
 unfold vEq;rw[zAQ];simp
@[go_sem] theorem zCg {xs ys:List FD}:vEq (.full xs) (.fz (.sl ys))=(xs=ys):=by
 unfold vEq;rw[zvh];simp
@[go_sem] theorem zGE {x y:FD}:vEq (.fz x) (.fz y)=(x=y):=by
 unfold vEq;rw[zAP];simp
theorem FrV.get {fr:Nat→D}:∀{l:List (Nat×D)},FrV fr l→∀t,frL l t=fr t∨D.val (fr t)=some (frL l t)∨frL l t= .junk
 |[],_,_=> .inr (.inr rfl)
 |(k,d)::l,h,t=>by
  simp only[frL]
  split
  ·rename_i e;subst e
   rcases h.1 with h1|h1
   ·exact .inl h1.symm
   ·exact .inr (.inl h1)
  ·exact FrV.get h.2 t
theorem ztB {G:Nat→List FD}{N:Nat}{st:St}{l:List (Nat×D)}(hf:FrV st.fr l):zfv G N st ⟨frL l,st.H,st.n⟩:=by
 intro a w L F hr
 refine⟨L,F,⟨hr.ok,hr.size,fun t=>?_,hr.nd⟩,zby.refl _ _ _ _ _⟩
 have:=hr.fr t
 simp only
 rcases hf.get t with e|e|e
 ·rw[e];exact this
 ·exact this.val e
 ·rw[e];exact trivial
end Go.Abs
namespace Go.Abs
open Go
theorem zwj {f:Abs.zaf}{bd l:List Str}:zgv f bd l=zdr f.subs (if isQ f.kind then bd++[f.name]else bd) (f.words.foldl (fun l w=>if w∈bd then l else zeo l w) l):=by cases f;rw[zgv];rfl
mutual
theorem ztQ:∀(f:Abs.zaf) (bd l:List Str),f.fit=true→(zgv f bd l).length≤l.length+1000*f.size
 | .mk k nm ws s,bd,l,h=>by
  rw[zaf.fit]at h
  simp only[Bool.and_eq_true,decide_eq_true_eq]at h
  rw[zgv,zaf.size]
  have h1:=zhU s (if isQ k then bd++[nm]else bd) (ws.foldl (fun l w=>if w∈bd then l else zeo l w) l) h.2
  have h2:=zfU bd ws l
  omega
theorem zhU:∀(fs:List Abs.zaf) (bd l:List Str),zaf.fits fs=true→(zdr fs bd l).length≤l.length+1000*zaf.sizes fs
 |[],_,l,_=>by rw[zdr];omega
 |f::fs,bd,l,h=>by
  rw[zaf.fits,Bool.and_eq_true]at h
  rw[zdr,zaf.sizes]
  have h1:=ztQ f bd l h.1
  have h2:=zhU fs bd (zgv f bd l) h.2
  omega
end
theorem zlD:∀{fs:List Abs.zaf} (j:Nat),zaf.fits fs=true→zaf.fits (fs.take j)=true
 |[],j,_=>by rw[List.take_nil,zaf.fits]
 |f::fs,0,_=>by rw[List.take_zero,zaf.fits]
 |f::fs,j+1,h=>by
  rw[zaf.fits,Bool.and_eq_true]at h
  rw[List.take_succ_cons,zaf.fits,Bool.and_eq_true]
  exact⟨h.1,zlD j h.2⟩
end Go.Abs
namespace Go.Proofs.YtkkffhphodngkaaDoor
open Go Go.Abs Go.Proofs
def zs1:Tv:=(.q 0 (.q 1 (.q 3 (.r 4 (.q 5 (.br [(2,(.br [(6,(.q 7 .leaf))]))]))))))
def zog (f:Abs.zaf)(bd l:List Str):Prop:=f.fit=true∧bd.length+f.size≤2000∧l.length+1000*f.size≤1000000
def R7:Tbl:=R6.add 67 (sp3 zgv zog)
attribute [go_sem] R7
def R8:Tbl:=R7.add 39 (sp1 (fun f=>zgv f [] []) fun f=>f.fit=true∧f.size≤1000)
attribute [go_sem] R8
end Go.Proofs.YtkkffhphodngkaaDoor

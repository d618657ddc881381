import Derived.Test.YtdlioodgfopmfaaGreatDoorZQ120Q1211
import Derived.Test.YtdlioodgfopmfaaGreatDoorBF
set_option linter.unusedSimpArgs false
namespace Go.Proofs.YtdlioodgfopmfaaGreatDoor
open Go Go.Abs Go.Proofs
theorem zgh (ns:List Str)(a w:Str):zcz (ns++[a]) w=if a=w then(ns.length:Int)else zcz ns w:=by
 unfold zcz
 rw[List.zipIdx_append,List.foldl_append]
 simp
def cvD (p:List Str×List Int)(w:Str):Int:=if zcz p.1 w<0 then-1 else p.2.getD (zcz p.1 w).toNat 0
theorem zuM {ns:List Str}{cs:List Int}(h:ns.length=cs.length)(w:Str)(d:Int):zoI ns cs w d=if zcz ns w<0 then d else cs.getD (zcz ns w).toNat 0:=by
 have key:∀i,i≤ns.length→zoI (ns.take i) (cs.take i) w d=if zcz (ns.take i) w<0 then d else cs.getD (zcz (ns.take i) w).toNat 0:=by
  intro i
  induction i with
  |zero=>intro _;simp[zoI,zcz]
  |succ i ih=>
   intro hi
   rw[zjc (by omega) (by omega),zgi (by omega),ih (by omega)]
   split
   ·rw[if_neg (by omega),Int.toNat_natCast,List.getD_eq_getElem?_getD,List.getElem?_eq_getElem (by omega)];rfl
   ·rfl
 have:=key ns.length (Nat.le_refl _)
 rwa [List.take_length,show cs.take ns.length=cs by rw[h,List.take_length]]at this
structure RI (p:List Str×List Int):Prop where
 l:p.1.length=p.2.length
 v:∀c∈p.2,0≤c∧c<p.1.length
def eqD (p:List Str×List Int)(u v:Str):Prop:=u=v∨(0≤cvD p u∧cvD p u=cvD p v)
theorem RI.cv {p:List Str×List Int}(h:RI p){w:Str}(hw:¬zcz p.1 w<0):0≤cvD p w∧cvD p w<p.1.length:=by
 unfold cvD
 rw[if_neg hw]
 have:=(zg0 p.1 w).2
 have hl:=h.l
 rw[List.getD_eq_getElem?_getD,List.getElem?_eq_getElem (by omega),Option.getD_some]
 exact h.v _ (List.getElem_mem _)
theorem RI.bd {p:List Str×List Int}(h:RI p)(w:Str): -1≤cvD p w∧cvD p w<p.1.length:=by
 by_cases hw:zcz p.1 w<0
 ·unfold cvD
  rw[if_pos hw];omega
 ·have:=h.cv hw;omega
theorem zyh {p:List Str×List Int}(h:RI p)(u v:Str):eqR p.1 p.2 u v=true↔eqD p u v:=by
 unfold eqR eqD
 by_cases huv:u=v
 ·simp[huv]
 ·rw[if_neg huv,decide_eq_true_eq,zuM h.l,zuM h.l]
  have hu:=h.bd u
  have hv:=h.bd v
  by_cases h1:zcz p.1 u<0
  ·rw[if_pos h1]
   have e1:cvD p u= -1:=by unfold cvD;rw[if_pos h1]
   by_cases h2:zcz p.1 v<0
   ·rw[if_pos h2,e1];simp[huv]
   ·have:=h.cv h2
    have e2:cvD p v=p.2.getD (zcz p.1 v).toNat 0:=by unfold cvD;rw[if_neg h2]
    rw[if_neg h2,←e2,e1]
    constructor
    ·intro h;omega
    ·rintro(h|h)
     ·exact absurd h huv
     ·omega
  ·have e1:cvD p u=p.2.getD (zcz p.1 u).toNat 0:=by unfold cvD;rw[if_neg h1]
   have:=h.cv h1
   rw[if_neg h1,←e1]
   by_cases h2:zcz p.1 v<0
   ·have e2:cvD p v= -1:=by unfold cvD;rw[if_pos h2]
    rw[if_pos h2,e2]
    constructor
    ·intro h;omega
    ·rintro(h|h)
     ·exact absurd h huv
     ·omega
   ·have e2:cvD p v=p.2.getD (zcz p.1 v).toNat 0:=by unfold cvD;rw[if_neg h2]
    rw[if_neg h2,←e2]
    constructor
    ·intro h;exact .inr ⟨this.1,h⟩
    ·rintro(h|h)
     ·exact absurd h huv
     ·exact h.2
theorem zB3 {p:List Str×List Int}(h:RI p)(a:Str):RI (pwD p a):=by
 unfold pwD
 split
 ·refine⟨by simp[h.l],fun c hc=>?_⟩
  simp only[List.length_append,List.length_singleton]
  rcases List.mem_append.1 hc with hc|hc
  ·have:=h.v c hc;omega
  ·rw[List.mem_singleton.1 hc];omega
 ·exact h
theorem zpw {p:List Str×List Int}(a:Str):¬zcz (pwD p a).1 a<0:=by
 unfold pwD
 split
 ·simp only
  rw[zgh,if_pos rfl];omega
 ·assumption
theorem zB2 {p:List Str×List Int}(a:Str):pxD p.1 a=zcz (pwD p a).1 a:=by
 unfold pwD pxD
 split
 ·simp only
  rw[zgh,if_pos rfl]
 ·rfl
theorem zxw {p:List Str×List Int}{a w:Str}(hw:¬zcz p.1 w<0):zcz (pwD p a).1 w=zcz p.1 w:=by
 unfold pwD
 split
 ·rename_i h
  simp only
  rw[zgh,if_neg fun e=>hw (by rw[←e];exact h)]
 ·rfl
theorem zB0 {p:List Str×List Int}(h:RI p){a:Str}(ha:zcz p.1 a<0)(w:Str):cvD (pwD p a) w=if a=w then(p.1.length:Int)else cvD p w:=by
 have e:pwD p a=(p.1++[a],p.2++[(p.1.length:Int)]):=by unfold pwD;rw[if_pos ha]
 rw[e]
 unfold cvD
 simp only
 rw[zgh]
 by_cases haw:a=w
 ·rw[if_pos haw,if_neg (by omega),if_pos haw,Int.toNat_natCast,List.getD_eq_getElem?_getD,h.l,List.getElem?_append_right (Nat.le_refl _)]
  simp
 ·rw[if_neg haw,if_neg haw]
  split
  ·rfl
  ·have:=(zg0 p.1 w).2
   have hl:=h.l
   rw[List.getD_eq_getElem?_getD,List.getD_eq_getElem?_getD,List.getElem?_append_left (by omega)]
theorem zB1 {p:List Str×List Int}(h:RI p)(a u v:Str):eqD (pwD p a) u v↔eqD p u v:=by
 by_cases ha:zcz p.1 a<0
 ·unfold eqD
  rw[zB0 h ha,zB0 h ha]
  have hu:=h.bd u
  have hv:=h.bd v
  have e1:cvD p a= -1:=by unfold cvD;rw[if_pos ha]
  by_cases h1:a=u
  ·rw[if_pos h1]
   subst h1
   by_cases h2:a=v
   ·simp[h2]
   ·rw[if_neg h2,e1]
    constructor
    ·rintro(h|h)
     ·exact .inl h
     ·omega
    ·rintro(h|h)
     ·exact .inl h
     ·omega
  ·rw[if_neg h1]
   by_cases h2:a=v
   ·rw[if_pos h2]
    subst h2
    rw[e1]
    constructor
    ·rintro(h|h)
     ·exact .inl h
     ·omega
    ·rintro(h|h)
     ·exact .inl h
     ·omega
   ·rw[if_neg h2]
 ·have e:pwD p a=p:=by unfold pwD;rw[if_neg ha]
  rw[e]
theorem zBS {p:List Str×List Int}(h:RI p){a b:Str}(ha:¬zcz p.1 a<0)(hb:¬zcz p.1 b<0)(u v:Str):
  RI (mrg p (zcz p.1 a) (zcz p.1 b))∧(eqD (mrg p (zcz p.1 a) (zcz p.1 b)) u v↔(eqD p u v∨(eqD p u a∧eqD p v b)∨(eqD p u b∧eqD p v a))):=by
 have ea:p.2.getD (zcz p.1 a).toNat 0=cvD p a:=by unfold cvD;rw[if_neg ha]
 have eb:p.2.getD (zcz p.1 b).toNat 0=cvD p b:=by unfold cvD;rw[if_neg hb]
 have em:mrg p (zcz p.1 a) (zcz p.1 b)=(p.1,p.2.map (zpy (cvD p a) (cvD p b))):=by unfold mrg;rw[ea,eb]
 have va:=h.cv ha
 have vb:=h.cv hb
 have hcv:∀w,cvD (mrg p (zcz p.1 a) (zcz p.1 b)) w=zpy (cvD p a) (cvD p b) (cvD p w):=fun w=>by
  rw[em]
  by_cases hw:zcz p.1 w<0
  ·unfold cvD
   simp only
   rw[if_pos hw,if_pos hw]
   rw[if_neg ha]
   unfold zpy
   rw[if_neg (by rw[ea];omega)]
  ·have hl:=h.l
   have:=(zg0 p.1 w).2
   have e2:cvD p w=p.2.getD (zcz p.1 w).toNat 0:=by unfold cvD;rw[if_neg hw]
   rw[e2]
   show(if zcz p.1 w<0 then-1 else(p.2.map (zpy (cvD p a) (cvD p b))).getD (zcz p.1 w).toNat 0)=_
   rw[if_neg hw,List.getD_eq_getElem?_getD,List.getElem?_map,List.getD_eq_getElem?_getD,List.getElem?_eq_getElem (by omega)]
   rfl
 refine⟨?_,?_⟩
 ·rw[em]
  refine⟨by simp[h.l],fun c hc=>?_⟩
  obtain⟨d,hd,rfl⟩:=List.mem_map.1 hc
  have:=h.v d hd
  simp only
  unfold zpy
  split<;>omega
 ·unfold eqD
  rw[hcv u,hcv v]
  unfold zpy
  have hu:=h.bd u
  have hv:=h.bd v
  by_cases h1:cvD p u=cvD p a
  ·rw[if_pos h1]
   by_cases h2:cvD p v=cvD p a
   ·rw[if_pos h2]
    constructor
    ·intro _;exact .inl (.inr ⟨by omega,by omega⟩)
    ·intro _;exact .inr ⟨by omega,rfl⟩
   ·rw[if_neg h2]
    constructor
    ·rintro(h|⟨_,h⟩)
     ·exact .inl (.inl h)
     ·exact .inr (.inl ⟨.inr ⟨by omega,h1⟩,.inr ⟨by omega,h.symm⟩⟩)
    ·rintro(h|⟨_,h⟩|⟨h,h'⟩)
     ·rcases h with h|h
      ·exact .inl h
      ·omega
     ·rcases h with h|h
      ·subst h;exact .inr ⟨by omega,rfl⟩
      ·exact .inr ⟨by omega,by omega⟩
     ·rcases h' with h'|h'
      ·subst h';exact absurd rfl h2
      ·omega
  ·rw[if_neg h1]
   by_cases h2:cvD p v=cvD p a
   ·rw[if_pos h2]
    constructor
    ·rintro(h|⟨_,h⟩)
     ·exact .inl (.inl h)
     ·exact .inr (.inr ⟨.inr ⟨by omega,h⟩,.inr ⟨by omega,h2⟩⟩)
    ·rintro(h|⟨h,_⟩|⟨h,_⟩)
     ·rcases h with h|h
      ·exact .inl h
      ·omega
     ·rcases h with h|h
      ·subst h;exact absurd rfl h1
      ·omega
     ·rcases h with h|h
      ·subst h;exact .inr ⟨by omega,rfl⟩
      ·exact .inr ⟨by omega,by omega⟩
   ·rw[if_neg h2]
    constructor
    ·intro h;exact .inl h
    ·rintro(h|⟨h,_⟩|⟨_,h⟩)
     ·exact h
     ·rcases h with h|h
      ·subst h;exact absurd rfl h1
      ·omega
     ·rcases h with h|h
      ·subst h;exact absurd rfl h2
      ·omega
theorem zw6 {p:List Str×List Int}(h:RI p)(a b u v:Str):RI (cl2 p a b)∧(eqD (cl2 p a b) u v↔(eqD p u v∨(eqD p u a∧eqD p v b)∨(eqD p u b∧eqD p v a))):=by
 have h1:=zB3 h a
 have h2:=zB3 h1 b
 have hx:pxD p.1 a=zcz (pwD (pwD p a) b).1 a:=by rw[zB2,zxw (zpw a)]
 have hy:pxD (pwD p a).1 b=zcz (pwD (pwD p a) b).1 b:=zB2 b
 have:=zBS h2 (a:=a) (b:=b) (by rw[zxw (zpw a)];exact zpw a) (zpw b) u v
 unfold cl2
 rw[hx,hy]
 simp only[zB1 h1,zB1 h]at this
 exact this
theorem zy6 {c:List zaR}(f:Abs.zac)(hk:f.kind=3)(u v:Str):zaB (zjT c f) u=zaB (zjT c f) v↔(zaB c u=zaB c v∨(zaB c u=zaB c (f.words.getD 0 ⟨[]⟩)∧zaB c v=zaB c (f.words.getD 1 ⟨[]⟩))∨(zaB c u=zaB c (f.words.getD 1 ⟨[]⟩)∧zaB c v=zaB c (f.words.getD 0 ⟨[]⟩))):=by
 unfold zjT
 rw[if_neg (by simp[hk])]
 obtain⟨A,hA⟩:∃x,zaB c (f.words.getD 0 ⟨[]⟩)=x:=⟨_,rfl⟩
 obtain⟨B,hB⟩:∃x,zaB c (f.words.getD 1 ⟨[]⟩)=x:=⟨_,rfl⟩
 rw[hA,hB]
 by_cases h:A=B
 ·rw[if_pos h]
  subst h
  constructor
  ·intro h;exact .inl h
  ·rintro(h|⟨h1,h2⟩|⟨h1,h2⟩)
   ·exact h
   ·rw[h1,h2]
   ·rw[h1,h2]
 ·rw[if_neg h,zfx,zfx]
  simp only
  by_cases h1:zaB c u=A
  ·rw[if_pos h1]
   by_cases h2:zaB c v=A
   ·rw[if_pos h2,h1,h2];simp
   ·rw[if_neg h2]
    constructor
    ·intro e;exact .inr (.inl ⟨h1,e.symm⟩)
    ·rintro(e|⟨_,e⟩|⟨_,e⟩)
     ·exact absurd (e.symm.trans h1) h2
     ·exact e.symm
     ·exact absurd e h2
  ·rw[if_neg h1]
   by_cases h2:zaB c v=A
   ·rw[if_pos h2]
    constructor
    ·intro e;exact .inr (.inr ⟨e,h2⟩)
    ·rintro(e|⟨e,_⟩|⟨e,_⟩)
     ·exact absurd (e.trans h2) h1
     ·exact absurd e h1
     ·exact e
   ·rw[if_neg h2]
    constructor
    ·intro e;exact .inl e
    ·rintro(e|⟨e,_⟩|⟨_,e⟩)
     ·exact e
     ·exact absurd e h1
     ·exact absurd e h2
theorem zvn (l:List Abs.zac):RI (clD l)∧∀u v,eqD (clD l) u v↔zaB (zeM l) u=zaB (zeM l) v:=by
 suffices h:∀(l:List Abs.zac) (p:List Str×List Int) (c:List zaR),RI p→(∀u v,eqD p u v↔zaB c u=zaB c v)→RI (l.foldl cl1 p)∧∀u v,eqD (l.foldl cl1 p) u v↔zaB (l.foldl zjT c) u=zaB (l.foldl zjT c) v from
  h l ([],[]) [] ⟨rfl,fun c hc=>by simp at hc⟩ fun u v=>by
   unfold eqD cvD zcz zaB
   simp
 intro l
 induction l with
 |nil=>intro p c h1 h2;exact⟨h1,h2⟩
 |cons f l ih=>
  intro p c h1 h2
  rw[List.foldl_cons,List.foldl_cons]
  by_cases hk:f.kind=3
  ·have e:cl1 p f=cl2 p (f.words.getD 0 ⟨[]⟩) (f.words.getD 1 ⟨[]⟩):=by unfold cl1;rw[if_pos hk]
   refine ih _ _ ?_ fun u v=>?_
   ·rw[e];exact(zw6 h1 _ _ ⟨[]⟩ ⟨[]⟩).1
   ·rw[e,(zw6 h1 _ _ u v).2,zy6 f hk,h2,h2,h2,h2,h2]
  ·have e1:cl1 p f=p:=by unfold cl1;rw[if_neg hk]
   have e2:zjT c f=c:=by unfold zjT;rw[if_pos hk]
   rw[e1,e2]
   exact ih _ _ h1 h2
theorem zpb (l:List Abs.zac)(u v:Str):eqR (clD l).1 (clD l).2 u v=decide (zaB (zeM l) u=zaB (zeM l) v):=by
 have h:=zvn l
 rw[Bool.eq_iff_iff,zyh h.1,h.2,decide_eq_true_eq]
theorem zty (l:List Abs.zac)(w:Str):zxu l w=decide (w∈acM l):=by
 unfold zxu
 rw[Bool.eq_iff_iff,List.any_eq_true,decide_eq_true_eq,ztl]
 constructor
 ·rintro⟨f,hf,h⟩
  exact⟨f,hf,(zbz f w).1 (of_decide_eq_true h)⟩
 ·rintro⟨f,hf,h⟩
  exact⟨f,hf,decide_eq_true ((zbz f w).2 h)⟩
mutual
theorem zlY:∀(f:Abs.zac) (bd l:List Str),shp false f→(zgR f bd l).length≤l.length+3*f.size
 | .mk k nm ws s,bd,l,h=>by
  rw[shp]at h
  have hw:ws.length≤3:=by
   have h2:=h.1.2.1
   unfold zdc at h2
   rw[zak,zcb]at h2
   split at h2
   ·exact of_decide_eq_true h2
   ·split at h2
    ·have:=of_decide_eq_true h2;omega
    ·have:=of_decide_eq_true h2;omega
  rw[zgR,zac.size]
  have h1:=zjI s (if isQ k then bd++[nm]else bd) (ws.foldl (fun l w=>if w∈bd then l else zeh l w) l) h.2
  have h2:=zgd bd ws l
  omega
theorem zjI:∀(fs:List Abs.zac) (bd l:List Str),ze7 false fs→(zdF fs bd l).length≤l.length+3*zac.sizes fs
 |[],_,l,_=>by rw[zdF];omega
 |f::fs,bd,l,h=>by
  rw[ze7]at h
  rw[zdF,zac.sizes]
  have h1:=zlY f bd l h.1
  have h2:=zjI fs bd (zgR f bd l) h.2
  omega
end
theorem zx3 {f:Abs.zac}(h:BF0 f):acP f:=⟨h.b.ft,by have:=h.b.s;omega,by
 have h1:=zlY f [] [] h.sh
 have:=h.b.s
 simp only[List.length_nil]at h1
 omega⟩
theorem zso {l:List Abs.zac}{f h:Abs.zac}{k:Abs.zac}(hf:BF f)(hk:BF k)(h4:k.kind=4)(hs:k.subs=[h]):zhn l f k=(zow (cnn h) f||zci (zeM l) f h):=by
 have hv:=hk.o.vw
 have hh:BF0 h:=hk.o.sub (by rw[hs];simp)
 have ek:k=zdP h:=by
  cases hv with
  |t=>simp[zak]at h4
  |p=>simp[zak]at h4
  |e=>simp[zak]at h4
  |n a _=>rw[za9]at hs;rw[(List.cons.inj hs).1];rfl
  |j k a b hk2=>exfalso;rw[zak]at h4;omega
  |q k nm a hk2=>exfalso;rw[zak]at h4;omega
 have hc:cnn h=h:=BF.not_inv (by rw[←ek];exact hk)
 have s0:zbo k=h:=by unfold zbo;rw[hs];rfl
 unfold zhn zow
 rw[decide_eq_true h4,s0,Bool.true_and,ztt,hf.cn,hc]
 congr 1
 rw[decide_eq_decide,txt_eq hh hf.o,ek]
 constructor
 ·intro e
  unfold zdP at e
  injection e with _ _ _ e
  exact((List.cons.inj e).1).symm
 ·intro e;rw[e]
theorem zqe {l:List Abs.zac}{f k:Abs.zac}(h4:k.kind≠4):zhn l f k=false:=by
 unfold zhn
 rw[decide_eq_false h4,Bool.false_and,Bool.or_false]
 refine decide_eq_false fun e=>h4 ?_
 rw[←e,ztt];rfl
theorem zvc (c:List zaR)(f g:Abs.zac):zci c f g=(decide (f.kind=2)&&decide (g.kind=2)&&decide (f.name=g.name)&&decide (f.words.map (zaB c)=g.words.map (zaB c))):=rfl
end Go.Proofs.YtdlioodgfopmfaaGreatDoor

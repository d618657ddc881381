import Derived.Test.YtdlioodgfopmfaaGreatDoorAbs44
set_option linter.unusedSimpArgs false
namespace Go.Abs
open Go
section
variable {G:Nat→List FD} {N:Nat} {st:St}
theorem zrX (tag:Nat):zeG G N st ⟨st.fr,zaK st.H (tag,st.n) (some tok),st.n+1⟩:=by
 intro a w L F h
 obtain⟨g1,g2⟩:=zeB h.ok (id:=(tag,st.n)) (U':=Ub (st.n+1)) (by unfold Ub;simp) (fun i hi=>by unfold Ub at hi ⊢;omega) (by unfold Ub;simp) false
 exact⟨_,F,⟨g1,h.size,fun t=>(h.fr t).ext (g2.ext h.ok),h.nd⟩,g2⟩
theorem zrW {id id2:Id}{o:O}{k es:Nat}{xs:List FD}(ho:st.H id=some o)(hv:o.virt=false)(hk:k<o.cells.length)(hc:o.cells.getD k .junk= .full xs)(h2:id2.2<st.n):
  zeG G N st ⟨st.fr,zaK st.H id (some {o with cells:=o.cells.set k (.ow id2 es xs)}),st.n⟩:=by
 intro a w L F h
 have hold:∀i x,zaK st.H id (some {o with cells:=o.cells.set k (.ow id2 es xs)}) i=some x→∃y,st.H i=some y:=fun i x hx=>by
  unfold zaK at hx
  split at hx
  ·rename_i e;subst e;exact⟨_,ho⟩
  ·exact⟨_,hx⟩
 refine⟨L,F,⟨⟨h.ok.fb,fun i x hx=>?_,fun i1 i2 o1 o2 h1 h2=>?_,h.ok.glob⟩,h.size,h.fr,h.nd⟩,fun _ h=>h,fun _ _=>rfl,fun _ _ h=>h,Nat.le_refl _,fun _ _ _=>rfl,fun _ _ _ _=>rfl,
  fun b cs T fr _ h=>⟨cs,T,fr,h,Nat.le_refl _⟩,fun _ _ h=> .inl h,fun b k hb=> .inr ?_,rfl,rfl,rfl⟩
 ·simp only[zaK]at hx
  split at hx
  ·rename_i e
   subst e
   simp only[Option.some.injEq]at hx
   subst hx
   obtain⟨g1,g2⟩:=h.ok.live _ _ ho
   refine⟨g1,?_⟩
   unfold zbE at g2 ⊢
   cases e3:(L i).3 with
   |true=>
    rw[if_pos e3]at g2
    rw[hv]at g2
    cases g2.2
   |false=>
    simp only[e3,Bool.false_eq_true,if_false]at g2 ⊢
    obtain⟨q1,cs,T,q2,q3,q4⟩:=g2
    refine⟨q1,cs,T,q2,by rw[List.length_set];exact q3,fun j hj=>?_⟩
    rw[List.length_set]at hj
    obtain⟨v,q5,q6⟩:=q4 j hj
    refine⟨v,q5,?_⟩
    by_cases e:k=j
    ·subst e
     rw[hc]at q6
     rw[List.getD_eq_getElem?_getD,List.getElem?_set_self hk,Option.getD_some]
     simp only[zal]at q6 ⊢
     obtain⟨a',r1,r2⟩:=q6
     exact⟨h2,r2,a',_,r1,.inl rfl⟩
    ·rw[List.getD_eq_getElem?_getD,List.getElem?_set_ne e,←List.getD_eq_getElem?_getD]
     exact q6
  ·exact h.ok.live i x hx
 ·obtain⟨y1,h1⟩:=hold _ _ h1
  obtain⟨y2,h2⟩:=hold _ _ h2
  exact h.ok.inj i1 i2 y1 y2 h1 h2
 ·obtain⟨i,x,h1,h2,h3,h4⟩:=hb
  obtain⟨y,h1⟩:=hold _ _ h1
  exact⟨i,y,h1,h2,h3,h4⟩
theorem zfk {l:List (Nat×D)}{hl:List (Id×Option O)}{X:zaw}{n:Nat}(tag:Nat):zeG G N ⟨frL l,hpX hl X,n⟩ ⟨frL l,hpX (((tag,n),some tok)::hl) X,n+1⟩:=by
 have:=zrX (G:=G) (N:=N) (st:=⟨frL l,hpX hl X,n⟩) tag
 rw[zzt]at this
 exact this
theorem zfj {l:List (Nat×D)}{hl:List (Id×Option O)}{X:zaw}{n:Nat}{id id2:Id}{cells:List D}{b:Bool}{k es:Nat}{xs:List FD}(ho:hpX hl X id=some ⟨cells,b,false⟩)(hk:k<cells.length)(hc:cells.getD k .junk= .full xs)(h2:id2.2<n):
  zeG G N ⟨frL l,hpX hl X,n⟩ ⟨frL l,hpX ((id,some ⟨cells.set k (.ow id2 es xs),b,false⟩)::hl) X,n⟩:=by
 have:=zrW (G:=G) (N:=N) (st:=⟨frL l,hpX hl X,n⟩) (es:=es) ho rfl hk hc h2
 rw[zzt]at this
 exact this
theorem zbY {a b c:St}(h1:zeG G N a b)(h2:zeG G N b c):zeG G N a c:=zeG.trans h1 h2
end
end Go.Abs

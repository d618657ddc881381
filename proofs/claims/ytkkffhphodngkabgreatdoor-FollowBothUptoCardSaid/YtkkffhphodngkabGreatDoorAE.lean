import Derived.Test.YtkkffhphodngkabGreatDoorEV
set_option linter.unusedSimpArgs false
namespace Go.Abs
open Go
abbrev PE:=List (Str×Str)
def zoF:PE→Str→Str→Prop
 |[],w,w'=>w=w'
 |(a,b)::E,w,w'=>(w=a∧w'=b)∨(w≠a∧w'≠b∧zoF E w w')
def zcV (E:PE):List Str→List Str→Prop
 |[],[]=>True
 |w::ws,w'::ws'=>zoF E w w'∧zcV E ws ws'
 |[],_::_=>False
 |_::_,[]=>False
mutual
def Aeq:PE→zac→zac→Prop
 |E,.mk k nm ws s,.mk k' nm' ws' s'=>k=k'∧(¬isQ k→nm=nm')∧zcV E ws ws'∧zcP (if isQ k then(nm,nm')::E else E) s s'
def zcP:PE→List zac→List zac→Prop
 |_,[],[]=>True
 |E,f::fs,g::gs=>Aeq E f g∧zcP E fs gs
 |_,[],_::_=>False
 |_,_::_,[]=>False
end
theorem zg9 {E:PE}:∀{a b:List Str},zcV E a b→a.length=b.length
 |[],[],_=>rfl
 |_::a,_::b,h=>by rw[zcV]at h;rw[List.length_cons,List.length_cons,zg9 h.2]
 |[],_::_,h=>by rw[zcV]at h;exact h.elim
 |_::_,[],h=>by rw[zcV]at h;exact h.elim
theorem zg8 {E:PE}:∀{a b:List Str} {i:Nat},zcV E a b→i<a.length→zoF E (a.getD i ⟨[]⟩) (b.getD i ⟨[]⟩)
 |[],[],i,_,hi=>by simp at hi
 |w::a,w'::b,0,h,_=>by rw[zcV]at h;exact h.1
 |w::a,w'::b,i+1,h,hi=>by rw[zcV]at h;exact zg8 (i:=i) h.2 (by simpa using hi)
 |[],_::_,_,h,_=>by rw[zcV]at h;exact h.elim
 |_::_,[],_,h,_=>by rw[zcV]at h;exact h.elim
theorem zkQ {E:PE}:∀{a b:List zac},zcP E a b→a.length=b.length
 |[],[],_=>rfl
 |_::a,_::b,h=>by rw[zcP]at h;rw[List.length_cons,List.length_cons,zkQ h.2]
 |[],_::_,h=>by rw[zcP]at h;exact h.elim
 |_::_,[],h=>by rw[zcP]at h;exact h.elim
theorem zqc {E:PE}:∀{a b c d:List zac},zcP E a b→zcP E c d→zcP E (a++c) (b++d)
 |[],[],_,_,_,h=>h
 |_::a,_::b,_,_,h,h2=>by rw[zcP]at h;rw[List.cons_append,List.cons_append,zcP];exact⟨h.1,zqc h.2 h2⟩
 |[],_::_,_,_,h,_=>by rw[zcP]at h;exact h.elim
 |_::_,[],_,_,h,_=>by rw[zcP]at h;exact h.elim
theorem zAo {E:PE}:Aeq E zqH zqH:=by
 unfold zqH
 rw[Aeq,if_neg (by decide)]
 exact⟨rfl,fun _=>rfl,by rw[zcV];trivial,by rw[zcP];trivial⟩
theorem zel {E:PE}:∀{a b:List zac} (i:Nat),zcP E a b→Aeq E (a.getD i zqH) (b.getD i zqH)
 |[],[],i,_=>by simp only[List.getD_nil];exact zAo
 |_::a,_::b,0,h=>by rw[zcP]at h;exact h.1
 |_::a,_::b,i+1,h=>by rw[zcP]at h;exact zel i h.2
 |[],_::_,_,h=>by rw[zcP]at h;exact h.elim
 |_::_,[],_,h=>by rw[zcP]at h;exact h.elim
theorem zj6 {E:PE}{f f':zac}:Aeq E f f'↔f.kind=f'.kind∧(¬isQ f.kind→f.name=f'.name)∧zcV E f.words f'.words∧zcP (if isQ f.kind then(f.name,f'.name)::E else E) f.subs f'.subs:=by
 cases f;cases f';rw[Aeq];rfl
theorem zoG {E:PE}{s s':Str→Str}(h:∀w w',zoF E w w'→s w=s' w'):∀{a b:List Str},zcV E a b→a.map s=b.map s'
 |[],[],_=>rfl
 |w::a,w'::b,hw=>by rw[zcV]at hw;rw[List.map_cons,List.map_cons,h _ _ hw.1,zoG h hw.2]
 |[],_::_,h=>by rw[zcV]at h;exact h.elim
 |_::_,[],h=>by rw[zcV]at h;exact h.elim
mutual
theorem ztU {g:Nat→Str×Nat}:∀(f f':zac) (E:PE) (env env':List za4) (n:Nat),Aeq E f f'→(∀w w',zoF E w w'→lkp env w=lkp env' w')→ren g f env n=ren g f' env' n
 | .mk k nm ws s,.mk k' nm' ws' s',E,env,env',n,h,he=>by
  rw[Aeq]at h
  obtain⟨rfl,h2,h3,h4⟩:=h
  rw[ren,ren,zoG he h3]
  by_cases hq:isQ k
  ·rw[if_pos hq]at h4
   simp only[if_pos hq]
   rw[zkX (g:=g) s s' ((nm,nm')::E) (env++[(⟨nm,(g n).1⟩:za4)]) (env'++[(⟨nm',(g n).1⟩:za4)]) (g n).2 h4 fun w w' hw=>?_]
   rw[zcf,zcf]
   rw[zoF]at hw
   rcases hw with⟨rfl,rfl⟩|⟨h5,h6,h7⟩
   ·rw[if_pos rfl,if_pos rfl]
   ·rw[if_neg (fun e=>h5 e.symm),if_neg (fun e=>h6 e.symm)]
    exact he w w' h7
  ·rw[if_neg hq]at h4
   simp only[if_neg hq]
   rw[zkX (g:=g) s s' E env env' n h4 he,h2 hq]
theorem zkX {g:Nat→Str×Nat}:∀(f f':List zac) (E:PE) (env env':List za4) (n:Nat),zcP E f f'→(∀w w',zoF E w w'→lkp env w=lkp env' w')→zbj g f env n=zbj g f' env' n
 |[],[],E,env,env',n,_,_=>by rw[zbj,zbj]
 |f::fs,f'::fs',E,env,env',n,h,he=>by
  rw[zcP]at h
  rw[zbj,zbj,ztU f f' E env env' n h.1 he]
  rw[zkX fs fs' E env env' _ h.2 he]
 |[],_::_,_,_,_,_,h,_=>by rw[zcP]at h;exact h.elim
 |_::_,[],_,_,_,_,h,_=>by rw[zcP]at h;exact h.elim
end
theorem zh5 {E:PE}{bd bd':List Str}(hb:∀w w',zoF E w w'→(w∈bd↔w'∈bd')∧(w∉bd→w=w')):∀{a b:List Str},zcV E a b→a.filter (fun w=>decide (w∉bd))=b.filter (fun w=>decide (w∉bd'))
 |[],[],_=>rfl
 |w::a,w'::b,hw=>by
  rw[zcV]at hw
  rw[List.filter_cons,List.filter_cons,zh5 hb hw.2]
  obtain⟨h1,h2⟩:=hb w w' hw.1
  by_cases h:w∈bd
  ·rw[if_neg (by simpa using h),if_neg (by simpa using h1.1 h)]
  ·have e:=h2 h
   rw[if_pos (by simpa using h),if_pos (by simpa using fun h3=>h (h1.2 h3)),e]
 |[],_::_,h=>by rw[zcV]at h;exact h.elim
 |_::_,[],h=>by rw[zcV]at h;exact h.elim
mutual
theorem ztT:∀(f f':zac) (E:PE) (bd bd':List Str),Aeq E f f'→(∀w w',zoF E w w'→(w∈bd↔w'∈bd')∧(w∉bd→w=w'))→cst f bd=cst f' bd'
 | .mk k nm ws s,.mk k' nm' ws' s',E,bd,bd',h,he=>by
  rw[Aeq]at h
  obtain⟨rfl,h2,h3,h4⟩:=h
  rw[cst,cst,zh5 he h3]
  by_cases hq:isQ k
  ·rw[if_pos hq]at h4
   rw[if_pos hq,if_pos hq]
   rw[zkW s s' ((nm,nm')::E) (bd++[nm]) (bd'++[nm']) h4 fun w w' hw=>?_]
   rw[zoF]at hw
   simp only[List.mem_append,List.mem_singleton]
   rcases hw with⟨rfl,rfl⟩|⟨h5,h6,h7⟩
   ·exact⟨⟨fun _=> .inr rfl,fun _=> .inr rfl⟩,fun h=>absurd (.inr rfl) h⟩
   ·obtain⟨h8,h9⟩:=he w w' h7
    refine⟨⟨fun h=>?_,fun h=>?_⟩,fun h=>h9 fun h0=>h (.inl h0)⟩
    ·rcases h with h|h
     ·exact .inl (h8.1 h)
     ·exact absurd h h5
    ·rcases h with h|h
     ·exact .inl (h8.2 h)
     ·exact absurd h h6
  ·rw[if_neg hq]at h4
   rw[if_neg hq,if_neg hq,zkW s s' E bd bd' h4 he]
theorem zkW:∀(f f':List zac) (E:PE) (bd bd':List Str),zcP E f f'→(∀w w',zoF E w w'→(w∈bd↔w'∈bd')∧(w∉bd→w=w'))→zbN f bd=zbN f' bd'
 |[],[],E,bd,bd',_,_=>by rw[zbN,zbN]
 |f::fs,f'::fs',E,bd,bd',h,he=>by
  rw[zcP]at h
  rw[zbN,zbN,ztT f f' E bd bd' h.1 he,zkW fs fs' E bd bd' h.2 he]
 |[],_::_,_,_,_,h,_=>by rw[zcP]at h;exact h.elim
 |_::_,[],_,_,_,h,_=>by rw[zcP]at h;exact h.elim
end
theorem ztS {f f':zac}(h:Aeq [] f f'):zaC f []=zaC f' []:=by
 have h1:cst f []=cst f' []:=ztT f f' [] [] [] h fun w w' hw=>⟨by simp,fun _=>hw⟩
 unfold zaC zaP
 rw[h1,ztU f f' [] [] [] 0 h fun w w' hw=>by rw[zdn,zdn];exact hw]
mutual
theorem zvS {used:List Str}:∀(f:zac) (E:PE) (env:List za4) (bd:List Str) (n:Nat),(∀w,w∈bd∨w∈used→zoF E w (lkp env w)∧(lkp env w∈used∨∃j,j<n∧lkp env w=zfU j))→(∀x∈cst f bd,x∈used)→Aeq E f (ren (vg used) f env n).1
 | .mk k nm ws s,E,env,bd,n,he,hc=>by
  rw[cst]at hc
  have hw:zcV E ws (ws.map (lkp env)):=by
   have:∀l:List Str,(∀w∈l,w∈ws)→zcV E l (l.map (lkp env)):=by
    intro l
    induction l with
    |nil=>intro _;rw[List.map_nil,zcV];trivial
    |cons w l ih=>
     intro hl
     rw[List.map_cons,zcV]
     refine⟨(he w ?_).1,ih fun x hx=>hl x (List.mem_cons_of_mem _ hx)⟩
     by_cases hb:w∈bd
     ·exact .inl hb
     ·exact .inr (hc w (List.mem_append_left _ (List.mem_filter.2 ⟨hl w (by simp),by simpa using hb⟩)))
   exact this ws fun _ h=>h
  rw[ren]
  by_cases hq:isQ k
  ·rw[if_pos hq]at hc
   rw[if_pos hq,Aeq,if_pos hq]
   obtain⟨a1,_,a3,_⟩:=zbn used n
   refine⟨rfl,fun h=>absurd hq h,hw,zlZ s _ _ (bd++[nm]) _ (fun w hw2=>?_) fun x hx=>hc x (List.mem_append_right _ hx)⟩
   rw[zcf,zoF]
   by_cases e:nm=w
   ·rw[if_pos e]
    exact⟨.inl ⟨e.symm,rfl⟩,.inr ⟨zcS used n,Nat.lt_succ_self _,rfl⟩⟩
   ·rw[if_neg e]
    have hw3:w∈bd∨w∈used:=by
     rcases hw2 with h|h
     ·rcases List.mem_append.1 h with h|h
      ·exact .inl h
      ·exact absurd (List.mem_singleton.1 h).symm e
     ·exact .inr h
    obtain⟨h1,h2⟩:=he w hw3
    refine⟨.inr ⟨fun h=>e h.symm,fun h=>?_,h1⟩,?_⟩
    ·rw[h]at h2
     rcases h2 with h2|⟨j,hj,h2⟩
     ·exact a3 h2
     ·have:=zmr h2;omega
    ·rcases h2 with h2|⟨j,hj,h2⟩
     ·exact .inl h2
     ·refine .inr ⟨j,?_,h2⟩
      have:(vg used n).2=zcS used n+1:=rfl
      omega
  ·rw[if_neg hq]at hc
   rw[if_neg hq,Aeq,if_neg hq]
   exact⟨rfl,fun _=>rfl,hw,zlZ s _ _ bd _ he fun x hx=>hc x (List.mem_append_right _ hx)⟩
theorem zlZ {used:List Str}:∀(fs:List zac) (E:PE) (env:List za4) (bd:List Str) (n:Nat),(∀w,w∈bd∨w∈used→zoF E w (lkp env w)∧(lkp env w∈used∨∃j,j<n∧lkp env w=zfU j))→(∀x∈zbN fs bd,x∈used)→zcP E fs (zbj (vg used) fs env n).1
 |[],E,env,bd,n,_,_=>by rw[zbj,zcP];trivial
 |f::fs,E,env,bd,n,he,hc=>by
  rw[zbN]at hc
  rw[zbj,zcP]
  refine⟨zvS f E env bd n he fun x hx=>hc x (List.mem_append_left _ hx),zlZ fs E env bd _ (fun w hw=>?_) fun x hx=>hc x (List.mem_append_right _ hx)⟩
  obtain⟨h1,h2⟩:=he w hw
  refine⟨h1,?_⟩
  rcases h2 with h2|⟨j,hj,h2⟩
  ·exact .inl h2
  ·have:=((zoc (ztr used)).1 f env n).1
   exact .inr ⟨j,by omega,h2⟩
end
theorem zub (f:zac):Aeq [] f (zaC f []):=by
 refine zvS f [] [] [] 0 (fun w hw=>?_) fun x hx=>(za9 f x).2 hx
 rw[zdn]
 rcases hw with h|h
 ·simp at h
 ·exact⟨rfl,.inl h⟩
mutual
theorem znI:∀(f f':zac) (E:PE),Aeq E f f'→zcP E (zgN f) (zgN f')
 | .mk k nm ws s,.mk k' nm' ws' s',E,h=>by
  have h0:=h
  rw[Aeq]at h
  obtain⟨rfl,h2,h3,h4⟩:=h
  have hl:=zkQ h4
  rw[zgN,zgN,←hl]
  by_cases hk:k=5∧s.length=2
  ·rw[if_pos hk,if_pos hk]
   rw[if_neg (by rw[hk.1];decide)]at h4
   exact zsJ s s' E h4
  ·rw[if_neg hk,if_neg hk,zcP]
   exact⟨h0,by rw[zcP];trivial⟩
theorem zsJ:∀(f f':List zac) (E:PE),zcP E f f'→zcP E (zjb f) (zjb f')
 |[],[],E,_=>by rw[zjb,zcP];trivial
 |f::fs,f'::fs',E,h=>by
  rw[zcP]at h
  rw[zjb,zjb]
  exact zqc (znI f f' E h.1) h.2
 |[],_::_,_,h=>by rw[zcP]at h;exact h.elim
 |_::_,[],_,h=>by rw[zcP]at h;exact h.elim
end
theorem zn2 {E:PE}{f f':zac}(h:Aeq E f f')(hk:f.kind=9):zcP ((f.name,f'.name)::E) (zcJ f) (zcJ f'):=by
 rw[zj6,if_pos (show isQ f.kind from .inr hk)]at h
 unfold zcJ
 exact znI _ _ _ (zel 0 h.2.2.2)
theorem zg7 {E:PE}{a b w w':Str}(h:zoF ((a,b)::E) w w'):(w=a↔w'=b)∧(w≠a→zoF E w w'):=by
 rw[zoF]at h
 rcases h with⟨rfl,rfl⟩|⟨h1,h2,h3⟩
 ·exact⟨⟨fun _=>rfl,fun _=>rfl⟩,fun h=>absurd rfl h⟩
 ·exact⟨⟨fun h=>absurd h h1,fun h=>absurd h h2⟩,fun _=>h3⟩
theorem zBE {E:PE}{f f':zac}(h:Aeq E f f'):okE f=okE f':=by
 have hk:=(zj6.1 h).1
 unfold okE
 rw[←hk]
 by_cases h9:f.kind=9
 ·have hp:=zn2 h h9
  have hh:Aeq ((f.name,f'.name)::E) (zia f) (zia f'):=zel 0 hp
  rw[zj6]at hh
  obtain⟨e1,_,e2,_⟩:=hh
  rw[←e1,←zg9 e2]
  by_cases hl:(zia f).words.length=1
  ·have:=(zg7 (zg8 (i:=0) e2 (by omega))).1
   rw[show decide ((zia f).words.getD 0 ⟨[]⟩=f.name)=decide ((zia f').words.getD 0 ⟨[]⟩=f'.name)from decide_eq_decide.2 this]
  ·simp[hl]
 ·simp[h9]
theorem zu2 {E:PE}{f f' x x':zac}(h:Aeq ((f.name,f'.name)::E) x x')(i:Nat):zpy f i x=zpy f' i x':=by
 rw[zj6]at h
 obtain⟨e1,e0,e2,_⟩:=h
 unfold zpy
 rw[←e1,←zg9 e2]
 by_cases hk:x.kind=2
 ·rw[e0 (by rw[hk];decide)]
  by_cases hl:x.words.length=2
  ·have h0:=(zg7 (zg8 (i:=0) e2 (by omega))).1
   have h1:=(zg7 (zg8 (i:=1) e2 (by omega))).1
   rw[show decide (x.words.getD 0 ⟨[]⟩=f.name)=decide (x'.words.getD 0 ⟨[]⟩=f'.name)from decide_eq_decide.2 h0,
    show decide (x.words.getD 1 ⟨[]⟩=f.name)=decide (x'.words.getD 1 ⟨[]⟩=f'.name)from decide_eq_decide.2 h1]
  ·simp[hl]
 ·simp[hk]
theorem znB {E:PE}{f f':zac}(h:zcP ((f.name,f'.name)::E) (zcJ f) (zcJ f')):∀n,zgK f n=zgK f' n
 |0=>by rw[zgK,zgK]
 |n+1=>by rw[zgK,zgK,znB h n,zu2 (zel (n+1) h) n]
theorem ztt {E:PE}{f f':zac}(h:zcP ((f.name,f'.name)::E) (zcJ f) (zcJ f')){n:Nat}(hg:zgK f n=true):zcV E (zkO f n) (zkO f' n):=by
 unfold zkO
 have:∀l:List Nat,(∀j∈l,j<n)→zcV E (l.map fun j=>((zcJ f).getD (j+1) zqH).words.getD 1 ⟨[]⟩) (l.map fun j=>((zcJ f').getD (j+1) zqH).words.getD 1 ⟨[]⟩):=by
  intro l
  induction l with
  |nil=>intro _;rw[List.map_nil,List.map_nil,zcV];trivial
  |cons j l ih=>
   intro hl
   rw[List.map_cons,List.map_cons,zcV]
   refine⟨?_,ih fun x hx=>hl x (List.mem_cons_of_mem _ hx)⟩
   have hj:=zqR hg (hl j (by simp))
   have hx:=zel (j+1) h
   unfold zpy at hj
   simp only[Bool.and_eq_true,decide_eq_true_eq,Bool.not_eq_true',decide_eq_false_iff_not]at hj
   have hw:=(zj6.1 hx).2.2.1
   exact(zg7 (zg8 (i:=1) hw (by omega))).2 hj.2
 exact this _ fun j hj=>List.mem_range.1 hj
theorem zpI {E:PE}{f f':zac}(h:Aeq E f f'):Aeq E (zbO f) (zbO f'):=by
 have ho:=zBE h
 by_cases ht:okE f=true
 ·have hk:=(zlS ht).1
  have hp:=zn2 h hk
  have hl:=zkQ hp
  have hm:zdo f=zdo f':=by
   unfold zdo
   rw[ho,hl,znB hp]
  unfold zbO
  rw[←hm,←hl]
  by_cases hmt:zdo f=true
  ·rw[if_pos hmt,if_pos hmt,Aeq,if_neg (by decide)]
   have hh:=zel 0 hp
   have hh2:=zj6.1 hh
   refine⟨rfl,fun _=>hh2.2.1 ?_,ztt hp ?_,by rw[zcP];trivial⟩
   ·rw[show((zcJ f).getD 0 zqH).kind=2 from(zlS ht).2];decide
   ·unfold zdo at hmt
    simp only[Bool.and_eq_true]at hmt
    exact hmt.2
  ·rw[if_neg hmt,if_neg hmt];exact h
 ·have h1:¬zdo f=true:=fun hm=>ht (zfO hm)
  have h2:¬zdo f'=true:=fun hm=>ht (by rw[ho];exact zfO hm)
  unfold zbO
  rw[if_neg h1,if_neg h2];exact h
mutual
theorem ziK {by':zac→zac}(hb:∀E f f',Aeq E f f'→Aeq E (by' f) (by' f')):∀(f f':zac) (E:PE),Aeq E f f'→Aeq E (zaD by' f) (zaD by' f')
 | .mk k nm ws s,.mk k' nm' ws' s',E,h=>by
  rw[Aeq]at h
  rw[zaD,zaD]
  refine hb _ _ _ ?_
  rw[Aeq]
  exact⟨h.1,h.2.1,h.2.2.1,zhP hb s s' _ h.2.2.2⟩
theorem zhP {by':zac→zac}(hb:∀E f f',Aeq E f f'→Aeq E (by' f) (by' f')):∀(f f':List zac) (E:PE),zcP E f f'→zcP E (zau by' f) (zau by' f')
 |[],[],E,_=>by rw[zau,zcP];trivial
 |f::fs,f'::fs',E,h=>by
  rw[zcP]at h
  rw[zau,zau,zcP]
  exact⟨ziK hb f f' E h.1,zhP hb fs fs' E h.2⟩
 |[],_::_,_,h=>by rw[zcP]at h;exact h.elim
 |_::_,[],_,h=>by rw[zcP]at h;exact h.elim
end
mutual
theorem zgu {by':zac→zac}(hb:∀f,(by' f).depth≤f.depth):∀f:zac,(zaD by' f).depth≤f.depth
 | .mk k nm ws s=>by
  rw[zaD]
  refine Nat.le_trans (hb _) ?_
  rw[zac.depth,zac.depth]
  have:=zfZ hb s
  omega
theorem zfZ {by':zac→zac}(hb:∀f,(by' f).depth≤f.depth):∀fs:List zac,zac.depths (zau by' fs)≤zac.depths fs
 |[]=>by rw[zau];exact Nat.le_refl _
 |f::fs=>by
  rw[zau,zac.depths,zac.depths]
  have h1:=zgu hb f
  have h2:=zfZ hb fs
  omega
end
theorem zuD (f:zac):1≤f.depth:=by cases f;rw[zac.depth];omega
theorem zlL (f:zac):(zbO f).depth≤f.depth:=by
 unfold zbO
 split
 ·have:=zuD f;simp only[zac.depth,zac.depths];omega
 ·exact Nat.le_refl _
mutual
theorem zob (g:Nat→Str×Nat):∀(f:zac) (env:List za4) (n:Nat),(ren g f env n).1.depth=f.depth
 | .mk k nm ws s,env,n=>by
  rw[ren]
  split
  ·rw[zac.depth,zac.depth,zhx g s]
  ·rw[zac.depth,zac.depth,zhx g s]
theorem zhx (g:Nat→Str×Nat):∀(fs:List zac) (env:List za4) (n:Nat),zac.depths (zbj g fs env n).1=zac.depths fs
 |[],env,n=>by rw[zbj]
 |f::fs,env,n=>by rw[zbj,zac.depths,zac.depths,zob g f,zhx g fs]
end
theorem zhN (f:zac)(env:List za4):(zaC f env).depth=f.depth:=zob _ f env 0
theorem zo5 (f:zac)(env:List za4):zlo (zaC f env)=zlo f:=by unfold zlo;rw[zcA,zhN]
def zyD (op:Bool)(f:zac):Prop:=(f.subs.length:Int)=zcj op f∧zdq f=true∧(named f=true→¬isQ f.kind→zas f.name=true)∧(named f=false→f.name=⟨[]⟩)
mutual
def shp (op:Bool):zac→Prop
 | .mk k nm w s=>zyD op (.mk k nm w s)∧ze9 op s
def ze9 (op:Bool):List zac→Prop
 |[]=>True
 |f::fs=>shp op f∧ze9 op fs
end
theorem zyC {op:Bool}{f:zac}{d:Int}{n:Nat}(hs:zyD op f)(hn:n+1≤200)(hd:d≤40)(hw:∀w∈f.words,zas w=true)(hq:isQ f.kind→zas f.name=true):zex op f d n=0:=by
 obtain⟨h1,h2,h3,h4⟩:=hs
 unfold zex
 rw[if_neg (by omega),if_neg (by omega),if_neg (by rw[Decidable.not_not];exact⟨h1,h2⟩),if_neg,if_neg,if_neg]
 ·rw[show f.words.all zas=true from List.all_eq_true.2 hw];simp
 ·rintro⟨h5,h6⟩;exact h6 (h4 h5)
 ·rintro⟨h5,h6⟩
  by_cases hk:isQ f.kind
  ·rw[hq hk]at h6;cases h6
  ·rw[h3 h5 hk]at h6;cases h6
mutual
theorem zzH {op:Bool}:∀(f:zac) (d:Int) (n:Nat),shp op f→zbU (fun w=>zas w=true) f→n+f.size≤200→d+f.depth≤41→chk op f d n=(⟨0,0⟩,n+f.size)
 | .mk k nm ws s,d,n,hs,ha,hn,hd=>by
  rw[shp]at hs
  rw[zbU]at ha
  rw[zac.size]at hn ⊢
  rw[zac.depth]at hd
  have:=zyC (d:=d) (n:=n) hs.1 (by omega) (by omega) ha.1 ha.2.1
  rw[chk,if_neg (by simp[this]),zun s (d+1) (n+1) hs.2 ha.2.2 (by omega) (by omega)]
  rw[show n+1+zac.sizes s=n+(zac.sizes s+1) by omega]
theorem zun {op:Bool}:∀(fs:List zac) (d:Int) (n:Nat),ze9 op fs→zaR (fun w=>zas w=true) fs→n+zac.sizes fs≤200→d+zac.depths fs≤41→zfb op fs d n=(⟨0,0⟩,n+zac.sizes fs)
 |[],d,n,_,_,_,_=>by rw[zfb,zac.sizes];rfl
 |f::fs,d,n,hs,ha,hn,hd=>by
  rw[ze9]at hs
  rw[zaR]at ha
  rw[zac.sizes]at hn ⊢
  rw[zac.depths]at hd
  rw[zfb,zzH f d n hs.1 ha.1 (by omega) (by omega),if_neg (by simp),zun fs d _ hs.2 ha.2 (by omega) (by omega)]
  rw[Nat.add_assoc]
end
theorem zuf {op:Bool}{f:zac}(hs:shp op f)(ha:zbU (fun w=>zas w=true) f)(hf:zlo f=true):zaz op f=⟨0,0⟩:=by
 unfold zlo at hf
 have hf:=of_decide_eq_true hf
 unfold zaz
 rw[zzH f 1 0 hs ha (by omega) (by omega)]
mutual
theorem zuk {op:Bool}:∀(f:zac) (d:Int) (n:Nat),(chk op f d n).1.code=0→shp op f∧d+f.depth≤41
 | .mk k nm w s,d,n,h=>by
  rw[chk]at h
  split at h
  ·rename_i h1;exact absurd h h1
  ·rename_i h1
   have h1:=Decidable.not_not.1 h1
   have h2:=zdS h1
   have h3:=zqu s _ _ h
   have hd:d≤40:=by
    unfold zex at h1
    split at h1
    ·simp at h1
    ·omega
   rw[shp,zac.depth]
   exact⟨⟨⟨h2.2.2.2.2,h2.2.2.2.1,fun hn _=>h2.2.1 hn,h2.2.2.1⟩,h3.1⟩,by have:=h3.2;omega⟩
theorem zqu {op:Bool}:∀(fs:List zac) (d:Int) (n:Nat),(zfb op fs d n).1.code=0→ze9 op fs∧(zac.depths fs=0∨d+zac.depths fs≤41)
 |[],d,n,_=>by rw[ze9,zac.depths];exact⟨trivial,.inl rfl⟩
 |f::fs,d,n,h=>by
  rw[zfb]at h
  split at h
  ·rename_i h1;exact absurd h h1
  ·rename_i h1
   have h2:=zuk f d n (Decidable.not_not.1 h1)
   have h3:=zqu fs d _ h
   rw[ze9,zac.depths]
   exact⟨⟨h2.1,h3.1⟩,.inr (by have:=h2.2;rcases h3.2 with h|h<;>omega)⟩
end
theorem zfJ {op:Bool}{f:zac}(h:(zaz op f).code=0):shp op f:=(zuk f 1 0 h).1
theorem zjm {op:Bool}{k:Int}{nm nm':Str}{w w':List Str}{s s':List zac}(h:zyD op (.mk k nm w s))(hl:w'.length=w.length)(hs:s'.length=s.length)(hn:¬isQ k→nm'=nm)(_hq:isQ k→True):zyD op (.mk k nm' w' s'):=by
 obtain⟨h1,h2,h3,h4⟩:=h
 refine⟨?_,?_,fun h5 h6=>?_,fun h5=>?_⟩
 ·simp only[zaM]at h1 ⊢
  rw[hs,h1];rfl
 ·have:zdq (.mk k nm' w' s')=zdq (.mk k nm w s):=by
   show(if k=2 then decide (w'.length≤3)else if k=3 then decide (w'.length=2)else decide (w'.length=0))=_
   rw[hl];rfl
  rw[this];exact h2
 ·simp only[zai,zbV]at h6 h3 ⊢
  rw[hn h6];exact h3 h5 h6
 ·have h6:=h4 h5
  simp only[zbV]at h6 ⊢
  have:¬isQ k:=by
   intro hq
   have:named (.mk k nm' w' s')=true:=by
    unfold named
    refine decide_eq_true ?_
    simp only[zai]
    rcases hq with e|e<;>omega
   rw[h5]at this;cases this
  rw[hn this];exact h6
mutual
theorem zpX {op:Bool}(g:Nat→Str×Nat):∀(f:zac) (env:List za4) (n:Nat),shp op f→shp op (ren g f env n).1
 | .mk k nm ws s,env,n,h=>by
  rw[shp]at h
  rw[ren]
  split
  ·rename_i hq
   rw[shp]
   exact⟨zjm h.1 (List.length_map _) (zd6 g _ s _) (fun h=>absurd hq h) fun _=>trivial,zl2 g s _ _ h.2⟩
  ·rw[shp]
   exact⟨zjm h.1 (List.length_map _) (zd6 g _ s _) (fun _=>rfl) fun _=>trivial,zl2 g s _ _ h.2⟩
theorem zl2 {op:Bool}(g:Nat→Str×Nat):∀(fs:List zac) (env:List za4) (n:Nat),ze9 op fs→ze9 op (zbj g fs env n).1
 |[],env,n,_=>by rw[zbj,ze9];trivial
 |f::fs,env,n,h=>by
  rw[ze9]at h
  rw[zbj,ze9]
  exact⟨zpX g f _ _ h.1,zl2 g fs _ _ h.2⟩
end
theorem zeM {n:Nat}(h:n<10):zbv n=[UInt8.ofNat (48+n)]:=by unfold zbv;rw[Lib.decDigits,dif_pos h]
theorem znb:∀(k u:Nat),u<10^(k+1)→(zbv u).length≤k+1∧∀c∈zbv u,48≤c.toNat∧c.toNat≤57:=by
 intro k
 induction k with
 |zero=>
  intro u h
  rw[zeM (by omega)]
  refine⟨by simp,fun c hc=>?_⟩
  rw[List.mem_singleton.1 hc,UInt8.toNat_ofNat',Nat.mod_eq_of_lt (by omega)];omega
 |succ k ih=>
  intro u h
  rcases Nat.lt_or_ge u 10 with h1|h1
  ·rw[zeM h1]
   refine⟨by simp,fun c hc=>?_⟩
   rw[List.mem_singleton.1 hc,UInt8.toNat_ofNat',Nat.mod_eq_of_lt (by omega)];omega
  ·have h2:=ih (u / 10) (by rw[Nat.pow_succ]at h;omega)
   have e:zbv u=zbv (u / 10)++[UInt8.ofNat (48+u % 10)]:=by
    unfold zbv
    rw[Lib.decDigits,dif_neg (by omega)]
   rw[e,List.length_append,List.length_singleton]
   refine⟨by omega,fun c hc=>?_⟩
   rcases List.mem_append.1 hc with hc|hc
   ·exact h2.2 c hc
   ·rw[List.mem_singleton.1 hc,UInt8.toNat_ofNat',Nat.mod_eq_of_lt (by omega)];omega
theorem zoD {j:Nat}(h:j<10^20):zas (zfU j)=true:=by
 have h1:=znb 19 j h
 refine zjh ?_ ?_ ?_ fun i hi=>?_
 ·simp[zfU]
 ·simp only[zfU,List.length_cons];omega
 ·simp[zfU,znM]
 ·simp only[zfU,List.length_cons]at hi ⊢
  cases i with
  |zero=>show okc (118:UInt8);decide
  |succ i=>
   rw[List.getD_cons_succ]
   have hm:(zbv j).getD i 0∈zbv j:=by
    rw[List.getD_eq_getElem?_getD,List.getElem?_eq_getElem (by omega)]
    exact List.getElem_mem _
   have:=h1.2 _ hm
   exact .inr (.inl ⟨by omega,by omega⟩)
mutual
theorem zod {used:List Str}{B:Nat}{p:Str→Prop}(hv:∀j,j<B→p (zfU j)):∀(f:zac) (env:List za4) (bd:List Str) (n:Nat),n+(used.length+1)*f.size≤B→(∀w∈bd,p (lkp env w))→(∀w,w∉bd→lkp env w=w)→(∀x∈cst f bd,p x)→zbU p (ren (vg used) f env n).1
 | .mk k nm ws s,env,bd,n,hn,h1,h2,hc=>by
  rw[zac.size,Nat.mul_add,Nat.mul_one]at hn
  rw[cst]at hc
  have hw:∀w∈ws.map (lkp env),p w:=fun w hw=>by
   obtain⟨x,hx,rfl⟩:=List.mem_map.1 hw
   by_cases hb:x∈bd
   ·exact h1 x hb
   ·rw[h2 x hb]
    exact hc x (List.mem_append_left _ (List.mem_filter.2 ⟨hx,by simpa using hb⟩))
  have hg:=zbn used n
  rw[ren]
  by_cases hq:isQ k
  ·rw[if_pos hq]at hc
   have hvn:p (zfU (zcS used n)):=hv _ (by omega)
   rw[if_pos hq,zbU]
   refine⟨hw,fun _=>hvn,zhy hv s _ (bd++[nm]) _ ?_ (fun w hw2=>?_) (fun w hw2=>?_) fun x hx=>hc x (List.mem_append_right _ hx)⟩
   ·show zcS used n+1+_≤B
    omega
   ·rw[zcf]
    by_cases e:nm=w
    ·rw[if_pos e];exact hvn
    ·rw[if_neg e]
     rcases List.mem_append.1 hw2 with h|h
     ·exact h1 w h
     ·exact absurd (List.mem_singleton.1 h).symm e
   ·rw[zcf,if_neg (fun e=>hw2 (List.mem_append_right _ (List.mem_singleton.2 e.symm)))]
    exact h2 w fun h=>hw2 (List.mem_append_left _ h)
  ·rw[if_neg hq]at hc
   rw[if_neg hq,zbU]
   exact⟨hw,fun h=>absurd h hq,zhy hv s _ bd _ (by omega) h1 h2 fun x hx=>hc x (List.mem_append_right _ hx)⟩
theorem zhy {used:List Str}{B:Nat}{p:Str→Prop}(hv:∀j,j<B→p (zfU j)):∀(fs:List zac) (env:List za4) (bd:List Str) (n:Nat),n+(used.length+1)*zac.sizes fs≤B→(∀w∈bd,p (lkp env w))→(∀w,w∉bd→lkp env w=w)→(∀x∈zbN fs bd,p x)→zaR p (zbj (vg used) fs env n).1
 |[],env,bd,n,_,_,_,_=>by rw[zbj,zaR];trivial
 |f::fs,env,bd,n,hn,h1,h2,hc=>by
  rw[zac.sizes,Nat.mul_add]at hn
  rw[zbN]at hc
  rw[zbj,zaR]
  have:=((zoc (ztr used)).1 f env n).2
  exact⟨zod hv f env bd n (by omega) h1 h2 fun x hx=>hc x (List.mem_append_left _ hx),zhy hv fs env bd _ (by omega) h1 h2 fun x hx=>hc x (List.mem_append_right _ hx)⟩
end
mutual
theorem zdJ:∀(f:zac) (bd:List Str),f.fit=true→(cst f bd).length≤1000*f.size
 | .mk k nm ws s,bd,h=>by
  rw[zac.fit]at h
  simp only[Bool.and_eq_true,decide_eq_true_eq]at h
  rw[cst,List.length_append,zac.size]
  have h1:=List.length_filter_le (fun w=>decide (w∉bd)) ws
  have h2:=zqG s (if isQ k then bd++[nm]else bd) h.2
  omega
theorem zqG:∀(fs:List zac) (bd:List Str),zac.fits fs=true→(zbN fs bd).length≤1000*zac.sizes fs
 |[],bd,_=>by rw[zbN];simp
 |f::fs,bd,h=>by
  rw[zac.fits,Bool.and_eq_true]at h
  rw[zbN,List.length_append,zac.sizes]
  have h1:=zdJ f bd h.1
  have h2:=zqG fs bd h.2
  omega
end
theorem zo6 {f:zac}(hf:f.fit=true)(hs:f.size≤200)(hc:∀x∈cst f [],zas x=true):zbU (fun w=>zas w=true) (zaC f []):=by
 have h1:=zdJ f [] hf
 have h2:=zeF f
 refine zod (B:=10^20) (fun j hj=>zoD hj) f [] [] 0 ?_ (by simp) (fun w _=>zdn w) hc
 show 0+((zaP f).length+1)*f.size≤10^20
 have h3:((zaP f).length+1)*f.size≤200001*200:=Nat.mul_le_mul (by omega) hs
 omega
theorem zxx {op:Bool}{f:zac}(hs:shp op f)(hf:f.fit=true)(hl:zlo f=true)(hc:∀x∈cst f [],zas x=true):zaz op (zaC f [])=⟨0,0⟩:=by
 have h1:=of_decide_eq_true (show decide (f.size≤200∧f.depth≤40)=true from hl)
 exact zuf (zpX _ f [] 0 hs) (zo6 hf h1.1 hc) (by rw[zo5];exact hl)
mutual
def zlM:zac→Bool
 | .mk k nm ws s=>okE (.mk k nm ws s)||zik s
def zik:List zac→Bool
 |[]=>false
 |f::fs=>zlM f||zik fs
end
theorem zkx:∀(l:List zac) (f:zac),(∀g∈l,g.kind≠5)→zgN (l.foldl (fun a x=>zac.mk 5 ⟨[]⟩ [] [a,x]) f)=zgN f++l
 |[],f,_=>by simp
 |x::l,f,h=>by
  rw[List.foldl_cons,zkx l _ fun g hg=>h g (List.mem_cons_of_mem _ hg),zvk (a:=f) (b:=x) rfl rfl]
  simp
theorem ziM {by':zac→zac}(hb:∀f,f.kind≠9→by' f=f):∀(l:List zac) (f:zac),(∀g∈l,zaD by' g=g)→zaD by' f=f→zaD by' (l.foldl (fun a x=>zac.mk 5 ⟨[]⟩ [] [a,x]) f)=l.foldl (fun a x=>zac.mk 5 ⟨[]⟩ [] [a,x]) f
 |[],f,_,h=>h
 |x::l,f,h,hf=>by
  rw[List.foldl_cons]
  refine ziM hb l _ (fun g hg=>h g (List.mem_cons_of_mem _ hg)) ?_
  rw[zaD,zau,zau,zau,hf,h x (by simp),hb (.mk 5 ⟨[]⟩ [] [f,x]) (show(5:Int)≠9 by decide)]
theorem zgR {f:zac}(h:f.kind≠9):zbO f=f:=by
 unfold zbO
 rw[if_neg]
 intro hm
 exact h (zlS (zfO hm)).1
theorem zs4 {α:Type}(l:List α)(d:α):(List.range l.length).map (fun i=>l.getD i d)=l:=by
 refine List.ext_getElem (by simp) fun i h1 h2=>?_
 simp only[List.getElem_map,List.getElem_range]
 rw[List.getD_eq_getElem?_getD,List.getElem?_eq_getElem h2];rfl
theorem zpJ {v nm:Str}{ws:List Str}(h1:0<ws.length)(h3:ws.length≤3)(hv:∀w∈ws,w≠v):zaD zbO (zdt v nm ws)= .mk 2 nm ws []:=by
 obtain⟨l,hl⟩:∃l,((List.range ws.length).map fun i=>zac.mk 2 (zt0 i) [v,ws.getD i ⟨[]⟩] [])=l:=⟨_,rfl⟩
 have hll:l.length=ws.length:=by rw[←hl];simp
 have hat:∀i,i<ws.length→l.getD i zqH= .mk 2 (zt0 i) [v,ws.getD i ⟨[]⟩] []:=fun i hi=>by
  rw[←hl,List.getD_eq_getElem?_getD,List.getElem?_map,List.getElem?_range hi];rfl
 have hmem:∀g∈l,g.kind=2∧g.subs=[]:=fun g hg=>by
  rw[←hl]at hg
  obtain⟨i,_,rfl⟩:=List.mem_map.1 hg
  exact⟨rfl,rfl⟩
 have hid:∀g:zac,g.kind=2→g.subs=[]→zaD zbO g=g:=fun g hk hs=>by
  rw[zr3,hs,List.map_nil,zgR (by simp only[zai];omega)]
  cases g;simp only[zaM]at hs;subst hs;rfl
 unfold zdt
 rw[hl]
 have hj:zaD zbO (zeP 5 (.mk 2 nm [v] []::l))=zeP 5 (.mk 2 nm [v] []::l):=
  ziM (fun f h=>zgR h) l _ (fun g hg=>hid g (hmem g hg).1 (hmem g hg).2) (hid _ rfl rfl)
 rw[zaD,zau,zau,hj]
 have hp:zcJ (.mk 9 v [] [zeP 5 (.mk 2 nm [v] []::l)])= .mk 2 nm [v] []::l:=by
  unfold zcJ
  show zgN (zeP 5 (.mk 2 nm [v] []::l))=_
  have:=zkx l (.mk 2 nm [v] []) fun g hg=>by rw[(hmem g hg).1];decide
  rw[zvl (f:= .mk 2 nm [v] []) (fun h=>absurd h.1 (show¬(2:Int)=5 by decide))]at this
  exact this
 have hh:zia (.mk 9 v [] [zeP 5 (.mk 2 nm [v] []::l)])= .mk 2 nm [v] []:=by unfold zia;rw[hp];rfl
 have hok:okE (.mk 9 v [] [zeP 5 (.mk 2 nm [v] []::l)])=true:=by
  unfold okE;rw[hh];simp[zai,zce,zbV]
 have hgd:∀n,n≤ws.length→zgK (.mk 9 v [] [zeP 5 (.mk 2 nm [v] []::l)]) n=true:=by
  intro n
  induction n with
  |zero=>intro _;rw[zgK]
  |succ n ih=>
   intro hn
   rw[zgK,ih (by omega),hp,List.getD_cons_succ,hat n (by omega)]
   have:=hv _ (zlv (ws:=ws) (i:=n) (by omega))
   simp only[zpy,zai,zce,zbV,List.getD_cons_zero,List.getD_cons_succ,List.length_cons,List.length_nil,decide_eq_false this]
   simp
 have hwn:zkO (.mk 9 v [] [zeP 5 (.mk 2 nm [v] []::l)]) ws.length=ws:=by
  unfold zkO
  rw[hp]
  conv=>rhs;rw[←zs4 ws ⟨[]⟩]
  refine List.map_congr_left fun j hj=>?_
  rw[List.getD_cons_succ,hat j (List.mem_range.1 hj)]
  rfl
 unfold zbO
 have hm:zdo (.mk 9 v [] [zeP 5 (.mk 2 nm [v] []::l)])=true:=by
  unfold zdo
  rw[hok,hp,List.length_cons,hll]
  simp only[Nat.add_sub_cancel,hgd ws.length (Nat.le_refl _)]
  simp only[Bool.true_and,Bool.and_true,Bool.and_eq_true,decide_eq_true_eq]
  omega
 rw[if_pos hm,hh,hp,List.length_cons,hll,Nat.add_sub_cancel,hwn]
 rfl
mutual
theorem zjE {v:Str}{ps:List Str}:∀f:zac,shp false f→zbU (fun w=>w≠v) f→zlM f=false→zaD zbO (zaD (zbd v ps) f)=f
 | .mk k nm ws s,hs,ha,hm=>by
  rw[shp]at hs
  rw[zbU]at ha
  rw[zlM,Bool.or_eq_false_iff]at hm
  rw[zaD,zda]
  split
  ·rename_i hc
   obtain⟨rfl,h0,_⟩:=hc
   have h3:ws.length≤3:=by
    have:=hs.1.2.1
    rw[show zdq (.mk 2 nm ws s)=decide (ws.length≤3)from rfl]at this
    exact of_decide_eq_true this
   have h4:s=[]:=by
    have:=hs.1.1
    rw[show zcj false (.mk 2 nm ws s)=0 from rfl]at this
    simp only[zaM]at this
    exact List.eq_nil_of_length_eq_zero (by omega)
   subst h4
   exact zpJ h0 h3 ha.1
  ·rw[zaD,zh1 s hs.2 ha.2.2 hm.2]
   unfold zbO
   rw[if_neg]
   intro h
   rw[zfO h]at hm
   exact absurd hm.1 (by decide)
theorem zh1 {v:Str}{ps:List Str}:∀fs:List zac,ze9 false fs→zaR (fun w=>w≠v) fs→zik fs=false→zau zbO (zau (zbd v ps) fs)=fs
 |[],_,_,_=>by rw[zau,zau]
 |f::fs,hs,ha,hm=>by
  rw[ze9]at hs
  rw[zaR]at ha
  rw[zik,Bool.or_eq_false_iff]at hm
  rw[zau,zau,zjE f hs.1 ha.1 hm.1,zh1 fs hs.2 ha.2 hm.2]
end
theorem zq0 {op:Bool}:∀(l:List zac) (f:zac),ze9 op l→shp op f→shp op (l.foldl (fun a x=>zac.mk 5 ⟨[]⟩ [] [a,x]) f)
 |[],f,_,h=>h
 |x::l,f,hl,h=>by
  rw[ze9]at hl
  rw[List.foldl_cons]
  refine zq0 l _ hl.2 ?_
  rw[shp,ze9,ze9,ze9]
  refine⟨⟨rfl,rfl,fun h2=>absurd (show false=true from h2) (by decide),fun _=>rfl⟩,h,hl.1,trivial⟩
theorem zl9 {op:Bool}:∀l:List zac,ze9 op l↔∀f∈l,shp op f
 |[]=>by rw[ze9];simp
 |f::l=>by rw[ze9,zl9 l];simp
theorem zt1 {i:Nat}(h:i<3):zas (zt0 i)=true:=by
 have:i=0∨i=1∨i=2:=by omega
 unfold zt0
 rw[zeM (by omega)]
 rcases this with rfl|rfl|rfl<;>decide
theorem zth {v nm:Str}{ws:List Str}(hn:zas nm=true)(h3:ws.length≤3):shp false (zdt v nm ws):=by
 unfold zdt
 rw[shp,ze9,ze9]
 refine⟨⟨rfl,rfl,fun _ h=>absurd (.inr rfl) h,fun h=>?_⟩,zq0 _ _ ((zl9 _).2 fun g hg=>?_) ?_,trivial⟩
 ·exact absurd h (by simp[named,zai])
 ·obtain⟨i,hi,rfl⟩:=List.mem_map.1 hg
  have hi:=List.mem_range.1 hi
  rw[shp,ze9]
  refine⟨⟨rfl,rfl,fun _ _=>zt1 (by omega),fun h=>?_⟩,trivial⟩
  exact absurd h (by simp[named,zai])
 ·rw[shp,ze9]
  refine⟨⟨rfl,rfl,fun _ _=>hn,fun h=>?_⟩,trivial⟩
  exact absurd h (by simp[named,zai])
mutual
theorem zoq {v:Str}{ps:List Str}:∀f:zac,shp false f→shp false (zaD (zbd v ps) f)
 | .mk k nm ws s,h=>by
  rw[shp]at h
  rw[zaD,zda]
  split
  ·rename_i hc
   obtain⟨rfl,h0,_⟩:=hc
   have h3:ws.length≤3:=by
    have:=h.1.2.1
    rw[show zdq (.mk 2 nm ws s)=decide (ws.length≤3)from rfl]at this
    exact of_decide_eq_true this
   exact zth (h.1.2.2.1 rfl (by simp[isQ,zai])) h3
  ·rw[shp]
   exact⟨zjm h.1 rfl (by rw[zbB,List.length_map]) (fun _=>rfl) fun _=>trivial,zkL s h.2⟩
theorem zkL {v:Str}{ps:List Str}:∀fs:List zac,ze9 false fs→ze9 false (zau (zbd v ps) fs)
 |[],_=>by rw[zau,ze9];trivial
 |f::fs,h=>by
  rw[ze9]at h
  rw[zau,ze9]
  exact⟨zoq f h.1,zkL fs h.2⟩
end
mutual
theorem zjF (ps:List Str):∀f:zac,zbU (fun w=>zas w=true) f→zbU (fun w=>zas w=true∨w=qM) (zaD (zbd qM ps) f)
 | .mk k nm ws s,h=>by
  rw[zbU]at h
  rw[zaD,zda]
  split
  ·unfold zdt
   rw[zbU,zaR,zaR]
   refine⟨by simp,fun _=> .inr rfl,zkv _ 5 (by decide) ((zgp _ _).2 fun g hg=>?_),trivial⟩
   rcases List.mem_cons.1 hg with rfl|hg
   ·rw[zbU,zaR]
    exact⟨fun w hw=> .inr (List.mem_singleton.1 hw),fun e=>absurd e (by decide),trivial⟩
   ·obtain⟨i,hi,rfl⟩:=List.mem_map.1 hg
    rw[zbU,zaR]
    refine⟨fun w hw=>?_,fun e=>absurd e (by decide),trivial⟩
    simp only[List.mem_cons,List.not_mem_nil,or_false]at hw
    rcases hw with rfl|rfl
    ·exact .inr rfl
    ·exact .inl (h.1 _ (zlv (List.mem_range.1 hi)))
  ·rw[zbU]
   exact⟨fun w hw=> .inl (h.1 w hw),fun hq=> .inl (h.2.1 hq),zh2 ps s h.2.2⟩
theorem zh2 (ps:List Str):∀fs:List zac,zaR (fun w=>zas w=true) fs→zaR (fun w=>zas w=true∨w=qM) (zau (zbd qM ps) fs)
 |[],_=>by rw[zau,zaR];trivial
 |f::fs,h=>by
  rw[zaR]at h
  rw[zau,zaR]
  exact⟨zjF ps f h.1,zh2 ps fs h.2⟩
end
theorem zLH {f:zac}{ps:List Str}(h:(zaz false f).code=0)(hf:zlo (zaD (zbd qM ps) f)=true)(hm:zlM f=false):
  zaz false (zaC (zaD (zbd qM ps) f) [])=⟨0,0⟩∧zlo (zaD zbO (zaC (zaD (zbd qM ps) f) []))=true∧zaC (zaD zbO (zaC (zaD (zbd qM ps) f) [])) []=zaC f []:=by
 have hn:=zeJ h
 have hs:=zfJ h
 refine⟨zxx (zoq f hs) (ziL (fun f h=>zp0 h) f (zbW h)) hf fun x hx=>?_,?_,?_⟩
 ·rcases zih _ _ x (zjF ps f hn) hx with h1|h1
  ·exact h1
  ·exact absurd h1 (zkJ ps f [] x hn hx)
 ·have h1:=of_decide_eq_true (show decide ((zaD (zbd qM ps) f).size≤200∧(zaD (zbd qM ps) f).depth≤40)=true from hf)
  have h2:=zhO (c:=0) (fun f=>znU f) (zaC (zaD (zbd qM ps) f) [])
  have h3:=zgu (fun f=>zlL f) (zaC (zaD (zbd qM ps) f) [])
  rw[zcA]at h2
  rw[zhN]at h3
  unfold zlo
  exact decide_eq_true ⟨by omega,by omega⟩
 ·have h1:=ziK (fun E f f' h=>zpI h) _ _ [] (zub (zaD (zbd qM ps) f))
  rw[zjE f hs (zmG (fun w hw e=>by rw[e]at hw;exact absurd hw (by decide)) f hn) hm]at h1
  exact(ztS h1).symm
end Go.Abs

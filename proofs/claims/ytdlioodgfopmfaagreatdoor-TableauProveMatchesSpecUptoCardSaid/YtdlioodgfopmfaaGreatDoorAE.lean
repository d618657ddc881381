import Derived.Test.YtdlioodgfopmfaaGreatDoorEV
set_option linter.unusedSimpArgs false
namespace Go.Abs
open Go
abbrev PE:=List (Str×Str)
def znz:PE→Str→Str→Prop
 |[],w,w'=>w=w'
 |(a,b)::E,w,w'=>(w=a∧w'=b)∨(w≠a∧w'≠b∧znz E w w')
def zcK (E:PE):List Str→List Str→Prop
 |[],[]=>True
 |w::ws,w'::ws'=>znz E w w'∧zcK E ws ws'
 |[],_::_=>False
 |_::_,[]=>False
mutual
def Aeq:PE→zac→zac→Prop
 |E,.mk k nm ws s,.mk k' nm' ws' s'=>k=k'∧(¬isQ k→nm=nm')∧zcK E ws ws'∧zcA (if isQ k then(nm,nm')::E else E) s s'
def zcA:PE→List zac→List zac→Prop
 |_,[],[]=>True
 |E,f::fs,g::gs=>Aeq E f g∧zcA E fs gs
 |_,[],_::_=>False
 |_,_::_,[]=>False
end
theorem zgD {E:PE}:∀{a b:List Str},zcK E a b→a.length=b.length
 |[],[],_=>rfl
 |_::a,_::b,h=>by rw[zcK]at h;rw[List.length_cons,List.length_cons,zgD h.2]
 |[],_::_,h=>by rw[zcK]at h;exact h.elim
 |_::_,[],h=>by rw[zcK]at h;exact h.elim
theorem zgC {E:PE}:∀{a b:List Str} {i:Nat},zcK E a b→i<a.length→znz E (a.getD i ⟨[]⟩) (b.getD i ⟨[]⟩)
 |[],[],i,_,hi=>by simp at hi
 |w::a,w'::b,0,h,_=>by rw[zcK]at h;exact h.1
 |w::a,w'::b,i+1,h,hi=>by rw[zcK]at h;exact zgC (i:=i) h.2 (by simpa using hi)
 |[],_::_,_,h,_=>by rw[zcK]at h;exact h.elim
 |_::_,[],_,h,_=>by rw[zcK]at h;exact h.elim
theorem zkh {E:PE}:∀{a b:List zac},zcA E a b→a.length=b.length
 |[],[],_=>rfl
 |_::a,_::b,h=>by rw[zcA]at h;rw[List.length_cons,List.length_cons,zkh h.2]
 |[],_::_,h=>by rw[zcA]at h;exact h.elim
 |_::_,[],h=>by rw[zcA]at h;exact h.elim
theorem zoJ {E:PE}:∀{a b c d:List zac},zcA E a b→zcA E c d→zcA E (a++c) (b++d)
 |[],[],_,_,_,h=>h
 |_::a,_::b,_,_,h,h2=>by rw[zcA]at h;rw[List.cons_append,List.cons_append,zcA];exact⟨h.1,zoJ h.2 h2⟩
 |[],_::_,_,_,h,_=>by rw[zcA]at h;exact h.elim
 |_::_,[],_,_,h,_=>by rw[zcA]at h;exact h.elim
theorem zxT {E:PE}:Aeq E zo7 zo7:=by
 unfold zo7
 rw[Aeq,if_neg (by decide)]
 exact⟨rfl,fun _=>rfl,by rw[zcK];trivial,by rw[zcA];trivial⟩
theorem zd4 {E:PE}:∀{a b:List zac} (i:Nat),zcA E a b→Aeq E (a.getD i zo7) (b.getD i zo7)
 |[],[],i,_=>by simp only[List.getD_nil];exact zxT
 |_::a,_::b,0,h=>by rw[zcA]at h;exact h.1
 |_::a,_::b,i+1,h=>by rw[zcA]at h;exact zd4 i h.2
 |[],_::_,_,h=>by rw[zcA]at h;exact h.elim
 |_::_,[],_,h=>by rw[zcA]at h;exact h.elim
theorem zjr {E:PE}{f f':zac}:Aeq E f f'↔f.kind=f'.kind∧(¬isQ f.kind→f.name=f'.name)∧zcK E f.words f'.words∧zcA (if isQ f.kind then(f.name,f'.name)::E else E) f.subs f'.subs:=by
 cases f;cases f';rw[Aeq];rfl
theorem znA {E:PE}{s s':Str→Str}(h:∀w w',znz E w w'→s w=s' w'):∀{a b:List Str},zcK E a b→a.map s=b.map s'
 |[],[],_=>rfl
 |w::a,w'::b,hw=>by rw[zcK]at hw;rw[List.map_cons,List.map_cons,h _ _ hw.1,znA h hw.2]
 |[],_::_,h=>by rw[zcK]at h;exact h.elim
 |_::_,[],h=>by rw[zcK]at h;exact h.elim
mutual
theorem zr1 {g:Nat→Str×Nat}:∀(f f':zac) (E:PE) (env env':List zaR) (n:Nat),Aeq E f f'→(∀w w',znz E w w'→lkp env w=lkp env' w')→ren g f env n=ren g f' env' n
 | .mk k nm ws s,.mk k' nm' ws' s',E,env,env',n,h,he=>by
  rw[Aeq]at h
  obtain⟨rfl,h2,h3,h4⟩:=h
  rw[ren,ren,znA he h3]
  by_cases hq:isQ k
  ·rw[if_pos hq]at h4
   simp only[if_pos hq]
   rw[zko (g:=g) s s' ((nm,nm')::E) (env++[(⟨nm,(g n).1⟩:zaR)]) (env'++[(⟨nm',(g n).1⟩:zaR)]) (g n).2 h4 fun w w' hw=>?_]
   rw[zcc,zcc]
   rw[znz]at hw
   rcases hw with⟨rfl,rfl⟩|⟨h5,h6,h7⟩
   ·rw[if_pos rfl,if_pos rfl]
   ·rw[if_neg (fun e=>h5 e.symm),if_neg (fun e=>h6 e.symm)]
    exact he w w' h7
  ·rw[if_neg hq]at h4
   simp only[if_neg hq]
   rw[zko (g:=g) s s' E env env' n h4 he,h2 hq]
theorem zko {g:Nat→Str×Nat}:∀(f f':List zac) (E:PE) (env env':List zaR) (n:Nat),zcA E f f'→(∀w w',znz E w w'→lkp env w=lkp env' w')→za5 g f env n=za5 g f' env' n
 |[],[],E,env,env',n,_,_=>by rw[za5,za5]
 |f::fs,f'::fs',E,env,env',n,h,he=>by
  rw[zcA]at h
  rw[za5,za5,zr1 f f' E env env' n h.1 he]
  rw[zko fs fs' E env env' _ h.2 he]
 |[],_::_,_,_,_,_,h,_=>by rw[zcA]at h;exact h.elim
 |_::_,[],_,_,_,_,h,_=>by rw[zcA]at h;exact h.elim
end
theorem zhC {E:PE}{bd bd':List Str}(hb:∀w w',znz E w w'→(w∈bd↔w'∈bd')∧(w∉bd→w=w')):∀{a b:List Str},zcK E a b→a.filter (fun w=>decide (w∉bd))=b.filter (fun w=>decide (w∉bd'))
 |[],[],_=>rfl
 |w::a,w'::b,hw=>by
  rw[zcK]at hw
  rw[List.filter_cons,List.filter_cons,zhC hb hw.2]
  obtain⟨h1,h2⟩:=hb w w' hw.1
  by_cases h:w∈bd
  ·rw[if_neg (by simpa using h),if_neg (by simpa using h1.1 h)]
  ·have e:=h2 h
   rw[if_pos (by simpa using h),if_pos (by simpa using fun h3=>h (h1.2 h3)),e]
 |[],_::_,h=>by rw[zcK]at h;exact h.elim
 |_::_,[],h=>by rw[zcK]at h;exact h.elim
mutual
theorem zr0:∀(f f':zac) (E:PE) (bd bd':List Str),Aeq E f f'→(∀w w',znz E w w'→(w∈bd↔w'∈bd')∧(w∉bd→w=w'))→cst f bd=cst f' bd'
 | .mk k nm ws s,.mk k' nm' ws' s',E,bd,bd',h,he=>by
  rw[Aeq]at h
  obtain⟨rfl,h2,h3,h4⟩:=h
  rw[cst,cst,zhC he h3]
  by_cases hq:isQ k
  ·rw[if_pos hq]at h4
   rw[if_pos hq,if_pos hq]
   rw[zkn s s' ((nm,nm')::E) (bd++[nm]) (bd'++[nm']) h4 fun w w' hw=>?_]
   rw[znz]at hw
   simp only[List.mem_append,List.mem_singleton]
   rcases hw with⟨rfl,rfl⟩|⟨h5,h6,h7⟩
   ·exact⟨⟨fun _=> .inr rfl,fun _=> .inr rfl⟩,fun h=>absurd (.inr rfl) h⟩
   ·obtain⟨h8,h9⟩:=he w w' h7
    refine⟨⟨fun h=>?_,fun h=>?_⟩,fun h=>h9 fun h0=>h (.inl h0)⟩
    ·rcases h with h|h
     ·exact .inl (h8.1 h)
     ·exact absurd h h5
    ·rcases h with h|h
     ·exact .inl (h8.2 h)
     ·exact absurd h h6
  ·rw[if_neg hq]at h4
   rw[if_neg hq,if_neg hq,zkn s s' E bd bd' h4 he]
theorem zkn:∀(f f':List zac) (E:PE) (bd bd':List Str),zcA E f f'→(∀w w',znz E w w'→(w∈bd↔w'∈bd')∧(w∉bd→w=w'))→zbU f bd=zbU f' bd'
 |[],[],E,bd,bd',_,_=>by rw[zbU,zbU]
 |f::fs,f'::fs',E,bd,bd',h,he=>by
  rw[zcA]at h
  rw[zbU,zbU,zr0 f f' E bd bd' h.1 he,zkn fs fs' E bd bd' h.2 he]
 |[],_::_,_,_,_,h,_=>by rw[zcA]at h;exact h.elim
 |_::_,[],_,_,_,h,_=>by rw[zcA]at h;exact h.elim
end
theorem zrZ {f f':zac}(h:Aeq [] f f'):zau f []=zau f' []:=by
 have h1:cst f []=cst f' []:=zr0 f f' [] [] [] h fun w w' hw=>⟨by simp,fun _=>hw⟩
 unfold zau zba
 rw[h1,zr1 f f' [] [] [] 0 h fun w w' hw=>by rw[zeA,zeA];exact hw]
mutual
theorem ztL {used:List Str}:∀(f:zac) (E:PE) (env:List zaR) (bd:List Str) (n:Nat),(∀w,w∈bd∨w∈used→znz E w (lkp env w)∧(lkp env w∈used∨∃j,j<n∧lkp env w=zdR j))→(∀x∈cst f bd,x∈used)→Aeq E f (ren (vg used) f env n).1
 | .mk k nm ws s,E,env,bd,n,he,hc=>by
  rw[cst]at hc
  have hw:zcK E ws (ws.map (lkp env)):=by
   have:∀l:List Str,(∀w∈l,w∈ws)→zcK E l (l.map (lkp env)):=by
    intro l
    induction l with
    |nil=>intro _;rw[List.map_nil,zcK];trivial
    |cons w l ih=>
     intro hl
     rw[List.map_cons,zcK]
     refine⟨(he w ?_).1,ih fun x hx=>hl x (List.mem_cons_of_mem _ hx)⟩
     by_cases hb:w∈bd
     ·exact .inl hb
     ·exact .inr (hc w (List.mem_append_left _ (List.mem_filter.2 ⟨hl w (by simp),by simpa using hb⟩)))
   exact this ws fun _ h=>h
  rw[ren]
  by_cases hq:isQ k
  ·rw[if_pos hq]at hc
   rw[if_pos hq,Aeq,if_pos hq]
   obtain⟨a1,_,a3,_⟩:=za4 used n
   refine⟨rfl,fun h=>absurd hq h,hw,zlb s _ _ (bd++[nm]) _ (fun w hw2=>?_) fun x hx=>hc x (List.mem_append_right _ hx)⟩
   rw[zcc,znz]
   by_cases e:nm=w
   ·rw[if_pos e]
    exact⟨.inl ⟨e.symm,rfl⟩,.inr ⟨zbR used n,Nat.lt_succ_self _,rfl⟩⟩
   ·rw[if_neg e]
    have hw3:w∈bd∨w∈used:=by
     rcases hw2 with h|h
     ·rcases List.mem_append.1 h with h|h
      ·exact .inl h
      ·exact absurd (List.mem_singleton.1 h).symm e
     ·exact .inr h
    obtain⟨h1,h2⟩:=he w hw3
    refine⟨.inr ⟨fun h=>e h.symm,fun h=>?_,h1⟩,?_⟩
    ·rw[h]at h2
     rcases h2 with h2|⟨j,hj,h2⟩
     ·exact a3 h2
     ·have:=zlx h2;omega
    ·rcases h2 with h2|⟨j,hj,h2⟩
     ·exact .inl h2
     ·refine .inr ⟨j,?_,h2⟩
      have:(vg used n).2=zbR used n+1:=rfl
      omega
  ·rw[if_neg hq]at hc
   rw[if_neg hq,Aeq,if_neg hq]
   exact⟨rfl,fun _=>rfl,hw,zlb s _ _ bd _ he fun x hx=>hc x (List.mem_append_right _ hx)⟩
theorem zlb {used:List Str}:∀(fs:List zac) (E:PE) (env:List zaR) (bd:List Str) (n:Nat),(∀w,w∈bd∨w∈used→znz E w (lkp env w)∧(lkp env w∈used∨∃j,j<n∧lkp env w=zdR j))→(∀x∈zbU fs bd,x∈used)→zcA E fs (za5 (vg used) fs env n).1
 |[],E,env,bd,n,_,_=>by rw[za5,zcA];trivial
 |f::fs,E,env,bd,n,he,hc=>by
  rw[zbU]at hc
  rw[za5,zcA]
  refine⟨ztL f E env bd n he fun x hx=>hc x (List.mem_append_left _ hx),zlb fs E env bd _ (fun w hw=>?_) fun x hx=>hc x (List.mem_append_right _ hx)⟩
  obtain⟨h1,h2⟩:=he w hw
  refine⟨h1,?_⟩
  rcases h2 with h2|⟨j,hj,h2⟩
  ·exact .inl h2
  ·have:=((zgu (zrx used)).1 f env n).1
   exact .inr ⟨j,by omega,h2⟩
end
theorem zsc (f:zac):Aeq [] f (zau f []):=by
 refine ztL f [] [] [] 0 (fun w hw=>?_) fun x hx=>(zbz f x).2 hx
 rw[zeA]
 rcases hw with h|h
 ·simp at h
 ·exact⟨rfl,.inl h⟩
mutual
theorem zmH:∀(f f':zac) (E:PE),Aeq E f f'→zcA E (zgk f) (zgk f')
 | .mk k nm ws s,.mk k' nm' ws' s',E,h=>by
  have h0:=h
  rw[Aeq]at h
  obtain⟨rfl,h2,h3,h4⟩:=h
  have hl:=zkh h4
  rw[zgk,zgk,←hl]
  by_cases hk:k=5∧s.length=2
  ·rw[if_pos hk,if_pos hk]
   rw[if_neg (by rw[hk.1];decide)]at h4
   exact zqS s s' E h4
  ·rw[if_neg hk,if_neg hk,zcA]
   exact⟨h0,by rw[zcA];trivial⟩
theorem zqS:∀(f f':List zac) (E:PE),zcA E f f'→zcA E (ziL f) (ziL f')
 |[],[],E,_=>by rw[ziL,zcA];trivial
 |f::fs,f'::fs',E,h=>by
  rw[zcA]at h
  rw[ziL,ziL]
  exact zoJ (zmH f f' E h.1) h.2
 |[],_::_,_,h=>by rw[zcA]at h;exact h.elim
 |_::_,[],_,h=>by rw[zcA]at h;exact h.elim
end
theorem zmZ {E:PE}{f f':zac}(h:Aeq E f f')(hk:f.kind=9):zcA ((f.name,f'.name)::E) (zcx f) (zcx f'):=by
 rw[zjr,if_pos (show isQ f.kind from .inr hk)]at h
 unfold zcx
 exact zmH _ _ _ (zd4 0 h.2.2.2)
theorem zgA {E:PE}{a b w w':Str}(h:znz ((a,b)::E) w w'):(w=a↔w'=b)∧(w≠a→znz E w w'):=by
 rw[znz]at h
 rcases h with⟨rfl,rfl⟩|⟨h1,h2,h3⟩
 ·exact⟨⟨fun _=>rfl,fun _=>rfl⟩,fun h=>absurd rfl h⟩
 ·exact⟨⟨fun h=>absurd h h1,fun h=>absurd h h2⟩,fun _=>h3⟩
theorem zy0 {E:PE}{f f':zac}(h:Aeq E f f'):okE f=okE f':=by
 have hk:=(zjr.1 h).1
 unfold okE
 rw[←hk]
 by_cases h9:f.kind=9
 ·have hp:=zmZ h h9
  have hh:Aeq ((f.name,f'.name)::E) (zhI f) (zhI f'):=zd4 0 hp
  rw[zjr]at hh
  obtain⟨e1,_,e2,_⟩:=hh
  rw[←e1,←zgD e2]
  by_cases hl:(zhI f).words.length=1
  ·have:=(zgA (zgC (i:=0) e2 (by omega))).1
   rw[show decide ((zhI f).words.getD 0 ⟨[]⟩=f.name)=decide ((zhI f').words.getD 0 ⟨[]⟩=f'.name)from decide_eq_decide.2 this]
  ·simp[hl]
 ·simp[h9]
theorem zsS {E:PE}{f f' x x':zac}(h:Aeq ((f.name,f'.name)::E) x x')(i:Nat):zoc f i x=zoc f' i x':=by
 rw[zjr]at h
 obtain⟨e1,e0,e2,_⟩:=h
 unfold zoc
 rw[←e1,←zgD e2]
 by_cases hk:x.kind=2
 ·rw[e0 (by rw[hk];decide)]
  by_cases hl:x.words.length=2
  ·have h0:=(zgA (zgC (i:=0) e2 (by omega))).1
   have h1:=(zgA (zgC (i:=1) e2 (by omega))).1
   rw[show decide (x.words.getD 0 ⟨[]⟩=f.name)=decide (x'.words.getD 0 ⟨[]⟩=f'.name)from decide_eq_decide.2 h0,
    show decide (x.words.getD 1 ⟨[]⟩=f.name)=decide (x'.words.getD 1 ⟨[]⟩=f'.name)from decide_eq_decide.2 h1]
  ·simp[hl]
 ·simp[hk]
theorem zmC {E:PE}{f f':zac}(h:zcA ((f.name,f'.name)::E) (zcx f) (zcx f')):∀n,zgf f n=zgf f' n
 |0=>by rw[zgf,zgf]
 |n+1=>by rw[zgf,zgf,zmC h n,zsS (zd4 (n+1) h) n]
theorem zrz {E:PE}{f f':zac}(h:zcA ((f.name,f'.name)::E) (zcx f) (zcx f')){n:Nat}(hg:zgf f n=true):zcK E (zke f n) (zke f' n):=by
 unfold zke
 have:∀l:List Nat,(∀j∈l,j<n)→zcK E (l.map fun j=>((zcx f).getD (j+1) zo7).words.getD 1 ⟨[]⟩) (l.map fun j=>((zcx f').getD (j+1) zo7).words.getD 1 ⟨[]⟩):=by
  intro l
  induction l with
  |nil=>intro _;rw[List.map_nil,List.map_nil,zcK];trivial
  |cons j l ih=>
   intro hl
   rw[List.map_cons,List.map_cons,zcK]
   refine⟨?_,ih fun x hx=>hl x (List.mem_cons_of_mem _ hx)⟩
   have hj:=zph hg (hl j (by simp))
   have hx:=zd4 (j+1) h
   unfold zoc at hj
   simp only[Bool.and_eq_true,decide_eq_true_eq,Bool.not_eq_true',decide_eq_false_iff_not]at hj
   have hw:=(zjr.1 hx).2.2.1
   exact(zgA (zgC (i:=1) hw (by omega))).2 hj.2
 exact this _ fun j hj=>List.mem_range.1 hj
theorem zom {E:PE}{f f':zac}(h:Aeq E f f'):Aeq E (zbN f) (zbN f'):=by
 have ho:=zy0 h
 by_cases ht:okE f=true
 ·have hk:=(zk4 ht).1
  have hp:=zmZ h hk
  have hl:=zkh hp
  have hm:zc8 f=zc8 f':=by
   unfold zc8
   rw[ho,hl,zmC hp]
  unfold zbN
  rw[←hm,←hl]
  by_cases hmt:zc8 f=true
  ·rw[if_pos hmt,if_pos hmt,Aeq,if_neg (by decide)]
   have hh:=zd4 0 hp
   have hh2:=zjr.1 hh
   refine⟨rfl,fun _=>hh2.2.1 ?_,zrz hp ?_,by rw[zcA];trivial⟩
   ·rw[show((zcx f).getD 0 zo7).kind=2 from(zk4 ht).2];decide
   ·unfold zc8 at hmt
    simp only[Bool.and_eq_true]at hmt
    exact hmt.2
  ·rw[if_neg hmt,if_neg hmt];exact h
 ·have h1:¬zc8 f=true:=fun hm=>ht (zfr hm)
  have h2:¬zc8 f'=true:=fun hm=>ht (by rw[ho];exact zfr hm)
  unfold zbN
  rw[if_neg h1,if_neg h2];exact h
mutual
theorem zil {by':zac→zac}(hb:∀E f f',Aeq E f f'→Aeq E (by' f) (by' f')):∀(f f':zac) (E:PE),Aeq E f f'→Aeq E (zaC by' f) (zaC by' f')
 | .mk k nm ws s,.mk k' nm' ws' s',E,h=>by
  rw[Aeq]at h
  rw[zaC,zaC]
  refine hb _ _ _ ?_
  rw[Aeq]
  exact⟨h.1,h.2.1,h.2.2.1,zhl hb s s' _ h.2.2.2⟩
theorem zhl {by':zac→zac}(hb:∀E f f',Aeq E f f'→Aeq E (by' f) (by' f')):∀(f f':List zac) (E:PE),zcA E f f'→zcA E (zav by' f) (zav by' f')
 |[],[],E,_=>by rw[zav,zcA];trivial
 |f::fs,f'::fs',E,h=>by
  rw[zcA]at h
  rw[zav,zav,zcA]
  exact⟨zil hb f f' E h.1,zhl hb fs fs' E h.2⟩
 |[],_::_,_,h=>by rw[zcA]at h;exact h.elim
 |_::_,[],_,h=>by rw[zcA]at h;exact h.elim
end
mutual
theorem zf2 {by':zac→zac}(hb:∀f,(by' f).depth≤f.depth):∀f:zac,(zaC by' f).depth≤f.depth
 | .mk k nm ws s=>by
  rw[zaC]
  refine Nat.le_trans (hb _) ?_
  rw[zac.depth,zac.depth]
  have:=zfF hb s
  omega
theorem zfF {by':zac→zac}(hb:∀f,(by' f).depth≤f.depth):∀fs:List zac,zac.depths (zav by' fs)≤zac.depths fs
 |[]=>by rw[zav];exact Nat.le_refl _
 |f::fs=>by
  rw[zav,zac.depths,zac.depths]
  have h1:=zf2 hb f
  have h2:=zfF hb fs
  omega
end
theorem zsA (f:zac):1≤f.depth:=by cases f;rw[zac.depth];omega
theorem zk0 (f:zac):(zbN f).depth≤f.depth:=by
 unfold zbN
 split
 ·have:=zsA f;simp only[zac.depth,zac.depths];omega
 ·exact Nat.le_refl _
mutual
theorem zm5 (g:Nat→Str×Nat):∀(f:zac) (env:List zaR) (n:Nat),(ren g f env n).1.depth=f.depth
 | .mk k nm ws s,env,n=>by
  rw[ren]
  split
  ·rw[zac.depth,zac.depth,zg5 g s]
  ·rw[zac.depth,zac.depth,zg5 g s]
theorem zg5 (g:Nat→Str×Nat):∀(fs:List zac) (env:List zaR) (n:Nat),zac.depths (za5 g fs env n).1=zac.depths fs
 |[],env,n=>by rw[za5]
 |f::fs,env,n=>by rw[za5,zac.depths,zac.depths,zm5 g f,zg5 g fs]
end
theorem zhj (f:zac)(env:List zaR):(zau f env).depth=f.depth:=zm5 _ f env 0
theorem znR (f:zac)(env:List zaR):zkL (zau f env)=zkL f:=by unfold zkL;rw[zbZ,zhj]
def zwf (op:Bool)(f:zac):Prop:=(f.subs.length:Int)=zbt op f∧zdc f=true∧(named f=true→¬isQ f.kind→zas f.name=true)∧(named f=false→f.name=⟨[]⟩)
mutual
def shp (op:Bool):zac→Prop
 | .mk k nm w s=>zwf op (.mk k nm w s)∧ze7 op s
def ze7 (op:Bool):List zac→Prop
 |[]=>True
 |f::fs=>shp op f∧ze7 op fs
end
theorem zwe {op:Bool}{f:zac}{d:Int}{n:Nat}(hs:zwf op f)(hn:n+1≤200)(hd:d≤40)(hw:∀w∈f.words,zas w=true)(hq:isQ f.kind→zas f.name=true):zdA op f d n=0:=by
 obtain⟨h1,h2,h3,h4⟩:=hs
 unfold zdA
 rw[if_neg (by omega),if_neg (by omega),if_neg (by rw[Decidable.not_not];exact⟨h1,h2⟩),if_neg,if_neg,if_neg]
 ·rw[show f.words.all zas=true from List.all_eq_true.2 hw];simp
 ·rintro⟨h5,h6⟩;exact h6 (h4 h5)
 ·rintro⟨h5,h6⟩
  by_cases hk:isQ f.kind
  ·rw[hq hk]at h6;cases h6
  ·rw[h3 h5 hk]at h6;cases h6
mutual
theorem zw4 {op:Bool}:∀(f:zac) (d:Int) (n:Nat),shp op f→zbQ (fun w=>zas w=true) f→n+f.size≤200→d+f.depth≤41→chk op f d n=(⟨0,0⟩,n+f.size)
 | .mk k nm ws s,d,n,hs,ha,hn,hd=>by
  rw[shp]at hs
  rw[zbQ]at ha
  rw[zac.size]at hn ⊢
  rw[zac.depth]at hd
  have:=zwe (d:=d) (n:=n) hs.1 (by omega) (by omega) ha.1 ha.2.1
  rw[chk,if_neg (by simp[this]),zsl s (d+1) (n+1) hs.2 ha.2.2 (by omega) (by omega)]
  rw[show n+1+zac.sizes s=n+(zac.sizes s+1) by omega]
theorem zsl {op:Bool}:∀(fs:List zac) (d:Int) (n:Nat),ze7 op fs→zaS (fun w=>zas w=true) fs→n+zac.sizes fs≤200→d+zac.depths fs≤41→zeH op fs d n=(⟨0,0⟩,n+zac.sizes fs)
 |[],d,n,_,_,_,_=>by rw[zeH,zac.sizes];rfl
 |f::fs,d,n,hs,ha,hn,hd=>by
  rw[ze7]at hs
  rw[zaS]at ha
  rw[zac.sizes]at hn ⊢
  rw[zac.depths]at hd
  rw[zeH,zw4 f d n hs.1 ha.1 (by omega) (by omega),if_neg (by simp),zsl fs d _ hs.2 ha.2 (by omega) (by omega)]
  rw[Nat.add_assoc]
end
theorem zse {op:Bool}{f:zac}(hs:shp op f)(ha:zbQ (fun w=>zas w=true) f)(hf:zkL f=true):zaE op f=⟨0,0⟩:=by
 unfold zkL at hf
 have hf:=of_decide_eq_true hf
 unfold zaE
 rw[zw4 f 1 0 hs ha (by omega) (by omega)]
mutual
theorem zsj {op:Bool}:∀(f:zac) (d:Int) (n:Nat),(chk op f d n).1.code=0→shp op f∧d+f.depth≤41
 | .mk k nm w s,d,n,h=>by
  rw[chk]at h
  split at h
  ·rename_i h1;exact absurd h h1
  ·rename_i h1
   have h1:=Decidable.not_not.1 h1
   have h2:=zdB h1
   have h3:=zoZ s _ _ h
   have hd:d≤40:=by
    unfold zdA at h1
    split at h1
    ·simp at h1
    ·omega
   rw[shp,zac.depth]
   exact⟨⟨⟨h2.2.2.2.2,h2.2.2.2.1,fun hn _=>h2.2.1 hn,h2.2.2.1⟩,h3.1⟩,by have:=h3.2;omega⟩
theorem zoZ {op:Bool}:∀(fs:List zac) (d:Int) (n:Nat),(zeH op fs d n).1.code=0→ze7 op fs∧(zac.depths fs=0∨d+zac.depths fs≤41)
 |[],d,n,_=>by rw[ze7,zac.depths];exact⟨trivial,.inl rfl⟩
 |f::fs,d,n,h=>by
  rw[zeH]at h
  split at h
  ·rename_i h1;exact absurd h h1
  ·rename_i h1
   have h2:=zsj f d n (Decidable.not_not.1 h1)
   have h3:=zoZ fs d _ h
   rw[ze7,zac.depths]
   exact⟨⟨h2.1,h3.1⟩,.inr (by have:=h2.2;rcases h3.2 with h|h<;>omega)⟩
end
theorem zjB {op:Bool}{f:zac}(h:(zaE op f).code=0):shp op f:=(zsj f 1 0 h).1
theorem ziS {op:Bool}{k:Int}{nm nm':Str}{w w':List Str}{s s':List zac}(h:zwf op (.mk k nm w s))(hl:w'.length=w.length)(hs:s'.length=s.length)(hn:¬isQ k→nm'=nm)(_hq:isQ k→True):zwf op (.mk k nm' w' s'):=by
 obtain⟨h1,h2,h3,h4⟩:=h
 refine⟨?_,?_,fun h5 h6=>?_,fun h5=>?_⟩
 ·simp only[za9]at h1 ⊢
  rw[hs,h1];rfl
 ·have:zdc (.mk k nm' w' s')=zdc (.mk k nm w s):=by
   show(if k=2 then decide (w'.length≤3)else if k=3 then decide (w'.length=2)else decide (w'.length=0))=_
   rw[hl];rfl
  rw[this];exact h2
 ·simp only[zak,zcn]at h6 h3 ⊢
  rw[hn h6];exact h3 h5 h6
 ·have h6:=h4 h5
  simp only[zcn]at h6 ⊢
  have:¬isQ k:=by
   intro hq
   have:named (.mk k nm' w' s')=true:=by
    unfold named
    refine decide_eq_true ?_
    simp only[zak]
    rcases hq with e|e<;>omega
   rw[h5]at this;cases this
  rw[hn this];exact h6
mutual
theorem zou {op:Bool}(g:Nat→Str×Nat):∀(f:zac) (env:List zaR) (n:Nat),shp op f→shp op (ren g f env n).1
 | .mk k nm ws s,env,n,h=>by
  rw[shp]at h
  rw[ren]
  split
  ·rename_i hq
   rw[shp]
   exact⟨ziS h.1 (List.length_map _) (zdk g _ s _) (fun h=>absurd hq h) fun _=>trivial,zlf g s _ _ h.2⟩
  ·rw[shp]
   exact⟨ziS h.1 (List.length_map _) (zdk g _ s _) (fun _=>rfl) fun _=>trivial,zlf g s _ _ h.2⟩
theorem zlf {op:Bool}(g:Nat→Str×Nat):∀(fs:List zac) (env:List zaR) (n:Nat),ze7 op fs→ze7 op (za5 g fs env n).1
 |[],env,n,_=>by rw[za5,ze7];trivial
 |f::fs,env,n,h=>by
  rw[ze7]at h
  rw[za5,ze7]
  exact⟨zou g f _ _ h.1,zlf g fs _ _ h.2⟩
end
theorem zew {n:Nat}(h:n<10):zaP n=[UInt8.ofNat (48+n)]:=by unfold zaP;rw[Lib.decDigits,dif_pos h]
theorem zma:∀(k u:Nat),u<10^(k+1)→(zaP u).length≤k+1∧∀c∈zaP u,48≤c.toNat∧c.toNat≤57:=by
 intro k
 induction k with
 |zero=>
  intro u h
  rw[zew (by omega)]
  refine⟨by simp,fun c hc=>?_⟩
  rw[List.mem_singleton.1 hc,UInt8.toNat_ofNat',Nat.mod_eq_of_lt (by omega)];omega
 |succ k ih=>
  intro u h
  rcases Nat.lt_or_ge u 10 with h1|h1
  ·rw[zew h1]
   refine⟨by simp,fun c hc=>?_⟩
   rw[List.mem_singleton.1 hc,UInt8.toNat_ofNat',Nat.mod_eq_of_lt (by omega)];omega
  ·have h2:=ih (u / 10) (by rw[Nat.pow_succ]at h;omega)
   have e:zaP u=zaP (u / 10)++[UInt8.ofNat (48+u % 10)]:=by
    unfold zaP
    rw[Lib.decDigits,dif_neg (by omega)]
   rw[e,List.length_append,List.length_singleton]
   refine⟨by omega,fun c hc=>?_⟩
   rcases List.mem_append.1 hc with hc|hc
   ·exact h2.2 c hc
   ·rw[List.mem_singleton.1 hc,UInt8.toNat_ofNat',Nat.mod_eq_of_lt (by omega)];omega
theorem zny {j:Nat}(h:j<10^20):zas (zdR j)=true:=by
 have h1:=zma 19 j h
 refine zgq ?_ ?_ ?_ fun i hi=>?_
 ·simp[zdR]
 ·simp only[zdR,List.length_cons];omega
 ·simp[zdR,zgI]
 ·simp only[zdR,List.length_cons]at hi ⊢
  cases i with
  |zero=>show okc (118:UInt8);decide
  |succ i=>
   rw[List.getD_cons_succ]
   have hm:(zaP j).getD i 0∈zaP j:=by
    rw[List.getD_eq_getElem?_getD,List.getElem?_eq_getElem (by omega)]
    exact List.getElem_mem _
   have:=h1.2 _ hm
   exact .inr (.inl ⟨by omega,by omega⟩)
mutual
theorem zm6 {used:List Str}{B:Nat}{p:Str→Prop}(hv:∀j,j<B→p (zdR j)):∀(f:zac) (env:List zaR) (bd:List Str) (n:Nat),n+(used.length+1)*f.size≤B→(∀w∈bd,p (lkp env w))→(∀w,w∉bd→lkp env w=w)→(∀x∈cst f bd,p x)→zbQ p (ren (vg used) f env n).1
 | .mk k nm ws s,env,bd,n,hn,h1,h2,hc=>by
  rw[zac.size,Nat.mul_add,Nat.mul_one]at hn
  rw[cst]at hc
  have hw:∀w∈ws.map (lkp env),p w:=fun w hw=>by
   obtain⟨x,hx,rfl⟩:=List.mem_map.1 hw
   by_cases hb:x∈bd
   ·exact h1 x hb
   ·rw[h2 x hb]
    exact hc x (List.mem_append_left _ (List.mem_filter.2 ⟨hx,by simpa using hb⟩))
  have hg:=za4 used n
  rw[ren]
  by_cases hq:isQ k
  ·rw[if_pos hq]at hc
   have hvn:p (zdR (zbR used n)):=hv _ (by omega)
   rw[if_pos hq,zbQ]
   refine⟨hw,fun _=>hvn,zg6 hv s _ (bd++[nm]) _ ?_ (fun w hw2=>?_) (fun w hw2=>?_) fun x hx=>hc x (List.mem_append_right _ hx)⟩
   ·show zbR used n+1+_≤B
    omega
   ·rw[zcc]
    by_cases e:nm=w
    ·rw[if_pos e];exact hvn
    ·rw[if_neg e]
     rcases List.mem_append.1 hw2 with h|h
     ·exact h1 w h
     ·exact absurd (List.mem_singleton.1 h).symm e
   ·rw[zcc,if_neg (fun e=>hw2 (List.mem_append_right _ (List.mem_singleton.2 e.symm)))]
    exact h2 w fun h=>hw2 (List.mem_append_left _ h)
  ·rw[if_neg hq]at hc
   rw[if_neg hq,zbQ]
   exact⟨hw,fun h=>absurd h hq,zg6 hv s _ bd _ (by omega) h1 h2 fun x hx=>hc x (List.mem_append_right _ hx)⟩
theorem zg6 {used:List Str}{B:Nat}{p:Str→Prop}(hv:∀j,j<B→p (zdR j)):∀(fs:List zac) (env:List zaR) (bd:List Str) (n:Nat),n+(used.length+1)*zac.sizes fs≤B→(∀w∈bd,p (lkp env w))→(∀w,w∉bd→lkp env w=w)→(∀x∈zbU fs bd,p x)→zaS p (za5 (vg used) fs env n).1
 |[],env,bd,n,_,_,_,_=>by rw[za5,zaS];trivial
 |f::fs,env,bd,n,hn,h1,h2,hc=>by
  rw[zac.sizes,Nat.mul_add]at hn
  rw[zbU]at hc
  rw[za5,zaS]
  have:=((zgu (zrx used)).1 f env n).2
  exact⟨zm6 hv f env bd n (by omega) h1 h2 fun x hx=>hc x (List.mem_append_left _ hx),zg6 hv fs env bd _ (by omega) h1 h2 fun x hx=>hc x (List.mem_append_right _ hx)⟩
end
mutual
theorem zeV:∀(f:zac) (bd:List Str),f.fit=true→(cst f bd).length≤1000*f.size
 | .mk k nm ws s,bd,h=>by
  rw[zac.fit]at h
  simp only[Bool.and_eq_true,decide_eq_true_eq]at h
  rw[cst,List.length_append,zac.size]
  have h1:=List.length_filter_le (fun w=>decide (w∉bd)) ws
  have h2:=zo6 s (if isQ k then bd++[nm]else bd) h.2
  omega
theorem zo6:∀(fs:List zac) (bd:List Str),zac.fits fs=true→(zbU fs bd).length≤1000*zac.sizes fs
 |[],bd,_=>by rw[zbU];simp
 |f::fs,bd,h=>by
  rw[zac.fits,Bool.and_eq_true]at h
  rw[zbU,List.length_append,zac.sizes]
  have h1:=zeV f bd h.1
  have h2:=zo6 fs bd h.2
  omega
end
theorem znS {f:zac}(hf:f.fit=true)(hs:f.size≤200)(hc:∀x∈cst f [],zas x=true):zbQ (fun w=>zas w=true) (zau f []):=by
 have h1:=zeV f [] hf
 have h2:=zjb f
 refine zm6 (B:=10^20) (fun j hj=>zny hj) f [] [] 0 ?_ (by simp) (fun w _=>zeA w) hc
 show 0+((zba f).length+1)*f.size≤10^20
 have h3:((zba f).length+1)*f.size≤200001*200:=Nat.mul_le_mul (by omega) hs
 omega
theorem zvj {op:Bool}{f:zac}(hs:shp op f)(hf:f.fit=true)(hl:zkL f=true)(hc:∀x∈cst f [],zas x=true):zaE op (zau f [])=⟨0,0⟩:=by
 have h1:=of_decide_eq_true (show decide (f.size≤200∧f.depth≤40)=true from hl)
 exact zse (zou _ f [] 0 hs) (znS hf h1.1 hc) (by rw[znR];exact hl)
mutual
def zk1:zac→Bool
 | .mk k nm ws s=>okE (.mk k nm ws s)||zhW s
def zhW:List zac→Bool
 |[]=>false
 |f::fs=>zk1 f||zhW fs
end
theorem zjS:∀(l:List zac) (f:zac),(∀g∈l,g.kind≠5)→zgk (l.foldl (fun a x=>zac.mk 5 ⟨[]⟩ [] [a,x]) f)=zgk f++l
 |[],f,_=>by simp
 |x::l,f,h=>by
  rw[List.foldl_cons,zjS l _ fun g hg=>h g (List.mem_cons_of_mem _ hg),ztc (a:=f) (b:=x) rfl rfl]
  simp
theorem zin {by':zac→zac}(hb:∀f,f.kind≠9→by' f=f):∀(l:List zac) (f:zac),(∀g∈l,zaC by' g=g)→zaC by' f=f→zaC by' (l.foldl (fun a x=>zac.mk 5 ⟨[]⟩ [] [a,x]) f)=l.foldl (fun a x=>zac.mk 5 ⟨[]⟩ [] [a,x]) f
 |[],f,_,h=>h
 |x::l,f,h,hf=>by
  rw[List.foldl_cons]
  refine zin hb l _ (fun g hg=>h g (List.mem_cons_of_mem _ hg)) ?_
  rw[zaC,zav,zav,zav,hf,h x (by simp),hb (.mk 5 ⟨[]⟩ [] [f,x]) (show(5:Int)≠9 by decide)]
theorem zgn {f:zac}(h:f.kind≠9):zbN f=f:=by
 unfold zbN
 rw[if_neg]
 intro hm
 exact h (zk4 (zfr hm)).1
theorem zq8 {α:Type}(l:List α)(d:α):(List.range l.length).map (fun i=>l.getD i d)=l:=by
 refine List.ext_getElem (by simp) fun i h1 h2=>?_
 simp only[List.getElem_map,List.getElem_range]
 rw[List.getD_eq_getElem?_getD,List.getElem?_eq_getElem h2];rfl
theorem zon {v nm:Str}{ws:List Str}(h1:0<ws.length)(h3:ws.length≤3)(hv:∀w∈ws,w≠v):zaC zbN (zdf v nm ws)= .mk 2 nm ws []:=by
 obtain⟨l,hl⟩:∃l,((List.range ws.length).map fun i=>zac.mk 2 (zr4 i) [v,ws.getD i ⟨[]⟩] [])=l:=⟨_,rfl⟩
 have hll:l.length=ws.length:=by rw[←hl];simp
 have hat:∀i,i<ws.length→l.getD i zo7= .mk 2 (zr4 i) [v,ws.getD i ⟨[]⟩] []:=fun i hi=>by
  rw[←hl,List.getD_eq_getElem?_getD,List.getElem?_map,List.getElem?_range hi];rfl
 have hmem:∀g∈l,g.kind=2∧g.subs=[]:=fun g hg=>by
  rw[←hl]at hg
  obtain⟨i,_,rfl⟩:=List.mem_map.1 hg
  exact⟨rfl,rfl⟩
 have hid:∀g:zac,g.kind=2→g.subs=[]→zaC zbN g=g:=fun g hk hs=>by
  rw[zqc,hs,List.map_nil,zgn (by simp only[zak];omega)]
  cases g;simp only[za9]at hs;subst hs;rfl
 unfold zdf
 rw[hl]
 have hj:zaC zbN (zez 5 (.mk 2 nm [v] []::l))=zez 5 (.mk 2 nm [v] []::l):=
  zin (fun f h=>zgn h) l _ (fun g hg=>hid g (hmem g hg).1 (hmem g hg).2) (hid _ rfl rfl)
 rw[zaC,zav,zav,hj]
 have hp:zcx (.mk 9 v [] [zez 5 (.mk 2 nm [v] []::l)])= .mk 2 nm [v] []::l:=by
  unfold zcx
  show zgk (zez 5 (.mk 2 nm [v] []::l))=_
  have:=zjS l (.mk 2 nm [v] []) fun g hg=>by rw[(hmem g hg).1];decide
  rw[ztd (f:= .mk 2 nm [v] []) (fun h=>absurd h.1 (show¬(2:Int)=5 by decide))]at this
  exact this
 have hh:zhI (.mk 9 v [] [zez 5 (.mk 2 nm [v] []::l)])= .mk 2 nm [v] []:=by unfold zhI;rw[hp];rfl
 have hok:okE (.mk 9 v [] [zez 5 (.mk 2 nm [v] []::l)])=true:=by
  unfold okE;rw[hh];simp[zak,zcb,zcn]
 have hgd:∀n,n≤ws.length→zgf (.mk 9 v [] [zez 5 (.mk 2 nm [v] []::l)]) n=true:=by
  intro n
  induction n with
  |zero=>intro _;rw[zgf]
  |succ n ih=>
   intro hn
   rw[zgf,ih (by omega),hp,List.getD_cons_succ,hat n (by omega)]
   have:=hv _ (zkR (ws:=ws) (i:=n) (by omega))
   simp only[zoc,zak,zcb,zcn,List.getD_cons_zero,List.getD_cons_succ,List.length_cons,List.length_nil,decide_eq_false this]
   simp
 have hwn:zke (.mk 9 v [] [zez 5 (.mk 2 nm [v] []::l)]) ws.length=ws:=by
  unfold zke
  rw[hp]
  conv=>rhs;rw[←zq8 ws ⟨[]⟩]
  refine List.map_congr_left fun j hj=>?_
  rw[List.getD_cons_succ,hat j (List.mem_range.1 hj)]
  rfl
 unfold zbN
 have hm:zc8 (.mk 9 v [] [zez 5 (.mk 2 nm [v] []::l)])=true:=by
  unfold zc8
  rw[hok,hp,List.length_cons,hll]
  simp only[Nat.add_sub_cancel,hgd ws.length (Nat.le_refl _)]
  simp only[Bool.true_and,Bool.and_true,Bool.and_eq_true,decide_eq_true_eq]
  omega
 rw[if_pos hm,hh,hp,List.length_cons,hll,Nat.add_sub_cancel,hwn]
 rfl
mutual
theorem zi4 {v:Str}{ps:List Str}:∀f:zac,shp false f→zbQ (fun w=>w≠v) f→zk1 f=false→zaC zbN (zaC (zbi v ps) f)=f
 | .mk k nm ws s,hs,ha,hm=>by
  rw[shp]at hs
  rw[zbQ]at ha
  rw[zk1,Bool.or_eq_false_iff]at hm
  rw[zaC,zcU]
  split
  ·rename_i hc
   obtain⟨rfl,h0,_⟩:=hc
   have h3:ws.length≤3:=by
    have:=hs.1.2.1
    rw[show zdc (.mk 2 nm ws s)=decide (ws.length≤3)from rfl]at this
    exact of_decide_eq_true this
   have h4:s=[]:=by
    have:=hs.1.1
    rw[show zbt false (.mk 2 nm ws s)=0 from rfl]at this
    simp only[za9]at this
    exact List.eq_nil_of_length_eq_zero (by omega)
   subst h4
   exact zon h0 h3 ha.1
  ·rw[zaC,zhy s hs.2 ha.2.2 hm.2]
   unfold zbN
   rw[if_neg]
   intro h
   rw[zfr h]at hm
   exact absurd hm.1 (by decide)
theorem zhy {v:Str}{ps:List Str}:∀fs:List zac,ze7 false fs→zaS (fun w=>w≠v) fs→zhW fs=false→zav zbN (zav (zbi v ps) fs)=fs
 |[],_,_,_=>by rw[zav,zav]
 |f::fs,hs,ha,hm=>by
  rw[ze7]at hs
  rw[zaS]at ha
  rw[zhW,Bool.or_eq_false_iff]at hm
  rw[zav,zav,zi4 f hs.1 ha.1 hm.1,zhy fs hs.2 ha.2 hm.2]
end
theorem zpk {op:Bool}:∀(l:List zac) (f:zac),ze7 op l→shp op f→shp op (l.foldl (fun a x=>zac.mk 5 ⟨[]⟩ [] [a,x]) f)
 |[],f,_,h=>h
 |x::l,f,hl,h=>by
  rw[ze7]at hl
  rw[List.foldl_cons]
  refine zpk l _ hl.2 ?_
  rw[shp,ze7,ze7,ze7]
  refine⟨⟨rfl,rfl,fun h2=>absurd (show false=true from h2) (by decide),fun _=>rfl⟩,h,hl.1,trivial⟩
theorem zlk {op:Bool}:∀l:List zac,ze7 op l↔∀f∈l,shp op f
 |[]=>by rw[ze7];simp
 |f::l=>by rw[ze7,zlk l];simp
theorem zr5 {i:Nat}(h:i<3):zas (zr4 i)=true:=by
 have:i=0∨i=1∨i=2:=by omega
 unfold zr4
 rw[zew (by omega)]
 rcases this with rfl|rfl|rfl<;>decide
theorem zrp {v nm:Str}{ws:List Str}(hn:zas nm=true)(h3:ws.length≤3):shp false (zdf v nm ws):=by
 unfold zdf
 rw[shp,ze7,ze7]
 refine⟨⟨rfl,rfl,fun _ h=>absurd (.inr rfl) h,fun h=>?_⟩,zpk _ _ ((zlk _).2 fun g hg=>?_) ?_,trivial⟩
 ·exact absurd h (by simp[named,zak])
 ·obtain⟨i,hi,rfl⟩:=List.mem_map.1 hg
  have hi:=List.mem_range.1 hi
  rw[shp,ze7]
  refine⟨⟨rfl,rfl,fun _ _=>zr5 (by omega),fun h=>?_⟩,trivial⟩
  exact absurd h (by simp[named,zak])
 ·rw[shp,ze7]
  refine⟨⟨rfl,rfl,fun _ _=>hn,fun h=>?_⟩,trivial⟩
  exact absurd h (by simp[named,zak])
mutual
theorem znh {v:Str}{ps:List Str}:∀f:zac,shp false f→shp false (zaC (zbi v ps) f)
 | .mk k nm ws s,h=>by
  rw[shp]at h
  rw[zaC,zcU]
  split
  ·rename_i hc
   obtain⟨rfl,h0,_⟩:=hc
   have h3:ws.length≤3:=by
    have:=h.1.2.1
    rw[show zdc (.mk 2 nm ws s)=decide (ws.length≤3)from rfl]at this
    exact of_decide_eq_true this
   exact zrp (h.1.2.2.1 rfl (by simp[isQ,zak])) h3
  ·rw[shp]
   exact⟨ziS h.1 rfl (by rw[zby,List.length_map]) (fun _=>rfl) fun _=>trivial,zj7 s h.2⟩
theorem zj7 {v:Str}{ps:List Str}:∀fs:List zac,ze7 false fs→ze7 false (zav (zbi v ps) fs)
 |[],_=>by rw[zav,ze7];trivial
 |f::fs,h=>by
  rw[ze7]at h
  rw[zav,ze7]
  exact⟨znh f h.1,zj7 fs h.2⟩
end
mutual
theorem zi5 (ps:List Str):∀f:zac,zbQ (fun w=>zas w=true) f→zbQ (fun w=>zas w=true∨w=qM) (zaC (zbi qM ps) f)
 | .mk k nm ws s,h=>by
  rw[zbQ]at h
  rw[zaC,zcU]
  split
  ·unfold zdf
   rw[zbQ,zaS,zaS]
   refine⟨by simp,fun _=> .inr rfl,zjQ _ 5 (by decide) ((zfX _ _).2 fun g hg=>?_),trivial⟩
   rcases List.mem_cons.1 hg with rfl|hg
   ·rw[zbQ,zaS]
    exact⟨fun w hw=> .inr (List.mem_singleton.1 hw),fun e=>absurd e (by decide),trivial⟩
   ·obtain⟨i,hi,rfl⟩:=List.mem_map.1 hg
    rw[zbQ,zaS]
    refine⟨fun w hw=>?_,fun e=>absurd e (by decide),trivial⟩
    simp only[List.mem_cons,List.not_mem_nil,or_false]at hw
    rcases hw with rfl|rfl
    ·exact .inr rfl
    ·exact .inl (h.1 _ (zkR (List.mem_range.1 hi)))
  ·rw[zbQ]
   exact⟨fun w hw=> .inl (h.1 w hw),fun hq=> .inl (h.2.1 hq),zhz ps s h.2.2⟩
theorem zhz (ps:List Str):∀fs:List zac,zaS (fun w=>zas w=true) fs→zaS (fun w=>zas w=true∨w=qM) (zav (zbi qM ps) fs)
 |[],_=>by rw[zav,zaS];trivial
 |f::fs,h=>by
  rw[zaS]at h
  rw[zav,zaS]
  exact⟨zi5 ps f h.1,zhz ps fs h.2⟩
end
theorem zHW {f:zac}{ps:List Str}(h:(zaE false f).code=0)(hf:zkL (zaC (zbi qM ps) f)=true)(hm:zk1 f=false):
  zaE false (zau (zaC (zbi qM ps) f) [])=⟨0,0⟩∧zkL (zaC zbN (zau (zaC (zbi qM ps) f) []))=true∧zau (zaC zbN (zau (zaC (zbi qM ps) f) [])) []=zau f []:=by
 have hn:=zio h
 have hs:=zjB h
 refine⟨zvj (znh f hs) (zim (fun f h=>zoz h) f (zfl h)) hf fun x hx=>?_,?_,?_⟩
 ·rcases zkz _ _ x (zi5 ps f hn) hx with h1|h1
  ·exact h1
  ·exact absurd h1 (zj5 ps f [] x hn hx)
 ·have h1:=of_decide_eq_true (show decide ((zaC (zbi qM ps) f).size≤200∧(zaC (zbi qM ps) f).depth≤40)=true from hf)
  have h2:=zhk (c:=0) (fun f=>zmQ f) (zau (zaC (zbi qM ps) f) [])
  have h3:=zf2 (fun f=>zk0 f) (zau (zaC (zbi qM ps) f) [])
  rw[zbZ]at h2
  rw[zhj]at h3
  unfold zkL
  exact decide_eq_true ⟨by omega,by omega⟩
 ·have h1:=zil (fun E f f' h=>zom h) _ _ [] (zsc (zaC (zbi qM ps) f))
  rw[zi4 f hs (zlK (fun w hw e=>by rw[e]at hw;exact absurd hw (by decide)) f hn) hm]at h1
  exact(zrZ h1).symm
end Go.Abs

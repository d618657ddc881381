import Derived.Test.YtkkffhphodngkaaDoorEV
set_option linter.unusedSimpArgs false
namespace Go.Abs
open Go
abbrev PE:=List (Str×Str)
def zlS:PE→Str→Str→Prop
 |[],w,w'=>w=w'
 |(a,b)::E,w,w'=>(w=a∧w'=b)∨(w≠a∧w'≠b∧zlS E w w')
def zce (E:PE):List Str→List Str→Prop
 |[],[]=>True
 |w::ws,w'::ws'=>zlS E w w'∧zce E ws ws'
 |[],_::_=>False
 |_::_,[]=>False
mutual
def Aeq:PE→zac→zac→Prop
 |E,.mk k nm ws s,.mk k' nm' ws' s'=>k=k'∧(¬isQ k→nm=nm')∧zce E ws ws'∧zb8 (if isQ k then(nm,nm')::E else E) s s'
def zb8:PE→List zac→List zac→Prop
 |_,[],[]=>True
 |E,f::fs,g::gs=>Aeq E f g∧zb8 E fs gs
 |_,[],_::_=>False
 |_,_::_,[]=>False
end
theorem zfQ {E:PE}:∀{a b:List Str},zce E a b→a.length=b.length
 |[],[],_=>rfl
 |_::a,_::b,h=>by rw[zce]at h;rw[List.length_cons,List.length_cons,zfQ h.2]
 |[],_::_,h=>by rw[zce]at h;exact h.elim
 |_::_,[],h=>by rw[zce]at h;exact h.elim
theorem zfP {E:PE}:∀{a b:List Str} {i:Nat},zce E a b→i<a.length→zlS E (a.getD i ⟨[]⟩) (b.getD i ⟨[]⟩)
 |[],[],i,_,hi=>by simp at hi
 |w::a,w'::b,0,h,_=>by rw[zce]at h;exact h.1
 |w::a,w'::b,i+1,h,hi=>by rw[zce]at h;exact zfP (i:=i) h.2 (by simpa using hi)
 |[],_::_,_,h,_=>by rw[zce]at h;exact h.elim
 |_::_,[],_,h,_=>by rw[zce]at h;exact h.elim
theorem zi2 {E:PE}:∀{a b:List zac},zb8 E a b→a.length=b.length
 |[],[],_=>rfl
 |_::a,_::b,h=>by rw[zb8]at h;rw[List.length_cons,List.length_cons,zi2 h.2]
 |[],_::_,h=>by rw[zb8]at h;exact h.elim
 |_::_,[],h=>by rw[zb8]at h;exact h.elim
theorem zmY {E:PE}:∀{a b c d:List zac},zb8 E a b→zb8 E c d→zb8 E (a++c) (b++d)
 |[],[],_,_,_,h=>h
 |_::a,_::b,_,_,h,h2=>by rw[zb8]at h;rw[List.cons_append,List.cons_append,zb8];exact⟨h.1,zmY h.2 h2⟩
 |[],_::_,_,_,h,_=>by rw[zb8]at h;exact h.elim
 |_::_,[],_,_,h,_=>by rw[zb8]at h;exact h.elim
theorem zuM {E:PE}:Aeq E znr znr:=by
 unfold znr
 rw[Aeq,if_neg (by decide)]
 exact⟨rfl,fun _=>rfl,by rw[zce];trivial,by rw[zb8];trivial⟩
theorem zdt {E:PE}:∀{a b:List zac} (i:Nat),zb8 E a b→Aeq E (a.getD i znr) (b.getD i znr)
 |[],[],i,_=>by simp only[List.getD_nil];exact zuM
 |_::a,_::b,0,h=>by rw[zb8]at h;exact h.1
 |_::a,_::b,i+1,h=>by rw[zb8]at h;exact zdt i h.2
 |[],_::_,_,h=>by rw[zb8]at h;exact h.elim
 |_::_,[],_,h=>by rw[zb8]at h;exact h.elim
theorem zim {E:PE}{f f':zac}:Aeq E f f'↔f.kind=f'.kind∧(¬isQ f.kind→f.name=f'.name)∧zce E f.words f'.words∧zb8 (if isQ f.kind then(f.name,f'.name)::E else E) f.subs f'.subs:=by
 cases f;cases f';rw[Aeq];rfl
theorem zlT {E:PE}{s s':Str→Str}(h:∀w w',zlS E w w'→s w=s' w'):∀{a b:List Str},zce E a b→a.map s=b.map s'
 |[],[],_=>rfl
 |w::a,w'::b,hw=>by rw[zce]at hw;rw[List.map_cons,List.map_cons,h _ _ hw.1,zlT h hw.2]
 |[],_::_,h=>by rw[zce]at h;exact h.elim
 |_::_,[],h=>by rw[zce]at h;exact h.elim
mutual
theorem zqc {g:Nat→Str×Nat}:∀(f f':zac) (E:PE) (env env':List zbI) (n:Nat),Aeq E f f'→(∀w w',zlS E w w'→lkp env w=lkp env' w')→ren g f env n=ren g f' env' n
 | .mk k nm ws s,.mk k' nm' ws' s',E,env,env',n,h,he=>by
  rw[Aeq]at h
  obtain⟨rfl,h2,h3,h4⟩:=h
  rw[ren,ren,zlT he h3]
  by_cases hq:isQ k
  ·rw[if_pos hq]at h4
   simp only[if_pos hq]
   rw[zi8 (g:=g) s s' ((nm,nm')::E) (env++[(⟨nm,(g n).1⟩:zbI)]) (env'++[(⟨nm',(g n).1⟩:zbI)]) (g n).2 h4 fun w w' hw=>?_]
   rw[zeC,zeC]
   rw[zlS]at hw
   rcases hw with⟨rfl,rfl⟩|⟨h5,h6,h7⟩
   ·rw[if_pos rfl,if_pos rfl]
   ·rw[if_neg (fun e=>h5 e.symm),if_neg (fun e=>h6 e.symm)]
    exact he w w' h7
  ·rw[if_neg hq]at h4
   simp only[if_neg hq]
   rw[zi8 (g:=g) s s' E env env' n h4 he,h2 hq]
theorem zi8 {g:Nat→Str×Nat}:∀(f f':List zac) (E:PE) (env env':List zbI) (n:Nat),zb8 E f f'→(∀w w',zlS E w w'→lkp env w=lkp env' w')→zbK g f env n=zbK g f' env' n
 |[],[],E,env,env',n,_,_=>by rw[zbK,zbK]
 |f::fs,f'::fs',E,env,env',n,h,he=>by
  rw[zb8]at h
  rw[zbK,zbK,zqc f f' E env env' n h.1 he]
  rw[zi8 fs fs' E env env' _ h.2 he]
 |[],_::_,_,_,_,_,h,_=>by rw[zb8]at h;exact h.elim
 |_::_,[],_,_,_,_,h,_=>by rw[zb8]at h;exact h.elim
end
theorem zgz {E:PE}{bd bd':List Str}(hb:∀w w',zlS E w w'→(w∈bd↔w'∈bd')∧(w∉bd→w=w')):∀{a b:List Str},zce E a b→a.filter (fun w=>decide (w∉bd))=b.filter (fun w=>decide (w∉bd'))
 |[],[],_=>rfl
 |w::a,w'::b,hw=>by
  rw[zce]at hw
  rw[List.filter_cons,List.filter_cons,zgz hb hw.2]
  obtain⟨h1,h2⟩:=hb w w' hw.1
  by_cases h:w∈bd
  ·rw[if_neg (by simpa using h),if_neg (by simpa using h1.1 h)]
  ·have e:=h2 h
   rw[if_pos (by simpa using h),if_pos (by simpa using fun h3=>h (h1.2 h3)),e]
 |[],_::_,h=>by rw[zce]at h;exact h.elim
 |_::_,[],h=>by rw[zce]at h;exact h.elim
mutual
theorem zqb:∀(f f':zac) (E:PE) (bd bd':List Str),Aeq E f f'→(∀w w',zlS E w w'→(w∈bd↔w'∈bd')∧(w∉bd→w=w'))→cst f bd=cst f' bd'
 | .mk k nm ws s,.mk k' nm' ws' s',E,bd,bd',h,he=>by
  rw[Aeq]at h
  obtain⟨rfl,h2,h3,h4⟩:=h
  rw[cst,cst,zgz he h3]
  by_cases hq:isQ k
  ·rw[if_pos hq]at h4
   rw[if_pos hq,if_pos hq]
   rw[zi7 s s' ((nm,nm')::E) (bd++[nm]) (bd'++[nm']) h4 fun w w' hw=>?_]
   rw[zlS]at hw
   simp only[List.mem_append,List.mem_singleton]
   rcases hw with⟨rfl,rfl⟩|⟨h5,h6,h7⟩
   ·exact⟨⟨fun _=> .inr rfl,fun _=> .inr rfl⟩,fun h=>absurd (.inr rfl) h⟩
   ·obtain⟨h8,h9⟩:=he w w' h7
    refine⟨⟨fun h=>?_,fun h=>?_⟩,fun h=>h9 fun h0=>h (.inl h0)⟩
    ·rcases h with h|h
     ·exact .inl (h8.1 h)
     ·exact absurd h h5
    ·rcases h with h|h
     ·exact .inl (h8.2 h)
     ·exact absurd h h6
  ·rw[if_neg hq]at h4
   rw[if_neg hq,if_neg hq,zi7 s s' E bd bd' h4 he]
theorem zi7:∀(f f':List zac) (E:PE) (bd bd':List Str),zb8 E f f'→(∀w w',zlS E w w'→(w∈bd↔w'∈bd')∧(w∉bd→w=w'))→zbW f bd=zbW f' bd'
 |[],[],E,bd,bd',_,_=>by rw[zbW,zbW]
 |f::fs,f'::fs',E,bd,bd',h,he=>by
  rw[zb8]at h
  rw[zbW,zbW,zqb f f' E bd bd' h.1 he,zi7 fs fs' E bd bd' h.2 he]
 |[],_::_,_,_,_,h,_=>by rw[zb8]at h;exact h.elim
 |_::_,[],_,_,_,h,_=>by rw[zb8]at h;exact h.elim
end
theorem zqa {f f':zac}(h:Aeq [] f f'):zb0 f []=zb0 f' []:=by
 have h1:cst f []=cst f' []:=zqb f f' [] [] [] h fun w w' hw=>⟨by simp,fun _=>hw⟩
 unfold zb0 zbv
 rw[h1,zqc f f' [] [] [] 0 h fun w w' hw=>by rw[zjH,zjH];exact hw]
mutual
theorem zrB {used:List Str}:∀(f:zac) (E:PE) (env:List zbI) (bd:List Str) (n:Nat),(∀w,w∈bd∨w∈used→zlS E w (lkp env w)∧(lkp env w∈used∨∃j,j<n∧lkp env w=zh7 j))→(∀x∈cst f bd,x∈used)→Aeq E f (ren (vg used) f env n).1
 | .mk k nm ws s,E,env,bd,n,he,hc=>by
  rw[cst]at hc
  have hw:zce E ws (ws.map (lkp env)):=by
   have:∀l:List Str,(∀w∈l,w∈ws)→zce E l (l.map (lkp env)):=by
    intro l
    induction l with
    |nil=>intro _;rw[List.map_nil,zce];trivial
    |cons w l ih=>
     intro hl
     rw[List.map_cons,zce]
     refine⟨(he w ?_).1,ih fun x hx=>hl x (List.mem_cons_of_mem _ hx)⟩
     by_cases hb:w∈bd
     ·exact .inl hb
     ·exact .inr (hc w (List.mem_append_left _ (List.mem_filter.2 ⟨hl w (by simp),by simpa using hb⟩)))
   exact this ws fun _ h=>h
  rw[ren]
  by_cases hq:isQ k
  ·rw[if_pos hq]at hc
   rw[if_pos hq,Aeq,if_pos hq]
   obtain⟨a1,_,a3,_⟩:=zeG used n
   refine⟨rfl,fun h=>absurd hq h,hw,zjR s _ _ (bd++[nm]) _ (fun w hw2=>?_) fun x hx=>hc x (List.mem_append_right _ hx)⟩
   rw[zeC,zlS]
   by_cases e:nm=w
   ·rw[if_pos e]
    exact⟨.inl ⟨e.symm,rfl⟩,.inr ⟨zeM used n,Nat.lt_succ_self _,rfl⟩⟩
   ·rw[if_neg e]
    have hw3:w∈bd∨w∈used:=by
     rcases hw2 with h|h
     ·rcases List.mem_append.1 h with h|h
      ·exact .inl h
      ·exact absurd (List.mem_singleton.1 h).symm e
     ·exact .inr h
    obtain⟨h1,h2⟩:=he w hw3
    refine⟨.inr ⟨fun h=>e h.symm,fun h=>?_,h1⟩,?_⟩
    ·rw[h]at h2
     rcases h2 with h2|⟨j,hj,h2⟩
     ·exact a3 h2
     ·have:=zj5 h2;omega
    ·rcases h2 with h2|⟨j,hj,h2⟩
     ·exact .inl h2
     ·refine .inr ⟨j,?_,h2⟩
      have:(vg used n).2=zeM used n+1:=rfl
      omega
  ·rw[if_neg hq]at hc
   rw[if_neg hq,Aeq,if_neg hq]
   exact⟨rfl,fun _=>rfl,hw,zjR s _ _ bd _ he fun x hx=>hc x (List.mem_append_right _ hx)⟩
theorem zjR {used:List Str}:∀(fs:List zac) (E:PE) (env:List zbI) (bd:List Str) (n:Nat),(∀w,w∈bd∨w∈used→zlS E w (lkp env w)∧(lkp env w∈used∨∃j,j<n∧lkp env w=zh7 j))→(∀x∈zbW fs bd,x∈used)→zb8 E fs (zbK (vg used) fs env n).1
 |[],E,env,bd,n,_,_=>by rw[zbK,zb8];trivial
 |f::fs,E,env,bd,n,he,hc=>by
  rw[zbW]at hc
  rw[zbK,zb8]
  refine⟨zrB f E env bd n he fun x hx=>hc x (List.mem_append_left _ hx),zjR fs E env bd _ (fun w hw=>?_) fun x hx=>hc x (List.mem_append_right _ hx)⟩
  obtain⟨h1,h2⟩:=he w hw
  refine⟨h1,?_⟩
  rcases h2 with h2|⟨j,hj,h2⟩
  ·exact .inl h2
  ·have:=((zrD (zwu used)).1 f env n).1
   exact .inr ⟨j,by omega,h2⟩
end
theorem zqn (f:zac):Aeq [] f (zb0 f []):=by
 refine zrB f [] [] [] 0 (fun w hw=>?_) fun x hx=>(zdF f x).2 hx
 rw[zjH]
 rcases hw with h|h
 ·simp at h
 ·exact⟨rfl,.inl h⟩
mutual
theorem zk7:∀(f f':zac) (E:PE),Aeq E f f'→zb8 E (zft f) (zft f')
 | .mk k nm ws s,.mk k' nm' ws' s',E,h=>by
  have h0:=h
  rw[Aeq]at h
  obtain⟨rfl,h2,h3,h4⟩:=h
  have hl:=zi2 h4
  rw[zft,zft,←hl]
  by_cases hk:k=5∧s.length=2
  ·rw[if_pos hk,if_pos hk]
   rw[if_neg (by rw[hk.1];decide)]at h4
   exact zph s s' E h4
  ·rw[if_neg hk,if_neg hk,zb8]
   exact⟨h0,by rw[zb8];trivial⟩
theorem zph:∀(f f':List zac) (E:PE),zb8 E f f'→zb8 E (zhw f) (zhw f')
 |[],[],E,_=>by rw[zhw,zb8];trivial
 |f::fs,f'::fs',E,h=>by
  rw[zb8]at h
  rw[zhw,zhw]
  exact zmY (zk7 f f' E h.1) h.2
 |[],_::_,_,h=>by rw[zb8]at h;exact h.elim
 |_::_,[],_,h=>by rw[zb8]at h;exact h.elim
end
theorem zlj {E:PE}{f f':zac}(h:Aeq E f f')(hk:f.kind=9):zb8 ((f.name,f'.name)::E) (zb4 f) (zb4 f'):=by
 rw[zim,if_pos (show isQ f.kind from .inr hk)]at h
 unfold zb4
 exact zk7 _ _ _ (zdt 0 h.2.2.2)
theorem zfM {E:PE}{a b w w':Str}(h:zlS ((a,b)::E) w w'):(w=a↔w'=b)∧(w≠a→zlS E w w'):=by
 rw[zlS]at h
 rcases h with⟨rfl,rfl⟩|⟨h1,h2,h3⟩
 ·exact⟨⟨fun _=>rfl,fun _=>rfl⟩,fun h=>absurd rfl h⟩
 ·exact⟨⟨fun h=>absurd h h1,fun h=>absurd h h2⟩,fun _=>h3⟩
theorem zvW {E:PE}{f f':zac}(h:Aeq E f f'):okE f=okE f':=by
 have hk:=(zim.1 h).1
 unfold okE
 rw[←hk]
 by_cases h9:f.kind=9
 ·have hp:=zlj h h9
  have hh:Aeq ((f.name,f'.name)::E) (zgB f) (zgB f'):=zdt 0 hp
  rw[zim]at hh
  obtain⟨e1,_,e2,_⟩:=hh
  rw[←e1,←zfQ e2]
  by_cases hl:(zgB f).words.length=1
  ·have:=(zfM (zfP (i:=0) e2 (by omega))).1
   rw[show decide ((zgB f).words.getD 0 ⟨[]⟩=f.name)=decide ((zgB f').words.getD 0 ⟨[]⟩=f'.name)from decide_eq_decide.2 this]
  ·simp[hl]
 ·simp[h9]
theorem zqY {E:PE}{f f' x x':zac}(h:Aeq ((f.name,f'.name)::E) x x')(i:Nat):zmu f i x=zmu f' i x':=by
 rw[zim]at h
 obtain⟨e1,e0,e2,_⟩:=h
 unfold zmu
 rw[←e1,←zfQ e2]
 by_cases hk:x.kind=2
 ·rw[e0 (by rw[hk];decide)]
  by_cases hl:x.words.length=2
  ·have h0:=(zfM (zfP (i:=0) e2 (by omega))).1
   have h1:=(zfM (zfP (i:=1) e2 (by omega))).1
   rw[show decide (x.words.getD 0 ⟨[]⟩=f.name)=decide (x'.words.getD 0 ⟨[]⟩=f'.name)from decide_eq_decide.2 h0,
    show decide (x.words.getD 1 ⟨[]⟩=f.name)=decide (x'.words.getD 1 ⟨[]⟩=f'.name)from decide_eq_decide.2 h1]
  ·simp[hl]
 ·simp[hk]
theorem zkZ {E:PE}{f f':zac}(h:zb8 ((f.name,f'.name)::E) (zb4 f) (zb4 f')):∀n,zfr f n=zfr f' n
 |0=>by rw[zfr,zfr]
 |n+1=>by rw[zfr,zfr,zkZ h n,zqY (zdt (n+1) h) n]
theorem zpM {E:PE}{f f':zac}(h:zb8 ((f.name,f'.name)::E) (zb4 f) (zb4 f')){n:Nat}(hg:zfr f n=true):zce E (zi0 f n) (zi0 f' n):=by
 unfold zi0
 have:∀l:List Nat,(∀j∈l,j<n)→zce E (l.map fun j=>((zb4 f).getD (j+1) znr).words.getD 1 ⟨[]⟩) (l.map fun j=>((zb4 f').getD (j+1) znr).words.getD 1 ⟨[]⟩):=by
  intro l
  induction l with
  |nil=>intro _;rw[List.map_nil,List.map_nil,zce];trivial
  |cons j l ih=>
   intro hl
   rw[List.map_cons,List.map_cons,zce]
   refine⟨?_,ih fun x hx=>hl x (List.mem_cons_of_mem _ hx)⟩
   have hj:=znD hg (hl j (by simp))
   have hx:=zdt (j+1) h
   unfold zmu at hj
   simp only[Bool.and_eq_true,decide_eq_true_eq,Bool.not_eq_true',decide_eq_false_iff_not]at hj
   have hw:=(zim.1 hx).2.2.1
   exact(zfM (zfP (i:=1) hw (by omega))).2 hj.2
 exact this _ fun j hj=>List.mem_range.1 hj
theorem zmC {E:PE}{f f':zac}(h:Aeq E f f'):Aeq E (zbj f) (zbj f'):=by
 have ho:=zvW h
 by_cases ht:okE f=true
 ·have hk:=(zjM ht).1
  have hp:=zlj h hk
  have hl:=zi2 hp
  have hm:zcE f=zcE f':=by
   unfold zcE
   rw[ho,hl,zkZ hp]
  unfold zbj
  rw[←hm,←hl]
  by_cases hmt:zcE f=true
  ·rw[if_pos hmt,if_pos hmt,Aeq,if_neg (by decide)]
   have hh:=zdt 0 hp
   have hh2:=zim.1 hh
   refine⟨rfl,fun _=>hh2.2.1 ?_,zpM hp ?_,by rw[zb8];trivial⟩
   ·rw[show((zb4 f).getD 0 znr).kind=2 from(zjM ht).2];decide
   ·unfold zcE at hmt
    simp only[Bool.and_eq_true]at hmt
    exact hmt.2
  ·rw[if_neg hmt,if_neg hmt];exact h
 ·have h1:¬zcE f=true:=fun hm=>ht (zeE hm)
  have h2:¬zcE f'=true:=fun hm=>ht (by rw[ho];exact zeE hm)
  unfold zbj
  rw[if_neg h1,if_neg h2];exact h
mutual
theorem zha {by':zac→zac}(hb:∀E f f',Aeq E f f'→Aeq E (by' f) (by' f')):∀(f f':zac) (E:PE),Aeq E f f'→Aeq E (zat by' f) (zat by' f')
 | .mk k nm ws s,.mk k' nm' ws' s',E,h=>by
  rw[Aeq]at h
  rw[zat,zat]
  refine hb _ _ _ ?_
  rw[Aeq]
  exact⟨h.1,h.2.1,h.2.2.1,zgi hb s s' _ h.2.2.2⟩
theorem zgi {by':zac→zac}(hb:∀E f f',Aeq E f f'→Aeq E (by' f) (by' f')):∀(f f':List zac) (E:PE),zb8 E f f'→zb8 E (zan by' f) (zan by' f')
 |[],[],E,_=>by rw[zan,zb8];trivial
 |f::fs,f'::fs',E,h=>by
  rw[zb8]at h
  rw[zan,zan,zb8]
  exact⟨zha hb f f' E h.1,zgi hb fs fs' E h.2⟩
 |[],_::_,_,h=>by rw[zb8]at h;exact h.elim
 |_::_,[],_,h=>by rw[zb8]at h;exact h.elim
end
mutual
theorem zfe {by':zac→zac}(hb:∀f,(by' f).depth≤f.depth):∀f:zac,(zat by' f).depth≤f.depth
 | .mk k nm ws s=>by
  rw[zat]
  refine Nat.le_trans (hb _) ?_
  rw[zac.depth,zac.depth]
  have:=zeN hb s
  omega
theorem zeN {by':zac→zac}(hb:∀f,(by' f).depth≤f.depth):∀fs:List zac,zac.depths (zan by' fs)≤zac.depths fs
 |[]=>by rw[zan];exact Nat.le_refl _
 |f::fs=>by
  rw[zan,zac.depths,zac.depths]
  have h1:=zfe hb f
  have h2:=zeN hb fs
  omega
end
theorem zqE (f:zac):1≤f.depth:=by cases f;rw[zac.depth];omega
theorem zjJ (f:zac):(zbj f).depth≤f.depth:=by
 unfold zbj
 split
 ·have:=zqE f;simp only[zac.depth,zac.depths];omega
 ·exact Nat.le_refl _
mutual
theorem zlt (g:Nat→Str×Nat):∀(f:zac) (env:List zbI) (n:Nat),(ren g f env n).1.depth=f.depth
 | .mk k nm ws s,env,n=>by
  rw[ren]
  split
  ·rw[zac.depth,zac.depth,zf7 g s]
  ·rw[zac.depth,zac.depth,zf7 g s]
theorem zf7 (g:Nat→Str×Nat):∀(fs:List zac) (env:List zbI) (n:Nat),zac.depths (zbK g fs env n).1=zac.depths fs
 |[],env,n=>by rw[zbK]
 |f::fs,env,n=>by rw[zbK,zac.depths,zac.depths,zlt g f,zf7 g fs]
end
theorem zgg (f:zac)(env:List zbI):(zb0 f env).depth=f.depth:=zlt _ f env 0
theorem zl9 (f:zac)(env:List zbI):zjw (zb0 f env)=zjw f:=by unfold zjw;rw[zg8,zgg]
def zty (op:Bool)(f:zac):Prop:=(f.subs.length:Int)=zba op f∧zda f=true∧(named f=true→¬isQ f.kind→zaq f.name=true)∧(named f=false→f.name=⟨[]⟩)
mutual
def shp (op:Bool):zac→Prop
 | .mk k nm w s=>zty op (.mk k nm w s)∧zer op s
def zer (op:Bool):List zac→Prop
 |[]=>True
 |f::fs=>shp op f∧zer op fs
end
theorem ztx {op:Bool}{f:zac}{d:Int}{n:Nat}(hs:zty op f)(hn:n+1≤200)(hd:d≤40)(hw:∀w∈f.words,zaq w=true)(hq:isQ f.kind→zaq f.name=true):zc7 op f d n=0:=by
 obtain⟨h1,h2,h3,h4⟩:=hs
 unfold zc7
 rw[if_neg (by omega),if_neg (by omega),if_neg (by rw[Decidable.not_not];exact⟨h1,h2⟩),if_neg,if_neg,if_neg]
 ·rw[show f.words.all zaq=true from List.all_eq_true.2 hw];simp
 ·rintro⟨h5,h6⟩;exact h6 (h4 h5)
 ·rintro⟨h5,h6⟩
  by_cases hk:isQ f.kind
  ·rw[hq hk]at h6;cases h6
  ·rw[h3 h5 hk]at h6;cases h6
mutual
theorem zue {op:Bool}:∀(f:zac) (d:Int) (n:Nat),shp op f→zbS (fun w=>zaq w=true) f→n+f.size≤200→d+f.depth≤41→chk op f d n=(⟨0,0⟩,n+f.size)
 | .mk k nm ws s,d,n,hs,ha,hn,hd=>by
  rw[shp]at hs
  rw[zbS]at ha
  rw[zac.size]at hn ⊢
  rw[zac.depth]at hd
  have:=ztx (d:=d) (n:=n) hs.1 (by omega) (by omega) ha.1 ha.2.1
  rw[chk,if_neg (by simp[this]),zqx s (d+1) (n+1) hs.2 ha.2.2 (by omega) (by omega)]
  rw[show n+1+zac.sizes s=n+(zac.sizes s+1) by omega]
theorem zqx {op:Bool}:∀(fs:List zac) (d:Int) (n:Nat),zer op fs→zaI (fun w=>zaq w=true) fs→n+zac.sizes fs≤200→d+zac.depths fs≤41→zdZ op fs d n=(⟨0,0⟩,n+zac.sizes fs)
 |[],d,n,_,_,_,_=>by rw[zdZ,zac.sizes];rfl
 |f::fs,d,n,hs,ha,hn,hd=>by
  rw[zer]at hs
  rw[zaI]at ha
  rw[zac.sizes]at hn ⊢
  rw[zac.depths]at hd
  rw[zdZ,zue f d n hs.1 ha.1 (by omega) (by omega),if_neg (by simp),zqx fs d _ hs.2 ha.2 (by omega) (by omega)]
  rw[Nat.add_assoc]
end
theorem zqq {op:Bool}{f:zac}(hs:shp op f)(ha:zbS (fun w=>zaq w=true) f)(hf:zjw f=true):zaz op f=⟨0,0⟩:=by
 unfold zjw at hf
 have hf:=of_decide_eq_true hf
 unfold zaz
 rw[zue f 1 0 hs ha (by omega) (by omega)]
mutual
theorem zqv {op:Bool}:∀(f:zac) (d:Int) (n:Nat),(chk op f d n).1.code=0→shp op f∧d+f.depth≤41
 | .mk k nm w s,d,n,h=>by
  rw[chk]at h
  split at h
  ·rename_i h1;exact absurd h h1
  ·rename_i h1
   have h1:=Decidable.not_not.1 h1
   have h2:=zc8 h1
   have h3:=zne s _ _ h
   have hd:d≤40:=by
    unfold zc7 at h1
    split at h1
    ·simp at h1
    ·omega
   rw[shp,zac.depth]
   exact⟨⟨⟨h2.2.2.2.2,h2.2.2.2.1,fun hn _=>h2.2.1 hn,h2.2.2.1⟩,h3.1⟩,by have:=h3.2;omega⟩
theorem zne {op:Bool}:∀(fs:List zac) (d:Int) (n:Nat),(zdZ op fs d n).1.code=0→zer op fs∧(zac.depths fs=0∨d+zac.depths fs≤41)
 |[],d,n,_=>by rw[zer,zac.depths];exact⟨trivial,.inl rfl⟩
 |f::fs,d,n,h=>by
  rw[zdZ]at h
  split at h
  ·rename_i h1;exact absurd h h1
  ·rename_i h1
   have h2:=zqv f d n (Decidable.not_not.1 h1)
   have h3:=zne fs d _ h
   rw[zer,zac.depths]
   exact⟨⟨h2.1,h3.1⟩,.inr (by have:=h2.2;rcases h3.2 with h|h<;>omega)⟩
end
theorem ziu {op:Bool}{f:zac}(h:(zaz op f).code=0):shp op f:=(zqv f 1 0 h).1
theorem zhI {op:Bool}{k:Int}{nm nm':Str}{w w':List Str}{s s':List zac}(h:zty op (.mk k nm w s))(hl:w'.length=w.length)(hs:s'.length=s.length)(hn:¬isQ k→nm'=nm)(_hq:isQ k→True):zty op (.mk k nm' w' s'):=by
 obtain⟨h1,h2,h3,h4⟩:=h
 refine⟨?_,?_,fun h5 h6=>?_,fun h5=>?_⟩
 ·simp only[zaN]at h1 ⊢
  rw[hs,h1];rfl
 ·have:zda (.mk k nm' w' s')=zda (.mk k nm w s):=by
   show(if k=2 then decide (w'.length≤3)else if k=3 then decide (w'.length=2)else decide (w'.length=0))=_
   rw[hl];rfl
  rw[this];exact h2
 ·simp only[zax,zel]at h6 h3 ⊢
  rw[hn h6];exact h3 h5 h6
 ·have h6:=h4 h5
  simp only[zel]at h6 ⊢
  have:¬isQ k:=by
   intro hq
   have:named (.mk k nm' w' s')=true:=by
    unfold named
    refine decide_eq_true ?_
    simp only[zax]
    rcases hq with e|e<;>omega
   rw[h5]at this;cases this
  rw[hn this];exact h6
mutual
theorem zrE {op:Bool}(g:Nat→Str×Nat):∀(f:zac) (env:List zbI) (n:Nat),shp op f→shp op (ren g f env n).1
 | .mk k nm ws s,env,n,h=>by
  rw[shp]at h
  rw[ren]
  split
  ·rename_i hq
   rw[shp]
   exact⟨zhI h.1 (List.length_map _) (zdW g _ s _) (fun h=>absurd hq h) fun _=>trivial,zjU g s _ _ h.2⟩
  ·rw[shp]
   exact⟨zhI h.1 (List.length_map _) (zdW g _ s _) (fun _=>rfl) fun _=>trivial,zjU g s _ _ h.2⟩
theorem zjU {op:Bool}(g:Nat→Str×Nat):∀(fs:List zac) (env:List zbI) (n:Nat),zer op fs→zer op (zbK g fs env n).1
 |[],env,n,_=>by rw[zbK,zer];trivial
 |f::fs,env,n,h=>by
  rw[zer]at h
  rw[zbK,zer]
  exact⟨zrE g f _ _ h.1,zjU g fs _ _ h.2⟩
end
theorem zdQ {n:Nat}(h:n<10):zcf n=[UInt8.ofNat (48+n)]:=by unfold zcf;rw[Lib.decDigits,dif_pos h]
theorem zqG:∀(k u:Nat),u<10^(k+1)→(zcf u).length≤k+1∧∀c∈zcf u,48≤c.toNat∧c.toNat≤57:=by
 intro k
 induction k with
 |zero=>
  intro u h
  rw[zdQ (by omega)]
  refine⟨by simp,fun c hc=>?_⟩
  rw[List.mem_singleton.1 hc,UInt8.toNat_ofNat',Nat.mod_eq_of_lt (by omega)];omega
 |succ k ih=>
  intro u h
  rcases Nat.lt_or_ge u 10 with h1|h1
  ·rw[zdQ h1]
   refine⟨by simp,fun c hc=>?_⟩
   rw[List.mem_singleton.1 hc,UInt8.toNat_ofNat',Nat.mod_eq_of_lt (by omega)];omega
  ·have h2:=ih (u / 10) (by rw[Nat.pow_succ]at h;omega)
   have e:zcf u=zcf (u / 10)++[UInt8.ofNat (48+u % 10)]:=by
    unfold zcf
    rw[Lib.decDigits,dif_neg (by omega)]
   rw[e,List.length_append,List.length_singleton]
   refine⟨by omega,fun c hc=>?_⟩
   rcases List.mem_append.1 hc with hc|hc
   ·exact h2.2 c hc
   ·rw[List.mem_singleton.1 hc,UInt8.toNat_ofNat',Nat.mod_eq_of_lt (by omega)];omega
theorem zsb {j:Nat}(h:j<10^20):zaq (zh7 j)=true:=by
 have h1:=zqG 19 j h
 refine zhD ?_ ?_ ?_ fun i hi=>?_
 ·simp[zh7]
 ·simp only[zh7,List.length_cons];omega
 ·simp[zh7,zgC]
 ·simp only[zh7,List.length_cons]at hi ⊢
  cases i with
  |zero=>show okc (118:UInt8);decide
  |succ i=>
   rw[List.getD_cons_succ]
   have hm:(zcf j).getD i 0∈zcf j:=by
    rw[List.getD_eq_getElem?_getD,List.getElem?_eq_getElem (by omega)]
    exact List.getElem_mem _
   have:=h1.2 _ hm
   exact .inr (.inl ⟨by omega,by omega⟩)
mutual
theorem zlu {used:List Str}{B:Nat}{p:Str→Prop}(hv:∀j,j<B→p (zh7 j)):∀(f:zac) (env:List zbI) (bd:List Str) (n:Nat),n+(used.length+1)*f.size≤B→(∀w∈bd,p (lkp env w))→(∀w,w∉bd→lkp env w=w)→(∀x∈cst f bd,p x)→zbS p (ren (vg used) f env n).1
 | .mk k nm ws s,env,bd,n,hn,h1,h2,hc=>by
  rw[zac.size,Nat.mul_add,Nat.mul_one]at hn
  rw[cst]at hc
  have hw:∀w∈ws.map (lkp env),p w:=fun w hw=>by
   obtain⟨x,hx,rfl⟩:=List.mem_map.1 hw
   by_cases hb:x∈bd
   ·exact h1 x hb
   ·rw[h2 x hb]
    exact hc x (List.mem_append_left _ (List.mem_filter.2 ⟨hx,by simpa using hb⟩))
  have hg:=zeG used n
  rw[ren]
  by_cases hq:isQ k
  ·rw[if_pos hq]at hc
   have hvn:p (zh7 (zeM used n)):=hv _ (by omega)
   rw[if_pos hq,zbS]
   refine⟨hw,fun _=>hvn,zf8 hv s _ (bd++[nm]) _ ?_ (fun w hw2=>?_) (fun w hw2=>?_) fun x hx=>hc x (List.mem_append_right _ hx)⟩
   ·show zeM used n+1+_≤B
    omega
   ·rw[zeC]
    by_cases e:nm=w
    ·rw[if_pos e];exact hvn
    ·rw[if_neg e]
     rcases List.mem_append.1 hw2 with h|h
     ·exact h1 w h
     ·exact absurd (List.mem_singleton.1 h).symm e
   ·rw[zeC,if_neg (fun e=>hw2 (List.mem_append_right _ (List.mem_singleton.2 e.symm)))]
    exact h2 w fun h=>hw2 (List.mem_append_left _ h)
  ·rw[if_neg hq]at hc
   rw[if_neg hq,zbS]
   exact⟨hw,fun h=>absurd h hq,zf8 hv s _ bd _ (by omega) h1 h2 fun x hx=>hc x (List.mem_append_right _ hx)⟩
theorem zf8 {used:List Str}{B:Nat}{p:Str→Prop}(hv:∀j,j<B→p (zh7 j)):∀(fs:List zac) (env:List zbI) (bd:List Str) (n:Nat),n+(used.length+1)*zac.sizes fs≤B→(∀w∈bd,p (lkp env w))→(∀w,w∉bd→lkp env w=w)→(∀x∈zbW fs bd,p x)→zaI p (zbK (vg used) fs env n).1
 |[],env,bd,n,_,_,_,_=>by rw[zbK,zaI];trivial
 |f::fs,env,bd,n,hn,h1,h2,hc=>by
  rw[zac.sizes,Nat.mul_add]at hn
  rw[zbW]at hc
  rw[zbK,zaI]
  have:=((zrD (zwu used)).1 f env n).2
  exact⟨zlu hv f env bd n (by omega) h1 h2 fun x hx=>hc x (List.mem_append_left _ hx),zf8 hv fs env bd _ (by omega) h1 h2 fun x hx=>hc x (List.mem_append_right _ hx)⟩
end
mutual
theorem zfX:∀(f:zac) (bd:List Str),f.fit=true→(cst f bd).length≤1000*f.size
 | .mk k nm ws s,bd,h=>by
  rw[zac.fit]at h
  simp only[Bool.and_eq_true,decide_eq_true_eq]at h
  rw[cst,List.length_append,zac.size]
  have h1:=List.length_filter_le (fun w=>decide (w∉bd)) ws
  have h2:=znp s (if isQ k then bd++[nm]else bd) h.2
  omega
theorem znp:∀(fs:List zac) (bd:List Str),zac.fits fs=true→(zbW fs bd).length≤1000*zac.sizes fs
 |[],bd,_=>by rw[zbW];simp
 |f::fs,bd,h=>by
  rw[zac.fits,Bool.and_eq_true]at h
  rw[zbW,List.length_append,zac.sizes]
  have h1:=zfX f bd h.1
  have h2:=znp fs bd h.2
  omega
end
theorem zma {f:zac}(hf:f.fit=true)(hs:f.size≤200)(hc:∀x∈cst f [],zaq x=true):zbS (fun w=>zaq w=true) (zb0 f []):=by
 have h1:=zfX f [] hf
 have h2:=zfJ f
 refine zlu (B:=10^20) (fun j hj=>zsb hj) f [] [] 0 ?_ (by simp) (fun w _=>zjH w) hc
 show 0+((zbv f).length+1)*f.size≤10^20
 have h3:((zbv f).length+1)*f.size≤200001*200:=Nat.mul_le_mul (by omega) hs
 omega
theorem zsG {op:Bool}{f:zac}(hs:shp op f)(hf:f.fit=true)(hl:zjw f=true)(hc:∀x∈cst f [],zaq x=true):zaz op (zb0 f [])=⟨0,0⟩:=by
 have h1:=of_decide_eq_true (show decide (f.size≤200∧f.depth≤40)=true from hl)
 exact zqq (zrE _ f [] 0 hs) (zma hf h1.1 hc) (by rw[zl9];exact hl)
mutual
def zjK:zac→Bool
 | .mk k nm ws s=>okE (.mk k nm ws s)||zgL s
def zgL:List zac→Bool
 |[]=>false
 |f::fs=>zjK f||zgL fs
end
theorem ziH:∀(l:List zac) (f:zac),(∀g∈l,g.kind≠5)→zft (l.foldl (fun a x=>zac.mk 5 ⟨[]⟩ [] [a,x]) f)=zft f++l
 |[],f,_=>by simp
 |x::l,f,h=>by
  rw[List.foldl_cons,ziH l _ fun g hg=>h g (List.mem_cons_of_mem _ hg),zrc (a:=f) (b:=x) rfl rfl]
  simp
theorem zhc {by':zac→zac}(hb:∀f,f.kind≠9→by' f=f):∀(l:List zac) (f:zac),(∀g∈l,zat by' g=g)→zat by' f=f→zat by' (l.foldl (fun a x=>zac.mk 5 ⟨[]⟩ [] [a,x]) f)=l.foldl (fun a x=>zac.mk 5 ⟨[]⟩ [] [a,x]) f
 |[],f,_,h=>h
 |x::l,f,h,hf=>by
  rw[List.foldl_cons]
  refine zhc hb l _ (fun g hg=>h g (List.mem_cons_of_mem _ hg)) ?_
  rw[zat,zan,zan,zan,hf,h x (by simp),hb (.mk 5 ⟨[]⟩ [] [f,x]) (show(5:Int)≠9 by decide)]
theorem zfw {f:zac}(h:f.kind≠9):zbj f=f:=by
 unfold zbj
 rw[if_neg]
 intro hm
 exact h (zjM (zeE hm)).1
theorem zpw {α:Type}(l:List α)(d:α):(List.range l.length).map (fun i=>l.getD i d)=l:=by
 refine List.ext_getElem (by simp) fun i h1 h2=>?_
 simp only[List.getElem_map,List.getElem_range]
 rw[List.getD_eq_getElem?_getD,List.getElem?_eq_getElem h2];rfl
theorem zmD {v nm:Str}{ws:List Str}(h1:0<ws.length)(h3:ws.length≤3)(hv:∀w∈ws,w≠v):zat zbj (zcK v nm ws)= .mk 2 nm ws []:=by
 obtain⟨l,hl⟩:∃l,((List.range ws.length).map fun i=>zac.mk 2 (zqh i) [v,ws.getD i ⟨[]⟩] [])=l:=⟨_,rfl⟩
 have hll:l.length=ws.length:=by rw[←hl];simp
 have hat:∀i,i<ws.length→l.getD i znr= .mk 2 (zqh i) [v,ws.getD i ⟨[]⟩] []:=fun i hi=>by
  rw[←hl,List.getD_eq_getElem?_getD,List.getElem?_map,List.getElem?_range hi];rfl
 have hmem:∀g∈l,g.kind=2∧g.subs=[]:=fun g hg=>by
  rw[←hl]at hg
  obtain⟨i,_,rfl⟩:=List.mem_map.1 hg
  exact⟨rfl,rfl⟩
 have hid:∀g:zac,g.kind=2→g.subs=[]→zat zbj g=g:=fun g hk hs=>by
  rw[zoB,hs,List.map_nil,zfw (by simp only[zax];omega)]
  cases g;simp only[zaN]at hs;subst hs;rfl
 unfold zcK
 rw[hl]
 have hj:zat zbj (zdU 5 (.mk 2 nm [v] []::l))=zdU 5 (.mk 2 nm [v] []::l):=
  zhc (fun f h=>zfw h) l _ (fun g hg=>hid g (hmem g hg).1 (hmem g hg).2) (hid _ rfl rfl)
 rw[zat,zan,zan,hj]
 have hp:zb4 (.mk 9 v [] [zdU 5 (.mk 2 nm [v] []::l)])= .mk 2 nm [v] []::l:=by
  unfold zb4
  show zft (zdU 5 (.mk 2 nm [v] []::l))=_
  have:=ziH l (.mk 2 nm [v] []) fun g hg=>by rw[(hmem g hg).1];decide
  rw[zrd (f:= .mk 2 nm [v] []) (fun h=>absurd h.1 (show¬(2:Int)=5 by decide))]at this
  exact this
 have hh:zgB (.mk 9 v [] [zdU 5 (.mk 2 nm [v] []::l)])= .mk 2 nm [v] []:=by unfold zgB;rw[hp];rfl
 have hok:okE (.mk 9 v [] [zdU 5 (.mk 2 nm [v] []::l)])=true:=by
  unfold okE;rw[hh];simp[zax,zdD,zel]
 have hgd:∀n,n≤ws.length→zfr (.mk 9 v [] [zdU 5 (.mk 2 nm [v] []::l)]) n=true:=by
  intro n
  induction n with
  |zero=>intro _;rw[zfr]
  |succ n ih=>
   intro hn
   rw[zfr,ih (by omega),hp,List.getD_cons_succ,hat n (by omega)]
   have:=hv _ (zjz (ws:=ws) (i:=n) (by omega))
   simp only[zmu,zax,zdD,zel,List.getD_cons_zero,List.getD_cons_succ,List.length_cons,List.length_nil,decide_eq_false this]
   simp
 have hwn:zi0 (.mk 9 v [] [zdU 5 (.mk 2 nm [v] []::l)]) ws.length=ws:=by
  unfold zi0
  rw[hp]
  conv=>rhs;rw[←zpw ws ⟨[]⟩]
  refine List.map_congr_left fun j hj=>?_
  rw[List.getD_cons_succ,hat j (List.mem_range.1 hj)]
  rfl
 unfold zbj
 have hm:zcE (.mk 9 v [] [zdU 5 (.mk 2 nm [v] []::l)])=true:=by
  unfold zcE
  rw[hok,hp,List.length_cons,hll]
  simp only[Nat.add_sub_cancel,hgd ws.length (Nat.le_refl _)]
  simp only[Bool.true_and,Bool.and_true,Bool.and_eq_true,decide_eq_true_eq]
  omega
 rw[if_pos hm,hh,hp,List.length_cons,hll,Nat.add_sub_cancel,hwn]
 rfl
mutual
theorem zhY {v:Str}{ps:List Str}:∀f:zac,shp false f→zbS (fun w=>w≠v) f→zjK f=false→zat zbj (zat (zaS v ps) f)=f
 | .mk k nm ws s,hs,ha,hm=>by
  rw[shp]at hs
  rw[zbS]at ha
  rw[zjK,Bool.or_eq_false_iff]at hm
  rw[zat,zcp]
  split
  ·rename_i hc
   obtain⟨rfl,h0,_⟩:=hc
   have h3:ws.length≤3:=by
    have:=hs.1.2.1
    rw[show zda (.mk 2 nm ws s)=decide (ws.length≤3)from rfl]at this
    exact of_decide_eq_true this
   have h4:s=[]:=by
    have:=hs.1.1
    rw[show zba false (.mk 2 nm ws s)=0 from rfl]at this
    simp only[zaN]at this
    exact List.eq_nil_of_length_eq_zero (by omega)
   subst h4
   exact zmD h0 h3 ha.1
  ·rw[zat,zgt s hs.2 ha.2.2 hm.2]
   unfold zbj
   rw[if_neg]
   intro h
   rw[zeE h]at hm
   exact absurd hm.1 (by decide)
theorem zgt {v:Str}{ps:List Str}:∀fs:List zac,zer false fs→zaI (fun w=>w≠v) fs→zgL fs=false→zan zbj (zan (zaS v ps) fs)=fs
 |[],_,_,_=>by rw[zan,zan]
 |f::fs,hs,ha,hm=>by
  rw[zer]at hs
  rw[zaI]at ha
  rw[zgL,Bool.or_eq_false_iff]at hm
  rw[zan,zan,zhY f hs.1 ha.1 hm.1,zgt fs hs.2 ha.2 hm.2]
end
theorem znK {op:Bool}:∀(l:List zac) (f:zac),zer op l→shp op f→shp op (l.foldl (fun a x=>zac.mk 5 ⟨[]⟩ [] [a,x]) f)
 |[],f,_,h=>h
 |x::l,f,hl,h=>by
  rw[zer]at hl
  rw[List.foldl_cons]
  refine znK l _ hl.2 ?_
  rw[shp,zer,zer,zer]
  refine⟨⟨rfl,rfl,fun h2=>absurd (show false=true from h2) (by decide),fun _=>rfl⟩,h,hl.1,trivial⟩
theorem zn4 {op:Bool}:∀l:List zac,zer op l↔∀f∈l,shp op f
 |[]=>by rw[zer];simp
 |f::l=>by rw[zer,zn4 l];simp
theorem zqi {i:Nat}(h:i<3):zaq (zqh i)=true:=by
 have:i=0∨i=1∨i=2:=by omega
 unfold zqh
 rw[zdQ (by omega)]
 rcases this with rfl|rfl|rfl<;>decide
theorem zpG {v nm:Str}{ws:List Str}(hn:zaq nm=true)(h3:ws.length≤3):shp false (zcK v nm ws):=by
 unfold zcK
 rw[shp,zer,zer]
 refine⟨⟨rfl,rfl,fun _ h=>absurd (.inr rfl) h,fun h=>?_⟩,znK _ _ ((zn4 _).2 fun g hg=>?_) ?_,trivial⟩
 ·exact absurd h (by simp[named,zax])
 ·obtain⟨i,hi,rfl⟩:=List.mem_map.1 hg
  have hi:=List.mem_range.1 hi
  rw[shp,zer]
  refine⟨⟨rfl,rfl,fun _ _=>zqi (by omega),fun h=>?_⟩,trivial⟩
  exact absurd h (by simp[named,zax])
 ·rw[shp,zer]
  refine⟨⟨rfl,rfl,fun _ _=>hn,fun h=>?_⟩,trivial⟩
  exact absurd h (by simp[named,zax])
mutual
theorem zlD {v:Str}{ps:List Str}:∀f:zac,shp false f→shp false (zat (zaS v ps) f)
 | .mk k nm ws s,h=>by
  rw[shp]at h
  rw[zat,zcp]
  split
  ·rename_i hc
   obtain⟨rfl,h0,_⟩:=hc
   have h3:ws.length≤3:=by
    have:=h.1.2.1
    rw[show zda (.mk 2 nm ws s)=decide (ws.length≤3)from rfl]at this
    exact of_decide_eq_true this
   exact zpG (h.1.2.2.1 rfl (by simp[isQ,zax])) h3
  ·rw[shp]
   exact⟨zhI h.1 rfl (by rw[za7,List.length_map]) (fun _=>rfl) fun _=>trivial,ziV s h.2⟩
theorem ziV {v:Str}{ps:List Str}:∀fs:List zac,zer false fs→zer false (zan (zaS v ps) fs)
 |[],_=>by rw[zan,zer];trivial
 |f::fs,h=>by
  rw[zer]at h
  rw[zan,zer]
  exact⟨zlD f h.1,ziV fs h.2⟩
end
mutual
theorem zhZ (ps:List Str):∀f:zac,zbS (fun w=>zaq w=true) f→zbS (fun w=>zaq w=true∨w=qM) (zat (zaS qM ps) f)
 | .mk k nm ws s,h=>by
  rw[zbS]at h
  rw[zat,zcp]
  split
  ·unfold zcK
   rw[zbS,zaI,zaI]
   refine⟨by simp,fun _=> .inr rfl,ziF _ 5 (by decide) ((zg3 _ _).2 fun g hg=>?_),trivial⟩
   rcases List.mem_cons.1 hg with rfl|hg
   ·rw[zbS,zaI]
    exact⟨fun w hw=> .inr (List.mem_singleton.1 hw),fun e=>absurd e (by decide),trivial⟩
   ·obtain⟨i,hi,rfl⟩:=List.mem_map.1 hg
    rw[zbS,zaI]
    refine⟨fun w hw=>?_,fun e=>absurd e (by decide),trivial⟩
    simp only[List.mem_cons,List.not_mem_nil,or_false]at hw
    rcases hw with rfl|rfl
    ·exact .inr rfl
    ·exact .inl (h.1 _ (zjz (List.mem_range.1 hi)))
  ·rw[zbS]
   exact⟨fun w hw=> .inl (h.1 w hw),fun hq=> .inl (h.2.1 hq),zgu ps s h.2.2⟩
theorem zgu (ps:List Str):∀fs:List zac,zaI (fun w=>zaq w=true) fs→zaI (fun w=>zaq w=true∨w=qM) (zan (zaS qM ps) fs)
 |[],_=>by rw[zan,zaI];trivial
 |f::fs,h=>by
  rw[zaI]at h
  rw[zan,zaI]
  exact⟨zhZ ps f h.1,zgu ps fs h.2⟩
end
theorem zFf {f:zac}{ps:List Str}(h:(zaz false f).code=0)(hf:zjw (zat (zaS qM ps) f)=true)(hm:zjK f=false):
  zaz false (zb0 (zat (zaS qM ps) f) [])=⟨0,0⟩∧zjw (zat zbj (zb0 (zat (zaS qM ps) f) []))=true∧zb0 (zat zbj (zb0 (zat (zaS qM ps) f) [])) []=zb0 f []:=by
 have hn:=zhd h
 have hs:=ziu h
 refine⟨zsG (zlD f hs) (zhb (fun f h=>zmM h) f (zb1 h)) hf fun x hx=>?_,?_,?_⟩
 ·rcases zjj _ _ x (zhZ ps f hn) hx with h1|h1
  ·exact h1
  ·exact absurd h1 (ziT ps f [] x hn hx)
 ·have h1:=of_decide_eq_true (show decide ((zat (zaS qM ps) f).size≤200∧(zat (zaS qM ps) f).depth≤40)=true from hf)
  have h2:=zgh (c:=0) (fun f=>zle f) (zb0 (zat (zaS qM ps) f) [])
  have h3:=zfe (fun f=>zjJ f) (zb0 (zat (zaS qM ps) f) [])
  rw[zg8]at h2
  rw[zgg]at h3
  unfold zjw
  exact decide_eq_true ⟨by omega,by omega⟩
 ·have h1:=zha (fun E f f' h=>zmC h) _ _ [] (zqn (zat (zaS qM ps) f))
  rw[zhY f hs (zkd (fun w hw e=>by rw[e]at hw;exact absurd hw (by decide)) f hn) hm]at h1
  exact(zqa h1).symm
end Go.Abs

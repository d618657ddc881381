import Derived.Test.YtkkffhphodngkaaDoorEV
set_option linter.unusedSimpArgs false
namespace Go.Abs
open Go
abbrev PE:=List (Str×Str)
def zmD:PE→Str→Str→Prop
 |[],w,w'=>w=w'
 |(a,b)::E,w,w'=>(w=a∧w'=b)∨(w≠a∧w'≠b∧zmD E w w')
def zcm (E:PE):List Str→List Str→Prop
 |[],[]=>True
 |w::ws,w'::ws'=>zmD E w w'∧zcm E ws ws'
 |[],_::_=>False
 |_::_,[]=>False
mutual
def Aeq:PE→zaf→zaf→Prop
 |E,.mk k nm ws s,.mk k' nm' ws' s'=>k=k'∧(¬isQ k→nm=nm')∧zcm E ws ws'∧zch (if isQ k then(nm,nm')::E else E) s s'
def zch:PE→List zaf→List zaf→Prop
 |_,[],[]=>True
 |E,f::fs,g::gs=>Aeq E f g∧zch E fs gs
 |_,[],_::_=>False
 |_,_::_,[]=>False
end
theorem zgn {E:PE}:∀{a b:List Str},zcm E a b→a.length=b.length
 |[],[],_=>rfl
 |_::a,_::b,h=>by rw[zcm]at h;rw[List.length_cons,List.length_cons,zgn h.2]
 |[],_::_,h=>by rw[zcm]at h;exact h.elim
 |_::_,[],h=>by rw[zcm]at h;exact h.elim
theorem zgm {E:PE}:∀{a b:List Str} {i:Nat},zcm E a b→i<a.length→zmD E (a.getD i ⟨[]⟩) (b.getD i ⟨[]⟩)
 |[],[],i,_,hi=>by simp at hi
 |w::a,w'::b,0,h,_=>by rw[zcm]at h;exact h.1
 |w::a,w'::b,i+1,h,hi=>by rw[zcm]at h;exact zgm (i:=i) h.2 (by simpa using hi)
 |[],_::_,_,h,_=>by rw[zcm]at h;exact h.elim
 |_::_,[],_,h,_=>by rw[zcm]at h;exact h.elim
theorem zjE {E:PE}:∀{a b:List zaf},zch E a b→a.length=b.length
 |[],[],_=>rfl
 |_::a,_::b,h=>by rw[zch]at h;rw[List.length_cons,List.length_cons,zjE h.2]
 |[],_::_,h=>by rw[zch]at h;exact h.elim
 |_::_,[],h=>by rw[zch]at h;exact h.elim
theorem znP {E:PE}:∀{a b c d:List zaf},zch E a b→zch E c d→zch E (a++c) (b++d)
 |[],[],_,_,_,h=>h
 |_::a,_::b,_,_,h,h2=>by rw[zch]at h;rw[List.cons_append,List.cons_append,zch];exact⟨h.1,znP h.2 h2⟩
 |[],_::_,_,_,h,_=>by rw[zch]at h;exact h.elim
 |_::_,[],_,_,h,_=>by rw[zch]at h;exact h.elim
theorem zv1 {E:PE}:Aeq E zom zom:=by
 unfold zom
 rw[Aeq,if_neg (by decide)]
 exact⟨rfl,fun _=>rfl,by rw[zcm];trivial,by rw[zch];trivial⟩
theorem zdJ {E:PE}:∀{a b:List zaf} (i:Nat),zch E a b→Aeq E (a.getD i zom) (b.getD i zom)
 |[],[],i,_=>by simp only[List.getD_nil];exact zv1
 |_::a,_::b,0,h=>by rw[zch]at h;exact h.1
 |_::a,_::b,i+1,h=>by rw[zch]at h;exact zdJ i h.2
 |[],_::_,_,h=>by rw[zch]at h;exact h.elim
 |_::_,[],_,h=>by rw[zch]at h;exact h.elim
theorem zi0 {E:PE}{f f':zaf}:Aeq E f f'↔f.kind=f'.kind∧(¬isQ f.kind→f.name=f'.name)∧zcm E f.words f'.words∧zch (if isQ f.kind then(f.name,f'.name)::E else E) f.subs f'.subs:=by
 cases f;cases f';rw[Aeq];rfl
theorem zmE {E:PE}{s s':Str→Str}(h:∀w w',zmD E w w'→s w=s' w'):∀{a b:List Str},zcm E a b→a.map s=b.map s'
 |[],[],_=>rfl
 |w::a,w'::b,hw=>by rw[zcm]at hw;rw[List.map_cons,List.map_cons,h _ _ hw.1,zmE h hw.2]
 |[],_::_,h=>by rw[zcm]at h;exact h.elim
 |_::_,[],h=>by rw[zcm]at h;exact h.elim
mutual
theorem zq6 {g:Nat→Str×Nat}:∀(f f':zaf) (E:PE) (env env':List zbU) (n:Nat),Aeq E f f'→(∀w w',zmD E w w'→lkp env w=lkp env' w')→ren g f env n=ren g f' env' n
 | .mk k nm ws s,.mk k' nm' ws' s',E,env,env',n,h,he=>by
  rw[Aeq]at h
  obtain⟨rfl,h2,h3,h4⟩:=h
  rw[ren,ren,zmE he h3]
  by_cases hq:isQ k
  ·rw[if_pos hq]at h4
   simp only[if_pos hq]
   rw[zjM (g:=g) s s' ((nm,nm')::E) (env++[(⟨nm,(g n).1⟩:zbU)]) (env'++[(⟨nm',(g n).1⟩:zbU)]) (g n).2 h4 fun w w' hw=>?_]
   rw[zeZ,zeZ]
   rw[zmD]at hw
   rcases hw with⟨rfl,rfl⟩|⟨h5,h6,h7⟩
   ·rw[if_pos rfl,if_pos rfl]
   ·rw[if_neg (fun e=>h5 e.symm),if_neg (fun e=>h6 e.symm)]
    exact he w w' h7
  ·rw[if_neg hq]at h4
   simp only[if_neg hq]
   rw[zjM (g:=g) s s' E env env' n h4 he,h2 hq]
theorem zjM {g:Nat→Str×Nat}:∀(f f':List zaf) (E:PE) (env env':List zbU) (n:Nat),zch E f f'→(∀w w',zmD E w w'→lkp env w=lkp env' w')→zbX g f env n=zbX g f' env' n
 |[],[],E,env,env',n,_,_=>by rw[zbX,zbX]
 |f::fs,f'::fs',E,env,env',n,h,he=>by
  rw[zch]at h
  rw[zbX,zbX,zq6 f f' E env env' n h.1 he]
  rw[zjM fs fs' E env env' _ h.2 he]
 |[],_::_,_,_,_,_,h,_=>by rw[zch]at h;exact h.elim
 |_::_,[],_,_,_,_,h,_=>by rw[zch]at h;exact h.elim
end
theorem zhd {E:PE}{bd bd':List Str}(hb:∀w w',zmD E w w'→(w∈bd↔w'∈bd')∧(w∉bd→w=w')):∀{a b:List Str},zcm E a b→a.filter (fun w=>decide (w∉bd))=b.filter (fun w=>decide (w∉bd'))
 |[],[],_=>rfl
 |w::a,w'::b,hw=>by
  rw[zcm]at hw
  rw[List.filter_cons,List.filter_cons,zhd hb hw.2]
  obtain⟨h1,h2⟩:=hb w w' hw.1
  by_cases h:w∈bd
  ·rw[if_neg (by simpa using h),if_neg (by simpa using h1.1 h)]
  ·have e:=h2 h
   rw[if_pos (by simpa using h),if_pos (by simpa using fun h3=>h (h1.2 h3)),e]
 |[],_::_,h=>by rw[zcm]at h;exact h.elim
 |_::_,[],h=>by rw[zcm]at h;exact h.elim
mutual
theorem zq5:∀(f f':zaf) (E:PE) (bd bd':List Str),Aeq E f f'→(∀w w',zmD E w w'→(w∈bd↔w'∈bd')∧(w∉bd→w=w'))→cst f bd=cst f' bd'
 | .mk k nm ws s,.mk k' nm' ws' s',E,bd,bd',h,he=>by
  rw[Aeq]at h
  obtain⟨rfl,h2,h3,h4⟩:=h
  rw[cst,cst,zhd he h3]
  by_cases hq:isQ k
  ·rw[if_pos hq]at h4
   rw[if_pos hq,if_pos hq]
   rw[zjL s s' ((nm,nm')::E) (bd++[nm]) (bd'++[nm']) h4 fun w w' hw=>?_]
   rw[zmD]at hw
   simp only[List.mem_append,List.mem_singleton]
   rcases hw with⟨rfl,rfl⟩|⟨h5,h6,h7⟩
   ·exact⟨⟨fun _=> .inr rfl,fun _=> .inr rfl⟩,fun h=>absurd (.inr rfl) h⟩
   ·obtain⟨h8,h9⟩:=he w w' h7
    refine⟨⟨fun h=>?_,fun h=>?_⟩,fun h=>h9 fun h0=>h (.inl h0)⟩
    ·rcases h with h|h
     ·exact .inl (h8.1 h)
     ·exact absurd h h5
    ·rcases h with h|h
     ·exact .inl (h8.2 h)
     ·exact absurd h h6
  ·rw[if_neg hq]at h4
   rw[if_neg hq,if_neg hq,zjL s s' E bd bd' h4 he]
theorem zjL:∀(f f':List zaf) (E:PE) (bd bd':List Str),zch E f f'→(∀w w',zmD E w w'→(w∈bd↔w'∈bd')∧(w∉bd→w=w'))→zb8 f bd=zb8 f' bd'
 |[],[],E,bd,bd',_,_=>by rw[zb8,zb8]
 |f::fs,f'::fs',E,bd,bd',h,he=>by
  rw[zch]at h
  rw[zb8,zb8,zq5 f f' E bd bd' h.1 he,zjL fs fs' E bd bd' h.2 he]
 |[],_::_,_,_,_,h,_=>by rw[zch]at h;exact h.elim
 |_::_,[],_,_,_,h,_=>by rw[zch]at h;exact h.elim
end
theorem zq4 {f f':zaf}(h:Aeq [] f f'):zcc f []=zcc f' []:=by
 have h1:cst f []=cst f' []:=zq5 f f' [] [] [] h fun w w' hw=>⟨by simp,fun _=>hw⟩
 unfold zcc zbH
 rw[h1,zq6 f f' [] [] [] 0 h fun w w' hw=>by rw[zkm,zkm];exact hw]
mutual
theorem zsw {used:List Str}:∀(f:zaf) (E:PE) (env:List zbU) (bd:List Str) (n:Nat),(∀w,w∈bd∨w∈used→zmD E w (lkp env w)∧(lkp env w∈used∨∃j,j<n∧lkp env w=ziM j))→(∀x∈cst f bd,x∈used)→Aeq E f (ren (vg used) f env n).1
 | .mk k nm ws s,E,env,bd,n,he,hc=>by
  rw[cst]at hc
  have hw:zcm E ws (ws.map (lkp env)):=by
   have:∀l:List Str,(∀w∈l,w∈ws)→zcm E l (l.map (lkp env)):=by
    intro l
    induction l with
    |nil=>intro _;rw[List.map_nil,zcm];trivial
    |cons w l ih=>
     intro hl
     rw[List.map_cons,zcm]
     refine⟨(he w ?_).1,ih fun x hx=>hl x (List.mem_cons_of_mem _ hx)⟩
     by_cases hb:w∈bd
     ·exact .inl hb
     ·exact .inr (hc w (List.mem_append_left _ (List.mem_filter.2 ⟨hl w (by simp),by simpa using hb⟩)))
   exact this ws fun _ h=>h
  rw[ren]
  by_cases hq:isQ k
  ·rw[if_pos hq]at hc
   rw[if_pos hq,Aeq,if_pos hq]
   obtain⟨a1,_,a3,_⟩:=ze3 used n
   refine⟨rfl,fun h=>absurd hq h,hw,zkz s _ _ (bd++[nm]) _ (fun w hw2=>?_) fun x hx=>hc x (List.mem_append_right _ hx)⟩
   rw[zeZ,zmD]
   by_cases e:nm=w
   ·rw[if_pos e]
    exact⟨.inl ⟨e.symm,rfl⟩,.inr ⟨ze9 used n,Nat.lt_succ_self _,rfl⟩⟩
   ·rw[if_neg e]
    have hw3:w∈bd∨w∈used:=by
     rcases hw2 with h|h
     ·rcases List.mem_append.1 h with h|h
      ·exact .inl h
      ·exact absurd (List.mem_singleton.1 h).symm e
     ·exact .inr h
    obtain⟨h1,h2⟩:=he w hw3
    refine⟨.inr ⟨fun h=>e h.symm,fun h=>?_,h1⟩,?_⟩
    ·rw[h]at h2
     rcases h2 with h2|⟨j,hj,h2⟩
     ·exact a3 h2
     ·have:=zkM h2;omega
    ·rcases h2 with h2|⟨j,hj,h2⟩
     ·exact .inl h2
     ·refine .inr ⟨j,?_,h2⟩
      have:(vg used n).2=ze9 used n+1:=rfl
      omega
  ·rw[if_neg hq]at hc
   rw[if_neg hq,Aeq,if_neg hq]
   exact⟨rfl,fun _=>rfl,hw,zkz s _ _ bd _ he fun x hx=>hc x (List.mem_append_right _ hx)⟩
theorem zkz {used:List Str}:∀(fs:List zaf) (E:PE) (env:List zbU) (bd:List Str) (n:Nat),(∀w,w∈bd∨w∈used→zmD E w (lkp env w)∧(lkp env w∈used∨∃j,j<n∧lkp env w=ziM j))→(∀x∈zb8 fs bd,x∈used)→zch E fs (zbX (vg used) fs env n).1
 |[],E,env,bd,n,_,_=>by rw[zbX,zch];trivial
 |f::fs,E,env,bd,n,he,hc=>by
  rw[zb8]at hc
  rw[zbX,zch]
  refine⟨zsw f E env bd n he fun x hx=>hc x (List.mem_append_left _ hx),zkz fs E env bd _ (fun w hw=>?_) fun x hx=>hc x (List.mem_append_right _ hx)⟩
  obtain⟨h1,h2⟩:=he w hw
  refine⟨h1,?_⟩
  rcases h2 with h2|⟨j,hj,h2⟩
  ·exact .inl h2
  ·have:=((zsy (zxJ used)).1 f env n).1
   exact .inr ⟨j,by omega,h2⟩
end
theorem zrh (f:zaf):Aeq [] f (zcc f []):=by
 refine zsw f [] [] [] 0 (fun w hw=>?_) fun x hx=>(zd0 f x).2 hx
 rw[zkm]
 rcases hw with h|h
 ·simp at h
 ·exact⟨rfl,.inl h⟩
mutual
theorem zlS:∀(f f':zaf) (E:PE),Aeq E f f'→zch E (zfZ f) (zfZ f')
 | .mk k nm ws s,.mk k' nm' ws' s',E,h=>by
  have h0:=h
  rw[Aeq]at h
  obtain⟨rfl,h2,h3,h4⟩:=h
  have hl:=zjE h4
  rw[zfZ,zfZ,←hl]
  by_cases hk:k=5∧s.length=2
  ·rw[if_pos hk,if_pos hk]
   rw[if_neg (by rw[hk.1];decide)]at h4
   exact zqa s s' E h4
  ·rw[if_neg hk,if_neg hk,zch]
   exact⟨h0,by rw[zch];trivial⟩
theorem zqa:∀(f f':List zaf) (E:PE),zch E f f'→zch E (zif f) (zif f')
 |[],[],E,_=>by rw[zif,zch];trivial
 |f::fs,f'::fs',E,h=>by
  rw[zch]at h
  rw[zif,zif]
  exact znP (zlS f f' E h.1) h.2
 |[],_::_,_,h=>by rw[zch]at h;exact h.elim
 |_::_,[],_,h=>by rw[zch]at h;exact h.elim
end
theorem zl5 {E:PE}{f f':zaf}(h:Aeq E f f')(hk:f.kind=9):zch ((f.name,f'.name)::E) (zce f) (zce f'):=by
 rw[zi0,if_pos (show isQ f.kind from .inr hk)]at h
 unfold zce
 exact zlS _ _ _ (zdJ 0 h.2.2.2)
theorem zgj {E:PE}{a b w w':Str}(h:zmD ((a,b)::E) w w'):(w=a↔w'=b)∧(w≠a→zmD E w w'):=by
 rw[zmD]at h
 rcases h with⟨rfl,rfl⟩|⟨h1,h2,h3⟩
 ·exact⟨⟨fun _=>rfl,fun _=>rfl⟩,fun h=>absurd rfl h⟩
 ·exact⟨⟨fun h=>absurd h h1,fun h=>absurd h h2⟩,fun _=>h3⟩
theorem zxd {E:PE}{f f':zaf}(h:Aeq E f f'):okE f=okE f':=by
 have hk:=(zi0.1 h).1
 unfold okE
 rw[←hk]
 by_cases h9:f.kind=9
 ·have hp:=zl5 h h9
  have hh:Aeq ((f.name,f'.name)::E) (zhg f) (zhg f'):=zdJ 0 hp
  rw[zi0]at hh
  obtain⟨e1,_,e2,_⟩:=hh
  rw[←e1,←zgn e2]
  by_cases hl:(zhg f).words.length=1
  ·have:=(zgj (zgm (i:=0) e2 (by omega))).1
   rw[show decide ((zhg f).words.getD 0 ⟨[]⟩=f.name)=decide ((zhg f').words.getD 0 ⟨[]⟩=f'.name)from decide_eq_decide.2 this]
  ·simp[hl]
 ·simp[h9]
theorem zrO {E:PE}{f f' x x':zaf}(h:Aeq ((f.name,f'.name)::E) x x')(i:Nat):znk f i x=znk f' i x':=by
 rw[zi0]at h
 obtain⟨e1,e0,e2,_⟩:=h
 unfold znk
 rw[←e1,←zgn e2]
 by_cases hk:x.kind=2
 ·rw[e0 (by rw[hk];decide)]
  by_cases hl:x.words.length=2
  ·have h0:=(zgj (zgm (i:=0) e2 (by omega))).1
   have h1:=(zgj (zgm (i:=1) e2 (by omega))).1
   rw[show decide (x.words.getD 0 ⟨[]⟩=f.name)=decide (x'.words.getD 0 ⟨[]⟩=f'.name)from decide_eq_decide.2 h0,
    show decide (x.words.getD 1 ⟨[]⟩=f.name)=decide (x'.words.getD 1 ⟨[]⟩=f'.name)from decide_eq_decide.2 h1]
  ·simp[hl]
 ·simp[hk]
theorem zlI {E:PE}{f f':zaf}(h:zch ((f.name,f'.name)::E) (zce f) (zce f')):∀n,zfV f n=zfV f' n
 |0=>by rw[zfV,zfV]
 |n+1=>by rw[zfV,zfV,zlI h n,zrO (zdJ (n+1) h) n]
theorem zqG {E:PE}{f f':zaf}(h:zch ((f.name,f'.name)::E) (zce f) (zce f')){n:Nat}(hg:zfV f n=true):zcm E (zjC f n) (zjC f' n):=by
 unfold zjC
 have:∀l:List Nat,(∀j∈l,j<n)→zcm E (l.map fun j=>((zce f).getD (j+1) zom).words.getD 1 ⟨[]⟩) (l.map fun j=>((zce f').getD (j+1) zom).words.getD 1 ⟨[]⟩):=by
  intro l
  induction l with
  |nil=>intro _;rw[List.map_nil,List.map_nil,zcm];trivial
  |cons j l ih=>
   intro hl
   rw[List.map_cons,List.map_cons,zcm]
   refine⟨?_,ih fun x hx=>hl x (List.mem_cons_of_mem _ hx)⟩
   have hj:=zov hg (hl j (by simp))
   have hx:=zdJ (j+1) h
   unfold znk at hj
   simp only[Bool.and_eq_true,decide_eq_true_eq,Bool.not_eq_true',decide_eq_false_iff_not]at hj
   have hw:=(zi0.1 hx).2.2.1
   exact(zgj (zgm (i:=1) hw (by omega))).2 hj.2
 exact this _ fun j hj=>List.mem_range.1 hj
theorem znt {E:PE}{f f':zaf}(h:Aeq E f f'):Aeq E (zbv f) (zbv f'):=by
 have ho:=zxd h
 by_cases ht:okE f=true
 ·have hk:=(zkr ht).1
  have hp:=zl5 h hk
  have hl:=zjE hp
  have hm:zcN f=zcN f':=by
   unfold zcN
   rw[ho,hl,zlI hp]
  unfold zbv
  rw[←hm,←hl]
  by_cases hmt:zcN f=true
  ·rw[if_pos hmt,if_pos hmt,Aeq,if_neg (by decide)]
   have hh:=zdJ 0 hp
   have hh2:=zi0.1 hh
   refine⟨rfl,fun _=>hh2.2.1 ?_,zqG hp ?_,by rw[zch];trivial⟩
   ·rw[show((zce f).getD 0 zom).kind=2 from(zkr ht).2];decide
   ·unfold zcN at hmt
    simp only[Bool.and_eq_true]at hmt
    exact hmt.2
  ·rw[if_neg hmt,if_neg hmt];exact h
 ·have h1:¬zcN f=true:=fun hm=>ht (ze1 hm)
  have h2:¬zcN f'=true:=fun hm=>ht (by rw[ho];exact ze1 hm)
  unfold zbv
  rw[if_neg h1,if_neg h2];exact h
mutual
theorem zhQ {by':zaf→zaf}(hb:∀E f f',Aeq E f f'→Aeq E (by' f) (by' f')):∀(f f':zaf) (E:PE),Aeq E f f'→Aeq E (zav by' f) (zav by' f')
 | .mk k nm ws s,.mk k' nm' ws' s',E,h=>by
  rw[Aeq]at h
  rw[zav,zav]
  refine hb _ _ _ ?_
  rw[Aeq]
  exact⟨h.1,h.2.1,h.2.2.1,zgU hb s s' _ h.2.2.2⟩
theorem zgU {by':zaf→zaf}(hb:∀E f f',Aeq E f f'→Aeq E (by' f) (by' f')):∀(f f':List zaf) (E:PE),zch E f f'→zch E (zap by' f) (zap by' f')
 |[],[],E,_=>by rw[zap,zch];trivial
 |f::fs,f'::fs',E,h=>by
  rw[zch]at h
  rw[zap,zap,zch]
  exact⟨zhQ hb f f' E h.1,zgU hb fs fs' E h.2⟩
 |[],_::_,_,h=>by rw[zch]at h;exact h.elim
 |_::_,[],_,h=>by rw[zch]at h;exact h.elim
end
mutual
theorem zfF {by':zaf→zaf}(hb:∀f,(by' f).depth≤f.depth):∀f:zaf,(zav by' f).depth≤f.depth
 | .mk k nm ws s=>by
  rw[zav]
  refine Nat.le_trans (hb _) ?_
  rw[zaf.depth,zaf.depth]
  have:=zfa hb s
  omega
theorem zfa {by':zaf→zaf}(hb:∀f,(by' f).depth≤f.depth):∀fs:List zaf,zaf.depths (zap by' fs)≤zaf.depths fs
 |[]=>by rw[zap];exact Nat.le_refl _
 |f::fs=>by
  rw[zap,zaf.depths,zaf.depths]
  have h1:=zfF hb f
  have h2:=zfa hb fs
  omega
end
theorem zrw (f:zaf):1≤f.depth:=by cases f;rw[zaf.depth];omega
theorem zko (f:zaf):(zbv f).depth≤f.depth:=by
 unfold zbv
 split
 ·have:=zrw f;simp only[zaf.depth,zaf.depths];omega
 ·exact Nat.le_refl _
mutual
theorem zme (g:Nat→Str×Nat):∀(f:zaf) (env:List zbU) (n:Nat),(ren g f env n).1.depth=f.depth
 | .mk k nm ws s,env,n=>by
  rw[ren]
  split
  ·rw[zaf.depth,zaf.depth,zgJ g s]
  ·rw[zaf.depth,zaf.depth,zgJ g s]
theorem zgJ (g:Nat→Str×Nat):∀(fs:List zaf) (env:List zbU) (n:Nat),zaf.depths (zbX g fs env n).1=zaf.depths fs
 |[],env,n=>by rw[zbX]
 |f::fs,env,n=>by rw[zbX,zaf.depths,zaf.depths,zme g f,zgJ g fs]
end
theorem zgS (f:zaf)(env:List zbU):(zcc f env).depth=f.depth:=zme _ f env 0
theorem zmY (f:zaf)(env:List zbU):zka (zcc f env)=zka f:=by unfold zka;rw[zhP,zgS]
def zuG (op:Bool)(f:zaf):Prop:=(f.subs.length:Int)=zbl op f∧zdn f=true∧(named f=true→¬isQ f.kind→zax f.name=true)∧(named f=false→f.name=⟨[]⟩)
mutual
def shp (op:Bool):zaf→Prop
 | .mk k nm w s=>zuG op (.mk k nm w s)∧zeO op s
def zeO (op:Bool):List zaf→Prop
 |[]=>True
 |f::fs=>shp op f∧zeO op fs
end
theorem zuF {op:Bool}{f:zaf}{d:Int}{n:Nat}(hs:zuG op f)(hn:n+1≤200)(hd:d≤40)(hw:∀w∈f.words,zax w=true)(hq:isQ f.kind→zax f.name=true):zdj op f d n=0:=by
 obtain⟨h1,h2,h3,h4⟩:=hs
 unfold zdj
 rw[if_neg (by omega),if_neg (by omega),if_neg (by rw[Decidable.not_not];exact⟨h1,h2⟩),if_neg,if_neg,if_neg]
 ·rw[show f.words.all zax=true from List.all_eq_true.2 hw];simp
 ·rintro⟨h5,h6⟩;exact h6 (h4 h5)
 ·rintro⟨h5,h6⟩
  by_cases hk:isQ f.kind
  ·rw[hq hk]at h6;cases h6
  ·rw[h3 h5 hk]at h6;cases h6
mutual
theorem zvp {op:Bool}:∀(f:zaf) (d:Int) (n:Nat),shp op f→zb5 (fun w=>zax w=true) f→n+f.size≤200→d+f.depth≤41→chk op f d n=(⟨0,0⟩,n+f.size)
 | .mk k nm ws s,d,n,hs,ha,hn,hd=>by
  rw[shp]at hs
  rw[zb5]at ha
  rw[zaf.size]at hn ⊢
  rw[zaf.depth]at hd
  have:=zuF (d:=d) (n:=n) hs.1 (by omega) (by omega) ha.1 ha.2.1
  rw[chk,if_neg (by simp[this]),zrq s (d+1) (n+1) hs.2 ha.2.2 (by omega) (by omega)]
  rw[show n+1+zaf.sizes s=n+(zaf.sizes s+1) by omega]
theorem zrq {op:Bool}:∀(fs:List zaf) (d:Int) (n:Nat),zeO op fs→zaN (fun w=>zax w=true) fs→n+zaf.sizes fs≤200→d+zaf.depths fs≤41→zek op fs d n=(⟨0,0⟩,n+zaf.sizes fs)
 |[],d,n,_,_,_,_=>by rw[zek,zaf.sizes];rfl
 |f::fs,d,n,hs,ha,hn,hd=>by
  rw[zeO]at hs
  rw[zaN]at ha
  rw[zaf.sizes]at hn ⊢
  rw[zaf.depths]at hd
  rw[zek,zvp f d n hs.1 ha.1 (by omega) (by omega),if_neg (by simp),zrq fs d _ hs.2 ha.2 (by omega) (by omega)]
  rw[Nat.add_assoc]
end
theorem zrj {op:Bool}{f:zaf}(hs:shp op f)(ha:zb5 (fun w=>zax w=true) f)(hf:zka f=true):zaA op f=⟨0,0⟩:=by
 unfold zka at hf
 have hf:=of_decide_eq_true hf
 unfold zaA
 rw[zvp f 1 0 hs ha (by omega) (by omega)]
mutual
theorem zro {op:Bool}:∀(f:zaf) (d:Int) (n:Nat),(chk op f d n).1.code=0→shp op f∧d+f.depth≤41
 | .mk k nm w s,d,n,h=>by
  rw[chk]at h
  split at h
  ·rename_i h1;exact absurd h h1
  ·rename_i h1
   have h1:=Decidable.not_not.1 h1
   have h2:=zdk h1
   have h3:=zn8 s _ _ h
   have hd:d≤40:=by
    unfold zdj at h1
    split at h1
    ·simp at h1
    ·omega
   rw[shp,zaf.depth]
   exact⟨⟨⟨h2.2.2.2.2,h2.2.2.2.1,fun hn _=>h2.2.1 hn,h2.2.2.1⟩,h3.1⟩,by have:=h3.2;omega⟩
theorem zn8 {op:Bool}:∀(fs:List zaf) (d:Int) (n:Nat),(zek op fs d n).1.code=0→zeO op fs∧(zaf.depths fs=0∨d+zaf.depths fs≤41)
 |[],d,n,_=>by rw[zeO,zaf.depths];exact⟨trivial,.inl rfl⟩
 |f::fs,d,n,h=>by
  rw[zek]at h
  split at h
  ·rename_i h1;exact absurd h h1
  ·rename_i h1
   have h2:=zro f d n (Decidable.not_not.1 h1)
   have h3:=zn8 fs d _ h
   rw[zeO,zaf.depths]
   exact⟨⟨h2.1,h3.1⟩,.inr (by have:=h2.2;rcases h3.2 with h|h<;>omega)⟩
end
theorem zi9 {op:Bool}{f:zaf}(h:(zaA op f).code=0):shp op f:=(zro f 1 0 h).1
theorem ziq {op:Bool}{k:Int}{nm nm':Str}{w w':List Str}{s s':List zaf}(h:zuG op (.mk k nm w s))(hl:w'.length=w.length)(hs:s'.length=s.length)(hn:¬isQ k→nm'=nm)(_hq:isQ k→True):zuG op (.mk k nm' w' s'):=by
 obtain⟨h1,h2,h3,h4⟩:=h
 refine⟨?_,?_,fun h5 h6=>?_,fun h5=>?_⟩
 ·simp only[zaW]at h1 ⊢
  rw[hs,h1];rfl
 ·have:zdn (.mk k nm' w' s')=zdn (.mk k nm w s):=by
   show(if k=2 then decide (w'.length≤3)else if k=3 then decide (w'.length=2)else decide (w'.length=0))=_
   rw[hl];rfl
  rw[this];exact h2
 ·simp only[zaz,zeI]at h6 h3 ⊢
  rw[hn h6];exact h3 h5 h6
 ·have h6:=h4 h5
  simp only[zeI]at h6 ⊢
  have:¬isQ k:=by
   intro hq
   have:named (.mk k nm' w' s')=true:=by
    unfold named
    refine decide_eq_true ?_
    simp only[zaz]
    rcases hq with e|e<;>omega
   rw[h5]at this;cases this
  rw[hn this];exact h6
mutual
theorem zsz {op:Bool}(g:Nat→Str×Nat):∀(f:zaf) (env:List zbU) (n:Nat),shp op f→shp op (ren g f env n).1
 | .mk k nm ws s,env,n,h=>by
  rw[shp]at h
  rw[ren]
  split
  ·rename_i hq
   rw[shp]
   exact⟨ziq h.1 (List.length_map _) (zeh g _ s _) (fun h=>absurd hq h) fun _=>trivial,zkC g s _ _ h.2⟩
  ·rw[shp]
   exact⟨ziq h.1 (List.length_map _) (zeh g _ s _) (fun _=>rfl) fun _=>trivial,zkC g s _ _ h.2⟩
theorem zkC {op:Bool}(g:Nat→Str×Nat):∀(fs:List zaf) (env:List zbU) (n:Nat),zeO op fs→zeO op (zbX g fs env n).1
 |[],env,n,_=>by rw[zbX,zeO];trivial
 |f::fs,env,n,h=>by
  rw[zeO]at h
  rw[zbX,zeO]
  exact⟨zsz g f _ _ h.1,zkC g fs _ _ h.2⟩
end
theorem zeb {n:Nat}(h:n<10):zco n=[UInt8.ofNat (48+n)]:=by unfold zco;rw[Lib.decDigits,dif_pos h]
theorem zry:∀(k u:Nat),u<10^(k+1)→(zco u).length≤k+1∧∀c∈zco u,48≤c.toNat∧c.toNat≤57:=by
 intro k
 induction k with
 |zero=>
  intro u h
  rw[zeb (by omega)]
  refine⟨by simp,fun c hc=>?_⟩
  rw[List.mem_singleton.1 hc,UInt8.toNat_ofNat',Nat.mod_eq_of_lt (by omega)];omega
 |succ k ih=>
  intro u h
  rcases Nat.lt_or_ge u 10 with h1|h1
  ·rw[zeb h1]
   refine⟨by simp,fun c hc=>?_⟩
   rw[List.mem_singleton.1 hc,UInt8.toNat_ofNat',Nat.mod_eq_of_lt (by omega)];omega
  ·have h2:=ih (u / 10) (by rw[Nat.pow_succ]at h;omega)
   have e:zco u=zco (u / 10)++[UInt8.ofNat (48+u % 10)]:=by
    unfold zco
    rw[Lib.decDigits,dif_neg (by omega)]
   rw[e,List.length_append,List.length_singleton]
   refine⟨by omega,fun c hc=>?_⟩
   rcases List.mem_append.1 hc with hc|hc
   ·exact h2.2 c hc
   ·rw[List.mem_singleton.1 hc,UInt8.toNat_ofNat',Nat.mod_eq_of_lt (by omega)];omega
theorem ztf {j:Nat}(h:j<10^20):zax (ziM j)=true:=by
 have h1:=zry 19 j h
 refine zil ?_ ?_ ?_ fun i hi=>?_
 ·simp[ziM]
 ·simp only[ziM,List.length_cons];omega
 ·simp[ziM,zhh]
 ·simp only[ziM,List.length_cons]at hi ⊢
  cases i with
  |zero=>show okc (118:UInt8);decide
  |succ i=>
   rw[List.getD_cons_succ]
   have hm:(zco j).getD i 0∈zco j:=by
    rw[List.getD_eq_getElem?_getD,List.getElem?_eq_getElem (by omega)]
    exact List.getElem_mem _
   have:=h1.2 _ hm
   exact .inr (.inl ⟨by omega,by omega⟩)
mutual
theorem zmf {used:List Str}{B:Nat}{p:Str→Prop}(hv:∀j,j<B→p (ziM j)):∀(f:zaf) (env:List zbU) (bd:List Str) (n:Nat),n+(used.length+1)*f.size≤B→(∀w∈bd,p (lkp env w))→(∀w,w∉bd→lkp env w=w)→(∀x∈cst f bd,p x)→zb5 p (ren (vg used) f env n).1
 | .mk k nm ws s,env,bd,n,hn,h1,h2,hc=>by
  rw[zaf.size,Nat.mul_add,Nat.mul_one]at hn
  rw[cst]at hc
  have hw:∀w∈ws.map (lkp env),p w:=fun w hw=>by
   obtain⟨x,hx,rfl⟩:=List.mem_map.1 hw
   by_cases hb:x∈bd
   ·exact h1 x hb
   ·rw[h2 x hb]
    exact hc x (List.mem_append_left _ (List.mem_filter.2 ⟨hx,by simpa using hb⟩))
  have hg:=ze3 used n
  rw[ren]
  by_cases hq:isQ k
  ·rw[if_pos hq]at hc
   have hvn:p (ziM (ze9 used n)):=hv _ (by omega)
   rw[if_pos hq,zb5]
   refine⟨hw,fun _=>hvn,zgK hv s _ (bd++[nm]) _ ?_ (fun w hw2=>?_) (fun w hw2=>?_) fun x hx=>hc x (List.mem_append_right _ hx)⟩
   ·show ze9 used n+1+_≤B
    omega
   ·rw[zeZ]
    by_cases e:nm=w
    ·rw[if_pos e];exact hvn
    ·rw[if_neg e]
     rcases List.mem_append.1 hw2 with h|h
     ·exact h1 w h
     ·exact absurd (List.mem_singleton.1 h).symm e
   ·rw[zeZ,if_neg (fun e=>hw2 (List.mem_append_right _ (List.mem_singleton.2 e.symm)))]
    exact h2 w fun h=>hw2 (List.mem_append_left _ h)
  ·rw[if_neg hq]at hc
   rw[if_neg hq,zb5]
   exact⟨hw,fun h=>absurd h hq,zgK hv s _ bd _ (by omega) h1 h2 fun x hx=>hc x (List.mem_append_right _ hx)⟩
theorem zgK {used:List Str}{B:Nat}{p:Str→Prop}(hv:∀j,j<B→p (ziM j)):∀(fs:List zaf) (env:List zbU) (bd:List Str) (n:Nat),n+(used.length+1)*zaf.sizes fs≤B→(∀w∈bd,p (lkp env w))→(∀w,w∉bd→lkp env w=w)→(∀x∈zb8 fs bd,p x)→zaN p (zbX (vg used) fs env n).1
 |[],env,bd,n,_,_,_,_=>by rw[zbX,zaN];trivial
 |f::fs,env,bd,n,hn,h1,h2,hc=>by
  rw[zaf.sizes,Nat.mul_add]at hn
  rw[zb8]at hc
  rw[zbX,zaN]
  have:=((zsy (zxJ used)).1 f env n).2
  exact⟨zmf hv f env bd n (by omega) h1 h2 fun x hx=>hc x (List.mem_append_left _ hx),zgK hv fs env bd _ (by omega) h1 h2 fun x hx=>hc x (List.mem_append_right _ hx)⟩
end
mutual
theorem zgw:∀(f:zaf) (bd:List Str),f.fit=true→(cst f bd).length≤1000*f.size
 | .mk k nm ws s,bd,h=>by
  rw[zaf.fit]at h
  simp only[Bool.and_eq_true,decide_eq_true_eq]at h
  rw[cst,List.length_append,zaf.size]
  have h1:=List.length_filter_le (fun w=>decide (w∉bd)) ws
  have h2:=zok s (if isQ k then bd++[nm]else bd) h.2
  omega
theorem zok:∀(fs:List zaf) (bd:List Str),zaf.fits fs=true→(zb8 fs bd).length≤1000*zaf.sizes fs
 |[],bd,_=>by rw[zb8];simp
 |f::fs,bd,h=>by
  rw[zaf.fits,Bool.and_eq_true]at h
  rw[zb8,List.length_append,zaf.sizes]
  have h1:=zgw f bd h.1
  have h2:=zok fs bd h.2
  omega
end
theorem zmZ {f:zaf}(hf:f.fit=true)(hs:f.size≤200)(hc:∀x∈cst f [],zax x=true):zb5 (fun w=>zax w=true) (zcc f []):=by
 have h1:=zgw f [] hf
 have h2:=zgg f
 refine zmf (B:=10^20) (fun j hj=>ztf hj) f [] [] 0 ?_ (by simp) (fun w _=>zkm w) hc
 show 0+((zbH f).length+1)*f.size≤10^20
 have h3:((zbH f).length+1)*f.size≤200001*200:=Nat.mul_le_mul (by omega) hs
 omega
theorem ztK {op:Bool}{f:zaf}(hs:shp op f)(hf:f.fit=true)(hl:zka f=true)(hc:∀x∈cst f [],zax x=true):zaA op (zcc f [])=⟨0,0⟩:=by
 have h1:=of_decide_eq_true (show decide (f.size≤200∧f.depth≤40)=true from hl)
 exact zrj (zsz _ f [] 0 hs) (zmZ hf h1.1 hc) (by rw[zmY];exact hl)
mutual
def zkp:zaf→Bool
 | .mk k nm ws s=>okE (.mk k nm ws s)||zhs s
def zhs:List zaf→Bool
 |[]=>false
 |f::fs=>zkp f||zhs fs
end
theorem zjl:∀(l:List zaf) (f:zaf),(∀g∈l,g.kind≠5)→zfZ (l.foldl (fun a x=>zaf.mk 5 ⟨[]⟩ [] [a,x]) f)=zfZ f++l
 |[],f,_=>by simp
 |x::l,f,h=>by
  rw[List.foldl_cons,zjl l _ fun g hg=>h g (List.mem_cons_of_mem _ hg),zr4 (a:=f) (b:=x) rfl rfl]
  simp
theorem zhS {by':zaf→zaf}(hb:∀f,f.kind≠9→by' f=f):∀(l:List zaf) (f:zaf),(∀g∈l,zav by' g=g)→zav by' f=f→zav by' (l.foldl (fun a x=>zaf.mk 5 ⟨[]⟩ [] [a,x]) f)=l.foldl (fun a x=>zaf.mk 5 ⟨[]⟩ [] [a,x]) f
 |[],f,_,h=>h
 |x::l,f,h,hf=>by
  rw[List.foldl_cons]
  refine zhS hb l _ (fun g hg=>h g (List.mem_cons_of_mem _ hg)) ?_
  rw[zav,zap,zap,zap,hf,h x (by simp),hb (.mk 5 ⟨[]⟩ [] [f,x]) (show(5:Int)≠9 by decide)]
theorem zf2 {f:zaf}(h:f.kind≠9):zbv f=f:=by
 unfold zbv
 rw[if_neg]
 intro hm
 exact h (zkr (ze1 hm)).1
theorem zqo {α:Type}(l:List α)(d:α):(List.range l.length).map (fun i=>l.getD i d)=l:=by
 refine List.ext_getElem (by simp) fun i h1 h2=>?_
 simp only[List.getElem_map,List.getElem_range]
 rw[List.getD_eq_getElem?_getD,List.getElem?_eq_getElem h2];rfl
theorem znu {v nm:Str}{ws:List Str}(h1:0<ws.length)(h3:ws.length≤3)(hv:∀w∈ws,w≠v):zav zbv (zcU v nm ws)= .mk 2 nm ws []:=by
 obtain⟨l,hl⟩:∃l,((List.range ws.length).map fun i=>zaf.mk 2 (zrb i) [v,ws.getD i ⟨[]⟩] [])=l:=⟨_,rfl⟩
 have hll:l.length=ws.length:=by rw[←hl];simp
 have hat:∀i,i<ws.length→l.getD i zom= .mk 2 (zrb i) [v,ws.getD i ⟨[]⟩] []:=fun i hi=>by
  rw[←hl,List.getD_eq_getElem?_getD,List.getElem?_map,List.getElem?_range hi];rfl
 have hmem:∀g∈l,g.kind=2∧g.subs=[]:=fun g hg=>by
  rw[←hl]at hg
  obtain⟨i,_,rfl⟩:=List.mem_map.1 hg
  exact⟨rfl,rfl⟩
 have hid:∀g:zaf,g.kind=2→g.subs=[]→zav zbv g=g:=fun g hk hs=>by
  rw[zpv,hs,List.map_nil,zf2 (by simp only[zaz];omega)]
  cases g;simp only[zaW]at hs;subst hs;rfl
 unfold zcU
 rw[hl]
 have hj:zav zbv (zef 5 (.mk 2 nm [v] []::l))=zef 5 (.mk 2 nm [v] []::l):=
  zhS (fun f h=>zf2 h) l _ (fun g hg=>hid g (hmem g hg).1 (hmem g hg).2) (hid _ rfl rfl)
 rw[zav,zap,zap,hj]
 have hp:zce (.mk 9 v [] [zef 5 (.mk 2 nm [v] []::l)])= .mk 2 nm [v] []::l:=by
  unfold zce
  show zfZ (zef 5 (.mk 2 nm [v] []::l))=_
  have:=zjl l (.mk 2 nm [v] []) fun g hg=>by rw[(hmem g hg).1];decide
  rw[zr5 (f:= .mk 2 nm [v] []) (fun h=>absurd h.1 (show¬(2:Int)=5 by decide))]at this
  exact this
 have hh:zhg (.mk 9 v [] [zef 5 (.mk 2 nm [v] []::l)])= .mk 2 nm [v] []:=by unfold zhg;rw[hp];rfl
 have hok:okE (.mk 9 v [] [zef 5 (.mk 2 nm [v] []::l)])=true:=by
  unfold okE;rw[hh];simp[zaz,zdX,zeI]
 have hgd:∀n,n≤ws.length→zfV (.mk 9 v [] [zef 5 (.mk 2 nm [v] []::l)]) n=true:=by
  intro n
  induction n with
  |zero=>intro _;rw[zfV]
  |succ n ih=>
   intro hn
   rw[zfV,ih (by omega),hp,List.getD_cons_succ,hat n (by omega)]
   have:=hv _ (zkd (ws:=ws) (i:=n) (by omega))
   simp only[znk,zaz,zdX,zeI,List.getD_cons_zero,List.getD_cons_succ,List.length_cons,List.length_nil,decide_eq_false this]
   simp
 have hwn:zjC (.mk 9 v [] [zef 5 (.mk 2 nm [v] []::l)]) ws.length=ws:=by
  unfold zjC
  rw[hp]
  conv=>rhs;rw[←zqo ws ⟨[]⟩]
  refine List.map_congr_left fun j hj=>?_
  rw[List.getD_cons_succ,hat j (List.mem_range.1 hj)]
  rfl
 unfold zbv
 have hm:zcN (.mk 9 v [] [zef 5 (.mk 2 nm [v] []::l)])=true:=by
  unfold zcN
  rw[hok,hp,List.length_cons,hll]
  simp only[Nat.add_sub_cancel,hgd ws.length (Nat.le_refl _)]
  simp only[Bool.true_and,Bool.and_true,Bool.and_eq_true,decide_eq_true_eq]
  omega
 rw[if_pos hm,hh,hp,List.length_cons,hll,Nat.add_sub_cancel,hwn]
 rfl
mutual
theorem ziE {v:Str}{ps:List Str}:∀f:zaf,shp false f→zb5 (fun w=>w≠v) f→zkp f=false→zav zbv (zav (za2 v ps) f)=f
 | .mk k nm ws s,hs,ha,hm=>by
  rw[shp]at hs
  rw[zb5]at ha
  rw[zkp,Bool.or_eq_false_iff]at hm
  rw[zav,zcy]
  split
  ·rename_i hc
   obtain⟨rfl,h0,_⟩:=hc
   have h3:ws.length≤3:=by
    have:=hs.1.2.1
    rw[show zdn (.mk 2 nm ws s)=decide (ws.length≤3)from rfl]at this
    exact of_decide_eq_true this
   have h4:s=[]:=by
    have:=hs.1.1
    rw[show zbl false (.mk 2 nm ws s)=0 from rfl]at this
    simp only[zaW]at this
    exact List.eq_nil_of_length_eq_zero (by omega)
   subst h4
   exact znu h0 h3 ha.1
  ·rw[zav,zg4 s hs.2 ha.2.2 hm.2]
   unfold zbv
   rw[if_neg]
   intro h
   rw[ze1 h]at hm
   exact absurd hm.1 (by decide)
theorem zg4 {v:Str}{ps:List Str}:∀fs:List zaf,zeO false fs→zaN (fun w=>w≠v) fs→zhs fs=false→zap zbv (zap (za2 v ps) fs)=fs
 |[],_,_,_=>by rw[zap,zap]
 |f::fs,hs,ha,hm=>by
  rw[zeO]at hs
  rw[zaN]at ha
  rw[zhs,Bool.or_eq_false_iff]at hm
  rw[zap,zap,ziE f hs.1 ha.1 hm.1,zg4 fs hs.2 ha.2 hm.2]
end
theorem zoz {op:Bool}:∀(l:List zaf) (f:zaf),zeO op l→shp op f→shp op (l.foldl (fun a x=>zaf.mk 5 ⟨[]⟩ [] [a,x]) f)
 |[],f,_,h=>h
 |x::l,f,hl,h=>by
  rw[zeO]at hl
  rw[List.foldl_cons]
  refine zoz l _ hl.2 ?_
  rw[shp,zeO,zeO,zeO]
  refine⟨⟨rfl,rfl,fun h2=>absurd (show false=true from h2) (by decide),fun _=>rfl⟩,h,hl.1,trivial⟩
theorem zoV {op:Bool}:∀l:List zaf,zeO op l↔∀f∈l,shp op f
 |[]=>by rw[zeO];simp
 |f::l=>by rw[zeO,zoV l];simp
theorem zrc {i:Nat}(h:i<3):zax (zrb i)=true:=by
 have:i=0∨i=1∨i=2:=by omega
 unfold zrb
 rw[zeb (by omega)]
 rcases this with rfl|rfl|rfl<;>decide
theorem zqz {v nm:Str}{ws:List Str}(hn:zax nm=true)(h3:ws.length≤3):shp false (zcU v nm ws):=by
 unfold zcU
 rw[shp,zeO,zeO]
 refine⟨⟨rfl,rfl,fun _ h=>absurd (.inr rfl) h,fun h=>?_⟩,zoz _ _ ((zoV _).2 fun g hg=>?_) ?_,trivial⟩
 ·exact absurd h (by simp[named,zaz])
 ·obtain⟨i,hi,rfl⟩:=List.mem_map.1 hg
  have hi:=List.mem_range.1 hi
  rw[shp,zeO]
  refine⟨⟨rfl,rfl,fun _ _=>zrc (by omega),fun h=>?_⟩,trivial⟩
  exact absurd h (by simp[named,zaz])
 ·rw[shp,zeO]
  refine⟨⟨rfl,rfl,fun _ _=>hn,fun h=>?_⟩,trivial⟩
  exact absurd h (by simp[named,zaz])
mutual
theorem zmm {v:Str}{ps:List Str}:∀f:zaf,shp false f→shp false (zav (za2 v ps) f)
 | .mk k nm ws s,h=>by
  rw[shp]at h
  rw[zav,zcy]
  split
  ·rename_i hc
   obtain⟨rfl,h0,_⟩:=hc
   have h3:ws.length≤3:=by
    have:=h.1.2.1
    rw[show zdn (.mk 2 nm ws s)=decide (ws.length≤3)from rfl]at this
    exact of_decide_eq_true this
   exact zqz (h.1.2.2.1 rfl (by simp[isQ,zaz])) h3
  ·rw[shp]
   exact⟨ziq h.1 rfl (by rw[zbj,List.length_map]) (fun _=>rfl) fun _=>trivial,zjx s h.2⟩
theorem zjx {v:Str}{ps:List Str}:∀fs:List zaf,zeO false fs→zeO false (zap (za2 v ps) fs)
 |[],_=>by rw[zap,zeO];trivial
 |f::fs,h=>by
  rw[zeO]at h
  rw[zap,zeO]
  exact⟨zmm f h.1,zjx fs h.2⟩
end
mutual
theorem ziF (ps:List Str):∀f:zaf,zb5 (fun w=>zax w=true) f→zb5 (fun w=>zax w=true∨w=qM) (zav (za2 qM ps) f)
 | .mk k nm ws s,h=>by
  rw[zb5]at h
  rw[zav,zcy]
  split
  ·unfold zcU
   rw[zb5,zaN,zaN]
   refine⟨by simp,fun _=> .inr rfl,zjk _ 5 (by decide) ((zhK _ _).2 fun g hg=>?_),trivial⟩
   rcases List.mem_cons.1 hg with rfl|hg
   ·rw[zb5,zaN]
    exact⟨fun w hw=> .inr (List.mem_singleton.1 hw),fun e=>absurd e (by decide),trivial⟩
   ·obtain⟨i,hi,rfl⟩:=List.mem_map.1 hg
    rw[zb5,zaN]
    refine⟨fun w hw=>?_,fun e=>absurd e (by decide),trivial⟩
    simp only[List.mem_cons,List.not_mem_nil,or_false]at hw
    rcases hw with rfl|rfl
    ·exact .inr rfl
    ·exact .inl (h.1 _ (zkd (List.mem_range.1 hi)))
  ·rw[zb5]
   exact⟨fun w hw=> .inl (h.1 w hw),fun hq=> .inl (h.2.1 hq),zg5 ps s h.2.2⟩
theorem zg5 (ps:List Str):∀fs:List zaf,zaN (fun w=>zax w=true) fs→zaN (fun w=>zax w=true∨w=qM) (zap (za2 qM ps) fs)
 |[],_=>by rw[zap,zaN];trivial
 |f::fs,h=>by
  rw[zaN]at h
  rw[zap,zaN]
  exact⟨ziF ps f h.1,zg5 ps fs h.2⟩
end
theorem zGD {f:zaf}{ps:List Str}(h:(zaA false f).code=0)(hf:zka (zav (za2 qM ps) f)=true)(hm:zkp f=false):
  zaA false (zcc (zav (za2 qM ps) f) [])=⟨0,0⟩∧zka (zav zbv (zcc (zav (za2 qM ps) f) []))=true∧zcc (zav zbv (zcc (zav (za2 qM ps) f) [])) []=zcc f []:=by
 have hn:=zm2 h
 have hs:=zi9 h
 refine⟨ztK (zmm f hs) (zhR (fun f h=>znC h) f (zbN h)) hf fun x hx=>?_,?_,?_⟩
 ·rcases zoh _ _ x (ziF ps f hn) hx with h1|h1
  ·exact h1
  ·exact absurd h1 (zjv ps f [] x hn hx)
 ·have h1:=of_decide_eq_true (show decide ((zav (za2 qM ps) f).size≤200∧(zav (za2 qM ps) f).depth≤40)=true from hf)
  have h2:=zgT (c:=0) (fun f=>zlZ f) (zcc (zav (za2 qM ps) f) [])
  have h3:=zfF (fun f=>zko f) (zcc (zav (za2 qM ps) f) [])
  rw[zhP]at h2
  rw[zgS]at h3
  unfold zka
  exact decide_eq_true ⟨by omega,by omega⟩
 ·have h1:=zhQ (fun E f f' h=>znt h) _ _ [] (zrh (zav (za2 qM ps) f))
  rw[ziE f hs (zkU (fun w hw e=>by rw[e]at hw;exact absurd hw (by decide)) f hn) hm]at h1
  exact(zq4 h1).symm
end Go.Abs

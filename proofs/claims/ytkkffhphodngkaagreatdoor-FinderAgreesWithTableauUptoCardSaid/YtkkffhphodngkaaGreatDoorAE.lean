import Derived.Test.YtkkffhphodngkaaGreatDoorEV
set_option linter.unusedSimpArgs false
namespace Go.Abs
open Go
abbrev PE:=List (Str×Str)
def zn5:PE→Str→Str→Prop
 |[],w,w'=>w=w'
 |(a,b)::E,w,w'=>(w=a∧w'=b)∨(w≠a∧w'≠b∧zn5 E w w')
def zcK (E:PE):List Str→List Str→Prop
 |[],[]=>True
 |w::ws,w'::ws'=>zn5 E w w'∧zcK E ws ws'
 |[],_::_=>False
 |_::_,[]=>False
mutual
def Aeq:PE→zab→zab→Prop
 |E,.mk k nm ws s,.mk k' nm' ws' s'=>k=k'∧(¬isQ k→nm=nm')∧zcK E ws ws'∧zcB (if isQ k then(nm,nm')::E else E) s s'
def zcB:PE→List zab→List zab→Prop
 |_,[],[]=>True
 |E,f::fs,g::gs=>Aeq E f g∧zcB E fs gs
 |_,[],_::_=>False
 |_,_::_,[]=>False
end
theorem zgG {E:PE}:∀{a b:List Str},zcK E a b→a.length=b.length
 |[],[],_=>rfl
 |_::a,_::b,h=>by rw[zcK]at h;rw[List.length_cons,List.length_cons,zgG h.2]
 |[],_::_,h=>by rw[zcK]at h;exact h.elim
 |_::_,[],h=>by rw[zcK]at h;exact h.elim
theorem zgF {E:PE}:∀{a b:List Str} {i:Nat},zcK E a b→i<a.length→zn5 E (a.getD i ⟨[]⟩) (b.getD i ⟨[]⟩)
 |[],[],i,_,hi=>by simp at hi
 |w::a,w'::b,0,h,_=>by rw[zcK]at h;exact h.1
 |w::a,w'::b,i+1,h,hi=>by rw[zcK]at h;exact zgF (i:=i) h.2 (by simpa using hi)
 |[],_::_,_,h,_=>by rw[zcK]at h;exact h.elim
 |_::_,[],_,h,_=>by rw[zcK]at h;exact h.elim
theorem zkk {E:PE}:∀{a b:List zab},zcB E a b→a.length=b.length
 |[],[],_=>rfl
 |_::a,_::b,h=>by rw[zcB]at h;rw[List.length_cons,List.length_cons,zkk h.2]
 |[],_::_,h=>by rw[zcB]at h;exact h.elim
 |_::_,[],h=>by rw[zcB]at h;exact h.elim
theorem zpr {E:PE}:∀{a b c d:List zab},zcB E a b→zcB E c d→zcB E (a++c) (b++d)
 |[],[],_,_,_,h=>h
 |_::a,_::b,_,_,h,h2=>by rw[zcB]at h;rw[List.cons_append,List.cons_append,zcB];exact⟨h.1,zpr h.2 h2⟩
 |[],_::_,_,_,h,_=>by rw[zcB]at h;exact h.elim
 |_::_,[],_,_,h,_=>by rw[zcB]at h;exact h.elim
theorem zzj {E:PE}:Aeq E zpZ zpZ:=by
 unfold zpZ
 rw[Aeq,if_neg (by decide)]
 exact⟨rfl,fun _=>rfl,by rw[zcK];trivial,by rw[zcB];trivial⟩
theorem zd5 {E:PE}:∀{a b:List zab} (i:Nat),zcB E a b→Aeq E (a.getD i zpZ) (b.getD i zpZ)
 |[],[],i,_=>by simp only[List.getD_nil];exact zzj
 |_::a,_::b,0,h=>by rw[zcB]at h;exact h.1
 |_::a,_::b,i+1,h=>by rw[zcB]at h;exact zd5 i h.2
 |[],_::_,_,h=>by rw[zcB]at h;exact h.elim
 |_::_,[],_,h=>by rw[zcB]at h;exact h.elim
theorem zju {E:PE}{f f':zab}:Aeq E f f'↔f.kind=f'.kind∧(¬isQ f.kind→f.name=f'.name)∧zcK E f.words f'.words∧zcB (if isQ f.kind then(f.name,f'.name)::E else E) f.subs f'.subs:=by
 cases f;cases f';rw[Aeq];rfl
theorem zn6 {E:PE}{s s':Str→Str}(h:∀w w',zn5 E w w'→s w=s' w'):∀{a b:List Str},zcK E a b→a.map s=b.map s'
 |[],[],_=>rfl
 |w::a,w'::b,hw=>by rw[zcK]at hw;rw[List.map_cons,List.map_cons,h _ _ hw.1,zn6 h hw.2]
 |[],_::_,h=>by rw[zcK]at h;exact h.elim
 |_::_,[],h=>by rw[zcK]at h;exact h.elim
mutual
theorem zs6 {g:Nat→Str×Nat}:∀(f f':zab) (E:PE) (env env':List za3) (n:Nat),Aeq E f f'→(∀w w',zn5 E w w'→lkp env w=lkp env' w')→ren g f env n=ren g f' env' n
 | .mk k nm ws s,.mk k' nm' ws' s',E,env,env',n,h,he=>by
  rw[Aeq]at h
  obtain⟨rfl,h2,h3,h4⟩:=h
  rw[ren,ren,zn6 he h3]
  by_cases hq:isQ k
  ·rw[if_pos hq]at h4
   simp only[if_pos hq]
   rw[zkr (g:=g) s s' ((nm,nm')::E) (env++[(⟨nm,(g n).1⟩:za3)]) (env'++[(⟨nm',(g n).1⟩:za3)]) (g n).2 h4 fun w w' hw=>?_]
   rw[zb7,zb7]
   rw[zn5]at hw
   rcases hw with⟨rfl,rfl⟩|⟨h5,h6,h7⟩
   ·rw[if_pos rfl,if_pos rfl]
   ·rw[if_neg (fun e=>h5 e.symm),if_neg (fun e=>h6 e.symm)]
    exact he w w' h7
  ·rw[if_neg hq]at h4
   simp only[if_neg hq]
   rw[zkr (g:=g) s s' E env env' n h4 he,h2 hq]
theorem zkr {g:Nat→Str×Nat}:∀(f f':List zab) (E:PE) (env env':List za3) (n:Nat),zcB E f f'→(∀w w',zn5 E w w'→lkp env w=lkp env' w')→zbb g f env n=zbb g f' env' n
 |[],[],E,env,env',n,_,_=>by rw[zbb,zbb]
 |f::fs,f'::fs',E,env,env',n,h,he=>by
  rw[zcB]at h
  rw[zbb,zbb,zs6 f f' E env env' n h.1 he]
  rw[zkr fs fs' E env env' _ h.2 he]
 |[],_::_,_,_,_,_,h,_=>by rw[zcB]at h;exact h.elim
 |_::_,[],_,_,_,_,h,_=>by rw[zcB]at h;exact h.elim
end
theorem zhB {E:PE}{bd bd':List Str}(hb:∀w w',zn5 E w w'→(w∈bd↔w'∈bd')∧(w∉bd→w=w')):∀{a b:List Str},zcK E a b→a.filter (fun w=>decide (w∉bd))=b.filter (fun w=>decide (w∉bd'))
 |[],[],_=>rfl
 |w::a,w'::b,hw=>by
  rw[zcK]at hw
  rw[List.filter_cons,List.filter_cons,zhB hb hw.2]
  obtain⟨h1,h2⟩:=hb w w' hw.1
  by_cases h:w∈bd
  ·rw[if_neg (by simpa using h),if_neg (by simpa using h1.1 h)]
  ·have e:=h2 h
   rw[if_pos (by simpa using h),if_pos (by simpa using fun h3=>h (h1.2 h3)),e]
 |[],_::_,h=>by rw[zcK]at h;exact h.elim
 |_::_,[],h=>by rw[zcK]at h;exact h.elim
mutual
theorem zs5:∀(f f':zab) (E:PE) (bd bd':List Str),Aeq E f f'→(∀w w',zn5 E w w'→(w∈bd↔w'∈bd')∧(w∉bd→w=w'))→cst f bd=cst f' bd'
 | .mk k nm ws s,.mk k' nm' ws' s',E,bd,bd',h,he=>by
  rw[Aeq]at h
  obtain⟨rfl,h2,h3,h4⟩:=h
  rw[cst,cst,zhB he h3]
  by_cases hq:isQ k
  ·rw[if_pos hq]at h4
   rw[if_pos hq,if_pos hq]
   rw[zkq s s' ((nm,nm')::E) (bd++[nm]) (bd'++[nm']) h4 fun w w' hw=>?_]
   rw[zn5]at hw
   simp only[List.mem_append,List.mem_singleton]
   rcases hw with⟨rfl,rfl⟩|⟨h5,h6,h7⟩
   ·exact⟨⟨fun _=> .inr rfl,fun _=> .inr rfl⟩,fun h=>absurd (.inr rfl) h⟩
   ·obtain⟨h8,h9⟩:=he w w' h7
    refine⟨⟨fun h=>?_,fun h=>?_⟩,fun h=>h9 fun h0=>h (.inl h0)⟩
    ·rcases h with h|h
     ·exact .inl (h8.1 h)
     ·exact absurd h h5
    ·rcases h with h|h
     ·exact .inl (h8.2 h)
     ·exact absurd h h6
  ·rw[if_neg hq]at h4
   rw[if_neg hq,if_neg hq,zkq s s' E bd bd' h4 he]
theorem zkq:∀(f f':List zab) (E:PE) (bd bd':List Str),zcB E f f'→(∀w w',zn5 E w w'→(w∈bd↔w'∈bd')∧(w∉bd→w=w'))→zbC f bd=zbC f' bd'
 |[],[],E,bd,bd',_,_=>by rw[zbC,zbC]
 |f::fs,f'::fs',E,bd,bd',h,he=>by
  rw[zcB]at h
  rw[zbC,zbC,zs5 f f' E bd bd' h.1 he,zkq fs fs' E bd bd' h.2 he]
 |[],_::_,_,_,_,h,_=>by rw[zcB]at h;exact h.elim
 |_::_,[],_,_,_,h,_=>by rw[zcB]at h;exact h.elim
end
theorem zs4 {f f':zab}(h:Aeq [] f f'):zaD f []=zaD f' []:=by
 have h1:cst f []=cst f' []:=zs5 f f' [] [] [] h fun w w' hw=>⟨by simp,fun _=>hw⟩
 unfold zaD zaP
 rw[h1,zs6 f f' [] [] [] 0 h fun w w' hw=>by rw[zcS,zcS];exact hw]
mutual
theorem zuZ {used:List Str}:∀(f:zab) (E:PE) (env:List za3) (bd:List Str) (n:Nat),(∀w,w∈bd∨w∈used→zn5 E w (lkp env w)∧(lkp env w∈used∨∃j,j<n∧lkp env w=zfB j))→(∀x∈cst f bd,x∈used)→Aeq E f (ren (vg used) f env n).1
 | .mk k nm ws s,E,env,bd,n,he,hc=>by
  rw[cst]at hc
  have hw:zcK E ws (ws.map (lkp env)):=by
   have:∀l:List Str,(∀w∈l,w∈ws)→zcK E l (l.map (lkp env)):=by
    intro l
    induction l with
    |nil=>intro _;rw[List.map_nil,zcK];trivial
    |cons w l ih=>
     intro hl
     rw[List.map_cons,zcK]
     refine⟨(he w ?_).1,ih fun x hx=>hl x (List.mem_cons_of_mem _ hx)⟩
     by_cases hb:w∈bd
     ·exact .inl hb
     ·exact .inr (hc w (List.mem_append_left _ (List.mem_filter.2 ⟨hl w (by simp),by simpa using hb⟩)))
   exact this ws fun _ h=>h
  rw[ren]
  by_cases hq:isQ k
  ·rw[if_pos hq]at hc
   rw[if_pos hq,Aeq,if_pos hq]
   obtain⟨a1,_,a3,_⟩:=zbj used n
   refine⟨rfl,fun h=>absurd hq h,hw,zlq s _ _ (bd++[nm]) _ (fun w hw2=>?_) fun x hx=>hc x (List.mem_append_right _ hx)⟩
   rw[zb7,zn5]
   by_cases e:nm=w
   ·rw[if_pos e]
    exact⟨.inl ⟨e.symm,rfl⟩,.inr ⟨zcI used n,Nat.lt_succ_self _,rfl⟩⟩
   ·rw[if_neg e]
    have hw3:w∈bd∨w∈used:=by
     rcases hw2 with h|h
     ·rcases List.mem_append.1 h with h|h
      ·exact .inl h
      ·exact absurd (List.mem_singleton.1 h).symm e
     ·exact .inr h
    obtain⟨h1,h2⟩:=he w hw3
    refine⟨.inr ⟨fun h=>e h.symm,fun h=>?_,h1⟩,?_⟩
    ·rw[h]at h2
     rcases h2 with h2|⟨j,hj,h2⟩
     ·exact a3 h2
     ·have:=zlO h2;omega
    ·rcases h2 with h2|⟨j,hj,h2⟩
     ·exact .inl h2
     ·refine .inr ⟨j,?_,h2⟩
      have:(vg used n).2=zcI used n+1:=rfl
      omega
  ·rw[if_neg hq]at hc
   rw[if_neg hq,Aeq,if_neg hq]
   exact⟨rfl,fun _=>rfl,hw,zlq s _ _ bd _ he fun x hx=>hc x (List.mem_append_right _ hx)⟩
theorem zlq {used:List Str}:∀(fs:List zab) (E:PE) (env:List za3) (bd:List Str) (n:Nat),(∀w,w∈bd∨w∈used→zn5 E w (lkp env w)∧(lkp env w∈used∨∃j,j<n∧lkp env w=zfB j))→(∀x∈zbC fs bd,x∈used)→zcB E fs (zbb (vg used) fs env n).1
 |[],E,env,bd,n,_,_=>by rw[zbb,zcB];trivial
 |f::fs,E,env,bd,n,he,hc=>by
  rw[zbC]at hc
  rw[zbb,zcB]
  refine⟨zuZ f E env bd n he fun x hx=>hc x (List.mem_append_left _ hx),zlq fs E env bd _ (fun w hw=>?_) fun x hx=>hc x (List.mem_append_right _ hx)⟩
  obtain⟨h1,h2⟩:=he w hw
  refine⟨h1,?_⟩
  rcases h2 with h2|⟨j,hj,h2⟩
  ·exact .inl h2
  ·have:=((znC (zsE used)).1 f env n).1
   exact .inr ⟨j,by omega,h2⟩
end
theorem zti (f:zab):Aeq [] f (zaD f []):=by
 refine zuZ f [] [] [] 0 (fun w hw=>?_) fun x hx=>(zbm f x).2 hx
 rw[zcS]
 rcases hw with h|h
 ·simp at h
 ·exact⟨rfl,.inl h⟩
mutual
theorem zm7:∀(f f':zab) (E:PE),Aeq E f f'→zcB E (zgn f) (zgn f')
 | .mk k nm ws s,.mk k' nm' ws' s',E,h=>by
  have h0:=h
  rw[Aeq]at h
  obtain⟨rfl,h2,h3,h4⟩:=h
  have hl:=zkk h4
  rw[zgn,zgn,←hl]
  by_cases hk:k=5∧s.length=2
  ·rw[if_pos hk,if_pos hk]
   rw[if_neg (by rw[hk.1];decide)]at h4
   exact zrY s s' E h4
  ·rw[if_neg hk,if_neg hk,zcB]
   exact⟨h0,by rw[zcB];trivial⟩
theorem zrY:∀(f f':List zab) (E:PE),zcB E f f'→zcB E (ziC f) (ziC f')
 |[],[],E,_=>by rw[ziC,zcB];trivial
 |f::fs,f'::fs',E,h=>by
  rw[zcB]at h
  rw[ziC,ziC]
  exact zpr (zm7 f f' E h.1) h.2
 |[],_::_,_,h=>by rw[zcB]at h;exact h.elim
 |_::_,[],_,h=>by rw[zcB]at h;exact h.elim
end
theorem znn {E:PE}{f f':zab}(h:Aeq E f f')(hk:f.kind=9):zcB ((f.name,f'.name)::E) (zcv f) (zcv f'):=by
 rw[zju,if_pos (show isQ f.kind from .inr hk)]at h
 unfold zcv
 exact zm7 _ _ _ (zd5 0 h.2.2.2)
theorem zgE {E:PE}{a b w w':Str}(h:zn5 ((a,b)::E) w w'):(w=a↔w'=b)∧(w≠a→zn5 E w w'):=by
 rw[zn5]at h
 rcases h with⟨rfl,rfl⟩|⟨h1,h2,h3⟩
 ·exact⟨⟨fun _=>rfl,fun _=>rfl⟩,fun h=>absurd rfl h⟩
 ·exact⟨⟨fun h=>absurd h h1,fun h=>absurd h h2⟩,fun _=>h3⟩
theorem zAB {E:PE}{f f':zab}(h:Aeq E f f'):okE f=okE f':=by
 have hk:=(zju.1 h).1
 unfold okE
 rw[←hk]
 by_cases h9:f.kind=9
 ·have hp:=znn h h9
  have hh:Aeq ((f.name,f'.name)::E) (zhG f) (zhG f'):=zd5 0 hp
  rw[zju]at hh
  obtain⟨e1,_,e2,_⟩:=hh
  rw[←e1,←zgG e2]
  by_cases hl:(zhG f).words.length=1
  ·have:=(zgE (zgF (i:=0) e2 (by omega))).1
   rw[show decide ((zhG f).words.getD 0 ⟨[]⟩=f.name)=decide ((zhG f').words.getD 0 ⟨[]⟩=f'.name)from decide_eq_decide.2 this]
  ·simp[hl]
 ·simp[h9]
theorem zua {E:PE}{f f' x x':zab}(h:Aeq ((f.name,f'.name)::E) x x')(i:Nat):zoQ f i x=zoQ f' i x':=by
 rw[zju]at h
 obtain⟨e1,e0,e2,_⟩:=h
 unfold zoQ
 rw[←e1,←zgG e2]
 by_cases hk:x.kind=2
 ·rw[e0 (by rw[hk];decide)]
  by_cases hl:x.words.length=2
  ·have h0:=(zgE (zgF (i:=0) e2 (by omega))).1
   have h1:=(zgE (zgF (i:=1) e2 (by omega))).1
   rw[show decide (x.words.getD 0 ⟨[]⟩=f.name)=decide (x'.words.getD 0 ⟨[]⟩=f'.name)from decide_eq_decide.2 h0,
    show decide (x.words.getD 1 ⟨[]⟩=f.name)=decide (x'.words.getD 1 ⟨[]⟩=f'.name)from decide_eq_decide.2 h1]
  ·simp[hl]
 ·simp[hk]
theorem zm0 {E:PE}{f f':zab}(h:zcB ((f.name,f'.name)::E) (zcv f) (zcv f')):∀n,zgl f n=zgl f' n
 |0=>by rw[zgl,zgl]
 |n+1=>by rw[zgl,zgl,zm0 h n,zua (zd5 (n+1) h) n]
theorem zsG {E:PE}{f f':zab}(h:zcB ((f.name,f'.name)::E) (zcv f) (zcv f')){n:Nat}(hg:zgl f n=true):zcK E (zki f n) (zki f' n):=by
 unfold zki
 have:∀l:List Nat,(∀j∈l,j<n)→zcK E (l.map fun j=>((zcv f).getD (j+1) zpZ).words.getD 1 ⟨[]⟩) (l.map fun j=>((zcv f').getD (j+1) zpZ).words.getD 1 ⟨[]⟩):=by
  intro l
  induction l with
  |nil=>intro _;rw[List.map_nil,List.map_nil,zcK];trivial
  |cons j l ih=>
   intro hl
   rw[List.map_cons,List.map_cons,zcK]
   refine⟨?_,ih fun x hx=>hl x (List.mem_cons_of_mem _ hx)⟩
   have hj:=zqa hg (hl j (by simp))
   have hx:=zd5 (j+1) h
   unfold zoQ at hj
   simp only[Bool.and_eq_true,decide_eq_true_eq,Bool.not_eq_true',decide_eq_false_iff_not]at hj
   have hw:=(zju.1 hx).2.2.1
   exact(zgE (zgF (i:=1) hw (by omega))).2 hj.2
 exact this _ fun j hj=>List.mem_range.1 hj
theorem zo0 {E:PE}{f f':zab}(h:Aeq E f f'):Aeq E (zbG f) (zbG f'):=by
 have ho:=zAB h
 by_cases ht:okE f=true
 ·have hk:=(zlg ht).1
  have hp:=znn h hk
  have hl:=zkk hp
  have hm:zdg f=zdg f':=by
   unfold zdg
   rw[ho,hl,zm0 hp]
  unfold zbG
  rw[←hm,←hl]
  by_cases hmt:zdg f=true
  ·rw[if_pos hmt,if_pos hmt,Aeq,if_neg (by decide)]
   have hh:=zd5 0 hp
   have hh2:=zju.1 hh
   refine⟨rfl,fun _=>hh2.2.1 ?_,zsG hp ?_,by rw[zcB];trivial⟩
   ·rw[show((zcv f).getD 0 zpZ).kind=2 from(zlg ht).2];decide
   ·unfold zdg at hmt
    simp only[Bool.and_eq_true]at hmt
    exact hmt.2
  ·rw[if_neg hmt,if_neg hmt];exact h
 ·have h1:¬zdg f=true:=fun hm=>ht (zfx hm)
  have h2:¬zdg f'=true:=fun hm=>ht (by rw[ho];exact zfx hm)
  unfold zbG
  rw[if_neg h1,if_neg h2];exact h
mutual
theorem zie {by':zab→zab}(hb:∀E f f',Aeq E f f'→Aeq E (by' f) (by' f')):∀(f f':zab) (E:PE),Aeq E f f'→Aeq E (zay by' f) (zay by' f')
 | .mk k nm ws s,.mk k' nm' ws' s',E,h=>by
  rw[Aeq]at h
  rw[zay,zay]
  refine hb _ _ _ ?_
  rw[Aeq]
  exact⟨h.1,h.2.1,h.2.2.1,zhl hb s s' _ h.2.2.2⟩
theorem zhl {by':zab→zab}(hb:∀E f f',Aeq E f f'→Aeq E (by' f) (by' f')):∀(f f':List zab) (E:PE),zcB E f f'→zcB E (zap by' f) (zap by' f')
 |[],[],E,_=>by rw[zap,zcB];trivial
 |f::fs,f'::fs',E,h=>by
  rw[zcB]at h
  rw[zap,zap,zcB]
  exact⟨zie hb f f' E h.1,zhl hb fs fs' E h.2⟩
 |[],_::_,_,h=>by rw[zcB]at h;exact h.elim
 |_::_,[],_,h=>by rw[zcB]at h;exact h.elim
end
mutual
theorem zf4 {by':zab→zab}(hb:∀f,(by' f).depth≤f.depth):∀f:zab,(zay by' f).depth≤f.depth
 | .mk k nm ws s=>by
  rw[zay]
  refine Nat.le_trans (hb _) ?_
  rw[zab.depth,zab.depth]
  have:=zfH hb s
  omega
theorem zfH {by':zab→zab}(hb:∀f,(by' f).depth≤f.depth):∀fs:List zab,zab.depths (zap by' fs)≤zab.depths fs
 |[]=>by rw[zap];exact Nat.le_refl _
 |f::fs=>by
  rw[zap,zab.depths,zab.depths]
  have h1:=zf4 hb f
  have h2:=zfH hb fs
  omega
end
theorem ztL (f:zab):1≤f.depth:=by cases f;rw[zab.depth];omega
theorem zlc (f:zab):(zbG f).depth≤f.depth:=by
 unfold zbG
 split
 ·have:=ztL f;simp only[zab.depth,zab.depths];omega
 ·exact Nat.le_refl _
mutual
theorem znB (g:Nat→Str×Nat):∀(f:zab) (env:List za3) (n:Nat),(ren g f env n).1.depth=f.depth
 | .mk k nm ws s,env,n=>by
  rw[ren]
  split
  ·rw[zab.depth,zab.depth,zg1 g s]
  ·rw[zab.depth,zab.depth,zg1 g s]
theorem zg1 (g:Nat→Str×Nat):∀(fs:List zab) (env:List za3) (n:Nat),zab.depths (zbb g fs env n).1=zab.depths fs
 |[],env,n=>by rw[zbb]
 |f::fs,env,n=>by rw[zbb,zab.depths,zab.depths,znB g f,zg1 g fs]
end
theorem zhj (f:zab)(env:List za3):(zaD f env).depth=f.depth:=znB _ f env 0
theorem zor (f:zab)(env:List za3):zkQ (zaD f env)=zkQ f:=by unfold zkQ;rw[zcl,zhj]
def zxz (op:Bool)(f:zab):Prop:=(f.subs.length:Int)=zbn op f∧zdk f=true∧(named f=true→¬isQ f.kind→zat f.name=true)∧(named f=false→f.name=⟨[]⟩)
mutual
def shp (op:Bool):zab→Prop
 | .mk k nm w s=>zxz op (.mk k nm w s)∧zeS op s
def zeS (op:Bool):List zab→Prop
 |[]=>True
 |f::fs=>shp op f∧zeS op fs
end
theorem zxy {op:Bool}{f:zab}{d:Int}{n:Nat}(hs:zxz op f)(hn:n+1≤200)(hd:d≤40)(hw:∀w∈f.words,zat w=true)(hq:isQ f.kind→zat f.name=true):zdh op f d n=0:=by
 obtain⟨h1,h2,h3,h4⟩:=hs
 unfold zdh
 rw[if_neg (by omega),if_neg (by omega),if_neg (by rw[Decidable.not_not];exact⟨h1,h2⟩),if_neg,if_neg,if_neg]
 ·rw[show f.words.all zat=true from List.all_eq_true.2 hw];simp
 ·rintro⟨h5,h6⟩;exact h6 (h4 h5)
 ·rintro⟨h5,h6⟩
  by_cases hk:isQ f.kind
  ·rw[hq hk]at h6;cases h6
  ·rw[h3 h5 hk]at h6;cases h6
mutual
theorem zyz {op:Bool}:∀(f:zab) (d:Int) (n:Nat),shp op f→zbK (fun w=>zat w=true) f→n+f.size≤200→d+f.depth≤41→chk op f d n=(⟨0,0⟩,n+f.size)
 | .mk k nm ws s,d,n,hs,ha,hn,hd=>by
  rw[shp]at hs
  rw[zbK]at ha
  rw[zab.size]at hn ⊢
  rw[zab.depth]at hd
  have:=zxy (d:=d) (n:=n) hs.1 (by omega) (by omega) ha.1 ha.2.1
  rw[chk,if_neg (by simp[this]),ztu s (d+1) (n+1) hs.2 ha.2.2 (by omega) (by omega)]
  rw[show n+1+zab.sizes s=n+(zab.sizes s+1) by omega]
theorem ztu {op:Bool}:∀(fs:List zab) (d:Int) (n:Nat),zeS op fs→zaQ (fun w=>zat w=true) fs→n+zab.sizes fs≤200→d+zab.depths fs≤41→zea op fs d n=(⟨0,0⟩,n+zab.sizes fs)
 |[],d,n,_,_,_,_=>by rw[zea,zab.sizes];rfl
 |f::fs,d,n,hs,ha,hn,hd=>by
  rw[zeS]at hs
  rw[zaQ]at ha
  rw[zab.sizes]at hn ⊢
  rw[zab.depths]at hd
  rw[zea,zyz f d n hs.1 ha.1 (by omega) (by omega),if_neg (by simp),ztu fs d _ hs.2 ha.2 (by omega) (by omega)]
  rw[Nat.add_assoc]
end
theorem ztm {op:Bool}{f:zab}(hs:shp op f)(ha:zbK (fun w=>zat w=true) f)(hf:zkQ f=true):zaw op f=⟨0,0⟩:=by
 unfold zkQ at hf
 have hf:=of_decide_eq_true hf
 unfold zaw
 rw[zyz f 1 0 hs ha (by omega) (by omega)]
mutual
theorem ztr {op:Bool}:∀(f:zab) (d:Int) (n:Nat),(chk op f d n).1.code=0→shp op f∧d+f.depth≤41
 | .mk k nm w s,d,n,h=>by
  rw[chk]at h
  split at h
  ·rename_i h1;exact absurd h h1
  ·rename_i h1
   have h1:=Decidable.not_not.1 h1
   have h2:=zdI h1
   have h3:=zpI s _ _ h
   have hd:d≤40:=by
    unfold zdh at h1
    split at h1
    ·simp at h1
    ·omega
   rw[shp,zab.depth]
   exact⟨⟨⟨h2.2.2.2.2,h2.2.2.2.1,fun hn _=>h2.2.1 hn,h2.2.2.1⟩,h3.1⟩,by have:=h3.2;omega⟩
theorem zpI {op:Bool}:∀(fs:List zab) (d:Int) (n:Nat),(zea op fs d n).1.code=0→zeS op fs∧(zab.depths fs=0∨d+zab.depths fs≤41)
 |[],d,n,_=>by rw[zeS,zab.depths];exact⟨trivial,.inl rfl⟩
 |f::fs,d,n,h=>by
  rw[zea]at h
  split at h
  ·rename_i h1;exact absurd h h1
  ·rename_i h1
   have h2:=ztr f d n (Decidable.not_not.1 h1)
   have h3:=zpI fs d _ h
   rw[zeS,zab.depths]
   exact⟨⟨h2.1,h3.1⟩,.inr (by have:=h2.2;rcases h3.2 with h|h<;>omega)⟩
end
theorem zjI {op:Bool}{f:zab}(h:(zaw op f).code=0):shp op f:=(ztr f 1 0 h).1
theorem ziM {op:Bool}{k:Int}{nm nm':Str}{w w':List Str}{s s':List zab}(h:zxz op (.mk k nm w s))(hl:w'.length=w.length)(hs:s'.length=s.length)(hn:¬isQ k→nm'=nm)(_hq:isQ k→True):zxz op (.mk k nm' w' s'):=by
 obtain⟨h1,h2,h3,h4⟩:=h
 refine⟨?_,?_,fun h5 h6=>?_,fun h5=>?_⟩
 ·simp only[zaK]at h1 ⊢
  rw[hs,h1];rfl
 ·have:zdk (.mk k nm' w' s')=zdk (.mk k nm w s):=by
   show(if k=2 then decide (w'.length≤3)else if k=3 then decide (w'.length=2)else decide (w'.length=0))=_
   rw[hl];rfl
  rw[this];exact h2
 ·simp only[zah,zb2]at h6 h3 ⊢
  rw[hn h6];exact h3 h5 h6
 ·have h6:=h4 h5
  simp only[zb2]at h6 ⊢
  have:¬isQ k:=by
   intro hq
   have:named (.mk k nm' w' s')=true:=by
    unfold named
    refine decide_eq_true ?_
    simp only[zah]
    rcases hq with e|e<;>omega
   rw[h5]at this;cases this
  rw[hn this];exact h6
mutual
theorem zpd {op:Bool}(g:Nat→Str×Nat):∀(f:zab) (env:List za3) (n:Nat),shp op f→shp op (ren g f env n).1
 | .mk k nm ws s,env,n,h=>by
  rw[shp]at h
  rw[ren]
  split
  ·rename_i hq
   rw[shp]
   exact⟨ziM h.1 (List.length_map _) (zdV g _ s _) (fun h=>absurd hq h) fun _=>trivial,zlt g s _ _ h.2⟩
  ·rw[shp]
   exact⟨ziM h.1 (List.length_map _) (zdV g _ s _) (fun _=>rfl) fun _=>trivial,zlt g s _ _ h.2⟩
theorem zlt {op:Bool}(g:Nat→Str×Nat):∀(fs:List zab) (env:List za3) (n:Nat),zeS op fs→zeS op (zbb g fs env n).1
 |[],env,n,_=>by rw[zbb,zeS];trivial
 |f::fs,env,n,h=>by
  rw[zeS]at h
  rw[zbb,zeS]
  exact⟨zpd g f _ _ h.1,zlt g fs _ _ h.2⟩
end
theorem zez {n:Nat}(h:n<10):zbr n=[UInt8.ofNat (48+n)]:=by unfold zbr;rw[Lib.decDigits,dif_pos h]
theorem zmz:∀(k u:Nat),u<10^(k+1)→(zbr u).length≤k+1∧∀c∈zbr u,48≤c.toNat∧c.toNat≤57:=by
 intro k
 induction k with
 |zero=>
  intro u h
  rw[zez (by omega)]
  refine⟨by simp,fun c hc=>?_⟩
  rw[List.mem_singleton.1 hc,UInt8.toNat_ofNat',Nat.mod_eq_of_lt (by omega)];omega
 |succ k ih=>
  intro u h
  rcases Nat.lt_or_ge u 10 with h1|h1
  ·rw[zez h1]
   refine⟨by simp,fun c hc=>?_⟩
   rw[List.mem_singleton.1 hc,UInt8.toNat_ofNat',Nat.mod_eq_of_lt (by omega)];omega
  ·have h2:=ih (u / 10) (by rw[Nat.pow_succ]at h;omega)
   have e:zbr u=zbr (u / 10)++[UInt8.ofNat (48+u % 10)]:=by
    unfold zbr
    rw[Lib.decDigits,dif_neg (by omega)]
   rw[e,List.length_append,List.length_singleton]
   refine⟨by omega,fun c hc=>?_⟩
   rcases List.mem_append.1 hc with hc|hc
   ·exact h2.2 c hc
   ·rw[List.mem_singleton.1 hc,UInt8.toNat_ofNat',Nat.mod_eq_of_lt (by omega)];omega
theorem zn3 {j:Nat}(h:j<10^20):zat (zfB j)=true:=by
 have h1:=zmz 19 j h
 refine zgs ?_ ?_ ?_ fun i hi=>?_
 ·simp[zfB]
 ·simp only[zfB,List.length_cons];omega
 ·simp[zfB,zgJ]
 ·simp only[zfB,List.length_cons]at hi ⊢
  cases i with
  |zero=>show okc (118:UInt8);decide
  |succ i=>
   rw[List.getD_cons_succ]
   have hm:(zbr j).getD i 0∈zbr j:=by
    rw[List.getD_eq_getElem?_getD,List.getElem?_eq_getElem (by omega)]
    exact List.getElem_mem _
   have:=h1.2 _ hm
   exact .inr (.inl ⟨by omega,by omega⟩)
mutual
theorem znD {used:List Str}{B:Nat}{p:Str→Prop}(hv:∀j,j<B→p (zfB j)):∀(f:zab) (env:List za3) (bd:List Str) (n:Nat),n+(used.length+1)*f.size≤B→(∀w∈bd,p (lkp env w))→(∀w,w∉bd→lkp env w=w)→(∀x∈cst f bd,p x)→zbK p (ren (vg used) f env n).1
 | .mk k nm ws s,env,bd,n,hn,h1,h2,hc=>by
  rw[zab.size,Nat.mul_add,Nat.mul_one]at hn
  rw[cst]at hc
  have hw:∀w∈ws.map (lkp env),p w:=fun w hw=>by
   obtain⟨x,hx,rfl⟩:=List.mem_map.1 hw
   by_cases hb:x∈bd
   ·exact h1 x hb
   ·rw[h2 x hb]
    exact hc x (List.mem_append_left _ (List.mem_filter.2 ⟨hx,by simpa using hb⟩))
  have hg:=zbj used n
  rw[ren]
  by_cases hq:isQ k
  ·rw[if_pos hq]at hc
   have hvn:p (zfB (zcI used n)):=hv _ (by omega)
   rw[if_pos hq,zbK]
   refine⟨hw,fun _=>hvn,zg2 hv s _ (bd++[nm]) _ ?_ (fun w hw2=>?_) (fun w hw2=>?_) fun x hx=>hc x (List.mem_append_right _ hx)⟩
   ·show zcI used n+1+_≤B
    omega
   ·rw[zb7]
    by_cases e:nm=w
    ·rw[if_pos e];exact hvn
    ·rw[if_neg e]
     rcases List.mem_append.1 hw2 with h|h
     ·exact h1 w h
     ·exact absurd (List.mem_singleton.1 h).symm e
   ·rw[zb7,if_neg (fun e=>hw2 (List.mem_append_right _ (List.mem_singleton.2 e.symm)))]
    exact h2 w fun h=>hw2 (List.mem_append_left _ h)
  ·rw[if_neg hq]at hc
   rw[if_neg hq,zbK]
   exact⟨hw,fun h=>absurd h hq,zg2 hv s _ bd _ (by omega) h1 h2 fun x hx=>hc x (List.mem_append_right _ hx)⟩
theorem zg2 {used:List Str}{B:Nat}{p:Str→Prop}(hv:∀j,j<B→p (zfB j)):∀(fs:List zab) (env:List za3) (bd:List Str) (n:Nat),n+(used.length+1)*zab.sizes fs≤B→(∀w∈bd,p (lkp env w))→(∀w,w∉bd→lkp env w=w)→(∀x∈zbC fs bd,p x)→zaQ p (zbb (vg used) fs env n).1
 |[],env,bd,n,_,_,_,_=>by rw[zbb,zaQ];trivial
 |f::fs,env,bd,n,hn,h1,h2,hc=>by
  rw[zab.sizes,Nat.mul_add]at hn
  rw[zbC]at hc
  rw[zbb,zaQ]
  have:=((znC (zsE used)).1 f env n).2
  exact⟨znD hv f env bd n (by omega) h1 h2 fun x hx=>hc x (List.mem_append_left _ hx),zg2 hv fs env bd _ (by omega) h1 h2 fun x hx=>hc x (List.mem_append_right _ hx)⟩
end
mutual
theorem zd0:∀(f:zab) (bd:List Str),f.fit=true→(cst f bd).length≤1000*f.size
 | .mk k nm ws s,bd,h=>by
  rw[zab.fit]at h
  simp only[Bool.and_eq_true,decide_eq_true_eq]at h
  rw[cst,List.length_append,zab.size]
  have h1:=List.length_filter_le (fun w=>decide (w∉bd)) ws
  have h2:=zpY s (if isQ k then bd++[nm]else bd) h.2
  omega
theorem zpY:∀(fs:List zab) (bd:List Str),zab.fits fs=true→(zbC fs bd).length≤1000*zab.sizes fs
 |[],bd,_=>by rw[zbC];simp
 |f::fs,bd,h=>by
  rw[zab.fits,Bool.and_eq_true]at h
  rw[zbC,List.length_append,zab.sizes]
  have h1:=zd0 f bd h.1
  have h2:=zpY fs bd h.2
  omega
end
theorem zos {f:zab}(hf:f.fit=true)(hs:f.size≤200)(hc:∀x∈cst f [],zat x=true):zbK (fun w=>zat w=true) (zaD f []):=by
 have h1:=zd0 f [] hf
 have h2:=zfn f
 refine znD (B:=10^20) (fun j hj=>zn3 hj) f [] [] 0 ?_ (by simp) (fun w _=>zcS w) hc
 show 0+((zaP f).length+1)*f.size≤10^20
 have h3:((zaP f).length+1)*f.size≤200001*200:=Nat.mul_le_mul (by omega) hs
 omega
theorem zws {op:Bool}{f:zab}(hs:shp op f)(hf:f.fit=true)(hl:zkQ f=true)(hc:∀x∈cst f [],zat x=true):zaw op (zaD f [])=⟨0,0⟩:=by
 have h1:=of_decide_eq_true (show decide (f.size≤200∧f.depth≤40)=true from hl)
 exact ztm (zpd _ f [] 0 hs) (zos hf h1.1 hc) (by rw[zor];exact hl)
mutual
def zld:zab→Bool
 | .mk k nm ws s=>okE (.mk k nm ws s)||zhP s
def zhP:List zab→Bool
 |[]=>false
 |f::fs=>zld f||zhP fs
end
theorem zjZ:∀(l:List zab) (f:zab),(∀g∈l,g.kind≠5)→zgn (l.foldl (fun a x=>zab.mk 5 ⟨[]⟩ [] [a,x]) f)=zgn f++l
 |[],f,_=>by simp
 |x::l,f,h=>by
  rw[List.foldl_cons,zjZ l _ fun g hg=>h g (List.mem_cons_of_mem _ hg),zus (a:=f) (b:=x) rfl rfl]
  simp
theorem zig {by':zab→zab}(hb:∀f,f.kind≠9→by' f=f):∀(l:List zab) (f:zab),(∀g∈l,zay by' g=g)→zay by' f=f→zay by' (l.foldl (fun a x=>zab.mk 5 ⟨[]⟩ [] [a,x]) f)=l.foldl (fun a x=>zab.mk 5 ⟨[]⟩ [] [a,x]) f
 |[],f,_,h=>h
 |x::l,f,h,hf=>by
  rw[List.foldl_cons]
  refine zig hb l _ (fun g hg=>h g (List.mem_cons_of_mem _ hg)) ?_
  rw[zay,zap,zap,zap,hf,h x (by simp),hb (.mk 5 ⟨[]⟩ [] [f,x]) (show(5:Int)≠9 by decide)]
theorem zgr {f:zab}(h:f.kind≠9):zbG f=f:=by
 unfold zbG
 rw[if_neg]
 intro hm
 exact h (zlg (zfx hm)).1
theorem zsh {α:Type}(l:List α)(d:α):(List.range l.length).map (fun i=>l.getD i d)=l:=by
 refine List.ext_getElem (by simp) fun i h1 h2=>?_
 simp only[List.getElem_map,List.getElem_range]
 rw[List.getD_eq_getElem?_getD,List.getElem?_eq_getElem h2];rfl
theorem zo1 {v nm:Str}{ws:List Str}(h1:0<ws.length)(h3:ws.length≤3)(hv:∀w∈ws,w≠v):zay zbG (zdn v nm ws)= .mk 2 nm ws []:=by
 obtain⟨l,hl⟩:∃l,((List.range ws.length).map fun i=>zab.mk 2 (zta i) [v,ws.getD i ⟨[]⟩] [])=l:=⟨_,rfl⟩
 have hll:l.length=ws.length:=by rw[←hl];simp
 have hat:∀i,i<ws.length→l.getD i zpZ= .mk 2 (zta i) [v,ws.getD i ⟨[]⟩] []:=fun i hi=>by
  rw[←hl,List.getD_eq_getElem?_getD,List.getElem?_map,List.getElem?_range hi];rfl
 have hmem:∀g∈l,g.kind=2∧g.subs=[]:=fun g hg=>by
  rw[←hl]at hg
  obtain⟨i,_,rfl⟩:=List.mem_map.1 hg
  exact⟨rfl,rfl⟩
 have hid:∀g:zab,g.kind=2→g.subs=[]→zay zbG g=g:=fun g hk hs=>by
  rw[zrm,hs,List.map_nil,zgr (by simp only[zah];omega)]
  cases g;simp only[zaK]at hs;subst hs;rfl
 unfold zdn
 rw[hl]
 have hj:zay zbG (zeD 5 (.mk 2 nm [v] []::l))=zeD 5 (.mk 2 nm [v] []::l):=
  zig (fun f h=>zgr h) l _ (fun g hg=>hid g (hmem g hg).1 (hmem g hg).2) (hid _ rfl rfl)
 rw[zay,zap,zap,hj]
 have hp:zcv (.mk 9 v [] [zeD 5 (.mk 2 nm [v] []::l)])= .mk 2 nm [v] []::l:=by
  unfold zcv
  show zgn (zeD 5 (.mk 2 nm [v] []::l))=_
  have:=zjZ l (.mk 2 nm [v] []) fun g hg=>by rw[(hmem g hg).1];decide
  rw[zut (f:= .mk 2 nm [v] []) (fun h=>absurd h.1 (show¬(2:Int)=5 by decide))]at this
  exact this
 have hh:zhG (.mk 9 v [] [zeD 5 (.mk 2 nm [v] []::l)])= .mk 2 nm [v] []:=by unfold zhG;rw[hp];rfl
 have hok:okE (.mk 9 v [] [zeD 5 (.mk 2 nm [v] []::l)])=true:=by
  unfold okE;rw[hh];simp[zah,zct,zb2]
 have hgd:∀n,n≤ws.length→zgl (.mk 9 v [] [zeD 5 (.mk 2 nm [v] []::l)]) n=true:=by
  intro n
  induction n with
  |zero=>intro _;rw[zgl]
  |succ n ih=>
   intro hn
   rw[zgl,ih (by omega),hp,List.getD_cons_succ,hat n (by omega)]
   have:=hv _ (zkX (ws:=ws) (i:=n) (by omega))
   simp only[zoQ,zah,zct,zb2,List.getD_cons_zero,List.getD_cons_succ,List.length_cons,List.length_nil,decide_eq_false this]
   simp
 have hwn:zki (.mk 9 v [] [zeD 5 (.mk 2 nm [v] []::l)]) ws.length=ws:=by
  unfold zki
  rw[hp]
  conv=>rhs;rw[←zsh ws ⟨[]⟩]
  refine List.map_congr_left fun j hj=>?_
  rw[List.getD_cons_succ,hat j (List.mem_range.1 hj)]
  rfl
 unfold zbG
 have hm:zdg (.mk 9 v [] [zeD 5 (.mk 2 nm [v] []::l)])=true:=by
  unfold zdg
  rw[hok,hp,List.length_cons,hll]
  simp only[Nat.add_sub_cancel,hgd ws.length (Nat.le_refl _)]
  simp only[Bool.true_and,Bool.and_true,Bool.and_eq_true,decide_eq_true_eq]
  omega
 rw[if_pos hm,hh,hp,List.length_cons,hll,Nat.add_sub_cancel,hwn]
 rfl
mutual
theorem zi3 {v:Str}{ps:List Str}:∀f:zab,shp false f→zbK (fun w=>w≠v) f→zld f=false→zay zbG (zay (zba v ps) f)=f
 | .mk k nm ws s,hs,ha,hm=>by
  rw[shp]at hs
  rw[zbK]at ha
  rw[zld,Bool.or_eq_false_iff]at hm
  rw[zay,zcY]
  split
  ·rename_i hc
   obtain⟨rfl,h0,_⟩:=hc
   have h3:ws.length≤3:=by
    have:=hs.1.2.1
    rw[show zdk (.mk 2 nm ws s)=decide (ws.length≤3)from rfl]at this
    exact of_decide_eq_true this
   have h4:s=[]:=by
    have:=hs.1.1
    rw[show zbn false (.mk 2 nm ws s)=0 from rfl]at this
    simp only[zaK]at this
    exact List.eq_nil_of_length_eq_zero (by omega)
   subst h4
   exact zo1 h0 h3 ha.1
  ·rw[zay,zhw s hs.2 ha.2.2 hm.2]
   unfold zbG
   rw[if_neg]
   intro h
   rw[zfx h]at hm
   exact absurd hm.1 (by decide)
theorem zhw {v:Str}{ps:List Str}:∀fs:List zab,zeS false fs→zaQ (fun w=>w≠v) fs→zhP fs=false→zap zbG (zap (zba v ps) fs)=fs
 |[],_,_,_=>by rw[zap,zap]
 |f::fs,hs,ha,hm=>by
  rw[zeS]at hs
  rw[zaQ]at ha
  rw[zhP,Bool.or_eq_false_iff]at hm
  rw[zap,zap,zi3 f hs.1 ha.1 hm.1,zhw fs hs.2 ha.2 hm.2]
end
theorem zqj {op:Bool}:∀(l:List zab) (f:zab),zeS op l→shp op f→shp op (l.foldl (fun a x=>zab.mk 5 ⟨[]⟩ [] [a,x]) f)
 |[],f,_,h=>h
 |x::l,f,hl,h=>by
  rw[zeS]at hl
  rw[List.foldl_cons]
  refine zqj l _ hl.2 ?_
  rw[shp,zeS,zeS,zeS]
  refine⟨⟨rfl,rfl,fun h2=>absurd (show false=true from h2) (by decide),fun _=>rfl⟩,h,hl.1,trivial⟩
theorem zlz {op:Bool}:∀l:List zab,zeS op l↔∀f∈l,shp op f
 |[]=>by rw[zeS];simp
 |f::l=>by rw[zeS,zlz l];simp
theorem ztb {i:Nat}(h:i<3):zat (zta i)=true:=by
 have:i=0∨i=1∨i=2:=by omega
 unfold zta
 rw[zez (by omega)]
 rcases this with rfl|rfl|rfl<;>decide
theorem zsv {v nm:Str}{ws:List Str}(hn:zat nm=true)(h3:ws.length≤3):shp false (zdn v nm ws):=by
 unfold zdn
 rw[shp,zeS,zeS]
 refine⟨⟨rfl,rfl,fun _ h=>absurd (.inr rfl) h,fun h=>?_⟩,zqj _ _ ((zlz _).2 fun g hg=>?_) ?_,trivial⟩
 ·exact absurd h (by simp[named,zah])
 ·obtain⟨i,hi,rfl⟩:=List.mem_map.1 hg
  have hi:=List.mem_range.1 hi
  rw[shp,zeS]
  refine⟨⟨rfl,rfl,fun _ _=>ztb (by omega),fun h=>?_⟩,trivial⟩
  exact absurd h (by simp[named,zah])
 ·rw[shp,zeS]
  refine⟨⟨rfl,rfl,fun _ _=>hn,fun h=>?_⟩,trivial⟩
  exact absurd h (by simp[named,zah])
mutual
theorem znP {v:Str}{ps:List Str}:∀f:zab,shp false f→shp false (zay (zba v ps) f)
 | .mk k nm ws s,h=>by
  rw[shp]at h
  rw[zay,zcY]
  split
  ·rename_i hc
   obtain⟨rfl,h0,_⟩:=hc
   have h3:ws.length≤3:=by
    have:=h.1.2.1
    rw[show zdk (.mk 2 nm ws s)=decide (ws.length≤3)from rfl]at this
    exact of_decide_eq_true this
   exact zsv (h.1.2.2.1 rfl (by simp[isQ,zah])) h3
  ·rw[shp]
   exact⟨ziM h.1 rfl (by rw[zbv,List.length_map]) (fun _=>rfl) fun _=>trivial,zkf s h.2⟩
theorem zkf {v:Str}{ps:List Str}:∀fs:List zab,zeS false fs→zeS false (zap (zba v ps) fs)
 |[],_=>by rw[zap,zeS];trivial
 |f::fs,h=>by
  rw[zeS]at h
  rw[zap,zeS]
  exact⟨znP f h.1,zkf fs h.2⟩
end
mutual
theorem zi4 (ps:List Str):∀f:zab,zbK (fun w=>zat w=true) f→zbK (fun w=>zat w=true∨w=qM) (zay (zba qM ps) f)
 | .mk k nm ws s,h=>by
  rw[zbK]at h
  rw[zay,zcY]
  split
  ·unfold zdn
   rw[zbK,zaQ,zaQ]
   refine⟨by simp,fun _=> .inr rfl,zjX _ 5 (by decide) ((zf1 _ _).2 fun g hg=>?_),trivial⟩
   rcases List.mem_cons.1 hg with rfl|hg
   ·rw[zbK,zaQ]
    exact⟨fun w hw=> .inr (List.mem_singleton.1 hw),fun e=>absurd e (by decide),trivial⟩
   ·obtain⟨i,hi,rfl⟩:=List.mem_map.1 hg
    rw[zbK,zaQ]
    refine⟨fun w hw=>?_,fun e=>absurd e (by decide),trivial⟩
    simp only[List.mem_cons,List.not_mem_nil,or_false]at hw
    rcases hw with rfl|rfl
    ·exact .inr rfl
    ·exact .inl (h.1 _ (zkX (List.mem_range.1 hi)))
  ·rw[zbK]
   exact⟨fun w hw=> .inl (h.1 w hw),fun hq=> .inl (h.2.1 hq),zhx ps s h.2.2⟩
theorem zhx (ps:List Str):∀fs:List zab,zaQ (fun w=>zat w=true) fs→zaQ (fun w=>zat w=true∨w=qM) (zap (zba qM ps) fs)
 |[],_=>by rw[zap,zaQ];trivial
 |f::fs,h=>by
  rw[zaQ]at h
  rw[zap,zaQ]
  exact⟨zi4 ps f h.1,zhx ps fs h.2⟩
end
theorem zKp {f:zab}{ps:List Str}(h:(zaw false f).code=0)(hf:zkQ (zay (zba qM ps) f)=true)(hm:zld f=false):
  zaw false (zaD (zay (zba qM ps) f) [])=⟨0,0⟩∧zkQ (zay zbG (zaD (zay (zba qM ps) f) []))=true∧zaD (zay zbG (zaD (zay (zba qM ps) f) [])) []=zaD f []:=by
 have hn:=zih h
 have hs:=zjI h
 refine⟨zws (znP f hs) (zif (fun f h=>zpg h) f (zb3 h)) hf fun x hx=>?_,?_,?_⟩
 ·rcases zkE _ _ x (zi4 ps f hn) hx with h1|h1
  ·exact h1
  ·exact absurd h1 (zkd ps f [] x hn hx)
 ·have h1:=of_decide_eq_true (show decide ((zay (zba qM ps) f).size≤200∧(zay (zba qM ps) f).depth≤40)=true from hf)
  have h2:=zhk (c:=0) (fun f=>zng f) (zaD (zay (zba qM ps) f) [])
  have h3:=zf4 (fun f=>zlc f) (zaD (zay (zba qM ps) f) [])
  rw[zcl]at h2
  rw[zhj]at h3
  unfold zkQ
  exact decide_eq_true ⟨by omega,by omega⟩
 ·have h1:=zie (fun E f f' h=>zo0 h) _ _ [] (zti (zay (zba qM ps) f))
  rw[zi3 f hs (zl4 (fun w hw e=>by rw[e]at hw;exact absurd hw (by decide)) f hn) hm]at h1
  exact(zs4 h1).symm
end Go.Abs

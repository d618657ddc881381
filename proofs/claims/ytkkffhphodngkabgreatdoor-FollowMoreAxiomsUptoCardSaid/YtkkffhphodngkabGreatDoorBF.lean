import Derived.Test.YtkkffhphodngkabGreatDoorCK
set_option linter.unusedSimpArgs false
namespace Go.Abs
open Go
theorem zzp {a b:List Str}(h:∀j,zfU j∈a↔zfU j∈b):vg a=vg b:=by
 funext k;unfold vg;rw[zpP h k]
mutual
theorem zuB {used:List Str}:∀(f:zac) (env:List za4) (bd bd':List Str) (n:Nat),(∀w∈bd,lkp env w∈bd')→(∀w∈bd',w∉used)→(∀w∈cst f bd,lkp env w∈used)→
  cst (ren (vg used) f env n).1 bd'=(cst f bd).map (lkp env)
 | .mk k nm ws s,env,bd,bd',n,h1,h2,h3=>by
  rw[cst]at h3
  have hw:(ws.map (lkp env)).filter (fun w=>decide (w∉bd'))=(ws.filter fun w=>decide (w∉bd)).map (lkp env):=by
   have:∀l:List Str,(∀w∈l,w∈ws)→(l.map (lkp env)).filter (fun w=>decide (w∉bd'))=(l.filter fun w=>decide (w∉bd)).map (lkp env):=by
    intro l
    induction l with
    |nil=>intro _;rfl
    |cons w l ih=>
     intro hl
     have ih:=ih fun x hx=>hl x (by simp[hx])
     rw[List.map_cons]
     by_cases hb:w∈bd
     ·rw[List.filter_cons_of_neg (by simpa using h1 w hb),List.filter_cons_of_neg (by simpa using hb),ih]
     ·have hu:lkp env w∉bd':=fun hm=>h2 _ hm (h3 w (List.mem_append_left _ (List.mem_filter.2 ⟨hl w (by simp),by simpa using hb⟩)))
      rw[List.filter_cons_of_pos (by simpa using hu),List.filter_cons_of_pos (by simpa using hb),ih,List.map_cons]
   exact this ws fun _ h=>h
  rw[ren]
  by_cases hq:isQ k
  ·rw[if_pos hq]at h3
   rw[if_pos hq,cst,cst,if_pos hq,if_pos hq,List.map_append,hw]
   have hv:zfU (zcS used n)∉used:=(zbn used n).2.2.1
   have hc:∀w∈zbN s (bd++[nm]),lkp (env++[⟨nm,(vg used n).1⟩]) w=lkp env w:=fun w hw=>by
    have hn:=zfK s _ w hw
    rw[zcf,if_neg fun e=>hn (List.mem_append_right _ (List.mem_singleton.2 e.symm))]
   have ih:=zle s (env++[⟨nm,(vg used n).1⟩]) (bd++[nm]) (bd'++[(vg used n).1]) (vg used n).2 (fun w hw=>by
    rw[zcf]
    by_cases e:nm=w
    ·rw[if_pos e];exact List.mem_append_right _ (by simp)
    ·rw[if_neg e]
     rcases List.mem_append.1 hw with h|h
     ·exact List.mem_append_left _ (h1 w h)
     ·exact absurd (List.mem_singleton.1 h).symm e) (fun w hw=>by
    rcases List.mem_append.1 hw with h|h
    ·exact h2 w h
    ·rw[List.mem_singleton.1 h];exact hv) (fun w hw=>by rw[hc w hw];exact h3 w (List.mem_append_right _ hw))
   rw[ih]
   congr 1
   exact List.map_congr_left hc
  ·rw[if_neg hq]at h3
   rw[if_neg hq,cst,cst,if_neg hq,if_neg hq,List.map_append,hw]
   rw[zle s env bd bd' n h1 h2 fun w hw=>h3 w (List.mem_append_right _ hw)]
theorem zle {used:List Str}:∀(fs:List zac) (env:List za4) (bd bd':List Str) (n:Nat),(∀w∈bd,lkp env w∈bd')→(∀w∈bd',w∉used)→(∀w∈zbN fs bd,lkp env w∈used)→
  zbN (zbj (vg used) fs env n).1 bd'=(zbN fs bd).map (lkp env)
 |[],env,bd,bd',n,_,_,_=>by rw[zbj,zbN,zbN];rfl
 |f::fs,env,bd,bd',n,h1,h2,h3=>by
  rw[zbN]at h3
  rw[zbj,zbN,zbN,List.map_append,zuB f env bd bd' n h1 h2 fun w hw=>h3 w (List.mem_append_left _ hw),zle fs env bd bd' _ h1 h2 fun w hw=>h3 w (List.mem_append_right _ hw)]
end
mutual
theorem zoe {g:Nat→Str×Nat}:∀(f:zac) (env env':List za4) (n:Nat),(∀w,lkp env' w=w)→ren g (ren g f env n).1 env' n=((ren g f env n).1,(ren g f env n).2)
 | .mk k nm ws s,env,env',n,h=>by
  have hm:∀l:List Str,l.map (lkp env')=l:=fun l=>by
   rw[show lkp env'=id from funext h,List.map_id]
  rw[ren]
  by_cases hq:isQ k
  ·rw[if_pos hq,ren,if_pos hq]
   rw[zhz s _ _ _ (fun w=>by rw[zcf];split;·assumption
                             ·exact h w),hm]
  ·rw[if_neg hq,ren,if_neg hq]
   rw[zhz s env env' n h,hm]
theorem zhz {g:Nat→Str×Nat}:∀(fs:List zac) (env env':List za4) (n:Nat),(∀w,lkp env' w=w)→zbj g (zbj g fs env n).1 env' n=((zbj g fs env n).1,(zbj g fs env n).2)
 |[],env,env',n,_=>by simp[zbj]
 |f::fs,env,env',n,h=>by
  rw[zbj,zbj,zoe f env env' n h,zhz fs env env' _ h]
end
theorem zvY {b:za4}{u:List Str}:zfA [b] u=u.map fun w=>if w=b.fr then b.to else w:=rfl
theorem zBx {b:za4}{w:Str}:lkp [b] w=if w=b.fr then b.to else w:=by
 have:=zcf [] b w
 rw[List.nil_append,zdn]at this
 rw[this]
 by_cases h:b.fr=w
 ·rw[if_pos h,if_pos h.symm]
 ·rw[if_neg h,if_neg fun e=>h e.symm]
theorem zl5 {env:List za4}{u:List Str}(he:env.length≤1):zfA env u=u.map (lkp env):=by
 match env,he with
 |[],_=>rw[show lkp []=id from funext zdn,List.map_id];rfl
 |[b],_=>rw[zvY];exact List.map_congr_left fun w _=>zBx.symm
theorem zo7 {f:zac}{env:List za4}(he:env.length≤1):zaC (zaC f env) []=zaC f env:=by
 have hc:cst (zaC f env) []=(cst f []).map (lkp env):=by
  unfold zaC
  refine zuB f env [] [] 0 (by simp) (by simp) fun w hw=>?_
  rw[zl5 he]
  exact List.mem_map.2 ⟨w,(za9 f w).2 hw,rfl⟩
 have hv:vg (zfA [] (zaP (zaC f env)))=vg (zfA env (zaP f)):=by
  refine zzp fun j=>?_
  rw[zl5 he,show zfA [] (zaP (zaC f env))=zaP (zaC f env)from rfl,za9,hc,List.mem_map,List.mem_map]
  constructor
  ·rintro⟨w,hw,e⟩;exact⟨w,(za9 f w).2 hw,e⟩
  ·rintro⟨w,hw,e⟩;exact⟨w,(za9 f w).1 hw,e⟩
 have e:zaC (zaC f env) []=(ren (vg (zfA env (zaP f))) (zaC f env) [] 0).1:=by
  rw[←hv];rfl
 rw[e]
 unfold zaC
 rw[zoe f env [] 0 zdn]
structure BF0 (f:zac):Prop where
 b:brF f
 sh:shp false f
 aw:zbU (fun w=>zas w=true) f
structure BF (f:zac):Prop where
 o:BF0 f
 cn:cnn f=f
theorem BF0.clean {f:zac}(h:BF0 f):clean f:=zkf (fun _ hw=>znW hw) f h.aw
theorem BF0.sub {f g:zac}(h:BF0 f)(hg:g∈f.subs):BF0 g:=by
 have hs:=h.sh
 have ha:=h.aw
 refine⟨h.b.sub hg,?_,?_⟩
 ·obtain⟨k,nm,ws,s⟩:=f
  rw[shp]at hs
  exact(zl9 s).1 hs.2 g hg
 ·obtain⟨k,nm,ws,s⟩:=f
  rw[zbU]at ha
  exact(zgp _ s).1 ha.2.2 g hg
theorem zs5 {used:List Str}{B:Nat}{p:Str→Prop}(hv:∀j,j<B→p (zfU j)):∀m,(∀(f:zac) (env:List za4) (n:Nat),f.size≤m→n+(used.length+1)*f.size≤B→zbU p f→(∀w,p w→p (lkp env w))→zbU p (ren (vg used) f env n).1)∧
  ∀(fs:List zac) (env:List za4) (n:Nat),zac.sizes fs≤m→n+(used.length+1)*zac.sizes fs≤B→zaR p fs→(∀w,p w→p (lkp env w))→zaR p (zbj (vg used) fs env n).1:=by
 intro m
 induction m with
 |zero=>
  refine⟨fun f env n h=>by have:=f.size_pos;omega,fun fs env n h _ _ _=>?_⟩
  cases fs with
  |nil=>rw[zbj,zaR];trivial
  |cons f fs=>rw[zac.sizes]at h;have:=f.size_pos;omega
 |succ m ih=>
  have h1:∀(f:zac) (env:List za4) (n:Nat),f.size≤m+1→n+(used.length+1)*f.size≤B→zbU p f→(∀w,p w→p (lkp env w))→zbU p (ren (vg used) f env n).1:=by
   intro f env n hs hn ha he
   obtain⟨k,nm,ws,s⟩:=f
   rw[zac.size]at hs hn
   rw[Nat.mul_add,Nat.mul_one]at hn
   rw[zbU]at ha
   have hw:∀w∈ws.map (lkp env),p w:=fun w hw=>by
    obtain⟨x,hx,rfl⟩:=List.mem_map.1 hw
    exact he x (ha.1 x hx)
   have hg:=zbn used n
   rw[ren]
   by_cases hq:isQ k
   ·have hvn:p (zfU (zcS used n)):=hv _ (by omega)
    rw[if_pos hq,zbU]
    refine⟨hw,fun _=>hvn,ih.2 s _ _ (by omega) ?_ ha.2.2 fun w hw=>?_⟩
    ·show zcS used n+1+_≤B
     omega
    ·rw[zcf]
     split
     ·exact hvn
     ·exact he w hw
   ·rw[if_neg hq,zbU]
    exact⟨hw,fun h=>absurd h hq,ih.2 s _ _ (by omega) (by omega) ha.2.2 he⟩
  refine⟨h1,fun fs=>?_⟩
  induction fs with
  |nil=>intro env n _ _ _ _;rw[zbj,zaR];trivial
  |cons f fs ih2=>
   intro env n hs hn ha he
   rw[zac.sizes]at hs hn
   rw[Nat.mul_add]at hn
   rw[zaR]at ha
   rw[zbj,zaR]
   have:=((zoc (ztr used)).1 f env n).2
   exact⟨h1 f env n (by omega) (by omega) ha.1 he,ih2 env _ (by omega) (by omega) ha.2 he⟩
theorem BF0.can {f:zac}{env:List za4}(h:BF0 f)(he:env.length≤1)(hn:∀b∈env,zas b.to=true):BF (zaC f env):=by
 refine⟨⟨h.b.cn,zpX _ f env 0 h.sh,?_⟩,zo7 he⟩
 unfold zaC
 have h1:=zdJ f [] h.b.ft
 have h2:=zeF f
 refine(zs5 (B:=10^20) (fun j hj=>zoD hj) f.size).1 f env 0 (Nat.le_refl _) ?_ h.aw fun w hw=>?_
 ·rw[zl5 he,List.length_map]
  have hs:=h.b.s
  have h3:((zaP f).length+1)*f.size≤800001*800:=Nat.mul_le_mul (by omega) hs
  omega
 ·rcases zvo env w with e|⟨b,hb,e⟩
  ·rw[e];exact hw
  ·rw[e];exact hn b hb
theorem BF0.cn {f:zac}(h:BF0 f):BF (cnn f):=h.can (by simp) (by simp)
theorem BF0.not {f:zac}(h:BF0 f)(hs:f.size+1≤800):BF0 (zbx f):=by
 refine⟨⟨?_,?_,?_⟩,?_,?_⟩
 ·unfold zbx
  rw[vok,ziu,ziu]
  exact⟨by decide,by decide,fun e=>absurd e (by decide),fun e=>absurd e (by decide),fun _=>rfl,fun e=>by omega,h.b.v,trivial⟩
 ·simp[zbx,zac.fit,zac.fits,h.b.ft]
 ·simp only[zbx,zac.size,zac.sizes];omega
 ·unfold zbx
  rw[shp,ze9,ze9]
  refine⟨⟨rfl,rfl,fun e=>?_,fun _=>rfl⟩,h.sh,trivial⟩
  exact absurd (of_decide_eq_true e) (by rw[zai];omega)
 ·exact zvC h.aw
theorem BF0.ng {f:zac}(h:BF0 f)(hs:f.size+1≤800):BF (ngg f):=(h.not hs).can (by simp) (by simp)
theorem zt6:∀(n:Nat) (f:zac),f.size≤n→BF0 f→Vw f
 |0,f,h,_=>by have:=f.size_pos;omega
 |n+1,f,h,hb=>by
  have hv:=zcl.1 hb.b.v
  have hsub:∀g∈f.subs,Vw g:=fun g hg=>zt6 n g (by have:=zac.size_sub hg;omega) (hb.sub hg)
  have hs:=hb.sh
  have ha:=hb.aw
  obtain⟨k,nm,ws,s⟩:=f
  rw[shp]at hs
  rw[zbU]at ha
  obtain⟨⟨s1,s2,s3,s4⟩,_⟩:=hs
  simp only[zai,zaM,zbV,zce]at hv s1 s2 s3 s4 hsub
  have hp:zcj false (.mk k nm ws s)=zg0 k:=by unfold zcj;rw[zai,if_neg (by simp)]
  rw[hp]at s1
  have w0:k≠2→k≠3→ws=[]:=fun h2 h3=>by
   unfold zdq at s2
   rw[zai,zce,if_neg h2,if_neg h3]at s2
   exact List.eq_nil_of_length_eq_zero (of_decide_eq_true s2)
  have n0:k≠2→k≠8→k≠9→nm=⟨[]⟩:=fun h2 h8 h9=>s4 (by
   unfold named
   rw[zai]
   exact decide_eq_false (by omega))
  have zb6:(k=1∨k=2∨k=3)→s=[]:=fun h=>by
   unfold zg0 at s1
   rw[if_pos h]at s1
   exact List.eq_nil_of_length_eq_zero (by omega)
  by_cases h1:k=1
  ·subst h1
   rw[w0 (by decide) (by decide),n0 (by decide) (by decide) (by decide),zb6 (.inl rfl)]
   exact .t
  by_cases h2:k=2
  ·subst h2
   rw[zb6 (.inr (.inl rfl))]
   exact .p nm ws (s3 rfl (by unfold isQ;decide)) ha.1
  by_cases h3:k=3
  ·subst h3
   rw[n0 (by decide) (by decide) (by decide),zb6 (.inr (.inr rfl))]
   have hl:=hv.2.2.2.1 rfl
   match ws,hl,ha.1 with
   |[a,b],_,hw=>exact .e a b (hw a (by simp)) (hw b (by simp))
  have hw:=w0 h2 h3
  subst hw
  by_cases h4:k=4
  ·subst h4
   rw[n0 (by decide) (by decide) (by decide)]
   have hl:=hv.2.2.2.2.1 (.inl rfl)
   match s,hl,hsub with
   |[a],_,hsub=>exact .n a (hsub a (by simp))
  by_cases h8:k=8∨k=9
  ·have hl:=hv.2.2.2.2.1 (.inr h8)
   match s,hl,hsub with
   |[a],_,hsub=>exact .q k nm a h8 (ha.2.1 h8) (hsub a (by simp))
  have h5:k=5∨k=6∨k=7:=by omega
  rw[n0 h2 (by omega) (by omega)]
  have hl:=hv.2.2.2.2.2.1 h5
  match s,hl,hsub with
  |[a,b],_,hsub=>exact .j k a b h5 (hsub a (by simp)) (hsub b (by simp))
theorem BF0.vw {f:zac}(h:BF0 f):Vw f:=zt6 f.size f (Nat.le_refl _) h
theorem txt_eq {f g:zac}(hf:BF0 f)(hg:BF0 g):txt f=txt g↔f=g:=⟨hf.vw.txt_eq hg.vw,fun h=>by rw[h]⟩
end Go.Abs

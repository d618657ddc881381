import Derived.Test.YtkkffhphodngkaaGreatDoorCK
set_option linter.unusedSimpArgs false
namespace Go.Abs
open Go
theorem zyj {a b:List Str}(h:∀j,zfB j∈a↔zfB j∈b):vg a=vg b:=by
 funext k;unfold vg;rw[zo4 h k]
mutual
theorem ztK {used:List Str}:∀(f:zab) (env:List za3) (bd bd':List Str) (n:Nat),(∀w∈bd,lkp env w∈bd')→(∀w∈bd',w∉used)→(∀w∈cst f bd,lkp env w∈used)→
  cst (ren (vg used) f env n).1 bd'=(cst f bd).map (lkp env)
 | .mk k nm ws s,env,bd,bd',n,h1,h2,h3=>by
  rw[cst]at h3
  have hw:(ws.map (lkp env)).filter (fun w=>decide (w∉bd'))=(ws.filter fun w=>decide (w∉bd)).map (lkp env):=by
   have:∀l:List Str,(∀w∈l,w∈ws)→(l.map (lkp env)).filter (fun w=>decide (w∉bd'))=(l.filter fun w=>decide (w∉bd)).map (lkp env):=by
    intro l
    induction l with
    |nil=>intro _;rfl
    |cons w l ih=>
     intro hl
     have ih:=ih fun x hx=>hl x (by simp[hx])
     rw[List.map_cons]
     by_cases hb:w∈bd
     ·rw[List.filter_cons_of_neg (by simpa using h1 w hb),List.filter_cons_of_neg (by simpa using hb),ih]
     ·have hu:lkp env w∉bd':=fun hm=>h2 _ hm (h3 w (List.mem_append_left _ (List.mem_filter.2 ⟨hl w (by simp),by simpa using hb⟩)))
      rw[List.filter_cons_of_pos (by simpa using hu),List.filter_cons_of_pos (by simpa using hb),ih,List.map_cons]
   exact this ws fun _ h=>h
  rw[ren]
  by_cases hq:isQ k
  ·rw[if_pos hq]at h3
   rw[if_pos hq,cst,cst,if_pos hq,if_pos hq,List.map_append,hw]
   have hv:zfB (zcI used n)∉used:=(zbj used n).2.2.1
   have hc:∀w∈zbC s (bd++[nm]),lkp (env++[⟨nm,(vg used n).1⟩]) w=lkp env w:=fun w hw=>by
    have hn:=zfs s _ w hw
    rw[zb7,if_neg fun e=>hn (List.mem_append_right _ (List.mem_singleton.2 e.symm))]
   have ih:=zkH s (env++[⟨nm,(vg used n).1⟩]) (bd++[nm]) (bd'++[(vg used n).1]) (vg used n).2 (fun w hw=>by
    rw[zb7]
    by_cases e:nm=w
    ·rw[if_pos e];exact List.mem_append_right _ (by simp)
    ·rw[if_neg e]
     rcases List.mem_append.1 hw with h|h
     ·exact List.mem_append_left _ (h1 w h)
     ·exact absurd (List.mem_singleton.1 h).symm e) (fun w hw=>by
    rcases List.mem_append.1 hw with h|h
    ·exact h2 w h
    ·rw[List.mem_singleton.1 h];exact hv) (fun w hw=>by rw[hc w hw];exact h3 w (List.mem_append_right _ hw))
   rw[ih]
   congr 1
   exact List.map_congr_left hc
  ·rw[if_neg hq]at h3
   rw[if_neg hq,cst,cst,if_neg hq,if_neg hq,List.map_append,hw]
   rw[zkH s env bd bd' n h1 h2 fun w hw=>h3 w (List.mem_append_right _ hw)]
theorem zkH {used:List Str}:∀(fs:List zab) (env:List za3) (bd bd':List Str) (n:Nat),(∀w∈bd,lkp env w∈bd')→(∀w∈bd',w∉used)→(∀w∈zbC fs bd,lkp env w∈used)→
  zbC (zbb (vg used) fs env n).1 bd'=(zbC fs bd).map (lkp env)
 |[],env,bd,bd',n,_,_,_=>by rw[zbb,zbC,zbC];rfl
 |f::fs,env,bd,bd',n,h1,h2,h3=>by
  rw[zbC]at h3
  rw[zbb,zbC,zbC,List.map_append,ztK f env bd bd' n h1 h2 fun w hw=>h3 w (List.mem_append_left _ hw),zkH fs env bd bd' _ h1 h2 fun w hw=>h3 w (List.mem_append_right _ hw)]
end
mutual
theorem znE {g:Nat→Str×Nat}:∀(f:zab) (env env':List za3) (n:Nat),(∀w,lkp env' w=w)→ren g (ren g f env n).1 env' n=((ren g f env n).1,(ren g f env n).2)
 | .mk k nm ws s,env,env',n,h=>by
  have hm:∀l:List Str,l.map (lkp env')=l:=fun l=>by
   rw[show lkp env'=id from funext h,List.map_id]
  rw[ren]
  by_cases hq:isQ k
  ·rw[if_pos hq,ren,if_pos hq]
   rw[zg3 s _ _ _ (fun w=>by rw[zb7];split;·assumption
                             ·exact h w),hm]
  ·rw[if_neg hq,ren,if_neg hq]
   rw[zg3 s env env' n h,hm]
theorem zg3 {g:Nat→Str×Nat}:∀(fs:List zab) (env env':List za3) (n:Nat),(∀w,lkp env' w=w)→zbb g (zbb g fs env n).1 env' n=((zbb g fs env n).1,(zbb g fs env n).2)
 |[],env,env',n,_=>by simp[zbb]
 |f::fs,env,env',n,h=>by
  rw[zbb,zbb,znE f env env' n h,zg3 fs env env' _ h]
end
theorem zu5 {b:za3}{u:List Str}:zfi [b] u=u.map fun w=>if w=b.fr then b.to else w:=rfl
theorem zAt {b:za3}{w:Str}:lkp [b] w=if w=b.fr then b.to else w:=by
 have:=zb7 [] b w
 rw[List.nil_append,zcS]at this
 rw[this]
 by_cases h:b.fr=w
 ·rw[if_pos h,if_pos h.symm]
 ·rw[if_neg h,if_neg fun e=>h e.symm]
theorem zlw {env:List za3}{u:List Str}(he:env.length≤1):zfi env u=u.map (lkp env):=by
 match env,he with
 |[],_=>rw[show lkp []=id from funext zcS,List.map_id];rfl
 |[b],_=>rw[zu5];exact List.map_congr_left fun w _=>zAt.symm
theorem zot {f:zab}{env:List za3}(he:env.length≤1):zaD (zaD f env) []=zaD f env:=by
 have hc:cst (zaD f env) []=(cst f []).map (lkp env):=by
  unfold zaD
  refine ztK f env [] [] 0 (by simp) (by simp) fun w hw=>?_
  rw[zlw he]
  exact List.mem_map.2 ⟨w,(zbm f w).2 hw,rfl⟩
 have hv:vg (zfi [] (zaP (zaD f env)))=vg (zfi env (zaP f)):=by
  refine zyj fun j=>?_
  rw[zlw he,show zfi [] (zaP (zaD f env))=zaP (zaD f env)from rfl,zbm,hc,List.mem_map,List.mem_map]
  constructor
  ·rintro⟨w,hw,e⟩;exact⟨w,(zbm f w).2 hw,e⟩
  ·rintro⟨w,hw,e⟩;exact⟨w,(zbm f w).1 hw,e⟩
 have e:zaD (zaD f env) []=(ren (vg (zfi env (zaP f))) (zaD f env) [] 0).1:=by
  rw[←hv];rfl
 rw[e]
 unfold zaD
 rw[znE f env [] 0 zcS]
structure BF0 (f:zab):Prop where
 b:brF f
 sh:shp false f
 aw:zbK (fun w=>zat w=true) f
structure BF (f:zab):Prop where
 o:BF0 f
 cn:cnn f=f
theorem BF0.clean {f:zab}(h:BF0 f):clean f:=zjC (fun _ hw=>zni hw) f h.aw
theorem BF0.sub {f g:zab}(h:BF0 f)(hg:g∈f.subs):BF0 g:=by
 have hs:=h.sh
 have ha:=h.aw
 refine⟨h.b.sub hg,?_,?_⟩
 ·obtain⟨k,nm,ws,s⟩:=f
  rw[shp]at hs
  exact(zlz s).1 hs.2 g hg
 ·obtain⟨k,nm,ws,s⟩:=f
  rw[zbK]at ha
  exact(zf1 _ s).1 ha.2.2 g hg
theorem zsi {used:List Str}{B:Nat}{p:Str→Prop}(hv:∀j,j<B→p (zfB j)):∀m,(∀(f:zab) (env:List za3) (n:Nat),f.size≤m→n+(used.length+1)*f.size≤B→zbK p f→(∀w,p w→p (lkp env w))→zbK p (ren (vg used) f env n).1)∧
  ∀(fs:List zab) (env:List za3) (n:Nat),zab.sizes fs≤m→n+(used.length+1)*zab.sizes fs≤B→zaQ p fs→(∀w,p w→p (lkp env w))→zaQ p (zbb (vg used) fs env n).1:=by
 intro m
 induction m with
 |zero=>
  refine⟨fun f env n h=>by have:=f.size_pos;omega,fun fs env n h _ _ _=>?_⟩
  cases fs with
  |nil=>rw[zbb,zaQ];trivial
  |cons f fs=>rw[zab.sizes]at h;have:=f.size_pos;omega
 |succ m ih=>
  have h1:∀(f:zab) (env:List za3) (n:Nat),f.size≤m+1→n+(used.length+1)*f.size≤B→zbK p f→(∀w,p w→p (lkp env w))→zbK p (ren (vg used) f env n).1:=by
   intro f env n hs hn ha he
   obtain⟨k,nm,ws,s⟩:=f
   rw[zab.size]at hs hn
   rw[Nat.mul_add,Nat.mul_one]at hn
   rw[zbK]at ha
   have hw:∀w∈ws.map (lkp env),p w:=fun w hw=>by
    obtain⟨x,hx,rfl⟩:=List.mem_map.1 hw
    exact he x (ha.1 x hx)
   have hg:=zbj used n
   rw[ren]
   by_cases hq:isQ k
   ·have hvn:p (zfB (zcI used n)):=hv _ (by omega)
    rw[if_pos hq,zbK]
    refine⟨hw,fun _=>hvn,ih.2 s _ _ (by omega) ?_ ha.2.2 fun w hw=>?_⟩
    ·show zcI used n+1+_≤B
     omega
    ·rw[zb7]
     split
     ·exact hvn
     ·exact he w hw
   ·rw[if_neg hq,zbK]
    exact⟨hw,fun h=>absurd h hq,ih.2 s _ _ (by omega) (by omega) ha.2.2 he⟩
  refine⟨h1,fun fs=>?_⟩
  induction fs with
  |nil=>intro env n _ _ _ _;rw[zbb,zaQ];trivial
  |cons f fs ih2=>
   intro env n hs hn ha he
   rw[zab.sizes]at hs hn
   rw[Nat.mul_add]at hn
   rw[zaQ]at ha
   rw[zbb,zaQ]
   have:=((znC (zsE used)).1 f env n).2
   exact⟨h1 f env n (by omega) (by omega) ha.1 he,ih2 env _ (by omega) (by omega) ha.2 he⟩
theorem BF0.can {f:zab}{env:List za3}(h:BF0 f)(he:env.length≤1)(hn:∀b∈env,zat b.to=true):BF (zaD f env):=by
 refine⟨⟨h.b.cn,zpd _ f env 0 h.sh,?_⟩,zot he⟩
 unfold zaD
 have h1:=zd0 f [] h.b.ft
 have h2:=zfn f
 refine(zsi (B:=10^20) (fun j hj=>zn3 hj) f.size).1 f env 0 (Nat.le_refl _) ?_ h.aw fun w hw=>?_
 ·rw[zlw he,List.length_map]
  have hs:=h.b.s
  have h3:((zaP f).length+1)*f.size≤800001*800:=Nat.mul_le_mul (by omega) hs
  omega
 ·rcases zuw env w with e|⟨b,hb,e⟩
  ·rw[e];exact hw
  ·rw[e];exact hn b hb
theorem BF0.cn {f:zab}(h:BF0 f):BF (cnn f):=h.can (by simp) (by simp)
theorem BF0.not {f:zab}(h:BF0 f)(hs:f.size+1≤800):BF0 (zbD f):=by
 refine⟨⟨?_,?_,?_⟩,?_,?_⟩
 ·unfold zbD
  rw[vok,zhA,zhA]
  exact⟨by decide,by decide,fun e=>absurd e (by decide),fun e=>absurd e (by decide),fun _=>rfl,fun e=>by omega,h.b.v,trivial⟩
 ·simp[zbD,zab.fit,zab.fits,h.b.ft]
 ·simp only[zbD,zab.size,zab.sizes];omega
 ·unfold zbD
  rw[shp,zeS,zeS]
  refine⟨⟨rfl,rfl,fun e=>?_,fun _=>rfl⟩,h.sh,trivial⟩
  exact absurd (of_decide_eq_true e) (by rw[zah];omega)
 ·exact zuK h.aw
theorem BF0.ng {f:zab}(h:BF0 f)(hs:f.size+1≤800):BF (ngg f):=(h.not hs).can (by simp) (by simp)
theorem ztd:∀(n:Nat) (f:zab),f.size≤n→BF0 f→Vw f
 |0,f,h,_=>by have:=f.size_pos;omega
 |n+1,f,h,hb=>by
  have hv:=zbM.1 hb.b.v
  have hsub:∀g∈f.subs,Vw g:=fun g hg=>ztd n g (by have:=zab.size_sub hg;omega) (hb.sub hg)
  have hs:=hb.sh
  have ha:=hb.aw
  obtain⟨k,nm,ws,s⟩:=f
  rw[shp]at hs
  rw[zbK]at ha
  obtain⟨⟨s1,s2,s3,s4⟩,_⟩:=hs
  simp only[zah,zaK,zb2,zct]at hv s1 s2 s3 s4 hsub
  have hp:zbn false (.mk k nm ws s)=zdO k:=by unfold zbn;rw[zah,if_neg (by simp)]
  rw[hp]at s1
  have w0:k≠2→k≠3→ws=[]:=fun h2 h3=>by
   unfold zdk at s2
   rw[zah,zct,if_neg h2,if_neg h3]at s2
   exact List.eq_nil_of_length_eq_zero (of_decide_eq_true s2)
  have n0:k≠2→k≠8→k≠9→nm=⟨[]⟩:=fun h2 h8 h9=>s4 (by
   unfold named
   rw[zah]
   exact decide_eq_false (by omega))
  have zbJ:(k=1∨k=2∨k=3)→s=[]:=fun h=>by
   unfold zdO at s1
   rw[if_pos h]at s1
   exact List.eq_nil_of_length_eq_zero (by omega)
  by_cases h1:k=1
  ·subst h1
   rw[w0 (by decide) (by decide),n0 (by decide) (by decide) (by decide),zbJ (.inl rfl)]
   exact .t
  by_cases h2:k=2
  ·subst h2
   rw[zbJ (.inr (.inl rfl))]
   exact .p nm ws (s3 rfl (by unfold isQ;decide)) ha.1
  by_cases h3:k=3
  ·subst h3
   rw[n0 (by decide) (by decide) (by decide),zbJ (.inr (.inr rfl))]
   have hl:=hv.2.2.2.1 rfl
   match ws,hl,ha.1 with
   |[a,b],_,hw=>exact .e a b (hw a (by simp)) (hw b (by simp))
  have hw:=w0 h2 h3
  subst hw
  by_cases h4:k=4
  ·subst h4
   rw[n0 (by decide) (by decide) (by decide)]
   have hl:=hv.2.2.2.2.1 (.inl rfl)
   match s,hl,hsub with
   |[a],_,hsub=>exact .n a (hsub a (by simp))
  by_cases h8:k=8∨k=9
  ·have hl:=hv.2.2.2.2.1 (.inr h8)
   match s,hl,hsub with
   |[a],_,hsub=>exact .q k nm a h8 (ha.2.1 h8) (hsub a (by simp))
  have h5:k=5∨k=6∨k=7:=by omega
  rw[n0 h2 (by omega) (by omega)]
  have hl:=hv.2.2.2.2.2.1 h5
  match s,hl,hsub with
  |[a,b],_,hsub=>exact .j k a b h5 (hsub a (by simp)) (hsub b (by simp))
theorem BF0.vw {f:zab}(h:BF0 f):Vw f:=ztd f.size f (Nat.le_refl _) h
theorem txt_eq {f g:zab}(hf:BF0 f)(hg:BF0 g):txt f=txt g↔f=g:=⟨hf.vw.txt_eq hg.vw,fun h=>by rw[h]⟩
end Go.Abs

import Derived.Test.YtdlioodgfopmfaaGreatDoorCK
set_option linter.unusedSimpArgs false
namespace Go.Abs
open Go
theorem zwO {a b:List Str}(h:∀j,zdR j∈a↔zdR j∈b):vg a=vg b:=by
 funext k;unfold vg;rw[ziR h k]
mutual
theorem zsy {used:List Str}:∀(f:zac) (env:List zaR) (bd bd':List Str) (n:Nat),(∀w∈bd,lkp env w∈bd')→(∀w∈bd',w∉used)→(∀w∈cst f bd,lkp env w∈used)→
  cst (ren (vg used) f env n).1 bd'=(cst f bd).map (lkp env)
 | .mk k nm ws s,env,bd,bd',n,h1,h2,h3=>by
  rw[cst]at h3
  have hw:(ws.map (lkp env)).filter (fun w=>decide (w∉bd'))=(ws.filter fun w=>decide (w∉bd)).map (lkp env):=by
   have:∀l:List Str,(∀w∈l,w∈ws)→(l.map (lkp env)).filter (fun w=>decide (w∉bd'))=(l.filter fun w=>decide (w∉bd)).map (lkp env):=by
    intro l
    induction l with
    |nil=>intro _;rfl
    |cons w l ih=>
     intro hl
     have ih:=ih fun x hx=>hl x (by simp[hx])
     rw[List.map_cons]
     by_cases hb:w∈bd
     ·rw[List.filter_cons_of_neg (by simpa using h1 w hb),List.filter_cons_of_neg (by simpa using hb),ih]
     ·have hu:lkp env w∉bd':=fun hm=>h2 _ hm (h3 w (List.mem_append_left _ (List.mem_filter.2 ⟨hl w (by simp),by simpa using hb⟩)))
      rw[List.filter_cons_of_pos (by simpa using hu),List.filter_cons_of_pos (by simpa using hb),ih,List.map_cons]
   exact this ws fun _ h=>h
  rw[ren]
  by_cases hq:isQ k
  ·rw[if_pos hq]at h3
   rw[if_pos hq,cst,cst,if_pos hq,if_pos hq,List.map_append,hw]
   have hv:zdR (zbR used n)∉used:=(za4 used n).2.2.1
   have hc:∀w∈zbU s (bd++[nm]),lkp (env++[⟨nm,(vg used n).1⟩]) w=lkp env w:=fun w hw=>by
    have hn:=zgS s _ w hw
    rw[zcc,if_neg fun e=>hn (List.mem_append_right _ (List.mem_singleton.2 e.symm))]
   have ih:=zkC s (env++[⟨nm,(vg used n).1⟩]) (bd++[nm]) (bd'++[(vg used n).1]) (vg used n).2 (fun w hw=>by
    rw[zcc]
    by_cases e:nm=w
    ·rw[if_pos e];exact List.mem_append_right _ (by simp)
    ·rw[if_neg e]
     rcases List.mem_append.1 hw with h|h
     ·exact List.mem_append_left _ (h1 w h)
     ·exact absurd (List.mem_singleton.1 h).symm e) (fun w hw=>by
    rcases List.mem_append.1 hw with h|h
    ·exact h2 w h
    ·rw[List.mem_singleton.1 h];exact hv) (fun w hw=>by rw[hc w hw];exact h3 w (List.mem_append_right _ hw))
   rw[ih]
   congr 1
   exact List.map_congr_left hc
  ·rw[if_neg hq]at h3
   rw[if_neg hq,cst,cst,if_neg hq,if_neg hq,List.map_append,hw]
   rw[zkC s env bd bd' n h1 h2 fun w hw=>h3 w (List.mem_append_right _ hw)]
theorem zkC {used:List Str}:∀(fs:List zac) (env:List zaR) (bd bd':List Str) (n:Nat),(∀w∈bd,lkp env w∈bd')→(∀w∈bd',w∉used)→(∀w∈zbU fs bd,lkp env w∈used)→
  zbU (za5 (vg used) fs env n).1 bd'=(zbU fs bd).map (lkp env)
 |[],env,bd,bd',n,_,_,_=>by rw[za5,zbU,zbU];rfl
 |f::fs,env,bd,bd',n,h1,h2,h3=>by
  rw[zbU]at h3
  rw[za5,zbU,zbU,List.map_append,zsy f env bd bd' n h1 h2 fun w hw=>h3 w (List.mem_append_left _ hw),zkC fs env bd bd' _ h1 h2 fun w hw=>h3 w (List.mem_append_right _ hw)]
end
mutual
theorem zm7 {g:Nat→Str×Nat}:∀(f:zac) (env env':List zaR) (n:Nat),(∀w,lkp env' w=w)→ren g (ren g f env n).1 env' n=((ren g f env n).1,(ren g f env n).2)
 | .mk k nm ws s,env,env',n,h=>by
  have hm:∀l:List Str,l.map (lkp env')=l:=fun l=>by
   rw[show lkp env'=id from funext h,List.map_id]
  rw[ren]
  by_cases hq:isQ k
  ·rw[if_pos hq,ren,if_pos hq]
   rw[zg7 s _ _ _ (fun w=>by rw[zcc];split;·assumption
                             ·exact h w),hm]
  ·rw[if_neg hq,ren,if_neg hq]
   rw[zg7 s env env' n h,hm]
theorem zg7 {g:Nat→Str×Nat}:∀(fs:List zac) (env env':List zaR) (n:Nat),(∀w,lkp env' w=w)→za5 g (za5 g fs env n).1 env' n=((za5 g fs env n).1,(za5 g fs env n).2)
 |[],env,env',n,_=>by simp[za5]
 |f::fs,env,env',n,h=>by
  rw[za5,za5,zm7 f env env' n h,zg7 fs env env' _ h]
end
theorem ztO {b:zaR}{u:List Str}:zeC [b] u=u.map fun w=>if w=b.fr then b.to else w:=rfl
theorem zyU {b:zaR}{w:Str}:lkp [b] w=if w=b.fr then b.to else w:=by
 have:=zcc [] b w
 rw[List.nil_append,zeA]at this
 rw[this]
 by_cases h:b.fr=w
 ·rw[if_pos h,if_pos h.symm]
 ·rw[if_neg h,if_neg fun e=>h e.symm]
theorem zli {env:List zaR}{u:List Str}(he:env.length≤1):zeC env u=u.map (lkp env):=by
 match env,he with
 |[],_=>rw[show lkp []=id from funext zeA,List.map_id];rfl
 |[b],_=>rw[ztO];exact List.map_congr_left fun w _=>zyU.symm
theorem znT {f:zac}{env:List zaR}(he:env.length≤1):zau (zau f env) []=zau f env:=by
 have hc:cst (zau f env) []=(cst f []).map (lkp env):=by
  unfold zau
  refine zsy f env [] [] 0 (by simp) (by simp) fun w hw=>?_
  rw[zli he]
  exact List.mem_map.2 ⟨w,(zbz f w).2 hw,rfl⟩
 have hv:vg (zeC [] (zba (zau f env)))=vg (zeC env (zba f)):=by
  refine zwO fun j=>?_
  rw[zli he,show zeC [] (zba (zau f env))=zba (zau f env)from rfl,zbz,hc,List.mem_map,List.mem_map]
  constructor
  ·rintro⟨w,hw,e⟩;exact⟨w,(zbz f w).2 hw,e⟩
  ·rintro⟨w,hw,e⟩;exact⟨w,(zbz f w).1 hw,e⟩
 have e:zau (zau f env) []=(ren (vg (zeC env (zba f))) (zau f env) [] 0).1:=by
  rw[←hv];rfl
 rw[e]
 unfold zau
 rw[zm7 f env [] 0 zeA]
theorem zwM (f:zac):zba (zdP f)=zba f:=by
 unfold zba
 rw[show cst (zdP f) []=cst f [] by unfold zdP;rw[cst,zbU,zbU];simp[isQ]]
theorem ztt (f:zac):ngg f=zdP (cnn f):=by
 unfold ngg cnn zau
 rw[zwM]
 unfold zdP
 rw[ren,if_neg (by unfold isQ;omega),za5,za5]
 rfl
structure BF0 (f:zac):Prop where
 b:brF f
 sh:shp false f
 aw:zbQ (fun w=>zas w=true) f
structure BF (f:zac):Prop where
 o:BF0 f
 cn:cnn f=f
theorem BF0.clean {f:zac}(h:BF0 f):clean f:=zjw (fun _ hw=>zgp hw) f h.aw
theorem BF0.sub {f g:zac}(h:BF0 f)(hg:g∈f.subs):BF0 g:=by
 have hs:=h.sh
 have ha:=h.aw
 refine⟨h.b.sub hg,?_,?_⟩
 ·obtain⟨k,nm,ws,s⟩:=f
  rw[shp]at hs
  exact(zlk s).1 hs.2 g hg
 ·obtain⟨k,nm,ws,s⟩:=f
  rw[zbQ]at ha
  exact(zfX _ s).1 ha.2.2 g hg
theorem zq9 {used:List Str}{B:Nat}{p:Str→Prop}(hv:∀j,j<B→p (zdR j)):∀m,(∀(f:zac) (env:List zaR) (n:Nat),f.size≤m→n+(used.length+1)*f.size≤B→zbQ p f→(∀w,p w→p (lkp env w))→zbQ p (ren (vg used) f env n).1)∧
  ∀(fs:List zac) (env:List zaR) (n:Nat),zac.sizes fs≤m→n+(used.length+1)*zac.sizes fs≤B→zaS p fs→(∀w,p w→p (lkp env w))→zaS p (za5 (vg used) fs env n).1:=by
 intro m
 induction m with
 |zero=>
  refine⟨fun f env n h=>by have:=f.size_pos;omega,fun fs env n h _ _ _=>?_⟩
  cases fs with
  |nil=>rw[za5,zaS];trivial
  |cons f fs=>rw[zac.sizes]at h;have:=f.size_pos;omega
 |succ m ih=>
  have h1:∀(f:zac) (env:List zaR) (n:Nat),f.size≤m+1→n+(used.length+1)*f.size≤B→zbQ p f→(∀w,p w→p (lkp env w))→zbQ p (ren (vg used) f env n).1:=by
   intro f env n hs hn ha he
   obtain⟨k,nm,ws,s⟩:=f
   rw[zac.size]at hs hn
   rw[Nat.mul_add,Nat.mul_one]at hn
   rw[zbQ]at ha
   have hw:∀w∈ws.map (lkp env),p w:=fun w hw=>by
    obtain⟨x,hx,rfl⟩:=List.mem_map.1 hw
    exact he x (ha.1 x hx)
   have hg:=za4 used n
   rw[ren]
   by_cases hq:isQ k
   ·have hvn:p (zdR (zbR used n)):=hv _ (by omega)
    rw[if_pos hq,zbQ]
    refine⟨hw,fun _=>hvn,ih.2 s _ _ (by omega) ?_ ha.2.2 fun w hw=>?_⟩
    ·show zbR used n+1+_≤B
     omega
    ·rw[zcc]
     split
     ·exact hvn
     ·exact he w hw
   ·rw[if_neg hq,zbQ]
    exact⟨hw,fun h=>absurd h hq,ih.2 s _ _ (by omega) (by omega) ha.2.2 he⟩
  refine⟨h1,fun fs=>?_⟩
  induction fs with
  |nil=>intro env n _ _ _ _;rw[za5,zaS];trivial
  |cons f fs ih2=>
   intro env n hs hn ha he
   rw[zac.sizes]at hs hn
   rw[Nat.mul_add]at hn
   rw[zaS]at ha
   rw[za5,zaS]
   have:=((zgu (zrx used)).1 f env n).2
   exact⟨h1 f env n (by omega) (by omega) ha.1 he,ih2 env _ (by omega) (by omega) ha.2 he⟩
theorem BF0.can {f:zac}{env:List zaR}(h:BF0 f)(he:env.length≤1)(hn:∀b∈env,zas b.to=true):BF (zau f env):=by
 refine⟨⟨h.b.cn,zou _ f env 0 h.sh,?_⟩,znT he⟩
 unfold zau
 have h1:=zeV f [] h.b.ft
 have h2:=zjb f
 refine(zq9 (B:=10^20) (fun j hj=>zny hj) f.size).1 f env 0 (Nat.le_refl _) ?_ h.aw fun w hw=>?_
 ·rw[zli he,List.length_map]
  have hs:=h.b.s
  have h3:((zba f).length+1)*f.size≤800001*800:=Nat.mul_le_mul (by omega) hs
  omega
 ·rcases zth env w with e|⟨b,hb,e⟩
  ·rw[e];exact hw
  ·rw[e];exact hn b hb
theorem BF0.cn {f:zac}(h:BF0 f):BF (cnn f):=h.can (by simp) (by simp)
theorem BF0.not {f:zac}(h:BF0 f)(hs:f.size+1≤800):BF0 (zdP f):=by
 refine⟨⟨?_,?_,?_⟩,?_,?_⟩
 ·unfold zdP
  rw[vok,zkc,zkc]
  exact⟨by decide,by decide,fun e=>absurd e (by decide),fun e=>absurd e (by decide),fun _=>rfl,fun e=>by omega,h.b.v,trivial⟩
 ·simp[zdP,zac.fit,zac.fits,h.b.ft]
 ·simp only[zdP,zac.size,zac.sizes];omega
 ·unfold zdP
  rw[shp,ze7,ze7]
  refine⟨⟨rfl,rfl,fun e=>?_,fun _=>rfl⟩,h.sh,trivial⟩
  exact absurd (of_decide_eq_true e) (by rw[zak];omega)
 ·exact ztw h.aw
theorem BF0.ng {f:zac}(h:BF0 f)(hs:f.size+1≤800):BF (ngg f):=(h.not hs).can (by simp) (by simp)
theorem BF.not_inv {f:zac}(h:BF (zdP f)):cnn f=f:=by
 have h1:ngg f=zdP f:=h.cn
 rw[ztt]at h1
 unfold zdP at h1
 injection h1 with _ _ _ h2
 exact(List.cons.inj h2).1
theorem zr8:∀(n:Nat) (f:zac),f.size≤n→BF0 f→Vw f
 |0,f,h,_=>by have:=f.size_pos;omega
 |n+1,f,h,hb=>by
  have hv:=zbf.1 hb.b.v
  have hsub:∀g∈f.subs,Vw g:=fun g hg=>zr8 n g (by have:=zac.size_sub hg;omega) (hb.sub hg)
  have hs:=hb.sh
  have ha:=hb.aw
  obtain⟨k,nm,ws,s⟩:=f
  rw[shp]at hs
  rw[zbQ]at ha
  obtain⟨⟨s1,s2,s3,s4⟩,_⟩:=hs
  simp only[zak,za9,zcn,zcb]at hv s1 s2 s3 s4 hsub
  have hp:zbt false (.mk k nm ws s)=zdH k:=by unfold zbt;rw[zak,if_neg (by simp)]
  rw[hp]at s1
  have w0:k≠2→k≠3→ws=[]:=fun h2 h3=>by
   unfold zdc at s2
   rw[zak,zcb,if_neg h2,if_neg h3]at s2
   exact List.eq_nil_of_length_eq_zero (of_decide_eq_true s2)
  have n0:k≠2→k≠8→k≠9→nm=⟨[]⟩:=fun h2 h8 h9=>s4 (by
   unfold named
   rw[zak]
   exact decide_eq_false (by omega))
  have zbo:(k=1∨k=2∨k=3)→s=[]:=fun h=>by
   unfold zdH at s1
   rw[if_pos h]at s1
   exact List.eq_nil_of_length_eq_zero (by omega)
  by_cases h1:k=1
  ·subst h1
   rw[w0 (by decide) (by decide),n0 (by decide) (by decide) (by decide),zbo (.inl rfl)]
   exact .t
  by_cases h2:k=2
  ·subst h2
   rw[zbo (.inr (.inl rfl))]
   exact .p nm ws (s3 rfl (by unfold isQ;decide)) ha.1
  by_cases h3:k=3
  ·subst h3
   rw[n0 (by decide) (by decide) (by decide),zbo (.inr (.inr rfl))]
   have hl:=hv.2.2.2.1 rfl
   match ws,hl,ha.1 with
   |[a,b],_,hw=>exact .e a b (hw a (by simp)) (hw b (by simp))
  have hw:=w0 h2 h3
  subst hw
  by_cases h4:k=4
  ·subst h4
   rw[n0 (by decide) (by decide) (by decide)]
   have hl:=hv.2.2.2.2.1 (.inl rfl)
   match s,hl,hsub with
   |[a],_,hsub=>exact .n a (hsub a (by simp))
  by_cases h8:k=8∨k=9
  ·have hl:=hv.2.2.2.2.1 (.inr h8)
   match s,hl,hsub with
   |[a],_,hsub=>exact .q k nm a h8 (ha.2.1 h8) (hsub a (by simp))
  have h5:k=5∨k=6∨k=7:=by omega
  rw[n0 h2 (by omega) (by omega)]
  have hl:=hv.2.2.2.2.2.1 h5
  match s,hl,hsub with
  |[a,b],_,hsub=>exact .j k a b h5 (hsub a (by simp)) (hsub b (by simp))
theorem BF0.vw {f:zac}(h:BF0 f):Vw f:=zr8 f.size f (Nat.le_refl _) h
theorem txt_eq {f g:zac}(hf:BF0 f)(hg:BF0 g):txt f=txt g↔f=g:=⟨hf.vw.txt_eq hg.vw,fun h=>by rw[h]⟩
theorem zA9 {ws:List Str}{sep:List UInt8}(h:∀w∈ws,zas w=true)(hs:sep.length≤3):(jn sep ws).length≤33*ws.length:=by
 have key:∀l:List Str,(∀w∈l,zas w=true)→(l.flatMap fun v=>sep++v.l).length≤33*l.length:=by
  intro l
  induction l with
  |nil=>intro _;simp
  |cons w l ih=>
   intro hl
   have h1:=ih fun x hx=>hl x (by simp[hx])
   have h2:=zfs (hl w (by simp))
   rw[List.flatMap_cons,List.length_append,List.length_append,List.length_cons]
   omega
 cases ws with
 |nil=>simp[jn]
 |cons w ws=>
  have h1:=key ws fun x hx=>h x (by simp[hx])
  have h2:=zfs (h w (by simp))
  rw[jn,List.length_append,List.length_cons]
  omega
theorem zja:∀(n:Nat) (f:zac),f.size≤n→BF0 f→(txt f).length≤40000*f.size
 |0,f,h,_=>by have:=f.size_pos;omega
 |n+1,f,h,hb=>by
  have hv:=hb.vw
  have hwl:f.words.length≤1000:=by
   have hf:=hb.b.ft
   cases f with
   |mk a b c d=>
    rw[zac.fit]at hf
    simp only[Bool.and_eq_true,decide_eq_true_eq]at hf
    exact hf.1.1
  cases hv with
  |t=>rw[zuF,zac.size,zac.sizes];simp
  |p nm ws h1 h2=>
   have h3:=zA9 (sep:=[44]) h2 (by simp)
   have h4:=zfs h1
   rw[zcb]at hwl
   rw[znr,zac.size,zac.sizes]
   simp only[List.length_append,List.length_cons,List.length_nil]
   omega
  |e a b h1 h2=>
   have h3:=zfs h1
   have h4:=zfs h2
   rw[zns,zac.size,zac.sizes]
   simp only[List.length_append,List.length_cons,List.length_nil]
   omega
  |n a _=>
   have hz:(zac.mk 4 ⟨[]⟩ [] [a]).size=a.size+1:=zcY rfl
   have:=zja n a (by omega) (hb.sub (by simp[za9]))
   rw[znt,hz,List.length_cons]
   omega
  |j k a b hk _ _=>
   have hz:(zac.mk k ⟨[]⟩ [] [a,b]).size=a.size+b.size+1:=zdl rfl
   have hpa:=a.size_pos
   have hpb:=b.size_pos
   have h1:=zja n a (by omega) (hb.sub (by simp[za9]))
   have h2:=zja n b (by omega) (hb.sub (by simp[za9]))
   rw[znu hk,hz]
   simp only[List.length_append,List.length_cons,List.length_nil]
   omega
  |q k nm a hk h1 _=>
   have hz:(zac.mk k nm [] [a]).size=a.size+1:=zcY rfl
   have h2:=zja n a (by omega) (hb.sub (by simp[za9]))
   have h3:=zfs h1
   have h4:(qs k).length≤4:=by unfold qs;split<;>decide
   rw[znv hk,hz]
   simp only[List.length_append,List.length_cons]
   omega
theorem BF0.tx {f:zac}(h:BF0 f):txP f:=⟨h.b.v,h.b.ft,by
 have:=zja f.size f (Nat.le_refl _) h
 have:=h.b.s
 omega⟩
end Go.Abs

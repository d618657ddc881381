/- several texts of this proof in one; no conditions -/
import Derived.Test.YtmconmiemdinkaaGreatDoorY10
import Derived.Shelf.SlSortCmp.WholeK
import Derived.Test.YtmconmiemdinkaaGreatDoorY11
set_option linter.unusedSimpArgs false
namespace Go.Abs
open Go
section
variable {P:Program} {G:Nat→List FD}
end
end Go.Abs
namespace Go.Abs
open Go
section
variable {P:Program} {G:Nat→List FD} {w w':World} {L:Loc} {F:Nat→Nat→Prop} {U:Id→Prop} {H:zax}
theorem zwd {a b:Array Obj}(hs:a.size≤b.size)(h:∀i,i<a.size→b[i]?=a[i]?):b=a++b.extract a.size b.size:=by
 apply Array.ext_getElem?
 intro i
 rcases Nat.lt_or_ge i a.size with hi|hi
 ·rw[h i hi,Array.getElem?_append_left hi]
 ·rw[Array.getElem?_append_right hi,Array.getElem?_extract]
  split
  ·rw[show a.size+(i-a.size)=i by omega]
  ·rw[Array.getElem?_eq_none (by omega)]
theorem zbv.grow {L':Loc}{F':Nat→Nat→Prop}{U':Id→Prop}{H':zax}(h:zbv H0 w L F U H' w' L' F' U'):∃q os,w'=Sort.grow (w.drewN q) os:=by
 refine⟨w'.drawn-w.drawn,w'.heap.extract w.heap.size w'.heap.size,?_⟩
 have h1:=zwd h.size fun b hb=>h.keep b hb (by rintro⟨_,_,hh,_⟩;cases hh)
 have h2:w.drawn+(w'.drawn-w.drawn)=w'.drawn:=by have:=h.drawn;omega
 have h3:=h.os;have h4:=h.tape;have h5:=h.output
 show w'={heap:=w.heap++w'.heap.extract w.heap.size w'.heap.size,tape:=w.tape,drawn:=w.drawn+(w'.drawn-w.drawn),os:=w.os,output:=w.output}
 rw[←h1,h2,←h3,←h4,←h5]
theorem zsE {g:FuncId}{x y:FD}{z:Int}{v1 v2:Value}(hg:zaH P G g [.fz x,.fz y] H0 0 (fun d _ _=>D.val d=some (.fz (.i .i64 z))))(hok:OkW G w L F (Ub 0) H0)
  (h1:za8 w F v1 x)(h2:za8 w F v2 y):Calls P g #[v1,v2] w fun e w'=>e= .returned (.int .i64 z)∧∃q os,w'=Sort.grow (w.drewN q) os:=by
 refine(hg.2 w L F [v1,v2] hok (by simp only[zao,zak];exact⟨h1,h2,trivial⟩)).mono fun e w' he=>?_
 obtain⟨v,d,H',n',L',F',rfl,hQ,_,hv,hst⟩:=he
 have h3:=zak.val (L':=L') (U':=Ub n') hv hQ
 simp only[zak]at h3
 obtain⟨rfl,_⟩:=h3.int_inv
 exact⟨rfl,hst.grow⟩
theorem zry {off:Nat}{ys cs:Array Value}(h:off+ys.size≤cs.size){j:Nat}(hj:j<ys.size):(Sort.putCells id off ys cs)[off+j]?=some ys[j]! :=by
 unfold Sort.putCells
 rw[Array.getElem?_mapIdx,Array.getElem?_eq_getElem (by omega)]
 simp only[Option.map_some]
 rw[if_pos ⟨by omega,by omega⟩,show off+j-off=j by omega]
 rfl
theorem zrz {off:Nat}{ys cs:Array Value}{k:Nat}(hk:k<off):(Sort.putCells id off ys cs)[k]?=cs[k]?:=by
 unfold Sort.putCells
 rw[Array.getElem?_mapIdx]
 cases cs[k]? with
 |none=>rfl
 |some x=>simp only[Option.map_some];rw[if_neg (by omega)]
theorem zwD (hok:OkW G w L F U H){id':Id}{o:O}(ho:H id'=some o)(hv:(L id').3=false){cs:Array Value}{T:TypeId}(hb:w.heap[(L id').1]?=some (.cells cs T (0,0)))
  {ys:Array Value}{ds:List D}(hlen:(L id').2+ys.size≤cs.size)(hz:ds.length≤ys.size)(hd:∀j,j<ds.length→zak w L F U (ds.getD j .junk) ys[j]!){n:Nat}{os:Array Obj}
  (hw:w'=Sort.grow (Sort.putRow id (Sort.ahead w n) (L id').1 (L id').2 ys) os):
  OkW G w' L F U (zaM H id' (some ⟨ds,o.box,o.virt⟩))∧zbv H w L F U (zaM H id' (some ⟨ds,o.box,o.virt⟩)) w' L F U:=by
 obtain⟨hU,_⟩:=hok.live id' o ho
 have hH:zaM (zaM H id' none) id' (some (⟨ds,o.box,o.virt⟩:O))=zaM H id' (some ⟨ds,o.box,o.virt⟩):=by
  funext i;simp only[zaM];split<;>rfl
 have hsz:(Sort.putCells id (L id').2 ys cs).size=cs.size:=by simp[Sort.putCells]
 obtain⟨g1,g2⟩:=zfe (id':=id') (o':=⟨ds,o.box,o.virt⟩) (L':=L) (U':=U) hok ho hv hb hsz (fun k hk=>zrz hk) (fun _ h=>h) hU (fun _ _=>rfl) rfl (Nat.le_refl _) hv (.inl rfl)
  (by simp only;omega) (fun j hj=>⟨_,zry hlen (by simp only at hj;omega),hd j hj⟩)
 rw[hH]at g1 g2
 have hheap:w'.heap=(zhF w (L id').1 (.cells (Sort.putCells id (L id').2 ys cs) T (0,0))).heap++os:=by
  rw[hw]
  show(Array.modify w.heap (L id').1 _)++os=_
  congr 1
  apply Array.ext_getElem?
  intro k
  rw[Array.getElem?_modify]
  simp only[zhF]
  by_cases hk:(L id').1=k
  ·subst hk
   rw[Array.getElem?_setIfInBounds_self,if_pos rfl,hb,if_pos (zb5 hb)]
   rfl
  ·rw[if_neg hk,Array.getElem?_setIfInBounds_ne hk]
 obtain⟨k1,k2⟩:=zoC g1 os hheap (by rw[hw];rfl) (by rw[hw];rfl) (by rw[hw];rfl) (by rw[hw];exact Nat.le_add_right _ _)
 exact⟨k1,g2.trans k2⟩
structure El (w:World)(F:Nat→Nat→Prop)(k:Nat)(pre:List FD→Prop) where
 c:List FD
 vs:List Value
 hp:pre c
 hc:c.length=k
 hl:vs.length=k
 h1:∀y∈c,y.cells=[y]
 hr:∀j,j<k→za8 w F (vs.getD j undef) (c.getD j .nilf)
theorem za8.one {v:Value}{y:FD}(h:za8 w F v y)(h1:y.cells=[y]):v.oneCell'=true:=by
 cases h with
 |agg vs xs _ _=>
  have e:xs=[FD.agg xs]:=h1
  have:=congrArg (fun l:List FD=>SizeOf.sizeOf l) e
  simp at this
  omega
 |_=>rfl
theorem El.one {k:Nat}{pre:List FD→Prop}(e:El w F k pre):∀v∈e.vs,v.oneCell'=true:=fun v hv=>by
 obtain⟨j,hj,rfl⟩:=List.getElem_of_mem hv
 have hj2:j<k:=by rw[←e.hl];exact hj
 have h:=e.hr j hj2
 rw[List.getD_eq_getElem?_getD,List.getElem?_eq_getElem hj,Option.getD_some]at h
 have hjc:j<e.c.length:=by rw[e.hc];exact hj2
 rw[List.getD_eq_getElem?_getD,List.getElem?_eq_getElem hjc,Option.getD_some]at h
 exact h.one (e.h1 _ (List.getElem_mem hjc))
theorem El.rep {k:Nat}{pre:List FD→Prop}(e:El w F k pre):za8 w F (.agg e.vs.toArray) (.agg e.c):=
 .agg _ _ (by rw[e.hl,e.hc]) fun j hj=>e.hr j (by rw[←e.hc];exact hj)
theorem zyE {k:Nat}{pre:List FD→Prop}[Inhabited (El w F k pre)](hk:0<k)(d:Array (El w F k pre)){t:Nat}(ht:t<d.size*k):
  za8 w F (Sort.flatK El.vs k d)[t]! ((d[t / k]!).c.getD (t % k) .nilf):=by
 rw[Sort.get_flatK _ _ _ _ ht]
 have h:=(d[t / k]!).hr (t % k) (Nat.mod_lt _ hk)
 have hl:t % k<(d[t / k]!).vs.length:=by rw[(d[t / k]!).hl];exact Nat.mod_lt _ hk
 rw[List.getD_eq_getElem?_getD,List.getElem?_eq_getElem hl,Option.getD_some]at h
 rw[getElem!_pos (d[t / k]!).vs (t % k) hl]
 exact h
theorem zBC {k:Nat}{pre:List FD→Prop}[Inhabited (El w F k pre)](hk:0<k)(d:Array (El w F k pre)):(zaf (d.toList.map fun e=> .agg e.c)).length=d.size*k∧
  ∀t,t<d.size*k→(zaf (d.toList.map fun e=>FD.agg e.c)).getD t .junk= .fz ((d[t / k]!).c.getD (t % k) .nilf):=by
 have hcell:∀i,i<(d.toList.map fun e=>FD.agg e.c).length→((d.toList.map fun e=>FD.agg e.c).getD i .nilf).cells.length=k:=fun i hi=>by
  have hi2:i<d.toList.length:=by simpa using hi
  rw[List.getD_eq_getElem?_getD,List.getElem?_map,List.getElem?_eq_getElem hi2]
  exact(d.toList[i]).hc
 have hlen:(d.toList.map fun e=>FD.agg e.c).length=d.size:=by simp
 refine⟨by rw[zbq hcell,hlen],fun t ht=>?_⟩
 have hq:t / k<d.size:=Nat.div_lt_of_lt_mul (by rw[Nat.mul_comm];exact ht)
 have h:=zdn hcell (i:=t / k) (j:=t % k) (by rw[hlen];exact hq) (Nat.mod_lt _ hk)
 rw[Nat.mul_comm,Nat.div_add_mod]at h
 have hi2:t / k<d.toList.length:=by simpa using hq
 have e:(d.toList.map fun e=>FD.agg e.c).getD (t / k) .nilf=FD.agg (d[t / k]!).c:=by
  rw[List.getD_eq_getElem?_getD,List.getElem?_map,List.getElem?_eq_getElem hi2,getElem!_pos d _ hq]
  rfl
 rw[h,e]
 rfl
theorem zn5 {f g:FuncId}{k:Nat}{pre:List FD→Prop}{cmp:List FD→List FD→Int}(hk0:0<k)(hc:zap P f)
  (hsort:∀(α:Type) [Inhabited α] (enc:α→List Value) (_:∀x,(enc x).length=k) (_:∀x,∀v∈enc x,v.oneCell'=true) (cf:α→α→Int) (_:Sort.SWO (Proofs.ltOf cf)) (blk off cap:Nat) (d:Array α) (w:World),
   Proofs.CmpLays P g #[] enc k cf blk off d.size w→Sort.HoldsK enc k w blk off d→blk<w.heap.size→d.size<4611686018427387904→Calls P f #[.slice (some ⟨blk,off,none⟩) d.size cap,.func (.func g) #[] #[]] w fun e w'=>
    e= .returned (.tuple #[])∧∃d' n os,Sort.PermIn 0 d.size d d'∧Sort.SortedIn (Proofs.ltOf cf) 0 d.size d'∧w'=Proofs.sortWorldK enc k w blk off n d' os)
  (h0:∀(p:Option Addr) (cap:Nat) (fv:Value) (w:World),Calls P f #[.slice p 0 cap,fv] w fun e w'=>e= .returned (.tuple #[])∧w'=w)
  (hg:∀x y,pre x→pre y→zaH P G g [.fz (.agg x),.fz (.agg y)] H0 0 (fun d _ _=>D.val d=some (.fz (.i .i64 (cmp x y)))))
  (o1:∀x,pre x→¬cmp x x<0)(o2:∀x y z,pre x→pre y→pre z→cmp x y<0→cmp y z<0→cmp x z<0)(o3:∀x y z,pre x→pre y→pre z→¬cmp x y<0→¬cmp y z<0→¬cmp x z<0)
  {id':Id}{rows:List (List FD)}{bx vt:Bool}{n:Nat}(hpre:∀r∈rows,pre r∧r.length=k∧∀y∈r,y.cells=[y])(ho:H id'=some ⟨zaf (rows.map .agg),bx,vt⟩):
  zaH P G f [.arr id' k 0 rows.length,.fn g []] H n fun d H' n'=>d= .tup []∧∃rows':List (List FD),rows'.Perm rows∧(rows'.Pairwise fun a b=>¬cmp b a<0)∧H'=zaM H id' (some ⟨zaf (rows'.map .agg),bx,vt⟩)∧n'=n:=by
 refine⟨hc,fun w L F vs hok hvs=>?_⟩
 obtain⟨v,rfl,hv⟩:∃v,vs=[v,.func (.func g) #[] #[]]∧zak w L F (Ub n) (.arr id' k 0 rows.length) v:=by
  match vs,hvs with
  |[v,u],h=>
   rw[zao,zao]at h
   obtain⟨h1,h2,_⟩:=h
   simp only[zak]at h2
   obtain⟨us,rfl,h3⟩:=h2
   have:us=[]:=by
    cases us with
    |nil=>rfl
    |cons _ _=>simp[zao]at h3
   subst this
   exact⟨v,rfl,h1⟩
  |[],h=>simp[zao]at h
  |[_],h=>simp[zao]at h
  |_::_::_::_,h=>simp[zao]at h
 by_cases hne:rows=[]
 ·subst hne
  have hv2:=hv
  simp only[zak]at hv2
  obtain⟨_,a,cap,rfl,_⟩:=hv2
  refine(h0 a cap _ w).mono fun e w' he=>?_
  obtain⟨rfl,rfl⟩:=he
  have hH:zaM H id' (some ⟨zaf (([]:List (List FD)).map .agg),bx,vt⟩)=H:=by
   funext i;simp only[zaM];split
   ·rename_i e;subst e;rw[ho]
   ·rfl
  exact⟨_,_,H,n,L,F,rfl,⟨rfl,[],List.Perm.refl _,List.Pairwise.nil,hH.symm,rfl⟩,hok,by simp only[zak];exact⟨[],rfl,by simp[zao]⟩,zbv.refl _ _ _ _ _⟩
 have hpos:0<rows.length:=List.length_pos_iff.2 hne
 simp only[zak]at hv
 obtain⟨_,a,cap,rfl,hcap,hmax,hv3⟩:=hv
 rcases hv3 with hv3|⟨rfl,hL3,hlt,_⟩
 ·omega
 obtain⟨_,cs,T,hb,h4,h5⟩:=zaB (hok.live id' _ ho).2 hL3
 simp only at h4 h5
 have hcell:∀i,i<(rows.map FD.agg).length→((rows.map FD.agg).getD i .nilf).cells.length=k:=fun i hi=>by
  have hi2:i<rows.length:=by simpa using hi
  rw[List.getD_eq_getElem?_getD,List.getElem?_map,List.getElem?_eq_getElem hi2]
  exact(hpre _ (List.getElem_mem hi2)).2.1
 have hlenR:(rows.map FD.agg).length=rows.length:=by simp
 have hfl:(zaf (rows.map .agg)).length=rows.length*k:=by rw[zbq hcell,hlenR]
 rw[hfl]at h4 h5
 have h6:∀i j (hi:i<rows.length),j<k→∃v,cs[(L id').2+(i*k+j)]?=some v∧za8 w F v (rows[i].getD j .nilf):=fun i j hi hj=>by
  obtain⟨v,e1,e2⟩:=h5 (i*k+j) (zoI hi hj)
  have e0:(rows.map FD.agg).getD i .nilf=FD.agg rows[i]:=by
   rw[List.getD_eq_getElem?_getD,List.getElem?_map,List.getElem?_eq_getElem hi];rfl
  rw[zdn hcell (by rw[hlenR];exact hi) hj,e0]at e2
  simp only[zak]at e2
  exact⟨v,e1,e2⟩
 obtain⟨val,hval⟩:∃val:Nat→Nat→Value,val=fun i j=>(cs[(L id').2+(i*k+j)]?).getD undef:=⟨_,rfl⟩
 have h7:∀i j (hi:i<rows.length),j<k→cs[(L id').2+(i*k+j)]?=some (val i j)∧za8 w F (val i j) (rows[i].getD j .nilf):=fun i j hi hj=>by
  obtain⟨v,e1,e2⟩:=h6 i j hi hj
  have:val i j=v:=by rw[hval];simp only[e1,Option.getD_some]
  rw[this];exact⟨e1,e2⟩
 have mk:∀i (_:i<rows.length),∃e:El w F k pre,e.c=rows.getD i []∧e.vs=(List.range k).map (val i):=fun i hi=>by
  have hm:=hpre _ (List.getElem_mem hi)
  have e0:rows.getD i []=rows[i]:=by rw[List.getD_eq_getElem?_getD,List.getElem?_eq_getElem hi];rfl
  refine⟨⟨rows.getD i [],(List.range k).map (val i),by rw[e0];exact hm.1,by rw[e0];exact hm.2.1,by simp,by rw[e0];exact hm.2.2,fun j hj=>?_⟩,rfl,rfl⟩
  rw[e0,List.getD_eq_getElem?_getD,List.getElem?_map,List.getElem?_range hj]
  exact(h7 i j hi hj).2
 obtain⟨e0,_⟩:=mk 0 hpos
 letI:Inhabited (El w F k pre):=⟨e0⟩
 have mk2:∀i:Nat,∃e:El w F k pre,i<rows.length→e.c=rows.getD i []∧e.vs=(List.range k).map (val i):=fun i=>by
  by_cases hi:i<rows.length
  ·obtain⟨e,he⟩:=mk i hi
   exact⟨e,fun _=>he⟩
  ·exact⟨e0,fun h=>absurd h hi⟩
 obtain⟨el,hel⟩:∃el:Nat→El w F k pre,∀i,i<rows.length→(el i).c=rows.getD i []∧(el i).vs=(List.range k).map (val i):=⟨fun i=>(mk2 i).choose,fun i=>(mk2 i).choose_spec⟩
 obtain⟨d,hd⟩:∃d:Array (El w F k pre),d=((List.range rows.length).map el).toArray:=⟨_,rfl⟩
 have hds:d.size=rows.length:=by rw[hd];simp
 have hdi:∀i,i<rows.length→d[i]! =el i:=fun i hi=>by
  rw[getElem!_pos d i (by rw[hds];exact hi)]
  simp[hd]
 have hdc:d.toList.map El.c=rows:=by
  rw[hd]
  apply List.ext_getElem (by simp)
  intro i h1 h2
  simp only[List.getElem_map,List.getElem_range]
  rw[(hel i h2).1,List.getD_eq_getElem?_getD,List.getElem?_eq_getElem h2]
  rfl
 have hH:Sort.HoldsK El.vs k w (L id').1 (L id').2 d:=fun t ht=>by
  have ht2:t<d.size*k:=by simpa using ht
  rw[hds]at ht2
  have hq:t / k<rows.length:=Nat.div_lt_of_lt_mul (by rw[Nat.mul_comm];exact ht2)
  have hm:=Nat.mod_lt t hk0
  rw[Sort.get_flatK _ _ _ _ (by rw[hds];exact ht2),hdi _ hq,(hel _ hq).2]
  have e1:=(h7 (t / k) (t % k) hq hm).1
  rw[show t / k*k+t % k=t by rw[Nat.mul_comm];exact Nat.div_add_mod t k]at e1
  have e2:((List.range k).map (val (t / k)))[t % k]! =val (t / k) (t % k):=by
   rw[getElem!_pos _ _ (by simpa using hm)];simp
  rw[e2]
  constructor
  ·have:World.at w (L id').1 ((L id').2+t)=cs[(L id').2+t]?:=zft hb
   rw[show w.cell? ⟨(L id').1,(L id').2+t,none⟩=World.at w (L id').1 ((L id').2+t)from rfl,this,e1]
   rfl
  ·unfold World.frozen?
   simp only[hb]
   simp
 have hput:∀(w':World) (dk:Array (El w F k pre)) (m:Nat) (os:Array Obj),dk.size=d.size→w'=Proofs.sortWorldK El.vs k w (L id').1 (L id').2 m dk os→
   OkW G w' L F (Ub n) (zaM H id' (some ⟨zaf (dk.toList.map fun e=> .agg e.c),bx,vt⟩))∧zbv H w L F (Ub n) (zaM H id' (some ⟨zaf (dk.toList.map fun e=> .agg e.c),bx,vt⟩)) w' L F (Ub n):=by
  intro w' dk m os hs hw
  obtain⟨f1,f2⟩:=zBC hk0 dk
  refine zwD (o:=⟨_,bx,vt⟩) (ys:=Sort.flatK El.vs k dk) hok ho hL3 hb (by rw[Sort.size_flatK,hs,hds];exact h4) (by rw[f1,Sort.size_flatK];exact Nat.le_refl _) (fun j hj=>?_) hw
  rw[f1]at hj
  rw[f2 j hj]
  simp only[zak]
  exact zyE hk0 dk hj
 have hcmp:Proofs.CmpLays P g #[] El.vs k (fun x y=>cmp x.c y.c) (L id').1 (L id').2 d.size w:=fun m os dk hs x y=>by
  obtain⟨g1,g2⟩:=hput _ dk m os hs rfl
  have hx:=g2.ext hok
  have hok0:OkW G (Proofs.sortWorldK El.vs k w (L id').1 (L id').2 m dk os) L F (Ub 0) H0:=⟨g1.fb,(fun _ _ h=>by cases h),(fun _ _ _ _ h=>by cases h),g1.glob⟩
  exact zsE (hg x.c y.c x.hp y.hp) hok0 (x.rep.mono hx.fk hx.f) (y.rep.mono hx.fk hx.f)
 have hO:Sort.SWO (Proofs.ltOf fun x y:El w F k pre=>cmp x.c y.c):=by
  refine⟨fun x=>?_,fun x y z h1 h2=>?_,fun x y z h1 h2=>?_⟩
  ·exact decide_eq_false (o1 _ x.hp)
  ·exact decide_eq_true (o2 _ _ _ x.hp y.hp z.hp (of_decide_eq_true h1) (of_decide_eq_true h2))
  ·exact decide_eq_false (o3 _ _ _ x.hp y.hp z.hp (of_decide_eq_false h1) (of_decide_eq_false h2))
 have hbl:(L id').1<w.heap.size:=hlt
 have hsz:d.size<4611686018427387904:=by rw[hds];unfold za6 at hmax;omega
 have hrun:=hsort (El w F k pre) El.vs (fun x=>x.hl) (fun x=>x.one) _ hO (L id').1 (L id').2 cap d w hcmp hH hbl hsz
 rw[hds]at hrun
 rw[Nat.add_zero]
 refine hrun.mono fun e w' he=>?_
 obtain⟨rfl,d',m,os,hp,hs,hw⟩:=he
 have hds':d'.size=d.size:=by rw[hp.1]
 obtain⟨g1,g2⟩:=hput w' d' m os hds' hw
 have e1:(d'.toList.map fun e=>FD.agg e.c)=(d'.toList.map El.c).map .agg:=by rw[List.map_map];rfl
 rw[e1]at g1 g2
 refine⟨_,_,_,n,L,F,rfl,⟨rfl,d'.toList.map El.c,?_,?_,rfl,rfl⟩,g1,by simp only[zak];exact⟨[],rfl,by simp[zao]⟩,g2⟩
 ·have h8:=hp.2.2
  have f1:(d'.extract 0 rows.length).toList=d'.toList:=by
   rw[←hds,←hds'];simp
  have f2:(d.extract 0 rows.length).toList=d.toList:=by
   rw[←hds];simp
  rw[f1,f2]at h8
  have h9:=h8.map El.c
  rw[hdc]at h9
  exact h9
 ·rw[List.pairwise_map,List.pairwise_iff_getElem]
  intro i j hi hj hij
  have hi':i<d'.size:=by simpa using hi
  have hj':j<d'.size:=by simpa using hj
  have h8:=hs i j (Nat.zero_le _) hij (by rw[←hds,←hds'];exact hj')
  rw[getElem!_pos d' i hi',getElem!_pos d' j hj']at h8
  have h9:=of_decide_eq_false h8
  simpa using h9
end
end Go.Abs
namespace Go.Abs
open Go
section
variable {P:Program} {G:Nat→List FD}
end
end Go.Abs
namespace Go.Abs
open Go
section
variable {P:Program} {G:Nat→List FD} {w:World} {L:Loc} {F:Nat→Nat→Prop} {U:Id→Prop} {H:zax}
theorem zvx (hok:OkW G w L F U H){t ty:TypeId}{te:TI}(hte:zaA P t=some te){aid:Id}{s len:Nat}{vx:Value}(hx:zak w L F U (.arr aid te.size s len) vx){o:O}(ho:H aid=some o)
  (h0:0<len)(h1:0<te.size)(hone:(zlS te len).all zcp=true)(hs:s≤o.cells.length):
  ∃w',(Builtin.clear_ #[t] ty #[vx]).run P w= .ok (.tuple #[]) w'∧OkW G w' L F U (zaM H aid (some ⟨o.cells.take s,o.box,o.virt⟩))∧zbv H w L F U (zaM H aid (some ⟨o.cells.take s,o.box,o.virt⟩)) w' L F U:=by
 obtain⟨e,hu,he⟩:=zbj hte
 simp only[zak]at hx
 obtain⟨hU,a,cap,rfl,hcap,hmax,hv⟩:=hx
 rcases hv with hv|⟨rfl,hL3,hlt,hroom⟩
 ·omega
 obtain⟨_,cs,T,hb,h4,h5⟩:=zaB (hok.live aid o ho).2 hL3
 have hz':=zfq he
 obtain⟨i,z,d,g1,g2,g3,rfl⟩:=zaR he
 dsimp only at*
 have hz:z.cells.size=i.size:=by simpa using hz'
 obtain⟨f2,hf2⟩:∃f2:Nat→Value,f2=fun j=>z.cells[j % z.cells.size]! :=⟨_,rfl⟩
 have hnews:Builtin.zeroCells z.cells len=((List.range (len*i.size)).map f2).toArray:=by rw[hf2];exact zu0 hz
 have hle:len*i.size≤cap*i.size:=Nat.mul_le_mul_right _ hcap
 have hsz:=hroom _ _ _ hb
 have hnl:((List.range (len*i.size)).map f2).length=len*i.size:=by simp
 have hone':∀u∈(List.range (len*i.size)).map f2,u.oneCell'=true:=by
  intro u hu'
  obtain⟨j,hj,rfl⟩:=List.mem_map.1 hu'
  have hj':j<len*i.size:=by simpa using hj
  rw[List.all_eq_true]at hone
  have hv:zak w L F U ((zlS _ len).getD j .junk) (z.cells[j % z.cells.size]!):=zu2 (te:=⟨i.size,i.bytes,z.cells.toList.map zjv,zdX d,zEW d,zvJ P e d,ztg P d⟩) hz rfl rfl hj'
  rw[hf2]
  refine zgt hv (hone _ ?_)
  rw[List.getD_eq_getElem?_getD,List.getElem?_eq_getElem (by rw[zxc];exact hj')]
  exact List.getElem_mem _
 have hrun:=zcc (P:=P) (b:=(L aid).1) (off:=(L aid).2+s) (T:=T) ((List.range (len*i.size)).map f2) 0 w cs hb hone' (by rw[hnl];omega)
 have key:=zfe hok ho hL3 hb (zbA ((List.range (len*i.size)).map f2) 0 ((L aid).2+s) cs) (fun q hq=>by rw[zbc _ _ _ _ _ (by rw[hnl];omega),if_neg (by omega)]) (id':=aid)
  (o':=⟨o.cells.take s,o.box,o.virt⟩) (L':=L) (U':=U) (fun _ h=>h) hU (fun _ _=>rfl) rfl (Nat.le_refl _) hL3 (.inl rfl)
  (by simp only[List.length_take];omega) (fun j hj=>by
   have hj2:j<s∧j<o.cells.length:=by simp only[List.length_take]at hj;omega
   rw[zbc _ _ _ _ _ (by rw[hnl];omega),if_neg (by omega)]
   obtain⟨v,e1,e2⟩:=h5 j hj2.2
   refine⟨v,e1,?_⟩
   rw[List.getD_eq_getElem?_getD,List.getElem?_take_of_lt hj2.1,←List.getD_eq_getElem?_getD]
   exact e2)
 have hH:zaM (zaM H aid none) aid (some (⟨o.cells.take s,o.box,o.virt⟩:O))=zaM H aid (some ⟨o.cells.take s,o.box,o.virt⟩):=by
  funext i;simp only[zaM];split<;>rfl
 rw[hH]at key
 refine⟨_,?_,key.1,key.2⟩
 obtain⟨len',rfl⟩:∃l,len=l+1:=⟨len-1,by omega⟩
 simp[Builtin.clear_,run_underlying hu,zeroValue,typeInfo,g1,g2,hnews,hrun]
end
section
variable {P:Program} {G:Nat→List FD} {T:Tbl} {N tag0:Nat} {am:Nat→Bool} {st:St} {a:Act} {w:World} {L:Loc} {F:Nat→Nat→Prop} {K:St→Prop} {ops:Array Oper}
def zEK (P:Program)(G:Nat→List FD)(t:TypeId)(x:Operand)(K:St→Prop)(st:St):Prop:=
 ∃te aid s len o,zaA P t=some te∧st.ev G x= .arr aid te.size s len∧st.H aid=some o∧0<len∧0<te.size∧(zlS te len).all zcp=true∧s≤o.cells.length∧
  K {st with H:=zaM st.H aid (some ⟨o.cells.take s,o.box,o.virt⟩)}
theorem zqJ {c:Call}{o:Oper}(ho:o.op= .call c)(hc:c.callee= .builtin .clear){x:Operand}{t:TypeId}(ha:c.args.toList=[x])(ht:c.argTypes.toList=[t]){w w':World}{v:Value}
  (h:(Builtin.clear_ #[t] o.type #[a.eval x]).run P w= .ok v w'):(execOp a.eval o).run P w= .ok (.value v) w':=by
 have e1:c.args= #[x]:=by cases hh:c.args;rw[hh]at ha;simp at ha;rw[ha]
 have e2:c.argTypes= #[t]:=by cases hh:c.argTypes;rw[hh]at ht;simp at ht;rw[ht]
 simp only[execOp,ho,resolve,hc,pure_bind,invoke,builtin,e1,e2]
 simpa using zcg (P:=P) (by simpa using h)
theorem zxa {o:Oper}{c:Call}{Q:Exit→Act→World→Prop}(h:Rel G N st a w L F)(ho:o.op= .call c)(hc:c.callee= .builtin .clear){x:Operand}{t:TypeId}(ha:c.args.toList=[x])(ht:c.argTypes.toList=[t])
  (hd:o.dst=none)(hs:zEK P G t x K st):o.wp P a w (Sat G N st w L F K) Q:=by
 obtain⟨te,aid,s,len,ob,hte,hx,hob,h0,h1,h2,h3,hK⟩:=hs
 have hxr:=h.ev x
 rw[hx]at hxr
 obtain⟨w',g1,g2,g3⟩:=zvx (ty:=o.type) h.ok hte hxr hob h0 h1 h2 h3
 unfold Oper.wp
 rw[zqJ ho hc ha ht g1]
 refine⟨_,L,F,hK,h.put (st':={st with H:=zaM st.H aid (some ⟨ob.cells.take s,ob.box,ob.virt⟩)}) g2 g3 (dst:=o.dst) (by rw[hd];rfl) (d:= .tup []) (by simp only[zak];exact⟨[],rfl,by simp[zao]⟩) (by rw[hd];rfl),g3⟩
theorem zsn (hT:zan P G T){Q:Exit→St→Prop}{rid:Nat}(pre post:List Oper){o:Oper}{c:Call}{x t}(hops:ops.toList=pre++o::post)(ho:o.op= .call c)(hc:c.callee= .builtin .clear)(ha:c.args.toList=[x])(ht:c.argTypes.toList=[t])(hd:o.dst=none)(hg:o.guard=none)
  (h:zgO P G T N tag0 am ops pre (zEK P G t x fun s=>zgO P G T N tag0 am ops post (Q .normal) s) st):W P G N (.region rid ops false) Q st:=by
 intro a w L F hr
 refine wp_region ?_
 have hget:∀(j:Nat) (o':Oper),ops.toList[j]?=some o'→ops[j]?=some o':=fun j o' h=>by simpa using h
 have e:List.range ops.size=(List.range pre.length).map (0+·)++(pre.length::((List.range post.length).map (pre.length+1+·)++[])):=by
  have hs:ops.size=pre.length+(1+post.length):=by rw[←Array.length_toList,hops];simp;omega
  rw[hs,List.range_add,List.append_nil]
  congr 1
  ·simp
  ·rw[Nat.add_comm 1,List.range_succ_eq_map]
   simp only[List.map_cons,List.map_map,Nat.add_zero]
   congr 1
   apply List.map_congr_left
   intro j _
   simp;omega
 rw[e]
 refine zjg hT (Q':=fun e a' w'=>Sat G N st w L F (Q e) a' w') pre 0 (fun j o' h'=>by
  rw[Nat.zero_add];refine hget j o' ?_;rw[hops,List.getElem?_append_left ((List.getElem?_eq_some_iff.1 h').1)];exact h') st a w L F hr h ?_
 rintro a1 w1 ⟨st1,L1,F1,h1,h2,h3⟩
 have h0:ops[pre.length]?=some o:=hget _ _ (by rw[hops,List.getElem?_append_right (Nat.le_refl _)];simp)
 have hw:Region.wanted o (yielded ops a1.tmps)=true:=by simp[Region.wanted,hg]
 simp only[wpOps,h0,hw,if_true]
 refine .inl (Oper.wp_mono (fun a2 w2 hs=>?_) (zxa (K:=fun s=>zgO P G T N tag0 am ops post (Q .normal) s) h2 ho hc ha ht hd h1))
 obtain⟨st2,L2,F2,k1,k2,k3⟩:=hs
 exact zjg hT (Q':=fun e a' w'=>Sat G N st w L F (Q e) a' w') post (pre.length+1) (fun j o' h'=>by
  refine hget _ o' ?_;rw[hops,List.getElem?_append_right (by omega)];rw[show pre.length+1+j-pre.length=j+1 by omega];simpa using h') st2 a2 w2 L2 F2 k2 k1
  (fun a3 w3 hs=>by simp only[wpOps];exact(hs.trans k3).trans h3)
def zAW (P:Program)(G:Nat→List FD)(t:TypeId)(x:Operand)(st:St)[k:Kn St]:Prop:=zEK P G t x k.run st
theorem zqv (hT:zan P G T){q:Exit→St→Prop}{rid:Nat}(tag0:Nat)(am:Nat→Bool)(j:Nat){o:Oper}{c:Call}{x t}(hj:ops.toList[j]?=some o)(ho:o.op= .call c)(hc:c.callee= .builtin .clear)(ha:c.args.toList=[x])(ht:c.argTypes.toList=[t])(hd:o.dst=none)(hg:o.guard=none)
  (h:@zeu P G T N tag0 am ops (ops.toList.take j) st ⟨fun s=>@zAW P G t x s ⟨fun s=>@zeu P G T N tag0 am ops (ops.toList.drop (j+1)) s ⟨q .normal⟩⟩⟩):@WK P G N (.region rid ops false) st ⟨q⟩:=by
 unfold WK
 unfold zeu at h
 have hlt:=(List.getElem?_eq_some_iff.1 hj).1
 have he:=(List.getElem?_eq_some_iff.1 hj).2
 refine zsn hT (ops.toList.take j) (ops.toList.drop (j+1)) ?_ ho hc ha ht hd hg h
 rw[←he,←List.drop_eq_getElem_cons hlt,List.take_append_drop]
theorem zAW.i {t x te aid s len o}{kc:St→Prop}(hte:zaA P t=some te)(hx:st.ev G x= .arr aid te.size s len)(ho:st.H aid=some o)(h0:0<len)(h1:0<te.size)(h2:(zlS te len).all zcp=true)(h3:s≤o.cells.length)
  (h:kc {st with H:=zaM st.H aid (some ⟨o.cells.take s,o.box,o.virt⟩)}):@zAW P G t x st ⟨kc⟩:=⟨te,aid,s,len,o,hte,hx,ho,h0,h1,h2,h3,h⟩
end
attribute [irreducible] zAW
end Go.Abs

/- several texts of this proof in one; no conditions -/
import Derived.Test.YtkkffhphodngkaaDoorY8
import Derived.Shelf.SlSortCmp.WholeK
set_option linter.unusedSimpArgs false
namespace Go.Abs
open Go
section
variable {P:Program} {G:Nat→List FD} {w w':World} {L:Loc} {F:Nat→Nat→Prop} {U:Id→Prop} {H:zau}
theorem zup {a b:Array Obj}(hs:a.size≤b.size)(h:∀i,i<a.size→b[i]?=a[i]?):b=a++b.extract a.size b.size:=by
 apply Array.ext_getElem?
 intro i
 rcases Nat.lt_or_ge i a.size with hi|hi
 ·rw[h i hi,Array.getElem?_append_left hi]
 ·rw[Array.getElem?_append_right hi,Array.getElem?_extract]
  split
  ·rw[show a.size+(i-a.size)=i by omega]
  ·rw[Array.getElem?_eq_none (by omega)]
theorem zby.grow {L':Loc}{F':Nat→Nat→Prop}{U':Id→Prop}{H':zau}(h:zby H0 w L F U H' w' L' F' U'):∃q os,w'=Sort.grow (w.drewN q) os:=by
 refine⟨w'.drawn-w.drawn,w'.heap.extract w.heap.size w'.heap.size,?_⟩
 have h1:=zup h.size fun b hb=>h.keep b hb (by rintro⟨_,_,hh,_⟩;cases hh)
 have h2:w.drawn+(w'.drawn-w.drawn)=w'.drawn:=by have:=h.drawn;omega
 have h3:=h.os;have h4:=h.tape;have h5:=h.output
 show w'={heap:=w.heap++w'.heap.extract w.heap.size w'.heap.size,tape:=w.tape,drawn:=w.drawn+(w'.drawn-w.drawn),os:=w.os,output:=w.output}
 rw[←h1,h2,←h3,←h4,←h5]
theorem zrg {g:FuncId}{x y:FD}{z:Int}{v1 v2:Value}(hg:zay P G g [.fz x,.fz y] H0 0 (fun d _ _=>D.val d=some (.fz (.i .i64 z))))(hok:OkW G w L F (Ub 0) H0)
  (h1:zbh w F v1 x)(h2:zbh w F v2 y):Calls P g #[v1,v2] w fun e w'=>e= .returned (.int .i64 z)∧∃q os,w'=Sort.grow (w.drewN q) os:=by
 refine(hg.2 w L F [v1,v2] hok (by simp only[zak,zaj];exact⟨h1,h2,trivial⟩)).mono fun e w' he=>?_
 obtain⟨v,d,H',n',L',F',rfl,hQ,_,hv,hst⟩:=he
 have h3:=zaj.val (L':=L') (U':=Ub n') hv hQ
 simp only[zaj]at h3
 obtain⟨rfl,_⟩:=h3.int_inv
 exact⟨rfl,hst.grow⟩
theorem zqm {off:Nat}{ys cs:Array Value}(h:off+ys.size≤cs.size){j:Nat}(hj:j<ys.size):(Sort.putCells id off ys cs)[off+j]?=some ys[j]! :=by
 unfold Sort.putCells
 rw[Array.getElem?_mapIdx,Array.getElem?_eq_getElem (by omega)]
 simp only[Option.map_some]
 rw[if_pos ⟨by omega,by omega⟩,show off+j-off=j by omega]
 rfl
theorem zqn {off:Nat}{ys cs:Array Value}{k:Nat}(hk:k<off):(Sort.putCells id off ys cs)[k]?=cs[k]?:=by
 unfold Sort.putCells
 rw[Array.getElem?_mapIdx]
 cases cs[k]? with
 |none=>rfl
 |some x=>simp only[Option.map_some];rw[if_neg (by omega)]
theorem zuO (hok:OkW G w L F U H){id':Id}{o:O}(ho:H id'=some o)(hv:(L id').3=false){cs:Array Value}{T:TypeId}(hb:w.heap[(L id').1]?=some (.cells cs T (0,0)))
  {ys:Array Value}{ds:List D}(hlen:(L id').2+ys.size≤cs.size)(hz:ds.length≤ys.size)(hd:∀j,j<ds.length→zaj w L F U (ds.getD j .junk) ys[j]!){n:Nat}{os:Array Obj}
  (hw:w'=Sort.grow (Sort.putRow id (Sort.ahead w n) (L id').1 (L id').2 ys) os):
  OkW G w' L F U (zaG H id' (some ⟨ds,o.box,o.virt⟩))∧zby H w L F U (zaG H id' (some ⟨ds,o.box,o.virt⟩)) w' L F U:=by
 obtain⟨hU,_⟩:=hok.live id' o ho
 have hH:zaG (zaG H id' none) id' (some (⟨ds,o.box,o.virt⟩:O))=zaG H id' (some ⟨ds,o.box,o.virt⟩):=by
  funext i;simp only[zaG];split<;>rfl
 have hsz:(Sort.putCells id (L id').2 ys cs).size=cs.size:=by simp[Sort.putCells]
 obtain⟨g1,g2⟩:=zgk (id':=id') (o':=⟨ds,o.box,o.virt⟩) (L':=L) (U':=U) hok ho hv hb hsz (fun k hk=>zqn hk) (fun _ h=>h) hU (fun _ _=>rfl) rfl (Nat.le_refl _) hv (.inl rfl)
  (by simp only;omega) (fun j hj=>⟨_,zqm hlen (by simp only at hj;omega),hd j hj⟩)
 rw[hH]at g1 g2
 have hheap:w'.heap=(zhc w (L id').1 (.cells (Sort.putCells id (L id').2 ys cs) T (0,0))).heap++os:=by
  rw[hw]
  show(Array.modify w.heap (L id').1 _)++os=_
  congr 1
  apply Array.ext_getElem?
  intro k
  rw[Array.getElem?_modify]
  simp only[zhc]
  by_cases hk:(L id').1=k
  ·subst hk
   rw[Array.getElem?_setIfInBounds_self,if_pos rfl,hb,if_pos (zbR hb)]
   rfl
  ·rw[if_neg hk,Array.getElem?_setIfInBounds_ne hk]
 obtain⟨k1,k2⟩:=zrP g1 os hheap (by rw[hw];rfl) (by rw[hw];rfl) (by rw[hw];rfl) (by rw[hw];exact Nat.le_add_right _ _)
 exact⟨k1,g2.trans k2⟩
structure El (w:World)(F:Nat→Nat→Prop)(k:Nat)(pre:List FD→Prop) where
 c:List FD
 vs:List Value
 hp:pre c
 hc:c.length=k
 hl:vs.length=k
 h1:∀y∈c,y.cells=[y]
 hr:∀j,j<k→zbh w F (vs.getD j undef) (c.getD j .nilf)
theorem zbh.one {v:Value}{y:FD}(h:zbh w F v y)(h1:y.cells=[y]):v.oneCell'=true:=by
 cases h with
 |agg vs xs _ _=>
  have e:xs=[FD.agg xs]:=h1
  have:=congrArg (fun l:List FD=>SizeOf.sizeOf l) e
  simp at this
  omega
 |_=>rfl
theorem El.one {k:Nat}{pre:List FD→Prop}(e:El w F k pre):∀v∈e.vs,v.oneCell'=true:=fun v hv=>by
 obtain⟨j,hj,rfl⟩:=List.getElem_of_mem hv
 have hj2:j<k:=by rw[←e.hl];exact hj
 have h:=e.hr j hj2
 rw[List.getD_eq_getElem?_getD,List.getElem?_eq_getElem hj,Option.getD_some]at h
 have hjc:j<e.c.length:=by rw[e.hc];exact hj2
 rw[List.getD_eq_getElem?_getD,List.getElem?_eq_getElem hjc,Option.getD_some]at h
 exact h.one (e.h1 _ (List.getElem_mem hjc))
theorem El.rep {k:Nat}{pre:List FD→Prop}(e:El w F k pre):zbh w F (.agg e.vs.toArray) (.agg e.c):=
 .agg _ _ (by rw[e.hl,e.hc]) fun j hj=>e.hr j (by rw[←e.hc];exact hj)
theorem zww {k:Nat}{pre:List FD→Prop}[Inhabited (El w F k pre)](hk:0<k)(d:Array (El w F k pre)){t:Nat}(ht:t<d.size*k):
  zbh w F (Sort.flatK El.vs k d)[t]! ((d[t / k]!).c.getD (t % k) .nilf):=by
 rw[Sort.get_flatK _ _ _ _ ht]
 have h:=(d[t / k]!).hr (t % k) (Nat.mod_lt _ hk)
 have hl:t % k<(d[t / k]!).vs.length:=by rw[(d[t / k]!).hl];exact Nat.mod_lt _ hk
 rw[List.getD_eq_getElem?_getD,List.getElem?_eq_getElem hl,Option.getD_some]at h
 rw[getElem!_pos (d[t / k]!).vs (t % k) hl]
 exact h
theorem zzh {k:Nat}{pre:List FD→Prop}[Inhabited (El w F k pre)](hk:0<k)(d:Array (El w F k pre)):(zae (d.toList.map fun e=> .agg e.c)).length=d.size*k∧
  ∀t,t<d.size*k→(zae (d.toList.map fun e=>FD.agg e.c)).getD t .junk= .fz ((d[t / k]!).c.getD (t % k) .nilf):=by
 have hcell:∀i,i<(d.toList.map fun e=>FD.agg e.c).length→((d.toList.map fun e=>FD.agg e.c).getD i .nilf).cells.length=k:=fun i hi=>by
  have hi2:i<d.toList.length:=by simpa using hi
  rw[List.getD_eq_getElem?_getD,List.getElem?_map,List.getElem?_eq_getElem hi2]
  exact(d.toList[i]).hc
 have hlen:(d.toList.map fun e=>FD.agg e.c).length=d.size:=by simp
 refine⟨by rw[za3 hcell,hlen],fun t ht=>?_⟩
 have hq:t / k<d.size:=Nat.div_lt_of_lt_mul (by rw[Nat.mul_comm];exact ht)
 have h:=zc4 hcell (i:=t / k) (j:=t % k) (by rw[hlen];exact hq) (Nat.mod_lt _ hk)
 rw[Nat.mul_comm,Nat.div_add_mod]at h
 have hi2:t / k<d.toList.length:=by simpa using hq
 have e:(d.toList.map fun e=>FD.agg e.c).getD (t / k) .nilf=FD.agg (d[t / k]!).c:=by
  rw[List.getD_eq_getElem?_getD,List.getElem?_map,List.getElem?_eq_getElem hi2,getElem!_pos d _ hq]
  rfl
 rw[h,e]
 rfl
theorem zmO {f g:FuncId}{k:Nat}{pre:List FD→Prop}{cmp:List FD→List FD→Int}(hk0:0<k)(hc:zam P f)
  (hsort:∀(α:Type) [Inhabited α] (enc:α→List Value) (_:∀x,(enc x).length=k) (_:∀x,∀v∈enc x,v.oneCell'=true) (cf:α→α→Int) (_:Sort.SWO (Proofs.ltOf cf)) (blk off cap:Nat) (d:Array α) (w:World),
   Proofs.CmpLays P g #[] enc k cf blk off d.size w→Sort.HoldsK enc k w blk off d→blk<w.heap.size→d.size<4611686018427387904→Calls P f #[.slice (some ⟨blk,off,none⟩) d.size cap,.func (.func g) #[] #[]] w fun e w'=>
    e= .returned (.tuple #[])∧∃d' n os,Sort.PermIn 0 d.size d d'∧Sort.SortedIn (Proofs.ltOf cf) 0 d.size d'∧w'=Proofs.sortWorldK enc k w blk off n d' os)
  (h0:∀(p:Option Addr) (cap:Nat) (fv:Value) (w:World),Calls P f #[.slice p 0 cap,fv] w fun e w'=>e= .returned (.tuple #[])∧w'=w)
  (hg:∀x y,pre x→pre y→zay P G g [.fz (.agg x),.fz (.agg y)] H0 0 (fun d _ _=>D.val d=some (.fz (.i .i64 (cmp x y)))))
  (o1:∀x,pre x→¬cmp x x<0)(o2:∀x y z,pre x→pre y→pre z→cmp x y<0→cmp y z<0→cmp x z<0)(o3:∀x y z,pre x→pre y→pre z→¬cmp x y<0→¬cmp y z<0→¬cmp x z<0)
  {id':Id}{rows:List (List FD)}{bx vt:Bool}{n:Nat}(hpre:∀r∈rows,pre r∧r.length=k∧∀y∈r,y.cells=[y])(ho:H id'=some ⟨zae (rows.map .agg),bx,vt⟩):
  zay P G f [.arr id' k 0 rows.length,.fn g []] H n fun d H' n'=>d= .tup []∧∃rows':List (List FD),rows'.Perm rows∧(rows'.Pairwise fun a b=>¬cmp b a<0)∧H'=zaG H id' (some ⟨zae (rows'.map .agg),bx,vt⟩)∧n'=n:=by
 refine⟨hc,fun w L F vs hok hvs=>?_⟩
 obtain⟨v,rfl,hv⟩:∃v,vs=[v,.func (.func g) #[] #[]]∧zaj w L F (Ub n) (.arr id' k 0 rows.length) v:=by
  match vs,hvs with
  |[v,u],h=>
   rw[zak,zak]at h
   obtain⟨h1,h2,_⟩:=h
   simp only[zaj]at h2
   obtain⟨us,rfl,h3⟩:=h2
   have:us=[]:=by
    cases us with
    |nil=>rfl
    |cons _ _=>simp[zak]at h3
   subst this
   exact⟨v,rfl,h1⟩
  |[],h=>simp[zak]at h
  |[_],h=>simp[zak]at h
  |_::_::_::_,h=>simp[zak]at h
 by_cases hne:rows=[]
 ·subst hne
  have hv2:=hv
  simp only[zaj]at hv2
  obtain⟨_,a,cap,rfl,_⟩:=hv2
  refine(h0 a cap _ w).mono fun e w' he=>?_
  obtain⟨rfl,rfl⟩:=he
  have hH:zaG H id' (some ⟨zae (([]:List (List FD)).map .agg),bx,vt⟩)=H:=by
   funext i;simp only[zaG];split
   ·rename_i e;subst e;rw[ho]
   ·rfl
  exact⟨_,_,H,n,L,F,rfl,⟨rfl,[],List.Perm.refl _,List.Pairwise.nil,hH.symm,rfl⟩,hok,by simp only[zaj];exact⟨[],rfl,by simp[zak]⟩,zby.refl _ _ _ _ _⟩
 have hpos:0<rows.length:=List.length_pos_iff.2 hne
 simp only[zaj]at hv
 obtain⟨_,a,cap,rfl,hcap,hmax,hv3⟩:=hv
 rcases hv3 with hv3|⟨rfl,hL3,hlt,_⟩
 ·omega
 obtain⟨_,cs,T,hb,h4,h5⟩:=zar (hok.live id' _ ho).2 hL3
 simp only at h4 h5
 have hcell:∀i,i<(rows.map FD.agg).length→((rows.map FD.agg).getD i .nilf).cells.length=k:=fun i hi=>by
  have hi2:i<rows.length:=by simpa using hi
  rw[List.getD_eq_getElem?_getD,List.getElem?_map,List.getElem?_eq_getElem hi2]
  exact(hpre _ (List.getElem_mem hi2)).2.1
 have hlenR:(rows.map FD.agg).length=rows.length:=by simp
 have hfl:(zae (rows.map .agg)).length=rows.length*k:=by rw[za3 hcell,hlenR]
 rw[hfl]at h4 h5
 have h6:∀i j (hi:i<rows.length),j<k→∃v,cs[(L id').2+(i*k+j)]?=some v∧zbh w F v (rows[i].getD j .nilf):=fun i j hi hj=>by
  obtain⟨v,e1,e2⟩:=h5 (i*k+j) (znp hi hj)
  have e0:(rows.map FD.agg).getD i .nilf=FD.agg rows[i]:=by
   rw[List.getD_eq_getElem?_getD,List.getElem?_map,List.getElem?_eq_getElem hi];rfl
  rw[zc4 hcell (by rw[hlenR];exact hi) hj,e0]at e2
  simp only[zaj]at e2
  exact⟨v,e1,e2⟩
 obtain⟨val,hval⟩:∃val:Nat→Nat→Value,val=fun i j=>(cs[(L id').2+(i*k+j)]?).getD undef:=⟨_,rfl⟩
 have h7:∀i j (hi:i<rows.length),j<k→cs[(L id').2+(i*k+j)]?=some (val i j)∧zbh w F (val i j) (rows[i].getD j .nilf):=fun i j hi hj=>by
  obtain⟨v,e1,e2⟩:=h6 i j hi hj
  have:val i j=v:=by rw[hval];simp only[e1,Option.getD_some]
  rw[this];exact⟨e1,e2⟩
 have mk:∀i (_:i<rows.length),∃e:El w F k pre,e.c=rows.getD i []∧e.vs=(List.range k).map (val i):=fun i hi=>by
  have hm:=hpre _ (List.getElem_mem hi)
  have e0:rows.getD i []=rows[i]:=by rw[List.getD_eq_getElem?_getD,List.getElem?_eq_getElem hi];rfl
  refine⟨⟨rows.getD i [],(List.range k).map (val i),by rw[e0];exact hm.1,by rw[e0];exact hm.2.1,by simp,by rw[e0];exact hm.2.2,fun j hj=>?_⟩,rfl,rfl⟩
  rw[e0,List.getD_eq_getElem?_getD,List.getElem?_map,List.getElem?_range hj]
  exact(h7 i j hi hj).2
 obtain⟨e0,_⟩:=mk 0 hpos
 letI:Inhabited (El w F k pre):=⟨e0⟩
 have mk2:∀i:Nat,∃e:El w F k pre,i<rows.length→e.c=rows.getD i []∧e.vs=(List.range k).map (val i):=fun i=>by
  by_cases hi:i<rows.length
  ·obtain⟨e,he⟩:=mk i hi
   exact⟨e,fun _=>he⟩
  ·exact⟨e0,fun h=>absurd h hi⟩
 obtain⟨el,hel⟩:∃el:Nat→El w F k pre,∀i,i<rows.length→(el i).c=rows.getD i []∧(el i).vs=(List.range k).map (val i):=⟨fun i=>(mk2 i).choose,fun i=>(mk2 i).choose_spec⟩
 obtain⟨d,hd⟩:∃d:Array (El w F k pre),d=((List.range rows.length).map el).toArray:=⟨_,rfl⟩
 have hds:d.size=rows.length:=by rw[hd];simp
 have hdi:∀i,i<rows.length→d[i]! =el i:=fun i hi=>by
  rw[getElem!_pos d i (by rw[hds];exact hi)]
  simp[hd]
 have hdc:d.toList.map El.c=rows:=by
  rw[hd]
  apply List.ext_getElem (by simp)
  intro i h1 h2
  simp only[List.getElem_map,List.getElem_range]
  rw[(hel i h2).1,List.getD_eq_getElem?_getD,List.getElem?_eq_getElem h2]
  rfl
 have hH:Sort.HoldsK El.vs k w (L id').1 (L id').2 d:=fun t ht=>by
  have ht2:t<d.size*k:=by simpa using ht
  rw[hds]at ht2
  have hq:t / k<rows.length:=Nat.div_lt_of_lt_mul (by rw[Nat.mul_comm];exact ht2)
  have hm:=Nat.mod_lt t hk0
  rw[Sort.get_flatK _ _ _ _ (by rw[hds];exact ht2),hdi _ hq,(hel _ hq).2]
  have e1:=(h7 (t / k) (t % k) hq hm).1
  rw[show t / k*k+t % k=t by rw[Nat.mul_comm];exact Nat.div_add_mod t k]at e1
  have e2:((List.range k).map (val (t / k)))[t % k]! =val (t / k) (t % k):=by
   rw[getElem!_pos _ _ (by simpa using hm)];simp
  rw[e2]
  constructor
  ·have:World.at w (L id').1 ((L id').2+t)=cs[(L id').2+t]?:=zgp hb
   rw[show w.cell? ⟨(L id').1,(L id').2+t,none⟩=World.at w (L id').1 ((L id').2+t)from rfl,this,e1]
   rfl
  ·unfold World.frozen?
   simp only[hb]
   simp
 have hput:∀(w':World) (dk:Array (El w F k pre)) (m:Nat) (os:Array Obj),dk.size=d.size→w'=Proofs.sortWorldK El.vs k w (L id').1 (L id').2 m dk os→
   OkW G w' L F (Ub n) (zaG H id' (some ⟨zae (dk.toList.map fun e=> .agg e.c),bx,vt⟩))∧zby H w L F (Ub n) (zaG H id' (some ⟨zae (dk.toList.map fun e=> .agg e.c),bx,vt⟩)) w' L F (Ub n):=by
  intro w' dk m os hs hw
  obtain⟨f1,f2⟩:=zzh hk0 dk
  refine zuO (o:=⟨_,bx,vt⟩) (ys:=Sort.flatK El.vs k dk) hok ho hL3 hb (by rw[Sort.size_flatK,hs,hds];exact h4) (by rw[f1,Sort.size_flatK];exact Nat.le_refl _) (fun j hj=>?_) hw
  rw[f1]at hj
  rw[f2 j hj]
  simp only[zaj]
  exact zww hk0 dk hj
 have hcmp:Proofs.CmpLays P g #[] El.vs k (fun x y=>cmp x.c y.c) (L id').1 (L id').2 d.size w:=fun m os dk hs x y=>by
  obtain⟨g1,g2⟩:=hput _ dk m os hs rfl
  have hx:=g2.ext hok
  have hok0:OkW G (Proofs.sortWorldK El.vs k w (L id').1 (L id').2 m dk os) L F (Ub 0) H0:=⟨g1.fb,(fun _ _ h=>by cases h),(fun _ _ _ _ h=>by cases h),g1.glob⟩
  exact zrg (hg x.c y.c x.hp y.hp) hok0 (x.rep.mono hx.fk hx.f) (y.rep.mono hx.fk hx.f)
 have hO:Sort.SWO (Proofs.ltOf fun x y:El w F k pre=>cmp x.c y.c):=by
  refine⟨fun x=>?_,fun x y z h1 h2=>?_,fun x y z h1 h2=>?_⟩
  ·exact decide_eq_false (o1 _ x.hp)
  ·exact decide_eq_true (o2 _ _ _ x.hp y.hp z.hp (of_decide_eq_true h1) (of_decide_eq_true h2))
  ·exact decide_eq_false (o3 _ _ _ x.hp y.hp z.hp (of_decide_eq_false h1) (of_decide_eq_false h2))
 have hbl:(L id').1<w.heap.size:=hlt
 have hsz:d.size<4611686018427387904:=by rw[hds];unfold zba at hmax;omega
 have hrun:=hsort (El w F k pre) El.vs (fun x=>x.hl) (fun x=>x.one) _ hO (L id').1 (L id').2 cap d w hcmp hH hbl hsz
 rw[hds]at hrun
 rw[Nat.add_zero]
 refine hrun.mono fun e w' he=>?_
 obtain⟨rfl,d',m,os,hp,hs,hw⟩:=he
 have hds':d'.size=d.size:=by rw[hp.1]
 obtain⟨g1,g2⟩:=hput w' d' m os hds' hw
 have e1:(d'.toList.map fun e=>FD.agg e.c)=(d'.toList.map El.c).map .agg:=by rw[List.map_map];rfl
 rw[e1]at g1 g2
 refine⟨_,_,_,n,L,F,rfl,⟨rfl,d'.toList.map El.c,?_,?_,rfl,rfl⟩,g1,by simp only[zaj];exact⟨[],rfl,by simp[zak]⟩,g2⟩
 ·have h8:=hp.2.2
  have f1:(d'.extract 0 rows.length).toList=d'.toList:=by
   rw[←hds,←hds'];simp
  have f2:(d.extract 0 rows.length).toList=d.toList:=by
   rw[←hds];simp
  rw[f1,f2]at h8
  have h9:=h8.map El.c
  rw[hdc]at h9
  exact h9
 ·rw[List.pairwise_map,List.pairwise_iff_getElem]
  intro i j hi hj hij
  have hi':i<d'.size:=by simpa using hi
  have hj':j<d'.size:=by simpa using hj
  have h8:=hs i j (Nat.zero_le _) hij (by rw[←hds,←hds'];exact hj')
  rw[getElem!_pos d' i hi',getElem!_pos d' j hj']at h8
  have h9:=of_decide_eq_false h8
  simpa using h9
end
end Go.Abs
namespace Go.Abs
open Go
section
variable {P:Program} {G:Nat→List FD}
theorem zc6 {f g:FuncId}{T:Nat}{sid:Id}{ds:List D}{xs cs cs':List FD}{r:D}{H:zau}{n:Nat}{R:D→zau→Nat→Prop}(ha:D.toFDs ds=some xs)
  (h:zay P G f (xs.map .fz++[.fn g [.ptr (T,0) 0]]) (hpL [((T,0),some ⟨cs.map .fz,true,false⟩)]) 1 (fun d H' _=>D.val d=some r∧H' (T,0)=some ⟨cs'.map .fz,true,false⟩))
  (ho:H sid=some ⟨cs.map .fz,true,false⟩)(hR:R r (zaG H sid (some ⟨cs'.map .fz,true,false⟩)) n):zay P G f (ds++[.fn g [.ptr sid 0]]) H n R:=by
 refine⟨h.1,fun w L F vs hok hvs=>?_⟩
 obtain⟨hUs,hrs⟩:=hok.live sid _ ho
 have hv3:(L sid).3=false:=by
  cases hv:(L sid).3
  ·rfl
  ·unfold zbi at hrs
   rw[hv]at hrs
   simp only[if_true]at hrs
   exact absurd hrs.2 (by decide)
 obtain⟨r1,cs0,T0,r2,r3,r4⟩:=zar hrs hv3
 obtain⟨L1,hL1⟩:∃L1:Loc,L1=fun _=>L sid:=⟨_,rfl⟩
 have hL1':∀id,L1 id=L sid:=fun id=>by rw[hL1]
 obtain⟨K,hK⟩:∃K:zau,K=hpL [((T,0),some ⟨cs.map .fz,true,false⟩)]:=⟨_,rfl⟩
 have hKs:∀id o,K id=some o→id=(T,0)∧o=⟨cs.map .fz,true,false⟩:=fun id o e=>by
  rw[hK]at e
  simp only[hpL]at e
  split at e
  ·rename_i e1
   exact⟨e1,(Option.some.inj e).symm⟩
  ·cases e
 have hK0:K (T,0)=some ⟨cs.map .fz,true,false⟩:=by rw[hK];simp[hpL]
 have hfzs:∀(zs:List FD) (j:Nat) (L2:Loc) (F2:Nat→Nat→Prop) (U2 U3:Id→Prop) (L3:Loc) (w2:World) (v:Value),zaj w2 L2 F2 U2 ((zs.map D.fz).getD j .junk) v→zaj w2 L3 F2 U3 ((zs.map D.fz).getD j .junk) v:=fun zs j L2 F2 U2 U3 L3 w2 v hv=>by
  rcases Nat.lt_or_ge j zs.length with hj|hj
  ·have e:(zs.map D.fz).getD j .junk= .fz zs[j]:=by simp[List.getD_eq_getElem?_getD,hj]
   rw[e]at hv ⊢
   simpa only[zaj]using hv
  ·have e:(zs.map D.fz).getD j .junk= .junk:=by simp[List.getD_eq_getElem?_getD,hj]
   rw[e];simp[zaj]
 have hok1:OkW G w L1 F (Ub 1) K:=by
  refine⟨hok.fb,fun id o e=>?_,fun id id' o o' e e' _ _ _=>?_,hok.glob⟩
  ·obtain⟨rfl,rfl⟩:=hKs id o e
   refine⟨by unfold Ub;simp,?_⟩
   unfold zbi
   rw[hL1',hv3]
   simp only[Bool.false_eq_true,if_false]
   exact⟨r1,cs0,T0,r2,r3,fun j hj=>let⟨v,a,b⟩:=r4 j hj;⟨v,a,hfzs _ _ _ _ _ _ _ _ _ b⟩⟩
  ·rw[(hKs id o e).1,(hKs id' o' e').1]
 rw[←hK]at h
 have hvs1:zak w L1 F (Ub 1) (xs.map .fz++[.fn g [.ptr (T,0) 0]]) vs:=zak.lastp (fun v h1=>by
  simp only[zaj]at h1 ⊢
  obtain⟨us,rfl,h2⟩:=h1
  refine⟨us,rfl,?_⟩
  match us,h2 with
  |[],h2=>simp[zak]at h2
  |[u],h2=>
   simp only[zak,zaj]at h2 ⊢
   rw[hL1']
   exact⟨⟨by unfold Ub;simp,h2.1.2⟩,trivial⟩
  |_::_::_,h2=>simp[zak]at h2) ha hvs
 refine(h.2 w L1 F vs hok1 hvs1).mono fun e w' he=>?_
 obtain⟨v,d1,H1,n1,L2,F2,rfl,⟨hQ1,hQ2⟩,g1,g2,g3⟩:=he
 have hL2:L2 (T,0)=L sid:=(g3.l (T,0) (by unfold Ub;simp)).trans (hL1' _)
 have bk:∀b,Blk K L1 b→Blk H L b:=by
  rintro b ⟨id,o,e1,_,e3⟩
  obtain⟨rfl,_⟩:=hKs id o e1
  rw[hL1']at e3
  exact⟨sid,_,ho,hv3,e3⟩
 have ok':∀b k,Own K L1 b k→(L sid).1=b∧(L sid).2≤k:=by
  rintro b k ⟨id,o,e1,_,e3,e4⟩
  rw[hL1']at e3 e4
  exact⟨e3,e4⟩
 have own:∀b k,Own K L1 b k→Own H L b k:=fun b k hb=>let⟨e1,e2⟩:=ok' b k hb;⟨sid,_,ho,hv3,e1,e2⟩
 have ext:Ext w L F (Ub n) w' L F2 (Ub n):=⟨fun _ h=>h,fun _ _=>rfl,g3.f,fun b k hb=>g3.keepc b k (hok.fb b k hb) (fun hb'=>hok.not_own hb (own _ _ hb')),g3.size,g3.shape⟩
 have cas:∀id o,zaG H sid (some ⟨cs'.map .fz,true,false⟩) id=some o→(id=sid∧o=⟨cs'.map .fz,true,false⟩)∨(id≠sid∧H id=some o):=fun id o e=>by
  unfold zaG at e
  split at e
  ·rename_i e1;exact .inl ⟨e1,(Option.some.inj e).symm⟩
  ·rename_i e1;exact .inr ⟨e1,e⟩
 have some':∀id o,zaG H sid (some ⟨cs'.map .fz,true,false⟩) id=some o→∃o',H id=some o':=fun id o e=>by
  rcases cas id o e with⟨rfl,_⟩|⟨_,e1⟩
  ·exact⟨_,ho⟩
  ·exact⟨_,e1⟩
 refine⟨v,r,_,n,L,F2,rfl,hR,⟨g1.fb,fun id o e=>?_,fun id id' o o' e e' v1 v2 eb=>?_,g1.glob⟩,g2.val hQ1,?_⟩
 ·rcases cas id o e with⟨rfl,rfl⟩|⟨hne,e1⟩
  ·refine⟨hUs,?_⟩
   have hl:=(g1.live _ _ hQ2).2
   unfold zbi at hl ⊢
   rw[hL2]at hl
   rw[hv3]at hl ⊢
   simp only[Bool.false_eq_true,if_false]at hl ⊢
   obtain⟨a1,cs1,T1,a2,a3,a4⟩:=hl
   exact⟨a1,cs1,T1,a2,a3,fun j hj=>let⟨v,a,b⟩:=a4 j hj;⟨v,a,hfzs _ _ _ _ _ _ _ _ _ b⟩⟩
  ·obtain⟨a,b⟩:=hok.live id o e1
   refine⟨a,b.ext ext a fun hv=>?_⟩
   have hlt:=hok.blk_lt e1 hv
   have nb:¬(L sid).1=(L id).1:=fun eq=>hne (hok.inj id sid _ _ e1 ho hv hv3 eq.symm)
   refine⟨g3.keep _ hlt ?_,fun k hk hF=>?_⟩
   ·rintro⟨id2,o2,e2,_,e3⟩
    rw[hL1']at e3
    exact nb e3
   ·rcases g3.fnew _ _ hF with h|h|h
    ·exact(zar b hv).1 k hk h
    ·omega
    ·exact nb (ok' _ _ h).1
 ·obtain⟨o1,e1⟩:=some' _ _ e
  obtain⟨o2,e2⟩:=some' _ _ e'
  exact hok.inj _ _ _ _ e1 e2 v1 v2 eb
 ·refine⟨fun _ h=>h,fun _ _=>rfl,g3.f,g3.size,fun b hb nb=>g3.keep b hb fun hb'=>nb (bk b hb'),fun b k hb no=>g3.keepc b k hb fun hb'=>no (own b k hb'),g3.shape,fun b k hb=>?_,fun b k hb=>?_,g3.os,g3.tape,g3.output,g3.drawn⟩
  ·rcases g3.fnew b k hb with h|h|h
   ·exact .inl h
   ·exact .inr (.inl h)
   ·exact .inr (.inr (own b k h))
  ·obtain⟨id,o,e1,e2,e3,e4⟩:=hb
   obtain⟨o',e1'⟩:=some' _ _ e1
   exact .inr ⟨id,o',e1',e2,e3,e4⟩
end
end Go.Abs

/- several texts of this proof in one; no conditions -/
import Derived.Test.YtkkffhphodngkaaGreatDoorAT
import Derived.Test.YtkkffhphodngkaaGreatDoorQ135
import Derived.Test.YtkkffhphodngkaaGreatDoorQ115B
import Derived.Test.YtkkffhphodngkaaGreatDoorY13
import Derived.Test.YtkkffhphodngkaaGreatDoorY14
set_option maxRecDepth 100000
set_option maxHeartbeats 1000000
set_option linter.unusedSimpArgs false
namespace Go.Proofs.YtkkffhphodngkaaGreatDoor
open Go Go.Abs Go.Proofs
section
variable {P:Program} {G:Nat→List FD} {T:Tbl}
def zFG {α β γ ρ σ τ:Type}[Enc α][Enc β][Enc γ][Enc ρ][Enc σ][Enc τ](f:α→β→γ→ρ×σ×τ)(pre:α→β→γ→Prop):List FD→Option (D×Prop)
 |[x,y,z]=>some (.tup [.fz (enc (f (dec x) (dec y) (dec z)).1),.fz (enc (f (dec x) (dec y) (dec z)).2.1),.fz (enc (f (dec x) (dec y) (dec z)).2.2)],x=enc (dec (α:=α) x)∧y=enc (dec (α:=β) y)∧z=enc (dec (α:=γ) z)∧pre (dec x) (dec y) (dec z))
 |_=>none
@[go_sem] theorem zJq {α β γ ρ σ τ:Type}[Enc α][Enc β][Enc γ][Enc ρ][Enc σ][Enc τ]{f:α→β→γ→ρ×σ×τ}{pre:α→β→γ→Prop}{x y z:FD}:zFG f pre [x,y,z]=some (.tup [.fz (enc (f (dec x) (dec y) (dec z)).1),.fz (enc (f (dec x) (dec y) (dec z)).2.1),.fz (enc (f (dec x) (dec y) (dec z)).2.2)],x=enc (dec (α:=α) x)∧y=enc (dec (α:=β) y)∧z=enc (dec (α:=γ) z)∧pre (dec x) (dec y) (dec z)):=rfl
theorem zAR {α β γ ρ σ τ:Type}[Enc α][Enc β][Enc γ][Enc ρ][Enc σ][Enc τ]{f:FuncId}{g:α→β→γ→ρ×σ×τ}{pre:α→β→γ→Prop}(hc:zam P f)(hT:zan P G T)
  (h:∀a b c,pre a b c→(enc a).Wf→(enc b).Wf→(enc c).Wf→zau P G f [.fz (enc a),.fz (enc b),.fz (enc c)] (hpL []) 0 (fun d _ _=>D.val d=some (.tup [.fz (enc (g a b c).1),.fz (enc (g a b c).2.1),.fz (enc (g a b c).2.2)]))):zan P G (T.add f (zFG g pre)):=by
 refine zcD hT fun xs r c hx hcc=>?_
 unfold zFG at hx
 split at hx
 ·rename_i x y z
  simp only[Option.some.injEq,Prod.mk.injEq]at hx
  obtain⟨rfl,rfl⟩:=hx
  obtain⟨e,e2,e3,hp⟩:=hcc
  refine zdq hc fun hw=>?_
  rw[zes]
  have:=h (dec x) (dec y) (dec z) hp (by rw[←e];exact hw x (by simp)) (by rw[←e2];exact hw y (by simp)) (by rw[←e3];exact hw z (by simp))
  rw[←e,←e2,←e3]at this
  exact this
 ·cases hx
end
theorem zy0 (uses:Int):∀n:Nat,zHR uses (zhJ uses n) n
 |0=>fun b a h hn=>by have:=h.a1;omega
 |n+1=>by
  have h:=zAJ (zy0 uses n) fun b a ha=>zg5 n b a ha
  have e:zhJ uses (n+1)=znS (zhJ uses n) uses:=by funext b a;rw[zhJ]
  rw[e]
  exact h
def zdd:Brn:=⟨[],[],[],0⟩
def zkb (ax:List Abs.zab)(g:Abs.zab)(uses:Int):Res:=zhJ uses 301 (zbX zdd (zbs ax g)) 0
def zfg (ax:List Abs.zab)(g:Abs.zab)(uses:Int):Prf×Bool×zdo:=
 if(zbY ax g).2.code≠0 then(zbU,false,(zbY ax g).2)
 else if uses<0∨5<uses then(zbU,false,⟨3, -3⟩)
 else if(zkb ax g uses).lim=true then(zbU,false,⟨17, -3⟩)
 else if(zkb ax g uses).ok=false then(zbU,false,⟨0,0⟩)
 else((zkb ax g uses).p,true,⟨0,0⟩)
def zy7:Tv:=(.q 0 (.br [(1,(.br [(2,(.q 3 (.br [(4,.leaf)])))])),(2,(.q 1 (.q 3 (.br [(4,.leaf)]))))]))
def Z4:Tbl:=Z3.add 5 (zFG zfg fun _ _ _=>True)
attribute [go_sem] Z4
set_option maxHeartbeats 4000000 in
theorem hZ4:zan Tryz.prog GA Z4:=by
 refine zAR ok5 hZ3 fun ax g uses _ _ _ _=>?_
 obtain⟨V,hV⟩:∃V,zfg ax g uses=V:=⟨_,rfl⟩
 rw[hV]
 unfold zfg at hV
 obtain⟨Q,hQ⟩:∃Q:D→zas→Nat→Prop,Q=(fun d _ _=>D.val d=some (.tup [.fz (enc V.1),.fz (enc V.2.1),.fz (enc V.2.2)])):=⟨_,rfl⟩
 rw[←hQ]
 have kq:=Kp.mk hQ
 clear hQ
 refine zag (N:=55) hm hZ3 5000 (lst [1000003]) ok5 Tryz.func5 rfl rfl (by simp) (by kernel_rfl) ?_
 by_cases h0:(zbY ax g).2.code=0
 rotate_left
 ·rw[if_pos h0]at hV
  obtain⟨bl,bf,hb⟩:∃l f,zbY ax g=(l,f):=⟨_,_,rfl⟩
  rw[hb]at h0 hV
  simp only at h0 hV
  have h0':(bf.code=0)=False:=eq_false h0
  repeat'(first|refine zaC (id:=3) hm hZ3 5000 (lst [1000003]) zy7 (by kernel_rfl) (by kernel_rfl) ?_|refine And.intro ?_ ?_|exact True.intro|refine rq fun _=>?_|refine rf fun _=>?_|simp only[go_sem,zy7,hb,h0',zac,Tryz.f5])
  all_goals(
   rw[kq.out,←hV]
   simp only[go_sem,zaR,zbU])
 rw[if_neg (by simp[h0])]at hV
 obtain⟨hb,hlen,hva,hvg⟩:=zkv h0
 by_cases hu:uses<0∨5<uses
 ·rw[if_pos hu]at hV
  by_cases hu1:uses<0
  ·have hu1':(uses<0)=True:=eq_true hu1
   repeat'(first|refine And.intro ?_ ?_|exact True.intro|refine rq fun _=>?_|refine rf fun _=>?_|simp only[go_sem,hb,hu1',zac,Tryz.f5])
   all_goals(
    rw[kq.out,←hV]
    simp only[go_sem,zaR,zbU])
  ·have hu1':(uses<0)=False:=eq_false hu1
   have hu2':(5<uses)=True:=eq_true (by omega)
   repeat'(first|refine And.intro ?_ ?_|exact True.intro|refine rq fun _=>?_|refine rf fun _=>?_|simp only[go_sem,hb,hu1',hu2',zac,Tryz.f5])
   all_goals(
    rw[kq.out,←hV]
    simp only[go_sem,zaR,zbU])
 rw[if_neg hu]at hV
 have hu1':(uses<0)=False:=eq_false (by omega)
 have hu2':(5<uses)=False:=eq_false (by omega)
 have hbl:(zbs ax g).length=ax.length+1:=by unfold zbs zmb;simp
 obtain⟨B,hB⟩:∃B,zbs ax g=B:=⟨_,rfl⟩
 have hbb:∀f∈B,brF f:=by rw[←hB];exact zrk hva hvg
 obtain⟨B',hB'⟩:∃B',zbX zdd B=B':=⟨_,rfl⟩
 have hr0:zkb ax g uses=zhJ uses 301 B' 0:=by unfold zkb;rw[hB,hB']
 rw[hB]at hb hbl
 have hok:zcC uses B' 0:=by
  rw[←hB']
  refine⟨fun f hf=>hbb f (by simpa[zbX,zdd]using hf),?_,?_,?_,fun s hs=>?_,?_,?_,by omega,by omega,by omega⟩
  ·show((zdd.list++B).length:Int)≤_
   unfold zdd;simp only[List.nil_append];omega
  ·show(zdd.used++List.replicate B.length false).length=(zdd.list++B).length
   unfold zdd;simp
  ·show(zdd.seen++List.replicate B.length []).length=(zdd.list++B).length
   unfold zdd;simp
  ·have h2:s∈zdd.seen++List.replicate B.length []:=hs
   unfold zdd at h2
   simp only[List.nil_append]at h2
   rw[(List.mem_replicate.1 h2).2];simp
  ·show(0:Int)≤zdd.rounds;exact Int.le_refl _
  ·show zdd.rounds≤uses;unfold zdd;simp only;omega
 have hrun:=zy0 uses 301 B' 0 hok (by omega)
 obtain⟨r,hr⟩:∃r,zhJ uses 301 B' 0=r:=⟨_,rfl⟩
 rw[hr]at hrun
 rw[hr0,hr]at hV
 cases hl:r.lim with
 |true=>
  rw[if_pos hl]at hV
  repeat'(first|(refine zav.i (zCd (b:=zdd) (fs:=B) ⟨by unfold zdd;simp,by unfold zdd;simp,by unfold zdd;simp,by omega⟩ (fun s hs=>by unfold zdd at hs;simp at hs) rfl ?_);rw[hB'])|refine zav.i (zcq (T:=7) (xs:=[enc B']) (cs:=[.i .i64 uses,.i .i64 0]) rfl hrun (by simp only[go_sem]) ?_)|refine And.intro ?_ ?_|exact True.intro|refine rq fun _=>?_|refine rf fun _=>?_|simp only[go_sem,hb,hu1',hu2',hl,zac,zax,Tryz.f5])
  all_goals(
   rw[kq.out,←hV]
   simp only[go_sem,zaR,zbU])
 |false=>
  rw[if_neg (by simp[hl])]at hV
  cases hk:r.ok with
  |false=>
   rw[if_pos hk]at hV
   repeat'(first|(refine zav.i (zCd (b:=zdd) (fs:=B) ⟨by unfold zdd;simp,by unfold zdd;simp,by unfold zdd;simp,by omega⟩ (fun s hs=>by unfold zdd at hs;simp at hs) rfl ?_);rw[hB'])|refine zav.i (zcq (T:=7) (xs:=[enc B']) (cs:=[.i .i64 uses,.i .i64 0]) rfl hrun (by simp only[go_sem]) ?_)|refine And.intro ?_ ?_|exact True.intro|refine rq fun _=>?_|refine rf fun _=>?_|simp only[go_sem,hb,hu1',hu2',hl,hk,zac,zax,Tryz.f5])
   all_goals(
    rw[kq.out,←hV]
    simp only[go_sem,zaR,zbU])
  |true=>
   rw[if_neg (by simp[hk])]at hV
   repeat'(first|(refine zav.i (zCd (b:=zdd) (fs:=B) ⟨by unfold zdd;simp,by unfold zdd;simp,by unfold zdd;simp,by omega⟩ (fun s hs=>by unfold zdd at hs;simp at hs) rfl ?_);rw[hB'])|refine zav.i (zcq (T:=7) (xs:=[enc B']) (cs:=[.i .i64 uses,.i .i64 0]) rfl hrun (by simp only[go_sem]) ?_)|refine And.intro ?_ ?_|exact True.intro|refine rq fun _=>?_|refine rf fun _=>?_|simp only[go_sem,hb,hu1',hu2',hl,hk,zac,zax,Tryz.f5])
   all_goals(
    rw[kq.out,←hV]
    simp only[go_sem,zaR])
def zH0 (k:Int)(f g:Abs.zab):Abs.zab:= .mk k ⟨[]⟩ [] [f,g]
def Z5:Tbl:=Z4.add 6 (sp3 zH0 fun _ _ _=>True)
attribute [go_sem] Z5
theorem hZ5:zan Tryz.prog GA Z5:=by
 refine zfk ok6 hZ4 fun k f g _ _ _ _=>?_
 simp only[zH0]
 refine zag (N:=12) hm hZ4 6000 (lst []) ok6 Tryz.func6 rfl rfl (by simp) (by kernel_rfl) ?_
 repeat'(first|refine And.intro ?_ ?_|exact True.intro|refine rq fun _=>?_|refine rf fun _=>?_|simp only[go_sem,zac,Tryz.f6])
def Z6:Tbl:=Z5
attribute [go_sem] Z6
theorem hZ6:zan Tryz.prog GA Z6:=hZ5
def Z7:Tbl:=Z6
attribute [go_sem] Z7
end Go.Proofs.YtkkffhphodngkaaGreatDoor
namespace Go.Proofs.YtkkffhphodngkaaGreatDoor
open Go Go.Abs Go.Proofs
theorem ziV {ax:List Abs.zab}{g:Abs.zab}{uses:Int}(h:(zbY ax g).2.code=0)(h2:¬(uses<0∨5<uses)):zfg ax g uses=if(zkb ax g uses).lim=true then(zbU,false,⟨17, -3⟩)else if(zkb ax g uses).ok=false then(zbU,false,⟨0,0⟩)else((zkb ax g uses).p,true,⟨0,0⟩):=by
 unfold zfg
 rw[if_neg (by simp[h]),if_neg h2]
theorem zxN {ax:List Abs.zab}{g:Abs.zab}{uses:Int}{p:Prf}{e:zdo}(h:zfg ax g uses=(p,true,e)):(zbY ax g).2.code=0∧¬(uses<0∨5<uses)∧(zkb ax g uses).ok=true∧(zkb ax g uses).lim=false∧p=(zkb ax g uses).p∧e=⟨0,0⟩:=by
 unfold zfg at h
 by_cases h0:(zbY ax g).2.code=0
 rotate_left
 ·rw[if_pos h0]at h;simp at h
 rw[if_neg (by simp[h0])]at h
 by_cases hu:uses<0∨5<uses
 ·rw[if_pos hu]at h;simp at h
 rw[if_neg hu]at h
 cases hl:(zkb ax g uses).lim with
 |true=>rw[if_pos hl]at h;simp at h
 |false=>
  rw[if_neg (by simp[hl])]at h
  cases hk:(zkb ax g uses).ok with
  |false=>rw[if_pos hk]at h;simp at h
  |true=>
   rw[if_neg (by simp[hk])]at h
   simp only[Prod.mk.injEq,true_and]at h
   exact⟨h0,hu,rfl,rfl,h.1.symm,h.2.symm⟩
end Go.Proofs.YtkkffhphodngkaaGreatDoor
namespace Go.Proofs.YtkkffhphodngkaaGreatDoor
open Go Go.Abs Go.Proofs
theorem zl9 {f:Abs.zab}(h:(zaw false f).code=0):BF0 f:=⟨zkw h,zjI h,zih h⟩
theorem zic {ax:List Abs.zab}{g:Abs.zab}(h1:∀f∈ax,(zaw false f).code=0)(h2:(zaw false g).code=0):∀f∈zbs ax g,BF f:=fun f hf=>by
 unfold zbs zmb at hf
 rcases List.mem_append.1 hf with hf|hf
 ·obtain⟨a,ha,rfl⟩:=List.mem_map.1 hf
  exact(zl9 (h1 a ha)).cn
 ·rw[List.mem_singleton.1 hf]
  exact(zl9 h2).ng (by have:=za7 h2;omega)
theorem zD1 {ax:List Abs.zab}{g:Abs.zab}{uses:Int}(h0:(zbY ax g).2.code=0)(hu:¬(uses<0∨5<uses)):zcC uses (zbX zdd (zbs ax g)) 0∧zh4 (zbX zdd (zbs ax g)).list:=by
 obtain⟨hb,hlen,hva,hvg⟩:=zkv h0
 have hbl:(zbs ax g).length=ax.length+1:=by unfold zbs zmb;simp
 have hbb:=zic hva hvg
 obtain⟨B,hB⟩:∃B,zbs ax g=B:=⟨_,rfl⟩
 rw[hB]at hbl hbb ⊢
 have hl:(zbX zdd B).list=B:=by unfold zbX zdd;simp
 refine⟨⟨fun f hf=>?_,?_,?_,?_,fun s hs=>?_,?_,?_,by omega,by omega,by omega⟩,fun f hf=>?_⟩
 ·rw[hl]at hf;exact(hbb f hf).o.b
 ·rw[hl];omega
 ·rw[hl];show(zdd.used++List.replicate B.length false).length=_;unfold zdd;simp
 ·rw[hl];show(zdd.seen++List.replicate B.length []).length=_;unfold zdd;simp
 ·have h2:s∈zdd.seen++List.replicate B.length []:=hs
  unfold zdd at h2
  simp only[List.nil_append]at h2
  rw[(List.mem_replicate.1 h2).2];simp
 ·show(0:Int)≤zdd.rounds;exact Int.le_refl _
 ·show zdd.rounds≤uses;unfold zdd;simp only;omega
 ·rw[hl]at hf;exact hbb f hf
theorem zns {ax:List Abs.zab}{g:Abs.zab}{uses:Int}{p:Prf}{e:zdo}(h:zfg ax g uses=(p,true,e)){m:zaB}(hm:zCz m [])(hax:∀f∈ax,zaT m f []=true):zaT m g []=true:=by
 obtain⟨h0,hu,hk,hl,hp,he⟩:=zxN h
 obtain⟨h1,h2⟩:=zD1 h0 hu
 obtain⟨_,_,hva,hvg⟩:=zkv h0
 have hc:=(zva (uses:=uses) 301 _ 0 h1 h2 hk).1
 have hl2:(zbX zdd (zbs ax g)).list=zbs ax g:=by unfold zbX zdd;simp
 rw[hl2]at hc
 cases hg:zaT m g []with
 |true=>rfl
 |false=>
  refine(zmh _ _ (Nat.le_refl _) (zbs ax g) [] hm (fun f hf=>(zic hva hvg f hf).o.b) (fun f hf=>?_) hc).elim
  unfold zbs zmb at hf
  rcases List.mem_append.1 hf with hf|hf
  ·obtain⟨a,ha,rfl⟩:=List.mem_map.1 hf
   rw[ztj (zb4 (hva a ha))]
   exact hax a ha
  ·rw[List.mem_singleton.1 hf]
   first
    |exact(zv0 (zb4 hvg)).trans (by rw[hg];rfl)
    |(show zaT m (ngg g) []=true;rw[zv0 (zb4 hvg),hg];rfl)
theorem zxx {op:Bool}{f:Abs.zab}{d:Int}{n:Nat}:zdh op f d n≠17:=by
 unfold zdh
 repeat' split
 all_goals decide
mutual
theorem zCl {op:Bool}:∀(f:Abs.zab) (d:Int) (n:Nat),(chk op f d n).1.code≠17
 | .mk k nm w s,d,n=>by
  rw[chk]
  split
  ·exact zxx
  ·exact ztt s _ _
theorem ztt {op:Bool}:∀(fs:List Abs.zab) (d:Int) (n:Nat),(zea op fs d n).1.code≠17
 |[],d,n=>by rw[zea];simp
 |f::fs,d,n=>by
  rw[zea]
  split
  ·exact zCl f d n
  ·exact ztt fs _ _
end
theorem zjF {ax:List Abs.zab}{g:Abs.zab}(h:ax.length≤40)(h1:∀f∈ax,(zaw false f).code=0)(h2:(zaw false g).code=0):(zbY ax g).2.code=0:=by
 unfold zbY
 rw[if_neg (by omega),zh7 ax 0 h1,if_neg (by decide),if_neg (by simp[h2])]
end Go.Proofs.YtkkffhphodngkaaGreatDoor

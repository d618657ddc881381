/- several texts of this proof in one; no conditions -/
import Derived.Test.YtkkffhphodngkabGreatDoorAT
import Derived.Test.YtkkffhphodngkabGreatDoorQ135
import Derived.Test.YtkkffhphodngkabGreatDoorQ115B
import Derived.Test.YtkkffhphodngkabGreatDoorY13
import Derived.Test.YtkkffhphodngkabGreatDoorY14
import Derived.KernelRfl
set_option maxRecDepth 100000
set_option maxHeartbeats 1000000
set_option linter.unusedSimpArgs false
namespace Go.Proofs.YtkkffhphodngkabGreatDoor
open Go Go.Abs Go.Proofs
section
variable {P:Program} {G:Nat→List FD} {T:Tbl}
def zG6 {α β γ ρ σ τ:Type}[Enc α][Enc β][Enc γ][Enc ρ][Enc σ][Enc τ](f:α→β→γ→ρ×σ×τ)(pre:α→β→γ→Prop):List FD→Option (D×Prop)
 |[x,y,z]=>some (.tup [.fz (enc (f (dec x) (dec y) (dec z)).1),.fz (enc (f (dec x) (dec y) (dec z)).2.1),.fz (enc (f (dec x) (dec y) (dec z)).2.2)],x=enc (dec (α:=α) x)∧y=enc (dec (α:=β) y)∧z=enc (dec (α:=γ) z)∧pre (dec x) (dec y) (dec z))
 |_=>none
@[go_sem] theorem zKX {α β γ ρ σ τ:Type}[Enc α][Enc β][Enc γ][Enc ρ][Enc σ][Enc τ]{f:α→β→γ→ρ×σ×τ}{pre:α→β→γ→Prop}{x y z:FD}:zG6 f pre [x,y,z]=some (.tup [.fz (enc (f (dec x) (dec y) (dec z)).1),.fz (enc (f (dec x) (dec y) (dec z)).2.1),.fz (enc (f (dec x) (dec y) (dec z)).2.2)],x=enc (dec (α:=α) x)∧y=enc (dec (α:=β) y)∧z=enc (dec (α:=γ) z)∧pre (dec x) (dec y) (dec z)):=rfl
theorem zBS {α β γ ρ σ τ:Type}[Enc α][Enc β][Enc γ][Enc ρ][Enc σ][Enc τ]{f:FuncId}{g:α→β→γ→ρ×σ×τ}{pre:α→β→γ→Prop}(hc:zan P f)(hT:zaq P G T)
  (h:∀a b c,pre a b c→(enc a).Wf→(enc b).Wf→(enc c).Wf→zaw P G f [.fz (enc a),.fz (enc b),.fz (enc c)] (hpL []) 0 (fun d _ _=>D.val d=some (.tup [.fz (enc (g a b c).1),.fz (enc (g a b c).2.1),.fz (enc (g a b c).2.2)]))):zaq P G (T.add f (zG6 g pre)):=by
 refine zcq hT fun xs r c hx hcc=>?_
 unfold zG6 at hx
 split at hx
 ·rename_i x y z
  simp only[Option.some.injEq,Prod.mk.injEq]at hx
  obtain⟨rfl,rfl⟩:=hx
  obtain⟨e,e2,e3,hp⟩:=hcc
  refine zdu hc fun hw=>?_
  rw[zdV]
  have:=h (dec x) (dec y) (dec z) hp (by rw[←e];exact hw x (by simp)) (by rw[←e2];exact hw y (by simp)) (by rw[←e3];exact hw z (by simp))
  rw[←e,←e2,←e3]at this
  exact this
 ·cases hx
end
theorem zz7 (uses:Int):∀n:Nat,zJr uses (zfR uses n) n
 |0=>fun b a h hn=>by have:=h.a1;omega
 |n+1=>by
  have h:=zBM (zz7 uses n) fun b a ha=>zfS n b a ha
  have e:zfR uses (n+1)=zmb (zfR uses n) uses:=by funext b a;rw[zfR]
  rw[e]
  exact h
def zcm:Brn:=⟨[],[],[],0⟩
def zkG (ax:List Abs.zac)(g:Abs.zac)(uses:Int):Res:=zfR uses 301 (zbT zcm (zaQ ax g)) 0
def zbL (ax:List Abs.zac)(g:Abs.zac)(uses:Int):Prf×Bool×zbp:=
 if(za8 ax g).2.code≠0 then(zb0,false,(za8 ax g).2)
 else if uses<0∨5<uses then(zb0,false,⟨3, -3⟩)
 else if(zkG ax g uses).lim=true then(zb0,false,⟨17, -3⟩)
 else if(zkG ax g uses).ok=false then(zb0,false,⟨0,0⟩)
 else((zkG ax g uses).p,true,⟨0,0⟩)
def zAh:Tv:=(.q 0 (.br [(1,(.br [(2,(.q 3 (.br [(4,.leaf)])))])),(2,(.q 1 (.q 3 (.br [(4,.leaf)]))))]))
def Z4:Tbl:=Z3.add 21 (zG6 zbL fun _ _ _=>True)
attribute [go_sem] Z4
set_option maxHeartbeats 4000000 in
theorem hZ4:zaq Tryz.prog GA Z4:=by
 refine zBS zLb hZ3 fun ax g uses _ _ _ _=>?_
 obtain⟨V,hV⟩:∃V,zbL ax g uses=V:=⟨_,rfl⟩
 rw[hV]
 unfold zbL at hV
 obtain⟨Q,hQ⟩:∃Q:D→zav→Nat→Prop,Q=(fun d _ _=>D.val d=some (.tup [.fz (enc V.1),.fz (enc V.2.1),.fz (enc V.2.2)])):=⟨_,rfl⟩
 rw[←hQ]
 have kq:=Kp.mk hQ
 clear hQ
 refine zae (N:=55) hm hZ3 21000 (lst [1000003]) zLb Tryz.func21 rfl rfl (by simp) (by kernel_rfl) ?_
 by_cases h0:(za8 ax g).2.code=0
 rotate_left
 ·rw[if_pos h0]at hV
  obtain⟨bl,bf,hb⟩:∃l f,za8 ax g=(l,f):=⟨_,_,rfl⟩
  rw[hb]at h0 hV
  simp only at h0 hV
  have h0':(bf.code=0)=False:=eq_false h0
  repeat'(first|refine zar (id:=3) hm hZ3 21000 (lst [1000003]) zAh (by kernel_rfl) (by kernel_rfl) ?_|refine And.intro ?_ ?_|exact True.intro|refine rq fun _=>?_|refine rf fun _=>?_|simp only[go_sem,zAh,hb,h0',zab,Tryz.f21])
  all_goals(
   rw[kq.out,←hV]
   simp only[go_sem,zaS,zb0])
 rw[if_neg (by simp[h0])]at hV
 obtain⟨hb,hlen,hva,hvg⟩:=zfH h0
 by_cases hu:uses<0∨5<uses
 ·rw[if_pos hu]at hV
  by_cases hu1:uses<0
  ·have hu1':(uses<0)=True:=eq_true hu1
   repeat'(first|refine And.intro ?_ ?_|exact True.intro|refine rq fun _=>?_|refine rf fun _=>?_|simp only[go_sem,hb,hu1',zab,Tryz.f21])
   all_goals(
    rw[kq.out,←hV]
    simp only[go_sem,zaS,zb0])
  ·have hu1':(uses<0)=False:=eq_false hu1
   have hu2':(5<uses)=True:=eq_true (by omega)
   repeat'(first|refine And.intro ?_ ?_|exact True.intro|refine rq fun _=>?_|refine rf fun _=>?_|simp only[go_sem,hb,hu1',hu2',zab,Tryz.f21])
   all_goals(
    rw[kq.out,←hV]
    simp only[go_sem,zaS,zb0])
 rw[if_neg hu]at hV
 have hu1':(uses<0)=False:=eq_false (by omega)
 have hu2':(5<uses)=False:=eq_false (by omega)
 have hbl:(zaQ ax g).length=ax.length+1:=by unfold zaQ zk4;simp
 obtain⟨B,hB⟩:∃B,zaQ ax g=B:=⟨_,rfl⟩
 have hbb:∀f∈B,brF f:=by rw[←hB];exact zkj hva hvg
 obtain⟨B',hB'⟩:∃B',zbT zcm B=B':=⟨_,rfl⟩
 have hr0:zkG ax g uses=zfR uses 301 B' 0:=by unfold zkG;rw[hB,hB']
 rw[hB]at hb hbl
 have hok:zcN uses B' 0:=by
  rw[←hB']
  refine⟨fun f hf=>hbb f (by simpa[zbT,zcm]using hf),?_,?_,?_,fun s hs=>?_,?_,?_,by omega,by omega,by omega⟩
  ·show((zcm.list++B).length:Int)≤_
   unfold zcm;simp only[List.nil_append];omega
  ·show(zcm.used++List.replicate B.length false).length=(zcm.list++B).length
   unfold zcm;simp
  ·show(zcm.seen++List.replicate B.length []).length=(zcm.list++B).length
   unfold zcm;simp
  ·have h2:s∈zcm.seen++List.replicate B.length []:=hs
   unfold zcm at h2
   simp only[List.nil_append]at h2
   rw[(List.mem_replicate.1 h2).2];simp
  ·show(0:Int)≤zcm.rounds;exact Int.le_refl _
  ·show zcm.rounds≤uses;unfold zcm;simp only;omega
 have hrun:=zz7 uses 301 B' 0 hok (by omega)
 obtain⟨r,hr⟩:∃r,zfR uses 301 B' 0=r:=⟨_,rfl⟩
 rw[hr]at hrun
 rw[hr0,hr]at hV
 cases hl:r.lim with
 |true=>
  rw[if_pos hl]at hV
  repeat'(first|(refine zak.i (zDf (b:=zcm) (fs:=B) ⟨by unfold zcm;simp,by unfold zcm;simp,by unfold zcm;simp,by omega⟩ (fun s hs=>by unfold zcm at hs;simp at hs) rfl ?_);rw[hB'])|refine zak.i (zcE (T:=7) (xs:=[enc B']) (cs:=[.i .i64 uses,.i .i64 0]) rfl hrun (by simp only[go_sem]) ?_)|refine And.intro ?_ ?_|exact True.intro|refine rq fun _=>?_|refine rf fun _=>?_|simp only[go_sem,hb,hu1',hu2',hl,zab,zaB,Tryz.f21])
  all_goals(
   rw[kq.out,←hV]
   simp only[go_sem,zaS,zb0])
 |false=>
  rw[if_neg (by simp[hl])]at hV
  cases hk:r.ok with
  |false=>
   rw[if_pos hk]at hV
   repeat'(first|(refine zak.i (zDf (b:=zcm) (fs:=B) ⟨by unfold zcm;simp,by unfold zcm;simp,by unfold zcm;simp,by omega⟩ (fun s hs=>by unfold zcm at hs;simp at hs) rfl ?_);rw[hB'])|refine zak.i (zcE (T:=7) (xs:=[enc B']) (cs:=[.i .i64 uses,.i .i64 0]) rfl hrun (by simp only[go_sem]) ?_)|refine And.intro ?_ ?_|exact True.intro|refine rq fun _=>?_|refine rf fun _=>?_|simp only[go_sem,hb,hu1',hu2',hl,hk,zab,zaB,Tryz.f21])
   all_goals(
    rw[kq.out,←hV]
    simp only[go_sem,zaS,zb0])
  |true=>
   rw[if_neg (by simp[hk])]at hV
   repeat'(first|(refine zak.i (zDf (b:=zcm) (fs:=B) ⟨by unfold zcm;simp,by unfold zcm;simp,by unfold zcm;simp,by omega⟩ (fun s hs=>by unfold zcm at hs;simp at hs) rfl ?_);rw[hB'])|refine zak.i (zcE (T:=7) (xs:=[enc B']) (cs:=[.i .i64 uses,.i .i64 0]) rfl hrun (by simp only[go_sem]) ?_)|refine And.intro ?_ ?_|exact True.intro|refine rq fun _=>?_|refine rf fun _=>?_|simp only[go_sem,hb,hu1',hu2',hl,hk,zab,zaB,Tryz.f21])
   all_goals(
    rw[kq.out,←hV]
    simp only[go_sem,zaS])
def zJz (k:Int)(f g:Abs.zac):Abs.zac:= .mk k ⟨[]⟩ [] [f,g]
def Z5:Tbl:=Z4.add 25 (sp3 zJz fun _ _ _=>True)
attribute [go_sem] Z5
theorem hZ5:zaq Tryz.prog GA Z5:=by
 refine zf4 zG0 hZ4 fun k f g _ _ _ _=>?_
 simp only[zJz]
 refine zae (N:=12) hm hZ4 25000 (lst []) zG0 Tryz.func25 rfl rfl (by simp) (by kernel_rfl) ?_
 repeat'(first|refine And.intro ?_ ?_|exact True.intro|refine rq fun _=>?_|refine rf fun _=>?_|simp only[go_sem,zab,Tryz.f25])
def zt9 (k:Int)(x:Str)(f:Abs.zac):Abs.zac:= .mk k x [] [f]
def Z6:Tbl:=Z5.add 24 (sp3 zt9 fun _ _ _=>True)
attribute [go_sem] Z6
theorem hZ6:zaq Tryz.prog GA Z6:=by
 refine zf4 zLc hZ5 fun k x f _ _ _ _=>?_
 simp only[zt9]
 refine zae (N:=12) hm hZ5 24000 (lst []) zLc Tryz.func24 rfl rfl (by simp) (by kernel_rfl) ?_
 repeat'(first|refine And.intro ?_ ?_|exact True.intro|refine rq fun _=>?_|refine rf fun _=>?_|simp only[go_sem,zab,Tryz.f24])
def Z7:Tbl:=Z6.add 9 (sp0 zfx)
attribute [go_sem] Z7
theorem hZ7:zaq Tryz.prog GA Z7:=by
 refine zFs hZ6 ?_
 have e1:zsZ zlK [exS]=prF zlK exS:=rfl
 have e2:zsZ zwZ [exS]=prF zwZ exS:=rfl
 have e3:zsZ zlK [zjS]=prF zlK zjS:=rfl
 have e4:zJz 7 (prF zlK exS) (prF zwZ exS)= .mk 7 ⟨[]⟩ [] [prF zlK exS,prF zwZ exS]:=rfl
 have e5:zt9 8 exS (.mk 7 ⟨[]⟩ [] [prF zlK exS,prF zwZ exS])=zxm exS:=rfl
 have dM:Str.mk [109,97,110]=zlK:=rfl
 have dO:Str.mk [109,111,114,116,97,108]=zwZ:=rfl
 have dK:Str.mk [107,105,109]=zjS:=rfl
 have dX:Str.mk [120]=exS:=rfl
 refine zae (N:=10) hm hZ6 9000 (lst []) ok9 Tryz.func9 rfl rfl (by simp) (by kernel_rfl) ?_
 repeat'(first|refine And.intro ?_ ?_|exact True.intro|refine rq fun _=>?_|refine rf fun _=>?_|simp only[go_sem,dM,dO,dK,dX,e1,e2,e3,e4,e5,zad,zab,Tryz.f9])
 all_goals(unfold zfx;simp only[go_sem])
 all_goals trace_state
end Go.Proofs.YtkkffhphodngkabGreatDoor
namespace Go.Proofs.YtkkffhphodngkabGreatDoor
open Go Go.Abs Go.Proofs
theorem zeY {ax:List Abs.zac}{g:Abs.zac}{uses:Int}(h:(za8 ax g).2.code=0)(h2:¬(uses<0∨5<uses)):zbL ax g uses=if(zkG ax g uses).lim=true then(zb0,false,⟨17, -3⟩)else if(zkG ax g uses).ok=false then(zb0,false,⟨0,0⟩)else((zkG ax g uses).p,true,⟨0,0⟩):=by
 unfold zbL
 rw[if_neg (by simp[h]),if_neg h2]
theorem zgT {ax:List Abs.zac}{g:Abs.zac}{uses:Int}{p:Prf}{e:zbp}(h:zbL ax g uses=(p,true,e)):(za8 ax g).2.code=0∧¬(uses<0∨5<uses)∧(zkG ax g uses).ok=true∧(zkG ax g uses).lim=false∧p=(zkG ax g uses).p∧e=⟨0,0⟩:=by
 unfold zbL at h
 by_cases h0:(za8 ax g).2.code=0
 rotate_left
 ·rw[if_pos h0]at h;simp at h
 rw[if_neg (by simp[h0])]at h
 by_cases hu:uses<0∨5<uses
 ·rw[if_pos hu]at h;simp at h
 rw[if_neg hu]at h
 cases hl:(zkG ax g uses).lim with
 |true=>rw[if_pos hl]at h;simp at h
 |false=>
  rw[if_neg (by simp[hl])]at h
  cases hk:(zkG ax g uses).ok with
  |false=>rw[if_pos hk]at h;simp at h
  |true=>
   rw[if_neg (by simp[hk])]at h
   simp only[Prod.mk.injEq,true_and]at h
   exact⟨h0,hu,rfl,rfl,h.1.symm,h.2.symm⟩
theorem zkF {ax:List Abs.zac}{g:Abs.zac}{uses:Int}{p:Prf}{e:zbp}(h:zbL ax g uses=(p,true,e))(h5:uses<5):zbL ax g (uses+1)=(p,true,⟨0,0⟩):=by
 obtain⟨h0,hu,hk,hl,hp,he⟩:=zgT h
 have hr:zkG ax g (uses+1)=zkG ax g uses:=by
  unfold zkG at hk ⊢
  exact zpY 301 _ 0 (by show(0:Int)≤uses;omega) hk
 rw[zeY h0 (by omega),hr,if_neg (by simp[hl]),if_neg (by simp[hk]),hp]
end Go.Proofs.YtkkffhphodngkabGreatDoor
namespace Go.Proofs.YtkkffhphodngkabGreatDoor
open Go Go.Abs Go.Proofs
theorem zmK {f:Abs.zac}(h:(zaz false f).code=0):BF0 f:=⟨zie h,zfJ h,zeJ h⟩
theorem ziI {ax:List Abs.zac}{g:Abs.zac}(h1:∀f∈ax,(zaz false f).code=0)(h2:(zaz false g).code=0):∀f∈zaQ ax g,BF f:=fun f hf=>by
 unfold zaQ zk4 at hf
 rcases List.mem_append.1 hf with hf|hf
 ·obtain⟨a,ha,rfl⟩:=List.mem_map.1 hf
  exact(zmK (h1 a ha)).cn
 ·rw[List.mem_singleton.1 hf]
  exact(zmK h2).ng (by have:=zaY h2;omega)
theorem zFo {ax:List Abs.zac}{g:Abs.zac}{uses:Int}(h0:(za8 ax g).2.code=0)(hu:¬(uses<0∨5<uses)):zcN uses (zbT zcm (zaQ ax g)) 0∧zh8 (zbT zcm (zaQ ax g)).list:=by
 obtain⟨hb,hlen,hva,hvg⟩:=zfH h0
 have hbl:(zaQ ax g).length=ax.length+1:=by unfold zaQ zk4;simp
 have hbb:=ziI hva hvg
 obtain⟨B,hB⟩:∃B,zaQ ax g=B:=⟨_,rfl⟩
 rw[hB]at hbl hbb ⊢
 have hl:(zbT zcm B).list=B:=by unfold zbT zcm;simp
 refine⟨⟨fun f hf=>?_,?_,?_,?_,fun s hs=>?_,?_,?_,by omega,by omega,by omega⟩,fun f hf=>?_⟩
 ·rw[hl]at hf;exact(hbb f hf).o.b
 ·rw[hl];omega
 ·rw[hl];show(zcm.used++List.replicate B.length false).length=_;unfold zcm;simp
 ·rw[hl];show(zcm.seen++List.replicate B.length []).length=_;unfold zcm;simp
 ·have h2:s∈zcm.seen++List.replicate B.length []:=hs
  unfold zcm at h2
  simp only[List.nil_append]at h2
  rw[(List.mem_replicate.1 h2).2];simp
 ·show(0:Int)≤zcm.rounds;exact Int.le_refl _
 ·show zcm.rounds≤uses;unfold zcm;simp only;omega
 ·rw[hl]at hf;exact hbb f hf
theorem zd4 {ax:List Abs.zac}{g:Abs.zac}{uses:Int}{p:Prf}{e:zbp}(h:zbL ax g uses=(p,true,e)){m:zay}(hm:zCg m [])(hax:∀f∈ax,za2 m f []=true):za2 m g []=true:=by
 obtain⟨h0,hu,hk,hl,hp,he⟩:=zgT h
 obtain⟨h1,h2⟩:=zFo h0 hu
 obtain⟨_,_,hva,hvg⟩:=zfH h0
 have hc:=(zpZ (uses:=uses) 301 _ 0 h1 h2 hk).1
 have hl2:(zbT zcm (zaQ ax g)).list=zaQ ax g:=by unfold zbT zcm;simp
 rw[hl2]at hc
 cases hg:za2 m g []with
 |true=>rfl
 |false=>
  refine(zmQ _ _ (Nat.le_refl _) (zaQ ax g) [] hm (fun f hf=>(ziI hva hvg f hf).o.b) (fun f hf=>?_) hc).elim
  unfold zaQ zk4 at hf
  rcases List.mem_append.1 hf with hf|hf
  ·obtain⟨a,ha,rfl⟩:=List.mem_map.1 hf
   rw[zuc (zcc (hva a ha))]
   exact hax a ha
  ·rw[List.mem_singleton.1 hf]
   first
    |exact(zw0 (zcc hvg)).trans (by rw[hg];rfl)
    |(show za2 m (ngg g) []=true;rw[zw0 (zcc hvg),hg];rfl)
def zg4:Abs.zac:= .mk 1 ⟨[]⟩ [] []
def zhc (ax:List Abs.zac)(g:Abs.zac):zqd×zbp:=zzD (zbL ax g 3) (ze6 (ax++[zbx g]) 4)
theorem zs1 {ax:List Abs.zac}{g:Abs.zac}{uses:Int}(h:(za8 ax g).2.code=0)(h2:¬(uses<0∨5<uses)):(zbL ax g uses).2.2.code=0∨(zbL ax g uses).2.2.code=17:=by
 rw[zeY h h2]
 split
 ·exact .inr rfl
 ·split<;>exact .inl rfl
theorem zjt {ax:List Abs.zac}{g:Abs.zac}{uses:Int}(h:(za8 ax g).2.code≠0):zbL ax g uses=(zb0,false,(za8 ax g).2):=by
 unfold zbL
 rw[if_pos h]
theorem zfG {ax:List Abs.zac}{g:Abs.zac}{v:zqd}{e:zbp}(h:zhc ax g=(v,e))(hk:v.kind=1):e=⟨0,0⟩∧zbL ax g 3=(v.proof,true,⟨0,0⟩):=by
 unfold zhc zzD at h
 split at h
 ·simp only[Prod.mk.injEq]at h;rw[←h.1]at hk;simp at hk
 ·split at h
  ·rename_i h2
   simp only[Prod.mk.injEq]at h
   obtain⟨p,b,e2,hp⟩:∃p b e2,zbL ax g 3=(p,b,e2):=⟨_,_,_,rfl⟩
   rw[hp]at h h2 ⊢
   obtain rfl:b=true:=h2
   obtain⟨_,_,_,_,_,he⟩:=zgT hp
   exact⟨h.2.symm,by rw[←h.1,he]⟩
  ·split at h<;>(simp only[Prod.mk.injEq]at h;rw[←h.1]at hk;simp at hk)
theorem zf8 {ax:List Abs.zac}{g:Abs.zac}{v:zqd}{e:zbp}(h:zhc ax g=(v,e))(hk:v.kind=2):e=⟨0,0⟩∧ze6 (ax++[zbx g]) 4=(v.model,true,⟨0,0⟩):=by
 unfold zhc zzD at h
 split at h
 ·simp only[Prod.mk.injEq]at h;rw[←h.1]at hk;simp at hk
 ·split at h
  ·simp only[Prod.mk.injEq]at h;rw[←h.1]at hk;simp at hk
  ·split at h
   ·rename_i h2
    simp only[Prod.mk.injEq]at h
    obtain⟨p,b,e2,hp⟩:∃p b e2,ze6 (ax++[zbx g]) 4=(p,b,e2):=⟨_,_,_,rfl⟩
    rw[hp]at h h2 ⊢
    obtain rfl:b=true:=h2
    obtain⟨_,_,_,_,_,_,he⟩:=zpt hp
    exact⟨h.2.symm,by rw[←h.1,he]⟩
   ·simp only[Prod.mk.injEq]at h;rw[←h.1]at hk;simp at hk
theorem zxp {ax:List Abs.zac}{g:Abs.zac}{v:zqd}(h:zhc ax g=(v,⟨0,0⟩)):v.kind=1∨v.kind=2∨v.kind=3:=by
 unfold zhc zzD at h
 split at h
 ·rename_i h1
  simp only[Prod.mk.injEq]at h
  rw[h.2]at h1
  simp at h1
 ·split at h
  ·simp only[Prod.mk.injEq]at h;rw[←h.1];simp
  ·split at h<;>(simp only[Prod.mk.injEq]at h;rw[←h.1];simp)
theorem zd5 {ax:List Abs.zac}{g:Abs.zac}{m:zay}{e:zbp}(h:ze6 (ax++[zbx g]) 4=(m,true,e)):zCg m []∧(∀f∈ax,za2 m f []=true)∧za2 m g []=false:=by
 obtain⟨h1,h2⟩:=zuU h
 refine⟨h1,fun f hf=>h2 f (List.mem_append_left _ hf),?_⟩
 have h3:=h2 (zbx g) (List.mem_append_right _ (by simp))
 rw[zrF]at h3
 simpa using h3
theorem zo0 {ax:List Abs.zac}{g:Abs.zac}{m:zay}{e:zbp}(h:ze6 (ax++[zbx g]) 4=(m,true,e))(hb:(za8 ax g).2.code=0):zhc ax g=(⟨2,.mk 0 0 0 ⟨[]⟩ [],m⟩,⟨0,0⟩):=by
 obtain⟨h1,h2,h3⟩:=zd5 h
 have hn:(zbL ax g 3).2.1=false:=by
  obtain⟨p,b,e2,hp⟩:∃p b e2,zbL ax g 3=(p,b,e2):=⟨_,_,_,rfl⟩
  rw[hp]
  cases b with
  |false=>rfl
  |true=>
   have h4:=zd4 hp h1 h2
   rw[h3]at h4
   cases h4
 unfold zhc zzD
 have hc:=zs1 (uses:=3) hb (by decide)
 rw[if_neg (by omega),if_neg (by rw[hn];simp),h,if_pos rfl]
theorem zt3 {ax:List Abs.zac}{g:Abs.zac}{p:Prf}{e:zbp}(h:zbL ax g 3=(p,true,e)):zhc ax g=(⟨1,p,zcM⟩,⟨0,0⟩):=by
 obtain⟨_,_,_,_,_,he⟩:=zgT h
 unfold zhc zzD
 rw[h,he,if_neg (by simp),if_pos rfl]
theorem zyB {op:Bool}{f:Abs.zac}{d:Int}{n:Nat}:zex op f d n≠17:=by
 unfold zex
 repeat' split
 all_goals decide
mutual
theorem zuh {op:Bool}:∀(f:Abs.zac) (d:Int) (n:Nat),(chk op f d n).1.code≠17
 | .mk k nm w s,d,n=>by
  rw[chk]
  split
  ·exact zyB
  ·exact zum s _ _
theorem zum {op:Bool}:∀(fs:List Abs.zac) (d:Int) (n:Nat),(zfb op fs d n).1.code≠17
 |[],d,n=>by rw[zfb];simp
 |f::fs,d,n=>by
  rw[zfb]
  split
  ·exact zuh f d n
  ·exact zum fs _ _
end
theorem zt5:∀(l:List Abs.zac) (k:Nat),(zrY l k).code≠17
 |[],k=>by rw[zrY];decide
 |f::l,k=>by
  rw[zrY]
  split
  ·exact zuh f 1 0
  ·exact zt5 l _
theorem zxr (ax:List Abs.zac)(g:Abs.zac):(za8 ax g).2.code≠17:=by
 unfold za8
 split
 ·decide
 ·split
  ·exact zt5 ax 0
  ·split
   ·exact zuh g 1 0
   ·simp
theorem zt2 {ax:List Abs.zac}{g:Abs.zac}{v:zqd}{e:zbp}(h:zhc ax g=(v,e))(hk:v.kind≠0):(za8 ax g).2.code=0:=by
 refine Classical.byContradiction fun hc=>?_
 have hp:=zjt (uses:=3) hc
 unfold zhc zzD at h
 rw[hp,if_pos ⟨hc,zxr ax g⟩]at h
 simp only[Prod.mk.injEq]at h
 exact hk (by rw[←h.1])
theorem zI2 {ax:List Abs.zac}{f g:Abs.zac}{v w:zqd}{d e:zbp}(h1:zhc ax g=(v,d))(h2:zhc (ax++[f]) g=(w,e))(hv:v.kind=1)(hw:w.kind=2):False:=by
 obtain⟨_,h3⟩:=zfG h1 hv
 obtain⟨_,h4⟩:=zf8 h2 hw
 obtain⟨k1,k2,k3⟩:=zd5 h4
 have h5:=zd4 h3 k1 fun x hx=>k2 x (List.mem_append_left _ hx)
 rw[k3]at h5
 cases h5
theorem zHw {ax:List Abs.zac}{g t:Abs.zac}{c v w:zqd}{e1 e2 e3:zbp}(h1:zhc ax t=(c,e1))(h2:zhc ax g=(v,e2))(h3:zhc ax (zbx g)=(w,e3))(hc:c.kind=2)(hv:v.kind=1)(hw:w.kind=1):False:=by
 obtain⟨_,h4⟩:=zf8 h1 hc
 obtain⟨_,h5⟩:=zfG h2 hv
 obtain⟨_,h6⟩:=zfG h3 hw
 obtain⟨k1,k2,k3⟩:=zd5 h4
 have h7:=zd4 h5 k1 k2
 have h8:=zd4 h6 k1 k2
 rw[zrF,h7]at h8
 cases h8
theorem zln {l:List Abs.zac}{names:List Str}{ps:List Pd}{n:Nat}{m:zay}{ms:List zay}(h1:zaH l=names)(h2:zgX l=ps)(hf:(zca l 4).code=0)(hn:zkk 1 names.length ps=some n)(hm:((List.range n).map (zcs names ps 1)).filter (okF l)=m::ms):ze6 l 4=(m,true,⟨0,0⟩):=by
 unfold ze6
 rw[if_neg (by simp[hf])]
 show zi1 l 1 4=_
 rw[zi1]
 have h3:zcY l 1=some (m::ms):=by
  unfold zcY zlQ
  rw[h1,h2,hn]
  show some (zeR l 1 n)=_
  unfold zeR zsW
  rw[h1,h2,hm]
 rw[h3]
theorem zep {ax:List Abs.zac}{g:Abs.zac}(h:ax.length≤40)(h1:∀f∈ax,(zaz false f).code=0)(h2:(zaz false g).code=0):(za8 ax g).2.code=0:=by
 unfold za8
 rw[if_neg (by omega),ziE ax 0 h1,if_neg (by decide),if_neg (by simp[h2])]
theorem zvt {α:Type}{p:α→Prop}{a b:α}(ha:p a)(hb:p b):∀x∈[a,b],p x:=fun x hx=>by
 simp only[List.mem_cons,List.not_mem_nil,or_false]at hx
 rcases hx with rfl|rfl<;>assumption
theorem zvs {α:Type}{p:α→Prop}{a b c:α}(ha:p a)(hb:p b)(hc:p c):∀x∈[a,b,c],p x:=fun x hx=>by
 simp only[List.mem_cons,List.not_mem_nil,or_false]at hx
 rcases hx with rfl|rfl|rfl<;>assumption
theorem zBG {ax:List Abs.zac}{g:Abs.zac}{p:Prf}(h:zbL ax g 1=(p,true,⟨0,0⟩)):zbL ax g 3=(p,true,⟨0,0⟩):=
 zkF (uses:=2) (zkF (uses:=1) h (by decide)) (by decide)
end Go.Proofs.YtkkffhphodngkabGreatDoor
namespace Go.Proofs.YtkkffhphodngkabGreatDoor
open Go Go.Abs Go.Proofs
theorem zpe {l:List Abs.zac}{w:Str}(h:l.flatMap (fun f=>cst f [])≠[])(h2:∀x∈l.flatMap (fun f=>cst f []),x=w):zaH l=[w]:=by
 refine znY (List.pairwise_singleton _ _) fun x=>?_
 constructor
 ·rintro⟨f,hf,hx⟩
  rw[h2 x (List.mem_flatMap.2 ⟨f,hf,hx⟩)];simp
 ·intro hx
  rw[List.mem_singleton.1 hx]
  cases hl:l.flatMap (fun f=>cst f [])with
  |nil=>exact absurd hl h
  |cons y ys=>
   have hy:y∈l.flatMap (fun f=>cst f []):=by rw[hl];simp
   obtain⟨f,hf,hy2⟩:=List.mem_flatMap.1 hy
   exact⟨f,hf,by rw[←h2 y hy];exact hy2⟩
theorem zAL:∃m,zhc [] zjQ=(⟨2,.mk 0 0 0 ⟨[]⟩ [],m⟩,⟨0,0⟩)∧m.size=1:=by
 have h1:zaH [zbx zjQ]=[zwY]:=zpe (by decide) (by
  have e:[zbx zjQ].flatMap (fun f=>cst f [])=[zwY]:=by kernel_rfl
  rw[e];simp)
 have h2:zgX [zbx zjQ]=[⟨zzK,1⟩]:=by kernel_rfl
 refine⟨zcs [zwY] [⟨zzK,1⟩] 1 0,zo0 (e:=⟨0,0⟩) ?_ (zep (by decide) (by simp) (by kernel_rfl)),rfl⟩
 exact zln (ms:=[]) (n:=2) h1 h2 (by kernel_rfl) (by kernel_rfl) (by kernel_rfl)
theorem zFT:∃m,zhc [zjQ] (zbx zg4)=(⟨2,.mk 0 0 0 ⟨[]⟩ [],m⟩,⟨0,0⟩):=by
 have h1:zaH [zjQ,zbx (zbx zg4)]=[zwY]:=zpe (by
  have e:[zjQ,zbx (zbx zg4)].flatMap (fun f=>cst f [])=[zwY]:=by kernel_rfl
  rw[e];simp) (by
  have e:[zjQ,zbx (zbx zg4)].flatMap (fun f=>cst f [])=[zwY]:=by kernel_rfl
  rw[e];simp)
 have h2:zgX [zjQ,zbx (zbx zg4)]=[⟨zzK,1⟩]:=by kernel_rfl
 refine⟨zcs [zwY] [⟨zzK,1⟩] 1 1,zo0 (e:=⟨0,0⟩) ?_ (zep (by decide) (fun f hf=>?_) (by kernel_rfl))⟩
 ·exact zln (ms:=[]) (n:=2) h1 h2 (by kernel_rfl) (by kernel_rfl) (by kernel_rfl)
 ·rw[List.mem_singleton.1 hf];kernel_rfl
def zDv:List Abs.zac:=[zjQ,zbx zjQ,zbx (zbx zg4)]
theorem zsg:zaQ [zjQ,zbx zjQ] (zbx zg4)=zDv:=by
 have h1:zaC zjQ []=zjQ:=by kernel_rfl
 have h2:zaC (zbx zjQ) []=zbx zjQ:=by kernel_rfl
 have h3:zaC (zbx (zbx zg4)) []=zbx (zbx zg4):=by kernel_rfl
 unfold zaQ zk4 zlO
 rw[List.map_cons,List.map_cons,List.map_nil,h1,h2,h3]
 rfl
theorem zHA:∃p,zhc [zjQ,zbx zjQ] (zbx zg4)=(⟨1,p,zcM⟩,⟨0,0⟩):=by
 refine⟨(zfR 3 301 (zbT zcm zDv) 0).p,zt3 (e:=⟨0,0⟩) ?_⟩
 have h1:(zfR 3 301 (zbT zcm zDv) 0).ok=true:=by kernel_rfl
 have h2:(zfR 3 301 (zbT zcm zDv) 0).lim=false:=by kernel_rfl
 have h3:zkG [zjQ,zbx zjQ] (zbx zg4) 3=zfR 3 301 (zbT zcm zDv) 0:=by unfold zkG;rw[zsg]
 rw[zeY (zep (by decide) (zvt (by kernel_rfl) (by kernel_rfl)) (by kernel_rfl)) (by decide),h3,if_neg (by simp[h2]),if_neg (by simp[h1])]
theorem zGW:∃m,zhc zfx (zbx zj3)=(⟨2,.mk 0 0 0 ⟨[]⟩ [],m⟩,⟨0,0⟩):=by
 have e:[zxm exS,prF zlK zjS,zbx (zbx zj3)].flatMap (fun f=>cst f [])=[zjS,zjS]:=by kernel_rfl
 have h1:zaH [zxm exS,prF zlK zjS,zbx (zbx zj3)]=[zjS]:=zpe (by rw[e];simp) (by rw[e];simp)
 have h2:zgX [zxm exS,prF zlK zjS,zbx (zbx zj3)]=[⟨zlK,1⟩,⟨zwZ,1⟩]:=by kernel_rfl
 refine⟨zcs [zjS] [⟨zlK,1⟩,⟨zwZ,1⟩] 1 3,zo0 (e:=⟨0,0⟩) ?_ (zep (by decide) (zvt (by kernel_rfl) (by kernel_rfl)) (by kernel_rfl))⟩
 exact zln (ms:=[]) (n:=4) h1 h2 (by kernel_rfl) (by kernel_rfl) (by kernel_rfl)
def zz2:Abs.zac:= .mk 2 zzK [zCO] []
def zj2:List Abs.zac:=[zxm v0S,prF zlK zjS,zz2,zbx zj3]
def zfW:Brn:=zbT ⟨[],[],[],0⟩ zj2
theorem zpM:zaQ (zfx++[zz2]) zj3=zj2:=by
 have h3:zaC zz2 []=zz2:=by kernel_rfl
 have h4:zaC (zbx zj3) []=zbx zj3:=by kernel_rfl
 unfold zaQ zk4 zfx zlO
 rw[List.cons_append,List.cons_append,List.nil_append,List.map_cons,List.map_cons,List.map_cons,List.map_nil,zyx,zvw,h3,h4]
 rfl
theorem zsN:zaH zj2=[zjS,zCO]:=by
 have e:zj2.flatMap (fun f=>cst f [])=[zjS,zCO,zjS]:=by kernel_rfl
 refine znY ?_ fun x=>?_
 ·refine List.pairwise_pair.2 ?_
  show zjS.l<zCO.l
  decide
 ·constructor
  ·rintro⟨f,hf,hx⟩
   have h:x∈zj2.flatMap (fun f=>cst f []):=List.mem_flatMap.2 ⟨f,hf,hx⟩
   rw[e]at h
   simp only[List.mem_cons,List.not_mem_nil,or_false]at h ⊢
   rcases h with h|h|h<;>simp[h]
  ·intro hx
   have h:x∈zj2.flatMap (fun f=>cst f []):=by
    rw[e]
    simp only[List.mem_cons,List.not_mem_nil,or_false]at hx ⊢
    rcases hx with h|h<;>simp[h]
   obtain⟨f,hf,h2⟩:=List.mem_flatMap.1 h
   exact⟨f,hf,h2⟩
theorem zq2:zfR 1 301 zfW 0=zyd (zfR 1 300) (zhm [zjS,zCO] zj2 0 ⟨⟨zj2,zfW.used,zfW.seen,1⟩,[],0⟩):=by
 rw[zfR]
 unfold zmb
 have h1:zc4 zfW.list=none:=by kernel_rfl
 have h2:zc9 1 zfW.list zfW.used 0=none:=by kernel_rfl
 have h3:zc9 4 zfW.list zfW.used 0=none:=by kernel_rfl
 have h4:zc9 2 zfW.list zfW.used 0=none:=by kernel_rfl
 rw[h1]
 simp only[zfz,h2,h3,h4]
 unfold zft
 have h5:zfW.rounds=0:=rfl
 have h6:zfW.list=zj2:=rfl
 rw[if_neg (by rw[h5];omega)]
 have h7:zdI zj2=[zjS,zCO]:=by
  unfold zdI
  rw[zsN,if_neg (by simp)]
 rw[h6,h7]
 rfl
theorem zGV:∃p,zhc (zfx++[zz2]) zj3=(⟨1,p,zcM⟩,⟨0,0⟩):=by
 have h1:(zfR 1 301 zfW 0).ok=true:=by rw[zq2];kernel_rfl
 have h2:(zfR 1 301 zfW 0).lim=false:=by rw[zq2];kernel_rfl
 have h3:zkG (zfx++[zz2]) zj3 1=zfR 1 301 zfW 0:=by unfold zkG;rw[zpM];rfl
 refine⟨(zfR 1 301 zfW 0).p,zt3 (e:=⟨0,0⟩) (zBG ?_)⟩
 have h4:∀f∈zfx++[zz2],(zaz false f).code=0:=zvs (p:=fun f=>(zaz false f).code=0) (a:=zxm exS) (b:=prF zlK zjS) (c:=zz2) (by kernel_rfl) (by kernel_rfl) (by kernel_rfl)
 rw[zeY (zep (by decide) h4 (by kernel_rfl)) (by decide),h3,if_neg (by simp[h2]),if_neg (by simp[h1])]
end Go.Proofs.YtkkffhphodngkabGreatDoor

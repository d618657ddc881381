/- several texts of this proof in one; no conditions -/
import Derived.Test.YtkkffhphodngkaaGreatDoorAT
import Derived.Test.YtkkffhphodngkaaGreatDoorY2
import Derived.Test.YtkkffhphodngkaaGreatDoorY17
import Derived.Test.YtkkffhphodngkaaGreatDoorY16
set_option maxRecDepth 100000
set_option maxHeartbeats 1000000
set_option linter.unusedSimpArgs false
namespace Go.Proofs.YtkkffhphodngkaaGreatDoor
open Go Go.Abs Go.Proofs
section
variable {P:Program} {G:Nat→List FD} {T:Tbl}
end
section
variable {P:Program} {G:Nat→List FD} {T:Tbl}
end
def N1:Tbl:=R4
attribute [go_sem] N1
theorem hN1:zan Tryz.prog GA N1:=hR4
def N2:Tbl:=N1
attribute [go_sem] N2
theorem hN2:zan Tryz.prog GA N2:=hN1
def zob (f:Abs.zab):Abs.zab:=zaD (zbD f) []
def N3:Tbl:=N2.add 22 (sp1 zob fun f=>f.fit=true∧f.size≤900)
attribute [go_sem] N3
theorem hN3:zan Tryz.prog GA N3:=by
 refine zbE zJJ hN2 fun f hp _=>?_
 have hp2:(zbD f).fit=true∧(zbD f).size≤1000:=⟨by simp[zbD,zab.fit,zab.fits,hp.1],by simp only[zbD,zab.size,zab.sizes];omega⟩
 have dN:Abs.zab.mk 4 ⟨[]⟩ [] [f]=zbD f:=rfl
 have nk:(zbD f).kind=4:=rfl
 have nn:(zbD f).name.l=[]:=rfl
 have nw:(zbD f).words=[]:=rfl
 have ns:(zbD f).subs=[f]:=rfl
 unfold zob
 obtain⟨R,hR⟩:∃R,zaD (zbD f) []=R:=⟨_,rfl⟩
 rw[hR]
 refine zag (N:=7) hm hN2 22000 (lst []) zJJ Tryz.func22 rfl rfl (by simp) (by kernel_rfl) ?_
 repeat'(first|refine zaJ.i ⟨rfl,hp2⟩ fun _=>?_|refine zaJ.i hp2 fun _=>?_|refine And.intro ?_ ?_|exact True.intro|refine rq fun _=>?_|simp only[go_sem,dN,hR,nk,nn,nw,ns,zac,Tryz.f22])
def N4:Tbl:=N3
attribute [go_sem] N4
theorem hN4:zan Tryz.prog GA N4:=hN3
end Go.Proofs.YtkkffhphodngkaaGreatDoor
namespace Go.Proofs.YtkkffhphodngkaaGreatDoor
open Go Go.Abs Go.Proofs
def zvU:List Abs.zab→Nat→zdo
 |[],_=>⟨0,0⟩
 |f::l,i=>if(zaw false f).code≠0 then⟨(zaw false f).code,i⟩else zvU l (i+1)
def zmb (l:List Abs.zab):List Abs.zab:=l.map fun f=>zaD f []
theorem zpE (l:List Abs.zab):(zmb l).length=l.length:=List.length_map _
def zbY (ax:List Abs.zab)(g:Abs.zab):List Abs.zab×zdo:=
 if 40<ax.length then([],⟨2, -1⟩)else if(zvU ax 0).code≠0 then([],zvU ax 0)
 else if(zaw false g).code≠0 then([],⟨(zaw false g).code, -2⟩)else(zmb ax++[zob g],⟨0,0⟩)
theorem zl7:∀(l:List Abs.zab) (k i:Nat) (h:i<l.length),(∀f∈l.take i,(zaw false f).code=0)→(zaw false l[i]).code≠0→zvU l k=⟨(zaw false l[i]).code,((k+i:Nat):Int)⟩
 |f::l,k,0,_,_,h2=>by
  have h3:(zaw false f).code≠0:=h2
  rw[zvU,if_pos h3];rfl
 |f::l,k,i+1,h,h1,h2=>by
  rw[zvU,if_neg (by simp[h1 f (by simp)]),zl7 l (k+1) i (by simpa using h) (fun g hg=>h1 g (by rw[List.take_succ_cons];exact List.mem_cons_of_mem _ hg)) h2]
  simp only[List.getElem_cons_succ,zdo.mk.injEq,true_and]
  omega
theorem zh7:∀(l:List Abs.zab) (k:Nat),(∀f∈l,(zaw false f).code=0)→zvU l k=⟨0,0⟩
 |[],_,_=>rfl
 |f::l,k,h=>by rw[zvU,if_neg (by simp[h f (by simp)]),zh7 l _ fun g hg=>h g (by simp[hg])]
def zvr:Tv:=(.q 0 (.q 1 (.q 2 (.q 3 (.q 4 (.br [(5,.leaf)]))))))
def zqP:Tv:=(.q 0 (.q 1 (.q 2 (.q 3 (.br [(4,.leaf)])))))
def N5:Tbl:=N4.add 12 (zBW zbY fun _ _=>True)
attribute [go_sem] N5
set_option maxHeartbeats 4000000 in
theorem hN5:zan Tryz.prog GA N5:=by
 refine zpf zHB hN4 fun ax g _ hwa _=>?_
 have hsl:ax.length≤zbh:=by
  have:=zdZ hwa
  simpa using this
 unfold zbh at hsl
 clear hwa
 by_cases h40:40<ax.length
 ·have e:zbY ax g=([],⟨2, -1⟩):=by unfold zbY;rw[if_pos h40]
  have h40':((40:Int)<ax.length)=True:=eq_true (by omega)
  rw[e]
  refine zag (N:=51) hm hN4 12000 (lsw [35,49] [1000009,1000014]) zHB Tryz.func12 rfl rfl (by simp) (by kernel_rfl) ?_
  repeat'(first|refine And.intro ?_ ?_|exact True.intro|refine rq fun _=>?_|simp only[go_sem,h40',zac,Tryz.f12])
 have h40':((40:Int)<ax.length)=False:=eq_false (by omega)
 refine zag (N:=51) hm hN4 12000 (lsw [35,49] [1000009,1000014]) zHB Tryz.func12 rfl rfl (by simp) (by kernel_rfl) ?_
 repeat'(first|refine And.intro ?_ ?_|exact True.intro|refine rq fun _=>?_|simp only[go_sem,h40',zac,Tryz.f12])
 refine zaq hm hN4 12000 (lsw [35,49] [1000009,1000014]) (ι:=zhC ax.length 3 fun i=>∀f∈ax.take i,(zaw false f).code=0)
  ⟨fun q=>⟨frL [(3,.ptr (12003,0) 0),(5,.ptr (12005,1) 0),(6,.ow (12035,q.g) 4 ((zmb (ax.take q.i)).map enc)),(15,.fz (.sl (ax.map enc))),(16,.fz (.i .i64 ax.length)),(17,.fz (.i .i64 q.i))],
   hpL [((12003,0),some ⟨[.fz (.i .i64 g.kind),.fz (.s g.name.l),.fz (.sl (g.words.map enc)),.fz (.sl (g.subs.map enc))],true,false⟩),((12005,1),some ⟨[.fz (.i .i64 0),.fz (.i .i64 0)],true,false⟩),((12035,q.g),some tok)],q.m⟩,fun q=>ax.length-q.i⟩
  ⟨0,2,3,by omega,by omega,by omega,by simp⟩ (by kernel_rfl) ?_ ?_
 ·refine zbg [] [(12035,2)] [] ?_ ?_ ?_ ?_ ?_<;>simp only[go_sem]
  all_goals first|done|rfl|omega
 rintro⟨i,gg,m,hi,hg,hm1,hp⟩
 try simp only at hi hg hm1 hp
 rcases Nat.lt_or_ge i ax.length with h1|h1
 ·obtain⟨x,hx⟩:∃x,ax[i]=x:=⟨_,rfl⟩
  by_cases hc:(zaw false x).code=0
  rotate_left
  ·have eb:=zl7 ax 0 i h1 hp (by rw[hx];exact hc)
   rw[hx,Nat.zero_add]at eb
   have e:zbY ax g=([],⟨(zaw false x).code,(i:Int)⟩):=by unfold zbY;rw[if_neg h40,eb,if_pos hc]
   rw[e]
   obtain⟨X,hX⟩:∃X,zaw false x=X:=⟨_,rfl⟩
   rw[hX]at hc
   rw[hX]
   repeat'(first|refine zaC (id:=9) hm hN4 12000 (lsw [35,49] [1000009,1000014]) zvr (by kernel_rfl) (by kernel_rfl) ?_|refine And.intro ?_ ?_|exact True.intro|refine rq fun _=>?_|simp only[go_sem,h1,hx,hX,hc,zaa,zac,zvr,Tryz.f12])
  ·have hcz:=zew hc
   have hcp:x.fit=true∧x.size≤1000:=⟨zb3 hc,by have:=za7 hc;omega⟩
   have et:zmb (ax.take (i+1))=zmb (ax.take i)++[zaD x []]:=by
    unfold zmb
    rw[List.take_succ_eq_append_getElem h1,List.map_append,hx];rfl
   have hlt:(zmb (ax.take i)).length=i:=by rw[zpE,List.length_take];omega
   repeat'(first|refine zaJ.i hcp fun _=>?_|refine rf fun _=>?_|refine And.intro ?_ ?_|exact True.intro|refine rq fun _=>?_|simp only[go_sem,h1,hx,hcz,zaa,zac,Tryz.f12])
   refine⟨⟨i+1,m+2,m+3,by omega,by omega,by omega,?_⟩,by simp only;omega,?_⟩
   ·rw[List.take_succ_eq_append_getElem h1,hx]
    intro f hf
    rcases List.mem_append.1 hf with hf|hf
    ·exact hp f hf
    ·rw[List.mem_singleton.1 hf];exact hc
   refine zaj ?_ ?_ ?_<;>simp only[go_sem,et,List.map_append]
   all_goals first|done|rfl|omega
 ·obtain rfl:i=ax.length:=by omega
  rw[List.take_length]at hp
  have eb:=zh7 ax 0 hp
  by_cases hc:(zaw false g).code=0
  rotate_left
  ·have e:zbY ax g=([],⟨(zaw false g).code, -2⟩):=by unfold zbY;rw[if_neg h40,eb,if_neg (by decide),if_pos hc]
   rw[e]
   obtain⟨X,hX⟩:∃X,zaw false g=X:=⟨_,rfl⟩
   rw[hX]at hc
   rw[hX]
   repeat'(first|refine zaC (id:=14) hm hN4 12000 (lsw [35,49] [1000009,1000014]) zqP (by kernel_rfl) (by kernel_rfl) ?_|refine And.intro ?_ ?_|exact True.intro|refine rq fun _=>?_|simp only[go_sem,Nat.lt_irrefl,hX,hc,zac,zqP,Tryz.f12])
  ·have hcz:=zew hc
   have hgp:g.fit=true∧g.size≤900:=⟨zb3 hc,by have:=za7 hc;omega⟩
   have e:zbY ax g=(zmb ax++[zob g],⟨0,0⟩):=by unfold zbY;rw[if_neg h40,eb,if_neg (by decide),if_neg (by simp[hc])]
   rw[e]
   obtain⟨R,hR⟩:∃R,zob g=R:=⟨_,rfl⟩
   rw[hR]
   have hlt:(zmb ax).length=ax.length:=zpE ax
   repeat'(first|refine zaJ.i hgp fun _=>?_|refine rf fun _=>?_|refine And.intro ?_ ?_|exact True.intro|refine rq fun _=>?_|simp only[go_sem,Nat.lt_irrefl,List.take_length,hcz,hR,zac,List.map_append,Tryz.f12])
end Go.Proofs.YtkkffhphodngkaaGreatDoor
namespace Go.Proofs.YtkkffhphodngkaaGreatDoor
open Go Go.Abs Go.Proofs
section
variable {P:Program} {G:Nat→List FD} {T:Tbl}
def zD6 {α ρ σ τ υ:Type}[Enc α][Enc ρ][Enc σ][Enc τ][Enc υ](f:α→ρ×σ×τ×υ)(pre:α→Prop):List FD→Option (D×Prop)
 |[x]=>some (.tup [.fz (enc (f (dec x)).1),.fz (enc (f (dec x)).2.1),.fz (enc (f (dec x)).2.2.1),.fz (enc (f (dec x)).2.2.2)],x=enc (dec (α:=α) x)∧pre (dec x))
 |_=>none
@[go_sem] theorem zJm {α ρ σ τ υ:Type}[Enc α][Enc ρ][Enc σ][Enc τ][Enc υ]{f:α→ρ×σ×τ×υ}{pre:α→Prop}{x:FD}:zD6 f pre [x]=some (.tup [.fz (enc (f (dec x)).1),.fz (enc (f (dec x)).2.1),.fz (enc (f (dec x)).2.2.1),.fz (enc (f (dec x)).2.2.2)],x=enc (dec (α:=α) x)∧pre (dec x)):=rfl
theorem zAN {α ρ σ τ υ:Type}[Enc α][Enc ρ][Enc σ][Enc τ][Enc υ]{f:FuncId}{g:α→ρ×σ×τ×υ}{pre:α→Prop}(hc:zam P f)(hT:zan P G T)
  (h:∀a,pre a→(enc a).Wf→zau P G f [.fz (enc a)] (hpL []) 0 (fun d _ _=>D.val d=some (.tup [.fz (enc (g a).1),.fz (enc (g a).2.1),.fz (enc (g a).2.2.1),.fz (enc (g a).2.2.2)]))):zan P G (T.add f (zD6 g pre)):=by
 refine zcD hT fun xs r c hx hcc=>?_
 unfold zD6 at hx
 split at hx
 ·rename_i x
  simp only[Option.some.injEq,Prod.mk.injEq]at hx
  obtain⟨rfl,rfl⟩:=hx
  obtain⟨e,hp⟩:=hcc
  refine zdq hc fun hw=>?_
  rw[zes]
  have:=h (dec x) hp (by rw[←e];exact hw x (by simp))
  rw[←e]at this
  exact this
 ·cases hx
end
def zHL (_:Abs.zab):Int×List Abs.zab×Abs.zab×Bool:=(0,[],za2,false)
def N6:Tbl:=N5.add 25 (zD6 zHL fun f=>f.kind=2)
attribute [go_sem] N6
def N7:Tbl:=N6
attribute [go_sem] N7
end Go.Proofs.YtkkffhphodngkaaGreatDoor

/- several texts of this proof in one; no conditions -/
import Derived.Test.YtdlioodgfopmfaaGreatDoorAT
import Derived.Test.YtdlioodgfopmfaaGreatDoorY2
import Derived.Test.YtdlioodgfopmfaaGreatDoorPF
import Derived.Test.YtdlioodgfopmfaaGreatDoorAL
set_option maxRecDepth 100000
set_option maxHeartbeats 1000000
set_option linter.unusedSimpArgs false
namespace Go.Proofs.YtdlioodgfopmfaaGreatDoor
open Go Go.Abs Go.Proofs
section
variable {P:Program} {G:Nat→List FD} {T:Tbl}
end
section
variable {P:Program} {G:Nat→List FD} {T:Tbl}
end
def N1:Tbl:=R4
attribute [go_sem] N1
theorem hN1:zap Tryz.prog GA N1:=hR4
def N2:Tbl:=N1
attribute [go_sem] N2
theorem hN2:zap Tryz.prog GA N2:=hN1
def zmU (f:Abs.zac):Abs.zac:=zau (zdP f) []
def N3:Tbl:=N2.add 32 (sp1 zmU fun f=>f.fit=true∧f.size≤900)
attribute [go_sem] N3
theorem hN3:zap Tryz.prog GA N3:=by
 refine zbM zHn hN2 fun f hp _=>?_
 have hp2:(zdP f).fit=true∧(zdP f).size≤1000:=⟨by simp[zdP,zac.fit,zac.fits,hp.1],by simp only[zdP,zac.size,zac.sizes];omega⟩
 have dN:Abs.zac.mk 4 ⟨[]⟩ [] [f]=zdP f:=rfl
 have nk:(zdP f).kind=4:=rfl
 have nn:(zdP f).name.l=[]:=rfl
 have nw:(zdP f).words=[]:=rfl
 have ns:(zdP f).subs=[f]:=rfl
 unfold zmU
 obtain⟨R,hR⟩:∃R,zau (zdP f) []=R:=⟨_,rfl⟩
 rw[hR]
 refine zah (N:=7) hm hN2 32000 (lst []) zHn Tryz.func32 rfl rfl (by simp) (by kernel_rfl) ?_
 repeat'(first|refine zaj.i ⟨rfl,hp2⟩ fun _=>?_|refine zaj.i hp2 fun _=>?_|refine And.intro ?_ ?_|exact True.intro|refine rq fun _=>?_|simp only[go_sem,dN,hR,nk,nn,nw,ns,zab,Tryz.f32])
def N4:Tbl:=N3
attribute [go_sem] N4
theorem hN4:zap Tryz.prog GA N4:=hN3
end Go.Proofs.YtdlioodgfopmfaaGreatDoor
namespace Go.Proofs.YtdlioodgfopmfaaGreatDoor
open Go Go.Abs Go.Proofs
def zrE:List Abs.zac→Nat→zeR
 |[],_=>⟨0,0⟩
 |f::l,i=>if(zaE false f).code≠0 then⟨(zaE false f).code,i⟩else zrE l (i+1)
def zhF (l:List Abs.zac):List Abs.zac:=l.map fun f=>zau f []
theorem zhP (l:List Abs.zac):(zhF l).length=l.length:=List.length_map _
def zbL (ax:List Abs.zac)(g:Abs.zac):List Abs.zac×zeR:=
 if 40<ax.length then([],⟨2, -1⟩)else if(zrE ax 0).code≠0 then([],zrE ax 0)
 else if(zaE false g).code≠0 then([],⟨(zaE false g).code, -2⟩)else(zhF ax++[zmU g],⟨0,0⟩)
theorem zig:∀(l:List Abs.zac) (k i:Nat) (h:i<l.length),(∀f∈l.take i,(zaE false f).code=0)→(zaE false l[i]).code≠0→zrE l k=⟨(zaE false l[i]).code,((k+i:Nat):Int)⟩
 |f::l,k,0,_,_,h2=>by
  have h3:(zaE false f).code≠0:=h2
  rw[zrE,if_pos h3];rfl
 |f::l,k,i+1,h,h1,h2=>by
  rw[zrE,if_neg (by simp[h1 f (by simp)]),zig l (k+1) i (by simpa using h) (fun g hg=>h1 g (by rw[List.take_succ_cons];exact List.mem_cons_of_mem _ hg)) h2]
  simp only[List.getElem_cons_succ,zeR.mk.injEq,true_and]
  omega
theorem zfY:∀(l:List Abs.zac) (k:Nat),(∀f∈l,(zaE false f).code=0)→zrE l k=⟨0,0⟩
 |[],_,_=>rfl
 |f::l,k,h=>by rw[zrE,if_neg (by simp[h f (by simp)]),zfY l _ fun g hg=>h g (by simp[hg])]
def zui:Tv:=(.q 0 (.q 1 (.q 2 (.q 3 (.q 4 (.br [(5,.leaf)]))))))
def zpJ:Tv:=(.q 0 (.q 1 (.q 2 (.q 3 (.br [(4,.leaf)])))))
def N5:Tbl:=N4.add 11 (zDJ zbL fun _ _=>True)
attribute [go_sem] N5
set_option maxHeartbeats 4000000 in
theorem hN5:zap Tryz.prog GA N5:=by
 refine zzc zFD hN4 fun ax g _ hwa _=>?_
 have hsl:ax.length≤zbp:=by
  have:=zh6 hwa
  simpa using this
 unfold zbp at hsl
 clear hwa
 by_cases h40:40<ax.length
 ·have e:zbL ax g=([],⟨2, -1⟩):=by unfold zbL;rw[if_pos h40]
  have h40':((40:Int)<ax.length)=True:=eq_true (by omega)
  rw[e]
  refine zah (N:=51) hm hN4 11000 (lsw [35,49] [1000009,1000014]) zFD Tryz.func11 rfl rfl (by simp) (by kernel_rfl) ?_
  repeat'(first|refine And.intro ?_ ?_|exact True.intro|refine rq fun _=>?_|simp only[go_sem,h40',zab,Tryz.f11])
 have h40':((40:Int)<ax.length)=False:=eq_false (by omega)
 refine zah (N:=51) hm hN4 11000 (lsw [35,49] [1000009,1000014]) zFD Tryz.func11 rfl rfl (by simp) (by kernel_rfl) ?_
 repeat'(first|refine And.intro ?_ ?_|exact True.intro|refine rq fun _=>?_|simp only[go_sem,h40',zab,Tryz.f11])
 refine zao hm hN4 11000 (lsw [35,49] [1000009,1000014]) (ι:=zkj ax.length 3 fun i=>∀f∈ax.take i,(zaE false f).code=0)
  ⟨fun q=>⟨frL [(3,.ptr (11003,0) 0),(5,.ptr (11005,1) 0),(6,.ow (11035,q.g) 4 ((zhF (ax.take q.i)).map enc)),(15,.fz (.sl (ax.map enc))),(16,.fz (.i .i64 ax.length)),(17,.fz (.i .i64 q.i))],
   hpL [((11003,0),some ⟨[.fz (.i .i64 g.kind),.fz (.s g.name.l),.fz (.sl (g.words.map enc)),.fz (.sl (g.subs.map enc))],true,false⟩),((11005,1),some ⟨[.fz (.i .i64 0),.fz (.i .i64 0)],true,false⟩),((11035,q.g),some tok)],q.m⟩,fun q=>ax.length-q.i⟩
  ⟨0,2,3,by omega,by omega,by omega,by simp⟩ (by kernel_rfl) ?_ ?_
 ·refine zbl [] [(11035,2)] [] ?_ ?_ ?_ ?_ ?_<;>simp only[go_sem]
  all_goals first|done|rfl|omega
 rintro⟨i,gg,m,hi,hg,hm1,hp⟩
 try simp only at hi hg hm1 hp
 rcases Nat.lt_or_ge i ax.length with h1|h1
 ·obtain⟨x,hx⟩:∃x,ax[i]=x:=⟨_,rfl⟩
  by_cases hc:(zaE false x).code=0
  rotate_left
  ·have eb:=zig ax 0 i h1 hp (by rw[hx];exact hc)
   rw[hx,Nat.zero_add]at eb
   have e:zbL ax g=([],⟨(zaE false x).code,(i:Int)⟩):=by unfold zbL;rw[if_neg h40,eb,if_pos hc]
   rw[e]
   obtain⟨X,hX⟩:∃X,zaE false x=X:=⟨_,rfl⟩
   rw[hX]at hc
   rw[hX]
   repeat'(first|refine zae (id:=9) hm hN4 11000 (lsw [35,49] [1000009,1000014]) zui (by kernel_rfl) (by kernel_rfl) ?_|refine And.intro ?_ ?_|exact True.intro|refine rq fun _=>?_|simp only[go_sem,h1,hx,hX,hc,zaa,zab,zui,Tryz.f11])
  ·have hcz:=zet hc
   have hcp:x.fit=true∧x.size≤1000:=⟨zfl hc,by have:=zdr hc;omega⟩
   have et:zhF (ax.take (i+1))=zhF (ax.take i)++[zau x []]:=by
    unfold zhF
    rw[List.take_succ_eq_append_getElem h1,List.map_append,hx];rfl
   have hlt:(zhF (ax.take i)).length=i:=by rw[zhP,List.length_take];omega
   repeat'(first|refine zaj.i hcp fun _=>?_|refine rf fun _=>?_|refine And.intro ?_ ?_|exact True.intro|refine rq fun _=>?_|simp only[go_sem,h1,hx,hcz,zaa,zab,Tryz.f11])
   refine⟨⟨i+1,m+2,m+3,by omega,by omega,by omega,?_⟩,by simp only;omega,?_⟩
   ·rw[List.take_succ_eq_append_getElem h1,hx]
    intro f hf
    rcases List.mem_append.1 hf with hf|hf
    ·exact hp f hf
    ·rw[List.mem_singleton.1 hf];exact hc
   refine zai ?_ ?_ ?_<;>simp only[go_sem,et,List.map_append]
   all_goals first|done|rfl|omega
 ·obtain rfl:i=ax.length:=by omega
  rw[List.take_length]at hp
  have eb:=zfY ax 0 hp
  by_cases hc:(zaE false g).code=0
  rotate_left
  ·have e:zbL ax g=([],⟨(zaE false g).code, -2⟩):=by unfold zbL;rw[if_neg h40,eb,if_neg (by decide),if_pos hc]
   rw[e]
   obtain⟨X,hX⟩:∃X,zaE false g=X:=⟨_,rfl⟩
   rw[hX]at hc
   rw[hX]
   repeat'(first|refine zae (id:=14) hm hN4 11000 (lsw [35,49] [1000009,1000014]) zpJ (by kernel_rfl) (by kernel_rfl) ?_|refine And.intro ?_ ?_|exact True.intro|refine rq fun _=>?_|simp only[go_sem,Nat.lt_irrefl,hX,hc,zab,zpJ,Tryz.f11])
  ·have hcz:=zet hc
   have hgp:g.fit=true∧g.size≤900:=⟨zfl hc,by have:=zdr hc;omega⟩
   have e:zbL ax g=(zhF ax++[zmU g],⟨0,0⟩):=by unfold zbL;rw[if_neg h40,eb,if_neg (by decide),if_neg (by simp[hc])]
   rw[e]
   obtain⟨R,hR⟩:∃R,zmU g=R:=⟨_,rfl⟩
   rw[hR]
   have hlt:(zhF ax).length=ax.length:=zhP ax
   repeat'(first|refine zaj.i hgp fun _=>?_|refine rf fun _=>?_|refine And.intro ?_ ?_|exact True.intro|refine rq fun _=>?_|simp only[go_sem,Nat.lt_irrefl,List.take_length,hcz,hR,zab,List.map_append,Tryz.f11])
end Go.Proofs.YtdlioodgfopmfaaGreatDoor
namespace Go.Proofs.YtdlioodgfopmfaaGreatDoor
open Go Go.Abs Go.Proofs
section
variable {P:Program} {G:Nat→List FD} {T:Tbl}
def zCe {α ρ σ τ υ:Type}[Enc α][Enc ρ][Enc σ][Enc τ][Enc υ](f:α→ρ×σ×τ×υ)(pre:α→Prop):List FD→Option (D×Prop)
 |[x]=>some (.tup [.fz (enc (f (dec x)).1),.fz (enc (f (dec x)).2.1),.fz (enc (f (dec x)).2.2.1),.fz (enc (f (dec x)).2.2.2)],x=enc (dec (α:=α) x)∧pre (dec x))
 |_=>none
@[go_sem] theorem zGU {α ρ σ τ υ:Type}[Enc α][Enc ρ][Enc σ][Enc τ][Enc υ]{f:α→ρ×σ×τ×υ}{pre:α→Prop}{x:FD}:zCe f pre [x]=some (.tup [.fz (enc (f (dec x)).1),.fz (enc (f (dec x)).2.1),.fz (enc (f (dec x)).2.2.1),.fz (enc (f (dec x)).2.2.2)],x=enc (dec (α:=α) x)∧pre (dec x)):=rfl
theorem zzb {α ρ σ τ υ:Type}[Enc α][Enc ρ][Enc σ][Enc τ][Enc υ]{f:FuncId}{g:α→ρ×σ×τ×υ}{pre:α→Prop}(hc:zaq P f)(hT:zap P G T)
  (h:∀a,pre a→(enc a).Wf→zaA P G f [.fz (enc a)] (hpL []) 0 (fun d _ _=>D.val d=some (.tup [.fz (enc (g a).1),.fz (enc (g a).2.1),.fz (enc (g a).2.2.1),.fz (enc (g a).2.2.2)]))):zap P G (T.add f (zCe g pre)):=by
 refine zcl hT fun xs r c hx hcc=>?_
 unfold zCe at hx
 split at hx
 ·rename_i x
  simp only[Option.some.injEq,Prod.mk.injEq]at hx
  obtain⟨rfl,rfl⟩:=hx
  obtain⟨e,hp⟩:=hcc
  refine zdh hc fun hw=>?_
  rw[zeK]
  have:=h (dec x) hp (by rw[←e];exact hw x (by simp))
  rw[←e]at this
  exact this
 ·cases hx
end
def zFJ (_:Abs.zac):Int×List Abs.zac×Abs.zac×Bool:=(0,[],zbk,false)
def N6:Tbl:=N5.add 35 (zCe zFJ fun f=>f.kind=2)
attribute [go_sem] N6
def N7:Tbl:=N6
attribute [go_sem] N7
end Go.Proofs.YtdlioodgfopmfaaGreatDoor

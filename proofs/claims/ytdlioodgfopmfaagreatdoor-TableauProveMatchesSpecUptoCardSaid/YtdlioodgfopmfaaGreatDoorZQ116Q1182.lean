/- several texts of this proof in one; no conditions -/
import Derived.Test.YtdlioodgfopmfaaGreatDoorAT
import Derived.Test.YtdlioodgfopmfaaGreatDoorY3
import Derived.Test.YtdlioodgfopmfaaGreatDoorZQ33Q341
import Derived.Test.YtdlioodgfopmfaaGreatDoorTK
set_option maxRecDepth 100000
set_option maxHeartbeats 1000000
set_option linter.unusedSimpArgs false
namespace Go.Proofs.YtdlioodgfopmfaaGreatDoor
open Go Go.Abs Go.Proofs
structure clB (f:Abs.zac):Prop where
 b:brF f
 c:clean f
theorem clB.sub {f g:Abs.zac}(h:clB f)(hg:g∈f.subs):clB g:=⟨h.b.sub hg,by
 have hc:=h.c
 obtain⟨k,nm,ws,s⟩:=f
 rw[clean]at hc
 exact(zjE s).1 hc.2 g hg⟩
theorem zlU {f:Abs.zac}(h:clB f)(hk:f.kind=4∨f.kind=8∨f.kind=9):∃a,f.subs=[a]∧zbo f=a∧clB a:=by
 obtain⟨a,ha,s0,_⟩:=zdd h.b hk
 exact⟨a,ha,s0,h.sub (by rw[ha];simp)⟩
theorem zjD {f:Abs.zac}(h:clB f)(hk:f.kind=5∨f.kind=6∨f.kind=7):∃a b,f.subs=[a,b]∧zbo f=a∧zua f=b∧clB a∧clB b:=by
 obtain⟨a,b,ha,s0,s1,_⟩:=zd8 h.b hk
 exact⟨a,b,ha,s0,s1,h.sub (by rw[ha];simp),h.sub (by rw[ha];simp)⟩
theorem zsm {f:Abs.zac}(h:clean f):clean (zdP f):=by
 unfold zdP
 rw[clean,zb0,zb0]
 exact⟨by simp,h,trivial⟩
theorem zcX {f:Abs.zac}(h:clean f):zje f []=cnn f:=(zgO h (by simp) (by simp)).symm
def O1:Tbl:=R11.add 29 (sp1 ngg fun f=>clB f)
attribute [go_sem] O1
theorem hO1:zap Tryz.prog GA O1:=by
 refine zbM zHk zGh fun f hp _=>?_
 have hs:=hp.b.s
 have hp2:(zdP f).fit=true∧(zdP f).size≤1000:=⟨by simp[zdP,zac.fit,zac.fits,hp.b.ft],by simp only[zdP,zac.size,zac.sizes];omega⟩
 have dN:Abs.zac.mk 4 ⟨[]⟩ [] [f]=zdP f:=rfl
 have nk:(zdP f).kind=4:=rfl
 have nn:(zdP f).name.l=[]:=rfl
 have nw:(zdP f).words=[]:=rfl
 have ns:(zdP f).subs=[f]:=rfl
 have e:zje (zdP f) []=ngg f:=zcX (zsm hp.c)
 obtain⟨R,hR⟩:∃R,ngg f=R:=⟨_,rfl⟩
 rw[hR]at e
 rw[hR]
 refine zah (N:=7) hm zGh 29000 (lst []) zHk Tryz.func29 rfl rfl (by simp) (by kernel_rfl) ?_
 repeat'(first|refine zaj.i ⟨rfl,hp2⟩ fun _=>?_|refine zaj.i hp2 fun _=>?_|refine And.intro ?_ ?_|exact True.intro|refine rq fun _=>?_|simp only[go_sem,dN,e,nk,nn,nw,ns,zab,Tryz.f29])
def qfS (ax:List Abs.zac)(g:Abs.zac):zeR:=if 40<ax.length then⟨2, -1⟩else if(zrE ax 0).code≠0 then zrE ax 0 else if(zaE false g).code≠0 then⟨(zaE false g).code, -2⟩else⟨0,0⟩
theorem ztG (ax:List Abs.zac)(g:Abs.zac):(zbL ax g).2=qfS ax g:=by
 unfold zbL qfS
 split
 ·rfl
 split
 ·rfl
 split
 ·rfl
 ·rfl
def O2:Tbl:=O1.add 7 (sp2 qfS fun _ _=>True)
attribute [go_sem] O2
set_option maxHeartbeats 4000000 in
theorem hO2:zap Tryz.prog GA O2:=by
 refine zcy ok7 hO1 fun ax g _ hwa _=>?_
 have hsl:ax.length≤zbp:=by
  have:=zh6 hwa
  simpa using this
 unfold zbp at hsl
 clear hwa
 by_cases h40:40<ax.length
 ·have e:qfS ax g=⟨2, -1⟩:=by unfold qfS;rw[if_pos h40]
  have h40':((40:Int)<ax.length)=True:=eq_true (by omega)
  rw[e]
  refine zah (N:=39) hm hO1 7000 (lst []) ok7 Tryz.func7 rfl rfl (by simp) (by kernel_rfl) ?_
  repeat'(first|refine And.intro ?_ ?_|exact True.intro|refine rq fun _=>?_|simp only[go_sem,h40',zab,Tryz.f7])
 have h40':((40:Int)<ax.length)=False:=eq_false (by omega)
 refine zah (N:=39) hm hO1 7000 (lst []) ok7 Tryz.func7 rfl rfl (by simp) (by kernel_rfl) ?_
 repeat'(first|refine And.intro ?_ ?_|exact True.intro|refine rq fun _=>?_|simp only[go_sem,h40',zab,Tryz.f7])
 refine zao hm hO1 7000 (lst []) (ι:=zep ax.length 2 fun i=>∀f∈ax.take i,(zaE false f).code=0)
  ⟨fun q=>⟨frL [(0,.fz (.sl (ax.map enc))),(3,.ptr (7003,0) 0),(4,.ptr (7004,1) 0),(13,.fz (.i .i64 ax.length)),(14,.fz (.i .i64 q.i))],
   hpL [((7003,0),some ⟨[.fz (.i .i64 g.kind),.fz (.s g.name.l),.fz (.sl (g.words.map enc)),.fz (.sl (g.subs.map enc))],true,false⟩),((7004,1),some ⟨[.fz (.i .i64 0),.fz (.i .i64 0)],true,false⟩)],q.m⟩,fun q=>ax.length-q.i⟩
  ⟨0,2,by omega,by omega,by simp⟩ (by kernel_rfl) ?_ ?_
 ·refine zai ?_ ?_ ?_<;>simp only[go_sem]
  all_goals first|done|rfl|omega
 rintro⟨i,m,hi,hm1,hp⟩
 try simp only at hi hm1 hp
 rcases Nat.lt_or_ge i ax.length with h1|h1
 ·obtain⟨x,hx⟩:∃x,ax[i]=x:=⟨_,rfl⟩
  by_cases hc:(zaE false x).code=0
  rotate_left
  ·have eb:=zig ax 0 i h1 hp (by rw[hx];exact hc)
   rw[hx,Nat.zero_add]at eb
   have e:qfS ax g=⟨(zaE false x).code,(i:Int)⟩:=by unfold qfS;rw[if_neg h40,eb,if_pos hc]
   rw[e]
   obtain⟨X,hX⟩:∃X,zaE false x=X:=⟨_,rfl⟩
   rw[hX]at hc
   rw[hX]
   repeat'(first|refine And.intro ?_ ?_|exact True.intro|refine rq fun _=>?_|simp only[go_sem,h1,hx,hX,hc,zaa,zab,Tryz.f7])
  ·have hcz:=zet hc
   repeat'(first|refine And.intro ?_ ?_|exact True.intro|refine rq fun _=>?_|simp only[go_sem,h1,hx,hcz,zaa,zab,Tryz.f7])
   refine⟨⟨i+1,m+1,by omega,by omega,?_⟩,by simp only;omega,?_⟩
   ·rw[List.take_succ_eq_append_getElem h1,hx]
    intro f hf
    rcases List.mem_append.1 hf with hf|hf
    ·exact hp f hf
    ·rw[List.mem_singleton.1 hf];exact hc
   refine zai ?_ ?_ ?_<;>simp only[go_sem]
   all_goals first|done|rfl|omega
 ·obtain rfl:i=ax.length:=by omega
  rw[List.take_length]at hp
  have eb:=zfY ax 0 hp
  by_cases hc:(zaE false g).code=0
  rotate_left
  ·have e:qfS ax g=⟨(zaE false g).code, -2⟩:=by unfold qfS;rw[if_neg h40,eb,if_neg (by decide),if_pos hc]
   rw[e]
   obtain⟨X,hX⟩:∃X,zaE false g=X:=⟨_,rfl⟩
   rw[hX]at hc
   rw[hX]
   repeat'(first|refine And.intro ?_ ?_|exact True.intro|refine rq fun _=>?_|simp only[go_sem,Nat.lt_irrefl,hX,hc,zab,Tryz.f7])
  ·have hcz:=zet hc
   have e:qfS ax g=⟨0,0⟩:=by unfold qfS;rw[if_neg h40,eb,if_neg (by decide),if_neg (by simp[hc])]
   rw[e]
   repeat'(first|refine And.intro ?_ ?_|exact True.intro|refine rq fun _=>?_|simp only[go_sem,Nat.lt_irrefl,hcz,zab,Tryz.f7])
def zmn (ax:List Abs.zac)(g:Abs.zac):List Abs.zac:=zhF ax++[ngg g]
def O3:Tbl:=O2.add 10 (sp2 zmn fun ax g=>(∀f∈ax,clB f)∧clB g∧ax.length≤1000)
attribute [go_sem] O3
theorem hO3:zap Tryz.prog GA O3:=by
 refine zcy zG9 hO2 fun ax g hp _ _=>?_
 obtain⟨hax,hg,hsl⟩:=hp
 have kb:=Kp.mk hax
 clear hax
 refine zah (N:=26) hm hO2 10000 (lsw [19,25] []) zG9 Tryz.func10 rfl rfl (by simp) (by kernel_rfl) ?_
 repeat'(first|refine And.intro ?_ ?_|exact True.intro|refine rq fun _=>?_|simp only[go_sem,zab,Tryz.f10])
 refine zao hm hO2 10000 (lsw [19,25] []) (ι:=zkj ax.length 2 fun _=>True)
  ⟨fun q=>⟨frL [(0,.fz (.sl (ax.map enc))),(3,.ptr (10003,0) 0),(5,.ow (10019,q.g) 4 ((zhF (ax.take q.i)).map enc)),(8,.fz (.i .i64 ax.length)),(9,.fz (.i .i64 q.i))],
   hpL [((10003,0),some ⟨[.fz (.i .i64 g.kind),.fz (.s g.name.l),.fz (.sl (g.words.map enc)),.fz (.sl (g.subs.map enc))],true,false⟩),((10019,q.g),some tok)],q.m⟩,fun q=>ax.length-q.i⟩
  ⟨0,1,2,by omega,by omega,by omega,trivial⟩ (by kernel_rfl) ?_ ?_
 ·refine zbl [] [(10019,1)] [] ?_ ?_ ?_ ?_ ?_<;>simp only[go_sem]
  all_goals first|done|rfl|omega
 rintro⟨i,gg,m,hi,hgm,hm1,_⟩
 try simp only at hi hgm hm1
 rcases Nat.lt_or_ge i ax.length with h1|h1
 ·obtain⟨x,hx⟩:∃x,ax[i]=x:=⟨_,rfl⟩
  have hxb:clB x:=kb.out x (by rw[←hx];exact List.getElem_mem h1)
  have hcp:x.fit=true∧x.size≤1000:=⟨hxb.b.ft,by have:=hxb.b.s;omega⟩
  have ex:zje x []=zau x []:=zcX hxb.c
  have et:zhF (ax.take (i+1))=zhF (ax.take i)++[zau x []]:=by
   unfold zhF
   rw[List.take_succ_eq_append_getElem h1,List.map_append,hx];rfl
  have hlt:(zhF (ax.take i)).length=i:=by rw[zhP,List.length_take];omega
  repeat'(first|refine zaj.i hcp fun _=>?_|refine rf fun _=>?_|refine And.intro ?_ ?_|exact True.intro|refine rq fun _=>?_|simp only[go_sem,h1,hx,ex,zaa,zab,Tryz.f10])
  refine⟨⟨i+1,m,m+1,by omega,by omega,by omega,trivial⟩,by simp only;omega,?_⟩
  refine zai ?_ ?_ ?_<;>simp only[go_sem,et,List.map_append]
  all_goals first|done|rfl|omega
 ·obtain rfl:i=ax.length:=by omega
  obtain⟨R,hR⟩:∃R,ngg g=R:=⟨_,rfl⟩
  have hlt:(zhF ax).length=ax.length:=zhP ax
  unfold zmn
  rw[hR]
  repeat'(first|refine zaj.i hg fun _=>?_|refine rf fun _=>?_|refine And.intro ?_ ?_|exact True.intro|refine rq fun _=>?_|simp only[go_sem,Nat.lt_irrefl,List.take_length,hR,zab,List.map_append,Tryz.f10])
end Go.Proofs.YtdlioodgfopmfaaGreatDoor
namespace Go.Proofs.YtdlioodgfopmfaaGreatDoor
open Go Go.Abs Go.Proofs
def zaY (f:Abs.zac):Int:=(zag f).1
def O4:Tbl:=O3.add 22 (sp1 zaY brF)
attribute [go_sem] O4
set_option maxHeartbeats 4000000 in
theorem hO4:zap Tryz.prog GA O4:=by
 refine zbM zlC hO3 fun f hbr _=>?_
 have hkb:=zbf.1 hbr.v
 have hk1:=hkb.1
 have hk2:=hkb.2.1
 clear hkb
 by_cases k4:f.kind=4
 ·obtain⟨g,hg,s0,hbg⟩:=zdd hbr (.inl k4)
  have hgk:=zbf.1 hbg.v
  have hg1:=hgk.1
  have hg2:=hgk.2.1
  clear hgk
  have hcase:g.kind=1∨g.kind=2∨g.kind=3∨g.kind=4∨g.kind=5∨g.kind=6∨g.kind=7∨g.kind=8∨g.kind=9:=by omega
  rcases hcase with j|j|j|j|j|j|j|j|j
  ·have e:zaY f=0:=by unfold zaY zag;rw[s0,k4,j];rfl
   rw[e]
   refine zah (N:=19) hm hO3 22000 (lst []) zlC Tryz.func22 rfl rfl (by simp) (by kernel_rfl) ?_
   repeat'(first|refine And.intro ?_ ?_|exact True.intro|refine rq fun _=>?_|simp only[go_sem,k4,hg,j,zaa,zab,Tryz.f22])
  ·have e:zaY f=0:=by unfold zaY zag;rw[s0,k4,j];rfl
   rw[e]
   refine zah (N:=19) hm hO3 22000 (lst []) zlC Tryz.func22 rfl rfl (by simp) (by kernel_rfl) ?_
   repeat'(first|refine And.intro ?_ ?_|exact True.intro|refine rq fun _=>?_|simp only[go_sem,k4,hg,j,zaa,zab,Tryz.f22])
  ·have e:zaY f=0:=by unfold zaY zag;rw[s0,k4,j];rfl
   rw[e]
   refine zah (N:=19) hm hO3 22000 (lst []) zlC Tryz.func22 rfl rfl (by simp) (by kernel_rfl) ?_
   repeat'(first|refine And.intro ?_ ?_|exact True.intro|refine rq fun _=>?_|simp only[go_sem,k4,hg,j,zaa,zab,Tryz.f22])
  ·have e:zaY f=1:=by unfold zaY zag;rw[s0,k4,j];rfl
   rw[e]
   refine zah (N:=19) hm hO3 22000 (lst []) zlC Tryz.func22 rfl rfl (by simp) (by kernel_rfl) ?_
   repeat'(first|refine And.intro ?_ ?_|exact True.intro|refine rq fun _=>?_|simp only[go_sem,k4,hg,j,zaa,zab,Tryz.f22])
  ·have e:zaY f=2:=by unfold zaY zag;rw[s0,k4,j];rfl
   rw[e]
   refine zah (N:=19) hm hO3 22000 (lst []) zlC Tryz.func22 rfl rfl (by simp) (by kernel_rfl) ?_
   repeat'(first|refine And.intro ?_ ?_|exact True.intro|refine rq fun _=>?_|simp only[go_sem,k4,hg,j,zaa,zab,Tryz.f22])
  ·have e:zaY f=1:=by unfold zaY zag;rw[s0,k4,j];rfl
   rw[e]
   refine zah (N:=19) hm hO3 22000 (lst []) zlC Tryz.func22 rfl rfl (by simp) (by kernel_rfl) ?_
   repeat'(first|refine And.intro ?_ ?_|exact True.intro|refine rq fun _=>?_|simp only[go_sem,k4,hg,j,zaa,zab,Tryz.f22])
  ·have e:zaY f=1:=by unfold zaY zag;rw[s0,k4,j];rfl
   rw[e]
   refine zah (N:=19) hm hO3 22000 (lst []) zlC Tryz.func22 rfl rfl (by simp) (by kernel_rfl) ?_
   repeat'(first|refine And.intro ?_ ?_|exact True.intro|refine rq fun _=>?_|simp only[go_sem,k4,hg,j,zaa,zab,Tryz.f22])
  ·have e:zaY f=4:=by unfold zaY zag;rw[s0,k4,j];rfl
   rw[e]
   refine zah (N:=19) hm hO3 22000 (lst []) zlC Tryz.func22 rfl rfl (by simp) (by kernel_rfl) ?_
   repeat'(first|refine And.intro ?_ ?_|exact True.intro|refine rq fun _=>?_|simp only[go_sem,k4,hg,j,zaa,zab,Tryz.f22])
  ·have e:zaY f=3:=by unfold zaY zag;rw[s0,k4,j];rfl
   rw[e]
   refine zah (N:=19) hm hO3 22000 (lst []) zlC Tryz.func22 rfl rfl (by simp) (by kernel_rfl) ?_
   repeat'(first|refine And.intro ?_ ?_|exact True.intro|refine rq fun _=>?_|simp only[go_sem,k4,hg,j,zaa,zab,Tryz.f22])
 have hcase:f.kind=1∨f.kind=2∨f.kind=3∨f.kind=5∨f.kind=6∨f.kind=7∨f.kind=8∨f.kind=9:=by omega
 rcases hcase with j|j|j|j|j|j|j|j
 ·have e:zaY f=0:=by unfold zaY zag;rw[j];rfl
  rw[e]
  refine zah (N:=19) hm hO3 22000 (lst []) zlC Tryz.func22 rfl rfl (by simp) (by kernel_rfl) ?_
  repeat'(first|refine And.intro ?_ ?_|exact True.intro|refine rq fun _=>?_|simp only[go_sem,j,zaa,zab,Tryz.f22])
 ·have e:zaY f=0:=by unfold zaY zag;rw[j];rfl
  rw[e]
  refine zah (N:=19) hm hO3 22000 (lst []) zlC Tryz.func22 rfl rfl (by simp) (by kernel_rfl) ?_
  repeat'(first|refine And.intro ?_ ?_|exact True.intro|refine rq fun _=>?_|simp only[go_sem,j,zaa,zab,Tryz.f22])
 ·have e:zaY f=0:=by unfold zaY zag;rw[j];rfl
  rw[e]
  refine zah (N:=19) hm hO3 22000 (lst []) zlC Tryz.func22 rfl rfl (by simp) (by kernel_rfl) ?_
  repeat'(first|refine And.intro ?_ ?_|exact True.intro|refine rq fun _=>?_|simp only[go_sem,j,zaa,zab,Tryz.f22])
 ·have e:zaY f=1:=by unfold zaY zag;rw[j];rfl
  rw[e]
  refine zah (N:=19) hm hO3 22000 (lst []) zlC Tryz.func22 rfl rfl (by simp) (by kernel_rfl) ?_
  repeat'(first|refine And.intro ?_ ?_|exact True.intro|refine rq fun _=>?_|simp only[go_sem,j,zaa,zab,Tryz.f22])
 ·have e:zaY f=2:=by unfold zaY zag;rw[j];rfl
  rw[e]
  refine zah (N:=19) hm hO3 22000 (lst []) zlC Tryz.func22 rfl rfl (by simp) (by kernel_rfl) ?_
  repeat'(first|refine And.intro ?_ ?_|exact True.intro|refine rq fun _=>?_|simp only[go_sem,j,zaa,zab,Tryz.f22])
 ·have e:zaY f=2:=by unfold zaY zag;rw[j];rfl
  rw[e]
  refine zah (N:=19) hm hO3 22000 (lst []) zlC Tryz.func22 rfl rfl (by simp) (by kernel_rfl) ?_
  repeat'(first|refine And.intro ?_ ?_|exact True.intro|refine rq fun _=>?_|simp only[go_sem,j,zaa,zab,Tryz.f22])
 ·have e:zaY f=3:=by unfold zaY zag;rw[j];rfl
  rw[e]
  refine zah (N:=19) hm hO3 22000 (lst []) zlC Tryz.func22 rfl rfl (by simp) (by kernel_rfl) ?_
  repeat'(first|refine And.intro ?_ ?_|exact True.intro|refine rq fun _=>?_|simp only[go_sem,j,zaa,zab,Tryz.f22])
 ·have e:zaY f=4:=by unfold zaY zag;rw[j];rfl
  rw[e]
  refine zah (N:=19) hm hO3 22000 (lst []) zlC Tryz.func22 rfl rfl (by simp) (by kernel_rfl) ?_
  repeat'(first|refine And.intro ?_ ?_|exact True.intro|refine rq fun _=>?_|simp only[go_sem,j,zaa,zab,Tryz.f22])
def zs2 (f:Abs.zac)(name:Str):Prop:=(∃a,f.subs=[a]∧clB a)∧¬zfE name
def zxI:Tv:=(.q 0 (.q 1 (.q 2 (.q 3 (.q 4 (.q 5 (.q 6 (.q 7 (.q 8 (.q 9 (.br [(10,.leaf)])))))))))))
def O5:Tbl:=O4.add 50 (sp2 zdE zs2)
attribute [go_sem] O5
theorem hO5:zap Tryz.prog GA O5:=by
 refine zcy zHx hO4 fun f name hp _ _=>?_
 obtain⟨⟨a,ha,hca⟩,hnb⟩:=hp
 have e:zdE f name=zau a [⟨f.name,name⟩]:=by unfold zdE zbo;rw[ha];rfl
 have e2:zje a [⟨f.name,name⟩]=zau a [⟨f.name,name⟩]:=(zgO hca.c (by simp) (fun b hb=>by rw[List.mem_singleton.1 hb];exact hnb)).symm
 have zW:List.zipWith Abs.zaR.mk [f.name] [name]=[⟨f.name,name⟩]:=rfl
 have hw:zpV a [f.name] [name]:=⟨hca.b.ft,by have:=hca.b.s;omega,rfl,by simp⟩
 rw[e]
 obtain⟨R,hR⟩:∃R,zau a [⟨f.name,name⟩]=R:=⟨_,rfl⟩
 rw[hR]at e2
 rw[hR]
 refine zah (N:=15) hm hO4 50000 (lst [1000001]) zHx Tryz.func50 rfl rfl (by simp) (by kernel_rfl) ?_
 repeat'(first|refine zaj.i hw fun _=>?_|refine zaj.i ⟨rfl,rfl,hw⟩ fun _=>?_|refine zaj.i ⟨rfl,hw⟩ fun _=>?_|refine zae (id:=1) hm hO4 50000 (lst [1000001]) zxI (by kernel_rfl) (by kernel_rfl) ?_|refine And.intro ?_ ?_|exact True.intro|refine rq fun _=>?_|simp only[go_sem,ha,zW,e2,zad,zab,zev,zfm,zxI,Tryz.f50])
 all_goals trace_state
def zjP (f:Abs.zac)(name:Str):Abs.zac:=zbJ (zag f).2.2.1 (zag f).2.2.2 name
def zmu (f:Abs.zac)(name:Str):Prop:=clB f∧(zaY f=3∨zaY f=4)∧zas name=true
theorem clB.inst {a:Abs.zac}{x nm:Str}(h:clB a)(hn:¬zfE nm):clB (zau a [⟨x,nm⟩]):=⟨h.b.cn,zlO h.c fun b hb=>by rw[List.mem_singleton.1 hb];exact hn⟩
theorem zt0 {f:Abs.zac}(h:brF f)(hs:zaY f=3∨zaY f=4):f.kind=8∨f.kind=9∨(f.kind=4∧((zbo f).kind=8∨(zbo f).kind=9)):=by
 unfold zaY zag at hs
 have hkb:=zbf.1 h.v
 by_cases k8:f.kind=8
 ·exact .inl k8
 by_cases k9:f.kind=9
 ·exact .inr (.inl k9)
 refine .inr (.inr ?_)
 by_cases k4:f.kind=4
 ·refine⟨k4,?_⟩
  by_cases j8:(zbo f).kind=8
  ·exact .inl j8
  by_cases j9:(zbo f).kind=9
  ·exact .inr j9
  exfalso
  simp only[k4,j8,j9,if_false,if_true,show¬((4:Int)=5) by decide,show¬((4:Int)=6) by decide,show¬((4:Int)=7) by decide,show¬((4:Int)=8) by decide,show¬((4:Int)=9) by decide]at hs
  split at hs<;>(try split at hs)<;>(try split at hs)<;>(try split at hs)<;>simp at hs
 ·exfalso
  simp only[k4,k8,k9,if_false]at hs
  split at hs<;>(try split at hs)<;>(try split at hs)<;>simp at hs
def O6:Tbl:=O5.add 27 (sp2 zjP zmu)
attribute [go_sem] O6
theorem hO6:zap Tryz.prog GA O6:=by
 refine zcy zFF hO5 fun f name hp _ _=>?_
 obtain⟨hcb,hso,hnm⟩:=hp
 have hnb:¬zfE name:=zgp hnm
 have hq:=zt0 hcb.b hso
 by_cases k4:f.kind=4
 ·obtain⟨q,hq0,s0,hcq⟩:=zlU hcb (.inl k4)
  have hqk:q.kind=8∨q.kind=9:=by rw[s0]at hq;omega
  obtain⟨a,ha,t0,hca⟩:=zlU hcq (by omega)
  have hz:=zcY hq0
  have hz2:=zcY ha
  have hfs:=hcb.b.s
  have e:zjP f name=ngg (zdE q name):=by
   unfold zjP zag
   rw[s0]
   rcases hqk with j|j<;>(rw[k4,j];rfl)
  have hip:zs2 q name:=⟨⟨a,ha,hca⟩,hnb⟩
  have eb:zdE q name=zau a [⟨q.name,name⟩]:=by unfold zdE zbo;rw[ha];rfl
  have hcb2:clB (zdE q name):=by rw[eb];exact hca.inst hnb
  obtain⟨B,hB⟩:∃B,zdE q name=B:=⟨_,rfl⟩
  rw[hB]at e hcb2
  obtain⟨R,hR⟩:∃R,ngg B=R:=⟨_,rfl⟩
  rw[e,hR]
  refine zah (N:=18) hm hO5 27000 (lst []) zFF Tryz.func27 rfl rfl (by simp) (by kernel_rfl) ?_
  repeat'(first|refine zaj.i hip fun _=>?_|refine zaj.i hcb2 fun _=>?_|refine And.intro ?_ ?_|exact True.intro|refine rq fun _=>?_|simp only[go_sem,k4,hq0,hB,hR,zad,zab,Tryz.f27])
 ·have hqk:f.kind=8∨f.kind=9:=by omega
  obtain⟨a,ha,t0,hca⟩:=zlU hcb (by omega)
  have e:zjP f name=zdE f name:=by
   unfold zjP zag
   rcases hqk with j|j<;>(rw[j];rfl)
  have hip:zs2 f name:=⟨⟨a,ha,hca⟩,hnb⟩
  obtain⟨B,hB⟩:∃B,zdE f name=B:=⟨_,rfl⟩
  rw[e,hB]
  refine zah (N:=18) hm hO5 27000 (lst []) zFF Tryz.func27 rfl rfl (by simp) (by kernel_rfl) ?_
  repeat'(first|refine zaj.i hip fun _=>?_|refine And.intro ?_ ?_|exact True.intro|refine rq fun _=>?_|simp only[go_sem,k4,hB,zad,zab,Tryz.f27])
end Go.Proofs.YtdlioodgfopmfaaGreatDoor
namespace Go.Proofs.YtdlioodgfopmfaaGreatDoor
open Go Go.Abs Go.Proofs
def za3 (f:Abs.zac):List Abs.zac:=(zag f).2.1
def zpM:Tv:=(.q 0 (.q 1 (.q 2 (.q 3 (.q 4 (.q 5 (.q 6 (.q 7 (.q 8 (.q 9 (.q 10 (.q 11 .leaf))))))))))))
def zxO:Tv:=(.q 0 (.q 1 (.q 2 (.q 3 (.q 4 (.q 5 (.q 6 (.q 7 (.q 8 (.q 9 (.q 10 (.q 11 .leaf))))))))))))
def zxP:Tv:=(.q 0 (.q 1 (.q 2 (.q 3 (.q 4 (.q 5 (.q 6 (.q 7 (.q 8 (.q 9 (.q 10 (.q 11 .leaf))))))))))))
def zlv:Tv:=(.q 0 (.q 1 (.q 2 (.q 3 (.q 4 (.q 5 (.q 6 (.q 7 (.q 8 (.q 9 (.q 10 (.q 11 .leaf))))))))))))
theorem cnS {a:Abs.zac}(h:clB a):a.fit=true∧a.size≤1000:=⟨h.b.ft,by have:=h.b.s;omega⟩
def O7:Tbl:=O6.add 23 (sp1 za3 fun f=>clB f∧(zaY f=1∨zaY f=2))
attribute [go_sem] O7
set_option maxHeartbeats 8000000 in
theorem hO7:zap Tryz.prog GA O7:=by
 refine zbM zxv hO6 fun f hp _=>?_
 obtain⟨hcb,hso⟩:=hp
 have hkb:=zbf.1 hcb.b.v
 have hk1:=hkb.1
 have hk2:=hkb.2.1
 clear hkb
 by_cases k5:f.kind=5
 ·obtain⟨a,b,hab,s0,s1,ha,hb⟩:=zjD hcb (by omega)
  have pa:=cnS ha
  have pb:=cnS hb
  have ea:zje a []=zau a []:=zcX ha.c
  have eb:zje b []=zau b []:=zcX hb.c
  obtain⟨A,hA⟩:∃A,zau a []=A:=⟨_,rfl⟩
  obtain⟨B,hB⟩:∃B,zau b []=B:=⟨_,rfl⟩
  have e:za3 f=[A,B]:=by
   unfold za3 zag
   rw[s0,s1,k5,←hA,←hB];rfl
  rw[e]
  clear e s0 s1
  refine zah (N:=75) hm hO6 23000 (lst [1000002,1000004,1000009,1000010]) zxv Tryz.func23 rfl rfl (by simp) (by kernel_rfl) ?_
  repeat'(first|refine zaj.i pa fun _=>?_|refine zaj.i pb fun _=>?_|refine zaj.i ha fun _=>?_|refine zae (id:=2) hm hO6 23000 (lst [1000002,1000004,1000009,1000010]) zpM (by kernel_rfl) (by kernel_rfl) ?_|refine And.intro ?_ ?_|exact True.intro|refine rq fun _=>?_|simp only[go_sem,k5,hab,ea,eb,hA,hB,zpM,zaa,zab,Tryz.f23])
 by_cases k6:f.kind=6
 ·obtain⟨a,b,hab,s0,s1,ha,hb⟩:=zjD hcb (by omega)
  have pa:=cnS ha
  have pb:=cnS hb
  have ea:zje a []=zau a []:=zcX ha.c
  have eb:zje b []=zau b []:=zcX hb.c
  obtain⟨A,hA⟩:∃A,zau a []=A:=⟨_,rfl⟩
  obtain⟨B,hB⟩:∃B,zau b []=B:=⟨_,rfl⟩
  have e:za3 f=[A,B]:=by
   unfold za3 zag
   rw[s0,s1,k6,←hA,←hB];rfl
  rw[e]
  clear e s0 s1
  refine zah (N:=75) hm hO6 23000 (lst [1000002,1000004,1000009,1000010]) zxv Tryz.func23 rfl rfl (by simp) (by kernel_rfl) ?_
  repeat'(first|refine zaj.i pa fun _=>?_|refine zaj.i pb fun _=>?_|refine zaj.i ha fun _=>?_|refine zae (id:=2) hm hO6 23000 (lst [1000002,1000004,1000009,1000010]) zpM (by kernel_rfl) (by kernel_rfl) ?_|refine And.intro ?_ ?_|exact True.intro|refine rq fun _=>?_|simp only[go_sem,k6,hab,ea,eb,hA,hB,zpM,zaa,zab,Tryz.f23])
 by_cases k7:f.kind=7
 ·obtain⟨a,b,hab,s0,s1,ha,hb⟩:=zjD hcb (by omega)
  have pa:=cnS ha
  have pb:=cnS hb
  have ea:zje a []=zau a []:=zcX ha.c
  have eb:zje b []=zau b []:=zcX hb.c
  obtain⟨A,hA⟩:∃A,ngg a=A:=⟨_,rfl⟩
  obtain⟨B,hB⟩:∃B,zau b []=B:=⟨_,rfl⟩
  have e:za3 f=[A,B]:=by
   unfold za3 zag
   rw[s0,s1,k7,←hA,←hB];rfl
  rw[e]
  clear e s0 s1
  refine zah (N:=75) hm hO6 23000 (lst [1000002,1000004,1000009,1000010]) zxv Tryz.func23 rfl rfl (by simp) (by kernel_rfl) ?_
  repeat'(first|refine zaj.i pa fun _=>?_|refine zaj.i pb fun _=>?_|refine zaj.i ha fun _=>?_|refine zae (id:=4) hm hO6 23000 (lst [1000002,1000004,1000009,1000010]) zxO (by kernel_rfl) (by kernel_rfl) ?_|refine And.intro ?_ ?_|exact True.intro|refine rq fun _=>?_|simp only[go_sem,k7,hab,ea,eb,hA,hB,zxO,zaa,zab,Tryz.f23])
 by_cases k4:f.kind=4
 rotate_left
 ·exfalso
  unfold zaY zag at hso
  simp only[k4,k5,k6,k7,if_false]at hso
  split at hso<;>(try split at hso)<;>simp at hso
 obtain⟨g,hg,s0,hcg⟩:=zlU hcb (.inl k4)
 have hgk:=zbf.1 hcg.b.v
 have hg1:=hgk.1
 have hg2:=hgk.2.1
 clear hgk
 by_cases j4:g.kind=4
 ·obtain⟨a,ha0,t0,ha⟩:=zlU hcg (.inl j4)
  have pa:=cnS ha
  have ea:zje a []=zau a []:=zcX ha.c
  obtain⟨A,hA⟩:∃A,zau a []=A:=⟨_,rfl⟩
  have e:za3 f=[A]:=by
   unfold za3 zag
   rw[s0,t0,k4,j4,←hA];rfl
  rw[e]
  clear e s0 t0
  refine zah (N:=75) hm hO6 23000 (lst [1000002,1000004,1000009,1000010]) zxv Tryz.func23 rfl rfl (by simp) (by kernel_rfl) ?_
  repeat'(first|refine zaj.i pa fun _=>?_|refine And.intro ?_ ?_|exact True.intro|refine rq fun _=>?_|simp only[go_sem,k4,hg,j4,ha0,ea,hA,zaa,zab,Tryz.f23])
 by_cases j7:g.kind=7
 ·obtain⟨a,b,hab,t0,t1,ha,hb⟩:=zjD hcg (by omega)
  have pa:=cnS ha
  have ea:zje a []=zau a []:=zcX ha.c
  obtain⟨A,hA⟩:∃A,zau a []=A:=⟨_,rfl⟩
  obtain⟨B,hB⟩:∃B,ngg b=B:=⟨_,rfl⟩
  have e:za3 f=[A,B]:=by
   unfold za3 zag
   rw[s0,t0,t1,k4,j7,←hA,←hB];rfl
  rw[e]
  clear e s0 t0 t1
  refine zah (N:=75) hm hO6 23000 (lst [1000002,1000004,1000009,1000010]) zxv Tryz.func23 rfl rfl (by simp) (by kernel_rfl) ?_
  repeat'(first|refine zaj.i pa fun _=>?_|refine zaj.i ha fun _=>?_|refine zaj.i hb fun _=>?_|refine zae (id:=9) hm hO6 23000 (lst [1000002,1000004,1000009,1000010]) zxP (by kernel_rfl) (by kernel_rfl) ?_|refine And.intro ?_ ?_|exact True.intro|refine rq fun _=>?_|simp only[go_sem,k4,hg,j7,hab,ea,hA,hB,zxP,zaa,zab,Tryz.f23])
 by_cases j5:g.kind=5
 ·obtain⟨a,b,hab,t0,t1,ha,hb⟩:=zjD hcg (by omega)
  have pa:=cnS ha
  have ea:zje a []=zau a []:=zcX ha.c
  obtain⟨A,hA⟩:∃A,ngg a=A:=⟨_,rfl⟩
  obtain⟨B,hB⟩:∃B,ngg b=B:=⟨_,rfl⟩
  have e:za3 f=[A,B]:=by
   unfold za3 zag
   rw[s0,t0,t1,k4,j5,←hA,←hB];rfl
  rw[e]
  clear e s0 t0 t1
  refine zah (N:=75) hm hO6 23000 (lst [1000002,1000004,1000009,1000010]) zxv Tryz.func23 rfl rfl (by simp) (by kernel_rfl) ?_
  repeat'(first|refine zaj.i pa fun _=>?_|refine zaj.i ha fun _=>?_|refine zaj.i hb fun _=>?_|refine zae (id:=10) hm hO6 23000 (lst [1000002,1000004,1000009,1000010]) zlv (by kernel_rfl) (by kernel_rfl) ?_|refine And.intro ?_ ?_|exact True.intro|refine rq fun _=>?_|simp only[go_sem,k4,hg,j5,hab,ea,hA,hB,zlv,zaa,zab,Tryz.f23])
 by_cases j6:g.kind=6
 ·obtain⟨a,b,hab,t0,t1,ha,hb⟩:=zjD hcg (by omega)
  have pa:=cnS ha
  have ea:zje a []=zau a []:=zcX ha.c
  obtain⟨A,hA⟩:∃A,ngg a=A:=⟨_,rfl⟩
  obtain⟨B,hB⟩:∃B,ngg b=B:=⟨_,rfl⟩
  have e:za3 f=[A,B]:=by
   unfold za3 zag
   rw[s0,t0,t1,k4,j6,←hA,←hB];rfl
  rw[e]
  clear e s0 t0 t1
  refine zah (N:=75) hm hO6 23000 (lst [1000002,1000004,1000009,1000010]) zxv Tryz.func23 rfl rfl (by simp) (by kernel_rfl) ?_
  repeat'(first|refine zaj.i pa fun _=>?_|refine zaj.i ha fun _=>?_|refine zaj.i hb fun _=>?_|refine zae (id:=10) hm hO6 23000 (lst [1000002,1000004,1000009,1000010]) zlv (by kernel_rfl) (by kernel_rfl) ?_|refine And.intro ?_ ?_|exact True.intro|refine rq fun _=>?_|simp only[go_sem,k4,hg,j6,hab,ea,hA,hB,zlv,zaa,zab,Tryz.f23])
 exfalso
 unfold zaY zag at hso
 rw[s0,k4]at hso
 simp only[j4,j5,j6,j7,if_false,show¬((4:Int)=5) by decide,show¬((4:Int)=6) by decide,show¬((4:Int)=7) by decide,show¬((4:Int)=8) by decide,show¬((4:Int)=9) by decide,if_true]at hso
 split at hso<;>(try split at hso)<;>simp at hso
def zoI (ns:List Str)(cs:List Int)(w:Str)(d:Int):Int:=(List.zip ns cs).foldl (fun acc p=>if p.1=w then p.2 else acc) d
def eqR (ns:List Str)(cs:List Int)(a b:Str):Bool:=if a=b then true else decide (zoI ns cs a (-1)=zoI ns cs b (-2))
theorem zjc {ns:List Str}{cs:List Int}{w:Str}{d:Int}{i:Nat}(h:i<ns.length)(h2:i<cs.length):zoI (ns.take (i+1)) (cs.take (i+1)) w d=if ns[i]=w then cs[i]else zoI (ns.take i) (cs.take i) w d:=by
 unfold zoI
 rw[List.take_succ_eq_append_getElem h,List.take_succ_eq_append_getElem h2,List.zip_append (by rw[List.length_take,List.length_take];omega),List.foldl_append]
 rfl
def O8:Tbl:=O7.add 21 (sp4 eqR fun ns cs _ _=>ns.length=cs.length∧ns.length≤1000000)
attribute [go_sem] O8
set_option maxHeartbeats 8000000 in
theorem hO8:zap Tryz.prog GA O8:=by
 refine zCf zFE hO7 fun ns cs a b hp _ _ _ _=>?_
 obtain⟨hl,hn⟩:=hp
 by_cases hab:a=b
 ·have e:eqR ns cs a b=true:=by unfold eqR;rw[if_pos hab]
  have hl2:(a.l=b.l)=True:=eq_true (by rw[hab])
  rw[e]
  refine zah (N:=44) hm hO7 21000 (lst []) zFE Tryz.func21 rfl rfl (by simp) (by kernel_rfl) ?_
  repeat'(first|refine And.intro ?_ ?_|exact True.intro|refine rq fun _=>?_|simp only[go_sem,hl2,Tryz.f21])
 have e:eqR ns cs a b=decide (zoI ns cs a (-1)=zoI ns cs b (-2)):=by unfold eqR;rw[if_neg hab]
 have hl2:(a.l=b.l)=False:=eq_false fun h=>hab (show(⟨a.l⟩:Str)=⟨b.l⟩ by rw[h])
 rw[e]
 refine zah (N:=44) hm hO7 21000 (lst []) zFE Tryz.func21 rfl rfl (by simp) (by kernel_rfl) ?_
 repeat'(first|refine And.intro ?_ ?_|exact True.intro|refine rq fun _=>?_|simp only[go_sem,hl2,Tryz.f21])
 refine zao hm hO7 21000 (lst []) (ι:=zcO ns.length fun _=>True)
  ⟨fun q=>⟨frL [(0,.fz (.sl (ns.map enc))),(1,.fz (.sl (cs.map enc))),(2,.fz (.s a.l)),(3,.fz (.s b.l)),(9,.fz (.i .i64 (zoI (ns.take q.i) (cs.take q.i) a (-1)))),(10,.fz (.i .i64 (zoI (ns.take q.i) (cs.take q.i) b (-2)))),(16,.fz (.i .i64 ns.length)),(17,.fz (.i .i64 q.i))],hpL [],0⟩,fun q=>ns.length-q.i⟩
  ⟨0,by omega,trivial⟩ (by kernel_rfl) ?_ ?_
 ·refine zai ?_ ?_ ?_<;>simp only[go_sem,zoI]
  all_goals first|done|rfl|exact⟨rfl,rfl⟩|omega
 rintro⟨i,hi,_⟩
 try simp only at hi
 rcases Nat.lt_or_ge i ns.length with h1|h1
 ·have h2:i<cs.length:=by omega
  have va:=zjc (w:=a) (d:= -1) h1 h2
  have vb:=zjc (w:=b) (d:= -2) h1 h2
  obtain⟨x,hx⟩:∃x,ns[i]=x:=⟨_,rfl⟩
  obtain⟨v,hv⟩:∃v,cs[i]=v:=⟨_,rfl⟩
  rw[hx,hv]at va vb
  obtain⟨X,hX⟩:∃X,zoI (ns.take i) (cs.take i) a (-1)=X:=⟨_,rfl⟩
  obtain⟨Z,hZ⟩:∃X,zoI (ns.take i) (cs.take i) b (-2)=X:=⟨_,rfl⟩
  rw[hX]at va
  rw[hZ]at vb
  by_cases ca:x=a
  ·have cal:(x.l=a.l)=True:=eq_true (by rw[ca])
   rw[if_pos ca]at va
   have cb:¬x=b:=fun h=>hab (ca.symm.trans h)
   have cbl:(x.l=b.l)=False:=eq_false fun h=>cb (show(⟨x.l⟩:Str)=⟨b.l⟩ by rw[h])
   rw[if_neg cb]at vb
   repeat'(first|refine And.intro ?_ ?_|exact True.intro|refine rq fun _=>?_|simp only[go_sem,h1,h2,hx,hv,hX,hZ,cal,cbl,zaa,Tryz.f21])
   refine⟨⟨i+1,by omega,trivial⟩,by simp only;omega,?_⟩
   refine zai ?_ ?_ ?_<;>simp only[go_sem,va,vb]
   all_goals first|done|rfl|omega
  ·have cal:(x.l=a.l)=False:=eq_false fun h=>ca (show(⟨x.l⟩:Str)=⟨a.l⟩ by rw[h])
   rw[if_neg ca]at va
   by_cases cb:x=b
   ·have cbl:(x.l=b.l)=True:=eq_true (by rw[cb])
    rw[if_pos cb]at vb
    repeat'(first|refine And.intro ?_ ?_|exact True.intro|refine rq fun _=>?_|simp only[go_sem,h1,h2,hx,hv,hX,hZ,cal,cbl,zaa,Tryz.f21])
    refine⟨⟨i+1,by omega,trivial⟩,by simp only;omega,?_⟩
    refine zai ?_ ?_ ?_<;>simp only[go_sem,va,vb]
    all_goals first|done|rfl|omega
   ·have cbl:(x.l=b.l)=False:=eq_false fun h=>cb (show(⟨x.l⟩:Str)=⟨b.l⟩ by rw[h])
    rw[if_neg cb]at vb
    repeat'(first|refine And.intro ?_ ?_|exact True.intro|refine rq fun _=>?_|simp only[go_sem,h1,h2,hx,hv,hX,hZ,cal,cbl,zaa,Tryz.f21])
    refine⟨⟨i+1,by omega,trivial⟩,by simp only;omega,?_⟩
    refine zai ?_ ?_ ?_<;>simp only[go_sem,va,vb]
    all_goals first|done|rfl|omega
 obtain rfl:i=ns.length:=by omega
 have ec:cs.take ns.length=cs:=by rw[hl,List.take_length]
 repeat'(first|refine And.intro ?_ ?_|exact True.intro|refine rq fun _=>?_|simp only[go_sem,Nat.lt_irrefl,List.take_length,ec,Tryz.f21])
 all_goals trace_state
end Go.Proofs.YtdlioodgfopmfaaGreatDoor

/- several texts of this proof in one; no conditions -/
import Derived.Test.YtmconmiemdinkaaDoorY2
import Derived.Test.YtmconmiemdinkaaDoorY8
import Derived.Test.YtmconmiemdinkaaDoorAT
import Derived.Test.YtmconmiemdinkaaDoorY13
set_option maxRecDepth 100000
set_option maxHeartbeats 1000000
set_option linter.unusedSimpArgs false
namespace Go.Proofs.YtmconmiemdinkaaDoor
open Go Go.Abs Go.Proofs
end Go.Proofs.YtmconmiemdinkaaDoor
namespace Go.Abs
open Go
end Go.Abs
namespace Go.Proofs.YtmconmiemdinkaaDoor
open Go Go.Abs Go.Proofs
def R9:Tbl:=R8
attribute [go_sem] R9
theorem hR9:zam Tryd.prog GA R9:=hR8
end Go.Proofs.YtmconmiemdinkaaDoor
namespace Go.Proofs.YtmconmiemdinkaaDoor
open Go Go.Abs Go.Proofs
structure zDm (len n0:Nat) where
 i:Nat
 g1:Nat
 g2:Nat
 m:Nat
 hi:i≤len
 h1:g1<m
 h2:g2<m
 hm:n0≤m
structure zFs (us:List Str)(k0:Nat) where
 k:Nat
 hk:k0≤k
 h:zd0 us k=zd0 us k0
def R10:Tbl:=R9
attribute [go_sem] R10
theorem zDQ:zam Tryd.prog GA R10:=hR9
def R11:Tbl:=R10
attribute [go_sem] R11
theorem zDR:zam Tryd.prog GA R11:=zDQ
end Go.Proofs.YtmconmiemdinkaaDoor
namespace Go.Abs
open Go
section
variable {P:Program} {G:Nat→List FD} {T:Tbl}
theorem zsC {α ρ σ:Type}[Enc α][Enc ρ][Enc σ]{f:FuncId}{g:α→ρ×σ}{pre:α→Prop}(m:α→Nat)(hc:zat P f)(hT:zam P G T)
  (h:∀n,zam P G (T.add f (zsB g fun a=>m a<n∧pre a))→∀a,m a=n→pre a→(enc a).Wf→zaE P G f [.fz (enc a)] (hpL []) 0 (fun d _ _=>D.val d=some (.tup [.fz (enc (g a).1),.fz (enc (g a).2)]))):zam P G (T.add f (zsB g pre)):=by
 have key:∀n,zam P G (T.add f (zsB g fun a=>m a<n∧pre a)):=by
  intro n
  induction n with
  |zero=>exact zjO hc hT fun a ha=>by omega
  |succ n ih=>
   refine zjO hc hT fun a ha hw=>?_
   rcases Nat.lt_or_ge (m a) n with h1|h1
   ·have h2:=ih f (zsB g fun a=>m a<n∧pre a) [enc a] _ _ (by simp[Tbl.add]) (zw0) ⟨by rw[dec_enc],by rw[dec_enc];exact⟨h1,ha.2⟩⟩
    rw[dec_enc,zfN]at h2
    exact h2
   ·exact h n ih a (by omega) ha.2 hw
 refine zjO hc hT fun a ha hw=>h (m a) (key _) a rfl ha hw
end
theorem zjL {f:Abs.zab}:f.size=zab.sizes f.subs+1:=by cases f;rw[zab.size];rfl
theorem zmP {f:Abs.zab}:f.depth=zab.depths f.subs+1:=by cases f;rw[zab.depth];rfl
theorem zeo {fs:List Abs.zab}{j:Nat}(h:j<fs.length):zab.sizes (fs.take (j+1))=zab.sizes (fs.take j)+fs[j].size:=by
 rw[List.take_succ_eq_append_getElem h,zab.sizes_app,zab.sizes,zab.sizes];omega
theorem zdW {fs:List Abs.zab}{j:Nat}(h:j<fs.length):zab.depths (fs.take (j+1))=max (zab.depths (fs.take j)) fs[j].depth:=by
 rw[List.take_succ_eq_append_getElem h,zab.depths_app,zab.depths,zab.depths];omega
theorem zeJ {fs:List Abs.zab}(j:Nat):zab.depths (fs.take j)≤zab.depths fs:=by
 have:=congrArg zab.depths (List.take_append_drop j fs)
 rw[zab.depths_app]at this;omega
end Go.Abs
namespace Go.Proofs.YtmconmiemdinkaaDoor
open Go Go.Abs Go.Proofs
def zll (f:Abs.zab):Prop:=f.fit=true∧f.size≤1000000
def R12:Tbl:=R11.add 24 (sp1 (fun f:Abs.zab=>(f.size:Int)) zll)
attribute [go_sem] R12
theorem zDS:zam Tryd.prog GA R12:=by
 refine zjN zab.size zCG zDR fun n hT f hn hpre _=>?_
 obtain⟨hfit,hsz⟩:=hpre
 obtain⟨_,hsl,hfs⟩:=zab.fit_eq hfit
 have hse:=@zjL f
 have hr:∀g∈f.subs,g.size<n∧zll g:=fun g hg=>⟨by have:=zab.size_sub hg;omega,zab.fits_mem hfs hg,by have:=zab.size_sub hg;omega⟩
 have kT:=Kp.mk hT
 have kr:=Kp.mk hr
 obtain⟨S,hS⟩:∃S:Nat→Nat,S=fun j=>zab.sizes (f.subs.take j)+1:=⟨_,rfl⟩
 have hS0:S 0=1:=by rw[hS];simp[zab.sizes]
 have hSs:∀j (h:j<f.subs.length),S (j+1)=S j+f.subs[j].size:=fun j h=>by rw[hS];simp only[zeo h];omega
 have hSl:∀j (h:j<f.subs.length),S j+f.subs[j].size≤1000001:=fun j h=>by have:=zdB h;rw[hS];simp only;omega
 have hSe:f.size=S f.subs.length:=by rw[hS,hse];simp only[List.take_length]
 have kS:=Kp.mk hSs
 have kL:=Kp.mk hSl
 rw[hSe]
 clear hT hr hS hSs hSl hSe hfit hfs hn
 refine zak (N:=21) hm kT.out 24000 (lst []) zCG Tryd.func24 rfl rfl (by simp) (by kernel_rfl) ?_
 repeat'(first|refine rq fun _=>?_|simp only[go_sem,Tryd.f24])
 refine zcl (ze4 (id:=(24001,0)) (t:=1) (b:=true) (ys:=[.i .i64 f.kind,.s f.name.l,.sl (f.words.map enc),.sl (f.subs.map enc)]) (by simp only[go_sem]) (by simp only[go_sem])) ?_
 refine zap hm kT.out 24000 (lst []) (ι:=zd3 f.subs.length fun _=>True)
  ⟨fun q=>⟨frL [(1,.rp [.i .i64 f.kind,.s f.name.l,.sl (f.words.map enc),.sl (f.subs.map enc)]),(3,.fz (.i .i64 (S q.i:Nat))),(7,.fz (.i .i64 f.subs.length)),(8,.fz (.i .i64 q.i))],hpL [],1⟩,fun q=>f.subs.length-q.i⟩
  ⟨0,by omega,trivial⟩ (by kernel_rfl) ?_ ?_
 ·refine zai ?_ ?_ ?_<;>simp only[go_sem,hS0]
  all_goals first|done|rfl
 rintro⟨j,hj,_⟩
 try simp only at hj
 rcases Nat.lt_or_ge j f.subs.length with h2|h2
 ·have hss:=kS.out j h2
  have hsl2:=kL.out j h2
  have hr:=kr.out _ (List.getElem_mem h2)
  obtain⟨x,hx⟩:∃x,f.subs[j]=x:=⟨_,rfl⟩
  rw[hx]at hss hsl2 hr
  repeat'(first|refine rq fun _=>?_|refine zaG.i hr fun _=>?_|simp only[go_sem,h2,hx,zaa,Tryd.f24])
  refine⟨⟨j+1,by omega,trivial⟩,by simp only;omega,?_⟩
  refine zai ?_ ?_ ?_<;>simp only[go_sem,hss,Int.natCast_add]
  all_goals first|done|rfl
 ·obtain rfl:j=f.subs.length:=by omega
  repeat'(first|refine rq fun _=>?_|simp only[go_sem,Nat.lt_irrefl,Tryd.f24])
def R13:Tbl:=R12.add 25 (sp1 (fun f:Abs.zab=>(f.depth:Int)) zll)
attribute [go_sem] R13
theorem zDT:zam Tryd.prog GA R13:=by
 refine zjN zab.size zCH zDS fun n hT f hn hpre _=>?_
 obtain⟨hfit,hsz⟩:=hpre
 obtain⟨_,hsl,hfs⟩:=zab.fit_eq hfit
 have hde:=f.depth_size
 have hse:=@zmP f
 have hr:∀g∈f.subs,g.size<n∧zll g:=fun g hg=>⟨by have:=zab.size_sub hg;omega,zab.fits_mem hfs hg,by have:=zab.size_sub hg;omega⟩
 have kT:=Kp.mk hT
 have kr:=Kp.mk hr
 obtain⟨S,hS⟩:∃S:Nat→Nat,S=fun j=>zab.depths (f.subs.take j):=⟨_,rfl⟩
 have hS0:S 0=0:=by rw[hS];simp[zab.depths]
 have hSs:∀j (h:j<f.subs.length),S (j+1)=max (S j) f.subs[j].depth:=fun j h=>by rw[hS];simp only[zdW h]
 have hSl:∀j,S j≤1000000:=fun j=>by have:=zeJ (fs:=f.subs) j;rw[hS];simp only;omega
 have hSe:f.depth=S f.subs.length+1:=by rw[hS,hse];simp only[List.take_length]
 have kS:=Kp.mk hSs
 have hSn:=hSl f.subs.length
 rw[hSe]
 clear hT hr hS hSs hSl hSe hfit hfs hn
 refine zak (N:=25) hm kT.out 25000 (lst []) zCH Tryd.func25 rfl rfl (by simp) (by kernel_rfl) ?_
 repeat'(first|refine rq fun _=>?_|simp only[go_sem,Tryd.f25])
 refine zcl (ze4 (id:=(25001,0)) (t:=1) (b:=true) (ys:=[.i .i64 f.kind,.s f.name.l,.sl (f.words.map enc),.sl (f.subs.map enc)]) (by simp only[go_sem]) (by simp only[go_sem])) ?_
 refine zap hm kT.out 25000 (lst []) (ι:=zd3 f.subs.length fun _=>True)
  ⟨fun q=>⟨frL [(1,.rp [.i .i64 f.kind,.s f.name.l,.sl (f.words.map enc),.sl (f.subs.map enc)]),(3,.fz (.i .i64 (S q.i:Nat))),(8,.fz (.i .i64 f.subs.length)),(9,.fz (.i .i64 q.i))],hpL [],1⟩,fun q=>f.subs.length-q.i⟩
  ⟨0,by omega,trivial⟩ (by kernel_rfl) ?_ ?_
 ·refine zai ?_ ?_ ?_<;>simp only[go_sem,hS0]
  all_goals first|done|rfl
 rintro⟨j,hj,_⟩
 try simp only at hj
 rcases Nat.lt_or_ge j f.subs.length with h2|h2
 ·have hss:=kS.out j h2
  have hr:=kr.out _ (List.getElem_mem h2)
  obtain⟨x,hx⟩:∃x,f.subs[j]=x:=⟨_,rfl⟩
  rw[hx]at hss hr
  rcases Nat.lt_or_ge (S j) x.depth with h3|h3
  ·have h3':(S j:Int)<(x.depth:Int):=by omega
   have h4:S (j+1)=x.depth:=by omega
   repeat'(first|refine rq fun _=>?_|refine zaG.i hr fun _=>?_|simp only[go_sem,h2,hx,h3,h3',zaa,Tryd.f25])
   refine⟨⟨j+1,by omega,trivial⟩,by simp only;omega,?_⟩
   refine zai ?_ ?_ ?_<;>simp only[go_sem,h4]
  ·have h3':¬(S j:Int)<(x.depth:Int):=by omega
   have h3'':¬S j<x.depth:=by omega
   have h4:S (j+1)=S j:=by omega
   repeat'(first|refine rq fun _=>?_|refine zaG.i hr fun _=>?_|simp only[go_sem,h2,hx,h3',h3'',zaa,Tryd.f25])
   refine⟨⟨j+1,by omega,trivial⟩,by simp only;omega,?_⟩
   refine zai ?_ ?_ ?_<;>simp only[go_sem,h4]
 ·obtain rfl:j=f.subs.length:=by omega
  repeat'(first|refine rq fun _=>?_|simp only[go_sem,Nat.lt_irrefl,Tryd.f25])
  all_goals first|done|rfl
def R14:Tbl:=R13
attribute [go_sem] R14
theorem zDU:zam Tryd.prog GA R14:=zDT
def R15:Tbl:=R14.add 35 (zsB (fun f:Abs.zab=>((f.size:Int),(f.depth:Int))) zll)
attribute [go_sem] R15
theorem zDV:zam Tryd.prog GA R15:=by
 refine zsC zab.size zCN zDU fun n hT f hn hpre _=>?_
 obtain⟨hfit,hsz⟩:=hpre
 obtain⟨_,hsl,hfs⟩:=zab.fit_eq hfit
 have hse:=@zjL f
 have hdd:=f.depth_size
 have hde:=@zmP f
 have hr:∀g∈f.subs,g.size<n∧zll g:=fun g hg=>⟨by have:=zab.size_sub hg;omega,zab.fits_mem hfs hg,by have:=zab.size_sub hg;omega⟩
 have kT:=Kp.mk hT
 have kr:=Kp.mk hr
 obtain⟨S,hS⟩:∃S:Nat→Nat,S=fun j=>zab.sizes (f.subs.take j)+1:=⟨_,rfl⟩
 have hS0:S 0=1:=by rw[hS];simp[zab.sizes]
 have hSs:∀j (h:j<f.subs.length),S (j+1)=S j+f.subs[j].size:=fun j h=>by rw[hS];simp only[zeo h];omega
 have hSl:∀j (h:j<f.subs.length),S j+f.subs[j].size≤1000001:=fun j h=>by have:=zdB h;rw[hS];simp only;omega
 have hSe:f.size=S f.subs.length:=by rw[hS,hse];simp only[List.take_length]
 obtain⟨E,hE⟩:∃E:Nat→Nat,E=fun j=>zab.depths (f.subs.take j):=⟨_,rfl⟩
 have hE0:E 0=0:=by rw[hE];simp[zab.depths]
 have hEs:∀j (h:j<f.subs.length),E (j+1)=max (E j) f.subs[j].depth:=fun j h=>by rw[hE];simp only[zdW h]
 have hEl:∀j,E j≤1000000:=fun j=>by have:=zeJ (fs:=f.subs) j;rw[hE];simp only;omega
 have hEe:f.depth=E f.subs.length+1:=by rw[hE,hde];simp only[List.take_length]
 have hEn:=hEl f.subs.length
 have kS:=Kp.mk hSs
 have kL:=Kp.mk hSl
 have kE:=Kp.mk hEs
 rw[hSe,hEe]
 clear hT hr hS hSs hSl hSe hE hEs hEl hEe hfit hfs hn
 refine zak (N:=32) hm kT.out 35000 (lst []) zCN Tryd.func35 rfl rfl (by simp) (by kernel_rfl) ?_
 repeat'(first|refine rq fun _=>?_|simp only[go_sem,Tryd.f35])
 refine zcl (ze4 (id:=(35001,0)) (t:=1) (b:=true) (ys:=[.i .i64 f.kind,.s f.name.l,.sl (f.words.map enc),.sl (f.subs.map enc)]) (by simp only[go_sem]) (by simp only[go_sem])) ?_
 refine zap hm kT.out 35000 (lst []) (ι:=zdI f.subs.length 1 fun _=>True)
  ⟨fun q=>⟨frL [(4,.fz (.i .i64 (S q.i:Nat))),(5,.fz (.i .i64 (E q.i:Nat))),(11,.fz (.sl (f.subs.map enc))),(12,.fz (.i .i64 f.subs.length)),(13,.fz (.i .i64 q.i))],hpL [],q.m⟩,fun q=>f.subs.length-q.i⟩
  ⟨0,1,by omega,by omega,trivial⟩ (by kernel_rfl) ?_ ?_
 ·refine zai ?_ ?_ ?_<;>simp only[go_sem,hS0,hE0]
  all_goals first|done|rfl
 rintro⟨j,m,hj,hm1,_⟩
 try simp only at hj hm1
 rcases Nat.lt_or_ge j f.subs.length with h2|h2
 ·have hss:=kS.out j h2
  have hes:=kE.out j h2
  have hsl2:=kL.out j h2
  have hr:=kr.out _ (List.getElem_mem h2)
  obtain⟨x,hx⟩:∃x,f.subs[j]=x:=⟨_,rfl⟩
  rw[hx]at hss hsl2 hr hes
  repeat'(first|refine rq fun _=>?_|refine zaG.i hr fun _=>?_|simp only[go_sem,h2,hx,zaa,Tryd.f35])
  refine⟨⟨j+1,m+1,by omega,by omega,trivial⟩,by simp only;omega,?_⟩
  refine zai ?_ ?_ ?_<;>simp only[go_sem,hss,hes,Int.natCast_add]
  all_goals first|done|rfl|omega
 ·obtain rfl:j=f.subs.length:=by omega
  repeat'(first|refine rq fun _=>?_|simp only[go_sem,Nat.lt_irrefl,Tryd.f35])
  all_goals first|done|rfl
def R16:Tbl:=R15
attribute [go_sem] R16
theorem zDW:zam Tryd.prog GA R16:=zDV
end Go.Proofs.YtmconmiemdinkaaDoor
namespace Go.Proofs.YtmconmiemdinkaaDoor
open Go Go.Abs Go.Proofs
def R17:Tbl:=R16
attribute [go_sem] R17
theorem zDX:zam Tryd.prog GA R17:=zDW
def R18:Tbl:=R17
attribute [go_sem] R18
theorem zDY:zam Tryd.prog GA R18:=zDX
def R19:Tbl:=R18
attribute [go_sem] R19
theorem zDZ:zam Tryd.prog GA R19:=zDY
def R20:Tbl:=R19
attribute [go_sem] R20
theorem zD0:zam Tryd.prog GA R20:=zDZ
def R21:Tbl:=R20
attribute [go_sem] R21
theorem zD1:zam Tryd.prog GA R21:=zD0
def R22:Tbl:=R21
attribute [go_sem] R22
theorem zD2:zam Tryd.prog GA R22:=zD1
end Go.Proofs.YtmconmiemdinkaaDoor
namespace Go.Proofs.YtmconmiemdinkaaDoor
open Go Go.Abs Go.Proofs
section
variable {P:Program} {G:Nat→List FD} {T:Tbl}
end
def R27:Tbl:=R22
attribute [go_sem] R27
theorem zBz:zam Tryd.prog GA R27:=zD2
def zxN (k:Int)(f g:Abs.zab):Abs.zab:= .mk k ⟨[]⟩ [] [f,g]
def R28:Tbl:=R27.add 18 (sp3 zxN fun _ _ _=>True)
attribute [go_sem] R28
theorem zvf:zam Tryd.prog GA R28:=by
 refine zfA zCC zBz fun k f g _ _ _ _=>?_
 simp only[zxN]
 refine zak (N:=12) hm zBz 18000 (lst []) zCC Tryd.func18 rfl rfl (by simp) (by kernel_rfl) ?_
 repeat'(first|refine rq fun _=>?_|simp only[go_sem,zac,Tryd.f18])
end Go.Proofs.YtmconmiemdinkaaDoor

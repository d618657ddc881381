/- several texts of this proof in one; no conditions -/
import Derived.Test.YtmconmiemdinkaaGreatDoorY2
import Derived.Test.YtmconmiemdinkaaGreatDoorY8
import Derived.Test.YtmconmiemdinkaaGreatDoorAT
import Derived.Test.YtmconmiemdinkaaGreatDoorY15
set_option maxRecDepth 100000
set_option maxHeartbeats 1000000
set_option linter.unusedSimpArgs false
namespace Go.Proofs.YtmconmiemdinkaaGreatDoor
open Go Go.Abs Go.Proofs
end Go.Proofs.YtmconmiemdinkaaGreatDoor
namespace Go.Abs
open Go
end Go.Abs
namespace Go.Proofs.YtmconmiemdinkaaGreatDoor
open Go Go.Abs Go.Proofs
def R9:Tbl:=R8
attribute [go_sem] R9
theorem hR9:zai Tryz.prog GA R9:=hR8
end Go.Proofs.YtmconmiemdinkaaGreatDoor
namespace Go.Proofs.YtmconmiemdinkaaGreatDoor
open Go Go.Abs Go.Proofs
structure zHt (len n0:Nat) where
 i:Nat
 g1:Nat
 g2:Nat
 m:Nat
 hi:i≤len
 h1:g1<m
 h2:g2<m
 hm:n0≤m
structure zKv (us:List Str)(k0:Nat) where
 k:Nat
 hk:k0≤k
 h:zb8 us k=zb8 us k0
def R10:Tbl:=R9
attribute [go_sem] R10
theorem zH1:zai Tryz.prog GA R10:=hR9
def R11:Tbl:=R10
attribute [go_sem] R11
theorem zH2:zai Tryz.prog GA R11:=zH1
end Go.Proofs.YtmconmiemdinkaaGreatDoor
namespace Go.Abs
open Go
section
variable {P:Program} {G:Nat→List FD} {T:Tbl}
theorem zvB {α ρ σ:Type}[Enc α][Enc ρ][Enc σ]{f:FuncId}{g:α→ρ×σ}{pre:α→Prop}(m:α→Nat)(hc:zal P f)(hT:zai P G T)
  (h:∀n,zai P G (T.add f (ztk g fun a=>m a<n∧pre a))→∀a,m a=n→pre a→(enc a).Wf→zaH P G f [.fz (enc a)] (hpL []) 0 (fun d _ _=>D.val d=some (.tup [.fz (enc (g a).1),.fz (enc (g a).2)]))):zai P G (T.add f (ztk g pre)):=by
 have key:∀n,zai P G (T.add f (ztk g fun a=>m a<n∧pre a)):=by
  intro n
  induction n with
  |zero=>exact zgu hc hT fun a ha=>by omega
  |succ n ih=>
   refine zgu hc hT fun a ha hw=>?_
   rcases Nat.lt_or_ge (m a) n with h1|h1
   ·have h2:=ih f (ztk g fun a=>m a<n∧pre a) [enc a] _ _ (by simp[Tbl.add]) (zAV) ⟨by rw[dec_enc],by rw[dec_enc];exact⟨h1,ha.2⟩⟩
    rw[dec_enc,zft]at h2
    exact h2
   ·exact h n ih a (by omega) ha.2 hw
 refine zgu hc hT fun a ha hw=>h (m a) (key _) a rfl ha hw
end
theorem zth {f:Abs.zab}:f.size=zab.sizes f.subs+1:=by cases f;rw[zab.size];rfl
theorem zuo {f:Abs.zab}:f.depth=zab.depths f.subs+1:=by cases f;rw[zab.depth];rfl
theorem zik {fs:List Abs.zab}{j:Nat}(h:j<fs.length):zab.sizes (fs.take (j+1))=zab.sizes (fs.take j)+fs[j].size:=by
 rw[List.take_succ_eq_append_getElem h,zab.sizes_app,zab.sizes,zab.sizes];omega
theorem zg5 {fs:List Abs.zab}{j:Nat}(h:j<fs.length):zab.depths (fs.take (j+1))=max (zab.depths (fs.take j)) fs[j].depth:=by
 rw[List.take_succ_eq_append_getElem h,zab.depths_app,zab.depths,zab.depths];omega
theorem ziG {fs:List Abs.zab}(j:Nat):zab.depths (fs.take j)≤zab.depths fs:=by
 have:=congrArg zab.depths (List.take_append_drop j fs)
 rw[zab.depths_app]at this;omega
end Go.Abs
namespace Go.Proofs.YtmconmiemdinkaaGreatDoor
open Go Go.Abs Go.Proofs
def zyo (f:Abs.zab):Prop:=f.fit=true∧f.size≤1000000
def R12:Tbl:=R11
attribute [go_sem] R12
theorem zH3:zai Tryz.prog GA R12:=zH2
def R13:Tbl:=R12
attribute [go_sem] R13
theorem zH4:zai Tryz.prog GA R13:=zH3
def R14:Tbl:=R13
attribute [go_sem] R14
theorem zH5:zai Tryz.prog GA R14:=zH4
def R15:Tbl:=R14.add 43 (ztk (fun f:Abs.zab=>((f.size:Int),(f.depth:Int))) zyo)
attribute [go_sem] R15
theorem zH6:zai Tryz.prog GA R15:=by
 refine zvB zab.size zGM zH5 fun n hT f hn hpre _=>?_
 obtain⟨hfit,hsz⟩:=hpre
 obtain⟨_,hsl,hfs⟩:=zab.fit_eq hfit
 have hse:=@zth f
 have hdd:=f.depth_size
 have hde:=@zuo f
 have hr:∀g∈f.subs,g.size<n∧zyo g:=fun g hg=>⟨by have:=zab.size_sub hg;omega,zab.fits_mem hfs hg,by have:=zab.size_sub hg;omega⟩
 have kT:=Kp.mk hT
 have kr:=Kp.mk hr
 obtain⟨S,hS⟩:∃S:Nat→Nat,S=fun j=>zab.sizes (f.subs.take j)+1:=⟨_,rfl⟩
 have hS0:S 0=1:=by rw[hS];simp[zab.sizes]
 have hSs:∀j (h:j<f.subs.length),S (j+1)=S j+f.subs[j].size:=fun j h=>by rw[hS];simp only[zik h];omega
 have hSl:∀j (h:j<f.subs.length),S j+f.subs[j].size≤1000001:=fun j h=>by have:=zgs h;rw[hS];simp only;omega
 have hSe:f.size=S f.subs.length:=by rw[hS,hse];simp only[List.take_length]
 obtain⟨E,hE⟩:∃E:Nat→Nat,E=fun j=>zab.depths (f.subs.take j):=⟨_,rfl⟩
 have hE0:E 0=0:=by rw[hE];simp[zab.depths]
 have hEs:∀j (h:j<f.subs.length),E (j+1)=max (E j) f.subs[j].depth:=fun j h=>by rw[hE];simp only[zg5 h]
 have hEl:∀j,E j≤1000000:=fun j=>by have:=ziG (fs:=f.subs) j;rw[hE];simp only;omega
 have hEe:f.depth=E f.subs.length+1:=by rw[hE,hde];simp only[List.take_length]
 have hEn:=hEl f.subs.length
 have kS:=Kp.mk hSs
 have kL:=Kp.mk hSl
 have kE:=Kp.mk hEs
 rw[hSe,hEe]
 clear hT hr hS hSs hSl hSe hE hEs hEl hEe hfit hfs hn
 refine zam (N:=32) hm kT.out 43000 (lst []) zGM Tryz.func43 rfl rfl (by simp) (by kernel_rfl) ?_
 repeat'(first|refine rq fun _=>?_|simp only[go_sem,Tryz.f43])
 refine zn9 (zob (id:=(43001,0)) (t:=1) (b:=true) (ys:=[.i .i64 f.kind,.s f.name.l,.sl (f.words.map enc),.sl (f.subs.map enc)]) (by simp only[go_sem]) (by simp only[go_sem])) ?_
 refine zaJ hm kT.out 43000 (lst []) (ι:=zjB f.subs.length 1 fun _=>True)
  ⟨fun q=>⟨frL [(4,.fz (.i .i64 (S q.i:Nat))),(5,.fz (.i .i64 (E q.i:Nat))),(11,.fz (.sl (f.subs.map enc))),(12,.fz (.i .i64 f.subs.length)),(13,.fz (.i .i64 q.i))],hpL [],q.m⟩,fun q=>f.subs.length-q.i⟩
  ⟨0,1,by omega,by omega,trivial⟩ (by kernel_rfl) ?_ ?_
 ·refine zau ?_ ?_ ?_<;>simp only[go_sem,hS0,hE0]
  all_goals first|done|rfl
 rintro⟨j,m,hj,hm1,_⟩
 try simp only at hj hm1
 rcases Nat.lt_or_ge j f.subs.length with h2|h2
 ·have hss:=kS.out j h2
  have hes:=kE.out j h2
  have hsl2:=kL.out j h2
  have hr:=kr.out _ (List.getElem_mem h2)
  obtain⟨x,hx⟩:∃x,f.subs[j]=x:=⟨_,rfl⟩
  rw[hx]at hss hsl2 hr hes
  repeat'(first|refine rq fun _=>?_|refine zaA.i hr fun _=>?_|simp only[go_sem,h2,hx,zaa,Tryz.f43])
  refine⟨⟨j+1,m+1,by omega,by omega,trivial⟩,by simp only;omega,?_⟩
  refine zau ?_ ?_ ?_<;>simp only[go_sem,hss,hes,Int.natCast_add]
  all_goals first|done|rfl|omega
 ·obtain rfl:j=f.subs.length:=by omega
  repeat'(first|refine rq fun _=>?_|simp only[go_sem,Nat.lt_irrefl,Tryz.f43])
  all_goals first|done|rfl
def R16:Tbl:=R15
attribute [go_sem] R16
theorem zH7:zai Tryz.prog GA R16:=zH6
end Go.Proofs.YtmconmiemdinkaaGreatDoor
namespace Go.Proofs.YtmconmiemdinkaaGreatDoor
open Go Go.Abs Go.Proofs
def R17:Tbl:=R16
attribute [go_sem] R17
theorem zH8:zai Tryz.prog GA R17:=zH7
def R18:Tbl:=R17
attribute [go_sem] R18
theorem zH9:zai Tryz.prog GA R18:=zH8
def R19:Tbl:=R18
attribute [go_sem] R19
theorem zIa:zai Tryz.prog GA R19:=zH9
def R20:Tbl:=R19
attribute [go_sem] R20
theorem zIb:zai Tryz.prog GA R20:=zIa
def R21:Tbl:=R20
attribute [go_sem] R21
theorem zIc:zai Tryz.prog GA R21:=zIb
def R22:Tbl:=R21
attribute [go_sem] R22
theorem zId:zai Tryz.prog GA R22:=zIc
end Go.Proofs.YtmconmiemdinkaaGreatDoor
namespace Go.Proofs.YtmconmiemdinkaaGreatDoor
open Go Go.Abs Go.Proofs
section
variable {P:Program} {G:Nat→List FD} {T:Tbl}
theorem zyh {α β ρ:Type}[Enc α][Enc β][Enc ρ]{f:FuncId}{g:α→β→ρ}(m:α→Nat)(hc:zal P f)(hT:zai P G T)
  (h:∀n,zai P G (T.add f (sp2 g fun a _=>m a<n))→∀a b,m a=n→(enc a).Wf→(enc b).Wf→zaH P G f [.fz (enc a),.fz (enc b)] (hpL []) 0 (fun d _ _=>D.val d=some (.fz (enc (g a b))))):zai P G (T.add f (sp2 g fun _ _=>True)):=by
 have key:∀n,zai P G (T.add f (sp2 g fun a _=>m a<n)):=by
  intro n
  induction n with
  |zero=>exact zbC hc hT fun a _ ha=>by omega
  |succ n ih=>
   refine zbC hc hT fun a b ha hw hw2=>?_
   rcases Nat.lt_or_ge (m a) n with h3|h3
   ·have h4:=ih f (sp2 g fun a _=>m a<n) [enc a,enc b] _ _ (by simp[Tbl.add]) (zu8) ⟨by rw[dec_enc],by rw[dec_enc],by rw[dec_enc];exact h3⟩
    rw[dec_enc,dec_enc,zft]at h4
    exact h4
   ·exact h n ih a b (by omega) hw hw2
 exact zbC hc hT fun a b _ hw hw2=>h (m a) (key _) a b rfl hw hw2
end
theorem zuP {a b:Abs.zab}(h1:a.kind=b.kind)(h2:a.name=b.name)(h3:a.words=b.words)(h4:a.subs=b.subs):a=b:=by
 cases a;cases b;simp only[zae,zbg,zbJ,zaR]at*;subst h1 h2 h3 h4;rfl
theorem zpZ {α:Type}{a b:List α}(h:a.length=b.length)(h2:a.take a.length=b.take a.length):a=b:=by
 rw[List.take_length]at h2
 rw[h,List.take_length]at h2
 exact h2
def R27:Tbl:=R22.add 9 (sp2 (fun a b:Abs.zab=>decide (a=b)) fun _ _=>True)
attribute [go_sem] R27
theorem zFA:zai Tryz.prog GA R27:=by
 refine zyh zab.size ok9 zId fun n hT a b hn hwa hwb=>?_
 obtain⟨Q,hQ⟩:∃Q:D→zaw→Nat→Prop,Q=(fun d _ _=>D.val d=some (.fz (enc (decide (a=b))))):=⟨_,rfl⟩
 rw[←hQ]
 have hf:a≠b→∀{H' n'},Q (.fz (.b false)) H' n':=fun h H' n'=>by rw[hQ];show _=some (D.fz (.b (decide (a=b))));rw[decide_eq_false h];rfl
 have ht:a=b→∀{H' n'},Q (.fz (.b true)) H' n':=fun h H' n'=>by rw[hQ];show _=some (D.fz (.b (decide (a=b))));rw[decide_eq_true h];rfl
 have hsl:a.subs.length≤zbr:=by
  have h:=zc2 (by have h:=hwa;rw[zaD]at h;exact h) (FD.sl (a.subs.map enc)) (by simp)
  have:=zd9 h
  simpa using this
 unfold zbr at hsl
 have hsz:∀g∈a.subs,g.size<n:=fun g hg=>by have:=zab.size_sub hg;omega
 have kf:=Kp.mk @hf
 have kt:=Kp.mk @ht
 have kz:=Kp.mk hsz
 have kT:=Kp.mk hT
 clear hf ht hQ hwa hwb hsz hT
 refine zam (N:=54) hm kT.out 9000 (lst []) ok9 Tryz.func9 rfl rfl (by simp) (by kernel_rfl) ?_
 repeat'(first|refine za1.d (fun _=>?_) (fun _=>?_)|refine za1.i (fun _=>?_) (fun _=>?_)|refine rq fun _=>?_|simp only[go_sem,Tryz.f9, *])
 all_goals try(refine kf.out (fun e=>?_);subst e;contradiction)
 rename_i e1 e2 e3 e4
 have hlen:a.subs.length=b.subs.length:=by omega
 refine zaJ hm kT.out 9000 (lst []) (ι:=zg4 a.subs.length fun i=>a.subs.take i=b.subs.take i)
  ⟨fun q=>⟨frL [(2,.ptr (9002,0) 0),(3,.ptr (9003,1) 0),(37,.fz (.i .i64 a.subs.length)),(38,.fz (.i .i64 q.i))],
   hpL [((9002,0),some ⟨[.fz (.i .i64 a.kind),.fz (.s a.name.l),.fz (.sl (a.words.map enc)),.fz (.sl (a.subs.map enc))],true,false⟩),((9003,1),some ⟨[.fz (.i .i64 b.kind),.fz (.s b.name.l),.fz (.sl (b.words.map enc)),.fz (.sl (b.subs.map enc))],true,false⟩)],2⟩,fun q=>a.subs.length-q.i⟩
  ⟨0,by omega,rfl⟩ (by kernel_rfl) ?_ ?_
 ·refine zau ?_ ?_ ?_<;>simp only[go_sem, *]
 rintro⟨i,hi,hpi⟩
 rcases Nat.lt_or_ge i a.subs.length with h1|h1
 ·have h2:i<b.subs.length:=by omega
  obtain⟨x,hx⟩:∃x,a.subs[i]=x:=⟨_,rfl⟩
  obtain⟨y,hy⟩:∃y,b.subs[i]=y:=⟨_,rfl⟩
  have hxs:x.size<n:=kz.out x (by rw[←hx];exact List.getElem_mem h1)
  by_cases hxy:x=y
  ·repeat'(first|refine rq fun _=>?_|simp only[go_sem,h1,h2,hx,hy,hxs,eq_true hxy,zaa,Tryz.f9])
   refine⟨⟨i+1,by omega,?_⟩,by simp only;omega,?_⟩
   ·rw[List.take_succ_eq_append_getElem h1,List.take_succ_eq_append_getElem h2,hpi,hx,hy,hxy]
   ·refine zau ?_ ?_ ?_<;>simp only[go_sem]
  ·repeat'(first|refine rq fun _=>?_|simp only[go_sem,h1,h2,hx,hy,hxs,eq_false hxy,zaa,Tryz.f9])
   exact kf.out fun e=>hxy (by subst e;rw[←hx,←hy])
 ·have h1':¬i<a.subs.length:=by omega
  obtain rfl:i=a.subs.length:=by omega
  repeat'(first|refine rq fun _=>?_|simp only[go_sem,Nat.lt_irrefl,h1',Tryz.f9])
  exact kt.out (zuP e1 e2 e3 (zpZ hlen hpi))
def zBJ (k:Int)(f g:Abs.zab):Abs.zab:= .mk k ⟨[]⟩ [] [f,g]
def R28:Tbl:=R27.add 24 (sp3 zBJ fun _ _ _=>True)
attribute [go_sem] R28
theorem zIe:zai Tryz.prog GA R28:=by
 refine zmG zGD zFA fun k f g _ _ _ _=>?_
 simp only[zBJ]
 refine zam (N:=12) hm zFA 24000 (lst []) zGD Tryz.func24 rfl rfl (by simp) (by kernel_rfl) ?_
 repeat'(first|refine rq fun _=>?_|simp only[go_sem,zac,Tryz.f24])
def zkU:Tv:=(.q 0 (.br [(1,(.br [(2,(.br [(3,.leaf)]))])),(2,(.q 1 (.br [(3,.leaf)])))]))
end Go.Proofs.YtmconmiemdinkaaGreatDoor

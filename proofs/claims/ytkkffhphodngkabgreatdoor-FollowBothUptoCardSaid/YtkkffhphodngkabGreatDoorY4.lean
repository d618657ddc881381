/- several texts of this proof in one; no conditions -/
import Derived.Test.YtkkffhphodngkabGreatDoorAT
import Derived.Test.YtkkffhphodngkabGreatDoorY3
import Derived.Test.YtkkffhphodngkabGreatDoorVS
import Derived.Test.YtkkffhphodngkabGreatDoorVP
import Derived.Test.YtkkffhphodngkabGreatDoorY2
import Derived.Test.YtkkffhphodngkabGreatDoorTB
import Derived.Test.YtkkffhphodngkabGreatDoorY9
import Derived.Test.YtkkffhphodngkabGreatDoorY14
import Derived.Test.YtkkffhphodngkabGreatDoorAC
set_option maxRecDepth 100000
set_option maxHeartbeats 1000000
set_option linter.unusedSimpArgs false
namespace Go.Abs
open Go
theorem zo1 {p:Nat→Prop}{i:Nat}(h:∀j,j<i→p j)(hi:p i):∀j,j<i+1→p j:=fun j h2=>by
 rcases Nat.lt_or_ge j i with h3|h3
 ·exact h j h3
 ·obtain rfl:j=i:=by omega
  exact hi
theorem zsH {m:zay}{l:List zac}(h:∀j (hj:j<l.length),zhp m l[j]=true):ze7 m l=true:=by rw[zi6];exact ztW h
theorem zu6 {m:zay}{l:List zac}{j:Nat}(hj:j<l.length)(h:zhp m l[j]=false):ze7 m l=false:=by rw[zi6];exact ztV hj h
end Go.Abs
namespace Go.Proofs.YtkkffhphodngkabGreatDoor
open Go Go.Abs Go.Proofs
section
variable {G:Nat→List FD}
theorem zrb {m:zay}{w:Str}{n:Int}:(zj5 m w n).2=(zfs m w n).isSome:=by
 unfold zj5
 cases zfs m w n<;>rfl
set_option maxHeartbeats 8000000 in
theorem f89 {m:zay}(hok:okR m.rels):∀(s:Nat) (f:Abs.zac),f.size≤s→szP f→∀(H:zav) (n:Nat) (R:D→zav→Nat→Prop),3<n→
  H (48002,0)=some ⟨[.fz (.i .i64 m.size),.fz (.sl (m.consts.map enc)),.fz (.sl (m.rels.map enc))],true,false⟩→H (48009,3)=some ⟨[.fn 89 [.ptr (48002,0) 0,.ptr (48009,3) 0]],true,false⟩→(∀n',n≤n'→R (.fz (.b (zhp m f))) H n')→
  zaw Tryz.prog G 89 [.fz (enc f),.ptr (48002,0) 0,.ptr (48009,3) 0] H n R:=by
 intro s
 induction s with
 |zero=>intro f hs;have:=f.size_pos;omega
 |succ s ih=>
  intro f hs hsz H n R hn ho1 ho2 hR
  have hsb:∀g∈f.subs,g.size≤s∧szP g:=fun g hg=>by have:=zmg hsz hg;exact⟨by omega,this.2⟩
  have hsl:=(zac.fit_eq hsz.1).2.1
  have hwl:=(zac.fit_eq hsz.1).1
  refine zby zJj (fun hfr=>?_) hR
  clear hR
  obtain⟨Q,hQ⟩:∃Q:D→zav→Nat→Prop,Q=(fun d' H' n'=>d'= .fz (.b (zhp m f))∧n≤n'∧∀id,id.2<n→H' id=H id):=⟨_,rfl⟩
  rw[←hQ]
  have hX:∀id o,H id=some o→id.2<n:=fun id o h=>by
   rcases Nat.lt_or_ge id.2 n with h1|h1
   ·exact h1
   ·rw[hfr id h1]at h;cases h
  have hX':∀{l:List (Abs.Id×Option O)} (id o),H id=some o→(id.2<n→zgq id l)→hpX l H id=some o:=fun id o h1 h2=>(zcx (h2 (hX id o h1))).trans h1
  have hfin:∀{b:Bool} {l:List (Abs.Id×Option O)} {n':Nat},zhp m f=b→n≤n'→(∀p∈l,n≤p.1.2)→Q (.fz (.b b)) (hpX l H) n':=fun{b l n'} h1 h2 h3=>by
   rw[hQ];exact⟨by rw[h1],h2,zi7 h3⟩
  have hR:=zA7 (m:=m) (f:=f)
  have kf:=Kp.mk @hfin
  have kx:=Kp.mk @hX'
  have kz:=Kp.mk hsb
  have kI:=Kp.mk ih
  clear hfin hX hX' hQ hsb ih hfr
  rw[show H=hpX [] H from rfl]
  by_cases hb:f.kind=2∧(zfs m f.name f.words.length).isSome=false
  ·have e:zhp m f=false:=by rw[hR,decide_eq_true hb.1,hb.2];rfl
   have c1:=hb.1
   have e2:(zj5 m f.name f.words.length).2=false:=by rw[zrb];exact hb.2
   obtain⟨r,b,hrb⟩:∃r b,zj5 m f.name f.words.length=(r,b):=⟨_,_,rfl⟩
   rw[hrb]at e2
   simp only at e2
   subst e2
   refine zae (N:=36) hm (G:=G) zA4 89000 (lst []) zJj Tryz.func89 rfl rfl (by simp) (by kernel_rfl) ?_
   repeat'(first|refine zaA.i hok fun _=>?_|refine rq fun _=>?_|simp only[go_sem,ho1,ho2,c1,hrb,zag,zad,Tryz.f89])
   exact kf.out e (by omega) (by intro p hp;simp at hp;rcases hp with rfl|rfl|rfl|rfl<;>simp only<;>omega)
  have hR2:zhp m f=ze7 m f.subs:=by
   rw[hR]
   by_cases h2:f.kind=2
   ·have h3:(zfs m f.name f.words.length).isSome=true:=by
     cases h4:(zfs m f.name f.words.length).isSome with
     |true=>rfl
     |false=>exact absurd ⟨h2,h4⟩ hb
    rw[h3];simp
   ·simp[h2]
  have hk:f.kind=2∨¬f.kind=2:=by omega
  refine zae (N:=36) hm (G:=G) zA4 89000 (lst []) zJj Tryz.func89 rfl rfl (by simp) (by kernel_rfl) ?_
  rcases hk with hk|hk
  case' inl=>
   have e2:(zj5 m f.name f.words.length).2=true:=by
    rw[zrb]
    cases h4:(zfs m f.name f.words.length).isSome with
    |true=>rfl
    |false=>exact absurd ⟨hk,h4⟩ hb
   obtain⟨r,b,hrb⟩:∃r b,zj5 m f.name f.words.length=(r,b):=⟨_,_,rfl⟩
   rw[hrb]at e2
   simp only at e2
   subst e2
   repeat'(first|refine zaA.i hok fun _=>?_|refine rq fun _=>?_|simp only[go_sem,ho1,ho2,hk,hrb,zag,zad,Tryz.f89])
  case' inr=>
   have hk':(f.kind=2)=False:=eq_false hk
   repeat'(first|refine rq fun _=>?_|simp only[go_sem,ho1,ho2,hk',zag,zad,Tryz.f89])
  all_goals
   refine zat hm (G:=G) zA4 89000 (lst []) (ι:=zcW f.subs.length n fun i=>∀j (h:j<f.subs.length),j<i→zhp m f.subs[j]=true)
    ⟨fun q=>⟨frL [(1,.ptr (48002,0) 0),(2,.ptr (48009,3) 0),(25,.fz (.sl (f.subs.map enc))),(26,.fz (.i .i64 f.subs.length)),(27,.fz (.i .i64 q.i))],hpX [] H,q.m⟩,fun q=>f.subs.length-q.i⟩
    ⟨0,n+9,by omega,by omega,fun j h h2=>by omega⟩ (by kernel_rfl) ?_ ?_
   ·refine zaO ?_ ?_ (fun id o ho=>?_) ?_
    ·simp only[go_sem]
    ·simp only[go_sem]
    ·refine kx.out id o ho fun h1=>?_
     ((repeat'(first|exact trivial|apply And.intro))<;>(rintro rfl;simp only at h1;omega))
    ·simp only[go_sem];omega
   rintro⟨i,q,hi,hq,hp⟩
   try simp only at hi hq
   rcases Nat.lt_or_ge i f.subs.length with h1|h1
   ·have hz:=kz.out _ (List.getElem_mem h1)
    have hbad:=zu6 (m:=m) h1
    obtain⟨x,hx⟩:∃x,f.subs[i]=x:=⟨_,rfl⟩
    rw[hx]at hz hbad
    have hgood:zhp m x=true→∀j (h:j<f.subs.length),j<i+1→zhp m f.subs[j]=true:=fun h j hj h2=>by
     rcases Nat.lt_or_ge j i with h3|h3
     ·exact hp j hj h3
     ·obtain rfl:j=i:=by omega
      rw[hx];exact h
    have kb:=Kp.mk hbad
    have kg:=Kp.mk hgood
    clear hbad hgood
    have ihx:=kI.out x hz.1 hz.2
    rw[zaE (f:=x)]at ihx
    have kih:=Kp.mk ihx
    clear ihx
    cases hv:zhp m x with
    |false=>
     repeat'(first|refine rq fun _=>?_|simp only[go_sem,h1,hx,ho1,ho2,zaa,Tryz.f89])
     refine zak.i (zcv rfl (kih.out _ _ _ (by omega) (by simp only[go_sem,ho1]) (by simp only[go_sem,ho2]) fun n' hn'=>?_))
     repeat'(first|refine rq fun _=>?_|simp only[go_sem,hv,ho1,ho2,Tryz.f89])
     exact kf.out (hR2.trans (kb.out hv)) (by omega) (by intro p hp;simp at hp;rcases hp with rfl|rfl<;>simp only<;>omega)
    |true=>
     repeat'(first|refine rq fun _=>?_|simp only[go_sem,h1,hx,ho1,ho2,zaa,Tryz.f89])
     refine zak.i (zcv rfl (kih.out _ _ _ (by omega) (by simp only[go_sem,ho1]) (by simp only[go_sem,ho2]) fun n' hn'=>?_))
     repeat'(first|refine rq fun _=>?_|simp only[go_sem,hv,ho1,ho2,Tryz.f89])
     refine⟨⟨i+1,n'+1,by omega,by omega,kg.out hv⟩,by simp only;omega,?_⟩
     refine zaO ?_ ?_ (fun id o ho=>?_) ?_
     ·simp only[go_sem]
     ·simp only[go_sem]
     ·refine kx.out id o ho fun h1=>?_
      ((repeat'(first|exact trivial|apply And.intro))<;>(rintro rfl;simp only at h1;omega))
     ·simp only[go_sem];omega
   obtain rfl:i=f.subs.length:=by omega
   repeat'(first|refine rq fun _=>?_|simp only[go_sem,Nat.lt_irrefl,Tryz.f89])
   exact kf.out (hR2.trans (zsH fun j h=>hp j h h)) (by omega) (by intro p hp;simp at hp)
theorem zsa {m:zay}{w:Str}:(zhV m w).2=(zec m w).isSome:=by
 unfold zhV
 cases zec m w<;>rfl
theorem zzk {m:zay}{f:Abs.zac}(h:∀j (hj:j<(zaP f).length),(zec m (zaP f)[j]).isSome=true):(cst f []).all (fun c=>(zec m c).isSome)=true:=by
 rw[List.all_eq_true]
 intro c hc
 obtain⟨j,hj,rfl⟩:=List.getElem_of_mem ((za9 f c).2 hc)
 exact h j hj
theorem zzl {m:zay}{f:Abs.zac}{j:Nat}(hj:j<(zaP f).length)(h:(zec m (zaP f)[j]).isSome=false):(cst f []).all (fun c=>(zec m c).isSome)=false:=by
 cases ha:(cst f []).all (fun c=>(zec m c).isSome)with
 |false=>rfl
 |true=>rw[List.all_eq_true.1 ha _ ((za9 f _).1 (List.getElem_mem hj))]at h;cases h
def flP (m:zay)(f:Abs.zac):Prop:=okC m.consts∧okR m.rels∧szP f∧(cst f []).length≤1000000
def A20:Tbl:=A19.add 48 (sp2 zck flP)
attribute [go_sem] A20
set_option maxHeartbeats 8000000 in
theorem zoK:zaq Tryz.prog G A20:=by
 refine zbC zJf zA4 fun m f hpre _ _=>?_
 obtain⟨hoc,hor,hsz,hcl⟩:=hpre
 have hul:=zeF f
 have hsp:(cst f []).length≤1000000∧f.size≤1000000:=⟨hcl,hsz.2⟩
 by_cases h1:5<zbP f
 ·have e:zck m f=⟨17, -2⟩:=by unfold zck;rw[if_pos h1]
  have h1':(5<(zbP f:Int))=True:=eq_true (by omega)
  rw[e]
  refine zae (N:=38) hm (G:=G) zA4 48000 (lst []) zJf Tryz.func48 rfl rfl (by simp) (by kernel_rfl) ?_
  repeat'(first|refine zaA.i hsz fun _=>?_|refine rq fun _=>?_|simp only[go_sem,h1',zag,zab,Tryz.f48])
 have h1':(5<(zbP f:Int))=False:=eq_false (by omega)
 have hlb:∀b,zgM m f=b→zck m f=if b=true then⟨6, -2⟩else⟨0,0⟩:=fun b h=>by unfold zck;rw[if_neg h1,h]
 obtain⟨U,hU⟩:∃U,zaP f=U:=⟨_,rfl⟩
 have hbad:∀j (h:j<U.length),(zec m U[j]).isSome=false→zck m f=⟨6, -2⟩:=fun j h h2=>by
  subst hU
  rw[hlb true (by unfold zgM;rw[zzl h h2];rfl),if_pos rfl]
 have hend:(∀j (h:j<U.length),(zec m U[j]).isSome=true)→zck m f=if zhp m f=false then⟨6, -2⟩else⟨0,0⟩:=fun h=>by
  subst hU
  rw[hlb (!zhp m f) (by unfold zgM;rw[zzk h];rfl)]
  cases zhp m f<;>rfl
 rw[hU]at hul
 have kb:=Kp.mk hbad
 have ke:=Kp.mk hend
 have h185:=f89 (G:=G) (m:=m) hor f.size f (Nat.le_refl _) hsz
 rw[zaE (f:=f)]at h185
 have k185:=Kp.mk h185
 clear hbad hend hlb h185
 refine zae (N:=38) hm (G:=G) zA4 48000 (lst []) zJf Tryz.func48 rfl rfl (by simp) (by kernel_rfl) ?_
 repeat'(first|refine zaA.i hsz fun _=>?_|refine zaA.i hsp fun _=>?_|refine rq fun _=>?_|simp only[go_sem,h1',hU,zag,zab,Tryz.f48])
 refine zat hm (G:=G) zA4 48000 (lst []) (ι:=zhd U.length fun i=>∀j (h:j<U.length),j<i→(zec m U[j]).isSome=true)
  ⟨fun q=>⟨frL [(2,.ptr (48002,0) 0),(3,.ptr (48003,1) 0),(4,.ptr (48004,2) 0),(15,.fz (.sl (U.map enc))),(16,.fz (.i .i64 U.length)),(17,.fz (.i .i64 q.i))],
   hpL [((48002,0),some ⟨[.fz (.i .i64 m.size),.fz (.sl (m.consts.map enc)),.fz (.sl (m.rels.map enc))],true,false⟩),((48003,1),some ⟨[.fz (.i .i64 f.kind),.fz (.s f.name.l),.fz (.sl (f.words.map enc)),.fz (.sl (f.subs.map enc))],true,false⟩),((48004,2),some ⟨[.fz (.i .i64 0),.fz (.i .i64 0)],true,false⟩)],3⟩,fun q=>U.length-q.i⟩
  ⟨0,by omega,fun j h h2=>by omega⟩ (by kernel_rfl) ?_ ?_
 ·refine zaj ?_ ?_ ?_<;>simp only[go_sem]
 rintro⟨i,hi,hp⟩
 try simp only at hi hp
 rcases Nat.lt_or_ge i U.length with h2|h2
 ·have hb:=kb.out i h2
  have hg:=fun h=>zo1 (p:=fun j=>∀h:j<U.length,(zec m U[j]).isSome=true) (i:=i) (fun j h1 h3=>hp j h3 h1) h
  obtain⟨v,b,hvb⟩:∃v b,zhV m U[i]=(v,b):=⟨_,_,rfl⟩
  have hs:b=(zec m U[i]).isSome:=by rw[←zsa,hvb]
  cases hbb:b with
  |false=>
   rw[hbb]at hs hvb
   rw[hb hs.symm]
   repeat'(first|refine zaA.i hoc fun _=>?_|refine rq fun _=>?_|simp only[go_sem,h2,hvb,zag,zad,zaa,Tryz.f48])
  |true=>
   rw[hbb]at hs hvb
   have kg:=Kp.mk (hg fun _=>hs.symm)
   repeat'(first|refine zaA.i hoc fun _=>?_|refine rq fun _=>?_|simp only[go_sem,h2,hvb,zag,zad,zaa,Tryz.f48])
   refine⟨⟨i+1,by omega,fun j h h3=>kg.out j h3 h⟩,by simp only;omega,?_⟩
   refine zaj ?_ ?_ ?_<;>simp only[go_sem]
 obtain rfl:i=U.length:=by omega
 rw[ke.out fun j h=>hp j h h]
 repeat'(first|refine rq fun _=>?_|simp only[go_sem,Nat.lt_irrefl,zag,Tryz.f48])
 refine zak.i (zcv rfl (k185.out _ _ _ (by omega) (by simp only[go_sem]) (by simp only[go_sem]) fun n' hn'=>?_))
 cases zhp m f
 ·repeat'(first|refine rq fun _=>?_|simp only[go_sem,Bool.false_eq_true,Tryz.f48])
 ·repeat'(first|refine rq fun _=>?_|simp only[go_sem,Bool.false_eq_true,Tryz.f48])
end
end Go.Proofs.YtkkffhphodngkabGreatDoor
namespace Go.Abs
open Go
def pvA {α:Type}(l:List α):Nat→Option α
 |0=>none
 |i+1=>l[i]?
theorem zdd {α:Type}{l:List α}{i:Nat}(h:i<l.length):pvA l (i+1)=some l[i]:=List.getElem?_eq_getElem h
def ccM (m:zay)(i:Nat):zbp:=zl7 m.size (pvA m.consts i) (m.consts.drop i) i
def rrM (m:zay)(i:Nat):zbp:=zog m.size (pvA m.rels i) (m.rels.drop i) i
def ttM (size arity:Int)(l:List (List Int))(k:Nat):Int:=zoh size arity (pvA l k) (l.drop k)
theorem zk6 {m:zay}{i:Nat}(h:i<m.consts.length):ccM m i=if zcG m.size (pvA m.consts i) m.consts[i]≠0 then⟨zcG m.size (pvA m.consts i) m.consts[i],i⟩else ccM m (i+1):=by
 unfold ccM
 rw[List.drop_eq_getElem_cons h,zl7,zdd h]
theorem zio {m:zay}{i:Nat}(h:i<m.rels.length):rrM m i=if zjT m.size (pvA m.rels i) m.rels[i]≠0 then⟨zjT m.size (pvA m.rels i) m.rels[i],i⟩else rrM m (i+1):=by
 unfold rrM
 rw[List.drop_eq_getElem_cons h,zog,zdd h]
theorem zis {size arity:Int}{l:List (List Int)}{k:Nat}(h:k<l.length):ttM size arity l k=if zf5 size arity (pvA l k) l[k]≠0 then zf5 size arity (pvA l k) l[k]else ttM size arity l (k+1):=by
 unfold ttM
 rw[List.drop_eq_getElem_cons h,zoh,zdd h]
theorem zAz (m:zay):ccM m m.consts.length=⟨0,0⟩:=by unfold ccM;rw[List.drop_length,zl7]
theorem zv3 (m:zay):rrM m m.rels.length=⟨0,0⟩:=by unfold rrM;rw[List.drop_length,zog]
theorem zwC (size arity:Int)(l:List (List Int)):ttM size arity l l.length=0:=by unfold ttM;rw[List.drop_length,zoh]
theorem zjf {m:zay}(h1:¬(m.size<1∨6<m.size))(h2:¬(300<m.consts.length∨300<m.rels.length)):((ccM m 0).code≠0→zbw m=ccM m 0)∧((ccM m 0).code=0→zbw m=rrM m 0):=by
 unfold zbw
 rw[if_neg h1,if_neg h2]
 exact⟨fun h=>if_pos h,fun h=>if_neg fun h2=>h2 h⟩
end Go.Abs
namespace Go.Proofs.YtkkffhphodngkabGreatDoor
open Go Go.Abs Go.Proofs
section
variable {G:Nat→List FD}
theorem f81 {c a:Int}{id:Abs.Id}{H:zav}{n:Nat}{R:D→zav→Nat→Prop}(hid:id.2<n)(ho:H id=some ⟨[.fz (.i .i64 a)],true,false⟩)(hR:∀n',n≤n'→R (.agg [.fz (.i .i64 c),.fz (.i .i64 a)]) H n'):
  zaw Tryz.prog G 81 [.fz (.i .i64 c),.ptr id 0] H n R:=by
 refine zby zLo (fun hfr=>?_) hR
 have hne:id≠(81003,n):=by rintro rfl;simp at hid
 obtain⟨Q,hQ⟩:∃Q:D→zav→Nat→Prop,Q=(fun d' H' n'=>d'= .agg [.fz (.i .i64 c),.fz (.i .i64 a)]∧n≤n'∧∀id,id.2<n→H' id=H id):=⟨_,rfl⟩
 rw[←hQ]
 have e:H=hpX [] H:=rfl
 rw[e]
 refine zae (N:=7) hm (G:=G) zoK 81000 (lst []) zLo Tryz.func81 rfl rfl (by simp) (by kernel_rfl) ?_
 simp only[go_sem]
 rw[if_neg hne,ho]
 simp only[go_sem,Tryz.f81]
 rw[hQ]
 refine⟨?_,by omega,fun id hid=>zi7 (n:=n) (by intro p hp;simp at hp;rcases hp with rfl|rfl<;>simp) id hid⟩
 simp only[go_sem]
theorem f82 {c a:Int}{id:Abs.Id}{H:zav}{n:Nat}{R:D→zav→Nat→Prop}(hid:id.2<n)(ho:H id=some ⟨[.fz (.i .i64 a)],true,false⟩)(hR:∀n',n≤n'→R (.agg [.fz (.i .i64 c),.fz (.i .i64 a)]) H n'):
  zaw Tryz.prog G 82 [.fz (.i .i64 c),.ptr id 0] H n R:=by
 refine zby zLp (fun hfr=>?_) hR
 have hne:id≠(82003,n):=by rintro rfl;simp at hid
 obtain⟨Q,hQ⟩:∃Q:D→zav→Nat→Prop,Q=(fun d' H' n'=>d'= .agg [.fz (.i .i64 c),.fz (.i .i64 a)]∧n≤n'∧∀id,id.2<n→H' id=H id):=⟨_,rfl⟩
 rw[←hQ]
 have e:H=hpX [] H:=rfl
 rw[e]
 refine zae (N:=7) hm (G:=G) zoK 82000 (lst []) zLp Tryz.func82 rfl rfl (by simp) (by kernel_rfl) ?_
 simp only[go_sem]
 rw[if_neg hne,ho]
 simp only[go_sem,Tryz.f82]
 rw[hQ]
 refine⟨?_,by omega,fun id hid=>zi7 (n:=n) (by intro p hp;simp at hp;rcases hp with rfl|rfl<;>simp) id hid⟩
 simp only[go_sem]
def A21:Tbl:=A20.add 46 (sp1 zbw fun _=>True)
attribute [go_sem] A21
set_option maxHeartbeats 20000000 in
theorem zA5:zaq Tryz.prog G A21:=by
 refine zb3 zCV zoK fun m _ hw=>?_
 have hcl:=zdf (zbS (by have h:=hw;rw[zdL]at h;exact h) (FD.sl (m.consts.map enc)) (by simp))
 have hrl:=zdf (zbS (by have h:=hw;rw[zdL]at h;exact h) (FD.sl (m.rels.map enc)) (by simp))
 simp only[List.length_map,zbe]at hcl hrl
 have htl:∀i (h:i<m.rels.length),m.rels[i].tuples.length≤281474976710656∧∀k (h2:k<m.rels[i].tuples.length),m.rels[i].tuples[k].length≤281474976710656:=fun i h=>by
  have h3:(enc m.rels[i]).Wf:=zfY (zbS (by have h:=hw;rw[zdL]at h;exact h) (FD.sl (m.rels.map enc)) (by simp)) _ (List.mem_map_of_mem (List.getElem_mem h))
  rw[zph]at h3
  have h4:=zbS h3 (FD.sl (m.rels[i].tuples.map enc)) (by simp)
  have h5:=zdf h4
  simp only[List.length_map,zbe]at h5
  refine⟨h5,fun k hk=>?_⟩
  have h6:(enc m.rels[i].tuples[k]).Wf:=zfY h4 _ (List.mem_map_of_mem (List.getElem_mem hk))
  have h7:=zdf h6
  simpa[zbe]using h7
 have ktl:=Kp.mk htl
 clear htl hw
 by_cases c1:m.size<1
 ·have e:zbw m=⟨3,0⟩:=by unfold zbw;rw[if_pos (.inl c1)]
  rw[e]
  refine zae (N:=167) hm (G:=G) zoK 46000 (lst []) zCV Tryz.func46 rfl rfl (by simp) (by kernel_rfl) ?_
  repeat'(first|refine rq fun _=>?_|simp only[go_sem,c1,Tryz.f46])
 by_cases c2:6<m.size
 ·have e:zbw m=⟨3,0⟩:=by unfold zbw;rw[if_pos (.inr c2)]
  rw[e]
  refine zae (N:=167) hm (G:=G) zoK 46000 (lst []) zCV Tryz.func46 rfl rfl (by simp) (by kernel_rfl) ?_
  repeat'(first|refine rq fun _=>?_|simp only[go_sem,c1,c2,Tryz.f46])
 by_cases c3:300<m.consts.length
 ·have e:zbw m=⟨2,0⟩:=by unfold zbw;rw[if_neg (by omega),if_pos (.inl c3)]
  have c3':(300<(m.consts.length:Int))=True:=eq_true (by omega)
  rw[e]
  refine zae (N:=167) hm (G:=G) zoK 46000 (lst []) zCV Tryz.func46 rfl rfl (by simp) (by kernel_rfl) ?_
  repeat'(first|refine rq fun _=>?_|simp only[go_sem,c1,c2,c3',Tryz.f46])
 have c3':(300<(m.consts.length:Int))=False:=eq_false (by omega)
 by_cases c4:300<m.rels.length
 ·have e:zbw m=⟨2,0⟩:=by unfold zbw;rw[if_neg (by omega),if_pos (.inr c4)]
  have c4':(300<(m.rels.length:Int))=True:=eq_true (by omega)
  rw[e]
  refine zae (N:=167) hm (G:=G) zoK 46000 (lst []) zCV Tryz.func46 rfl rfl (by simp) (by kernel_rfl) ?_
  repeat'(first|refine rq fun _=>?_|simp only[go_sem,c1,c2,c3',c4',Tryz.f46])
 have c4':(300<(m.rels.length:Int))=False:=eq_false (by omega)
 obtain⟨hX1,hX2⟩:=zjf (m:=m) (by omega) (by omega)
 obtain⟨X,hX⟩:∃X,zbw m=X:=⟨_,rfl⟩
 rw[hX]at hX1 hX2 ⊢
 have kX1:=Kp.mk hX1
 have kX2:=Kp.mk hX2
 clear hX1 hX2 hX
 refine zae (N:=167) hm (G:=G) zoK 46000 (lst []) zCV Tryz.func46 rfl rfl (by simp) (by kernel_rfl) ?_
 repeat'(first|refine rq fun _=>?_|simp only[go_sem,c1,c2,c3',c4',Tryz.f46])
 refine zat hm (G:=G) zoK 46000 (lst []) (ι:=zcW m.consts.length 2 fun i=>ccM m 0=ccM m i)
  ⟨fun q=>⟨frL [(1,.ptr (46001,0) 0),(2,.ptr (46002,1) 0),(34,.fz (.sl (m.consts.map enc))),(35,.fz (.i .i64 m.consts.length)),(36,.fz (.i .i64 q.i))],hpL [((46001,0),some ⟨[.fz (.i .i64 m.size),.fz (.sl (m.consts.map enc)),.fz (.sl (m.rels.map enc))],true,false⟩),((46002,1),some ⟨[.fz (.i .i64 0),.fz (.i .i64 0)],true,false⟩)],q.m⟩,fun q=>m.consts.length-q.i⟩
  ⟨0,2,by omega,by omega,rfl⟩ (by kernel_rfl) ?_ ?_
 ·refine zaj ?_ ?_ ?_<;>simp only[go_sem]
 rintro⟨i,q,hi,hq,hp⟩
 try simp only at hi hq hp
 rcases Nat.lt_or_ge i m.consts.length with h1|h1
 ·have hstep:=zk6 h1
  have hbad:∀k:Int,zcG m.size (pvA m.consts i) m.consts[i]=k→k≠0→X=⟨k,i⟩:=fun k h h2=>by
   rw[h,if_pos h2]at hstep
   rw[kX1.out (by rw[hp,hstep];exact h2),hp,hstep]
  have hgood:zcG m.size (pvA m.consts i) m.consts[i]=0→ccM m 0=ccM m (i+1):=fun h=>by
   rw[h,if_neg (by simp)]at hstep
   rw[hp,hstep]
  obtain⟨c,hc⟩:∃c,m.consts[i]=c:=⟨_,rfl⟩
  rw[hc]at hbad hgood
  clear hstep
  rcases i with _|i
  ·rw[show pvA m.consts 0=none from rfl]at hbad hgood
   have h1':(0:Int)<(m.consts.length:Int):=by omega
   cases hn:zas c.name with
   |false=>
    rw[hbad 10 (by unfold zcG;rw[if_pos hn]) (by decide)]
    repeat'(first|refine rq fun _=>?_|simp only[go_sem,h1,h1',hc,zbb,zad,zaa,hn,Tryz.f46])
    refine zak.i (f81 (a:=0) (by simp only;omega) (by simp only[go_sem]) fun n' hn'=>?_)
    repeat'(first|refine rq fun _=>?_|simp only[go_sem,Tryz.f46])
   |true=>
    have s1:∀x y z:Int,(if zas c.name=false then x else y)=y:=fun x y z=>if_neg (by simp[hn])
    by_cases hv0:c.value<0
    ·rw[hbad 3 (by unfold zcG;rw[if_neg (by simp[hn]),if_neg (by simp),if_pos (.inl hv0)]) (by decide)]
     repeat'(first|refine rq fun _=>?_|simp only[go_sem,h1,h1',hc,zbb,zad,zaa,hn,hv0,Tryz.f46])
     refine zak.i (f81 (a:=0) (by simp only;omega) (by simp only[go_sem]) fun n' hn'=>?_)
     repeat'(first|refine rq fun _=>?_|simp only[go_sem,Tryz.f46])
    by_cases hv1:m.size≤c.value
    ·rw[hbad 3 (by unfold zcG;rw[if_neg (by simp[hn]),if_neg (by simp),if_pos (.inr hv1)]) (by decide)]
     repeat'(first|refine rq fun _=>?_|simp only[go_sem,h1,h1',hc,zbb,zad,zaa,hn,hv0,hv1,Tryz.f46])
     refine zak.i (f81 (a:=0) (by simp only;omega) (by simp only[go_sem]) fun n' hn'=>?_)
     repeat'(first|refine rq fun _=>?_|simp only[go_sem,Tryz.f46])
    have hnx:=hgood (by unfold zcG;rw[if_neg (by simp[hn]),if_neg (by simp),if_neg (by omega)])
    repeat'(first|refine rq fun _=>?_|simp only[go_sem,h1,h1',hc,zbb,zad,zaa,hn,hv0,hv1,Tryz.f46])
    refine⟨⟨0+1,q+2,by omega,by omega,hnx⟩,by simp only;omega,?_⟩
    refine zaj ?_ ?_ ?_<;>simp only[go_sem]
    all_goals first|done|omega|rfl
  ·have h0:i<m.consts.length:=by omega
   rw[zdd h0]at hbad hgood
   obtain⟨p,hpv⟩:∃p,m.consts[i]=p:=⟨_,rfl⟩
   rw[hpv]at hbad hgood
   have h1':(i:Int)+1<(m.consts.length:Int):=by omega
   have hi0:(0:Int)<(i:Int)+1:=by omega
   have hi1:(i:Int)+1-1=(i:Int):=by omega
   have hi2:((i:Int)+1).toNat=i+1:=by omega
   cases hn:zas c.name with
   |false=>
    rw[hbad 10 (by unfold zcG;rw[if_pos hn]) (by decide)]
    repeat'(first|refine rq fun _=>?_|simp only[go_sem,h1,h1',hi0,hi1,hi2,hc,zbb,zad,zaa,hn,Tryz.f46])
    refine zak.i (f81 (a:=(i:Int)+1) (by simp only;omega) (by simp only[go_sem]) fun n' hn'=>?_)
    repeat'(first|refine rq fun _=>?_|simp only[go_sem,Tryz.f46])
   |true=>
    have s1:∀x y z:Int,(if zas c.name=false then x else y)=y:=fun x y z=>if_neg (by simp[hn])
    by_cases hlt:p.name.l<c.name.l
    rotate_left
    ·have hlt':Op.bytesLess p.name.l c.name.l=false:=by rw[zbM];exact decide_eq_false hlt
     rw[hbad 13 (by unfold zcG;rw[if_neg (by simp[hn]),if_pos (by simp only;rw[decide_eq_false hlt];rfl)]) (by decide)]
     repeat'(first|refine rq fun _=>?_|simp only[go_sem,h1,h1',hi0,hi1,hi2,hc,zbb,zad,zaa,hn,hlt',hpv,h0,Tryz.f46])
     refine zak.i (f81 (a:=(i:Int)+1) (by simp only;omega) (by simp only[go_sem]) fun n' hn'=>?_)
     repeat'(first|refine rq fun _=>?_|simp only[go_sem,Tryz.f46])
    have hlt':Op.bytesLess p.name.l c.name.l=true:=by rw[zbM];exact decide_eq_true hlt
    by_cases hv0:c.value<0
    ·rw[hbad 3 (by unfold zcG;rw[if_neg (by simp[hn]),if_neg (by simp[hlt]),if_pos (.inl hv0)]) (by decide)]
     repeat'(first|refine rq fun _=>?_|simp only[go_sem,h1,h1',hi0,hi1,hi2,hc,zbb,zad,zaa,hn,hlt',hpv,h0,hv0,Tryz.f46])
     refine zak.i (f81 (a:=(i:Int)+1) (by simp only;omega) (by simp only[go_sem]) fun n' hn'=>?_)
     repeat'(first|refine rq fun _=>?_|simp only[go_sem,Tryz.f46])
    by_cases hv1:m.size≤c.value
    ·rw[hbad 3 (by unfold zcG;rw[if_neg (by simp[hn]),if_neg (by simp[hlt]),if_pos (.inr hv1)]) (by decide)]
     repeat'(first|refine rq fun _=>?_|simp only[go_sem,h1,h1',hi0,hi1,hi2,hc,zbb,zad,zaa,hn,hlt',hpv,h0,hv0,hv1,Tryz.f46])
     refine zak.i (f81 (a:=(i:Int)+1) (by simp only;omega) (by simp only[go_sem]) fun n' hn'=>?_)
     repeat'(first|refine rq fun _=>?_|simp only[go_sem,Tryz.f46])
    have hnx:=hgood (by unfold zcG;rw[if_neg (by simp[hn]),if_neg (by simp[hlt]),if_neg (by omega)])
    repeat'(first|refine rq fun _=>?_|simp only[go_sem,h1,h1',hi0,hi1,hi2,hc,zbb,zad,zaa,hn,hlt',hpv,h0,hv0,hv1,Tryz.f46])
    refine⟨⟨(i+1)+1,q+2,by omega,by omega,hnx⟩,by simp only;omega,?_⟩
    refine zaj ?_ ?_ ?_<;>simp only[go_sem]
    all_goals first|done|omega|rfl
 obtain rfl:i=m.consts.length:=by omega
 have hrr:X=rrM m 0:=kX2.out (by rw[hp,zAz])
 repeat'(first|refine rq fun _=>?_|simp only[go_sem,Nat.lt_irrefl,Tryz.f46])
 refine zat hm (G:=G) zoK 46000 (lst []) (ι:=zcW m.rels.length 2 fun i=>rrM m 0=rrM m i)
  ⟨fun q=>⟨frL [(1,.ptr (46001,0) 0),(2,.ptr (46002,1) 0),(78,.fz (.sl (m.rels.map enc))),(79,.fz (.i .i64 m.rels.length)),(80,.fz (.i .i64 q.i))],hpL [((46001,0),some ⟨[.fz (.i .i64 m.size),.fz (.sl (m.consts.map enc)),.fz (.sl (m.rels.map enc))],true,false⟩),((46002,1),some ⟨[.fz (.i .i64 0),.fz (.i .i64 0)],true,false⟩)],q.m⟩,fun q=>m.rels.length-q.i⟩
  ⟨0,q,by omega,by omega,rfl⟩ (by kernel_rfl) ?_ ?_
 ·refine zaj ?_ ?_ ?_<;>simp only[go_sem]
  all_goals first|done|omega|rfl
 clear hp
 rintro⟨i,q,hi,hq,hp⟩
 try simp only at hi hq hp
 rcases Nat.lt_or_ge i m.rels.length with h1|h1
 ·have hstep:=zio h1
  have hbad:∀k:Int,zjT m.size (pvA m.rels i) m.rels[i]=k→k≠0→X=⟨k,i⟩:=fun k h h2=>by
   rw[h,if_pos h2]at hstep
   rw[hrr,hp,hstep]
  have hgood:zjT m.size (pvA m.rels i) m.rels[i]=0→rrM m 0=rrM m (i+1):=fun h=>by
   rw[h,if_neg (by simp)]at hstep
   rw[hp,hstep]
  have htx:=ktl.out i h1
  obtain⟨x,hx⟩:∃x,m.rels[i]=x:=⟨_,rfl⟩
  rw[hx]at hbad hgood
  simp only[hx]at htx
  clear hstep
  rcases i with _|i
  ·rw[show pvA m.rels 0=none from rfl]at hbad hgood
   have h1':(0:Int)<(m.rels.length:Int):=by omega
   cases hn:zas x.name with
   |false=>
    rw[hbad 10 (by unfold zjT;rw[if_pos hn]) (by decide)]
    repeat'(first|refine rq fun _=>?_|simp only[go_sem,h1,h1',hx,zaL,zad,zaa,hn,Tryz.f46])
    refine zak.i (f82 (a:=0) (by simp only;omega) (by simp only[go_sem]) fun n' hn'=>?_)
    repeat'(first|refine rq fun _=>?_|simp only[go_sem,Tryz.f46])
   |true=>
    by_cases a0:x.arity<0
    ·rw[hbad 3 (by unfold zjT;rw[if_neg (by simp[hn]),if_pos (.inl a0)]) (by decide)]
     repeat'(first|refine rq fun _=>?_|simp only[go_sem,h1,h1',hx,zaL,zad,zaa,hn,a0,Tryz.f46])
     refine zak.i (f82 (a:=0) (by simp only;omega) (by simp only[go_sem]) fun n' hn'=>?_)
     repeat'(first|refine rq fun _=>?_|simp only[go_sem,Tryz.f46])
    by_cases a1:3<x.arity
    ·rw[hbad 3 (by unfold zjT;rw[if_neg (by simp[hn]),if_pos (.inr a1)]) (by decide)]
     repeat'(first|refine rq fun _=>?_|simp only[go_sem,h1,h1',hx,zaL,zad,zaa,hn,a0,a1,Tryz.f46])
     refine zak.i (f82 (a:=0) (by simp only;omega) (by simp only[go_sem]) fun n' hn'=>?_)
     repeat'(first|refine rq fun _=>?_|simp only[go_sem,Tryz.f46])
    have hrel:zjT m.size none x=ttM m.size x.arity x.tuples 0:=by unfold zjT;rw[if_neg (by simp[hn]),if_neg (by omega),if_neg (by simp)];rfl
    rw[hrel]at hbad hgood
    have hT:=htx.1
    repeat'(first|refine rq fun _=>?_|simp only[go_sem,h1,h1',hx,zaL,zad,zaa,hn,a0,a1,Tryz.f46])
    refine zat hm (G:=G) zoK 46000 (lst []) (ι:=zcW x.tuples.length (q+2) fun k=>ttM m.size x.arity x.tuples 0=ttM m.size x.arity x.tuples k)
     ⟨fun q2=>⟨frL [(1,.ptr (46001,0) 0),(2,.ptr (46002,1) 0),(78,.fz (.sl (m.rels.map enc))),(79,.fz (.i .i64 m.rels.length)),(80,.fz (.i .i64 (0))),(6,.ptr (46006,q) 0),(7,.ptr (46007,q+1) 0),(8,.fn 82 [.ptr (46006,q) 0]),(118,.fz (.sl (x.tuples.map enc))),(119,.fz (.i .i64 x.tuples.length)),(120,.fz (.i .i64 q2.i))],hpL [((46001,0),some ⟨[.fz (.i .i64 m.size),.fz (.sl (m.consts.map enc)),.fz (.sl (m.rels.map enc))],true,false⟩),((46002,1),some ⟨[.fz (.i .i64 0),.fz (.i .i64 0)],true,false⟩),((46006,q),some ⟨[.fz (.i .i64 (0))],true,false⟩),((46007,q+1),some ⟨[.fz (.s x.name.l),.fz (.i .i64 x.arity),.fz (.sl (x.tuples.map enc))],true,false⟩)],q2.m⟩,fun q2=>x.tuples.length-q2.i⟩
     ⟨0,q+2,by omega,by omega,rfl⟩ (by kernel_rfl) ?_ ?_
    ·refine zaj ?_ ?_ ?_<;>simp only[go_sem]
     all_goals first|done|omega|rfl
    rintro⟨k,mm,hk,hmm,hpk2⟩
    try simp only at hk hmm hpk2
    rcases Nat.lt_or_ge k x.tuples.length with h2|h2
    ·have hst:=zis (size:=m.size) (arity:=x.arity) h2
     have kTb:∀c:Int,zf5 m.size x.arity (pvA x.tuples k) x.tuples[k]=c→c≠0→X=⟨c,(0:Int)⟩:=fun c h h4=>by
      rw[h,if_pos h4]at hst
      exact hbad c (hpk2.trans hst) h4
     have kTg:zf5 m.size x.arity (pvA x.tuples k) x.tuples[k]=0→ttM m.size x.arity x.tuples 0=ttM m.size x.arity x.tuples (k+1):=fun h=>by
      rw[h,if_neg (by simp)]at hst
      exact hpk2.trans hst
     have htlk:=htx.2 k h2
     obtain⟨t,hkx⟩:∃t,x.tuples[k]=t:=⟨_,rfl⟩
     rw[hkx]at kTb kTg htlk
     clear hst
     have hk:=h2
     rcases k with _|k
     ·rw[show pvA x.tuples 0=none from rfl]at kTb kTg
      have hk1:(0:Int)<(x.tuples.length:Int):=by omega
      by_cases ha:(t.length:Int)=x.arity
      rotate_left
      ·have ha':((t.length:Int)=x.arity)=False:=eq_false ha
       rw[kTb 9 (by unfold zf5;rw[if_pos ha]) (by decide)]
       repeat'(first|refine rq fun _=>?_|simp only[go_sem,hk,hk1,hkx,h1,h1',hx,zaL,zad,zaa,hn,a0,a1,ha',Tryz.f46])
       refine zak.i (f82 (a:=0) (by simp only;omega) (by simp only[go_sem]) fun n' hn'=>?_)
       repeat'(first|refine rq fun _=>?_|simp only[go_sem,Tryz.f46])
      have ha':((t.length:Int)=x.arity)=True:=eq_true ha
      repeat'(first|refine rq fun _=>?_|simp only[go_sem,hk,hk1,hkx,h1,h1',hx,zaL,zad,zaa,hn,a0,a1,ha',Tryz.f46])
      refine zat hm (G:=G) zoK 46000 (lst []) (ι:=zhd t.length fun j=>(t.take j).any (fun v=>decide (v<0∨m.size≤v))=false)
       ⟨fun q2=>⟨frL [(1,.ptr (46001,0) 0),(2,.ptr (46002,1) 0),(78,.fz (.sl (m.rels.map enc))),(79,.fz (.i .i64 m.rels.length)),(80,.fz (.i .i64 (0))),(6,.ptr (46006,q) 0),(7,.ptr (46007,q+1) 0),(8,.fn 82 [.ptr (46006,q) 0]),(118,.fz (.sl (x.tuples.map enc))),(119,.fz (.i .i64 x.tuples.length)),(120,.fz (.i .i64 (0))),(9,.fz (.i .i64 (0))),(10,.fz (.sl (t.map enc))),(132,.fz (.sl (t.map enc))),(133,.fz (.i .i64 t.length)),(134,.fz (.i .i64 q2.i))],hpL [((46001,0),some ⟨[.fz (.i .i64 m.size),.fz (.sl (m.consts.map enc)),.fz (.sl (m.rels.map enc))],true,false⟩),((46002,1),some ⟨[.fz (.i .i64 0),.fz (.i .i64 0)],true,false⟩),((46006,q),some ⟨[.fz (.i .i64 (0))],true,false⟩),((46007,q+1),some ⟨[.fz (.s x.name.l),.fz (.i .i64 x.arity),.fz (.sl (x.tuples.map enc))],true,false⟩)],mm⟩,fun q2=>t.length-q2.i⟩
       ⟨0,by omega,rfl⟩ (by kernel_rfl) ?_ ?_
      ·refine zaj ?_ ?_ ?_<;>simp only[go_sem]
       all_goals first|done|omega|rfl
      rintro⟨j,hj,hpj⟩
      try simp only at hj hpj
      rcases Nat.lt_or_ge j t.length with h3|h3
      ·have hts:=zdv (f:=fun v=>decide (v<0∨m.size≤v)) h3
       rw[hpj,Bool.false_or]at hts
       have hany:decide (t[j]<0∨m.size≤t[j])=true→t.any (fun v=>decide (v<0∨m.size≤v))=true:=fun h=>List.any_eq_true.2 ⟨t[j],List.getElem_mem h3,h⟩
       obtain⟨v,hv⟩:∃v,t[j]=v:=⟨_,rfl⟩
       rw[hv]at hts hany
       by_cases v0:v<0
       ·rw[kTb 3 (by unfold zf5;rw[if_neg (by simp[ha]),if_pos (hany (decide_eq_true (.inl v0)))]) (by decide)]
        repeat'(first|refine rq fun _=>?_|simp only[go_sem,hk,hk1,hkx,h1,h1',hx,zaL,zad,zaa,hn,a0,a1,h3,hv,v0,Tryz.f46])
        refine zak.i (f82 (a:=0) (by simp only;omega) (by simp only[go_sem]) fun n' hn'=>?_)
        repeat'(first|refine rq fun _=>?_|simp only[go_sem,Tryz.f46])
       by_cases v1:m.size≤v
       ·rw[kTb 3 (by unfold zf5;rw[if_neg (by simp[ha]),if_pos (hany (decide_eq_true (.inr v1)))]) (by decide)]
        repeat'(first|refine rq fun _=>?_|simp only[go_sem,hk,hk1,hkx,h1,h1',hx,zaL,zad,zaa,hn,a0,a1,h3,hv,v0,v1,Tryz.f46])
        refine zak.i (f82 (a:=0) (by simp only;omega) (by simp only[go_sem]) fun n' hn'=>?_)
        repeat'(first|refine rq fun _=>?_|simp only[go_sem,Tryz.f46])
       have hnj:(t.take (j+1)).any (fun v=>decide (v<0∨m.size≤v))=false:=by rw[hts];exact decide_eq_false (by omega)
       repeat'(first|refine rq fun _=>?_|simp only[go_sem,hk,hk1,hkx,h1,h1',hx,zaL,zad,zaa,hn,a0,a1,h3,hv,v0,v1,Tryz.f46])
       refine⟨⟨j+1,by omega,hnj⟩,by simp only;omega,?_⟩
       refine zaj ?_ ?_ ?_<;>simp only[go_sem]
       all_goals first|done|omega|rfl
      obtain rfl:j=t.length:=by omega
      rw[List.take_length]at hpj
      have hnx:=kTg (by unfold zf5;rw[if_neg (by simp[ha]),if_neg (by rw[hpj];decide),if_neg (by simp)])
      repeat'(first|refine rq fun _=>?_|simp only[go_sem,hk,hk1,hkx,h1,h1',hx,zaL,zad,zaa,hn,a0,a1,Nat.lt_irrefl,Tryz.f46])
      refine⟨⟨0+1,mm,by omega,by omega,hnx⟩,by simp only;omega,?_⟩
      refine zaj ?_ ?_ ?_<;>simp only[go_sem]
      all_goals first|done|omega|rfl
     ·have hk0:k<x.tuples.length:=by omega
      rw[zdd hk0]at kTb kTg
      obtain⟨y,hpk⟩:∃y,x.tuples[k]=y:=⟨_,rfl⟩
      rw[hpk]at kTb kTg
      have hk1:(k:Int)+1<(x.tuples.length:Int):=by omega
      have hk3:(0:Int)<(k:Int)+1:=by omega
      have hk4:(k:Int)+1-1=(k:Int):=by omega
      have hk5:((k:Int)+1).toNat=k+1:=by omega
      by_cases ha:(t.length:Int)=x.arity
      rotate_left
      ·have ha':((t.length:Int)=x.arity)=False:=eq_false ha
       rw[kTb 9 (by unfold zf5;rw[if_pos ha]) (by decide)]
       repeat'(first|refine rq fun _=>?_|simp only[go_sem,hk,hk1,hkx,hk0,hpk,hk3,hk4,hk5,h1,h1',hx,zaL,zad,zaa,hn,a0,a1,ha',Tryz.f46])
       refine zak.i (f82 (a:=0) (by simp only;omega) (by simp only[go_sem]) fun n' hn'=>?_)
       repeat'(first|refine rq fun _=>?_|simp only[go_sem,Tryz.f46])
      have ha':((t.length:Int)=x.arity)=True:=eq_true ha
      repeat'(first|refine rq fun _=>?_|simp only[go_sem,hk,hk1,hkx,hk0,hpk,hk3,hk4,hk5,h1,h1',hx,zaL,zad,zaa,hn,a0,a1,ha',Tryz.f46])
      refine zat hm (G:=G) zoK 46000 (lst []) (ι:=zhd t.length fun j=>(t.take j).any (fun v=>decide (v<0∨m.size≤v))=false)
       ⟨fun q2=>⟨frL [(1,.ptr (46001,0) 0),(2,.ptr (46002,1) 0),(78,.fz (.sl (m.rels.map enc))),(79,.fz (.i .i64 m.rels.length)),(80,.fz (.i .i64 (0))),(6,.ptr (46006,q) 0),(7,.ptr (46007,q+1) 0),(8,.fn 82 [.ptr (46006,q) 0]),(118,.fz (.sl (x.tuples.map enc))),(119,.fz (.i .i64 x.tuples.length)),(120,.fz (.i .i64 ((k:Int)+1))),(9,.fz (.i .i64 ((k:Int)+1))),(10,.fz (.sl (t.map enc))),(132,.fz (.sl (t.map enc))),(133,.fz (.i .i64 t.length)),(134,.fz (.i .i64 q2.i))],hpL [((46001,0),some ⟨[.fz (.i .i64 m.size),.fz (.sl (m.consts.map enc)),.fz (.sl (m.rels.map enc))],true,false⟩),((46002,1),some ⟨[.fz (.i .i64 0),.fz (.i .i64 0)],true,false⟩),((46006,q),some ⟨[.fz (.i .i64 (0))],true,false⟩),((46007,q+1),some ⟨[.fz (.s x.name.l),.fz (.i .i64 x.arity),.fz (.sl (x.tuples.map enc))],true,false⟩)],mm⟩,fun q2=>t.length-q2.i⟩
       ⟨0,by omega,rfl⟩ (by kernel_rfl) ?_ ?_
      ·refine zaj ?_ ?_ ?_<;>simp only[go_sem]
       all_goals first|done|omega|rfl
      rintro⟨j,hj,hpj⟩
      try simp only at hj hpj
      rcases Nat.lt_or_ge j t.length with h3|h3
      ·have hts:=zdv (f:=fun v=>decide (v<0∨m.size≤v)) h3
       rw[hpj,Bool.false_or]at hts
       have hany:decide (t[j]<0∨m.size≤t[j])=true→t.any (fun v=>decide (v<0∨m.size≤v))=true:=fun h=>List.any_eq_true.2 ⟨t[j],List.getElem_mem h3,h⟩
       obtain⟨v,hv⟩:∃v,t[j]=v:=⟨_,rfl⟩
       rw[hv]at hts hany
       by_cases v0:v<0
       ·rw[kTb 3 (by unfold zf5;rw[if_neg (by simp[ha]),if_pos (hany (decide_eq_true (.inl v0)))]) (by decide)]
        repeat'(first|refine rq fun _=>?_|simp only[go_sem,hk,hk1,hkx,hk0,hpk,hk3,hk4,hk5,h1,h1',hx,zaL,zad,zaa,hn,a0,a1,h3,hv,v0,Tryz.f46])
        refine zak.i (f82 (a:=0) (by simp only;omega) (by simp only[go_sem]) fun n' hn'=>?_)
        repeat'(first|refine rq fun _=>?_|simp only[go_sem,Tryz.f46])
       by_cases v1:m.size≤v
       ·rw[kTb 3 (by unfold zf5;rw[if_neg (by simp[ha]),if_pos (hany (decide_eq_true (.inr v1)))]) (by decide)]
        repeat'(first|refine rq fun _=>?_|simp only[go_sem,hk,hk1,hkx,hk0,hpk,hk3,hk4,hk5,h1,h1',hx,zaL,zad,zaa,hn,a0,a1,h3,hv,v0,v1,Tryz.f46])
        refine zak.i (f82 (a:=0) (by simp only;omega) (by simp only[go_sem]) fun n' hn'=>?_)
        repeat'(first|refine rq fun _=>?_|simp only[go_sem,Tryz.f46])
       have hnj:(t.take (j+1)).any (fun v=>decide (v<0∨m.size≤v))=false:=by rw[hts];exact decide_eq_false (by omega)
       repeat'(first|refine rq fun _=>?_|simp only[go_sem,hk,hk1,hkx,hk0,hpk,hk3,hk4,hk5,h1,h1',hx,zaL,zad,zaa,hn,a0,a1,h3,hv,v0,v1,Tryz.f46])
       refine⟨⟨j+1,by omega,hnj⟩,by simp only;omega,?_⟩
       refine zaj ?_ ?_ ?_<;>simp only[go_sem]
       all_goals first|done|omega|rfl
      obtain rfl:j=t.length:=by omega
      rw[List.take_length]at hpj
      by_cases hcl2:0≤zdw y t
      ·rw[kTb 13 (by unfold zf5;rw[if_neg (by simp[ha]),if_neg (by rw[hpj];decide),if_pos (by simp[hcl2])]) (by decide)]
       repeat'(first|refine rq fun _=>?_|simp only[go_sem,hk,hk1,hkx,hk0,hpk,hk3,hk4,hk5,h1,h1',hx,zaL,zad,zaa,hn,a0,a1,Nat.lt_irrefl,hcl2,Tryz.f46])
       refine zak.i (f82 (a:=0) (by simp only;omega) (by simp only[go_sem]) fun n' hn'=>?_)
       repeat'(first|refine rq fun _=>?_|simp only[go_sem,Tryz.f46])
      have hnx:=kTg (by unfold zf5;rw[if_neg (by simp[ha]),if_neg (by rw[hpj];decide),if_neg (by simp[hcl2])])
      repeat'(first|refine rq fun _=>?_|simp only[go_sem,hk,hk1,hkx,hk0,hpk,hk3,hk4,hk5,h1,h1',hx,zaL,zad,zaa,hn,a0,a1,Nat.lt_irrefl,hcl2,Tryz.f46])
      refine⟨⟨(k+1)+1,mm,by omega,by omega,hnx⟩,by simp only;omega,?_⟩
      refine zaj ?_ ?_ ?_<;>simp only[go_sem]
      all_goals first|done|omega|rfl
    obtain rfl:k=x.tuples.length:=by omega
    have hnx:=hgood (by rw[hpk2,zwC])
    repeat'(first|refine rq fun _=>?_|simp only[go_sem,h1,h1',hx,zaL,zad,zaa,hn,a0,a1,Nat.lt_irrefl,Tryz.f46])
    refine⟨⟨0+1,mm,by omega,by omega,hnx⟩,by simp only;omega,?_⟩
    refine zaj ?_ ?_ ?_<;>simp only[go_sem]
    all_goals first|done|omega|rfl
  ·have h0:i<m.rels.length:=by omega
   rw[zdd h0]at hbad hgood
   obtain⟨p,hpv⟩:∃p,m.rels[i]=p:=⟨_,rfl⟩
   rw[hpv]at hbad hgood
   have h1':(i:Int)+1<(m.rels.length:Int):=by omega
   have hi0:(0:Int)<(i:Int)+1:=by omega
   have hi1:(i:Int)+1-1=(i:Int):=by omega
   have hi2:((i:Int)+1).toNat=i+1:=by omega
   cases hn:zas x.name with
   |false=>
    rw[hbad 10 (by unfold zjT;rw[if_pos hn]) (by decide)]
    repeat'(first|refine rq fun _=>?_|simp only[go_sem,h1,h1',hx,zaL,zad,zaa,hpv,h0,hi0,hi1,hi2,hn,Tryz.f46])
    refine zak.i (f82 (a:=(i:Int)+1) (by simp only;omega) (by simp only[go_sem]) fun n' hn'=>?_)
    repeat'(first|refine rq fun _=>?_|simp only[go_sem,Tryz.f46])
   |true=>
    by_cases a0:x.arity<0
    ·rw[hbad 3 (by unfold zjT;rw[if_neg (by simp[hn]),if_pos (.inl a0)]) (by decide)]
     repeat'(first|refine rq fun _=>?_|simp only[go_sem,h1,h1',hx,zaL,zad,zaa,hpv,h0,hi0,hi1,hi2,hn,a0,Tryz.f46])
     refine zak.i (f82 (a:=(i:Int)+1) (by simp only;omega) (by simp only[go_sem]) fun n' hn'=>?_)
     repeat'(first|refine rq fun _=>?_|simp only[go_sem,Tryz.f46])
    by_cases a1:3<x.arity
    ·rw[hbad 3 (by unfold zjT;rw[if_neg (by simp[hn]),if_pos (.inr a1)]) (by decide)]
     repeat'(first|refine rq fun _=>?_|simp only[go_sem,h1,h1',hx,zaL,zad,zaa,hpv,h0,hi0,hi1,hi2,hn,a0,a1,Tryz.f46])
     refine zak.i (f82 (a:=(i:Int)+1) (by simp only;omega) (by simp only[go_sem]) fun n' hn'=>?_)
     repeat'(first|refine rq fun _=>?_|simp only[go_sem,Tryz.f46])
    by_cases hcp:0≤zqA p x
    ·rw[hbad 13 (by unfold zjT;rw[if_neg (by simp[hn]),if_neg (by omega),if_pos (by simp[hcp])]) (by decide)]
     repeat'(first|refine rq fun _=>?_|simp only[go_sem,h1,h1',hx,zaL,zad,zaa,hpv,h0,hi0,hi1,hi2,hn,a0,a1,hcp,Tryz.f46])
     refine zak.i (f82 (a:=(i:Int)+1) (by simp only;omega) (by simp only[go_sem]) fun n' hn'=>?_)
     repeat'(first|refine rq fun _=>?_|simp only[go_sem,Tryz.f46])
    have hrel:zjT m.size (some p) x=ttM m.size x.arity x.tuples 0:=by unfold zjT;rw[if_neg (by simp[hn]),if_neg (by omega),if_neg (by simp[hcp])];rfl
    rw[hrel]at hbad hgood
    have hT:=htx.1
    repeat'(first|refine rq fun _=>?_|simp only[go_sem,h1,h1',hx,zaL,zad,zaa,hpv,h0,hi0,hi1,hi2,hn,a0,a1,hcp,Tryz.f46])
    refine zat hm (G:=G) zoK 46000 (lst []) (ι:=zcW x.tuples.length (q+2) fun k=>ttM m.size x.arity x.tuples 0=ttM m.size x.arity x.tuples k)
     ⟨fun q2=>⟨frL [(1,.ptr (46001,0) 0),(2,.ptr (46002,1) 0),(78,.fz (.sl (m.rels.map enc))),(79,.fz (.i .i64 m.rels.length)),(80,.fz (.i .i64 ((i:Int)+1))),(6,.ptr (46006,q) 0),(7,.ptr (46007,q+1) 0),(8,.fn 82 [.ptr (46006,q) 0]),(118,.fz (.sl (x.tuples.map enc))),(119,.fz (.i .i64 x.tuples.length)),(120,.fz (.i .i64 q2.i))],hpL [((46001,0),some ⟨[.fz (.i .i64 m.size),.fz (.sl (m.consts.map enc)),.fz (.sl (m.rels.map enc))],true,false⟩),((46002,1),some ⟨[.fz (.i .i64 0),.fz (.i .i64 0)],true,false⟩),((46006,q),some ⟨[.fz (.i .i64 ((i:Int)+1))],true,false⟩),((46007,q+1),some ⟨[.fz (.s x.name.l),.fz (.i .i64 x.arity),.fz (.sl (x.tuples.map enc))],true,false⟩)],q2.m⟩,fun q2=>x.tuples.length-q2.i⟩
     ⟨0,q+2,by omega,by omega,rfl⟩ (by kernel_rfl) ?_ ?_
    ·refine zaj ?_ ?_ ?_<;>simp only[go_sem]
     all_goals first|done|omega|rfl
    rintro⟨k,mm,hk,hmm,hpk2⟩
    try simp only at hk hmm hpk2
    rcases Nat.lt_or_ge k x.tuples.length with h2|h2
    ·have hst:=zis (size:=m.size) (arity:=x.arity) h2
     have kTb:∀c:Int,zf5 m.size x.arity (pvA x.tuples k) x.tuples[k]=c→c≠0→X=⟨c,((i:Int)+1:Int)⟩:=fun c h h4=>by
      rw[h,if_pos h4]at hst
      exact hbad c (hpk2.trans hst) h4
     have kTg:zf5 m.size x.arity (pvA x.tuples k) x.tuples[k]=0→ttM m.size x.arity x.tuples 0=ttM m.size x.arity x.tuples (k+1):=fun h=>by
      rw[h,if_neg (by simp)]at hst
      exact hpk2.trans hst
     have htlk:=htx.2 k h2
     obtain⟨t,hkx⟩:∃t,x.tuples[k]=t:=⟨_,rfl⟩
     rw[hkx]at kTb kTg htlk
     clear hst
     have hk:=h2
     rcases k with _|k
     ·rw[show pvA x.tuples 0=none from rfl]at kTb kTg
      have hk1:(0:Int)<(x.tuples.length:Int):=by omega
      by_cases ha:(t.length:Int)=x.arity
      rotate_left
      ·have ha':((t.length:Int)=x.arity)=False:=eq_false ha
       rw[kTb 9 (by unfold zf5;rw[if_pos ha]) (by decide)]
       repeat'(first|refine rq fun _=>?_|simp only[go_sem,hk,hk1,hkx,h1,h1',hx,zaL,zad,zaa,hpv,h0,hi0,hi1,hi2,hn,a0,a1,hcp,ha',Tryz.f46])
       refine zak.i (f82 (a:=(i:Int)+1) (by simp only;omega) (by simp only[go_sem]) fun n' hn'=>?_)
       repeat'(first|refine rq fun _=>?_|simp only[go_sem,Tryz.f46])
      have ha':((t.length:Int)=x.arity)=True:=eq_true ha
      repeat'(first|refine rq fun _=>?_|simp only[go_sem,hk,hk1,hkx,h1,h1',hx,zaL,zad,zaa,hpv,h0,hi0,hi1,hi2,hn,a0,a1,hcp,ha',Tryz.f46])
      refine zat hm (G:=G) zoK 46000 (lst []) (ι:=zhd t.length fun j=>(t.take j).any (fun v=>decide (v<0∨m.size≤v))=false)
       ⟨fun q2=>⟨frL [(1,.ptr (46001,0) 0),(2,.ptr (46002,1) 0),(78,.fz (.sl (m.rels.map enc))),(79,.fz (.i .i64 m.rels.length)),(80,.fz (.i .i64 ((i:Int)+1))),(6,.ptr (46006,q) 0),(7,.ptr (46007,q+1) 0),(8,.fn 82 [.ptr (46006,q) 0]),(118,.fz (.sl (x.tuples.map enc))),(119,.fz (.i .i64 x.tuples.length)),(120,.fz (.i .i64 (0))),(9,.fz (.i .i64 (0))),(10,.fz (.sl (t.map enc))),(132,.fz (.sl (t.map enc))),(133,.fz (.i .i64 t.length)),(134,.fz (.i .i64 q2.i))],hpL [((46001,0),some ⟨[.fz (.i .i64 m.size),.fz (.sl (m.consts.map enc)),.fz (.sl (m.rels.map enc))],true,false⟩),((46002,1),some ⟨[.fz (.i .i64 0),.fz (.i .i64 0)],true,false⟩),((46006,q),some ⟨[.fz (.i .i64 ((i:Int)+1))],true,false⟩),((46007,q+1),some ⟨[.fz (.s x.name.l),.fz (.i .i64 x.arity),.fz (.sl (x.tuples.map enc))],true,false⟩)],mm⟩,fun q2=>t.length-q2.i⟩
       ⟨0,by omega,rfl⟩ (by kernel_rfl) ?_ ?_
      ·refine zaj ?_ ?_ ?_<;>simp only[go_sem]
       all_goals first|done|omega|rfl
      rintro⟨j,hj,hpj⟩
      try simp only at hj hpj
      rcases Nat.lt_or_ge j t.length with h3|h3
      ·have hts:=zdv (f:=fun v=>decide (v<0∨m.size≤v)) h3
       rw[hpj,Bool.false_or]at hts
       have hany:decide (t[j]<0∨m.size≤t[j])=true→t.any (fun v=>decide (v<0∨m.size≤v))=true:=fun h=>List.any_eq_true.2 ⟨t[j],List.getElem_mem h3,h⟩
       obtain⟨v,hv⟩:∃v,t[j]=v:=⟨_,rfl⟩
       rw[hv]at hts hany
       by_cases v0:v<0
       ·rw[kTb 3 (by unfold zf5;rw[if_neg (by simp[ha]),if_pos (hany (decide_eq_true (.inl v0)))]) (by decide)]
        repeat'(first|refine rq fun _=>?_|simp only[go_sem,hk,hk1,hkx,h1,h1',hx,zaL,zad,zaa,hpv,h0,hi0,hi1,hi2,hn,a0,a1,hcp,h3,hv,v0,Tryz.f46])
        refine zak.i (f82 (a:=(i:Int)+1) (by simp only;omega) (by simp only[go_sem]) fun n' hn'=>?_)
        repeat'(first|refine rq fun _=>?_|simp only[go_sem,Tryz.f46])
       by_cases v1:m.size≤v
       ·rw[kTb 3 (by unfold zf5;rw[if_neg (by simp[ha]),if_pos (hany (decide_eq_true (.inr v1)))]) (by decide)]
        repeat'(first|refine rq fun _=>?_|simp only[go_sem,hk,hk1,hkx,h1,h1',hx,zaL,zad,zaa,hpv,h0,hi0,hi1,hi2,hn,a0,a1,hcp,h3,hv,v0,v1,Tryz.f46])
        refine zak.i (f82 (a:=(i:Int)+1) (by simp only;omega) (by simp only[go_sem]) fun n' hn'=>?_)
        repeat'(first|refine rq fun _=>?_|simp only[go_sem,Tryz.f46])
       have hnj:(t.take (j+1)).any (fun v=>decide (v<0∨m.size≤v))=false:=by rw[hts];exact decide_eq_false (by omega)
       repeat'(first|refine rq fun _=>?_|simp only[go_sem,hk,hk1,hkx,h1,h1',hx,zaL,zad,zaa,hpv,h0,hi0,hi1,hi2,hn,a0,a1,hcp,h3,hv,v0,v1,Tryz.f46])
       refine⟨⟨j+1,by omega,hnj⟩,by simp only;omega,?_⟩
       refine zaj ?_ ?_ ?_<;>simp only[go_sem]
       all_goals first|done|omega|rfl
      obtain rfl:j=t.length:=by omega
      rw[List.take_length]at hpj
      have hnx:=kTg (by unfold zf5;rw[if_neg (by simp[ha]),if_neg (by rw[hpj];decide),if_neg (by simp)])
      repeat'(first|refine rq fun _=>?_|simp only[go_sem,hk,hk1,hkx,h1,h1',hx,zaL,zad,zaa,hpv,h0,hi0,hi1,hi2,hn,a0,a1,hcp,Nat.lt_irrefl,Tryz.f46])
      refine⟨⟨0+1,mm,by omega,by omega,hnx⟩,by simp only;omega,?_⟩
      refine zaj ?_ ?_ ?_<;>simp only[go_sem]
      all_goals first|done|omega|rfl
     ·have hk0:k<x.tuples.length:=by omega
      rw[zdd hk0]at kTb kTg
      obtain⟨y,hpk⟩:∃y,x.tuples[k]=y:=⟨_,rfl⟩
      rw[hpk]at kTb kTg
      have hk1:(k:Int)+1<(x.tuples.length:Int):=by omega
      have hk3:(0:Int)<(k:Int)+1:=by omega
      have hk4:(k:Int)+1-1=(k:Int):=by omega
      have hk5:((k:Int)+1).toNat=k+1:=by omega
      by_cases ha:(t.length:Int)=x.arity
      rotate_left
      ·have ha':((t.length:Int)=x.arity)=False:=eq_false ha
       rw[kTb 9 (by unfold zf5;rw[if_pos ha]) (by decide)]
       repeat'(first|refine rq fun _=>?_|simp only[go_sem,hk,hk1,hkx,hk0,hpk,hk3,hk4,hk5,h1,h1',hx,zaL,zad,zaa,hpv,h0,hi0,hi1,hi2,hn,a0,a1,hcp,ha',Tryz.f46])
       refine zak.i (f82 (a:=(i:Int)+1) (by simp only;omega) (by simp only[go_sem]) fun n' hn'=>?_)
       repeat'(first|refine rq fun _=>?_|simp only[go_sem,Tryz.f46])
      have ha':((t.length:Int)=x.arity)=True:=eq_true ha
      repeat'(first|refine rq fun _=>?_|simp only[go_sem,hk,hk1,hkx,hk0,hpk,hk3,hk4,hk5,h1,h1',hx,zaL,zad,zaa,hpv,h0,hi0,hi1,hi2,hn,a0,a1,hcp,ha',Tryz.f46])
      refine zat hm (G:=G) zoK 46000 (lst []) (ι:=zhd t.length fun j=>(t.take j).any (fun v=>decide (v<0∨m.size≤v))=false)
       ⟨fun q2=>⟨frL [(1,.ptr (46001,0) 0),(2,.ptr (46002,1) 0),(78,.fz (.sl (m.rels.map enc))),(79,.fz (.i .i64 m.rels.length)),(80,.fz (.i .i64 ((i:Int)+1))),(6,.ptr (46006,q) 0),(7,.ptr (46007,q+1) 0),(8,.fn 82 [.ptr (46006,q) 0]),(118,.fz (.sl (x.tuples.map enc))),(119,.fz (.i .i64 x.tuples.length)),(120,.fz (.i .i64 ((k:Int)+1))),(9,.fz (.i .i64 ((k:Int)+1))),(10,.fz (.sl (t.map enc))),(132,.fz (.sl (t.map enc))),(133,.fz (.i .i64 t.length)),(134,.fz (.i .i64 q2.i))],hpL [((46001,0),some ⟨[.fz (.i .i64 m.size),.fz (.sl (m.consts.map enc)),.fz (.sl (m.rels.map enc))],true,false⟩),((46002,1),some ⟨[.fz (.i .i64 0),.fz (.i .i64 0)],true,false⟩),((46006,q),some ⟨[.fz (.i .i64 ((i:Int)+1))],true,false⟩),((46007,q+1),some ⟨[.fz (.s x.name.l),.fz (.i .i64 x.arity),.fz (.sl (x.tuples.map enc))],true,false⟩)],mm⟩,fun q2=>t.length-q2.i⟩
       ⟨0,by omega,rfl⟩ (by kernel_rfl) ?_ ?_
      ·refine zaj ?_ ?_ ?_<;>simp only[go_sem]
       all_goals first|done|omega|rfl
      rintro⟨j,hj,hpj⟩
      try simp only at hj hpj
      rcases Nat.lt_or_ge j t.length with h3|h3
      ·have hts:=zdv (f:=fun v=>decide (v<0∨m.size≤v)) h3
       rw[hpj,Bool.false_or]at hts
       have hany:decide (t[j]<0∨m.size≤t[j])=true→t.any (fun v=>decide (v<0∨m.size≤v))=true:=fun h=>List.any_eq_true.2 ⟨t[j],List.getElem_mem h3,h⟩
       obtain⟨v,hv⟩:∃v,t[j]=v:=⟨_,rfl⟩
       rw[hv]at hts hany
       by_cases v0:v<0
       ·rw[kTb 3 (by unfold zf5;rw[if_neg (by simp[ha]),if_pos (hany (decide_eq_true (.inl v0)))]) (by decide)]
        repeat'(first|refine rq fun _=>?_|simp only[go_sem,hk,hk1,hkx,hk0,hpk,hk3,hk4,hk5,h1,h1',hx,zaL,zad,zaa,hpv,h0,hi0,hi1,hi2,hn,a0,a1,hcp,h3,hv,v0,Tryz.f46])
        refine zak.i (f82 (a:=(i:Int)+1) (by simp only;omega) (by simp only[go_sem]) fun n' hn'=>?_)
        repeat'(first|refine rq fun _=>?_|simp only[go_sem,Tryz.f46])
       by_cases v1:m.size≤v
       ·rw[kTb 3 (by unfold zf5;rw[if_neg (by simp[ha]),if_pos (hany (decide_eq_true (.inr v1)))]) (by decide)]
        repeat'(first|refine rq fun _=>?_|simp only[go_sem,hk,hk1,hkx,hk0,hpk,hk3,hk4,hk5,h1,h1',hx,zaL,zad,zaa,hpv,h0,hi0,hi1,hi2,hn,a0,a1,hcp,h3,hv,v0,v1,Tryz.f46])
        refine zak.i (f82 (a:=(i:Int)+1) (by simp only;omega) (by simp only[go_sem]) fun n' hn'=>?_)
        repeat'(first|refine rq fun _=>?_|simp only[go_sem,Tryz.f46])
       have hnj:(t.take (j+1)).any (fun v=>decide (v<0∨m.size≤v))=false:=by rw[hts];exact decide_eq_false (by omega)
       repeat'(first|refine rq fun _=>?_|simp only[go_sem,hk,hk1,hkx,hk0,hpk,hk3,hk4,hk5,h1,h1',hx,zaL,zad,zaa,hpv,h0,hi0,hi1,hi2,hn,a0,a1,hcp,h3,hv,v0,v1,Tryz.f46])
       refine⟨⟨j+1,by omega,hnj⟩,by simp only;omega,?_⟩
       refine zaj ?_ ?_ ?_<;>simp only[go_sem]
       all_goals first|done|omega|rfl
      obtain rfl:j=t.length:=by omega
      rw[List.take_length]at hpj
      by_cases hcl2:0≤zdw y t
      ·rw[kTb 13 (by unfold zf5;rw[if_neg (by simp[ha]),if_neg (by rw[hpj];decide),if_pos (by simp[hcl2])]) (by decide)]
       repeat'(first|refine rq fun _=>?_|simp only[go_sem,hk,hk1,hkx,hk0,hpk,hk3,hk4,hk5,h1,h1',hx,zaL,zad,zaa,hpv,h0,hi0,hi1,hi2,hn,a0,a1,hcp,Nat.lt_irrefl,hcl2,Tryz.f46])
       refine zak.i (f82 (a:=(i:Int)+1) (by simp only;omega) (by simp only[go_sem]) fun n' hn'=>?_)
       repeat'(first|refine rq fun _=>?_|simp only[go_sem,Tryz.f46])
      have hnx:=kTg (by unfold zf5;rw[if_neg (by simp[ha]),if_neg (by rw[hpj];decide),if_neg (by simp[hcl2])])
      repeat'(first|refine rq fun _=>?_|simp only[go_sem,hk,hk1,hkx,hk0,hpk,hk3,hk4,hk5,h1,h1',hx,zaL,zad,zaa,hpv,h0,hi0,hi1,hi2,hn,a0,a1,hcp,Nat.lt_irrefl,hcl2,Tryz.f46])
      refine⟨⟨(k+1)+1,mm,by omega,by omega,hnx⟩,by simp only;omega,?_⟩
      refine zaj ?_ ?_ ?_<;>simp only[go_sem]
      all_goals first|done|omega|rfl
    obtain rfl:k=x.tuples.length:=by omega
    have hnx:=hgood (by rw[hpk2,zwC])
    repeat'(first|refine rq fun _=>?_|simp only[go_sem,h1,h1',hx,zaL,zad,zaa,hpv,h0,hi0,hi1,hi2,hn,a0,a1,hcp,Nat.lt_irrefl,Tryz.f46])
    refine⟨⟨(i+1)+1,mm,by omega,by omega,hnx⟩,by simp only;omega,?_⟩
    refine zaj ?_ ?_ ?_<;>simp only[go_sem]
    all_goals first|done|omega|rfl
 obtain rfl:i=m.rels.length:=by omega
 have hX0:X=⟨0,0⟩:=by rw[hrr,hp,zv3]
 rw[hX0]
 repeat'(first|refine rq fun _=>?_|simp only[go_sem,Nat.lt_irrefl,Tryz.f46])
end
end Go.Proofs.YtkkffhphodngkabGreatDoor
namespace Go.Abs
open Go
structure zPw (T n0:Nat)(X:zbp)(i:Int)(inv:Nat→Prop) where
 k:Nat
 c:Int
 m:Nat
 hm:n0≤m
 h:(c=0∧k≤T∧inv k)∨(c≠0∧X=⟨c,i⟩)
end Go.Abs
namespace Go.Proofs.YtkkffhphodngkabGreatDoor
open Go Go.Abs Go.Proofs
section
variable {G:Nat→List FD}
def A22:Tbl:=A21
attribute [go_sem] A22
theorem zMk:zaq Tryz.prog G A22:=zA5
end
end Go.Proofs.YtkkffhphodngkabGreatDoor
namespace Go.Abs
open Go
theorem zef {α:Type}{lt:α→α→Prop}(tr:∀a b c,lt a b→lt b c→lt a c){l:List α}(h:∀i (h:i+1<l.length),lt l[i] l[i+1]):∀j i (hj:j<l.length) (hi:i<l.length),i<j→lt l[i] l[j]:=by
 intro j
 induction j with
 |zero=>intro i _ _ h;omega
 |succ j ih=>
  intro i hj hi hij
  rcases Nat.lt_or_ge i j with h1|h1
  ·exact tr _ _ _ (ih i (by omega) hi h1) (h j hj)
  ·obtain rfl:i=j:=by omega
   exact h i hj
theorem zAy {m:zay}(h:(ccM m 0).code=0):∀i (hi:i<m.consts.length),zcG m.size (pvA m.consts i) m.consts[i]=0:=by
 have key:∀i,i≤m.consts.length→(ccM m i).code=0:=by
  intro i
  induction i with
  |zero=>intro _;exact h
  |succ i ih=>
   intro hi
   have h1:=ih (by omega)
   rw[zk6 (by omega)]at h1
   split at h1
   ·rename_i h2;exact absurd h1 h2
   ·exact h1
 intro i hi
 have h1:=key i (by omega)
 rw[zk6 hi]at h1
 split at h1
 ·rename_i h2;exact absurd h1 h2
 ·rename_i h2;exact Decidable.not_not.1 h2
theorem zv2 {m:zay}(h:(rrM m 0).code=0):∀i (hi:i<m.rels.length),zjT m.size (pvA m.rels i) m.rels[i]=0:=by
 have key:∀i,i≤m.rels.length→(rrM m i).code=0:=by
  intro i
  induction i with
  |zero=>intro _;exact h
  |succ i ih=>
   intro hi
   have h1:=ih (by omega)
   rw[zio (by omega)]at h1
   split at h1
   ·rename_i h2;exact absurd h1 h2
   ·exact h1
 intro i hi
 have h1:=key i (by omega)
 rw[zio hi]at h1
 split at h1
 ·rename_i h2;exact absurd h1 h2
 ·rename_i h2;exact Decidable.not_not.1 h2
theorem zBY {size arity:Int}{l:List (List Int)}(h:ttM size arity l 0=0):∀k (hk:k<l.length),zf5 size arity (pvA l k) l[k]=0:=by
 have key:∀k,k≤l.length→ttM size arity l k=0:=by
  intro k
  induction k with
  |zero=>intro _;exact h
  |succ k ih=>
   intro hk
   have h1:=ih (by omega)
   rw[zis (by omega)]at h1
   split at h1
   ·rename_i h2;exact absurd h1 h2
   ·exact h1
 intro k hk
 have h1:=key k (by omega)
 rw[zis hk]at h1
 split at h1
 ·rename_i h2;exact absurd h1 h2
 ·rename_i h2;exact Decidable.not_not.1 h2
structure zEA (m:zay):Prop where
 v:zyy m
 cv:∀c∈m.consts,0≤c.value∧c.value<m.size
 ar:∀r∈m.rels,0≤r.arity∧r.arity≤3
 tv:∀r∈m.rels,∀t∈r.tuples,(t.length:Int)=r.arity∧∀v∈t,0≤v∧v<m.size
theorem zmY {size:Int}{p:Option zaG}{c:zaG}(h:zcG size p c=0):(∀q,p=some q→q.name.l<c.name.l)∧0≤c.value∧c.value<size:=by
 unfold zcG at h
 by_cases hn:zas c.name=false
 ·rw[if_pos hn]at h;exact absurd h (by decide)
 rw[if_neg hn]at h
 have fin:(if c.value<0∨size≤c.value then(3:Int)else 0)=0→0≤c.value∧c.value<size:=fun h=>by
  split at h
  ·exact absurd h (by decide)
  ·omega
 cases p with
 |none=>
  rw[if_neg (by simp)]at h
  exact⟨fun q hq=>(by cases hq),fin h⟩
 |some q=>
  by_cases hq:q.name.l<c.name.l
  ·rw[if_neg (by simp[hq])]at h
   exact⟨fun q' hq'=>(by cases hq';exact hq),fin h⟩
  ·rw[if_pos (by simp[hq])]at h;exact absurd h (by decide)
theorem zlX {size:Int}{p:Option zek}{r:zek}(h:zjT size p r=0):(∀q,p=some q→ltR q r)∧0≤r.arity∧r.arity≤3∧ttM size r.arity r.tuples 0=0:=by
 unfold zjT at h
 by_cases hn:zas r.name=false
 ·rw[if_pos hn]at h;exact absurd h (by decide)
 rw[if_neg hn]at h
 by_cases ha:r.arity<0∨3<r.arity
 ·rw[if_pos ha]at h;exact absurd h (by decide)
 rw[if_neg ha]at h
 cases p with
 |none=>
  rw[if_neg (by simp)]at h
  exact⟨fun q hq=>(by cases hq),by omega,by omega,h⟩
 |some q=>
  by_cases hq:0≤zqA q r
  ·rw[if_pos (by simp[hq])]at h;exact absurd h (by decide)
  ·rw[if_neg (by simp[hq])]at h
   exact⟨fun q' hq'=>(by cases hq';rw[←zig];omega),by omega,by omega,h⟩
theorem zwD {size arity:Int}{p:Option (List Int)}{t:List Int}(h:zf5 size arity p t=0):(∀q,p=some q→zdw q t<0)∧(t.length:Int)=arity∧∀v∈t,0≤v∧v<size:=by
 unfold zf5 at h
 by_cases ha:(t.length:Int)≠arity
 ·rw[if_pos ha]at h;exact absurd h (by decide)
 rw[if_neg ha]at h
 have ha:=Decidable.not_not.1 ha
 by_cases hb:(t.any fun v=>decide (v<0∨size≤v))=true
 ·rw[if_pos hb]at h;exact absurd h (by decide)
 rw[if_neg hb]at h
 have hv:∀v∈t,0≤v∧v<size:=fun v hv=>by
  by_cases h9:v<0∨size≤v
  ·exact absurd (List.any_eq_true.2 ⟨v,hv,decide_eq_true h9⟩) hb
  ·omega
 cases p with
 |none=>exact⟨fun q hq=>(by cases hq),ha,hv⟩
 |some q=>
  by_cases hq:0≤zdw q t
  ·rw[if_pos (by simp[hq])]at h;exact absurd h (by decide)
  ·exact⟨fun q' hq'=>(by cases hq';omega),ha,hv⟩
theorem zpK {m:zay}(h:(zbw m).code=0):zEA m:=by
 have h1:¬(m.size<1∨6<m.size):=fun h2=>by unfold zbw at h;rw[if_pos h2]at h;exact absurd h (by decide)
 have h2:¬(300<m.consts.length∨300<m.rels.length):=fun h2=>by unfold zbw at h;rw[if_neg h1,if_pos h2]at h;exact absurd h (by decide)
 obtain⟨g1,g2⟩:=zjf h1 h2
 have hc:(ccM m 0).code=0:=Decidable.byContradiction fun h3=>by rw[g1 h3]at h;exact h3 h
 have hr:(rrM m 0).code=0:=by rw[g2 hc]at h;exact h
 have ac:=zAy hc
 have ar:=zv2 hr
 have cs:∀i (h:i+1<m.consts.length),m.consts[i].name.l<m.consts[i+1].name.l:=fun i h=>(zmY (ac (i+1) h)).1 _ (by rw[zdd (by omega)])
 have rs:∀i (h:i+1<m.rels.length),ltR m.rels[i] m.rels[i+1]:=fun i h=>(zlX (ar (i+1) h)).1 _ (by rw[zdd (by omega)])
 have tt:∀r∈m.rels,∀k (hk:k<r.tuples.length),zf5 m.size r.arity (pvA r.tuples k) r.tuples[k]=0:=fun r hr=>by
  obtain⟨i,hi,rfl⟩:=List.getElem_of_mem hr
  exact zBY (zlX (ar i hi)).2.2.2
 have ts:∀r∈m.rels,∀k (h:k+1<r.tuples.length),zdw r.tuples[k] r.tuples[k+1]<0:=fun r hr k h=>(zwD (tt r hr (k+1) h)).1 _ (by rw[zdd (by omega)])
 refine⟨⟨fun i j hi hj hij=>?_,fun i j hi hj hij=>?_,fun r hr i j hi hj hij=>?_,by omega,by omega,by omega,by omega⟩,fun c hcm=>?_,fun r hrm=>?_,fun r hrm t ht=>?_⟩
 ·exact zef (lt:=fun a b:zaG=>a.name.l<b.name.l) (fun a b c h1 h2=>zd7 h1 h2) cs j i hj hi hij
 ·exact zef (lt:=ltR) (fun a b c h1 h2=>znN h1 h2) rs j i hj hi hij
 ·exact zef (lt:=fun a b:List Int=>zdw a b<0) (fun a b c h1 h2=>zhi h1 (by omega)) (ts r hr) j i hj hi hij
 ·obtain⟨i,hi,rfl⟩:=List.getElem_of_mem hcm
  exact(zmY (ac i hi)).2
 ·obtain⟨i,hi,rfl⟩:=List.getElem_of_mem hrm
  exact⟨(zlX (ar i hi)).2.1,(zlX (ar i hi)).2.2.1⟩
 ·obtain⟨k,hk,rfl⟩:=List.getElem_of_mem ht
  exact(zwD (tt r hrm k hk)).2
theorem zpL {m:zay}(h:(zbw m).code=0):zbw m=⟨0,0⟩:=by
 have h1:¬(m.size<1∨6<m.size):=fun h2=>by unfold zbw at h;rw[if_pos h2]at h;exact absurd h (by decide)
 have h2:¬(300<m.consts.length∨300<m.rels.length):=fun h2=>by unfold zbw at h;rw[if_neg h1,if_pos h2]at h;exact absurd h (by decide)
 obtain⟨g1,g2⟩:=zjf h1 h2
 have hc:(ccM m 0).code=0:=Decidable.byContradiction fun h3=>by rw[g1 h3]at h;exact h3 h
 have hr:(rrM m 0).code=0:=by rw[g2 hc]at h;exact h
 rw[g2 hc]
 have ar:=zv2 hr
 have key:∀k i,i+k=m.rels.length→rrM m i=⟨0,0⟩:=by
  intro k
  induction k with
  |zero=>intro i hi;obtain rfl:i=m.rels.length:=by omega
         exact zv3 m
  |succ k ih=>intro i hi;rw[zio (by omega),ar i (by omega),if_neg (by simp)];exact ih (i+1) (by omega)
 exact key m.rels.length 0 (by omega)
structure vsP (m:zay)(f:zac):Prop where
 m:zyy m
 v:vok f
 s:szP f
 e:zbP f≤800
theorem zB2 {m:zay}{f:zac}(h:vsP m f)(env:List zaG)(he:env.length≤100):zw5 m f env:=⟨h.m,h.v,h.s,by have:=h.e;omega⟩
theorem zFI {m:zay}{f:zac}(hm:zyy m)(h:(zaz false f).code=0):vsP m f:=
 ⟨hm,zcc h,⟨zbW h,by have:=zaY h;omega⟩,by have:=zhs f;have:=zac.depth_size f;have:=zaY h;omega⟩
section
variable {P:Program} {G:Nat→List FD} {T:Tbl}
def zNk {α β γ δ ρ σ:Type}[Enc α][Enc β][Enc γ][Enc δ][Enc ρ][Enc σ](f:α→β→γ→δ→ρ×σ)(pre:α→β→γ→δ→Prop):List FD→Option (D×Prop)
 |[x,y,z,w]=>some (.tup [.fz (enc (f (dec x) (dec y) (dec z) (dec w)).1),.fz (enc (f (dec x) (dec y) (dec z) (dec w)).2)],x=enc (dec (α:=α) x)∧y=enc (dec (α:=β) y)∧z=enc (dec (α:=γ) z)∧w=enc (dec (α:=δ) w)∧pre (dec x) (dec y) (dec z) (dec w))
 |_=>none
@[go_sem] theorem zKY {α β γ δ ρ σ:Type}[Enc α][Enc β][Enc γ][Enc δ][Enc ρ][Enc σ]{f:α→β→γ→δ→ρ×σ}{pre:α→β→γ→δ→Prop}{x y z w:FD}:zNk f pre [x,y,z,w]=some (.tup [.fz (enc (f (dec x) (dec y) (dec z) (dec w)).1),.fz (enc (f (dec x) (dec y) (dec z) (dec w)).2)],x=enc (dec (α:=α) x)∧y=enc (dec (α:=β) y)∧z=enc (dec (α:=γ) z)∧w=enc (dec (α:=δ) w)∧pre (dec x) (dec y) (dec z) (dec w)):=rfl
end
end Go.Abs
namespace Go.Proofs.YtkkffhphodngkabGreatDoor
open Go Go.Abs Go.Proofs
section
variable {G:Nat→List FD}
def B22:Tbl:=A21
attribute [go_sem] B22
theorem zMl:zaq Tryz.prog G B22:=zA5
def B23:Tbl:=B22
attribute [go_sem] B23
theorem zMm:zaq Tryz.prog G B23:=zMl
def B24:Tbl:=B23
attribute [go_sem] B24
theorem zMn:zaq Tryz.prog G B24:=zMm
end
end Go.Proofs.YtkkffhphodngkabGreatDoor
namespace Go.Proofs.YtkkffhphodngkabGreatDoor
open Go Go.Abs Go.Proofs
section
variable {G:Nat→List FD}
def B25:Tbl:=B24
attribute [go_sem] B25
theorem zMo:zaq Tryz.prog G B25:=zMn
end
section
variable {G:Nat→List FD}
def B26:Tbl:=B25
attribute [go_sem] B26
theorem zJ9:zaq Tryz.prog G B26:=zMo
def B27:Tbl:=B26.add 17 (sp1 zbx fun _=>True)
attribute [go_sem] B27
theorem zMp:zaq Tryz.prog G B27:=by
 refine zb3 zGY zJ9 fun f _ _=>?_
 simp only[zbx]
 refine zae (N:=6) hm (G:=G) zJ9 17000 (lst []) zGY Tryz.func17 rfl rfl (by simp) (by kernel_rfl) ?_
 repeat'(first|refine rq fun _=>?_|simp only[go_sem,zab,Tryz.f17])
end
end Go.Proofs.YtkkffhphodngkabGreatDoor
namespace Go.Proofs.YtkkffhphodngkabGreatDoor
open Go Go.Abs Go.Proofs
section
variable {G:Nat→List FD}
def E1:Tbl:=Tbl.or B27 A22
attribute [go_sem] E1
theorem hE1:zaq Tryz.prog G E1:=zgl zMp zMk
def E2:Tbl:=E1
attribute [go_sem] E2
theorem hE2:zaq Tryz.prog G E2:=hE1
def E3:Tbl:=E2
attribute [go_sem] E3
theorem hE3:zaq Tryz.prog G E3:=hE2
end
end Go.Proofs.YtkkffhphodngkabGreatDoor
namespace Go.Proofs.YtkkffhphodngkabGreatDoor
open Go Go.Abs Go.Proofs
section
variable {G:Nat→List FD}
theorem zEB {n:Nat}{d:D}:(List.range n).map (fun j=>[d].getD (j % 1) .junk)=List.replicate n d:=by
 simp[Nat.mod_one,List.map_const']
theorem zvX {n:Nat}:List.replicate n (D.fz (.b false))=zaf ((List.replicate n false).map enc):=by
 rw[zbf];simp[zxL]
structure zQb (m:zay)(f:Abs.zac)(vars:List Str):Prop where
 gd:zEA m
 vk:vok f
 sz:szP f
 nl:vars.length+zbP f≤6
 cs:∀c∈cst f vars,(zec m c).isSome=true
end
end Go.Proofs.YtkkffhphodngkabGreatDoor
namespace Go.Proofs.YtkkffhphodngkabGreatDoor
open Go Go.Abs Go.Proofs
section
variable {G:Nat→List FD}
theorem zE8 {α:Type}{l:List α}(h:l.length=1):∃a,l=[a]:=by
 match l,h with
 |[a],_=>exact⟨a,rfl⟩
theorem zFD {α:Type}{l:List α}(h:l.length=2):∃a b,l=[a,b]:=by
 match l,h with
 |[a,b],_=>exact⟨a,b,rfl⟩
end
end Go.Proofs.YtkkffhphodngkabGreatDoor
namespace Go.Proofs.YtkkffhphodngkabGreatDoor
open Go Go.Abs Go.Proofs
section
variable {G:Nat→List FD}
end
end Go.Proofs.YtkkffhphodngkabGreatDoor
namespace Go.Proofs.YtkkffhphodngkabGreatDoor
open Go Go.Abs Go.Proofs
section
variable {G:Nat→List FD}
end
end Go.Proofs.YtkkffhphodngkabGreatDoor
namespace Go.Proofs.YtkkffhphodngkabGreatDoor
open Go Go.Abs Go.Proofs
section
variable {G:Nat→List FD}
def E4:Tbl:=E3
attribute [go_sem] E4
theorem hE4:zaq Tryz.prog G E4:=hE3
def E5:Tbl:=E4
attribute [go_sem] E5
def E6:Tbl:=E5
attribute [go_sem] E6
end
end Go.Proofs.YtkkffhphodngkabGreatDoor
namespace Go.Proofs.YtkkffhphodngkabGreatDoor
open Go Go.Abs Go.Proofs
section
variable {G:Nat→List FD}
def I1:Tbl:=E4
attribute [go_sem] I1
theorem hI1:zaq Tryz.prog G I1:=hE4
def zCW (a n:Int):Int:=((a.toNat^n.toNat:Nat):Int)
theorem zpU {a n:Int}(h1:1≤a)(h4:a≤4)(h0:0≤n)(h3:n≤3):∀i:Nat,(i:Int)≤n→1≤a.toNat^i∧a.toNat^i≤64:=fun i hi=>by
 have e:a.toNat^i≤4^3:=Nat.le_trans (Nat.pow_le_pow_left (by omega) i) (Nat.pow_le_pow_right (by omega) (by omega))
 exact⟨Nat.pow_pos (by omega),e⟩
def I2:Tbl:=I1.add 135 (sp2 zCW fun a n=>(1≤a∧a≤4)∧0≤n∧n≤3)
attribute [go_sem] I2
theorem hI2:zaq Tryz.prog G I2:=by
 refine zbC zE1 hI1 fun a n hp _ _=>?_
 obtain⟨⟨ha1,ha4⟩,hn0,hn3⟩:=hp
 have hpw:=zpU ha1 ha4 hn0 hn3
 obtain⟨N,hN⟩:∃N:Nat,n=(N:Int):=⟨n.toNat,by omega⟩
 subst hN
 obtain⟨A,hA⟩:∃A:Nat,a=(A:Int):=⟨a.toNat,by omega⟩
 subst hA
 simp only[Int.toNat_natCast]at hpw
 obtain⟨P,hP⟩:∃P:Nat→Nat,P=fun i=>A^i:=⟨_,rfl⟩
 have hP0:P 0=1:=by rw[hP];rfl
 have hPs:∀i,P i*A=P (i+1):=fun i=>by rw[hP];exact(Nat.pow_succ ..).symm
 have hPl:∀i,i≤N→1≤P i∧P i≤64:=fun i hi=>by rw[hP];exact hpw i (by omega)
 have hPN:zCW A N=(P N:Int):=by rw[hP];unfold zCW;rw[Int.toNat_natCast,Int.toNat_natCast]
 rw[hPN]
 clear hP hpw hPN
 have kl:=Kp.mk hPl
 have ks:=Kp.mk hPs
 clear hPl hPs
 refine zae (N:=14) hm hI1 135000 (lst []) zE1 Tryz.func135 rfl rfl (by simp) (by kernel_rfl) ?_
 repeat'(first|refine And.intro ?_ ?_|exact True.intro|refine rq fun _=>?_|refine rf fun _=>?_|simp only[go_sem,Tryz.f135])
 refine zat hm hI1 135000 (lst []) (ι:=zhd N fun _=>True)
  ⟨fun q=>⟨frL [(0,.fz (.i .i64 A)),(5,.fz (.i .i64 (P q.i))),(6,.fz (.i .i64 N)),(7,.fz (.i .i64 q.i))],hpL [],0⟩,fun q=>N-q.i⟩
  ⟨0,by omega,trivial⟩ (by kernel_rfl) ?_ ?_
 ·refine zaj ?_ ?_ ?_<;>simp only[go_sem,hP0]
  all_goals first|done|rfl|omega
 rintro⟨i,hi,_⟩
 try simp only at hi
 rcases Nat.lt_or_ge i N with h1|h1
 ·have h2:=kl.out i hi
  have h3:=kl.out (i+1) (by omega)
  have h4:=ks.out i
  have h5:((P i:Nat):Int)*(A:Int)=((P (i+1):Nat):Int):=by rw[←h4];simp
  have h6:((i:Int)<(N:Int))=True:=eq_true (by omega)
  repeat'(first|refine And.intro ?_ ?_|exact True.intro|refine rq fun _=>?_|refine rf fun _=>?_|simp only[go_sem,h5,h6,Tryz.f135])
  refine⟨⟨i+1,by omega,trivial⟩,by simp only;omega,?_⟩
  refine zaj ?_ ?_ ?_<;>simp only[go_sem]
  all_goals first|done|rfl|omega
 ·obtain rfl:i=N:=by omega
  repeat'(first|refine And.intro ?_ ?_|exact True.intro|refine rq fun _=>?_|refine rf fun _=>?_|simp only[go_sem,Int.lt_irrefl,Tryz.f135])
  all_goals first|done|rfl|omega
structure zHu (m:zay)(l:List Abs.zac):Prop where
 m:zyy m
 f:∀f∈l,(zaz false f).code=0∧zbP f≤5
 l:l.length≤1000
theorem zxn {m:zay}{l:List Abs.zac}(h:zHu m l){f:Abs.zac}(hf:f∈l):zw5 m f []:=⟨h.m,zcc (h.f f hf).1,⟨zbW (h.f f hf).1,by have:=zaY (h.f f hf).1;omega⟩,by have:=(h.f f hf).2;simp only[List.length_nil];omega⟩
def I3:Tbl:=I2.add 103 (sp2 (fun m l=>okF l m) zHu)
attribute [go_sem] I3
theorem hI3:zaq Tryz.prog G I3:=by
 refine zbC zEK hI2 fun m l hp _ _=>?_
 have hsl:=hp.l
 have kp:=Kp.mk hp
 clear hp
 refine zae (N:=18) hm hI2 103000 (lst []) zEK Tryz.func103 rfl rfl (by simp) (by kernel_rfl) ?_
 repeat'(first|refine And.intro ?_ ?_|exact True.intro|refine rq fun _=>?_|refine rf fun _=>?_|simp only[go_sem,zab,zad,zag,zaa,Tryz.f103])
 refine zat hm hI2 103000 (lst []) (ι:=zcW l.length 1 fun i=>(l.take i).all (fun f=>za2 m f [])=true)
  ⟨fun q=>⟨frL [(2,.ptr (103002,0) 0),(7,.fz (.sl (l.map enc))),(8,.fz (.i .i64 l.length)),(9,.fz (.i .i64 q.i))],hpL [((103002,0),some ⟨[.fz (.i .i64 m.size),.fz (.sl (m.consts.map enc)),.fz (.sl (m.rels.map enc))],true,false⟩)],q.m⟩,fun q=>l.length-q.i⟩
  ⟨0,1,by omega,by omega,by simp⟩ (by kernel_rfl) ?_ ?_
 ·refine zaj ?_ ?_ ?_<;>simp only[go_sem]
  all_goals first|done|rfl|omega
 rintro⟨i,q,hi,hq,ha⟩
 try simp only at hi hq ha
 rcases Nat.lt_or_ge i l.length with h1|h1
 ·obtain⟨x,hx⟩:∃x,l[i]=x:=⟨_,rfl⟩
  have hxv:zw5 m x []:=zxn kp.out (by rw[←hx];exact List.getElem_mem h1)
  obtain⟨v,hv⟩:∃v,za2 m x []=v:=⟨_,rfl⟩
  cases v with
  |true=>
   repeat'(first|refine zaA.i hxv fun _=>?_|refine And.intro ?_ ?_|exact True.intro|refine rq fun _=>?_|refine rf fun _=>?_|simp only[go_sem,h1,hx,hv,zab,zad,zag,zaa,Tryz.f103])
   refine⟨⟨i+1,q+1,by omega,by omega,by rw[List.take_succ_eq_append_getElem h1,List.all_append,ha,hx];simp[hv]⟩,by simp only;omega,?_⟩
   refine zaj ?_ ?_ ?_<;>simp only[go_sem]
   all_goals first|done|rfl|omega
  |false=>
   have e:okF l m=false:=by
    unfold okF
    rw[List.all_eq_false]
    exact⟨x,by rw[←hx];exact List.getElem_mem h1,by simp[hv]⟩
   repeat'(first|refine zaA.i hxv fun _=>?_|refine And.intro ?_ ?_|exact True.intro|refine rq fun _=>?_|refine rf fun _=>?_|simp only[go_sem,h1,hx,hv,e,zab,zad,zag,zaa,Tryz.f103])
   all_goals first|done|rfl|omega
 ·obtain rfl:i=l.length:=by omega
  rw[List.take_length]at ha
  have e:okF l m=true:=ha
  repeat'(first|refine And.intro ?_ ?_|exact True.intro|refine rq fun _=>?_|refine rf fun _=>?_|simp only[go_sem,Nat.lt_irrefl,e,zab,zad,zag,zaa,Tryz.f103])
  all_goals first|done|rfl|omega
theorem zAw {l:List Abs.zac}:∀(k:Nat) (i:Nat) (_:i<l.length),(∀f∈l.take i,(zaz false f).code=0∧zbP f≤5)→zrZ l k=zrZ (l.drop i) (k+i):=by
 intro k i
 induction i with
 |zero=>intro _ _;rfl
 |succ i ih=>
  intro h hp
  rw[List.take_succ_eq_append_getElem (by omega)]at hp
  have h2:=hp l[i] (List.mem_append_right _ (List.mem_singleton.2 rfl))
  rw[ih (by omega) fun f hf=>hp f (List.mem_append_left _ hf),List.drop_eq_getElem_cons (by omega),zrZ,if_neg (by simp[h2.1]),if_neg (by omega)]
  rfl
theorem zxq {l:List Abs.zac}:∀(k:Nat),(∀f∈l,(zaz false f).code=0∧zbP f≤5)→zrZ l k=⟨0,0⟩:=by
 induction l with
 |nil=>intro _ _;rfl
 |cons f l ih=>
  intro k h
  have h2:=h f (by simp)
  rw[zrZ,if_neg (by simp[h2.1]),if_neg (by omega)]
  exact ih _ fun g hg=>h g (by simp[hg])
def I4:Tbl:=I3.add 52 (sp2 zca fun _ _=>True)
attribute [go_sem] I4
set_option maxHeartbeats 4000000 in
theorem hI4:zaq Tryz.prog G I4:=by
 refine zbC zJg hI3 fun l size _ hwl _=>?_
 have hsl:l.length≤zbe:=by
  have:=zdf hwl
  simpa using this
 unfold zbe at hsl
 clear hwl
 by_cases h41:41<l.length
 ·have e:zca l size=⟨2, -1⟩:=by unfold zca;rw[if_pos h41]
  have h41':((41:Int)<l.length)=True:=eq_true (by omega)
  rw[e]
  refine zae (N:=42) hm hI3 52000 (lst []) zJg Tryz.func52 rfl rfl (by simp) (by kernel_rfl) ?_
  repeat'(first|refine And.intro ?_ ?_|exact True.intro|refine rq fun _=>?_|refine rf fun _=>?_|simp only[go_sem,h41',zab,zad,zag,zaa,Tryz.f52])
  all_goals first|done|rfl|omega
 have h41':((41:Int)<l.length)=False:=eq_false (by omega)
 refine zae (N:=42) hm hI3 52000 (lst []) zJg Tryz.func52 rfl rfl (by simp) (by kernel_rfl) ?_
 repeat'(first|refine And.intro ?_ ?_|exact True.intro|refine rq fun _=>?_|refine rf fun _=>?_|simp only[go_sem,h41',zab,zad,zag,zaa,Tryz.f52])
 refine zat hm hI3 52000 (lst []) (ι:=zcW l.length 1 fun i=>∀f∈l.take i,(zaz false f).code=0∧zbP f≤5)
  ⟨fun q=>⟨frL [(0,.fz (.sl (l.map enc))),(1,.fz (.i .i64 size)),(4,.ptr (52004,0) 0),(12,.fz (.sl (l.map enc))),(13,.fz (.i .i64 l.length)),(14,.fz (.i .i64 q.i))],hpL [((52004,0),some ⟨[.fz (.i .i64 0),.fz (.i .i64 0)],true,false⟩)],q.m⟩,fun q=>l.length-q.i⟩
  ⟨0,1,by omega,by omega,by simp⟩ (by kernel_rfl) ?_ ?_
 ·refine zaj ?_ ?_ ?_<;>simp only[go_sem]
  all_goals first|done|rfl|omega
 rintro⟨i,m,hi,hm1,hp⟩
 try simp only at hi hm1 hp
 rcases Nat.lt_or_ge i l.length with h1|h1
 ·obtain⟨x,hx⟩:∃x,l[i]=x:=⟨_,rfl⟩
  have eb:=zAw 0 i h1 hp
  rw[List.drop_eq_getElem_cons h1,hx,zrZ,Nat.zero_add]at eb
  have hpx:szP x∨True:= .inr trivial
  by_cases hc:(zaz false x).code=0
  rotate_left
  ·rw[if_pos hc]at eb
   have e:zca l size=⟨(zaz false x).code,(i:Int)⟩:=by unfold zca;rw[if_neg h41,eb,if_pos hc]
   rw[e]
   obtain⟨X,hX⟩:∃X,zaz false x=X:=⟨_,rfl⟩
   rw[hX]at hc
   rw[hX]
   have hc':(X.code=0)=False:=eq_false hc
   repeat'(first|refine And.intro ?_ ?_|exact True.intro|refine rq fun _=>?_|refine rf fun _=>?_|simp only[go_sem,h1,hx,hX,hc',zab,zad,zag,zaa,Tryz.f52])
   all_goals first|done|rfl|omega
  ·have hcz:=zeK hc
   rw[if_neg (by simp[hc])]at eb
   have hsz:szP x:=⟨zbW hc,by have:=zaY hc;omega⟩
   by_cases hn:5<zbP x
   ·rw[if_pos hn]at eb
    have hn':((5:Int)<(zbP x:Int))=True:=eq_true (by omega)
    have e:zca l size=⟨17,(i:Int)⟩:=by unfold zca;rw[if_neg h41,eb,if_pos (by simp)]
    rw[e]
    repeat'(first|refine zaA.i hsz fun _=>?_|refine And.intro ?_ ?_|exact True.intro|refine rq fun _=>?_|refine rf fun _=>?_|simp only[go_sem,h1,hx,hcz,hn',zab,zad,zag,zaa,Tryz.f52])
    all_goals first|done|rfl|omega
   ·have hn':((5:Int)<(zbP x:Int))=False:=eq_false (by omega)
    repeat'(first|refine zaA.i hsz fun _=>?_|refine And.intro ?_ ?_|exact True.intro|refine rq fun _=>?_|refine rf fun _=>?_|simp only[go_sem,h1,hx,hcz,hn',zab,zad,zag,zaa,Tryz.f52])
    refine⟨⟨i+1,m+2,by omega,by omega,?_⟩,by simp only;omega,?_⟩
    ·rw[List.take_succ_eq_append_getElem h1,hx]
     intro f hf
     rcases List.mem_append.1 hf with hf|hf
     ·exact hp f hf
     ·rw[List.mem_singleton.1 hf];exact⟨hc,by omega⟩
    refine zaj ?_ ?_ ?_<;>simp only[go_sem]
    all_goals first|done|rfl|omega
 ·obtain rfl:i=l.length:=by omega
  rw[List.take_length]at hp
  have eb:=zxq 0 hp
  by_cases hs1:size<1
  ·have hs1':(size<1)=True:=eq_true hs1
   have e:zca l size=⟨3, -2⟩:=by unfold zca;rw[if_neg h41,eb,if_neg (by simp),if_pos (.inl hs1)]
   rw[e]
   repeat'(first|refine And.intro ?_ ?_|exact True.intro|refine rq fun _=>?_|refine rf fun _=>?_|simp only[go_sem,Nat.lt_irrefl,hs1',zab,zad,zag,zaa,Tryz.f52])
   all_goals first|done|rfl|omega
  have hs1':(size<1)=False:=eq_false hs1
  by_cases hs4:4<size
  ·have hs4':(4<size)=True:=eq_true hs4
   have e:zca l size=⟨3, -2⟩:=by unfold zca;rw[if_neg h41,eb,if_neg (by simp),if_pos (.inr hs4)]
   rw[e]
   repeat'(first|refine And.intro ?_ ?_|exact True.intro|refine rq fun _=>?_|refine rf fun _=>?_|simp only[go_sem,Nat.lt_irrefl,hs1',hs4',zab,zad,zag,zaa,Tryz.f52])
   all_goals first|done|rfl|omega
  ·have hs4':(4<size)=False:=eq_false hs4
   have e:zca l size=⟨0,0⟩:=by unfold zca;rw[if_neg h41,eb,if_neg (by simp),if_neg (by omega)]
   rw[e]
   repeat'(first|refine And.intro ?_ ?_|exact True.intro|refine rq fun _=>?_|refine rf fun _=>?_|simp only[go_sem,Nat.lt_irrefl,hs1',hs4',zab,zad,zag,zaa,Tryz.f52])
   all_goals first|done|rfl|omega
def I5:Tbl:=I4
attribute [go_sem] I5
theorem hI5:zaq Tryz.prog G I5:=hI4
end
end Go.Proofs.YtkkffhphodngkabGreatDoor

/- several texts of this proof in one; no conditions -/
import Derived.Test.YtkkffhphodngkaaDoorAT
import Derived.Test.YtkkffhphodngkaaDoorY3
import Derived.Test.YtkkffhphodngkaaDoorVS
set_option maxRecDepth 100000
set_option maxHeartbeats 1000000
set_option linter.unusedSimpArgs false
namespace Go.Abs
open Go
theorem zmV {p:Nat→Prop}{i:Nat}(h:∀j,j<i→p j)(hi:p i):∀j,j<i+1→p j:=fun j h2=>by
 rcases Nat.lt_or_ge j i with h3|h3
 ·exact h j h3
 ·obtain rfl:j=i:=by omega
  exact hi
theorem zp8 {m:zal}{l:List zaf}(h:∀j (hj:j<l.length),zgZ m l[j]=true):ze8 m l=true:=by rw[zia];exact zq8 h
theorem zrQ {m:zal}{l:List zaf}{j:Nat}(hj:j<l.length)(h:zgZ m l[j]=false):ze8 m l=false:=by rw[zia];exact zq7 hj h
end Go.Abs
namespace Go.Proofs.YtkkffhphodngkaaDoor
open Go Go.Abs Go.Proofs
section
variable {G:Nat→List FD}
theorem zoS {m:zal}{w:Str}{n:Int}:(ziZ m w n).2=(zeH m w n).isSome:=by
 unfold ziZ
 cases zeH m w n<;>rfl
set_option maxHeartbeats 8000000 in
theorem f51 {m:zal}(hok:okR m.rels):∀(s:Nat) (f:Abs.zaf),f.size≤s→szP f→∀(H:zau) (n:Nat) (R:D→zau→Nat→Prop),3<n→
  H (30002,0)=some ⟨[.fz (.i .i64 m.size),.fz (.sl (m.consts.map enc)),.fz (.sl (m.rels.map enc))],true,false⟩→H (30009,3)=some ⟨[.fn 51 [.ptr (30002,0) 0,.ptr (30009,3) 0]],true,false⟩→(∀n',n≤n'→R (.fz (.b (zgZ m f))) H n')→
  zay Tryd.prog G 51 [.fz (enc f),.ptr (30002,0) 0,.ptr (30009,3) 0] H n R:=by
 intro s
 induction s with
 |zero=>intro f hs;have:=f.size_pos;omega
 |succ s ih=>
  intro f hs hsz H n R hn ho1 ho2 hR
  have hsb:∀g∈f.subs,g.size≤s∧szP g:=fun g hg=>by have:=zfs hsz hg;exact⟨by omega,this.2⟩
  have hsl:=(zaf.fit_eq hsz.1).2.1
  have hwl:=(zaf.fit_eq hsz.1).1
  refine zcr zEb (fun hfr=>?_) hR
  clear hR
  obtain⟨Q,hQ⟩:∃Q:D→zau→Nat→Prop,Q=(fun d' H' n'=>d'= .fz (.b (zgZ m f))∧n≤n'∧∀id,id.2<n→H' id=H id):=⟨_,rfl⟩
  rw[←hQ]
  have hX:∀id o,H id=some o→id.2<n:=fun id o h=>by
   rcases Nat.lt_or_ge id.2 n with h1|h1
   ·exact h1
   ·rw[hfr id h1]at h;cases h
  have hX':∀{l:List (Abs.Id×Option O)} (id o),H id=some o→(id.2<n→zhL id l)→hpX l H id=some o:=fun id o h1 h2=>(zdy (h2 (hX id o h1))).trans h1
  have hfin:∀{b:Bool} {l:List (Abs.Id×Option O)} {n':Nat},zgZ m f=b→n≤n'→(∀p∈l,n≤p.1.2)→Q (.fz (.b b)) (hpX l H) n':=fun{b l n'} h1 h2 h3=>by
   rw[hQ];exact⟨by rw[h1],h2,zib h3⟩
  have hR:=zwI (m:=m) (f:=f)
  have kf:=Kp.mk @hfin
  have kx:=Kp.mk @hX'
  have kz:=Kp.mk hsb
  have kI:=Kp.mk ih
  clear hfin hX hX' hQ hsb ih hfr
  rw[show H=hpX [] H from rfl]
  by_cases hb:f.kind=2∧(zeH m f.name f.words.length).isSome=false
  ·have e:zgZ m f=false:=by rw[hR,decide_eq_true hb.1,hb.2];rfl
   have c1:=hb.1
   have e2:(ziZ m f.name f.words.length).2=false:=by rw[zoS];exact hb.2
   obtain⟨r,b,hrb⟩:∃r b,ziZ m f.name f.words.length=(r,b):=⟨_,_,rfl⟩
   rw[hrb]at e2
   simp only at e2
   subst e2
   refine zah (N:=36) hm (G:=G) zwF 51000 (lst []) zEb Tryd.func51 rfl rfl (by simp) (by kernel_rfl) ?_
   repeat'(first|refine zaB.i hok fun _=>?_|refine rq fun _=>?_|simp only[go_sem,ho1,ho2,c1,hrb,zab,zac,Tryd.f51])
   exact kf.out e (by omega) (by intro p hp;simp at hp;rcases hp with rfl|rfl|rfl|rfl<;>simp only<;>omega)
  have hR2:zgZ m f=ze8 m f.subs:=by
   rw[hR]
   by_cases h2:f.kind=2
   ·have h3:(zeH m f.name f.words.length).isSome=true:=by
     cases h4:(zeH m f.name f.words.length).isSome with
     |true=>rfl
     |false=>exact absurd ⟨h2,h4⟩ hb
    rw[h3];simp
   ·simp[h2]
  have hk:f.kind=2∨¬f.kind=2:=by omega
  refine zah (N:=36) hm (G:=G) zwF 51000 (lst []) zEb Tryd.func51 rfl rfl (by simp) (by kernel_rfl) ?_
  rcases hk with hk|hk
  case' inl=>
   have e2:(ziZ m f.name f.words.length).2=true:=by
    rw[zoS]
    cases h4:(zeH m f.name f.words.length).isSome with
    |true=>rfl
    |false=>exact absurd ⟨hk,h4⟩ hb
   obtain⟨r,b,hrb⟩:∃r b,ziZ m f.name f.words.length=(r,b):=⟨_,_,rfl⟩
   rw[hrb]at e2
   simp only at e2
   subst e2
   repeat'(first|refine zaB.i hok fun _=>?_|refine rq fun _=>?_|simp only[go_sem,ho1,ho2,hk,hrb,zab,zac,Tryd.f51])
  case' inr=>
   have hk':(f.kind=2)=False:=eq_false hk
   repeat'(first|refine rq fun _=>?_|simp only[go_sem,ho1,ho2,hk',zab,zac,Tryd.f51])
  all_goals
   refine zai hm (G:=G) zwF 51000 (lst []) (ι:=zbG f.subs.length n fun i=>∀j (h:j<f.subs.length),j<i→zgZ m f.subs[j]=true)
    ⟨fun q=>⟨frL [(1,.ptr (30002,0) 0),(2,.ptr (30009,3) 0),(25,.fz (.sl (f.subs.map enc))),(26,.fz (.i .i64 f.subs.length)),(27,.fz (.i .i64 q.i))],hpX [] H,q.m⟩,fun q=>f.subs.length-q.i⟩
    ⟨0,n+9,by omega,by omega,fun j h h2=>by omega⟩ (by kernel_rfl) ?_ ?_
   ·refine zaX ?_ ?_ (fun id o ho=>?_) ?_
    ·simp only[go_sem]
    ·simp only[go_sem]
    ·refine kx.out id o ho fun h1=>?_
     ((repeat'(first|exact trivial|apply And.intro))<;>(rintro rfl;simp only at h1;omega))
    ·simp only[go_sem];omega
   rintro⟨i,q,hi,hq,hp⟩
   try simp only at hi hq
   rcases Nat.lt_or_ge i f.subs.length with h1|h1
   ·have hz:=kz.out _ (List.getElem_mem h1)
    have hbad:=zrQ (m:=m) h1
    obtain⟨x,hx⟩:∃x,f.subs[i]=x:=⟨_,rfl⟩
    rw[hx]at hz hbad
    have hgood:zgZ m x=true→∀j (h:j<f.subs.length),j<i+1→zgZ m f.subs[j]=true:=fun h j hj h2=>by
     rcases Nat.lt_or_ge j i with h3|h3
     ·exact hp j hj h3
     ·obtain rfl:j=i:=by omega
      rw[hx];exact h
    have kb:=Kp.mk hbad
    have kg:=Kp.mk hgood
    clear hbad hgood
    have ihx:=kI.out x hz.1 hz.2
    rw[zaH (f:=x)]at ihx
    have kih:=Kp.mk ihx
    clear ihx
    cases hv:zgZ m x with
    |false=>
     repeat'(first|refine rq fun _=>?_|simp only[go_sem,h1,hx,ho1,ho2,zaa,Tryd.f51])
     refine zas.i (zci rfl (kih.out _ _ _ (by omega) (by simp only[go_sem,ho1]) (by simp only[go_sem,ho2]) fun n' hn'=>?_))
     repeat'(first|refine rq fun _=>?_|simp only[go_sem,hv,ho1,ho2,Tryd.f51])
     exact kf.out (hR2.trans (kb.out hv)) (by omega) (by intro p hp;simp at hp;rcases hp with rfl|rfl<;>simp only<;>omega)
    |true=>
     repeat'(first|refine rq fun _=>?_|simp only[go_sem,h1,hx,ho1,ho2,zaa,Tryd.f51])
     refine zas.i (zci rfl (kih.out _ _ _ (by omega) (by simp only[go_sem,ho1]) (by simp only[go_sem,ho2]) fun n' hn'=>?_))
     repeat'(first|refine rq fun _=>?_|simp only[go_sem,hv,ho1,ho2,Tryd.f51])
     refine⟨⟨i+1,n'+1,by omega,by omega,kg.out hv⟩,by simp only;omega,?_⟩
     refine zaX ?_ ?_ (fun id o ho=>?_) ?_
     ·simp only[go_sem]
     ·simp only[go_sem]
     ·refine kx.out id o ho fun h1=>?_
      ((repeat'(first|exact trivial|apply And.intro))<;>(rintro rfl;simp only at h1;omega))
     ·simp only[go_sem];omega
   obtain rfl:i=f.subs.length:=by omega
   repeat'(first|refine rq fun _=>?_|simp only[go_sem,Nat.lt_irrefl,Tryd.f51])
   exact kf.out (hR2.trans (zp8 fun j h=>hp j h h)) (by omega) (by intro p hp;simp at hp)
theorem zpC {m:zal}{w:Str}:(zgW m w).2=(zct m w).isSome:=by
 unfold zgW
 cases zct m w<;>rfl
theorem zve {m:zal}{f:Abs.zaf}(h:∀j (hj:j<(zbH f).length),(zct m (zbH f)[j]).isSome=true):(cst f []).all (fun c=>(zct m c).isSome)=true:=by
 rw[List.all_eq_true]
 intro c hc
 obtain⟨j,hj,rfl⟩:=List.getElem_of_mem ((zd0 f c).2 hc)
 exact h j hj
theorem zvf {m:zal}{f:Abs.zaf}{j:Nat}(hj:j<(zbH f).length)(h:(zct m (zbH f)[j]).isSome=false):(cst f []).all (fun c=>(zct m c).isSome)=false:=by
 cases ha:(cst f []).all (fun c=>(zct m c).isSome)with
 |false=>rfl
 |true=>rw[List.all_eq_true.1 ha _ ((zd0 f _).1 (List.getElem_mem hj))]at h;cases h
def flP (m:zal)(f:Abs.zaf):Prop:=okC m.consts∧okR m.rels∧szP f∧(cst f []).length≤1000000
def A20:Tbl:=A19.add 30 (sp2 zcV flP)
attribute [go_sem] A20
set_option maxHeartbeats 8000000 in
theorem zmI:zan Tryd.prog G A20:=by
 refine zbq zD7 zwF fun m f hpre _ _=>?_
 obtain⟨hoc,hor,hsz,hcl⟩:=hpre
 have hul:=zgg f
 have hsp:(cst f []).length≤1000000∧f.size≤1000000:=⟨hcl,hsz.2⟩
 by_cases h1:5<zbf f
 ·have e:zcV m f=⟨17, -2⟩:=by unfold zcV;rw[if_pos h1]
  have h1':(5<(zbf f:Int))=True:=eq_true (by omega)
  rw[e]
  refine zah (N:=38) hm (G:=G) zwF 30000 (lst []) zD7 Tryd.func30 rfl rfl (by simp) (by kernel_rfl) ?_
  repeat'(first|refine zaB.i hsz fun _=>?_|refine rq fun _=>?_|simp only[go_sem,h1',zab,zad,Tryd.f30])
 have h1':(5<(zbf f:Int))=False:=eq_false (by omega)
 have hlb:∀b,zoA m f=b→zcV m f=if b=true then⟨6, -2⟩else⟨0,0⟩:=fun b h=>by unfold zcV;rw[if_neg h1,h]
 obtain⟨U,hU⟩:∃U,zbH f=U:=⟨_,rfl⟩
 have hbad:∀j (h:j<U.length),(zct m U[j]).isSome=false→zcV m f=⟨6, -2⟩:=fun j h h2=>by
  subst hU
  rw[hlb true (by unfold zoA;rw[zvf h h2];rfl),if_pos rfl]
 have hend:(∀j (h:j<U.length),(zct m U[j]).isSome=true)→zcV m f=if zgZ m f=false then⟨6, -2⟩else⟨0,0⟩:=fun h=>by
  subst hU
  rw[hlb (!zgZ m f) (by unfold zoA;rw[zve h];rfl)]
  cases zgZ m f<;>rfl
 rw[hU]at hul
 have kb:=Kp.mk hbad
 have ke:=Kp.mk hend
 have h185:=f51 (G:=G) (m:=m) hor f.size f (Nat.le_refl _) hsz
 rw[zaH (f:=f)]at h185
 have k185:=Kp.mk h185
 clear hbad hend hlb h185
 refine zah (N:=38) hm (G:=G) zwF 30000 (lst []) zD7 Tryd.func30 rfl rfl (by simp) (by kernel_rfl) ?_
 repeat'(first|refine zaB.i hsz fun _=>?_|refine zaB.i hsp fun _=>?_|refine rq fun _=>?_|simp only[go_sem,h1',hU,zab,zad,Tryd.f30])
 refine zai hm (G:=G) zwF 30000 (lst []) (ι:=za5 U.length fun i=>∀j (h:j<U.length),j<i→(zct m U[j]).isSome=true)
  ⟨fun q=>⟨frL [(2,.ptr (30002,0) 0),(3,.ptr (30003,1) 0),(4,.ptr (30004,2) 0),(15,.fz (.sl (U.map enc))),(16,.fz (.i .i64 U.length)),(17,.fz (.i .i64 q.i))],
   hpL [((30002,0),some ⟨[.fz (.i .i64 m.size),.fz (.sl (m.consts.map enc)),.fz (.sl (m.rels.map enc))],true,false⟩),((30003,1),some ⟨[.fz (.i .i64 f.kind),.fz (.s f.name.l),.fz (.sl (f.words.map enc)),.fz (.sl (f.subs.map enc))],true,false⟩),((30004,2),some ⟨[.fz (.i .i64 0),.fz (.i .i64 0)],true,false⟩)],3⟩,fun q=>U.length-q.i⟩
  ⟨0,by omega,fun j h h2=>by omega⟩ (by kernel_rfl) ?_ ?_
 ·refine zag ?_ ?_ ?_<;>simp only[go_sem]
 rintro⟨i,hi,hp⟩
 try simp only at hi hp
 rcases Nat.lt_or_ge i U.length with h2|h2
 ·have hb:=kb.out i h2
  have hg:=fun h=>zmV (p:=fun j=>∀h:j<U.length,(zct m U[j]).isSome=true) (i:=i) (fun j h1 h3=>hp j h3 h1) h
  obtain⟨v,b,hvb⟩:∃v b,zgW m U[i]=(v,b):=⟨_,_,rfl⟩
  have hs:b=(zct m U[i]).isSome:=by rw[←zpC,hvb]
  cases hbb:b with
  |false=>
   rw[hbb]at hs hvb
   rw[hb hs.symm]
   repeat'(first|refine zaB.i hoc fun _=>?_|refine rq fun _=>?_|simp only[go_sem,h2,hvb,zab,zac,zaa,Tryd.f30])
  |true=>
   rw[hbb]at hs hvb
   have kg:=Kp.mk (hg fun _=>hs.symm)
   repeat'(first|refine zaB.i hoc fun _=>?_|refine rq fun _=>?_|simp only[go_sem,h2,hvb,zab,zac,zaa,Tryd.f30])
   refine⟨⟨i+1,by omega,fun j h h3=>kg.out j h3 h⟩,by simp only;omega,?_⟩
   refine zag ?_ ?_ ?_<;>simp only[go_sem]
 obtain rfl:i=U.length:=by omega
 rw[ke.out fun j h=>hp j h h]
 repeat'(first|refine rq fun _=>?_|simp only[go_sem,Nat.lt_irrefl,zab,Tryd.f30])
 refine zas.i (zci rfl (k185.out _ _ _ (by omega) (by simp only[go_sem]) (by simp only[go_sem]) fun n' hn'=>?_))
 cases zgZ m f
 ·repeat'(first|refine rq fun _=>?_|simp only[go_sem,Bool.false_eq_true,Tryd.f30])
 ·repeat'(first|refine rq fun _=>?_|simp only[go_sem,Bool.false_eq_true,Tryd.f30])
end
end Go.Proofs.YtkkffhphodngkaaDoor
namespace Go.Abs
open Go
def pvA {α:Type}(l:List α):Nat→Option α
 |0=>none
 |i+1=>l[i]?
theorem zcB {α:Type}{l:List α}{i:Nat}(h:i<l.length):pvA l (i+1)=some l[i]:=List.getElem?_eq_getElem h
def ccM (m:zal)(i:Nat):zcD:=zqr m.size (pvA m.consts i) (m.consts.drop i) i
def rrM (m:zal)(i:Nat):zcD:=zsD m.size (pvA m.rels i) (m.rels.drop i) i
def ttM (size arity:Int)(l:List (List Int))(k:Nat):Int:=zsE size arity (pvA l k) (l.drop k)
theorem zjR {m:zal}{i:Nat}(h:i<m.consts.length):ccM m i=if zcn m.size (pvA m.consts i) m.consts[i]≠0 then⟨zcn m.size (pvA m.consts i) m.consts[i],i⟩else ccM m (i+1):=by
 unfold ccM
 rw[List.drop_eq_getElem_cons h,zqr,zcB h]
theorem zhw {m:zal}{i:Nat}(h:i<m.rels.length):rrM m i=if zjt m.size (pvA m.rels i) m.rels[i]≠0 then⟨zjt m.size (pvA m.rels i) m.rels[i],i⟩else rrM m (i+1):=by
 unfold rrM
 rw[List.drop_eq_getElem_cons h,zsD,zcB h]
theorem zhC {size arity:Int}{l:List (List Int)}{k:Nat}(h:k<l.length):ttM size arity l k=if zfw size arity (pvA l k) l[k]≠0 then zfw size arity (pvA l k) l[k]else ttM size arity l (k+1):=by
 unfold ttM
 rw[List.drop_eq_getElem_cons h,zsE,zcB h]
theorem zwb (m:zal):ccM m m.consts.length=⟨0,0⟩:=by unfold ccM;rw[List.drop_length,zqr]
theorem zsG (m:zal):rrM m m.rels.length=⟨0,0⟩:=by unfold rrM;rw[List.drop_length,zsD]
theorem zs7 (size arity:Int)(l:List (List Int)):ttM size arity l l.length=0:=by unfold ttM;rw[List.drop_length,zsE]
theorem zij {m:zal}(h1:¬(m.size<1∨6<m.size))(h2:¬(300<m.consts.length∨300<m.rels.length)):((ccM m 0).code≠0→zbt m=ccM m 0)∧((ccM m 0).code=0→zbt m=rrM m 0):=by
 unfold zbt
 rw[if_neg h1,if_neg h2]
 exact⟨fun h=>if_pos h,fun h=>if_neg fun h2=>h2 h⟩
end Go.Abs
namespace Go.Proofs.YtkkffhphodngkaaDoor
open Go Go.Abs Go.Proofs
section
variable {G:Nat→List FD}
theorem f43 {c a:Int}{id:Abs.Id}{H:zau}{n:Nat}{R:D→zau→Nat→Prop}(hid:id.2<n)(ho:H id=some ⟨[.fz (.i .i64 a)],true,false⟩)(hR:∀n',n≤n'→R (.agg [.fz (.i .i64 c),.fz (.i .i64 a)]) H n'):
  zay Tryd.prog G 43 [.fz (.i .i64 c),.ptr id 0] H n R:=by
 refine zcr zF3 (fun hfr=>?_) hR
 have hne:id≠(43003,n):=by rintro rfl;simp at hid
 obtain⟨Q,hQ⟩:∃Q:D→zau→Nat→Prop,Q=(fun d' H' n'=>d'= .agg [.fz (.i .i64 c),.fz (.i .i64 a)]∧n≤n'∧∀id,id.2<n→H' id=H id):=⟨_,rfl⟩
 rw[←hQ]
 have e:H=hpX [] H:=rfl
 rw[e]
 refine zah (N:=7) hm (G:=G) zmI 43000 (lst []) zF3 Tryd.func43 rfl rfl (by simp) (by kernel_rfl) ?_
 simp only[go_sem]
 rw[if_neg hne,ho]
 simp only[go_sem,Tryd.f43]
 rw[hQ]
 refine⟨?_,by omega,fun id hid=>zib (n:=n) (by intro p hp;simp at hp;rcases hp with rfl|rfl<;>simp) id hid⟩
 simp only[go_sem]
theorem f45 {c a:Int}{id:Abs.Id}{H:zau}{n:Nat}{R:D→zau→Nat→Prop}(hid:id.2<n)(ho:H id=some ⟨[.fz (.i .i64 a)],true,false⟩)(hR:∀n',n≤n'→R (.agg [.fz (.i .i64 c),.fz (.i .i64 a)]) H n'):
  zay Tryd.prog G 45 [.fz (.i .i64 c),.ptr id 0] H n R:=by
 refine zcr zF5 (fun hfr=>?_) hR
 have hne:id≠(45003,n):=by rintro rfl;simp at hid
 obtain⟨Q,hQ⟩:∃Q:D→zau→Nat→Prop,Q=(fun d' H' n'=>d'= .agg [.fz (.i .i64 c),.fz (.i .i64 a)]∧n≤n'∧∀id,id.2<n→H' id=H id):=⟨_,rfl⟩
 rw[←hQ]
 have e:H=hpX [] H:=rfl
 rw[e]
 refine zah (N:=7) hm (G:=G) zmI 45000 (lst []) zF5 Tryd.func45 rfl rfl (by simp) (by kernel_rfl) ?_
 simp only[go_sem]
 rw[if_neg hne,ho]
 simp only[go_sem,Tryd.f45]
 rw[hQ]
 refine⟨?_,by omega,fun id hid=>zib (n:=n) (by intro p hp;simp at hp;rcases hp with rfl|rfl<;>simp) id hid⟩
 simp only[go_sem]
def A21:Tbl:=A20.add 28 (sp1 zbt fun _=>True)
attribute [go_sem] A21
set_option maxHeartbeats 20000000 in
theorem zwG:zan Tryd.prog G A21:=by
 refine zb4 zyA zmI fun m _ hw=>?_
 have hcl:=zbV (za9 (by have h:=hw;rw[zb0]at h;exact h) (FD.sl (m.consts.map enc)) (by simp))
 have hrl:=zbV (za9 (by have h:=hw;rw[zb0]at h;exact h) (FD.sl (m.rels.map enc)) (by simp))
 simp only[List.length_map,zba]at hcl hrl
 have htl:∀i (h:i<m.rels.length),m.rels[i].tuples.length≤281474976710656∧∀k (h2:k<m.rels[i].tuples.length),m.rels[i].tuples[k].length≤281474976710656:=fun i h=>by
  have h3:(enc m.rels[i]).Wf:=zdO (za9 (by have h:=hw;rw[zb0]at h;exact h) (FD.sl (m.rels.map enc)) (by simp)) _ (List.mem_map_of_mem (List.getElem_mem h))
  rw[zj2]at h3
  have h4:=za9 h3 (FD.sl (m.rels[i].tuples.map enc)) (by simp)
  have h5:=zbV h4
  simp only[List.length_map,zba]at h5
  refine⟨h5,fun k hk=>?_⟩
  have h6:(enc m.rels[i].tuples[k]).Wf:=zdO h4 _ (List.mem_map_of_mem (List.getElem_mem hk))
  have h7:=zbV h6
  simpa[zba]using h7
 have ktl:=Kp.mk htl
 clear htl hw
 by_cases c1:m.size<1
 ·have e:zbt m=⟨3,0⟩:=by unfold zbt;rw[if_pos (.inl c1)]
  rw[e]
  refine zah (N:=167) hm (G:=G) zmI 28000 (lst []) zyA Tryd.func28 rfl rfl (by simp) (by kernel_rfl) ?_
  repeat'(first|refine rq fun _=>?_|simp only[go_sem,c1,Tryd.f28])
 by_cases c2:6<m.size
 ·have e:zbt m=⟨3,0⟩:=by unfold zbt;rw[if_pos (.inr c2)]
  rw[e]
  refine zah (N:=167) hm (G:=G) zmI 28000 (lst []) zyA Tryd.func28 rfl rfl (by simp) (by kernel_rfl) ?_
  repeat'(first|refine rq fun _=>?_|simp only[go_sem,c1,c2,Tryd.f28])
 by_cases c3:300<m.consts.length
 ·have e:zbt m=⟨2,0⟩:=by unfold zbt;rw[if_neg (by omega),if_pos (.inl c3)]
  have c3':(300<(m.consts.length:Int))=True:=eq_true (by omega)
  rw[e]
  refine zah (N:=167) hm (G:=G) zmI 28000 (lst []) zyA Tryd.func28 rfl rfl (by simp) (by kernel_rfl) ?_
  repeat'(first|refine rq fun _=>?_|simp only[go_sem,c1,c2,c3',Tryd.f28])
 have c3':(300<(m.consts.length:Int))=False:=eq_false (by omega)
 by_cases c4:300<m.rels.length
 ·have e:zbt m=⟨2,0⟩:=by unfold zbt;rw[if_neg (by omega),if_pos (.inr c4)]
  have c4':(300<(m.rels.length:Int))=True:=eq_true (by omega)
  rw[e]
  refine zah (N:=167) hm (G:=G) zmI 28000 (lst []) zyA Tryd.func28 rfl rfl (by simp) (by kernel_rfl) ?_
  repeat'(first|refine rq fun _=>?_|simp only[go_sem,c1,c2,c3',c4',Tryd.f28])
 have c4':(300<(m.rels.length:Int))=False:=eq_false (by omega)
 obtain⟨hX1,hX2⟩:=zij (m:=m) (by omega) (by omega)
 obtain⟨X,hX⟩:∃X,zbt m=X:=⟨_,rfl⟩
 rw[hX]at hX1 hX2 ⊢
 have kX1:=Kp.mk hX1
 have kX2:=Kp.mk hX2
 clear hX1 hX2 hX
 refine zah (N:=167) hm (G:=G) zmI 28000 (lst []) zyA Tryd.func28 rfl rfl (by simp) (by kernel_rfl) ?_
 repeat'(first|refine rq fun _=>?_|simp only[go_sem,c1,c2,c3',c4',Tryd.f28])
 refine zai hm (G:=G) zmI 28000 (lst []) (ι:=zbG m.consts.length 2 fun i=>ccM m 0=ccM m i)
  ⟨fun q=>⟨frL [(1,.ptr (28001,0) 0),(2,.ptr (28002,1) 0),(34,.fz (.sl (m.consts.map enc))),(35,.fz (.i .i64 m.consts.length)),(36,.fz (.i .i64 q.i))],hpL [((28001,0),some ⟨[.fz (.i .i64 m.size),.fz (.sl (m.consts.map enc)),.fz (.sl (m.rels.map enc))],true,false⟩),((28002,1),some ⟨[.fz (.i .i64 0),.fz (.i .i64 0)],true,false⟩)],q.m⟩,fun q=>m.consts.length-q.i⟩
  ⟨0,2,by omega,by omega,rfl⟩ (by kernel_rfl) ?_ ?_
 ·refine zag ?_ ?_ ?_<;>simp only[go_sem]
 rintro⟨i,q,hi,hq,hp⟩
 try simp only at hi hq hp
 rcases Nat.lt_or_ge i m.consts.length with h1|h1
 ·have hstep:=zjR h1
  have hbad:∀k:Int,zcn m.size (pvA m.consts i) m.consts[i]=k→k≠0→X=⟨k,i⟩:=fun k h h2=>by
   rw[h,if_pos h2]at hstep
   rw[kX1.out (by rw[hp,hstep];exact h2),hp,hstep]
  have hgood:zcn m.size (pvA m.consts i) m.consts[i]=0→ccM m 0=ccM m (i+1):=fun h=>by
   rw[h,if_neg (by simp)]at hstep
   rw[hp,hstep]
  obtain⟨c,hc⟩:∃c,m.consts[i]=c:=⟨_,rfl⟩
  rw[hc]at hbad hgood
  clear hstep
  rcases i with _|i
  ·rw[show pvA m.consts 0=none from rfl]at hbad hgood
   have h1':(0:Int)<(m.consts.length:Int):=by omega
   cases hn:zax c.name with
   |false=>
    rw[hbad 10 (by unfold zcn;rw[if_pos hn]) (by decide)]
    repeat'(first|refine rq fun _=>?_|simp only[go_sem,h1,h1',hc,zat,zac,zaa,hn,Tryd.f28])
    refine zas.i (f43 (a:=0) (by simp only;omega) (by simp only[go_sem]) fun n' hn'=>?_)
    repeat'(first|refine rq fun _=>?_|simp only[go_sem,Tryd.f28])
   |true=>
    have s1:∀x y z:Int,(if zax c.name=false then x else y)=y:=fun x y z=>if_neg (by simp[hn])
    by_cases hv0:c.value<0
    ·rw[hbad 3 (by unfold zcn;rw[if_neg (by simp[hn]),if_neg (by simp),if_pos (.inl hv0)]) (by decide)]
     repeat'(first|refine rq fun _=>?_|simp only[go_sem,h1,h1',hc,zat,zac,zaa,hn,hv0,Tryd.f28])
     refine zas.i (f43 (a:=0) (by simp only;omega) (by simp only[go_sem]) fun n' hn'=>?_)
     repeat'(first|refine rq fun _=>?_|simp only[go_sem,Tryd.f28])
    by_cases hv1:m.size≤c.value
    ·rw[hbad 3 (by unfold zcn;rw[if_neg (by simp[hn]),if_neg (by simp),if_pos (.inr hv1)]) (by decide)]
     repeat'(first|refine rq fun _=>?_|simp only[go_sem,h1,h1',hc,zat,zac,zaa,hn,hv0,hv1,Tryd.f28])
     refine zas.i (f43 (a:=0) (by simp only;omega) (by simp only[go_sem]) fun n' hn'=>?_)
     repeat'(first|refine rq fun _=>?_|simp only[go_sem,Tryd.f28])
    have hnx:=hgood (by unfold zcn;rw[if_neg (by simp[hn]),if_neg (by simp),if_neg (by omega)])
    repeat'(first|refine rq fun _=>?_|simp only[go_sem,h1,h1',hc,zat,zac,zaa,hn,hv0,hv1,Tryd.f28])
    refine⟨⟨0+1,q+2,by omega,by omega,hnx⟩,by simp only;omega,?_⟩
    refine zag ?_ ?_ ?_<;>simp only[go_sem]
    all_goals first|done|omega|rfl
  ·have h0:i<m.consts.length:=by omega
   rw[zcB h0]at hbad hgood
   obtain⟨p,hpv⟩:∃p,m.consts[i]=p:=⟨_,rfl⟩
   rw[hpv]at hbad hgood
   have h1':(i:Int)+1<(m.consts.length:Int):=by omega
   have hi0:(0:Int)<(i:Int)+1:=by omega
   have hi1:(i:Int)+1-1=(i:Int):=by omega
   have hi2:((i:Int)+1).toNat=i+1:=by omega
   cases hn:zax c.name with
   |false=>
    rw[hbad 10 (by unfold zcn;rw[if_pos hn]) (by decide)]
    repeat'(first|refine rq fun _=>?_|simp only[go_sem,h1,h1',hi0,hi1,hi2,hc,zat,zac,zaa,hn,Tryd.f28])
    refine zas.i (f43 (a:=(i:Int)+1) (by simp only;omega) (by simp only[go_sem]) fun n' hn'=>?_)
    repeat'(first|refine rq fun _=>?_|simp only[go_sem,Tryd.f28])
   |true=>
    have s1:∀x y z:Int,(if zax c.name=false then x else y)=y:=fun x y z=>if_neg (by simp[hn])
    by_cases hlt:p.name.l<c.name.l
    rotate_left
    ·have hlt':Op.bytesLess p.name.l c.name.l=false:=by rw[za6];exact decide_eq_false hlt
     rw[hbad 13 (by unfold zcn;rw[if_neg (by simp[hn]),if_pos (by simp only;rw[decide_eq_false hlt];rfl)]) (by decide)]
     repeat'(first|refine rq fun _=>?_|simp only[go_sem,h1,h1',hi0,hi1,hi2,hc,zat,zac,zaa,hn,hlt',hpv,h0,Tryd.f28])
     refine zas.i (f43 (a:=(i:Int)+1) (by simp only;omega) (by simp only[go_sem]) fun n' hn'=>?_)
     repeat'(first|refine rq fun _=>?_|simp only[go_sem,Tryd.f28])
    have hlt':Op.bytesLess p.name.l c.name.l=true:=by rw[za6];exact decide_eq_true hlt
    by_cases hv0:c.value<0
    ·rw[hbad 3 (by unfold zcn;rw[if_neg (by simp[hn]),if_neg (by simp[hlt]),if_pos (.inl hv0)]) (by decide)]
     repeat'(first|refine rq fun _=>?_|simp only[go_sem,h1,h1',hi0,hi1,hi2,hc,zat,zac,zaa,hn,hlt',hpv,h0,hv0,Tryd.f28])
     refine zas.i (f43 (a:=(i:Int)+1) (by simp only;omega) (by simp only[go_sem]) fun n' hn'=>?_)
     repeat'(first|refine rq fun _=>?_|simp only[go_sem,Tryd.f28])
    by_cases hv1:m.size≤c.value
    ·rw[hbad 3 (by unfold zcn;rw[if_neg (by simp[hn]),if_neg (by simp[hlt]),if_pos (.inr hv1)]) (by decide)]
     repeat'(first|refine rq fun _=>?_|simp only[go_sem,h1,h1',hi0,hi1,hi2,hc,zat,zac,zaa,hn,hlt',hpv,h0,hv0,hv1,Tryd.f28])
     refine zas.i (f43 (a:=(i:Int)+1) (by simp only;omega) (by simp only[go_sem]) fun n' hn'=>?_)
     repeat'(first|refine rq fun _=>?_|simp only[go_sem,Tryd.f28])
    have hnx:=hgood (by unfold zcn;rw[if_neg (by simp[hn]),if_neg (by simp[hlt]),if_neg (by omega)])
    repeat'(first|refine rq fun _=>?_|simp only[go_sem,h1,h1',hi0,hi1,hi2,hc,zat,zac,zaa,hn,hlt',hpv,h0,hv0,hv1,Tryd.f28])
    refine⟨⟨(i+1)+1,q+2,by omega,by omega,hnx⟩,by simp only;omega,?_⟩
    refine zag ?_ ?_ ?_<;>simp only[go_sem]
    all_goals first|done|omega|rfl
 obtain rfl:i=m.consts.length:=by omega
 have hrr:X=rrM m 0:=kX2.out (by rw[hp,zwb])
 repeat'(first|refine rq fun _=>?_|simp only[go_sem,Nat.lt_irrefl,Tryd.f28])
 refine zai hm (G:=G) zmI 28000 (lst []) (ι:=zbG m.rels.length 2 fun i=>rrM m 0=rrM m i)
  ⟨fun q=>⟨frL [(1,.ptr (28001,0) 0),(2,.ptr (28002,1) 0),(78,.fz (.sl (m.rels.map enc))),(79,.fz (.i .i64 m.rels.length)),(80,.fz (.i .i64 q.i))],hpL [((28001,0),some ⟨[.fz (.i .i64 m.size),.fz (.sl (m.consts.map enc)),.fz (.sl (m.rels.map enc))],true,false⟩),((28002,1),some ⟨[.fz (.i .i64 0),.fz (.i .i64 0)],true,false⟩)],q.m⟩,fun q=>m.rels.length-q.i⟩
  ⟨0,q,by omega,by omega,rfl⟩ (by kernel_rfl) ?_ ?_
 ·refine zag ?_ ?_ ?_<;>simp only[go_sem]
  all_goals first|done|omega|rfl
 clear hp
 rintro⟨i,q,hi,hq,hp⟩
 try simp only at hi hq hp
 rcases Nat.lt_or_ge i m.rels.length with h1|h1
 ·have hstep:=zhw h1
  have hbad:∀k:Int,zjt m.size (pvA m.rels i) m.rels[i]=k→k≠0→X=⟨k,i⟩:=fun k h h2=>by
   rw[h,if_pos h2]at hstep
   rw[hrr,hp,hstep]
  have hgood:zjt m.size (pvA m.rels i) m.rels[i]=0→rrM m 0=rrM m (i+1):=fun h=>by
   rw[h,if_neg (by simp)]at hstep
   rw[hp,hstep]
  have htx:=ktl.out i h1
  obtain⟨x,hx⟩:∃x,m.rels[i]=x:=⟨_,rfl⟩
  rw[hx]at hbad hgood
  simp only[hx]at htx
  clear hstep
  rcases i with _|i
  ·rw[show pvA m.rels 0=none from rfl]at hbad hgood
   have h1':(0:Int)<(m.rels.length:Int):=by omega
   cases hn:zax x.name with
   |false=>
    rw[hbad 10 (by unfold zjt;rw[if_pos hn]) (by decide)]
    repeat'(first|refine rq fun _=>?_|simp only[go_sem,h1,h1',hx,zaq,zac,zaa,hn,Tryd.f28])
    refine zas.i (f45 (a:=0) (by simp only;omega) (by simp only[go_sem]) fun n' hn'=>?_)
    repeat'(first|refine rq fun _=>?_|simp only[go_sem,Tryd.f28])
   |true=>
    by_cases a0:x.arity<0
    ·rw[hbad 3 (by unfold zjt;rw[if_neg (by simp[hn]),if_pos (.inl a0)]) (by decide)]
     repeat'(first|refine rq fun _=>?_|simp only[go_sem,h1,h1',hx,zaq,zac,zaa,hn,a0,Tryd.f28])
     refine zas.i (f45 (a:=0) (by simp only;omega) (by simp only[go_sem]) fun n' hn'=>?_)
     repeat'(first|refine rq fun _=>?_|simp only[go_sem,Tryd.f28])
    by_cases a1:3<x.arity
    ·rw[hbad 3 (by unfold zjt;rw[if_neg (by simp[hn]),if_pos (.inr a1)]) (by decide)]
     repeat'(first|refine rq fun _=>?_|simp only[go_sem,h1,h1',hx,zaq,zac,zaa,hn,a0,a1,Tryd.f28])
     refine zas.i (f45 (a:=0) (by simp only;omega) (by simp only[go_sem]) fun n' hn'=>?_)
     repeat'(first|refine rq fun _=>?_|simp only[go_sem,Tryd.f28])
    have hrel:zjt m.size none x=ttM m.size x.arity x.tuples 0:=by unfold zjt;rw[if_neg (by simp[hn]),if_neg (by omega),if_neg (by simp)];rfl
    rw[hrel]at hbad hgood
    have hT:=htx.1
    repeat'(first|refine rq fun _=>?_|simp only[go_sem,h1,h1',hx,zaq,zac,zaa,hn,a0,a1,Tryd.f28])
    refine zai hm (G:=G) zmI 28000 (lst []) (ι:=zbG x.tuples.length (q+2) fun k=>ttM m.size x.arity x.tuples 0=ttM m.size x.arity x.tuples k)
     ⟨fun q2=>⟨frL [(1,.ptr (28001,0) 0),(2,.ptr (28002,1) 0),(78,.fz (.sl (m.rels.map enc))),(79,.fz (.i .i64 m.rels.length)),(80,.fz (.i .i64 (0))),(6,.ptr (28006,q) 0),(7,.ptr (28007,q+1) 0),(8,.fn 45 [.ptr (28006,q) 0]),(118,.fz (.sl (x.tuples.map enc))),(119,.fz (.i .i64 x.tuples.length)),(120,.fz (.i .i64 q2.i))],hpL [((28001,0),some ⟨[.fz (.i .i64 m.size),.fz (.sl (m.consts.map enc)),.fz (.sl (m.rels.map enc))],true,false⟩),((28002,1),some ⟨[.fz (.i .i64 0),.fz (.i .i64 0)],true,false⟩),((28006,q),some ⟨[.fz (.i .i64 (0))],true,false⟩),((28007,q+1),some ⟨[.fz (.s x.name.l),.fz (.i .i64 x.arity),.fz (.sl (x.tuples.map enc))],true,false⟩)],q2.m⟩,fun q2=>x.tuples.length-q2.i⟩
     ⟨0,q+2,by omega,by omega,rfl⟩ (by kernel_rfl) ?_ ?_
    ·refine zag ?_ ?_ ?_<;>simp only[go_sem]
     all_goals first|done|omega|rfl
    rintro⟨k,mm,hk,hmm,hpk2⟩
    try simp only at hk hmm hpk2
    rcases Nat.lt_or_ge k x.tuples.length with h2|h2
    ·have hst:=zhC (size:=m.size) (arity:=x.arity) h2
     have kTb:∀c:Int,zfw m.size x.arity (pvA x.tuples k) x.tuples[k]=c→c≠0→X=⟨c,(0:Int)⟩:=fun c h h4=>by
      rw[h,if_pos h4]at hst
      exact hbad c (hpk2.trans hst) h4
     have kTg:zfw m.size x.arity (pvA x.tuples k) x.tuples[k]=0→ttM m.size x.arity x.tuples 0=ttM m.size x.arity x.tuples (k+1):=fun h=>by
      rw[h,if_neg (by simp)]at hst
      exact hpk2.trans hst
     have htlk:=htx.2 k h2
     obtain⟨t,hkx⟩:∃t,x.tuples[k]=t:=⟨_,rfl⟩
     rw[hkx]at kTb kTg htlk
     clear hst
     have hk:=h2
     rcases k with _|k
     ·rw[show pvA x.tuples 0=none from rfl]at kTb kTg
      have hk1:(0:Int)<(x.tuples.length:Int):=by omega
      by_cases ha:(t.length:Int)=x.arity
      rotate_left
      ·have ha':((t.length:Int)=x.arity)=False:=eq_false ha
       rw[kTb 9 (by unfold zfw;rw[if_pos ha]) (by decide)]
       repeat'(first|refine rq fun _=>?_|simp only[go_sem,hk,hk1,hkx,h1,h1',hx,zaq,zac,zaa,hn,a0,a1,ha',Tryd.f28])
       refine zas.i (f45 (a:=0) (by simp only;omega) (by simp only[go_sem]) fun n' hn'=>?_)
       repeat'(first|refine rq fun _=>?_|simp only[go_sem,Tryd.f28])
      have ha':((t.length:Int)=x.arity)=True:=eq_true ha
      repeat'(first|refine rq fun _=>?_|simp only[go_sem,hk,hk1,hkx,h1,h1',hx,zaq,zac,zaa,hn,a0,a1,ha',Tryd.f28])
      refine zai hm (G:=G) zmI 28000 (lst []) (ι:=za5 t.length fun j=>(t.take j).any (fun v=>decide (v<0∨m.size≤v))=false)
       ⟨fun q2=>⟨frL [(1,.ptr (28001,0) 0),(2,.ptr (28002,1) 0),(78,.fz (.sl (m.rels.map enc))),(79,.fz (.i .i64 m.rels.length)),(80,.fz (.i .i64 (0))),(6,.ptr (28006,q) 0),(7,.ptr (28007,q+1) 0),(8,.fn 45 [.ptr (28006,q) 0]),(118,.fz (.sl (x.tuples.map enc))),(119,.fz (.i .i64 x.tuples.length)),(120,.fz (.i .i64 (0))),(9,.fz (.i .i64 (0))),(10,.fz (.sl (t.map enc))),(132,.fz (.sl (t.map enc))),(133,.fz (.i .i64 t.length)),(134,.fz (.i .i64 q2.i))],hpL [((28001,0),some ⟨[.fz (.i .i64 m.size),.fz (.sl (m.consts.map enc)),.fz (.sl (m.rels.map enc))],true,false⟩),((28002,1),some ⟨[.fz (.i .i64 0),.fz (.i .i64 0)],true,false⟩),((28006,q),some ⟨[.fz (.i .i64 (0))],true,false⟩),((28007,q+1),some ⟨[.fz (.s x.name.l),.fz (.i .i64 x.arity),.fz (.sl (x.tuples.map enc))],true,false⟩)],mm⟩,fun q2=>t.length-q2.i⟩
       ⟨0,by omega,rfl⟩ (by kernel_rfl) ?_ ?_
      ·refine zag ?_ ?_ ?_<;>simp only[go_sem]
       all_goals first|done|omega|rfl
      rintro⟨j,hj,hpj⟩
      try simp only at hj hpj
      rcases Nat.lt_or_ge j t.length with h3|h3
      ·have hts:=zbM (f:=fun v=>decide (v<0∨m.size≤v)) h3
       rw[hpj,Bool.false_or]at hts
       have hany:decide (t[j]<0∨m.size≤t[j])=true→t.any (fun v=>decide (v<0∨m.size≤v))=true:=fun h=>List.any_eq_true.2 ⟨t[j],List.getElem_mem h3,h⟩
       obtain⟨v,hv⟩:∃v,t[j]=v:=⟨_,rfl⟩
       rw[hv]at hts hany
       by_cases v0:v<0
       ·rw[kTb 3 (by unfold zfw;rw[if_neg (by simp[ha]),if_pos (hany (decide_eq_true (.inl v0)))]) (by decide)]
        repeat'(first|refine rq fun _=>?_|simp only[go_sem,hk,hk1,hkx,h1,h1',hx,zaq,zac,zaa,hn,a0,a1,h3,hv,v0,Tryd.f28])
        refine zas.i (f45 (a:=0) (by simp only;omega) (by simp only[go_sem]) fun n' hn'=>?_)
        repeat'(first|refine rq fun _=>?_|simp only[go_sem,Tryd.f28])
       by_cases v1:m.size≤v
       ·rw[kTb 3 (by unfold zfw;rw[if_neg (by simp[ha]),if_pos (hany (decide_eq_true (.inr v1)))]) (by decide)]
        repeat'(first|refine rq fun _=>?_|simp only[go_sem,hk,hk1,hkx,h1,h1',hx,zaq,zac,zaa,hn,a0,a1,h3,hv,v0,v1,Tryd.f28])
        refine zas.i (f45 (a:=0) (by simp only;omega) (by simp only[go_sem]) fun n' hn'=>?_)
        repeat'(first|refine rq fun _=>?_|simp only[go_sem,Tryd.f28])
       have hnj:(t.take (j+1)).any (fun v=>decide (v<0∨m.size≤v))=false:=by rw[hts];exact decide_eq_false (by omega)
       repeat'(first|refine rq fun _=>?_|simp only[go_sem,hk,hk1,hkx,h1,h1',hx,zaq,zac,zaa,hn,a0,a1,h3,hv,v0,v1,Tryd.f28])
       refine⟨⟨j+1,by omega,hnj⟩,by simp only;omega,?_⟩
       refine zag ?_ ?_ ?_<;>simp only[go_sem]
       all_goals first|done|omega|rfl
      obtain rfl:j=t.length:=by omega
      rw[List.take_length]at hpj
      have hnx:=kTg (by unfold zfw;rw[if_neg (by simp[ha]),if_neg (by rw[hpj];decide),if_neg (by simp)])
      repeat'(first|refine rq fun _=>?_|simp only[go_sem,hk,hk1,hkx,h1,h1',hx,zaq,zac,zaa,hn,a0,a1,Nat.lt_irrefl,Tryd.f28])
      refine⟨⟨0+1,mm,by omega,by omega,hnx⟩,by simp only;omega,?_⟩
      refine zag ?_ ?_ ?_<;>simp only[go_sem]
      all_goals first|done|omega|rfl
     ·have hk0:k<x.tuples.length:=by omega
      rw[zcB hk0]at kTb kTg
      obtain⟨y,hpk⟩:∃y,x.tuples[k]=y:=⟨_,rfl⟩
      rw[hpk]at kTb kTg
      have hk1:(k:Int)+1<(x.tuples.length:Int):=by omega
      have hk3:(0:Int)<(k:Int)+1:=by omega
      have hk4:(k:Int)+1-1=(k:Int):=by omega
      have hk5:((k:Int)+1).toNat=k+1:=by omega
      by_cases ha:(t.length:Int)=x.arity
      rotate_left
      ·have ha':((t.length:Int)=x.arity)=False:=eq_false ha
       rw[kTb 9 (by unfold zfw;rw[if_pos ha]) (by decide)]
       repeat'(first|refine rq fun _=>?_|simp only[go_sem,hk,hk1,hkx,hk0,hpk,hk3,hk4,hk5,h1,h1',hx,zaq,zac,zaa,hn,a0,a1,ha',Tryd.f28])
       refine zas.i (f45 (a:=0) (by simp only;omega) (by simp only[go_sem]) fun n' hn'=>?_)
       repeat'(first|refine rq fun _=>?_|simp only[go_sem,Tryd.f28])
      have ha':((t.length:Int)=x.arity)=True:=eq_true ha
      repeat'(first|refine rq fun _=>?_|simp only[go_sem,hk,hk1,hkx,hk0,hpk,hk3,hk4,hk5,h1,h1',hx,zaq,zac,zaa,hn,a0,a1,ha',Tryd.f28])
      refine zai hm (G:=G) zmI 28000 (lst []) (ι:=za5 t.length fun j=>(t.take j).any (fun v=>decide (v<0∨m.size≤v))=false)
       ⟨fun q2=>⟨frL [(1,.ptr (28001,0) 0),(2,.ptr (28002,1) 0),(78,.fz (.sl (m.rels.map enc))),(79,.fz (.i .i64 m.rels.length)),(80,.fz (.i .i64 (0))),(6,.ptr (28006,q) 0),(7,.ptr (28007,q+1) 0),(8,.fn 45 [.ptr (28006,q) 0]),(118,.fz (.sl (x.tuples.map enc))),(119,.fz (.i .i64 x.tuples.length)),(120,.fz (.i .i64 ((k:Int)+1))),(9,.fz (.i .i64 ((k:Int)+1))),(10,.fz (.sl (t.map enc))),(132,.fz (.sl (t.map enc))),(133,.fz (.i .i64 t.length)),(134,.fz (.i .i64 q2.i))],hpL [((28001,0),some ⟨[.fz (.i .i64 m.size),.fz (.sl (m.consts.map enc)),.fz (.sl (m.rels.map enc))],true,false⟩),((28002,1),some ⟨[.fz (.i .i64 0),.fz (.i .i64 0)],true,false⟩),((28006,q),some ⟨[.fz (.i .i64 (0))],true,false⟩),((28007,q+1),some ⟨[.fz (.s x.name.l),.fz (.i .i64 x.arity),.fz (.sl (x.tuples.map enc))],true,false⟩)],mm⟩,fun q2=>t.length-q2.i⟩
       ⟨0,by omega,rfl⟩ (by kernel_rfl) ?_ ?_
      ·refine zag ?_ ?_ ?_<;>simp only[go_sem]
       all_goals first|done|omega|rfl
      rintro⟨j,hj,hpj⟩
      try simp only at hj hpj
      rcases Nat.lt_or_ge j t.length with h3|h3
      ·have hts:=zbM (f:=fun v=>decide (v<0∨m.size≤v)) h3
       rw[hpj,Bool.false_or]at hts
       have hany:decide (t[j]<0∨m.size≤t[j])=true→t.any (fun v=>decide (v<0∨m.size≤v))=true:=fun h=>List.any_eq_true.2 ⟨t[j],List.getElem_mem h3,h⟩
       obtain⟨v,hv⟩:∃v,t[j]=v:=⟨_,rfl⟩
       rw[hv]at hts hany
       by_cases v0:v<0
       ·rw[kTb 3 (by unfold zfw;rw[if_neg (by simp[ha]),if_pos (hany (decide_eq_true (.inl v0)))]) (by decide)]
        repeat'(first|refine rq fun _=>?_|simp only[go_sem,hk,hk1,hkx,hk0,hpk,hk3,hk4,hk5,h1,h1',hx,zaq,zac,zaa,hn,a0,a1,h3,hv,v0,Tryd.f28])
        refine zas.i (f45 (a:=0) (by simp only;omega) (by simp only[go_sem]) fun n' hn'=>?_)
        repeat'(first|refine rq fun _=>?_|simp only[go_sem,Tryd.f28])
       by_cases v1:m.size≤v
       ·rw[kTb 3 (by unfold zfw;rw[if_neg (by simp[ha]),if_pos (hany (decide_eq_true (.inr v1)))]) (by decide)]
        repeat'(first|refine rq fun _=>?_|simp only[go_sem,hk,hk1,hkx,hk0,hpk,hk3,hk4,hk5,h1,h1',hx,zaq,zac,zaa,hn,a0,a1,h3,hv,v0,v1,Tryd.f28])
        refine zas.i (f45 (a:=0) (by simp only;omega) (by simp only[go_sem]) fun n' hn'=>?_)
        repeat'(first|refine rq fun _=>?_|simp only[go_sem,Tryd.f28])
       have hnj:(t.take (j+1)).any (fun v=>decide (v<0∨m.size≤v))=false:=by rw[hts];exact decide_eq_false (by omega)
       repeat'(first|refine rq fun _=>?_|simp only[go_sem,hk,hk1,hkx,hk0,hpk,hk3,hk4,hk5,h1,h1',hx,zaq,zac,zaa,hn,a0,a1,h3,hv,v0,v1,Tryd.f28])
       refine⟨⟨j+1,by omega,hnj⟩,by simp only;omega,?_⟩
       refine zag ?_ ?_ ?_<;>simp only[go_sem]
       all_goals first|done|omega|rfl
      obtain rfl:j=t.length:=by omega
      rw[List.take_length]at hpj
      by_cases hcl2:0≤zc9 y t
      ·rw[kTb 13 (by unfold zfw;rw[if_neg (by simp[ha]),if_neg (by rw[hpj];decide),if_pos (by simp[hcl2])]) (by decide)]
       repeat'(first|refine rq fun _=>?_|simp only[go_sem,hk,hk1,hkx,hk0,hpk,hk3,hk4,hk5,h1,h1',hx,zaq,zac,zaa,hn,a0,a1,Nat.lt_irrefl,hcl2,Tryd.f28])
       refine zas.i (f45 (a:=0) (by simp only;omega) (by simp only[go_sem]) fun n' hn'=>?_)
       repeat'(first|refine rq fun _=>?_|simp only[go_sem,Tryd.f28])
      have hnx:=kTg (by unfold zfw;rw[if_neg (by simp[ha]),if_neg (by rw[hpj];decide),if_neg (by simp[hcl2])])
      repeat'(first|refine rq fun _=>?_|simp only[go_sem,hk,hk1,hkx,hk0,hpk,hk3,hk4,hk5,h1,h1',hx,zaq,zac,zaa,hn,a0,a1,Nat.lt_irrefl,hcl2,Tryd.f28])
      refine⟨⟨(k+1)+1,mm,by omega,by omega,hnx⟩,by simp only;omega,?_⟩
      refine zag ?_ ?_ ?_<;>simp only[go_sem]
      all_goals first|done|omega|rfl
    obtain rfl:k=x.tuples.length:=by omega
    have hnx:=hgood (by rw[hpk2,zs7])
    repeat'(first|refine rq fun _=>?_|simp only[go_sem,h1,h1',hx,zaq,zac,zaa,hn,a0,a1,Nat.lt_irrefl,Tryd.f28])
    refine⟨⟨0+1,mm,by omega,by omega,hnx⟩,by simp only;omega,?_⟩
    refine zag ?_ ?_ ?_<;>simp only[go_sem]
    all_goals first|done|omega|rfl
  ·have h0:i<m.rels.length:=by omega
   rw[zcB h0]at hbad hgood
   obtain⟨p,hpv⟩:∃p,m.rels[i]=p:=⟨_,rfl⟩
   rw[hpv]at hbad hgood
   have h1':(i:Int)+1<(m.rels.length:Int):=by omega
   have hi0:(0:Int)<(i:Int)+1:=by omega
   have hi1:(i:Int)+1-1=(i:Int):=by omega
   have hi2:((i:Int)+1).toNat=i+1:=by omega
   cases hn:zax x.name with
   |false=>
    rw[hbad 10 (by unfold zjt;rw[if_pos hn]) (by decide)]
    repeat'(first|refine rq fun _=>?_|simp only[go_sem,h1,h1',hx,zaq,zac,zaa,hpv,h0,hi0,hi1,hi2,hn,Tryd.f28])
    refine zas.i (f45 (a:=(i:Int)+1) (by simp only;omega) (by simp only[go_sem]) fun n' hn'=>?_)
    repeat'(first|refine rq fun _=>?_|simp only[go_sem,Tryd.f28])
   |true=>
    by_cases a0:x.arity<0
    ·rw[hbad 3 (by unfold zjt;rw[if_neg (by simp[hn]),if_pos (.inl a0)]) (by decide)]
     repeat'(first|refine rq fun _=>?_|simp only[go_sem,h1,h1',hx,zaq,zac,zaa,hpv,h0,hi0,hi1,hi2,hn,a0,Tryd.f28])
     refine zas.i (f45 (a:=(i:Int)+1) (by simp only;omega) (by simp only[go_sem]) fun n' hn'=>?_)
     repeat'(first|refine rq fun _=>?_|simp only[go_sem,Tryd.f28])
    by_cases a1:3<x.arity
    ·rw[hbad 3 (by unfold zjt;rw[if_neg (by simp[hn]),if_pos (.inr a1)]) (by decide)]
     repeat'(first|refine rq fun _=>?_|simp only[go_sem,h1,h1',hx,zaq,zac,zaa,hpv,h0,hi0,hi1,hi2,hn,a0,a1,Tryd.f28])
     refine zas.i (f45 (a:=(i:Int)+1) (by simp only;omega) (by simp only[go_sem]) fun n' hn'=>?_)
     repeat'(first|refine rq fun _=>?_|simp only[go_sem,Tryd.f28])
    by_cases hcp:0≤zoe p x
    ·rw[hbad 13 (by unfold zjt;rw[if_neg (by simp[hn]),if_neg (by omega),if_pos (by simp[hcp])]) (by decide)]
     repeat'(first|refine rq fun _=>?_|simp only[go_sem,h1,h1',hx,zaq,zac,zaa,hpv,h0,hi0,hi1,hi2,hn,a0,a1,hcp,Tryd.f28])
     refine zas.i (f45 (a:=(i:Int)+1) (by simp only;omega) (by simp only[go_sem]) fun n' hn'=>?_)
     repeat'(first|refine rq fun _=>?_|simp only[go_sem,Tryd.f28])
    have hrel:zjt m.size (some p) x=ttM m.size x.arity x.tuples 0:=by unfold zjt;rw[if_neg (by simp[hn]),if_neg (by omega),if_neg (by simp[hcp])];rfl
    rw[hrel]at hbad hgood
    have hT:=htx.1
    repeat'(first|refine rq fun _=>?_|simp only[go_sem,h1,h1',hx,zaq,zac,zaa,hpv,h0,hi0,hi1,hi2,hn,a0,a1,hcp,Tryd.f28])
    refine zai hm (G:=G) zmI 28000 (lst []) (ι:=zbG x.tuples.length (q+2) fun k=>ttM m.size x.arity x.tuples 0=ttM m.size x.arity x.tuples k)
     ⟨fun q2=>⟨frL [(1,.ptr (28001,0) 0),(2,.ptr (28002,1) 0),(78,.fz (.sl (m.rels.map enc))),(79,.fz (.i .i64 m.rels.length)),(80,.fz (.i .i64 ((i:Int)+1))),(6,.ptr (28006,q) 0),(7,.ptr (28007,q+1) 0),(8,.fn 45 [.ptr (28006,q) 0]),(118,.fz (.sl (x.tuples.map enc))),(119,.fz (.i .i64 x.tuples.length)),(120,.fz (.i .i64 q2.i))],hpL [((28001,0),some ⟨[.fz (.i .i64 m.size),.fz (.sl (m.consts.map enc)),.fz (.sl (m.rels.map enc))],true,false⟩),((28002,1),some ⟨[.fz (.i .i64 0),.fz (.i .i64 0)],true,false⟩),((28006,q),some ⟨[.fz (.i .i64 ((i:Int)+1))],true,false⟩),((28007,q+1),some ⟨[.fz (.s x.name.l),.fz (.i .i64 x.arity),.fz (.sl (x.tuples.map enc))],true,false⟩)],q2.m⟩,fun q2=>x.tuples.length-q2.i⟩
     ⟨0,q+2,by omega,by omega,rfl⟩ (by kernel_rfl) ?_ ?_
    ·refine zag ?_ ?_ ?_<;>simp only[go_sem]
     all_goals first|done|omega|rfl
    rintro⟨k,mm,hk,hmm,hpk2⟩
    try simp only at hk hmm hpk2
    rcases Nat.lt_or_ge k x.tuples.length with h2|h2
    ·have hst:=zhC (size:=m.size) (arity:=x.arity) h2
     have kTb:∀c:Int,zfw m.size x.arity (pvA x.tuples k) x.tuples[k]=c→c≠0→X=⟨c,((i:Int)+1:Int)⟩:=fun c h h4=>by
      rw[h,if_pos h4]at hst
      exact hbad c (hpk2.trans hst) h4
     have kTg:zfw m.size x.arity (pvA x.tuples k) x.tuples[k]=0→ttM m.size x.arity x.tuples 0=ttM m.size x.arity x.tuples (k+1):=fun h=>by
      rw[h,if_neg (by simp)]at hst
      exact hpk2.trans hst
     have htlk:=htx.2 k h2
     obtain⟨t,hkx⟩:∃t,x.tuples[k]=t:=⟨_,rfl⟩
     rw[hkx]at kTb kTg htlk
     clear hst
     have hk:=h2
     rcases k with _|k
     ·rw[show pvA x.tuples 0=none from rfl]at kTb kTg
      have hk1:(0:Int)<(x.tuples.length:Int):=by omega
      by_cases ha:(t.length:Int)=x.arity
      rotate_left
      ·have ha':((t.length:Int)=x.arity)=False:=eq_false ha
       rw[kTb 9 (by unfold zfw;rw[if_pos ha]) (by decide)]
       repeat'(first|refine rq fun _=>?_|simp only[go_sem,hk,hk1,hkx,h1,h1',hx,zaq,zac,zaa,hpv,h0,hi0,hi1,hi2,hn,a0,a1,hcp,ha',Tryd.f28])
       refine zas.i (f45 (a:=(i:Int)+1) (by simp only;omega) (by simp only[go_sem]) fun n' hn'=>?_)
       repeat'(first|refine rq fun _=>?_|simp only[go_sem,Tryd.f28])
      have ha':((t.length:Int)=x.arity)=True:=eq_true ha
      repeat'(first|refine rq fun _=>?_|simp only[go_sem,hk,hk1,hkx,h1,h1',hx,zaq,zac,zaa,hpv,h0,hi0,hi1,hi2,hn,a0,a1,hcp,ha',Tryd.f28])
      refine zai hm (G:=G) zmI 28000 (lst []) (ι:=za5 t.length fun j=>(t.take j).any (fun v=>decide (v<0∨m.size≤v))=false)
       ⟨fun q2=>⟨frL [(1,.ptr (28001,0) 0),(2,.ptr (28002,1) 0),(78,.fz (.sl (m.rels.map enc))),(79,.fz (.i .i64 m.rels.length)),(80,.fz (.i .i64 ((i:Int)+1))),(6,.ptr (28006,q) 0),(7,.ptr (28007,q+1) 0),(8,.fn 45 [.ptr (28006,q) 0]),(118,.fz (.sl (x.tuples.map enc))),(119,.fz (.i .i64 x.tuples.length)),(120,.fz (.i .i64 (0))),(9,.fz (.i .i64 (0))),(10,.fz (.sl (t.map enc))),(132,.fz (.sl (t.map enc))),(133,.fz (.i .i64 t.length)),(134,.fz (.i .i64 q2.i))],hpL [((28001,0),some ⟨[.fz (.i .i64 m.size),.fz (.sl (m.consts.map enc)),.fz (.sl (m.rels.map enc))],true,false⟩),((28002,1),some ⟨[.fz (.i .i64 0),.fz (.i .i64 0)],true,false⟩),((28006,q),some ⟨[.fz (.i .i64 ((i:Int)+1))],true,false⟩),((28007,q+1),some ⟨[.fz (.s x.name.l),.fz (.i .i64 x.arity),.fz (.sl (x.tuples.map enc))],true,false⟩)],mm⟩,fun q2=>t.length-q2.i⟩
       ⟨0,by omega,rfl⟩ (by kernel_rfl) ?_ ?_
      ·refine zag ?_ ?_ ?_<;>simp only[go_sem]
       all_goals first|done|omega|rfl
      rintro⟨j,hj,hpj⟩
      try simp only at hj hpj
      rcases Nat.lt_or_ge j t.length with h3|h3
      ·have hts:=zbM (f:=fun v=>decide (v<0∨m.size≤v)) h3
       rw[hpj,Bool.false_or]at hts
       have hany:decide (t[j]<0∨m.size≤t[j])=true→t.any (fun v=>decide (v<0∨m.size≤v))=true:=fun h=>List.any_eq_true.2 ⟨t[j],List.getElem_mem h3,h⟩
       obtain⟨v,hv⟩:∃v,t[j]=v:=⟨_,rfl⟩
       rw[hv]at hts hany
       by_cases v0:v<0
       ·rw[kTb 3 (by unfold zfw;rw[if_neg (by simp[ha]),if_pos (hany (decide_eq_true (.inl v0)))]) (by decide)]
        repeat'(first|refine rq fun _=>?_|simp only[go_sem,hk,hk1,hkx,h1,h1',hx,zaq,zac,zaa,hpv,h0,hi0,hi1,hi2,hn,a0,a1,hcp,h3,hv,v0,Tryd.f28])
        refine zas.i (f45 (a:=(i:Int)+1) (by simp only;omega) (by simp only[go_sem]) fun n' hn'=>?_)
        repeat'(first|refine rq fun _=>?_|simp only[go_sem,Tryd.f28])
       by_cases v1:m.size≤v
       ·rw[kTb 3 (by unfold zfw;rw[if_neg (by simp[ha]),if_pos (hany (decide_eq_true (.inr v1)))]) (by decide)]
        repeat'(first|refine rq fun _=>?_|simp only[go_sem,hk,hk1,hkx,h1,h1',hx,zaq,zac,zaa,hpv,h0,hi0,hi1,hi2,hn,a0,a1,hcp,h3,hv,v0,v1,Tryd.f28])
        refine zas.i (f45 (a:=(i:Int)+1) (by simp only;omega) (by simp only[go_sem]) fun n' hn'=>?_)
        repeat'(first|refine rq fun _=>?_|simp only[go_sem,Tryd.f28])
       have hnj:(t.take (j+1)).any (fun v=>decide (v<0∨m.size≤v))=false:=by rw[hts];exact decide_eq_false (by omega)
       repeat'(first|refine rq fun _=>?_|simp only[go_sem,hk,hk1,hkx,h1,h1',hx,zaq,zac,zaa,hpv,h0,hi0,hi1,hi2,hn,a0,a1,hcp,h3,hv,v0,v1,Tryd.f28])
       refine⟨⟨j+1,by omega,hnj⟩,by simp only;omega,?_⟩
       refine zag ?_ ?_ ?_<;>simp only[go_sem]
       all_goals first|done|omega|rfl
      obtain rfl:j=t.length:=by omega
      rw[List.take_length]at hpj
      have hnx:=kTg (by unfold zfw;rw[if_neg (by simp[ha]),if_neg (by rw[hpj];decide),if_neg (by simp)])
      repeat'(first|refine rq fun _=>?_|simp only[go_sem,hk,hk1,hkx,h1,h1',hx,zaq,zac,zaa,hpv,h0,hi0,hi1,hi2,hn,a0,a1,hcp,Nat.lt_irrefl,Tryd.f28])
      refine⟨⟨0+1,mm,by omega,by omega,hnx⟩,by simp only;omega,?_⟩
      refine zag ?_ ?_ ?_<;>simp only[go_sem]
      all_goals first|done|omega|rfl
     ·have hk0:k<x.tuples.length:=by omega
      rw[zcB hk0]at kTb kTg
      obtain⟨y,hpk⟩:∃y,x.tuples[k]=y:=⟨_,rfl⟩
      rw[hpk]at kTb kTg
      have hk1:(k:Int)+1<(x.tuples.length:Int):=by omega
      have hk3:(0:Int)<(k:Int)+1:=by omega
      have hk4:(k:Int)+1-1=(k:Int):=by omega
      have hk5:((k:Int)+1).toNat=k+1:=by omega
      by_cases ha:(t.length:Int)=x.arity
      rotate_left
      ·have ha':((t.length:Int)=x.arity)=False:=eq_false ha
       rw[kTb 9 (by unfold zfw;rw[if_pos ha]) (by decide)]
       repeat'(first|refine rq fun _=>?_|simp only[go_sem,hk,hk1,hkx,hk0,hpk,hk3,hk4,hk5,h1,h1',hx,zaq,zac,zaa,hpv,h0,hi0,hi1,hi2,hn,a0,a1,hcp,ha',Tryd.f28])
       refine zas.i (f45 (a:=(i:Int)+1) (by simp only;omega) (by simp only[go_sem]) fun n' hn'=>?_)
       repeat'(first|refine rq fun _=>?_|simp only[go_sem,Tryd.f28])
      have ha':((t.length:Int)=x.arity)=True:=eq_true ha
      repeat'(first|refine rq fun _=>?_|simp only[go_sem,hk,hk1,hkx,hk0,hpk,hk3,hk4,hk5,h1,h1',hx,zaq,zac,zaa,hpv,h0,hi0,hi1,hi2,hn,a0,a1,hcp,ha',Tryd.f28])
      refine zai hm (G:=G) zmI 28000 (lst []) (ι:=za5 t.length fun j=>(t.take j).any (fun v=>decide (v<0∨m.size≤v))=false)
       ⟨fun q2=>⟨frL [(1,.ptr (28001,0) 0),(2,.ptr (28002,1) 0),(78,.fz (.sl (m.rels.map enc))),(79,.fz (.i .i64 m.rels.length)),(80,.fz (.i .i64 ((i:Int)+1))),(6,.ptr (28006,q) 0),(7,.ptr (28007,q+1) 0),(8,.fn 45 [.ptr (28006,q) 0]),(118,.fz (.sl (x.tuples.map enc))),(119,.fz (.i .i64 x.tuples.length)),(120,.fz (.i .i64 ((k:Int)+1))),(9,.fz (.i .i64 ((k:Int)+1))),(10,.fz (.sl (t.map enc))),(132,.fz (.sl (t.map enc))),(133,.fz (.i .i64 t.length)),(134,.fz (.i .i64 q2.i))],hpL [((28001,0),some ⟨[.fz (.i .i64 m.size),.fz (.sl (m.consts.map enc)),.fz (.sl (m.rels.map enc))],true,false⟩),((28002,1),some ⟨[.fz (.i .i64 0),.fz (.i .i64 0)],true,false⟩),((28006,q),some ⟨[.fz (.i .i64 ((i:Int)+1))],true,false⟩),((28007,q+1),some ⟨[.fz (.s x.name.l),.fz (.i .i64 x.arity),.fz (.sl (x.tuples.map enc))],true,false⟩)],mm⟩,fun q2=>t.length-q2.i⟩
       ⟨0,by omega,rfl⟩ (by kernel_rfl) ?_ ?_
      ·refine zag ?_ ?_ ?_<;>simp only[go_sem]
       all_goals first|done|omega|rfl
      rintro⟨j,hj,hpj⟩
      try simp only at hj hpj
      rcases Nat.lt_or_ge j t.length with h3|h3
      ·have hts:=zbM (f:=fun v=>decide (v<0∨m.size≤v)) h3
       rw[hpj,Bool.false_or]at hts
       have hany:decide (t[j]<0∨m.size≤t[j])=true→t.any (fun v=>decide (v<0∨m.size≤v))=true:=fun h=>List.any_eq_true.2 ⟨t[j],List.getElem_mem h3,h⟩
       obtain⟨v,hv⟩:∃v,t[j]=v:=⟨_,rfl⟩
       rw[hv]at hts hany
       by_cases v0:v<0
       ·rw[kTb 3 (by unfold zfw;rw[if_neg (by simp[ha]),if_pos (hany (decide_eq_true (.inl v0)))]) (by decide)]
        repeat'(first|refine rq fun _=>?_|simp only[go_sem,hk,hk1,hkx,hk0,hpk,hk3,hk4,hk5,h1,h1',hx,zaq,zac,zaa,hpv,h0,hi0,hi1,hi2,hn,a0,a1,hcp,h3,hv,v0,Tryd.f28])
        refine zas.i (f45 (a:=(i:Int)+1) (by simp only;omega) (by simp only[go_sem]) fun n' hn'=>?_)
        repeat'(first|refine rq fun _=>?_|simp only[go_sem,Tryd.f28])
       by_cases v1:m.size≤v
       ·rw[kTb 3 (by unfold zfw;rw[if_neg (by simp[ha]),if_pos (hany (decide_eq_true (.inr v1)))]) (by decide)]
        repeat'(first|refine rq fun _=>?_|simp only[go_sem,hk,hk1,hkx,hk0,hpk,hk3,hk4,hk5,h1,h1',hx,zaq,zac,zaa,hpv,h0,hi0,hi1,hi2,hn,a0,a1,hcp,h3,hv,v0,v1,Tryd.f28])
        refine zas.i (f45 (a:=(i:Int)+1) (by simp only;omega) (by simp only[go_sem]) fun n' hn'=>?_)
        repeat'(first|refine rq fun _=>?_|simp only[go_sem,Tryd.f28])
       have hnj:(t.take (j+1)).any (fun v=>decide (v<0∨m.size≤v))=false:=by rw[hts];exact decide_eq_false (by omega)
       repeat'(first|refine rq fun _=>?_|simp only[go_sem,hk,hk1,hkx,hk0,hpk,hk3,hk4,hk5,h1,h1',hx,zaq,zac,zaa,hpv,h0,hi0,hi1,hi2,hn,a0,a1,hcp,h3,hv,v0,v1,Tryd.f28])
       refine⟨⟨j+1,by omega,hnj⟩,by simp only;omega,?_⟩
       refine zag ?_ ?_ ?_<;>simp only[go_sem]
       all_goals first|done|omega|rfl
      obtain rfl:j=t.length:=by omega
      rw[List.take_length]at hpj
      by_cases hcl2:0≤zc9 y t
      ·rw[kTb 13 (by unfold zfw;rw[if_neg (by simp[ha]),if_neg (by rw[hpj];decide),if_pos (by simp[hcl2])]) (by decide)]
       repeat'(first|refine rq fun _=>?_|simp only[go_sem,hk,hk1,hkx,hk0,hpk,hk3,hk4,hk5,h1,h1',hx,zaq,zac,zaa,hpv,h0,hi0,hi1,hi2,hn,a0,a1,hcp,Nat.lt_irrefl,hcl2,Tryd.f28])
       refine zas.i (f45 (a:=(i:Int)+1) (by simp only;omega) (by simp only[go_sem]) fun n' hn'=>?_)
       repeat'(first|refine rq fun _=>?_|simp only[go_sem,Tryd.f28])
      have hnx:=kTg (by unfold zfw;rw[if_neg (by simp[ha]),if_neg (by rw[hpj];decide),if_neg (by simp[hcl2])])
      repeat'(first|refine rq fun _=>?_|simp only[go_sem,hk,hk1,hkx,hk0,hpk,hk3,hk4,hk5,h1,h1',hx,zaq,zac,zaa,hpv,h0,hi0,hi1,hi2,hn,a0,a1,hcp,Nat.lt_irrefl,hcl2,Tryd.f28])
      refine⟨⟨(k+1)+1,mm,by omega,by omega,hnx⟩,by simp only;omega,?_⟩
      refine zag ?_ ?_ ?_<;>simp only[go_sem]
      all_goals first|done|omega|rfl
    obtain rfl:k=x.tuples.length:=by omega
    have hnx:=hgood (by rw[hpk2,zs7])
    repeat'(first|refine rq fun _=>?_|simp only[go_sem,h1,h1',hx,zaq,zac,zaa,hpv,h0,hi0,hi1,hi2,hn,a0,a1,hcp,Nat.lt_irrefl,Tryd.f28])
    refine⟨⟨(i+1)+1,mm,by omega,by omega,hnx⟩,by simp only;omega,?_⟩
    refine zag ?_ ?_ ?_<;>simp only[go_sem]
    all_goals first|done|omega|rfl
 obtain rfl:i=m.rels.length:=by omega
 have hX0:X=⟨0,0⟩:=by rw[hrr,hp,zsG]
 rw[hX0]
 repeat'(first|refine rq fun _=>?_|simp only[go_sem,Nat.lt_irrefl,Tryd.f28])
end
end Go.Proofs.YtkkffhphodngkaaDoor
namespace Go.Abs
open Go
theorem zdH {α:Type}{lt:α→α→Prop}(tr:∀a b c,lt a b→lt b c→lt a c){l:List α}(h:∀i (h:i+1<l.length),lt l[i] l[i+1]):∀j i (hj:j<l.length) (hi:i<l.length),i<j→lt l[i] l[j]:=by
 intro j
 induction j with
 |zero=>intro i _ _ h;omega
 |succ j ih=>
  intro i hj hi hij
  rcases Nat.lt_or_ge i j with h1|h1
  ·exact tr _ _ _ (ih i (by omega) hi h1) (h j hj)
  ·obtain rfl:i=j:=by omega
   exact h i hj
theorem zwa {m:zal}(h:(ccM m 0).code=0):∀i (hi:i<m.consts.length),zcn m.size (pvA m.consts i) m.consts[i]=0:=by
 have key:∀i,i≤m.consts.length→(ccM m i).code=0:=by
  intro i
  induction i with
  |zero=>intro _;exact h
  |succ i ih=>
   intro hi
   have h1:=ih (by omega)
   rw[zjR (by omega)]at h1
   split at h1
   ·rename_i h2;exact absurd h1 h2
   ·exact h1
 intro i hi
 have h1:=key i (by omega)
 rw[zjR hi]at h1
 split at h1
 ·rename_i h2;exact absurd h1 h2
 ·rename_i h2;exact Decidable.not_not.1 h2
theorem zsF {m:zal}(h:(rrM m 0).code=0):∀i (hi:i<m.rels.length),zjt m.size (pvA m.rels i) m.rels[i]=0:=by
 have key:∀i,i≤m.rels.length→(rrM m i).code=0:=by
  intro i
  induction i with
  |zero=>intro _;exact h
  |succ i ih=>
   intro hi
   have h1:=ih (by omega)
   rw[zhw (by omega)]at h1
   split at h1
   ·rename_i h2;exact absurd h1 h2
   ·exact h1
 intro i hi
 have h1:=key i (by omega)
 rw[zhw hi]at h1
 split at h1
 ·rename_i h2;exact absurd h1 h2
 ·rename_i h2;exact Decidable.not_not.1 h2
theorem zxF {size arity:Int}{l:List (List Int)}(h:ttM size arity l 0=0):∀k (hk:k<l.length),zfw size arity (pvA l k) l[k]=0:=by
 have key:∀k,k≤l.length→ttM size arity l k=0:=by
  intro k
  induction k with
  |zero=>intro _;exact h
  |succ k ih=>
   intro hk
   have h1:=ih (by omega)
   rw[zhC (by omega)]at h1
   split at h1
   ·rename_i h2;exact absurd h1 h2
   ·exact h1
 intro k hk
 have h1:=key k (by omega)
 rw[zhC hk]at h1
 split at h1
 ·rename_i h2;exact absurd h1 h2
 ·rename_i h2;exact Decidable.not_not.1 h2
structure zAi (m:zal):Prop where
 v:zsd m
 cv:∀c∈m.consts,0≤c.value∧c.value<m.size
 ar:∀r∈m.rels,0≤r.arity∧r.arity≤3
 tv:∀r∈m.rels,∀t∈r.tuples,(t.length:Int)=r.arity∧∀v∈t,0≤v∧v<m.size
theorem zk6 {size:Int}{p:Option zaF}{c:zaF}(h:zcn size p c=0):(∀q,p=some q→q.name.l<c.name.l)∧0≤c.value∧c.value<size:=by
 unfold zcn at h
 by_cases hn:zax c.name=false
 ·rw[if_pos hn]at h;exact absurd h (by decide)
 rw[if_neg hn]at h
 have fin:(if c.value<0∨size≤c.value then(3:Int)else 0)=0→0≤c.value∧c.value<size:=fun h=>by
  split at h
  ·exact absurd h (by decide)
  ·omega
 cases p with
 |none=>
  rw[if_neg (by simp)]at h
  exact⟨fun q hq=>(by cases hq),fin h⟩
 |some q=>
  by_cases hq:q.name.l<c.name.l
  ·rw[if_neg (by simp[hq])]at h
   exact⟨fun q' hq'=>(by cases hq';exact hq),fin h⟩
  ·rw[if_pos (by simp[hq])]at h;exact absurd h (by decide)
theorem zkx {size:Int}{p:Option zdq}{r:zdq}(h:zjt size p r=0):(∀q,p=some q→ltR q r)∧0≤r.arity∧r.arity≤3∧ttM size r.arity r.tuples 0=0:=by
 unfold zjt at h
 by_cases hn:zax r.name=false
 ·rw[if_pos hn]at h;exact absurd h (by decide)
 rw[if_neg hn]at h
 by_cases ha:r.arity<0∨3<r.arity
 ·rw[if_pos ha]at h;exact absurd h (by decide)
 rw[if_neg ha]at h
 cases p with
 |none=>
  rw[if_neg (by simp)]at h
  exact⟨fun q hq=>(by cases hq),by omega,by omega,h⟩
 |some q=>
  by_cases hq:0≤zoe q r
  ·rw[if_pos (by simp[hq])]at h;exact absurd h (by decide)
  ·rw[if_neg (by simp[hq])]at h
   exact⟨fun q' hq'=>(by cases hq';rw[←zjT];omega),by omega,by omega,h⟩
theorem zs8 {size arity:Int}{p:Option (List Int)}{t:List Int}(h:zfw size arity p t=0):(∀q,p=some q→zc9 q t<0)∧(t.length:Int)=arity∧∀v∈t,0≤v∧v<size:=by
 unfold zfw at h
 by_cases ha:(t.length:Int)≠arity
 ·rw[if_pos ha]at h;exact absurd h (by decide)
 rw[if_neg ha]at h
 have ha:=Decidable.not_not.1 ha
 by_cases hb:(t.any fun v=>decide (v<0∨size≤v))=true
 ·rw[if_pos hb]at h;exact absurd h (by decide)
 rw[if_neg hb]at h
 have hv:∀v∈t,0≤v∧v<size:=fun v hv=>by
  by_cases h9:v<0∨size≤v
  ·exact absurd (List.any_eq_true.2 ⟨v,hv,decide_eq_true h9⟩) hb
  ·omega
 cases p with
 |none=>exact⟨fun q hq=>(by cases hq),ha,hv⟩
 |some q=>
  by_cases hq:0≤zc9 q t
  ·rw[if_pos (by simp[hq])]at h;exact absurd h (by decide)
  ·exact⟨fun q' hq'=>(by cases hq';omega),ha,hv⟩
theorem znv {m:zal}(h:(zbt m).code=0):zAi m:=by
 have h1:¬(m.size<1∨6<m.size):=fun h2=>by unfold zbt at h;rw[if_pos h2]at h;exact absurd h (by decide)
 have h2:¬(300<m.consts.length∨300<m.rels.length):=fun h2=>by unfold zbt at h;rw[if_neg h1,if_pos h2]at h;exact absurd h (by decide)
 obtain⟨g1,g2⟩:=zij h1 h2
 have hc:(ccM m 0).code=0:=Decidable.byContradiction fun h3=>by rw[g1 h3]at h;exact h3 h
 have hr:(rrM m 0).code=0:=by rw[g2 hc]at h;exact h
 have ac:=zwa hc
 have ar:=zsF hr
 have cs:∀i (h:i+1<m.consts.length),m.consts[i].name.l<m.consts[i+1].name.l:=fun i h=>(zk6 (ac (i+1) h)).1 _ (by rw[zcB (by omega)])
 have rs:∀i (h:i+1<m.rels.length),ltR m.rels[i] m.rels[i+1]:=fun i h=>(zkx (ar (i+1) h)).1 _ (by rw[zcB (by omega)])
 have tt:∀r∈m.rels,∀k (hk:k<r.tuples.length),zfw m.size r.arity (pvA r.tuples k) r.tuples[k]=0:=fun r hr=>by
  obtain⟨i,hi,rfl⟩:=List.getElem_of_mem hr
  exact zxF (zkx (ar i hi)).2.2.2
 have ts:∀r∈m.rels,∀k (h:k+1<r.tuples.length),zc9 r.tuples[k] r.tuples[k+1]<0:=fun r hr k h=>(zs8 (tt r hr (k+1) h)).1 _ (by rw[zcB (by omega)])
 refine⟨⟨fun i j hi hj hij=>?_,fun i j hi hj hij=>?_,fun r hr i j hi hj hij=>?_,by omega,by omega,by omega,by omega⟩,fun c hcm=>?_,fun r hrm=>?_,fun r hrm t ht=>?_⟩
 ·exact zdH (lt:=fun a b:zaF=>a.name.l<b.name.l) (fun a b c h1 h2=>zdC h1 h2) cs j i hj hi hij
 ·exact zdH (lt:=ltR) (fun a b c h1 h2=>zlT h1 h2) rs j i hj hi hij
 ·exact zdH (lt:=fun a b:List Int=>zc9 a b<0) (fun a b c h1 h2=>zgu h1 (by omega)) (ts r hr) j i hj hi hij
 ·obtain⟨i,hi,rfl⟩:=List.getElem_of_mem hcm
  exact(zk6 (ac i hi)).2
 ·obtain⟨i,hi,rfl⟩:=List.getElem_of_mem hrm
  exact⟨(zkx (ar i hi)).2.1,(zkx (ar i hi)).2.2.1⟩
 ·obtain⟨k,hk,rfl⟩:=List.getElem_of_mem ht
  exact(zs8 (tt r hrm k hk)).2
theorem znw {m:zal}(h:(zbt m).code=0):zbt m=⟨0,0⟩:=by
 have h1:¬(m.size<1∨6<m.size):=fun h2=>by unfold zbt at h;rw[if_pos h2]at h;exact absurd h (by decide)
 have h2:¬(300<m.consts.length∨300<m.rels.length):=fun h2=>by unfold zbt at h;rw[if_neg h1,if_pos h2]at h;exact absurd h (by decide)
 obtain⟨g1,g2⟩:=zij h1 h2
 have hc:(ccM m 0).code=0:=Decidable.byContradiction fun h3=>by rw[g1 h3]at h;exact h3 h
 have hr:(rrM m 0).code=0:=by rw[g2 hc]at h;exact h
 rw[g2 hc]
 have ar:=zsF hr
 have key:∀k i,i+k=m.rels.length→rrM m i=⟨0,0⟩:=by
  intro k
  induction k with
  |zero=>intro i hi;obtain rfl:i=m.rels.length:=by omega
         exact zsG m
  |succ k ih=>intro i hi;rw[zhw (by omega),ar i (by omega),if_neg (by simp)];exact ih (i+1) (by omega)
 exact key m.rels.length 0 (by omega)
structure vsP (m:zal)(f:zaf):Prop where
 m:zsd m
 v:vok f
 s:szP f
 e:zbf f≤800
theorem zxK {m:zal}{f:zaf}(h:vsP m f)(env:List zaF)(he:env.length≤100):ztt m f env:=⟨h.m,h.v,h.s,by have:=h.e;omega⟩
theorem zAR {m:zal}{f:zaf}(hm:zsd m)(h:(zaA false f).code=0):vsP m f:=
 ⟨hm,zdR h,⟨zbN h,by have:=zaT h;omega⟩,by have:=ze2 f;have:=zaf.depth_size f;have:=zaT h;omega⟩
section
variable {P:Program} {G:Nat→List FD} {T:Tbl}
def zH9 {α β γ δ ρ σ:Type}[Enc α][Enc β][Enc γ][Enc δ][Enc ρ][Enc σ](f:α→β→γ→δ→ρ×σ)(pre:α→β→γ→δ→Prop):List FD→Option (D×Prop)
 |[x,y,z,w]=>some (.tup [.fz (enc (f (dec x) (dec y) (dec z) (dec w)).1),.fz (enc (f (dec x) (dec y) (dec z) (dec w)).2)],x=enc (dec (α:=α) x)∧y=enc (dec (α:=β) y)∧z=enc (dec (α:=γ) z)∧w=enc (dec (α:=δ) w)∧pre (dec x) (dec y) (dec z) (dec w))
 |_=>none
@[go_sem] theorem zFy {α β γ δ ρ σ:Type}[Enc α][Enc β][Enc γ][Enc δ][Enc ρ][Enc σ]{f:α→β→γ→δ→ρ×σ}{pre:α→β→γ→δ→Prop}{x y z w:FD}:zH9 f pre [x,y,z,w]=some (.tup [.fz (enc (f (dec x) (dec y) (dec z) (dec w)).1),.fz (enc (f (dec x) (dec y) (dec z) (dec w)).2)],x=enc (dec (α:=α) x)∧y=enc (dec (α:=β) y)∧z=enc (dec (α:=γ) z)∧w=enc (dec (α:=δ) w)∧pre (dec x) (dec y) (dec z) (dec w)):=rfl
end
end Go.Abs
namespace Go.Proofs.YtkkffhphodngkaaDoor
open Go Go.Abs Go.Proofs
section
variable {G:Nat→List FD}
def B22:Tbl:=A21
attribute [go_sem] B22
theorem zG7:zan Tryd.prog G B22:=zwG
def B23:Tbl:=B22
attribute [go_sem] B23
theorem zG8:zan Tryd.prog G B23:=zG7
def B24:Tbl:=B23
attribute [go_sem] B24
theorem zG9:zan Tryd.prog G B24:=zG8
end
end Go.Proofs.YtkkffhphodngkaaDoor

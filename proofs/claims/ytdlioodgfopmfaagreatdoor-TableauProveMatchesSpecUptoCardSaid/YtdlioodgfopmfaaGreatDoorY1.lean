/- several texts of this proof in one; no conditions -/
import Derived.Test.YtdlioodgfopmfaaGreatDoorAT
import Derived.Test.YtdlioodgfopmfaaGreatDoorQ24
import Derived.Test.YtdlioodgfopmfaaGreatDoorAbs45
set_option maxRecDepth 100000
set_option maxHeartbeats 1000000
set_option linter.unusedSimpArgs false
namespace Go.Proofs.YtdlioodgfopmfaaGreatDoor
open Go Go.Abs Go.Proofs
def zeO (l:List Str):List Str:=(zgw (l.map (·.l))).map Str.mk
def zfL (l:List Str):List Str:=(zds (l.map (·.l))).map Str.mk
theorem zhV (l:List (List UInt8)):(l.map Str.mk).map (·.l)=l:=by rw[List.map_map,show((·.l)∘Str.mk:List UInt8→List UInt8)=id from rfl,List.map_id]
theorem zpO (f:Abs.zac):zba f=zfL (zeO (cst f [])):=by
 unfold zba zfL zeO;rw[zhV]
theorem zgV (l:List Str):zaf (l.map enc)=zbP (l.map (·.l)):=by rw[zaQ,zbP,List.map_map];rfl
theorem zjA (l:List (List UInt8)):zbP l=zaf ((l.map Str.mk).map enc):=by rw[zgV,zhV]
theorem zsZ {H:zaw}{id:Abs.Id}{o:Option O}:zaK H id o=hpX [(id,o)] H:=rfl
theorem zpB {H:zaw}{id:Abs.Id}{l:List Str}{bx vt:Bool}{n:Nat}{R:D→zaw→Nat→Prop}(ho:H id=some ⟨zaf (l.map enc),bx,vt⟩)
  (hR:R (.tup []) (hpX [(id,some ⟨zaf ((zeO l).map enc),bx,vt⟩)] H) n):zaA Tryz.prog GA 59 [.arr id 1 0 l.length] H n R:=by
 rw[zgV]at ho
 have h:=zp3 (G:=GA) (n:=n) zIO Tryz.slices_Sort_string Tryz.slices_Sort_string_none ho
 rw[List.length_map]at h
 refine zbc h ?_
 rintro d H' n' ⟨rfl,rfl,rfl⟩
 rw[zsZ,zjA]
 exact hR
theorem zo4 {H:zaw}{id:Abs.Id}{l:List Str}{bx vt:Bool}{n:Nat}{R:D→zaw→Nat→Prop}(ho:H id=some ⟨zaf (l.map enc),bx,vt⟩)
  (hR:R (.arr id 1 0 (zfL l).length) (hpX [(id,some ⟨zaf ((zfL l).map enc),bx,vt⟩)] H) n):zaA Tryz.prog GA 60 [.arr id 1 0 l.length] H n R:=by
 rw[zgV]at ho
 have h:=zkl (G:=GA) (n:=n) zIP Tryz.slices_Compact_string Tryz.slices_Compact_string_empty ho
 rw[List.length_map]at h
 refine zbc h ?_
 rintro d H' n' ⟨rfl,rfl,rfl⟩
 rw[zsZ,zjA,show(zds (l.map (·.l))).length=(zfL l).length by unfold zfL;rw[List.length_map]]
 exact hR
theorem ze8 (l:List Str):(zeO l).length=l.length:=by unfold zeO;rw[List.length_map,ze9,List.length_map]
theorem f58 {f:Abs.zac}(hw:(enc f).Wf)(hl:(cst f []).length≤1000000)(hs:f.size≤1000000):zaA Tryz.prog GA 58 [.fz (enc f)] (hpL []) 0
  (fun d H n=>∃g,g<n∧d= .arr (76024,g) 1 0 (zba f).length∧H (76024,g)=some ⟨zaf ((zba f).map enc),false,(cst f []).isEmpty⟩):=by
 obtain⟨Q,hQ⟩:∃Q:D→zaw→Nat→Prop,Q=(fun d H n=>∃g,g<n∧d= .arr (76024,g) 1 0 (zba f).length∧H (76024,g)=some ⟨zaf ((zba f).map enc),false,(cst f []).isEmpty⟩):=⟨_,rfl⟩
 rw[←hQ]
 refine zah (N:=13) hm hR1 58000 (lst []) zHC Tryz.func58 rfl rfl (by simp) (by kernel_rfl) ?_
 have h:=f76 f.size f [] [] 3 4 (fun _=>none) (Nat.le_refl _) hw (by omega) (by omega) (by simpa using hl) (by simpa using hs) (fun id o ho=>by cases ho)
 rw[zaO]at h
 repeat'(first|refine rq fun _=>?_|simp only[go_sem,Tryz.f58])
 refine zaI.i (zfh rfl (zrV (args':=[.fz (.agg [.i .i64 f.kind,.s f.name.l,.sl (f.words.map enc),.sl (f.subs.map enc)]),.fz (enc ([]:List Str)),.ptr (58003,1) 0,.ptr (58004,2) 0])
  (hl:=HHk [] 3) (n':=4) [] [(76024,3)] [] rfl ?_ ?_ ?_ ?_ ?_ ?_))
 case _=>omega
 case _=>simp only[go_sem]
 case _=>simp only[go_sem,HHk];first|done|rfl
 case _=>simp only[go_sem,HHk];first|done|rfl
 case _=>simp only[go_sem];first|done|rfl
 rw[show hpL (HHk [] 3)=hpX (HHk [] 3) (fun _=>none)from rfl]
 refine zbc h ?_
 rintro d' H' n' ⟨rfl,e1,⟨g,hg,e2⟩,_⟩
 rw[List.nil_append]at e2
 obtain⟨C,hC⟩:∃C,C=cst f []:=⟨_,rfl⟩
 rw[←hC]at e2
 rw[zpO,←hC]at hQ
 simp only[go_sem,HHk]at e2
 obtain⟨b1,b2,b3⟩:=e2
 rw[show H'=hpX [] H' from rfl]
 repeat'(first|refine rq fun _=>?_|simp only[go_sem,b1,b2,b3,Tryz.f58])
 refine zaI.i (zpB (l:=C) (bx:=false) (vt:=C.isEmpty) (by simp only[go_sem,b3]) ?_)
 rw[←ze8 C]at b1
 repeat'(first|refine rq fun _=>?_|simp only[go_sem,b1,b2,b3,Tryz.f58])
 refine zaI.i (zo4 (l:=zeO C) (bx:=false) (vt:=C.isEmpty) (by simp only[go_sem]) ?_)
 repeat'(first|refine rq fun _=>?_|simp only[go_sem,b1,b2,b3,Tryz.f58])
 rw[hQ]
 exact⟨g,hg,by simp only[go_sem],by simp only[go_sem]⟩
end Go.Proofs.YtdlioodgfopmfaaGreatDoor
namespace Go.Proofs.YtdlioodgfopmfaaGreatDoor
open Go Go.Abs Go.Proofs
def HHn (k:Nat)(used:List Str)(ga gb:Nat):List (Abs.Id×Option O):=
 [((54010,ga),some ⟨[.fz (.i .i64 k)],true,false⟩),((54005,gb),some ⟨[.fz (.sl (used.map enc))],true,false⟩)]
structure zDX (used:List Str)(k:Nat) where
 j:Nat
 h1:k≤j
 h2:j≤k+used.length
 h3:zbR used k=zbR used j
theorem f71 {used:List Str}{k n ga gb:Nat}{X:zaw}(_:ga<n)(_:gb<n)(hk:k+used.length≤999999999999)
  (hX:∀id o,X id=some o→id.2<n∧id.1≠54010∧id.1≠54005):
  zaA Tryz.prog GA 71 [.ptr (54010,ga) 0,.ptr (54005,gb) 0] (hpX (HHn k used ga gb) X) n
   (fun d' H' n'=>d'= .fz (enc (vg used k).1)∧n≤n'∧zgG H' (HHn (vg used k).2 used ga gb)∧∀id o,X id=some o→H' id=some o):=by
 obtain⟨Q,hQ⟩:∃Q:D→zaw→Nat→Prop,Q=(fun d' H' n'=>d'= .fz (enc (vg used k).1)∧n≤n'∧zgG H' (HHn (vg used k).2 used ga gb)∧∀id o,X id=some o→H' id=some o):=⟨_,rfl⟩
 rw[←hQ]
 have hX':∀{l:List (Abs.Id×Option O)} (id o),X id=some o→(id.2<n∧id.1≠54010∧id.1≠54005→zie id l)→hpX l X id=some o:=fun id o h1 h2=>(zcF (h2 (hX id o h1))).trans h1
 have kX:=Kp.mk @hX'
 have kQ:=Kp.mk hQ
 clear hX' hQ hX
 refine zah (N:=14) hm hR1 71000 (lst []) zIR Tryz.func71 rfl rfl (by simp) (by kernel_rfl) ?_
 repeat'(first|refine rq fun _=>?_|simp only[go_sem,HHn,Tryz.f71])
 refine zao hm hR1 71000 (lst []) (ι:=zDX used k)
  ⟨fun q=>⟨frL [(0,.ptr (54010,ga) 0),(1,.ptr (54005,gb) 0)],hpX (HHn q.j used ga gb) X,n⟩,fun q=>k+used.length+1-q.j⟩
  ⟨k,by omega,by omega,rfl⟩ (by kernel_rfl) ?_ ?_
 ·refine zaT ?_ ?_ (fun id o ho=>?_) ?_
  ·simp only[go_sem]
  ·simp only[go_sem,HHn]
  ·refine kX.out id o ho fun h1=>?_
   ((repeat'(first|exact trivial|apply And.intro))<;>(rintro rfl;simp only at h1;omega))
  ·simp only[go_sem]
 rintro⟨j,h1,h2,h3⟩
 try simp only at h1 h2 h3
 have hs:=za4 used k
 have hdl:=zcP j
 by_cases hin:zdR j∈used
 ·have hin':(⟨118::zaP j⟩:Str)∈used:=hin
  have h4:=zps hin
  have h5:=(za4 used (j+1)).1
  repeat'(first|refine rq fun _=>?_|refine zaj.i ⟨by omega,by omega⟩ fun _=>?_|simp only[go_sem,HHn,hin',ze4,Tryz.f71])
  refine⟨⟨j+1,by omega,by omega,by rw[h3,h4]⟩,by simp only;omega,?_⟩
  refine zaT ?_ ?_ (fun id o ho=>?_) ?_
  ·simp only[go_sem]
  ·simp only[go_sem,HHn,Int.natCast_add,Int.cast_ofNat_Int]
  ·refine kX.out id o ho fun h1=>?_
   ((repeat'(first|exact trivial|apply And.intro))<;>(rintro rfl;simp only at h1;omega))
  ·simp only[go_sem]
 ·have hin':(⟨118::zaP j⟩:Str)∉used:=hin
  have h4:=zmV hin
  repeat'(first|refine rq fun _=>?_|refine zaj.i ⟨by omega,by omega⟩ fun _=>?_|simp only[go_sem,HHn,hin',ze4,Tryz.f71])
  rw[kQ.out]
  have e1:vg used k=(zdR j,j+1):=by unfold vg;rw[h3,h4]
  rw[e1]
  refine⟨rfl,Nat.le_refl _,by simp only[go_sem,HHn,Int.natCast_add,Int.cast_ofNat_Int],fun id o ho=>kX.out id o ho fun h1=>?_⟩
  ((repeat'(first|exact trivial|apply And.intro))<;>(rintro rfl;simp only at h1;omega))
end Go.Proofs.YtdlioodgfopmfaaGreatDoor
namespace Go.Proofs.YtdlioodgfopmfaaGreatDoor
open Go Go.Abs Go.Proofs
theorem zaM {G:Nat→List FD}{N:Nat}{l:List (Nat×D)}{H:zaw}{n:Nat}{id:Abs.Id}{t:Nat}{ys:List FD}{b:Bool}(ho:H id=some ⟨ys.map .fz,b,false⟩)(hs:frL l t= .ptr id 0):
  zeG G N ⟨frL l,H,n⟩ ⟨frL ((t,.rp ys)::l),zaK H id none,n⟩:=zxZ (st:=⟨frL l,H,n⟩) ho hs
theorem zoN {G:Nat→List FD}{d r:D}{H:zaw}{m:Nat}(h:D.val d=some r):zeG G 1 ⟨frL [(0,d)],H,m⟩ ⟨frL [(0,r)],H,m⟩:=by
 intro a w L F hr
 refine⟨L,F,⟨hr.ok,hr.size,fun t=>?_,hr.nd⟩,zbB.refl _ _ _ _ _⟩
 have:=hr.fr t
 simp only[frL]at this ⊢
 by_cases e:t=0
 ·rw[if_pos e]at this ⊢;exact this.val h
 ·rw[if_neg e]at this ⊢;exact this
def zvW (p:Nat):Int:=(p:Int)-1
theorem zmE:zvW 0= -1:=rfl
theorem zgj (p:Nat):zvW (p+1)=(p:Int):=by unfold zvW;omega
structure zAm (env:List zaR)(w:Str) where
 p:Nat
 hp:p≤env.length
 h:lkp env w=zhK env w p
structure zu1 (len n0 lo:Nat) where
 i:Nat
 g:Nat
 m:Nat
 hi:i≤len
 hg:g<m
 hm:n0≤m
 hl:lo≤g
structure zH3 (n len:Nat)(p:Nat→Nat→Prop) where
 i:Nat
 g:Nat
 k:Nat
 m:Nat
 hi:i≤len
 hg:g<m
 hm:n≤m
 hp:p i k
theorem zfy:∀{fs:List Abs.zac} {j:Nat} (h:j<fs.length),zac.sizes (fs.take j)+fs[j].size≤zac.sizes fs
 |f::fs,0,h=>by simp only[List.take_zero,zac.sizes,List.getElem_cons_zero];omega
 |f::fs,j+1,h=>by
  have:=zfy (fs:=fs) (j:=j) (by simpa using h)
  simp only[List.take_succ_cons,zac.sizes,List.getElem_cons_succ];omega
theorem zxz {g:Nat→Str×Nat}{f:Abs.zac}{env:List zaR}{n:Nat}:ren g f env n=if isQ f.kind then(.mk f.kind (g n).1 (f.words.map (lkp env)) (za5 g f.subs (env++[⟨f.name,(g n).1⟩]) (g n).2).1,(za5 g f.subs (env++[⟨f.name,(g n).1⟩]) (g n).2).2)
  else(.mk f.kind f.name (f.words.map (lkp env)) (za5 g f.subs env n).1,(za5 g f.subs env n).2):=by cases f;rw[ren];rfl
def zoF:Tv:=(.q 0 (.q 2 (.q 3 (.q 4 (.br [(1,(.br [(5,(.q 6 (.br [(7,(.q 8 (.br [(9,.leaf)])))])))])),(5,(.q 1 (.q 6 (.br [(7,(.q 8 (.br [(9,.leaf)])))]))))])))))
set_option maxHeartbeats 8000000 in
theorem f72 {used:List Str}{ga gb:Nat}:∀(s:Nat) (f:Abs.zac) (env:List zaR) (k n:Nat) (X:zaw),f.size≤s→(enc f).Wf→f.fit=true→ga<n→gb<n→k+(used.length+1)*f.size≤999999999999→env.length+f.size≤1000000→
    (∀id o,X id=some o→id.2<n∧id.1≠54010∧id.1≠54005)→
    zaA Tryz.prog GA 72 [.fz (enc f),.fz (enc env),.fn 71 [.ptr (54010,ga) 0,.ptr (54005,gb) 0]] (hpX (HHn k used ga gb) X) n
      (fun d' H' n'=>d'= .fz (enc (ren (vg used) f env k).1)∧n≤n'∧zgG H' (HHn (ren (vg used) f env k).2 used ga gb)∧∀id o,X id=some o→H' id=some o):=by
  intro s
  induction s with
  |zero=>intro f env k n X hs;have:=f.size_pos;omega
  |succ s ih=>
    intro f env k n X hs hw hfit hga hgb hk hel hX
    obtain⟨Q,hQ⟩:∃Q:D→zaw→Nat→Prop,Q=(fun d' H' n'=>d'= .fz (enc (ren (vg used) f env k).1)∧n≤n'∧zgG H' (HHn (ren (vg used) f env k).2 used ga gb)∧∀id o,X id=some o→H' id=some o):=⟨_,rfl⟩
    obtain⟨QQ,hQQ⟩:∃QQ:D→zaw→Nat→Prop,QQ=(fun d' H' n'=>D.val d'=some (.fz (enc (ren (vg used) f env k).1))∧n≤n'∧zgG H' (HHn (ren (vg used) f env k).2 used ga gb)∧∀id o,X id=some o→H' id=some o):=⟨_,rfl⟩
    have hfin:∀d H m,QQ d H m→∃d' H' n',zeG GA 1 ⟨frL [(0,d)],H,m⟩ ⟨frL [(0,d')],H',n'⟩∧Q d' H' n':=by
      rw[hQQ,hQ]
      rintro d H m ⟨h1,h2,h3,h4⟩
      exact⟨_,H,m,zoN h1,rfl,h2,h3,h4⟩
    rw[←hQ]
    refine zbb (Q:=QQ) ?_ hfin
    clear hfin hQ
    have hX':∀{l:List (Abs.Id×Option O)} (id o),X id=some o→(id.2<n∧id.1≠54010∧id.1≠54005→zie id l)→hpX l X id=some o:=fun id o h1 h2=>(zcF (h2 (hX id o h1))).trans h1
    obtain⟨hwl,hsl,hfs⟩:=zac.fit_eq hfit
    have hsw:∀g∈f.subs,(enc g).Wf:=fun g hg=>zlG (zeT (by have h:=hw;rw[zaO]at h;exact h) (FD.sl (f.subs.map enc)) (by simp)) _ (List.mem_map_of_mem hg)
    have hss:∀g∈f.subs,g.size≤s∧g.fit=true:=fun g hg=>⟨by have:=zac.size_sub hg;omega,zac.fits_mem hfs hg⟩
    have hszs:f.size=zac.sizes f.subs+1:=by cases f;rw[zac.size];rfl
    have hreq:=@zxz (vg used) f env k
    have kX:=Kp.mk @hX'
    have kQ:=Kp.mk hQQ
    have kI:=Kp.mk ih
    have kS:=Kp.mk hsw
    have kZ:=Kp.mk hss
    have kx:=Kp.mk hX
    have kR:=Kp.mk hreq
    clear hX' hQQ ih hsw hss hX hfs hreq hw hfit
    refine zah (N:=87) hm hR1 72000 (lsw [48,83] [1000018]) zIS Tryz.func72 rfl rfl (by simp) (by kernel_rfl) ?_
    repeat'(first|refine rq fun _=>?_|simp only[go_sem,HHn,Tryz.f72])
    refine zao hm hR1 72000 (lsw [48,83] [1000018]) (ι:=zu1 f.words.length (n+5) n)
      ⟨fun q=>⟨frL [(1,.fz (.sl (env.map enc))),(2,.fn 71 [.ptr (54010,ga) 0,.ptr (54005,gb) 0]),(3,.ptr (72003,n) 0),(6,.ptr (72006,n+1) 0),(7,.ptr (72007,n+1+1) 0),
          (19,.fz (.sl (f.words.map enc))),(20,.fz (.i .i64 f.words.length)),(21,.fz (.i .i64 q.i))],
        hpX ([((72003,n),some ⟨[.fz (.i .i64 f.kind),.fz (.s f.name.l),.fz (.sl (f.words.map enc)),.fz (.sl (f.subs.map enc))],true,false⟩),((72006,n+1),some ⟨[.fz (.i .i64 0),.fz (.s []),.full [],.full []],true,false⟩),
          ((72007,n+1+1),some ⟨[.fz (.i .i64 f.kind),.fz (.s f.name.l),.ow (72048,q.g) 1 (((f.words.take q.i).map (lkp env)).map enc),.ow (72083,n+1+1+1) 4 []],true,false⟩),
          ((72048,q.g),some tok),((72083,n+1+1+1),some tok)]++HHn k used ga gb) X,q.m⟩,fun q=>f.words.length-q.i⟩
      ⟨0,n+1+1+1+1,n+1+1+1+1+1,by omega,by omega,by omega,by omega⟩ (by kernel_rfl) ?_ ?_
    · refine zbY (zfk 72083) (zbY (zfk 72048) (zbY (zfj (id:=(72007,n+1+1)) (id2:=(72048,n+1+1+1+1)) (es:=1) (k:=2) (xs:=[]) (b:=true) (by simp only[go_sem];rfl) (by simp) (by rfl) (by simp only;omega))
        (zbY (zfj (id:=(72007,n+1+1)) (id2:=(72083,n+1+1+1)) (es:=4) (k:=3) (xs:=[]) (b:=true) (by simp only[go_sem];rfl) (by simp) (by rfl) (by simp only;omega)) ?_)))
      refine zaT ?_ ?_ (fun id o ho=>?_) ?_
      · simp only[go_sem]
      · simp only[go_sem,HHn]
      · refine kX.out id o ho fun h1=>?_
        ((repeat'(first|exact trivial|apply And.intro))<;>(rintro rfl;simp only at h1;omega))
      · simp only[go_sem]
    rintro⟨i,g1,m1,hi,hg1,hm1,hgl⟩
    try simp only at hi hg1 hm1 hgl
    rcases Nat.lt_or_ge i f.words.length with h1|h1
    · obtain⟨w,hwi⟩:∃w,f.words[i]=w:=⟨_,rfl⟩
      have e3:=List.take_succ_eq_append_getElem h1
      rw[hwi]at e3
      have e4:((f.words.take (i+1)).map (lkp env))=((f.words.take i).map (lkp env))++[lkp env w]:=by rw[e3,List.map_append];rfl
      have e5:((f.words.take i).map (lkp env)).length=i:=by rw[List.length_map,List.length_take];omega
      obtain⟨ws,hws⟩:∃ws,(f.words.take i).map (lkp env)=ws:=⟨_,rfl⟩
      rw[hws]at e4 e5
      obtain⟨v,hv⟩:∃v,lkp env w=v:=⟨_,rfl⟩
      rw[hv]at e4
      have k4:=Kp.mk e4
      clear e4 e3
      repeat'(first|refine rq fun _=>?_|simp only[go_sem,HHn,h1,hwi,hws,zad,zaa,Tryz.f72])
      refine zao hm hR1 72000 (lsw [48,83] [1000018]) (ι:=zAm env w)
        ⟨fun q=>⟨frL [(1,.fz (.sl (env.map enc))),(2,.fn 71 [.ptr (54010,ga) 0,.ptr (54005,gb) 0]),(3,.ptr (72003,n) 0),(6,.ptr (72006,n+1) 0),(7,.ptr (72007,n+1+1) 0),
            (9,.fz (.s w.l)),(10,.fz (.i .i64 (zvW q.p))),(19,.fz (.sl (f.words.map enc))),(20,.fz (.i .i64 f.words.length)),(21,.fz (.i .i64 i))],
          hpX ([((72003,n),some ⟨[.fz (.i .i64 f.kind),.fz (.s f.name.l),.fz (.sl (f.words.map enc)),.fz (.sl (f.subs.map enc))],true,false⟩),((72006,n+1),some ⟨[.fz (.i .i64 0),.fz (.s []),.full [],.full []],true,false⟩),
            ((72007,n+1+1),some ⟨[.fz (.i .i64 f.kind),.fz (.s f.name.l),.ow (72048,g1) 1 (ws.map enc),.ow (72083,n+1+1+1) 4 []],true,false⟩),
            ((72048,g1),some tok),((72083,n+1+1+1),some tok)]++HHn k used ga gb) X,m1⟩,fun q=>q.p⟩
        ⟨env.length,Nat.le_refl _,rfl⟩ (by kernel_rfl) ?_ ?_
      · refine zaT ?_ ?_ (fun id o ho=>?_) ?_
        · simp only[go_sem,zvW]
        · simp only[go_sem,HHn]
        · refine kX.out id o ho fun h1=>?_
          ((repeat'(first|exact trivial|apply And.intro))<;>(rintro rfl;simp only at h1;omega))
        · simp only[go_sem]
      rintro⟨p,hp,hl⟩
      try simp only at hp hl
      cases p with
      |zero=>
        have hvw:v=w:=by rw[←hv,hl,zhK]
        repeat'(first|refine rq fun _=>?_|refine zaj.i (zat (by omega) (by decide)) fun _=>?_|refine rq fun _=>?_|simp only[go_sem,HHn,h1,hwi,zmE,Tryz.f72])
        refine⟨⟨i+1,m1,m1+1,by omega,by omega,by omega,by omega⟩,by simp only;omega,?_⟩
        refine zaT ?_ ?_ (fun id o ho=>?_) ?_
        · simp only[go_sem]
        · simp only[go_sem,HHn,k4.out,List.map_append,hvw]
        · refine kX.out id o ho fun h1=>?_
          ((repeat'(first|exact trivial|apply And.intro))<;>(rintro rfl;simp only at h1;omega))
        · simp only[go_sem]
      |succ p=>
        rw[zhK]at hl
        have hpg:env.getD p default=env[p]:=by rw[List.getD_eq_getElem?_getD,List.getElem?_eq_getElem (by omega),Option.getD_some]
        rw[hpg]at hl
        have hp':p<env.length:=by omega
        by_cases he:env[p].fr=w
        · rw[if_pos he,hv]at hl
          have he':env[p].fr.l=w.l:=by rw[he]
          repeat'(first|refine rq fun _=>?_|refine zaj.i (zat (by omega) (by decide)) fun _=>?_|refine rq fun _=>?_|simp only[go_sem,HHn,h1,hp',he',hwi,zgj,zaa,Tryz.f72])
          refine⟨⟨i+1,m1,m1+1,by omega,by omega,by omega,by omega⟩,by simp only;omega,?_⟩
          refine zaT ?_ ?_ (fun id o ho=>?_) ?_
          · simp only[go_sem]
          · simp only[go_sem,HHn,k4.out,List.map_append,hl]
          · refine kX.out id o ho fun h1=>?_
            ((repeat'(first|exact trivial|apply And.intro))<;>(rintro rfl;simp only at h1;omega))
          · simp only[go_sem]
        · rw[if_neg he]at hl
          have he':¬env[p].fr.l=w.l:=fun e=>he (by cases h7:env[p].fr;cases h8:w;rw[h7,h8]at e;simp only at e;rw[e])
          repeat'(first|refine rq fun _=>?_|refine zaj.i (zat (by omega) (by decide)) fun _=>?_|refine rq fun _=>?_|simp only[go_sem,HHn,h1,hp',he',hwi,zgj,zaa,Tryz.f72])
          refine⟨⟨p,by omega,hl⟩,by simp only;omega,?_⟩
          refine zaT ?_ ?_ (fun id o ho=>?_) ?_
          · simp only[go_sem,zvW]
          · simp only[go_sem,HHn]
          · refine kX.out id o ho fun h1=>?_
            ((repeat'(first|exact trivial|apply And.intro))<;>(rintro rfl;simp only at h1;omega))
          · simp only[go_sem]
    · obtain rfl:i=f.words.length:=by omega
      obtain⟨wl,hwl2⟩:∃wl,f.words.map (lkp env)=wl:=⟨_,rfl⟩
      have hres:∃(env2:List zaR) (nm2:Str) (k2:Nat),ren (vg used) f env k=(.mk f.kind nm2 wl (za5 (vg used) f.subs env2 k2).1,(za5 (vg used) f.subs env2 k2).2)∧k2≤k+(used.length+1)∧env2.length≤env.length+1∧
          (isQ f.kind→env2=env++[⟨f.name,(vg used k).1⟩]∧nm2=(vg used k).1∧k2=(vg used k).2)∧(¬isQ f.kind→env2=env∧nm2=f.name∧k2=k):=by
        have h5:=zrx used k
        rw[kR.out]
        by_cases hq:isQ f.kind
        · exact⟨_,_,_,by rw[if_pos hq,hwl2],by omega,by simp,fun _=>⟨rfl,rfl,rfl⟩,fun h=>absurd hq h⟩
        · exact⟨_,_,_,by rw[if_neg hq,hwl2],by omega,by simp,fun h=>absurd h hq,fun _=>⟨rfl,rfl,rfl⟩⟩
      obtain⟨env2,nm2,k2,hres,hk2,hel2,hq1,hq2⟩:=hres
      have kW:=Kp.mk hres
      have kq1:=Kp.mk hq1
      have kq2:=Kp.mk hq2
      clear hres hq1 hq2
      obtain⟨U,hU⟩:∃U,used.length+1=U:=⟨_,rfl⟩
      rw[hU]at hk hk2
      have hUf:U*f.size=U*zac.sizes f.subs+U:=by rw[hszs,Nat.mul_add,Nat.mul_one]
      have hU0:used.length≤U:=by omega
      have hUs:U≤U*f.size:=by omega
      obtain⟨A,hA⟩:∃A:Nat→List Abs.zac,A=fun j=>(za5 (vg used) (f.subs.take j) env2 k2).1:=⟨_,rfl⟩
      obtain⟨K,hK⟩:∃K:Nat→Nat,K=fun j=>(za5 (vg used) (f.subs.take j) env2 k2).2:=⟨_,rfl⟩
      have hA0:A 0=[]:=by rw[hA];simp[za5]
      have hK0:K 0=k2:=by rw[hK];simp[za5]
      have hAs:∀j (h:j<f.subs.length),A (j+1)=A j++[(ren (vg used) f.subs[j] env2 (K j)).1]∧K (j+1)=(ren (vg used) f.subs[j] env2 (K j)).2:=fun j h=>by
        rw[hA,hK];simp only[List.take_succ_eq_append_getElem h,zlc,za5];constructor<;>first|rfl|trivial
      have hAl:∀j,(A j).length≤j:=fun j=>by rw[hA];simp only[zdk,List.length_take];omega
      have hKb:∀j (h:j<f.subs.length),K j+U*f.subs[j].size≤999999999999:=fun j h=>by
        have h6:=((zgu (zrx used)).2 (f.subs.take j) env2 k2).2
        rw[hU]at h6
        have h7:=Nat.mul_le_mul_left U (zfy h)
        rw[Nat.mul_add]at h7
        rw[hK];simp only;omega
      have hAe:A f.subs.length=(za5 (vg used) f.subs env2 k2).1∧K f.subs.length=(za5 (vg used) f.subs env2 k2).2:=by rw[hA,hK];simp only[List.take_length];first|trivial|(constructor<;>first|rfl|trivial)
      have kA:=Kp.mk hAs
      have kB:=Kp.mk hAl
      have kC:=Kp.mk hKb
      have kE:=Kp.mk hAe
      clear hAs hAl hKb hAe hA hK
      rcases Decidable.em (isQ f.kind)with hq|hq
      case' inl=>
        obtain⟨q1,q2,q3⟩:=kq1.out hq
        unfold isQ at hq
        have h214:=f71 (used:=used) (k:=k) (n:=m1) (ga:=ga) (gb:=gb) (X:=hpX [((72003,n),some ⟨[.fz (.i .i64 f.kind),.fz (.s f.name.l),.fz (.sl (f.words.map enc)),.fz (.sl (f.subs.map enc))],true,false⟩),((72006,n+1),some ⟨[.fz (.i .i64 0),.fz (.s []),.full [],.full []],true,false⟩),
            ((72007,n+1+1),some ⟨[.fz (.i .i64 f.kind),.fz (.s f.name.l),.ow (72048,g1) 1 (wl.map enc),.ow (72083,n+1+1+1) 4 []],true,false⟩),((72083,n+1+1+1),some tok)] X) (by omega) (by omega) (by omega) (by
          intro id o ho
          simp only[hpX]at ho
          split at ho
          · rename_i e;subst e;simp only;omega
          split at ho
          · rename_i e;subst e;simp only;omega
          split at ho
          · rename_i e;subst e;simp only;omega
          split at ho
          · rename_i e;subst e;simp only;omega
          · have:=kx.out id o ho;omega)
        rw[←q2,←q3]at h214
        repeat'(first|refine rq fun _=>?_|simp only[go_sem,HHn,hq,Nat.lt_irrefl,List.take_length,hwl2,zad,Tryz.f72])
        refine zaI.i (zdq (by simp only[go_sem,zhD]) (by simp only[go_sem,HHn]) (fun id o ho=>?_) (Nat.le_refl _) (zbc h214 ?_))
        · simp only[hpX]at ho
          split at ho
          · rename_i e;subst e;simp only[go_sem];exact Option.some.inj ho
          split at ho
          · rename_i e;subst e;simp only[go_sem];exact Option.some.inj ho
          split at ho
          · rename_i e;subst e;simp only[go_sem];exact Option.some.inj ho
          split at ho
          · rename_i e;subst e;simp only[go_sem];exact Option.some.inj ho
          · refine kX.out id o ho fun h1=>?_
            ((repeat'(first|exact trivial|apply And.intro))<;>(rintro rfl;simp only at h1;omega))
        rintro d' H' n' ⟨rfl,e1,e2,e3⟩
        have b3:=e3 (72003,n) ⟨[.fz (.i .i64 f.kind),.fz (.s f.name.l),.fz (.sl (f.words.map enc)),.fz (.sl (f.subs.map enc))],true,false⟩ (by simp only[go_sem])
        have b6:=e3 (72006,n+1) ⟨[.fz (.i .i64 0),.fz (.s []),.full [],.full []],true,false⟩ (by simp only[go_sem])
        have b7:=e3 (72007,n+1+1) ⟨[.fz (.i .i64 f.kind),.fz (.s f.name.l),.ow (72048,g1) 1 (wl.map enc),.ow (72083,n+1+1+1) 4 []],true,false⟩ (by simp only[go_sem])
        have b8:=e3 (72083,n+1+1+1) tok (by simp only[go_sem])
        have hX2:∀id o,X id=some o→H' id=some o:=fun id o ho=>e3 id o (kX.out id o ho fun h1=>by
          ((repeat'(first|exact trivial|apply And.intro))<;>(rintro rfl;simp only at h1;omega)))
        have kX2:=Kp.mk hX2
        clear hX2 e3
        simp only[go_sem,HHn]at e2
        obtain⟨b1,b2⟩:=e2
        rw[show H'=hpX [] H' from rfl]
        repeat'(first|refine rq fun _=>?_|refine zaj.i (zat (by omega) (by decide)) fun _=>?_|refine rq fun _=>?_|simp only[go_sem,HHn,b3,b6,b7,b8,zad,Tryz.f72])
      case' inr=>
        obtain⟨q1,q2,q3⟩:=kq2.out hq
        unfold isQ at hq
        repeat'(first|refine rq fun _=>?_|simp only[go_sem,HHn,hq,Nat.lt_irrefl,List.take_length,hwl2,zad,Tryz.f72])
      all_goals
        refine zao hm hR1 72000 (lsw [48,83] [1000018]) (ι:=zu1 f.subs.length (n+5) n)
          ⟨fun q=>⟨frL [(1,.fz (.sl (env2.map enc))),(2,.fn 71 [.ptr (54010,ga) 0,.ptr (54005,gb) 0]),(6,.ptr (72006,n+1) 0),(7,.ptr (72007,n+1+1) 0),
              (70,.fz (.sl (f.subs.map enc))),(71,.fz (.i .i64 f.subs.length)),(72,.fz (.i .i64 q.i))],
            hpX ([((72006,n+1),some ⟨[.fz (.i .i64 0),.fz (.s []),.full [],.full []],true,false⟩),
              ((72007,n+1+1),some ⟨[.fz (.i .i64 f.kind),.fz (.s nm2.l),.ow (72048,g1) 1 (wl.map enc),.ow (72083,q.g) 4 ((A q.i).map enc)],true,false⟩),
              ((72083,q.g),some tok)]++HHn (K q.i) used ga gb) X,q.m⟩,fun q=>f.subs.length-q.i⟩
          ⟨0,n+1+1+1,by first|exact n'|exact m1,by omega,by omega,by omega,by omega⟩ (by kernel_rfl) ?_ ?_
        · refine zaT ?_ ?_ (fun id o ho=>?_) ?_
          · simp only[go_sem,q1,q2,List.map_append]
          · first
              |(simp only[go_sem,HHn,hA0,hK0,q2,q3,b1,b2,b3,b6,b7,b8];done)
              |(simp only[go_sem,HHn,hA0,hK0,q2,q3];done)
          · first
              |(have h1:=kx.out id o ho
                refine(zcF ?_).trans (kX2.out id o ho)
                ((repeat'(first|exact trivial|apply And.intro))<;>(rintro rfl;simp only at h1;omega)))
              |(refine kX.out id o ho fun h1=>?_
                ((repeat'(first|exact trivial|apply And.intro))<;>(rintro rfl;simp only at h1;omega)))
          · simp only[go_sem]
        rintro⟨j,g2,m2,hj,hg2,hm2,hgl2⟩
        try simp only at hj hg2 hm2 hgl2
        rcases Nat.lt_or_ge j f.subs.length with h2|h2
        · have hmem:=List.getElem_mem h2
          obtain⟨x,hx⟩:∃x,f.subs[j]=x:=⟨_,rfl⟩
          have hz:=kZ.out _ hmem
          have hwx:=kS.out _ hmem
          have hAj:=kA.out j h2
          have hKj:=kC.out j h2
          have hAlj:=kB.out j
          rw[hx]at hz hwx hAj hKj
          obtain⟨y,hy⟩:∃y,(ren (vg used) x env2 (K j)).1=y:=⟨_,rfl⟩
          obtain⟨kj,hkj⟩:∃kj,(ren (vg used) x env2 (K j)).2=kj:=⟨_,rfl⟩
          rw[hy,hkj]at hAj
          have hlx:=zac.size_mem (l:=f.subs) hmem
          rw[hx]at hlx
          have ih2:∀(m3:Nat),m2≤m3→_:=fun m3 hm3=>kI.out x env2 (K j) m3 (hpX [((72006,n+1),some ⟨[.fz (.i .i64 0),.fz (.s []),.full [],.full []],true,false⟩),
              ((72007,n+1+1),some ⟨[.fz (.i .i64 f.kind),.fz (.s nm2.l),.ow (72048,g1) 1 (wl.map enc),.ow (72083,g2) 4 ((A j).map enc)],true,false⟩),((72083,g2),some tok)] X) hz.1 hwx hz.2 (by omega) (by omega) (by rw[hU];omega) (by omega) (by
            intro id o ho
            simp only[hpX]at ho
            split at ho
            · rename_i e;subst e;simp only;omega
            split at ho
            · rename_i e;subst e;simp only;omega
            split at ho
            · rename_i e;subst e;simp only;omega
            · have:=kx.out id o ho;omega)
          simp only[hy,hkj]at ih2
          rw[zaO (f:=x)]at ih2
          obtain⟨fy,hfy⟩:∃fy,enc y=fy:=⟨_,rfl⟩
          have hcy:fy.cells.length=4:=by rw[←hfy,zaO];rfl
          have hff:(zaf [fy]).all zcL=true:=by rw[←hfy];have h9:=@ziF [y];exact eq_true h9▸h9
          repeat'(first|refine rq fun _=>?_|simp only[go_sem,HHn,h2,hx,zaa,Tryz.f72])
          refine zaL (zaM (id:=(72012,m2)) (t:=12) (b:=true) (ys:=[.i .i64 x.kind,.s x.name.l,.sl (x.words.map enc),.sl (x.subs.map enc)]) (by simp only[go_sem]) (by simp only[go_sem])) ?_
          refine zae hm hR1 72000 (lsw [48,83] [1000018]) zoF (by kernel_rfl) (by kernel_rfl) ?_
          repeat'(first|refine And.intro ?_ ?_|exact True.intro|refine rq fun _=>?_|simp only[go_sem,zoF,HHn,h2,hx,zaa,Tryz.f72])
          all_goals
            refine zaI.i (zdq (by simp only[go_sem,zhD]) (by simp only[go_sem,HHn]) (fun id o ho=>?_) (Nat.le_refl _) (zbc (ih2 _ (by omega)) ?_))
            · simp only[hpX]at ho
              split at ho
              · rename_i e;subst e;simp only[go_sem];exact Option.some.inj ho
              split at ho
              · rename_i e;subst e;simp only[go_sem];exact Option.some.inj ho
              split at ho
              · rename_i e;subst e;simp only[go_sem];exact Option.some.inj ho
              · refine kX.out id o ho fun h1=>?_
                ((repeat'(first|exact trivial|apply And.intro))<;>(rintro rfl;simp only at h1;omega))
            rintro d' H' n' ⟨rfl,e1,e2,e3⟩
            have c6:=e3 (72006,n+1) ⟨[.fz (.i .i64 0),.fz (.s []),.full [],.full []],true,false⟩ (by simp only[go_sem])
            have c7:=e3 (72007,n+1+1) ⟨[.fz (.i .i64 f.kind),.fz (.s nm2.l),.ow (72048,g1) 1 (wl.map enc),.ow (72083,g2) 4 ((A j).map enc)],true,false⟩ (by simp only[go_sem])
            have c8:=e3 (72083,g2) tok (by simp only[go_sem])
            have hX2:∀id o,X id=some o→H' id=some o:=fun id o ho=>e3 id o (kX.out id o ho fun h1=>by
              ((repeat'(first|exact trivial|apply And.intro))<;>(rintro rfl;simp only at h1;omega)))
            clear e3
            simp only[go_sem,HHn]at e2
            obtain⟨c1,c2⟩:=e2
            rw[show H'=hpX [] H' from rfl]
            rw[hfy]
            repeat'(first|refine rq fun _=>?_|refine zaj.i (zat (by omega) (by decide)) fun _=>?_|refine rq fun _=>?_|simp only[go_sem,zoF,c1,c2,c6,c7,c8,h2,hcy,hff,Tryz.f72])
            refine⟨⟨j+1,n',n'+1,by omega,by omega,by omega,by omega⟩,by simp only;omega,?_⟩
            refine zaT ?_ ?_ (fun id o ho=>?_) ?_
            · simp only[go_sem]
            · simp only[go_sem,HHn,c1,c2,c6,c7,c8,hAj.1,hAj.2,hfy,List.map_append]
            · have h1:=kx.out id o ho
              refine(zcF ?_).trans (hX2 id o ho)
              ((repeat'(first|exact trivial|apply And.intro))<;>(rintro rfl;simp only at h1;omega))
            · simp only[go_sem]
        · obtain rfl:j=f.subs.length:=by omega
          have hE:=kE.out
          repeat'(first|refine rq fun _=>?_|simp only[go_sem,HHn,Nat.lt_irrefl,Tryz.f72])
          rw[kQ.out,kW.out]
          refine⟨?_,by omega,?_,fun id o ho=>kX.out id o ho fun h1=>?_⟩
          · rw[←hE.1];simp only[go_sem]
          · rw[←hE.2];simp only[go_sem,HHn]
          · ((repeat'(first|exact trivial|apply And.intro))<;>(rintro rfl;simp only at h1;omega))
end Go.Proofs.YtdlioodgfopmfaaGreatDoor

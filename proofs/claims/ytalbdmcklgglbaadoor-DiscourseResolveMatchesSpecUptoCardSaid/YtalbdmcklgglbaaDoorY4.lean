/- several texts of this proof in one; no conditions -/
import Derived.Test.YtalbdmcklgglbaaDoorAT
import Derived.Test.YtalbdmcklgglbaaDoorY3
import Derived.Test.YtalbdmcklgglbaaDoorY11
import Derived.Test.YtalbdmcklgglbaaDoorY6
set_option maxRecDepth 100000
set_option maxHeartbeats 1000000
set_option linter.unusedSimpArgs false
namespace Go.Abs
mutual
def Box.fit:Box→Bool
 | .mk r cs=>decide (r.length≤1000)&&decide (cs.length≤1000)&&zal.fits cs
def zal.fit:zal→Bool
 | .mk _ _ f bs=>f.fit&&decide (bs.length≤1000)&&Box.fits bs
def Box.fits:List Box→Bool
 |[]=>true
 |b::bs=>b.fit&&Box.fits bs
def zal.fits:List zal→Bool
 |[]=>true
 |c::cs=>c.fit&&zal.fits cs
end
theorem Box.fits_mem:∀{l:List Box} {f:Box},Box.fits l=true→f∈l→f.fit=true
 |g::l,f,h,hm=>by
  rw[Box.fits,Bool.and_eq_true]at h
  rcases List.mem_cons.1 hm with rfl|hm
  ·exact h.1
  ·exact Box.fits_mem h.2 hm
theorem zal.fits_mem:∀{l:List zal} {f:zal},zal.fits l=true→f∈l→f.fit=true
 |g::l,f,h,hm=>by
  rw[zal.fits,Bool.and_eq_true]at h
  rcases List.mem_cons.1 hm with rfl|hm
  ·exact h.1
  ·exact zal.fits_mem h.2 hm
theorem Box.fit_eq {b:Box}(h:b.fit=true):b.refs.length≤1000∧b.conds.length≤1000∧zal.fits b.conds=true:=by
 cases b;rw[Box.fit]at h
 simp only[Bool.and_eq_true,decide_eq_true_eq]at h
 exact⟨h.1.1,h.1.2,h.2⟩
theorem zal.fit_eq {c:zal}(h:c.fit=true):c.form.fit=true∧c.boxes.length≤1000∧Box.fits c.boxes=true:=by
 cases c;rw[zal.fit]at h
 simp only[Bool.and_eq_true,decide_eq_true_eq]at h
 exact⟨h.1.1,h.1.2,h.2⟩
theorem zpo {f:zac}(h:zbJ f=true):f.fit=true:=by
 unfold zbJ at h
 simp only[Bool.and_eq_true,decide_eq_true_eq]at h
 obtain⟨⟨⟨_,_⟩,h3⟩,h4⟩:=h
 obtain⟨k,nm,w,s⟩:=f
 simp only[zcX,zbV]at h3 h4
 obtain rfl:=List.eq_nil_of_length_eq_zero h3
 obtain rfl:=List.eq_nil_of_length_eq_zero h4
 rw[zac.fit,zac.fits];rfl
theorem zqz {c:zal}{refs:List Str}(h:zbb c refs=0):c.form.fit=true∧c.boxes.length≤1000:=by
 unfold zbb at h
 split at h
 ·simp at h
 split at h
 ·simp at h
 split at h
 ·simp at h
 rename_i h1 h2 h3
 have hb:zax c.kind≤2:=by unfold zax;repeat'(split<;>try decide)
 refine⟨?_,by omega⟩
 split at h
 ·rename_i h4
  cases hf:zbJ c.form with
  |true=>exact zpo hf
  |false=>exact absurd (.inr ⟨h4,hf⟩) h3
 ·split at h
  ·rename_i h5;exact absurd h h5
  ·rename_i h5;exact zfZ (Decidable.not_not.1 h5)
mutual
theorem zni:∀(b:Box) (d m:Int) (n:Nat) (refs:List Str),(zcm b d m n refs).e.code=0→b.fit=true
 | .mk r cs,d,m,n,refs,h=>by
  rw[zcm]at h
  split at h
  ·simp at h
  split at h
  ·simp at h
  rename_i h1 h2
  split at h
  ·rename_i h3;exact absurd h h3
  rename_i h3
  obtain⟨g1,g2⟩:=ziu r cs d _ _ (by omega) h
  rw[Box.fit]
  simp only[Bool.and_eq_true,decide_eq_true_eq]
  exact⟨⟨by omega,by omega⟩,g2⟩
theorem ziu:∀(r:List Str) (cs:List zal) (d:Int) (n:Nat) (refs:List Str),n≤200→(zaI r cs d n refs).e.code=0→n+cs.length≤200∧zal.fits cs=true
 |r,[],d,n,refs,hn,_=>⟨by simpa using hn,by rw[zal.fits]⟩
 |r,c::cs,d,n,refs,hn,h=>by
  rw[zaI]at h
  split at h
  ·rename_i h3;exact absurd h h3
  rename_i h3
  obtain⟨g1,g2,g3⟩:=zkG r c d n refs (Decidable.not_not.1 h3)
  obtain⟨k1,k2⟩:=ziu r cs d _ _ g3 h
  rw[zal.fits,Bool.and_eq_true,List.length_cons]
  exact⟨by omega,g1,k2⟩
theorem zkG:∀(r:List Str) (c:zal) (d:Int) (n:Nat) (refs:List Str),(zb7 r c d n refs).e.code=0→c.fit=true∧n+1≤(zb7 r c d n refs).n∧(zb7 r c d n refs).n≤200
 |r,.mk k nm f bs,d,n,refs,h=>by
  rw[zb7]at h ⊢
  split at h
  ·simp at h
  rename_i h3
  rw[if_neg h3]
  split at h
  ·rename_i h4;exact absurd h h4
  rename_i h4
  rw[if_neg h4]
  obtain⟨c1,c2⟩:=zqz (Decidable.not_not.1 h4)
  obtain⟨g1,g2,g3⟩:=zkz bs (d+1) (if k=6 then 2 else 200) (n+1) refs (by omega) h
  refine⟨?_,g2,g3⟩
  rw[zal.fit]
  simp only[Bool.and_eq_true,decide_eq_true_eq]
  exact⟨⟨c1,c2⟩,g1⟩
theorem zkz:∀(bs:List Box) (d m:Int) (n:Nat) (refs:List Str),n≤200→(zbv bs d m n refs).e.code=0→Box.fits bs=true∧n≤(zbv bs d m n refs).n∧(zbv bs d m n refs).n≤200
 |[],d,m,n,refs,hn,_=>by rw[zbv];exact⟨by rw[Box.fits],Nat.le_refl _,hn⟩
 |b::bs,d,m,n,refs,hn,h=>by
  rw[zbv]at h ⊢
  split at h
  ·rename_i h3;exact absurd h h3
  rename_i h3
  rw[if_neg h3]
  have hb:=Decidable.not_not.1 h3
  have g1:=zni b d m n refs hb
  have g2:=zx9 b d m n refs hb
  obtain⟨k1,k2,k3⟩:=zkz bs d m _ _ g2.2 h
  rw[Box.fits,Bool.and_eq_true]
  exact⟨⟨g1,k1⟩,by omega,k3⟩
theorem zx9:∀(b:Box) (d m:Int) (n:Nat) (refs:List Str),(zcm b d m n refs).e.code=0→n+1≤(zcm b d m n refs).n∧(zcm b d m n refs).n≤200
 | .mk r cs,d,m,n,refs,h=>by
  rw[zcm]at h ⊢
  split at h
  ·simp at h
  rename_i h1
  rw[if_neg h1]
  split at h
  ·simp at h
  rename_i h2
  rw[if_neg h2]
  split at h
  ·rename_i h3;exact absurd h h3
  rename_i h3
  rw[if_neg h3]
  exact znD r cs d _ _ (by omega) h
theorem znD:∀(r:List Str) (cs:List zal) (d:Int) (n:Nat) (refs:List Str),n≤200→(zaI r cs d n refs).e.code=0→n≤(zaI r cs d n refs).n∧(zaI r cs d n refs).n≤200
 |r,[],d,n,refs,hn,_=>by rw[zaI];exact⟨Nat.le_refl _,hn⟩
 |r,c::cs,d,n,refs,hn,h=>by
  rw[zaI]at h ⊢
  split at h
  ·rename_i h3;exact absurd h h3
  rename_i h3
  rw[if_neg h3]
  obtain⟨g1,g2,g3⟩:=zkG r c d n refs (Decidable.not_not.1 h3)
  have:=znD r cs d _ _ g3 h
  exact⟨by omega,this.2⟩
end
theorem zs1 {b:Box}(h:(zcy b).code=0):b.fit=true:=zni b 1 200 0 [] h
end Go.Abs
namespace Go.Proofs.YtalbdmcklgglbaaDoor
open Go Go.Abs Go.Proofs
section
variable {P:Program} {G:Nat→List FD}
theorem zor {f:FuncId}{args:List D}{xs ys:List FD}{H:zas}{n t es:Nat}{R:D→zas→Nat→Prop}(ha:D.toFDs args=some xs)
  (h:zav P G f (xs.map .fz) H0 0 (fun d H1 n1=>∃g,g<n1∧d= .ow (t,g) es ys∧H1 (t,g)=some tok))(hR:∀g n',n≤g→g<n'→R (.ow (t,g) es ys) (hpX [((t,g),some tok)] H) n'):zav P G f args H n R:=by
 refine zc0 h.1 fun hfr=>zbt (zfc ha h) ?_
 rintro d H' n' ⟨d1,H1,n1,⟨g,hg,rfl,ho⟩,rfl,rfl,rfl⟩
 have hsh:shH n H H1 (t,g+n)=some tok:=by
  unfold shH
  rw[if_pos (by simp),show(t,g+n-n)=(t,g) by rw[Nat.add_sub_cancel],ho]
  rfl
 refine⟨.ow (t,g+n) es ys,hpX [((t,g+n),some tok)] H,n+n1,zb9 ?_ (fun id o hid=>?_) (Nat.le_refl _),hR (g+n) (n+n1) (by omega) (by omega)⟩
 ·exact⟨rfl,trivial⟩
 ·simp only[hpX]at hid
  split at hid
  ·rename_i e;subst e;rw[←hid];exact hsh
  ·have hlt:id.2<n:=by
    rcases Nat.lt_or_ge id.2 n with h3|h3
    ·exact h3
    ·rw[hfr id h3]at hid;cases hid
   show shH n H H1 id=some o
   unfold shH
   rw[if_neg (by omega)]
   exact hid
end
theorem zqw {l:List Str}(hl:l.length≤1000000)(hw:(enc l).Wf):zav Tryd.prog G0 47 [.fz (.sl (l.map enc))] H0 0 (fun d H n=>∃g,g<n∧d= .ow (47007,g) 1 (l.map enc)∧H (47007,g)=some tok):=by
 rw[zdo]
 obtain⟨Q,hQ⟩:∃Q:D→zas→Nat→Prop,Q=(fun d H n=>(d= .full []∧l=[]∧n=0∧H=hpL [])∨∃g,g<n∧d= .ow (47007,g) 1 (l.map enc)∧H (47007,g)=some tok):=⟨_,rfl⟩
 have key:zav Tryd.prog G0 47 [.fz (.sl (l.map enc))] (hpL []) 0 Q:=by
  refine zaj (N:=8) hm hQ6 47000 (lsw [7] []) zAW Tryd.func47 rfl rfl (by simp) (by kernel_rfl) ?_
  simp only[go_sem]
  refine zpM.i fun b hb=>?_
  cases b
  ·repeat'(first|refine rq fun _=>?_|refine zaH.i (zbf (by omega) (by decide)) fun _=>?_|refine rq fun _=>?_|simp only[go_sem,Tryd.f47])
   rw[hQ]
   exact .inr ⟨0,by omega,by simp only[go_sem],by simp only[go_sem]⟩
  ·have:l=[]:=List.eq_nil_of_length_eq_zero (hb rfl)
   subst this
   repeat'(first|refine rq fun _=>?_|simp only[go_sem,Tryd.f47])
   rw[hQ]
   exact .inl ⟨rfl,rfl,rfl,rfl⟩
 refine zbt key ?_
 rw[hQ]
 rintro d H n (⟨rfl,rfl,rfl,rfl⟩|⟨g,hg,rfl,ho⟩)
 ·refine⟨.ow (47007,0) 1 [],hpL [((47007,0),some tok)],1,?_,0,by omega,rfl,by simp only[go_sem]⟩
  refine zaO [] [(47007,0)] [] ?_ ?_ ?_ ?_ ?_<;>simp only[go_sem]
  all_goals first|done|rfl
 ·exact⟨_,H,n,zb9 ⟨rfl,trivial⟩ (fun _ _ h=>h) (Nat.le_refl _),g,hg,rfl,ho⟩
def Q30:Tbl:=Q28.add 48 (sp1 (fun f:Abs.zac=>f) fun f=>f.fit=true)
attribute [go_sem] Q30
theorem zFY:zan Tryd.prog G0 Q30:=by
 refine zjU zac.size zC7 zDL fun n hT f hn hfit hw=>?_
 obtain⟨hwl,hsl,hfs⟩:=zac.fit_eq hfit
 have hsz:∀g∈f.subs,g.size<n∧g.fit=true:=fun g hg=>⟨by have:=zac.size_sub hg;omega,zac.fits_mem hfs hg⟩
 have kz:=Kp.mk hsz
 have kT:=Kp.mk hT
 clear hsz hT hfs hfit hn hw
 refine zaj (N:=30) hm kT.out 48000 (lsw [26] [1000001]) zC7 Tryd.func48 rfl rfl (by simp) (by kernel_rfl) ?_
 repeat'(first|refine rq fun _=>?_|refine zdO hm kT.out 48000 (lsw [26] [1000001]) (by kernel_rfl) ?_|simp only[go_sem,Tryd.f48])
 refine zar hm kT.out 48000 (lsw [26] [1000001]) (ι:=zd5 f.subs.length 4 fun _=>True)
  ⟨fun q=>⟨frL [(2,.ptr (48002,1) 0),(3,.ptr (48003,2) 0),(15,.fz (.sl (f.subs.map enc))),(16,.fz (.i .i64 f.subs.length)),(17,.fz (.i .i64 q.i))],
   hpL [((48002,1),some ⟨[.fz (.i .i64 0),.fz (.s []),.full [],.full []],true,false⟩),((48003,2),some ⟨[.fz (.i .i64 f.kind),.fz (.s f.name.l),.fz (.sl (f.words.map enc)),.ow (48026,q.g) 4 ((f.subs.take q.i).map enc)],true,false⟩),((48026,q.g),some tok)],q.m⟩,fun q=>f.subs.length-q.i⟩
  ⟨0,3,4,by omega,by omega,by omega,trivial⟩ (by kernel_rfl) ?_ ?_
 ·refine zaO [] [(48026,3)] [] ?_ ?_ ?_ ?_ ?_<;>simp only[go_sem]
  all_goals first|done|rfl
 rintro⟨i,g,m,hi,hg,hm4,_⟩
 rcases Nat.lt_or_ge i f.subs.length with h1|h1
 ·obtain⟨x,hx⟩:∃x,f.subs[i]=x:=⟨_,rfl⟩
  have hxs:=kz.out x (by rw[←hx];exact List.getElem_mem h1)
  obtain⟨hx1,hx2⟩:=hxs
  have e3:=List.take_succ_eq_append_getElem h1
  rw[hx]at e3
  repeat'(first|refine rq fun _=>?_|refine zaH.i (zbf (by first|omega|(rw[List.length_take];omega)) (by decide)) fun _=>?_|refine zaH.i ⟨hx1,hx2⟩ fun _=>?_|simp only[go_sem,h1,hx,hx1,hx2,zaa,Tryd.f48])
  refine⟨⟨i+1,m+1,m+1+1,by omega,by omega,by omega,trivial⟩,by simp only;omega,?_⟩
  refine zah ?_ ?_ ?_<;>simp only[go_sem,e3,List.map_append]
 ·obtain rfl:i=f.subs.length:=by omega
  repeat'(first|refine rq fun _=>?_|simp only[go_sem,Nat.lt_irrefl,List.take_length,Tryd.f48])
end Go.Proofs.YtalbdmcklgglbaaDoor
namespace Go.Proofs.YtalbdmcklgglbaaDoor
open Go Go.Abs Go.Proofs
def T68 (n:Nat):Tbl:=(zev.add 48 (sp1 (fun f:Abs.zac=>f) fun f=>f.fit=true)).add 18 (sp1 (fun b:Abs.Box=>b) fun b=>b.size<n∧b.fit=true)
theorem zxZ {n:Nat}(hT:zan Tryd.prog G0 (Q30.add 18 (sp1 (fun b:Abs.Box=>b) fun b=>b.size<n∧b.fit=true))):zan Tryd.prog G0 (T68 n):=by
 refine zop hT fun f t' ht=>?_
 by_cases h1:f=18
 ·subst h1
  simp only[T68,Tbl.add,if_true,Option.some.injEq]at ht
  subst ht
  exact⟨_,by simp[Tbl.add],fun xs r c h=>⟨c,h,fun h=>h⟩⟩
 by_cases h2:f=48
 ·subst h2
  simp only[T68,Tbl.add,if_true,if_neg h1,Option.some.injEq]at ht
  subst ht
  exact⟨_,by simp[Tbl.add,Q30],fun xs r c h=>⟨c,h,fun h=>h⟩⟩
 ·simp only[T68,Tbl.add,if_neg h1,if_neg h2,zev]at ht
  cases ht
theorem zs8 {n:Nat}(hT:zan Tryd.prog G0 (T68 n))(b:Abs.Box)(hn:b.size=n)(hfit:b.fit=true)(hw:(enc b).Wf):
  zav Tryd.prog G0 18 [.fz (enc b)] (hpL []) 0 (fun d H n'=>∃g g2,g<n'∧g2<n'∧d= .agg [.ow (47007,g) 1 (b.refs.map enc),.ow (18047,g2) 7 (b.conds.map enc)]∧H (47007,g)=some tok∧H (18047,g2)=some tok):=by
 obtain⟨Q,hQ⟩:∃Q:D→zas→Nat→Prop,Q=(fun d H n'=>∃g g2,g<n'∧g2<n'∧d= .agg [.ow (47007,g) 1 (b.refs.map enc),.ow (18047,g2) 7 (b.conds.map enc)]∧H (47007,g)=some tok∧H (18047,g2)=some tok):=⟨_,rfl⟩
 rw[←hQ]
 obtain⟨hrl,hcl,hcf⟩:=Box.fit_eq hfit
 have hsz:∀c∈b.conds,c.size<n∧c.fit=true:=fun c hc=>⟨by have:=Box.size_sub hc;omega,zal.fits_mem hcf hc⟩
 have hwr:(enc b.refs).Wf:=by
  have h:=hw
  rw[zaQ]at h
  exact zbC h (FD.sl (b.refs.map enc)) (by simp)
 have kq:=Kp.mk hQ
 have kz:=Kp.mk hsz
 have kT:=Kp.mk hT
 have kw:=Kp.mk hwr
 clear hsz hT hcf hfit hn hw hwr hQ
 refine zaj (N:=51) hm kT.out 18000 (lsw [40,47] [1000005]) zEO Tryd.func18 rfl rfl (by simp) (by kernel_rfl) ?_
 repeat'(first|refine rq fun _=>?_|simp only[go_sem,Tryd.f18,T68,zev])
 refine zaD.i (zor rfl (zqw (by omega) kw.out) fun g n1 hg1 hg2=>?_)
 repeat'(first|refine rq fun _=>?_|simp only[go_sem,Tryd.f18,T68,zev])
 refine zar hm kT.out 18000 (lsw [40,47] [1000005]) (ι:=zd5 b.conds.length (n1+2) fun _=>True)
  ⟨fun q=>⟨frL [(2,.ptr (18002,1) 0),(3,.ptr (18003,n1) 0),(14,.fz (.sl (b.conds.map enc))),(15,.fz (.i .i64 b.conds.length)),(16,.fz (.i .i64 q.i))],
   hpL [((18002,1),some ⟨[.full [],.full []],true,false⟩),((18003,n1),some ⟨[.ow (47007,g) 1 (b.refs.map enc),.ow (18047,q.g) 7 ((b.conds.take q.i).map enc)],true,false⟩),
    ((47007,g),some tok),((18047,q.g),some tok)],q.m⟩,fun q=>b.conds.length-q.i⟩
  ⟨0,n1+1,n1+2,by omega,by omega,by omega,trivial⟩ (by kernel_rfl) ?_ ?_
 ·refine zaO [] [(18047,n1+1)] [] ?_ ?_ ?_ ?_ ?_<;>simp only[go_sem]
  all_goals first|done|rfl|omega
 rintro⟨i,g2,m,hi,hg,hm4,_⟩
 rcases Nat.lt_or_ge i b.conds.length with h1|h1
 ·obtain⟨c,hx⟩:∃c,b.conds[i]=c:=⟨_,rfl⟩
  obtain⟨hc1,hc2⟩:=kz.out c (by rw[←hx];exact List.getElem_mem h1)
  obtain⟨hcf,hbl,hbf⟩:=zal.fit_eq hc2
  have hbs:∀x∈c.boxes,x.size<n∧x.fit=true:=fun x hx=>⟨by have:=zal.size_sub hx;omega,Box.fits_mem hbf hx⟩
  have kb:=Kp.mk hbs
  clear hbs
  have e3:=List.take_succ_eq_append_getElem h1
  rw[hx]at e3
  repeat'(first|refine rq fun _=>?_|refine zdO hm kT.out 18000 (lsw [40,47] [1000005]) (by kernel_rfl) ?_|simp only[go_sem,h1,hx,hcf,zaa,Tryd.f18,T68,zev])
  refine zar hm kT.out 18000 (lsw [40,47] [1000005]) (ι:=zd5 c.boxes.length (m+3) fun _=>True)
   ⟨fun q=>⟨frL [(2,.ptr (18002,1) 0),(3,.ptr (18003,n1) 0),(6,.ptr (18006,m+1) 0),(14,.fz (.sl (b.conds.map enc))),(15,.fz (.i .i64 b.conds.length)),(16,.fz (.i .i64 i)),(29,.fz (.sl (c.boxes.map enc))),(30,.fz (.i .i64 c.boxes.length)),(31,.fz (.i .i64 q.i))],
    hpL [((18006,m+1),some ⟨[.fz (.i .i64 c.kind),.fz (.s c.name.l),.fz (.i .i64 c.form.kind),.fz (.s c.form.name.l),.fz (.sl (c.form.words.map enc)),.fz (.sl (c.form.subs.map enc)),.ow (18040,q.g) 2 ((c.boxes.take q.i).map enc)],true,false⟩),((18040,q.g),some tok),
     ((18002,1),some ⟨[.full [],.full []],true,false⟩),((18003,n1),some ⟨[.ow (47007,g) 1 (b.refs.map enc),.ow (18047,g2) 7 ((b.conds.take i).map enc)],true,false⟩),
     ((47007,g),some tok),((18047,g2),some tok)],q.m⟩,fun q=>c.boxes.length-q.i⟩
   ⟨0,m+2,m+3,by omega,by omega,by omega,trivial⟩ (by kernel_rfl) ?_ ?_
  ·refine zaO [] [(18040,m+2)] [] ?_ ?_ ?_ ?_ ?_<;>simp only[go_sem]
   all_goals first|done|rfl|omega
  rintro⟨k,g3,m3,hk,hg3,hm3,_⟩
  rcases Nat.lt_or_ge k c.boxes.length with h2|h2
  ·obtain⟨x,hxk⟩:∃x,c.boxes[k]=x:=⟨_,rfl⟩
   obtain⟨hx1,hx2⟩:=kb.out x (by rw[←hxk];exact List.getElem_mem h2)
   have e4:=List.take_succ_eq_append_getElem h2
   rw[hxk]at e4
   repeat'(first|refine rq fun _=>?_|refine zaH.i (zbf (by first|omega|(rw[List.length_take];omega)) (by decide)) fun _=>?_|refine zaH.i ⟨hx1,hx2⟩ fun _=>?_|simp only[go_sem,h2,hxk,hx1,hx2,zaa,Tryd.f18,T68,zev])
   refine⟨⟨k+1,m3+1,m3+1+1,by omega,by omega,by omega,trivial⟩,by simp only;omega,?_⟩
   refine zah ?_ ?_ ?_<;>simp only[go_sem,e4,List.map_append]
  ·obtain rfl:k=c.boxes.length:=by omega
   repeat'(first|refine rq fun _=>?_|refine zaH.i (zbf (by first|omega|(rw[List.length_take];omega)) (by decide)) fun _=>?_|simp only[go_sem,Nat.lt_irrefl,List.take_length,Tryd.f18,T68,zev])
   refine⟨⟨i+1,m3,m3+1,by omega,by omega,by omega,trivial⟩,by simp only;omega,?_⟩
   refine zah ?_ ?_ ?_<;>simp only[go_sem,e3,List.map_append]
 ·obtain rfl:i=b.conds.length:=by omega
  repeat'(first|refine rq fun _=>?_|simp only[go_sem,Nat.lt_irrefl,List.take_length,Tryd.f18])
  rw[kq.out]
  exact⟨g,g2,by omega,by omega,rfl,by simp only[go_sem],by simp only[go_sem]⟩
def Q31:Tbl:=Q30.add 18 (sp1 (fun b:Abs.Box=>b) fun b=>b.fit=true)
attribute [go_sem] Q31
theorem zBM:zan Tryd.prog G0 Q31:=by
 refine zjU Box.size zEO zFY fun n hT b hn hfit hw=>?_
 refine zaP (zs8 (zxZ hT) b hn hfit hw) ?_
 rintro d H n' ⟨g,g2,_,_,rfl,_,_⟩
 rw[zaQ]
 rfl
end Go.Proofs.YtalbdmcklgglbaaDoor
namespace Go.Proofs.YtalbdmcklgglbaaDoor
open Go Go.Abs Go.Proofs
structure M7 where
 g8:Nat
 g9:Nat
 gx:Nat
 gx2:Nat
 gy:Nat
 gy2:Nat
 m:Nat
def Q32:Tbl:=Q29
attribute [go_sem] Q32
end Go.Proofs.YtalbdmcklgglbaaDoor
namespace Go.Proofs.YtalbdmcklgglbaaDoor
open Go Go.Abs Go.Proofs
theorem zey {G:Nat→List FD}{N:Nat}{l:List (Nat×D)}{H:zas}{n:Nat}{id:Abs.Id}{t:Nat}{ys:List FD}{b:Bool}(ho:H id=some ⟨ys.map .fz,b,false⟩)(hs:frL l t= .ptr id 0):
  zgh G N ⟨frL l,H,n⟩ ⟨frL ((t,.rp ys)::l),zaM H id none,n⟩:=zvp (st:=⟨frL l,H,n⟩) ho hs
end Go.Proofs.YtalbdmcklgglbaaDoor
namespace Go.Proofs.YtalbdmcklgglbaaDoor
open Go Go.Abs Go.Proofs
def Q33:Tbl:=Q31.add 42 (sp2 (fun a b:List Str=>decide (a=b)) fun _ _=>True)
attribute [go_sem] Q33
theorem zFZ:zan Tryd.prog G0 Q33:=by
 refine zbr zE4 zBM fun a b _ hwa hwb=>?_
 obtain⟨Q,hQ⟩:∃Q:D→zas→Nat→Prop,Q=(fun d _ _=>D.val d=some (.fz (enc (decide (a=b))))):=⟨_,rfl⟩
 rw[←hQ]
 have hf:a≠b→∀{H' n'},Q (.fz (.b false)) H' n':=fun h H' n'=>by rw[hQ];show _=some (D.fz (.b (decide (a=b))));rw[decide_eq_false h];rfl
 have ht:a=b→∀{H' n'},Q (.fz (.b true)) H' n':=fun h H' n'=>by rw[hQ];show _=some (D.fz (.b (decide (a=b))));rw[decide_eq_true h];rfl
 have hsl:a.length≤zaZ:=by
  have:=zc1 hwa
  simpa using this
 unfold zaZ at hsl
 have kf:=Kp.mk @hf
 have kt:=Kp.mk @ht
 clear hf ht hQ hwa hwb
 refine zaj (N:=26) hm zBM 42000 (lst []) zE4 Tryd.func42 rfl rfl (by simp) (by kernel_rfl) ?_
 repeat'(first|refine zaB.d (fun _=>?_) (fun _=>?_)|refine rq fun _=>?_|simp only[go_sem,Tryd.f42])
 all_goals try(refine kf.out (fun e=>?_);subst e;omega)
 rename_i e1
 have hlen:a.length=b.length:=by omega
 refine zar hm zBM 42000 (lst []) (ι:=zd8 a.length fun i=>a.take i=b.take i)
  ⟨fun q=>⟨frL [(0,.fz (.sl (a.map enc))),(1,.fz (.sl (b.map enc))),(12,.fz (.i .i64 a.length)),(13,.fz (.i .i64 q.i))],hpL [],0⟩,fun q=>a.length-q.i⟩
  ⟨0,by omega,rfl⟩ (by kernel_rfl) ?_ ?_
 ·refine zah ?_ ?_ ?_<;>simp only[go_sem]
 rintro⟨i,hi,hpi⟩
 rcases Nat.lt_or_ge i a.length with h1|h1
 ·have h2:i<b.length:=by omega
  obtain⟨x,hx⟩:∃x,a[i]=x:=⟨_,rfl⟩
  obtain⟨y,hy⟩:∃y,b[i]=y:=⟨_,rfl⟩
  by_cases hxy:x=y
  ·repeat'(first|refine rq fun _=>?_|simp only[go_sem,h1,h2,hx,hy,eq_true hxy,zaa,Tryd.f42])
   refine⟨⟨i+1,by omega,?_⟩,by simp only;omega,?_⟩
   ·rw[List.take_succ_eq_append_getElem h1,List.take_succ_eq_append_getElem h2,hpi,hx,hy,hxy]
   ·refine zah ?_ ?_ ?_<;>simp only[go_sem]
  ·repeat'(first|refine rq fun _=>?_|simp only[go_sem,h1,h2,hx,hy,eq_false hxy,zaa,Tryd.f42])
   exact kf.out fun e=>hxy (by subst e;rw[←hx,←hy])
 ·have h1':¬i<a.length:=by omega
  obtain rfl:i=a.length:=by omega
  repeat'(first|refine rq fun _=>?_|simp only[go_sem,Nat.lt_irrefl,h1',Tryd.f42])
  exact kt.out (zc4 hlen hpi)
def Q34:Tbl:=Q33.add 45 (sp2 (fun a b:Abs.zac=>decide (a=b)) fun _ _=>True)
attribute [go_sem] Q34
theorem zDM:zan Tryd.prog G0 Q34:=by
 refine zjV zac.size zE7 zFZ fun n hT a b hn hwa hwb=>?_
 obtain⟨Q,hQ⟩:∃Q:D→zas→Nat→Prop,Q=(fun d _ _=>D.val d=some (.fz (enc (decide (a=b))))):=⟨_,rfl⟩
 rw[←hQ]
 have hf:a≠b→∀{H' n'},Q (.fz (.b false)) H' n':=fun h H' n'=>by rw[hQ];show _=some (D.fz (.b (decide (a=b))));rw[decide_eq_false h];rfl
 have ht:a=b→∀{H' n'},Q (.fz (.b true)) H' n':=fun h H' n'=>by rw[hQ];show _=some (D.fz (.b (decide (a=b))));rw[decide_eq_true h];rfl
 have hsl:a.subs.length≤zaZ:=by
  have h:=zbC (by have h:=hwa;rw[zbA]at h;exact h) (FD.sl (a.subs.map enc)) (by simp)
  have:=zc1 h
  simpa using this
 unfold zaZ at hsl
 have hsz:∀g∈a.subs,g.size<n:=fun g hg=>by have:=zac.size_sub hg;omega
 have kf:=Kp.mk @hf
 have kt:=Kp.mk @ht
 have kz:=Kp.mk hsz
 have kT:=Kp.mk hT
 clear hf ht hQ hwa hwb hsz hT
 refine zaj (N:=54) hm kT.out 45000 (lst []) zE7 Tryd.func45 rfl rfl (by simp) (by kernel_rfl) ?_
 repeat'(first|refine zaB.d (fun _=>?_) (fun _=>?_)|refine zaB.i (fun _=>?_) (fun _=>?_)|refine rq fun _=>?_|simp only[go_sem,Tryd.f45, *])
 all_goals try(refine kf.out (fun e=>?_);subst e;contradiction)
 rename_i e1 e2 e3 e4
 have hlen:a.subs.length=b.subs.length:=by omega
 refine zar hm kT.out 45000 (lst []) (ι:=zd8 a.subs.length fun i=>a.subs.take i=b.subs.take i)
  ⟨fun q=>⟨frL [(2,.ptr (45002,0) 0),(3,.ptr (45003,1) 0),(37,.fz (.i .i64 a.subs.length)),(38,.fz (.i .i64 q.i))],
   hpL [((45002,0),some ⟨[.fz (.i .i64 a.kind),.fz (.s a.name.l),.fz (.sl (a.words.map enc)),.fz (.sl (a.subs.map enc))],true,false⟩),((45003,1),some ⟨[.fz (.i .i64 b.kind),.fz (.s b.name.l),.fz (.sl (b.words.map enc)),.fz (.sl (b.subs.map enc))],true,false⟩)],2⟩,fun q=>a.subs.length-q.i⟩
  ⟨0,by omega,rfl⟩ (by kernel_rfl) ?_ ?_
 ·refine zah ?_ ?_ ?_<;>simp only[go_sem, *]
 rintro⟨i,hi,hpi⟩
 rcases Nat.lt_or_ge i a.subs.length with h1|h1
 ·have h2:i<b.subs.length:=by omega
  obtain⟨x,hx⟩:∃x,a.subs[i]=x:=⟨_,rfl⟩
  obtain⟨y,hy⟩:∃y,b.subs[i]=y:=⟨_,rfl⟩
  have hxs:x.size<n:=kz.out x (by rw[←hx];exact List.getElem_mem h1)
  by_cases hxy:x=y
  ·repeat'(first|refine rq fun _=>?_|simp only[go_sem,h1,h2,hx,hy,hxs,eq_true hxy,zaa,Tryd.f45])
   refine⟨⟨i+1,by omega,?_⟩,by simp only;omega,?_⟩
   ·rw[List.take_succ_eq_append_getElem h1,List.take_succ_eq_append_getElem h2,hpi,hx,hy,hxy]
   ·refine zah ?_ ?_ ?_<;>simp only[go_sem]
  ·repeat'(first|refine rq fun _=>?_|simp only[go_sem,h1,h2,hx,hy,hxs,eq_false hxy,zaa,Tryd.f45])
   exact kf.out fun e=>hxy (by subst e;rw[←hx,←hy])
 ·have h1':¬i<a.subs.length:=by omega
  obtain rfl:i=a.subs.length:=by omega
  repeat'(first|refine rq fun _=>?_|simp only[go_sem,Nat.lt_irrefl,h1',Tryd.f45])
  exact kt.out (zlb e1 e2 e3 (zc4 hlen hpi))
def Q35:Tbl:=Q34.add 64 (sp2 zbc fun _ _=>True)
attribute [go_sem] Q35
theorem zz0:zan Tryd.prog G0 Q35:=by
 refine zbr zFk zDM fun a b _ _ _=>?_
 refine zaj (N:=10) hm zDM 64000 (lst []) zFk Tryd.func64 rfl rfl (by simp) (by kernel_rfl) ?_
 repeat'(first|refine rq fun _=>?_|simp only[go_sem,zbc,Tryd.f64])
end Go.Proofs.YtalbdmcklgglbaaDoor

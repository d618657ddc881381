import Derived.Test.YtmconmiemdinkaaDoorAT
import Derived.Test.YtmconmiemdinkaaDoorQ195
import Derived.Test.YtmconmiemdinkaaDoorY20
set_option maxRecDepth 100000
set_option maxHeartbeats 1000000
set_option linter.unusedSimpArgs false
namespace Go.Proofs.YtmconmiemdinkaaDoor
open Go Go.Abs Go.Proofs
theorem zmn {s:zal}(h:(za9 s).code=0):za9 s=⟨0,0⟩:=by
 unfold za9 at h ⊢
 split at h
 ·exact absurd h (by decide)
 rename_i h1
 rw[if_neg h1]
 split at h
 ·rename_i h2;exact absurd h h2
 rename_i h2
 rw[if_neg h2]
 split at h
 ·exact absurd h (by decide)
 rename_i h3
 rw[if_neg h3]
 split at h
 ·exact absurd h (by decide)
 rename_i h4
 rw[if_neg h4]
 split at h
 ·exact absurd h (by decide)
 rename_i h5
 rw[if_neg h5]
 split at h
 ·exact absurd h (by decide)
 rename_i h6
 rw[if_neg h6]
 split at h
 ·rename_i h7
  exact absurd h h7
 ·rename_i h7
  rw[if_neg h7]
def zti:Str:=⟨[101,118,101,114,121]⟩
def zA8:Str:=⟨[115,101,101]⟩
def zxC:Str:=⟨[115,111,109,101]⟩
def zDa:Str:=⟨[99,97,116]⟩
def sH0:Str:=⟨[104,48]⟩
def sH1:Str:=⟨[104,49]⟩
def zp1 (x:Str):Abs.zab:= .mk 10 x [] []
def zv2 (k:Int)(x:Str)(f:Abs.zab):Abs.zab:= .mk k x [] [f]
def zuy:zal:=⟨[⟨zti,zv2 8 sX (zxN 7 (zou zDb [sX]) (zp1 sH0))⟩,⟨zxC,zv2 9 sY (zxN 5 (zou zDa [sY]) (zp1 sH1))⟩,⟨zA8,zou zA8 [sX,sY]⟩],[],[sX,sY]⟩
def Ss0:Tbl:=Tbl.or Sc7 (Tbl.or Sd3 Sd4)
theorem zBA:zam Tryd.prog GA Ss0:=zgH zD6 (zgH zD7 zD8)
def Ss1:Tbl:=Ss0.add 16 (sp1 zp1 fun _=>True)
theorem zBB:zam Tryd.prog GA Ss1:=by
 refine zcu zCA zBA fun a _ _=>?_
 unfold zp1
 refine zak (N:=5) Go.Proofs.YtmconmiemdinkaaDoor.hm zBA 16000 (lst []) zCA Tryd.func16 rfl rfl (by simp) (by kernel_rfl) ?_
 repeat'(first|refine And.intro ?_ ?_|exact True.intro|refine rq fun _=>?_|refine rf fun _=>?_|simp only[go_sem,zac,zae,zad,zaf,zah,zaa,Tryd.f16,Ss0,Sc7,Sc6,Sc5,Sc4,Sc3,Sc2,Sc1,Sc0,Sd4,Sd3,Sd2,Sd1,Su4,Su3,Su2,Su1])
 all_goals first|done|rfl|omega
def Ss2:Tbl:=Ss1.add 17 (sp3 zv2 fun _ _ _=>True)
theorem zBC:zam Tryd.prog GA Ss2:=by
 refine zfA zCB zBB fun a b c _ _ _ _=>?_
 unfold zv2
 refine zak (N:=12) Go.Proofs.YtmconmiemdinkaaDoor.hm zBB 17000 (lst []) zCB Tryd.func17 rfl rfl (by simp) (by kernel_rfl) ?_
 repeat'(first|refine And.intro ?_ ?_|exact True.intro|refine rq fun _=>?_|refine rf fun _=>?_|simp only[go_sem,zac,zae,zad,zaf,zah,zaa,Tryd.f17,Ss1,Ss0,Sc7,Sc6,Sc5,Sc4,Sc3,Sc2,Sc1,Sc0,Sd4,Sd3,Sd2,Sd1,Su4,Su3,Su2,Su1])
 all_goals first|done|rfl|omega
def Ss3:Tbl:=Ss2.add 5 (sp0 zuy)
set_option maxHeartbeats 4000000 in
theorem zD9:zam Tryd.prog GA Ss3:=by
 refine zxE zBC ?_
 refine zak (N:=22) Go.Proofs.YtmconmiemdinkaaDoor.hm zBC 5000 (lst []) ok5 Tryd.func5 rfl rfl (by simp) (by kernel_rfl) ?_
 repeat'(first|refine And.intro ?_ ?_|exact True.intro|refine rq fun _=>?_|refine rf fun _=>?_|simp only[go_sem,zuy,zp1,zv2,zxN,zou,zti,zA8,zxC,zDa,sH0,sH1,sX,sY,zDb,zac,zae,zad,zaf,zah,zaa,Tryd.f5,Ss2,Ss1,Ss0,Sc7,Sc6,Sc5,Sc4,Sc3,Sc2,Sc1,Sc0,Sd4,Sd3,Sd2,Sd1,Su4,Su3,Su2,Su1])
 all_goals first|done|rfl|omega
def hJx (N:List Str)(x:Str)(q:Nat):Int:=if N.idxOf x<q then((N.idxOf x:Nat):Int)else-1
theorem zjt {N:List Str}{x:Str}{q:Nat}(hn:N.Nodup)(h:q<N.length)(e:N[q]=x):hJx N x (q+1)=(q:Int):=by
 have h1:N.idxOf x=q:=by rw[←e];exact hn.idxOf_getElem q h
 unfold hJx
 rw[h1,if_pos (by omega)]
theorem zgK {N:List Str}{x:Str}{q:Nat}(h:q<N.length)(e:¬N[q]=x):hJx N x (q+1)=hJx N x q:=by
 have h1:N.idxOf x≠q:=fun g=>e (by subst g;exact List.getElem_idxOf h)
 unfold hJx
 by_cases h2:N.idxOf x<q
 ·rw[if_pos h2,if_pos (by omega)]
 ·rw[if_neg h2,if_neg (by omega)]
theorem zp0 {N:List Str}{x:Str}(h:x∈N):hJx N x N.length=((N.idxOf x:Nat):Int):=by
 unfold hJx
 rw[if_pos (List.idxOf_lt_length_of_mem h)]
theorem zmX {N:List Str}{x:Str}(h:x∉N):hJx N x N.length= -1:=by
 unfold hJx
 rw[if_neg (by rw[List.idxOf_eq_length h];omega)]
theorem zoe {s:zal}(hs:zhx s):(zb6 s).length≤100000:=by
 have h6:=hs.n6
 unfold zb6
 split
 ·simp
 ·rename_i h
  have h1:=zit (s:=s) (i:=nP s^(zaU s.pieces).length)
  have h2:=zkZ (j:=nP s) (M:=(zaU s.pieces).length) h6 (by omega)
  omega
theorem ziH {s:zal}:zbP s=[]↔zdz s=[]:=by
 unfold zbP
 rw[List.map_eq_nil_iff]
theorem ztJ {s:zal}(hs:zhx s)(a b:Str)(ha:a∈zan s.pieces)(hb:b∈zan s.pieces):
  ((zbP s).all fun p=>decide (((zek s b:Nat):Int)∈zbN p s ((zek s a:Nat):Int)))=(zb6 s).all fun d=>zdh s d ((zek s a:Nat):Int) ((zek s b:Nat):Int):=by
 have hla:∀{x},x∈zan s.pieces→zek s x<nP s:=fun{x} hx=>by
  have:=List.idxOf_lt_length_of_mem hx
  unfold zan at this
  rw[List.length_map]at this
  exact this
 have h1:=ztI hs (hla ha) (hla hb)
 have h2:((zb6 s).all fun d=>zdh s d ((zek s a:Nat):Int) ((zek s b:Nat):Int))=(zb6 s).all fun d=>zdZ (zgO s (zaz d)) (zek s a) (nP s+1) (zek s b):=by
  rw[Bool.eq_iff_iff,List.all_eq_true,List.all_eq_true]
  refine forall_congr' fun d=>forall_congr' fun hd=>?_
  obtain⟨l,_,rfl⟩:=(zdx hs).1 hd
  rw[zcr,zkM]
 rw[h2,h1]
 unfold zbP zpG
 rw[List.all_map,Bool.eq_iff_iff,List.all_eq_true,List.all_eq_true]
 refine forall_congr' fun l=>forall_congr' fun _=>?_
 simp only[Function.comp]
 unfold zbN
 rw[zc4,Int.toNat_natCast,decide_eq_true_eq,decide_eq_true_eq,zgM]
theorem zsm:zhX zuy ⟨[101,118,101,114,121]⟩ ⟨[115,101,101]⟩=(true,⟨0,0⟩):=by kernel_rfl
set_option maxHeartbeats 8000000 in
theorem zxf (hT:zam Tryd.prog GA Ss3)(s:zal)(a b:Str)(_:(enc s).Wf)(_:(enc a).Wf)(_:(enc b).Wf):zaE Tryd.prog GA 3 [.fz (enc s),.fz (enc a),.fz (enc b)] (hpL []) 0 (fun d _ _=>d= .fz (.b true)):=by
 have ho:=zsm
 obtain⟨r,e,hre⟩:∃r e,zhX s a b=(r,e):=⟨_,_,rfl⟩
 by_cases h0:(za9 s).code=0
 case neg=>
  have h0':((za9 s).code=0)=False:=eq_false h0
  have hd:zhX s a b=(false,za9 s):=by unfold zhX;rw[if_pos h0]
  refine zak (N:=133) Go.Proofs.YtmconmiemdinkaaDoor.hm hT 3000 (lst []) ok3 Tryd.func3 rfl rfl (by simp) (by kernel_rfl) ?_
  repeat'(first|refine And.intro ?_ ?_|exact True.intro|refine rq fun _=>?_|refine rf fun _=>?_|simp only[go_sem,ho,hd,h0',zac,zae,zad,zaf,zah,zaa,GA,Tryd.f3,Ss3,Ss2,Ss1,Ss0,Sc7,Sc6,Sc5,Sc4,Sc3,Sc2,Sc1,Sc0,Sd4,Sd3,Sd2,Sd1,Su4,Su3,Su2,Su1])
  all_goals first|done|rfl|omega
 have hs:=zng h0
 have hsc:=zmn h0
 have hn6:=hs.n6
 have hnp:s.pieces.length=nP s:=rfl
 obtain⟨L,hL⟩:∃L,s.pieces.length=L:=⟨_,rfl⟩
 have hlal:(zan s.pieces).length=L:=by unfold zan;rw[List.length_map];exact hL
 have hx0:∀(Z:List Str) (x:Str),hJx Z x 0= -1:=fun Z x=>rfl
 refine zak (N:=133) Go.Proofs.YtmconmiemdinkaaDoor.hm hT 3000 (lst []) ok3 Tryd.func3 rfl rfl (by simp) (by kernel_rfl) ?_
 repeat'(first|refine And.intro ?_ ?_|exact True.intro|refine rq fun _=>?_|refine rf fun _=>?_|simp only[go_sem,ho,hre,hsc,zac,zae,zad,zaf,zah,zaa,GA,Tryd.f3,Ss3,Ss2,Ss1,Ss0,Sc7,Sc6,Sc5,Sc4,Sc3,Sc2,Sc1,Sc0,Sd4,Sd3,Sd2,Sd1,Su4,Su3,Su2,Su1])
 refine zap Go.Proofs.YtmconmiemdinkaaDoor.hm hT 3000 (lst []) (ι:=zdI L 4 fun _=>True)
  ⟨fun q=>⟨frL [(1,.fz (.s a.l)),(2,.fz (.s b.l)),(3,.ptr (3003,0) 0),(9,.fz (.b r)),(10,.ptr (3010,2) 0),(12,.fz (.i .i64 (hJx (zan s.pieces) a q.i))),(13,.fz (.i .i64 (hJx (zan s.pieces) b q.i))),(51,.fz (.sl (s.pieces.map enc))),(52,.fz (.i .i64 L)),(53,.fz (.i .i64 q.i))],
   hpL [((3003,0),some ⟨[.fz (.sl (s.pieces.map enc)),.fz (.sl (s.overs.map enc)),.fz (.sl (s.vars.map enc))],true,false⟩),((3010,2),some ⟨[.fz (.i .i64 e.code),.fz (.i .i64 e.index)],true,false⟩)],q.m⟩,fun q=>L-q.i⟩
  ⟨0,4,by omega,Nat.le_refl _,trivial⟩ (by kernel_rfl) ?_ ?_
 ·refine zai ?_ ?_ ?_<;>(try simp only[go_sem,hx0,hL])
  all_goals first|done|rfl|omega
 rintro⟨q,m,hq,hm1,_⟩
 try simp only at hq hm1
 rcases Nat.lt_or_ge q L with h1|h1
 ·have h1':q<s.pieces.length:=by omega
  have h9:((q:Int)<(L:Int))=True:=eq_true (by omega)
  obtain⟨y,hy⟩:∃y,s.pieces[q]=y:=⟨_,rfl⟩
  have h3b:q<(zan s.pieces).length:=by omega
  have hlab:(zan s.pieces)[q]=y.label:=by simp only[zan,List.getElem_map,hy]
  have hne:∀{x z:Str},¬x=z→(x.l=z.l)=False:=fun{x z} h=>eq_false fun e=>h (by cases x;cases z;simp only at e;rw[e])
  by_cases ha:y.label=a
  all_goals by_cases hb:y.label=b
  ·have ha':(y.label.l=a.l)=True:=eq_true (by rw[ha])
   have hb':(y.label.l=b.l)=True:=eq_true (by rw[hb])
   have s1:=zjt hs.lab h3b (hlab.trans ha)
   have s2:=zjt hs.lab h3b (hlab.trans hb)
   repeat'(first|refine And.intro ?_ ?_|exact True.intro|refine rq fun _=>?_|refine rf fun _=>?_|simp only[go_sem,h9,h1',hy,ha',hb',zac,zae,zad,zaf,zah,zaa,GA,Tryd.f3,Ss3,Ss2,Ss1,Ss0,Sc7,Sc6,Sc5,Sc4,Sc3,Sc2,Sc1,Sc0,Sd4,Sd3,Sd2,Sd1,Su4,Su3,Su2,Su1])
   refine⟨⟨q+1,m,by omega,by omega,trivial⟩,by simp only;omega,?_⟩
   refine zai ?_ ?_ ?_<;>(try simp only[go_sem,s1,s2])
   all_goals first|done|rfl|omega
  ·have ha':(y.label.l=a.l)=True:=eq_true (by rw[ha])
   have hb':=hne hb
   have s1:=zjt hs.lab h3b (hlab.trans ha)
   have s2:=zgK (x:=b) h3b (by rw[hlab];exact hb)
   repeat'(first|refine And.intro ?_ ?_|exact True.intro|refine rq fun _=>?_|refine rf fun _=>?_|simp only[go_sem,h9,h1',hy,ha',hb',zac,zae,zad,zaf,zah,zaa,GA,Tryd.f3,Ss3,Ss2,Ss1,Ss0,Sc7,Sc6,Sc5,Sc4,Sc3,Sc2,Sc1,Sc0,Sd4,Sd3,Sd2,Sd1,Su4,Su3,Su2,Su1])
   refine⟨⟨q+1,m,by omega,by omega,trivial⟩,by simp only;omega,?_⟩
   refine zai ?_ ?_ ?_<;>(try simp only[go_sem,s1,s2])
   all_goals first|done|rfl|omega
  ·have hb':(y.label.l=b.l)=True:=eq_true (by rw[hb])
   have ha':=hne ha
   have s2:=zjt hs.lab h3b (hlab.trans hb)
   have s1:=zgK (x:=a) h3b (by rw[hlab];exact ha)
   repeat'(first|refine And.intro ?_ ?_|exact True.intro|refine rq fun _=>?_|refine rf fun _=>?_|simp only[go_sem,h9,h1',hy,ha',hb',zac,zae,zad,zaf,zah,zaa,GA,Tryd.f3,Ss3,Ss2,Ss1,Ss0,Sc7,Sc6,Sc5,Sc4,Sc3,Sc2,Sc1,Sc0,Sd4,Sd3,Sd2,Sd1,Su4,Su3,Su2,Su1])
   refine⟨⟨q+1,m,by omega,by omega,trivial⟩,by simp only;omega,?_⟩
   refine zai ?_ ?_ ?_<;>(try simp only[go_sem,s1,s2])
   all_goals first|done|rfl|omega
  ·have hb':=hne hb
   have ha':=hne ha
   have s2:=zgK (x:=b) h3b (by rw[hlab];exact hb)
   have s1:=zgK (x:=a) h3b (by rw[hlab];exact ha)
   repeat'(first|refine And.intro ?_ ?_|exact True.intro|refine rq fun _=>?_|refine rf fun _=>?_|simp only[go_sem,h9,h1',hy,ha',hb',zac,zae,zad,zaf,zah,zaa,GA,Tryd.f3,Ss3,Ss2,Ss1,Ss0,Sc7,Sc6,Sc5,Sc4,Sc3,Sc2,Sc1,Sc0,Sd4,Sd3,Sd2,Sd1,Su4,Su3,Su2,Su1])
   refine⟨⟨q+1,m,by omega,by omega,trivial⟩,by simp only;omega,?_⟩
   refine zai ?_ ?_ ?_<;>(try simp only[go_sem,s1,s2])
   all_goals first|done|rfl|omega
 obtain rfl:q=L:=by omega
 by_cases ha:a∈zan s.pieces
 case neg=>
  have hd:zhX s a b=(false,⟨6, -2⟩):=by unfold zhX;rw[if_neg (by simp[h0]),if_pos ha]
  rw[hre]at hd
  cases hd
  have s1:=zmX ha
  rw[hlal]at s1
  repeat'(first|refine And.intro ?_ ?_|exact True.intro|refine rq fun _=>?_|refine rf fun _=>?_|simp only[go_sem,Nat.lt_irrefl,Int.lt_irrefl,s1,hL,zac,zae,zad,zaf,zah,zaa,GA,Tryd.f3,Ss3,Ss2,Ss1,Ss0,Sc7,Sc6,Sc5,Sc4,Sc3,Sc2,Sc1,Sc0,Sd4,Sd3,Sd2,Sd1,Su4,Su3,Su2,Su1])
  all_goals first|done|rfl|omega
 have s1:=zp0 ha
 rw[hlal]at s1
 by_cases hb:b∈zan s.pieces
 case neg=>
  have hd:zhX s a b=(false,⟨6, -3⟩):=by unfold zhX;rw[if_neg (by simp[h0]),if_neg (by simpa using ha),if_pos hb]
  rw[hre]at hd
  cases hd
  have s2:=zmX hb
  rw[hlal]at s2
  have e1:((((zan s.pieces).idxOf a:Nat):Int)<0)=False:=eq_false (by omega)
  repeat'(first|refine And.intro ?_ ?_|exact True.intro|refine rq fun _=>?_|refine rf fun _=>?_|simp only[go_sem,Nat.lt_irrefl,Int.lt_irrefl,s1,s2,e1,hL,zac,zae,zad,zaf,zah,zaa,GA,Tryd.f3,Ss3,Ss2,Ss1,Ss0,Sc7,Sc6,Sc5,Sc4,Sc3,Sc2,Sc1,Sc0,Sd4,Sd3,Sd2,Sd1,Su4,Su3,Su2,Su1])
  all_goals first|done|rfl|omega
 have s2:=zp0 hb
 rw[hlal]at s2
 have e1:((((zan s.pieces).idxOf a:Nat):Int)<0)=False:=eq_false (by omega)
 have e2:((((zan s.pieces).idxOf b:Nat):Int)<0)=False:=eq_false (by omega)
 by_cases hf:zdz s=[]
 ·have hd:zhX s a b=(false,⟨8, -1⟩):=by unfold zhX;rw[if_neg (by simp[h0]),if_neg (by simpa using ha),if_neg (by simpa using hb),if_pos (ziH.2 hf)]
  rw[hre]at hd
  cases hd
  have hfl:zee s=([],[]):=by unfold zee;rw[(zkz hs).2 hf];rfl
  repeat'(first|refine zaG.i hs fun _=>?_|refine And.intro ?_ ?_|exact True.intro|refine rq fun _=>?_|refine rf fun _=>?_|simp only[go_sem,Nat.lt_irrefl,Int.lt_irrefl,s1,s2,e1,e2,hL,hfl,zac,zae,zad,zaf,zah,zaa,GA,Tryd.f3,Ss3,Ss2,Ss1,Ss0,Sc7,Sc6,Sc5,Sc4,Sc3,Sc2,Sc1,Sc0,Sd4,Sd3,Sd2,Sd1,Su4,Su3,Su2,Su1])
  all_goals first|done|rfl|omega
 have hd:zhX s a b=((zbP s).all fun p=>decide (((zek s b:Nat):Int)∈zbN p s ((zek s a:Nat):Int)),⟨0,0⟩):=by unfold zhX;rw[if_neg (by simp[h0]),if_neg (by simpa using ha),if_neg (by simpa using hb),if_neg (fun h=>hf (ziH.1 h))]
 rw[ztJ hs a b ha hb,hre]at hd
 obtain⟨rfl,rfl⟩:=Prod.mk.inj hd
 have hmem:∀d∈zb6 s,znD s d:=fun d hd=>by
  obtain⟨l,hl,rfl⟩:=(zdx hs).1 hd
  obtain⟨k1,k2,k3,k4,k5⟩:=zem.1 hl
  have k6:(zay l).length=l.length:=by unfold zay;rw[List.length_map]
  exact⟨hs,by rw[k6,zms,k2];exact Nat.le_refl _,by omega⟩
 have hKl:=zoe hs
 have hfne:¬zb6 s=[]:=fun h=>hf ((zkz hs).1 h)
 obtain⟨Fl,hFl⟩:∃Fl,zb6 s=Fl:=⟨_,rfl⟩
 obtain⟨Fo,hFo⟩:∃Fo,Fl.map (zfF s)=Fo:=⟨_,rfl⟩
 rw[hFl]at hmem hfne hKl
 have hfq:zee s=(Fl,Fo):=by unfold zee;rw[hFl,hFo]
 obtain⟨A,hA⟩:∃A,(zan s.pieces).idxOf a=A:=⟨_,rfl⟩
 obtain⟨B,hB⟩:∃B,(zan s.pieces).idxOf b=B:=⟨_,rfl⟩
 have hA2:zek s a=A:=hA
 have hB2:zek s b=B:=hB
 rw[hA]at s1 e1
 rw[hB]at s2 e2
 rw[hFl,hA2,hB2]
 obtain⟨K,hK⟩:∃K,Fl.length=K:=⟨_,rfl⟩
 have hK0:((K:Int)=0)=False:=eq_false fun h=>hfne (List.eq_nil_of_length_eq_zero (by omega))
 have kmem:=Kp.mk hmem
 clear hmem
 repeat'(first|refine zaG.i hs fun _=>?_|refine And.intro ?_ ?_|exact True.intro|refine rq fun _=>?_|refine rf fun _=>?_|simp only[go_sem,Nat.lt_irrefl,Int.lt_irrefl,s1,s2,e1,e2,hL,hfq,hK,hK0,zac,zae,zad,zaf,zah,zaa,GA,Tryd.f3,Ss3,Ss2,Ss1,Ss0,Sc7,Sc6,Sc5,Sc4,Sc3,Sc2,Sc1,Sc0,Sd4,Sd3,Sd2,Sd1,Su4,Su3,Su2,Su1])
 refine zap Go.Proofs.YtmconmiemdinkaaDoor.hm hT 3000 (lst []) (ι:=zdI K m fun _=>True)
  ⟨fun p=>⟨frL [(1,.fz (.s a.l)),(2,.fz (.s b.l)),(3,.ptr (3003,0) 0),(10,.ptr (3010,2) 0),(9,.fz (.b (Fl.all fun d=>zdh s d (A:Int) (B:Int)))),(12,.fz (.i .i64 (A:Nat))),(13,.fz (.i .i64 (B:Nat))),(15,.fz (.sl (Fl.map enc))),(17,.fz (.b ((Fl.take p.i).all fun d=>zdh s d (A:Int) (B:Int)))),(109,.fz (.i .i64 K)),(110,.fz (.i .i64 p.i))],
   hpL [((3003,0),some ⟨[.fz (.sl (s.pieces.map enc)),.fz (.sl (s.overs.map enc)),.fz (.sl (s.vars.map enc))],true,false⟩),((3010,2),some ⟨[.fz (.i .i64 0),.fz (.i .i64 0)],true,false⟩)],p.m⟩,fun p=>K-p.i⟩
  ⟨0,m,by omega,Nat.le_refl _,trivial⟩ (by kernel_rfl) ?_ ?_
 ·refine zai ?_ ?_ ?_<;>(try simp only[go_sem,List.take_zero,List.all_nil])
  all_goals first|done|rfl|omega
 rintro⟨p,m2,hp,hm2,_⟩
 try simp only at hp hm2
 rcases Nat.lt_or_ge p K with h2|h2
 ·have h2':p<Fl.length:=by omega
  have h8:((p:Int)<(K:Int))=True:=eq_true (by omega)
  obtain⟨d,hd⟩:∃d,Fl[p]=d:=⟨_,rfl⟩
  have hab:=kmem.out d (by rw[←hd];exact List.getElem_mem h2')
  have hts:((Fl.take (p+1)).all fun d=>zdh s d (A:Int) (B:Int))=(((Fl.take p).all fun d=>zdh s d (A:Int) (B:Int))&&zdh s d (A:Int) (B:Int)):=by
   rw[List.take_succ_eq_append_getElem h2',hd,List.all_append];simp
  cases hu:((Fl.take p).all fun d=>zdh s d (A:Int) (B:Int))
  all_goals
   rw[hu]at hts
   repeat'(first|refine zaG.i hab fun _=>?_|refine And.intro ?_ ?_|exact True.intro|refine rq fun _=>?_|refine rf fun _=>?_|simp only[go_sem,hu,h8,h2',hd,zac,zae,zad,zaf,zah,zaa,GA,Tryd.f3,Ss3,Ss2,Ss1,Ss0,Sc7,Sc6,Sc5,Sc4,Sc3,Sc2,Sc1,Sc0,Sd4,Sd3,Sd2,Sd1,Su4,Su3,Su2,Su1])
   refine⟨⟨p+1,m2,by omega,by omega,trivial⟩,by simp only;omega,?_⟩
   refine zai ?_ ?_ ?_<;>(try simp only[go_sem,hts,Bool.false_and,Bool.true_and])
   all_goals first|done|rfl|omega
 obtain rfl:p=K:=by omega
 have htk:Fl.take p=Fl:=List.take_of_length_le (by omega)
 repeat'(first|refine And.intro ?_ ?_|exact True.intro|refine rq fun _=>?_|refine rf fun _=>?_|simp only[go_sem,htk,Nat.lt_irrefl,Int.lt_irrefl,zac,zae,zad,zaf,zah,zaa,GA,Tryd.f3,Ss3,Ss2,Ss1,Ss0,Sc7,Sc6,Sc5,Sc4,Sc3,Sc2,Sc1,Sc0,Sd4,Sd3,Sd2,Sd1,Su4,Su3,Su2,Su1])
 all_goals first|done|rfl|omega
end Go.Proofs.YtmconmiemdinkaaDoor

import Derived.Test.YtdlioodgfopmfaaGreatDoorPX
import Derived.Test.YtdlioodgfopmfaaGreatDoorBF
set_option linter.unusedSimpArgs false
namespace Go.Abs
open Go
theorem zgQ {j:Nat}(h:j<10^20):zas (zb2 j)=true:=by
 have h1:=zma 19 j h
 refine zgq ?_ ?_ ?_ fun i hi=>?_
 ·simp[zb2]
 ·simp only[zb2,List.length_cons];omega
 ·simp[zb2,zgI]
 ·simp only[zb2,List.length_cons]at hi ⊢
  cases i with
  |zero=>show okc (99:UInt8);decide
  |succ i=>
   rw[List.getD_cons_succ]
   have hm:(zaP j).getD i 0∈zaP j:=by
    rw[List.getD_eq_getElem?_getD,List.getElem?_eq_getElem (by omega)]
    exact List.getElem_mem _
   have:=h1.2 _ hm
   exact .inr (.inl ⟨by omega,by omega⟩)
theorem zwB {f:zac}(h:brF f)(hs:(zag f).1=3∨(zag f).1=4):f.kind=8∨f.kind=9∨(f.kind=4∧((zbo f).kind=8∨(zbo f).kind=9)):=by
 unfold zag at hs
 have hkb:=zbf.1 h.v
 by_cases k8:f.kind=8
 ·exact .inl k8
 by_cases k9:f.kind=9
 ·exact .inr (.inl k9)
 refine .inr (.inr ?_)
 by_cases k4:f.kind=4
 ·refine⟨k4,?_⟩
  by_cases j8:(zbo f).kind=8
  ·exact .inl j8
  by_cases j9:(zbo f).kind=9
  ·exact .inr j9
  exfalso
  simp only[k4,j8,j9,if_false,if_true,show¬((4:Int)=5) by decide,show¬((4:Int)=6) by decide,show¬((4:Int)=7) by decide,show¬((4:Int)=8) by decide,show¬((4:Int)=9) by decide]at hs
  split at hs<;>(try split at hs)<;>(try split at hs)<;>(try split at hs)<;>simp at hs
 ·exfalso
  simp only[k4,k8,k9,if_false]at hs
  split at hs<;>(try split at hs)<;>(try split at hs)<;>simp at hs
theorem zhc {f a:zac}(h:BF f)(ha:a∈f.subs):BF0 a∧a.size+1≤800:=⟨h.o.sub ha,by have:=zac.size_sub ha;have:=h.o.b.s;omega⟩
theorem zeF {f g a:zac}(h:BF f)(hg:g∈f.subs)(ha:a∈g.subs):BF0 a∧a.size+1≤800:=⟨(h.o.sub hg).sub ha,by have:=zac.size_sub hg;have:=zac.size_sub ha;have:=h.o.b.s;omega⟩
theorem zeb {f:zac}{i:Nat}(h:i<f.subs.length):f.subs.getD i zbk∈f.subs:=by
 rw[List.getD_eq_getElem?_getD,List.getElem?_eq_getElem h];exact List.getElem_mem h
theorem zgt {f:zac}(h:BF f):∀g∈(zag f).2.1,BF g:=by
 have hv:=zbf.1 h.o.b.v
 have one:∀{x:zac},vok x→(x.kind=4∨x.kind=8∨x.kind=9)→zbo x∈x.subs:=fun{x} hx hk=>zeb (f:=x) (i:=0) (by rw[(zbf.1 hx).2.2.2.2.1 hk];omega)
 have two0:∀{x:zac},vok x→(x.kind=5∨x.kind=6∨x.kind=7)→zbo x∈x.subs:=fun{x} hx hk=>zeb (f:=x) (i:=0) (by rw[(zbf.1 hx).2.2.2.2.2.1 hk];omega)
 have two1:∀{x:zac},vok x→(x.kind=5∨x.kind=6∨x.kind=7)→zua x∈x.subs:=fun{x} hx hk=>zeb (f:=x) (i:=1) (by rw[(zbf.1 hx).2.2.2.2.2.1 hk];omega)
 have C:∀{a:zac},BF0 a∧a.size+1≤800→BF (cnn a):=fun h=>h.1.cn
 have N:∀{a:zac},BF0 a∧a.size+1≤800→BF (ngg a):=fun h=>h.1.ng h.2
 have fv:=h.o.b.v
 intro g hg
 unfold zag at hg
 by_cases k5:f.kind=5
 ·rw[if_pos k5]at hg
  simp only[List.mem_cons,List.not_mem_nil,or_false]at hg
  rcases hg with rfl|rfl
  ·exact C (zhc h (two0 fv (by omega)))
  ·exact C (zhc h (two1 fv (by omega)))
 rw[if_neg k5]at hg
 by_cases k6:f.kind=6
 ·rw[if_pos k6]at hg
  simp only[List.mem_cons,List.not_mem_nil,or_false]at hg
  rcases hg with rfl|rfl
  ·exact C (zhc h (two0 fv (by omega)))
  ·exact C (zhc h (two1 fv (by omega)))
 rw[if_neg k6]at hg
 by_cases k7:f.kind=7
 ·rw[if_pos k7]at hg
  simp only[List.mem_cons,List.not_mem_nil,or_false]at hg
  rcases hg with rfl|rfl
  ·exact N (zhc h (two0 fv (by omega)))
  ·exact C (zhc h (two1 fv (by omega)))
 rw[if_neg k7]at hg
 by_cases k8:f.kind=8
 ·rw[if_pos k8]at hg
  exact absurd hg List.not_mem_nil
 rw[if_neg k8]at hg
 by_cases k9:f.kind=9
 ·rw[if_pos k9]at hg
  exact absurd hg List.not_mem_nil
 rw[if_neg k9]at hg
 by_cases k4:f.kind=4
 rotate_left
 ·rw[if_neg k4]at hg
  exact absurd hg List.not_mem_nil
 rw[if_pos k4]at hg
 have hs:=one fv (.inl k4)
 have gv:vok (zbo f):=(h.o.sub hs).b.v
 by_cases j4:(zbo f).kind=4
 ·rw[if_pos j4]at hg
  simp only[List.mem_cons,List.not_mem_nil,or_false]at hg
  rw[hg]
  exact C (zeF h hs (one gv (.inl j4)))
 rw[if_neg j4]at hg
 by_cases j5:(zbo f).kind=5
 ·rw[if_pos j5]at hg
  simp only[List.mem_cons,List.not_mem_nil,or_false]at hg
  rcases hg with rfl|rfl
  ·exact N (zeF h hs (two0 gv (by omega)))
  ·exact N (zeF h hs (two1 gv (by omega)))
 rw[if_neg j5]at hg
 by_cases j6:(zbo f).kind=6
 ·rw[if_pos j6]at hg
  simp only[List.mem_cons,List.not_mem_nil,or_false]at hg
  rcases hg with rfl|rfl
  ·exact N (zeF h hs (two0 gv (by omega)))
  ·exact N (zeF h hs (two1 gv (by omega)))
 rw[if_neg j6]at hg
 by_cases j7:(zbo f).kind=7
 ·rw[if_pos j7]at hg
  simp only[List.mem_cons,List.not_mem_nil,or_false]at hg
  rcases hg with rfl|rfl
  ·exact C (zeF h hs (two0 gv (by omega)))
  ·exact N (zeF h hs (two1 gv (by omega)))
 rw[if_neg j7]at hg
 by_cases j8:(zbo f).kind=8
 ·rw[if_pos j8]at hg
  exact absurd hg List.not_mem_nil
 rw[if_neg j8]at hg
 by_cases j9:(zbo f).kind=9
 ·rw[if_pos j9]at hg
  exact absurd hg List.not_mem_nil
 rw[if_neg j9]at hg
 exact absurd hg List.not_mem_nil
theorem zhT {f:zac}{nm:Str}(h:BF f)(hs:(zag f).1=3∨(zag f).1=4)(hn:zas nm=true):BF (zbJ (zag f).2.2.1 (zag f).2.2.2 nm):=by
 have hq:=zwB h.o.b hs
 have key:∀{q:zac},BF0 q→(q.kind=8∨q.kind=9)→BF (zdE q nm):=fun{q} hq0 hk=>by
  have hl:=(zbf.1 hq0.b.v).2.2.2.2.1 (.inr hk)
  have hm:zbo q∈q.subs:=zeb (f:=q) (i:=0) (by omega)
  exact(hq0.sub hm).can (by simp) fun b hb=>by rw[List.mem_singleton.1 hb];exact hn
 by_cases k4:f.kind=4
 ·have hl:=(zbf.1 h.o.b.v).2.2.2.2.1 (.inl k4)
  have hm:zbo f∈f.subs:=zeb (f:=f) (i:=0) (by omega)
  have hqk:(zbo f).kind=8∨(zbo f).kind=9:=by omega
  have e:zbJ (zag f).2.2.1 (zag f).2.2.2 nm=ngg (zdE (zbo f) nm):=by
   unfold zag
   rcases hqk with j|j<;>(rw[k4,j];rfl)
  have hb:=key (h.o.sub hm) hqk
  rw[e]
  refine hb.o.ng ?_
  have h2:=(zbf.1 (h.o.sub hm).b.v).2.2.2.2.1 (.inr hqk)
  have hm2:zbo (zbo f)∈(zbo f).subs:=zeb (f:=zbo f) (i:=0) (by omega)
  have:=zac.size_sub hm
  have:=zac.size_sub hm2
  have:=h.o.b.s
  unfold zdE
  rw[zbZ];omega
 ·have hqk:f.kind=8∨f.kind=9:=by omega
  have e:zbJ (zag f).2.2.1 (zag f).2.2.2 nm=zdE f nm:=by
   unfold zag
   rcases hqk with j|j<;>(rw[j];rfl)
  rw[e]
  exact key h.o hqk
def zgM (l:List zac):Prop:=∀f∈l,BF f
theorem zuK {f:zac}{w:Str}(h:BF f)(hw:w∈zba f):zas w=true:=zkz f [] w h.o.aw ((zbz f w).1 hw)
theorem ziO {l:List zac}{w:Str}:w∈za6 l↔∃f∈l,w∈zba f:=by
 unfold za6
 constructor
 ·intro h
  obtain⟨x,hx,rfl⟩:=List.mem_map.1 h
  have h2:=(zcT _).mem_iff.1 ((zgm _ _).1 hx)
  obtain⟨y,hy,rfl⟩:=List.mem_map.1 h2
  exact List.mem_flatMap.1 hy
 ·rintro⟨f,hf,hw⟩
  refine List.mem_map.2 ⟨w.l,(zgm _ _).2 ((zcT _).mem_iff.2 (List.mem_map.2 ⟨w,List.mem_flatMap.2 ⟨f,hf,hw⟩,rfl⟩)),rfl⟩
theorem zis {l:List zac}(h:zgM l){w:Str}(hw:w∈zc6 l):zas w=true:=by
 unfold zc6 at hw
 split at hw
 ·rw[List.mem_singleton.1 hw];decide
 ·obtain⟨f,hf,h2⟩:=ziO.1 hw
  exact zuK (h f hf) h2
theorem ztx {l:List zac}{w:Str}(h:w∉za6 l):zxu l w=false:=by
 unfold zxu
 rw[List.any_eq_false]
 intro f hf h2
 exact h (ziO.2 ⟨f,hf,by simpa using h2⟩)
theorem ziI {l:List zac}{i:Nat}(h:i<l.length):inL l i=true:=by
 unfold inL
 simp[h]
theorem zfJ {l:List zac}{i:Nat}(h:i<l.length):atL l i=l[i]:=by
 unfold atL
 rw[Int.toNat_natCast,List.getD_eq_getElem?_getD,List.getElem?_eq_getElem h];rfl
theorem ziE {p:zac→Bool}:∀{l:List zac} {k n:Nat},zeI p l k=some n→∃j,∃h:j<l.length,n=k+j∧p l[j]=true
 |[],k,n,h=>by rw[zeI]at h;cases h
 |x::l,k,n,h=>by
  rw[zeI]at h
  by_cases hp:p x=true
  ·rw[if_pos hp]at h
   cases h
   exact⟨0,by simp,rfl,hp⟩
  ·rw[if_neg hp]at h
   obtain⟨j,hj,e,h2⟩:=ziE h
   exact⟨j+1,by simpa using hj,by omega,by simpa using h2⟩
theorem zhp {c:List zaR}{l:List zac}{p:Prf}:∀{fs:List zac} {k:Nat},zc5 c l fs k=some p→∃j,∃h:j<fs.length,zb1 c l fs[j] (k+j)=some p
 |[],k,h=>by rw[zc5]at h;cases h
 |f::fs,k,h=>by
  rw[zc5]at h
  cases hc:zb1 c l f k with
  |some q=>
   rw[hc]at h
   exact⟨0,by simp,by simpa using hc.trans h⟩
  |none=>
   rw[hc]at h
   obtain⟨j,hj,h2⟩:=zhp h
   exact⟨j+1,by simpa using hj,by simp only[List.getElem_cons_succ];rw[←h2];congr 1;omega⟩
theorem zqf {l:List zac}{p:Prf}(h:zcD l=some p):zbr p l=true∧p.size=1:=by
 unfold zcD at h
 obtain⟨i,hi,h2⟩:=zhp h
 rw[Nat.zero_add]at h2
 unfold zb1 at h2
 by_cases hc:zhG (zeM l) l[i]=true
 ·rw[if_pos hc]at h2
  cases h2
  refine⟨?_,rfl⟩
  rw[zcC]
  unfold ziq
  simp only[zfv,zfu,zeg,zfw,ziI hi,zfJ hi,hc]
  simp
 ·rw[if_neg hc]at h2
  split at h2
  ·rename_i hk
   obtain⟨n,hn,rfl⟩:=Option.map_eq_some_iff.1 h2
   obtain⟨j,hj,e,ha⟩:=ziE hn
   rw[Nat.zero_add]at e
   subst e
   refine⟨?_,rfl⟩
   have ha2:=ha
   unfold zci at ha2
   simp only[Bool.and_eq_true,decide_eq_true_eq]at ha2
   have hne:¬((i:Int)=(n:Int)):=fun e=>by
    have e2:i=n:=by omega
    subst e2
    have:=ha2.1.1.1
    omega
   rw[zcC]
   unfold ziq
   simp only[zfv,zfu,zeg,zfw,ziI hj,ziI hi,zfJ hj,zfJ hi]
   unfold zhn
   rw[ha,decide_eq_true hk.1]
   simp[hne]
  ·cases h2
theorem zjZ {want:Int}:∀{l:List zac} {u:List Bool} {k i:Nat},zb7 want l u k=some i→∃j,∃h:j<l.length,i=k+j∧(zag l[j]).1=want
 |[],u,k,i,h=>by rw[zb7]at h;cases h
 |_::_,[],k,i,h=>by rw[zb7]at h;cases h
 |f::fs,u::us,k,i,h=>by
  rw[zb7]at h
  by_cases hc:u=false∧(zag f).1=want
  ·rw[if_pos hc]at h
   cases h
   exact⟨0,by simp,rfl,hc.2⟩
  ·rw[if_neg hc]at h
   obtain⟨j,hj,e,h2⟩:=zjZ h
   exact⟨j+1,by simpa using hj,by omega,by simpa using h2⟩
theorem ziU {rec:Brn→Int→Res}{b:Brn}{a:Int}{K:Res}:∀{ws:List Int},(∃w∈ws,∃i,zb7 w b.list b.used 0=some i∧zeN rec b a K ws=zb5 rec b a i (b.list.getD i zbk))∨zeN rec b a K ws=K
 |[]=> .inr rfl
 |w::ws=>by
  rw[zeN]
  cases h:zb7 w b.list b.used 0 with
  |some i=>exact .inl ⟨w,by simp,i,h,rfl⟩
  |none=>
   rcases ziU (rec:=rec) (b:=b) (a:=a) (K:=K) (ws:=ws)with⟨w2,hw,i,h1,h2⟩|h1
   ·exact .inl ⟨w2,List.mem_cons_of_mem _ hw,i,h1,h2⟩
   ·exact .inr h1
theorem zy9 {k f o:Int}{n:Str}{p:Prf}:(Prf.mk k f o n [p]).size=p.size+1:=by rw[Prf.size,Prf.sizes,Prf.sizes]
theorem zFQ {k f o:Int}{n:Str}{p q:Prf}:(Prf.mk k f o n [p,q]).size=p.size+q.size+1:=by rw[Prf.size,Prf.sizes,Prf.sizes,Prf.sizes];rfl
theorem zIc {l:List zac}{i:Nat}{p:Prf}(h:i<l.length)(hk:(zag l[i]).1=1)(hp:zbr p (l++(zag l[i]).2.1)=true):zbr (.mk 2 i 0 ⟨[]⟩ [p]) l=true:=by
 rw[zcC]
 unfold ziq
 simp only[zfv,zfu,zeg,zfw,ziI h,zfJ h,hk]
 simp[hp]
theorem zId {l:List zac}{i:Nat}{p q:Prf}{x y:zac}(h:i<l.length)(hk:(zag l[i]).1=2)(ho:(zag l[i]).2.1=[x,y])(hp:zbr p (l++[x])=true)(hq:zbr q (l++[y])=true):zbr (.mk 3 i 0 ⟨[]⟩ [p,q]) l=true:=by
 rw[zcC]
 unfold ziq
 simp only[zfv,zfu,zeg,zfw,ziI h,zfJ h,hk,ho]
 simp[hp,hq]
theorem zIe {l:List zac}{i:Nat}{p:Prf}{w:Str}(h:i<l.length)(hk:(zag l[i]).1=3)(hw:zas w=true)(hp:zbr p (l++[zbJ (zag l[i]).2.2.1 (zag l[i]).2.2.2 w])=true):zbr (.mk 4 i 0 w [p]) l=true:=by
 rw[zcC]
 unfold ziq
 simp only[zfv,zfu,zeg,zpu,zfw,ziI h,zfJ h,hk,hw]
 simp[hp]
theorem zIf {l:List zac}{i:Nat}{p:Prf}{w:Str}(h:i<l.length)(hk:(zag l[i]).1=4)(hw:zas w=true)(ho:zxu l w=false)(hp:zbr p (l++[zbJ (zag l[i]).2.2.1 (zag l[i]).2.2.2 w])=true):zbr (.mk 5 i 0 w [p]) l=true:=by
 rw[zcC]
 unfold ziq
 simp only[zfv,zfu,zeg,zpu,zfw,ziI h,zfJ h,hk,hw,ho]
 simp[hp]
structure zh4 (uses:Int)(s0 s:GS):Prop where
 ok:zb9 uses s.c s.added
 bf:zgM s.c.list
 ex:∃e,s.c.list=s0.c.list++e
 st:∃T:List Prf,s.steps=s0.steps++T∧s.added=s0.added+T.length∧(∀p,zbr p s.c.list=true→zbr (zhM T p) s0.c.list=true)∧∀p:Prf,(zhM T p).size=T.length+p.size
theorem zh4.refl {uses:Int}{s:GS}(h:zb9 uses s.c s.added)(h2:zgM s.c.list):zh4 uses s s:=
 ⟨h,h2,⟨[],by simp⟩,⟨[],by simp,by simp,fun p hp=>hp,fun p=>by simp[zhM]⟩⟩
theorem zpT {A B:List Prf}{p:Prf}:zhM (A++B) p=zhM A (zhM B p):=by unfold zhM;rw[List.foldr_append]
theorem zh4.trans {uses:Int}{s0 s1 s2:GS}(h:zh4 uses s0 s1)(h2:zh4 uses s1 s2):zh4 uses s0 s2:=by
 obtain⟨e1,he1⟩:=h.ex
 obtain⟨e2,he2⟩:=h2.ex
 obtain⟨T1,a1,a2,a3,a4⟩:=h.st
 obtain⟨T2,b1,b2,b3,b4⟩:=h2.st
 refine⟨h2.ok,h2.bf,⟨e1++e2,by rw[he2,he1,List.append_assoc]⟩,⟨T1++T2,by rw[b1,a1,List.append_assoc],by rw[b2,a2,List.length_append];omega,fun p hp=>?_,fun p=>?_⟩⟩
 ·rw[zpT];exact a3 _ (b3 _ hp)
 ·rw[zpT,a4,b4,List.length_append];omega
theorem zkP {uses:Int}{q:zac}{t:Bool}{i:Nat}{f:zac}(hq:q=(zag f).2.2.1)(ht:t=(zag f).2.2.2)(hk:(zag f).1=3):∀(ws:List Str) (s s':GS),(∀w∈ws,zas w=true)→zb9 uses s.c s.added→zgM s.c.list→
  (h:i<s.c.list.length)→s.c.list[i]=f→ziH q t i ws s= .go s'→zh4 uses s s'
 |[],s,s',_,h1,h2,_,_,h=>by rw[ziH]at h;cases h;exact zh4.refl h1 h2
 |w::ws,s,s',hw,h1,h2,hi,hf,h=>by
  rw[ziH]at h
  by_cases hin:w∈s.c.seen.getD i []
  ·rw[if_pos hin]at h
   exact zkP hq ht hk ws s s' (fun x hx=>hw x (List.mem_cons_of_mem _ hx)) h1 h2 hi hf h
  ·rw[if_neg hin]at h
   by_cases hfu:300<s.added+1
   ·rw[if_pos hfu]at h;cases h
   ·rw[if_neg hfu]at h
    have hwn:=hw w (by simp)
    have hbf:BF f:=by rw[←hf];exact h2 _ (List.getElem_mem hi)
    have hI:BF (zbJ q t w):=by rw[hq,ht];exact zhT hbf (.inl hk) hwn
    have hsl:i<s.c.seen.length:=by rw[h1.sl];exact hi
    have hok:=h1.saw (i:=i) (w:=w) hsl hI.o.b (by omega)
    have hl1:(zbS (saw s.c i w) [zbJ q t w]).list=s.c.list++[zbJ q t w]:=rfl
    have hbf1:zgM (zbS (saw s.c i w) [zbJ q t w]).list:=fun x hx=>by
     rw[hl1]at hx
     rcases List.mem_append.1 hx with h3|h3
     ·exact h2 x h3
     ·rw[List.mem_singleton.1 h3];exact hI
    have hi1:i<(zbS (saw s.c i w) [zbJ q t w]).list.length:=by rw[hl1,List.length_append];omega
    have hf1:(zbS (saw s.c i w) [zbJ q t w]).list[i]=f:=by
     have:(zbS (saw s.c i w) [zbJ q t w]).list[i]=(s.c.list++[zbJ q t w])[i]'(by rw[List.length_append];omega):=rfl
     rw[this,List.getElem_append_left hi];exact hf
    have ih:=zkP hq ht hk ws ⟨zbS (saw s.c i w) [zbJ q t w],s.steps++[.mk 4 i 0 w []],s.added+1⟩ s' (fun x hx=>hw x (List.mem_cons_of_mem _ hx)) hok hbf1 hi1 hf1 h
    refine zh4.trans ⟨hok,hbf1,⟨[zbJ q t w],rfl⟩,⟨[.mk 4 i 0 w []],rfl,rfl,fun p hp=>?_,fun p=>?_⟩⟩ ih
    ·exact zIe hi (by rw[hf];exact hk) hwn (by rw[hf,←hq,←ht];exact hp)
    ·show(Prf.mk 4 i 0 w [p]).size=_
     rw[zy9];simp;omega
theorem zkO {uses:Int}{ws:List Str}(hw:∀w∈ws,zas w=true):∀(l:List zac) (i:Nat) (s s':GS),zb9 uses s.c s.added→zgM s.c.list→(∃e,s.c.list.drop i=l++e)→zgH ws l i s= .go s'→zh4 uses s s'
 |[],i,s,s',h1,h2,_,h=>by rw[zgH]at h;cases h;exact zh4.refl h1 h2
 |f::fs,i,s,s',h1,h2,⟨e,he⟩,h=>by
  have hi:i<s.c.list.length:=by
   rcases Nat.lt_or_ge i s.c.list.length with h3|h3
   ·exact h3
   ·rw[List.drop_eq_nil_of_le h3]at he;simp at he
  rw[List.drop_eq_getElem_cons hi,List.cons_append]at he
  obtain⟨hf,he⟩:=List.cons.inj he
  rw[zgH]at h
  by_cases hk:(zag f).1=3
  ·rw[if_pos hk]at h
   cases hg:ziH (zag f).2.2.1 (zag f).2.2.2 i ws s with
   |lim a=>rw[hg]at h;cases h
   |go s1=>
    rw[hg]at h
    have h3:=zkP rfl rfl hk ws s s1 hw h1 h2 hi hf hg
    obtain⟨e1,he1⟩:=h3.ex
    have h4:=zkO hw fs (i+1) s1 s' h3.ok h3.bf ⟨e++e1,by rw[he1,List.drop_append_of_le_length (by omega),he,List.append_assoc]⟩ h
    exact h3.trans h4
  ·rw[if_neg hk]at h
   exact zkO hw fs (i+1) s s' h1 h2 ⟨e,he⟩ h
theorem zjV {l:List zac}(h:∀f∈l,brF f)(hl:l.length≤1000):(za6 l).length<10^20:=by
 have h1:∀l:List zac,(∀f∈l,brF f)→(l.flatMap zba).length≤l.length*1000000:=by
  intro l
  induction l with
  |nil=>intro _;simp
  |cons x l ih=>
   intro h
   rw[List.flatMap_cons,List.length_append,List.length_cons,Nat.succ_mul]
   have h2:=ih fun f hf=>h f (by simp[hf])
   have hx:=h x (by simp)
   have h3:=zeV x [] hx.ft
   have h4:=hx.s
   have h5:(zba x).length≤(cst x []).length:=by
    unfold zba
    rw[List.length_map]
    refine Nat.le_trans (zd9 _) ?_
    rw[ze9,List.length_map]
    exact Nat.le_refl _
   omega
 have h2:=h1 l h
 have h3:(za6 l).length≤(l.flatMap zba).length:=by
  unfold za6
  rw[List.length_map]
  refine Nat.le_trans (zd9 _) ?_
  rw[ze9,List.length_map]
  exact Nat.le_refl _
 have h4:l.length*1000000≤1000*1000000:=Nat.mul_le_mul_right _ hl
 omega
def ztC (rec:Brn→Int→Res)(b:Brn)(a:Int):Prop:=(rec b a).ok=true→zbr (rec b a).p b.list=true∧((rec b a).p.size:Int)≤2*((rec b a).added-a)+1
theorem zsP {uses:Int}{rec:Brn→Int→Res}(ih:∀b a,zb9 uses b a→zgM b.list→ztC rec b a)(had:∀b a,a≤300→zjh a (rec b a)){b:Brn}{a:Int}(hok:zb9 uses b a)(hbf:zgM b.list){w:Int}(hw:w=1∨w=4∨w=2){i:Nat}(hi:i<b.list.length)(hk:(zag b.list[i]).1=w)
  (hv:(zb5 rec b a i b.list[i]).ok=true):zbr (zb5 rec b a i b.list[i]).p b.list=true∧((zb5 rec b a i b.list[i]).p.size:Int)≤2*((zb5 rec b a i b.list[i]).added-a)+1:=by
 obtain⟨f,hf⟩:∃f,b.list[i]=f:=⟨_,rfl⟩
 have hfB:BF f:=by rw[←hf];exact hbf _ (List.getElem_mem hi)
 have hpB:=zgt hfB
 have hab:∀xs:List zac,(∀x∈xs,BF x)→zgM (zbS (zb6 b i) xs).list:=fun xs hx y hy=>by
  rcases List.mem_append.1 hy with h|h
  ·exact hbf y h
  ·exact hx y h
 have hok2:∀(xs:List zac) (a1 a2:Int),(∀x∈xs,BF x)→a≤a1→a2=a1+xs.length→a2≤300→zb9 uses (zbS (zb6 b i) xs) a2:=fun xs a1 a2 hx h1 h2 h3=>
  ((hok.mark i).mono h1 (by omega)).add (fun y hy=>(hx y hy).o.b) h2 h3
 rw[hf]at hk hv ⊢
 unfold zb5 at hv ⊢
 rcases hw with rfl|rfl|rfl
 ·rw[if_pos hk]at hv
  rw[if_pos hk]
  have hpos:=zid hk
  by_cases hfu:300<a+(zag f).2.1.length
  ·rw[if_pos hfu]at hv;cases hv
  ·rw[if_neg hfu]at hv
   rw[if_neg hfu]
   obtain⟨c1,c2⟩:=ih _ _ (hok2 _ a _ hpB (by omega) rfl (by omega)) (hab _ hpB) hv
   refine⟨zIc hi (by rw[hf];exact hk) (by rw[hf];exact c1),?_⟩
   show(((Prf.mk 2 i 0 ⟨[]⟩ [_]).size:Nat):Int)≤2*((rec _ _).added-a)+1
   rw[zy9]
   omega
 ·rw[if_neg (by omega),if_pos hk]at hv
  rw[if_neg (by omega),if_pos hk]
  by_cases hfu:300<a+1
  ·rw[if_pos hfu]at hv;cases hv
  ·rw[if_neg hfu]at hv
   rw[if_neg hfu]
   obtain⟨f1,f2,f3⟩:=zfN (za6 b.list)
   have hll:=hok.ll
   have ha1:=hok.a1
   have hnl:=zjV (fun y hy=>(hbf y hy).o.b) (show b.list.length≤1000 by omega)
   have hnm:zas (zea (za6 b.list))=true:=zgQ (Nat.lt_of_le_of_lt f1 hnl)
   have hoc:zxu b.list (zea (za6 b.list))=false:=ztx f2
   have hI:BF (zbJ (zag f).2.2.1 (zag f).2.2.2 (zea (za6 b.list))):=zhT hfB (.inr hk) hnm
   have hx1:∀x∈[zbJ (zag f).2.2.1 (zag f).2.2.2 (zea (za6 b.list))],BF x:=fun x hx=>by rw[List.mem_singleton.1 hx];exact hI
   obtain⟨c1,c2⟩:=ih _ (a+1) (hok2 _ a (a+1) hx1 (by omega) rfl (by omega)) (hab _ hx1) hv
   refine⟨zIf hi (by rw[hf];exact hk) hnm hoc (by rw[hf];exact c1),?_⟩
   show(((Prf.mk 5 i 0 _ [_]).size:Nat):Int)≤2*((rec _ _).added-a)+1
   rw[zy9]
   push_cast
   omega
 ·rw[if_neg (by omega),if_neg (by omega)]at hv
  rw[if_neg (by omega),if_neg (by omega)]
  obtain⟨_,q2,_,_⟩:=zcH hfB.o.b
  have hl2:=q2 hk
  obtain⟨x,y,hxy⟩:∃x y,(zag f).2.1=[x,y]:=by
   match h:(zag f).2.1,hl2 with
   |[x,y],_=>exact⟨x,y,rfl⟩
  rw[hxy]at hv hpB ⊢
  have hx1:∀z∈[x],BF z:=fun z hz=>hpB z (by rw[List.mem_singleton.1 hz];simp)
  have hy1:∀z∈[y],BF z:=fun z hz=>hpB z (by rw[List.mem_singleton.1 hz];simp)
  rw[zeL]at hv ⊢
  by_cases g1:300<a+1
  ·rw[if_pos g1]at hv;cases hv
  rw[if_neg g1]at hv ⊢
  by_cases g2:(rec (zbS (zb6 b i) [x]) (a+1)).ok=false
  ·rw[if_pos g2]at hv;cases hv
  rw[if_neg g2]at hv ⊢
  have k1:=ih _ _ (hok2 [x] a (a+1) hx1 (by omega) rfl (by omega)) (hab _ hx1) (by simpa using g2)
  have d1:=had (zbS (zb6 b i) [x]) (a+1) (by omega)
  have d2:=d1.2 (by simpa using g2)
  have d3:=d1.1
  obtain⟨r1,hr1⟩:∃r,rec (zbS (zb6 b i) [x]) (a+1)=r:=⟨_,rfl⟩
  rw[hr1]at hv k1 d2 d3 ⊢
  rw[zeL]at hv ⊢
  by_cases g3:300<r1.added+1
  ·rw[if_pos g3]at hv;cases hv
  rw[if_neg g3]at hv ⊢
  by_cases g4:(rec (zbS (zb6 b i) [y]) (r1.added+1)).ok=false
  ·rw[if_pos g4]at hv;cases hv
  rw[if_neg g4]at hv ⊢
  have k2:=ih _ _ (hok2 [y] r1.added (r1.added+1) hy1 (by omega) rfl (by omega)) (hab _ hy1) (by simpa using g4)
  obtain⟨r2,hr2⟩:∃r,rec (zbS (zb6 b i) [y]) (r1.added+1)=r:=⟨_,rfl⟩
  rw[hr2]at hv k2 ⊢
  rw[zeL]
  refine⟨zId hi (by rw[hf];exact hk) (by rw[hf];exact hxy) k1.1 k2.1,?_⟩
  have e1:=k1.2
  have e2:=k2.2
  show(((Prf.mk 3 i 0 ⟨[]⟩ [r1.p,r2.p]).size:Nat):Int)≤2*(r2.added-a)+1
  rw[zFQ]
  push_cast
  omega
theorem ztT {uses:Int}:∀(n:Nat) (b:Brn) (a:Int),zb9 uses b a→zgM b.list→ztC (zeQ uses n) b a
 |0,b,a,_,_=>fun h=>by cases h
 |n+1,b,a,hok,hbf=>fun hv=>by
  have ih:=ztT (uses:=uses) n
  rw[zeQ]at hv ⊢
  unfold zha at hv ⊢
  cases hM:zcD b.list with
  |some p=>
   obtain⟨c1,c2⟩:=zqf hM
   exact⟨c1,by simp only;rw[c2];omega⟩
  |none=>
   rw[hM]at hv
   simp only at hv ⊢
   rcases ziU (rec:=zeQ uses n) (b:=b) (a:=a) (K:=zdN (zeQ uses n) uses b a) (ws:=[1,4,2])with⟨w,hw,i,hp,he⟩|he
   ·rw[he]at hv ⊢
    obtain⟨j,hj,e,hk⟩:=zjZ hp
    rw[Nat.zero_add]at e
    subst e
    have hg:b.list.getD i zbk=b.list[i]:=by rw[List.getD_eq_getElem?_getD,List.getElem?_eq_getElem hj];rfl
    rw[hg]at hv ⊢
    exact zsP ih (fun b a h=>zei n b a h) hok hbf (by simpa using hw) hj hk hv
   ·rw[he]at hv ⊢
    unfold zdN at hv ⊢
    by_cases hr:b.rounds=uses
    ·rw[if_pos hr]at hv;cases hv
    rw[if_neg hr]at hv ⊢
    cases hG:zgH (zc6 b.list) b.list 0 ⟨⟨b.list,b.used,b.seen,b.rounds+1⟩,[],a⟩with
    |lim a'=>rw[hG]at hv;cases hv
    |go s=>
     rw[hG]at hv
     have hr1:=hok.r1
     have hr0:=hok.r0
     have hok0:zb9 uses ⟨b.list,b.used,b.seen,b.rounds+1⟩ a:=⟨hok.br,hok.ll,hok.ul,hok.sl,hok.ss,by simp only;omega,by simp only;omega,hok.u,hok.a0,hok.a1⟩
     have hgo:=zkO (uses:=uses) (fun w hw=>zis hbf hw) b.list 0 ⟨⟨b.list,b.used,b.seen,b.rounds+1⟩,[],a⟩ s hok0 hbf ⟨[],by simp⟩ hG
     obtain⟨T,t1,t2,t3,t4⟩:=hgo.st
     simp only[List.nil_append]at t1
     unfold zmz at hv ⊢
     simp only at hv ⊢
     by_cases h0:s.steps=[]
     ·rw[if_pos h0]at hv;cases hv
     rw[if_neg h0]at hv ⊢
     obtain⟨c1,c2⟩:=ih s.c s.added hgo.ok hgo.bf hv
     simp only
     rw[t1]
     refine⟨t3 _ c1,?_⟩
     rw[t4]
     simp only at t2
     push_cast
     omega
end Go.Abs

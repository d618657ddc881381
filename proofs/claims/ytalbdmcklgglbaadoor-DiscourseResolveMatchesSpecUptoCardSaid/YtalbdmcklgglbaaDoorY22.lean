/- several texts of this proof in one; no conditions -/
import Derived.Test.YtalbdmcklgglbaaDoorAT
import Derived.Test.YtalbdmcklgglbaaDoorY21
set_option maxRecDepth 100000
set_option maxHeartbeats 1000000
set_option linter.unusedSimpArgs false
namespace Go.Proofs.YtalbdmcklgglbaaDoor
open Go Go.Abs Go.Proofs
def opP (b:Abs.Box)(path:List Int):List Int×Int×Bool:=match opB b with
 |none=>([],0,false)
 |some x=>(path++x.1,(x.2:Int),true)
theorem zjH {b:Abs.Box}{path:List Int}(h:opB b=none):opP b path=([],0,false):=by unfold opP;rw[h]
theorem zjI {b:Abs.Box}{path:List Int}{x:List Int×Nat}(h:opB b=some x):opP b path=(path++x.1,(x.2:Int),true):=by unfold opP;rw[h]
def orO {α:Type}(a b:Option α):Option α:=match a with
 |some x=>some x
 |none=>b
theorem znU {α:Type}(b:Option α):orO none b=b:=rfl
theorem zjJ {α:Type}(x:α)(b:Option α):orO (some x) b=some x:=rfl
mutual
theorem zEF:∀cs:List Abs.zal,cs.length≤zal.sizes cs
 |[]=>by rw[zal.sizes];exact Nat.le_refl _
 | .mk k n f bs::cs=>by rw[zal.sizes,zal.size,List.length_cons];have:=zEF cs;omega
theorem zEE:∀bs:List Abs.Box,bs.length≤Box.sizes bs
 |[]=>by rw[Box.sizes];exact Nat.le_refl _
 | .mk r cs::bs=>by rw[Box.sizes,Box.size,List.length_cons];have:=zEE bs;omega
end
theorem zlj (b:Abs.Box):b.conds.length<b.size:=by cases b with|mk r cs=>rw[Box.size];have:=zEF cs;show cs.length<_;omega
theorem zfv (c:Abs.zal):c.boxes.length<c.size:=by cases c with|mk k n f bs=>rw[zal.size];have:=zEE bs;show bs.length<_;omega
theorem zrz {cs:List Abs.zal}{i:Nat}(h:i<cs.length):zpp i (cs.drop i)=orO (opC i cs[i]) (zpp (i+1) (cs.drop (i+1))):=by
 rw[List.drop_eq_getElem_cons h,zpp]
 cases opC i cs[i]<;>rfl
theorem zry {bs:List Abs.Box}{i k:Nat}(h:k<bs.length):zpQ i k (bs.drop k)=orO ((opB bs[k]).map fun x=>((i:Int)::(k:Int)::x.1,x.2)) (zpQ i (k+1) (bs.drop (k+1))):=by
 rw[List.drop_eq_getElem_cons h,zpQ]
 cases opB bs[k]<;>rfl
def zj6:Tv:=(.q 0 (.q 2 (.q 5 (.q 6 (.q 8 (.q 9 (.q 10 (.r 1 (.q 3 (.r 4 (.br [(7,(.br [(11,(.q 12 (.q 13 (.q 14 (.q 15 (.q 16 (.q 17 (.q 18 (.q 19 .leaf)))))))))]))])))))))))))
def V14:Tbl:=V13.add 23 (zsM opP fun b path=>path.length+2*b.size≤1000000)
set_option maxHeartbeats 8000000 in
theorem zF1:zan Tryd.prog G0 V14:=by
 refine zn6 Box.size zES zF0 fun n hT b path hn hp _ _=>?_
 obtain⟨Q,hQ⟩:∃Q:D→zas→Nat→Prop,Q=(fun d _ _=>D.val d=some (.tup [.fz (enc (opP b path).1),.fz (enc (opP b path).2.1),.fz (enc (opP b path).2.2)])):=⟨_,rfl⟩
 rw[←hQ]
 have hQn:opB b=none→∀H n,Q (.tup [.full [],.fz (.i .i64 0),.fz (.b false)]) H n:=fun h H n=>by rw[hQ,zjH h];rfl
 have hQs:∀x,opB b=some x→∀(p:List FD) H n,p=(path++x.1).map enc→Q (.tup [.fz (.sl p),.fz (.i .i64 x.2),.fz (.b true)]) H n:=fun x h p H n hp=>by rw[hQ,zjI h,hp];rfl
 have hsz:∀i (hi:i<b.conds.length) k (hk:k<b.conds[i].boxes.length),(b.conds[i].boxes[k]).size+1<b.size:=fun i hi k hk=>by
  have h1:=Box.size_sub (List.getElem_mem hi)
  have h2:=zal.size_sub (List.getElem_mem hk)
  omega
 have kn:=Kp.mk hQn
 have ks:=Kp.mk hQs
 have kz:=Kp.mk hsz
 have kT:=Kp.mk hT
 have hb0:=zzx b
 have hcl:=zlj b
 have hbl:∀c∈b.conds,c.boxes.length≤1000000:=fun c hc=>by
  have h1:=Box.size_sub hc
  have h2:=zfv c
  omega
 clear hQn hQs hsz hT hQ
 refine zaj (N:=57) hm kT.out 23000 (lsw [43,47] [1000010]) zES Tryd.func23 rfl rfl (by simp) (by kernel_rfl) ?_
 repeat'(first|refine And.intro ?_ ?_|exact True.intro|refine rq fun _=>?_|refine rf fun _=>?_|simp only[go_sem,zad,zab,zae,zaf,zaa,Tryd.f23])
 refine zar hm kT.out 23000 (lsw [43,47] [1000010]) (ι:=zcp b.conds.length 1 fun i=>opB b=zpp i (b.conds.drop i))
  ⟨fun q=>⟨frL [(1,.fz (.sl (path.map enc))),(2,.ptr (23002,0) 0),(15,.fz (.i .i64 b.conds.length)),(16,.fz (.i .i64 q.i))],hpL [((23002,0),some ⟨[.fz (.sl (b.refs.map enc)),.fz (.sl (b.conds.map enc))],true,false⟩)],q.m⟩,fun q=>b.conds.length-q.i⟩
  ⟨0,1,by omega,by omega,hb0⟩ (by kernel_rfl) ?_ ?_
 ·refine zah ?_ ?_ ?_<;>(try simp only[go_sem])
  all_goals first|done|rfl|omega
 rintro⟨i,m,hi,hm1,hpi⟩
 try simp only at hi hm1 hpi
 rcases Nat.lt_or_ge i b.conds.length with h1|h1
 rotate_left
 ·obtain rfl:i=b.conds.length:=by omega
  rw[List.drop_length,zpp]at hpi
  repeat'(first|refine And.intro ?_ ?_|exact True.intro|refine rq fun _=>?_|refine rf fun _=>?_|simp only[go_sem,Nat.lt_irrefl,Tryd.f23])
  all_goals exact kn.out hpi _ _
 obtain⟨c,hc⟩:∃c,b.conds[i]=c:=⟨_,rfl⟩
 have hbl2:=hbl c (by rw[←hc];exact List.getElem_mem h1)
 have hst:=zrz h1
 rw[←hpi,hc,zzy]at hst
 have hz2:=kz.out i h1
 rw[hc]at hz2
 have kz2:=Kp.mk hz2
 clear hz2
 by_cases h4:4<c.kind
 ·have h4t:(c.kind>4)=True:=eq_true h4
  have h4u:(4<c.kind)=True:=eq_true h4
  rw[if_pos h4,zjJ]at hst
  repeat'(first|refine And.intro ?_ ?_|exact True.intro|refine rq fun _=>?_|refine rf fun _=>?_|simp only[go_sem,h1,hc,h4t,h4u,zad,zab,zae,zaf,zaa,Tryd.f23])
  all_goals exact ks.out _ hst _ _ _ (by rw[List.append_nil])
 have h4t:(c.kind>4)=False:=eq_false h4
 have h4u:(4<c.kind)=False:=eq_false h4
 rw[if_neg h4]at hst
 repeat'(first|refine And.intro ?_ ?_|exact True.intro|refine rq fun _=>?_|refine rf fun _=>?_|simp only[go_sem,h1,hc,h4t,h4u,zad,zab,zae,zaf,zaa,Tryd.f23])
 refine zbx (zey (id:=(23008,m)) (t:=8) (b:=true) (ys:=[.i .i64 c.kind,.s c.name.l,.i .i64 c.form.kind,.s c.form.name.l,.sl (c.form.words.map enc),.sl (c.form.subs.map enc),.sl (c.boxes.map enc)]) (by simp only[go_sem]) (by simp only[go_sem])) ?_
 refine zar hm kT.out 23000 (lsw [43,47] [1000010]) (ι:=zcp c.boxes.length (m+1) fun k=>opB b=orO (zpQ i k (c.boxes.drop k)) (zpp (i+1) (b.conds.drop (i+1))))
  ⟨fun q=>⟨frL [(1,.fz (.sl (path.map enc))),(2,.ptr (23002,0) 0),(7,.fz (.i .i64 i)),(8,.rp [.i .i64 c.kind,.s c.name.l,.i .i64 c.form.kind,.s c.form.name.l,.sl (c.form.words.map enc),.sl (c.form.subs.map enc),.sl (c.boxes.map enc)]),(15,.fz (.i .i64 b.conds.length)),(16,.fz (.i .i64 i)),(31,.fz (.i .i64 c.boxes.length)),(32,.fz (.i .i64 q.i))],hpL [((23002,0),some ⟨[.fz (.sl (b.refs.map enc)),.fz (.sl (b.conds.map enc))],true,false⟩)],q.m⟩,fun q=>c.boxes.length-q.i⟩
  ⟨0,m+1,by omega,by omega,hst⟩ (by kernel_rfl) ?_ ?_
 ·refine zah ?_ ?_ ?_<;>(try simp only[go_sem])
  all_goals first|done|rfl|omega
 rintro⟨k,m2,hk,hm2,hpk⟩
 try simp only at hk hm2 hpk
 rcases Nat.lt_or_ge k c.boxes.length with h2|h2
 rotate_left
 ·obtain rfl:k=c.boxes.length:=by omega
  rw[List.drop_length,zpQ,znU]at hpk
  repeat'(first|refine And.intro ?_ ?_|exact True.intro|refine rq fun _=>?_|refine rf fun _=>?_|simp only[go_sem,Nat.lt_irrefl,Tryd.f23])
  all_goals
   refine⟨⟨i+1,m2,by omega,by omega,hpk⟩,by simp only;omega,?_⟩
   refine zah ?_ ?_ ?_<;>(try simp only[go_sem])
   all_goals first|done|rfl|omega
 obtain⟨x,hx⟩:∃x,c.boxes[k]=x:=⟨_,rfl⟩
 have hz3:=kz2.out k h2
 rw[hx]at hz3
 have hbs:=zry (i:=i) h2
 rw[hx]at hbs
 have hpl:(path++[(i:Int),(k:Int)]).length=path.length+2:=by simp
 have hpe:path.map enc++[FD.i .i64 (i:Int),FD.i .i64 (k:Int)]=(path++[(i:Int),(k:Int)]).map enc:=by rw[List.map_append];rfl
 have hpre:x.size<n∧(path++[(i:Int),(k:Int)]).length+2*x.size≤1000000:=by rw[hpl];omega
 obtain⟨P2,hP2⟩:∃P2,path++[(i:Int),(k:Int)]=P2:=⟨_,rfl⟩
 rw[hP2]at hpl hpe hpre
 cases hox:opB x with
 |none=>
  rw[hox,Option.map_none,znU]at hbs
  rw[hbs]at hpk
  have hoP:opP x P2=([],0,false):=zjH hox
  obtain⟨a0,ha0⟩:∃a:Int,0=a:=⟨_,rfl⟩
  rw[ha0]at hoP
  repeat'(first|refine zaH.i ⟨rfl,zbf (by omega) (by decide)⟩ fun _=>?_|refine zaH.i hpre fun _=>?_|refine zay (id:=10) hm kT.out 23000 (lsw [43,47] [1000010]) zj6 (by kernel_rfl) (by kernel_rfl) ?_|refine And.intro ?_ ?_|exact True.intro|refine rq fun _=>?_|refine rf fun _=>?_|simp only[go_sem,h2,hx,hpe,hoP,zj6,zad,zab,zae,zaf,zaa,Tryd.f23])
  all_goals
   refine⟨⟨k+1,m2+2,by omega,by omega,hpk⟩,by simp only;omega,?_⟩
   refine zah ?_ ?_ ?_<;>(try simp only[go_sem])
   all_goals first|done|rfl|omega
 |some z=>
  rw[hox,Option.map_some,zjJ]at hbs
  rw[hbs,zjJ]at hpk
  have hoP:=zjI (path:=P2) hox
  repeat'(first|refine zaH.i ⟨rfl,zbf (by omega) (by decide)⟩ fun _=>?_|refine zaH.i hpre fun _=>?_|refine zay (id:=10) hm kT.out 23000 (lsw [43,47] [1000010]) zj6 (by kernel_rfl) (by kernel_rfl) ?_|refine And.intro ?_ ?_|exact True.intro|refine rq fun _=>?_|refine rf fun _=>?_|simp only[go_sem,h2,hx,hpe,hoP,zj6,zad,zab,zae,zaf,zaa,Tryd.f23])
  all_goals
   refine ks.out _ hpk _ _ _ ?_
   rw[←hP2]
   simp[List.map_append]
end Go.Proofs.YtalbdmcklgglbaaDoor
namespace Go.Proofs.YtalbdmcklgglbaaDoor
open Go Go.Abs Go.Proofs
section
variable {P:Program} {G:Nat→List FD} {T:Tbl}
def sp5 {α β γ δ ε ρ:Type}[Enc α][Enc β][Enc γ][Enc δ][Enc ε][Enc ρ](f:α→β→γ→δ→ε→ρ)(pre:α→β→γ→δ→ε→Prop):List FD→Option (D×Prop)
 |[x,y,z,u,v]=>some (.fz (enc (f (dec x) (dec y) (dec z) (dec u) (dec v))),x=enc (dec (α:=α) x)∧y=enc (dec (α:=β) y)∧z=enc (dec (α:=γ) z)∧u=enc (dec (α:=δ) u)∧v=enc (dec (α:=ε) v)∧pre (dec x) (dec y) (dec z) (dec u) (dec v))
 |_=>none
@[go_sem] theorem zCV {α β γ δ ε ρ:Type}[Enc α][Enc β][Enc γ][Enc δ][Enc ε][Enc ρ]{f:α→β→γ→δ→ε→ρ}{pre:α→β→γ→δ→ε→Prop}{x y z u v:FD}:sp5 f pre [x,y,z,u,v]=some (.fz (enc (f (dec x) (dec y) (dec z) (dec u) (dec v))),x=enc (dec (α:=α) x)∧y=enc (dec (α:=β) y)∧z=enc (dec (α:=γ) z)∧u=enc (dec (α:=δ) u)∧v=enc (dec (α:=ε) v)∧pre (dec x) (dec y) (dec z) (dec u) (dec v)):=rfl
theorem zr9 {α β γ δ ε ρ:Type}[Enc α][Enc β][Enc γ][Enc δ][Enc ε][Enc ρ]{f:FuncId}{g:α→β→γ→δ→ε→ρ}{pre:α→β→γ→δ→ε→Prop}(hc:zam P f)(hT:zan P G T)
  (h:∀a b c d e,pre a b c d e→(enc a).Wf→(enc b).Wf→(enc c).Wf→(enc d).Wf→(enc e).Wf→zav P G f [.fz (enc a),.fz (enc b),.fz (enc c),.fz (enc d),.fz (enc e)] (hpL []) 0 (fun r _ _=>D.val r=some (.fz (enc (g a b c d e))))):zan P G (T.add f (sp5 g pre)):=by
 refine zcB hT fun xs r c hx hcc=>?_
 unfold sp5 at hx
 split at hx
 ·rename_i x y z u v
  simp only[Option.some.injEq,Prod.mk.injEq]at hx
  obtain⟨rfl,rfl⟩:=hx
  obtain⟨e,e2,e3,e4,e5,hp⟩:=hcc
  refine zdP hc fun hw=>?_
  rw[zdo]
  have:=h (dec x) (dec y) (dec z) (dec u) (dec v) hp (by rw[←e];exact hw x (by simp)) (by rw[←e2];exact hw y (by simp)) (by rw[←e3];exact hw z (by simp)) (by rw[←e4];exact hw u (by simp)) (by rw[←e5];exact hw v (by simp))
  rw[←e,←e2,←e3,←e4,←e5]at this
  exact this
 ·cases hx
theorem zwM {α β γ δ ε ρ:Type}[Enc α][Enc β][Enc γ][Enc δ][Enc ε][Enc ρ]{f:FuncId}{g:α→β→γ→δ→ε→ρ}{pre:α→β→γ→δ→ε→Prop}(m:α→Nat)(hc:zam P f)(hT:zan P G T)
  (h:∀n,zan P G (T.add f (sp5 g fun a b c d e=>m a<n∧pre a b c d e))→∀a b c d e,m a=n→pre a b c d e→zav P G f [.fz (enc a),.fz (enc b),.fz (enc c),.fz (enc d),.fz (enc e)] (hpL []) 0 (fun r _ _=>D.val r=some (.fz (enc (g a b c d e))))):zan P G (T.add f (sp5 g pre)):=by
 have key:∀n,zan P G (T.add f (sp5 g fun a b c d e=>m a<n∧pre a b c d e)):=by
  intro n
  induction n with
  |zero=>exact zr9 hc hT fun a b c d e ha=>by omega
  |succ n ih=>
   refine zr9 hc hT fun a b c d e ha hw hw2 hw3 hw4 hw5=>?_
   rcases Nat.lt_or_ge (m a) n with h1|h1
   ·have h2:=ih f (sp5 g fun a b c d e=>m a<n∧pre a b c d e) [enc a,enc b,enc c,enc d,enc e] _ _ (by simp[Tbl.add]) (zCV) ⟨by rw[dec_enc],by rw[dec_enc],by rw[dec_enc],by rw[dec_enc],by rw[dec_enc],by rw[dec_enc,dec_enc,dec_enc,dec_enc,dec_enc];exact⟨h1,ha.2⟩⟩
    rw[dec_enc,dec_enc,dec_enc,dec_enc,dec_enc,zdo]at h2
    exact h2
   ·exact h n ih a b c d e (by omega) ha.2
 exact zr9 hc hT fun a b c d e ha _ _ _ _ _=>h (m a) (key _) a b c d e rfl ha
end
def cjM (cs by':List Abs.zal)(a:Nat):Nat→List Abs.zal
 |0=>[]
 |j+1=>cjM cs by' a j++(if j=a then by' else[cs.getD j zsL])
theorem zyc {cs by':List Abs.zal}{a:Nat}:∀j,j≤a→j≤cs.length→cjM cs by' a j=cs.take j
 |0,_,_=>rfl
 |j+1,h1,h2=>by
  rw[cjM,zyc j (by omega) (by omega),if_neg (by omega),List.take_succ_eq_append_getElem (by omega),List.getD_eq_getElem?_getD,List.getElem?_eq_getElem (by omega)];rfl
theorem zyb {cs by':List Abs.zal}{a:Nat}(ha:a<cs.length):∀r,a+1+r≤cs.length→cjM cs by' a (a+1+r)=cs.take a++by'++(cs.drop (a+1)).take r
 |0,_=>by rw[Nat.add_zero,cjM,zyc a (Nat.le_refl _) (by omega),if_pos rfl,List.take_zero,List.append_nil]
 |r+1,h=>by
  rw[show a+1+(r+1)=(a+1+r)+1 by omega,cjM,zyb ha r (by omega),if_neg (by omega),List.take_succ_eq_append_getElem (by rw[List.length_drop];omega),List.getD_eq_getElem?_getD,List.getElem?_eq_getElem (by omega),List.append_assoc,List.append_assoc,List.append_assoc,List.getElem_drop]
  rfl
theorem zuC {cs by':List Abs.zal}{a:Nat}(ha:a<cs.length):cjM cs by' a cs.length=cs.take a++by'++cs.drop (a+1):=by
 have h:=zyb (by':=by') ha (cs.length-(a+1)) (by omega)
 have hl:(cs.drop (a+1)).length≤cs.length-(a+1):=by rw[List.length_drop];exact Nat.le_refl _
 rw[show a+1+(cs.length-(a+1))=cs.length by omega,List.take_of_length_le hl]at h
 exact h
theorem zqv {cs by':List Abs.zal}{a:Nat}:∀j,(cjM cs by' a j).length≤j+by'.length
 |0=>by simp[cjM]
 |j+1=>by
  rw[cjM,List.length_append]
  have h:=@zqv cs by' a j
  by_cases hj:j=a
  ·rw[if_pos hj]
   subst hj
   have h2:∀j2,j2≤j→(cjM cs by' j j2).length≤j2:=by
    intro j2
    induction j2 with
    |zero=>intro _;simp[cjM]
    |succ j2 ih=>intro h3;rw[cjM,List.length_append,if_neg (by omega)];have:=ih (by omega);simp;omega
   have:=h2 j (Nat.le_refl _)
   omega
  ·rw[if_neg hj];simp;omega
mutual
theorem zep:∀b:Abs.Box,b.size=ziM b
 | .mk r cs=>by rw[Box.size,ziM,ziT cs,Nat.add_comm]
theorem zr4:∀c:Abs.zal,c.size=zke c
 | .mk k n f bs=>by rw[zal.size,zke,ziS bs,Nat.add_comm]
theorem ziS:∀bs:List Abs.Box,Box.sizes bs=zcg bs
 |[]=>by rw[Box.sizes,zcg]
 |b::bs=>by rw[Box.sizes,zcg,zep b,ziS bs]
theorem ziT:∀cs:List Abs.zal,zal.sizes cs=za4 cs
 |[]=>by rw[zal.sizes,za4]
 |c::cs=>by rw[zal.sizes,za4,zr4 c,ziT cs]
end
theorem zmG {α:Type}[Enc α]{es:Nat}(he:∀a:α,(enc a).cells.length=es):∀(l:List α) (k:Nat) (h:k<l.length),((zag (l.map enc)).drop (k*es)).take es=(enc l[k]).cells.map .fz
 |[],k,h=>by simp at h
 |x::l,0,_=>by
  have e:zag ((x::l).map enc)=(enc x).cells.map .fz++zag (l.map enc):=by unfold zag;rw[List.map_cons,List.flatMap_cons]
  have hl:((enc x).cells.map D.fz).length=es:=by rw[List.length_map,he]
  rw[Nat.zero_mul,List.drop_zero,e,←hl,List.take_left']
  ·rfl
  ·rfl
 |x::l,k+1,h=>by
  have e:zag ((x::l).map enc)=(enc x).cells.map .fz++zag (l.map enc):=by unfold zag;rw[List.map_cons,List.flatMap_cons]
  have hl:((enc x).cells.map D.fz).length=es:=by rw[List.length_map,he]
  rw[e,show(k+1)*es=((enc x).cells.map D.fz).length+k*es by rw[hl,Nat.add_mul,Nat.one_mul,Nat.add_comm],List.drop_append,List.drop_eq_nil_of_le (by omega),List.nil_append,Nat.add_sub_cancel_left,zmG he l k (by simpa using h)]
  rfl
structure ztW (b:Abs.Box)(p:List Int)(a:Int)(by':List Abs.zal)(rs:List Str):Prop where
 h0:0≤a
 hp:Pth b p a.toNat
 ht:b.tot≤1000
 hs:b.size≤1000
 hb:by'.length≤1000
 hr:rs.length≤1000
def zoD (b:Abs.Box)(p:List Int)(a:Int)(by':List Abs.zal)(rs:List Str):Abs.Box:=zgC b p a.toNat by' rs
def zoe:Tv:=(.q 0 (.q 1 (.q 2 (.q 3 (.q 4 (.q 5 (.q 6 (.q 7 (.br [(8,(.q 9 (.br [(10,.leaf)])))])))))))))
def zj2:Tv:=(.q 0 (.q 1 (.q 2 (.q 3 (.q 4 (.q 5 (.q 6 (.br [(7,(.br [(8,.leaf)]))]))))))))
def zj3:Tv:=(.q 0 (.q 1 (.q 2 (.q 3 (.q 4 (.q 5 (.q 6 (.q 7 (.q 8 (.q 9 (.q 10 (.q 11 (.q 12 (.q 13 (.q 14 (.q 15 (.q 16 (.q 17 (.q 18 (.br [(19,.leaf)]))))))))))))))))))))
def zj4:Tv:=(.q 0 (.q 1 (.q 2 (.q 3 (.q 4 (.q 5 (.q 6 (.br [(7,.leaf)]))))))))
def V15:Tbl:=V14.add 59 (sp5 zoD ztW)
set_option maxHeartbeats 8000000 in
theorem ziE:zan Tryd.prog G0 V15:=by
 refine zwM Box.size zzv zF1 fun n hT b path a by' rs hn hp=>?_
 obtain⟨p0,p1,p2,ps,p3,p4⟩:=hp
 obtain⟨A,hA⟩:∃A:Nat,a=(A:Int):=⟨a.toNat,by omega⟩
 subst hA
 have hct:=@zal.tots_len b.conds
 have htt:=Box.tot_eq (b:=b)
 have kT:=Kp.mk hT
 clear hT
 have hci:zoD b path (A:Int) by' rs=zgC b path A by' rs:=rfl
 rw[hci]
 rw[Int.toNat_natCast]at p1
 cases p1 with
 |nil hA4 hk4=>
  have e:zgC b [] A by' rs= .mk (b.refs++rs) (b.conds.take A++by'++b.conds.drop (A+1)):=by rw[zgC]
  have hce:=zuC (by':=by') hA4
  rw[e,←hce]
  obtain⟨J,hJ⟩:∃J,cjM b.conds by' A=J:=⟨_,rfl⟩
  have hJ0:J 0=[]:=by rw[←hJ];rfl
  have hJs:∀j (h:j<b.conds.length),J (j+1)=J j++(if j=A then by' else[b.conds[j]]):=fun j h=>by
   rw[←hJ,cjM,List.getD_eq_getElem?_getD,List.getElem?_eq_getElem h];rfl
  have hJl:∀j,(J j).length≤j+by'.length:=fun j=>by rw[←hJ];exact zqv j
  rw[hJ]
  have kJ:=Kp.mk hJs
  have kL:=Kp.mk hJl
  clear hJs hJl hJ hce e
  refine zew (N:=98) hm kT.out 59000 (lsw [17,25,39,49] [57,69,1000009,1000013,1000015,1000016,1000017]) zzv Tryd.func59 rfl rfl (by simp) (by kernel_rfl) ?_
  repeat'(first|refine And.intro ?_ ?_|exact True.intro|refine rq fun _=>?_|refine rf fun _=>?_|simp only[go_sem,List.map_nil,List.length_nil,zad,zab,zae,zaf,zaa,Tryd.f59])
  refine zbM hm kT.out 59000 (lsw [17,25,39,49] [57,69,1000009,1000013,1000015,1000016,1000017]) (ι:=zd5 b.conds.length 5 fun _=>True)
   ⟨fun q=>⟨frL [(2,.fz (.i .i64 A)),(3,.fz (.sl (by'.map enc))),(5,.ptr (59005,0) 0),(10,.ptr (59010,1) 0),(11,.ptr (59011,3) 0),(29,.fz (.i .i64 b.conds.length)),(30,.fz (.i .i64 q.i))],
    hpL [((59011,3),some ⟨[.ow (59025,4) 1 (b.refs.map enc++rs.map enc),.ow (59049,q.g) 7 ((J q.i).map enc)],true,false⟩),((59025,4),some tok),((59010,1),some ⟨[.full [],.full []],true,false⟩),((59005,0),some ⟨[.fz (.sl (b.refs.map enc)),.fz (.sl (b.conds.map enc))],true,false⟩),((59049,q.g),some tok)],q.m⟩,fun q=>b.conds.length-q.i⟩
   ⟨0,5,6,by omega,by omega,by omega,trivial⟩ (by kernel_rfl) ?_ ?_
  ·refine zaO [] [(59049,5)] [] ?_ ?_ ?_ ?_ ?_<;>(try simp only[go_sem,hJ0])
   all_goals repeat'(first|refine And.intro ?_ ?_|omega|rfl)
  rintro⟨j,g,m,hj,hg,hm1,_⟩
  try simp only at hj hg hm1
  rcases Nat.lt_or_ge j b.conds.length with h1|h1
  rotate_left
  ·obtain rfl:j=b.conds.length:=by omega
   repeat'(first|refine And.intro ?_ ?_|exact True.intro|refine rq fun _=>?_|refine rf fun _=>?_|simp only[go_sem,Nat.lt_irrefl,zad,zab,zae,zaf,zaa,Tryd.f59])
   all_goals
    simp only[go_sem,List.map_append]
    all_goals first|done|rfl|omega
  have e1:=kJ.out j h1
  have e2:=kL.out j
  by_cases hjA:j=A
  ·have hjt:((j:Int)=(A:Int))=True:=eq_true (by omega)
   rw[if_pos hjA]at e1
   repeat'(first|refine And.intro ?_ ?_|exact True.intro|refine rq fun _=>?_|refine rf fun _=>?_|simp only[go_sem,h1,hjt,zad,zab,zae,zaf,zaa,Tryd.f59])
   all_goals
    refine⟨⟨j+1,m+1,m+2,by omega,by omega,by omega,trivial⟩,by simp only;omega,?_⟩
    refine zaO [((59049,m+1),(59039,m))] [] [] ?_ ?_ ?_ ?_ ?_<;>(try simp only[go_sem,zt3,zmd,vL,e1,List.map_append])
    all_goals repeat'(first|refine And.intro ?_ ?_|omega|rfl)
  ·have hjt:((j:Int)=(A:Int))=False:=eq_false (by omega)
   rw[if_neg hjA]at e1
   obtain⟨c,hc⟩:∃c,b.conds[j]=c:=⟨_,rfl⟩
   rw[hc]at e1
   repeat'(first|refine zay (id:=9) hm kT.out 59000 (lsw [17,25,39,49] [57,69,1000009,1000013,1000015,1000016,1000017]) zoe (by kernel_rfl) (by kernel_rfl) ?_|refine And.intro ?_ ?_|exact True.intro|refine rq fun _=>?_|refine rf fun _=>?_|simp only[go_sem,h1,hjt,hc,zoe,zad,zab,zae,zaf,zaa,Tryd.f59])
   all_goals
    refine⟨⟨j+1,m,m+1,by omega,by omega,by omega,trivial⟩,by simp only;omega,?_⟩
    refine zah ?_ ?_ ?_<;>(try simp only[go_sem,e1,List.map_append])
    all_goals first|done|rfl|omega
 |@step _ i k p _ hi h4 hk hq=>
  obtain⟨c,hc⟩:∃c,b.conds[i]=c:=⟨_,rfl⟩
  have e:=zhg (p:=p) (at':=A) (cs:=by') (rs:=rs) hi hk
  have hxt:=(zjY hi hk).1
  have hsz:(b.conds[i].boxes[k]).size<n:=by
   have h1:=Box.size_sub (List.getElem_mem hi)
   have h2:=zal.size_sub (List.getElem_mem hk)
   omega
  have hxT:=Box.tot_eq (b:=b.conds[i].boxes[k])
  have hbT:b.conds[i].boxes.length≤1000:=by
   have h1:=Box.size_sub (List.getElem_mem hi)
   have h2:=zfv b.conds[i]
   omega
  have hp0:((p.length:Int)+1+1=0)=False:=eq_false (by omega)
  simp only[hc]at hk hq e hxt hsz hxT hbT
  obtain⟨x,hx⟩:∃x,c.boxes[k]=x:=⟨_,rfl⟩
  rw[hx]at hq e hxt hsz hxT
  rw[e]
  have hpre:x.size<n∧ztW x p (A:Int) by' rs:=⟨hsz,p0,by rw[Int.toNat_natCast];exact hq,by omega,by omega,p3,p4⟩
  have hxci:zoD x p (A:Int) by' rs=zgC x p A by' rs:=rfl
  obtain⟨y,hy⟩:∃y,zgC x p A by' rs=y:=⟨_,rfl⟩
  rw[hy]at hxci
  rw[hy]
  obtain⟨Q,hQ⟩:∃Q:D→zas→Nat→Prop,Q=(fun r _ _=>D.val r=some (.fz (enc (Box.mk b.refs (b.conds.set i (zmZ c k y)))))):=⟨_,rfl⟩
  rw[←hQ]
  have hb2:=zcb (es:=2) (fun a:Abs.Box=>Kc.len a) c.boxes
  have hbe2:c.boxes.isEmpty=false:=by
   cases hcb:c.boxes with
   |nil=>rw[hcb]at hk;simp at hk
   |cons _ _=>rfl
  have hfe2:=zcW (es:=2) (fun a:Abs.Box=>Kc.len a) (by decide) c.boxes
  rw[hbe2]at hfe2
  have hrq2:k*2+2≤(zag (c.boxes.map enc)).length∧(zag (c.boxes.map enc)).isEmpty=false:=⟨by omega,hfe2⟩
  have hq3:(2:Int)≤(p.length:Int)+1+1∧(p.length:Int)+1+1≤(p.length:Int)+1+1∧((2:Int)=(p.length:Int)+1+1∨((p.map enc).getD 0 FD.nilf).cells.length=1):=by
   refine⟨by omega,Int.le_refl _,?_⟩
   cases p with
   |nil=>exact .inl rfl
   |cons z p=>exact .inr rfl
  have hcut:zbo (FD.i .i64 (i:Int)::FD.i .i64 (k:Int)::p.map enc) 2 ((p.length:Int)+1+1)=p.map enc:=by
   unfold zbo
   rw[show((p.length:Int)+1+1).toNat=p.length+2 by omega]
   simp
   exact List.take_of_length_le (by simp)
  have hld:(List.take 2 (List.drop (k*2) (zag (c.boxes.map enc))))=[.fz (.sl (x.refs.map enc)),.fz (.sl (x.conds.map enc))]:=by
   rw[zmG (es:=2) (fun a:Abs.Box=>Kc.len a) c.boxes k hk,hx,zaQ];rfl
  have hb7:=zcb (es:=7) (fun a:Abs.zal=>Kc.len a) b.conds
  have hbe7:b.conds.isEmpty=false:=by
   cases hcb:b.conds with
   |nil=>rw[hcb]at hi;simp at hi
   |cons _ _=>rfl
  have hfe7:=zcW (es:=7) (fun a:Abs.zal=>Kc.len a) (by decide) b.conds
  rw[hbe7]at hfe7
  have hrq7:i*7+7≤(zag (b.conds.map enc)).length∧(zag (b.conds.map enc)).isEmpty=false:=⟨by omega,hfe7⟩
  refine zew (N:=98) hm kT.out 59000 (lsw [17,25,39,49] [57,69,1000009,1000013,1000015,1000016,1000017]) zzv Tryd.func59 rfl rfl (by simp) (by kernel_rfl) ?_
  repeat'(first|refine zaH.i ⟨hrq2.2,hrq2.1⟩ fun _=>?_|refine zaH.i hq3 fun _=>?_|refine zaH.i hrq2 fun _=>?_|refine zaH.i hpre fun _=>?_|refine zay (id:=13) hm kT.out 59000 (lsw [17,25,39,49] [57,69,1000009,1000013,1000015,1000016,1000017]) zj2 (by kernel_rfl) (by kernel_rfl) ?_|refine zay (id:=15) hm kT.out 59000 (lsw [17,25,39,49] [57,69,1000009,1000013,1000015,1000016,1000017]) zj3 (by kernel_rfl) (by kernel_rfl) ?_|refine And.intro ?_ ?_|exact True.intro|refine rq fun _=>?_|refine rf fun _=>?_|simp only[go_sem,hi,hc,hk,hx,hxci,hp0,hcut,hld,zj2,zj3,List.map_cons,List.length_cons,List.length_map,zad,zab,zae,zaf,zaa,Tryd.f59])
  have hw2:=zdj (es:=2) (fun a:Abs.Box=>Kc.len a) y c.boxes k hk
  rw[show(enc y).cells.map D.fz=[.fz (.sl (y.refs.map enc)),.fz (.sl (y.conds.map enc))] by rw[zaQ];rfl]at hw2
  have hsb:zmZ c k y= .mk c.kind c.name c.form (c.boxes.set k y):=rfl
  rw[hsb]at hQ
  obtain⟨Y,hY⟩:∃Y,c.boxes.set k y=Y:=⟨_,rfl⟩
  have hYl:Y.length=c.boxes.length:=by rw[←hY,List.length_set]
  rw[hY]at hw2 hQ
  obtain⟨C2,hC2⟩:∃C2,zag (Y.map enc)=C2:=⟨_,rfl⟩
  have hz2:C2=zag (Y.map enc):=hC2.symm
  rw[hC2]at hw2
  simp only[go_sem]at hw2
  have hw7:=zdj (es:=7) (fun a:Abs.zal=>Kc.len a) (zal.mk c.kind c.name c.form Y) b.conds i hi
  rw[show(enc (zal.mk c.kind c.name c.form Y)).cells.map D.fz=[.fz (.i .i64 c.kind),.fz (.s c.name.l),.fz (.i .i64 c.form.kind),.fz (.s c.form.name.l),.fz (.sl (c.form.words.map enc)),.fz (.sl (c.form.subs.map enc)),.fz (.sl (Y.map enc))] by rw[zcQ];rfl]at hw7
  obtain⟨Z,hZ⟩:∃Z,b.conds.set i (zal.mk c.kind c.name c.form Y)=Z:=⟨_,rfl⟩
  have hZl:Z.length=b.conds.length:=by rw[←hZ,List.length_set]
  rw[hZ]at hw7 hQ
  obtain⟨C7,hC7⟩:∃C7,zag (Z.map enc)=C7:=⟨_,rfl⟩
  have hz7:C7=zag (Z.map enc):=hC7.symm
  rw[hC7]at hw7
  simp only[go_sem]at hw7
  refine zbx (zaO (l:=[(1,.fz (.sl (FD.i .i64 (i:Int)::FD.i .i64 (k:Int)::p.map enc))),(10,.ptr (59010,1) 0),(11,.ptr (59011,3) 0),(13,.ptr (59013,5) 0)])
   (hl:=[((59013,5),some ⟨[.fz (.i .i64 c.kind),.fz (.s c.name.l),.fz (.i .i64 c.form.kind),.fz (.s c.form.name.l),.fz (.sl (c.form.words.map enc)),.fz (.sl (c.form.subs.map enc)),.fz (.sl (Y.map enc))],true,false⟩),((59011,3),some ⟨[.ow (59017,2) 1 (b.refs.map enc),.arr (59057,4) 7 0 b.conds.length],true,false⟩),((59057,4),some ⟨zag (b.conds.map enc),false,false⟩),((59017,2),some tok),((59010,1),some ⟨[.full [],.full []],true,false⟩)]) (m:=8) [] [] [((59069,6),Y.map enc)] ?_ ?_ ?_ ?_ ?_) ?_
  ·simp only[go_sem]
  ·simp only[go_sem,hw2,hz2,hfe2]
   all_goals first|done|rfl|omega
  ·simp only[go_sem,hfe7]
   all_goals repeat'(first|refine And.intro ?_ ?_|omega|rfl)
  ·simp only[go_sem]
   all_goals first|done|rfl|omega
  ·simp only[go_sem,hYl]
   all_goals repeat'(first|refine And.intro ?_ ?_|omega|rfl)
  repeat'(first|refine zaH.i hrq7 fun _=>?_|refine zaH.i ⟨rfl,hrq7.1⟩ fun _=>?_|refine zaH.i ⟨hrq7.1,rfl⟩ fun _=>?_|refine zay (id:=16) hm kT.out 59000 (lsw [17,25,39,49] [57,69,1000009,1000013,1000015,1000016,1000017]) zj4 (by kernel_rfl) (by kernel_rfl) ?_|refine And.intro ?_ ?_|exact True.intro|refine rq fun _=>?_|refine rf fun _=>?_|simp only[go_sem,hi,hc,zj4,zad,zab,zae,zaf,zaa,Tryd.f59])
  refine zbx (zaO (l:=[(10,.ptr (59010,1) 0),(11,.ptr (59011,3) 0)])
   (hl:=[((59011,3),some ⟨[.ow (59017,2) 1 (b.refs.map enc),.fz (.sl (Z.map enc))],true,false⟩),((59017,2),some tok),((59010,1),some ⟨[.full [],.full []],true,false⟩)]) (m:=8) [] [] [((59057,4),Z.map enc)] ?_ ?_ ?_ ?_ ?_) ?_
  ·simp only[go_sem]
  ·simp only[go_sem,hw7,hz7]
   all_goals first|done|rfl|omega
  ·simp only[go_sem,hZl]
   all_goals repeat'(first|refine And.intro ?_ ?_|omega|rfl)
  ·simp only[go_sem]
   all_goals first|done|rfl|omega
  ·simp only[go_sem,hZl]
   all_goals repeat'(first|refine And.intro ?_ ?_|omega|rfl)
  refine zi9 hm kT.out 59000 (lsw [17,25,39,49] [57,69,1000009,1000013,1000015,1000016]) (by kernel_rfl) ?_
  repeat'(first|refine And.intro ?_ ?_|exact True.intro|refine rq fun _=>?_|refine rf fun _=>?_|simp only[go_sem,zad,zab,zae,zaf,zaa,Tryd.f59])
  all_goals
   rw[hQ]
   simp only[go_sem]
   all_goals first|done|rfl|omega
end Go.Proofs.YtalbdmcklgglbaaDoor

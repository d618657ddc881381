import Derived.Test.YtalbdmcklgglbaaDoorY18
import Derived.Test.YtalbdmcklgglbaaDoorY14
set_option linter.unusedSimpArgs false
namespace Go.Proofs.YtalbdmcklgglbaaDoor
open Go Go.Abs Go.Proofs
def okS (b v:Abs.Box):Prop:=(∃d,zfU b d 200)∧v.refs.length+v.conds.length+b.tot≤1000
theorem zli {f:Abs.zac}(h:zdH f):f.subs=[]:=by
 rcases h with⟨_,_,rfl,_⟩|⟨_,_,rfl,_⟩<;>rfl
theorem zoG {x:Abs.zal}{r:List Str}(h:zbb x r=0):x.form.subs=[]∧x.form.words.length≤1000000:=by
 have hs:=zbj h
 by_cases h4:4<x.kind
 ·by_cases h5:x.kind=5
  ·unfold zbb at h
   have hb:zax x.kind=0:=by rw[h5];rfl
   rw[if_neg (by omega),if_neg (fun e=>e hs.2.2.1)]at h
   by_cases h3:(x.kind≠5∧x.name≠⟨[]⟩∨0<zax x.kind∧zbJ x.form=false)
   ·rw[if_pos h3]at h;exact absurd h (by decide)
   rw[if_neg h3,if_neg (by omega)]at h
   by_cases h6:(zaL false x.form).code=0
   ·rw[if_neg (fun e=>e h6)]at h
    by_cases h7:(x.kind=1∧x.form.kind≠2∧x.form.kind≠3∨x.kind=5∧(x.form.kind≠2∨x.form.words.length≠0))
    ·rw[if_pos h7]at h;exact absurd h (by decide)
    ·have hk:x.form.kind=2:=Decidable.not_not.1 fun e=>h7 (.inr ⟨h5,.inl e⟩)
     have hw:x.form.words.length=0:=Decidable.not_not.1 fun e=>h7 (.inr ⟨h5,.inr e⟩)
     exact⟨zli (zmO h6 (.inl hk)),by omega⟩
   ·rw[if_pos h6]at h;exact absurd h h6
  ·unfold zbb at h
   have h6:x.kind=6:=by omega
   have hb:zax x.kind=1:=by rw[h6];rfl
   rw[if_neg (by omega),if_neg (fun e=>e hs.2.2.1)]at h
   by_cases h3:(x.kind≠5∧x.name≠⟨[]⟩∨0<zax x.kind∧zbJ x.form=false)
   ·rw[if_pos h3]at h;exact absurd h (by decide)
   have hn:zbJ x.form=true:=by
    cases hf:zbJ x.form with
    |true=>rfl
    |false=>exact absurd (.inr ⟨by omega,hf⟩) h3
   unfold zbJ at hn
   simp only[Bool.and_eq_true,decide_eq_true_eq]at hn
   exact⟨List.eq_nil_of_length_eq_zero hn.2,by omega⟩
 ·obtain⟨_,_,_,_,h5,h6⟩:=zgM h h4
  by_cases h1:x.kind=1
  ·exact⟨zli (h5 h1),by
    have:=zmt (hs.2.2.2 h1)
    have h9:=zfZ (hs.2.2.2 h1)
    cases hx:x.form with
    |mk k n w s=>
     rw[hx,zac.fit]at h9
     simp only[Bool.and_eq_true,decide_eq_true_eq]at h9
     show w.length≤1000000
     omega⟩
  ·rw[h6 h1];exact⟨rfl,by simp[zac.words]⟩
theorem zeK {b v:Abs.Box}{c:Abs.zal}(h:okS b v)(hc:c∈b.conds):∃d,zgQ b.refs c d:=by
 obtain⟨⟨d,h⟩,_⟩:=h
 have h:=(zcr.1 h).2.2.2
 refine⟨d,?_⟩
 generalize b.conds=cs at h hc
 induction cs with
 |nil=>simp at hc
 |cons x cs ih=>
  rw[zaU]at h
  rcases List.mem_cons.1 hc with rfl|hc
  ·exact h.1
  ·exact ih h.2 hc
theorem zmU {b v:Abs.Box}(h:okS b v):v.refs.length+v.conds.length+(b.refs.length+b.conds.length)≤1000:=by
 have h2:=h.2
 rw[Box.tot_eq]at h2
 have:=@zal.tots_len b.conds
 omega
theorem zjG {b v:Abs.Box}{c:Abs.zal}(h:okS b v)(hc:c∈b.conds):okW (zaK v b) c:=by
 obtain⟨d,hl⟩:=zeK h hc
 have hlc:=zbI.1 hl
 have hsz:=zmU h
 refine⟨by rw[zaX,List.length_append];omega,by rw[zaY,List.length_append];omega,fun h6=>?_⟩
 have hsh:=zbj hlc.1
 obtain⟨p,hb⟩:∃p,c.boxes=[p]:=zED (by rw[hsh.2.2.1,h6];rfl)
 have hp:=hlc.2
 rw[hb,if_pos h6,zbd,zbd,and_true,zcr]at hp
 rw[hb]
 have e:[p].getD 0 noB=p:=rfl
 rw[e]
 have htot:p.refs.length+p.conds.length≤1000:=by
  have h2:=h.2
  obtain⟨i,hi,rfl⟩:=List.getElem_of_mem hc
  rw[Box.tot_eq]at h2
  have h3:=zal.tots_get hi
  rw[zal.tot_eq,hb,Box.tots,Box.tots,Box.tot_eq]at h3
  have:=@zal.tots_len p.conds
  omega
 have h2:p.refs.length≤2:=by have:=hp.2.1;omega
 refine⟨by simp,⟨by rw[zaX,List.length_append];omega,by rw[zaY,List.length_append];omega,by omega,by omega,fun x hx=>?_⟩,?_⟩
 ·obtain⟨d2,hx2⟩:=zeK (b:=p) (v:=noB) ⟨⟨d+1,zcr.2 ⟨hp.1,by omega,hp.2.2⟩⟩,by
   have h2:=h.2
   obtain⟨i,hi,rfl⟩:=List.getElem_of_mem hc
   rw[Box.tot_eq]at h2
   have h3:=zal.tots_get hi
   rw[zal.tot_eq,hb,Box.tots,Box.tots]at h3
   rw[zcf,zce,List.length_nil,List.length_nil]
   omega⟩ hx
  exact zoG (zbI.1 hx2).1
 ·have hR:(zaK v b).refs.length≤1000:=by rw[zaX,List.length_append];omega
  have h3:p.refs.length=0∨p.refs.length=1∨p.refs.length=2:=by omega
  have h4:(zaK v b).refs.length*(zaK v b).refs.length≤1000*1000:=Nat.mul_le_mul hR hR
  rcases h3 with h3|h3|h3<;>rw[h3]
  ·simp
  ·rw[Nat.pow_one];omega
  ·rw[Nat.pow_two];omega
theorem zhG {b v:Abs.Box}{i k:Nat}(h:okS b v)(hi:i<b.conds.length)(h4:¬(b.conds[i].kind=5∨b.conds[i].kind=6))(hk:k<b.conds[i].boxes.length):
  okS b.conds[i].boxes[k] (zbH (zaK v b) b.conds[i] k)∧(b.conds[i].kind=3→(k:Int)=1→0<b.conds[i].boxes.length∧(zaK v b).refs.length+(b.conds[i].boxes.getD 0 noB).refs.length≤1000000∧(zaK v b).conds.length+(b.conds[i].boxes.getD 0 noB).conds.length≤1000000)∧
  (b.conds[i].boxes[k]).size<b.size:=by
 obtain⟨d,hl⟩:=zeK h (List.getElem_mem hi)
 have hlc:=zbI.1 hl
 have hb:=hlc.2
 rw[if_neg (fun e=>h4 (.inr e))]at hb
 have hx:=zc9 hb (List.getElem_mem hk)
 obtain⟨s1,s2⟩:=zjY hi hk
 have h2:=h.2
 rw[Box.tot_eq]at h2
 have hcl:=@zal.tots_len b.conds
 have t1:=zal.tots_get hi
 rw[zal.tot_eq]at t1
 have t2:=Box.tots_get hk
 have hconds:b.conds.length+Box.tots b.conds[i].boxes≤zal.tots b.conds:=by
  have:∀(cs:List Abs.zal) (i:Nat) (hi:i<cs.length),cs.length+Box.tots cs[i].boxes≤zal.tots cs:=by
   intro cs
   induction cs with
   |nil=>intro i hi;simp at hi
   |cons c cs ih=>
    intro i hi
    rw[zal.tots,zal.tot_eq,List.length_cons]
    cases i with
    |zero=>have:=@zal.tots_len cs;simp only[List.getElem_cons_zero];omega
    |succ i=>have:=ih i (by simpa using hi);simp only[List.getElem_cons_succ];omega
  exact this b.conds i hi
 refine⟨⟨⟨d+1,hx⟩,?_⟩,fun h3 hk1=>?_,by have a1:=Box.size_sub (List.getElem_mem hi);have a2:=zal.size_sub (List.getElem_mem hk);omega⟩
 ·unfold zbH
  by_cases hc:b.conds[i].kind=3∧(k:Int)=1
  ·have hk1:k=1:=by omega
   subst hk1
   have h3:=Box.tots_two hk
   have e0:b.conds[i].boxes.getD 0 noB=b.conds[i].boxes[0]:=by rw[List.getD_eq_getElem?_getD,List.getElem?_eq_getElem (by omega)];rfl
   rw[if_pos hc,zaX,zaY,zaX,zaY,e0]
   simp only[List.length_append]
   have t3:=Box.tot_eq (b:=b.conds[i].boxes[0])
   have:=@zal.tots_len (b.conds[i].boxes[0]).conds
   omega
  ·rw[if_neg hc,zaX,zaY,List.length_append,List.length_append]
   omega
 ·have hk1:k=1:=by omega
  subst hk1
  have h3:=Box.tots_two hk
  have e0:b.conds[i].boxes.getD 0 noB=b.conds[i].boxes[0]:=by rw[List.getD_eq_getElem?_getD,List.getElem?_eq_getElem (by omega)];rfl
  have t3:=Box.tot_eq (b:=b.conds[i].boxes[0])
  have:=@zal.tots_len (b.conds[i].boxes[0]).conds
  rw[zaX,zaY,e0,List.length_append,List.length_append]
  omega
def zu6 (b v:Abs.Box):List Abs.Box×List Abs.Box×Bool:=match zfa b v with
 |none=>([],[],false)
 |some l=>(l.map Prod.fst,l.map Prod.snd,true)
theorem zhV {b v:Abs.Box}(h:zfa b v=none):zu6 b v=([],[],false):=by unfold zu6;rw[h]
theorem zfG {b v:Abs.Box}{l:List (Abs.Box×Abs.Box)}(h:zfa b v=some l):zu6 b v=(l.map Prod.fst,l.map Prod.snd,true):=by unfold zu6;rw[h]
def zsG (b v:Abs.Box)(i:Nat):Option (List (Abs.Box×Abs.Box)):=zdZ b.refs (b.conds.take i) (b.conds.drop i) (zaK v b)
theorem zkw (b v:Abs.Box):zfa b v=zsG b v 0:=by rw[zwH];rfl
theorem zkv {b v:Abs.Box}{i:Nat}(h:i<b.conds.length):zsG b v i=match zgH b.conds[i] (zaK v b)with
  |some l=>some (l.map fun x=>(.mk (b.refs++x.refs) (b.conds.take i++x.conds++b.conds.drop (i+1)),x.top))
  |none=>zsG b v (i+1):=by
 unfold zsG
 rw[List.drop_eq_getElem_cons h,zdZ,List.take_succ_eq_append_getElem h]
 cases zgH b.conds[i] (zaK v b)<;>rfl
theorem zjg (b v:Abs.Box):zsG b v b.conds.length=none:=by unfold zsG;rw[List.drop_length,zdZ]
def zs0 (c:Abs.zal)(v:Abs.Box)(k:Nat):Option (List (List Abs.Box×Abs.Box)):=zdY c (c.boxes.take k) (c.boxes.drop k) v
theorem zku (c:Abs.zal)(v:Abs.Box):zdY c [] c.boxes v=zs0 c v 0:=rfl
theorem zkt {c:Abs.zal}{v:Abs.Box}{k:Nat}(h:k<c.boxes.length):zs0 c v k=match zfa c.boxes[k] (zbH v c k)with
  |some l=>some (l.map fun x=>(c.boxes.set k x.1,x.2))
  |none=>zs0 c v (k+1):=by
 have hl:(c.boxes.take k).length=k:=by rw[List.length_take];omega
 have hs:∀y,c.boxes.take k++y::c.boxes.drop (k+1)=c.boxes.set k y:=fun y=>by rw[List.set_eq_take_append_cons_drop,if_pos h]
 unfold zs0
 rw[List.drop_eq_getElem_cons h,zdY,List.take_succ_eq_append_getElem h,hl]
 simp only[hs]
 cases zfa c.boxes[k] (zbH v c k)<;>rfl
theorem zjf (c:Abs.zal)(v:Abs.Box):zs0 c v c.boxes.length=none:=by unfold zs0;rw[List.drop_length,zdY]
theorem zoi {v:Abs.Box}{c:Abs.zal}(h:okW v c):(zcj v c).length≤1000000:=by
 have hr:=h.vr
 unfold zcj
 split
 ·unfold zpr
  rw[List.length_map]
  exact Nat.le_trans (List.length_filter_le _ _) (by omega)
 split
 ·rename_i h5 h6
  obtain⟨_,_,h3⟩:=h.six h6
  unfold zhJ
  split
  ·simp
  ·unfold zdC
   split
   ·rw[List.length_map]
    exact Nat.le_trans (List.length_filter_le _ _) (by rw[zm9];exact h3)
   ·simp
 ·simp
theorem zpK {v:Abs.Box}{c:Abs.zal}(h:okW v c){w:Chg}(hw:w∈zcj v c):w.conds.length≤1000∧w.refs.length≤1000:=by
 unfold zcj at hw
 split at hw
 ·obtain⟨y,_,rfl⟩:=List.mem_map.1 hw
  exact⟨by simp[zjM],by simp[zjM]⟩
 split at hw
 ·rename_i h5 h6
  obtain⟨_,h2,_⟩:=h.six h6
  unfold zhJ at hw
  split at hw
  ·rw[List.mem_singleton]at hw
   subst hw
   exact⟨by simp[zu9],by simp[zu9]⟩
  ·unfold zdC at hw
   split at hw
   ·obtain⟨t,_,rfl⟩:=List.mem_map.1 hw
    have:=h2.pr
    refine⟨?_,this⟩
    show(List.zipWith zbc _ t).length≤1000
    rw[List.length_zipWith];omega
   ·simp at hw
 ·simp at hw
theorem znZ:∀(n:Nat) (b v:Abs.Box) (l:List (Abs.Box×Abs.Box)),b.size≤n→okS b v→zfa b v=some l→l.length≤1000000:=by
 intro n
 induction n with
 |zero=>intro b v l hn;have:=zdh b;omega
 |succ n ih=>
  intro b v l hn h0 e
  rw[zkw]at e
  have key:∀n i,b.conds.length-i≤n→i≤b.conds.length→zsG b v i=some l→l.length≤1000000:=by
   intro n2
   induction n2 with
   |zero=>
    intro i h1 h2 h3
    obtain rfl:i=b.conds.length:=by omega
    rw[zjg]at h3
    cases h3
   |succ n2 ih2=>
    intro i h1 h2 h3
    rcases Nat.lt_or_ge i b.conds.length with h4|h4
    ·rw[zkv h4]at h3
     cases hc:zgH b.conds[i] (zaK v b)with
     |none=>rw[hc]at h3;exact ih2 (i+1) (by omega) (by omega) h3
     |some l2=>
      rw[hc]at h3
      have h3:=Option.some.inj h3
      rw[←h3,List.length_map]
      rw[zm0]at hc
      by_cases h5:b.conds[i].kind=5∨b.conds[i].kind=6
      ·rw[if_pos h5]at hc
       rw[←Option.some.inj hc]
       exact zoi (zjG h0 (List.getElem_mem _))
      ·rw[if_neg h5]at hc
       obtain⟨l3,h6,h7⟩:=Option.map_eq_some_iff.1 hc
       rw[←h7,List.length_map]
       rw[zku]at h6
       have key2:∀n3 k,b.conds[i].boxes.length-k≤n3→k≤b.conds[i].boxes.length→zs0 b.conds[i] (zaK v b) k=some l3→l3.length≤1000000:=by
        intro n3
        induction n3 with
        |zero=>
         intro k g1 g2 g3
         obtain rfl:k=b.conds[i].boxes.length:=by omega
         rw[zjf]at g3
         cases g3
        |succ n3 ih3=>
         intro k g1 g2 g3
         rcases Nat.lt_or_ge k b.conds[i].boxes.length with g4|g4
         ·rw[zkt g4]at g3
          obtain⟨s1,_,s3⟩:=zhG h0 h4 h5 g4
          cases hb:zfa b.conds[i].boxes[k] (zbH (zaK v b) b.conds[i] k)with
          |none=>rw[hb]at g3;exact ih3 (k+1) (by omega) (by omega) g3
          |some l4=>
           rw[hb]at g3
           rw[←Option.some.inj g3,List.length_map]
           exact ih _ _ l4 (by omega) s1 hb
         ·obtain rfl:k=b.conds[i].boxes.length:=by omega
          rw[zjf]at g3
          cases g3
       exact key2 _ 0 (Nat.le_refl _) (Nat.zero_le _) h6
    ·obtain rfl:i=b.conds.length:=by omega
     rw[zjg]at h3
     cases h3
  exact key _ 0 (Nat.le_refl _) (Nat.zero_le _) e
end Go.Proofs.YtalbdmcklgglbaaDoor

import Derived.Test.YtkkffhphodngkaaDoorTR
set_option linter.unusedSimpArgs false
namespace Go.Abs
open Go
def zaR (s:Nat):Nat→Nat→List Int
 |0,_=>[]
 |k+1,i=>zaR s k (i / s)++[((i % s:Nat):Int)]
theorem zaS (s:Nat):∀k i,(zaR s k i).length=k
 |0,_=>rfl
 |k+1,i=>by rw[zaR,List.length_append,zaS s k];rfl
def zhn (vars:List Str)(vals:List Int):List zaF:=List.zipWith zaF.mk vars vals
def zcf (m:zal)(f:zaf)(vars:List Str)(i:Nat):Bool:=zbY m f (zhn vars (zaR m.size.toNat vars.length i))
def zcJ (m:zal)(f:zaf)(vars:List Str):List Bool:=(List.range (m.size.toNat^vars.length)).map (zcf m f vars)
theorem zc0 (m:zal)(f:zaf)(vars:List Str):(zcJ m f vars).length=m.size.toNat^vars.length:=by unfold zcJ;simp
theorem zcZ {m:zal}{f:zaf}{vars:List Str}{i:Nat}(h:i<m.size.toNat^vars.length):(zcJ m f vars).getD i false=zcf m f vars i:=by
 unfold zcJ
 rw[List.getD_eq_getElem?_getD,List.getElem?_map,List.getElem?_range h]
 rfl
theorem zls {s:Nat}{vars:List Str}{nm:Str}{a d:Nat}(hd:d<s):zhn (vars++[nm]) (zaR s (vars++[nm]).length (a*s+d))=zhn vars (zaR s vars.length a)++[⟨nm,d⟩]:=by
 have hs:0<s:=by omega
 have e1:(a*s+d) / s=a:=by rw[Nat.mul_comm,Nat.mul_add_div hs,Nat.div_eq_of_lt hd,Nat.add_zero]
 have e2:(a*s+d) % s=d:=by rw[Nat.mul_comm,Nat.mul_add_mod,Nat.mod_eq_of_lt hd]
 rw[List.length_append,List.length_cons,List.length_nil,Nat.zero_add,zaR,e1,e2]
 unfold zhn
 rw[List.zipWith_append (by rw[zaS])]
 rfl
theorem zlN {m:zal}{p:Int→Bool}:(zee m).all p=(List.range m.size.toNat).all fun d=>p (d:Int):=by
 unfold zee;rw[List.all_map];rfl
theorem zlO {m:zal}{p:Int→Bool}:(zee m).any p=(List.range m.size.toNat).any fun d=>p (d:Int):=by
 unfold zee;rw[List.any_map];rfl
theorem zxr (m:zal)(nm:Str)(ws:List Str)(s:List zaf)(vars:List Str)(i:Nat):zcf m (.mk 1 nm ws s) vars i=true:=by
 unfold zcf;rw[zbY,if_pos rfl]
theorem zxm {m:zal}{nm:Str}{ws:List Str}{g:zaf}{vars:List Str}{i:Nat}:zcf m (.mk 8 nm ws [g]) vars i=(List.range m.size.toNat).all fun d=>zcf m g (vars++[nm]) (i*m.size.toNat+d):=by
 unfold zcf
 rw[zbY]
 simp only[show¬(8:Int)=1 by decide,show¬(8:Int)=2 by decide,show¬(8:Int)=3 by decide,show¬(8:Int)=4 by decide,show¬(8:Int)=5 by decide,show¬(8:Int)=6 by decide,show¬(8:Int)=7 by decide,if_false,if_true]
 rw[zlN]
 refine all_congr' fun d hd=>?_
 rw[zbC,zls (List.mem_range.1 hd)]
 rfl
where
 all_congr' {p q:Nat→Bool} {l:List Nat} (h:∀d∈l,p d=q d):l.all p=l.all q:=by
  induction l with
  |nil=>rfl
  |cons a l ih=>rw[List.all_cons,List.all_cons,h a (by simp),ih fun d hd=>h d (by simp[hd])]
theorem zxo {m:zal}{nm:Str}{ws:List Str}{g:zaf}{vars:List Str}{i:Nat}:zcf m (.mk 9 nm ws [g]) vars i=(List.range m.size.toNat).any fun d=>zcf m g (vars++[nm]) (i*m.size.toNat+d):=by
 unfold zcf
 rw[zbY]
 simp only[show¬(9:Int)=1 by decide,show¬(9:Int)=2 by decide,show¬(9:Int)=3 by decide,show¬(9:Int)=4 by decide,show¬(9:Int)=5 by decide,show¬(9:Int)=6 by decide,show¬(9:Int)=7 by decide,show¬(9:Int)=8 by decide,if_false,if_true]
 rw[zlO]
 refine any_congr' fun d hd=>?_
 rw[zbC,zls (List.mem_range.1 hd)]
 rfl
where
 any_congr' {p q:Nat→Bool} {l:List Nat} (h:∀d∈l,p d=q d):l.any p=l.any q:=by
  induction l with
  |nil=>rfl
  |cons a l ih=>rw[List.any_cons,List.any_cons,h a (by simp),ih fun d hd=>h d (by simp[hd])]
theorem zxq {m:zal}{nm:Str}{ws:List Str}{g:zaf}{vars:List Str}{i:Nat}:zcf m (.mk 4 nm ws [g]) vars i= !zcf m g vars i:=by
 unfold zcf
 rw[zbY]
 simp only[show¬(4:Int)=1 by decide,show¬(4:Int)=2 by decide,show¬(4:Int)=3 by decide,if_false,if_true,zbC]
 rfl
theorem zxn {m:zal}{nm:Str}{ws:List Str}{g h:zaf}{vars:List Str}{i:Nat}:zcf m (.mk 5 nm ws [g,h]) vars i=(zcf m g vars i&&zcf m h vars i):=by
 unfold zcf
 rw[zbY]
 simp only[show¬(5:Int)=1 by decide,show¬(5:Int)=2 by decide,show¬(5:Int)=3 by decide,show¬(5:Int)=4 by decide,if_false,if_true,zbC]
 rfl
theorem zAA {m:zal}{nm:Str}{ws:List Str}{g h:zaf}{vars:List Str}{i:Nat}:zcf m (.mk 6 nm ws [g,h]) vars i=(zcf m g vars i||zcf m h vars i):=by
 unfold zcf
 rw[zbY]
 simp only[show¬(6:Int)=1 by decide,show¬(6:Int)=2 by decide,show¬(6:Int)=3 by decide,show¬(6:Int)=4 by decide,show¬(6:Int)=5 by decide,if_false,if_true,zbC]
 rfl
theorem zxp {m:zal}{nm:Str}{ws:List Str}{g h:zaf}{vars:List Str}{i:Nat}:zcf m (.mk 7 nm ws [g,h]) vars i=(!zcf m g vars i||zcf m h vars i):=by
 unfold zcf
 rw[zbY]
 simp only[show¬(7:Int)=1 by decide,show¬(7:Int)=2 by decide,show¬(7:Int)=3 by decide,show¬(7:Int)=4 by decide,show¬(7:Int)=5 by decide,show¬(7:Int)=6 by decide,if_false,if_true,zbC]
 rfl
def zaP (V:Nat→Bool)(n i:Nat):List Bool:=(List.range n).map fun j=>decide (j<i)&&V j
theorem zbz (V:Nat→Bool)(n i:Nat):(zaP V n i).length=n:=by unfold zaP;simp
theorem zbT (V:Nat→Bool)(n:Nat):zaP V n 0=List.replicate n false:=by
 unfold zaP
 rw[List.eq_replicate_iff]
 refine⟨by simp,fun b hb=>?_⟩
 obtain⟨j,_,rfl⟩:=List.mem_map.1 hb
 simp
theorem zcj (V:Nat→Bool)(n:Nat):zaP V n n=(List.range n).map V:=by
 unfold zaP
 refine List.map_congr_left fun j hj=>?_
 rw[decide_eq_true (List.mem_range.1 hj),Bool.true_and]
theorem zf5 {V:Nat→Bool}{n i j:Nat}(h:j<(zaP V n i).length):(zaP V n i)[j]=(decide (j<i)&&V j):=by simp[zaP]
theorem zck {V:Nat→Bool}{n i:Nat}(_h:i<n):(zaP V n i).set i (V i)=zaP V n (i+1):=by
 refine List.ext_getElem (by rw[List.length_set,zbz,zbz]) fun j h1 h2=>?_
 rw[List.getElem_set]
 by_cases e:i=j
 ·subst e;rw[if_pos rfl,zf5,decide_eq_true (by omega),Bool.true_and]
 ·rw[if_neg e,zf5,zf5]
  congr 1
  exact decide_eq_decide.2 (by omega)
def zeN (s i:Nat):Nat→Nat
 |0=>i
 |j+1=>zeN s i j / s
def zts (s i:Nat):Nat→List Int
 |0=>[]
 |j+1=>((zeN s i j % s:Nat):Int)::zts s i j
theorem zo5 (s i:Nat):∀j,(zts s i j).length=j
 |0=>rfl
 |j+1=>by rw[zts,List.length_cons,zo5 s i j]
theorem zon (s i:Nat):∀(j k:Nat),zaR s (k+j) i=zaR s k (zeN s i j)++zts s i j
 |0,k=>by rw[zts,List.append_nil];rfl
 |j+1,k=>by
  rw[show k+(j+1)=(k+1)+j by omega,zon s i j (k+1),zaR,zeN,zts,List.append_assoc]
  rfl
theorem zxB (s i n:Nat):zts s i n=zaR s n i:=by
 have:=zon s i n 0
 rw[Nat.zero_add]at this
 rw[this,zaR,List.nil_append]
def zfx (s i n j:Nat):List Int:=List.replicate (n-j) 0++zts s i j
theorem zgh {s i n j:Nat}(h:j≤n):(zfx s i n j).length=n:=by unfold zfx;rw[List.length_append,List.length_replicate,zo5];omega
theorem zeR (s i n:Nat):zfx s i n 0=List.replicate n 0:=by unfold zfx;rw[zts,List.append_nil,Nat.sub_zero]
theorem ze4 (s i n:Nat):zfx s i n n=zaR s n i:=by unfold zfx;rw[Nat.sub_self,zxB];rfl
theorem zxu {k:Nat}{v:Int}{l:List Int}:(List.replicate (k+1) (0:Int)++l).set k v=List.replicate k 0++v::l:=by
 rw[List.replicate_succ',List.append_assoc,List.set_append_right _ _ (by simp)]
 simp
theorem zgi {s i n j:Nat}(h:j<n):(zfx s i n j).set (n-1-j) ((zeN s i j % s:Nat):Int)=zfx s i n (j+1):=by
 unfold zfx
 rw[show n-j=(n-1-j)+1 by omega,zxu,zts,show n-(j+1)=n-1-j by omega]
theorem zdv {s:Nat}(hs:0<s):∀(n i:Nat),∀v∈zaR s n i,0≤v∧v<(s:Int)
 |0,_,v,h=>by simp[zaR]at h
 |n+1,i,v,h=>by
  rw[zaR,List.mem_append]at h
  rcases h with h|h
  ·exact zdv hs n _ v h
  ·have:v=((i % s:Nat):Int):=by simpa using h
   have:=Nat.mod_lt i hs
   omega
theorem zie (w:Str):∀a:List zaF,zcL a w=(a.reverse.find? fun c=>decide (c.name=w)).map (·.value)
 |[]=>rfl
 |c::l=>by
  have h1:=zid w [c] l
  rw[List.singleton_append]at h1
  rw[h1,zie w l,List.reverse_cons,List.find?_append]
  cases hf:l.reverse.find? fun c=>decide (c.name=w)with
  |some v=>rfl
  |none=>
   have:=zgC [] c w
   rw[List.nil_append]at this
   rw[this]
   by_cases e:c.name=w
   ·simp[e]
   ·simp[e,zcL]
def zbp (l:List zaF)(w:Str):Int:=((l.find? fun c=>decide (c.name=w)).map (·.value)).getD (-1)
theorem zp2 (w:Str):zbp [] w= -1:=rfl
theorem zfj {l:List zaF}{c:zaF}{w:Str}(hv:∀x∈l,0≤x.value):zbp (l++[c]) w=if zbp l w<0∧c.name=w then c.value else zbp l w:=by
 unfold zbp
 rw[List.find?_append]
 cases hf:l.find? fun c=>decide (c.name=w)with
 |some v=>
  have:=hv v (List.mem_of_find?_eq_some hf)
  rw[if_neg (by simp only[Option.map_some,Option.getD_some];omega)]
  rfl
 |none=>
  by_cases e:c.name=w
  ·rw[if_pos (by simp[e])];simp[e]
  ·rw[if_neg (by simp[e])];simp[e]
def zft (v:Int)(l:List zaF)(w:Str):Int:=if 0≤v then v else zbp l w
theorem zjy {v:Int}{l:List zaF}{c:zaF}{w:Str}(hv:∀x∈l,0≤x.value):zft v (l++[c]) w=if zft v l w<0∧c.name=w then c.value else zft v l w:=by
 unfold zft
 by_cases h:0≤v
 ·rw[if_pos h,if_pos h,if_neg (by omega)]
 ·rw[if_neg h,if_neg h,zfj hv]
theorem zfk {l:List zaF}{w:Str}{c:zaF}(h:(l.find? fun c=>decide (c.name=w))=some c):zbp l w=c.value:=by unfold zbp;rw[h];rfl
theorem zh8 {l:List zaF}{w:Str}(h:(l.find? fun c=>decide (c.name=w))=none):zbp l w= -1:=by unfold zbp;rw[h];rfl
theorem ztj {m:zal}{env:List zaF}{w:Str}(hv:∀x∈env,0≤x.value)(h:w∈env.map (·.name)∨(zct m w).isSome=true):zft (zbp env.reverse w) m.consts w=zbW m env w:=by
 unfold zbW
 rw[zie]
 cases hf:env.reverse.find? fun c=>decide (c.name=w)with
 |some c=>
  have h1:=hv c (List.mem_reverse.1 (List.mem_of_find?_eq_some hf))
  rw[zfk hf,zft,if_pos h1]
  rfl
 |none=>
  rw[zh8 hf,zft,if_neg (by decide)]
  have h2:(zct m w).isSome=true:=by
   rcases h with h|h
   ·obtain⟨c,hc,rfl⟩:=List.mem_map.1 h
    have:=List.find?_eq_none.1 hf c (List.mem_reverse.2 hc)
    simp at this
   ·exact h
  unfold zfb
  cases hc:zct m w with
  |none=>rw[hc]at h2;cases h2
  |some c=>exact zfk hc
theorem zj3 (vars:List Str){l:List Int}(h:l.length=vars.length):(zhn vars l).length=vars.length:=by unfold zhn;rw[List.length_zipWith,h,Nat.min_self]
theorem zop {vars:List Str}{l:List Int}{j:Nat}(h:l.length=vars.length)(hj:j<vars.length)(h1:j<(zhn vars l).reverse.length):(zhn vars l).reverse[j]=⟨vars[vars.length-1-j],l[vars.length-1-j]⟩:=by
 have:=zj3 vars h
 simp only[List.getElem_reverse,this]
 unfold zhn
 rw[List.getElem_zipWith]
theorem zeX {vars:List Str}{l:List Int}(h:l.length=vars.length):(zhn vars l).map (·.name)=vars:=by
 unfold zhn
 rw[List.map_zipWith]
 refine List.ext_getElem (by rw[List.length_zipWith,h,Nat.min_self]) fun i h1 h2=>?_
 rw[List.getElem_zipWith]
theorem zfP {vars:List Str}{l:List Int}{x:zaF}(hx:x∈zhn vars l):x.value∈l:=by
 unfold zhn at hx
 obtain⟨i,hi,rfl⟩:=List.getElem_of_mem hx
 rw[List.getElem_zipWith]
 exact List.getElem_mem _
theorem zlC {l:List zaF}{w:Str}(hv:∀x∈l,0≤x.value):0≤zbp l w∨zbp l w= -1:=by
 cases hf:l.find? fun c=>decide (c.name=w)with
 |some c=>rw[zfk hf];exact .inl (hv c (List.mem_of_find?_eq_some hf))
 |none=>exact .inr (zh8 hf)
theorem zh9 {l:List zaF}{w:Str}{j:Nat}(_hv:∀x∈l,0≤x.value)(h:0≤zbp (l.take j) w):zbp l w=zbp (l.take j) w:=by
 have e:=List.take_append_drop j l
 unfold zbp at h ⊢
 conv=>lhs;rw[←e]
 rw[List.find?_append]
 cases hf:(l.take j).find? fun c=>decide (c.name=w)with
 |some c=>rfl
 |none=>rw[hf]at h;exact absurd h (by decide)
theorem zjz {v:Int}{w:Str}(h:0≤v∨v= -1):zft v [] w=v:=by
 unfold zft
 rcases h with h|h
 ·rw[if_pos h]
 ·rw[if_neg (by omega),zp2,h]
theorem zAz {m:zal}{nm:Str}{ws:List Str}{s:List zaf}{vars:List Str}{i:Nat}:zcf m (.mk 3 nm ws s) vars i=decide (zbW m (zhn vars (zaR m.size.toNat vars.length i)) (ws.getD 0 ⟨[]⟩)=zbW m (zhn vars (zaR m.size.toNat vars.length i)) (ws.getD 1 ⟨[]⟩)):=by
 unfold zcf
 rw[zbY]
 simp only[show¬(3:Int)=1 by decide,show¬(3:Int)=2 by decide,if_false,if_true]
theorem zxs {m:zal}{nm:Str}{ws:List Str}{s:List zaf}{vars:List Str}{i:Nat}:zcf m (.mk 2 nm ws s) vars i=decide (ws.map (zbW m (zhn vars (zaR m.size.toNat vars.length i)))∈zmx m nm ws.length):=by
 unfold zcf
 rw[zbY]
 simp only[show¬(2:Int)=1 by decide,if_false,if_true]
theorem zti {P:Int→Prop}{m:zal}{env:List zaF}{w:Str}(he:∀x∈env,P x.value)(hc:∀c∈m.consts,P c.value)(h:w∈env.map (·.name)∨(zct m w).isSome=true):P (zbW m env w):=by
 unfold zbW
 rw[zie]
 cases hf:env.reverse.find? fun c=>decide (c.name=w)with
 |some c=>exact he c (List.mem_reverse.1 (List.mem_of_find?_eq_some hf))
 |none=>
  have h2:(zct m w).isSome=true:=by
   rcases h with h|h
   ·obtain⟨c,hc,rfl⟩:=List.mem_map.1 h
    have:=List.find?_eq_none.1 hf c (List.mem_reverse.2 hc)
    simp at this
   ·exact h
  show P (zfb m w)
  unfold zfb
  cases hg:zct m w with
  |none=>rw[hg]at h2;cases h2
  |some c=>exact hc c (List.mem_of_find?_eq_some hg)
def zdA (nm:Str)(n:Int)(ts:List Int)(q:zdq):Bool:=decide (q.name=nm)&&(decide (q.arity=n)&&q.tuples.any fun t=>decide (t=ts))
theorem zxh {m:zal}(hm:zsd m){q r:zdq}(hq:q∈m.rels)(hr:r∈m.rels)(h1:q.name=r.name)(h2:q.arity=r.arity):q=r:=by
 obtain⟨i,hi,rfl⟩:=List.getElem_of_mem hq
 obtain⟨j,hj,rfl⟩:=List.getElem_of_mem hr
 rcases Nat.lt_trichotomy i j with h|h|h
 ·have:=hm.r i j hi hj h
  rcases this with g|g
  ·rw[h1]at g;exact absurd g (zcu _)
  ·omega
 ·subst h;rfl
 ·have:=hm.r j i hj hi h
  rcases this with g|g
  ·rw[h1]at g;exact absurd g (zcu _)
  ·omega
theorem zuT {m:zal}(hm:zsd m){nm:Str}{n:Int}{ts:List Int}:(m.rels.any (zdA nm n ts))=decide (ts∈zmx m nm n):=by
 rw[Bool.eq_iff_iff,List.any_eq_true,decide_eq_true_eq]
 unfold zmx
 constructor
 ·rintro⟨q,hq,h⟩
  unfold zdA at h
  rw[Bool.and_eq_true,Bool.and_eq_true,decide_eq_true_eq,decide_eq_true_eq,List.any_eq_true]at h
  obtain⟨h1,h2,t,ht,h3⟩:=h
  have h3:=of_decide_eq_true h3
  subst h3
  cases hf:zeH m nm n with
  |none=>
   have:=List.find?_eq_none.1 hf q hq
   simp[h1,h2]at this
  |some r=>
   have hr:=List.mem_of_find?_eq_some hf
   have hp:=List.find?_some (p:=fun r:zdq=>decide (r.name=nm∧r.arity=n)) hf
   have hp:=of_decide_eq_true hp
   have e:=zxh hm hq hr (by rw[h1,hp.1]) (by rw[h2,hp.2])
   rw[←e]
   exact ht
 ·intro h
  cases hf:zeH m nm n with
  |none=>rw[hf]at h;cases h
  |some r=>
   rw[hf]at h
   have hp:=List.find?_some (p:=fun r:zdq=>decide (r.name=nm∧r.arity=n)) hf
   have hp:=of_decide_eq_true hp
   refine⟨r,List.mem_of_find?_eq_some hf,?_⟩
   unfold zdA
   rw[decide_eq_true hp.1,decide_eq_true hp.2,Bool.true_and,Bool.true_and]
   exact List.any_eq_true.2 ⟨ts,h,decide_eq_true rfl⟩
theorem zot {s:Int}(hs:0<s):∀(t t':List Int) (a b:Int),t.length=t'.length→(∀v∈t,0≤v∧v<s)→(∀v∈t',0≤v∧v<s)→t.foldl (fun n v=>n*s+v) a=t'.foldl (fun n v=>n*s+v) b→a=b∧t=t'
 |[],[],a,b,_,_,_,h=>⟨h,rfl⟩
 |[],_::_,_,_,hl,_,_,_=>by simp at hl
 |_::_,[],_,_,hl,_,_,_=>by simp at hl
 |v::t,v'::t',a,b,hl,h1,h2,h=>by
  rw[List.foldl_cons,List.foldl_cons]at h
  obtain⟨g1,g2⟩:=zot hs t t' _ _ (by simpa using hl) (fun x hx=>h1 x (by simp[hx])) (fun x hx=>h2 x (by simp[hx])) h
  have r1:=h1 v (by simp)
  have r2:=h2 v' (by simp)
  have e1:(a*s+v) / s=a:=by rw[Int.add_comm,Int.add_mul_ediv_right _ _ (by omega),Int.ediv_eq_zero_of_lt r1.1 r1.2,Int.zero_add]
  have e2:(b*s+v') / s=b:=by rw[Int.add_comm,Int.add_mul_ediv_right _ _ (by omega),Int.ediv_eq_zero_of_lt r2.1 r2.2,Int.zero_add]
  have e3:a=b:=by rw[←e1,←e2,g1]
  subst e3
  exact⟨rfl,by rw[g2,show v=v' by omega]⟩
theorem znz {V:Nat→Bool}{n i:Nat}(_h:i<n):(zaP V n i).set i false=zaP V n i:=by
 refine(List.ext_getElem (by rw[List.length_set]) fun j h1 h2=>?_)
 rw[List.getElem_set]
 split
 ·rename_i e
  subst e
  rw[zf5,decide_eq_false (by omega),Bool.false_and]
 ·rfl
end Go.Abs

import Derived.Test.YtkkffhphodngkaaDoorTR
set_option linter.unusedSimpArgs false
namespace Go.Abs
open Go
def zbq (s:Nat):Nat→Nat→List Int
 |0,_=>[]
 |k+1,i=>zbq s k (i / s)++[((i % s:Nat):Int)]
theorem zbN (s:Nat):∀k i,(zbq s k i).length=k
 |0,_=>rfl
 |k+1,i=>by rw[zbq,List.length_append,zbN s k];rfl
def zgI (vars:List Str)(vals:List Int):List zaB:=List.zipWith zaB.mk vars vals
def zb5 (m:zal)(f:zac)(vars:List Str)(i:Nat):Bool:=zbU m f (zgI vars (zbq m.size.toNat vars.length i))
def zcz (m:zal)(f:zac)(vars:List Str):List Bool:=(List.range (m.size.toNat^vars.length)).map (zb5 m f vars)
theorem zcQ (m:zal)(f:zac)(vars:List Str):(zcz m f vars).length=m.size.toNat^vars.length:=by unfold zcz;simp
theorem zcP {m:zal}{f:zac}{vars:List Str}{i:Nat}(h:i<m.size.toNat^vars.length):(zcz m f vars).getD i false=zb5 m f vars i:=by
 unfold zcz
 rw[List.getD_eq_getElem?_getD,List.getElem?_map,List.getElem?_range h]
 rfl
theorem zkI {s:Nat}{vars:List Str}{nm:Str}{a d:Nat}(hd:d<s):zgI (vars++[nm]) (zbq s (vars++[nm]).length (a*s+d))=zgI vars (zbq s vars.length a)++[⟨nm,d⟩]:=by
 have hs:0<s:=by omega
 have e1:(a*s+d) / s=a:=by rw[Nat.mul_comm,Nat.mul_add_div hs,Nat.div_eq_of_lt hd,Nat.add_zero]
 have e2:(a*s+d) % s=d:=by rw[Nat.mul_comm,Nat.mul_add_mod,Nat.mod_eq_of_lt hd]
 rw[List.length_append,List.length_cons,List.length_nil,Nat.zero_add,zbq,e1,e2]
 unfold zgI
 rw[List.zipWith_append (by rw[zbN])]
 rfl
theorem zk2 {m:zal}{p:Int→Bool}:(zdT m).all p=(List.range m.size.toNat).all fun d=>p (d:Int):=by
 unfold zdT;rw[List.all_map];rfl
theorem zk3 {m:zal}{p:Int→Bool}:(zdT m).any p=(List.range m.size.toNat).any fun d=>p (d:Int):=by
 unfold zdT;rw[List.any_map];rfl
theorem zwa (m:zal)(nm:Str)(ws:List Str)(s:List zac)(vars:List Str)(i:Nat):zb5 m (.mk 1 nm ws s) vars i=true:=by
 unfold zb5;rw[zbU,if_pos rfl]
theorem zv5 {m:zal}{nm:Str}{ws:List Str}{g:zac}{vars:List Str}{i:Nat}:zb5 m (.mk 8 nm ws [g]) vars i=(List.range m.size.toNat).all fun d=>zb5 m g (vars++[nm]) (i*m.size.toNat+d):=by
 unfold zb5
 rw[zbU]
 simp only[show¬(8:Int)=1 by decide,show¬(8:Int)=2 by decide,show¬(8:Int)=3 by decide,show¬(8:Int)=4 by decide,show¬(8:Int)=5 by decide,show¬(8:Int)=6 by decide,show¬(8:Int)=7 by decide,if_false,if_true]
 rw[zk2]
 refine all_congr' fun d hd=>?_
 rw[zbs,zkI (List.mem_range.1 hd)]
 rfl
where
 all_congr' {p q:Nat→Bool} {l:List Nat} (h:∀d∈l,p d=q d):l.all p=l.all q:=by
  induction l with
  |nil=>rfl
  |cons a l ih=>rw[List.all_cons,List.all_cons,h a (by simp),ih fun d hd=>h d (by simp[hd])]
theorem zv7 {m:zal}{nm:Str}{ws:List Str}{g:zac}{vars:List Str}{i:Nat}:zb5 m (.mk 9 nm ws [g]) vars i=(List.range m.size.toNat).any fun d=>zb5 m g (vars++[nm]) (i*m.size.toNat+d):=by
 unfold zb5
 rw[zbU]
 simp only[show¬(9:Int)=1 by decide,show¬(9:Int)=2 by decide,show¬(9:Int)=3 by decide,show¬(9:Int)=4 by decide,show¬(9:Int)=5 by decide,show¬(9:Int)=6 by decide,show¬(9:Int)=7 by decide,show¬(9:Int)=8 by decide,if_false,if_true]
 rw[zk3]
 refine any_congr' fun d hd=>?_
 rw[zbs,zkI (List.mem_range.1 hd)]
 rfl
where
 any_congr' {p q:Nat→Bool} {l:List Nat} (h:∀d∈l,p d=q d):l.any p=l.any q:=by
  induction l with
  |nil=>rfl
  |cons a l ih=>rw[List.any_cons,List.any_cons,h a (by simp),ih fun d hd=>h d (by simp[hd])]
theorem zv9 {m:zal}{nm:Str}{ws:List Str}{g:zac}{vars:List Str}{i:Nat}:zb5 m (.mk 4 nm ws [g]) vars i= !zb5 m g vars i:=by
 unfold zb5
 rw[zbU]
 simp only[show¬(4:Int)=1 by decide,show¬(4:Int)=2 by decide,show¬(4:Int)=3 by decide,if_false,if_true,zbs]
 rfl
theorem zv6 {m:zal}{nm:Str}{ws:List Str}{g h:zac}{vars:List Str}{i:Nat}:zb5 m (.mk 5 nm ws [g,h]) vars i=(zb5 m g vars i&&zb5 m h vars i):=by
 unfold zb5
 rw[zbU]
 simp only[show¬(5:Int)=1 by decide,show¬(5:Int)=2 by decide,show¬(5:Int)=3 by decide,show¬(5:Int)=4 by decide,if_false,if_true,zbs]
 rfl
theorem zzn {m:zal}{nm:Str}{ws:List Str}{g h:zac}{vars:List Str}{i:Nat}:zb5 m (.mk 6 nm ws [g,h]) vars i=(zb5 m g vars i||zb5 m h vars i):=by
 unfold zb5
 rw[zbU]
 simp only[show¬(6:Int)=1 by decide,show¬(6:Int)=2 by decide,show¬(6:Int)=3 by decide,show¬(6:Int)=4 by decide,show¬(6:Int)=5 by decide,if_false,if_true,zbs]
 rfl
theorem zv8 {m:zal}{nm:Str}{ws:List Str}{g h:zac}{vars:List Str}{i:Nat}:zb5 m (.mk 7 nm ws [g,h]) vars i=(!zb5 m g vars i||zb5 m h vars i):=by
 unfold zb5
 rw[zbU]
 simp only[show¬(7:Int)=1 by decide,show¬(7:Int)=2 by decide,show¬(7:Int)=3 by decide,show¬(7:Int)=4 by decide,show¬(7:Int)=5 by decide,show¬(7:Int)=6 by decide,if_false,if_true,zbs]
 rfl
def zaL (V:Nat→Bool)(n i:Nat):List Bool:=(List.range n).map fun j=>decide (j<i)&&V j
theorem zbo (V:Nat→Bool)(n i:Nat):(zaL V n i).length=n:=by unfold zaL;simp
theorem zbH (V:Nat→Bool)(n:Nat):zaL V n 0=List.replicate n false:=by
 unfold zaL
 rw[List.eq_replicate_iff]
 refine⟨by simp,fun b hb=>?_⟩
 obtain⟨j,_,rfl⟩:=List.mem_map.1 hb
 simp
theorem zcb (V:Nat→Bool)(n:Nat):zaL V n n=(List.range n).map V:=by
 unfold zaL
 refine List.map_congr_left fun j hj=>?_
 rw[decide_eq_true (List.mem_range.1 hj),Bool.true_and]
theorem zfy {V:Nat→Bool}{n i j:Nat}(h:j<(zaL V n i).length):(zaL V n i)[j]=(decide (j<i)&&V j):=by simp[zaL]
theorem zcc {V:Nat→Bool}{n i:Nat}(_h:i<n):(zaL V n i).set i (V i)=zaL V n (i+1):=by
 refine List.ext_getElem (by rw[List.length_set,zbo,zbo]) fun j h1 h2=>?_
 rw[List.getElem_set]
 by_cases e:i=j
 ·subst e;rw[if_pos rfl,zfy,decide_eq_true (by omega),Bool.true_and]
 ·rw[if_neg e,zfy,zfy]
  congr 1
  exact decide_eq_decide.2 (by omega)
def zeq (s i:Nat):Nat→Nat
 |0=>i
 |j+1=>zeq s i j / s
def zsp (s i:Nat):Nat→List Int
 |0=>[]
 |j+1=>((zeq s i j % s:Nat):Int)::zsp s i j
theorem zob (s i:Nat):∀j,(zsp s i j).length=j
 |0=>rfl
 |j+1=>by rw[zsp,List.length_cons,zob s i j]
theorem zns (s i:Nat):∀(j k:Nat),zbq s (k+j) i=zbq s k (zeq s i j)++zsp s i j
 |0,k=>by rw[zsp,List.append_nil];rfl
 |j+1,k=>by
  rw[show k+(j+1)=(k+1)+j by omega,zns s i j (k+1),zbq,zeq,zsp,List.append_assoc]
  rfl
theorem zwm (s i n:Nat):zsp s i n=zbq s n i:=by
 have:=zns s i n 0
 rw[Nat.zero_add]at this
 rw[this,zbq,List.nil_append]
def ze6 (s i n j:Nat):List Int:=List.replicate (n-j) 0++zsp s i j
theorem zfK {s i n j:Nat}(h:j≤n):(ze6 s i n j).length=n:=by unfold ze6;rw[List.length_append,List.length_replicate,zob];omega
theorem zeu (s i n:Nat):ze6 s i n 0=List.replicate n 0:=by unfold ze6;rw[zsp,List.append_nil,Nat.sub_zero]
theorem zeH (s i n:Nat):ze6 s i n n=zbq s n i:=by unfold ze6;rw[Nat.sub_self,zwm];rfl
theorem zwd {k:Nat}{v:Int}{l:List Int}:(List.replicate (k+1) (0:Int)++l).set k v=List.replicate k 0++v::l:=by
 rw[List.replicate_succ',List.append_assoc,List.set_append_right _ _ (by simp)]
 simp
theorem zfL {s i n j:Nat}(h:j<n):(ze6 s i n j).set (n-1-j) ((zeq s i j % s:Nat):Int)=ze6 s i n (j+1):=by
 unfold ze6
 rw[show n-j=(n-1-j)+1 by omega,zwd,zsp,show n-(j+1)=n-1-j by omega]
theorem zfl {s:Nat}(hs:0<s):∀(n i:Nat),∀v∈zbq s n i,0≤v∧v<(s:Int)
 |0,_,v,h=>by simp[zbq]at h
 |n+1,i,v,h=>by
  rw[zbq,List.mem_append]at h
  rcases h with h|h
  ·exact zfl hs n _ v h
  ·have:v=((i % s:Nat):Int):=by simpa using h
   have:=Nat.mod_lt i hs
   omega
theorem zhv (w:Str):∀a:List zaB,zcD a w=(a.reverse.find? fun c=>decide (c.name=w)).map (·.value)
 |[]=>rfl
 |c::l=>by
  have h1:=zhu w [c] l
  rw[List.singleton_append]at h1
  rw[h1,zhv w l,List.reverse_cons,List.find?_append]
  cases hf:l.reverse.find? fun c=>decide (c.name=w)with
  |some v=>rfl
  |none=>
   have:=zf1 [] c w
   rw[List.nil_append]at this
   rw[this]
   by_cases e:c.name=w
   ·simp[e]
   ·simp[e,zcD]
def zbf (l:List zaB)(w:Str):Int:=((l.find? fun c=>decide (c.name=w)).map (·.value)).getD (-1)
theorem zo9 (w:Str):zbf [] w= -1:=rfl
theorem zeW {l:List zaB}{c:zaB}{w:Str}(hv:∀x∈l,0≤x.value):zbf (l++[c]) w=if zbf l w<0∧c.name=w then c.value else zbf l w:=by
 unfold zbf
 rw[List.find?_append]
 cases hf:l.find? fun c=>decide (c.name=w)with
 |some v=>
  have:=hv v (List.mem_of_find?_eq_some hf)
  rw[if_neg (by simp only[Option.map_some,Option.getD_some];omega)]
  rfl
 |none=>
  by_cases e:c.name=w
  ·rw[if_pos (by simp[e])];simp[e]
  ·rw[if_neg (by simp[e])];simp[e]
def ze4 (v:Int)(l:List zaB)(w:Str):Int:=if 0≤v then v else zbf l w
theorem ziW {v:Int}{l:List zaB}{c:zaB}{w:Str}(hv:∀x∈l,0≤x.value):ze4 v (l++[c]) w=if ze4 v l w<0∧c.name=w then c.value else ze4 v l w:=by
 unfold ze4
 by_cases h:0≤v
 ·rw[if_pos h,if_pos h,if_neg (by omega)]
 ·rw[if_neg h,if_neg h,zeW hv]
theorem zeX {l:List zaB}{w:Str}{c:zaB}(h:(l.find? fun c=>decide (c.name=w))=some c):zbf l w=c.value:=by unfold zbf;rw[h];rfl
theorem zhp {l:List zaB}{w:Str}(h:(l.find? fun c=>decide (c.name=w))=none):zbf l w= -1:=by unfold zbf;rw[h];rfl
theorem zsf {m:zal}{env:List zaB}{w:Str}(hv:∀x∈env,0≤x.value)(h:w∈env.map (·.name)∨(zcl m w).isSome=true):ze4 (zbf env.reverse w) m.consts w=zbJ m env w:=by
 unfold zbJ
 rw[zhv]
 cases hf:env.reverse.find? fun c=>decide (c.name=w)with
 |some c=>
  have h1:=hv c (List.mem_reverse.1 (List.mem_of_find?_eq_some hf))
  rw[zeX hf,ze4,if_pos h1]
  rfl
 |none=>
  rw[zhp hf,ze4,if_neg (by decide)]
  have h2:(zcl m w).isSome=true:=by
   rcases h with h|h
   ·obtain⟨c,hc,rfl⟩:=List.mem_map.1 h
    have:=List.find?_eq_none.1 hf c (List.mem_reverse.2 hc)
    simp at this
   ·exact h
  unfold zeO
  cases hc:zcl m w with
  |none=>rw[hc]at h2;cases h2
  |some c=>exact zeX hc
theorem zjp (vars:List Str){l:List Int}(h:l.length=vars.length):(zgI vars l).length=vars.length:=by unfold zgI;rw[List.length_zipWith,h,Nat.min_self]
theorem znw {vars:List Str}{l:List Int}{j:Nat}(h:l.length=vars.length)(hj:j<vars.length)(h1:j<(zgI vars l).reverse.length):(zgI vars l).reverse[j]=⟨vars[vars.length-1-j],l[vars.length-1-j]⟩:=by
 have:=zjp vars h
 simp only[List.getElem_reverse,this]
 unfold zgI
 rw[List.getElem_zipWith]
theorem zeA {vars:List Str}{l:List Int}(h:l.length=vars.length):(zgI vars l).map (·.name)=vars:=by
 unfold zgI
 rw[List.map_zipWith]
 refine List.ext_getElem (by rw[List.length_zipWith,h,Nat.min_self]) fun i h1 h2=>?_
 rw[List.getElem_zipWith]
theorem zfm {vars:List Str}{l:List Int}{x:zaB}(hx:x∈zgI vars l):x.value∈l:=by
 unfold zgI at hx
 obtain⟨i,hi,rfl⟩:=List.getElem_of_mem hx
 rw[List.getElem_zipWith]
 exact List.getElem_mem _
theorem zkT {l:List zaB}{w:Str}(hv:∀x∈l,0≤x.value):0≤zbf l w∨zbf l w= -1:=by
 cases hf:l.find? fun c=>decide (c.name=w)with
 |some c=>rw[zeX hf];exact .inl (hv c (List.mem_of_find?_eq_some hf))
 |none=>exact .inr (zhp hf)
theorem zhq {l:List zaB}{w:Str}{j:Nat}(_hv:∀x∈l,0≤x.value)(h:0≤zbf (l.take j) w):zbf l w=zbf (l.take j) w:=by
 have e:=List.take_append_drop j l
 unfold zbf at h ⊢
 conv=>lhs;rw[←e]
 rw[List.find?_append]
 cases hf:(l.take j).find? fun c=>decide (c.name=w)with
 |some c=>rfl
 |none=>rw[hf]at h;exact absurd h (by decide)
theorem ziX {v:Int}{w:Str}(h:0≤v∨v= -1):ze4 v [] w=v:=by
 unfold ze4
 rcases h with h|h
 ·rw[if_pos h]
 ·rw[if_neg (by omega),zo9,h]
theorem zzm {m:zal}{nm:Str}{ws:List Str}{s:List zac}{vars:List Str}{i:Nat}:zb5 m (.mk 3 nm ws s) vars i=decide (zbJ m (zgI vars (zbq m.size.toNat vars.length i)) (ws.getD 0 ⟨[]⟩)=zbJ m (zgI vars (zbq m.size.toNat vars.length i)) (ws.getD 1 ⟨[]⟩)):=by
 unfold zb5
 rw[zbU]
 simp only[show¬(3:Int)=1 by decide,show¬(3:Int)=2 by decide,if_false,if_true]
theorem zwb {m:zal}{nm:Str}{ws:List Str}{s:List zac}{vars:List Str}{i:Nat}:zb5 m (.mk 2 nm ws s) vars i=decide (ws.map (zbJ m (zgI vars (zbq m.size.toNat vars.length i)))∈zlM m nm ws.length):=by
 unfold zb5
 rw[zbU]
 simp only[show¬(2:Int)=1 by decide,if_false,if_true]
theorem zse {P:Int→Prop}{m:zal}{env:List zaB}{w:Str}(he:∀x∈env,P x.value)(hc:∀c∈m.consts,P c.value)(h:w∈env.map (·.name)∨(zcl m w).isSome=true):P (zbJ m env w):=by
 unfold zbJ
 rw[zhv]
 cases hf:env.reverse.find? fun c=>decide (c.name=w)with
 |some c=>exact he c (List.mem_reverse.1 (List.mem_of_find?_eq_some hf))
 |none=>
  have h2:(zcl m w).isSome=true:=by
   rcases h with h|h
   ·obtain⟨c,hc,rfl⟩:=List.mem_map.1 h
    have:=List.find?_eq_none.1 hf c (List.mem_reverse.2 hc)
    simp at this
   ·exact h
  show P (zeO m w)
  unfold zeO
  cases hg:zcl m w with
  |none=>rw[hg]at h2;cases h2
  |some c=>exact hc c (List.mem_of_find?_eq_some hg)
def zdl (nm:Str)(n:Int)(ts:List Int)(q:zdc):Bool:=decide (q.name=nm)&&(decide (q.arity=n)&&q.tuples.any fun t=>decide (t=ts))
theorem zv0 {m:zal}(hm:zrk m){q r:zdc}(hq:q∈m.rels)(hr:r∈m.rels)(h1:q.name=r.name)(h2:q.arity=r.arity):q=r:=by
 obtain⟨i,hi,rfl⟩:=List.getElem_of_mem hq
 obtain⟨j,hj,rfl⟩:=List.getElem_of_mem hr
 rcases Nat.lt_trichotomy i j with h|h|h
 ·have:=hm.r i j hi hj h
  rcases this with g|g
  ·rw[h1]at g;exact absurd g (zcm _)
  ·omega
 ·subst h;rfl
 ·have:=hm.r j i hj hi h
  rcases this with g|g
  ·rw[h1]at g;exact absurd g (zcm _)
  ·omega
theorem ztL {m:zal}(hm:zrk m){nm:Str}{n:Int}{ts:List Int}:(m.rels.any (zdl nm n ts))=decide (ts∈zlM m nm n):=by
 rw[Bool.eq_iff_iff,List.any_eq_true,decide_eq_true_eq]
 unfold zlM
 constructor
 ·rintro⟨q,hq,h⟩
  unfold zdl at h
  rw[Bool.and_eq_true,Bool.and_eq_true,decide_eq_true_eq,decide_eq_true_eq,List.any_eq_true]at h
  obtain⟨h1,h2,t,ht,h3⟩:=h
  have h3:=of_decide_eq_true h3
  subst h3
  cases hf:zdR m nm n with
  |none=>
   have:=List.find?_eq_none.1 hf q hq
   simp[h1,h2]at this
  |some r=>
   have hr:=List.mem_of_find?_eq_some hf
   have hp:=List.find?_some (p:=fun r:zdc=>decide (r.name=nm∧r.arity=n)) hf
   have hp:=of_decide_eq_true hp
   have e:=zv0 hm hq hr (by rw[h1,hp.1]) (by rw[h2,hp.2])
   rw[←e]
   exact ht
 ·intro h
  cases hf:zdR m nm n with
  |none=>rw[hf]at h;cases h
  |some r=>
   rw[hf]at h
   have hp:=List.find?_some (p:=fun r:zdc=>decide (r.name=nm∧r.arity=n)) hf
   have hp:=of_decide_eq_true hp
   refine⟨r,List.mem_of_find?_eq_some hf,?_⟩
   unfold zdl
   rw[decide_eq_true hp.1,decide_eq_true hp.2,Bool.true_and,Bool.true_and]
   exact List.any_eq_true.2 ⟨ts,h,decide_eq_true rfl⟩
theorem znB {s:Int}(hs:0<s):∀(t t':List Int) (a b:Int),t.length=t'.length→(∀v∈t,0≤v∧v<s)→(∀v∈t',0≤v∧v<s)→t.foldl (fun n v=>n*s+v) a=t'.foldl (fun n v=>n*s+v) b→a=b∧t=t'
 |[],[],a,b,_,_,_,h=>⟨h,rfl⟩
 |[],_::_,_,_,hl,_,_,_=>by simp at hl
 |_::_,[],_,_,hl,_,_,_=>by simp at hl
 |v::t,v'::t',a,b,hl,h1,h2,h=>by
  rw[List.foldl_cons,List.foldl_cons]at h
  obtain⟨g1,g2⟩:=znB hs t t' _ _ (by simpa using hl) (fun x hx=>h1 x (by simp[hx])) (fun x hx=>h2 x (by simp[hx])) h
  have r1:=h1 v (by simp)
  have r2:=h2 v' (by simp)
  have e1:(a*s+v) / s=a:=by rw[Int.add_comm,Int.add_mul_ediv_right _ _ (by omega),Int.ediv_eq_zero_of_lt r1.1 r1.2,Int.zero_add]
  have e2:(b*s+v') / s=b:=by rw[Int.add_comm,Int.add_mul_ediv_right _ _ (by omega),Int.ediv_eq_zero_of_lt r2.1 r2.2,Int.zero_add]
  have e3:a=b:=by rw[←e1,←e2,g1]
  subst e3
  exact⟨rfl,by rw[g2,show v=v' by omega]⟩
theorem zmI {V:Nat→Bool}{n i:Nat}(_h:i<n):(zaL V n i).set i false=zaL V n i:=by
 refine(List.ext_getElem (by rw[List.length_set]) fun j h1 h2=>?_)
 rw[List.getElem_set]
 split
 ·rename_i e
  subst e
  rw[zfy,decide_eq_false (by omega),Bool.false_and]
 ·rfl
end Go.Abs

/- several texts of this proof in one; no conditions -/
import Derived.Test.YtkkffhphodngkaaDoorY11
set_option linter.unusedSimpArgs false
namespace Go.Abs
open Go
theorem zl2 {l:List zaf}{a:List Str}(h:zo2 a)(h2:∀w,(∃f∈l,w∈cst f [])↔w∈a):zbu l=a:=
 znF (zjo l) h fun w=>by rw[zD0];exact h2 w
theorem zuE {l:List zaf}{k:Nat}{ms:List zal}{m:zal}(h:zbb l k=some ms)(hm:m∈ms):∃n i,zfe l k=some n∧m=zmJ l k i∧okF l m=true:=by
 unfold zbb at h
 cases hn:zfe l k with
 |none=>rw[hn]at h;cases h
 |some n=>
  rw[hn]at h
  obtain rfl:zbS l k n=ms:=Option.some.inj h
  unfold zbS at hm
  obtain⟨h1,h2⟩:=List.mem_filter.1 hm
  obtain⟨i,_,e⟩:=List.mem_map.1 h1
  exact⟨n,i,rfl,e.symm,h2⟩
theorem zl1 {l:List zaf}{k:Nat}{x:zal}{ms:List zal}(h:zbb l k=some ms)(hx:x∈ms):x.size=(k:Int):=by
 obtain⟨n,i,_,rfl,_⟩:=zuE h hx
 rfl
def ztU:Str:=⟨[100,111,103]⟩
def zkl:Str:=⟨[107,105,109]⟩
def zr3:Str:=⟨[108,101,101]⟩
def zmG:zaf:= .mk 2 ztU [zkl] []
theorem zlk:zbu [zmG]=[zkl]:=by
 refine zl2 (List.pairwise_singleton _ _) fun w=>?_
 have e:cst zmG []=[zkl]:=by kernel_rfl
 constructor
 ·rintro⟨f,hf,h⟩
  rw[List.mem_singleton.1 hf,e]at h;exact h
 ·intro h;exact⟨zmG,by simp,by rw[e];exact h⟩
theorem zrB:zeq [zmG]=[⟨ztU,1⟩]:=by kernel_rfl
theorem ztV (k n:Nat):zbS [zmG] k n=((List.range n).map (zdg [zkl] [⟨ztU,1⟩] k)).filter (okF [zmG]):=by
 unfold zbS zmJ;rw[zlk,zrB]
theorem zwm (k:Nat):zfe [zmG] k=zeu k 1 [⟨ztU,1⟩]:=by
 unfold zfe;rw[zlk,zrB];rfl
theorem zrA:zaM [zmG] 1=⟨0,0⟩∧zaM [zmG] 2=⟨0,0⟩:=⟨by kernel_rfl,by kernel_rfl⟩
theorem zgx:zdT [zmG] 2=(4,⟨0,0⟩):=by
 unfold zdT
 rw[if_neg (by rw[zrA.2];simp)]
 show(match zbb [zmG] 2 with|none=>(0,⟨17, -2⟩)|some l=>((l.length:Int),⟨0,0⟩):Int×zcD)=_
 have h:zbb [zmG] 2=some (((List.range 8).map (zdg [zkl] [⟨ztU,1⟩] 2)).filter (okF [zmG])):=by
  unfold zbb
  rw[zwm,show zeu 2 1 [⟨ztU,1⟩]=some 8 by kernel_rfl]
  show some (zbS [zmG] 2 8)=_
  rw[ztV]
 rw[h]
 have:(((List.range 8).map (zdg [zkl] [⟨ztU,1⟩] 2)).filter (okF [zmG])).length=4:=by kernel_rfl
 exact congrArg (fun n:Nat=>((n:Int),(⟨0,0⟩:zcD))) this
end Go.Abs
namespace Go.Abs
open Go
end Go.Abs
namespace Go.Abs
open Go
theorem zzo {ts:List Nat}{ds:List Int}(hl:ts.length=ds.length){jj p:Nat}(h:zed (ts.drop (p+1)) (ds.drop (p+1))=(List.replicate jj 0,true))(h1:p<ts.length)(h2:p<ds.length):
  (¬ds[p]+1<(ts[p]:Int)→zed (ts.drop p) (ds.drop p)=(List.replicate (jj+1) 0,true))∧(ds[p]+1<(ts[p]:Int)→zed ts ds=(ds.take p++(ds[p]+1)::List.replicate jj 0,false)):=by
 have e:zed (ts.drop p) (ds.drop p)=if ds[p]+1<(ts[p]:Int)then((ds[p]+1)::List.replicate jj 0,false)else(0::List.replicate jj 0,true):=by
  rw[List.drop_eq_getElem_cons h1,List.drop_eq_getElem_cons h2,zed,h]
  simp
 refine⟨fun h3=>by rw[e,if_neg h3];rfl,fun h3=>?_⟩
 rw[if_pos h3]at e
 have h4:=zhp (ts.take p) (ds.take p) (ts.drop p) (ds.drop p) (by rw[List.length_take,List.length_take,hl])
 rw[List.take_append_drop,List.take_append_drop,e]at h4
 simpa using h4
theorem zlM {ts:List Nat}{ds:List Int}(hl:ts.length=ds.length):zed (ts.drop ts.length) (ds.drop ts.length)=(List.replicate 0 0,true):=by
 rw[List.drop_length,hl,List.drop_length];rfl
def zcF (ds:List Int)(L jj:Nat):List Int:=ds.take (L-jj)++List.replicate jj 0
theorem zk3 {ds:List Int}{L:Nat}(h:ds.length=L):zcF ds L 0=ds:=by
 unfold zcF;rw[Nat.sub_zero,List.replicate_zero,List.append_nil,List.take_of_length_le (by omega)]
theorem zfJ {ds:List Int}{L jj:Nat}(h:ds.length=L)(hj:jj≤L):(zcF ds L jj).length=L:=by
 unfold zcF;rw[List.length_append,List.length_take,List.length_replicate];omega
theorem zfI {ds:List Int}{L jj p:Nat}(h:ds.length=L)(hp:p+jj+1=L)(h1:p<(zcF ds L jj).length)(h2:p<ds.length):(zcF ds L jj)[p]=ds[p]:=by
 have key:∀(l a b:List Int) (_:l=a++b) (k:Nat) (h1:k<l.length) (h2:k<a.length),l[k]=a[k]:=fun l a b e k h1 h2=>by subst e;exact List.getElem_append_left h2
 refine(key (zcF ds L jj) (ds.take (L-jj)) (List.replicate jj 0) rfl p h1 (by rw[List.length_take];omega)).trans ?_
 rw[List.getElem_take]
theorem zgt {ds:List Int}{L jj p:Nat}(h:ds.length=L)(hp:p+jj+1=L)(v:Int):(zcF ds L jj).set p v=ds.take p++v::List.replicate jj 0:=by
 unfold zcF
 rw[show L-jj=p+1 by omega,List.take_succ_eq_append_getElem (by omega),List.append_assoc,List.set_append_right _ _ (by rw[List.length_take];omega),List.length_take,Nat.min_eq_left (by omega),Nat.sub_self]
 rfl
theorem zfK {ds:List Int}{L jj p:Nat}(h:ds.length=L)(hp:p+jj+1=L):(zcF ds L jj).set p 0=zcF ds L (jj+1):=by
 rw[zgt h hp]
 unfold zcF
 rw[show L-(jj+1)=p by omega]
 rfl
theorem zwL {S j K n:Nat}(hs:0<S)(h:n<S^j*2^K):(zed (List.replicate j S++List.replicate K 2) (za4 S j K n)).1=za4 S j K (n+1):=by
 by_cases h1:n+1<S^j*2^K
 ·exact znn hs h1
 have e:n+1=S^j*2^K:=by omega
 obtain⟨m,hm⟩:∃m,2^K=m:=⟨_,rfl⟩
 obtain⟨t,ht⟩:∃t,S^j=t:=⟨_,rfl⟩
 have hm0:0<m:=by rw[←hm];exact Nat.pow_pos (by omega)
 have ht0:0<t:=by rw[←ht];exact Nat.pow_pos hs
 rw[hm,ht]at e
 obtain⟨t',rfl⟩:∃t',t=t'+1:=⟨t-1,by omega⟩
 obtain⟨m',rfl⟩:∃m',m=m'+1:=⟨m-1,by omega⟩
 have en:n=(m'+1)*t'+m':=by
  have:(t'+1)*(m'+1)=(m'+1)*t'+(m'+1):=by rw[Nat.mul_comm,Nat.mul_add,Nat.mul_one]
  omega
 have hd:n / (m'+1)=t':=by rw[en,Nat.mul_add_div (by omega),Nat.div_eq_of_lt (by omega),Nat.add_zero]
 have hr:n % (m'+1)=m':=by rw[en,Nat.mul_add_mod,Nat.mod_eq_of_lt (by omega)]
 have hd2:(n+1) / (m'+1)=t'+1:=by rw[e,Nat.mul_div_cancel _ (by omega)]
 have hr2:(n+1) % (m'+1)=0:=by rw[e,Nat.mul_mod_left]
 unfold za4
 rw[hm,zhp _ _ _ _ (by rw[List.length_replicate,zaS]),←zdb (by omega) K n,hm,hr,hd,zdY (by omega) K m' (by rw[hm];omega),zdY hs j t' (by rw[ht];omega),hm,ht,hd2,←zdb (by omega) K (n+1),hm,hr2,←zdb hs j (t'+1),ht]
 simp
end Go.Abs

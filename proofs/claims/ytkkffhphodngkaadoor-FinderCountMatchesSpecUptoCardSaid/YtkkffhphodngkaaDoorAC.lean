import Derived.Test.YtkkffhphodngkaaDoorY11
set_option linter.unusedSimpArgs false
namespace Go.Abs
open Go
def acM (l:List zaf):List Str:=l.foldl (fun out f=>(zgv f [] []).foldl zeo out) []
structure acP (f:zaf):Prop where
 ft:f.fit=true
 s:f.size≤1000
 n:(zgv f [] []).length≤2400
theorem znS {l:List zaf}{i:Nat}(h:i<l.length):acM (l.take (i+1))=(zgv l[i] [] []).foldl zeo (acM (l.take i)):=by
 unfold acM
 rw[List.take_succ_eq_append_getElem h,List.foldl_append];rfl
theorem zkv:∀(ws l:List Str),(ws.foldl zeo l).length≤l.length+ws.length
 |[],l=>by simp
 |w::ws,l=>by
  rw[List.foldl_cons]
  have:=zkv ws (zeo l w)
  have:=zoQ l w
  rw[List.length_cons];omega
theorem zsp {ws l:List Str}{j:Nat}(h:j<ws.length):(ws.take (j+1)).foldl zeo l=zeo ((ws.take j).foldl zeo l) ws[j]:=by
 rw[List.take_succ_eq_append_getElem h,List.foldl_append];rfl
theorem zv7 {l:List zaf}(hp:∀f∈l,acP f):∀i,i≤l.length→(acM (l.take i)).length≤2400*i:=by
 intro i
 induction i with
 |zero=>intro _;simp[acM]
 |succ i ih=>
  intro h
  rw[znS (by omega)]
  have h1:=ih (by omega)
  have h2:=zkv (zgv l[i] [] []) (acM (l.take i))
  have h3:=(hp l[i] (List.getElem_mem (by omega))).n
  omega
theorem zoE (x:Str):∀(ws l:List Str),x∈ws.foldl zeo l↔x∈l∨x∈ws
 |[],l=>by simp
 |w::ws,l=>by
  rw[List.foldl_cons,zoE x ws,zoF,List.mem_cons,or_assoc]
theorem zw9 (x:Str)(l:List zaf):x∈acM l↔∃f∈l,x∈cst f []:=by
 unfold acM
 suffices h:∀(l:List zaf) (o:List Str),x∈l.foldl (fun out f=>(zgv f [] []).foldl zeo out) o↔x∈o∨∃f∈l,x∈cst f [] by
  rw[h];simp
 intro l
 induction l with
 |nil=>intro o;simp
 |cons f l ih=>
  intro o
  rw[List.foldl_cons,ih,zoE,zoD]
  simp only[List.not_mem_nil,false_or,List.mem_cons,exists_eq_or_imp,or_assoc]
mutual
theorem zk7:∀(f:zaf) (bd l:List Str),shp false f→(zgv f bd l).length≤l.length+3*f.size
 | .mk k nm ws s,bd,l,h=>by
  rw[shp]at h
  have hw:ws.length≤3:=by
   have h2:=h.1.2.1
   unfold zdn at h2
   rw[zaz,zdX]at h2
   split at h2
   ·exact of_decide_eq_true h2
   ·split at h2
    ·have:=of_decide_eq_true h2;omega
    ·have:=of_decide_eq_true h2;omega
  rw[zgv,zaf.size]
  have h1:=zjb s (if isQ k then bd++[nm]else bd) (ws.foldl (fun l w=>if w∈bd then l else zeo l w) l) h.2
  have h2:=zfU bd ws l
  omega
theorem zjb:∀(fs:List zaf) (bd l:List Str),zeO false fs→(zdr fs bd l).length≤l.length+3*zaf.sizes fs
 |[],_,l,_=>by rw[zdr];omega
 |f::fs,bd,l,h=>by
  rw[zeO]at h
  rw[zdr,zaf.sizes]
  have h1:=zk7 f bd l h.1
  have h2:=zjb fs bd (zgv f bd l) h.2
  omega
end
theorem zsR:∀(l:List zaf) (out:List Str),zo2 out→zo2 (l.foldl (fun out f=>(zgv f [] []).foldl zeo out) out)
 |[],_,h=>h
 |f::l,out,h=>zsR l _ (zo4 (zgv f [] []) out h)
theorem zq3 (l:List zaf):acM l=zbu l:=by
 refine znF (zsR l [] List.Pairwise.nil) (zo3 _) fun x=>?_
 rw[zw9,zD0]
theorem ztD {f:zaf}(h:(zaA false f).code=0):acP f:=⟨zbN h,by have:=zaT h;omega,by
 have h1:=zk7 f [] [] (zi9 h)
 have:=zaT h
 simp only[List.length_nil]at h1
 omega⟩
theorem ztR {f:zaf}(h:(zaA false f).code=0):(zbH f).length≤1000000∧(cst f []).length≤1000000:=by
 have h1:=zgw f [] (zbN h)
 have h2:=zaT h
 have h3:=zgg f
 omega
end Go.Abs

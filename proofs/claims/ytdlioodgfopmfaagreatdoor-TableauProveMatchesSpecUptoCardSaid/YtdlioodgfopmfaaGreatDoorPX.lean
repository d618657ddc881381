import Derived.Test.YtdlioodgfopmfaaGreatDoorY9
import Derived.KernelRfl
set_option linter.unusedSimpArgs false
namespace Go.Abs
open Go
def zok:Str:=⟨[109,97,110]⟩
def zuU:Str:=⟨[109,111,114,116,97,108]⟩
def zhJ:Str:=⟨[107,105,109]⟩
def exS:Str:=⟨[120]⟩
def v0S:Str:=⟨[118,48]⟩
def prF (n w:Str):zac:= .mk 2 n [w] []
def zx2 (x:Str):zac:= .mk 8 x [] [.mk 7 ⟨[]⟩ [] [prF zok x,prF zuU x]]
def zdz:List zac:=[zx2 exS,prF zok zhJ]
def zgo:zac:=prF zuU zhJ
def zhL:List zac:=[zx2 v0S,prF zok zhJ,.mk 4 ⟨[]⟩ [] [zgo]]
theorem zpQ {f:zac}(h:cst f []=[]):zba f=[]:=by
 cases hu:zba f with
 |nil=>rfl
 |cons x l=>
  have:=(zbz f x).1 (by rw[hu];simp)
  rw[h]at this
  simp at this
theorem zng {k:List UInt8}{n:Nat}:zgw (List.replicate n k)=List.replicate n k:=List.perm_replicate.1 (zcT _)
theorem zpR {f:zac}{w:Str}(h:cst f []=[w]):zba f=[w]:=by
 unfold zba
 rw[h]
 have e:([w].map (·.l))=List.replicate 1 w.l:=rfl
 rw[e,zng]
 rfl
theorem zpo:zau (zx2 exS) []=zx2 v0S:=by
 unfold zau
 rw[zpQ (by kernel_rfl)]
 kernel_rfl
theorem zmS:zau (prF zok zhJ) []=prF zok zhJ:=by kernel_rfl
theorem zpp:ngg zgo= .mk 4 ⟨[]⟩ [] [zgo]:=by kernel_rfl
theorem zqV:za6 zhL=[zhJ]:=by
 unfold za6
 have e1:zba (zx2 v0S)=[]:=zpQ (by kernel_rfl)
 have e2:zba (prF zok zhJ)=[zhJ]:=zpR (by kernel_rfl)
 have e3:zba (.mk 4 ⟨[]⟩ [] [zgo])=[zhJ]:=zpR (by kernel_rfl)
 have e:(zhL.flatMap zba)=[zhJ,zhJ]:=by
  unfold zhL
  rw[List.flatMap_cons,List.flatMap_cons,List.flatMap_cons,List.flatMap_nil,e1,e2,e3]
  rfl
 rw[e]
 have e4:([zhJ,zhJ].map (·.l))=List.replicate 2 zhJ.l:=rfl
 rw[e4,zng]
 have e5:(zds (List.replicate 2 zhJ.l)).map Str.mk=[zhJ]:=by kernel_rfl
 exact e5
def zed:Brn:=zbS ⟨[],[],[],0⟩ zhL
theorem zwd {uses:Int}(h:0<uses)(n:Nat):zeQ uses (n+1) zed 0=zmz (zeQ uses n) (zgH [zhJ] zhL 0 ⟨⟨zhL,zed.used,zed.seen,1⟩,[],0⟩):=by
 rw[zeQ]
 unfold zha
 have h1:zcD zed.list=none:=by kernel_rfl
 have h2:zb7 1 zed.list zed.used 0=none:=by kernel_rfl
 have h3:zb7 4 zed.list zed.used 0=none:=by kernel_rfl
 have h4:zb7 2 zed.list zed.used 0=none:=by kernel_rfl
 rw[h1]
 simp only[zeN,h2,h3,h4]
 unfold zdN
 have h5:zed.rounds=0:=rfl
 have h6:zed.list=zhL:=rfl
 rw[if_neg (by rw[h5];omega)]
 have h7:zc6 zhL=[zhJ]:=by
  unfold zc6
  rw[zqV,if_neg (by simp)]
 rw[h6,h7]
 rfl
theorem ztm:(zeQ 1 301 zed 0).ok=true∧(zeQ 1 301 zed 0).lim=false∧(zeQ 1 301 zed 0).p.kind≠0:=by
 rw[zwd (by decide)]
 refine⟨by kernel_rfl,by kernel_rfl,?_⟩
 have e:(zmz (zeQ 1 300) (zgH [zhJ] zhL 0 ⟨⟨zhL,zed.used,zed.seen,1⟩,[],0⟩)).p.kind=4:=by kernel_rfl
 rw[e]
 decide
end Go.Abs

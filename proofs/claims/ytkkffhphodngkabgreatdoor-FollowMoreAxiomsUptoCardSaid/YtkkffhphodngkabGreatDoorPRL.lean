import Derived.Test.YtkkffhphodngkabGreatDoorY12
set_option linter.unusedSimpArgs false
namespace Go.Proofs.YtkkffhphodngkabGreatDoor
open Go Go.Abs
def zRA (α:Type):Type:={l:List α // l.length≤1048576}
instance {α:Type}[Enc α]:Enc (zRA α):=⟨fun l=>enc l.1,fun x=>if h:(dec x:List α).length≤1048576 then⟨dec x,h⟩else⟨[],by simp⟩,fun l=>by
 have e:(dec (enc l.1):List α)=l.1:=dec_enc l.1
 show(if h:(dec (enc l.1):List α).length≤1048576 then(⟨dec (enc l.1),h⟩:{l:List α // l.length≤1048576})else _)=l
 rw[dif_pos (by rw[e];exact l.2)]
 exact Subtype.ext e⟩
theorem zRv {n:Nat}{blk:(H:Type)→DataW H→Nat}{P:Program}{t e:TypeId}(hB:zmA blk){α:Type}[Enc α](ht:P.underlying t=some (.slice e))(hes:0<P.cellsOf e)(hr:RdN n blk P e α):RdN n blk P t (zRA α):=by
 intro H en w base spare held fuel cs x h hsz hbk
 obtain⟨l,hl⟩:=zjv (α:=α) hB ht hes hr h hsz hbk
 have hlen:l.length≤1048576:=by
  have hone:(enc l:FD).cells=[FD.sl (l.map enc)]:=rfl
  rcases Go.Deep.open_slice ht h with⟨rfl,_⟩|⟨a,len,cap,m,k,D,Pl,rfl,hb,hl2,hm,hme,e1,hel⟩
  ·have h1:=hl.one_inv
   obtain⟨a,c,h2,_⟩:=h1.sl_inv
   simp only[Value.slice.injEq]at h2
   have:=h2.2.1
   simp only[List.length_map]at this
   omega
  ·have h1:=hl.one_inv
   obtain⟨a',c,h2,_⟩:=h1.sl_inv
   simp only[Value.slice.injEq]at h2
   have h3:=h2.2.1
   simp only[List.length_map]at h3
   subst e1
   have h4:=Nat.le_trans (hB.sl _ _ _) hbk
   simp only[List.length_map,List.length_range]at h4
   have hlm:len≤m:=by rw[hme];split<;>omega
   omega
 exact⟨⟨l,hlen⟩,hl⟩
end Go.Proofs.YtkkffhphodngkabGreatDoor

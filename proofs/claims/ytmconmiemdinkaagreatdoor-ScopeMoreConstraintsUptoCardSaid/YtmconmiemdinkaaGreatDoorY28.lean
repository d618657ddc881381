/- several texts of this proof in one; no conditions -/
import Derived.Test.YtmconmiemdinkaaGreatDoorY13
set_option linter.unusedSimpArgs false
namespace Go.Abs
open Go
theorem CR.one_inv {w:World}{v:Value}{y:FD}(h:CR w [v] [y]):za2 w (zk1 w) v y:=h.2 0 (by simp)
end Go.Abs
namespace Go.Proofs.YtmconmiemdinkaaGreatDoor
open Go Go.Abs
def zhl (α:Type):Type:={l:List α // l.length≤1048576}
instance {α:Type}[Enc α]:Enc (zhl α):=⟨fun l=>enc l.1,fun x=>if h:(dec x:List α).length≤1048576 then⟨dec x,h⟩else⟨[],by simp⟩,fun l=>by
 have e:(dec (enc l.1):List α)=l.1:=dec_enc l.1
 show(if h:(dec (enc l.1):List α).length≤1048576 then(⟨dec (enc l.1),h⟩:{l:List α // l.length≤1048576})else _)=l
 rw[dif_pos (by rw[e];exact l.2)]
 exact Subtype.ext e⟩
theorem zhk {n:Nat}{blk:(H:Type)→DataW H→Nat}{P:Program}{t e:TypeId}(hB:zk2 blk){α:Type}[Enc α](ht:P.underlying t=some (.slice e))(hes:0<P.cellsOf e)(hr:RdN n blk P e α):RdN n blk P t (zhl α):=by
 intro H en w base spare held fuel cs x h hsz hbk
 obtain⟨l,hl⟩:=zfZ (α:=α) hB ht hes hr h hsz hbk
 have hlen:l.length≤1048576:=by
  have hone:(enc l:FD).cells=[FD.sl (l.map enc)]:=rfl
  rcases Go.Deep.open_slice ht h with⟨rfl,_⟩|⟨a,len,cap,m,k,D,Pl,rfl,hb,hl2,hm,hme,e1,hel⟩
  ·have h1:=hl.one_inv
   obtain⟨a,c,h2,_⟩:=h1.sl_inv
   simp only[Value.slice.injEq]at h2
   have:=h2.2.1
   simp only[List.length_map]at this
   omega
  ·have h1:=hl.one_inv
   obtain⟨a',c,h2,_⟩:=h1.sl_inv
   simp only[Value.slice.injEq]at h2
   have h3:=h2.2.1
   simp only[List.length_map]at h3
   subst e1
   have h4:=Nat.le_trans (hB.sl _ _ _) hbk
   simp only[List.length_map,List.length_range]at h4
   have hlm:len≤m:=by rw[hme];split<;>omega
   omega
 exact⟨⟨l,hlen⟩,hl⟩
end Go.Proofs.YtmconmiemdinkaaGreatDoor
namespace Go.Proofs.YtmconmiemdinkaaGreatDoor
open Go Go.Abs
def zcT:Type:={s:Abs.zao // s.overs.length≤1048576}
instance:Enc zcT:=⟨fun s=>enc s.1,fun x=>if h:(dec x:Abs.zao).overs.length≤1048576 then⟨dec x,h⟩else⟨⟨[],[],[]⟩,by simp⟩,fun s=>by
 have e:(dec (enc s.1):Abs.zao)=s.1:=dec_enc s.1
 show(if h:(dec (enc s.1):Abs.zao).overs.length≤1048576 then(⟨dec (enc s.1),h⟩:{s:Abs.zao // s.overs.length≤1048576})else _)=s
 rw[dif_pos (by rw[e];exact s.2)]
 exact Subtype.ext e⟩
theorem zgq {s:zcT}:enc s= .agg [.sl (s.1.pieces.map enc),.sl (s.1.overs.map enc),.sl (s.1.vars.map enc)]:=rfl
def mkB (a:List Abs.zbD)(b:zhl Abs.zjC)(c:List Str):zcT:=⟨⟨a,b.1,c⟩,b.2⟩
theorem zkf {a:List Abs.zbD}{b:zhl Abs.zjC}{c:List Str}:enc (mkB a b c)= .agg [enc a,enc b,enc c]:=rfl
theorem zgT {n:Nat}:RdN n (fun _ d=>Rows.uptoBulk d) Tryz.prog 26 zcT:=by
 cases n with
 |zero=>intro H en w base spare held fuel cs x hd hsz hbk;omega
 |succ n=>
  intro H en w base spare held fuel cs x hd hsz hbk
  obtain⟨hlen,ps,k,hx,hf⟩:=zd3 Tryz.underlying26 hd
  obtain⟨x1,x2⟩:=x
  obtain rfl:x1= .agg ps:=hx
  rw[zwZ]at hlen
  obtain⟨a0,r0⟩:=zdb (n:=n) (α:=List Abs.zbD) (o:=0) (s:=1) zcb hf 0 rfl rfl rfl (by kernel_rfl) (zfZ (α:=Abs.zbD) zcb Tryz.underlying22 (by rw[zwa];decide) zs1) hsz hbk
  obtain⟨a1,r1⟩:=zdb (n:=n) (α:=zhl Abs.zjC) (o:=1) (s:=1) zcb hf 1 rfl rfl rfl (by kernel_rfl) (zhk (α:=Abs.zjC) zcb Tryz.underlying23 (by rw[zzU];decide) zvt) hsz hbk
  obtain⟨a2,r2⟩:=zdb (n:=n) (α:=List Str) (o:=2) (s:=1) zcb hf 2 rfl rfl rfl (by kernel_rfl) zoV hsz hbk
  refine⟨mkB a0 a1 a2,?_⟩
  rw[zkf]
  exact CR.part (o:=0) r0 (CR.part r1 (CR.part r2 (CR.fin hlen)))
end Go.Proofs.YtmconmiemdinkaaGreatDoor

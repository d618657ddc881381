/- several texts of this proof in one; no conditions -/
import Derived.Test.YtkkffhphodngkaaGreatDoorAT
import Derived.Test.YtkkffhphodngkaaGreatDoorY20
import Derived.Test.YtkkffhphodngkaaGreatDoorY22
import Derived.Test.YtkkffhphodngkaaGreatDoorY14
set_option maxRecDepth 100000
set_option maxHeartbeats 1000000
set_option linter.unusedSimpArgs false
namespace Go.Proofs.YtkkffhphodngkaaGreatDoor
open Go Go.Abs Go.Proofs
theorem zDO (f:Abs.zab):opn f=(!decide (isQ f.kind)&&ziN f.subs):=by cases f;rw[opn];rfl
theorem zli:∀a b:List Abs.zab,ziN (a++b)=(ziN a&&ziN b)
 |[],b=>by rw[List.nil_append,ziN,Bool.true_and]
 |x::a,b=>by rw[List.cons_append,ziN,ziN,zli a b,Bool.and_assoc]
theorem zuN {l:List Abs.zab}{i:Nat}(h:i<l.length):ziN (l.take (i+1))=(ziN (l.take i)&&opn l[i]):=by
 rw[List.take_succ_eq_append_getElem h,zli,ziN,ziN,Bool.and_true]
def Op0:Tbl:=Tbl.or Z6 I14
theorem zK9:zan Tryz.prog GA Op0:=zkm hZ6 zIF
def Op1:Tbl:=Op0.add 9 (sp1 opn fun _=>True)
theorem zLa:zan Tryz.prog GA Op1:=by
 refine zvh zab.size ok9 zK9 fun n hT f hn _ hwf=>?_
 obtain⟨Q,hQ⟩:∃Q:D→zas→Nat→Prop,Q=(fun d _ _=>D.val d=some (.fz (enc (opn f)))):=⟨_,rfl⟩
 rw[←hQ]
 have hf:opn f=false→∀{H' n'},Q (.fz (.b false)) H' n':=fun h H' n'=>by rw[hQ];show _=some (D.fz (.b (opn f)));rw[h];rfl
 have ht:opn f=true→∀{H' n'},Q (.fz (.b true)) H' n':=fun h H' n'=>by rw[hQ];show _=some (D.fz (.b (opn f)));rw[h];rfl
 have hsl:f.subs.length≤zbh:=by
  have h:=zbW (by have h:=hwf;rw[zaI]at h;exact h) (FD.sl (f.subs.map enc)) (by simp)
  have:=zdZ h
  simpa using this
 unfold zbh at hsl
 have hsz:∀g∈f.subs,g.size<n∧True:=fun g hg=>⟨by have:=zab.size_sub hg;omega,trivial⟩
 have kf:=Kp.mk @hf
 have kt:=Kp.mk @ht
 have kz:=Kp.mk hsz
 have kT:=Kp.mk hT
 clear hf ht hQ hwf hsz hT
 have he:=zDO f
 refine zag (N:=26) Go.Proofs.YtkkffhphodngkaaGreatDoor.hm kT.out 9000 (lst []) ok9 Tryz.func9 rfl rfl (by simp) (by kernel_rfl) ?_
 by_cases h8:f.kind=8
 ·have hno:opn f=false:=by rw[he,decide_eq_true (show isQ f.kind from .inl h8)];rfl
  have h8':(f.kind=8)=True:=eq_true h8
  repeat'(first|refine rq fun _=>?_|refine zaJ.i hr fun _=>?_|simp only[go_sem,h8',zac,zaa,Tryz.f9,Op0])
  all_goals first|done|exact kf.out hno|exact kt.out hyes
 have h8':(f.kind=8)=False:=eq_false h8
 by_cases h9:f.kind=9
 ·have hno:opn f=false:=by rw[he,decide_eq_true (show isQ f.kind from .inr h9)];rfl
  have h9':(f.kind=9)=True:=eq_true h9
  repeat'(first|refine rq fun _=>?_|refine zaJ.i hr fun _=>?_|simp only[go_sem,h8',h9',zac,zaa,Tryz.f9,Op0])
  all_goals first|done|exact kf.out hno|exact kt.out hyes
 have h9':(f.kind=9)=False:=eq_false h9
 rw[decide_eq_false (show¬isQ f.kind from fun h=>by rcases h with h|h<;>contradiction)]at he
 repeat'(first|refine rq fun _=>?_|refine zaJ.i hr fun _=>?_|simp only[go_sem,h8',h9',zac,zaa,Tryz.f9,Op0])
 refine zaq Go.Proofs.YtkkffhphodngkaaGreatDoor.hm kT.out 9000 (lst []) (ι:=zhD f.subs.length fun i=>ziN (f.subs.take i)=true)
  ⟨fun q=>⟨frL [(1,.ptr (9001,0) 0),(14,.fz (.i .i64 f.subs.length)),(15,.fz (.i .i64 q.i))],hpL [((9001,0),some ⟨[.fz (.i .i64 f.kind),.fz (.s f.name.l),.fz (.sl (f.words.map enc)),.fz (.sl (f.subs.map enc))],true,false⟩)],1⟩,fun q=>f.subs.length-q.i⟩
  ⟨0,by omega,rfl⟩ (by kernel_rfl) ?_ ?_
 ·refine zaj ?_ ?_ ?_<;>simp only[go_sem]
  all_goals first|done|rfl|omega
 rintro⟨i,hi,hp⟩
 try simp only at hi hp
 rcases Nat.lt_or_ge i f.subs.length with h1|h1
 ·obtain⟨x,hx⟩:∃x,f.subs[i]=x:=⟨_,rfl⟩
  have hr:=kz.out x (by rw[←hx];exact List.getElem_mem h1)
  have hs:=zuN h1
  rw[hx,hp,Bool.true_and]at hs
  cases hxo:opn x with
  |true=>
   repeat'(first|refine rq fun _=>?_|refine zaJ.i hr fun _=>?_|simp only[go_sem,h1,hx,hxo,zac,zaa,Tryz.f9,Op0])
   refine⟨⟨i+1,by omega,by rw[hs,hxo]⟩,by simp only;omega,?_⟩
   refine zaj ?_ ?_ ?_<;>simp only[go_sem]
   all_goals first|done|rfl|omega
  |false=>
   have hno:opn f=false:=by
    rw[he]
    have h2:ziN f.subs=(ziN (f.subs.take (i+1))&&ziN (f.subs.drop (i+1))):=by rw[←zli,List.take_append_drop]
    rw[h2,hs,hxo];rfl
   repeat'(first|refine rq fun _=>?_|refine zaJ.i hr fun _=>?_|simp only[go_sem,h1,hx,hxo,zac,zaa,Tryz.f9,Op0])
   all_goals first|done|exact kf.out hno|exact kt.out hyes
 obtain rfl:i=f.subs.length:=by omega
 have hyes:opn f=true:=by rw[he];rw[List.take_length]at hp;rw[hp];rfl
 repeat'(first|refine rq fun _=>?_|refine zaJ.i hr fun _=>?_|simp only[go_sem,Nat.lt_irrefl,Int.lt_irrefl,zac,zaa,Tryz.f9,Op0])
 all_goals first|done|exact kf.out hno|exact kt.out hyes
theorem zur {α:Type}[DecidableEq α]:∀{a b:List α},a.Nodup→(∀x∈a,x∈b)→a.length≤b.length
 |[],_,_,_=>Nat.zero_le _
 |x::a,b,hn,h=>by
  have hn':=List.nodup_cons.1 hn
  have h1:x∈b:=h x (by simp)
  have h2:=zur (a:=a) (b:=b.erase x) hn'.2 fun y hy=>(List.mem_erase_of_ne (fun e=>hn'.1 (by rw[←e];exact hy))).2 (h y (by simp[hy]))
  have h3:=List.length_erase_of_mem h1
  have h4:=List.length_pos_of_mem h1
  rw[List.length_cons];omega
theorem znR {l:List Str}(h:zD7 l):l.Nodup:=by
 refine List.Pairwise.imp (fun{a b} hab=>?_) h
 intro e
 subst e
 exact List.lt_irrefl _ hab
theorem zr3 {f:Abs.zab}(h:(zjg f [] []).length≤3):(zaL [zbD f]).length≤3:=by
 refine Nat.le_trans (zur (znR (zj2 _)) fun x hx=>?_) h
 obtain⟨g,hg,h1⟩:=zJC.1 hx
 rw[List.mem_singleton.1 hg,zpW]at h1
 rw[zql]
 exact .inr h1
theorem zF2 {f:Abs.zab}{p:Prf}{ok has:Bool}{m:zaB}(ho:opn f=true)(hv:(zaw false f).code=0)(hc:(zjg f [] []).length≤3)(hP:zfg [] f 0=(p,ok,⟨0,0⟩))(hF:zgQ [zbD f] 3=(m,has,⟨0,0⟩)):ok= !has:=by
 cases has with
 |true=>
  cases ok with
  |false=>rfl
  |true=>
   obtain⟨h1,h2⟩:=zt4 hF
   have h3:=zns hP h1 (by simp)
   have h4:=h2 (zbD f) (by simp)
   rw[zqY,h3]at h4
   cases h4
 |false=>
  cases ok with
  |true=>rfl
  |false=>
   exfalso
   have hb:(zbY [] f).2.code=0:=zjF (by simp) (by simp) hv
   rw[ziV hb (by decide)]at hP
   have hl:(zkb [] f 0).lim=false:=by
    cases h:(zkb [] f 0).lim with
    |false=>rfl
    |true=>rw[if_pos h]at hP;simp at hP
   have hk:(zkb [] f 0).ok=false:=by
    cases h:(zkb [] f 0).ok with
    |false=>rfl
    |true=>rw[if_neg (by simp[hl]),if_neg (by simp[h])]at hP;simp at hP
   have hbr:zbs [] f=[zbD f]:=by
    unfold zbs zmb
    rw[List.map_nil,List.nil_append]
    exact congrArg (fun x=>[x]) (zcW ho)
   have hB:zbX zdd [zbD f]=⟨[zbD f],[false],[[]],0⟩:=rfl
   unfold zkb at hl hk
   rw[hbr,hB]at hl hk
   have hvf:=zb4 hv
   have hok:okH (zaL [zbD f]) (zhK [zbD f]) (zbD f):=by
    refine zfR ⟨ho,hvf,fun w hw=>zJC.2 ⟨zbD f,by simp,by rw[zpW];exact hw⟩,fun q hq=>zhT.2 ⟨zbD f,by simp,by rw[zxJ];exact hq⟩⟩
   obtain⟨l,he⟩:=zpe (fun g hg=>zuM hg) 301 _ 0 hk hl rfl ⟨rfl,fun i h h2 h3=>by
    have h4:i=0:=by simpa using h2
    subst h4
    simp at h3⟩ (fun g hg=>by rw[List.mem_singleton.1 hg];exact hok)
   exact zDF (zr3 hc) hF he
end Go.Proofs.YtkkffhphodngkaaGreatDoor
namespace Go.Proofs.YtkkffhphodngkaaGreatDoor
open Go Go.Abs Go.Proofs
def orG:Abs.zab:= .mk 6 ⟨[]⟩ [] [zCt,zbD zCt]
def orB:List Abs.zab:=[zbD orG]
theorem zHK:∃p,zfg [] orG 0=(p,true,⟨0,0⟩):=by
 have hb:zbs [] orG=orB:=by
  unfold zbs zmb zob
  rw[List.map_nil,List.nil_append]
  have h:zaD (zbD orG) []=zbD orG:=by kernel_rfl
  rw[h];rfl
 have h1:(zhJ 0 301 (zbX zdd orB) 0).ok=true:=by kernel_rfl
 have h2:(zhJ 0 301 (zbX zdd orB) 0).lim=false:=by kernel_rfl
 have h3:zkb [] orG 0=zhJ 0 301 (zbX zdd orB) 0:=by unfold zkb;rw[hb]
 refine⟨(zhJ 0 301 (zbX zdd orB) 0).p,?_⟩
 rw[ziV (zjF (by simp) (by simp) (by kernel_rfl)) (by decide),h3,if_neg (by simp[h2]),if_neg (by simp[h1])]
def zbR:Tv:=(.q 0 (.q 1 (.q 2 (.q 3 (.q 4 (.q 5 (.q 6 (.q 7 (.q 8 (.br [(9,(.br [(10,(.br [(11,(.q 12 (.br [(13,.leaf)])))]))])),(10,(.br [(9,(.br [(11,(.q 12 (.br [(13,.leaf)])))]))]))]))))))))))
set_option maxHeartbeats 8000000 in
theorem zxq (hT:zan Tryz.prog GA Op1)(f:Abs.zab)(_:(enc f).Wf):zau Tryz.prog GA 3 [.fz (enc f)] (hpL []) 0 (fun d _ _=>d= .fz (.b true)):=by
 have dK:Str.mk [107,105,109]=zHv:=rfl
 have dD:Str.mk [100,111,103]=zGd:=rfl
 have dP:zAD zGd [zHv]=zCt:=rfl
 have eT:zH0 6 zCt (zbD zCt)=orG:=rfl
 obtain⟨p0,hx0⟩:=zHK
 obtain⟨c,hCh⟩:∃c,zaw false f=c:=⟨_,rfl⟩
 by_cases b0:c.code=0
 rotate_left
 ·have a0:(c.code=0)=False:=eq_false b0
  have hfit:True:=trivial
  have hOp:True:=trivial
  have hCs:True:=trivial
  refine zag (N:=72) Go.Proofs.YtkkffhphodngkaaGreatDoor.hm hT 3000 (lst [1000002]) ok3 Tryz.func3 rfl rfl (by simp) (by kernel_rfl) ?_
  repeat'(first|refine zaC (id:=2) Go.Proofs.YtkkffhphodngkaaGreatDoor.hm hT 3000 (lst [1000002]) zbR (by kernel_rfl) (by kernel_rfl) ?_|refine zaJ.i hfit fun _=>?_|refine And.intro ?_ ?_|exact True.intro|refine rq fun _=>?_|refine rf fun _=>?_|simp only[go_sem,a0,zaz,zdv,zeB,GA,zac,zae,zai,zaa,hx0,dK,dD,dP,eT,hCh,hOp,hCs,zbR,Tryz.f3,Op1,Op0])
  all_goals first|done|rfl|omega
 have hc0:c=⟨0,0⟩:=by rw[←hCh];exact zew (by rw[hCh];exact b0)
 subst hc0
 have hv:(zaw false f).code=0:=by rw[hCh]
 have hfit:f.fit=true∧f.size≤1000:=⟨zb3 hv,by have:=za7 hv;omega⟩
 cases hOp:opn f with
 |false=>
  have hCs:True:=trivial
  refine zag (N:=72) Go.Proofs.YtkkffhphodngkaaGreatDoor.hm hT 3000 (lst [1000002]) ok3 Tryz.func3 rfl rfl (by simp) (by kernel_rfl) ?_
  repeat'(first|refine zaC (id:=2) Go.Proofs.YtkkffhphodngkaaGreatDoor.hm hT 3000 (lst [1000002]) zbR (by kernel_rfl) (by kernel_rfl) ?_|refine zaJ.i hfit fun _=>?_|refine And.intro ?_ ?_|exact True.intro|refine rq fun _=>?_|refine rf fun _=>?_|simp only[go_sem,zaz,zdv,zeB,GA,zac,zae,zai,zaa,hx0,dK,dD,dP,eT,hCh,hOp,hCs,zbR,Tryz.f3,Op1,Op0])
  all_goals first|done|rfl|omega
 |true=>
 obtain⟨cs,hCs⟩:∃cs,zjg f [] []=cs:=⟨_,rfl⟩
 by_cases h3:cs.length≤3
 rotate_left
 ·have a3:((3:Int)<(cs.length:Int))=True:=eq_true (by omega)
  refine zag (N:=72) Go.Proofs.YtkkffhphodngkaaGreatDoor.hm hT 3000 (lst [1000002]) ok3 Tryz.func3 rfl rfl (by simp) (by kernel_rfl) ?_
  repeat'(first|refine zaC (id:=2) Go.Proofs.YtkkffhphodngkaaGreatDoor.hm hT 3000 (lst [1000002]) zbR (by kernel_rfl) (by kernel_rfl) ?_|refine zaJ.i hfit fun _=>?_|refine And.intro ?_ ?_|exact True.intro|refine rq fun _=>?_|refine rf fun _=>?_|simp only[go_sem,a3,zaz,zdv,zeB,GA,zac,zae,zai,zaa,hx0,dK,dD,dP,eT,hCh,hOp,hCs,zbR,Tryz.f3,Op1,Op0])
  all_goals first|done|rfl|omega
 have a3:((3:Int)<(cs.length:Int))=False:=eq_false (by omega)
 obtain⟨r,hP⟩:∃r,zfg [] f 0=r:=⟨_,rfl⟩
 obtain⟨p,ok,e⟩:=r
 obtain⟨r,hF⟩:∃r,zgQ [zbD f] 3=r:=⟨_,rfl⟩
 obtain⟨m,has,d⟩:=r
 have hag:e=⟨0,0⟩→d=⟨0,0⟩→ok= !has:=fun he hd=>by
  subst he hd
  exact zF2 hOp hv (by rw[hCs];exact h3) hP hF
 by_cases b10:e.code=0
 rotate_left
 ·have a10:(e.code=0)=False:=eq_false b10
  clear hag
  refine zag (N:=72) Go.Proofs.YtkkffhphodngkaaGreatDoor.hm hT 3000 (lst [1000002]) ok3 Tryz.func3 rfl rfl (by simp) (by kernel_rfl) ?_
  repeat'(first|refine zaC (id:=2) Go.Proofs.YtkkffhphodngkaaGreatDoor.hm hT 3000 (lst [1000002]) zbR (by kernel_rfl) (by kernel_rfl) ?_|refine zaJ.i hfit fun _=>?_|refine And.intro ?_ ?_|exact True.intro|refine rq fun _=>?_|refine rf fun _=>?_|simp only[go_sem,a3,hP,hF,a10,zaz,zdv,zeB,GA,zac,zae,zai,zaa,hx0,dK,dD,dP,eT,hCh,hOp,hCs,zbR,Tryz.f3,Op1,Op0])
  all_goals first|done|rfl|omega
 have a10:(e.code=0)=True:=eq_true b10
 by_cases b11:e.index=0
 rotate_left
 ·have a11:(e.index=0)=False:=eq_false b11
  clear hag
  refine zag (N:=72) Go.Proofs.YtkkffhphodngkaaGreatDoor.hm hT 3000 (lst [1000002]) ok3 Tryz.func3 rfl rfl (by simp) (by kernel_rfl) ?_
  repeat'(first|refine zaC (id:=2) Go.Proofs.YtkkffhphodngkaaGreatDoor.hm hT 3000 (lst [1000002]) zbR (by kernel_rfl) (by kernel_rfl) ?_|refine zaJ.i hfit fun _=>?_|refine And.intro ?_ ?_|exact True.intro|refine rq fun _=>?_|refine rf fun _=>?_|simp only[go_sem,a3,hP,hF,a10,a11,zaz,zdv,zeB,GA,zac,zae,zai,zaa,hx0,dK,dD,dP,eT,hCh,hOp,hCs,zbR,Tryz.f3,Op1,Op0])
  all_goals first|done|rfl|omega
 have a11:(e.index=0)=True:=eq_true b11
 by_cases b12:d.code=0
 rotate_left
 ·have a12:(d.code=0)=False:=eq_false b12
  clear hag
  refine zag (N:=72) Go.Proofs.YtkkffhphodngkaaGreatDoor.hm hT 3000 (lst [1000002]) ok3 Tryz.func3 rfl rfl (by simp) (by kernel_rfl) ?_
  repeat'(first|refine zaC (id:=2) Go.Proofs.YtkkffhphodngkaaGreatDoor.hm hT 3000 (lst [1000002]) zbR (by kernel_rfl) (by kernel_rfl) ?_|refine zaJ.i hfit fun _=>?_|refine And.intro ?_ ?_|exact True.intro|refine rq fun _=>?_|refine rf fun _=>?_|simp only[go_sem,a3,hP,hF,a10,a11,a12,zaz,zdv,zeB,GA,zac,zae,zai,zaa,hx0,dK,dD,dP,eT,hCh,hOp,hCs,zbR,Tryz.f3,Op1,Op0])
  all_goals first|done|rfl|omega
 have a12:(d.code=0)=True:=eq_true b12
 by_cases b13:d.index=0
 rotate_left
 ·have a13:(d.index=0)=False:=eq_false b13
  clear hag
  refine zag (N:=72) Go.Proofs.YtkkffhphodngkaaGreatDoor.hm hT 3000 (lst [1000002]) ok3 Tryz.func3 rfl rfl (by simp) (by kernel_rfl) ?_
  repeat'(first|refine zaC (id:=2) Go.Proofs.YtkkffhphodngkaaGreatDoor.hm hT 3000 (lst [1000002]) zbR (by kernel_rfl) (by kernel_rfl) ?_|refine zaJ.i hfit fun _=>?_|refine And.intro ?_ ?_|exact True.intro|refine rq fun _=>?_|refine rf fun _=>?_|simp only[go_sem,a3,hP,hF,a10,a11,a12,a13,zaz,zdv,zeB,GA,zac,zae,zai,zaa,hx0,dK,dD,dP,eT,hCh,hOp,hCs,zbR,Tryz.f3,Op1,Op0])
  all_goals first|done|rfl|omega
 have a13:(d.index=0)=True:=eq_true b13
 have hE:ok= !has:=hag (by cases e;simp only at b10 b11;rw[b10,b11]) (by cases d;simp only at b12 b13;rw[b12,b13])
 clear hag
 subst hE
 cases has with
 |true=>
  refine zag (N:=72) Go.Proofs.YtkkffhphodngkaaGreatDoor.hm hT 3000 (lst [1000002]) ok3 Tryz.func3 rfl rfl (by simp) (by kernel_rfl) ?_
  repeat'(first|refine zaC (id:=2) Go.Proofs.YtkkffhphodngkaaGreatDoor.hm hT 3000 (lst [1000002]) zbR (by kernel_rfl) (by kernel_rfl) ?_|refine zaJ.i hfit fun _=>?_|refine And.intro ?_ ?_|exact True.intro|refine rq fun _=>?_|refine rf fun _=>?_|simp only[go_sem,a3,hP,hF,a10,a11,a12,a13,zaz,zdv,zeB,GA,zac,zae,zai,zaa,hx0,dK,dD,dP,eT,hCh,hOp,hCs,zbR,Tryz.f3,Op1,Op0])
  all_goals first|done|rfl|omega
 |false=>
  refine zag (N:=72) Go.Proofs.YtkkffhphodngkaaGreatDoor.hm hT 3000 (lst [1000002]) ok3 Tryz.func3 rfl rfl (by simp) (by kernel_rfl) ?_
  repeat'(first|refine zaC (id:=2) Go.Proofs.YtkkffhphodngkaaGreatDoor.hm hT 3000 (lst [1000002]) zbR (by kernel_rfl) (by kernel_rfl) ?_|refine zaJ.i hfit fun _=>?_|refine And.intro ?_ ?_|exact True.intro|refine rq fun _=>?_|refine rf fun _=>?_|simp only[go_sem,a3,hP,hF,a10,a11,a12,a13,zaz,zdv,zeB,GA,zac,zae,zai,zaa,hx0,dK,dD,dP,eT,hCh,hOp,hCs,zbR,Tryz.f3,Op1,Op0])
  all_goals first|done|rfl|omega
end Go.Proofs.YtkkffhphodngkaaGreatDoor

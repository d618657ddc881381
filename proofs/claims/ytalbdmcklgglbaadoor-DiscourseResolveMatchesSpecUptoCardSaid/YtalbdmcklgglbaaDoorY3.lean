/- several texts of this proof in one; no conditions -/
import Derived.Test.YtalbdmcklgglbaaDoorAT
import Derived.Test.YtalbdmcklgglbaaDoorY2
import Derived.Test.YtalbdmcklgglbaaDoorY6
set_option maxRecDepth 100000
set_option maxHeartbeats 1000000
set_option linter.unusedSimpArgs false
namespace Go.Proofs.YtalbdmcklgglbaaDoor
open Go Go.Abs Go.Proofs
theorem zlZ:∀{cs:List Abs.zal} {i:Nat} (h:i<cs.length),cs.length+Box.tots cs[i].boxes≤zal.tots cs
 |c::cs,0,_=>by
  have h1:=@zal.tots_len cs
  rw[zal.tots,zal.tot_eq,List.length_cons,List.getElem_cons_zero];omega
 |c::cs,i+1,h=>by
  have h1:=zlZ (cs:=cs) (i:=i) (by simpa using h)
  rw[zal.tots,zal.tot_eq,List.length_cons,List.getElem_cons_succ];omega
theorem zwN {b:Abs.Box}{c:Abs.zal}{x:Abs.Box}{i k:Nat}(hi:i<b.conds.length)(hc:b.conds[i]=c)(hk:k<c.boxes.length)(hx:c.boxes[k]=x):
  b.conds.length+x.refs.length+zal.tots x.conds≤zal.tots b.conds:=by
 have h1:=zlZ hi
 rw[hc]at h1
 have h2:=Box.tots_get hk
 rw[hx,Box.tot_eq]at h2
 omega
theorem zm5 {b:Abs.Box}{c:Abs.zal}{x:Abs.Box}{i k:Nat}(hi:i<b.conds.length)(hc:b.conds[i]=c)(hk:k<c.boxes.length)(hx:c.boxes[k]=x):
  zjX b i k=some ((if c.kind=3∧(k:Int)=1 then[c.boxes.getD 0 noB]else[])++[x],x):=by
 have h:=zeL hi (by rw[hc];exact hk)
 have e:((k:Int)=1)=(k=1):=propext (by omega)
 simp only[hc,hx]at h
 simp only[e]
 exact h
structure zFL where
 v:Abs.Box
 b:Abs.Box
 rest:List Int
 m:Nat
def Q26:Tbl:=Q25
attribute [go_sem] Q26
theorem zuP:zan Tryd.prog G0 Q26:=zFV
end Go.Proofs.YtalbdmcklgglbaaDoor
namespace Go.Proofs.YtalbdmcklgglbaaDoor
open Go Go.Abs Go.Proofs
def zeX (b:Abs.Box)(path:List Int):List Abs.Box×Bool:=
 match zci b path with
 |none=>([],false)
 |some l=>(b::l,true)
structure zxV where
 l:List Abs.Box
 b:Abs.Box
 bb:Abs.Box
 i:Nat
 g:Nat
 m:Nat
def Q27:Tbl:=Q26.add 56 (zzI zeX fun b path=>path.length % 2=0∧(zcy b).code=0)
attribute [go_sem] Q27
theorem zFW:zan Tryd.prog G0 Q27:=by
 refine zwL zFd zuP fun b0 path hpre hb hpw=>?_
 obtain⟨hev,hc⟩:=hpre
 obtain⟨Q,hQ⟩:∃Q:D→zas→Nat→Prop,Q=(fun d _ _=>D.val d=some (.tup [.fz (enc (zeX b0 path).1),.fz (enc (zeX b0 path).2)])):=⟨_,rfl⟩
 rw[←hQ]
 have h1:∀{H':zas} {n':Nat},zeX b0 path=([],false)→Q (.tup [.full [],.fz (.b false)]) H' n':=fun e=>by rw[hQ,e];rfl
 have h2:∀{l:List Abs.Box} {id:Abs.Id} {H':zas} {n':Nat},zeX b0 path=(l,true)→Q (.tup [.ow id 2 (l.map enc),.fz (.b true)]) H' n':=fun e=>by rw[hQ,e];rfl
 have hpl:path.length≤zaZ:=by
  have:=zc1 hpw
  simpa using this
 unfold zaZ at hpl
 have k1:=Kp.mk @h1
 have k2:=Kp.mk @h2
 clear h1 h2 hQ hpw
 obtain⟨hok,htot⟩:=zhb hc
 rw[Box.tot_eq]at htot
 refine zaj (N:=85) hm zuP 56000 (lsw [75,83] [1000008]) zFd Tryd.func56 rfl rfl (by simp) (by kernel_rfl) ?_
 repeat'(first|refine rq fun _=>?_|simp only[go_sem,Tryd.f56])
 refine zar hm zuP 56000 (lsw [75,83] [1000008]) (ι:={q:zxV // Kp (q.g<q.m∧q.i≤path.length∧q.i % 2=0∧(∃pre,q.l=b0::pre∧zci b0 path=(zci q.b (path.drop q.i)).map (pre++·))∧(∃l',q.l=l'++[q.b])∧q.l.length+2*zal.tots q.b.conds≤801)})
  ⟨fun q=>⟨frL [(1,.fz (.sl (path.map enc))),(2,.ptr (56002,0) 0),(6,.ow (56083,q.1.g) 2 (q.1.l.map enc)),(7,.fz (.i .i64 q.1.i)),(4,.full []),(5,.fz (.b false))],
   hpL [((56002,0),some ⟨[.fz (.sl (q.1.bb.refs.map enc)),.fz (.sl (q.1.bb.conds.map enc))],true,false⟩),((56083,q.1.g),some tok)],q.1.m⟩,fun q=>path.length-q.1.i⟩
  ⟨⟨[b0],b0,b0,0,1,2⟩,⟨by simp only;omega,by simp only;omega,rfl,⟨[],rfl,by simp only[List.nil_append,List.drop_zero];cases zci b0 path<;>rfl⟩,⟨[],rfl⟩,by simp only[List.length_singleton];omega⟩⟩ (by kernel_rfl) ?_ ?_
 ·refine zaO [] [(56083,1)] [] ?_ ?_ ?_ ?_ ?_<;>simp only[go_sem]
  all_goals rfl
 rintro⟨⟨l,b,bb,i,g,m⟩,kp⟩
 obtain⟨hg,hi,hi2,⟨pre,hl,hre⟩,⟨l',hl'⟩,hle⟩:=kp.out
 try simp only at hg hi hi2 hl hre hl' hle
 have kre:=Kp.mk hre
 have kl:=Kp.mk hl
 have hll:l.length=l'.length+1:=by rw[hl',List.length_append,List.length_singleton]
 have e1:((l.length:Int)-1).toNat=l'.length:=by omega
 have hgl:(List.map enc l).getD l'.length FD.nilf= .agg [.sl (b.refs.map enc),.sl (b.conds.map enc)]:=by
  rw[hl',List.map_append,List.getD_eq_getElem?_getD,List.getElem?_append_right (by simp)]
  simp[zaQ]
 have e2:((i:Int)+1).toNat=i+1:=by omega
 have c2:(((i+2:Nat):Int))=(i:Int)+2:=by omega
 rcases Nat.lt_or_ge (i+1) path.length with hlt|hge
 rotate_left
 ·have hx:¬(i:Int)+1<path.length:=by omega
  have hdr:path.drop i=[]:=List.drop_of_length_le (by omega)
  repeat'(first|refine rq fun _=>?_|simp only[go_sem,hx,Tryd.f56])
  exact k2.out (by unfold zeX;rw[kre.out,hdr,kl.out];simp[zci])
 have hlt0:i<path.length:=by omega
 have hx:(i:Int)+1<path.length:=by omega
 have hdr:path.drop i=path[i]::path[i+1]::path.drop (i+2):=by
  rw[List.drop_eq_getElem_cons hlt0,List.drop_eq_getElem_cons hlt]
 obtain⟨a,ha⟩:∃a,path[i]=a:=⟨_,rfl⟩
 obtain⟨k,hk'⟩:∃k,path[i+1]=k:=⟨_,rfl⟩
 rw[ha,hk']at hdr
 have hnone:zjX b a k=none→∀{H' n'},Q (.tup [.full [],.fz (.b false)]) H' n':=fun h H' n'=>k1.out (by unfold zeX;rw[kre.out,hdr,zci,h];rfl)
 have kn:=Kp.mk @hnone
 have kd:=Kp.mk hdr
 clear hnone hdr hre hl hl'
 rcases Int.lt_or_le a 0 with hi0|hi0
 ·repeat'(first|refine rq fun _=>?_|simp only[go_sem,hx,hlt0,hlt,ha,hk',e1,e2,hgl,hi0,zaa,Int.toNat_natCast,Tryd.f56])
  exact kn.out (zh0 (.inl hi0))
 obtain⟨a,rfl⟩:=Int.eq_ofNat_of_zero_le hi0
 have ha0:¬(a:Int)<0:=by omega
 rcases Nat.lt_or_ge a b.conds.length with hi1|hi1
 rotate_left
 ·have ha2:(b.conds.length:Int)≤a:=by omega
  repeat'(first|refine rq fun _=>?_|simp only[go_sem,hx,hlt0,hlt,ha,hk',e1,e2,hgl,ha0,ha2,zaa,Int.toNat_natCast,Tryd.f56])
  exact kn.out (zh0 (.inr ha2))
 have ha2:¬(b.conds.length:Int)≤a:=by omega
 obtain⟨c,hci⟩:∃c,b.conds[a]=c:=⟨_,rfl⟩
 rcases Int.lt_or_le k 0 with hk|hk
 ·repeat'(first|refine rq fun _=>?_|refine zdO hm zuP 56000 (lsw [75,83] [1000008]) (by kernel_rfl) ?_|simp only[go_sem,hx,hlt0,hlt,ha,hk',e1,e2,hgl,ha0,ha2,hi1,hci,hk,zaa,Int.toNat_natCast,Tryd.f56])
  exact kn.out (zh1 hi1 (.inl hk))
 obtain⟨k,rfl⟩:=Int.eq_ofNat_of_zero_le hk
 have hk0:¬(k:Int)<0:=by omega
 rcases Nat.lt_or_ge k c.boxes.length with hk1|hk1
 rotate_left
 ·have hk2:(c.boxes.length:Int)≤k:=by omega
  repeat'(first|refine rq fun _=>?_|refine zdO hm zuP 56000 (lsw [75,83] [1000008]) (by kernel_rfl) ?_|simp only[go_sem,hx,hlt0,hlt,ha,hk',e1,e2,hgl,ha0,ha2,hi1,hci,hk0,hk2,zaa,Int.toNat_natCast,Tryd.f56])
  exact kn.out (zh1 hi1 (.inr (by rw[hci];exact hk2)))
 have hk2:¬(c.boxes.length:Int)≤k:=by omega
 obtain⟨x,hxk⟩:∃x,c.boxes[k]=x:=⟨_,rfl⟩
 have hst:=zm5 hi1 hci hk1 hxk
 have hl1:=zwN hi1 hci hk1 hxk
 have hre2:∀{z:List Abs.Box},z=(if c.kind=3∧(k:Int)=1 then[c.boxes.getD 0 noB]else[])++[x]→l++z=b0::(pre++z)∧zci b0 path=(zci x (path.drop (i+2))).map ((pre++z)++·):=fun e=>by
  refine⟨by rw[kl.out];rfl,?_⟩
  rw[kre.out,kd.out,zci,hst]
  simp only
  rw[Option.map_map,e]
  congr 1
  funext z
  simp only[Function.comp,List.append_assoc]
 have kr2:=Kp.mk @hre2
 clear hst hre2
 have hlc:=Nat.le_trans (Nat.succ_le_of_lt (Nat.lt_of_le_of_lt (Nat.zero_le _) hi1)) (@zal.tots_len b.conds)
 by_cases h3:c.kind=3∧(k:Int)=1
 ·have hb3:=eq_true h3.1
  have hb1:=eq_true h3.2
  have hp0:0<c.boxes.length:=by omega
  obtain⟨y,hy⟩:∃y,c.boxes[0]=y:=⟨_,rfl⟩
  have hz:[y,x]=(if c.kind=3∧(k:Int)=1 then[c.boxes.getD 0 noB]else[])++[x]:=by
   rw[if_pos h3,List.getD_eq_getElem?_getD,List.getElem?_eq_getElem hp0];simp[hy]
  repeat'(first|refine rq fun _=>?_|refine zaH.i (zbf (by omega) (by decide)) fun _=>?_|refine zdO hm zuP 56000 (lsw [75,83] [1000008]) (by kernel_rfl) ?_|simp only[go_sem,hx,hlt0,hlt,ha,hk',e1,e2,hgl,ha0,ha2,hi1,hci,hk0,hk2,hk1,hxk,hb3,hb1,hp0,hy,zaa,Int.toNat_natCast,Int.toNat_zero,Tryd.f56])
  refine⟨⟨⟨l++[y,x],x,b,i+2,m+1+1,m+1+1+1⟩,⟨by simp only;omega,by simp only;omega,by simp only;omega,⟨pre++[y,x],kr2.out hz⟩,⟨l++[y],by simp⟩,by simp only[List.length_append,List.length_cons,List.length_nil];omega⟩⟩,by simp only;omega,?_⟩
  refine zah ?_ ?_ ?_<;>simp only[go_sem,List.map_append,List.append_assoc,c2]
 have hz:[x]=(if c.kind=3∧(k:Int)=1 then[c.boxes.getD 0 noB]else[])++[x]:=by rw[if_neg h3];rfl
 have hcases:c.kind=3∧¬(k:Int)=1∨¬c.kind=3:=by
  by_cases h4:c.kind=3
  ·exact .inl ⟨h4,fun h=>h3 ⟨h4,h⟩⟩
  ·exact .inr h4
 rcases hcases with⟨h4,h5⟩|h4
 ·have hb3:=eq_true h4
  have hb1:=eq_false h5
  repeat'(first|refine rq fun _=>?_|refine zaH.i (zbf (by omega) (by decide)) fun _=>?_|refine zdO hm zuP 56000 (lsw [75,83] [1000008]) (by kernel_rfl) ?_|simp only[go_sem,hx,hlt0,hlt,ha,hk',e1,e2,hgl,ha0,ha2,hi1,hci,hk0,hk2,hk1,hxk,hb3,hb1,zaa,Int.toNat_natCast,Int.toNat_zero,Tryd.f56])
  refine⟨⟨⟨l++[x],x,b,i+2,m+1,m+1+1⟩,⟨by simp only;omega,by simp only;omega,by simp only;omega,⟨pre++[x],kr2.out hz⟩,⟨l,rfl⟩,by simp only[List.length_append,List.length_cons,List.length_nil];omega⟩⟩,by simp only;omega,?_⟩
  refine zah ?_ ?_ ?_<;>simp only[go_sem,List.map_append,List.append_assoc,c2]
 ·have hb3:=eq_false h4
  repeat'(first|refine rq fun _=>?_|refine zaH.i (zbf (by omega) (by decide)) fun _=>?_|refine zdO hm zuP 56000 (lsw [75,83] [1000008]) (by kernel_rfl) ?_|simp only[go_sem,hx,hlt0,hlt,ha,hk',e1,e2,hgl,ha0,ha2,hi1,hci,hk0,hk2,hk1,hxk,hb3,zaa,Int.toNat_natCast,Int.toNat_zero,Tryd.f56])
  refine⟨⟨⟨l++[x],x,b,i+2,m+1,m+1+1⟩,⟨by simp only;omega,by simp only;omega,by simp only;omega,⟨pre++[x],kr2.out hz⟩,⟨l,rfl⟩,by simp only[List.length_append,List.length_cons,List.length_nil];omega⟩⟩,by simp only;omega,?_⟩
  refine zah ?_ ?_ ?_<;>simp only[go_sem,List.map_append,List.append_assoc,c2]
end Go.Proofs.YtalbdmcklgglbaaDoor
namespace Go.Proofs.YtalbdmcklgglbaaDoor
open Go Go.Abs Go.Proofs
end Go.Proofs.YtalbdmcklgglbaaDoor
namespace Go.Proofs.YtalbdmcklgglbaaDoor
open Go Go.Abs Go.Proofs
section
variable {P:Program} {G:Nat→List FD} {T:Tbl}
theorem zt9 {α β γ δ ρ σ:Type}[Enc α][Enc β][Enc γ][Enc δ][Enc ρ][Enc σ]{f1 f2:FuncId}(hne:f1≠f2){g1:α→β→ρ}{g2:γ→δ→σ}(m1:α→Nat)(m2:γ→Nat)(hc1:zam P f1)(hc2:zam P f2)(hT:zan P G T)
  (h1:∀n,zan P G ((T.add f1 (sp2 g1 fun a _=>m1 a<n)).add f2 (sp2 g2 fun a _=>m2 a<n))→∀a b,m1 a=n→(enc a).Wf→(enc b).Wf→zav P G f1 [.fz (enc a),.fz (enc b)] (hpL []) 0 (fun d _ _=>D.val d=some (.fz (enc (g1 a b)))))
  (h2:∀n,zan P G ((T.add f1 (sp2 g1 fun a _=>m1 a<n)).add f2 (sp2 g2 fun a _=>m2 a<n))→∀a b,m2 a=n→(enc a).Wf→(enc b).Wf→zav P G f2 [.fz (enc a),.fz (enc b)] (hpL []) 0 (fun d _ _=>D.val d=some (.fz (enc (g2 a b))))):
  zan P G ((T.add f1 (sp2 g1 fun _ _=>True)).add f2 (sp2 g2 fun _ _=>True)):=by
 have key:∀n,zan P G ((T.add f1 (sp2 g1 fun a _=>m1 a<n)).add f2 (sp2 g2 fun a _=>m2 a<n)):=by
  intro n
  induction n with
  |zero=>exact zbr hc2 (zbr hc1 hT fun a _ ha=>by omega) fun a _ ha=>by omega
  |succ n ih=>
   refine zbr hc2 (zbr hc1 hT fun a b ha hw hw2=>?_) fun a b ha hw hw2=>?_
   ·rcases Nat.lt_or_ge (m1 a) n with h3|h3
    ·have h4:=ih f1 (sp2 g1 fun a _=>m1 a<n) [enc a,enc b] _ _ (by simp[Tbl.add,hne]) (zwh) ⟨by rw[dec_enc],by rw[dec_enc],by rw[dec_enc];exact h3⟩
     rw[dec_enc,dec_enc,zdo]at h4
     exact h4
    ·exact h1 n ih a b (by omega) hw hw2
   ·rcases Nat.lt_or_ge (m2 a) n with h3|h3
    ·have h4:=ih f2 (sp2 g2 fun a _=>m2 a<n) [enc a,enc b] _ _ (by simp[Tbl.add]) (zwh) ⟨by rw[dec_enc],by rw[dec_enc],by rw[dec_enc];exact h3⟩
     rw[dec_enc,dec_enc,zdo]at h4
     exact h4
    ·exact h2 n ih a b (by omega) hw hw2
 exact zbr hc2 (zbr hc1 hT fun a b _ hw hw2=>h1 (m1 a) (key _) a b rfl hw hw2) fun a b _ hw hw2=>h2 (m2 a) (key _) a b rfl hw hw2
theorem zjV {α β ρ:Type}[Enc α][Enc β][Enc ρ]{f:FuncId}{g:α→β→ρ}(m:α→Nat)(hc:zam P f)(hT:zan P G T)
  (h:∀n,zan P G (T.add f (sp2 g fun a _=>m a<n))→∀a b,m a=n→(enc a).Wf→(enc b).Wf→zav P G f [.fz (enc a),.fz (enc b)] (hpL []) 0 (fun d _ _=>D.val d=some (.fz (enc (g a b))))):zan P G (T.add f (sp2 g fun _ _=>True)):=by
 have key:∀n,zan P G (T.add f (sp2 g fun a _=>m a<n)):=by
  intro n
  induction n with
  |zero=>exact zbr hc hT fun a _ ha=>by omega
  |succ n ih=>
   refine zbr hc hT fun a b ha hw hw2=>?_
   rcases Nat.lt_or_ge (m a) n with h3|h3
   ·have h4:=ih f (sp2 g fun a _=>m a<n) [enc a,enc b] _ _ (by simp[Tbl.add]) (zwh) ⟨by rw[dec_enc],by rw[dec_enc],by rw[dec_enc];exact h3⟩
    rw[dec_enc,dec_enc,zdo]at h4
    exact h4
   ·exact h n ih a b (by omega) hw hw2
 exact zbr hc hT fun a b _ hw hw2=>h (m a) (key _) a b rfl hw hw2
end
theorem zlb {a b:Abs.zac}(h1:a.kind=b.kind)(h2:a.name=b.name)(h3:a.words=b.words)(h4:a.subs=b.subs):a=b:=by
 cases a;cases b;simp only[zaG,zcd,zcX,zbV]at*;subst h1 h2 h3 h4;rfl
theorem zc4 {α:Type}{a b:List α}(h:a.length=b.length)(h2:a.take a.length=b.take a.length):a=b:=by
 rw[List.take_length]at h2
 rw[h,List.take_length]at h2
 exact h2
def Q28:Tbl:=Q27.add 35 (sp2 (fun a b:Abs.zac=>decide (a=b)) fun _ _=>True)
attribute [go_sem] Q28
theorem zDL:zan Tryd.prog G0 Q28:=by
 refine zjV zac.size zE2 zFW fun n hT a b hn hwa hwb=>?_
 obtain⟨Q,hQ⟩:∃Q:D→zas→Nat→Prop,Q=(fun d _ _=>D.val d=some (.fz (enc (decide (a=b))))):=⟨_,rfl⟩
 rw[←hQ]
 have hf:a≠b→∀{H' n'},Q (.fz (.b false)) H' n':=fun h H' n'=>by rw[hQ];show _=some (D.fz (.b (decide (a=b))));rw[decide_eq_false h];rfl
 have ht:a=b→∀{H' n'},Q (.fz (.b true)) H' n':=fun h H' n'=>by rw[hQ];show _=some (D.fz (.b (decide (a=b))));rw[decide_eq_true h];rfl
 have hsl:a.subs.length≤zaZ:=by
  have h:=zbC (by have h:=hwa;rw[zbA]at h;exact h) (FD.sl (a.subs.map enc)) (by simp)
  have:=zc1 h
  simpa using this
 unfold zaZ at hsl
 have hsz:∀g∈a.subs,g.size<n:=fun g hg=>by have:=zac.size_sub hg;omega
 have kf:=Kp.mk @hf
 have kt:=Kp.mk @ht
 have kz:=Kp.mk hsz
 have kT:=Kp.mk hT
 clear hf ht hQ hwa hwb hsz hT
 refine zaj (N:=54) hm kT.out 35000 (lst []) zE2 Tryd.func35 rfl rfl (by simp) (by kernel_rfl) ?_
 repeat'(first|refine zaB.d (fun _=>?_) (fun _=>?_)|refine zaB.i (fun _=>?_) (fun _=>?_)|refine rq fun _=>?_|simp only[go_sem,Tryd.f35, *])
 all_goals try(refine kf.out (fun e=>?_);subst e;contradiction)
 rename_i e1 e2 e3 e4
 have hlen:a.subs.length=b.subs.length:=by omega
 refine zar hm kT.out 35000 (lst []) (ι:=zd8 a.subs.length fun i=>a.subs.take i=b.subs.take i)
  ⟨fun q=>⟨frL [(2,.ptr (35002,0) 0),(3,.ptr (35003,1) 0),(37,.fz (.i .i64 a.subs.length)),(38,.fz (.i .i64 q.i))],
   hpL [((35002,0),some ⟨[.fz (.i .i64 a.kind),.fz (.s a.name.l),.fz (.sl (a.words.map enc)),.fz (.sl (a.subs.map enc))],true,false⟩),((35003,1),some ⟨[.fz (.i .i64 b.kind),.fz (.s b.name.l),.fz (.sl (b.words.map enc)),.fz (.sl (b.subs.map enc))],true,false⟩)],2⟩,fun q=>a.subs.length-q.i⟩
  ⟨0,by omega,rfl⟩ (by kernel_rfl) ?_ ?_
 ·refine zah ?_ ?_ ?_<;>simp only[go_sem, *]
 rintro⟨i,hi,hpi⟩
 rcases Nat.lt_or_ge i a.subs.length with h1|h1
 ·have h2:i<b.subs.length:=by omega
  obtain⟨x,hx⟩:∃x,a.subs[i]=x:=⟨_,rfl⟩
  obtain⟨y,hy⟩:∃y,b.subs[i]=y:=⟨_,rfl⟩
  have hxs:x.size<n:=kz.out x (by rw[←hx];exact List.getElem_mem h1)
  by_cases hxy:x=y
  ·repeat'(first|refine rq fun _=>?_|simp only[go_sem,h1,h2,hx,hy,hxs,eq_true hxy,zaa,Tryd.f35])
   refine⟨⟨i+1,by omega,?_⟩,by simp only;omega,?_⟩
   ·rw[List.take_succ_eq_append_getElem h1,List.take_succ_eq_append_getElem h2,hpi,hx,hy,hxy]
   ·refine zah ?_ ?_ ?_<;>simp only[go_sem]
  ·repeat'(first|refine rq fun _=>?_|simp only[go_sem,h1,h2,hx,hy,hxs,eq_false hxy,zaa,Tryd.f35])
   exact kf.out fun e=>hxy (by subst e;rw[←hx,←hy])
 ·have h1':¬i<a.subs.length:=by omega
  obtain rfl:i=a.subs.length:=by omega
  repeat'(first|refine rq fun _=>?_|simp only[go_sem,Nat.lt_irrefl,h1',Tryd.f35])
  exact kt.out (zlb e1 e2 e3 (zc4 hlen hpi))
end Go.Proofs.YtalbdmcklgglbaaDoor
namespace Go.Proofs.YtalbdmcklgglbaaDoor
open Go Go.Abs Go.Proofs
theorem znC {a b:Abs.zal}(h1:a.kind=b.kind)(h2:a.name=b.name)(h3:a.form=b.form)(h4:a.boxes=b.boxes):a=b:=by
 cases a;cases b;simp only[zhi,zhj,zhh,zeD]at*;subst h1 h2 h3 h4;rfl
theorem zqg {a b:Abs.Box}(h1:a.refs=b.refs)(h2:a.conds=b.conds):a=b:=by
 cases a;cases b;simp only[zdg,zca]at*;subst h1 h2;rfl
def zva:Tr:=(.node (.cons 0 (.node (.cons 1 (.node (.cons 2 (.node (.cons 3 (.node (.cons 4 (.node (.cons 5 (.node (.cons 7 (.node (.cons 6 (.node (.cons 8 (.node (.cons 9 (.node (.cons 10 (.node (.cons 11 (.node (.cons 12 (.node (.cons 13 .leaf .nil)) .nil)) .nil)) (.cons 11 (.node (.cons 10 (.node (.cons 12 (.node (.cons 13 .leaf .nil)) .nil)) .nil)) .nil))) (.cons 10 (.node (.cons 9 (.node (.cons 11 (.node (.cons 12 (.node (.cons 13 .leaf .nil)) .nil)) .nil)) (.cons 11 (.node (.cons 9 (.node (.cons 12 (.node (.cons 13 .leaf .nil)) .nil)) (.cons 12 (.node (.cons 9 (.node (.cons 13 .leaf .nil)) .nil)) .nil))) .nil))) (.cons 11 (.node (.cons 9 (.node (.cons 10 (.node (.cons 12 (.node (.cons 13 .leaf .nil)) .nil)) .nil)) (.cons 10 (.node (.cons 9 (.node (.cons 12 (.node (.cons 13 .leaf .nil)) .nil)) (.cons 12 (.node (.cons 9 (.node (.cons 13 .leaf .nil)) .nil)) .nil))) .nil))) .nil)))) .nil)) (.cons 10 (.node (.cons 6 (.node (.cons 8 (.node (.cons 9 (.node (.cons 11 (.node (.cons 12 (.node (.cons 13 .leaf .nil)) .nil)) .nil)) (.cons 11 (.node (.cons 9 (.node (.cons 12 (.node (.cons 13 .leaf .nil)) .nil)) (.cons 12 (.node (.cons 9 (.node (.cons 13 .leaf .nil)) .nil)) .nil))) .nil))) .nil)) (.cons 11 (.node (.cons 6 (.node (.cons 8 (.node (.cons 9 (.node (.cons 12 (.node (.cons 13 .leaf .nil)) .nil)) (.cons 12 (.node (.cons 9 (.node (.cons 13 .leaf .nil)) .nil)) .nil))) .nil)) (.cons 12 (.node (.cons 6 (.node (.cons 8 (.node (.cons 9 (.node (.cons 13 .leaf .nil)) .nil)) .nil)) .nil)) .nil))) .nil))) (.cons 11 (.node (.cons 6 (.node (.cons 8 (.node (.cons 9 (.node (.cons 10 (.node (.cons 12 (.node (.cons 13 .leaf .nil)) .nil)) .nil)) (.cons 10 (.node (.cons 9 (.node (.cons 12 (.node (.cons 13 .leaf .nil)) .nil)) (.cons 12 (.node (.cons 9 (.node (.cons 13 .leaf .nil)) .nil)) .nil))) .nil))) .nil)) (.cons 10 (.node (.cons 6 (.node (.cons 8 (.node (.cons 9 (.node (.cons 12 (.node (.cons 13 .leaf .nil)) .nil)) (.cons 12 (.node (.cons 9 (.node (.cons 13 .leaf .nil)) .nil)) .nil))) .nil)) (.cons 12 (.node (.cons 6 (.node (.cons 8 (.node (.cons 9 (.node (.cons 13 .leaf .nil)) .nil)) .nil)) .nil)) .nil))) .nil))) .nil)))) .nil)) .nil)) .nil)) .nil)) .nil)) .nil)) .nil))
def Q29:Tbl:=(Q28.add 12 (sp2 (fun a b:Abs.Box=>decide (a=b)) fun _ _=>True)).add 9 (sp2 (fun a b:List Abs.Box=>decide (a=b)) fun _ _=>True)
attribute [go_sem] Q29
theorem zFX:zan Tryd.prog G0 Q29:=by
  refine zt9 (by decide) (fun b=>2*b.size) (fun l=>2*Box.sizes l+1) zEK ok9 zDL (fun n hT a b hn hwa hwb=>?_) (fun n hT a b hn hwa hwb=>?_)
  · obtain⟨Q,hQ⟩:∃Q:D→zas→Nat→Prop,Q=(fun d _ _=>D.val d=some (.fz (enc (decide (a=b))))):=⟨_,rfl⟩
    rw[←hQ]
    have hf:a≠b→∀{H' n'},Q (.fz (.b false)) H' n':=fun h H' n'=>by rw[hQ];show _=some (D.fz (.b (decide (a=b))));rw[decide_eq_false h];rfl
    have ht:a=b→∀{H' n'},Q (.fz (.b true)) H' n':=fun h H' n'=>by rw[hQ];show _=some (D.fz (.b (decide (a=b))));rw[decide_eq_true h];rfl
    have hsl:a.conds.length≤zaZ:=by
      have h:=zbC (by have h:=hwa;rw[zaQ]at h;exact h) (FD.sl (a.conds.map enc)) (by simp)
      have:=zc1 h
      simpa using this
    unfold zaZ at hsl
    have hsz:∀c∈a.conds,2*Box.sizes c.boxes+1<n:=fun c hc=>by
      have h1:=Box.size_sub hc
      have h2:c.size=Box.sizes c.boxes+1:=by cases c;rw[zal.size];rfl
      omega
    have kf:=Kp.mk @hf
    have kt:=Kp.mk @ht
    have kz:=Kp.mk hsz
    have kT:=Kp.mk hT
    clear hf ht hQ hwa hwb hsz hT hn
    refine zaj (N:=68) hm kT.out 12000 (lst [1000006]) zEK Tryd.func12 rfl rfl (by simp) (by kernel_rfl) ?_
    repeat'(first|refine zaB.d (fun _=>?_) (fun _=>?_)|refine zaB.i (fun _=>?_) (fun _=>?_)|refine rq fun _=>?_|simp only[go_sem,Tryd.f12, *])
    all_goals try(refine kf.out (fun e=>?_);subst e;contradiction)
    rename_i e1 e2
    have hlen:a.conds.length=b.conds.length:=by omega
    refine zar hm kT.out 12000 (lst [1000006]) (ι:=zcp a.conds.length 2 fun i=>a.conds.take i=b.conds.take i)
      ⟨fun q=>⟨frL [(2,.ptr (12002,0) 0),(3,.ptr (12003,1) 0),(25,.fz (.i .i64 a.conds.length)),(26,.fz (.i .i64 q.i))],
        hpL [((12002,0),some ⟨[.fz (.sl (a.refs.map enc)),.fz (.sl (a.conds.map enc))],true,false⟩),((12003,1),some ⟨[.fz (.sl (b.refs.map enc)),.fz (.sl (b.conds.map enc))],true,false⟩)],q.m⟩,fun q=>a.conds.length-q.i⟩
      ⟨0,2,by omega,by omega,rfl⟩ (by kernel_rfl) ?_ ?_
    · refine zah ?_ ?_ ?_<;>simp only[go_sem, *]
    rintro⟨i,m,hi,hm2,hpi⟩
    rcases Nat.lt_or_ge i a.conds.length with h1|h1
    · have h2:i<b.conds.length:=by omega
      obtain⟨x,hx⟩:∃x,a.conds[i]=x:=⟨_,rfl⟩
      obtain⟨y,hy⟩:∃y,b.conds[i]=y:=⟨_,rfl⟩
      have hxs:2*Box.sizes x.boxes+1<n:=kz.out x (by rw[←hx];exact List.getElem_mem h1)
      have hxy:x≠y→a≠b:=fun h e=>h (by subst e;rw[←hx,←hy])
      have kxy:=Kp.mk hxy
      have kp:=Kp.mk hpi
      clear hxy e1 e2
      have hcase:(x.kind=y.kind)=False∨((x.kind=y.kind)=True∧((x.name=y.name)=False∨((x.name=y.name)=True∧((x.form=y.form)=False∨((x.form=y.form)=True∧((x.boxes=y.boxes)=False∨(x.boxes=y.boxes)=True)))))):=by
        by_cases f1:x.kind=y.kind
        · refine .inr ⟨eq_true f1,?_⟩
          by_cases f2:x.name=y.name
          · refine .inr ⟨eq_true f2,?_⟩
            by_cases f3:x.form=y.form
            · refine .inr ⟨eq_true f3,?_⟩
              by_cases f4:x.boxes=y.boxes
              · exact .inr (eq_true f4)
              · exact .inl (eq_false f4)
            · exact .inl (eq_false f3)
          · exact .inl (eq_false f2)
        · exact .inl (eq_false f1)
      have kcase:=Kp.mk hcase
      clear hcase
      repeat'(first|refine rq fun _=>?_|simp only[go_sem,h1,h2,hx,hy,hxs,zaa,Tryd.f12])
      refine zvj (ι:=Nat×Nat) (fun g=>⟨frL [(2,.ptr (12002,0) 0),(3,.ptr (12003,1) 0),(25,.fz (.i .i64 a.conds.length)),(26,.fz (.i .i64 i)),(6,.ptr (12006,g.1) 0),(7,.ptr (12007,g.2) 0)],
        hpL [((12002,0),some ⟨[.fz (.sl (a.refs.map enc)),.fz (.sl (a.conds.map enc))],true,false⟩),((12003,1),some ⟨[.fz (.sl (b.refs.map enc)),.fz (.sl (b.conds.map enc))],true,false⟩),
          ((12006,g.1),some ⟨[.fz (.i .i64 x.kind),.fz (.s x.name.l),.fz (.i .i64 x.form.kind),.fz (.s x.form.name.l),.fz (.sl (x.form.words.map enc)),.fz (.sl (x.form.subs.map enc)),.fz (.sl (x.boxes.map enc))],true,false⟩),
          ((12007,g.2),some ⟨[.fz (.i .i64 y.kind),.fz (.s y.name.l),.fz (.i .i64 y.form.kind),.fz (.s y.form.name.l),.fz (.sl (y.form.words.map enc)),.fz (.sl (y.form.subs.map enc)),.fz (.sl (y.boxes.map enc))],true,false⟩)],m+1+1⟩) (fun g=>?_) (zsV hm kT.out 12000 (lst [1000006]) zva (by kernel_rfl) (by kernel_rfl) ?_)
      rotate_left
      · have hlt:i<b.conds.length:=h2
        repeat'(first|refine And.intro ?_ ?_|exact True.intro|refine rq fun _=>?_|simp only[go_sem,h1,h2,hx,hy,hxs,zaa,zva,Tryd.f12])
        all_goals first
          |(refine⟨(m,m+1),zah ?_ ?_ ?_⟩<;>simp only[go_sem];done)
          |(refine⟨(m+1,m),zah ?_ ?_ ?_⟩<;>simp only[go_sem];done)
      obtain⟨g1,g2⟩:=g
      clear hlen
      rcases kcase.out with f1|⟨f1,f2|⟨f2,f3|⟨f3,f4|f4⟩⟩⟩
      all_goals
        repeat'(first|refine rq fun _=>?_|simp only[go_sem,h1,h2,hx,hy,hxs,zaa,Tryd.f12, *])
        first
        |exact kf.out (kxy.out fun e=>by subst e;simp_all)
        |(refine⟨⟨i+1,m+1+1,by omega,by omega,?_⟩,by simp only;omega,?_⟩
          · rw[List.take_succ_eq_append_getElem h1,List.take_succ_eq_append_getElem h2,hpi,hx,hy,znC (of_eq_true f1) (of_eq_true f2) (of_eq_true f3) (of_eq_true f4)]
          · refine zah ?_ ?_ ?_<;>simp only[go_sem])
    · have h1':¬i<a.conds.length:=by omega
      obtain rfl:i=a.conds.length:=by omega
      repeat'(first|refine rq fun _=>?_|simp only[go_sem,Nat.lt_irrefl,h1',Tryd.f12])
      exact kt.out (zqg e1 (zc4 hlen hpi))
  · obtain⟨Q,hQ⟩:∃Q:D→zas→Nat→Prop,Q=(fun d _ _=>D.val d=some (.fz (enc (decide (a=b))))):=⟨_,rfl⟩
    rw[←hQ]
    have hf:a≠b→∀{H' n'},Q (.fz (.b false)) H' n':=fun h H' n'=>by rw[hQ];show _=some (D.fz (.b (decide (a=b))));rw[decide_eq_false h];rfl
    have ht:a=b→∀{H' n'},Q (.fz (.b true)) H' n':=fun h H' n'=>by rw[hQ];show _=some (D.fz (.b (decide (a=b))));rw[decide_eq_true h];rfl
    have hsl:a.length≤zaZ:=by
      have:=zc1 hwa
      simpa using this
    unfold zaZ at hsl
    have hsz:∀x∈a,2*x.size<n:=fun x hx=>by have:=Box.size_mem hx;omega
    have kf:=Kp.mk @hf
    have kt:=Kp.mk @ht
    have kz:=Kp.mk hsz
    have kT:=Kp.mk hT
    clear hf ht hQ hwa hwb hsz hT hn
    refine zaj (N:=27) hm kT.out 9000 (lst []) ok9 Tryd.func9 rfl rfl (by simp) (by kernel_rfl) ?_
    repeat'(first|refine zaB.d (fun _=>?_) (fun _=>?_)|refine rq fun _=>?_|simp only[go_sem,Tryd.f9])
    all_goals try(refine kf.out (fun e=>?_);subst e;omega)
    rename_i e1
    have hlen:a.length=b.length:=by omega
    refine zar hm kT.out 9000 (lst []) (ι:=zd8 a.length fun i=>a.take i=b.take i)
      ⟨fun q=>⟨frL [(0,.fz (.sl (a.map enc))),(1,.fz (.sl (b.map enc))),(12,.fz (.i .i64 a.length)),(13,.fz (.i .i64 q.i))],hpL [],0⟩,fun q=>a.length-q.i⟩
      ⟨0,by omega,rfl⟩ (by kernel_rfl) ?_ ?_
    · refine zah ?_ ?_ ?_<;>simp only[go_sem]
    rintro⟨i,hi,hpi⟩
    rcases Nat.lt_or_ge i a.length with h1|h1
    · have h2:i<b.length:=by omega
      obtain⟨x,hx⟩:∃x,a[i]=x:=⟨_,rfl⟩
      obtain⟨y,hy⟩:∃y,b[i]=y:=⟨_,rfl⟩
      have hxs:2*x.size<n:=kz.out x (by rw[←hx];exact List.getElem_mem h1)
      by_cases hxy:x=y
      · repeat'(first|refine rq fun _=>?_|simp only[go_sem,h1,h2,hx,hy,hxs,eq_true hxy,zaa,Tryd.f9])
        refine⟨⟨i+1,by omega,?_⟩,by simp only;omega,?_⟩
        · rw[List.take_succ_eq_append_getElem h1,List.take_succ_eq_append_getElem h2,hpi,hx,hy,hxy]
        · refine zah ?_ ?_ ?_<;>simp only[go_sem]
      · repeat'(first|refine rq fun _=>?_|simp only[go_sem,h1,h2,hx,hy,hxs,eq_false hxy,zaa,Tryd.f9])
        exact kf.out fun e=>hxy (by subst e;rw[←hx,←hy])
    · have h1':¬i<a.length:=by omega
      obtain rfl:i=a.length:=by omega
      repeat'(first|refine rq fun _=>?_|simp only[go_sem,Nat.lt_irrefl,h1',Tryd.f9])
      exact kt.out (zc4 hlen hpi)
end Go.Proofs.YtalbdmcklgglbaaDoor

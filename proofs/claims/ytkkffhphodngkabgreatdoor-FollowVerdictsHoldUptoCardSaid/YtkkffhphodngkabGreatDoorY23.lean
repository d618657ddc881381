/- several texts of this proof in one; no conditions -/
import Derived.Test.YtkkffhphodngkabGreatDoorAT
import Derived.Test.YtkkffhphodngkabGreatDoorY18
import Derived.Test.YtkkffhphodngkabGreatDoorY17
import Derived.Test.YtkkffhphodngkabGreatDoorQ115B
import Derived.Test.YtkkffhphodngkabGreatDoorY20
import Derived.Test.YtkkffhphodngkabGreatDoorY13
set_option maxRecDepth 100000
set_option maxHeartbeats 1000000
set_option linter.unusedSimpArgs false
namespace Go.Proofs.YtkkffhphodngkabGreatDoor
open Go Go.Abs Go.Proofs
section
variable {P:Program} {G:Nat→List FD} {T:Tbl}
theorem zy4 {α β ρ:Type}[Enc α][Enc β][Enc ρ]{f:FuncId}{g:α→β→ρ}{pre:α→β→Prop}(m:β→Nat)(hc:zan P f)(hT:zaq P G T)
  (h:∀n,zaq P G (T.add f (sp2 g fun a b=>m b<n∧pre a b))→∀a b,m b=n→pre a b→(enc a).Wf→(enc b).Wf→zaw P G f [.fz (enc a),.fz (enc b)] (hpL []) 0 (fun d _ _=>D.val d=some (.fz (enc (g a b))))):zaq P G (T.add f (sp2 g pre)):=by
 have key:∀n,zaq P G (T.add f (sp2 g fun a b=>m b<n∧pre a b)):=by
  intro n
  induction n with
  |zero=>exact zbC hc hT fun a b ha=>by omega
  |succ n ih=>
   refine zbC hc hT fun a b ha hw hw2=>?_
   rcases Nat.lt_or_ge (m b) n with h1|h1
   ·have h2:=ih f (sp2 g fun a b=>m b<n∧pre a b) [enc a,enc b] _ _ (by simp[Tbl.add]) (zBq) ⟨by rw[dec_enc],by rw[dec_enc],by rw[dec_enc,dec_enc];exact⟨h1,ha.2⟩⟩
    rw[dec_enc,dec_enc,zdV]at h2
    exact h2
   ·exact h n ih a b (by omega) ha.2 hw hw2
 exact zbC hc hT fun a b ha hw hw2=>h (m b) (key _) a b rfl ha hw hw2
end
def zwn:Tv:=(.q 0 (.q 1 (.q 2 (.q 3 (.q 4 .leaf)))))
def zhG:Tv:=(.q 0 (.q 1 (.q 2 (.q 3 (.q 4 (.q 5 (.q 6 (.q 7 (.q 8 (.q 9 (.q 10 (.q 11 (.q 12 (.q 13 (.q 14 (.q 15 (.q 16 (.q 17 (.q 18 (.q 19 .leaf))))))))))))))))))))
def zhH:Tv:=(.q 0 (.q 1 (.q 2 (.q 3 (.q 4 (.q 5 (.q 6 (.q 7 (.q 8 (.q 9 (.q 10 (.q 12 (.br [(11,(.q 13 (.q 14 (.q 15 (.q 16 (.q 17 (.q 18 .leaf))))))),(13,(.q 14 (.br [(11,(.q 15 (.q 16 (.q 17 (.q 18 .leaf))))),(15,(.br [(11,(.q 16 (.q 17 (.q 18 .leaf))))]))])))])))))))))))))
def zfD:Tv:=(.q 0 (.q 1 (.q 2 (.q 3 (.q 4 (.q 5 (.q 6 (.q 7 (.q 8 (.q 9 (.q 10 (.q 11 (.q 12 (.q 13 (.q 15 (.br [(14,(.q 16 (.q 17 (.q 18 (.q 19 (.q 20 (.q 21 (.q 22 (.q 23 (.q 24 (.q 25 (.q 26 (.q 28 (.br [(27,(.q 29 (.q 30 (.q 31 (.q 32 (.q 33 (.q 34 .leaf))))))),(29,(.q 30 (.br [(27,(.q 31 (.q 32 (.q 33 (.q 34 .leaf))))),(31,(.br [(27,(.q 32 (.q 33 (.q 34 .leaf))))]))])))])))))))))))))),(16,(.q 17 (.br [(14,(.q 18 (.q 19 (.q 20 (.q 21 (.q 22 (.q 23 (.q 24 (.q 25 (.q 26 (.q 28 (.br [(27,(.q 29 (.q 30 (.q 31 (.q 32 (.q 33 (.q 34 .leaf))))))),(29,(.q 30 (.br [(27,(.q 31 (.q 32 (.q 33 (.q 34 .leaf))))),(31,(.br [(27,(.q 32 (.q 33 (.q 34 .leaf))))]))])))])))))))))))),(18,(.br [(14,(.q 19 (.q 20 (.q 21 (.q 22 (.q 23 (.q 24 (.q 25 (.q 26 (.q 28 (.br [(27,(.q 29 (.q 30 (.q 31 (.q 32 (.q 33 (.q 34 .leaf))))))),(29,(.q 30 (.br [(27,(.q 31 (.q 32 (.q 33 (.q 34 .leaf))))),(31,(.br [(27,(.q 32 (.q 33 (.q 34 .leaf))))]))])))])))))))))))]))])))]))))))))))))))))
def zfE:Tv:=(.q 0 (.q 1 (.q 2 (.q 3 (.q 4 (.q 5 (.q 6 (.q 7 (.q 8 (.q 9 (.q 10 (.q 11 (.q 12 (.q 13 (.q 14 (.q 15 (.q 16 (.q 17 (.q 18 (.q 19 (.q 20 (.q 22 (.br [(21,(.q 23 (.q 24 (.q 25 (.q 26 (.q 27 (.q 28 .leaf))))))),(23,(.q 24 (.br [(21,(.q 25 (.q 26 (.q 27 (.q 28 .leaf))))),(25,(.br [(21,(.q 26 (.q 27 (.q 28 .leaf))))]))])))])))))))))))))))))))))))
def zei:Tv:=(.q 0 (.q 1 (.q 2 (.q 3 (.q 4 (.q 5 (.q 6 (.q 7 (.q 8 (.q 9 (.q 10 (.q 11 (.q 12 (.q 13 (.q 14 (.q 15 (.q 16 (.q 17 (.q 18 (.q 19 (.q 20 (.q 21 (.q 22 (.q 23 (.q 24 (.q 25 (.q 26 (.q 27 (.q 29 (.br [(28,(.q 30 (.q 31 (.q 32 (.q 33 (.q 34 (.q 35 .leaf))))))),(30,(.q 31 (.br [(28,(.q 32 (.q 33 (.q 34 (.q 35 .leaf))))),(32,(.br [(28,(.q 33 (.q 34 (.q 35 .leaf))))]))])))]))))))))))))))))))))))))))))))
def zml:Tv:=(.q 0 (.q 1 (.q 2 (.q 3 (.q 4 (.q 5 (.q 6 (.q 7 (.q 8 (.q 9 (.q 10 (.q 12 (.br [(11,(.q 13 (.q 14 (.q 15 (.q 16 (.q 17 .leaf)))))),(13,(.q 14 (.br [(11,(.q 15 (.q 16 (.q 17 .leaf)))),(15,(.br [(11,(.q 16 (.q 17 .leaf)))]))])))])))))))))))))
def zhR (l:List Abs.zac)(p:Prf):Prop:=(∀f∈l,brF f)∧l.length+2*p.size≤100000
def Y10:Tbl:=Y9.add 45 (sp2 (fun l p=>zcd p l) zhR)
attribute [go_sem] Y10
theorem zlC {l:List Abs.zac}{i:Int}(h:inL l i=false):¬(0≤i∧i<l.length):=by
 unfold inL at h
 intro⟨h1,h2⟩
 rw[decide_eq_true h1,decide_eq_true h2]at h
 cases h
theorem zpC {l:List Abs.zac}{i:Int}(h:inL l i=true):0≤i∧i<l.length:=by
 unfold inL at h
 simp only[Bool.and_eq_true,decide_eq_true_eq]at h
 exact h
theorem zHK {l:List Abs.zac}{i:Int}{id:Abs.Id}{H:zav}{n:Nat}{R:D→zav→Nat→Prop}(_hid:id.2<n)(ho:H id=some ⟨[.fz (.sl (l.map enc))],true,false⟩)(h0:¬(0≤i∧i<l.length))(hR:∀n',n≤n'→R (.fz (.b false)) H n'):
  zaw Tryz.prog GA 69 [.fz (.i .i64 i),.ptr id 0] H n R:=by
 refine zby zG1 (fun hfr=>?_) hR
 obtain⟨Q,hQ⟩:∃Q:D→zav→Nat→Prop,Q=(fun d' H' n'=>d'= .fz (.b false)∧n≤n'∧∀id,id.2<n→H' id=H id):=⟨_,rfl⟩
 rw[←hQ]
 have e:H=hpX [] H:=rfl
 rw[e]
 refine zae (N:=12) hm hY9 69000 (lst []) zG1 Tryz.func69 rfl rfl (by simp) (by kernel_rfl) ?_
 by_cases h1:0≤i
 ·have hlt:(i<(l.length:Int))=False:=eq_false fun h=>h0 ⟨h1,h⟩
  have hge:(0≤i)=True:=eq_true h1
  repeat'(first|refine And.intro ?_ ?_|exact True.intro|refine rq fun _=>?_|simp only[go_sem,ho,hge,hlt,Tryz.f69,hpX])
  all_goals
   rw[hQ]
   exact⟨rfl,by omega,fun id _=>rfl⟩
 ·have hge:(0≤i)=False:=eq_false h1
  repeat'(first|refine And.intro ?_ ?_|exact True.intro|refine rq fun _=>?_|simp only[go_sem,ho,hge,Tryz.f69,hpX])
  all_goals
   rw[hQ]
   exact⟨rfl,by omega,fun id _=>rfl⟩
set_option maxHeartbeats 16000000 in
theorem zDI:zaq Tryz.prog GA Y10:=by
 refine zy4 Prf.size zge hY9 fun k hT l p hpk hpre _ _=>?_
 obtain⟨hbr,hsz⟩:=hpre
 have hlen:l.length≤1000000:=by omega
 have kT:=Kp.mk hT
 have kb:=Kp.mk hbr
 clear hT hbr
 have ec:zcd p l=zug p.kind p.form p.other p.name (p.subs.map zcd) l:=zfh p l
 unfold zug at ec
 cases hfi:inL l p.form with
 |false=>
  have hfo:=zlC hfi
  rw[if_pos hfi]at ec
  rw[ec]
  refine zae (N:=259) hm kT.out 45000 (lst [1000012,1000014,1000016,1000018,1000020,1000022,1000029]) zge Tryz.func45 rfl rfl (by simp) (by kernel_rfl) ?_
  repeat'(first|refine zak.i (zHK (l:=l) (by simp only;omega) (by simp only[go_sem]) hfo fun n' hn'=>?_)|refine And.intro ?_ ?_|exact True.intro|refine rq fun _=>?_|simp only[go_sem,zal,zab,Tryz.f45])
 |true=>
  have hfo:=zpC hfi
  rw[if_neg (by simp[hfi])]at ec
  obtain⟨fi,hfn⟩:∃n:Nat,p.form=(n:Int):=⟨p.form.toNat,by omega⟩
  have hfl:fi<l.length:=by omega
  obtain⟨f,hf⟩:∃f,l[fi]=f:=⟨_,rfl⟩
  have hfb:brF f:=kb.out f (by rw[←hf];exact List.getElem_mem hfl)
  have haf:atL l p.form=f:=by unfold atL;rw[hfn,Int.toNat_natCast,List.getD_eq_getElem?_getD,List.getElem?_eq_getElem hfl,hf];rfl
  rw[haf]at ec
  obtain⟨pb1,pb2,pb3,pb4⟩:=zeU hfb
  obtain⟨pk,po,pq,pt,hP⟩:∃a b c d,zah f=(a,b,c,d):=⟨_,_,_,_,rfl⟩
  rw[hP]at ec pb1 pb2 pb3 pb4
  simp only at ec pb1 pb2 pb3 pb4
  rw[hfn]at hfo
  by_cases k1:p.kind=1
  ·rw[if_pos k1]at ec
   by_cases h1:p.subs.length=0
   rotate_left
   ·have e:zcd p l=false:=by rw[ec,List.length_map,decide_eq_false h1];rfl
    have h1':((p.subs.length:Int)=0)=False:=eq_false (by omega)
    rw[e]
    refine zae (N:=259) hm kT.out 45000 (lst [1000012,1000014,1000016,1000018,1000020,1000022,1000029]) zge Tryz.func45 rfl rfl (by simp) (by kernel_rfl) ?_
    repeat'(first|refine zak.i (f69 (l:=l) (by simp only;omega) (by simp only[go_sem]) hfo.1 hfo.2 hlen fun n' hn'=>?_)|refine zaA.i hfb fun _=>?_|refine And.intro ?_ ?_|exact True.intro|refine rq fun _=>?_|simp only[go_sem,k1,hfn,hfl,hf,hP,h1',zaa,zal,zab,Tryz.f45])
   have h1':((p.subs.length:Int)=0)=True:=eq_true (by omega)
   cases hoi:inL l p.other with
   |false=>
    have hoo:=zlC hoi
    have e:zcd p l=false:=by rw[ec,hoi];simp
    rw[e]
    refine zae (N:=259) hm kT.out 45000 (lst [1000012,1000014,1000016,1000018,1000020,1000022,1000029]) zge Tryz.func45 rfl rfl (by simp) (by kernel_rfl) ?_
    repeat'(first|refine zak.i (f69 (l:=l) (by simp only;omega) (by simp only[go_sem]) hfo.1 hfo.2 hlen fun n' hn'=>?_)|refine zak.i (zHK (l:=l) (by simp only;omega) (by simp only[go_sem,hfn]) hoo fun n' hn'=>?_)|refine zaA.i hfb fun _=>?_|refine And.intro ?_ ?_|exact True.intro|refine rq fun _=>?_|simp only[go_sem,k1,hfn,hfl,hf,hP,h1',zaa,zal,zab,Tryz.f45])
   |true=>
    have hoo:=zpC hoi
    obtain⟨oi,hon⟩:∃n:Nat,p.other=(n:Int):=⟨p.other.toNat,by omega⟩
    have hol:oi<l.length:=by omega
    obtain⟨g,hg⟩:∃g,l[oi]=g:=⟨_,rfl⟩
    have hgb:brF g:=kb.out g (by rw[←hg];exact List.getElem_mem hol)
    have hag:atL l p.other=g:=by unfold atL;rw[hon,Int.toNat_natCast,List.getD_eq_getElem?_getD,List.getElem?_eq_getElem hol,hg];rfl
    rw[hon]at hoo
    obtain⟨cw,cl⟩:=zuq l
    have hcp:(wfC (zgx l)∧(zgx l).length≤1000000):=⟨cw,by omega⟩
    have hlp:(∀f∈l,brF f)∧l.length≤100000:=⟨kb.out,by omega⟩
    have hcon:zpa (zgx l) f:=⟨hcp,hfb⟩
    have halk:(wfC (zgx l)∧(zgx l).length≤1000000)∧f.fit=true:=⟨hcp,hfb.ft⟩
    have hng:f.fit=true∧f.size≤900:=zeT hfb
    rw[hag,hoi]at ec
    have ec:zcd p l=if p.other=p.form then zmx (zgx l) f else ziP l f g:=by rw[ec,List.length_map,decide_eq_true h1];rfl
    obtain⟨C,hC⟩:∃C,zgx l=C:=⟨_,rfl⟩
    by_cases hof:oi=fi
    ·have e:zcd p l=zmx (zgx l) f:=by rw[ec,if_pos (by omega)]
     have hofT:((oi:Int)=fi)=True:=eq_true (by omega)
     rw[hC]at e hcon
     obtain⟨B,hB⟩:∃B,zmx C f=B:=⟨_,rfl⟩
     rw[e,hB]
     clear e ec halk hcp
     refine zae (N:=259) hm kT.out 45000 (lst [1000012,1000014,1000016,1000018,1000020,1000022,1000029]) zge Tryz.func45 rfl rfl (by simp) (by kernel_rfl) ?_
     repeat'(first|refine zak.i (f69 (l:=l) (by simp only;omega) (by simp only[go_sem]) hfo.1 hfo.2 hlen fun n' hn'=>?_)|refine zak.i (f69 (l:=l) (by simp only;omega) (by simp only[go_sem,hfn]) hoo.1 hoo.2 hlen fun n' hn'=>?_)|refine zaA.i hfb fun _=>?_|refine zaA.i hlp fun _=>?_|refine zaA.i hcon fun _=>?_|refine zar (id:=12) hm kT.out 45000 (lst [1000012,1000014,1000016,1000018,1000020,1000022,1000029]) zwn (by kernel_rfl) (by kernel_rfl) ?_|refine And.intro ?_ ?_|exact True.intro|refine rq fun _=>?_|simp only[go_sem,k1,hfn,hon,hfl,hf,hP,h1',hofT,hC,hB,zwn,zaa,zal,zab,Tryz.f45])
    ·have e:zcd p l=ziP l f g:=by rw[ec,if_neg (by omega)]
     have hofF:((oi:Int)=fi)=False:=eq_false (by omega)
     unfold ziP at e
     rw[hC]at e halk
     obtain⟨X,hX⟩:∃X,zlO f=X:=⟨_,rfl⟩
     have hXg:ngg f=X:=hX
     rw[hXg]at e
     clear ec hcp
     by_cases hs:X=g
     ·have e:zcd p l=true:=by rw[e,decide_eq_true hs];rfl
      have hsT:(X=g)=True:=eq_true hs
      rw[e]
      refine zae (N:=259) hm kT.out 45000 (lst [1000012,1000014,1000016,1000018,1000020,1000022,1000029]) zge Tryz.func45 rfl rfl (by simp) (by kernel_rfl) ?_
      repeat'(first|refine zak.i (f69 (l:=l) (by simp only;omega) (by simp only[go_sem]) hfo.1 hfo.2 hlen fun n' hn'=>?_)|refine zak.i (f69 (l:=l) (by simp only;omega) (by simp only[go_sem,hfn]) hoo.1 hoo.2 hlen fun n' hn'=>?_)|refine zaA.i hfb fun _=>?_|refine zaA.i hlp fun _=>?_|refine zaA.i hng fun _=>?_|refine zaA.i halk fun _=>?_|refine zar (id:=14) hm kT.out 45000 (lst [1000012,1000014,1000016,1000018,1000020,1000022,1000029]) zhG (by kernel_rfl) (by kernel_rfl) ?_|refine And.intro ?_ ?_|exact True.intro|refine rq fun _=>?_|simp only[go_sem,k1,hfn,hon,hfl,hf,hol,hg,hP,h1',hofF,hC,hX,hsT,zhG,zaa,zal,zab,Tryz.f45])
     have hsF:(X=g)=False:=eq_false hs
     rw[decide_eq_false hs,Bool.false_or]at e
     by_cases hg4:g.kind=4
     ·obtain⟨h,hh,s0,_⟩:=zcr hgb (.inl hg4)
      have eG:Abs.zac.mk 4 g.name g.words [h]=g:=by rw[←hg4,←hh];exact zab
      have e:zcd p l=zeI C f h:=by rw[e,decide_eq_true hg4,s0];rfl
      obtain⟨B,hB⟩:∃B,zeI C f h=B:=⟨_,rfl⟩
      rw[e,hB]
      clear e s0
      refine zae (N:=259) hm kT.out 45000 (lst [1000012,1000014,1000016,1000018,1000020,1000022,1000029]) zge Tryz.func45 rfl rfl (by simp) (by kernel_rfl) ?_
      repeat'(first|refine zak.i (f69 (l:=l) (by simp only;omega) (by simp only[go_sem]) hfo.1 hfo.2 hlen fun n' hn'=>?_)|refine zak.i (f69 (l:=l) (by simp only;omega) (by simp only[go_sem,hfn]) hoo.1 hoo.2 hlen fun n' hn'=>?_)|refine zaA.i hfb fun _=>?_|refine zaA.i hlp fun _=>?_|refine zaA.i hng fun _=>?_|refine zaA.i halk fun _=>?_|refine zar (id:=14) hm kT.out 45000 (lst [1000012,1000014,1000016,1000018,1000020,1000022,1000029]) zhG (by kernel_rfl) (by kernel_rfl) ?_|refine And.intro ?_ ?_|exact True.intro|refine rq fun _=>?_|simp only[go_sem,k1,hfn,hon,hfl,hf,hol,hg,hP,h1',hofF,hC,hX,hsF,hg4,hh,eG,hB,zhG,zaa,zal,zab,Tryz.f45])
     ·have e:zcd p l=false:=by rw[e,decide_eq_false hg4];rfl
      rw[e]
      refine zae (N:=259) hm kT.out 45000 (lst [1000012,1000014,1000016,1000018,1000020,1000022,1000029]) zge Tryz.func45 rfl rfl (by simp) (by kernel_rfl) ?_
      repeat'(first|refine zak.i (f69 (l:=l) (by simp only;omega) (by simp only[go_sem]) hfo.1 hfo.2 hlen fun n' hn'=>?_)|refine zak.i (f69 (l:=l) (by simp only;omega) (by simp only[go_sem,hfn]) hoo.1 hoo.2 hlen fun n' hn'=>?_)|refine zaA.i hfb fun _=>?_|refine zaA.i hlp fun _=>?_|refine zaA.i hng fun _=>?_|refine zaA.i halk fun _=>?_|refine zar (id:=14) hm kT.out 45000 (lst [1000012,1000014,1000016,1000018,1000020,1000022,1000029]) zhG (by kernel_rfl) (by kernel_rfl) ?_|refine And.intro ?_ ?_|exact True.intro|refine rq fun _=>?_|simp only[go_sem,k1,hfn,hon,hfl,hf,hol,hg,hP,h1',hofF,hC,hX,hsF,hg4,zhG,zaa,zal,zab,Tryz.f45])
  rw[if_neg k1]at ec
  by_cases k2:p.kind=2
  ·rw[if_pos k2]at ec
   by_cases h1:pk=1
   rotate_left
   ·have e:zcd p l=false:=by rw[ec,decide_eq_false h1];rfl
    rw[e]
    refine zae (N:=259) hm kT.out 45000 (lst [1000012,1000014,1000016,1000018,1000020,1000022,1000029]) zge Tryz.func45 rfl rfl (by simp) (by kernel_rfl) ?_
    repeat'(first|refine zak.i (f69 (l:=l) (by simp only;omega) (by simp only[go_sem]) hfo.1 hfo.2 hlen fun n' hn'=>?_)|refine zaA.i hfb fun _=>?_|refine zar (id:=16) hm kT.out 45000 (lst [1000012,1000014,1000016,1000018,1000020,1000022,1000029]) zhH (by kernel_rfl) (by kernel_rfl) ?_|refine And.intro ?_ ?_|exact True.intro|refine rq fun _=>?_|simp only[go_sem,k2,hfn,hfl,hf,hP,h1,zhH,zaa,zal,zab,Tryz.f45])
   by_cases h2:p.subs.length=1
   rotate_left
   ·have e:zcd p l=false:=by rw[ec,List.length_map,decide_eq_false h2];simp
    have h2':((p.subs.length:Int)=1)=False:=eq_false (by omega)
    rw[e]
    refine zae (N:=259) hm kT.out 45000 (lst [1000012,1000014,1000016,1000018,1000020,1000022,1000029]) zge Tryz.func45 rfl rfl (by simp) (by kernel_rfl) ?_
    repeat'(first|refine zak.i (f69 (l:=l) (by simp only;omega) (by simp only[go_sem]) hfo.1 hfo.2 hlen fun n' hn'=>?_)|refine zaA.i hfb fun _=>?_|refine zar (id:=16) hm kT.out 45000 (lst [1000012,1000014,1000016,1000018,1000020,1000022,1000029]) zhH (by kernel_rfl) (by kernel_rfl) ?_|refine And.intro ?_ ?_|exact True.intro|refine rq fun _=>?_|simp only[go_sem,k2,hfn,hfl,hf,hP,h1,h2',zhH,zaa,zal,zab,Tryz.f45])
   obtain⟨s0,hs0⟩:∃s,p.subs=[s]:=by
    match h:p.subs,h2 with
    |[s],_=>exact⟨s,rfl⟩
   have hs0s:=Prf.size_sub (f:=p) (g:=s0) (by rw[hs0];simp)
   have e:zcd p l=zcd s0 (l++po):=by rw[ec,hs0];simp[h1]
   rw[e]
   have hrec:s0.size<k∧zhR (l++po) s0:=⟨by omega,fun x hx=>by
    rcases List.mem_append.1 hx with hx|hx
    ·exact kb.out x hx
    ·exact pb1 x hx,by rw[List.length_append];omega⟩
   obtain⟨B,hB⟩:∃B,zcd s0 (l++po)=B:=⟨_,rfl⟩
   rw[hB]
   have hpl:po.length≤1000000:=by omega
   clear e ec h2 pb1 pb2 pb4
   refine zae (N:=259) hm kT.out 45000 (lst [1000012,1000014,1000016,1000018,1000020,1000022,1000029]) zge Tryz.func45 rfl rfl (by simp) (by kernel_rfl) ?_
   repeat'(first|refine zak.i (f69 (l:=l) (by simp only;omega) (by simp only[go_sem]) hfo.1 hfo.2 hlen fun n' hn'=>?_)|refine zaA.i hfb fun _=>?_|refine zaA.i hrec fun _=>?_|refine zak.i (f71 (l:=l) (fs:=po) (.inr rfl) (by simp only;omega) (by simp only[go_sem]) hlen hpl fun n' hn'=>?_)|refine zar (id:=16) hm kT.out 45000 (lst [1000012,1000014,1000016,1000018,1000020,1000022,1000029]) zhH (by kernel_rfl) (by kernel_rfl) ?_|refine And.intro ?_ ?_|exact True.intro|refine rq fun _=>?_|simp only[go_sem,k2,hfn,hfl,hf,hP,h1,hs0,hB,zhH,zaa,zal,zab,List.map_append,Tryz.f45])
   all_goals trace_state
  rw[if_neg k2]at ec
  by_cases k3:p.kind=3
  ·rw[if_pos k3]at ec
   by_cases h1:pk=2
   rotate_left
   ·have e:zcd p l=false:=by rw[ec,decide_eq_false h1];rfl
    rw[e]
    refine zae (N:=259) hm kT.out 45000 (lst [1000012,1000014,1000016,1000018,1000020,1000022,1000029]) zge Tryz.func45 rfl rfl (by simp) (by kernel_rfl) ?_
    repeat'(first|refine zak.i (f69 (l:=l) (by simp only;omega) (by simp only[go_sem]) hfo.1 hfo.2 hlen fun n' hn'=>?_)|refine zaA.i hfb fun _=>?_|refine zar (id:=18) hm kT.out 45000 (lst [1000012,1000014,1000016,1000018,1000020,1000022,1000029]) zfD (by kernel_rfl) (by kernel_rfl) ?_|refine And.intro ?_ ?_|exact True.intro|refine rq fun _=>?_|simp only[go_sem,k3,hfn,hfl,hf,hP,h1,zfD,zaa,zal,zab,Tryz.f45])
   by_cases h2:p.subs.length=2
   rotate_left
   ·have e:zcd p l=false:=by rw[ec,List.length_map,decide_eq_false h2];simp
    have h2':((p.subs.length:Int)=2)=False:=eq_false (by omega)
    rw[e]
    refine zae (N:=259) hm kT.out 45000 (lst [1000012,1000014,1000016,1000018,1000020,1000022,1000029]) zge Tryz.func45 rfl rfl (by simp) (by kernel_rfl) ?_
    repeat'(first|refine zak.i (f69 (l:=l) (by simp only;omega) (by simp only[go_sem]) hfo.1 hfo.2 hlen fun n' hn'=>?_)|refine zaA.i hfb fun _=>?_|refine zar (id:=18) hm kT.out 45000 (lst [1000012,1000014,1000016,1000018,1000020,1000022,1000029]) zfD (by kernel_rfl) (by kernel_rfl) ?_|refine And.intro ?_ ?_|exact True.intro|refine rq fun _=>?_|simp only[go_sem,k3,hfn,hfl,hf,hP,h1,h2',zfD,zaa,zal,zab,Tryz.f45])
   obtain⟨s0,s1,hs0⟩:∃s t,p.subs=[s,t]:=by
    match h:p.subs,h2 with
    |[s,t],_=>exact⟨s,t,rfl⟩
   obtain⟨A,B,rfl⟩:∃A B,po=[A,B]:=by
    match po,pb2 h1 with
    |[A,B],_=>exact⟨A,B,rfl⟩
   have hs0s:=Prf.size_sub (f:=p) (g:=s0) (by rw[hs0];simp)
   have hs1s:=Prf.size_sub (f:=p) (g:=s1) (by rw[hs0];simp)
   have e:zcd p l=(zcd s0 (l++[A])&&zcd s1 (l++[B])):=by rw[ec,hs0];simp[h1]
   rw[e]
   have hA:=pb1 A (by simp)
   have hB:=pb1 B (by simp)
   have hrec0:s0.size<k∧zhR (l++[A]) s0:=⟨by omega,fun x hx=>by
    rcases List.mem_append.1 hx with hx|hx
    ·exact kb.out x hx
    ·rw[List.mem_singleton.1 hx];exact hA,by rw[List.length_append,List.length_singleton];omega⟩
   have hrec1:s1.size<k∧zhR (l++[B]) s1:=⟨by omega,fun x hx=>by
    rcases List.mem_append.1 hx with hx|hx
    ·exact kb.out x hx
    ·rw[List.mem_singleton.1 hx];exact hB,by rw[List.length_append,List.length_singleton];omega⟩
   obtain⟨B0,hB0⟩:∃b,zcd s0 (l++[A])=b:=⟨_,rfl⟩
   obtain⟨B1,hB1⟩:∃b,zcd s1 (l++[B])=b:=⟨_,rfl⟩
   rw[hB0,hB1]
   clear e ec h2 pb1 pb2 pb3 pb4 hA hB
   cases B0 with
   |false=>
    refine zae (N:=259) hm kT.out 45000 (lst [1000012,1000014,1000016,1000018,1000020,1000022,1000029]) zge Tryz.func45 rfl rfl (by simp) (by kernel_rfl) ?_
    repeat'(first|refine zak.i (f69 (l:=l) (by simp only;omega) (by simp only[go_sem]) hfo.1 hfo.2 hlen fun n' hn'=>?_)|refine zaA.i hfb fun _=>?_|refine zaA.i hrec0 fun _=>?_|refine zaA.i hrec1 fun _=>?_|refine zak.i (f71 (l:=l) (fs:=[A]) (.inl (congrArg (fun x=>D.full [x]) (zaE (f:=A))).symm) (by simp only;omega) (by simp only[go_sem]) hlen (by simp) fun n' hn'=>?_)|refine zak.i (f71 (l:=l) (fs:=[B]) (.inl (congrArg (fun x=>D.full [x]) (zaE (f:=B))).symm) (by simp only;omega) (by simp only[go_sem]) hlen (by simp) fun n' hn'=>?_)|refine zar (id:=18) hm kT.out 45000 (lst [1000012,1000014,1000016,1000018,1000020,1000022,1000029]) zfD (by kernel_rfl) (by kernel_rfl) ?_|refine And.intro ?_ ?_|exact True.intro|refine rq fun _=>?_|simp only[go_sem,k3,hfn,hfl,hf,hP,h1,hs0,hB0,hB1,zfD,zaa,zal,zab,List.map_append,List.map_cons,List.map_nil,Tryz.f45])
    all_goals trace_state
   |true=>
    refine zae (N:=259) hm kT.out 45000 (lst [1000012,1000014,1000016,1000018,1000020,1000022,1000029]) zge Tryz.func45 rfl rfl (by simp) (by kernel_rfl) ?_
    repeat'(first|refine zak.i (f69 (l:=l) (by simp only;omega) (by simp only[go_sem]) hfo.1 hfo.2 hlen fun n' hn'=>?_)|refine zaA.i hfb fun _=>?_|refine zaA.i hrec0 fun _=>?_|refine zaA.i hrec1 fun _=>?_|refine zak.i (f71 (l:=l) (fs:=[A]) (.inl (congrArg (fun x=>D.full [x]) (zaE (f:=A))).symm) (by simp only;omega) (by simp only[go_sem]) hlen (by simp) fun n' hn'=>?_)|refine zak.i (f71 (l:=l) (fs:=[B]) (.inl (congrArg (fun x=>D.full [x]) (zaE (f:=B))).symm) (by simp only;omega) (by simp only[go_sem]) hlen (by simp) fun n' hn'=>?_)|refine zar (id:=18) hm kT.out 45000 (lst [1000012,1000014,1000016,1000018,1000020,1000022,1000029]) zfD (by kernel_rfl) (by kernel_rfl) ?_|refine And.intro ?_ ?_|exact True.intro|refine rq fun _=>?_|simp only[go_sem,k3,hfn,hfl,hf,hP,h1,hs0,hB0,hB1,zfD,zaa,zal,zab,List.map_append,List.map_cons,List.map_nil,Tryz.f45])
    all_goals trace_state
  rw[if_neg k3]at ec
  by_cases k4:p.kind=4
  ·rw[if_pos k4]at ec
   by_cases h1:pk=3
   rotate_left
   ·have e:zcd p l=false:=by rw[ec,decide_eq_false h1];rfl
    rw[e]
    refine zae (N:=259) hm kT.out 45000 (lst [1000012,1000014,1000016,1000018,1000020,1000022,1000029]) zge Tryz.func45 rfl rfl (by simp) (by kernel_rfl) ?_
    repeat'(first|refine zak.i (f69 (l:=l) (by simp only;omega) (by simp only[go_sem]) hfo.1 hfo.2 hlen fun n' hn'=>?_)|refine zaA.i hfb fun _=>?_|refine zar (id:=20) hm kT.out 45000 (lst [1000012,1000014,1000016,1000018,1000020,1000022,1000029]) zfE (by kernel_rfl) (by kernel_rfl) ?_|refine And.intro ?_ ?_|exact True.intro|refine rq fun _=>?_|simp only[go_sem,k4,hfn,hfl,hf,hP,h1,zfE,zaa,zal,zab,Tryz.f45])
   cases h3:zas p.name with
   |false=>
    have e:zcd p l=false:=by rw[ec,h3];simp
    rw[e]
    refine zae (N:=259) hm kT.out 45000 (lst [1000012,1000014,1000016,1000018,1000020,1000022,1000029]) zge Tryz.func45 rfl rfl (by simp) (by kernel_rfl) ?_
    repeat'(first|refine zak.i (f69 (l:=l) (by simp only;omega) (by simp only[go_sem]) hfo.1 hfo.2 hlen fun n' hn'=>?_)|refine zaA.i hfb fun _=>?_|refine zar (id:=20) hm kT.out 45000 (lst [1000012,1000014,1000016,1000018,1000020,1000022,1000029]) zfE (by kernel_rfl) (by kernel_rfl) ?_|refine And.intro ?_ ?_|exact True.intro|refine rq fun _=>?_|simp only[go_sem,k4,hfn,hfl,hf,hP,h1,h3,zfE,zaa,zad,zal,zab,Tryz.f45])
   |true=>
    by_cases h2:p.subs.length=1
    rotate_left
    ·have e:zcd p l=false:=by rw[ec,List.length_map,decide_eq_false h2];simp
     have h2':((p.subs.length:Int)=1)=False:=eq_false (by omega)
     rw[e]
     refine zae (N:=259) hm kT.out 45000 (lst [1000012,1000014,1000016,1000018,1000020,1000022,1000029]) zge Tryz.func45 rfl rfl (by simp) (by kernel_rfl) ?_
     repeat'(first|refine zak.i (f69 (l:=l) (by simp only;omega) (by simp only[go_sem]) hfo.1 hfo.2 hlen fun n' hn'=>?_)|refine zaA.i hfb fun _=>?_|refine zar (id:=20) hm kT.out 45000 (lst [1000012,1000014,1000016,1000018,1000020,1000022,1000029]) zfE (by kernel_rfl) (by kernel_rfl) ?_|refine And.intro ?_ ?_|exact True.intro|refine rq fun _=>?_|simp only[go_sem,k4,hfn,hfl,hf,hP,h1,h3,h2',zfE,zaa,zad,zal,zab,Tryz.f45])
    obtain⟨s0,hs0⟩:∃s,p.subs=[s]:=by
     match h:p.subs,h2 with
     |[s],_=>exact⟨s,rfl⟩
    have hs0s:=Prf.size_sub (f:=p) (g:=s0) (by rw[hs0];simp)
    obtain⟨a,hqa,hab,has⟩:=pb4 (by omega)
    have hip:zhq pq pt p.name:=⟨a,hqa,hab.ft,by omega⟩
    have hib:=zhr (t:=pt) (nm:=p.name) hqa hab has
    have e:zcd p l=zcd s0 (l++[zbK pq pt p.name]):=by rw[ec,hs0,h3];simp[h1]
    rw[e]
    have hig:zlG pq pt p.name=zbK pq pt p.name:=rfl
    obtain⟨I,hI⟩:∃I,zbK pq pt p.name=I:=⟨_,rfl⟩
    rw[hI]at hib hig
    rw[hI]
    have hrec:s0.size<k∧zhR (l++[I]) s0:=⟨by omega,fun x hx=>by
     rcases List.mem_append.1 hx with hx|hx
     ·exact kb.out x hx
     ·rw[List.mem_singleton.1 hx];exact hib,by rw[List.length_append,List.length_singleton];omega⟩
    obtain⟨B,hB⟩:∃B,zcd s0 (l++[I])=B:=⟨_,rfl⟩
    rw[hB]
    clear e ec h2 pb1 pb2 pb3 pb4 hib hI
    refine zae (N:=259) hm kT.out 45000 (lst [1000012,1000014,1000016,1000018,1000020,1000022,1000029]) zge Tryz.func45 rfl rfl (by simp) (by kernel_rfl) ?_
    repeat'(first|refine zak.i (f69 (l:=l) (by simp only;omega) (by simp only[go_sem]) hfo.1 hfo.2 hlen fun n' hn'=>?_)|refine zaA.i hfb fun _=>?_|refine zaA.i hip fun _=>?_|refine zaA.i hrec fun _=>?_|refine zak.i (f71 (l:=l) (fs:=[I]) (.inl (congrArg (fun x=>D.full [x]) (zaE (f:=I))).symm) (by simp only;omega) (by simp only[go_sem]) hlen (by simp) fun n' hn'=>?_)|refine zar (id:=20) hm kT.out 45000 (lst [1000012,1000014,1000016,1000018,1000020,1000022,1000029]) zfE (by kernel_rfl) (by kernel_rfl) ?_|refine And.intro ?_ ?_|exact True.intro|refine rq fun _=>?_|simp only[go_sem,k4,hfn,hfl,hf,hP,h1,h3,hs0,hig,hB,zfE,zaa,zad,zal,zab,List.map_append,List.map_cons,List.map_nil,Tryz.f45])
    all_goals trace_state
  rw[if_neg k4]at ec
  by_cases k5:p.kind=5
  ·rw[if_pos k5]at ec
   by_cases h1:pk=4
   rotate_left
   ·have e:zcd p l=false:=by rw[ec,decide_eq_false h1];rfl
    rw[e]
    refine zae (N:=259) hm kT.out 45000 (lst [1000012,1000014,1000016,1000018,1000020,1000022,1000029]) zge Tryz.func45 rfl rfl (by simp) (by kernel_rfl) ?_
    repeat'(first|refine zak.i (f69 (l:=l) (by simp only;omega) (by simp only[go_sem]) hfo.1 hfo.2 hlen fun n' hn'=>?_)|refine zaA.i hfb fun _=>?_|refine zar (id:=22) hm kT.out 45000 (lst [1000012,1000014,1000016,1000018,1000020,1000022,1000029]) zei (by kernel_rfl) (by kernel_rfl) ?_|refine And.intro ?_ ?_|exact True.intro|refine rq fun _=>?_|simp only[go_sem,k5,hfn,hfl,hf,hP,h1,zei,zaa,zal,zab,Tryz.f45])
   cases h3:zas p.name with
   |false=>
    have e:zcd p l=false:=by rw[ec,h3];simp
    rw[e]
    refine zae (N:=259) hm kT.out 45000 (lst [1000012,1000014,1000016,1000018,1000020,1000022,1000029]) zge Tryz.func45 rfl rfl (by simp) (by kernel_rfl) ?_
    repeat'(first|refine zak.i (f69 (l:=l) (by simp only;omega) (by simp only[go_sem]) hfo.1 hfo.2 hlen fun n' hn'=>?_)|refine zaA.i hfb fun _=>?_|refine zar (id:=22) hm kT.out 45000 (lst [1000012,1000014,1000016,1000018,1000020,1000022,1000029]) zei (by kernel_rfl) (by kernel_rfl) ?_|refine And.intro ?_ ?_|exact True.intro|refine rq fun _=>?_|simp only[go_sem,k5,hfn,hfl,hf,hP,h1,h3,zei,zaa,zad,zal,zab,Tryz.f45])
   |true=>
    have hlb:∀f∈l,brF f:=kb.out
    cases h4:zEG l p.name with
    |true=>
     have h4':zyH l p.name=true:=h4
     have e:zcd p l=false:=by rw[ec,h4'];simp
     rw[e]
     refine zae (N:=259) hm kT.out 45000 (lst [1000012,1000014,1000016,1000018,1000020,1000022,1000029]) zge Tryz.func45 rfl rfl (by simp) (by kernel_rfl) ?_
     repeat'(first|refine zak.i (f69 (l:=l) (by simp only;omega) (by simp only[go_sem]) hfo.1 hfo.2 hlen fun n' hn'=>?_)|refine zaA.i hfb fun _=>?_|refine zaA.i hlb fun _=>?_|refine zar (id:=22) hm kT.out 45000 (lst [1000012,1000014,1000016,1000018,1000020,1000022,1000029]) zei (by kernel_rfl) (by kernel_rfl) ?_|refine And.intro ?_ ?_|exact True.intro|refine rq fun _=>?_|simp only[go_sem,k5,hfn,hfl,hf,hP,h1,h3,h4,zei,zaa,zad,zal,zab,Tryz.f45])
    |false=>
     have h4':zyH l p.name=false:=h4
     by_cases h2:p.subs.length=1
     rotate_left
     ·have e:zcd p l=false:=by rw[ec,List.length_map,decide_eq_false h2];simp
      have h2':((p.subs.length:Int)=1)=False:=eq_false (by omega)
      rw[e]
      refine zae (N:=259) hm kT.out 45000 (lst [1000012,1000014,1000016,1000018,1000020,1000022,1000029]) zge Tryz.func45 rfl rfl (by simp) (by kernel_rfl) ?_
      repeat'(first|refine zak.i (f69 (l:=l) (by simp only;omega) (by simp only[go_sem]) hfo.1 hfo.2 hlen fun n' hn'=>?_)|refine zaA.i hfb fun _=>?_|refine zaA.i hlb fun _=>?_|refine zar (id:=22) hm kT.out 45000 (lst [1000012,1000014,1000016,1000018,1000020,1000022,1000029]) zei (by kernel_rfl) (by kernel_rfl) ?_|refine And.intro ?_ ?_|exact True.intro|refine rq fun _=>?_|simp only[go_sem,k5,hfn,hfl,hf,hP,h1,h3,h4,h2',zei,zaa,zad,zal,zab,Tryz.f45])
     obtain⟨s0,hs0⟩:∃s,p.subs=[s]:=by
      match h:p.subs,h2 with
      |[s],_=>exact⟨s,rfl⟩
     have hs0s:=Prf.size_sub (f:=p) (g:=s0) (by rw[hs0];simp)
     obtain⟨a,hqa,hab,has⟩:=pb4 (by omega)
     have hip:zhq pq pt p.name:=⟨a,hqa,hab.ft,by omega⟩
     have hib:=zhr (t:=pt) (nm:=p.name) hqa hab has
     have e:zcd p l=zcd s0 (l++[zbK pq pt p.name]):=by rw[ec,hs0,h3,h4'];simp[h1]
     rw[e]
     have hig:zlG pq pt p.name=zbK pq pt p.name:=rfl
     obtain⟨I,hI⟩:∃I,zbK pq pt p.name=I:=⟨_,rfl⟩
     rw[hI]at hib hig
     rw[hI]
     have hrec:s0.size<k∧zhR (l++[I]) s0:=⟨by omega,fun x hx=>by
      rcases List.mem_append.1 hx with hx|hx
      ·exact kb.out x hx
      ·rw[List.mem_singleton.1 hx];exact hib,by rw[List.length_append,List.length_singleton];omega⟩
     obtain⟨B,hB⟩:∃B,zcd s0 (l++[I])=B:=⟨_,rfl⟩
     rw[hB]
     clear e ec h2 pb1 pb2 pb3 pb4 hib hI
     refine zae (N:=259) hm kT.out 45000 (lst [1000012,1000014,1000016,1000018,1000020,1000022,1000029]) zge Tryz.func45 rfl rfl (by simp) (by kernel_rfl) ?_
     repeat'(first|refine zak.i (f69 (l:=l) (by simp only;omega) (by simp only[go_sem]) hfo.1 hfo.2 hlen fun n' hn'=>?_)|refine zaA.i hfb fun _=>?_|refine zaA.i hlb fun _=>?_|refine zaA.i hip fun _=>?_|refine zaA.i hrec fun _=>?_|refine zak.i (f71 (l:=l) (fs:=[I]) (.inl (congrArg (fun x=>D.full [x]) (zaE (f:=I))).symm) (by simp only;omega) (by simp only[go_sem]) hlen (by simp) fun n' hn'=>?_)|refine zar (id:=22) hm kT.out 45000 (lst [1000012,1000014,1000016,1000018,1000020,1000022,1000029]) zei (by kernel_rfl) (by kernel_rfl) ?_|refine And.intro ?_ ?_|exact True.intro|refine rq fun _=>?_|simp only[go_sem,k5,hfn,hfl,hf,hP,h1,h3,h4,hs0,hig,hB,zei,zaa,zad,zal,zab,List.map_append,List.map_cons,List.map_nil,Tryz.f45])
     all_goals trace_state
  rw[if_neg k5]at ec
  by_cases k6:p.kind=6
  ·rw[if_pos k6]at ec
   by_cases h1:f.kind=3
   rotate_left
   ·have e:zcd p l=false:=by rw[ec,decide_eq_false h1];rfl
    rw[e]
    refine zae (N:=259) hm kT.out 45000 (lst [1000012,1000014,1000016,1000018,1000020,1000022,1000029]) zge Tryz.func45 rfl rfl (by simp) (by kernel_rfl) ?_
    repeat'(first|refine zak.i (f69 (l:=l) (by simp only;omega) (by simp only[go_sem]) hfo.1 hfo.2 hlen fun n' hn'=>?_)|refine zaA.i hfb fun _=>?_|refine And.intro ?_ ?_|exact True.intro|refine rq fun _=>?_|simp only[go_sem,k6,hfn,hfl,hf,hP,h1,zaa,zal,zab,Tryz.f45])
   have eF:Abs.zac.mk 3 f.name f.words f.subs=f:=by rw[←h1];exact zab
   cases hoi:inL l p.other with
   |false=>
    have hoo:=zlC hoi
    have e:zcd p l=false:=by rw[ec,hoi];simp
    rw[e]
    refine zae (N:=259) hm kT.out 45000 (lst [1000012,1000014,1000016,1000018,1000020,1000022,1000029]) zge Tryz.func45 rfl rfl (by simp) (by kernel_rfl) ?_
    repeat'(first|refine zak.i (f69 (l:=l) (by simp only;omega) (by simp only[go_sem]) hfo.1 hfo.2 hlen fun n' hn'=>?_)|refine zak.i (zHK (l:=l) (by simp only;omega) (by simp only[go_sem,hfn]) hoo fun n' hn'=>?_)|refine zaA.i hfb fun _=>?_|refine And.intro ?_ ?_|exact True.intro|refine rq fun _=>?_|simp only[go_sem,k6,hfn,hfl,hf,hP,h1,eF,zaa,zal,zab,Tryz.f45])
   |true=>
    have hoo:=zpC hoi
    obtain⟨oi,hon⟩:∃n:Nat,p.other=(n:Int):=⟨p.other.toNat,by omega⟩
    have hol:oi<l.length:=by omega
    obtain⟨g,hg⟩:∃g,l[oi]=g:=⟨_,rfl⟩
    have hgb:brF g:=kb.out g (by rw[←hg];exact List.getElem_mem hol)
    have hag:atL l p.other=g:=by unfold atL;rw[hon,Int.toNat_natCast,List.getD_eq_getElem?_getD,List.getElem?_eq_getElem hol,hg];rfl
    rw[hon]at hoo
    rw[hag,hoi]at ec
    by_cases h2:p.subs.length=1
    rotate_left
    ·have e:zcd p l=false:=by rw[ec,List.length_map,decide_eq_false h2];simp
     have h2':((p.subs.length:Int)=1)=False:=eq_false (by omega)
     rw[e]
     refine zae (N:=259) hm kT.out 45000 (lst [1000012,1000014,1000016,1000018,1000020,1000022,1000029]) zge Tryz.func45 rfl rfl (by simp) (by kernel_rfl) ?_
     repeat'(first|refine zak.i (f69 (l:=l) (by simp only;omega) (by simp only[go_sem]) hfo.1 hfo.2 hlen fun n' hn'=>?_)|refine zak.i (f69 (l:=l) (by simp only;omega) (by simp only[go_sem,hfn]) hoo.1 hoo.2 hlen fun n' hn'=>?_)|refine zaA.i hfb fun _=>?_|refine And.intro ?_ ?_|exact True.intro|refine rq fun _=>?_|simp only[go_sem,k6,hfn,hon,hfl,hf,hP,h1,eF,h2',zaa,zad,zal,zab,Tryz.f45])
    obtain⟨a,b,hab⟩:∃a b,f.words=[a,b]:=by
     have h2:=(zcl.1 hfb.v).2.2.2.1 h1
     match h:f.words,h2 with
     |[a,b],_=>exact⟨a,b,rfl⟩
    by_cases h3:p.name∈f.words
    rotate_left
    ·have e:zcd p l=false:=by rw[ec,decide_eq_false h3];simp
     have h3':(p.name∈f.words)=False:=eq_false h3
     rw[e]
     refine zae (N:=259) hm kT.out 45000 (lst [1000012,1000014,1000016,1000018,1000020,1000022,1000029]) zge Tryz.func45 rfl rfl (by simp) (by kernel_rfl) ?_
     repeat'(first|refine zak.i (f69 (l:=l) (by simp only;omega) (by simp only[go_sem]) hfo.1 hfo.2 hlen fun n' hn'=>?_)|refine zak.i (f69 (l:=l) (by simp only;omega) (by simp only[go_sem,hfn]) hoo.1 hoo.2 hlen fun n' hn'=>?_)|refine zaA.i hfb fun _=>?_|refine And.intro ?_ ?_|exact True.intro|refine rq fun _=>?_|simp only[go_sem,k6,hfn,hon,hfl,hf,hP,h1,eF,h2,h3',zaa,zad,zal,zab,Int.ofNat_one,Tryz.f45])
     all_goals trace_state
    obtain⟨s0,hs0⟩:∃s,p.subs=[s]:=by
     match h:p.subs,h2 with
     |[s],_=>exact⟨s,rfl⟩
    have hs0s:=Prf.size_sub (f:=p) (g:=s0) (by rw[hs0];simp)
    obtain⟨T,hT0⟩:∃T,zot f p.name=T:=⟨_,rfl⟩
    have hib:brF (zaC g [⟨p.name,T⟩]):=hgb.cn
    have e:zcd p l=zcd s0 (l++[zaC g [⟨p.name,T⟩]]):=by rw[ec,hs0,hT0];simp[h1,h3]
    rw[e]
    obtain⟨I,hI⟩:∃I,zaC g [⟨p.name,T⟩]=I:=⟨_,rfl⟩
    rw[hI]at hib
    rw[hI]
    have hrec:s0.size<k∧zhR (l++[I]) s0:=⟨by omega,fun x hx=>by
     rcases List.mem_append.1 hx with hx|hx
     ·exact kb.out x hx
     ·rw[List.mem_singleton.1 hx];exact hib,by rw[List.length_append,List.length_singleton];omega⟩
    obtain⟨B,hB⟩:∃B,zcd s0 (l++[I])=B:=⟨_,rfl⟩
    rw[hB]
    have hput:g.fit=true∧g.size≤1000:=zd0 hgb
    rw[hab]at h3 eF
    have h3T:(p.name∈[a,b])=True:=eq_true h3
    clear e ec h2 pb1 pb2 pb3 pb4 hib h3
    unfold zot at hT0
    rw[hab]at hT0
    simp only[List.getD_cons_zero,List.getD_cons_succ]at hT0
    by_cases haN:a=p.name
    ·rw[if_pos haN]at hT0
     subst hT0
     have hal:(a.l=p.name.l)=True:=eq_true (by rw[haN])
     refine zae (N:=259) hm kT.out 45000 (lst [1000012,1000014,1000016,1000018,1000020,1000022,1000029]) zge Tryz.func45 rfl rfl (by simp) (by kernel_rfl) ?_
     repeat'(first|refine zak.i (f69 (l:=l) (by simp only;omega) (by simp only[go_sem]) hfo.1 hfo.2 hlen fun n' hn'=>?_)|refine zak.i (f69 (l:=l) (by simp only;omega) (by simp only[go_sem,hfn]) hoo.1 hoo.2 hlen fun n' hn'=>?_)|refine zaA.i hfb fun _=>?_|refine zaA.i hput fun _=>?_|refine zaA.i hrec fun _=>?_|refine zak.i (f71 (l:=l) (fs:=[I]) (.inl (congrArg (fun x=>D.full [x]) (zaE (f:=I))).symm) (by simp only;omega) (by simp only[go_sem]) hlen (by simp) fun n' hn'=>?_)|refine zar (id:=29) hm kT.out 45000 (lst [1000012,1000014,1000016,1000018,1000020,1000022,1000029]) zml (by kernel_rfl) (by kernel_rfl) ?_|refine And.intro ?_ ?_|exact True.intro|refine rq fun _=>?_|simp only[go_sem,k6,hfn,hon,hfl,hf,hol,hg,hP,h1,eF,hab,h3T,hal,hs0,hI,hB,zml,zaa,zad,zal,zab,List.map_append,List.map_cons,List.map_nil,Tryz.f45])
     all_goals trace_state
    ·rw[if_neg haN]at hT0
     subst hT0
     have hal:(a.l=p.name.l)=False:=eq_false fun h=>haN (show(⟨a.l⟩:Str)=⟨p.name.l⟩ by rw[h])
     refine zae (N:=259) hm kT.out 45000 (lst [1000012,1000014,1000016,1000018,1000020,1000022,1000029]) zge Tryz.func45 rfl rfl (by simp) (by kernel_rfl) ?_
     repeat'(first|refine zak.i (f69 (l:=l) (by simp only;omega) (by simp only[go_sem]) hfo.1 hfo.2 hlen fun n' hn'=>?_)|refine zak.i (f69 (l:=l) (by simp only;omega) (by simp only[go_sem,hfn]) hoo.1 hoo.2 hlen fun n' hn'=>?_)|refine zaA.i hfb fun _=>?_|refine zaA.i hput fun _=>?_|refine zaA.i hrec fun _=>?_|refine zak.i (f71 (l:=l) (fs:=[I]) (.inl (congrArg (fun x=>D.full [x]) (zaE (f:=I))).symm) (by simp only;omega) (by simp only[go_sem]) hlen (by simp) fun n' hn'=>?_)|refine zar (id:=29) hm kT.out 45000 (lst [1000012,1000014,1000016,1000018,1000020,1000022,1000029]) zml (by kernel_rfl) (by kernel_rfl) ?_|refine And.intro ?_ ?_|exact True.intro|refine rq fun _=>?_|simp only[go_sem,k6,hfn,hon,hfl,hf,hol,hg,hP,h1,eF,hab,h3T,hal,hs0,hI,hB,zml,zaa,zad,zal,zab,List.map_append,List.map_cons,List.map_nil,Tryz.f45])
     all_goals trace_state
  rw[if_neg k6]at ec
  rw[ec]
  refine zae (N:=259) hm kT.out 45000 (lst [1000012,1000014,1000016,1000018,1000020,1000022,1000029]) zge Tryz.func45 rfl rfl (by simp) (by kernel_rfl) ?_
  repeat'(first|refine zak.i (f69 (l:=l) (by simp only;omega) (by simp only[go_sem]) hfo.1 hfo.2 hlen fun n' hn'=>?_)|refine zaA.i hfb fun _=>?_|refine And.intro ?_ ?_|exact True.intro|refine rq fun _=>?_|simp only[go_sem,k1,k2,k3,k4,k5,k6,hfn,hfl,hf,hP,zaa,zal,zab,Tryz.f45])
  all_goals trace_state
end Go.Proofs.YtkkffhphodngkabGreatDoor
namespace Go.Proofs.YtkkffhphodngkabGreatDoor
open Go Go.Abs Go.Proofs
def zAg:Tv:=(.q 0 (.q 1 (.br [(2,.leaf)])))
def Y11:Tbl:=Y10.add 18 (zFv zxA fun _ _ _=>True)
attribute [go_sem] Y11
set_option maxHeartbeats 4000000 in
theorem zMA:zaq Tryz.prog GA Y11:=by
 refine zwd zGZ zDI fun ax g p _ _ _ _=>?_
 by_cases h0:(za8 ax g).2.code=0
 rotate_left
 ·have e:zxA ax g p=(false,(za8 ax g).2):=by unfold zxA;rw[if_pos h0]
  obtain⟨a,X,hX⟩:∃a X,za8 ax g=(a,X):=⟨_,_,rfl⟩
  rw[hX]at e h0
  simp only at e h0
  rw[e]
  refine zae (N:=28) hm zDI 18000 (lst [1000003]) zGZ Tryz.func18 rfl rfl (by simp) (by kernel_rfl) ?_
  repeat'(first|refine zar (id:=3) hm zDI 18000 (lst [1000003]) zAg (by kernel_rfl) (by kernel_rfl) ?_|refine And.intro ?_ ?_|exact True.intro|refine rq fun _=>?_|simp only[go_sem,hX,h0,zab,zal,zAg,Tryz.f18])
 obtain⟨hb,hl,hax,hg⟩:=zfH h0
 have hcn:(0:Int)≤0∧(0:Int)≤2000:=by decide
 obtain⟨c,hcc⟩:∃c,zmw p 0=c:=⟨_,rfl⟩
 have hbd:c≤2001:=by rw[←hcc];exact(zla p 0 (by decide)).2
 have hb0:1≤c:=by rw[←hcc];have:=(zla p 0 (by decide)).1;omega
 by_cases h:2000<c
 ·have e:zxA ax g p=(false,⟨1, -3⟩):=by unfold zxA;rw[if_neg (by simp[h0]),hcc,if_pos h]
  rw[e]
  refine zae (N:=28) hm zDI 18000 (lst [1000003]) zGZ Tryz.func18 rfl rfl (by simp) (by kernel_rfl) ?_
  repeat'(first|refine zaA.i hcn fun _=>?_|refine And.intro ?_ ?_|exact True.intro|refine rq fun _=>?_|simp only[go_sem,hb,hcc,h,zab,zal,Tryz.f18])
 ·have e:zxA ax g p=(zcd p (zaQ ax g),⟨0,0⟩):=by unfold zxA;rw[if_neg (by simp[h0]),hcc,if_neg h]
  have hpre:zhR (zaQ ax g) p:=⟨zkj hax hg,by
   have hz:=zmV p 0 (by rw[hcc];omega)
   unfold zaQ
   rw[List.length_append,zk5,List.length_singleton]
   omega⟩
  obtain⟨L,hL⟩:∃L,zaQ ax g=L:=⟨_,rfl⟩
  rw[hL]at e hb hpre
  obtain⟨B,hB⟩:∃B,zcd p L=B:=⟨_,rfl⟩
  rw[hB]at e
  rw[e]
  refine zae (N:=28) hm zDI 18000 (lst [1000003]) zGZ Tryz.func18 rfl rfl (by simp) (by kernel_rfl) ?_
  repeat'(first|refine zaA.i hcn fun _=>?_|refine zaA.i hpre fun _=>?_|refine And.intro ?_ ?_|exact True.intro|refine rq fun _=>?_|simp only[go_sem,hb,hcc,h,hB,zab,zal,Tryz.f18])
end Go.Proofs.YtkkffhphodngkabGreatDoor
namespace Go.Proofs.YtkkffhphodngkabGreatDoor
open Go Go.Abs Go.Proofs
mutual
theorem zqB:∀(p:Prf) (n:Int),n+p.size≤2000→zmw p n=n+p.size
 | .mk k f o nm s,n,h=>by
  rw[Prf.size]at h ⊢
  rw[zmw,zmW s (n+1) (by omega)]
  omega
theorem zmW:∀(s:List Prf) (n:Int),n+Prf.sizes s≤2000→zb4 s n=n+Prf.sizes s
 |[],n,h=>by rw[zb4,Prf.sizes];simp
 |x::xs,n,h=>by
  rw[Prf.sizes]at h ⊢
  rw[zb4,if_neg (by omega),zqB x n (by omega),zmW xs _ (by omega)]
  omega
end
theorem zmL {f:Abs.zac}(h:(zaz false f).code=0):BF0 f:=⟨zie h,zfJ h,zeJ h⟩
theorem zo3 {ax:List Abs.zac}{g:Abs.zac}(h1:∀f∈ax,(zaz false f).code=0)(h2:(zaz false g).code=0):∀f∈zaQ ax g,BF f:=fun f hf=>by
 unfold zaQ zk4 at hf
 rcases List.mem_append.1 hf with hf|hf
 ·obtain⟨a,ha,rfl⟩:=List.mem_map.1 hf
  exact(zmL (h1 a ha)).cn
 ·rw[List.mem_singleton.1 hf]
  exact(zmL h2).ng (by have:=zaY h2;omega)
theorem zFn {ax:List Abs.zac}{g:Abs.zac}{uses:Int}(h0:(za8 ax g).2.code=0)(hu:¬(uses<0∨5<uses)):zcN uses (zbT zcm (zaQ ax g)) 0∧zh8 (zbT zcm (zaQ ax g)).list:=by
 obtain⟨hb,hlen,hva,hvg⟩:=zfH h0
 have hbl:(zaQ ax g).length=ax.length+1:=by unfold zaQ zk4;simp
 have hbb:=zo3 hva hvg
 obtain⟨B,hB⟩:∃B,zaQ ax g=B:=⟨_,rfl⟩
 rw[hB]at hbl hbb ⊢
 have hl:(zbT zcm B).list=B:=by unfold zbT zcm;simp
 refine⟨⟨fun f hf=>?_,?_,?_,?_,fun s hs=>?_,?_,?_,by omega,by omega,by omega⟩,fun f hf=>?_⟩
 ·rw[hl]at hf;exact(hbb f hf).o.b
 ·rw[hl];omega
 ·rw[hl];show(zcm.used++List.replicate B.length false).length=_;unfold zcm;simp
 ·rw[hl];show(zcm.seen++List.replicate B.length []).length=_;unfold zcm;simp
 ·have h2:s∈zcm.seen++List.replicate B.length []:=hs
  unfold zcm at h2
  simp only[List.nil_append]at h2
  rw[(List.mem_replicate.1 h2).2];simp
 ·show(0:Int)≤zcm.rounds;exact Int.le_refl _
 ·show zcm.rounds≤uses;unfold zcm;simp only;omega
 ·rw[hl]at hf;exact hbb f hf
theorem zpV {ax:List Abs.zac}{g:Abs.zac}{uses:Int}{p:Prf}{e:zbp}(h:zbL ax g uses=(p,true,e)):zxA ax g p=(true,⟨0,0⟩):=by
 obtain⟨h0,hu,hk,hl,hp,he⟩:=zgT h
 obtain⟨h1,h2⟩:=zFn h0 hu
 have hc:=zpZ (uses:=uses) 301 _ 0 h1 h2 hk
 have had:=(zfS (uses:=uses) 301 (zbT zcm (zaQ ax g)) 0 (by decide)).2 hk
 have hl2:(zbT zcm (zaQ ax g)).list=zaQ ax g:=by unfold zbT zcm;simp
 rw[hl2]at hc
 have hp2:p=(zfR uses 301 (zbT zcm (zaQ ax g)) 0).p:=hp
 rw[←hp2]at hc
 obtain⟨c1,c2⟩:=hc
 have hsz:p.size≤601:=by omega
 unfold zxA
 rw[if_neg (by simp[h0]),zqB p 0 (by omega),if_neg (by omega),c1]
def Z8:Tbl:=Tbl.or Z7 Y11
attribute [go_sem] Z8
end Go.Proofs.YtkkffhphodngkabGreatDoor

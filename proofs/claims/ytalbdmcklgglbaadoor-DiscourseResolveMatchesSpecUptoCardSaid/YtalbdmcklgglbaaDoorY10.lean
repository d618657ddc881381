/- several texts of this proof in one; no conditions -/
import Derived.Test.YtalbdmcklgglbaaDoorY9
set_option linter.unusedSimpArgs false
namespace Go.Abs
open Go
mutual
def Box.tot:Box→Nat
 | .mk r cs=>r.length+zal.tots cs
def zal.tot:zal→Nat
 | .mk _ _ _ bs=>1+Box.tots bs
def Box.tots:List Box→Nat
 |[]=>0
 |b::bs=>b.tot+Box.tots bs
def zal.tots:List zal→Nat
 |[]=>0
 |c::cs=>c.tot+zal.tots cs
end
theorem Box.tot_eq {b:Box}:b.tot=b.refs.length+zal.tots b.conds:=by cases b;rw[Box.tot];rfl
theorem zal.tot_eq {c:zal}:c.tot=1+Box.tots c.boxes:=by cases c;rw[zal.tot];rfl
theorem zhO:∀{xs refs:List Str},(zaV refs xs).1=0→(zaV refs xs).2=refs++xs
 |[],refs,_=>by simp[zaV]
 |x::xs,refs,h=>by
  rw[zaV]at h ⊢
  split at h
  ·simp at h
  ·split at h
   ·simp at h
   ·rename_i h1 h2
    rw[if_neg h1,if_neg h2,zhO h]
    simp
mutual
theorem zgJ:∀(b:Box) (d m:Int) (n:Nat) (refs:List Str),(zcm b d m n refs).e.code=0→
  (zcm b d m n refs).e=⟨0,0⟩∧n+refs.length+b.tot≤(zcm b d m n refs).n+(zcm b d m n refs).refs.length∧(zcm b d m n refs).n≤200∧(zcm b d m n refs).refs.length≤200
 | .mk r cs,d,m,n,refs,h=>by
  rw[zcm]at h ⊢
  split at h
  ·simp at h
  rename_i h1
  rw[if_neg h1]
  split at h
  ·simp at h
  rename_i h2
  rw[if_neg h2]
  split at h
  ·rename_i h3;exact absurd h h3
  rename_i h3
  rw[if_neg h3]
  have e:=zhO (Decidable.not_not.1 h3)
  rw[e]at h ⊢
  obtain⟨g1,g2,g3,g4⟩:=ziw r cs d (n+1) (refs++r) (by omega) (by rw[List.length_append];omega) h
  refine⟨g1,?_,g3,g4⟩
  rw[List.length_append]at g2
  rw[Box.tot]
  omega
theorem ziw:∀(r:List Str) (cs:List zal) (d:Int) (n:Nat) (refs:List Str),n≤200→refs.length≤200→(zaI r cs d n refs).e.code=0→
  (zaI r cs d n refs).e=⟨0,0⟩∧n+refs.length+zal.tots cs≤(zaI r cs d n refs).n+(zaI r cs d n refs).refs.length∧(zaI r cs d n refs).n≤200∧(zaI r cs d n refs).refs.length≤200
 |r,[],d,n,refs,h1,h2,_=>by rw[zaI,zal.tots];exact⟨rfl,Nat.le_refl _,h1,h2⟩
 |r,c::cs,d,n,refs,h1,h2,h=>by
  rw[zaI]at h ⊢
  split at h
  ·rename_i h3;exact absurd h h3
  rename_i h3
  rw[if_neg h3]
  obtain⟨g1,g2,g3,g4⟩:=zqC r c d n refs h1 h2 (Decidable.not_not.1 h3)
  obtain⟨k1,k2,k3,k4⟩:=ziw r cs d _ _ g3 g4 h
  refine⟨k1,?_,k3,k4⟩
  rw[zal.tots]
  omega
theorem zqC:∀(r:List Str) (c:zal) (d:Int) (n:Nat) (refs:List Str),n≤200→refs.length≤200→(zb7 r c d n refs).e.code=0→
  (zb7 r c d n refs).e=⟨0,0⟩∧n+refs.length+c.tot≤(zb7 r c d n refs).n+(zb7 r c d n refs).refs.length∧(zb7 r c d n refs).n≤200∧(zb7 r c d n refs).refs.length≤200
 |r,.mk k nm f bs,d,n,refs,h1,h2,h=>by
  rw[zb7]at h ⊢
  split at h
  ·simp at h
  rename_i h3
  rw[if_neg h3]
  split at h
  ·rename_i h4;exact absurd h h4
  rename_i h4
  rw[if_neg h4]
  obtain⟨g1,g2,g3,g4⟩:=zkB bs (d+1) (if k=6 then 2 else 200) (n+1) refs (by omega) h2 h
  refine⟨g1,?_,g3,g4⟩
  rw[zal.tot]
  omega
theorem zkB:∀(bs:List Box) (d m:Int) (n:Nat) (refs:List Str),n≤200→refs.length≤200→(zbv bs d m n refs).e.code=0→
  (zbv bs d m n refs).e=⟨0,0⟩∧n+refs.length+Box.tots bs≤(zbv bs d m n refs).n+(zbv bs d m n refs).refs.length∧(zbv bs d m n refs).n≤200∧(zbv bs d m n refs).refs.length≤200
 |[],d,m,n,refs,h1,h2,_=>by rw[zbv,Box.tots];exact⟨rfl,Nat.le_refl _,h1,h2⟩
 |b::bs,d,m,n,refs,h1,h2,h=>by
  rw[zbv]at h ⊢
  split at h
  ·rename_i h3;exact absurd h h3
  rename_i h3
  rw[if_neg h3]
  obtain⟨g1,g2,g3,g4⟩:=zgJ b d m n refs (Decidable.not_not.1 h3)
  obtain⟨k1,k2,k3,k4⟩:=zkB bs d m _ _ g3 g4 h
  refine⟨k1,?_,k3,k4⟩
  rw[Box.tots]
  omega
end
theorem zhb {b:Box}(h:(zcy b).code=0):zcy b=⟨0,0⟩∧b.tot≤400:=by
 unfold zcy at*
 obtain⟨h1,h2,h3,h4⟩:=zgJ b 1 200 0 [] h
 simp only[List.length_nil]at h2
 exact⟨h1,by omega⟩
theorem zal.tots_len:∀{cs:List zal},cs.length≤zal.tots cs
 |[]=>by rw[zal.tots];exact Nat.le_refl _
 |c::cs=>by rw[zal.tots,List.length_cons,zal.tot_eq];have:=@zal.tots_len cs;omega
theorem zal.tots_get:∀{cs:List zal} {i:Nat} (h:i<cs.length),cs[i].tot≤zal.tots cs
 |c::cs,0,_=>by rw[zal.tots];simp
 |c::cs,i+1,h=>by
  rw[zal.tots];have:=zal.tots_get (cs:=cs) (i:=i) (by simpa using h)
  simp only[List.getElem_cons_succ];omega
theorem Box.tots_get:∀{bs:List Box} {i:Nat} (h:i<bs.length),bs[i].tot≤Box.tots bs
 |b::bs,0,_=>by rw[Box.tots];simp
 |b::bs,i+1,h=>by
  rw[Box.tots];have:=Box.tots_get (bs:=bs) (i:=i) (by simpa using h)
  simp only[List.getElem_cons_succ];omega
theorem Box.tots_two {bs:List Box}(h:1<bs.length):bs[0].tot+bs[1].tot≤Box.tots bs:=by
 match bs,h with
 |a::b::bs,_=>simp only[Box.tots,List.getElem_cons_zero,List.getElem_cons_succ];omega
def noB:Box:= .mk [] []
def zjX (b:Box)(i k:Int):Option (List Box×Box):=
 if i<0∨(b.conds.length:Int)≤i then none else if k<0∨(((b.conds.getD i.toNat (.mk 0 ⟨[]⟩ (.mk 0 ⟨[]⟩ [] []) [])).boxes.length:Int))≤k then none
 else some ((if(b.conds.getD i.toNat (.mk 0 ⟨[]⟩ (.mk 0 ⟨[]⟩ [] []) [])).kind=3∧k=1 then[(b.conds.getD i.toNat (.mk 0 ⟨[]⟩ (.mk 0 ⟨[]⟩ [] []) [])).boxes.getD 0 noB]else[])++
  [(b.conds.getD i.toNat (.mk 0 ⟨[]⟩ (.mk 0 ⟨[]⟩ [] []) [])).boxes.getD k.toNat noB],(b.conds.getD i.toNat (.mk 0 ⟨[]⟩ (.mk 0 ⟨[]⟩ [] []) [])).boxes.getD k.toNat noB)
def zci:Box→List Int→Option (List Box)
 |b,i::k::p=>match zjX b i k with
  |none=>none
  |some (l,b')=>(zci b' p).map (l++·)
 |_,[_]=>some []
 |_,[]=>some []
theorem zeL {b:Box}{i k:Nat}(hi:i<b.conds.length)(hk:k<b.conds[i].boxes.length):
  zjX b i k=some ((if b.conds[i].kind=3∧k=1 then[b.conds[i].boxes.getD 0 noB]else[])++[b.conds[i].boxes[k]],b.conds[i].boxes[k]):=by
 unfold zjX
 have e1:b.conds.getD ((i:Int).toNat) (.mk 0 ⟨[]⟩ (.mk 0 ⟨[]⟩ [] []) [])=b.conds[i]:=by simp[hi]
 rw[e1,if_neg (by omega),if_neg (by omega)]
 have e2:b.conds[i].boxes.getD ((k:Int).toNat) noB=b.conds[i].boxes[k]:=by simp[hk]
 rw[e2]
 have e3:((k:Int)=1)=(k=1):=propext (by omega)
 simp only[e3]
theorem zh0 {b:Box}{i k:Int}(h:i<0∨(b.conds.length:Int)≤i):zjX b i k=none:=by
 unfold zjX;rw[if_pos h]
theorem zh1 {b:Box}{i:Nat}{k:Int}(hi:i<b.conds.length)(h:k<0∨(b.conds[i].boxes.length:Int)≤k):zjX b i k=none:=by
 unfold zjX
 have e1:b.conds.getD ((i:Int).toNat) (.mk 0 ⟨[]⟩ (.mk 0 ⟨[]⟩ [] []) [])=b.conds[i]:=by simp[hi]
 rw[e1,if_neg (by omega),if_pos h]
theorem zjY {b:Box}{i k:Nat}(hi:i<b.conds.length)(hk:k<b.conds[i].boxes.length):
  (b.conds[i].boxes[k]).refs.length+zal.tots (b.conds[i].boxes[k]).conds≤zal.tots b.conds∧
  (∀h:1<b.conds[i].boxes.length,k=1→(b.conds[i].boxes[0]).refs.length+(b.conds[i].boxes[0]).conds.length+(b.conds[i].boxes[k]).refs.length+zal.tots (b.conds[i].boxes[k]).conds≤zal.tots b.conds):=by
 have h1:=zal.tots_get hi
 rw[zal.tot_eq]at h1
 have h2:=Box.tots_get hk
 rw[Box.tot_eq]at h2
 refine⟨by omega,fun h e=>?_⟩
 subst e
 have h3:=Box.tots_two h
 rw[Box.tot_eq,Box.tot_eq]at h3
 have h4:=@zal.tots_len (b.conds[i].boxes[0]).conds
 omega
end Go.Abs
namespace Go.Abs
open Go
mutual
def zBq:zal→zal→Bool
 | .mk k n f bs,.mk k' n' f' bs'=>decide (k=k')&&decide (n=n')&&decide (f=f')&&zmn bs bs'
def zBp:Box→Box→Bool
 | .mk r cs,.mk r' cs'=>decide (r=r')&&zmo cs cs'
def zmn:List Box→List Box→Bool
 |[],[]=>true
 |b::bs,d::ds=>zBp b d&&zmn bs ds
 |[],_::_=>false
 |_::_,[]=>false
def zmo:List zal→List zal→Bool
 |[],[]=>true
 |b::bs,d::ds=>zBq b d&&zmo bs ds
 |[],_::_=>false
 |_::_,[]=>false
end
mutual
theorem znh:∀a b:zal,zBq a b=true↔a=b
 | .mk k n f bs,.mk k' n' f' bs'=>by rw[zBq,Bool.and_eq_true,Bool.and_eq_true,Bool.and_eq_true,zkx bs bs',decide_eq_true_eq,decide_eq_true_eq,decide_eq_true_eq,zal.mk.injEq,and_assoc,and_assoc]
theorem zng:∀a b:Box,zBp a b=true↔a=b
 | .mk r cs,.mk r' cs'=>by rw[zBp,Bool.and_eq_true,zky cs cs',decide_eq_true_eq,Box.mk.injEq]
theorem zkx:∀a b:List Box,zmn a b=true↔a=b
 |[],[]=>by simp[zmn]
 |b::bs,d::ds=>by rw[zmn,Bool.and_eq_true,zng b d,zkx bs ds,List.cons.injEq]
 |[],_::_=>by simp[zmn]
 |_::_,[]=>by simp[zmn]
theorem zky:∀a b:List zal,zmo a b=true↔a=b
 |[],[]=>by simp[zmo]
 |b::bs,d::ds=>by rw[zmo,Bool.and_eq_true,znh b d,zky bs ds,List.cons.injEq]
 |[],_::_=>by simp[zmo]
 |_::_,[]=>by simp[zmo]
end
instance decBox:DecidableEq Box:=fun a b=>decidable_of_iff _ (zng a b)
instance decCond:DecidableEq zal:=fun a b=>decidable_of_iff _ (znh a b)
def zbX (l:List Box):List Str:=l.flatMap Box.refs
def zhM (nm:Str)(w:List Str):zac:= .mk 2 nm w []
def zaK (v b:Box):Box:= .mk (v.refs++b.refs) (v.conds++b.conds)
@[go_sem] theorem zaX {v b:Box}:(zaK v b).refs=v.refs++b.refs:=rfl
@[go_sem] theorem zaY {v b:Box}:(zaK v b).conds=v.conds++b.conds:=rfl
def zbH (v:Box)(c:zal)(k:Int):Box:=if c.kind=3∧k=1 then zaK v (c.boxes.getD 0 noB)else v
def zbc (a b:Str):zal:= .mk 1 ⟨[]⟩ (.mk 3 ⟨[]⟩ [a,b] []) []
structure Chg where
 conds:List zal
 refs:List Str
 top:Box
def zd6 (v:Box)(f:zac):Bool:=v.conds.any fun c=>decide (c.kind=1)&&decide (c.form=f)
def zgF (fr to:List Str)(w:Str):Str:=if w∈fr then to.getD (fr.idxOf w) ⟨[]⟩else w
def ziP (f:zac)(fr to:List Str):zac:= .mk f.kind f.name (f.words.map (zgF fr to)) f.subs
def zfM (rs:List Str):Nat→List Str→List (List Str)
 |0,to=>[to]
 |n+1,to=>rs.flatMap fun y=>zfM rs n (to++[y])
def zcS (v p:Box)(to:List Str):Bool:=p.conds.all fun x=>zd6 v (ziP x.form p.refs to)
def zib (p:Box)(to:List Str):Chg:=⟨List.zipWith zbc p.refs to,p.refs,noB⟩
def zhL (p:Box):Bool:=p.conds.all fun x=>decide (x.kind=1)
def zdC (v p:Box):List Chg:=if zhL p then((zfM v.refs p.refs.length []).filter (zcS v p)).map (zib p)else[]
def zdV (v:Box)(c:zal)(y:Str):Bool:=decide (¬y=c.name)&&zd6 v (zhM c.form.name [y])
def zjM (c:zal)(y:Str):Chg:=⟨[zbc c.name y],[],noB⟩
def zpr (v:Box)(c:zal):List Chg:=(v.refs.filter (zdV v c)).map (zjM c)
def zu9 (p:Box):Chg:=⟨[],[],p⟩
def zhJ (l:List Chg)(p:Box):List Chg:=if l.length=0 then[zu9 p]else l
def zcj (v:Box)(c:zal):List Chg:=
 if c.kind=5 then zpr v c else if c.kind=6 then zhJ (zdC v (c.boxes.getD 0 noB)) (c.boxes.getD 0 noB)else[]
mutual
def zfa:Box→Box→Option (List (Box×Box))
 | .mk r cs,v=>zdZ r [] cs (zaK v (.mk r cs))
def zdZ:List Str→List zal→List zal→Box→Option (List (Box×Box))
 |_,_,[],_=>none
 |r,pre,c::cs,v=>match zgH c v with
  |some l=>some (l.map fun x=>(Box.mk (r++x.refs) (pre++x.conds++cs),x.top))
  |none=>zdZ r (pre++[c]) cs v
def zgH:zal→Box→Option (List Chg)
 | .mk k n f bs,v=>if k=5∨k=6 then some (zcj v (.mk k n f bs))else(zdY (.mk k n f bs) [] bs v).map fun l=>l.map fun x=>⟨[.mk k n f x.1],[],x.2⟩
def zdY:zal→List Box→List Box→Box→Option (List (List Box×Box))
 |_,_,[],_=>none
 |c,pre,b::bs,v=>match zfa b (zbH v c pre.length)with
  |some l=>some (l.map fun x=>(pre++x.1::bs,x.2))
  |none=>zdY c (pre++[b]) bs v
end
theorem zwH (b v:Box):zfa b v=zdZ b.refs [] b.conds (zaK v b):=by cases b;rw[zfa];rfl
theorem zm0 (c:zal)(v:Box):zgH c v=if c.kind=5∨c.kind=6 then some (zcj v c)else(zdY c [] c.boxes v).map fun l=>l.map fun x=>⟨[.mk c.kind c.name c.form x.1],[],x.2⟩:=by cases c;rw[zgH];rfl
def zde (x:Box×Box):Box:=zaK x.1 x.2
def zej (b:Box):Option (List Box):=(zfa b noB).map fun l=>l.map zde
structure RS where
 n:Nat
 out:List Box
def zdq (out:List Box)(b:Box):List Box:=if b∈out then out else out++[b]
def goR (f:Box→RS→Bool×RS):List Box→RS→Bool×RS
 |[],s=>(true,s)
 |x::l,s=>if(f x s).1=true then goR f l (f x s).2 else(false,(f x s).2)
def zcF:Nat→Box→RS→Bool×RS
 |0,_,s=>(false,s)
 |d+1,b,s=>if 20000<s.n+1 then(false,⟨s.n+1,s.out⟩)else match zej b with
  |none=>(decide ((zdq s.out b).length≤200),⟨s.n+1,zdq s.out b⟩)
  |some l=>goR (zcF d) l ⟨s.n+1,s.out⟩
mutual
def ze9:Box→Nat
 | .mk _ cs=>zdr cs
def zwu:zal→Nat
 | .mk k _ _ bs=>(if 4<k then 1 else 0)+zeS bs
def zeS:List Box→Nat
 |[]=>0
 |b::bs=>ze9 b+zeS bs
def zdr:List zal→Nat
 |[]=>0
 |c::cs=>zwu c+zdr cs
end
def zrR (b:Box):Bool×RS:=zcF (ze9 b+1) b ⟨0,[]⟩
def zgT (b:Box):List Box×zh9:=if(zcy b).code≠0 then([],zcy b)else if(zrR b).1=true then((zrR b).2.out,⟨0,0⟩)else([],⟨17, -1⟩)
end Go.Abs

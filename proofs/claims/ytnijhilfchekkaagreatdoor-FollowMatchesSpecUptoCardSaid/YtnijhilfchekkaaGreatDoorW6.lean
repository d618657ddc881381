import Derived.Test.YtnijhilfchekkaaGreatDoorY4
import Derived.Test.YtnijhilfchekkaaGreatDoorW3
set_option linter.unusedSimpArgs false
set_option maxRecDepth 100000
set_option maxHeartbeats 1000000
namespace Go.Proofs.YtnijhilfchekkaaGreatDoor
open Go Go.Abs Go.Proofs
section
variable {G:Nat→List FD}
def qT (p:Pd):gV:=⟨p.name,p.arity,[]⟩
@[go_sem] theorem zHX {p:Pd}:enc (qT p)= .agg [.s p.name.l,.i .i64 p.arity,.sl []]:=rfl
def jT (l:List Pd):List D:=bA (l.map fun p=>enc (qT p))
theorem Ea (l:List Pd):(jT l).length=l.length*3:=by
 unfold jT;have h:=mw (xs:=l.map fun p=>enc (qT p)) (es:=3) fun i hi=>by
  have hi2:i<l.length:=by simpa using hi
  rw[av,bp,ay hi2];rfl
 rw[h,aG]
theorem On (p:Pd)(l:List Pd):jT (p::l)=[.fz (.s p.name.l),.fz (.i .i64 p.arity),.fz (.sl [])]++jT l:=rfl
theorem Ew:∀{l:List Pd} {i:Nat} (h:i<l.length),(jT l|>.drop (i*3)|>.take 3)=[.fz (.s l[i].name.l),.fz (.i .i64 l[i].arity),.fz (.sl [])]
 |[],_,h=>by simp at h
 |p::l,0,_=>by rw[On];rfl
 |p::l,i+1,h=>by rw[On,ci,jZ,jo,←List.drop_drop];exact Ew (l:=l) qQh
theorem zX {l:List Pd}{p:Pd}{i:Nat}(h:i<l.length)(e:l[i]=p)(hp:p∉l.take i):l.idxOf p=i:=by
 induction l generalizing i with
 |nil=>simp at h
 |cons x l ih=>
  cases i with
  |zero=>have e2:x=p:=e;rw[List.idxOf_cons,e2,beq_self_eq_true];rfl
  |succ i=>rw[bm]at hp;have h1:x≠p:=fun e2=>hp (by rw[e2];simp);have h3:=ih qQh (by simpa using e) fun h2=>hp (cg _ h2);rw[List.idxOf_cons,h3,beq_false_of_ne h1];rfl
theorem RB (l:List Pd)(p:Pd):jT (l++[p])=jT l++[.fz (.s p.name.l),.fz (.i .i64 p.arity),.fz (.sl [])]:=by unfold jT bA;rw[aE,lL];rfl
set_option maxHeartbeats 4000000 in
theorem f89 {y p:Pd}{id:Abs.Id}{H:bR}{n:Nat}{R:D→bR→Nat→Prop}(hid0:id.2<n){z:D}(ho:H id=some ⟨[.fz (.s p.name.l),.fz (.i .i64 p.arity),z],true,false⟩)
  (hR:∀n',n≤n'→R (.fz (.b (decide (y=p)))) H n'):cS Tryz.prog G 89 [.agg [.fz (.s y.name.l),.fz (.i .i64 y.arity),.fz (.sl [])],.ptr id 0] H n R:=by
 refine uE Br (fun hfr=>?_) hR;obtain⟨Q,hQ⟩:∃Q:D→bR→Nat→Prop,Q=(fun d' H' n'=>d'= .fz (.b (decide (y=p)))∧n≤n'∧∀id,id.2<n→H' id=H id):=⟨_,rfl⟩;rw[←hQ];have e:H=hpX [] H:=rfl;rw[e];have hn0:∀id:Abs.Id,id.2<n→id≠(89002,n):=fun id h e=>by rw[e]at h;simp at h
 have hne:(id=(89002,n))=False:=aP (hn0 id hid0);by_cases h1:y.name=p.name
 ·have h1':(y.name.l=p.name.l)=True:=aU (by rw[h1]);refine rv (N:=16) hm hI3 89000 qWi Br Tryz.func89 rfl ?_
  repeat'(first|apply au|refine rq ?_|simp only[go_sem,ho,h1',hne,Tryz.f89])
  all_goals
   rw[hQ];refine⟨?_,ae,fun id hid=>?_⟩
   ·by_cases h2:y.arity=p.arity
    ·have:y=p:=by cases y;cases p;simp only at h1 h2;rw[h1,h2]
     simp[this]
    ·have:¬y=p:=fun e=>h2 (by rw[e]);simp[this,h2]
   ·simp only[go_sem,hn0 id hid]
 ·have h1':(y.name.l=p.name.l)=False:=aP fun e=>h1 (by cases h:y.name;cases h2:p.name;rw[h,h2]at e;exact a8 Str.mk e);refine rv (N:=16) hm hI3 89000 qWi Br Tryz.func89 rfl ?_
  repeat'(first|apply au|refine rq ?_|simp only[go_sem,ho,h1',hne,Tryz.f89])
  all_goals
   rw[hQ];refine⟨?_,ae,fun id hid=>?_⟩
   ·have:¬y=p:=fun e=>h1 (by rw[e]);simp[this]
   ·simp only[go_sem,hn0 id hid]
set_option maxHeartbeats 4000000 in
theorem f110 {l:List Pd}{p:Pd}{id a:Abs.Id}{vt:Bool}{H:bR}{n:Nat}{R:D→bR→Nat→Prop}(hid:id.2<n){z:D}(ho:H id=some ⟨[.fz (.s p.name.l),.fz (.i .i64 p.arity),z],true,false⟩)(hoa:H a=some ⟨jT l,false,vt⟩)(hvt:vt=true→l=[])(hl:l.length≤1000000)
  (hR:∀n',n≤n'→R (.fz (.i .i64 (if p∈l then(l.idxOf p:Int)else-1))) H n'):cS Tryz.prog G 110 [.arr a 3 0 l.length,.fn 89 [.ptr id 0]] H n R:=by
 refine uE FX (fun hfr=>?_) hR;obtain⟨Q,hQ⟩:∃Q:D→bR→Nat→Prop,Q=(fun d' H' n'=>d'= .fz (.i .i64 (if p∈l then(l.idxOf p:Int)else-1))∧n≤n'∧∀id,id.2<n→H' id=H id):=⟨_,rfl⟩;rw[←hQ];have kq:=Kp.mk hQ;clear hQ;have e:H=hpX [] H:=rfl;rw[e];have hrl:=Ea l;refine rv (N:=19) hm hI3 110000 qWi FX Tryz.func110 rfl ?_
 repeat'(first|apply au|refine rq ?_|simp only[go_sem,hoa,Tryz.f110])
 refine cI hm hI3 110000 qWi (ι:=fW l.length n fun i=>p∉l.take i)
  ⟨fun q=>⟨frL [(0,.arr a 3 0 l.length),(1,.fn 89 [.ptr id 0]),(6,.arr a 3 0 l.length),(7,eI l.length),(8,eI q.i)],hpX [] H,q.m⟩,fun q=>l.length-q.i⟩
  ⟨0,n,ae,aI _,ak⟩ ah ?_ ?_
 ·refine gT ?_ ?_ (fun id2 o2 ho2=>?_) ?_
  ·simp only[go_sem]
  ·simp only[go_sem]
  ·exact ho2
  ·first|omega|(simp only[go_sem];done)|(simp only[go_sem];omega)
 rintro⟨i,m,hi,hm1,hp⟩
 try simp only at hi hm1 hp
 rcases aA i l.length with h1|h1
 ·obtain⟨y,hy⟩:∃y,l[i]=y:=⟨_,rfl⟩;have g0:=Ew h1;rw[hy]at g0;have hv:vt=false:=by
   cases hv:vt with
   |false=>rfl
   |true=>rw[hvt hv]at h1;simp at h1
  have hrq:i*3+3≤l.length*3∧vt=false:=⟨ae,hv⟩;by_cases hyp:y=p
  ·have hd:decide (y=p)=true:=ba hyp
   repeat'(first|refine dJ.i (f89 (y:=y) (p:=p) ae ho fun n' hn'=>?_)|apply rx hrq|apply au|refine rq ?_|simp only[go_sem,hoa,g0,hrl,h1,hd,Tryz.f110])
   all_goals
    rw[kq.out,aF (by rw[←hyp,←hy];exact aT h1),zX h1 (by rw[hy,hyp]) hp];exact⟨rfl,ae,fun _ _=>rfl⟩
  ·have hd:decide (y=p)=false:=aW hyp
   repeat'(first|refine dJ.i (f89 (y:=y) (p:=p) ae ho fun n' hn'=>?_)|apply rx hrq|apply au|refine rq ?_|simp only[go_sem,hoa,g0,hrl,h1,hd,Tryz.f110])
   all_goals
    refine⟨⟨i+1,n',ae,ae,?_⟩,af,?_⟩
    ·rw[aB h1,hy];intro h2;rcases aO.1 h2 with h2|h2
     ·exact hp h2
     ·exact hyp (a7.1 h2).symm
    refine gT ?_ ?_ (fun id2 o2 ho2=>?_) ?_
    ·simp only[go_sem]
    ·simp only[go_sem]
    ·exact ho2
    ·first|omega|(simp only[go_sem];done)|(simp only[go_sem];omega)
 ·obtain rfl:i=l.length:=ae
  rw[aJ]at hp
  repeat'(first|apply au|refine rq ?_|simp only[go_sem,hoa,aC,Tryz.f110])
  all_goals
   rw[kq.out,az hp];exact⟨rfl,ae,fun _ _=>rfl⟩
theorem f88 {l:List Pd}{p:Pd}{id a:Abs.Id}{vt:Bool}{H:bR}{n:Nat}{R:D→bR→Nat→Prop}(hid:id.2<n){z:D}(ho:H id=some ⟨[.fz (.s p.name.l),.fz (.i .i64 p.arity),z],true,false⟩)(hoa:H a=some ⟨jT l,false,vt⟩)(hvt:vt=true→l=[])(hl:l.length≤1000000)
  (hR:∀n',n≤n'→R (.fz (.b (decide (p∈l)))) H n'):cS Tryz.prog G 88 [.arr a 3 0 l.length,.fn 89 [.ptr id 0]] H n R:=by
 refine uE Hm (fun hfr=>?_) hR;obtain⟨Q,hQ⟩:∃Q:D→bR→Nat→Prop,Q=(fun d' H' n'=>d'= .fz (.b (decide (p∈l)))∧n≤n'∧∀id,id.2<n→H' id=H id):=⟨_,rfl⟩;rw[←hQ];have kq:=Kp.mk hQ;clear hQ;have e:H=hpX [] H:=rfl;rw[e];refine rv (N:=9) hm hI3 88000 qWi Hm Tryz.func88 rfl ?_
 repeat'(first|refine dJ.i (f110 (l:=l) (p:=p) hid ho hoa hvt hl fun n' hn'=>?_)|apply au|refine rq ?_|simp only[go_sem,hoa,Tryz.f88])
 all_goals
  rw[kq.out];refine⟨?_,ae,fun _ _=>rfl⟩;by_cases h:p∈l
  ·simp[h]
  ·simp[h]
end
section
variable {G:Nat→List FD}
def cfP (a b:Pd):Int:=if a.name=b.name then a.arity-b.arity else if a.name.l<b.name.l then-1 else 1
theorem sG {a b:Pd}:cfP a b<0↔ltP a b:=by
 unfold cfP ltP;by_cases h:a.name=b.name
 ·rw[aF h];constructor
  ·intro h2;exact .inr ⟨h,ae⟩
  ·rintro(h2|⟨_,h2⟩)
   ·rw[h]at h2;exact absurd h2 wD
   ·omega
 ·rw[az h];by_cases h2:a.name.l<b.name.l
  ·rw[aF h2];simp[h2]
  ·rw[az h2];simp[h2,h]
theorem UF {a b:Pd}(ha:0≤a.arity∧a.arity≤1000000)(hb:0≤b.arity∧b.arity≤1000000):cS Tryz.prog G 91 [.fz (.agg [.s a.name.l,.i .i64 a.arity,.sl []]),.fz (.agg [.s b.name.l,.i .i64 b.arity,.sl []])] H0 0 (fun d _ _=>D.val d=some (.fz (.i .i64 (cfP a b)))):=by
 rw[ky];by_cases h:a.name=b.name
 ·have e:cfP a b=a.arity-b.arity:=by unfold cfP;rw[aF h]
  have h':(a.name.l=b.name.l)=True:=aU (by rw[h]);rw[e];refine rv (N:=20) hm hI3 91000 qWi yk Tryz.func91 rfl ?_
  repeat'(first|apply au|refine rq ?_|simp only[go_sem,h',bn,Tryz.f91])
  all_goals first|rfl|omega
 ·have h':(a.name.l=b.name.l)=False:=aP fun e=>h (by cases h2:a.name;cases h3:b.name;rw[h2,h3]at e;exact a8 Str.mk e);by_cases h2:a.name.l<b.name.l
  ·have e:cfP a b= -1:=by unfold cfP;rw[az h,aF h2]
   have h3:Op.bytesLess a.name.l b.name.l=true:=by rw[s8];exact ba h2
   rw[e];refine rv (N:=20) hm hI3 91000 qWi yk Tryz.func91 rfl ?_
   repeat'(first|apply au|refine rq ?_|simp only[go_sem,h',h3,bn,Tryz.f91])
   all_goals first|rfl|omega
  ·have e:cfP a b=1:=by unfold cfP;rw[az h,az h2]
   have h3:Op.bytesLess a.name.l b.name.l=false:=by rw[s8];exact aW h2
   rw[e];refine rv (N:=20) hm hI3 91000 qWi yk Tryz.func91 rfl ?_
   repeat'(first|apply au|refine rq ?_|simp only[go_sem,h',h3,bn,Tryz.f91])
   all_goals first|rfl|omega
def oW (p:Pd):List FD:=[.s p.name.l,.i .i64 p.arity,.sl []]
def lJ:List FD→Pd
 |[.s n,.i _ a,_]=>⟨⟨n⟩,a⟩
 |_=>default
theorem w4 (p:Pd):lJ (oW p)=p:=by cases p;rfl
theorem La (l:List Pd):jT l=bA ((l.map oW).map .agg):=by unfold jT;rw[bX];rfl
theorem TO {id':Abs.Id}{l:List Pd}{bx vt:Bool}{H:bR}{n:Nat}(hl:∀p∈l,0≤p.arity∧p.arity≤1000000)(ho:H id'=some ⟨jT l,bx,vt⟩):
  cS Tryz.prog G 90 [.arr id' 3 0 l.length,.fn 91 []] H n fun d H' n'=>d= .tup []∧∃S:List Pd,S.Perm l∧(S.Pairwise fun a b=>¬ltP b a)∧H'=cp H id' (some ⟨jT S,bx,vt⟩)∧n'=n:=by
 have hin:∀{r:List FD},(∃p:Pd,r=oW p∧0≤p.arity∧p.arity≤1000000)→oW (lJ r)=r∧0≤(lJ r).arity∧(lJ r).arity≤1000000:=by rintro r ⟨p,rfl,h⟩;rw[w4];exact⟨rfl,h⟩
 have h:=WH (P:=Tryz.prog) (G:=G) (f:=90) (g:=91) (k:=3) (pre:=fun r=>∃p:Pd,r=oW p∧0≤p.arity∧p.arity≤1000000) (cmp:=fun x y=>cfP (lJ x) (lJ y)) ae UT
  (fun α _ enc hk h1 cf hO blk off cap d w hc hH hb hs=>Tryz.slices_SortFunc_f90 enc hk h1 cf hO 91 #[] blk off cap d w yk hc hH hb hs) Tryz.slices_SortFunc_none_f90
  (fun x y hx hy=>by obtain⟨ex,hx2⟩:=hin hx;obtain⟨ey,hy2⟩:=hin hy;have:=UF (G:=G) hx2 hy2;rw[←ex,←ey,w4,w4];exact this)
  (fun x _=>by rw[sG];exact Bx) (fun x y z _ _ _=>by rw[sG,sG,sG];exact y6)
  (fun x y z _ _ _=>by
   rw[sG,sG,sG];intro h1 h2 h3;by_cases e:lJ x=lJ y
   ·rw[e]at h3;exact h2 h3
   ·exact h2 (y6 (DQ h1 e) h3))
  (id':=id') (rows:=l.map oW) (n:=n) (H:=H) (bx:=bx) (vt:=vt) (fun r hr=>by obtain⟨p,hp,rfl⟩:=be.1 hr;exact⟨⟨p,rfl,hl p hp⟩,rfl,fun y hy=>by unfold oW at hy;simp only[aV,aZ,ct]at hy;rcases hy with rfl|rfl|rfl<;>rfl⟩) (by rw[ho,La])
 rw[aG]at h;refine jl h ?_;rintro d H' n' ⟨rfl,rows',hp,hs,rfl,rfl⟩;have he:rows'=(rows'.map lJ).map oW:=by
  rw[bX];have:∀r∈rows',(oW∘lJ) r=r:=fun r hr=>by obtain⟨p,_,rfl⟩:=be.1 (hp.mem_iff.1 hr);show oW (lJ (oW p))=_;rw[w4]
  rw[bB this,List.map_id''];exact fun _=>rfl
 refine⟨rfl,rows'.map lJ,?_,?_,by rw[La,←he],rfl⟩
 ·have:=hp.map lJ;rw[bX]at this;have e2:l.map (lJ∘oW)=l:=by rw[bB (f:=lJ∘oW) (g:=id) (fun p _=>w4 p),gK]
  rwa [e2]at this
 ·rw[iK];refine hs.imp fun{a b} h3=>?_;rwa [sG]at h3
def HHs (acc:List Pd)(g:Nat):List (Abs.Id×Option O):=
  [((66003,1),some ⟨[.fz (.i .i64 0),.full [],.arr (87025,g) 3 0 acc.length],true,false⟩),
   ((66005,2),some ⟨[.fn 87 [.ptr (66003,1) 0,.ptr (66005,2) 0]],true,false⟩),
   ((87025,g),some ⟨jT acc,false,acc.isEmpty⟩)]
theorem D2 (f:Abs.aH):pds f=(if f.kind=2 then[⟨f.name,(f.words.length:Int)⟩]else[])++fL f.subs:=by cases f;rw[pds];rfl
theorem tp {fs:List Abs.aH}{j:Nat}(h:j<fs.length):fL (fs.take (j+1))=fL (fs.take j)++pds fs[j]:=by
 have hap:∀a b:List Abs.aH,fL (a++b)=fL a++fL b:=by
  intro a b;induction a with
  |nil=>rfl
  |cons x a ih=>rw[a6,fL,fL,ih,bu]
 rw[aB h,hap,fL,fL,bP]
theorem Cm (l a b:List Pd):lA l (a++b)=lA (lA l a) b:=by unfold lA;rw[dq]
theorem MZ {fs:List Abs.aH}(j:Nat):(fL (fs.take j)).length≤(fL fs).length:=by
 induction fs generalizing j with
 |nil=>simp
 |cons f fs ih=>
  cases j with
  |zero=>simp[fL]
  |succ j=>rw[bm,fL,fL,aD,aD];have:=ih j;omega
set_option maxHeartbeats 8000000 in
theorem f87:∀(k:Nat) (f:Abs.aH) (acc:List Pd) (g n:Nat) (X:bR),f.size≤k→(enc f).Wf→g<n→2<n→acc.length+(pds f).length≤1000000→
  (∀id o,X id=some o→id.2<n∧id.1≠66003∧id.1≠66005∧id.1≠87025)→
  cS Tryz.prog G 87 [.fz (enc f),.ptr (66003,1) 0,.ptr (66005,2) 0] (hpX (HHs acc g) X) n
   (fun d' H' n'=>d'= .tup []∧n≤n'∧(∃g',g'<n'∧iO H' (HHs (lA acc (pds f)) g'))∧∀id o,X id=some o→H' id=some o):=by
 intro k;induction k with
 |zero=>intro f acc g n X hs;have:=f.size_pos;omega
 |succ k ih=>
  intro f acc g n X hs hw hg hn hlen hX;obtain⟨Q,hQ⟩:∃Q:D→bR→Nat→Prop,Q=(fun d' H' n'=>d'= .tup []∧n≤n'∧(∃g',g'<n'∧iO H' (HHs (lA acc (pds f)) g'))∧∀id o,X id=some o→H' id=some o):=⟨_,rfl⟩;rw[←hQ];have hX':∀{l:List (Abs.Id×Option O)} (id o),X id=some o→(id.2<n∧id.1≠66003∧id.1≠66005∧id.1≠87025→rQ id l)→hpX l X id=some o:=fun id o h1 h2=>(oL (h2 (hX id o h1))).trans h1;have hwl:f.words.length≤dt:=by have h:=jh qQf (FD.sl (f.words.map enc)) ak;have:=iN h;simpa using this
  have hsl:f.subs.length≤dt:=by have h:=jh qQf (FD.sl (f.subs.map enc)) ak;have:=iN h;simpa using this
  have hsw:∀g∈f.subs,(enc g).Wf:=fun g hg=>oU (jh qQf (FD.sl (f.subs.map enc)) ak) _ (cR hg);have hss:∀g∈f.subs,g.size≤k:=fun g hg=>by have:=aH.size_sub hg;omega
  unfold dt at hwl hsl;rw[D2]at hlen hQ;rw[aD]at hlen;rw[Cm]at hQ;obtain⟨p,hp⟩:∃p:Pd,p=⟨f.name,(f.words.length:Int)⟩:=⟨_,rfl⟩;rw[←hp]at hlen hQ;obtain⟨B0,hB0⟩:∃B0,lA acc (if f.kind=2 then[p]else[])=B0:=⟨_,rfl⟩;have hB0l:B0.length≤acc.length+(if f.kind=2 then[p]else[]).length:=by rw[←hB0];exact yR _ _
  rw[hB0]at hQ;obtain⟨B,hB⟩:∃B:Nat→List Pd,B=fun j=>lA B0 (fL (f.subs.take j)):=⟨_,rfl⟩;have hBz:B 0=B0:=by rw[hB];rfl
  have hBs:∀j (h:j<f.subs.length),B (j+1)=lA (B j) (pds f.subs[j]):=fun j h=>by rw[hB];simp only[tp h,Cm]
  have hBl:∀j (h:j<f.subs.length),(B j).length+(pds f.subs[j]).length≤1000000:=fun j h=>by rw[hB];have h1:=yR (fL (f.subs.take j)) B0;have h2:=MZ (fs:=f.subs) (j+1);rw[tp h,aD]at h2;simp only;omega
  have hBe:lA B0 (fL f.subs)=B f.subs.length:=by rw[hB];simp only[aJ]
  rw[hBe]at hQ;have kQ:=Kp.mk hQ;have kI:=Kp.mk ih;have kS:=Kp.mk hsw;have kZ:=Kp.mk hss;have kx:=Kp.mk hX;have kX:=Kp.mk @hX';have kBs:=Kp.mk hBs;have kBl:=Kp.mk hBl;clear hX' hQ ih hsw hss hX hBs hBl hBe hB;have h3:(f.kind=2∧p∈acc)∨(f.kind=2∧p∉acc)∨¬f.kind=2:=by
   by_cases hk:f.kind=2
   ·by_cases hin:p∈acc
    ·exact .inl ⟨hk,hin⟩
    ·exact .inr (.inl ⟨hk,hin⟩)
   ·exact .inr (.inr hk)
  rcases h3 with⟨hk,hin⟩|⟨hk,hin⟩|hk
  case' inl=>
   have hb1:lA acc [p]=acc:=by show pn acc p=acc;unfold pn;rw[aF hin]
   have hd:decide (p∈acc)=true:=ba hin;have hk':(f.kind=2)=True:=aU hk;rw[aF hk,hb1]at hB0;obtain⟨nw,hnw⟩:∃b:Bool,b=false:=⟨_,rfl⟩
  case' inr.inl=>
   have hb1:lA acc [p]=acc++[p]:=by show pn acc p=acc++[p];unfold pn;rw[az hin]
   have hd:decide (p∈acc)=false:=aW hin;have hk':(f.kind=2)=True:=aU hk;rw[aF hk,hb1]at hB0;obtain⟨nw,hnw⟩:∃b:Bool,b=true:=⟨_,rfl⟩
  case' inr.inr=>
   have hb1:lA acc []=acc:=rfl;have hd:True:=trivial;have hk':(f.kind=2)=False:=aP hk;rw[az hk,hb1]at hB0;obtain⟨nw,hnw⟩:∃b:Bool,b=false:=⟨_,rfl⟩;obtain⟨g1,m1,hgm⟩:∃g1 m1:Nat,g1=g∧m1=n+1:=⟨_,_,rfl,rfl⟩
  all_goals
   subst hB0;have htk:(jT acc).take (acc.length*3)=jT acc:=by rw[←Ea];exact aJ
   have hfl:bA [FD.agg [FD.s f.name.l,FD.i .i64 (f.words.length:Int),FD.sl []]]=[.fz (.s f.name.l),.fz (.i .i64 (f.words.length:Int)),.fz (.sl [])]:=rfl;have hap:acc.length*3≤(jT acc).length∧fits (acc.length+1) 48:=⟨by rw[Ea];omega,qQ9,ae⟩;refine rv (N:=38) hm hI3 87000 (lst [25]) US Tryz.func87 rfl ?_
   repeat'(first|(refine dJ.i (f88 (l:=acc) (p:=p) (vt:=acc.isEmpty) (z:= .full []) af (by rw[hp];simp only[go_sem,HHs]) (by simp only[go_sem,HHs]) (fun h=>cK.1 h) ae fun n' hn'=>?_);obtain⟨g1,m1,hgm⟩:∃g1 m1:Nat,g1=(if nw=true then n' else g)∧m1=(if nw=true then n'+1 else n'):=⟨_,_,rfl,rfl⟩)|apply rx hap|apply au|refine rq ?_|simp only[go_sem,hk',hd,HHs,bn,bh,Tryz.f87])
   try simp only[hnw,cJ,cd,bK]at hgm
   refine cI hm hI3 87000 (lst [25]) (ι:=jL f.subs.length (n+1) fun _=>True)
    ⟨fun q=>⟨frL [(1,.ptr (66003,1) 0),(2,.ptr (66005,2) 0),(28,eS f.subs),(29,eI f.subs.length),(30,eI q.i)],hpX (HHs (B q.i) q.g) X,q.m⟩,fun q=>f.subs.length-q.i⟩
    ⟨0,g1,m1,ae,ae,ae,trivial⟩ ah ?_ ?_
   ·obtain⟨rfl,rfl⟩:=hgm;refine gT ?_ ?_ (fun id o ho=>?_) ?_
    ·simp only[go_sem]
    ·simp only[go_sem,HHs,hBz,RB,hp,htk,hfl,List.isEmpty_cons,eK]
    ·refine kX.out id o ho fun h1=>?_
     ((repeat'(first|exact trivial|apply au))<;>(rintro rfl;simp only at h1;omega))
    ·simp only[go_sem]
   rintro⟨j,g2,m2,hj,hg2,hm2,_⟩
   try simp only at hj hg2 hm2
   rcases aA j f.subs.length with h2|h2
   ·have hmem:=aT h2;have hBj:=kBs.out j h2;have hz:=kZ.out _ hmem;have ih2:=kI.out f.subs[j] (B j) g2 (m2+1) X hz (kS.out _ hmem) ae ae (kBl.out j h2) (fun id o ho=>by have:=kx.out id o ho;omega);rw[jf]at ih2
    repeat'(first|apply au|refine rq ?_|simp only[go_sem,h2,HHs,bn,bh,Tryz.f87])
    refine dJ.i (qw rfl (qo qQl (by simp only[go_sem,HHs]) (fun id o ho=>?_) (aI _) (jl ih2 ?_)))
    ·refine kX.out id o ho fun h1=>?_
     ((repeat'(first|exact trivial|apply au))<;>(rintro rfl;simp only at h1;omega))
    rintro d' H' n' ⟨rfl,e1,⟨g3,hg3,e2⟩,e3⟩;rw[←hBj]at e2;simp only[go_sem,HHs]at e2;obtain⟨b1,b2,b3⟩:=e2;rw[show H'=hpX [] H' from rfl]
    repeat'(first|apply au|refine rq ?_|simp only[go_sem,h2,HHs,bn,bh,Tryz.f87])
    refine⟨⟨j+1,g3,n',ae,ae,ae,trivial⟩,af,?_⟩;refine gT ?_ ?_ (fun id o ho=>?_) ?_
    ·simp only[go_sem]
    ·simp only[go_sem,HHs,b1,b2,b3]
    ·exact e3 id o ho
    ·simp only[go_sem]
   ·obtain rfl:j=f.subs.length:=ae
    repeat'(first|apply au|refine rq ?_|simp only[go_sem,aC,HHs,bn,bh,Tryz.f87])
    all_goals
     rw[kQ.out];refine⟨rfl,ae,⟨g2,ae,?_⟩,fun id o ho=>kX.out id o ho fun h1=>?_⟩
     ·simp only[go_sem,HHs]
     ·((repeat'(first|exact trivial|apply au))<;>(rintro rfl;simp only at h1;omega))
end
section
variable {G:Nat→List FD}
structure Sx (n n0:Nat)(p:Nat→Prop) where
 i:Nat
 g:Nat
 h:Nat
 m:Nat
 hi:i≤n
 hg:g<m
 hh:h<m
 hm:n0≤m
 hp:p i
theorem zz:∀{l:List (Abs.Id×Option O)} {id:Abs.Id} {o:O},hpL l id=some o→id∈l.map (·.1)
 |[],id,o,h=>by cases h
 |(a,b)::l,id,o,h=>by
  by_cases e:id=a
  ·rw[e];simp
  ·have h2:hpL l id=some o:=by
    rw[←h];show hpL l id=if id=a then b else hpL l id
    rw[az e]
   rw[aM];exact cg _ (zz h2)
theorem Xs (l:List Abs.aH):e7 l=lC (kv (l.flatMap eR)):=by unfold e7 lC kv;rw[xj]
mutual
theorem zS:∀f:Abs.aH,(pds f).length≤f.size
 | .mk k nm ws s=>by rw[pds,aD,aH.size];have h:=K6 s;split<;>simp<;>omega
theorem K6:∀fs:List Abs.aH,(fL fs).length≤aH.sizes fs
 |[]=>by simp[fL]
 |f::fs=>by rw[fL,aD,aH.sizes];have h1:=zS f;have h2:=K6 fs;omega
end
theorem wS:∀{l:List Abs.aH},(∀f∈l,(dB false f).code=0)→(fL l).length≤200*l.length
 |[],_=>by simp[fL]
 |f::l,h=>by rw[fL,aD,aN];have h1:=zS f;have h2:=nq (h f ak);have h3:=wS fun g hg=>h g (cg _ hg);omega
def sgP (l:List Abs.aH):Prop:=(∀f∈l,(dB false f).code=0)∧l.length≤41
def c0 (w:Str):dT:=⟨w,0⟩
def qb (l:List Abs.aH):dd:=⟨0,(e7 l).map c0,(iz l).map qT⟩
set_option maxHeartbeats 8000000 in
theorem Vn {l:List Abs.aH}(hw:(enc l).Wf)(hp:sgP l):cS Tryz.prog G 66 [.fz (enc l)] (hpL []) 0 (fun d H n=>∃g gc,g<n∧gc<n∧d= .agg [.fz (.i .i64 0),.arr (66039,gc) 2 0 (e7 l).length,.arr (87025,g) 3 0 (iz l).length]∧H (87025,g)=some ⟨jT (iz l),false,(iz l).isEmpty⟩∧H (66039,gc)=some ⟨bA (((e7 l).map c0).map enc),false,(e7 l).isEmpty⟩):=by
 obtain⟨Q,hQ⟩:∃Q:D→bR→Nat→Prop,Q=(fun d H n=>∃g gc,g<n∧gc<n∧d= .agg [.fz (.i .i64 0),.arr (66039,gc) 2 0 (e7 l).length,.arr (87025,g) 3 0 (iz l).length]∧H (87025,g)=some ⟨jT (iz l),false,(iz l).isEmpty⟩∧H (66039,gc)=some ⟨bA (((e7 l).map c0).map enc),false,(e7 l).isEmpty⟩):=⟨_,rfl⟩;rw[←hQ];obtain⟨hv,hl⟩:=hp;have hsw:∀f∈l,(enc f).Wf:=fun f hf=>oU hw _ (cR hf);obtain⟨A,hA⟩:∃A:Nat→List Str,A=fun i=>(l.take i).flatMap eR:=⟨_,rfl⟩;have hA0:A 0=[]:=by rw[hA];rfl
 have hAs:∀i (h:i<l.length),A (i+1)=A i++eR l[i]:=fun i h=>by rw[hA];simp only;rw[aB h,lL,cU,nG,bP]
 have hAe:A l.length=l.flatMap eR:=by rw[hA];simp only[aJ]
 obtain⟨B,hB⟩:∃B:Nat→List Pd,B=fun i=>lA [] (fL (l.take i)):=⟨_,rfl⟩;have hB0:B 0=[]:=by rw[hB];rfl
 have hBs:∀i (h:i<l.length),B (i+1)=lA (B i) (pds l[i]):=fun i h=>by rw[hB];simp only[tp h,Cm]
 have hBl:∀i (h:i<l.length),(B i).length+(pds l[i]).length≤1000000:=fun i h=>by
  have h1:=yR (fL (l.take i)) [];have h2:=wS (l:=l.take i) fun f hf=>hv f (dE hf);have h3:=zS l[i];have h4:=nq (hv _ (aT h));have h5:(l.take i).length≤41:=by rw[aX];omega
  rw[hB];simp only[bj]at h1 ⊢;omega
 have hBe:∀S:List Pd,S.Perm (B l.length)→(S.Pairwise fun a b=>¬ltP b a)→S=iz l:=fun S h1 h2=>by
  refine X9 (U:=B l.length) (fun x=>?_) ?_ h1 h2
  ·rw[hB];simp only[aJ];rw[Cn,zl];simp
  ·rw[hB];exact ID _ _ List.Pairwise.nil
 have hBa:∀p∈B l.length,0≤p.arity∧p.arity≤1000000:=fun p hp=>by
  rw[hB]at hp;simp only[aJ]at hp;rw[Cn,zl]at hp;rcases hp with hp|⟨f,hf,hp⟩
  ·simp at hp
  ·have:=Am f (wM (hv f hf)) p hp;omega
 rw[Xs,←hAe]at hQ;have kb:=Kp.mk hv;have kw:=Kp.mk hsw;have kA:=Kp.mk hAs;have kB:=Kp.mk hBs;have kBl:=Kp.mk hBl;have kBe:=Kp.mk hBe;have kBa:=Kp.mk hBa;have kq:=Kp.mk hQ;clear hv hsw hA hAs hAe hB hBs hBl hBe hBa hQ hw;refine rv (N:=46) hm hI3 66000 (lst [20,39]) GH Tryz.func66 rfl ?_
 repeat'(first|apply au|refine rq ?_|simp only[go_sem,HHs,bn,bt,bh,Tryz.f66])
 refine cI hm hI3 66000 (lst [20,39]) (ι:=Sx l.length 3 fun i=>(A i).length≤i*1000000)
  ⟨fun q=>⟨frL [(2,.ptr (66002,0) 0),(3,.ptr (66003,1) 0),(4,.arr (66020,q.h) 1 0 (A q.i).length),(5,.ptr (66005,2) 0),(11,eS l),(12,eI l.length),(13,eI q.i)],
   hpL [((66003,1),some ⟨[eI 0,.full [],.arr (87025,q.g) 3 0 (B q.i).length],true,false⟩),((66005,2),some ⟨[.fn 87 [.ptr (66003,1) 0,.ptr (66005,2) 0]],true,false⟩),((87025,q.g),some ⟨jT (B q.i),false,((B q.i)).isEmpty⟩),((66020,q.h),some ⟨bA ((A q.i).map enc),false,(A q.i).isEmpty⟩),((66002,0),some ⟨[eI 0,.fz (.sl []),.fz (.sl [])],true,false⟩)],q.m⟩,fun q=>l.length-q.i⟩
  ⟨0,4,3,5,ae,ae,ae,ae,by rw[hA0];simp⟩ ah ?_ ?_
 ·refine eX [] [(66020,3),(87025,4)] [] ?_ ?_ ?_ ?_ ?_<;>simp only[go_sem,hA0,hB0]
  all_goals first|rfl|omega
 rintro⟨i,g,h,m,hi,hg,hh,hm2,hp⟩
 try simp only at hi hg hh hm2 hp
 rcases aA i l.length with h1|h1
 ·obtain⟨x,hx⟩:∃x,l[i]=x:=⟨_,rfl⟩;have hxm:x∈l:=by rw[←hx];exact aT h1
  have hcv:=kb.out x hxm;have hcl:=PH hcv;have hcp:(cst x []).length≤1000000∧x.size≤1000000:=⟨hcl.2,by have:=nq hcv;omega⟩;have hs:=kA.out i h1;rw[hx]at hs;have hul:=hcl.1;obtain⟨U,hU⟩:∃U,eR x=U:=⟨_,rfl⟩;rw[hU]at hs hul;obtain⟨C,hC⟩:∃C,A i=C:=⟨_,rfl⟩;rw[hC]at hs hp;have hft:fits (C.length+U.length) 16:=⟨qQ9,ae⟩
  repeat'(first|apply rx hcp|apply rx hft|refine rx (by simp only[aG];exact hft) ?_|apply au|refine rq ?_|simp only[go_sem,h1,hx,hU,hC,HHs,bn,bt,bh,Tryz.f66])
  have hB:=kB.out i h1;rw[hx]at hB;have hBl:=kBl.out i h1;rw[hx]at hBl;obtain⟨V,hV⟩:∃V:Bool,V=(C.isEmpty&&(bA (C.map enc++U.map enc)).isEmpty):=⟨_,rfl⟩;rw[←hV];have hV2:V=(C++U).isEmpty:=by rw[hV,←aE,ia];cases C<;>cases U<;>rfl
  have ih:=f87 (G:=G) x.size x (B i) g (m+2) (hpL [((66020,m+1),some ⟨bA (C.map enc++U.map enc),false,V⟩),((66002,0),some ⟨[.fz (.i .i64 0),.fz (.sl []),.fz (.sl [])],true,false⟩)]) (aI _) (kw.out x hxm) ae ae hBl (fun id o ho=>by have h2:=zz ho;simp only[aM,aQ,aV,aZ,ct]at h2;rcases h2 with rfl|rfl<;>(refine⟨?_,?_,?_,?_⟩<;>simp only<;>omega));rw[jf]at ih;refine dJ.i (qw rfl (qo qQl (by simp only[go_sem,HHs]) (fun id o ho=>?_) (aI _) (jl ih ?_)))
  ·have h2:=zz ho;simp only[aM,aQ,aV,aZ,ct]at h2;rcases h2 with rfl|rfl<;>(simp only[go_sem]at ho ⊢;exact ho)
  rintro d' H' n' ⟨rfl,e1,⟨g3,hg3,e2⟩,e3⟩;rw[←hB]at e2;simp only[go_sem,HHs]at e2;obtain⟨b1,b2,b3⟩:=e2;have b4:=e3 (66020,m+1) _ qQp;have b5:=e3 (66002,0) _ qQp;rw[show H'=hpX [] H' from rfl]
  repeat'(first|apply au|refine rq ?_|simp only[go_sem,h1,HHs,bn,bt,bh,Tryz.f66])
  refine⟨⟨i+1,g3,m+1,n',ae,ae,ae,ae,by rw[hs,aD];omega⟩,af,?_⟩;refine oo ?_ (fun id o ho=>?_) ?_
  ·simp only[go_sem,hs,aD]
  ·have h2:=zz ho;simp only[aM,aQ,aV,aZ,ct]at h2;rcases h2 with rfl|rfl|rfl|rfl|rfl<;>(simp only[go_sem,hs,hV2,aE,b1,b2,b3,b4,b5]at ho ⊢;first|exact ho)
  ·simp only[go_sem]
 ·obtain rfl:i=l.length:=ae
  have hsg:=kBe.out;have hba:=kBa.out;obtain⟨N,hN⟩:∃N,A l.length=N:=⟨_,rfl⟩;obtain⟨U,hU⟩:∃U,B l.length=U:=⟨_,rfl⟩;rw[hU]at hsg hba
  repeat'(first|apply au|refine rq ?_|simp only[go_sem,aC,hN,hU,HHs,bn,bt,bh,Tryz.f66])
  refine dJ.i (Lv (l:=N) (bx:=false) (vt:=N.isEmpty) (by simp only[go_sem,hN]) ?_)
  repeat'(first|apply au|refine rq ?_|simp only[go_sem,hN,hU,HHs,bn,bt,bh,Tryz.f66])
  rw[←sj N];refine dJ.i (KJ (l:=kv N) (bx:=false) (vt:=N.isEmpty) aj ?_)
  repeat'(first|apply au|refine rq ?_|simp only[go_sem,hN,hU,HHs,bn,bt,bh,Tryz.f66])
  obtain⟨K,hK⟩:∃K,lC (kv N)=K:=⟨_,rfl⟩;rw[hK];have hKN:K.length≤N.length:=by
   rw[←hK];have h2:(lC (kv N)).length≤(kv N).length:=by unfold lC;rw[aG];exact bz (sq _) (by rw[aG];exact aI _)
   rw[sj]at h2;exact h2
  have hKl:K.length≤41000000:=by rw[hN]at hp;omega
  refine cI hm hI3 66000 (lst [20,39]) (ι:=jL K.length (m+1) fun _=>True)
   ⟨fun q=>⟨frL [(2,.ptr (66002,0) 0),(3,.ptr (66003,1) 0),(28,.arr (66020,h) 1 0 K.length),(29,eI K.length),(30,eI q.i)],
    hpL [((66003,1),some ⟨[eI 0,.arr (66039,q.g) 2 0 (K.take q.i).length,.arr (87025,g) 3 0 U.length],true,false⟩),((87025,g),some ⟨jT U,false,U.isEmpty⟩),((66020,h),some ⟨bA ((K).map enc),false,N.isEmpty⟩),((66002,0),some ⟨[eI 0,.fz (.sl []),.fz (.sl [])],true,false⟩),((66039,q.g),some ⟨bA (((K.take q.i).map c0).map enc),false,(K.take q.i).isEmpty⟩)],q.m⟩,fun q=>K.length-q.i⟩
   ⟨0,m,m+1,ae,ae,ae,trivial⟩ ah ?_ ?_
  ·refine eX [] [(66039,m)] [] ?_ ?_ ?_ ?_ ?_<;>simp only[go_sem,hK,jT,bv,aQ]
   all_goals first|rfl|omega
  rintro⟨j,gc,m2,hj,hgc,hm3,_⟩
  try simp only at hj hgc hm3
  rcases aA j K.length with h2|h2
  ·obtain⟨w,hw⟩:∃w,K[j]=w:=⟨_,rfl⟩;have ht:K.take (j+1)=K.take j++[w]:=by rw[aB h2,hw]
   have htl:(K.take j).length=j:=by rw[aX];omega
   have hNe:N.isEmpty=false:=by
    cases N with
    |nil=>rw[bj]at hKN;omega
    |cons=>rfl
   have hrq:j+1≤K.length∧N.isEmpty=false:=⟨h2,hNe⟩;have hgd:(bA (K.map enc)).getD j .junk= .fz (.s w.l):=by rw[nM h2,hw];rfl
   obtain⟨T,hT⟩:∃T,K.take j=T:=⟨_,rfl⟩;rw[hT]at ht htl;have hfc:(bA (T.map (enc∘c0))).length=j*2:=by rw[←bX,yq,aG,htl]
   have hap:j*2≤(bA (T.map (enc∘c0))).length∧fits (j+1) 24:=⟨ae,qQ9,ae⟩;have htk:(bA (T.map (enc∘c0))).take (j*2)=bA (T.map (enc∘c0)):=by rw[←hfc];exact aJ
   have hc1:(c0 w).name.l=w.l:=rfl;have hc2:(c0 w).value=0:=rfl;have hfe:(bA [FD.agg [FD.s w.l,FD.i .i64 0]]).isEmpty=false:=rfl
   repeat'(first|apply rx hap|apply rx hrq|apply au|refine rq ?_|simp only[go_sem,h2,hw,hgd,hT,htl,HHs,bn,bt,bh,Tryz.f66])
   refine⟨⟨j+1,m2,m2+1,ae,ae,ae,trivial⟩,af,?_⟩;refine bF ?_ ?_ ?_<;>simp only[go_sem,ht,htl,htk,aE,hc1,hc2,hfe,eK]
   all_goals first|rfl|omega
  ·obtain rfl:j=K.length:=ae
   repeat'(first|apply au|refine rq ?_|simp only[go_sem,aC,aJ,HHs,bn,bt,bh,Tryz.f66])
   refine dJ.i (jl (TO (l:=U) (bx:=false) (vt:=U.isEmpty) hba aj) ?_);rintro d' H' n' ⟨rfl,S,hS1,hS2,rfl,rfl⟩;have eS:=hsg S hS1 hS2;have eL:=hS1.length_eq;have eE:U.isEmpty=S.isEmpty:=by cases U<;>cases S<;>first|rfl|simp at eL
   rw[←eL,eE]
   repeat'(first|apply au|refine rq ?_|simp only[go_sem,cp,HHs,bn,bt,bh,Tryz.f66])
   subst eS;rw[kq.out,hN,hK];exact⟨g,gc,ae,ae,rfl,aj,aj⟩
def I6:Tbl:=I5.add 66 (sp1 qb sgP)
attribute [go_sem] I6
theorem hI6:b9 Tryz.prog G I6:=by
 refine iD GH hI5 fun l hp hw=>?_;refine lj (Vn (G:=G) hw hp) ?_;rintro d H n ⟨g,gc,hg,hgc,rfl,ho,hoc⟩;unfold qb;obtain⟨K,hK⟩:∃K,e7 l=K:=⟨_,rfl⟩;obtain⟨S,hS⟩:∃S,iz l=S:=⟨_,rfl⟩;rw[hK]at hoc ⊢;rw[hS]at ho ⊢;refine⟨.agg [.fz (.i .i64 0),.fz (.sl ((K.map c0).map enc)),.fz (.sl ((S.map qT).map enc))],H0,n,?_,rfl⟩;have e:H0=hpL []:=rfl;rw[e];refine eX [] [] [((87025,g),(S.map qT).map enc),((66039,gc),(K.map c0).map enc)] ?_ ?_ ?_ ?_ ?_<;>simp only[go_sem,ho,hoc]
 case refine_5=>exact⟨by rw[←bX];exact qA _,by rw[←bX];exact qA _⟩
 refine⟨⟨by rw[←bX];unfold jT;rw[bX];rfl,fun h=>by rw[cK.1 h];rfl⟩,fun h=>by rw[cK.1 h];rfl⟩
end
section
variable {G:Nat→List FD}
structure xQ (n n0:Nat)(p:Nat→Nat→Prop) where
 i:Nat
 v:Nat
 m:Nat
 hi:i≤n
 hm:n0≤m
 hp:p i v
def mn (r:gV):Pd:=⟨r.name,r.arity⟩
def qf:Option Nat→Int×Bool
 |some n=>((n:Int),true)
 |none=>(0,false)
def wk (m:dd)(size:Int):Int×Bool:=qf (vE size.toNat m.consts.length (m.rels.map mn))
structure Gx (m:dd)(size:Int):Prop where
 s:1≤size∧size≤4
 a:∀r∈m.rels,0≤r.arity∧r.arity≤3
 c:m.consts.length≤100000000
 r:m.rels.length≤100000000
def I7:Tbl:=I6.add 67 (sZ wk Gx)
attribute [go_sem] I7
set_option maxHeartbeats 8000000 in
theorem hI7:b9 Tryz.prog G I7:=by
 refine zH GI hI6 fun m size hp _ _=>?_;obtain⟨⟨hs1,hs4⟩,har,hcl,hrl⟩:=hp;obtain⟨S,hS⟩:∃S:Nat,size=(S:Int):=⟨size.toNat,ae⟩;subst hS;obtain⟨r,hr⟩:∃r,vE S m.consts.length (m.rels.map mn)=r:=⟨_,rfl⟩;have hV:wk m S=qf r:=by unfold wk;rw[bo,hr]
 rw[hV];obtain⟨Q,hQ⟩:∃Q:D→bR→Nat→Prop,Q=(fun d _ _=>D.val d=some (.tup [.fz (enc (qf r).1),.fz (enc (qf r).2)])):=⟨_,rfl⟩;rw[←hQ];have kq:=Kp.mk hQ;clear hQ hV;unfold vE vW at hr;obtain⟨c,hc⟩:∃c,m.consts.length=c:=⟨_,rfl⟩;rw[hc]at hr hcl;have kr:=Kp.mk har;clear har;refine rv (N:=40) hm hI6 67000 qWi GI Tryz.func67 rfl ?_
 repeat'(first|apply au|refine rq ?_|simp only[go_sem,hc,bt,bn,bZ,bh,Tryz.f67])
 refine cI hm hI6 67000 qWi (ι:=xQ c 1 fun i v=>v≤8192∧nY v (List.replicate (c-i) S++r6 S (m.rels.map mn))=r)
  ⟨fun q=>⟨frL [(1,eI S),(2,.ptr (67002,0) 0),(6,eI q.v),(11,eI c),(12,eI q.i)],hpL [((67002,0),some ⟨[eI m.size,eS m.consts,eS m.rels],true,false⟩)],q.m⟩,fun q=>c-q.i⟩
  ⟨0,1,1,ae,ae,ae,hr⟩ ah ?_ ?_
 ·refine bF ?_ ?_ ?_<;>simp only[go_sem]
  all_goals first|rfl|omega
 rintro⟨i,v,q,hi,hq,hv,hp⟩
 try simp only at hi hq hv hp
 have hm8:∀a b:Nat,a≤8192→b≤64→a*b≤524288:=fun a b h1 h2=>bz (eN h1 h2) ai;rcases aA i c with h1|h1
 ·have h2:c-i=(c-(i+1))+1:=ae
  rw[h2,fp,a6,nY]at hp;have h3:=hm8 v S hv ae;have h4:(v:Int)*(S:Int)=((v*S:Nat):Int):=ak
  have h5:((i:Int)<(c:Int))=True:=aU ae;by_cases h6:8192<v*S
  ·rw[aF h6]at hp;have h6':((8192:Int)<((v*S:Nat):Int))=True:=aU ae
   repeat'(first|apply au|refine rq ?_|simp only[go_sem,h4,h5,h6',bt,bn,bZ,bh,Tryz.f67])
   all_goals
    rw[kq.out,←hp];simp only[go_sem,qf]
  ·rw[az h6]at hp;have h6':((8192:Int)<((v*S:Nat):Int))=False:=aP ae
   repeat'(first|apply au|refine rq ?_|simp only[go_sem,h4,h5,h6',bt,bn,bZ,bh,Tryz.f67])
   refine⟨⟨i+1,v*S,q,ae,ae,ae,hp⟩,af,?_⟩;refine bF ?_ ?_ ?_<;>simp only[go_sem]
   all_goals first|rfl|omega
 obtain rfl:i=c:=ae
 rw[cM,fq,aK]at hp
 repeat'(first|apply au|refine rq ?_|simp only[go_sem,ck,bt,bn,bZ,bh,Tryz.f67])
 refine cI hm hI6 67000 qWi (ι:=xQ m.rels.length 1 fun i v=>v≤8192∧nY v (r6 S ((m.rels.map mn).drop i))=r)
  ⟨fun q=>⟨frL [(1,eI S),(2,.ptr (67002,0) 0),(6,eI q.v),(21,eS m.rels),(22,eI m.rels.length),(23,eI q.i)],hpL [((67002,0),some ⟨[eI m.size,eS m.consts,eS m.rels],true,false⟩)],q.m⟩,fun q=>m.rels.length-q.i⟩
  ⟨0,v,q,ae,ae,hv,hp⟩ ah ?_ ?_
 ·refine bF ?_ ?_ ?_<;>simp only[go_sem]
  all_goals first|rfl|omega
 try clear hp hv
 rintro⟨j,v,q2,hj,hq2,hv,hp⟩
 try simp only at hj hq2 hv hp
 rcases aA j m.rels.length with h1|h1;rotate_left
 ·obtain rfl:j=m.rels.length:=ae
  rw[de ak,r6,nY]at hp
  repeat'(first|apply au|refine rq ?_|simp only[go_sem,aC,bt,bn,bZ,bh,Tryz.f67])
  all_goals
   rw[kq.out,←hp];simp only[go_sem,qf]
 obtain⟨x,hx⟩:∃x,m.rels[j]=x:=⟨_,rfl⟩;have hxa:=kr.out x qQe;have hd:(m.rels.map mn).drop j=mn x::(m.rels.map mn).drop (j+1):=by rw[aR (by simpa using h1),cm,hx]
 rw[hd,r6]at hp;obtain⟨P,hP⟩:∃P,o9 S (mn x)=P:=⟨_,rfl⟩;have hpw:ur S x.arity=(P:Int):=by rw[←hP];rfl
 have hP64:=(DB (a:=(S:Int)) (n:=x.arity) hs1 hs4 hxa.1 hxa.2 x.arity.toNat ae).2;rw[show((S:Int).toNat^x.arity.toNat)=P by rw[←hP];rfl]at hP64;rw[hP]at hp;have hpp:(1≤(S:Int)∧(S:Int)≤4)∧0≤x.arity∧x.arity≤3:=⟨⟨hs1,hs4⟩,hxa⟩
 repeat'(first|apply rx hpp|apply au|refine rq ?_|simp only[go_sem,h1,hx,hpw,bt,bn,bZ,bh,Tryz.f67])
 refine cI hm hI6 67000 qWi (ι:=xQ P 1 fun k w=>w≤8192∧nY w (List.replicate (P-k) 2++r6 S ((m.rels.map mn).drop (j+1)))=r)
  ⟨fun q=>⟨frL [(1,eI S),(2,.ptr (67002,0) 0),(6,eI q.v),(21,eS m.rels),(22,eI m.rels.length),(23,eI j),(30,eI P),(31,eI q.i)],hpL [((67002,0),some ⟨[eI m.size,eS m.consts,eS m.rels],true,false⟩)],q2+1⟩,fun q=>P-q.i⟩
  ⟨0,v,1,ae,ae,hv,hp⟩ ah ?_ ?_
 ·refine bF ?_ ?_ ?_<;>simp only[go_sem]
  all_goals first|rfl|omega
 try clear hp hv
 rintro⟨k,w,q3,hk,hq3,hv,hp⟩
 try simp only at hk hq3 hv hp
 rcases aA k P with h2|h2
 ·have h3:P-k=(P-(k+1))+1:=ae
  rw[h3,fp,a6,nY]at hp;have h4:(w:Int)*(2:Int)=((w*2:Nat):Int):=ak
  have h5:((k:Int)<(P:Int))=True:=aU ae;by_cases h6:8192<w*2
  ·rw[aF h6]at hp;have h6':((8192:Int)<((w*2:Nat):Int))=True:=aU ae
   repeat'(first|apply au|refine rq ?_|simp only[go_sem,h4,h5,h6',bt,bn,bZ,bh,Tryz.f67])
   all_goals
    rw[kq.out,←hp];simp only[go_sem,qf]
  ·rw[az h6]at hp;have h6':((8192:Int)<((w*2:Nat):Int))=False:=aP ae
   repeat'(first|apply au|refine rq ?_|simp only[go_sem,h4,h5,h6',bt,bn,bZ,bh,Tryz.f67])
   refine⟨⟨k+1,w*2,q3,ae,ae,ae,hp⟩,af,?_⟩;refine bF ?_ ?_ ?_<;>simp only[go_sem]
   all_goals first|rfl|omega
 obtain rfl:k=P:=ae
 rw[cM,fq,aK]at hp
 repeat'(first|apply au|refine rq ?_|simp only[go_sem,ck,bt,bn,bZ,bh,Tryz.f67])
 refine⟨⟨j+1,w,q2+1,ae,ae,ae,hp⟩,af,?_⟩;refine bF ?_ ?_ ?_<;>simp only[go_sem]
 all_goals first|rfl|omega
end
section
variable {G:Nat→List FD}
theorem XP {P:Program}{f:FuncId}{args:List D}{xs ys:List FD}{b v:Bool}{hl:List (Abs.Id×Option O)}{n t es len:Nat}{R:D→bR→Nat→Prop}(ha:D.toFDs args=some xs)
  (h:cS P G f (xs.map .fz) H0 0 (fun d H1 n1=>∃g,g<n1∧d= .arr (t,g) es 0 len∧H1 (t,g)=some ⟨bA ys,b,v⟩))(hR:∀g n',n≤g→g<n'→R (.arr (t,g) es 0 len) (hpL (((t,g),some ⟨bA ys,b,v⟩)::hl)) n'):cS P G f args (hpL hl) n R:=by
 refine uy h.1 fun hfr=>lj (wX ha h) ?_;rintro d H' n' ⟨d1,H1,n1,⟨g,hg,rfl,ho⟩,rfl,rfl,rfl⟩;have hsh:shH n (hpL hl) H1 (t,g+n)=some ⟨bA ys,b,v⟩:=by unfold shH;rw[aF ak,show(t,g+n-n)=(t,g) by rw[dl],ho];simp only[bL,shO,Lt]
 refine⟨.arr (t,g+n) es 0 len,hpL (((t,g+n),some ⟨bA ys,b,v⟩)::hl),n+n1,oo ?_ (fun id o hid=>?_) (aI _),hR (g+n) (n+n1) ae ae⟩
 ·exact⟨rfl,trivial⟩
 ·simp only[hpL]at hid;split at hid
  ·rename_i e;subst e;rw[←hid];exact hsh
  ·have hlt:id.2<n:=by
    rcases aA id.2 n with h3|h3
    ·exact h3
    ·rw[hfr id h3]at hid;cases hid
   show shH n (hpL hl) H1 id=some o;unfold shH;rw[az ae];exact hid
theorem Sq {l:List dT}(hl:l.length≤100000000):cS Tryz.prog G 93 [.fz (.sl (l.map enc))] H0 0 (fun d H n=>∃g,g<n∧d= .arr (93007,g) 2 0 l.length∧H (93007,g)=some ⟨bA (l.map enc),false,l.isEmpty⟩):=by
 rw[ky];obtain⟨Q,hQ⟩:∃Q:D→bR→Nat→Prop,Q=(fun d H n=>(d= .full []∧l=[]∧n=0∧H=hpL [])∨∃g,g<n∧d= .arr (93007,g) 2 0 l.length∧H (93007,g)=some ⟨bA (l.map enc),false,l.isEmpty⟩):=⟨_,rfl⟩;have key:cS Tryz.prog G 93 [.fz (.sl (l.map enc))] (hpL []) 0 Q:=by
  refine rv (N:=8) hm hI7 93000 (lst [7]) UU Tryz.func93 rfl ?_;simp only[go_sem];refine qV.i fun b hb=>?_;cases b
  ·repeat'(first|apply au|refine rq ?_|simp only[go_sem,Tryz.f93])
   rw[hQ];have hv:(bA (l.map enc)).isEmpty=l.isEmpty:=by cases l<;>rfl
   exact .inr ⟨0,ae,rfl,by simp only[go_sem,hv]⟩
  ·have:l=[]:=bG (hb rfl);subst this
   repeat'(first|apply au|refine rq ?_|simp only[go_sem,Tryz.f93])
   rw[hQ];exact .inl ⟨rfl,rfl,rfl,rfl⟩
 refine lj key ?_;rw[hQ];rintro d H n (⟨rfl,rfl,rfl,rfl⟩|⟨g,hg,rfl,ho⟩)
 ·refine⟨.arr (93007,0) 2 0 0,hpL [((93007,0),some ⟨[],false,true⟩)],1,?_,0,ae,rfl,aj⟩;refine eX [] [(93007,0)] [] ?_ ?_ ?_ ?_ ?_<;>simp only[go_sem]
  all_goals first|rfl
 ·exact⟨_,H,n,oo ⟨rfl,trivial⟩ (fun _ _ h=>h) (aI _),g,hg,rfl,ho⟩
theorem M3 (s i:Nat):∀j,iw s i j=i / s^j
 |0=>by rw[iw,Nat.pow_zero,Nat.div_one]
 |j+1=>by rw[iw,M3 s i j,Nat.div_div_eq_div_mul,cF]
theorem JI {S:Nat}{ps:List Pd}{i:Nat}(h:i<ps.length):gM S (ps.take (i+1))=gM S (ps.take i)+o9 S ps[i]:=by
 have hap:∀a b:List Pd,gM S (a++b)=gM S a+gM S b:=by
  intro a b;induction a with
  |nil=>simp[gM]
  |cons x a ih=>rw[a6,gM,gM,ih,cz]
 rw[aB h,hap,gM,gM,bJ]
theorem Cj {S:Nat}:∀{ps:List Pd} {i:Nat} (bits:List Bool) (h:i<ps.length),nW S (ps.take (i+1)) bits=nW S (ps.take i) bits++[⟨ps[i].name,ps[i].arity,tR S ps[i].arity.toNat (bits.drop (gM S (ps.take i)))⟩]
 |[],_,_,h=>by simp at h
 |p::ps,0,bits,_=>by rw[bm,bv,nW];rfl
 |p::ps,i+1,bits,h=>by rw[bm,bm,nW,nW,Cj (ps:=ps) (i:=i) (bits.drop (o9 S p)) qQh,gM,List.drop_drop];rfl
def nj (S ar:Nat)(bits:List Bool)(k:Nat):List (List Int):=((List.range k).filter fun k=>bits.getD k false).map (fc S ar)
theorem LB (S ar:Nat)(bits:List Bool)(k:Nat):nj S ar bits (k+1)=nj S ar bits k++(if bits.getD k false=true then[fc S ar k]else[]):=by unfold nj;rw[fC,List.filter_append,aE];congr 1;simp only[nF,List.filter_nil];cases bits.getD k false<;>rfl
theorem WO (cells N:Nat):vP cells N=(ja 2 N cells cells).map fun d=>decide (d=1):=by rw[vc];rfl
end
section
variable {G:Nat→List FD}
def pP (m:dd)(size n:Int):dd:=mW (m.consts.map (·.name)) (m.rels.map mn) size.toNat n.toNat
structure AY (m:dd)(size n:Int):Prop where
 s:1≤size∧size≤4
 n:0≤n
 a:∀r∈m.rels,0≤r.arity∧r.arity≤3
 c:m.consts.length≤100000000
 r:m.rels.length≤100000000
 z:∀k∈m.consts,k.value=0
 k:gM size.toNat (m.rels.map mn)≤1000
theorem Es:∀{ns:List Str} {vs:List Int} {p:Nat} {v:Int},p<ns.length→vs.length=ns.length→(bA ((List.zipWith dT.mk ns vs).map enc)).set (p*2+1) (.fz (.i .i64 v))=bA ((List.zipWith dT.mk ns (vs.set p v)).map enc)
 |[],_,_,_,h,_=>by simp at h
 |_::_,[],_,_,_,h=>by simp at h
 |_::ns,_::vs,0,v,_,_=>rfl
 |x::ns,y::vs,p+1,v,h,h2=>by have ih:=Es (ns:=ns) (vs:=vs) (p:=p) (v:=v) qQh qQ4;rw[bM,gh,gh,aM,aM];show(.fz (.s x.l):: .fz (.i .i64 y)::bA ((List.zipWith dT.mk ns vs).map enc)).set _ _= .fz (.s x.l):: .fz (.i .i64 y)::bA ((List.zipWith dT.mk ns (vs.set p v)).map enc);rw[←ih,show(p+1)*2+1=(p*2+1)+1+1 by omega,bM,bM]
theorem EG {ns:List Str}{vs:List Int}(h:vs.length=ns.length):(List.zipWith dT.mk ns vs).length=ns.length:=by rw[List.length_zipWith,h,Nat.min_self]
theorem NG:∀{l:List dT},(∀k∈l,k.value=0)→List.zipWith dT.mk (l.map (·.name)) (List.replicate l.length 0)=l
 |[],_=>rfl
 |k::l,h=>by rw[aM,aN,fp,gh,NG fun q hq=>h q (cg _ hq)];have:=h k ak;cases k;simp only at this;subst this;rfl
theorem Oy (x:Nat):x6 (x:Int) 1=((x % 2:Nat):Int):=by
 unfold x6;have h:(BitVec.ofInt 64 (x:Int)&&& BitVec.ofInt 64 1).toNat=x % 2:=by rw[BitVec.toNat_and,BitVec.ofInt_natCast,BitVec.toNat_ofNat,show(BitVec.ofInt 64 1).toNat=1 from rfl,Nat.and_one_is_mod,Nat.mod_mod_of_dvd _ ai]
 rw[h];rcases Nat.mod_two_eq_zero_or_one x with e|e<;>rw[e]<;>rfl
theorem Sz {P:Program}{G:Nat→List FD}{N:Nat}{c:Code}{st:St}{q:Exit→St→Prop}{ι:Type}(e0:Exit)(I:ι→St)(h:∀i,q e0 (I i))(h2:@WK P G N c st ⟨fun e s=>e=e0∧∃i,gH G N s (I i)⟩):@WK P G N c st ⟨q⟩:=by unfold WK at h2 ⊢;intro a w L F hr;refine jS (h2 a w L F hr) fun e a' w' hs=>?_;obtain⟨s,L1,F1,⟨rfl,i,hw⟩,g2,g3⟩:=hs;obtain⟨L2,F2,g4,g5⟩:=hw a' w' L1 F1 g2;exact⟨I i,L2,F2,h i,g4,dH.trans g3 g5⟩
theorem EE:∀l:List dT,(bA (l.map enc)).length=l.length*2
 |[]=>rfl
 |x::l=>by rw[aM,aN];show(D.fz (.s x.name.l)::D.fz (.i .i64 x.value)::bA (l.map enc)).length=_;rw[aN,aN,EE l];omega
def ML:Tv:=(.q 0 (.q 1 (.q 2 (.q 3 (.q 4 (.q 5 (.q 6 (.q 7 (.br [(8,.leaf)])))))))))
def pO (K N j:Nat):List Bool:=(ja 2 N K j).map fun d=>decide (d=1)
theorem Mm {K N j:Nat}(h:j≤K):(pO K N j).length=K:=by unfold pO;rw[aG,xf h]
theorem YT (K N:Nat):pO K N 0=List.replicate K false:=by unfold pO;rw[wU,List.map_replicate];rfl
theorem OB {K N j:Nat}(h:j<K):(pO K N j).set (K-1-j) (decide ((iw 2 N j % 2:Nat)=(1:Int)))=pO K N (j+1):=by unfold pO;rw[←xg h,fZ]
def I8:Tbl:=I7.add 68 (sp3 pP AY)
attribute [go_sem] I8
def Gy (m:dd)(S N:Nat)(d:D)(H:bR)(n:Nat):Prop:=∃g h,g<n∧h<n∧d= .agg [.fz (.i .i64 S),.arr (93007,g) 2 0 m.consts.length,.ow (68132,h) 3 ((pP m S N).rels.map enc)]∧H (93007,g)=some ⟨bA ((pP m S N).consts.map enc),false,m.consts.isEmpty⟩
set_option maxHeartbeats 8000000 in
theorem UH {m:dd}{size n:Int}(hp:AY m size n)(S N:Nat)(hS:size=S)(hN:n=N):cS Tryz.prog G 68 [.fz (enc m),.fz (enc size),.fz (enc n)] (hpL []) 0 (Gy m S N):=by
 obtain⟨⟨hs1,hs4⟩,hn,har,hcl,hrl,hcz,hk⟩:=hp;subst hS;subst hN;obtain⟨Q,hQ⟩:∃Q:D→bR→Nat→Prop,Q=Gy m S N:=⟨_,rfl⟩;rw[←hQ];have kq:=Kp.mk hQ;clear hQ;have kr:=Kp.mk har;clear har;rw[bo]at hk;obtain⟨c,hc⟩:∃c,m.consts.length=c:=⟨_,rfl⟩;have hcl2:=hcl;rw[hc]at hcl2;obtain⟨ps,hps⟩:∃ps,m.rels.map mn=ps:=⟨_,rfl⟩;have hpl:ps.length=m.rels.length:=by rw[←hps,aG]
 have hpi:∀i (h:i<m.rels.length) (h2:i<ps.length),ps[i]=mn m.rels[i]:=fun i h h2=>by subst hps;rw[cm]
 rw[hps]at hk;obtain⟨C,hC⟩:∃C:Nat→Nat,C=fun i=>gM S (ps.take i):=⟨_,rfl⟩;have hC0:C 0=0:=by rw[hC];rfl
 have hCs:∀i (h:i<m.rels.length),C (i+1)=C i+o9 S (mn m.rels[i]):=fun i h=>by rw[hC];simp only;rw[JI ae,hpi i h ae]
 have hCe:C m.rels.length=gM S ps:=by rw[hC,←hpl];simp only[aJ]
 have hCm:∀i,i≤m.rels.length→C i≤gM S ps:=fun i h=>by
  have key:∀k,C i≤C (i+k)∨m.rels.length<i+k:=by
   intro k;induction k with
   |zero=>exact .inl (aI _)
   |succ k ih=>
    rcases ih with ih|ih
    ·rcases aA (i+k) m.rels.length with h2|h2
     ·have:=hCs (i+k) h2;rw[←cz];exact .inl ae
     ·exact .inr ae
    ·exact .inr ae
  rcases key (m.rels.length-i)with h2|h2
  ·rw[show i+(m.rels.length-i)=m.rels.length by omega,hCe]at h2;exact h2
  ·omega
 obtain⟨K,hK⟩:∃K,gM S ps=K:=⟨_,rfl⟩;rw[hK]at hk hCe hCm;have kC:=Kp.mk hCs;have kM:=Kp.mk hCm;have kp:=Kp.mk hpi;clear hCs hCm;refine rv (N:=136) hm hI7 68000 qW1 GJ Tryz.func68 rfl ?_
 repeat'(first|refine dJ.i (XP rfl (Sq hcl) fun g b hg hg2=>?_)|apply au|refine rq ?_|simp only[go_sem,hc,bt,bn,bZ,bh,Tryz.f68])
 refine cI hm hI7 68000 qW1 (ι:=fW m.rels.length (b+1) fun _=>True)
  ⟨fun q=>⟨frL [(1,eI S),(2,eI N),(3,.ptr (68003,0) 0),(6,.ptr (68006,1) 0),(7,.ptr (68007,b) 0),(9,eI (C q.i:Nat)),(28,eS m.rels),(29,eI m.rels.length),(30,eI q.i)],hpL [((68003,0),some ⟨[eI m.size,eS m.consts,eS m.rels],true,false⟩),((68006,1),some ⟨[eI 0,.full [],.full []],true,false⟩),((68007,b),some ⟨[eI S,.arr (93007,g) 2 0 c,.full []],true,false⟩),((93007,g),some ⟨bA (m.consts.map enc),false,m.consts.isEmpty⟩)],q.m⟩,fun q=>m.rels.length-q.i⟩
  ⟨0,b+1,ae,ae,trivial⟩ ah ?_ ?_
 ·refine bF ?_ ?_ ?_<;>simp only[go_sem,hC0]
  all_goals first|rfl|omega
 rintro⟨i,n,hi,hn2,_⟩
 try simp only at hi hn2
 have hCi:=kM.out i hi;rcases aA i m.rels.length with h1|h1
 ·obtain⟨x,hx⟩:∃x,m.rels[i]=x:=⟨_,rfl⟩;have hxa:=kr.out x qQe;have hcs:=kC.out i h1;rw[hx]at hcs;obtain⟨P,hP⟩:∃P,o9 S (mn x)=P:=⟨_,rfl⟩;have hpw:ur S x.arity=(P:Int):=by rw[←hP];rfl
  rw[hP]at hcs;have hCi2:=kM.out (i+1) h1;obtain⟨z,hz⟩:∃z,C i=z:=⟨_,rfl⟩;rw[hz]at hcs hCi;have hzp:(z:Int)+(P:Int)=((z+P:Nat):Int):=ak
  have hpp:(1≤(S:Int)∧(S:Int)≤4)∧0≤x.arity∧x.arity≤3:=⟨⟨hs1,hs4⟩,hxa⟩
  repeat'(first|apply rx hpp|apply au|refine rq ?_|simp only[go_sem,h1,hx,hpw,hz,hzp,bt,bn,bZ,bh,Tryz.f68])
  refine⟨⟨i+1,n+1,ae,ae,trivial⟩,af,?_⟩;refine bF ?_ ?_ ?_<;>simp only[go_sem,hcs]
  all_goals first|rfl|omega
 obtain rfl:i=m.rels.length:=ae
 have v0:=YT K N;obtain⟨I,hI⟩:∃I:Nat→Int,I=fun j:Nat=>(K:Int)-1-(j:Int):=⟨_,rfl⟩;have hI0:I 0=(K:Int)-1:=by rw[hI];simp
 have hIs:∀j,I (j+1)=I j-1:=fun j=>by rw[hI];simp only;omega
 have hIe:I K= -1:=by rw[hI];simp only;omega
 have hIj:∀j (_:j<K),I j=((K-1-j:Nat):Int):=fun j h=>by rw[hI];simp only;omega
 have kI:=Kp.mk hIj;have kS:=Kp.mk hIs;clear hI hIj hIs
 repeat'(first|apply au|refine rq ?_|simp only[go_sem,aC,hCe,nT,qt,←v0,hI0,bt,bn,bZ,bh,Tryz.f68])
 refine cI hm hI7 68000 qW1 (ι:=fW K (n+1) fun _=>True)
  ⟨fun q=>⟨frL [(1,eI S),(2,eI (iw 2 N q.i:Nat)),(3,.ptr (68003,0) 0),(6,.ptr (68006,1) 0),(7,.ptr (68007,b) 0),(8,.arr (68042,n) 1 0 K),(12,eI (I q.i))],hpL [((68003,0),some ⟨[eI m.size,eS m.consts,eS m.rels],true,false⟩),((68006,1),some ⟨[eI 0,.full [],.full []],true,false⟩),((68007,b),some ⟨[eI S,.arr (93007,g) 2 0 c,.full []],true,false⟩),((93007,g),some ⟨bA (m.consts.map enc),false,m.consts.isEmpty⟩),((68042,n),some ⟨bA ((pO K N q.i).map enc),false,false⟩)],q.m⟩,fun q=>K-q.i⟩
  ⟨0,n+1,ae,ae,trivial⟩ ah ?_ ?_
 ·refine bF ?_ ?_ ?_<;>simp only[go_sem,hI0,iw]
  all_goals first|rfl|omega
 rintro⟨j,n2,hj,hn3,_⟩
 try simp only at hj hn3
 rcases aA j K with h2|h2
 ·have e1:=kI.out j h2;have e4:=kS.out j;have hset:=OB (N:=N) h2;have hvl:=Mm (K:=K) (N:=N) (j:=j) ae;obtain⟨p,hp⟩:∃p,K-1-j=p:=⟨_,rfl⟩;have hpl2:p<K:=ae
  rw[hp]at hset e1;rw[e1]at e4;have e2:((0:Int)≤(p:Int))=True:=aU ae;have hq1:iw 2 N (j+1)=iw 2 N j / 2:=rfl;obtain⟨x,hx⟩:∃x,iw 2 N j=x:=⟨_,rfl⟩;rw[hx]at hset hq1;have em:=Oy x;have ed:(x:Int) / (2:Int)=((x / 2:Nat):Int):=(nE x 2).symm;obtain⟨r,hr⟩:∃r,x % 2=r:=⟨_,rfl⟩;obtain⟨y,hy⟩:∃y,x / 2=y:=⟨_,rfl⟩;rw[hr]at em hset;rw[hy]at ed hq1;have hfs:(bA ((pO K N j).map enc)).set p (.fz (.b (decide ((r:Int)=1))))=bA ((pO K N (j+1)).map enc):=by rw[←hset,←jI];rfl
  repeat'(first|refine rx ⟨ae,ai,ai⟩ ?_|apply au|refine rq ?_|simp only[go_sem,hx,e1,e2,em,ed,hvl,hpl2,bt,bn,bZ,bh,Tryz.f68])
  refine⟨⟨j+1,n2,ae,ae,trivial⟩,af,?_⟩;refine bF ?_ ?_ ?_<;>simp only[go_sem,e4,hq1,hfs]
  all_goals first|rfl|omega
 obtain rfl:K=j:=ae
 clear kI kS hI0 v0;obtain⟨M,hM⟩:∃M,iw 2 N K=M:=⟨_,rfl⟩;obtain⟨ns,hns⟩:∃ns,m.consts.map (·.name)=ns:=⟨_,rfl⟩;have hnl:ns.length=c:=by rw[←hns,aG,hc]
 have hz0:List.zipWith dT.mk ns (ja S M c 0)=m.consts:=by rw[wU,←hns,←hc];exact NG hcz
 obtain⟨J,hJ⟩:∃J:Nat→Int,J=fun j:Nat=>(c:Int)-1-(j:Int):=⟨_,rfl⟩;have hJ0:J 0=(c:Int)-1:=by rw[hJ];simp
 have hJs:∀j,J (j+1)=J j-1:=fun j=>by rw[hJ];simp only;omega
 have hJe:J c= -1:=by rw[hJ];simp only;omega
 have hJj:∀j (_:j<c),J j=((c-1-j:Nat):Int):=fun j h=>by rw[hJ];simp only;omega
 have kI:=Kp.mk hJj;have kS:=Kp.mk hJs;clear hJ hJj hJs
 repeat'(first|apply au|refine rq ?_|simp only[go_sem,hIe,hM,bt,bn,bZ,bh,Tryz.f68])
 refine cI hm hI7 68000 qW1 (ι:=fW c n2 fun _=>True)
  ⟨fun q=>⟨frL [(1,eI S),(2,eI (iw S M q.i:Nat)),(3,.ptr (68003,0) 0),(6,.ptr (68006,1) 0),(7,.ptr (68007,b) 0),(8,.arr (68042,n) 1 0 K),(13,eI (J q.i))],hpL [((68003,0),some ⟨[eI m.size,eS m.consts,eS m.rels],true,false⟩),((68006,1),some ⟨[eI 0,.full [],.full []],true,false⟩),((68007,b),some ⟨[eI S,.arr (93007,g) 2 0 c,.full []],true,false⟩),((93007,g),some ⟨bA ((List.zipWith dT.mk ns (ja S M c q.i)).map enc),false,m.consts.isEmpty⟩),((68042,n),some ⟨bA ((pO K N K).map enc),false,false⟩)],q.m⟩,fun q=>c-q.i⟩
  ⟨0,n2,ae,ae,trivial⟩ ah ?_ ?_
 ·refine bF ?_ ?_ ?_<;>simp only[go_sem,hJ0,iw,hz0]
  all_goals first|rfl|omega
 rintro⟨j,n3,hj,hn3,_⟩
 try simp only at hj hn3
 rcases aA j c with h2|h2
 ·have e1:=kI.out j h2;have e4:=kS.out j;have hset:=xg (s:=S) (i:=M) h2;have hvl:=xf (s:=S) (i:=M) (j:=j) (n:=c) ae;obtain⟨p,hp⟩:∃p,c-1-j=p:=⟨_,rfl⟩;have hpl2:p<c:=ae
  rw[hp]at hset e1;rw[e1]at e4;have e2:((0:Int)≤(p:Int))=True:=aU ae;have hq1:iw S M (j+1)=iw S M j / S:=rfl;obtain⟨x,hx⟩:∃x,iw S M j=x:=⟨_,rfl⟩;rw[hx]at hset hq1;have em:(x:Int) % (S:Int)=((x % S:Nat):Int):=(Int.natCast_emod x S).symm;have ed:(x:Int) / (S:Int)=((x / S:Nat):Int):=(nE x S).symm;obtain⟨r,hr⟩:∃r,x % S=r:=⟨_,rfl⟩;obtain⟨y,hy⟩:∃y,x / S=y:=⟨_,rfl⟩;rw[hr]at em hset;rw[hy]at ed hq1;have hfs:=Es (ns:=ns) (vs:=ja S M c j) (p:=p) (v:=(r:Int)) ae ae;rw[hset]at hfs;have hce:m.consts.isEmpty=false:=by
   cases h:m.consts with
   |nil=>rw[h]at hc;simp at hc;omega
   |cons=>rfl
  have hfl:p*2+1+1≤(bA ((List.zipWith dT.mk ns (ja S M c j)).map enc)).length:=by rw[EE,EG ae,hnl];omega
  repeat'(first|refine ru hm hI7 68000 qW1 ML ?_|apply rx hfl|refine rx ⟨ae,ae⟩ ?_|refine rx ⟨ae,ae,ae⟩ ?_|apply au|refine rq ?_|simp only[go_sem,hx,e1,e2,em,ed,hvl,hpl2,hce,ML,bt,bn,bZ,bh,Tryz.f68])
  all_goals
   refine⟨⟨j+1,n3,ae,ae,trivial⟩,af,?_⟩;refine bF ?_ ?_ ?_<;>simp only[go_sem,e4,hq1,hfs,hce]
   all_goals first|rfl|omega
 obtain rfl:c=j:=ae
 obtain⟨B,hB⟩:∃B,pO K N K=B:=⟨_,rfl⟩;have hBl:B.length=K:=by rw[←hB];exact Mm (aI _)
 obtain⟨Z,hZ⟩:∃Z,List.zipWith dT.mk ns (ja S M c c)=Z:=⟨_,rfl⟩;obtain⟨RF,hRF⟩:∃RF:Nat→List gV,RF=fun i=>nW S (ps.take i) B:=⟨_,rfl⟩;have hR0:RF 0=[]:=by rw[hRF];rfl
 have hRs:∀i (h:i<m.rels.length),RF (i+1)=RF i++[⟨m.rels[i].name,m.rels[i].arity,nj S m.rels[i].arity.toNat (B.drop (C i)) (S^m.rels[i].arity.toNat)⟩]:=fun i h=>by rw[hRF];simp only;rw[Cj B ae,hpi i h ae,hC];rfl
 have hRl:∀i,i≤m.rels.length→(RF i).length=i:=fun i h=>by rw[hRF];simp only;rw[Ci,aX];omega
 have hfin:(pP m S N).consts=Z∧(pP m S N).rels=RF m.rels.length:=by
  unfold pP;rw[hps,hns,bo,bo];unfold mW;refine⟨?_,?_⟩
  ·rw[←hZ,hnl,vc,hK,←hM,M3]
  ·rw[hRF,←hpl];simp only[aJ];rw[←hB,hK,WO];rfl
 have kR:=Kp.mk hRs;have kRl:=Kp.mk hRl;clear hRs hRl hRF kI kS hJ0 hpi hC
 repeat'(first|apply au|refine rq ?_|simp only[go_sem,hJe,hB,hZ,bt,bn,bZ,bh,Tryz.f68])
 refine cI hm hI7 68000 qW1 (ι:=jL m.rels.length (n3+1) fun _=>True)
  ⟨fun q=>⟨frL [(1,eI S),(6,.ptr (68006,1) 0),(7,.ptr (68007,b) 0),(8,.arr (68042,n) 1 0 K),(14,eI (C q.i:Nat)),(77,eS m.rels),(78,eI m.rels.length),(79,eI q.i)],hpL [((68006,1),some ⟨[eI 0,.full [],.full []],true,false⟩),((68007,b),some ⟨[eI S,.arr (93007,g) 2 0 c,.ow (68132,q.g) 3 ((RF q.i).map enc)],true,false⟩),((93007,g),some ⟨bA (Z.map enc),false,m.consts.isEmpty⟩),((68042,n),some ⟨bA (B.map enc),false,false⟩),((68132,q.g),some tok)],q.m⟩,fun q=>m.rels.length-q.i⟩
  ⟨0,n3,n3+1,ae,ae,ae,trivial⟩ ah ?_ ?_
 ·refine eX [] [(68132,n3)] [] ?_ ?_ ?_ ?_ ?_<;>(try simp only[go_sem,hC0,hR0,aQ])
  all_goals first|rfl|omega
 rintro⟨i,h,n4,hi,hh,hn4,_⟩
 try simp only at hi hh hn4
 rcases aA i m.rels.length with h1|h1;rotate_left
 ·obtain rfl:i=m.rels.length:=ae
  repeat'(first|apply au|refine rq ?_|simp only[go_sem,aC,bt,bn,bZ,bh,Tryz.f68])
  all_goals
   rw[kq.out];exact⟨g,h,ae,ae,by rw[hfin.2,hc],by rw[hfin.1];simp only[go_sem]⟩
 obtain⟨x,hx⟩:∃x,m.rels[i]=x:=⟨_,rfl⟩;have hxa:=kr.out x qQe;have hcs:=kC.out i h1;have hrs:=kR.out i h1;have hrl:=kRl.out i hi;rw[hx]at hcs hrs;obtain⟨A,hA⟩:∃A:Nat,x.arity=(A:Int):=⟨x.arity.toNat,ae⟩;rw[hA,bo]at hrs;obtain⟨P,hP⟩:∃P,S^A=P:=⟨_,rfl⟩;have hpw:ur S (A:Int)=(P:Int):=by rw[←hP];rfl
 have hpw2:o9 S (mn x)=P:=by rw[←hP];show S^x.arity.toNat=_;rw[hA,bo]
 rw[hpw2]at hcs;rw[hP]at hrs;have hCi2:=kM.out (i+1) h1;obtain⟨z,hz⟩:∃z,C i=z:=⟨_,rfl⟩;rw[hz]at hcs hrs;obtain⟨R0,hR⟩:∃R0,RF i=R0:=⟨_,rfl⟩;rw[hR]at hrs hrl;have hpp:(1≤(S:Int)∧(S:Int)≤4)∧0≤(A:Int)∧(A:Int)≤3:=⟨⟨hs1,hs4⟩,ae,ae⟩;obtain⟨T,hT⟩:∃T:Nat→List (List Int),T=nj S A (B.drop z):=⟨_,rfl⟩;have hT0:T 0=[]:=by rw[hT];rfl
 have hTs:∀k,T (k+1)=T k++(if(B.drop z).getD k false=true then[fc S A k]else[]):=fun k=>by rw[hT];exact LB S A _ k
 have hTl:∀k,(T k).length≤k:=fun k=>by rw[hT];unfold nj;rw[aG];exact bz (jG _ _) ak
 have hgb:∀k,k<P→(bA (B.map enc)).getD (z+k) .junk= .fz (.b ((B.drop z).getD k false)):=fun k hk=>by
  have h3:z+k<B.length:=ae
  rw[ia,av,bp,ay h3,av,List.getElem?_drop,ay h3];rfl
 rw[←hT]at hrs;have kT:=Kp.mk hTs;have kTl:=Kp.mk hTl;have kgb:=Kp.mk hgb;clear hT hTs hTl hgb
 repeat'(first|apply rx hpp|apply au|refine rq ?_|simp only[go_sem,h1,hx,hpw,hz,hA,hR,bt,bn,bZ,bh,Tryz.f68])
 refine cI hm hI7 68000 qW1 (ι:=jL P (n4+3) fun _=>True)
  ⟨fun q=>⟨frL [(1,eI S),(6,.ptr (68006,1) 0),(7,.ptr (68007,b) 0),(8,.arr (68042,n) 1 0 K),(16,.ptr (68016,n4) 0),(17,.ptr (68017,n4+1) 0),(77,eS m.rels),(78,eI m.rels.length),(79,eI i),(91,eI P),(92,eI q.i),(14,eI ((z+q.i:Nat):Int))],hpL [((68006,1),some ⟨[eI 0,.full [],.full []],true,false⟩),((68007,b),some ⟨[eI S,.arr (93007,g) 2 0 c,.ow (68132,h) 3 (R0.map enc)],true,false⟩),((93007,g),some ⟨bA (Z.map enc),false,m.consts.isEmpty⟩),((68042,n),some ⟨bA (B.map enc),false,false⟩),((68132,h),some tok),((68016,n4),some ⟨[.fz (.s x.name.l),eI A,eS x.tuples],true,false⟩),((68017,n4+1),some ⟨[.fz (.s x.name.l),eI A,.ow (68123,q.g) 1 ((T q.i).map enc)],true,false⟩),((68123,q.g),some tok)],q.m⟩,fun q=>P-q.i⟩
  ⟨0,n4+2,n4+3,ae,ae,ae,trivial⟩ ah ?_ ?_
 ·refine eX [] [(68123,n4+2)] [] ?_ ?_ ?_ ?_ ?_<;>(try simp only[go_sem,hT0,aQ])
  all_goals first|rfl|omega
 rintro⟨k,h',n5,hk',hh',hn5,_⟩
 try simp only at hk' hh' hn5
 have htl:=kTl.out k;rcases aA k P with h2|h2;rotate_left
 ·obtain rfl:k=P:=ae
  repeat'(first|apply au|refine rq ?_|simp only[go_sem,ck,bt,bn,bZ,bh,Tryz.f68])
  all_goals
   refine⟨⟨i+1,n5,n5+1,ae,ae,ae,trivial⟩,af,?_⟩;refine bF ?_ ?_ ?_<;>(try simp only[go_sem,hcs,hrs,aE,aM,aQ])
   all_goals first|rfl|omega
 have hts:=kT.out k;have hgd:=kgb.out k h2;have h2i:((k:Int)<(P:Int))=True:=aU ae;have hzk:((z+k:Nat):Int)+1=((z+(k+1):Nat):Int):=ae
 have hzk2:z+k<K:=ae
 have hP64:=(DB (a:=(S:Int)) (n:=(A:Int)) hs1 hs4 ae ae A ae).2;rw[show((S:Int).toNat^A)=P from hP]at hP64;obtain⟨v,hv⟩:∃v,(B.drop z).getD k false=v:=⟨_,rfl⟩;rw[hv]at hts hgd;cases v with
 |false=>
  rw[az ai,bP]at hts
  repeat'(first|apply au|refine rq ?_|simp only[go_sem,h2i,hgd,hBl,hzk2,hzk,bt,bn,bZ,bh,Tryz.f68])
  all_goals
   refine⟨⟨k+1,h',n5,ae,ae,ae,trivial⟩,af,?_⟩;refine bF ?_ ?_ ?_<;>(try simp only[go_sem,hts,hzk])
   all_goals first|rfl|omega
 |true=>
  rw[aF rfl]at hts;obtain⟨J,hJ⟩:∃J:Nat→Int,J=fun j:Nat=>(A:Int)-1-(j:Int):=⟨_,rfl⟩;have hJ0:J 0=(A:Int)-1:=by rw[hJ];simp
  have hJs:∀j,J (j+1)=J j-1:=fun j=>by rw[hJ];simp only;omega
  have hJe:J A= -1:=by rw[hJ];simp only;omega
  have hJj:∀j (_:j<A),J j=((A-1-j:Nat):Int):=fun j h=>by rw[hJ];simp only;omega
  have v0:ja S k A 0=List.replicate A 0:=wU S k A;have rep_ints:∀n:Nat,List.replicate n (D.fz (.i .i64 0))=bA ((List.replicate n (0:Int)).map enc):=fun n=>by rw[ia];simp[zD]
  have kI:=Kp.mk hJj;have kS:=Kp.mk hJs;clear hJ hJj hJs
  repeat'(first|apply au|refine rq ?_|simp only[go_sem,h2i,hgd,hBl,hzk2,nT,rep_ints,←v0,hJ0,bt,bn,bZ,bh,Tryz.f68])
  refine Sz (.exit 10) (fun _:Unit=>⟨frL [(1,eI S),(6,.ptr (68006,1) 0),(7,.ptr (68007,b) 0),(8,.arr (68042,n) 1 0 K),(16,.ptr (68016,n4) 0),(17,.ptr (68017,n4+1) 0),(77,eS m.rels),(78,eI m.rels.length),(79,eI i),(91,eI P),(92,eI k),(14,eI ((z+k:Nat):Int)),(19,eS (fc S A k))],hpL [((68006,1),some ⟨[eI 0,.full [],.full []],true,false⟩),((68007,b),some ⟨[eI S,.arr (93007,g) 2 0 c,.ow (68132,h) 3 (R0.map enc)],true,false⟩),((93007,g),some ⟨bA (Z.map enc),false,m.consts.isEmpty⟩),((68042,n),some ⟨bA (B.map enc),false,false⟩),((68132,h),some tok),((68016,n4),some ⟨[.fz (.s x.name.l),eI A,eS x.tuples],true,false⟩),((68017,n4+1),some ⟨[.fz (.s x.name.l),eI A,.ow (68123,h') 1 ((T k).map enc)],true,false⟩),((68123,h'),some tok)],n5+1⟩) (fun _=>?_) ?_
  ·repeat'(first|apply au|refine rq ?_|simp only[go_sem,bt,bn,bZ,bh,Tryz.f68])
   all_goals
    refine⟨⟨k+1,n5+1,n5+2,ae,ae,ae,trivial⟩,af,?_⟩;refine bF ?_ ?_ ?_<;>(try simp only[go_sem,hts,hzk,aE,aM,aQ])
    all_goals first|rfl|omega
  refine cI hm hI7 68000 qW1 (ι:=eO A fun _=>True)
   ⟨fun q=>⟨frL [(1,eI S),(6,.ptr (68006,1) 0),(7,.ptr (68007,b) 0),(8,.arr (68042,n) 1 0 K),(16,.ptr (68016,n4) 0),(17,.ptr (68017,n4+1) 0),(77,eS m.rels),(78,eI m.rels.length),(79,eI i),(91,eI P),(92,eI k),(14,eI ((z+k:Nat):Int)),(19,.arr (68101,n5) 1 0 A),(20,eI (J q.i)),(21,eI (iw S k q.i:Nat))],hpL [((68006,1),some ⟨[eI 0,.full [],.full []],true,false⟩),((68007,b),some ⟨[eI S,.arr (93007,g) 2 0 c,.ow (68132,h) 3 (R0.map enc)],true,false⟩),((93007,g),some ⟨bA (Z.map enc),false,m.consts.isEmpty⟩),((68042,n),some ⟨bA (B.map enc),false,false⟩),((68132,h),some tok),((68016,n4),some ⟨[.fz (.s x.name.l),eI A,eS x.tuples],true,false⟩),((68017,n4+1),some ⟨[.fz (.s x.name.l),eI A,.ow (68123,h') 1 ((T k).map enc)],true,false⟩),((68123,h'),some tok),((68101,n5),some ⟨bA ((ja S k A q.i).map enc),false,false⟩)],n5+1⟩,fun q=>A-q.i⟩
   ⟨0,ae,trivial⟩ ah ?_ ?_
  ·refine bF ?_ ?_ ?_<;>simp only[go_sem,hJ0,iw]
   all_goals first|rfl|omega
  rintro⟨j,hj,_⟩
  try simp only at hj
  rcases aA j A with h3|h3
  ·have e1:=kI.out j h3;have e4:=kS.out j;have hset:=xg (s:=S) (i:=k) h3;have hvl:=xf (s:=S) (i:=k) (j:=j) (n:=A) ae;obtain⟨p,hp⟩:∃p,A-1-j=p:=⟨_,rfl⟩;have hpl2:p<A:=ae
   rw[hp]at hset e1;rw[e1]at e4;have e2:((0:Int)≤(p:Int))=True:=aU ae;have hq1:iw S k (j+1)=iw S k j / S:=rfl;obtain⟨w,hw⟩:∃w,iw S k j=w:=⟨_,rfl⟩;rw[hw]at hset hq1;have em:(w:Int) % (S:Int)=((w % S:Nat):Int):=(Int.natCast_emod w S).symm;have ed:(w:Int) / (S:Int)=((w / S:Nat):Int):=(nE w S).symm;obtain⟨r,hr⟩:∃r,w % S=r:=⟨_,rfl⟩;obtain⟨y,hy⟩:∃y,w / S=y:=⟨_,rfl⟩;rw[hr]at em hset;rw[hy]at ed hq1;have hfs:(bA ((ja S k A j).map enc)).set p (.fz (.i .i64 r))=bA ((ja S k A (j+1)).map enc):=by rw[←hset,←jI];rfl
   repeat'(first|refine rx ⟨ae,ae⟩ ?_|refine rx ⟨ae,ae,ae⟩ ?_|apply au|refine rq ?_|simp only[go_sem,hw,e1,e2,em,ed,hvl,hpl2,bt,bn,bZ,bh,Tryz.f68])
   all_goals
    refine⟨⟨j+1,ae,trivial⟩,af,?_⟩;refine bF ?_ ?_ ?_<;>simp only[go_sem,e4,hq1,hfs]
    all_goals first|rfl|omega
  obtain rfl:A=j:=ae
  repeat'(first|apply au|refine rq ?_|simp only[go_sem,hJe,vc,bt,bn,bZ,bh,Tryz.f68])
  all_goals
   refine⟨(),?_⟩;refine eX [] [] [((68101,n5),(fc S A k).map enc)] ?_ ?_ ?_ ?_ ?_<;>(try simp only[go_sem,vc,mR])
   all_goals first|rfl|omega
theorem hI8:b9 Tryz.prog G I8:=by
 refine oT GJ hI7 fun m size n hp _ _ _=>?_;obtain⟨S,hS⟩:∃S:Nat,size=(S:Int):=⟨size.toNat,qWb⟩;obtain⟨N,hN⟩:∃N:Nat,n=(N:Int):=⟨n.toNat,by have:=hp.n;omega⟩;refine lj (UH (G:=G) hp S N hS hN) ?_;subst hS;subst hN;rintro d H n1 ⟨g,h,hg,hh,rfl,ho⟩;have hcl:(pP m S N).consts.length=m.consts.length:=by unfold pP mW;simp[mR]
 have hsz:(pP m S N).size=(S:Int):=rfl;obtain⟨V,hV⟩:∃V,pP m S N=V:=⟨_,rfl⟩;rw[hV]at ho hcl hsz ⊢;refine⟨.agg [.fz (.i .i64 S),.fz (.sl (V.consts.map enc)),.ow (68132,h) 3 (V.rels.map enc)],H0,n1,?_,by simp only[go_sem,hsz]⟩;have e:H0=hpL []:=rfl;rw[e,←hcl];have hce:m.consts.isEmpty=true→V.consts=[]:=fun h=>bG (by rw[hcl,cK.1 h];rfl);refine eX [] [] [((93007,g),V.consts.map enc)] ?_ ?_ ?_ ?_ ?_<;>simp only[go_sem,ho,hg,hh];intro h;rw[hce h];rfl
end
section
variable {G:Nat→List FD}
theorem Cs (l:List Pd):(l.map qT).map mn=l:=by
 rw[bX];have:∀p∈l,(mn∘qT) p=p:=fun p _=>by cases p;rfl
 rw[bB this,List.map_id'' fun _=>rfl]
theorem Sp (l:List Str):(l.map c0).map (·.name)=l:=by rw[bX];have:∀p∈l,((fun c:dT=>c.name)∘c0) p=p:=fun p _=>rfl;rw[bB this,List.map_id'' fun _=>rfl]
theorem PA (l:List Abs.aH)(S:Nat):wk (qb l) S=qf (lG l S):=by unfold wk qb lG;rw[bo,Cs,aG]
theorem Pk (l:List Abs.aH)(S i:Nat):pP (qb l) S i=pI l S i:=by unfold pP qb pI;rw[bo,bo,Cs,Sp]
theorem zf:∀{l:List Pd} {p:Pd},(lF l p).length≤l.length+1
 |[],p=>by simp[lF]
 |x::l,p=>by
  have ih:=zf (l:=l) (p:=p);rw[lF]
  repeat' split
  all_goals(simp only[aN];omega)
structure rX (l:List Abs.aH)(S:Nat):Prop where
 f:∀f∈l,(dB false f).code=0∧gE f≤5
 l:l.length≤41
 s:1≤S
 t:S≤4
theorem zc {l:List Abs.aH}{S:Nat}(hp:rX l S):∀p∈iz l,0≤p.arity∧p.arity≤3:=fun p h=>by obtain⟨f,hf,h2⟩:=CZ.1 h;have:=Am f (wM (hp.f f hf).1) p h2;omega
theorem Qj {l:List Abs.aH}:(iz l).length≤1000000+(fL l).length:=by
 unfold iz jX;have key:∀(ps a:List Pd),(ps.foldl lF a).length≤a.length+ps.length:=by
  intro ps;induction ps with
  |nil=>intro a;simp
  |cons p ps ih=>intro a;have h1:=ih (lF a p);have h2:(lF a p).length≤a.length+1:=zf;rw[bQ,aN];omega
 have:=key (fL l) [];simp only[bj]at this;omega
theorem Kg {l:List Abs.aH}{S:Nat}(hp:rX l S):Gx (qb l) S:=by have h1:=BV (l:=l) (fun f hf=>(hp.f f hf).1) hp.l;have h2:=Qj (l:=l);have h3:=wS (l:=l) fun f hf=>(hp.f f hf).1;have:=hp.l;have:=hp.s;have:=hp.t;refine⟨⟨ae,ae⟩,fun r hr=>?_,by unfold qb;simp only[aG];omega,by unfold qb;simp only[aG];omega⟩;obtain⟨p,h,rfl⟩:=be.1 (show r∈(iz l).map qT from hr);exact zc hp p h
theorem Zl {l:List Abs.aH}{S n i:Nat}(hp:rX l S)(hn:lG l S=some n):AY (qb l) S i:=by
 have hc:=Kg hp;refine⟨hc.s,ae,hc.a,hc.c,hc.r,fun k hk=>?_,?_⟩
 ·obtain⟨w,_,rfl⟩:=be.1 (show k∈(e7 l).map c0 from hk);rfl
 ·show gM (S:Int).toNat (((iz l).map qT).map mn)≤1000;rw[Cs,bo];have:=(yC qWb hn).2.2;omega
theorem Kf {l:List Abs.aH}{S n i:Nat}(hp:rX l S)(hn:lG l S=some n):AV (pI l S i) l:=
 ⟨Zq (S5 (fun f hf=>(hp.f f hf).1) hp.l hp.s hp.t hn),hp.f,by have:=hp.l;omega⟩
theorem Xp (l:List Abs.aH)(S:Nat):lB l S 0=[]:=rfl
theorem UE {W:dd}:cS Tryz.prog G 39 ([enc W].map .fz++[.ptr (7,0) 0]) (hpL [((7,0),some ⟨([FD.i .i64 0,FD.sl [],FD.sl []]).map .fz,true,false⟩)]) 1 (fun d H' _=>D.val d=some (.fz (.b false))∧H' (7,0)=some ⟨([FD.i .i64 W.size,FD.sl (W.consts.map enc),FD.sl (W.rels.map enc)]).map .fz,true,false⟩):=by
 simp only[go_sem];refine rv (N:=5) hm hI8 39000 qWi UO Tryz.func39 rfl ?_
 repeat'(first|apply au|refine rq ?_|simp only[go_sem,bt,bn,bZ,bh,Tryz.f39])
 all_goals first|exact⟨rfl,rfl⟩|(simp only[go_sem];done)|(refine⟨aj,aj⟩)
def qS:Option (List dd)→dd
 |none=>gi
 |some []=>gi
 |some (m::_)=>m
set_option maxHeartbeats 8000000 in
theorem Ss {l:List Abs.aH}{S:Nat}(hp:rX l S):cS Tryz.prog G 38 ([enc l,.i .i64 (S:Int)].map .fz++[.fn 39 [.ptr (7,0) 0]]) (hpL [((7,0),some ⟨([FD.i .i64 0,FD.sl [],FD.sl []]).map .fz,true,false⟩)]) 1 (fun d H' _=>D.val d=some (.fz (.b (lG l S).isSome))∧H' (7,0)=some ⟨([FD.i .i64 (qS (jD l S)).size,FD.sl ((qS (jD l S)).consts.map enc),FD.sl ((qS (jD l S)).rels.map enc)]).map .fz,true,false⟩):=by
 obtain⟨Q,hQ⟩:∃Q:D→bR→Nat→Prop,Q=(fun d H' _=>D.val d=some (.fz (.b (lG l S).isSome))∧H' (7,0)=some ⟨([FD.i .i64 (qS (jD l S)).size,FD.sl ((qS (jD l S)).consts.map enc),FD.sl ((qS (jD l S)).rels.map enc)]).map .fz,true,false⟩):=⟨_,rfl⟩;rw[←hQ];have hsg:sgP l:=⟨fun f hf=>(hp.f f hf).1,hp.l⟩;have hcq:=Kg hp;have hV:=PA l S;have hfl:=fun n i=>Zl hp (n:=n) (i:=i);have hal:=fun n i=>Kf hp (n:=n) (i:=i);have hfi:=Pk l S;obtain⟨V,hVe⟩:∃V,qb l=V:=⟨_,rfl⟩;rw[hVe]at hcq hV hfi;simp only[hVe]at hfl;have h8:∀n,lG l S=some n→n≤8192:=fun n h=>(yC qWb h).2.1;have kfl:=Kp.mk hfl;have kal:=Kp.mk hal;have kfi:=Kp.mk hfi;clear hfl hal hfi;simp only[go_sem];refine rv (N:=40) hm hI8 38000 qWi UN Tryz.func38 rfl ?_;cases hn:lG l S with
 |none=>
  rw[hn]at hV;unfold qf at hV
  repeat'(first|apply rx hsg|apply rx hcq|apply au|refine rq ?_|simp only[go_sem,hVe,hV,bt,bn,bZ,bh,Tryz.f38])
  all_goals
   rw[hQ,hn];exact⟨rfl,by unfold jD;rw[hn];rfl⟩
 |some n=>
  have hn8:=h8 n hn;rw[hn]at hV;simp only[qf]at hV
  repeat'(first|apply rx hsg|apply rx hcq|apply au|refine rq ?_|simp only[go_sem,hVe,hV,bt,bn,bZ,bh,Tryz.f38])
  refine cI hm hI8 38000 qWi (ι:=fW n 2 fun i=>lB l S i=[])
   ⟨fun q=>⟨frL [(0,eS l),(1,eI S),(2,.fn 39 [.ptr (7,0) 0]),(7,.ptr (38007,1) 0),(22,eI n),(23,eI q.i)],hpL [((7,0),some ⟨([FD.i .i64 0,FD.sl [],FD.sl []]).map .fz,true,false⟩),((38007,1),some ⟨[eI V.size,eS V.consts,eS V.rels],true,false⟩)],q.m⟩,fun q=>n-q.i⟩
   ⟨0,2,ae,ae,rfl⟩ ah ?_ ?_
  ·refine bF ?_ ?_ ?_<;>simp only[go_sem,Xp,bj]
   all_goals first|rfl|omega
  rintro⟨i,q,hi,hq,hz⟩
  try simp only at hi hq hz
  rcases aA i n with h1|h1;rotate_left
  ·obtain rfl:i=n:=ae
   repeat'(first|apply au|refine rq ?_|simp only[go_sem,ck,bt,bn,bZ,bh,Tryz.f38])
   all_goals
    rw[hQ,hn];have e:jD l S=some []:=by unfold jD;rw[hn];exact a8 some hz
    exact⟨rfl,by rw[e];rfl⟩
  have h2:=kfl.out n i hn;have h3:=kal.out n i hn;have h4:=kfi.out i;have h5:((i:Int)<(n:Int))=True:=aU ae;have hms:=Jv l S i;have hml:=KV l S i;obtain⟨W,hW⟩:∃W,pI l S i=W:=⟨_,rfl⟩;rw[hW]at h3 h4 hms;obtain⟨v,hv⟩:∃v,okF l W=v:=⟨_,rfl⟩;rw[hv]at hms;cases v with
  |false=>
   rw[az ai,bP]at hms
   repeat'(first|apply rx h2|apply rx h3|apply au|refine rq ?_|simp only[go_sem,h4,h5,hv,bt,bn,bZ,bh,Tryz.f38])
   all_goals
    refine⟨⟨i+1,q+1,ae,ae,by rw[hms];exact hz⟩,af,?_⟩;refine bF ?_ ?_ ?_<;>simp only[go_sem,hms]
    all_goals first|rfl|omega
  |true=>
   rw[aF rfl]at hms
   repeat'(first|apply rx h2|apply rx h3|apply au|refine rq ?_|simp only[go_sem,h4,h5,hv,bt,bn,bZ,bh,Tryz.f38])
   have hcl:=UE (G:=G) (W:=W);refine dJ.i (wB (T:=7) (sid:=(7,0)) (ds:=[.agg [.fz (.i .i64 W.size),.fz (.sl (W.consts.map enc)),.fz (.sl (W.rels.map enc))]]) (xs:=[enc W]) rfl hcl aj ?_)
   repeat'(first|apply au|refine rq ?_|simp only[go_sem,cp,bt,bn,bZ,bh,Tryz.f38])
   all_goals
    have e:jD l S=some (lB l S n):=by unfold jD;rw[hn];rfl
    obtain⟨r,hr⟩:=KW l S (n:=i+1) (t:=n) h1;rw[hms,hz]at hr;have e2:qS (jD l S)=W:=by rw[e,hr];rfl
    rw[hQ,hn,e2];exact⟨rfl,aj⟩
end
section
variable {G:Nat→List FD}
section
variable {P:Program} {T:Tbl}
def wu {α β ρ σ τ:Type}[Enc α][Enc β][Enc ρ][Enc σ][Enc τ](f:α→β→ρ×σ×τ)(pre:α→β→Prop):List FD→Option (D×Prop)
 |[x,y]=>some (.tup [.fz (enc (f (dec x) (dec y)).1),.fz (enc (f (dec x) (dec y)).2.1),.fz (enc (f (dec x) (dec y)).2.2)],x=enc (dec (α:=α) x)∧y=enc (dec (α:=β) y)∧pre (dec x) (dec y))
 |_=>none
@[go_sem] theorem zPn {α β ρ σ τ:Type}[Enc α][Enc β][Enc ρ][Enc σ][Enc τ]{f:α→β→ρ×σ×τ}{pre:α→β→Prop}{x y:FD}:wu f pre [x,y]=some (.tup [.fz (enc (f (dec x) (dec y)).1),.fz (enc (f (dec x) (dec y)).2.1),.fz (enc (f (dec x) (dec y)).2.2)],x=enc (dec (α:=α) x)∧y=enc (dec (α:=β) y)∧pre (dec x) (dec y)):=rfl
theorem Oa {α β ρ σ τ:Type}[Enc α][Enc β][Enc ρ][Enc σ][Enc τ]{f:FuncId}{g:α→β→ρ×σ×τ}{pre:α→β→Prop}(hc:cW P f)(hT:b9 P G T)
  (h:∀a b,pre a b→(enc a).Wf→(enc b).Wf→cS P G f [.fz (enc a),.fz (enc b)] (hpL []) 0 (fun d _ _=>D.val d=some (.tup [.fz (enc (g a b).1),.fz (enc (g a b).2.1),.fz (enc (g a b).2.2)]))):b9 P G (T.add f (wu g pre)):=by
 refine pS hT fun xs r c hx hcc=>?_;unfold wu at hx;split at hx
 ·rename_i x y;simp only[aL,aY]at hx;obtain⟨rfl,rfl⟩:=hx;obtain⟨e,e2,hp⟩:=hcc;refine qx hc fun hw=>?_;rw[ky];have:=h (dec x) (dec y) hp (by rw[←e];exact hw x ak) (by rw[←e2];exact hw y ak);rw[←e,←e2]at this;exact this
 ·cases hx
end
theorem jA (f:iY):(⟨f.code,f.index⟩:iY)=f:=rfl
def Dw:Tv:=(.q 0 (.br [(1,(.br [(2,(.q 3 (.br [(4,.leaf)])))])),(2,(.q 1 (.q 3 (.br [(4,.leaf)]))))]))
theorem L8 {l:List Abs.aH}{size:Int}(h:(gU l size).code=0){k:Nat}(hk:1≤k)(hk2:(k:Int)≤size):rX l k:=by obtain⟨_,h2,h3,h4,h5⟩:=B9 h;exact⟨h3,h2,hk,ae⟩
theorem KX {l:List Abs.aH}{k:Nat}{x:dd}{ms:List dd}(h:jD l k=some (x::ms)):x.size=(k:Int):=by
 unfold jD at h;cases hn:lG l k with
 |none=>rw[hn]at h;cases h
 |some n=>
  rw[hn]at h;have h2:lB l k n=x::ms:=bq h;have h3:x∈lB l k n:=by rw[h2];simp
  unfold lB at h3;obtain⟨j,_,e⟩:=be.1 (cD.1 h3).1;rw[←e];rfl
def I9:Tbl:=I8
attribute [go_sem] I9
theorem hI9:b9 Tryz.prog G I9:=hI8
def I10:Tbl:=I9.add 14 (wu kP fun _ _=>True)
attribute [go_sem] I10
set_option maxHeartbeats 4000000 in
theorem Gg:b9 Tryz.prog G I10:=by
 refine Oa Bf hI9 fun l size _ _ _=>?_;obtain⟨V,hV⟩:∃V,gU l size=V:=⟨_,rfl⟩;obtain⟨r,hr⟩:∃r,kP l size=r:=⟨_,rfl⟩;rw[hr];obtain⟨Q,hQ⟩:∃Q:D→bR→Nat→Prop,Q=(fun d _ _=>D.val d=some (.tup [.fz (enc r.1),.fz (enc r.2.1),.fz (enc r.2.2)])):=⟨_,rfl⟩;rw[←hQ];by_cases hz:V.code=0;rotate_left
 ·have hz':(V.code=0)=False:=aP hz;have e:kP l size=(gi,false,V):=by unfold kP;rw[hV,aF hz]
  rw[e]at hr;subst hr;refine rv (N:=37) hm hI9 14000 qW7 Bf Tryz.func14 rfl ?_
  repeat'(first|refine ru hm hI9 14000 qW7 Dw ?_|apply au|refine rq ?_|simp only[go_sem,hV,hz',Dw,bt,bn,bZ,bh,Tryz.f14])
  all_goals first|rfl|(rw[hQ];done)|(rw[hQ];rfl)|(rw[hQ];simp only[go_sem];done)|(rw[hQ];simp only[go_sem];rfl)|(rw[hQ];trace_state)
 have hz':(V.code=0)=True:=aU hz;have hf:(gU l size).code=0:=by rw[hV];exact hz
 obtain⟨_,_,_,hs1,hs4⟩:=B9 hf;obtain⟨S,hS⟩:∃S:Nat,size=(S:Int):=⟨size.toNat,ae⟩;subst hS;have e:p6 l 1 S=r:=by rw[←hr];unfold kP;rw[az (by simp[hf]),bo]
 refine rv (N:=37) hm hI9 14000 qW7 Bf Tryz.func14 rfl ?_
 repeat'(first|apply au|refine rq ?_|simp only[go_sem,hV,hz',Dw,bt,bn,bZ,bh,Tryz.f14])
 refine cI hm hI9 14000 qW7 (ι:=fW S 3 fun i=>p6 l (i+1) (S-i)=r)
  ⟨fun q=>⟨frL [(0,eS l),(1,eI S),(4,.ptr (14004,0) 0),(6,.ptr (14006,1) 0),(8,eI ((q.i+1:Nat):Int))],hpL [((14004,0),some ⟨[eI 0,.full [],.full []],true,false⟩),((14006,1),some ⟨[eI 0,eI 0],true,false⟩)],q.m⟩,fun q=>S-q.i⟩
  ⟨0,3,ae,ae,e⟩ ah ?_ ?_
 ·refine bF ?_ ?_ ?_<;>simp only[go_sem]
  all_goals first|rfl|omega
 rintro⟨i,m,hi,hm2,hp⟩
 try simp only at hi hm2 hp
 rcases aA i S with h1|h1;rotate_left
 ·obtain rfl:i=S:=ae
  rw[cM,p6]at hp;subst hp;have h5:((i:Int)+1≤(i:Int))=False:=aP ae
  repeat'(first|apply au|refine rq ?_|simp only[go_sem,h5,bt,bn,bZ,bh,Tryz.f14])
  all_goals first|rfl|(rw[hQ];done)|(rw[hQ];rfl)|(rw[hQ];simp only[go_sem];done)|(rw[hQ];simp only[go_sem];rfl)|(rw[hQ];trace_state)
 have hep:rX l (i+1):=L8 hf ae ae;have hcl:=Ss (G:=G) hep;rw[show S-i=(S-(i+1))+1 by omega,p6]at hp;have h5:((i:Int)+1≤(S:Int))=True:=aU ae
 repeat'(first|apply au|refine rq ?_|simp only[go_sem,h5,bt,bn,bZ,bh,Tryz.f14])
 have hB4:((i+1:Nat):Int)=(i:Int)+1:=ak
 cases hn:jD l (i+1)with
 |none=>
  have hm0:lG l (i+1)=none:=by
   unfold jD at hn;cases h:lG l (i+1)with
   |none=>rfl
   |some n=>rw[h]at hn;cases hn
  rw[hn]at hcl hp;rw[hm0,hB4]at hcl;simp only at hp;subst hp;refine dJ.i (uF (args':=[.fz (enc l),.fz (.i .i64 ((i:Int)+1)),.fn 39 [.ptr (14009,m) 0]]) (H':=hpL [((14009,m),some ⟨[eI 0,.fz (.sl []),.fz (.sl [])],true,false⟩),((14004,0),some ⟨[eI 0,.full [],.full []],true,false⟩),((14006,1),some ⟨[eI 0,eI 0],true,false⟩)]) (n':=m+1) rfl ?_ (BL (T:=7) (sid:=(14009,m)) (ds:=[.fz (enc l),.fz (.i .i64 ((i:Int)+1))]) (xs:=[enc l,.i .i64 ((i:Int)+1)]) rfl hcl aj ?_))
  ·simp only[go_sem,lE];refine eX [] [] [] ?_ ?_ ?_ ?_ ?_<;>simp only[go_sem]
   all_goals first|omega
  repeat'(first|apply au|refine rq ?_|simp only[go_sem,cp,qS,Option.isSome_none,Option.isSome_some,bt,bn,bZ,bh,Tryz.f14])
  all_goals first|rfl|(rw[hQ];done)|(rw[hQ];rfl)|(rw[hQ];simp only[go_sem];done)|(rw[hQ];simp only[go_sem];rfl)|(rw[hQ];trace_state)
 |some ms=>
  have hm0:(lG l (i+1)).isSome=true:=by
   unfold jD at hn;cases h:lG l (i+1)with
   |none=>rw[h]at hn;cases hn
   |some n=>rfl
  rw[hn]at hcl hp;rw[hm0,hB4]at hcl;cases ms with
  |nil=>
   simp only at hp;refine dJ.i (uF (args':=[.fz (enc l),.fz (.i .i64 ((i:Int)+1)),.fn 39 [.ptr (14009,m) 0]]) (H':=hpL [((14009,m),some ⟨[eI 0,.fz (.sl []),.fz (.sl [])],true,false⟩),((14004,0),some ⟨[eI 0,.full [],.full []],true,false⟩),((14006,1),some ⟨[eI 0,eI 0],true,false⟩)]) (n':=m+1) rfl ?_ (BL (T:=7) (sid:=(14009,m)) (ds:=[.fz (enc l),.fz (.i .i64 ((i:Int)+1))]) (xs:=[enc l,.i .i64 ((i:Int)+1)]) rfl hcl aj ?_))
   ·simp only[go_sem,lE];refine eX [] [] [] ?_ ?_ ?_ ?_ ?_<;>simp only[go_sem]
    all_goals first|omega
   repeat'(first|apply au|refine rq ?_|simp only[go_sem,cp,qS,gi,bt,bn,bZ,bh,Tryz.f14])
   all_goals
    refine⟨⟨i+1,m+1,ae,ae,hp⟩,af,?_⟩;refine bF ?_ ?_ ?_<;>simp only[go_sem,hB4,gS]
    all_goals first|rfl|omega
  |cons x ms=>
   simp only at hp;subst hp;have hx1:((0:Int)<x.size)=True:=aU (by rw[KX hn];omega);refine dJ.i (uF (args':=[.fz (enc l),.fz (.i .i64 ((i:Int)+1)),.fn 39 [.ptr (14009,m) 0]]) (H':=hpL [((14009,m),some ⟨[eI 0,.fz (.sl []),.fz (.sl [])],true,false⟩),((14004,0),some ⟨[eI 0,.full [],.full []],true,false⟩),((14006,1),some ⟨[eI 0,eI 0],true,false⟩)]) (n':=m+1) rfl ?_ (BL (T:=7) (sid:=(14009,m)) (ds:=[.fz (enc l),.fz (.i .i64 ((i:Int)+1))]) (xs:=[enc l,.i .i64 ((i:Int)+1)]) rfl hcl aj ?_))
   ·simp only[go_sem,lE];refine eX [] [] [] ?_ ?_ ?_ ?_ ?_<;>simp only[go_sem]
    all_goals first|omega
   repeat'(first|apply au|refine rq ?_|simp only[go_sem,cp,qS,hx1,bt,bn,bZ,bh,Tryz.f14])
   all_goals first|rfl|(rw[hQ];done)|(rw[hQ];rfl)|(rw[hQ];simp only[go_sem];done)|(rw[hQ];simp only[go_sem];rfl)|(rw[hQ];trace_state)
end
def H1:Tbl:=A21
attribute [go_sem] H1
theorem hH1:b9 Tryz.prog GA H1:=A'
section
variable {G:Nat→List FD}
def Ga (a:Str)(b:List Str):Abs.aH:= .mk 2 a b []
def Ht (a:Int)(b c:Abs.aH):Abs.aH:= .mk a ⟨[]⟩ [] [b,c]
def I11:Tbl:=I10.add 6 (sp2 Ga fun _ _=>True)
attribute [go_sem] I11
theorem U9:b9 Tryz.prog G I11:=by
 refine gN ok6 Gg fun a b _ _ _=>?_;unfold Ga;refine rv (N:=8) hm Gg 6000 qWi ok6 Tryz.func6 rfl ?_
 repeat'(first|apply au|refine rq ?_|simp only[go_sem,bt,bn,bZ,bh,Tryz.f6])
 all_goals first|rfl|omega
def I12:Tbl:=I11
attribute [go_sem] I12
theorem Gh:b9 Tryz.prog G I12:=U9
def I13:Tbl:=I12.add 16 (sp3 Ht fun _ _ _=>True)
attribute [go_sem] I13
theorem Va:b9 Tryz.prog G I13:=by
 refine oT yf Gh fun a b c _ _ _ _=>?_;unfold Ht;refine rv (N:=12) hm Gh 16000 qWi yf Tryz.func16 rfl ?_
 repeat'(first|apply au|refine rq ?_|simp only[go_sem,bt,bn,bZ,bh,Tryz.f16])
 all_goals first|rfl|omega
def I14:Tbl:=I13
attribute [go_sem] I14
theorem uj:b9 Tryz.prog G I14:=Va
end
def L1:Tbl:=Tbl.or I14 H1
attribute [go_sem] L1
theorem hL1:b9 Tryz.prog GA L1:=sw uj hH1
theorem W0 {ax:List Abs.aH}{g:Abs.aH}(h:(jK ax g 3).2.2.code=0∨(jK ax g 3).2.2.code=17):ax.length≤40:=by
 refine ee fun hc=>?_;have hb:iC ax g=([],⟨2, -1⟩):=by unfold iC;rw[aF ae]
 rw[IX (by rw[hb];decide),hb]at h;simp at h
def ox:Tv:=(.q 0 (.br [(1,(.br [(2,(.br [(3,.leaf)]))])),(2,(.q 1 (.br [(3,.leaf)])))]))
def oq:Tv:=(.q 0 (.br [(1,(.q 2 (.q 3 (.q 4 (.q 5 (.br [(6,(.q 7 .leaf))])))))),(2,(.q 3 (.q 4 (.q 5 (.br [(1,(.br [(6,(.q 7 .leaf))]))])))))]))
def Fo0:Tbl:=Tbl.or Z6 I14
theorem lK:b9 Tryz.prog GA Fo0:=sw hZ6 uj
def Fo1:Tbl:=Fo0.add 4 (sZ o6 fun _ _=>True)
set_option maxHeartbeats 4000000 in
theorem U7:b9 Tryz.prog GA Fo1:=by
 refine zH ok4 lK fun ax g _ _ _=>?_;obtain⟨V,hV⟩:∃V,o6 ax g=V:=⟨_,rfl⟩;rw[hV];obtain⟨Q,hQ⟩:∃Q:D→bR→Nat→Prop,Q=(fun d _ _=>D.val d=some (.tup [.fz (enc V.1),.fz (enc V.2)])):=⟨_,rfl⟩;rw[←hQ];have kq:=Kp.mk hQ;clear hQ;unfold o6 uo at hV;have hsh:=W0 (ax:=ax) (g:=g);have hEq:Abs.aH.mk 4 ⟨[]⟩ [] [g]=eJ g:=rfl;have nk1:(eJ g).kind=4:=rfl;have nk2:(eJ g).name=⟨[]⟩:=rfl;have nk3:(eJ g).words=[]:=rfl;have nk4:(eJ g).subs=[g]:=rfl;obtain⟨r,hP⟩:∃r,jK ax g 3=r:=⟨_,rfl⟩;rw[hP]at hV hsh;obtain⟨p,ok,e⟩:=r;simp only at hV hsh;by_cases h0:e.code=0;rotate_left
 ·have h0':(e.code=0)=False:=aP h0;by_cases h17:e.code=17;rotate_left
  ·have h17':(e.code=17)=False:=aP h17;rw[aF ⟨h0,h17⟩]at hV;subst hV;refine rv (N:=52) qqh lK 4000 qWn ok4 Tryz.func4 rfl ?_
   repeat'(first|refine ru (id:=3) qqh lK 4000 qWn ox ?_|refine ru (id:=6) qqh lK 4000 qWn oq ?_|apply au|refine rq ?_|simp only[go_sem,hP,h0',h17',cT,lM,jA,gi,bt,bn,bZ,bh,ox,oq,Tryz.f4,Fo0])
   all_goals first|rfl|(rw[kq.out];done)|(rw[kq.out];rfl)|(rw[kq.out];simp only[go_sem,cT,bZ,bn];done)|(rw[kq.out];simp only[go_sem,cT,bZ,bn];rfl)|(rw[kq.out];trace_state)
  have h17':(e.code=17)=True:=aU h17;rw[az (by simp[h17])]at hV;cases ok with
  |true=>
   rw[aF rfl]at hV;subst hV;refine rv (N:=52) qqh lK 4000 qWn ok4 Tryz.func4 rfl ?_
   repeat'(first|refine ru (id:=3) qqh lK 4000 qWn ox ?_|refine ru (id:=6) qqh lK 4000 qWn oq ?_|apply au|refine rq ?_|simp only[go_sem,hP,h0',h17',cT,lM,jA,gi,bt,bn,bZ,bh,ox,oq,Tryz.f4,Fo0])
   all_goals first|rfl|(rw[kq.out];done)|(rw[kq.out];rfl)|(rw[kq.out];simp only[go_sem,cT,bZ,bn];done)|(rw[kq.out];simp only[go_sem,cT,bZ,bn];rfl)|(rw[kq.out];trace_state)
  |false=>
   rw[az ai]at hV;have hl:=hsh (.inr h17);clear hsh;obtain⟨r,hF⟩:∃r,kP (ax++[eJ g]) 4=r:=⟨_,rfl⟩;rw[hF]at hV;obtain⟨m,ok2,e2⟩:=r;simp only at hV;cases ok2 with
   |true=>
    rw[aF rfl]at hV;subst hV;refine rv (N:=52) qqh lK 4000 qWn ok4 Tryz.func4 rfl ?_
    repeat'(first|refine dJ.i (su (xs:=[FD.sl (ax.map enc)]) rfl (xm (l:=ax) ae) fun g1 n1 hg1 hn1=>?_)|refine ru (id:=3) qqh lK 4000 qWn ox ?_|refine ru (id:=6) qqh lK 4000 qWn oq ?_|apply au|refine rq ?_|simp only[go_sem,hP,hF,hEq,nk1,nk2,nk3,nk4,h0',h17',cT,lM,jA,gi,bt,bn,bZ,bh,ox,oq,Tryz.f4,Fo0])
    all_goals first|rfl|(rw[kq.out];done)|(rw[kq.out];rfl)|(rw[kq.out];simp only[go_sem,cT,bZ,bn];done)|(rw[kq.out];simp only[go_sem,cT,bZ,bn];rfl)|(rw[kq.out];trace_state)
   |false=>
    rw[az ai]at hV;subst hV;refine rv (N:=52) qqh lK 4000 qWn ok4 Tryz.func4 rfl ?_
    repeat'(first|refine dJ.i (su (xs:=[FD.sl (ax.map enc)]) rfl (xm (l:=ax) ae) fun g1 n1 hg1 hn1=>?_)|refine ru (id:=3) qqh lK 4000 qWn ox ?_|refine ru (id:=6) qqh lK 4000 qWn oq ?_|apply au|refine rq ?_|simp only[go_sem,hP,hF,hEq,nk1,nk2,nk3,nk4,h0',h17',cT,lM,jA,gi,bt,bn,bZ,bh,ox,oq,Tryz.f4,Fo0])
    all_goals first|rfl|(rw[kq.out];done)|(rw[kq.out];rfl)|(rw[kq.out];simp only[go_sem,cT,bZ,bn];done)|(rw[kq.out];simp only[go_sem,cT,bZ,bn];rfl)|(rw[kq.out];trace_state)
 have h0':(e.code=0)=True:=aU h0;rw[az (by simp[h0])]at hV;cases ok with
 |true=>
  rw[aF rfl]at hV;subst hV;refine rv (N:=52) qqh lK 4000 qWn ok4 Tryz.func4 rfl ?_
  repeat'(first|refine ru (id:=3) qqh lK 4000 qWn ox ?_|refine ru (id:=6) qqh lK 4000 qWn oq ?_|apply au|refine rq ?_|simp only[go_sem,hP,h0',cT,lM,jA,gi,bt,bn,bZ,bh,ox,oq,Tryz.f4,Fo0])
  all_goals first|rfl|(rw[kq.out];done)|(rw[kq.out];rfl)|(rw[kq.out];simp only[go_sem,cT,bZ,bn];done)|(rw[kq.out];simp only[go_sem,cT,bZ,bn];rfl)|(rw[kq.out];trace_state)
 |false=>
  rw[az ai]at hV;have hl:=hsh (.inl h0);clear hsh;obtain⟨r,hF⟩:∃r,kP (ax++[eJ g]) 4=r:=⟨_,rfl⟩;rw[hF]at hV;obtain⟨m,ok2,e2⟩:=r;simp only at hV;cases ok2 with
  |true=>
   rw[aF rfl]at hV;subst hV;refine rv (N:=52) qqh lK 4000 qWn ok4 Tryz.func4 rfl ?_
   repeat'(first|refine dJ.i (su (xs:=[FD.sl (ax.map enc)]) rfl (xm (l:=ax) ae) fun g1 n1 hg1 hn1=>?_)|refine ru (id:=3) qqh lK 4000 qWn ox ?_|refine ru (id:=6) qqh lK 4000 qWn oq ?_|apply au|refine rq ?_|simp only[go_sem,hP,hF,hEq,nk1,nk2,nk3,nk4,h0',cT,lM,jA,gi,bt,bn,bZ,bh,ox,oq,Tryz.f4,Fo0])
   all_goals first|rfl|(rw[kq.out];done)|(rw[kq.out];rfl)|(rw[kq.out];simp only[go_sem,cT,bZ,bn];done)|(rw[kq.out];simp only[go_sem,cT,bZ,bn];rfl)|(rw[kq.out];trace_state)
  |false=>
   rw[az ai]at hV;subst hV;refine rv (N:=52) qqh lK 4000 qWn ok4 Tryz.func4 rfl ?_
   repeat'(first|refine dJ.i (su (xs:=[FD.sl (ax.map enc)]) rfl (xm (l:=ax) ae) fun g1 n1 hg1 hn1=>?_)|refine ru (id:=3) qqh lK 4000 qWn ox ?_|refine ru (id:=6) qqh lK 4000 qWn oq ?_|apply au|refine rq ?_|simp only[go_sem,hP,hF,hEq,nk1,nk2,nk3,nk4,h0',cT,lM,jA,gi,bt,bn,bZ,bh,ox,oq,Tryz.f4,Fo0])
   all_goals first|rfl|(rw[kq.out];done)|(rw[kq.out];rfl)|(rw[kq.out];simp only[go_sem,cT,bZ,bn];done)|(rw[kq.out];simp only[go_sem,cT,bZ,bn];rfl)|(rw[kq.out];trace_state)
section
variable {G:Nat→List FD}
theorem pw (l:List Pd):dP (l.map enc) 2:=fun x hx=>by obtain⟨p,_,rfl⟩:=be.1 hx;rfl
theorem Al (l:List Pd):(bA (l.map enc)).all fh=true:=by
 induction l with
 |nil=>rfl
 |cons p l ih=>show(fh (.fz (.s p.name.l))&&(fh (.fz (.i .i64 p.arity))&&(bA (l.map enc)).all fh))=true;rw[ih];rfl
theorem eY (p:Pd):(dec (FD.agg [.s p.name.l,.i .i64 p.arity]):Pd)=p:=dec_enc (a:=p)
theorem eZ (p:Pd):(⟨p.name,p.arity⟩:Pd)=p:=rfl
def I15:Tbl:=I14.add 95 (sp2 (fun a b=>decide (ltP a b)) fun _ _=>True)
attribute [go_sem] I15
theorem Vb:b9 Tryz.prog G I15:=by
 refine gN yl uj fun a b _ _ _=>?_;by_cases h1:a.name.l<b.name.l
 ·have h1':Op.bytesLess a.name.l b.name.l=true:=by rw[s8];exact ba h1
  rw[show decide (ltP a b)=true from ba (.inl h1)];refine rv (N:=24) hm uj 95000 qWi yl Tryz.func95 rfl ?_
  repeat'(first|apply au|refine rq ?_|simp only[go_sem,h1',bt,bn,bZ,bh,eZ,eY,Tryz.f95])
  all_goals first|rfl|omega
 have h1':Op.bytesLess a.name.l b.name.l=false:=by rw[s8];exact aW h1
 by_cases h2:a.name=b.name
 ·have h2':(a.name.l=b.name.l)=True:=aU (by rw[h2]);rw[show decide (ltP a b)=decide (a.arity<b.arity)from by unfold ltP;simp[h2,wD]];refine rv (N:=24) hm uj 95000 qWi yl Tryz.func95 rfl ?_
  repeat'(first|apply au|refine rq ?_|simp only[go_sem,h1',h2',bt,bn,bZ,bh,eZ,eY,Tryz.f95])
  all_goals first|rfl|omega
 ·have h2':(a.name.l=b.name.l)=False:=aP fun e=>h2 (by cases h:a.name;cases h3:b.name;rw[h,h3]at e;exact a8 Str.mk e);rw[show decide (ltP a b)=false from by unfold ltP;simp[h1,h2]];refine rv (N:=24) hm uj 95000 qWi yl Tryz.func95 rfl ?_
  repeat'(first|apply au|refine rq ?_|simp only[go_sem,h1',h2',bt,bn,bZ,bh,eZ,eY,Tryz.f95])
  all_goals first|rfl|omega
def nD:List Pd→Pd→Nat
 |[],_=>0
 |x::l,p=>if ltP x p then nD l p+1 else 0
theorem Oi (p:Pd):∀l:List Pd,nD l p≤l.length
 |[]=>aI _
 |x::l=>by rw[nD];have:=Oi p l;split<;>simp only[aN]<;>omega
theorem Oj {p:Pd}:∀{l:List Pd} {i:Nat} (h:i<l.length),i<nD l p→ltP l[i] p
 |x::l,0,_,h2=>by
  rw[nD]at h2;split at h2
  ·assumption
  ·omega
 |x::l,i+1,h,h2=>by
  rw[nD]at h2;split at h2
  ·exact Oj (l:=l) qQh ae
  ·omega
theorem Oh {p:Pd}:∀{l:List Pd} {i:Nat} (h:i<l.length),i=nD l p→¬ltP l[i] p
 |x::l,0,_,h2=>by
  rw[nD]at h2;split at h2
  ·omega
  ·assumption
 |x::l,i+1,h,h2=>by
  rw[nD]at h2;split at h2
  ·exact Oh (l:=l) qQh ae
  ·omega
theorem NP {p:Pd}:∀{l:List Pd},lF l p=if l[nD l p]?=some p then l else l.take (nD l p)++[p]++l.drop (nD l p)
 |[]=>rfl
 |x::l=>by
  rw[lF,nD];by_cases h:ltP x p
  ·rw[aF h,aF h,NP (l:=l),List.getElem?_cons_succ,bm,bH];split<;>rfl
  ·rw[az h,az h,List.getElem?_cons_zero];by_cases h2:x=p
   ·rw[aF h2,aF (by rw[h2])]
   ·rw[az h2,az (by simp[h2])];rfl
section
variable {P:Program} {T:Tbl}
theorem Qm {α β ρ:Type}[Enc α][Enc β][Enc ρ]{f:FuncId}{g:α→β→ρ}{pre:α→β→Prop}(m:α→Nat)(hc:cW P f)(hT:b9 P G T)
  (h:∀n,b9 P G (T.add f (sp2 g fun a b=>m a<n∧pre a b))→∀a b,m a=n→pre a b→(enc a).Wf→(enc b).Wf→cS P G f [.fz (enc a),.fz (enc b)] (hpL []) 0 (fun d _ _=>D.val d=some (.fz (enc (g a b))))):b9 P G (T.add f (sp2 g pre)):=by
 have key:∀n,b9 P G (T.add f (sp2 g fun a b=>m a<n∧pre a b)):=by
  intro n;induction n with
  |zero=>exact gN hc hT fun a b ha=>ae
  |succ n ih=>
   refine gN hc hT fun a b ha hw hw2=>?_;rcases aA (m a) n with h1|h1
   ·have h2:=ih f (sp2 g fun a b=>m a<n∧pre a b) [enc a,enc b] _ _ (by simp[Tbl.add]) (Fz) ⟨qQ5,qQ5,by rw[dec_enc,dec_enc];exact⟨h1,ha.2⟩⟩;rw[dec_enc,dec_enc,ky]at h2;exact h2
   ·exact h n ih a b ae ha.2 hw hw2
 exact gN hc hT fun a b ha hw hw2=>h (m a) (key _) a b rfl ha hw hw2
end
theorem zr:∀(ps l:List Pd),(jX l ps).length≤l.length+ps.length
 |[],l=>by simp[jX]
 |p::ps,l=>by have h1:=zr ps (lF l p);have h2:=zf (l:=l) (p:=p);unfold jX at h1 ⊢;rw[bQ,aN];omega
theorem zq (l a b:List Pd):jX l (a++b)=jX (jX l a) b:=by unfold jX;rw[dq]
structure Gb (f:Abs.aH)(l:List Pd):Prop where
 w:(enc f).Wf
 n:l.length+(pds f).length≤1000000
def I16:Tbl:=I15.add 72 (sp2 (fun f l=>jX l (pds f)) Gb)
attribute [go_sem] I16
set_option maxHeartbeats 8000000 in
theorem x9:b9 Tryz.prog G I16:=by
 refine Qm aH.size Bq Vb fun n hT f l hn hpre hw _=>?_;have hlen:=hpre.n;have hwl:f.words.length≤dt:=by have h:=jh qQf (FD.sl (f.words.map enc)) ak;have:=iN h;simpa using this
 have hsl:f.subs.length≤dt:=by have h:=jh qQf (FD.sl (f.subs.map enc)) ak;have:=iN h;simpa using this
 have hsw:∀g∈f.subs,g.size<n∧(enc g).Wf:=fun g hg=>⟨qQn,oU (jh qQf (FD.sl (f.subs.map enc)) ak) _ (cR hg)⟩;unfold dt at hwl hsl;rw[D2,aD]at hlen;rw[D2,zq];have hAw:∀V:List Pd,V.length≤l.length+(if f.kind=2 then[(⟨f.name,(f.words.length:Int)⟩:Pd)]else[]).length→∀j (h:j<f.subs.length),(jX V (fL (f.subs.take j))).length+(pds f.subs[j]).length≤1000000:=fun V hV j h=>by have h1:=zr (fL (f.subs.take j)) V;have h2:=MZ (fs:=f.subs) (j+1);rw[tp h,aD]at h2;omega
 have kT:=Kp.mk hT;have kz:=Kp.mk hsw;clear hT hsw hn hpre;obtain⟨p,hp⟩:∃p:Pd,(⟨f.name,(f.words.length:Int)⟩:Pd)=p:=⟨_,rfl⟩;rw[hp]at hAw ⊢;have hpn:f.name.l=p.name.l:=by rw[←hp]
 have hpa:(f.words.length:Int)=p.arity:=by rw[←hp]
 by_cases c1:f.kind=2;rotate_left
 ·rw[az c1]at hAw ⊢;have hA':=hAw l ak;have hl0:jX l []=l:=rfl;rw[hl0];obtain⟨A,hA⟩:∃A:Nat→List Pd,A=fun j=>jX l (fL (f.subs.take j)):=⟨_,rfl⟩;have hA0:A 0=l:=by rw[hA];rfl
  have hAs:∀j (h:j<f.subs.length),A (j+1)=jX (A j) (pds f.subs[j]):=fun j h=>by rw[hA];simp only[tp h,zq]
  have hAe:A f.subs.length=jX l (fL f.subs):=by rw[hA];simp only[aJ]
  have hAl:∀j (h:j<f.subs.length),(A j).length+(pds f.subs[j]).length≤1000000:=fun j h=>by rw[hA];exact hA' j h
  have kA:=Kp.mk hAs;have kL:=Kp.mk hAl;rw[←hAe];have c1':(f.kind=2)=False:=aP c1;clear hA hAs hAl hA' hAw c1;refine rv (N:=73) hm kT.out 72000 qW2 Bq Tryz.func72 rfl ?_
  repeat'(first|apply au|refine rq ?_|simp only[go_sem,c1',bt,bn,bZ,bh,eZ,eY,Tryz.f72])
  refine cI hm kT.out 72000 qW2 (ι:=eO f.subs.length fun _=>True)
   ⟨fun q=>⟨frL [(2,.ptr (72002,0) 0),(1,eS (A q.i)),(59,eS f.subs),(60,eI f.subs.length),(61,eI q.i)],hpL [((72002,0),some ⟨(qcD f),true,false⟩)],1⟩,fun q=>f.subs.length-q.i⟩
   ⟨0,ae,trivial⟩ ah ?_ ?_
  ·refine eX [] [] [] ?_ ?_ ?_ ?_ ?_<;>simp only[go_sem,hA0]
   all_goals first|rfl|omega|(simp only[aE,dR,dQ,aM,aQ,xt];done)
  rintro⟨j,hj,_⟩
  try simp only at hj
  rcases aA j f.subs.length with h1|h1;rotate_left
  ·obtain rfl:j=f.subs.length:=ae
   repeat'(first|apply au|refine rq ?_|simp only[go_sem,aC,hAe,bt,bn,bZ,bh,eZ,eY,Tryz.f72])
   all_goals first|rfl|omega
  have hs:=kA.out j h1;obtain⟨x,hx⟩:∃x,f.subs[j]=x:=⟨_,rfl⟩;have hpx:=kz.out x qQe;have hpl:=kL.out j h1;rw[hx]at hs hpl
  repeat'(first|refine rx ⟨hpx.1,hpx.2,hpl⟩ ?_|apply au|refine rq ?_|simp only[go_sem,h1,hx,bt,bn,bZ,bh,eZ,eY,Tryz.f72])
  refine⟨⟨j+1,ae,trivial⟩,af,?_⟩;refine bF ?_ ?_ ?_<;>simp only[go_sem,hs]
  all_goals first|rfl|omega
 rw[aF c1]at hAw ⊢;have c1':(f.kind=2)=True:=aU c1;have hi1:jX l [p]=lF l p:=rfl;rw[hi1];obtain⟨V,hV⟩:∃V,lF l p=V:=⟨_,rfl⟩;have hVl:=zf (l:=l) (p:=p);rw[hV]at hVl ⊢;have hA':=hAw V (by simpa using hVl);obtain⟨A,hA⟩:∃A:Nat→List Pd,A=fun j=>jX V (fL (f.subs.take j)):=⟨_,rfl⟩;have hA0:A 0=V:=by rw[hA];rfl
 have hAs:∀j (h:j<f.subs.length),A (j+1)=jX (A j) (pds f.subs[j]):=fun j h=>by rw[hA];simp only[tp h,zq]
 have hAe:A f.subs.length=jX V (fL f.subs):=by rw[hA];simp only[aJ]
 have hAl:∀j (h:j<f.subs.length),(A j).length+(pds f.subs[j]).length≤1000000:=fun j h=>by rw[hA];exact hA' j h
 have kA:=Kp.mk hAs;have kL:=Kp.mk hAl;rw[←hAe];clear hA hAs hAl hA' hAw c1;rw[NP]at hV;have hlt:∀i (h:i<l.length),i<nD l p→decide (ltP l[i] p)=true:=fun i h h2=>ba (Oj h h2);have hat:∀i (h:i<l.length),i=nD l p→decide (ltP l[i] p)=false:=fun i h h2=>aW (Oh h h2);have htl:=Oi p l;obtain⟨T,hT⟩:∃T,nD l p=T:=⟨_,rfl⟩;rw[hT]at hlt hat htl hV;clear hT;have kl:=Kp.mk hlt;have ka:=Kp.mk hat;have kV:=Kp.mk hV;clear hlt hat hV;refine rv (N:=73) hm kT.out 72000 qW2 Bq Tryz.func72 rfl ?_
 repeat'(first|apply au|refine rq ?_|simp only[go_sem,c1',hpn,hpa,bt,bn,bZ,bh,eZ,eY,Tryz.f72])
 refine cI hm kT.out 72000 qW2 (ι:=eO T fun _=>True)
  ⟨fun q=>⟨frL [(1,eS l),(2,.ptr (72002,0) 0),(5,.ptr (72005,1) 0),(6,eI q.i)],hpL [((72002,0),some ⟨(qcD f),true,false⟩),((72005,1),some ⟨[.fz (.s p.name.l),eI p.arity],true,false⟩)],2⟩,fun q=>T-q.i⟩
  ⟨0,ae,trivial⟩ ah ?_ ?_
 ·refine bF ?_ ?_ ?_<;>simp only[go_sem,hpn,hpa]
  all_goals first|rfl|omega
 rintro⟨i,hi,_⟩
 try simp only at hi
 rcases aA i T with h1|h1
 ·have h2:i<l.length:=ae
  have h3:=kl.out i h2 h1;obtain⟨x,hx⟩:∃x,l[i]=x:=⟨_,rfl⟩;rw[hx]at h3
  repeat'(first|apply au|refine rq ?_|simp only[go_sem,h2,hx,h3,bt,bn,bZ,bh,eZ,eY,Tryz.f72])
  refine⟨⟨i+1,ae,trivial⟩,af,?_⟩;refine bF ?_ ?_ ?_<;>simp only[go_sem]
  all_goals first|rfl|omega
 obtain rfl:i=T:=ae
 have hlt:(l.take i).length=i:=by rw[aX];omega
 have hv:=kV.out;rcases aA i l.length with h2|h2;rotate_left
 ·have h2':(i<l.length)=False:=aP ae;have h2e:((i:Int)=(l.length:Int))=True:=aU ae;have h2l:((i:Int)<(l.length:Int))=False:=aP ae;rw[az (by rw[jF h2];simp)]at hv;subst hv
  repeat'(first|refine rx ⟨pw _,dZ qQc ai⟩ ?_|refine rx ⟨pw _,pw _,Al _,dZ qQc ai⟩ ?_|refine rx (dZ qQc ai) ?_|apply au|refine rq ?_|simp only[go_sem,h2',h2e,h2l,aC,vh,bt,bn,bZ,bh,eZ,eY,Tryz.f72])
  refine cI hm kT.out 72000 qW2 (ι:=eO f.subs.length fun _=>True)
   ⟨fun q=>⟨frL [(2,.ptr (72002,0) 0),(1,eS (A q.i)),(59,eS f.subs),(60,eI f.subs.length),(61,eI q.i)],hpL [((72002,0),some ⟨(qcD f),true,false⟩)],9⟩,fun q=>f.subs.length-q.i⟩
   ⟨0,ae,trivial⟩ ah ?_ ?_
  ·refine eX [] [] [] ?_ ?_ ?_ ?_ ?_<;>simp only[go_sem,hA0]
   all_goals first|rfl|omega|(simp only[aE,dR,dQ,aM,aQ,xt];done)
  rintro⟨j,hj,_⟩
  try simp only at hj
  rcases aA j f.subs.length with h1|h1;rotate_left
  ·obtain rfl:j=f.subs.length:=ae
   repeat'(first|apply au|refine rq ?_|simp only[go_sem,aC,hAe,bt,bn,bZ,bh,eZ,eY,Tryz.f72])
   all_goals first|rfl|omega
  have hs:=kA.out j h1;obtain⟨x,hx⟩:∃x,f.subs[j]=x:=⟨_,rfl⟩;have hpx:=kz.out x qQe;have hpl:=kL.out j h1;rw[hx]at hs hpl
  repeat'(first|refine rx ⟨hpx.1,hpx.2,hpl⟩ ?_|apply au|refine rq ?_|simp only[go_sem,h1,hx,bt,bn,bZ,bh,eZ,eY,Tryz.f72])
  refine⟨⟨j+1,ae,trivial⟩,af,?_⟩;refine bF ?_ ?_ ?_<;>simp only[go_sem,hs]
  all_goals first|rfl|omega
 have h3:=ka.out i h2 rfl;obtain⟨x,hx⟩:∃x,l[i]=x:=⟨_,rfl⟩;rw[hx]at h3;have h2e:((i:Int)=(l.length:Int))=False:=aP ae;rw[ay h2,hx]at hv;by_cases hn1:x.name=p.name
 ·have hn1':(x.name.l=p.name.l)=True:=aU (by rw[hn1]);by_cases hn2:x.arity=p.arity
  ·have hxp:x=p:=by cases x;cases p;simp only at hn1 hn2;rw[hn1,hn2]
   have hn2':(x.arity=p.arity)=True:=aU hn2;rw[aF (by rw[hxp])]at hv;subst hv
   repeat'(first|refine rx ⟨pw _,dZ qQc ai⟩ ?_|refine rx ⟨pw _,pw _,Al _,dZ qQc ai⟩ ?_|refine rx (dZ qQc ai) ?_|apply au|refine rq ?_|simp only[go_sem,h2,h2e,hx,h3,hn1',hn2',bt,bn,bZ,bh,eZ,eY,Tryz.f72])
   refine cI hm kT.out 72000 qW2 (ι:=eO f.subs.length fun _=>True)
    ⟨fun q=>⟨frL [(2,.ptr (72002,0) 0),(1,eS (A q.i)),(59,eS f.subs),(60,eI f.subs.length),(61,eI q.i)],hpL [((72002,0),some ⟨(qcD f),true,false⟩)],9⟩,fun q=>f.subs.length-q.i⟩
    ⟨0,ae,trivial⟩ ah ?_ ?_
   ·refine eX [] [] [] ?_ ?_ ?_ ?_ ?_<;>simp only[go_sem,hA0]
    all_goals first|rfl|omega|(simp only[aE,dR,dQ,aM,aQ,xt];done)
   rintro⟨j,hj,_⟩
   try simp only at hj
   rcases aA j f.subs.length with h1|h1;rotate_left
   ·obtain rfl:j=f.subs.length:=ae
    repeat'(first|apply au|refine rq ?_|simp only[go_sem,aC,hAe,bt,bn,bZ,bh,eZ,eY,Tryz.f72])
    all_goals first|rfl|omega
   have hs:=kA.out j h1;obtain⟨x,hx⟩:∃x,f.subs[j]=x:=⟨_,rfl⟩;have hpx:=kz.out x qQe;have hpl:=kL.out j h1;rw[hx]at hs hpl
   repeat'(first|refine rx ⟨hpx.1,hpx.2,hpl⟩ ?_|apply au|refine rq ?_|simp only[go_sem,h1,hx,bt,bn,bZ,bh,eZ,eY,Tryz.f72])
   refine⟨⟨j+1,ae,trivial⟩,af,?_⟩;refine bF ?_ ?_ ?_<;>simp only[go_sem,hs]
   all_goals first|rfl|omega
  ·have hn2':(x.arity=p.arity)=False:=aP hn2;rw[az (fun e=>hn2 (by rw[bq e]))]at hv;subst hv
   repeat'(first|refine rx ⟨pw _,dZ qQc ai⟩ ?_|refine rx ⟨pw _,pw _,Al _,dZ qQc ai⟩ ?_|refine rx (dZ qQc ai) ?_|apply au|refine rq ?_|simp only[go_sem,h2,h2e,hx,h3,hn1',hn2',vh,bt,bn,bZ,bh,eZ,eY,Tryz.f72])
   refine cI hm kT.out 72000 qW2 (ι:=eO f.subs.length fun _=>True)
    ⟨fun q=>⟨frL [(2,.ptr (72002,0) 0),(1,eS (A q.i)),(59,eS f.subs),(60,eI f.subs.length),(61,eI q.i)],hpL [((72002,0),some ⟨(qcD f),true,false⟩)],9⟩,fun q=>f.subs.length-q.i⟩
    ⟨0,ae,trivial⟩ ah ?_ ?_
   ·refine eX [] [] [] ?_ ?_ ?_ ?_ ?_<;>simp only[go_sem,hA0]
    all_goals first|rfl|omega|(simp only[aE,dR,dQ,aM,aQ,xt];done)
   rintro⟨j,hj,_⟩
   try simp only at hj
   rcases aA j f.subs.length with h1|h1;rotate_left
   ·obtain rfl:j=f.subs.length:=ae
    repeat'(first|apply au|refine rq ?_|simp only[go_sem,aC,hAe,bt,bn,bZ,bh,eZ,eY,Tryz.f72])
    all_goals first|rfl|omega
   have hs:=kA.out j h1;obtain⟨x,hx⟩:∃x,f.subs[j]=x:=⟨_,rfl⟩;have hpx:=kz.out x qQe;have hpl:=kL.out j h1;rw[hx]at hs hpl
   repeat'(first|refine rx ⟨hpx.1,hpx.2,hpl⟩ ?_|apply au|refine rq ?_|simp only[go_sem,h1,hx,bt,bn,bZ,bh,eZ,eY,Tryz.f72])
   refine⟨⟨j+1,ae,trivial⟩,af,?_⟩;refine bF ?_ ?_ ?_<;>simp only[go_sem,hs]
   all_goals first|rfl|omega
 ·have hn1':(x.name.l=p.name.l)=False:=aP fun e=>hn1 (by cases h:x.name;cases h3:p.name;rw[h,h3]at e;exact a8 Str.mk e);rw[az (fun e=>hn1 (by rw[bq e]))]at hv;subst hv
  repeat'(first|refine rx ⟨pw _,dZ qQc ai⟩ ?_|refine rx ⟨pw _,pw _,Al _,dZ qQc ai⟩ ?_|refine rx (dZ qQc ai) ?_|apply au|refine rq ?_|simp only[go_sem,h2,h2e,hx,h3,hn1',vh,bt,bn,bZ,bh,eZ,eY,Tryz.f72])
  refine cI hm kT.out 72000 qW2 (ι:=eO f.subs.length fun _=>True)
   ⟨fun q=>⟨frL [(2,.ptr (72002,0) 0),(1,eS (A q.i)),(59,eS f.subs),(60,eI f.subs.length),(61,eI q.i)],hpL [((72002,0),some ⟨(qcD f),true,false⟩)],9⟩,fun q=>f.subs.length-q.i⟩
   ⟨0,ae,trivial⟩ ah ?_ ?_
  ·refine eX [] [] [] ?_ ?_ ?_ ?_ ?_<;>simp only[go_sem,hA0]
   all_goals first|rfl|omega|(simp only[aE,dR,dQ,aM,aQ,xt];done)
  rintro⟨j,hj,_⟩
  try simp only at hj
  rcases aA j f.subs.length with h1|h1;rotate_left
  ·obtain rfl:j=f.subs.length:=ae
   repeat'(first|apply au|refine rq ?_|simp only[go_sem,aC,hAe,bt,bn,bZ,bh,eZ,eY,Tryz.f72])
   all_goals first|rfl|omega
  have hs:=kA.out j h1;obtain⟨x,hx⟩:∃x,f.subs[j]=x:=⟨_,rfl⟩;have hpx:=kz.out x qQe;have hpl:=kL.out j h1;rw[hx]at hs hpl
  repeat'(first|refine rx ⟨hpx.1,hpx.2,hpl⟩ ?_|apply au|refine rq ?_|simp only[go_sem,h1,hx,bt,bn,bZ,bh,eZ,eY,Tryz.f72])
  refine⟨⟨j+1,ae,trivial⟩,af,?_⟩;refine bF ?_ ?_ ?_<;>simp only[go_sem,hs]
  all_goals first|rfl|omega
end
section
variable {G:Nat→List FD}
def I17:Tbl:=I16.add 30 (sp1 acM fun l=>(∀f∈l,acP f)∧l.length≤41)
attribute [go_sem] I17
set_option maxHeartbeats 4000000 in
theorem ju:b9 Tryz.prog G I17:=by
 refine iD yg x9 fun l hp _=>?_;obtain⟨hac,hsl⟩:=hp;have hal:=zG hac;have kb:=Kp.mk hac;have kl:=Kp.mk hal;clear hac hal;refine rv (N:=28) hm x9 30000 qWi yg Tryz.func30 rfl ?_
 repeat'(first|apply au|refine rq ?_|simp only[go_sem,Tryz.f30])
 refine cI hm x9 30000 qWi (ι:=eO l.length fun _=>True)
  ⟨fun q=>⟨frL [(0,eS l),(3,eS (acM (l.take q.i))),(7,eS l),(8,eI l.length),(9,eI q.i)],hpL [],0⟩,fun q=>l.length-q.i⟩
  ⟨0,ae,trivial⟩ ah ?_ ?_
 ·refine eX [] [] [] ?_ ?_ ?_ ?_ ?_<;>simp only[go_sem,acM,bv,dV,aQ]
  all_goals first|rfl|omega
 rintro⟨i,hi,_⟩
 try simp only at hi
 rcases aA i l.length with h1|h1;rotate_left
 ·obtain rfl:i=l.length:=ae
  repeat'(first|apply au|refine rq ?_|simp only[go_sem,aC,aJ,Tryz.f30])
 obtain⟨x,hx⟩:∃x,l[i]=x:=⟨_,rfl⟩;have hxb:acP x:=kb.out x qQe;have et:acM (l.take (i+1))=(iH x [] []).foldl fM (acM (l.take i)):=by rw[CN h1,hx]
 have hA:=kl.out i hi;obtain⟨A,hAe⟩:∃A,acM (l.take i)=A:=⟨_,rfl⟩;rw[hAe]at et hA;have hcp:x.fit=true∧x.size≤1000:=⟨hxb.ft,hxb.s⟩;have hcn:=hxb.n;obtain⟨cs,hcs⟩:∃c,iH x [] []=c:=⟨_,rfl⟩;rw[hcs]at et hcn;obtain⟨M,hM⟩:∃M:Nat→List Str,M=fun j=>(cs.take j).foldl fM A:=⟨_,rfl⟩;have hM0:M 0=A:=by rw[hM];rfl
 have hMs:∀j (h:j<cs.length),M (j+1)=fM (M j) cs[j]:=fun j h=>by rw[hM];exact K9 h
 have hMl:∀j,j≤cs.length→(M j).length≤990000:=fun j h=>by rw[hM];have:=zo (cs.take j) A;rw[aX]at this;simp only;omega
 have hMe:acM (l.take (i+1))=M cs.length:=by rw[et,hM];simp only[aJ]
 have kM:=Kp.mk hMs;have kN:=Kp.mk hMl;clear hM hMs hMl et hxb hA
 repeat'(first|apply rx hcp|apply au|refine rq ?_|simp only[go_sem,h1,hx,hcs,hAe,bh,bt,Tryz.f30])
 refine cI hm x9 30000 qWi (ι:=eO cs.length fun _=>True)
  ⟨fun q=>⟨frL [(0,eS l),(3,eS (M q.i)),(7,eS l),(8,eI l.length),(9,eI i),(16,eS cs),(17,eI cs.length),(18,eI q.i)],hpL [],0⟩,fun q=>cs.length-q.i⟩
  ⟨0,ae,trivial⟩ ah ?_ ?_
 ·refine bF ?_ ?_ ?_<;>simp only[go_sem,hM0,hAe]
  all_goals first|rfl|omega
 rintro⟨j,hj,_⟩
 try simp only at hj
 rcases aA j cs.length with h2|h2
 ·have es:=kM.out j h2;have hml:(M j).length≤1000000:=bz (kN.out j hj) ai;obtain⟨y,hy⟩:∃y,cs[j]=y:=⟨_,rfl⟩;rw[hy]at es
  repeat'(first|apply rx hml|apply au|refine rq ?_|simp only[go_sem,h2,hy,bh,bn,Tryz.f30])
  all_goals refine⟨⟨j+1,ae,trivial⟩,af,?_⟩
  all_goals refine bF ?_ ?_ ?_<;>simp only[go_sem,es]
  all_goals first|rfl|omega
 obtain rfl:j=cs.length:=ae
 repeat'(first|apply au|refine rq ?_|simp only[go_sem,aC,Tryz.f30])
 all_goals refine⟨⟨i+1,ae,trivial⟩,af,?_⟩
 all_goals refine bF ?_ ?_ ?_<;>simp only[go_sem,hMe]
 all_goals first|rfl|omega
end
end Go.Proofs.YtnijhilfchekkaaGreatDoor

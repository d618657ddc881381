import Derived.Test.YtkkffhphodngkaaDoorAT
import Derived.Test.YtkkffhphodngkaaDoorY4
import Derived.Test.YtkkffhphodngkaaDoorQ24
import Derived.Test.YtkkffhphodngkaaDoorVP
set_option linter.unusedSimpArgs false
namespace Go.Proofs.YtkkffhphodngkaaDoor
open Go Go.Abs Go.Proofs
def zfX (m:zal)(f:Abs.zaf):Bool×zcD:=if(zbt m).code≠0 then(false,zbt m)else if(zaA false f).code≠0 then(false,zaA false f)else if(zcV m f).code≠0 then(false,zcV m f)else(zbY m f [],⟨0,0⟩)
theorem zzg {m:zal}{f:Abs.zaf}(hm:zsd m)(h:(zaA false f).code=0):flP m f:=by
 have h1:=zbN h
 have h2:=zaT h
 have:=zgw h1 []
 exact⟨hm.c,hm.r,⟨h1,by omega⟩,by omega⟩
theorem znK {m:zal}{f:Abs.zaf}(h:(zcV m f).code=0):zcV m f=⟨0,0⟩:=by
 unfold zcV at h ⊢
 split at h
 ·exact absurd h (by decide)
 ·rename_i h1
  split at h
  ·exact absurd h (by decide)
  ·rename_i h2;rw[if_neg h1,if_neg h2]
theorem zuq {m:zal}{f:Abs.zaf}(h1:(zbt m).code=0)(h2:(zaA false f).code=0)(h3:(zcV m f).code=0):zfX m f=(zbY m f [],⟨0,0⟩):=by
 unfold zfX
 rw[if_neg (by simp[h1]),if_neg (by simp[h2]),if_neg (by simp[h3])]
def H1:Tbl:=A21.add 16 (zxv zfX fun _ _=>True)
attribute [go_sem] H1
set_option maxRecDepth 100000 in
set_option maxHeartbeats 1000000 in
set_option maxHeartbeats 4000000 in
theorem hH1:zan Tryd.prog GA H1:=by
 refine zkH zAn zwG fun m f _ _ _=>?_
 by_cases h1:(zbt m).code=0
 rotate_left
 ·have e:zfX m f=(false,zbt m):=by unfold zfX;rw[if_pos h1]
  obtain⟨X,hX⟩:∃X,zbt m=X:=⟨_,rfl⟩
  rw[hX]at e h1
  rw[e]
  refine zah (N:=32) hm zwG 16000 (lst []) zAn Tryd.func16 rfl rfl (by simp) (by kernel_rfl) ?_
  repeat'(first|refine rq fun _=>?_|simp only[go_sem,h1,hX,zab,zad,Tryd.f16])
 have hmv:=(znv h1).v
 have hmz:=znw h1
 by_cases h2:(zaA false f).code=0
 rotate_left
 ·have e:zfX m f=(false,zaA false f):=by unfold zfX;rw[if_neg (by simp[h1]),if_pos h2]
  obtain⟨X,hX⟩:∃X,zaA false f=X:=⟨_,rfl⟩
  rw[hX]at e h2
  rw[e]
  refine zah (N:=32) hm zwG 16000 (lst []) zAn Tryd.func16 rfl rfl (by simp) (by kernel_rfl) ?_
  repeat'(first|refine rq fun _=>?_|simp only[go_sem,hmz,h2,hX,zab,zad,Tryd.f16])
 have hck:=zfg h2
 have hfl:=zzg hmv h2
 have hvp:=zxK (zAR hmv h2) [] (by simp)
 by_cases h3:(zcV m f).code=0
 rotate_left
 ·have e:zfX m f=(false,zcV m f):=by unfold zfX;rw[if_neg (by simp[h1]),if_neg (by simp[h2]),if_pos h3]
  obtain⟨X,hX⟩:∃X,zcV m f=X:=⟨_,rfl⟩
  rw[hX]at e h3
  rw[e]
  refine zah (N:=32) hm zwG 16000 (lst []) zAn Tryd.func16 rfl rfl (by simp) (by kernel_rfl) ?_
  repeat'(first|refine zaB.i hfl fun _=>?_|refine rq fun _=>?_|simp only[go_sem,hmz,hck,h3,hX,zab,zad,Tryd.f16])
 have htz:=znK h3
 rw[zuq h1 h2 h3]
 obtain⟨b,hb⟩:∃b,zbY m f []=b:=⟨_,rfl⟩
 rw[hb]
 refine zah (N:=32) hm zwG 16000 (lst []) zAn Tryd.func16 rfl rfl (by simp) (by kernel_rfl) ?_
 repeat'(first|refine zaB.i hfl fun _=>?_|refine zaB.i hvp fun _=>?_|refine rq fun _=>?_|simp only[go_sem,hmz,hck,htz,hb,zdU,zab,zad,Tryd.f16])
end Go.Proofs.YtkkffhphodngkaaDoor

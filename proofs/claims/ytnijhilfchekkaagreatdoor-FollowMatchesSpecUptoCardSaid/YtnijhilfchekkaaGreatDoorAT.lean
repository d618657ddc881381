import Derived.Test.YtnijhilfchekkaaGreatDoorA3
open Go Go.Abs
attribute [go_sem_proc] reduceIte reduceCtorEq Nat.reduceEqDiff Nat.reduceAdd Nat.reduceSub Nat.reduceMul Nat.reduceDiv Nat.reduceMod Nat.reduceLT Nat.reduceLeDiff Nat.reduceBEq Nat.reducePow Int.reduceLE Int.reduceLT Int.reduceEq Int.reduceNeg Int.reduceAdd Int.reduceToNat
theorem Go.Abs.rg {n b:Nat}(h:n≤1000000000)(hb:b≤256):fits n b:=by have h1:n≤dt:=bz h (by unfold dt;decide);refine⟨h1,bz (gZ _ hb) ?_⟩;omega
theorem Go.Abs.rq {p q:Prop}(k:q)(h:p:=by first|omega|(unfold Go.Abs.dt;omega)|exact rfl|exact⟨rfl,rfl⟩|exact⟨rfl,rfl,rfl⟩|exact⟨rfl,rfl,rfl,rfl⟩|exact⟨rfl,rfl,trivial⟩|exact⟨rfl,rfl,rfl,trivial⟩|exact⟨rfl,rfl,rfl,rfl,trivial⟩|exact trivial|exact⟨by decide,by decide,rfl⟩|exact rg (by first|omega|(simp only[aG,aX,aD,aN,bj];omega)) (by decide)):@Go.Abs.lT p ⟨q⟩:=Go.Abs.lT.i h fun _=>k
attribute [go_sem] Go.Abs.iW
theorem Go.Abs.rx {c k:Prop}(h:c)(h':k):@lT c ⟨k⟩:=lT.i h fun _=>h'
theorem Go.Abs.rv {P:Program}{G:Nat→List FD}{T:Tbl}(hm:P.follows .mixedOrders=true)(hT:b9 P G T){f:FuncId}{fn:Func}{c:Code}{args:List D}{H:bR}{n:Nat}{R:D→bR→Nat→Prop}(tag0:Nat)(am:Nat→Bool)(hcall:cW P f)(hf:P.funcs[f]?=some fn)(hb:fn.body=some c){N:Nat}(h:@XCK P G T N tag0 am c ⟨frL (lE 0 args),H,n⟩ ⟨fun e st=>@wb P fn e st ⟨R⟩⟩)(hN:fn.ntmps=N:=by rfl)(hl:args.length≤N:=by simp)(hd:mc am T c=true:=by kernel_rfl):cS P G f args H n R:=ym hm hT tag0 am hcall hf hb hN hl hd h
namespace Go.Abs
open Go
def qWi:=lst []
def qWj:=lsw [181,184,206,209,247,253,294,307] [1000004,1000017,1000023,1000028,1000030,1000037,1000043,1000045,1000046,1000051]
def qWk:=lst [1000007,1000018]
def qWl:=lst [1000004,1000006,1000008,1000010,1000012,1000017,1000019,1000021,1000023,1000025,1000027,1000028]
def qWm:=lsw [56,80,126,154,156,191,213] [1000043,1000052,1000066,1000073]
def qWn:=lsw [39] [1000003,1000006]
def qWo:=lsw [219] [1000061,1000069]
def qWp:=lsw [27,32] [1000004]
def qWq:=lsw [70] [75,1000011,1000016,1000018,1000019,1000021]
def qWr:=lsw [35] [1000016]
def qWs:=lst [1000008,1000011]
def qWt:=lst [1000020,1000022,1000026]
def qWu:=lsw [90,93,96,98,145,155,180,183,186,242,245,251] [63,158,1000019,1000030]
def qWv:=lsw [184,256] [270,1000028,1000044,1000063,1000064]
def qWw:=lst [1000002,1000004,1000009,1000010]
def qWx:=lsw [285,289] [1000076]
def qWy:=lsw [29,33,38] []
def qWz:=lsw [35,39] [1000008]
def qW0:=lsw [45,91] [1000017,1000023]
def qW1:=lsw [123,132] [101,1000005,1000018]
def qW2:=lsw [48,52,57] []
def qW3:=lst [1000012]
def qW4:=lsw [47,71,75,78,82,101] [1000015,1000019]
def qW5:=lst [1000001]
def qW6:=lsw [15] [35,36,1000003,1000007,1000009]
def qW7:=lst [1000003]
def qW8:=lsw [48,83] [1000018]
def qW9:=lsw [35,49] [1000009,1000014]
def qXa:=lst [1000011]
def qXb:=lsw [30,49,55] []
attribute[go_sem] qWi qWj qWk qWl qWm qWn qWo qWp qWq qWr qWs qWt qWu qWv qWw qWx qWy qWz qW0 qW1 qW2 qW3 qW4 qW5 qW6 qW7 qW8 qW9 qXa qXb
end Go.Abs

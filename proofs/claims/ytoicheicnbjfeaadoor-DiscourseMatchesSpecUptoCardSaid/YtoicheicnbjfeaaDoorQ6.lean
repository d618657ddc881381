import Derived.Test.YtoicheicnbjfeaaDoorAT
import Derived.Test.YtoicheicnbjfeaaDoorQ5
set_option linter.unusedSimpArgs false
namespace Go.Proofs.YtoicheicnbjfeaaDoor
open Go Go.Abs Go.Proofs

def refsOf (l : List Abs.Box) : List Str := l.flatMap Box.refs
theorem refsOf_succ {l : List Abs.Box} {i : Nat} (h : i < l.length) : refsOf (l.take (i + 1)) = refsOf (l.take i) ++ l[i].refs := by
  unfold refsOf; rw [List.take_succ_eq_append_getElem h, List.flatMap_append]; simp
theorem refsOf_le {l : List Abs.Box} {i : Nat} : (refsOf (l.take i)).length ≤ (refsOf l).length := by
  have h := congrArg (fun x => (refsOf x).length) (List.take_append_drop i l)
  simp only [refsOf, List.flatMap_append, List.length_append] at h ⊢
  omega
def Q14 : Tbl := Q13.add 150 (sp1 refsOf fun l => (refsOf l).length ≤ 1000000)
set_option maxRecDepth 100000 in
set_option maxHeartbeats 1000000 in
theorem hQ14 : TblOk Tryd.prog G0 Q14 := by
  refine sp1_ok ok150 hQ13 fun l hlen hs => ?_
  have la := Wf_sl hs
  simp only [List.length_map, maxL] at la
  refine Wcall_K (N := 19) hm hQ13 150000 (lsw [16] []) ok150 Tryd.func150 rfl rfl (by simp) (by kernel_rfl) ?_
  simp only [go_sem]
  refine WK_loop hm hQ13 150000 (lsw [16] []) (ι := LoopG l.length 1 fun _ => True)
    ⟨fun q => ⟨frL [(0, .fz (enc l)), (3, .ow (150016, q.g) 1 ((refsOf (l.take q.i)).map enc)), (6, .fz (.i .i64 l.length)), (7, .fz (.i .i64 q.i))], hpL [((150016, q.g), some tok)], q.m⟩, fun q => l.length - q.i⟩
    ⟨0, 0, 1, by omega, by omega, by omega, trivial⟩ (by kernel_rfl) ?_ ?_
  · refine Weak_g [] [(150016, 0)] [] ?_ ?_ ?_ ?_ ?_ <;> simp only [go_sem]
    all_goals rfl
  rintro ⟨i, g, m, hi, hg, hm1, _⟩
  rcases Nat.lt_or_ge i l.length with h1 | h1
  · have e := refsOf_succ h1
    have hb : (refsOf (l.take i)).length + l[i].refs.length ≤ 1000000 := by
      have := refsOf_le (l := l) (i := i + 1)
      rw [e, List.length_append] at this; omega
    repeat' (first | refine ReqK.i (by omega) fun _ => ?_ | refine ReqK.i (fits_of (by omega) (by decide)) fun _ => ?_ | refine ReqK.i (by unfold maxL; omega) fun _ => ?_ | simp only [go_sem, h1, getD_map_lt])
    refine ⟨⟨i + 1, m, m + 1, by omega, by omega, by omega, trivial⟩, by simp only; omega, ?_⟩
    refine Weak_to ?_ ?_ ?_ <;> simp only [go_sem, e, List.map_append]
  · obtain rfl : i = l.length := by omega
    repeat' (first | refine ReqK.i (by omega) fun _ => ?_ | simp only [go_sem, Nat.lt_irrefl, List.take_length, Tryd.f150])

def predM (nm : Str) (w : List Str) : Abs.Form := .mk 2 nm w []
def Q15 : Tbl := Q14.add 30 (sp2 predM fun _ _ => True)
set_option maxRecDepth 100000 in
set_option maxHeartbeats 1000000 in
theorem hQ15 : TblOk Tryd.prog G0 Q15 := by
  refine sp2_ok ok30 hQ14 fun nm w _ _ hs => ?_
  refine Wcall_K (N := 8) hm hQ14 30000 (lst []) ok30 Tryd.func30 rfl rfl (by simp) (by kernel_rfl) ?_
  repeat' (first | refine ReqK.i (by omega) fun _ => ?_ | simp only [go_sem, Tryd.f30, predM])

def sX : Str := ⟨[120]⟩
def sY : Str := ⟨[121]⟩
def sDog : Str := ⟨[100, 111, 103]⟩
def saidM : Abs.Box := .mk [sX, sY] [.mk 1 ⟨[]⟩ (predM sDog [sX]) [], .mk 5 sY (predM sDog []) []]
def Q16 : Tbl := Q15.add 16 (sp0 saidM)
set_option maxRecDepth 100000 in
set_option maxHeartbeats 1000000 in
theorem hQ16 : TblOk Tryd.prog G0 Q16 := by
  refine sp0_ok hQ15 ?_
  refine Wcall_K (N := 9) hm hQ15 16000 (lst []) ok16 Tryd.func16 rfl rfl (by simp) (by kernel_rfl) ?_
  repeat' (first | refine ReqK.i (by unfold maxL; omega) fun _ => ?_ | simp only [go_sem, Q15, predM, saidM, sX, sY, sDog, Tryd.f16])
end Go.Proofs.YtoicheicnbjfeaaDoor

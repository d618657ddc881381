/- several texts of this proof in one; no conditions -/
import Derived.Test.YtbbjghecpcobjaaDoorAT
import Derived.Test.YtbbjghecpcobjaaDoorQ80
set_option linter.unusedSimpArgs false
namespace Go.Proofs.YtbbjghecpcobjaaDoor
open Go Go.Abs Go.Proofs

/-! ## event.change with Modify$1 and with Drop$1 -/
def tree1266P : Tv := (.q 0 (.q 2 (.q 3 (.br [(1, (.br [(4, (.q 5 (.br [(6, (.q 7 (.br [(8, .leaf)])))])))])), (4, (.q 1 (.q 5 (.br [(6, (.q 7 (.br [(8, .leaf)])))]))))]))))

set_option maxRecDepth 100000 in
set_option maxHeartbeats 1000000 in
set_option maxHeartbeats 8000000 in
theorem f64Dr {nm mod : Str} : ∀ (s : Nat) (f : Abs.Form), f.size ≤ s → f.fit = true → wfE f → f.size ≤ 100000 →
    Wcall Tryd.prog GA 64 [.fz (enc f), .fn 65 [.rp [.s nm.l], .rp [.s mod.l]]] (hpL []) 0 (fun d _ _ => D.val d = some (.fz (enc (changeM (dropBy nm mod) f)))) := by
  intro s
  induction s with
  | zero => intro f hs; have := f.size_pos; omega
  | succ s ih =>
    intro f hs hfit hwf hsz
    obtain ⟨R, hR⟩ : ∃ R, changeM (dropBy nm mod) f = R := ⟨_, rfl⟩
    obtain ⟨hwl, hsl, hfs⟩ := Form.fit_eq hfit
    have hss : ∀ g ∈ f.subs, g.size ≤ s ∧ g.fit = true ∧ wfE g ∧ g.size ≤ 100000 := fun g hg => ⟨by have := Form.size_sub hg; omega, Form.fits_mem hfs hg, wfE_sub hwf g hg, by have := Form.size_sub hg; omega⟩
    obtain ⟨A, hA⟩ : ∃ A : Nat → List Abs.Form, A = fun j => (f.subs.take j).map (changeM (dropBy nm mod)) := ⟨_, rfl⟩
    have hA0 : A 0 = [] := by rw [hA]; rfl
    have hAs : ∀ j (h : j < f.subs.length), A (j + 1) = A j ++ [changeM (dropBy nm mod) f.subs[j]] := fun j h => by rw [hA]; simp only [List.take_succ_eq_append_getElem h, List.map_append, List.map_cons, List.map_nil]
    have hAl : ∀ j, (A j).length ≤ f.subs.length := fun j => by rw [hA]; simp only [List.length_map, List.length_take]; omega
    have hRe : (dropBy nm mod) (.mk f.kind f.name f.words (A f.subs.length)) = R := by rw [← hR, changeM_eq, hA]; simp only [List.take_length]
    have hAf : A f.subs.length = changeMs (dropBy nm mod) f.subs := by rw [hA, changeMs_map]; simp only [List.take_length]
    have hgo : evPre (.mk f.kind f.name f.words (A f.subs.length)) := by
      rw [hAf]
      have h5 := wfE_eq.1 hwf
      refine ⟨?_, ?_⟩
      · rw [wfE]
        exact ⟨by rw [changeMs_map, List.length_map]; exact h5.1, by rw [changeMs_map, List.length_map]; exact h5.2.1, h5.2.2.1, changeMs_wfE (fun f h => dropBy_wfE h) f.subs h5.2.2.2⟩
      · have h6 := changeMs_size (c := 0) (by' := (dropBy nm mod)) (fun f => dropBy_size nm mod f) f.subs
        have h7 : f.size = Form.sizes f.subs + 1 := by cases f; rw [Form.size]; rfl
        rw [Form.size]; omega
    rw [hR]
    have kI := Kp.mk ih
    have kZ := Kp.mk hss
    have kA := Kp.mk hAs
    have kL := Kp.mk hAl
    have kG := Kp.mk hgo
    have kR := Kp.mk hRe
    clear ih hss hfs hfit hA hAs hAl hR hgo hRe hAf
    refine Wcall_K (N := 29) hm hM41 64000 (lsw [23] [1000006]) ok64 Tryd.func64 rfl rfl (by simp) (by kernel_rfl) ?_
    repeat' (first | refine rq fun _ => ?_ | refine ReqK.i (fits_of2 (by first | omega | (simp only [List.length_map, List.length_take, List.length_append, List.length_cons, List.length_nil]; omega)) (by decide)) fun _ => ?_ | simp only [go_sem, Tryd.f64])
    refine WK_loop hm hM41 64000 (lsw [23] [1000006]) (ι := LoopG f.subs.length 4 fun _ => True)
      ⟨fun q => ⟨frL [(1, .fn 65 [.rp [.s nm.l], .rp [.s mod.l]]), (4, .ptr (64004, 1) 0), (5, .ptr (64005, 2) 0), (11, .fz (.sl (f.subs.map enc))), (12, .fz (.i .i64 f.subs.length)), (13, .fz (.i .i64 q.i))],
        hpL [((64004, 1), some ⟨[.fz (.i .i64 0), .fz (.s []), .full [], .full []], true, false⟩), ((64005, 2), some ⟨[.fz (.i .i64 f.kind), .fz (.s f.name.l), .fz (.sl (f.words.map enc)), .ow (64023, q.g) 4 ((A q.i).map enc)], true, false⟩), ((64023, q.g), some tok)], q.m⟩, fun q => f.subs.length - q.i⟩
      ⟨0, 3, 4, by omega, by omega, by omega, trivial⟩ (by kernel_rfl) ?_ ?_
    · refine Weak_g [] [(64023, 3)] [] ?_ ?_ ?_ ?_ ?_ <;> simp only [go_sem, hA0]
      all_goals first | done | rfl | omega | trace_state
    rintro ⟨j, g2, m2, hj, hg2, hm2, _⟩
    try simp only at hj hg2 hm2
    rcases Nat.lt_or_ge j f.subs.length with h2 | h2
    · have hmem := List.getElem_mem h2
      obtain ⟨x, hx⟩ : ∃ x, f.subs[j] = x := ⟨_, rfl⟩
      have hz := kZ.out _ hmem
      have hAj := kA.out j h2
      have hAlj := kL.out j
      rw [hx] at hz hAj
      have ih2 := kI.out x hz.1 hz.2.1 hz.2.2.1 hz.2.2.2
      obtain ⟨y, hy⟩ : ∃ y, changeM (dropBy nm mod) x = y := ⟨_, rfl⟩
      rw [hy] at hAj ih2
      rw [enc_form (f := x)] at ih2
      have kih := Kp.mk ih2
      clear ih2
      repeat' (first | refine rq fun _ => ?_ | refine ReqK.i (fits_of2 (by first | omega | (simp only [List.length_map, List.length_take, List.length_append, List.length_cons, List.length_nil]; omega)) (by decide)) fun _ => ?_ | simp only [go_sem, h2, hx, getD_map_lt, Tryd.f64])
      refine WK_weak2 (Weak_rpL (id := (64007, m2)) (t := 7) (b := true) (ys := [.i .i64 x.kind, .s x.name.l, .sl (x.words.map enc), .sl (x.subs.map enc)]) (by simp only [go_sem]) (by simp only [go_sem])) ?_
      refine WK_drawV hm hM41 64000 (lsw [23] [1000006]) tree1266P (by kernel_rfl) (by kernel_rfl) ?_
      repeat' (first | refine And.intro ?_ ?_ | exact True.intro | refine WcallK.i (Wcall_pu rfl kih.out ?_) | refine rq fun _ => ?_ | refine ReqK.i (fits_of2 (by first | omega | (simp only [List.length_map, List.length_take, List.length_append, List.length_cons, List.length_nil]; omega)) (by decide)) fun _ => ?_ | simp only [go_sem, tree1266P, h2, hx, getD_map_lt, Tryd.f64])
      all_goals
        refine ⟨⟨j + 1, m2 + 1, m2 + 5, by omega, by omega, by omega, trivial⟩, by simp only; omega, ?_⟩
        refine Weak_to ?_ ?_ ?_ <;> (try simp only [go_sem, hAj, List.map_append])
        all_goals first | done | omega | rfl | trace_state
    · obtain rfl : j = f.subs.length := by omega
      have hE := kG.out
      have hRe := kR.out
      obtain ⟨AA, hAA⟩ : ∃ AA, A f.subs.length = AA := ⟨_, rfl⟩
      rw [hAA] at hE hRe
      have hc := f65 (nm := nm) (mod := mod) _ hE
      rw [hRe, enc_form (f := .mk f.kind f.name f.words AA)] at hc
      simp only [form_kind, form_name, form_words, form_subs] at hc
      have kc := Kp.mk hc
      clear hc
      repeat' (first | refine WcallK.i (Wcall_pu rfl kc.out ?_) | refine rq fun _ => ?_ | refine ReqK.i (fits_of2 (by first | omega | (simp only [List.length_map, List.length_take, List.length_append, List.length_cons, List.length_nil]; omega)) (by decide)) fun _ => ?_ | simp only [go_sem, Nat.lt_irrefl, hAA, str_eta, form_eta, Tryd.f64])

/-! ## Modify and Drop -/
def treeMd : Tv := (.q 0 (.br [(1, (.br [(2, (.br [(3, .leaf)]))])), (2, (.q 1 (.br [(3, .leaf)])))]))
theorem drops_ok {nm mod : Str} {f : Abs.Form} (h : (checkM false f).code = 0) : szPre (changeM (dropBy nm mod) f) := by
  refine ⟨changeM_fit (fun f h => dropBy_fit h) f (checkM_fit h), ?_⟩
  have h1 := changeM_size (c := 0) (fun f => dropBy_size nm mod f) f
  have h2 := checkM_size h
  omega
theorem checkE_ok {f : Abs.Form} {nm mod : Str} (h : (checkE f nm mod).code = 0) : (checkM false f).code = 0 ∧ isName nm = true ∧ isName mod = true ∧ checkE f nm mod = ⟨0, 0⟩ := by
  unfold checkE at h ⊢
  split at h
  · rename_i h1; exact absurd h h1
  · rename_i h1
    split at h
    · exact absurd h (by decide)
    · rename_i h2
      split at h
      · exact absurd h (by decide)
      · rename_i h3
        refine ⟨Decidable.not_not.1 h1, by simpa using h2, by simpa using h3, ?_⟩
        rw [if_neg h1, if_neg h2, if_neg h3]

def modifyP (f : Abs.Form) (nm mod : Str) : Abs.Form × Fault := if (checkE f nm mod).code ≠ 0 then (zeroF, checkE f nm mod) else (doneF (changeM (modBy nm mod) f), doneE (changeM (modBy nm mod) f))
def M42 : Tbl := M41
attribute [go_sem] M42
theorem hM42 : TblOk Tryd.prog GA M42 := hM41
def dropP (f : Abs.Form) (nm mod : Str) : Abs.Form × Fault := if (checkE f nm mod).code ≠ 0 then (zeroF, checkE f nm mod) else (doneF (changeM (dropBy nm mod) f), doneE (changeM (dropBy nm mod) f))
def M43 : Tbl := M42.add 26 (sp3p dropP fun _ _ _ => True)
attribute [go_sem] M43
set_option maxRecDepth 100000 in
set_option maxHeartbeats 1000000 in
theorem hM43 : TblOk Tryd.prog GA M43 := by
  refine sp3p_ok ok26 hM42 fun f nm mod _ hw _ _ => ?_
  by_cases hc1 : ¬ (checkE f nm mod).code = 0
  · have e1 : dropP f nm mod = (zeroF, checkE f nm mod) := by unfold dropP; rw [if_pos hc1]
    obtain ⟨c, hc⟩ : ∃ c, checkE f nm mod = c := ⟨_, rfl⟩
    rw [hc] at hc1 e1
    simp only [e1, zeroF]
    refine Wcall_K (N := 24) hm hM42 26000 (lst [1000003]) ok26 Tryd.func26 rfl rfl (by simp) (by kernel_rfl) ?_
    repeat' (first | refine WK_drawV hm hM42 26000 (lst [1000003]) treeMd (by kernel_rfl) (by kernel_rfl) ?_ | refine And.intro ?_ ?_ | exact True.intro | refine rq fun _ => ?_ | refine ReqK.i (fits_of2 (by first | omega | (simp only [List.length_map, List.length_take, List.length_append, List.length_cons, List.length_nil]; omega)) (by decide)) fun _ => ?_ | simp only [go_sem, hc1, hc, form_eta, str_eta, treeMd, Tryd.f26])
  · have hc1 := Decidable.not_not.1 hc1
    obtain ⟨g1, g2, g3, hck⟩ := checkE_ok hc1
    have e1 : dropP f nm mod = (doneF (changeM (dropBy nm mod) f), doneE (changeM (dropBy nm mod) f)) := by unfold dropP; rw [if_neg (by simp [hc1])]
    have hs := drops_ok (nm := nm) (mod := mod) g1
    have h126 := f64Dr (nm := nm) (mod := mod) f.size f (Nat.le_refl _) (checkM_fit g1) (checkM_wfE g1) (by have := checkM_size g1; omega)
    obtain ⟨g, hg⟩ : ∃ g, changeM (dropBy nm mod) f = g := ⟨_, rfl⟩
    rw [hg] at e1 hs h126
    rw [enc_form (f := f)] at h126
    obtain ⟨c, hc⟩ : ∃ c, doneF g = c := ⟨_, rfl⟩
    simp only [e1, hc]
    refine Wcall_K (N := 24) hm hM42 26000 (lst [1000003]) ok26 Tryd.func26 rfl rfl (by simp) (by kernel_rfl) ?_
    repeat' (first | refine rq fun _ => ?_ | refine ReqK.i (fits_of2 (by first | omega | (simp only [List.length_map, List.length_take, List.length_append, List.length_cons, List.length_nil]; omega)) (by decide)) fun _ => ?_ | simp only [go_sem, hck, form_eta, str_eta, Tryd.f26])
    refine WcallK.i (Wcall_rp (26004, 1) [.s nm.l] (b := true) (by simp only [go_sem]) rfl (Wcall_rp (26005, 2) [.s mod.l] (b := true) (by simp only [go_sem]) rfl (Wcall_pu rfl h126 ?_)))
    repeat' (first | refine ReqK.i hs fun _ => ?_ | refine rq fun _ => ?_ | refine ReqK.i (fits_of2 (by first | omega | (simp only [List.length_map, List.length_take, List.length_append, List.length_cons, List.length_nil]; omega)) (by decide)) fun _ => ?_ | simp only [go_sem, hc, form_eta, Tryd.f26])
end Go.Proofs.YtbbjghecpcobjaaDoor

namespace Go.Abs
open Go
section
variable {P : Program} {G : Nat → List FD} {T : Tbl}
end
end Go.Abs
namespace Go.Proofs.YtbbjghecpcobjaaDoor
open Go Go.Abs Go.Proofs

/-! ## S.Modifies -/
theorem nameE_is {f : Abs.Form} {nm : Str} (hn : nm.l ≠ []) : nameE f = nm ↔ isE nm f = true := by
  unfold nameE isE
  cases okE f with
  | true => simp
  | false => simp only [Bool.false_eq_true, if_false, Bool.false_and, iff_false]; intro e; rw [← e] at hn; exact hn rfl
def mdPre (f : Abs.Form) (nm mod : Str) (_ : Bool) : Prop := f.fit = true ∧ wfE f ∧ f.size ≤ 200 ∧ nm.l ≠ [] ∧ mod.l ≠ []
def tree505 : Tv := (.q 0 (.q 1 (.q 2 (.q 3 (.q 4 (.q 5 (.q 6 (.q 7 (.q 8 (.q 9 (.q 10 (.q 11 (.br [(12, (.q 13 (.br [(14, .leaf)])))])))))))))))))
def M44 : Tbl := M43
attribute [go_sem] M44
theorem hM44 : TblOk Tryd.prog GA M44 := hM43
end Go.Proofs.YtbbjghecpcobjaaDoor

namespace Go.Proofs.YtbbjghecpcobjaaDoor
open Go Go.Abs Go.Proofs

/-! ## the laws on modifiers -/
def boundD (k : Int) (x : Str) (f : Abs.Form) : Abs.Form := .mk k x [] [f]
def M45 : Tbl := M44.add 24 (sp3 boundD fun _ _ _ => True)
attribute [go_sem] M45
set_option maxRecDepth 100000 in
set_option maxHeartbeats 1000000 in
theorem hM45 : TblOk Tryd.prog GA M45 := by
  refine sp3_ok ok24 hM44 fun k x f _ _ _ _ => ?_
  simp only [boundD]
  refine Wcall_K (N := 12) hm hM44 24000 (lst []) ok24 Tryd.func24 rfl rfl (by simp) (by kernel_rfl) ?_
  repeat' (first | refine rq fun _ => ?_ | simp only [go_sem, form_eta, Tryd.f24])
def sDE : Str := ⟨[101]⟩
def sDV : Str := ⟨[118, 48]⟩
def sDF : Str := ⟨[102, 97, 115, 116]⟩
def wD1 : Abs.Form := .mk 9 sDE [] [.mk 2 sWalk [sDE] []]
def wD2 : Abs.Form := .mk 9 sDE [] [.mk 5 ⟨[]⟩ [] [.mk 2 sWalk [sDE] [], .mk 2 sDF [sDE] []]]
def hD2 : Abs.Form := .mk 5 ⟨[]⟩ [] [.mk 2 sWalk [sDE] [], .mk 2 sDF [sDE] []]
def gD1 : Abs.Form := .mk 9 sDV [] [.mk 2 sWalk [sDV] []]
def gD2 : Abs.Form := .mk 9 sDV [] [.mk 5 ⟨[]⟩ [] [.mk 2 sWalk [sDV] [], .mk 2 sDF [sDV] []]]
def hD3 : Abs.Form := .mk 5 ⟨[]⟩ [] [.mk 2 sWalk [sDV] [], .mk 2 sDF [sDV] []]
theorem vD_eq : vnum 0 = sDV := by unfold vnum sDV; rw [digits_small (by decide)]; rfl
theorem vD_gen {f : Abs.Form} (hc : cst f [] = []) : vg (replM [] (usedM f)) 0 = (sDV, 1) := by
  have h0 : vnum 0 ∉ replM [] (usedM f) := by
    show vnum 0 ∉ usedM f
    rw [mem_usedM, hc]; simp
  unfold vg
  rw [nextM_out h0, vD_eq]
theorem canD1 : canonM wD1 [] = gD1 := by
  have hg := vD_gen (f := wD1) (by kernel_rfl)
  unfold canonM
  generalize vg (replM [] (usedM wD1)) = g at hg
  unfold wD1
  rw [ren, if_pos (show isQ 9 from .inr rfl), hg, rens, rens, ren, if_neg (by decide), rens]
  rfl
theorem drop_x : dropP wD2 sWalk sDF = (gD1, ⟨0, 0⟩) := by
  have h1 : (checkE wD2 sWalk sDF).code = 0 := by kernel_rfl
  have h2 : changeM (dropBy sWalk sDF) wD2 = wD1 := by kernel_rfl
  have h3 : fitsM wD1 = true := by kernel_rfl
  unfold dropP
  rw [if_neg (by simp [h1]), h2]
  unfold doneF doneE
  rw [h3, if_pos rfl, if_pos rfl, canD1]
theorem twD2 : twoM 5 (predM sWalk [sDE]) (predM sDF [sDE]) = hD2 := rfl
theorem bnD2 : boundD 9 sDE hD2 = wD2 := rfl
end Go.Proofs.YtbbjghecpcobjaaDoor

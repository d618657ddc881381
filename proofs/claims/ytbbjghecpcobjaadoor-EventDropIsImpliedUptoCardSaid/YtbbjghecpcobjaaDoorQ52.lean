import Derived.Test.YtbbjghecpcobjaaDoorAT
import Derived.Test.YtbbjghecpcobjaaDoorQ51
set_option linter.unusedSimpArgs false
namespace Go.Proofs.YtbbjghecpcobjaaDoor
open Go Go.Abs Go.Proofs

section
variable {P : Program} {G : Nat → List FD}
/-- a call that makes a row of its own -/
theorem Wcall_own1 {f : FuncId} {args : List D} {xs ys : List FD} {H : Heap} {n t es : Nat} {R : D → Heap → Nat → Prop} (ha : D.toFDs args = some xs)
    (h : Wcall P G f (xs.map .fz) H0 0 (fun d H1 n1 => ∃ g, g < n1 ∧ d = .ow (t, g) es ys ∧ H1 (t, g) = some tok)) (hR : ∀ g n', n ≤ g → g < n' → R (.ow (t, g) es ys) (hpX [((t, g), some tok)] H) n') : Wcall P G f args H n R := by
  refine Wcall_fresh h.1 fun hfr => Wcall_post (Wcall_own ha h) ?_
  rintro d H' n' ⟨d1, H1, n1, ⟨g, hg, rfl, ho⟩, rfl, rfl, rfl⟩
  have hsh : shH n H H1 (t, g + n) = some tok := by
    unfold shH
    rw [if_pos (by simp), show (t, g + n - n) = (t, g) by rw [Nat.add_sub_cancel], ho]
    rfl
  refine ⟨.ow (t, g + n) es ys, hpX [((t, g + n), some tok)] H, n + n1, Weak_toH ?_ (fun id o hid => ?_) (Nat.le_refl _), hR (g + n) (n + n1) (by omega) (by omega)⟩
  · exact ⟨rfl, trivial⟩
  · simp only [hpX] at hid
    split at hid
    · rename_i e; subst e; rw [← hid]; exact hsh
    · have hlt : id.2 < n := by
        rcases Nat.lt_or_ge id.2 n with h3 | h3
        · exact h3
        · rw [hfr id h3] at hid; cases hid
      show shH n H H1 id = some o
      unfold shH
      rw [if_neg (by omega)]
      exact hid
end
/-! ## event.list and event.event -/
def tree1862 : Tv := (.q 0 (.q 1 (.q 2 (.q 3 (.q 5 (.r 6 (.q 7 (.br [(4, (.q 8 (.q 9 (.br [(10, (.q 11 .leaf))])))), (8, (.q 9 (.br [(4, (.br [(10, (.q 11 .leaf))]))])))]))))))))
def evPre (f : Abs.Form) : Prop := wfE f ∧ f.size ≤ 1000000
set_option maxRecDepth 100000 in
set_option maxHeartbeats 1000000 in
theorem f108 : ∀ (s : Nat) (f : Abs.Form), f.size ≤ s → evPre f → Wcall Tryd.prog GA 108 [.fz (.agg [.i .i64 f.kind, .s f.name.l, .sl (f.words.map enc), .sl (f.subs.map enc)])] H0 0 (fun d H n => ∃ g, g < n ∧ d = .ow (108016, g) 4 ((listM f).map enc) ∧ H (108016, g) = some tok) := by
  intro s
  induction s with
  | zero => intro f h; have := f.size_pos; omega
  | succ s ih =>
    intro f hs hpre
    rw [H0_eq]
    obtain ⟨Q, hQ⟩ : ∃ Q : D → Heap → Nat → Prop, Q = (fun d H n => (d = .full [enc f] ∧ listM f = [f] ∧ n = 1) ∨ ∃ g, g < n ∧ d = .ow (108016, g) 4 ((listM f).map enc) ∧ H (108016, g) = some tok) := ⟨_, rfl⟩
    have key : Wcall Tryd.prog GA 108 [.fz (.agg [.i .i64 f.kind, .s f.name.l, .sl (f.words.map enc), .sl (f.subs.map enc)])] (hpL []) 0 Q := by
      by_cases hk : f.kind = 5
      · obtain ⟨a, b, hab⟩ := two_of ((wfE_eq.1 hpre.1).1 hk)
        have hl := listM_and hk hab
        have hsa := Form.size_sub (f := f) (g := a) (by rw [hab]; simp)
        have iha := ih a (by omega) ⟨wfE_sub hpre.1 a (by rw [hab]; simp), by have := hpre.2; omega⟩
        have hla := (listM_len a.size a (Nat.le_refl _)).2
        have hp2 := hpre.2
        obtain ⟨la, hlae⟩ : ∃ la, listM a = la := ⟨_, rfl⟩
        rw [hlae] at iha hla hl
        have kQ := Kp.mk hQ
        have kl := Kp.mk hl
        clear hQ hl ih
        refine Wcall_K (N := 19) hm hV33 108000 (lsw [16] [1000002]) ok108 Tryd.func108 rfl rfl (by simp) (by kernel_rfl) ?_
        repeat' (first | refine rq fun _ => ?_ | refine ReqK.i (fits_of2 (by first | omega | (simp only [List.length_map, List.length_take, List.length_append, List.length_cons, List.length_nil]; omega)) (by decide)) fun _ => ?_ | simp only [go_sem, hk, hab, Tryd.f108])
        refine WK_weak2 (Weak_rpL (id := (108001, 0)) (t := 1) (b := true) (ys := [.i .i64 f.kind, .s f.name.l, .sl (f.words.map enc), .sl ([a, b].map enc)]) (by simp only [go_sem, hk, hab]) (by simp only [go_sem])) ?_
        refine WK_drawV hm hV33 108000 (lsw [16] [1000002]) tree1862 (by kernel_rfl) (by kernel_rfl) ?_
        repeat' (first | refine And.intro ?_ ?_ | exact True.intro | refine WcallK.i (Wcall_own1 rfl iha fun g m hg hgm => ?_) | refine rq fun _ => ?_ | refine ReqK.i (fits_of2 (by first | omega | (simp only [List.length_map, List.length_take, List.length_append, List.length_cons, List.length_nil]; omega)) (by decide)) fun _ => ?_ | simp only [go_sem, tree1862, hk, hab, Tryd.f108])
        all_goals
          rw [kQ.out]
          refine .inr ⟨m, by omega, ?_, ?_⟩
          · rw [kl.out]; simp only [go_sem, List.map_append]
          · simp only [go_sem]
      · have hl := listM_one (f := f) (fun h => hk h.1)
        refine Wcall_K (N := 19) hm hV33 108000 (lsw [16] [1000002]) ok108 Tryd.func108 rfl rfl (by simp) (by kernel_rfl) ?_
        repeat' (first | refine rq fun _ => ?_ | refine ReqK.i (fits_of2 (by first | omega | (simp only [List.length_map, List.length_take, List.length_append, List.length_cons, List.length_nil]; omega)) (by decide)) fun _ => ?_ | simp only [go_sem, hk, Tryd.f108])
        rw [hQ]
        refine .inl ⟨?_, hl, rfl⟩
        simp only [go_sem]
    refine Wcall_post key ?_
    rw [hQ]
    rintro d H n (⟨rfl, hl, rfl⟩ | ⟨g, hg, rfl, ho⟩)
    · refine ⟨.ow (108016, 1) 4 [enc f], hpL [((108016, 1), some tok)], 2, ?_, 1, by omega, by rw [hl]; rfl, by simp only [go_sem]⟩
      refine Weak_g [] [(108016, 1)] [] ?_ ?_ ?_ ?_ ?_ <;> simp only [go_sem]
      all_goals first | done | rfl | omega | trace_state
    · exact ⟨_, H, n, Weak_toH ⟨rfl, trivial⟩ (fun _ _ h => h) (Nat.le_refl _), g, hg, rfl, ho⟩
def V34 : Tbl := V33.add 108 (sp1 listM evPre)
attribute [go_sem] V34
theorem hV34 : TblOk Tryd.prog GA V34 := by
  refine sp1_ok ok108 hV33 fun f hpre _ => ?_
  have := f108 f.size f (Nat.le_refl _) hpre
  rw [enc_form, ← H0_eq]
  refine Wcall_mono this ?_
  rintro d H n' ⟨g, _, rfl, _⟩
  rfl

def V35 : Tbl := V34.add 66 (sp1p evM evPre)
attribute [go_sem] V35
set_option maxRecDepth 100000 in
set_option maxHeartbeats 1000000 in
theorem hV35 : TblOk Tryd.prog GA V35 := by
  refine sp1p_ok ok66 hV34 fun f hpre _ => ?_
  by_cases hk : f.kind = 9
  · obtain ⟨a, ha⟩ := one_of ((wfE_eq.1 hpre.1).2.1 hk)
    have hpa : evPre a := ⟨wfE_sub hpre.1 a (by rw [ha]; simp), by have := Form.size_sub (f := f) (g := a) (by rw [ha]; simp); have := hpre.2; omega⟩
    have hpe : partsE f = listM a := by unfold partsE; rw [ha]; rfl
    obtain ⟨x, tl, hx⟩ : ∃ x tl, listM a = x :: tl := by
      have := (listM_len a.size a (Nat.le_refl _)).1
      match h : listM a, this with
      | x :: tl, _ => exact ⟨x, tl, rfl⟩
    have hh : headE f = x := by unfold headE; rw [hpe, hx]; rfl
    obtain ⟨ok, hok⟩ : ∃ ok, okE f = ok := ⟨_, rfl⟩
    have e1 : evM f = (x :: tl, ok) := by unfold evM; rw [if_pos hk, hpe, hx, hok]
    unfold okE at hok
    rw [hh] at hok
    simp only [e1]
    by_cases c1 : x.kind = 2
    · by_cases c2 : x.words.length = 1
      · obtain ⟨w, hw⟩ : ∃ w, x.words = [w] := by
          match h : x.words, c2 with
          | [w], _ => exact ⟨w, rfl⟩
        by_cases c3 : w = f.name
        · have hb : ok = true := by rw [← hok]; simp [hk, c1, hw, c3]
          refine Wcall_K (N := 40) hm hV34 66000 (lst []) ok66 Tryd.func66 rfl rfl (by simp) (by kernel_rfl) ?_
          repeat' (first | refine ReqK.i hpa fun _ => ?_ | refine rq fun _ => ?_ | refine ReqK.i (fits_of2 (by first | omega | (simp only [List.length_map, List.length_take, List.length_append, List.length_cons, List.length_nil]; omega)) (by decide)) fun _ => ?_ | simp only [go_sem, hk, ha, hx, c1, hw, c3, hb, form_eta, Tryd.f66])
        · have hb : ok = false := by rw [← hok]; simp [hk, c1, hw, c3]
          have c3' : (w = f.name) = False := eq_false c3
          refine Wcall_K (N := 40) hm hV34 66000 (lst []) ok66 Tryd.func66 rfl rfl (by simp) (by kernel_rfl) ?_
          repeat' (first | refine ReqK.i hpa fun _ => ?_ | refine rq fun _ => ?_ | refine ReqK.i (fits_of2 (by first | omega | (simp only [List.length_map, List.length_take, List.length_append, List.length_cons, List.length_nil]; omega)) (by decide)) fun _ => ?_ | simp only [go_sem, hk, ha, hx, c1, hw, c3', hb, form_eta, Tryd.f66])
      · have hb : ok = false := by rw [← hok]; simp [hk, c1, c2]
        have c2' : ((x.words.length : Int) = 1) = False := eq_false (by omega)
        refine Wcall_K (N := 40) hm hV34 66000 (lst []) ok66 Tryd.func66 rfl rfl (by simp) (by kernel_rfl) ?_
        repeat' (first | refine ReqK.i hpa fun _ => ?_ | refine rq fun _ => ?_ | refine ReqK.i (fits_of2 (by first | omega | (simp only [List.length_map, List.length_take, List.length_append, List.length_cons, List.length_nil]; omega)) (by decide)) fun _ => ?_ | simp only [go_sem, hk, ha, hx, c1, c2', hb, form_eta, Tryd.f66])
    · have hb : ok = false := by rw [← hok]; simp [hk, c1]
      refine Wcall_K (N := 40) hm hV34 66000 (lst []) ok66 Tryd.func66 rfl rfl (by simp) (by kernel_rfl) ?_
      repeat' (first | refine ReqK.i hpa fun _ => ?_ | refine rq fun _ => ?_ | refine ReqK.i (fits_of2 (by first | omega | (simp only [List.length_map, List.length_take, List.length_append, List.length_cons, List.length_nil]; omega)) (by decide)) fun _ => ?_ | simp only [go_sem, hk, ha, hx, c1, hb, form_eta, Tryd.f66])
  · have e1 : evM f = ([], false) := by unfold evM; rw [if_neg hk]
    simp only [e1]
    refine Wcall_K (N := 40) hm hV34 66000 (lst []) ok66 Tryd.func66 rfl rfl (by simp) (by kernel_rfl) ?_
    repeat' (first | refine rq fun _ => ?_ | refine ReqK.i (fits_of2 (by first | omega | (simp only [List.length_map, List.length_take, List.length_append, List.length_cons, List.length_nil]; omega)) (by decide)) fun _ => ?_ | simp only [go_sem, hk, form_eta, Tryd.f66])
end Go.Proofs.YtbbjghecpcobjaaDoor

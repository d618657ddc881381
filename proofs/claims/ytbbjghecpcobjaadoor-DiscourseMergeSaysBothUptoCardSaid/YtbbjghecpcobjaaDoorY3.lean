/- several texts of this proof in one; no conditions -/
import Derived.Test.YtbbjghecpcobjaaDoorAT
import Derived.Test.YtbbjghecpcobjaaDoorY2
import Derived.Test.YtbbjghecpcobjaaDoorAbs45
import Derived.Test.YtbbjghecpcobjaaDoorLW
set_option linter.unusedSimpArgs false
namespace Go.Proofs.YtbbjghecpcobjaaDoor
open Go Go.Abs Go.Proofs

/-! ## marked: the document's numbering of variables -/
theorem Weak_rpX {G : Nat → List FD} {N : Nat} {l : List (Nat × D)} {hl : List (Abs.Id × Option O)} {X : Heap} {n : Nat} {id : Abs.Id} {t : Nat} {ys : List FD} {b : Bool} (ho : hpX hl X id = some ⟨ys.map .fz, b, false⟩) (hs : frL l t = .ptr id 0) :
    Weak G N ⟨frL l, hpX hl X, n⟩ ⟨frL ((t, .rp ys) :: l), hpX ((id, none) :: hl) X, n⟩ := by
  have := Weak_rpL (G := G) (N := N) (n := n) ho hs
  rw [x_upd] at this
  exact this
def HM (k ga : Nat) : List (Abs.Id × Option O) := [((55007, ga), some ⟨[.fz (.i .i64 k)], true, false⟩)]
theorem bnum_l (k : Nat) : (bnum k).l = 33 :: digits k := rfl
theorem digS_l (k : Nat) : (digS (k : Int)).l = digits k := rfl
def tree15 : Tv := (.q 0 (.q 1 (.q 3 (.q 7 (.q 8 (.q 10 (.r 4 (.q 5 (.br [(2, (.br [(6, (.br [(9, (.q 11 (.q 12 (.br [(13, (.q 14 (.q 15 .leaf)))])))), (11, (.q 12 (.br [(9, (.br [(13, (.q 14 (.q 15 .leaf)))]))])))])), (11, (.q 12 (.br [(6, (.br [(9, (.br [(13, (.q 14 (.q 15 .leaf)))]))]))])))])), (11, (.q 12 (.br [(2, (.br [(6, (.br [(9, (.br [(13, (.q 14 (.q 15 .leaf)))]))]))]))])))])))))))))
def tree19 : Tv := (.q 0 (.q 2 (.q 3 (.q 4 (.q 5 (.q 6 (.q 7 (.q 8 (.q 9 (.br [(1, (.br [(10, (.q 11 (.br [(12, (.q 13 (.br [(14, .leaf)])))])))])), (10, (.q 1 (.q 11 (.br [(12, (.q 13 (.br [(14, .leaf)])))]))))]))))))))))

set_option maxRecDepth 100000 in
set_option maxHeartbeats 1000000 in
set_option maxHeartbeats 8000000 in
theorem f103 {ga : Nat} : ∀ (s : Nat) (f : Abs.Form) (env : List Bind) (k n : Nat) (X : Heap), f.size ≤ s → (enc f).Wf → f.fit = true → ga < n → k + f.size ≤ 1000000 → env.length + f.size ≤ 1000000 →
    (∀ id o, X id = some o → id.2 < n ∧ id.1 ≠ 55007) →
    Wcall Tryd.prog GA 103 [.fz (enc f), .fz (enc (env.map (·.fr))), .fz (enc (env.map (·.to))), .ptr (55007, ga) 0] (hpX (HM k ga) X) n
      (fun d' H' n' => d' = .fz (enc (ren bg f env k).1) ∧ n ≤ n' ∧ HpOk H' (HM (ren bg f env k).2 ga) ∧ ∀ id o, X id = some o → H' id = some o) := by
  intro s
  induction s with
  | zero => intro f env k n X hs; have := f.size_pos; omega
  | succ s ih =>
    intro f env k n X hs hw hfit hga hk hel hX
    obtain ⟨Q, hQ⟩ : ∃ Q : D → Heap → Nat → Prop, Q = (fun d' H' n' => d' = .fz (enc (ren bg f env k).1) ∧ n ≤ n' ∧ HpOk H' (HM (ren bg f env k).2 ga) ∧ ∀ id o, X id = some o → H' id = some o) := ⟨_, rfl⟩
    obtain ⟨QQ, hQQ⟩ : ∃ QQ : D → Heap → Nat → Prop, QQ = (fun d' H' n' => D.val d' = some (.fz (enc (ren bg f env k).1)) ∧ n ≤ n' ∧ HpOk H' (HM (ren bg f env k).2 ga) ∧ ∀ id o, X id = some o → H' id = some o) := ⟨_, rfl⟩
    have hfin : ∀ d H m, QQ d H m → ∃ d' H' n', Weak GA 1 ⟨frL [(0, d)], H, m⟩ ⟨frL [(0, d')], H', n'⟩ ∧ Q d' H' n' := by
      rw [hQQ, hQ]
      rintro d H m ⟨h1, h2, h3, h4⟩
      exact ⟨_, H, m, Weak_val h1, rfl, h2, h3, h4⟩
    rw [← hQ]
    refine Wcall_post (Q := QQ) ?_ hfin
    clear hfin hQ
    have hX' : ∀ {l : List (Abs.Id × Option O)} (id o), X id = some o → (id.2 < n ∧ id.1 ≠ 55007 → apartL id l) → hpX l X id = some o := fun id o h1 h2 => (hpX_pass (h2 (hX id o h1))).trans h1
    obtain ⟨hwl, hsl, hfs⟩ := Form.fit_eq hfit
    have hsw : ∀ g ∈ f.subs, (enc g).Wf := fun g hg => Wf_mem (Wf_agg (by have h := hw; rw [enc_form] at h; exact h) (FD.sl (f.subs.map enc)) (by simp)) _ (List.mem_map_of_mem hg)
    have hss : ∀ g ∈ f.subs, g.size ≤ s ∧ g.fit = true := fun g hg => ⟨by have := Form.size_sub hg; omega, Form.fits_mem hfs hg⟩
    have hszs : f.size = Form.sizes f.subs + 1 := by cases f; rw [Form.size]; rfl
    have hreq := @ren_eq bg f env k
    obtain ⟨olds, holds⟩ : ∃ olds, env.map (·.fr) = olds := ⟨_, rfl⟩
    obtain ⟨news, hnews⟩ : ∃ news, env.map (·.to) = news := ⟨_, rfl⟩
    have hol : olds.length = env.length := by rw [← holds, List.length_map]
    have hnl : news.length = env.length := by rw [← hnews, List.length_map]
    have hog : ∀ p (h : p < env.length) (h2 : p < olds.length) (h3 : p < news.length), olds[p] = env[p].fr ∧ news[p] = env[p].to := fun p h h2 h3 => by subst holds hnews; simp
    rw [holds, hnews]
    have kX := Kp.mk @hX'
    have kQ := Kp.mk hQQ
    have kI := Kp.mk ih
    have kS := Kp.mk hsw
    have kZ := Kp.mk hss
    have kx := Kp.mk hX
    have kR := Kp.mk hreq
    have kO := Kp.mk holds
    have kN := Kp.mk hnews
    have kG := Kp.mk hog
    clear hX' hQQ ih hsw hss hX hfs hreq hw hfit holds hnews hog
    refine Wcall_K (N := 105) hm hR8 103000 (lsw [47, 71, 75, 78, 82, 101] [1000015, 1000019]) ok103 Tryd.func103 rfl rfl (by simp) (by kernel_rfl) ?_
    repeat' (first | refine rq fun _ => ?_ | refine ReqK.i (fits_of2 (by first | omega | (simp only [List.length_map, List.length_append, List.length_cons, List.length_nil]; omega)) (by decide)) fun _ => ?_ | refine rq fun _ => ?_ | refine ReqK.i ⟨by omega, by omega⟩ fun _ => ?_ | simp only [go_sem, HM, Tryd.f103])
    refine WK_loop hm hR8 103000 (lsw [47, 71, 75, 78, 82, 101] [1000015, 1000019]) (ι := LoopX f.words.length (n + 5) n)
      ⟨fun q => ⟨frL [(1, .fz (.sl (olds.map enc))), (2, .fz (.sl (news.map enc))), (3, .ptr (55007, ga) 0), (4, .rp [.i .i64 f.kind, .s f.name.l, .sl (f.words.map enc), .sl (f.subs.map enc)]), (8, .ptr (103008, n + 1) 0), (9, .ptr (103009, n + 1 + 1) 0),
          (20, .fz (.sl (f.words.map enc))), (21, .fz (.i .i64 f.words.length)), (22, .fz (.i .i64 q.i))],
        hpX ([((103008, n + 1), some ⟨[.fz (.i .i64 0), .fz (.s []), .full [], .full []], true, false⟩),
          ((103009, n + 1 + 1), some ⟨[.fz (.i .i64 f.kind), .fz (.s f.name.l), .ow (103047, q.g) 1 (((f.words.take q.i).map (lkp env)).map enc), .ow (103101, n + 1 + 1 + 1) 4 ([])], true, false⟩),
          ((103047, q.g), some tok), ((103101, n + 1 + 1 + 1), some tok)] ++ HM k ga) X, q.m⟩, fun q => f.words.length - q.i⟩
      ⟨0, n + 1 + 1 + 1 + 1, n + 1 + 1 + 1 + 1 + 1, by omega, by omega, by omega, by omega⟩ (by kernel_rfl) ?_ ?_
    · refine Weak_then (Weak_rpX (id := (103004, n)) (t := 4) (b := true) (ys := [.i .i64 f.kind, .s f.name.l, .sl (f.words.map enc), .sl (f.subs.map enc)]) (by simp only [go_sem]; try rfl) (by simp only [go_sem])) ?_
      refine Weak_then (Weak_newvX 103101) (Weak_then (Weak_newvX 103047) (Weak_then (Weak_cellX (id := (103009, n + 1 + 1)) (id2 := (103047, n + 1 + 1 + 1 + 1)) (es := 1) (k := 2) (xs := []) (b := true) (by simp only [go_sem]; rfl) (by simp) (by rfl) (by simp only; omega))
        (Weak_then (Weak_cellX (id := (103009, n + 1 + 1)) (id2 := (103101, n + 1 + 1 + 1)) (es := 4) (k := 3) (xs := []) (b := true) (by simp only [go_sem]; rfl) (by simp) (by rfl) (by simp only; omega)) ?_)))
      refine Weak_toX ?_ ?_ (fun id o ho => ?_) ?_
      · simp only [go_sem]
      · simp only [go_sem, HM]
      · refine kX.out id o ho fun h1 => ?_
        ((repeat' (first | exact trivial | apply And.intro)) <;> (rintro rfl; simp only at h1; omega))
      · simp only [go_sem]
    rintro ⟨i, g1, m1, hi, hg1, hm1, hgl⟩
    try simp only at hi hg1 hm1 hgl
    rcases Nat.lt_or_ge i f.words.length with h1 | h1
    · obtain ⟨w, hwi⟩ : ∃ w, f.words[i] = w := ⟨_, rfl⟩
      have e3 := List.take_succ_eq_append_getElem h1
      rw [hwi] at e3
      have e4 : ((f.words.take (i + 1)).map (lkp env)) = ((f.words.take i).map (lkp env)) ++ [lkp env w] := by rw [e3, List.map_append]; rfl
      have e5 : ((f.words.take i).map (lkp env)).length = i := by rw [List.length_map, List.length_take]; omega
      obtain ⟨ws, hws⟩ : ∃ ws, (f.words.take i).map (lkp env) = ws := ⟨_, rfl⟩
      rw [hws] at e4 e5
      obtain ⟨v, hv⟩ : ∃ v, lkp env w = v := ⟨_, rfl⟩
      rw [hv] at e4
      have k4 := Kp.mk e4
      clear e4 e3
      repeat' (first | refine rq fun _ => ?_ | refine ReqK.i (fits_of2 (by first | omega | (simp only [List.length_map, List.length_append, List.length_cons, List.length_nil]; omega)) (by decide)) fun _ => ?_ | refine rq fun _ => ?_ | refine ReqK.i ⟨by omega, by omega⟩ fun _ => ?_ | simp only [go_sem, HM, h1, hwi, hws, str_eta, getD_map_lt, Tryd.f103])
      refine WK_loop hm hR8 103000 (lsw [47, 71, 75, 78, 82, 101] [1000015, 1000019]) (ι := LookI env w)
        ⟨fun q => ⟨frL [(1, .fz (.sl (olds.map enc))), (2, .fz (.sl (news.map enc))), (3, .ptr (55007, ga) 0), (4, .rp [.i .i64 f.kind, .s f.name.l, .sl (f.words.map enc), .sl (f.subs.map enc)]), (8, .ptr (103008, n + 1) 0), (9, .ptr (103009, n + 1 + 1) 0),
            (11, .fz (.s w.l)), (12, .fz (.i .i64 (idxV q.p))), (20, .fz (.sl (f.words.map enc))), (21, .fz (.i .i64 f.words.length)), (22, .fz (.i .i64 i))],
          hpX ([((103008, n + 1), some ⟨[.fz (.i .i64 0), .fz (.s []), .full [], .full []], true, false⟩),
            ((103009, n + 1 + 1), some ⟨[.fz (.i .i64 f.kind), .fz (.s f.name.l), .ow (103047, g1) 1 (ws.map enc), .ow (103101, n + 1 + 1 + 1) 4 ([])], true, false⟩),
            ((103047, g1), some tok), ((103101, n + 1 + 1 + 1), some tok)] ++ HM k ga) X, m1⟩, fun q => q.p⟩
        ⟨env.length, Nat.le_refl _, rfl⟩ (by kernel_rfl) ?_ ?_
      · refine Weak_toX ?_ ?_ (fun id o ho => ?_) ?_
        · simp only [go_sem, idxV, hol]
        · simp only [go_sem, HM]
        · refine kX.out id o ho fun h1 => ?_
          ((repeat' (first | exact trivial | apply And.intro)) <;> (rintro rfl; simp only at h1; omega))
        · simp only [go_sem]
      rintro ⟨p, hp, hl⟩
      try simp only at hp hl
      cases p with
      | zero =>
        have hvw : v = w := by rw [← hv, hl, lkpN]
        repeat' (first | refine rq fun _ => ?_ | refine ReqK.i (fits_of2 (by first | omega | (simp only [List.length_map, List.length_append, List.length_cons, List.length_nil]; omega)) (by decide)) fun _ => ?_ | refine rq fun _ => ?_ | refine ReqK.i ⟨by omega, by omega⟩ fun _ => ?_ | simp only [go_sem, HM, h1, hwi, idxV_zero, Tryd.f103])
        refine ⟨⟨i + 1, m1, m1 + 1, by omega, by omega, by omega, by omega⟩, by simp only; omega, ?_⟩
        refine Weak_toX ?_ ?_ (fun id o ho => ?_) ?_
        · simp only [go_sem]
        · simp only [go_sem, HM, k4.out, List.map_append, hvw]
        · refine kX.out id o ho fun h1 => ?_
          ((repeat' (first | exact trivial | apply And.intro)) <;> (rintro rfl; simp only at h1; omega))
        · simp only [go_sem]
      | succ p =>
        rw [lkpN] at hl
        have hpg : env.getD p default = env[p] := by rw [List.getD_eq_getElem?_getD, List.getElem?_eq_getElem (by omega), Option.getD_some]
        rw [hpg] at hl
        have hpo : p < olds.length := by omega
        have hpn : p < news.length := by omega
        obtain ⟨hg1', hg2'⟩ := kG.out p (by omega) hpo hpn
        rw [← hg1', ← hg2'] at hl
        obtain ⟨a, ha⟩ : ∃ a, olds[p] = a := ⟨_, rfl⟩
        obtain ⟨b, hb⟩ : ∃ b, news[p] = b := ⟨_, rfl⟩
        rw [ha, hb] at hl
        clear hg1' hg2' hpg
        by_cases he : a = w
        · rw [if_pos he, hv] at hl
          have he' : a.l = w.l := by rw [he]
          repeat' (first | refine rq fun _ => ?_ | refine ReqK.i (fits_of2 (by first | omega | (simp only [List.length_map, List.length_append, List.length_cons, List.length_nil]; omega)) (by decide)) fun _ => ?_ | refine rq fun _ => ?_ | refine ReqK.i ⟨by omega, by omega⟩ fun _ => ?_ | simp only [go_sem, HM, h1, hpo, hpn, ha, hb, he', hwi, idxV_succ, getD_map_lt, Tryd.f103])
          refine ⟨⟨i + 1, m1, m1 + 1, by omega, by omega, by omega, by omega⟩, by simp only; omega, ?_⟩
          refine Weak_toX ?_ ?_ (fun id o ho => ?_) ?_
          · simp only [go_sem]
          · simp only [go_sem, HM, k4.out, List.map_append, hl]
          · refine kX.out id o ho fun h1 => ?_
            ((repeat' (first | exact trivial | apply And.intro)) <;> (rintro rfl; simp only at h1; omega))
          · simp only [go_sem]
        · rw [if_neg he] at hl
          have he' : ¬ a.l = w.l := fun e => he (by cases a; cases w; simp only at e; rw [e])
          repeat' (first | refine rq fun _ => ?_ | refine ReqK.i (fits_of2 (by first | omega | (simp only [List.length_map, List.length_append, List.length_cons, List.length_nil]; omega)) (by decide)) fun _ => ?_ | refine rq fun _ => ?_ | refine ReqK.i ⟨by omega, by omega⟩ fun _ => ?_ | simp only [go_sem, HM, h1, hpo, hpn, ha, hb, he', hwi, idxV_succ, getD_map_lt, Tryd.f103])
          refine ⟨⟨p, by omega, hl⟩, by simp only; omega, ?_⟩
          refine Weak_toX ?_ ?_ (fun id o ho => ?_) ?_
          · simp only [go_sem, idxV]
          · simp only [go_sem, HM]
          · refine kX.out id o ho fun h1 => ?_
            ((repeat' (first | exact trivial | apply And.intro)) <;> (rintro rfl; simp only at h1; omega))
          · simp only [go_sem]
    · obtain rfl : i = f.words.length := by omega
      obtain ⟨wl, hwl2⟩ : ∃ wl, f.words.map (lkp env) = wl := ⟨_, rfl⟩
      have hres : ∃ (env2 : List Bind) (nm2 : Str) (k2 : Nat), ren bg f env k = (.mk f.kind nm2 wl (rens bg f.subs env2 k2).1, (rens bg f.subs env2 k2).2) ∧ k2 ≤ k + 1 ∧ env2.length ≤ env.length + 1 ∧
          (isQ f.kind → env2 = env ++ [⟨f.name, bnum k⟩] ∧ nm2 = bnum k ∧ k2 = k + 1) ∧ (¬ isQ f.kind → env2 = env ∧ nm2 = f.name ∧ k2 = k) := by
        rw [kR.out]
        by_cases hq : isQ f.kind
        · exact ⟨_, _, _, by rw [if_pos hq, hwl2]; rfl, by omega, by simp, fun _ => ⟨rfl, rfl, rfl⟩, fun h => absurd hq h⟩
        · exact ⟨_, _, _, by rw [if_neg hq, hwl2], by omega, by simp, fun h => absurd h hq, fun _ => ⟨rfl, rfl, rfl⟩⟩
      obtain ⟨env2, nm2, k2, hres, hk2, hel2, hq1, hq2⟩ := hres
      have kW := Kp.mk hres
      have kq1 := Kp.mk hq1
      have kq2 := Kp.mk hq2
      clear hres hq1 hq2
      obtain ⟨A, hA⟩ : ∃ A : Nat → List Abs.Form, A = fun j => (rens bg (f.subs.take j) env2 k2).1 := ⟨_, rfl⟩
      obtain ⟨K, hK⟩ : ∃ K : Nat → Nat, K = fun j => (rens bg (f.subs.take j) env2 k2).2 := ⟨_, rfl⟩
      have hA0 : A 0 = [] := by rw [hA]; simp [rens]
      have hK0 : K 0 = k2 := by rw [hK]; simp [rens]
      have hAs : ∀ j (h : j < f.subs.length), A (j + 1) = A j ++ [(ren bg f.subs[j] env2 (K j)).1] ∧ K (j + 1) = (ren bg f.subs[j] env2 (K j)).2 := fun j h => by
        rw [hA, hK]; simp only [List.take_succ_eq_append_getElem h, rens_app, rens]; constructor <;> first | rfl | trivial
      have hAl : ∀ j, (A j).length ≤ j := fun j => by rw [hA]; simp only [rens_len, List.length_take]; omega
      have hKb : ∀ j (h : j < f.subs.length), K j + f.subs[j].size ≤ 1000000 := fun j h => by
        have h6 := ((ren_le bg_le).2 (f.subs.take j) env2 k2).2
        have h7 := sizes_take h
        rw [hK]; simp only; omega
      have hAe : A f.subs.length = (rens bg f.subs env2 k2).1 ∧ K f.subs.length = (rens bg f.subs env2 k2).2 := by rw [hA, hK]; simp only [List.take_length]; first | trivial | (constructor <;> first | rfl | trivial)
      obtain ⟨olds2, ho2⟩ : ∃ olds2, env2.map (·.fr) = olds2 := ⟨_, rfl⟩
      obtain ⟨news2, hn2⟩ : ∃ news2, env2.map (·.to) = news2 := ⟨_, rfl⟩
      have kA := Kp.mk hAs
      have kB := Kp.mk hAl
      have kC := Kp.mk hKb
      have kE := Kp.mk hAe
      have ko2 := Kp.mk ho2
      have kn2 := Kp.mk hn2
      clear hAs hAl hKb hAe hA hK ho2 hn2
      by_cases hq : isQ f.kind
      case' pos =>
        obtain ⟨q1, q2, q3⟩ := kq1.out hq
        have hdl := digits_len k
        unfold isQ at hq
        have o2 : olds2 = olds ++ [f.name] := by rw [← ko2.out, q1, List.map_append, kO.out]; rfl
        have n2 : news2 = news ++ [bnum k] := by rw [← kn2.out, q1, List.map_append, kN.out]; rfl
        have hq8 : ((f.kind = 8) = True ∧ (f.kind = 8) = True) ∨ ((f.kind = 8) = False ∧ (f.kind = 9) = True) := by
          rcases hq with h | h
          · exact .inl ⟨eq_true h, eq_true h⟩
          · exact .inr ⟨eq_false (by omega), eq_true h⟩
        rcases hq8 with ⟨h8, h9⟩ | ⟨h8, h9⟩
        all_goals
          repeat' (first | refine rq fun _ => ?_ | refine ReqK.i (fits_of2 (by first | omega | (simp only [List.length_map, List.length_append, List.length_cons, List.length_nil]; omega)) (by decide)) fun _ => ?_ | refine rq fun _ => ?_ | refine ReqK.i ⟨by omega, by omega⟩ fun _ => ?_ | simp only [go_sem, HM, h8, h9, Nat.lt_irrefl, List.take_length, hwl2, str_eta, digS_l, Tryd.f103])
          refine WK_join (ι := Unit) (fun _ => ⟨frL [(1, .fz (.sl (olds2.map enc))), (2, .fz (.sl (news2.map enc))), (3, .ptr (55007, ga) 0), (4, .rp [.i .i64 f.kind, .s f.name.l, .sl (f.words.map enc), .sl (f.subs.map enc)]), (8, .ptr (103008, n + 1) 0), (9, .ptr (103009, n + 1 + 1) 0)],
              hpX ([((103008, n + 1), some ⟨[.fz (.i .i64 0), .fz (.s []), .full [], .full []], true, false⟩),
                ((103009, n + 1 + 1), some ⟨[.fz (.i .i64 f.kind), .fz (.s nm2.l), .ow (103047, g1) 1 (wl.map enc), .ow (103101, n + 1 + 1 + 1) 4 ([])], true, false⟩),
                ((103101, n + 1 + 1 + 1), some tok)] ++ HM k2 ga) X, m1 + 100⟩) (fun _ => ?_) ?_
          rotate_left
          · refine WK_drawV hm hR8 103000 (lsw [47, 71, 75, 78, 82, 101] [1000015, 1000019]) tree15 (by kernel_rfl) (by kernel_rfl) ?_
            repeat' (first | refine And.intro ?_ ?_ | exact True.intro | refine rq fun _ => ?_ | refine ReqK.i (fits_of2 (by first | omega | (simp only [List.length_map, List.length_append, List.length_cons, List.length_nil]; omega)) (by decide)) fun _ => ?_ | refine rq fun _ => ?_ | refine ReqK.i ⟨by omega, by omega⟩ fun _ => ?_ | simp only [go_sem, HM, tree15, digS_l, Tryd.f103])
            all_goals
              refine ⟨(), ?_⟩
              refine Weak_then (Weak_toV (l := [(1, .fz (.sl (olds2.map enc))), (2, .fz (.sl (news2.map enc))), (3, .ptr (55007, ga) 0), (4, .rp [.i .i64 f.kind, .s f.name.l, .sl (f.words.map enc), .sl (f.subs.map enc)]), (8, .ptr (103008, n + 1) 0), (9, .ptr (103009, n + 1 + 1) 0)]) (by simp only [go_sem, o2, n2, bnum_l, List.map_append])) ?_
              refine Weak_toX ?_ ?_ (fun id o ho => ?_) ?_
              · simp only [go_sem]
              · simp only [go_sem, HM, q2, q3, bnum_l]
              · refine kX.out id o ho fun h1 => ?_
                ((repeat' (first | exact trivial | apply And.intro)) <;> (rintro rfl; simp only at h1; omega))
              · (try simp only [go_sem]); omega
          repeat' (first | refine rq fun _ => ?_ | refine ReqK.i (fits_of2 (by first | omega | (simp only [List.length_map, List.length_append, List.length_cons, List.length_nil]; omega)) (by decide)) fun _ => ?_ | refine rq fun _ => ?_ | refine ReqK.i ⟨by omega, by omega⟩ fun _ => ?_ | simp only [go_sem, HM, str_eta, Tryd.f103])
      case' neg =>
        obtain ⟨q1, q2, q3⟩ := kq2.out hq
        unfold isQ at hq
        have o2 : olds2 = olds := by rw [← ko2.out, q1, kO.out]
        have n2 : news2 = news := by rw [← kn2.out, q1, kN.out]
        have h8 : (f.kind = 8) = False := eq_false fun h => hq (.inl h)
        have h9 : (f.kind = 9) = False := eq_false fun h => hq (.inr h)
        repeat' (first | refine rq fun _ => ?_ | refine ReqK.i (fits_of2 (by first | omega | (simp only [List.length_map, List.length_append, List.length_cons, List.length_nil]; omega)) (by decide)) fun _ => ?_ | refine rq fun _ => ?_ | refine ReqK.i ⟨by omega, by omega⟩ fun _ => ?_ | simp only [go_sem, HM, h8, h9, Nat.lt_irrefl, List.take_length, hwl2, str_eta, Tryd.f103])
      all_goals
        refine WK_loop hm hR8 103000 (lsw [47, 71, 75, 78, 82, 101] [1000015, 1000019]) (ι := LoopX f.subs.length (n + 5) n)
          ⟨fun q => ⟨frL [(1, .fz (.sl (olds2.map enc))), (2, .fz (.sl (news2.map enc))), (3, .ptr (55007, ga) 0), (4, .rp [.i .i64 f.kind, .s f.name.l, .sl (f.words.map enc), .sl (f.subs.map enc)]), (8, .ptr (103008, n + 1) 0), (9, .ptr (103009, n + 1 + 1) 0), (85, .fz (.i .i64 f.subs.length)), (86, .fz (.i .i64 q.i))],
            hpX ([((103008, n + 1), some ⟨[.fz (.i .i64 0), .fz (.s []), .full [], .full []], true, false⟩),
              ((103009, n + 1 + 1), some ⟨[.fz (.i .i64 f.kind), .fz (.s nm2.l), .ow (103047, g1) 1 (wl.map enc), .ow (103101, q.g) 4 ((A q.i).map enc)], true, false⟩),
              ((103101, q.g), some tok)] ++ HM (K q.i) ga) X, q.m⟩, fun q => f.subs.length - q.i⟩
          ⟨0, n + 1 + 1 + 1, m1 + 100, by omega, by omega, by omega, by omega⟩ (by kernel_rfl) ?_ ?_
        · refine Weak_toX ?_ ?_ (fun id o ho => ?_) ?_
          · simp only [go_sem, o2, n2]
          · simp only [go_sem, HM, hA0, hK0, q2, q3]
          · refine kX.out id o ho fun h1 => ?_
            ((repeat' (first | exact trivial | apply And.intro)) <;> (rintro rfl; simp only at h1; omega))
          · (try simp only [go_sem]); (try omega)
        rintro ⟨j, g2, m2, hj, hg2, hm2, hgl2⟩
        try simp only at hj hg2 hm2 hgl2
        rcases Nat.lt_or_ge j f.subs.length with h2 | h2
        · have hmem := List.getElem_mem h2
          obtain ⟨x, hx⟩ : ∃ x, f.subs[j] = x := ⟨_, rfl⟩
          have hz := kZ.out _ hmem
          have hwx := kS.out _ hmem
          have hAj := kA.out j h2
          have hKj := kC.out j h2
          have hAlj := kB.out j
          rw [hx] at hz hwx hAj hKj
          obtain ⟨y, hy⟩ : ∃ y, (ren bg x env2 (K j)).1 = y := ⟨_, rfl⟩
          obtain ⟨kj, hkj⟩ : ∃ kj, (ren bg x env2 (K j)).2 = kj := ⟨_, rfl⟩
          rw [hy, hkj] at hAj
          have hlx := Form.size_mem (l := f.subs) hmem
          rw [hx] at hlx
          have ih2 : ∀ (m3 : Nat), m2 ≤ m3 → _ := fun m3 hm3 => kI.out x env2 (K j) m3 (hpX [((103008, n + 1), some ⟨[.fz (.i .i64 0), .fz (.s []), .full [], .full []], true, false⟩),
              ((103009, n + 1 + 1), some ⟨[.fz (.i .i64 f.kind), .fz (.s nm2.l), .ow (103047, g1) 1 (wl.map enc), .ow (103101, g2) 4 ((A j).map enc)], true, false⟩), ((103101, g2), some tok)] X) hz.1 hwx hz.2 (by omega) (by omega) (by omega) (by
            intro id o ho
            simp only [hpX] at ho
            split at ho
            · rename_i e; subst e; simp only; omega
            split at ho
            · rename_i e; subst e; simp only; omega
            split at ho
            · rename_i e; subst e; simp only; omega
            · have := kx.out id o ho; omega)
          simp only [hy, hkj] at ih2
          rw [enc_form (f := x), ko2.out, kn2.out] at ih2
          obtain ⟨fy, hfy⟩ : ∃ fy, enc y = fy := ⟨_, rfl⟩
          have hcy : fy.cells.length = 4 := by rw [← hfy, enc_form]; rfl
          have hff : (flatFz [fy]).all oneB = true := by rw [← hfy]; have h9 := @flats_forms [y]; exact eq_true h9 ▸ h9
          repeat' (first | refine rq fun _ => ?_ | refine ReqK.i (fits_of2 (by first | omega | (simp only [List.length_map, List.length_append, List.length_cons, List.length_nil]; omega)) (by decide)) fun _ => ?_ | refine rq fun _ => ?_ | refine ReqK.i ⟨by omega, by omega⟩ fun _ => ?_ | simp only [go_sem, HM, h2, hx, getD_map_lt, Tryd.f103])
          refine WK_drawV hm hR8 103000 (lsw [47, 71, 75, 78, 82, 101] [1000015, 1000019]) tree19 (by kernel_rfl) (by kernel_rfl) ?_
          repeat' (first | refine And.intro ?_ ?_ | exact True.intro | refine rq fun _ => ?_ | refine ReqK.i (fits_of2 (by first | omega | (simp only [List.length_map, List.length_append, List.length_cons, List.length_nil]; omega)) (by decide)) fun _ => ?_ | refine rq fun _ => ?_ | refine ReqK.i ⟨by omega, by omega⟩ fun _ => ?_ | simp only [go_sem, HM, tree19, h2, hx, getD_map_lt, Tryd.f103])
          all_goals
            refine WcallK.i (Wcall_toX (by simp only [go_sem, argL]) (by simp only [go_sem, HM]) (fun id o ho => ?_) (Nat.le_refl _) (Wcall_mono (ih2 _ (by omega)) ?_))
            · simp only [hpX] at ho
              split at ho
              · rename_i e; subst e; simp only [go_sem]; exact Option.some.inj ho
              split at ho
              · rename_i e; subst e; simp only [go_sem]; exact Option.some.inj ho
              split at ho
              · rename_i e; subst e; simp only [go_sem]; exact Option.some.inj ho
              · refine kX.out id o ho fun h1 => ?_
                ((repeat' (first | exact trivial | apply And.intro)) <;> (rintro rfl; simp only at h1; omega))
            rintro d' H' n' ⟨rfl, e1, e2, e3⟩
            have c6 := e3 (103008, n + 1) ⟨[.fz (.i .i64 0), .fz (.s []), .full [], .full []], true, false⟩ (by simp only [go_sem])
            have c7 := e3 (103009, n + 1 + 1) ⟨[.fz (.i .i64 f.kind), .fz (.s nm2.l), .ow (103047, g1) 1 (wl.map enc), .ow (103101, g2) 4 ((A j).map enc)], true, false⟩ (by simp only [go_sem])
            have c8 := e3 (103101, g2) tok (by simp only [go_sem])
            have hX2 : ∀ id o, X id = some o → H' id = some o := fun id o ho => e3 id o (kX.out id o ho fun h1 => by
              ((repeat' (first | exact trivial | apply And.intro)) <;> (rintro rfl; simp only at h1; omega)))
            clear e3
            simp only [go_sem, HM] at e2
            have c1 := e2
            rw [show H' = hpX [] H' from rfl]
            rw [hfy]
            repeat' (first | refine rq fun _ => ?_ | refine ReqK.i (fits_of2 (by first | omega | (simp only [List.length_map, List.length_append, List.length_cons, List.length_nil]; omega)) (by decide)) fun _ => ?_ | refine rq fun _ => ?_ | refine ReqK.i ⟨by omega, by omega⟩ fun _ => ?_ | simp only [go_sem, HM, tree19, c1, c6, c7, c8, h2, hcy, hff, Tryd.f103])
            refine ⟨⟨j + 1, n', n' + 1, by omega, by omega, by omega, by omega⟩, by simp only; omega, ?_⟩
            refine Weak_toX ?_ ?_ (fun id o ho => ?_) ?_
            · simp only [go_sem]
            · simp only [go_sem, HM, c1, c6, c7, c8, hAj.1, hAj.2, hfy, List.map_append]
            · have h1 := kx.out id o ho
              refine (hpX_pass ?_).trans (hX2 id o ho)
              ((repeat' (first | exact trivial | apply And.intro)) <;> (rintro rfl; simp only at h1; omega))
            · simp only [go_sem]
        · obtain rfl : j = f.subs.length := by omega
          have hE := kE.out
          repeat' (first | refine rq fun _ => ?_ | refine ReqK.i (fits_of2 (by first | omega | (simp only [List.length_map, List.length_append, List.length_cons, List.length_nil]; omega)) (by decide)) fun _ => ?_ | refine rq fun _ => ?_ | refine ReqK.i ⟨by omega, by omega⟩ fun _ => ?_ | simp only [go_sem, HM, Nat.lt_irrefl, Tryd.f103])
          rw [kQ.out, kW.out]
          refine ⟨?_, by omega, ?_, fun id o ho => kX.out id o ho fun h1 => ?_⟩
          · rw [← hE.1]; simp only [go_sem]
          · rw [← hE.2]; simp only [go_sem, HM]
          · ((repeat' (first | exact trivial | apply And.intro)) <;> (rintro rfl; simp only at h1; omega))
end Go.Proofs.YtbbjghecpcobjaaDoor

namespace Go.Abs
open Go
theorem swp_eq {fr to : List Str} {f : Abs.Form} : swp fr to f = .mk f.kind (if isQ f.kind then swapW fr to f.name else f.name) (f.words.map (swapW fr to)) (f.subs.map (swp fr to)) := by cases f; rw [swp, swps_map]; rfl
theorem swapW_hit {fr to : List Str} {w : Str} {i : Nat} (h1 : i < fr.length) (h2 : i < to.length) (he : fr[i] = w) : swapW (fr.drop i) (to.drop i) w = to[i] := by
  rw [List.drop_eq_getElem_cons h1, List.drop_eq_getElem_cons h2]; unfold swapW; rw [if_pos he]
theorem swapW_miss {fr to : List Str} {w : Str} {i : Nat} (h1 : i < fr.length) (h2 : i < to.length) (he : ¬ fr[i] = w) : swapW (fr.drop i) (to.drop i) w = swapW (fr.drop (i + 1)) (to.drop (i + 1)) w := by
  rw [List.drop_eq_getElem_cons h1, List.drop_eq_getElem_cons h2]; conv => lhs; unfold swapW
  rw [if_neg he]
theorem swapW_end {fr to : List Str} {w : Str} {i : Nat} (h : fr.length ≤ i) : swapW (fr.drop i) (to.drop i) w = w := by
  rw [List.drop_of_length_le h]; unfold swapW; rfl
end Go.Abs
namespace Go.Proofs.YtbbjghecpcobjaaDoor
open Go Go.Abs Go.Proofs

/-! ## Swapped -/
def tree17s : Tv := (.q 0 (.q 1 (.q 2 (.q 3 (.q 4 (.q 5 (.q 6 .leaf)))))))
def tree23s : Tv := (.q 0 (.q 1 (.q 2 (.q 3 (.q 4 (.q 5 (.q 6 (.q 7 (.q 8 (.q 9 (.q 10 (.br [(11, (.q 12 (.br [(13, .leaf)])))]))))))))))))
def swpPre (f : Abs.Form) (fr to : List Str) : Prop := f.fit = true ∧ fr.length = to.length
def R9 : Tbl := R8.add 105 (sp3 (fun f fr to => swp fr to f) swpPre)
attribute [go_sem] R9
set_option maxRecDepth 100000 in
set_option maxHeartbeats 1000000 in
set_option maxHeartbeats 8000000 in
theorem hR9 : TblOk Tryd.prog GA R9 := by
  refine sp3_rec Form.size ok105 hR8 fun n hT f fr to hn hpre hw hwf hwt => ?_
  obtain ⟨hfit, hlen⟩ := hpre
  have la := Wf_sl hwf
  simp only [List.length_map, maxL] at la
  obtain ⟨hwl, hsl, hfs⟩ := Form.fit_eq hfit
  have hsz : ∀ g ∈ f.subs, g.size < n ∧ swpPre g fr to := fun g hg => ⟨by have := Form.size_sub hg; omega, Form.fits_mem hfs hg, hlen⟩
  obtain ⟨nm2, hnm2⟩ : ∃ nm2, (if isQ f.kind then swapW fr to f.name else f.name) = nm2 := ⟨_, rfl⟩
  obtain ⟨wl, hwl2⟩ : ∃ wl, f.words.map (swapW fr to) = wl := ⟨_, rfl⟩
  obtain ⟨A, hA⟩ : ∃ A : Nat → List Abs.Form, A = fun j => (f.subs.take j).map (swp fr to) := ⟨_, rfl⟩
  have hA0 : A 0 = [] := by rw [hA]; rfl
  have hAs : ∀ j (h : j < f.subs.length), A (j + 1) = A j ++ [swp fr to f.subs[j]] := fun j h => by rw [hA]; simp only [List.take_succ_eq_append_getElem h, List.map_append, List.map_cons, List.map_nil]
  have hAl : ∀ j, (A j).length ≤ f.subs.length := fun j => by rw [hA]; simp only [List.length_map, List.length_take]; omega
  have hres : swp fr to f = .mk f.kind nm2 wl (A f.subs.length) := by rw [swp_eq, hnm2, hwl2, hA]; simp only [List.take_length]
  rw [hres]
  have kT := Kp.mk hT
  have kz := Kp.mk hsz
  have kn := Kp.mk hnm2
  have kA := Kp.mk hAs
  have kL := Kp.mk hAl
  clear hT hsz hnm2 hAs hAl hA hres hw hwf hwt hfit hfs hn
  refine Wcall_K (N := 95) hm kT.out 105000 (lsw [45, 91] [1000017, 1000023]) ok105 Tryd.func105 rfl rfl (by simp) (by kernel_rfl) ?_
  repeat' (first | refine rq fun _ => ?_ | refine ReqK.i (fits_of2 (by first | omega | (simp only [List.length_map, List.length_append, List.length_cons, List.length_nil]; omega)) (by decide)) fun _ => ?_ | refine rq fun _ => ?_ | simp only [go_sem, Tryd.f105])
  refine WK_weak2 (Weak_rpL (id := (105003, 0)) (t := 3) (b := true) (ys := [.i .i64 f.kind, .s f.name.l, .sl (f.words.map enc), .sl (f.subs.map enc)]) (by simp only [go_sem]) (by simp only [go_sem])) ?_
  refine WK_loop hm kT.out 105000 (lsw [45, 91] [1000017, 1000023]) (ι := LoopG f.words.length 5 fun _ => True)
    ⟨fun q => ⟨frL [(1, .fz (.sl (fr.map enc))), (2, .fz (.sl (to.map enc))), (3, .rp [.i .i64 f.kind, .s f.name.l, .sl (f.words.map enc), .sl (f.subs.map enc)]), (6, .ptr (105006, 1) 0), (7, .ptr (105007, 2) 0), (19, .fz (.sl (f.words.map enc))), (20, .fz (.i .i64 f.words.length)), (21, .fz (.i .i64 q.i))],
      hpL [((105006, 1), some ⟨[.fz (.i .i64 0), .fz (.s []), .full [], .full []], true, false⟩), ((105007, 2), some ⟨[.fz (.i .i64 f.kind), .fz (.s f.name.l), .ow (105045, q.g) 1 (((f.words.take q.i).map (swapW fr to)).map enc), .ow (105091, 3) 4 ([])], true, false⟩), ((105045, q.g), some tok), ((105091, 3), some tok)], q.m⟩, fun q => f.words.length - q.i⟩
    ⟨0, 4, 5, by omega, by omega, by omega, trivial⟩ (by kernel_rfl) ?_ ?_
  · refine Weak_g [] [(105091, 3), (105045, 4)] [] ?_ ?_ ?_ ?_ ?_ <;> simp only [go_sem]
    all_goals first | done | rfl | trace_state
  rintro ⟨i, g1, m1, hi, hg1, hm1, _⟩
  try simp only at hi hg1 hm1
  rcases Nat.lt_or_ge i f.words.length with h1 | h1
  · obtain ⟨w, hwi⟩ : ∃ w, f.words[i] = w := ⟨_, rfl⟩
    have e4 : ((f.words.take (i + 1)).map (swapW fr to)) = ((f.words.take i).map (swapW fr to)) ++ [swapW fr to w] := by rw [List.take_succ_eq_append_getElem h1, hwi, List.map_append]; rfl
    have e5 : ((f.words.take i).map (swapW fr to)).length = i := by rw [List.length_map, List.length_take]; omega
    obtain ⟨ws, hws⟩ : ∃ ws, (f.words.take i).map (swapW fr to) = ws := ⟨_, rfl⟩
    rw [hws] at e4 e5
    obtain ⟨v, hv⟩ : ∃ v, swapW fr to w = v := ⟨_, rfl⟩
    rw [hv] at e4
    repeat' (first | refine rq fun _ => ?_ | refine ReqK.i (fits_of2 (by first | omega | (simp only [List.length_map, List.length_append, List.length_cons, List.length_nil]; omega)) (by decide)) fun _ => ?_ | refine rq fun _ => ?_ | simp only [go_sem, h1, hwi, hws, str_eta, getD_map_lt, Tryd.f105])
    refine WK_loop hm kT.out 105000 (lsw [45, 91] [1000017, 1000023]) (ι := LoopI fr.length fun p => v = swapW (fr.drop p) (to.drop p) w)
      ⟨fun q => ⟨frL [(1, .fz (.sl (fr.map enc))), (2, .fz (.sl (to.map enc))), (3, .rp [.i .i64 f.kind, .s f.name.l, .sl (f.words.map enc), .sl (f.subs.map enc)]), (6, .ptr (105006, 1) 0), (7, .ptr (105007, 2) 0), (9, .fz (.s w.l)), (19, .fz (.sl (f.words.map enc))), (20, .fz (.i .i64 f.words.length)), (21, .fz (.i .i64 i)), (26, .fz (.i .i64 fr.length)), (27, .fz (.i .i64 q.i))],
        hpL [((105006, 1), some ⟨[.fz (.i .i64 0), .fz (.s []), .full [], .full []], true, false⟩), ((105007, 2), some ⟨[.fz (.i .i64 f.kind), .fz (.s f.name.l), .ow (105045, g1) 1 (ws.map enc), .ow (105091, 3) 4 ([])], true, false⟩), ((105045, g1), some tok), ((105091, 3), some tok)], m1⟩, fun q => fr.length - q.i⟩
      ⟨0, by omega, hv.symm⟩ (by kernel_rfl) ?_ ?_
    · refine Weak_to ?_ ?_ ?_ <;> simp only [go_sem]
    rintro ⟨p, hp, hl⟩
    try simp only at hp hl
    rcases Nat.lt_or_ge p fr.length with h2 | h2
    · have h3 : p < to.length := by omega
      by_cases he : fr[p] = w
      · have hl2 := hl.trans (swapW_hit h2 h3 he)
        have he' : fr[p].l = w.l := by rw [he]
        repeat' (first | refine rq fun _ => ?_ | refine ReqK.i (fits_of2 (by first | omega | (simp only [List.length_map, List.length_append, List.length_cons, List.length_nil]; omega)) (by decide)) fun _ => ?_ | refine rq fun _ => ?_ | simp only [go_sem, h1, h2, h3, he', hwi, getD_map_lt, Tryd.f105])
        refine ⟨⟨i + 1, m1, m1 + 1, by omega, by omega, by omega, trivial⟩, by simp only; omega, ?_⟩
        refine Weak_to ?_ ?_ ?_ <;> simp only [go_sem, e4, List.map_append, hl2]
      · have hl2 := hl.trans (swapW_miss h2 h3 he)
        have he' : ¬ fr[p].l = w.l := fun e => he (by cases h7 : fr[p]; cases w; rw [h7] at e; simp only at e; rw [e])
        repeat' (first | refine rq fun _ => ?_ | refine ReqK.i (fits_of2 (by first | omega | (simp only [List.length_map, List.length_append, List.length_cons, List.length_nil]; omega)) (by decide)) fun _ => ?_ | refine rq fun _ => ?_ | simp only [go_sem, h1, h2, h3, he', hwi, getD_map_lt, Tryd.f105])
        refine ⟨⟨p + 1, by omega, hl2⟩, by simp only; omega, ?_⟩
        refine Weak_to ?_ ?_ ?_ <;> simp only [go_sem]
    · obtain rfl : p = fr.length := by omega
      have hl2 := hl.trans (swapW_end (Nat.le_refl _))
      repeat' (first | refine rq fun _ => ?_ | refine ReqK.i (fits_of2 (by first | omega | (simp only [List.length_map, List.length_append, List.length_cons, List.length_nil]; omega)) (by decide)) fun _ => ?_ | refine rq fun _ => ?_ | simp only [go_sem, h1, Nat.lt_irrefl, hwi, Tryd.f105])
      refine ⟨⟨i + 1, m1, m1 + 1, by omega, by omega, by omega, trivial⟩, by simp only; omega, ?_⟩
      refine Weak_to ?_ ?_ ?_ <;> simp only [go_sem, e4, List.map_append, hl2]
  · obtain rfl : i = f.words.length := by omega
    by_cases hq : isQ f.kind
    case' pos =>
      have hn2 := kn.out
      rw [if_pos hq] at hn2
      unfold isQ at hq
      have hq8 : ((f.kind = 8) = True ∧ (f.kind = 8) = True) ∨ ((f.kind = 8) = False ∧ (f.kind = 9) = True) := by
        rcases hq with h | h
        · exact .inl ⟨eq_true h, eq_true h⟩
        · exact .inr ⟨eq_false (by omega), eq_true h⟩
      rcases hq8 with ⟨h8, h9⟩ | ⟨h8, h9⟩
      all_goals
        repeat' (first | refine rq fun _ => ?_ | refine ReqK.i (fits_of2 (by first | omega | (simp only [List.length_map, List.length_append, List.length_cons, List.length_nil]; omega)) (by decide)) fun _ => ?_ | refine rq fun _ => ?_ | simp only [go_sem, h8, h9, Nat.lt_irrefl, List.take_length, hwl2, str_eta, Tryd.f105])
        refine WK_loop hm kT.out 105000 (lsw [45, 91] [1000017, 1000023]) (ι := LoopI fr.length fun p => nm2 = swapW (fr.drop p) (to.drop p) f.name)
          ⟨fun q => ⟨frL [(1, .fz (.sl (fr.map enc))), (2, .fz (.sl (to.map enc))), (3, .rp [.i .i64 f.kind, .s f.name.l, .sl (f.words.map enc), .sl (f.subs.map enc)]), (6, .ptr (105006, 1) 0), (7, .ptr (105007, 2) 0), (57, .fz (.i .i64 fr.length)), (58, .fz (.i .i64 q.i))],
            hpL [((105006, 1), some ⟨[.fz (.i .i64 0), .fz (.s []), .full [], .full []], true, false⟩), ((105007, 2), some ⟨[.fz (.i .i64 f.kind), .fz (.s f.name.l), .ow (105045, g1) 1 (wl.map enc), .ow (105091, 3) 4 ([])], true, false⟩), ((105091, 3), some tok)], m1⟩, fun q => fr.length - q.i⟩
          ⟨0, by omega, hn2.symm⟩ (by kernel_rfl) ?_ ?_
        · refine Weak_to ?_ ?_ ?_ <;> simp only [go_sem]
        rintro ⟨p, hp, hl⟩
        try simp only at hp hl
        rcases Nat.lt_or_ge p fr.length with h2 | h2
        have h3 : p < to.length := by omega
        by_cases he : fr[p] = f.name
        case' pos =>
          have hl2 := hl.trans (swapW_hit h2 h3 he)
          have he' : fr[p].l = f.name.l := by rw [he]
          repeat' (first | refine rq fun _ => ?_ | refine ReqK.i (fits_of2 (by first | omega | (simp only [List.length_map, List.length_append, List.length_cons, List.length_nil]; omega)) (by decide)) fun _ => ?_ | refine rq fun _ => ?_ | simp only [go_sem, h2, h3, he', getD_map_lt, Tryd.f105])
          refine WK_drawV hm kT.out 105000 (lsw [45, 91] [1000017, 1000023]) tree17s (by kernel_rfl) (by kernel_rfl) ?_
          repeat' (first | refine And.intro ?_ ?_ | exact True.intro | refine rq fun _ => ?_ | refine ReqK.i (fits_of2 (by first | omega | (simp only [List.length_map, List.length_append, List.length_cons, List.length_nil]; omega)) (by decide)) fun _ => ?_ | refine rq fun _ => ?_ | simp only [go_sem, tree17s, h2, h3, he', getD_map_lt, Tryd.f105])
        case neg =>
          have hl2 := hl.trans (swapW_miss h2 h3 he)
          have he' : ¬ fr[p].l = f.name.l := fun e => he (by cases h7 : fr[p]; cases h8 : f.name; rw [h7, h8] at e; simp only at e; rw [e])
          repeat' (first | refine rq fun _ => ?_ | refine ReqK.i (fits_of2 (by first | omega | (simp only [List.length_map, List.length_append, List.length_cons, List.length_nil]; omega)) (by decide)) fun _ => ?_ | refine rq fun _ => ?_ | simp only [go_sem, h2, h3, he', getD_map_lt, Tryd.f105])
          refine WK_drawV hm kT.out 105000 (lsw [45, 91] [1000017, 1000023]) tree17s (by kernel_rfl) (by kernel_rfl) ?_
          repeat' (first | refine And.intro ?_ ?_ | exact True.intro | refine rq fun _ => ?_ | refine ReqK.i (fits_of2 (by first | omega | (simp only [List.length_map, List.length_append, List.length_cons, List.length_nil]; omega)) (by decide)) fun _ => ?_ | refine rq fun _ => ?_ | simp only [go_sem, tree17s, h2, h3, he', getD_map_lt, Tryd.f105])
          refine ⟨⟨p + 1, by omega, hl2⟩, by simp only; omega, ?_⟩
          refine Weak_to ?_ ?_ ?_ <;> simp only [go_sem]
        case' inr =>
          obtain rfl : p = fr.length := by omega
          have hl2 := hl.trans (swapW_end (Nat.le_refl _))
          repeat' (first | refine rq fun _ => ?_ | refine ReqK.i (fits_of2 (by first | omega | (simp only [List.length_map, List.length_append, List.length_cons, List.length_nil]; omega)) (by decide)) fun _ => ?_ | refine rq fun _ => ?_ | simp only [go_sem, Nat.lt_irrefl, Tryd.f105])
    case' neg =>
      have hl2 := kn.out.symm
      rw [if_neg hq] at hl2
      unfold isQ at hq
      have h8 : (f.kind = 8) = False := eq_false fun h => hq (.inl h)
      have h9 : (f.kind = 9) = False := eq_false fun h => hq (.inr h)
      repeat' (first | refine rq fun _ => ?_ | refine ReqK.i (fits_of2 (by first | omega | (simp only [List.length_map, List.length_append, List.length_cons, List.length_nil]; omega)) (by decide)) fun _ => ?_ | refine rq fun _ => ?_ | simp only [go_sem, h8, h9, Nat.lt_irrefl, List.take_length, hwl2, str_eta, Tryd.f105])
    all_goals
      refine WK_loop hm kT.out 105000 (lsw [45, 91] [1000017, 1000023]) (ι := LoopG f.subs.length 5 fun _ => True)
        ⟨fun q => ⟨frL [(1, .fz (.sl (fr.map enc))), (2, .fz (.sl (to.map enc))), (3, .rp [.i .i64 f.kind, .s f.name.l, .sl (f.words.map enc), .sl (f.subs.map enc)]), (6, .ptr (105006, 1) 0), (7, .ptr (105007, 2) 0), (76, .fz (.i .i64 f.subs.length)), (77, .fz (.i .i64 q.i))],
          hpL [((105006, 1), some ⟨[.fz (.i .i64 0), .fz (.s []), .full [], .full []], true, false⟩), ((105007, 2), some ⟨[.fz (.i .i64 f.kind), .fz (.s nm2.l), .ow (105045, g1) 1 (wl.map enc), .ow (105091, q.g) 4 ((A q.i).map enc)], true, false⟩), ((105091, q.g), some tok)], q.m⟩, fun q => f.subs.length - q.i⟩
        ⟨0, 3, m1 + 10, by omega, by omega, by omega, trivial⟩ (by kernel_rfl) ?_ ?_
      · refine Weak_to ?_ ?_ ?_ <;> (try simp only [go_sem, hA0, hl2])
        all_goals first | done | omega
      rintro ⟨j, g2, m2, hj, hg2, hm2, _⟩
      try simp only at hj hg2 hm2
      rcases Nat.lt_or_ge j f.subs.length with h2 | h2
      · have hms := kA.out j h2
        have hml := kL.out j
        have hsz := kz.out _ (List.getElem_mem h2)
        obtain ⟨x, hx⟩ : ∃ x, f.subs[j] = x := ⟨_, rfl⟩
        rw [hx] at hms hsz
        repeat' (first | refine ReqK.i hsz fun _ => ?_ | refine rq fun _ => ?_ | refine ReqK.i (fits_of2 (by first | omega | (simp only [List.length_map, List.length_append, List.length_cons, List.length_nil]; omega)) (by decide)) fun _ => ?_ | refine rq fun _ => ?_ | simp only [go_sem, h2, hx, getD_map_lt, Tryd.f105])
        refine WK_drawV hm kT.out 105000 (lsw [45, 91] [1000017, 1000023]) tree23s (by kernel_rfl) (by kernel_rfl) ?_
        repeat' (first | refine And.intro ?_ ?_ | exact True.intro | refine ReqK.i hsz fun _ => ?_ | refine rq fun _ => ?_ | refine ReqK.i (fits_of2 (by first | omega | (simp only [List.length_map, List.length_append, List.length_cons, List.length_nil]; omega)) (by decide)) fun _ => ?_ | refine rq fun _ => ?_ | simp only [go_sem, tree23s, h2, hx, getD_map_lt, Tryd.f105])
        all_goals
          refine ⟨⟨j + 1, m2, m2 + 10, by omega, by omega, by omega, trivial⟩, by simp only; omega, ?_⟩
          refine Weak_to ?_ ?_ ?_ <;> (try simp only [go_sem, hms, List.map_append])
          all_goals first | done | omega
      · obtain rfl : j = f.subs.length := by omega
        repeat' (first | refine rq fun _ => ?_ | refine ReqK.i (fits_of2 (by first | omega | (simp only [List.length_map, List.length_append, List.length_cons, List.length_nil]; omega)) (by decide)) fun _ => ?_ | refine rq fun _ => ?_ | simp only [go_sem, Nat.lt_irrefl, Tryd.f105])
end Go.Proofs.YtbbjghecpcobjaaDoor

namespace Go.Proofs.YtbbjghecpcobjaaDoor
open Go Go.Abs Go.Proofs

/-! ## With, the document's canonical form -/
theorem zip_fr : ∀ {fr to : List Str}, fr.length = to.length → (List.zipWith Abs.Bind.mk fr to).map (·.fr) = fr ∧ (List.zipWith Abs.Bind.mk fr to).map (·.to) = to
  | [], [], _ => ⟨rfl, rfl⟩
  | a :: fr, b :: to, h => by
    have := zip_fr (fr := fr) (to := to) (by simpa using h)
    simp only [List.zipWith_cons_cons, List.map_cons, this.1, this.2, and_self]
theorem oldsM_succ (i : Nat) : oldsM (i + 1) = oldsM i ++ [bnum i] := by unfold oldsM; rw [List.range_succ, List.map_append]; rfl
theorem newsM_succ (us : List Str) (i : Nat) : newsM us (i + 1) = newsM us i ++ [vnum (nextM us (ctr us 0 i))] := by unfold newsM; rw [List.range_succ, List.map_append]; rfl
theorem oldsM_len (i : Nat) : (oldsM i).length = i := by unfold oldsM; rw [List.length_map, List.length_range]
theorem newsM_len (us : List Str) (i : Nat) : (newsM us i).length = i := by unfold newsM; rw [List.length_map, List.length_range]
theorem ctr_le (us : List Str) : ∀ i, ctr us 0 i ≤ i * (us.length + 1)
  | 0 => by simp [ctr]
  | i + 1 => by
    rw [ctr_succ, Nat.add_mul, Nat.one_mul]
    have h1 := ctr_le us i
    have h2 := (nextM_spec us (ctr us 0 i)).2.1
    omega
structure LoopW (len n0 : Nat) where
  i : Nat
  g1 : Nat
  g2 : Nat
  m : Nat
  hi : i ≤ len
  h1 : g1 < m
  h2 : g2 < m
  hm : n0 ≤ m
structure CtrI (us : List Str) (k0 : Nat) where
  k : Nat
  hk : k0 ≤ k
  h : nextM us k = nextM us k0
def wthPre (f : Abs.Form) (fr to : List Str) : Prop := f.fit = true ∧ f.size ≤ 1000 ∧ fr.length = to.length ∧ fr.length ≤ 1000
def R10 : Tbl := R9.add 55 (sp3 (fun f fr to => wthM f (List.zipWith Abs.Bind.mk fr to)) wthPre)
attribute [go_sem] R10
set_option maxRecDepth 100000 in
set_option maxHeartbeats 1000000 in
set_option maxHeartbeats 8000000 in
theorem hR10 : TblOk Tryd.prog GA R10 := by
  refine sp3_ok ok55 hR9 fun f fr to hpre hw _ _ => ?_
  obtain ⟨hfit, hsz, hlen, hle⟩ := hpre
  obtain ⟨z1, z2⟩ := zip_fr hlen
  obtain ⟨env, henv⟩ : ∃ env, List.zipWith Abs.Bind.mk fr to = env := ⟨_, rfl⟩
  rw [henv] at z1 z2 ⊢
  have hel : env.length ≤ 1000 := by rw [← z1, List.length_map] at hle; exact hle
  have h183 := f103 (ga := 2) f.size f env 0 3 (hpL [((55006, 1), some ⟨[.fz (.i .i64 0), .fz (.s []), .full [], .full []], true, false⟩)]) (Nat.le_refl _) hw hfit (by omega) (by omega) (by omega) (fun id o ho => by
    simp only [hpL] at ho
    split at ho
    · rename_i e; subst e; simp only; omega
    · cases ho)
  rw [z1, z2] at h183
  obtain ⟨g, hg⟩ : ∃ g, (ren bg f env 0).1 = g := ⟨_, rfl⟩
  obtain ⟨c2, hc2⟩ : ∃ c2, (ren bg f env 0).2 = c2 := ⟨_, rfl⟩
  have hc2l : c2 ≤ 1000 := by have := ((ren_le bg_le).1 f env 0).2; omega
  have hgs : g.size ≤ 1000 := by rw [← hg, ren_size]; exact hsz
  have hgf : g.fit = true := by rw [← hg, ren_fit]; exact hfit
  obtain ⟨us, hus⟩ : ∃ us, cstR g [] [] = us := ⟨_, rfl⟩
  have hul : us.length ≤ 1000000 := by
    have := cstR_len g [] [] hgf
    rw [hus] at this; simp only [List.length_nil] at this; omega
  have hres : wthM f env = swp (oldsM c2) (newsM us c2) g := by
    unfold wthM usedR markM; rw [hg, hc2, hus]
  obtain ⟨r, hr⟩ : ∃ r, swp (oldsM c2) (newsM us c2) g = r := ⟨_, rfl⟩
  rw [hres, hr]
  rw [hg, hc2] at h183
  rw [enc_form (f := f)] at h183
  clear hres z1 z2 henv hlen hg hc2 hw
  refine Wcall_K (N := 62) hm hR9 55000 (lsw [30, 49, 55] []) ok55 Tryd.func55 rfl rfl (by simp) (by kernel_rfl) ?_
  repeat' (first | refine rq fun _ => ?_ | refine ReqK.i (fits_of2 (by first | omega | (simp only [List.length_map, List.length_append, List.length_cons, List.length_nil]; omega)) (by decide)) fun _ => ?_ | refine rq fun _ => ?_ | refine ReqK.i ⟨by omega, by omega⟩ fun _ => ?_ | simp only [go_sem, Tryd.f55])
  refine WcallK.i (Wcall_hd rfl (Wcall_toX (by simp only [go_sem, argL]) (by simp only [go_sem, HM]; try rfl) (fun id o ho => ?_) (Nat.le_refl _) (Wcall_mono h183 ?_)))
  · simp only [hpL] at ho
    split at ho
    · rename_i e; subst e; simp only [go_sem]; exact Option.some.inj ho
    · cases ho
  rintro d' H' n1 ⟨rfl, e1, e2, e3⟩
  have b6 := e3 (55006, 1) ⟨[.fz (.i .i64 0), .fz (.s []), .full [], .full []], true, false⟩ (by simp only [go_sem])
  simp only [go_sem, HM] at e2
  have b7 := e2
  clear e3 e2
  rw [show H' = hpX [] H' from rfl, enc_form (f := g)]
  repeat' (first | refine ReqK.i ⟨hgf, hgs⟩ fun _ => ?_ | refine rq fun _ => ?_ | refine ReqK.i (fits_of2 (by first | omega | (simp only [List.length_map, List.length_append, List.length_cons, List.length_nil]; omega)) (by decide)) fun _ => ?_ | refine rq fun _ => ?_ | refine ReqK.i ⟨by omega, by omega⟩ fun _ => ?_ | simp only [go_sem, b6, b7, hgf, hgs, hus, form_eta, Tryd.f55])
  refine WK_weak2 (Weak_to (l := [(6, .ptr (55006, 1) 0), (7, .ptr (55007, 2) 0), (8, .ptr (55008, n1) 0), (9, .full []), (21, .fz (.sl (us.map enc))), (22, .fz (.i .i64 us.length)), (23, .fz (.i .i64 0))]) (hl := [((55006, 1), some ⟨[.fz (.i .i64 0), .fz (.s []), .full [], .full []], true, false⟩), ((55007, 2), some ⟨[.fz (.i .i64 (c2 : Nat))], true, false⟩), ((55008, n1), some ⟨[.fz (.i .i64 g.kind), .fz (.s g.name.l), .fz (.sl (g.words.map enc)), .fz (.sl (g.subs.map enc))], true, false⟩)]) (n := n1 + 1) ?_ ?_ ?_) ?_
  · simp only [go_sem]
  · simp only [go_sem, b6, b7]
  · simp only [go_sem]
  clear b6 b7
  refine WK_loop hm hR9 55000 (lsw [30, 49, 55] []) (ι := LoopG us.length (n1 + 2) fun _ => True)
    ⟨fun q => ⟨frL [(6, .ptr (55006, 1) 0), (7, .ptr (55007, 2) 0), (8, .ptr (55008, n1) 0), (9, .ow (55030, q.g) 1 ((us.take q.i).map enc)), (21, .fz (.sl (us.map enc))), (22, .fz (.i .i64 us.length)), (23, .fz (.i .i64 q.i))],
      hpL [((55006, 1), some ⟨[.fz (.i .i64 0), .fz (.s []), .full [], .full []], true, false⟩), ((55007, 2), some ⟨[.fz (.i .i64 (c2 : Nat))], true, false⟩), ((55008, n1), some ⟨[.fz (.i .i64 g.kind), .fz (.s g.name.l), .fz (.sl (g.words.map enc)), .fz (.sl (g.subs.map enc))], true, false⟩), ((55030, q.g), some tok)], q.m⟩, fun q => us.length - q.i⟩
    ⟨0, n1 + 1, n1 + 2, by omega, by omega, by omega, trivial⟩ (by kernel_rfl) ?_ ?_
  · refine Weak_g [] [(55030, n1 + 1)] [] ?_ ?_ ?_ ?_ ?_ <;> simp only [go_sem]
    all_goals first | done | rfl | omega | (repeat' (first | omega | rfl | apply And.intro)) | trace_state
  rintro ⟨i, gg, m, hi, hgg, hmm, _⟩
  try simp only at hi hgg hmm
  rcases Nat.lt_or_ge i us.length with h1 | h1
  · obtain ⟨w, hwi⟩ : ∃ w, us[i] = w := ⟨_, rfl⟩
    have e3 := List.take_succ_eq_append_getElem h1
    rw [hwi] at e3
    have e5 : (us.take i).length = i := by rw [List.length_take]; omega
    obtain ⟨ut, hut⟩ : ∃ ut, us.take i = ut := ⟨_, rfl⟩
    rw [hut] at e3 e5
    repeat' (first | refine rq fun _ => ?_ | refine ReqK.i (fits_of2 (by first | omega | (simp only [List.length_map, List.length_append, List.length_cons, List.length_nil]; omega)) (by decide)) fun _ => ?_ | refine rq fun _ => ?_ | refine ReqK.i ⟨by omega, by omega⟩ fun _ => ?_ | simp only [go_sem, h1, hwi, hut, str_eta, getD_map_lt, Tryd.f55])
    refine ⟨⟨i + 1, m, m + 1, by omega, by omega, by omega, trivial⟩, by simp only; omega, ?_⟩
    refine Weak_to ?_ ?_ ?_ <;> simp only [go_sem, e3, List.map_append]
  obtain rfl : i = us.length := by omega
  repeat' (first | refine rq fun _ => ?_ | refine ReqK.i (fits_of2 (by first | omega | (simp only [List.length_map, List.length_append, List.length_cons, List.length_nil]; omega)) (by decide)) fun _ => ?_ | refine rq fun _ => ?_ | refine ReqK.i ⟨by omega, by omega⟩ fun _ => ?_ | simp only [go_sem, Nat.lt_irrefl, List.take_length, Tryd.f55])
  refine WK_loop hm hR9 55000 (lsw [30, 49, 55] []) (ι := LoopW c2 (m + 2))
    ⟨fun q => ⟨frL [(6, .ptr (55006, 1) 0), (7, .ptr (55007, 2) 0), (8, .ptr (55008, n1) 0), (9, .fz (.sl (us.map enc))), (12, .ow (55049, q.g1) 1 ((oldsM q.i).map enc)), (13, .ow (55055, q.g2) 1 ((newsM us q.i).map enc)), (14, .fz (.i .i64 (ctr us 0 q.i : Nat))), (15, .fz (.i .i64 q.i))],
      hpL [((55006, 1), some ⟨[.fz (.i .i64 0), .fz (.s []), .full [], .full []], true, false⟩), ((55007, 2), some ⟨[.fz (.i .i64 (c2 : Nat))], true, false⟩), ((55008, n1), some ⟨[.fz (.i .i64 g.kind), .fz (.s g.name.l), .fz (.sl (g.words.map enc)), .fz (.sl (g.subs.map enc))], true, false⟩), ((55049, q.g1), some tok), ((55055, q.g2), some tok)], q.m⟩, fun q => c2 - q.i⟩
    ⟨0, m, m + 1, m + 2, by omega, by omega, by omega, by omega⟩ (by kernel_rfl) ?_ ?_
  · refine Weak_g [] [(55049, m), (55055, m + 1)] [] ?_ ?_ ?_ ?_ ?_ <;> simp only [go_sem]
    all_goals first | done | rfl | omega | (repeat' (first | omega | rfl | apply And.intro)) | trace_state
  rintro ⟨i, ga, gb, m2, hi2, hga, hgb, hm2⟩
  try simp only at hi2 hga hgb hm2
  have hol := oldsM_len i
  have hnl := newsM_len us i
  have hcl := ctr_le us i
  rcases Nat.lt_or_ge i c2 with h2 | h2
  · have hos := oldsM_succ i
    have hns := newsM_succ us i
    have hcs := ctr_succ us i 0
    obtain ⟨ol, hole⟩ : ∃ ol, oldsM i = ol := ⟨_, rfl⟩
    obtain ⟨nl, hnle⟩ : ∃ nl, newsM us i = nl := ⟨_, rfl⟩
    obtain ⟨k0, hk0⟩ : ∃ k0, ctr us 0 i = k0 := ⟨_, rfl⟩
    rw [hole] at hol hos
    rw [hnle] at hnl hns
    rw [hk0] at hcl hns hcs
    have hkb : i * (us.length + 1) ≤ 1000 * 1000001 := Nat.mul_le_mul (by omega) (by omega)
    have hnx := nextM_spec us k0
    repeat' (first | refine rq fun _ => ?_ | refine ReqK.i (fits_of2 (by first | omega | (simp only [List.length_map, List.length_append, List.length_cons, List.length_nil]; omega)) (by decide)) fun _ => ?_ | refine rq fun _ => ?_ | refine ReqK.i ⟨by omega, by omega⟩ fun _ => ?_ | simp only [go_sem, h2, hole, hnle, hk0, Tryd.f55])
    refine WK_loop hm hR9 55000 (lsw [30, 49, 55] []) (ι := CtrI us k0)
      ⟨fun q => ⟨frL [(6, .ptr (55006, 1) 0), (7, .ptr (55007, 2) 0), (8, .ptr (55008, n1) 0), (9, .fz (.sl (us.map enc))), (12, .ow (55049, ga) 1 (ol.map enc)), (13, .ow (55055, gb) 1 (nl.map enc)), (14, .fz (.i .i64 q.k)), (15, .fz (.i .i64 i))],
        hpL [((55006, 1), some ⟨[.fz (.i .i64 0), .fz (.s []), .full [], .full []], true, false⟩), ((55007, 2), some ⟨[.fz (.i .i64 (c2 : Nat))], true, false⟩), ((55008, n1), some ⟨[.fz (.i .i64 g.kind), .fz (.s g.name.l), .fz (.sl (g.words.map enc)), .fz (.sl (g.subs.map enc))], true, false⟩), ((55049, ga), some tok), ((55055, gb), some tok)], m2⟩, fun q => nextM us k0 - q.k⟩
      ⟨k0, Nat.le_refl _, rfl⟩ (by kernel_rfl) ?_ ?_
    · refine Weak_to ?_ ?_ ?_ <;> simp only [go_sem]
    rintro ⟨k, hk, hke⟩
    try simp only at hk hke
    have hkn := nextM_spec us k
    have hdl := digits_len k
    have hdi := digits_len i
    rw [hke] at hkn
    by_cases hin : vnum k ∈ us
    · have h3 := nextM_in hin
      have h4 := (nextM_spec us (k + 1)).1
      rw [← h3, hke] at h4
      have hin' : Str.mk (118 :: digits k) ∈ us := hin
      repeat' (first | refine rq fun _ => ?_ | refine ReqK.i (fits_of2 (by first | omega | (simp only [List.length_map, List.length_append, List.length_cons, List.length_nil]; omega)) (by decide)) fun _ => ?_ | refine rq fun _ => ?_ | refine ReqK.i ⟨by omega, by omega⟩ fun _ => ?_ | simp only [go_sem, hin', digS_l, Tryd.f55])
      refine ⟨⟨k + 1, by omega, by rw [← h3]; exact hke⟩, by simp only; omega, ?_⟩
      refine Weak_to ?_ ?_ ?_ <;> simp only [go_sem]
    · have h3 := nextM_out hin
      rw [hke] at h3
      have hin' : Str.mk (118 :: digits k) ∉ us := hin
      repeat' (first | refine rq fun _ => ?_ | refine ReqK.i (fits_of2 (by first | omega | (simp only [List.length_map, List.length_append, List.length_cons, List.length_nil]; omega)) (by decide)) fun _ => ?_ | refine rq fun _ => ?_ | refine ReqK.i ⟨by omega, by omega⟩ fun _ => ?_ | simp only [go_sem, hin', digS_l, Tryd.f55])
      refine ⟨⟨i + 1, m2, m2 + 1, m2 + 10, by omega, by omega, by omega, by omega⟩, by simp only; omega, ?_⟩
      refine Weak_to ?_ ?_ ?_ <;> (try simp only [go_sem, hos, hns, hcs, h3, bnum, vnum, List.map_append])
      all_goals first | done | omega | rfl
  · obtain rfl : i = c2 := by omega
    have hsp : swpPre g (oldsM i) (newsM us i) := ⟨hgf, by rw [hol, hnl]⟩
    repeat' (first | refine ReqK.i hsp fun _ => ?_ | refine rq fun _ => ?_ | refine ReqK.i (fits_of2 (by first | omega | (simp only [List.length_map, List.length_append, List.length_cons, List.length_nil]; omega)) (by decide)) fun _ => ?_ | refine rq fun _ => ?_ | refine ReqK.i ⟨by omega, by omega⟩ fun _ => ?_ | simp only [go_sem, Nat.lt_irrefl, hr, hsp, form_eta, Tryd.f55])

def R11 : Tbl := R10.add 49 (sp1 (fun f => wthM f []) fun f => f.fit = true ∧ f.size ≤ 1000)
attribute [go_sem] R11
set_option maxRecDepth 100000 in
set_option maxHeartbeats 1000000 in
theorem hR11 : TblOk Tryd.prog GA R11 := by
  refine sp1_ok ok49 hR10 fun f hpre _ => ?_
  have hp : wthPre f [] [] := ⟨hpre.1, hpre.2, rfl, by simp⟩
  have hz : List.zipWith Abs.Bind.mk [] [] = [] := rfl
  obtain ⟨r, hr⟩ : ∃ r, wthM f [] = r := ⟨_, rfl⟩
  rw [hr]
  refine Wcall_K (N := 5) hm hR10 49000 (lst []) ok49 Tryd.func49 rfl rfl (by simp) (by kernel_rfl) ?_
  repeat' (first | refine rq fun _ => ?_ | refine ReqK.i hp fun _ => ?_ | simp only [go_sem, hz, hr, form_eta, Tryd.f49])
end Go.Proofs.YtbbjghecpcobjaaDoor

namespace Go.Abs
open Go
section
variable {P : Program} {G : Nat → List FD} {T : Tbl}
/-- a recursive function of one argument with two results -/
theorem sp1p_rec {α ρ σ : Type} [Enc α] [Enc ρ] [Enc σ] {f : FuncId} {g : α → ρ × σ} {pre : α → Prop} (m : α → Nat) (hc : CallOk P f) (hT : TblOk P G T)
    (h : ∀ n, TblOk P G (T.add f (sp1p g fun a => m a < n ∧ pre a)) → ∀ a, m a = n → pre a → (enc a).Wf → Wcall P G f [.fz (enc a)] (hpL []) 0 (fun d _ _ => D.val d = some (.tup [.fz (enc (g a).1), .fz (enc (g a).2)]))) : TblOk P G (T.add f (sp1p g pre)) := by
  have key : ∀ n, TblOk P G (T.add f (sp1p g fun a => m a < n ∧ pre a)) := by
    intro n
    induction n with
    | zero => exact sp1p_ok hc hT fun a ha => by omega
    | succ n ih =>
      refine sp1p_ok hc hT fun a ha hw => ?_
      rcases Nat.lt_or_ge (m a) n with h1 | h1
      · have h2 := ih f (sp1p g fun a => m a < n ∧ pre a) [enc a] _ _ (by simp [Tbl.add]) (k_sp1p) ⟨by rw [dec_enc], by rw [dec_enc]; exact ⟨h1, ha.2⟩⟩
        rw [dec_enc, H0_eq] at h2
        exact h2
      · exact h n ih a (by omega) ha.2 hw
  refine sp1p_ok hc hT fun a ha hw => h (m a) (key _) a rfl ha hw
end
theorem size_eq {f : Abs.Form} : f.size = Form.sizes f.subs + 1 := by cases f; rw [Form.size]; rfl
theorem depth_eq {f : Abs.Form} : f.depth = Form.depths f.subs + 1 := by cases f; rw [Form.depth]; rfl
theorem sizes_take_succ {fs : List Abs.Form} {j : Nat} (h : j < fs.length) : Form.sizes (fs.take (j + 1)) = Form.sizes (fs.take j) + fs[j].size := by
  rw [List.take_succ_eq_append_getElem h, Form.sizes_app, Form.sizes, Form.sizes]; omega
theorem depths_take_succ {fs : List Abs.Form} {j : Nat} (h : j < fs.length) : Form.depths (fs.take (j + 1)) = max (Form.depths (fs.take j)) fs[j].depth := by
  rw [List.take_succ_eq_append_getElem h, Form.depths_app, Form.depths, Form.depths]; omega
theorem depths_take_le {fs : List Abs.Form} (j : Nat) : Form.depths (fs.take j) ≤ Form.depths fs := by
  have := congrArg Form.depths (List.take_append_drop j fs)
  rw [Form.depths_app] at this; omega
end Go.Abs
namespace Go.Proofs.YtbbjghecpcobjaaDoor
open Go Go.Abs Go.Proofs

/-! ## size, depth, limits -/
def szPre (f : Abs.Form) : Prop := f.fit = true ∧ f.size ≤ 1000000
def R12 : Tbl := R11
attribute [go_sem] R12
theorem hR12 : TblOk Tryd.prog GA R12 := hR11
def R13 : Tbl := R12
attribute [go_sem] R13
theorem hR13 : TblOk Tryd.prog GA R13 := hR12
def R14 : Tbl := R13
attribute [go_sem] R14
theorem hR14 : TblOk Tryd.prog GA R14 := hR13
def R15 : Tbl := R14.add 124 (sp1p (fun f : Abs.Form => ((f.size : Int), (f.depth : Int))) szPre)
attribute [go_sem] R15
set_option maxRecDepth 100000 in
set_option maxHeartbeats 1000000 in
theorem hR15 : TblOk Tryd.prog GA R15 := by
  refine sp1p_rec Form.size ok124 hR14 fun n hT f hn hpre _ => ?_
  obtain ⟨hfit, hsz⟩ := hpre
  obtain ⟨_, hsl, hfs⟩ := Form.fit_eq hfit
  have hse := @size_eq f
  have hdd := f.depth_size
  have hde := @depth_eq f
  have hr : ∀ g ∈ f.subs, g.size < n ∧ szPre g := fun g hg => ⟨by have := Form.size_sub hg; omega, Form.fits_mem hfs hg, by have := Form.size_sub hg; omega⟩
  have kT := Kp.mk hT
  have kr := Kp.mk hr
  obtain ⟨S, hS⟩ : ∃ S : Nat → Nat, S = fun j => Form.sizes (f.subs.take j) + 1 := ⟨_, rfl⟩
  have hS0 : S 0 = 1 := by rw [hS]; simp [Form.sizes]
  have hSs : ∀ j (h : j < f.subs.length), S (j + 1) = S j + f.subs[j].size := fun j h => by rw [hS]; simp only [sizes_take_succ h]; omega
  have hSl : ∀ j (h : j < f.subs.length), S j + f.subs[j].size ≤ 1000001 := fun j h => by have := sizes_take h; rw [hS]; simp only; omega
  have hSe : f.size = S f.subs.length := by rw [hS, hse]; simp only [List.take_length]
  obtain ⟨E, hE⟩ : ∃ E : Nat → Nat, E = fun j => Form.depths (f.subs.take j) := ⟨_, rfl⟩
  have hE0 : E 0 = 0 := by rw [hE]; simp [Form.depths]
  have hEs : ∀ j (h : j < f.subs.length), E (j + 1) = max (E j) f.subs[j].depth := fun j h => by rw [hE]; simp only [depths_take_succ h]
  have hEl : ∀ j, E j ≤ 1000000 := fun j => by have := depths_take_le (fs := f.subs) j; rw [hE]; simp only; omega
  have hEe : f.depth = E f.subs.length + 1 := by rw [hE, hde]; simp only [List.take_length]
  have hEn := hEl f.subs.length
  have kS := Kp.mk hSs
  have kL := Kp.mk hSl
  have kE := Kp.mk hEs
  rw [hSe, hEe]
  clear hT hr hS hSs hSl hSe hE hEs hEl hEe hfit hfs hn
  refine Wcall_K (N := 32) hm kT.out 124000 (lst []) ok124 Tryd.func124 rfl rfl (by simp) (by kernel_rfl) ?_
  repeat' (first | refine rq fun _ => ?_ | simp only [go_sem, Tryd.f124])
  refine WK_weak2 (Weak_rpL (id := (124001, 0)) (t := 1) (b := true) (ys := [.i .i64 f.kind, .s f.name.l, .sl (f.words.map enc), .sl (f.subs.map enc)]) (by simp only [go_sem]) (by simp only [go_sem])) ?_
  refine WK_loop hm kT.out 124000 (lst []) (ι := LoopM f.subs.length 1 fun _ => True)
    ⟨fun q => ⟨frL [(4, .fz (.i .i64 (S q.i : Nat))), (5, .fz (.i .i64 (E q.i : Nat))), (11, .fz (.sl (f.subs.map enc))), (12, .fz (.i .i64 f.subs.length)), (13, .fz (.i .i64 q.i))], hpL [], q.m⟩, fun q => f.subs.length - q.i⟩
    ⟨0, 1, by omega, by omega, trivial⟩ (by kernel_rfl) ?_ ?_
  · refine Weak_to ?_ ?_ ?_ <;> simp only [go_sem, hS0, hE0]
    all_goals first | done | rfl
  rintro ⟨j, m, hj, hm1, _⟩
  try simp only at hj hm1
  rcases Nat.lt_or_ge j f.subs.length with h2 | h2
  · have hss := kS.out j h2
    have hes := kE.out j h2
    have hsl2 := kL.out j h2
    have hr := kr.out _ (List.getElem_mem h2)
    obtain ⟨x, hx⟩ : ∃ x, f.subs[j] = x := ⟨_, rfl⟩
    rw [hx] at hss hsl2 hr hes
    repeat' (first | refine rq fun _ => ?_ | refine ReqK.i hr fun _ => ?_ | simp only [go_sem, h2, hx, getD_map_lt, Tryd.f124])
    refine ⟨⟨j + 1, m + 1, by omega, by omega, trivial⟩, by simp only; omega, ?_⟩
    refine Weak_to ?_ ?_ ?_ <;> simp only [go_sem, hss, hes, Int.natCast_add]
    all_goals first | done | rfl | omega
  · obtain rfl : j = f.subs.length := by omega
    repeat' (first | refine rq fun _ => ?_ | simp only [go_sem, Nat.lt_irrefl, Tryd.f124])
    all_goals first | done | rfl
def R16 : Tbl := R15.add 76 (sp1 fitsM szPre)
attribute [go_sem] R16
set_option maxRecDepth 100000 in
set_option maxHeartbeats 1000000 in
theorem hR16 : TblOk Tryd.prog GA R16 := by
  refine sp1_ok ok76 hR15 fun f hpre _ => ?_
  refine Wcall_K (N := 16) hm hR15 76000 (lst []) ok76 Tryd.func76 rfl rfl (by simp) (by kernel_rfl) ?_
  by_cases h1 : f.size ≤ 200
  · have h1' : (f.size : Int) ≤ 200 := by omega
    by_cases h2 : f.depth ≤ 40
    · have h2' : (f.depth : Int) ≤ 40 := by omega
      have e : fitsM f = true := decide_eq_true ⟨h1, h2⟩
      repeat' (first | refine rq fun _ => ?_ | refine ReqK.i hpre fun _ => ?_ | simp only [go_sem, h1', h2', e, form_eta, Tryd.f76])
    · have h2' : ¬ (f.depth : Int) ≤ 40 := by omega
      have e : fitsM f = false := decide_eq_false fun h => h2 h.2
      repeat' (first | refine rq fun _ => ?_ | refine ReqK.i hpre fun _ => ?_ | simp only [go_sem, h1', h2', e, form_eta, Tryd.f76])
  · have h1' : ¬ (f.size : Int) ≤ 200 := by omega
    have e : fitsM f = false := decide_eq_false fun h => h1 h.1
    repeat' (first | refine rq fun _ => ?_ | refine ReqK.i hpre fun _ => ?_ | simp only [go_sem, h1', e, form_eta, Tryd.f76])
end Go.Proofs.YtbbjghecpcobjaaDoor

namespace Go.Proofs.YtbbjghecpcobjaaDoor
open Go Go.Abs Go.Proofs

/-! ## formulas put together; a formula returned, if it keeps the limits -/
def doneR (f : Abs.Form) : Abs.Form := if fitsM f then wthM f [] else zeroF
def R17 : Tbl := R16
attribute [go_sem] R17
theorem hR17 : TblOk Tryd.prog GA R17 := hR16
def R18 : Tbl := R17
attribute [go_sem] R18
theorem hR18 : TblOk Tryd.prog GA R18 := hR17
theorem joinM_cast (k : Int) {l : List Abs.Form} {i : Nat} (h : i + 1 < l.length) : joinM k (l.take (i + 1 + 1)) = .mk k ⟨[]⟩ [] [joinM k (l.take (i + 1)), l[i + 1]] := joinM_take h
def joinPre (_ : Int) (l : List Abs.Form) : Prop := l ≠ [] ∧ l.length ≤ 1000
def R19 : Tbl := R18
attribute [go_sem] R19
theorem hR19 : TblOk Tryd.prog GA R19 := hR18
def tree117 : Tv := (.q 0 (.q 1 (.q 2 (.q 3 (.q 4 (.q 5 (.q 6 (.q 7 (.br [(8, .leaf)])))))))))
def R20 : Tbl := R19
attribute [go_sem] R20
theorem hR20 : TblOk Tryd.prog GA R20 := hR19
/-- what a group must be -/
def chkGo (at' : Int) : List Str → List Str → Fault
  | _, [] => ⟨0, 0⟩
  | pre, x :: xs => if isName x = false then ⟨10, at'⟩ else if x ∈ pre then ⟨7, at'⟩ else chkGo at' (pre ++ [x]) xs
def chkG (l : List Str) (at' : Int) : Fault := if l.length = 0 ∨ 5 < l.length then ⟨2, at'⟩ else chkGo at' [] l
def R21 : Tbl := R20
attribute [go_sem] R21
theorem hR21 : TblOk Tryd.prog GA R21 := hR20
def R22 : Tbl := R21
attribute [go_sem] R22
theorem hR22 : TblOk Tryd.prog GA R22 := hR21
end Go.Proofs.YtbbjghecpcobjaaDoor

namespace Go.Proofs.YtbbjghecpcobjaaDoor
open Go Go.Abs Go.Proofs

/-! ## plural.Each and the document's -/
def eachP (f : Abs.Form) (name : Str) (group : List Str) : Abs.Form × Fault :=
  if (checkM false f).code ≠ 0 then (zeroF, checkM false f) else if isName name = false then (zeroF, ⟨10, -2⟩) else if (chkG group (-3)).code ≠ 0 then (zeroF, chkG group (-3)) else (doneF (eachM f name group), doneE (eachM f name group))
def tree503p : Tv := (.q 0 (.br [(1, (.br [(2, (.br [(3, .leaf)]))])), (2, (.q 1 (.br [(3, .leaf)])))]))
theorem list_nep {α : Type} {l : List α} (h : 1 ≤ l.length) : l ≠ [] := fun e => by rw [e] at h; simp at h
def R23 : Tbl := R22
attribute [go_sem] R23
theorem hR23 : TblOk Tryd.prog GA R23 := hR22
def eachR (f : Abs.Form) (name : Str) (group : List Str) : Abs.Form := joinM 5 (group.map fun g => wthM f [⟨name, g⟩])
def eachPre (f : Abs.Form) (_ : Str) (group : List Str) : Prop := f.fit = true ∧ f.size ≤ 200 ∧ 1 ≤ group.length ∧ group.length ≤ 5
def R24 : Tbl := R23
attribute [go_sem] R24
theorem hR24 : TblOk Tryd.prog GA R24 := hR23
end Go.Proofs.YtbbjghecpcobjaaDoor

namespace Go.Abs
open Go
end Go.Abs
namespace Go.Proofs.YtbbjghecpcobjaaDoor
open Go Go.Abs Go.Proofs

def cumP (pred : Str) (a b : List Str) : Abs.Form × Fault :=
  if isName pred = false then (zeroF, ⟨10, -1⟩) else if (chkG a (-2)).code ≠ 0 then (zeroF, chkG a (-2)) else if (chkG b (-3)).code ≠ 0 then (zeroF, chkG b (-3)) else (doneF (cumM pred a b), doneE (cumM pred a b))
def R25 : Tbl := R24
attribute [go_sem] R25
theorem hR25 : TblOk Tryd.prog GA R25 := hR24
end Go.Proofs.YtbbjghecpcobjaaDoor

namespace Go.Proofs.YtbbjghecpcobjaaDoor
open Go Go.Abs Go.Proofs

section
variable {P : Program} {G : Nat → List FD} {T : Tbl}
/-- a recursive function of two arguments -/
theorem sp2_rec {α β ρ : Type} [Enc α] [Enc β] [Enc ρ] {f : FuncId} {g : α → β → ρ} (m : α → Nat) (hc : CallOk P f) (hT : TblOk P G T)
    (h : ∀ n, TblOk P G (T.add f (sp2 g fun a _ => m a < n)) → ∀ a b, m a = n → (enc a).Wf → (enc b).Wf → Wcall P G f [.fz (enc a), .fz (enc b)] (hpL []) 0 (fun d _ _ => D.val d = some (.fz (enc (g a b))))) : TblOk P G (T.add f (sp2 g fun _ _ => True)) := by
  have key : ∀ n, TblOk P G (T.add f (sp2 g fun a _ => m a < n)) := by
    intro n
    induction n with
    | zero => exact sp2_ok hc hT fun a _ ha => by omega
    | succ n ih =>
      refine sp2_ok hc hT fun a b ha hw hw2 => ?_
      rcases Nat.lt_or_ge (m a) n with h3 | h3
      · have h4 := ih f (sp2 g fun a _ => m a < n) [enc a, enc b] _ _ (by simp [Tbl.add]) (k_sp2) ⟨by rw [dec_enc], by rw [dec_enc], by rw [dec_enc]; exact h3⟩
        rw [dec_enc, dec_enc, H0_eq] at h4
        exact h4
      · exact h n ih a b (by omega) hw hw2
  exact sp2_ok hc hT fun a b _ hw hw2 => h (m a) (key _) a b rfl hw hw2
end
theorem form_ext {a b : Abs.Form} (h1 : a.kind = b.kind) (h2 : a.name = b.name) (h3 : a.words = b.words) (h4 : a.subs = b.subs) : a = b := by
  cases a; cases b; simp only [form_kind, form_name, form_words, form_subs] at *; subst h1 h2 h3 h4; rfl
theorem eq_of_take {α : Type} {a b : List α} (h : a.length = b.length) (h2 : a.take a.length = b.take a.length) : a = b := by
  rw [List.take_length] at h2
  rw [h, List.take_length] at h2
  exact h2
def R27 : Tbl := R22
attribute [go_sem] R27
theorem hR27 : TblOk Tryd.prog GA R27 := hR22
def twoM (k : Int) (f g : Abs.Form) : Abs.Form := .mk k ⟨[]⟩ [] [f, g]
def R28 : Tbl := R27.add 25 (sp3 twoM fun _ _ _ => True)
attribute [go_sem] R28
set_option maxRecDepth 100000 in
set_option maxHeartbeats 1000000 in
theorem hR28 : TblOk Tryd.prog GA R28 := by
  refine sp3_ok ok25 hR27 fun k f g _ _ _ _ => ?_
  simp only [twoM]
  refine Wcall_K (N := 12) hm hR27 25000 (lst []) ok25 Tryd.func25 rfl rfl (by simp) (by kernel_rfl) ?_
  repeat' (first | refine rq fun _ => ?_ | simp only [go_sem, form_eta, Tryd.f25])

def tree503 : Tv := (.q 0 (.br [(1, (.br [(2, (.br [(3, .leaf)]))])), (2, (.q 1 (.br [(3, .leaf)])))]))
def sWalk : Str := ⟨[119, 97, 108, 107]⟩
def sKim : Str := ⟨[107, 105, 109]⟩
theorem zero_mk : Abs.Form.mk 0 ⟨[]⟩ [] [] = zeroF := rfl
end Go.Proofs.YtbbjghecpcobjaaDoor

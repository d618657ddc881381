import Derived.Test.YtbbjghecpcobjaaDoorAT
import Derived.Test.YtbbjghecpcobjaaDoorQ53
import Derived.Test.YtbbjghecpcobjaaDoorMU
import Derived.Test.YtbbjghecpcobjaaDoorAbs47
set_option linter.unusedSimpArgs false
namespace Go.Proofs.YtbbjghecpcobjaaDoor
open Go Go.Abs Go.Proofs

/-! ## small functions -/
def M38 : Tbl := V37.add 109 (sp2 (fun a b : List Str => decide (a = b)) fun _ _ => True)
attribute [go_sem] M38
set_option maxRecDepth 100000 in
set_option maxHeartbeats 1000000 in
theorem hM38 : TblOk Tryd.prog GA M38 := by
  refine sp2_ok ok109 hV37 fun a b _ hwa hwb => ?_
  obtain ⟨Q, hQ⟩ : ∃ Q : D → Heap → Nat → Prop, Q = (fun d _ _ => D.val d = some (.fz (enc (decide (a = b))))) := ⟨_, rfl⟩
  rw [← hQ]
  have hf : a ≠ b → ∀ {H' n'}, Q (.fz (.b false)) H' n' := fun h H' n' => by rw [hQ]; show _ = some (D.fz (.b (decide (a = b)))); rw [decide_eq_false h]; rfl
  have ht : a = b → ∀ {H' n'}, Q (.fz (.b true)) H' n' := fun h H' n' => by rw [hQ]; show _ = some (D.fz (.b (decide (a = b)))); rw [decide_eq_true h]; rfl
  have hsl : a.length ≤ maxL := by
    have := Wf_sl hwa
    simpa using this
  unfold maxL at hsl
  have kf := Kp.mk @hf
  have kt := Kp.mk @ht
  clear hf ht hQ hwa hwb
  refine Wcall_K (N := 26) hm hV37 109000 (lst []) ok109 Tryd.func109 rfl rfl (by simp) (by kernel_rfl) ?_
  repeat' (first | refine CondK.d (fun _ => ?_) (fun _ => ?_) | refine rq fun _ => ?_ | simp only [go_sem, Tryd.f109])
  all_goals try (refine kf.out (fun e => ?_); subst e; omega)
  rename_i e1
  have hlen : a.length = b.length := by omega
  refine WK_loop hm hV37 109000 (lst []) (ι := LoopI a.length fun i => a.take i = b.take i)
    ⟨fun q => ⟨frL [(0, .fz (.sl (a.map enc))), (1, .fz (.sl (b.map enc))), (12, .fz (.i .i64 a.length)), (13, .fz (.i .i64 q.i))], hpL [], 0⟩, fun q => a.length - q.i⟩
    ⟨0, by omega, rfl⟩ (by kernel_rfl) ?_ ?_
  · refine Weak_to ?_ ?_ ?_ <;> simp only [go_sem]
  rintro ⟨i, hi, hpi⟩
  rcases Nat.lt_or_ge i a.length with h1 | h1
  · have h2 : i < b.length := by omega
    obtain ⟨x, hx⟩ : ∃ x, a[i] = x := ⟨_, rfl⟩
    obtain ⟨y, hy⟩ : ∃ y, b[i] = y := ⟨_, rfl⟩
    by_cases hxy : x = y
    · repeat' (first | refine rq fun _ => ?_ | simp only [go_sem, h1, h2, hx, hy, eq_true hxy, getD_map_lt, Tryd.f109])
      refine ⟨⟨i + 1, by omega, ?_⟩, by simp only; omega, ?_⟩
      · rw [List.take_succ_eq_append_getElem h1, List.take_succ_eq_append_getElem h2, hpi, hx, hy, hxy]
      · refine Weak_to ?_ ?_ ?_ <;> simp only [go_sem]
    · repeat' (first | refine rq fun _ => ?_ | simp only [go_sem, h1, h2, hx, hy, eq_false hxy, getD_map_lt, Tryd.f109])
      exact kf.out fun e => hxy (by subst e; rw [← hx, ← hy])
  · have h1' : ¬ i < a.length := by omega
    obtain rfl : i = a.length := by omega
    repeat' (first | refine rq fun _ => ?_ | simp only [go_sem, Nat.lt_irrefl, h1', Tryd.f109])
    exact kt.out (eq_of_take hlen hpi)

def M39 : Tbl := M38.add 67 (sp2 (fun a b : Abs.Form => decide (a = b)) fun _ _ => True)
attribute [go_sem] M39
set_option maxRecDepth 100000 in
set_option maxHeartbeats 1000000 in
theorem hM39 : TblOk Tryd.prog GA M39 := by
  refine sp2_rec Form.size ok67 hM38 fun n hT a b hn hwa hwb => ?_
  obtain ⟨Q, hQ⟩ : ∃ Q : D → Heap → Nat → Prop, Q = (fun d _ _ => D.val d = some (.fz (enc (decide (a = b))))) := ⟨_, rfl⟩
  rw [← hQ]
  have hf : a ≠ b → ∀ {H' n'}, Q (.fz (.b false)) H' n' := fun h H' n' => by rw [hQ]; show _ = some (D.fz (.b (decide (a = b)))); rw [decide_eq_false h]; rfl
  have ht : a = b → ∀ {H' n'}, Q (.fz (.b true)) H' n' := fun h H' n' => by rw [hQ]; show _ = some (D.fz (.b (decide (a = b)))); rw [decide_eq_true h]; rfl
  have hsl : a.subs.length ≤ maxL := by
    have h := Wf_agg (by have h := hwa; rw [enc_form] at h; exact h) (FD.sl (a.subs.map enc)) (by simp)
    have := Wf_sl h
    simpa using this
  unfold maxL at hsl
  have hsz : ∀ g ∈ a.subs, g.size < n := fun g hg => by have := Form.size_sub hg; omega
  have kf := Kp.mk @hf
  have kt := Kp.mk @ht
  have kz := Kp.mk hsz
  have kT := Kp.mk hT
  clear hf ht hQ hwa hwb hsz hT
  refine Wcall_K (N := 54) hm kT.out 67000 (lst []) ok67 Tryd.func67 rfl rfl (by simp) (by kernel_rfl) ?_
  repeat' (first | refine CondK.d (fun _ => ?_) (fun _ => ?_) | refine CondK.i (fun _ => ?_) (fun _ => ?_) | refine rq fun _ => ?_ | simp only [go_sem, Tryd.f67, *])
  all_goals try (refine kf.out (fun e => ?_); subst e; contradiction)
  rename_i e1 e2 e3 e4
  have hlen : a.subs.length = b.subs.length := by omega
  refine WK_loop hm kT.out 67000 (lst []) (ι := LoopI a.subs.length fun i => a.subs.take i = b.subs.take i)
    ⟨fun q => ⟨frL [(2, .ptr (67002, 0) 0), (3, .ptr (67003, 1) 0), (37, .fz (.i .i64 a.subs.length)), (38, .fz (.i .i64 q.i))],
      hpL [((67002, 0), some ⟨[.fz (.i .i64 a.kind), .fz (.s a.name.l), .fz (.sl (a.words.map enc)), .fz (.sl (a.subs.map enc))], true, false⟩), ((67003, 1), some ⟨[.fz (.i .i64 b.kind), .fz (.s b.name.l), .fz (.sl (b.words.map enc)), .fz (.sl (b.subs.map enc))], true, false⟩)], 2⟩, fun q => a.subs.length - q.i⟩
    ⟨0, by omega, rfl⟩ (by kernel_rfl) ?_ ?_
  · refine Weak_to ?_ ?_ ?_ <;> simp only [go_sem, *]
  rintro ⟨i, hi, hpi⟩
  rcases Nat.lt_or_ge i a.subs.length with h1 | h1
  · have h2 : i < b.subs.length := by omega
    obtain ⟨x, hx⟩ : ∃ x, a.subs[i] = x := ⟨_, rfl⟩
    obtain ⟨y, hy⟩ : ∃ y, b.subs[i] = y := ⟨_, rfl⟩
    have hxs : x.size < n := kz.out x (by rw [← hx]; exact List.getElem_mem h1)
    by_cases hxy : x = y
    · repeat' (first | refine rq fun _ => ?_ | simp only [go_sem, h1, h2, hx, hy, hxs, eq_true hxy, getD_map_lt, Tryd.f67])
      refine ⟨⟨i + 1, by omega, ?_⟩, by simp only; omega, ?_⟩
      · rw [List.take_succ_eq_append_getElem h1, List.take_succ_eq_append_getElem h2, hpi, hx, hy, hxy]
      · refine Weak_to ?_ ?_ ?_ <;> simp only [go_sem]
    · repeat' (first | refine rq fun _ => ?_ | simp only [go_sem, h1, h2, hx, hy, hxs, eq_false hxy, getD_map_lt, Tryd.f67])
      exact kf.out fun e => hxy (by subst e; rw [← hx, ← hy])
  · have h1' : ¬ i < a.subs.length := by omega
    obtain rfl : i = a.subs.length := by omega
    repeat' (first | refine rq fun _ => ?_ | simp only [go_sem, Nat.lt_irrefl, h1', Tryd.f67])
    exact kt.out (form_ext e1 e2 e3 (eq_of_take hlen hpi))


def checkE (f : Abs.Form) (name mod : Str) : Fault := if (checkM false f).code ≠ 0 then checkM false f else if isName name = false then ⟨10, -2⟩ else if isName mod = false then ⟨10, -3⟩ else ⟨0, 0⟩
def M40 : Tbl := M39.add 62 (sp3 checkE fun _ _ _ => True)
attribute [go_sem] M40
set_option maxRecDepth 100000 in
set_option maxHeartbeats 1000000 in
theorem hM40 : TblOk Tryd.prog GA M40 := by
  refine sp3_ok ok62 hM39 fun f name mod _ _ _ _ => ?_
  by_cases h1 : ¬ (checkM false f).code = 0
  · have e : checkE f name mod = checkM false f := by unfold checkE; rw [if_pos h1]
    refine Wcall_K (N := 23) hm hM39 62000 (lst []) ok62 Tryd.func62 rfl rfl (by simp) (by kernel_rfl) ?_
    repeat' (first | refine rq fun _ => ?_ | refine ReqK.i (fits_of2 (by first | omega | (simp only [List.length_map, List.length_take, List.length_append, List.length_cons, List.length_nil]; omega)) (by decide)) fun _ => ?_ | simp only [go_sem, h1, e, form_eta, str_eta, Tryd.f62])
  have h1 := Decidable.not_not.1 h1
  cases h2 : isName name with
  | false =>
    have e : checkE f name mod = ⟨10, -2⟩ := by unfold checkE; rw [if_neg (by simp [h1]), if_pos h2]
    refine Wcall_K (N := 23) hm hM39 62000 (lst []) ok62 Tryd.func62 rfl rfl (by simp) (by kernel_rfl) ?_
    repeat' (first | refine rq fun _ => ?_ | refine ReqK.i (fits_of2 (by first | omega | (simp only [List.length_map, List.length_take, List.length_append, List.length_cons, List.length_nil]; omega)) (by decide)) fun _ => ?_ | simp only [go_sem, h1, h2, e, form_eta, str_eta, Tryd.f62])
  | true =>
    cases h3 : isName mod with
    | false =>
      have e : checkE f name mod = ⟨10, -3⟩ := by unfold checkE; rw [if_neg (by simp [h1]), if_neg (by simp [h2]), if_pos h3]
      refine Wcall_K (N := 23) hm hM39 62000 (lst []) ok62 Tryd.func62 rfl rfl (by simp) (by kernel_rfl) ?_
      repeat' (first | refine rq fun _ => ?_ | refine ReqK.i (fits_of2 (by first | omega | (simp only [List.length_map, List.length_take, List.length_append, List.length_cons, List.length_nil]; omega)) (by decide)) fun _ => ?_ | simp only [go_sem, h1, h2, h3, e, form_eta, str_eta, Tryd.f62])
    | true =>
      have e : checkE f name mod = ⟨0, 0⟩ := by unfold checkE; rw [if_neg (by simp [h1]), if_neg (by simp [h2]), if_neg (by simp [h3])]
      refine Wcall_K (N := 23) hm hM39 62000 (lst []) ok62 Tryd.func62 rfl rfl (by simp) (by kernel_rfl) ?_
      repeat' (first | refine rq fun _ => ?_ | refine ReqK.i (fits_of2 (by first | omega | (simp only [List.length_map, List.length_take, List.length_append, List.length_cons, List.length_nil]; omega)) (by decide)) fun _ => ?_ | simp only [go_sem, h1, h2, h3, e, form_eta, str_eta, Tryd.f62])

def M41 : Tbl := M40.add 69 (sp1 (joinM 5) fun l : List Abs.Form => l ≠ [] ∧ l.length ≤ 1000000)
attribute [go_sem] M41
set_option maxRecDepth 100000 in
set_option maxHeartbeats 1000000 in
theorem hM41 : TblOk Tryd.prog GA M41 := by
  refine sp1_ok ok69 hM40 fun l hpre _ => ?_
  obtain ⟨hne, hll⟩ := hpre
  obtain ⟨f0, tl, rfl⟩ : ∃ f0 tl, l = f0 :: tl := by
    cases l with
    | nil => exact absurd rfl hne
    | cons a t => exact ⟨a, t, rfl⟩
  obtain ⟨J, hJ⟩ : ∃ J : Nat → Abs.Form, J = fun i => joinM 5 ((f0 :: tl).take (i + 1)) := ⟨_, rfl⟩
  have hJ0 : J 0 = f0 := by rw [hJ]; rfl
  have hJs : ∀ i (h : i < tl.length), J (i + 1) = andF (J i) tl[i] := fun i h => by rw [hJ]; exact joinM_cast 5 (l := f0 :: tl) (by simpa using h)
  have hJe : joinM 5 (f0 :: tl) = J tl.length := by rw [hJ]; simp only [← List.length_cons (a := f0), List.take_length]
  have hcut : ∀ y, cutFD (y :: tl.map enc) (1 : Int) ((tl.length : Int) + 1) = tl.map enc := fun y => by
    unfold cutFD
    rw [show ((tl.length : Int) + 1).toNat = tl.length + 1 by omega, List.take_succ_cons, List.take_of_length_le (by rw [List.length_map]; exact Nat.le_refl _)]
    rfl
  have hq1 : (1 : Int) = (tl.length : Int) + 1 ∨ ((tl.map enc).getD 0 FD.nilf).cells.length = 4 := by
    cases tl with
    | nil => exact .inl rfl
    | cons x t => exact .inr (by show (enc x).cells.length = 4; rw [enc_form]; rfl)
  simp only [List.length_cons] at hll
  have kJ := Kp.mk hJs
  rw [hJe]
  clear hJ hJs hJe hne
  refine Wcall_K (N := 21) hm hM40 69000 (lst []) ok69 Tryd.func69 rfl rfl (by simp) (by kernel_rfl) ?_
  repeat' (first | refine ReqK.i ⟨by omega, by omega, hq1⟩ fun _ => ?_ | refine rq fun _ => ?_ | refine ReqK.i (fits_of2 (by first | omega | (simp only [List.length_map, List.length_take, List.length_append, List.length_cons, List.length_nil]; omega)) (by decide)) fun _ => ?_ | simp only [go_sem, hcut, List.length_cons, Tryd.f69])
  refine WK_loop hm hM40 69000 (lst []) (ι := LoopM tl.length 2 fun _ => True)
    ⟨fun q => ⟨frL [(2, .ptr (69002, 0) 0), (3, .ptr (69003, 1) 0), (10, .fz (.sl (tl.map enc))), (11, .fz (.i .i64 tl.length)), (12, .fz (.i .i64 q.i))],
      hpL [((69002, 0), some ⟨[.fz (.i .i64 0), .fz (.s []), .full [], .full []], true, false⟩), ((69003, 1), some ⟨[.fz (.i .i64 (J q.i).kind), .fz (.s (J q.i).name.l), .fz (.sl ((J q.i).words.map enc)), .fz (.sl ((J q.i).subs.map enc))], true, false⟩)], q.m⟩, fun q => tl.length - q.i⟩
    ⟨0, 2, by omega, by omega, trivial⟩ (by kernel_rfl) ?_ ?_
  · refine Weak_to ?_ ?_ ?_ <;> simp only [go_sem, hJ0, enc_form, hcut]
    all_goals first | done | rfl | trace_state
  rintro ⟨i, m, hi, hm1, _⟩
  try simp only at hi hm1
  rcases Nat.lt_or_ge i tl.length with h2 | h2
  · have hs := kJ.out i h2
    obtain ⟨x, hx⟩ : ∃ x, tl[i] = x := ⟨_, rfl⟩
    rw [hx] at hs
    obtain ⟨y, hy⟩ : ∃ y, J i = y := ⟨_, rfl⟩
    rw [hy] at hs
    repeat' (first | refine rq fun _ => ?_ | refine ReqK.i (fits_of2 (by first | omega | (simp only [List.length_map, List.length_take, List.length_append, List.length_cons, List.length_nil]; omega)) (by decide)) fun _ => ?_ | simp only [go_sem, h2, hx, hy, form_eta, getD_map_lt, Tryd.f69])
    refine ⟨⟨i + 1, m + 3, by omega, by omega, trivial⟩, by simp only; omega, ?_⟩
    refine Weak_g [] [] [] ?_ ?_ ?_ ?_ ?_ <;> (try simp only [go_sem, hs])
    all_goals first | done | omega | rfl | trace_state
  · obtain rfl : i = tl.length := by omega
    repeat' (first | refine rq fun _ => ?_ | refine ReqK.i (fits_of2 (by first | omega | (simp only [List.length_map, List.length_take, List.length_append, List.length_cons, List.length_nil]; omega)) (by decide)) fun _ => ?_ | simp only [go_sem, Nat.lt_irrefl, form_eta, Tryd.f69])

/-! ## Modify$1 and Drop$1 -/

set_option maxRecDepth 100000 in
set_option maxHeartbeats 1000000 in
set_option maxHeartbeats 8000000 in
theorem f65 {nm mod : Str} (c : Abs.Form) (hpre : evPre c) : Wcall Tryd.prog GA 65 [.fz (enc c), .rp [.s nm.l], .rp [.s mod.l]] (hpL []) 0 (fun d _ _ => D.val d = some (.fz (enc (dropBy nm mod c)))) := by
  have hp2 := hpre.2
  by_cases hk : c.kind = 9
  rotate_left
  · have e1 : evM c = ([], false) := by unfold evM; rw [if_neg hk]
    have e : dropBy nm mod c = c := by unfold dropBy; rw [isE_other hk]; rfl
    rw [e]
    refine Wcall_K (N := 54) hm hM41 65000 (lsw [46] []) ok65 Tryd.func65 rfl rfl (by simp) (by kernel_rfl) ?_
    repeat' (first | refine ReqK.i hpre fun _ => ?_ | refine rq fun _ => ?_ | refine ReqK.i (fits_of2 (by first | omega | (simp only [List.length_map, List.length_take, List.length_append, List.length_cons, List.length_nil]; omega)) (by decide)) fun _ => ?_ | simp only [go_sem, e1, form_eta, Tryd.f65])
  have e1 : evM c = (partsE c, okE c) := by unfold evM; rw [if_pos hk]
  cases hok : okE c with
  | false =>
    have e : dropBy nm mod c = c := by unfold dropBy isE; rw [hok]; rfl
    rw [e]
    refine Wcall_K (N := 54) hm hM41 65000 (lsw [46] []) ok65 Tryd.func65 rfl rfl (by simp) (by kernel_rfl) ?_
    repeat' (first | refine ReqK.i hpre fun _ => ?_ | refine rq fun _ => ?_ | refine ReqK.i (fits_of2 (by first | omega | (simp only [List.length_map, List.length_take, List.length_append, List.length_cons, List.length_nil]; omega)) (by decide)) fun _ => ?_ | simp only [go_sem, e1, hok, form_eta, Tryd.f65])
  | true =>
    obtain ⟨a, ha⟩ := one_of ((wfE_eq.1 hpre.1).2.1 hk)
    obtain ⟨x0, tl, hx⟩ : ∃ x tl, partsE c = x :: tl := ⟨_, _, parts_cons c⟩
    have hh : headE c = x0 := by unfold headE; rw [hx]; rfl
    have hlen := (partsE_len hpre.1 hk).2
    rw [hx, List.length_cons] at hlen
    rw [hx] at e1
    by_cases hn : x0.name = nm
    rotate_left
    · have e : dropBy nm mod c = c := by unfold dropBy isE; rw [hok, hh, decide_eq_false hn]; rfl
      have hn' : (x0.name = nm) = False := eq_false hn
      rw [e]
      refine Wcall_K (N := 54) hm hM41 65000 (lsw [46] []) ok65 Tryd.func65 rfl rfl (by simp) (by kernel_rfl) ?_
      repeat' (first | refine ReqK.i hpre fun _ => ?_ | refine rq fun _ => ?_ | refine ReqK.i (fits_of2 (by first | omega | (simp only [List.length_map, List.length_take, List.length_append, List.length_cons, List.length_nil]; omega)) (by decide)) fun _ => ?_ | simp only [go_sem, e1, hok, hn', str_eta, form_eta, Tryd.f65])
    subst hn
    obtain ⟨y, hy⟩ : ∃ y, predM mod [c.name] = y := ⟨_, rfl⟩
    obtain ⟨K, hK⟩ : ∃ K : Nat → List Abs.Form, K = fun i => x0 :: (tl.take i).filter fun x => !decide (x = y) := ⟨_, rfl⟩
    have hK0 : K 0 = [x0] := by rw [hK]; rfl
    have hKs : ∀ i (h : i < tl.length), K (i + 1) = if tl[i] = y then K i else K i ++ [tl[i]] := fun i h => by
      rw [hK]
      simp only [List.take_succ_eq_append_getElem h, List.filter_append, List.filter_cons, List.filter_nil]
      by_cases h2 : tl[i] = y <;> simp [h2]
    have hKl : ∀ i, (K i).length ≤ tl.length + 1 := fun i => by
      rw [hK]
      have := List.length_filter_le (fun x => !decide (x = y)) (tl.take i)
      rw [List.length_take] at this
      simp only [List.length_cons]; omega
    have hKn : K tl.length ≠ [] := by rw [hK]; simp
    obtain ⟨J, hJ⟩ : ∃ J, joinM 5 (K tl.length) = J := ⟨_, rfl⟩
    have e : dropBy x0.name mod c = .mk 9 c.name [] [J] := by
      have h3 : keepE mod c = K tl.length := by
        unfold keepE
        rw [hh, hx, hK]
        simp only [List.take_length, List.drop_succ_cons, List.drop_zero]
        rw [← hy]; rfl
      unfold dropBy isE
      rw [hok, hh, decide_eq_true rfl, h3, hJ]; rfl
    rw [e]
    have hcut : ∀ y : FD, cutFD (y :: tl.map enc) (1 : Int) ((tl.length : Int) + 1) = tl.map enc := fun y => by
      unfold cutFD
      rw [show ((tl.length : Int) + 1).toNat = tl.length + 1 by omega, List.take_succ_cons, List.take_of_length_le (by rw [List.length_map]; exact Nat.le_refl _)]
      rfl
    have hcut1 : ∀ y : FD, cutFD (y :: tl.map enc) (0 : Int) (1 : Int) = [y] := fun y => rfl
    have hq1 : (1 : Int) = (tl.length : Int) + 1 ∨ ((tl.map enc).getD 0 FD.nilf).cells.length = 4 := by
      cases tl with
      | nil => exact .inl rfl
      | cons x t => exact .inr (by show (enc x).cells.length = 4; rw [enc_form]; rfl)
    have hq2 : (enc x0).cells.length = 4 := by rw [enc_form]; rfl
    have hjp : K tl.length ≠ [] ∧ (K tl.length).length ≤ 1000000 := ⟨hKn, by have := hKl tl.length; omega⟩
    have kK := Kp.mk hKs
    have kL := Kp.mk hKl
    clear hK hKs hKl hKn e
    refine Wcall_K (N := 54) hm hM41 65000 (lsw [46] []) ok65 Tryd.func65 rfl rfl (by simp) (by kernel_rfl) ?_
    repeat' (first | refine ReqK.i hpre fun _ => ?_ | refine ReqK.i ⟨by omega, by omega, hq1⟩ fun _ => ?_ | refine ReqK.i ⟨by omega, by omega, .inr hq2⟩ fun _ => ?_ | refine rq fun _ => ?_ | refine ReqK.i (fits_of2 (by first | omega | (simp only [List.length_map, List.length_take, List.length_append, List.length_cons, List.length_nil]; omega)) (by decide)) fun _ => ?_ | simp only [go_sem, e1, hok, hcut, hcut1, List.length_cons, str_eta, form_eta, Tryd.f65])
    refine WK_loop hm hM41 65000 (lsw [46] []) (ι := LoopG tl.length 3 fun _ => True)
      ⟨fun q => ⟨frL [(2, .rp [.s mod.l]), (3, .ptr (65003, 0) 0), (4, .ptr (65004, 1) 0), (7, .ow (65046, q.g) 4 ((K q.i).map enc)), (29, .fz (.sl (tl.map enc))), (30, .fz (.i .i64 tl.length)), (31, .fz (.i .i64 q.i))],
        hpL [((65003, 0), some ⟨[.fz (.i .i64 c.kind), .fz (.s c.name.l), .fz (.sl (c.words.map enc)), .fz (.sl (c.subs.map enc))], true, false⟩), ((65004, 1), some ⟨[.fz (.i .i64 0), .fz (.s []), .full [], .full []], true, false⟩), ((65046, q.g), some tok)], q.m⟩, fun q => tl.length - q.i⟩
      ⟨0, 2, 3, by omega, by omega, by omega, trivial⟩ (by kernel_rfl) ?_ ?_
    · refine Weak_g [] [(65046, 2)] [] ?_ ?_ ?_ ?_ ?_ <;> simp only [go_sem, hK0, hcut, hcut1]
      all_goals first | done | rfl | omega | trace_state
    rintro ⟨i, g, m, hi, hg, hm1, _⟩
    try simp only at hi hg hm1
    rcases Nat.lt_or_ge i tl.length with h1 | h1
    · have hs := kK.out i h1
      have hl := kL.out i
      obtain ⟨x, hxi⟩ : ∃ x, tl[i] = x := ⟨_, rfl⟩
      rw [hxi] at hs
      by_cases hxy : x = y
      · rw [if_pos hxy] at hs
        have hxy' : (x = y) = True := eq_true hxy
        repeat' (first | refine rq fun _ => ?_ | refine ReqK.i (fits_of2 (by first | omega | (simp only [List.length_map, List.length_take, List.length_append, List.length_cons, List.length_nil]; omega)) (by decide)) fun _ => ?_ | simp only [go_sem, h1, hxi, hy, hxy', str_eta, form_eta, getD_map_lt, Tryd.f65])
        refine ⟨⟨i + 1, g, m + 3, by omega, by omega, by omega, trivial⟩, by simp only; omega, ?_⟩
        refine Weak_to ?_ ?_ ?_ <;> (try simp only [go_sem, hs])
        all_goals first | done | omega | rfl | trace_state
      · rw [if_neg hxy] at hs
        have hxy' : (x = y) = False := eq_false hxy
        repeat' (first | refine rq fun _ => ?_ | refine ReqK.i (fits_of2 (by first | omega | (simp only [List.length_map, List.length_take, List.length_append, List.length_cons, List.length_nil]; omega)) (by decide)) fun _ => ?_ | simp only [go_sem, h1, hxi, hy, hxy', str_eta, form_eta, getD_map_lt, Tryd.f65])
        refine ⟨⟨i + 1, m + 1, m + 5, by omega, by omega, by omega, trivial⟩, by simp only; omega, ?_⟩
        refine Weak_to ?_ ?_ ?_ <;> (try simp only [go_sem, hs, List.map_append])
        all_goals first | done | omega | rfl | trace_state
    · obtain rfl : i = tl.length := by omega
      repeat' (first | refine ReqK.i hjp fun _ => ?_ | refine rq fun _ => ?_ | refine ReqK.i (fits_of2 (by first | omega | (simp only [List.length_map, List.length_take, List.length_append, List.length_cons, List.length_nil]; omega)) (by decide)) fun _ => ?_ | simp only [go_sem, Nat.lt_irrefl, hJ, str_eta, form_eta, Tryd.f65])
end Go.Proofs.YtbbjghecpcobjaaDoor

import Derived.Test.YtbbjghecpcobjaaDoorAT
import Derived.Test.YtbbjghecpcobjaaDoorQ105
set_option linter.unusedSimpArgs false
namespace Go.Proofs.YtbbjghecpcobjaaDoor
open Go Go.Abs Go.Proofs

/-! ## the first branch -/
def badA : List Abs.Form → Nat → Fault
  | [], _ => ⟨0, 0⟩
  | f :: l, i => if (checkM false f).code ≠ 0 then ⟨(checkM false f).code, i⟩ else badA l (i + 1)
def canL (l : List Abs.Form) : List Abs.Form := l.map fun f => canonM f []
theorem canL_len (l : List Abs.Form) : (canL l).length = l.length := List.length_map _
def beginP (ax : List Abs.Form) (g : Abs.Form) : List Abs.Form × Fault :=
  if 40 < ax.length then ([], ⟨2, -1⟩) else if (badA ax 0).code ≠ 0 then ([], badA ax 0)
  else if (checkM false g).code ≠ 0 then ([], ⟨(checkM false g).code, -2⟩) else (canL ax ++ [negM g], ⟨0, 0⟩)
theorem badA_step : ∀ (l : List Abs.Form) (k i : Nat) (h : i < l.length), (∀ f ∈ l.take i, (checkM false f).code = 0) → (checkM false l[i]).code ≠ 0 → badA l k = ⟨(checkM false l[i]).code, ((k + i : Nat) : Int)⟩
  | f :: l, k, 0, _, _, h2 => by
    have h3 : (checkM false f).code ≠ 0 := h2
    rw [badA, if_pos h3]; rfl
  | f :: l, k, i + 1, h, h1, h2 => by
    rw [badA, if_neg (by simp [h1 f (by simp)]), badA_step l (k + 1) i (by simpa using h) (fun g hg => h1 g (by rw [List.take_succ_cons]; exact List.mem_cons_of_mem _ hg)) h2]
    simp only [List.getElem_cons_succ, Fault.mk.injEq, true_and]
    omega
theorem badA_zero : ∀ (l : List Abs.Form) (k : Nat), (∀ f ∈ l, (checkM false f).code = 0) → badA l k = ⟨0, 0⟩
  | [], _, _ => rfl
  | f :: l, k, h => by rw [badA, if_neg (by simp [h f (by simp)]), badA_zero l _ fun g hg => h g (by simp [hg])]
def tree449 : Tv := (.q 0 (.q 1 (.q 2 (.q 3 (.q 4 (.br [(5, .leaf)]))))))
def tree4414 : Tv := (.q 0 (.q 1 (.q 2 (.q 3 (.br [(4, .leaf)])))))
def N5 : Tbl := N4.add 44 (sp2p beginP fun _ _ => True)
attribute [go_sem] N5
set_option maxRecDepth 100000 in
set_option maxHeartbeats 1000000 in
set_option maxHeartbeats 4000000 in
theorem hN5 : TblOk Tryd.prog GA N5 := by
  refine sp2p_ok ok44 hN4 fun ax g _ hwa _ => ?_
  have hsl : ax.length ≤ maxL := by
    have := Wf_sl hwa
    simpa using this
  unfold maxL at hsl
  clear hwa
  by_cases h40 : 40 < ax.length
  · have e : beginP ax g = ([], ⟨2, -1⟩) := by unfold beginP; rw [if_pos h40]
    have h40' : ((40 : Int) < ax.length) = True := eq_true (by omega)
    rw [e]
    refine Wcall_K (N := 51) hm hN4 44000 (lsw [35, 49] [1000009, 1000014]) ok44 Tryd.func44 rfl rfl (by simp) (by kernel_rfl) ?_
    repeat' (first | refine And.intro ?_ ?_ | exact True.intro | refine rq fun _ => ?_ | simp only [go_sem, h40', form_eta, Tryd.f44])
  have h40' : ((40 : Int) < ax.length) = False := eq_false (by omega)
  refine Wcall_K (N := 51) hm hN4 44000 (lsw [35, 49] [1000009, 1000014]) ok44 Tryd.func44 rfl rfl (by simp) (by kernel_rfl) ?_
  repeat' (first | refine And.intro ?_ ?_ | exact True.intro | refine rq fun _ => ?_ | simp only [go_sem, h40', form_eta, Tryd.f44])
  refine WK_loop hm hN4 44000 (lsw [35, 49] [1000009, 1000014]) (ι := LoopG ax.length 3 fun i => ∀ f ∈ ax.take i, (checkM false f).code = 0)
    ⟨fun q => ⟨frL [(3, .ptr (44003, 0) 0), (5, .ptr (44005, 1) 0), (6, .ow (44035, q.g) 4 ((canL (ax.take q.i)).map enc)), (15, .fz (.sl (ax.map enc))), (16, .fz (.i .i64 ax.length)), (17, .fz (.i .i64 q.i))],
      hpL [((44003, 0), some ⟨[.fz (.i .i64 g.kind), .fz (.s g.name.l), .fz (.sl (g.words.map enc)), .fz (.sl (g.subs.map enc))], true, false⟩), ((44005, 1), some ⟨[.fz (.i .i64 0), .fz (.i .i64 0)], true, false⟩), ((44035, q.g), some tok)], q.m⟩, fun q => ax.length - q.i⟩
    ⟨0, 2, 3, by omega, by omega, by omega, by simp⟩ (by kernel_rfl) ?_ ?_
  · refine Weak_g [] [(44035, 2)] [] ?_ ?_ ?_ ?_ ?_ <;> simp only [go_sem]
    all_goals first | done | rfl | omega | trace_state
  rintro ⟨i, gg, m, hi, hg, hm1, hp⟩
  try simp only at hi hg hm1 hp
  rcases Nat.lt_or_ge i ax.length with h1 | h1
  · obtain ⟨x, hx⟩ : ∃ x, ax[i] = x := ⟨_, rfl⟩
    by_cases hc : (checkM false x).code = 0
    rotate_left
    · have eb := badA_step ax 0 i h1 hp (by rw [hx]; exact hc)
      rw [hx, Nat.zero_add] at eb
      have e : beginP ax g = ([], ⟨(checkM false x).code, (i : Int)⟩) := by unfold beginP; rw [if_neg h40, eb, if_pos hc]
      rw [e]
      obtain ⟨X, hX⟩ : ∃ X, checkM false x = X := ⟨_, rfl⟩
      rw [hX] at hc
      rw [hX]
      repeat' (first | refine WK_drawV (id := 9) hm hN4 44000 (lsw [35, 49] [1000009, 1000014]) tree449 (by kernel_rfl) (by kernel_rfl) ?_ | refine And.intro ?_ ?_ | exact True.intro | refine rq fun _ => ?_ | simp only [go_sem, h1, hx, hX, hc, getD_map_lt, form_eta, tree449, Tryd.f44])
    · have hcz := checkM_code hc
      have hcp : x.fit = true ∧ x.size ≤ 1000 := ⟨checkM_fit hc, by have := checkM_size hc; omega⟩
      have et : canL (ax.take (i + 1)) = canL (ax.take i) ++ [canonM x []] := by
        unfold canL
        rw [List.take_succ_eq_append_getElem h1, List.map_append, hx]; rfl
      have hlt : (canL (ax.take i)).length = i := by rw [canL_len, List.length_take]; omega
      repeat' (first | refine ReqK.i hcp fun _ => ?_ | refine ReqK.i (fits_of2 (by first | omega | (simp only [List.length_map, List.length_take, List.length_append, List.length_cons, List.length_nil]; omega)) (by decide)) fun _ => ?_ | refine And.intro ?_ ?_ | exact True.intro | refine rq fun _ => ?_ | simp only [go_sem, h1, hx, hcz, getD_map_lt, form_eta, Tryd.f44])
      refine ⟨⟨i + 1, m + 2, m + 3, by omega, by omega, by omega, ?_⟩, by simp only; omega, ?_⟩
      · rw [List.take_succ_eq_append_getElem h1, hx]
        intro f hf
        rcases List.mem_append.1 hf with hf | hf
        · exact hp f hf
        · rw [List.mem_singleton.1 hf]; exact hc
      refine Weak_to ?_ ?_ ?_ <;> simp only [go_sem, et, List.map_append]
      all_goals first | done | rfl | omega | trace_state
  · obtain rfl : i = ax.length := by omega
    rw [List.take_length] at hp
    have eb := badA_zero ax 0 hp
    by_cases hc : (checkM false g).code = 0
    rotate_left
    · have e : beginP ax g = ([], ⟨(checkM false g).code, -2⟩) := by unfold beginP; rw [if_neg h40, eb, if_neg (by decide), if_pos hc]
      rw [e]
      obtain ⟨X, hX⟩ : ∃ X, checkM false g = X := ⟨_, rfl⟩
      rw [hX] at hc
      rw [hX]
      repeat' (first | refine WK_drawV (id := 14) hm hN4 44000 (lsw [35, 49] [1000009, 1000014]) tree4414 (by kernel_rfl) (by kernel_rfl) ?_ | refine And.intro ?_ ?_ | exact True.intro | refine rq fun _ => ?_ | simp only [go_sem, Nat.lt_irrefl, hX, hc, form_eta, tree4414, Tryd.f44])
    · have hcz := checkM_code hc
      have hgp : g.fit = true ∧ g.size ≤ 900 := ⟨checkM_fit hc, by have := checkM_size hc; omega⟩
      have e : beginP ax g = (canL ax ++ [negM g], ⟨0, 0⟩) := by unfold beginP; rw [if_neg h40, eb, if_neg (by decide), if_neg (by simp [hc])]
      rw [e]
      obtain ⟨R, hR⟩ : ∃ R, negM g = R := ⟨_, rfl⟩
      rw [hR]
      have hlt : (canL ax).length = ax.length := canL_len ax
      repeat' (first | refine ReqK.i hgp fun _ => ?_ | refine ReqK.i (fits_of2 (by first | omega | (simp only [List.length_map, List.length_take, List.length_append, List.length_cons, List.length_nil]; omega)) (by decide)) fun _ => ?_ | refine And.intro ?_ ?_ | exact True.intro | refine rq fun _ => ?_ | simp only [go_sem, Nat.lt_irrefl, List.take_length, hcz, hR, form_eta, List.map_append, Tryd.f44])
end Go.Proofs.YtbbjghecpcobjaaDoor

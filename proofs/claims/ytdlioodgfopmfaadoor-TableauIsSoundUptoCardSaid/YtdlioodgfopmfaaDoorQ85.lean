import Derived.Test.YtdlioodgfopmfaaDoorAT
import Derived.Test.YtdlioodgfopmfaaDoorQ84
set_option maxRecDepth 100000
set_option maxHeartbeats 1000000
set_option linter.unusedSimpArgs false
namespace Go.Abs
open Go
def pvA {α : Type} (l : List α) : Nat → Option α
  | 0 => none
  | i + 1 => l[i]?
theorem pvA_succ {α : Type} {l : List α} {i : Nat} (h : i < l.length) : pvA l (i + 1) = some l[i] := List.getElem?_eq_getElem h
def ccM (m : Model) (i : Nat) : Fault := restC m.size (pvA m.consts i) (m.consts.drop i) i
def rrM (m : Model) (i : Nat) : Fault := restR m.size (pvA m.rels i) (m.rels.drop i) i
def ttM (size arity : Int) (l : List (List Int)) (k : Nat) : Int := restT size arity (pvA l k) (l.drop k)
theorem ccM_step {m : Model} {i : Nat} (h : i < m.consts.length) : ccM m i = if constC m.size (pvA m.consts i) m.consts[i] ≠ 0 then ⟨constC m.size (pvA m.consts i) m.consts[i], i⟩ else ccM m (i + 1) := by
  unfold ccM
  rw [List.drop_eq_getElem_cons h, restC, pvA_succ h]
theorem rrM_step {m : Model} {i : Nat} (h : i < m.rels.length) : rrM m i = if relC m.size (pvA m.rels i) m.rels[i] ≠ 0 then ⟨relC m.size (pvA m.rels i) m.rels[i], i⟩ else rrM m (i + 1) := by
  unfold rrM
  rw [List.drop_eq_getElem_cons h, restR, pvA_succ h]
theorem ttM_step {size arity : Int} {l : List (List Int)} {k : Nat} (h : k < l.length) : ttM size arity l k = if tupC size arity (pvA l k) l[k] ≠ 0 then tupC size arity (pvA l k) l[k] else ttM size arity l (k + 1) := by
  unfold ttM
  rw [List.drop_eq_getElem_cons h, restT, pvA_succ h]
theorem ccM_end (m : Model) : ccM m m.consts.length = ⟨0, 0⟩ := by unfold ccM; rw [List.drop_length, restC]
theorem rrM_end (m : Model) : rrM m m.rels.length = ⟨0, 0⟩ := by unfold rrM; rw [List.drop_length, restR]
theorem ttM_end (size arity : Int) (l : List (List Int)) : ttM size arity l l.length = 0 := by unfold ttM; rw [List.drop_length, restT]
theorem modelM_cc {m : Model} (h1 : ¬ (m.size < 1 ∨ 6 < m.size)) (h2 : ¬ (300 < m.consts.length ∨ 300 < m.rels.length)) : ((ccM m 0).code ≠ 0 → modelM m = ccM m 0) ∧ ((ccM m 0).code = 0 → modelM m = rrM m 0) := by
  unfold modelM
  rw [if_neg h1, if_neg h2]
  exact ⟨fun h => if_pos h, fun h => if_neg fun h2 => h2 h⟩
end Go.Abs
namespace Go.Proofs.YtdlioodgfopmfaaDoor
open Go Go.Abs Go.Proofs
section
variable {G : Nat → List FD}

theorem f70 {c a : Int} {id : Abs.Id} {H : Heap} {n : Nat} {R : D → Heap → Nat → Prop} (hid : id.2 < n) (ho : H id = some ⟨[.fz (.i .i64 a)], true, false⟩) (hR : ∀ n', n ≤ n' → R (.agg [.fz (.i .i64 c), .fz (.i .i64 a)]) H n') :
    Wcall Tryd.prog G 70 [.fz (.i .i64 c), .ptr id 0] H n R := by
  refine Wcall_keep ok70 (fun hfr => ?_) hR
  have hne : id ≠ (70003, n) := by rintro rfl; simp at hid
  obtain ⟨Q, hQ⟩ : ∃ Q : D → Heap → Nat → Prop, Q = (fun d' H' n' => d' = .agg [.fz (.i .i64 c), .fz (.i .i64 a)] ∧ n ≤ n' ∧ ∀ id, id.2 < n → H' id = H id) := ⟨_, rfl⟩
  rw [← hQ]
  have e : H = hpX [] H := rfl
  rw [e]
  refine Wcall_K (N := 7) hm (G := G) hA20 70000 (lst []) ok70 Tryd.func70 rfl rfl (by simp) (by kernel_rfl) ?_
  simp only [go_sem]
  rw [if_neg hne, ho]
  simp only [go_sem, Tryd.f70]
  rw [hQ]
  refine ⟨?_, by omega, fun id hid => hpX_old (n := n) (by intro p hp; simp at hp; rcases hp with rfl | rfl <;> simp) id hid⟩
  simp only [go_sem]

theorem f71 {c a : Int} {id : Abs.Id} {H : Heap} {n : Nat} {R : D → Heap → Nat → Prop} (hid : id.2 < n) (ho : H id = some ⟨[.fz (.i .i64 a)], true, false⟩) (hR : ∀ n', n ≤ n' → R (.agg [.fz (.i .i64 c), .fz (.i .i64 a)]) H n') :
    Wcall Tryd.prog G 71 [.fz (.i .i64 c), .ptr id 0] H n R := by
  refine Wcall_keep ok71 (fun hfr => ?_) hR
  have hne : id ≠ (71003, n) := by rintro rfl; simp at hid
  obtain ⟨Q, hQ⟩ : ∃ Q : D → Heap → Nat → Prop, Q = (fun d' H' n' => d' = .agg [.fz (.i .i64 c), .fz (.i .i64 a)] ∧ n ≤ n' ∧ ∀ id, id.2 < n → H' id = H id) := ⟨_, rfl⟩
  rw [← hQ]
  have e : H = hpX [] H := rfl
  rw [e]
  refine Wcall_K (N := 7) hm (G := G) hA20 71000 (lst []) ok71 Tryd.func71 rfl rfl (by simp) (by kernel_rfl) ?_
  simp only [go_sem]
  rw [if_neg hne, ho]
  simp only [go_sem, Tryd.f71]
  rw [hQ]
  refine ⟨?_, by omega, fun id hid => hpX_old (n := n) (by intro p hp; simp at hp; rcases hp with rfl | rfl <;> simp) id hid⟩
  simp only [go_sem]
def A21 : Tbl := A20.add 36 (sp1 modelM fun _ => True)
attribute [go_sem] A21
set_option maxHeartbeats 20000000 in
theorem hA21 : TblOk Tryd.prog G A21 := by
  refine sp1_ok ok36 hA20 fun m _ hw => ?_
  have hcl := Wf_sl (Wf_agg (by have h := hw; rw [enc_model] at h; exact h) (FD.sl (m.consts.map enc)) (by simp))
  have hrl := Wf_sl (Wf_agg (by have h := hw; rw [enc_model] at h; exact h) (FD.sl (m.rels.map enc)) (by simp))
  simp only [List.length_map, maxL] at hcl hrl
  have htl : ∀ i (h : i < m.rels.length), m.rels[i].tuples.length ≤ 281474976710656 ∧ ∀ k (h2 : k < m.rels[i].tuples.length), m.rels[i].tuples[k].length ≤ 281474976710656 := fun i h => by
    have h3 : (enc m.rels[i]).Wf := Wf_mem (Wf_agg (by have h := hw; rw [enc_model] at h; exact h) (FD.sl (m.rels.map enc)) (by simp)) _ (List.mem_map_of_mem (List.getElem_mem h))
    rw [enc_rel] at h3
    have h4 := Wf_agg h3 (FD.sl (m.rels[i].tuples.map enc)) (by simp)
    have h5 := Wf_sl h4
    simp only [List.length_map, maxL] at h5
    refine ⟨h5, fun k hk => ?_⟩
    have h6 : (enc m.rels[i].tuples[k]).Wf := Wf_mem h4 _ (List.mem_map_of_mem (List.getElem_mem hk))
    have h7 := Wf_sl h6
    simpa [maxL] using h7
  have ktl := Kp.mk htl
  clear htl hw
  by_cases c1 : m.size < 1
  · have e : modelM m = ⟨3, 0⟩ := by unfold modelM; rw [if_pos (.inl c1)]
    rw [e]
    refine Wcall_K (N := 167) hm (G := G) hA20 36000 (lst []) ok36 Tryd.func36 rfl rfl (by simp) (by kernel_rfl) ?_
    repeat' (first | refine rq fun _ => ?_ | simp only [go_sem, c1, Tryd.f36])
  by_cases c2 : 6 < m.size
  · have e : modelM m = ⟨3, 0⟩ := by unfold modelM; rw [if_pos (.inr c2)]
    rw [e]
    refine Wcall_K (N := 167) hm (G := G) hA20 36000 (lst []) ok36 Tryd.func36 rfl rfl (by simp) (by kernel_rfl) ?_
    repeat' (first | refine rq fun _ => ?_ | simp only [go_sem, c1, c2, Tryd.f36])
  by_cases c3 : 300 < m.consts.length
  · have e : modelM m = ⟨2, 0⟩ := by unfold modelM; rw [if_neg (by omega), if_pos (.inl c3)]
    have c3' : (300 < (m.consts.length : Int)) = True := eq_true (by omega)
    rw [e]
    refine Wcall_K (N := 167) hm (G := G) hA20 36000 (lst []) ok36 Tryd.func36 rfl rfl (by simp) (by kernel_rfl) ?_
    repeat' (first | refine rq fun _ => ?_ | simp only [go_sem, c1, c2, c3', Tryd.f36])
  have c3' : (300 < (m.consts.length : Int)) = False := eq_false (by omega)
  by_cases c4 : 300 < m.rels.length
  · have e : modelM m = ⟨2, 0⟩ := by unfold modelM; rw [if_neg (by omega), if_pos (.inr c4)]
    have c4' : (300 < (m.rels.length : Int)) = True := eq_true (by omega)
    rw [e]
    refine Wcall_K (N := 167) hm (G := G) hA20 36000 (lst []) ok36 Tryd.func36 rfl rfl (by simp) (by kernel_rfl) ?_
    repeat' (first | refine rq fun _ => ?_ | simp only [go_sem, c1, c2, c3', c4', Tryd.f36])
  have c4' : (300 < (m.rels.length : Int)) = False := eq_false (by omega)
  obtain ⟨hX1, hX2⟩ := modelM_cc (m := m) (by omega) (by omega)
  obtain ⟨X, hX⟩ : ∃ X, modelM m = X := ⟨_, rfl⟩
  rw [hX] at hX1 hX2 ⊢
  have kX1 := Kp.mk hX1
  have kX2 := Kp.mk hX2
  clear hX1 hX2 hX
  refine Wcall_K (N := 167) hm (G := G) hA20 36000 (lst []) ok36 Tryd.func36 rfl rfl (by simp) (by kernel_rfl) ?_
  repeat' (first | refine rq fun _ => ?_ | simp only [go_sem, c1, c2, c3', c4', Tryd.f36])
  refine WK_loop hm (G := G) hA20 36000 (lst []) (ι := LoopM m.consts.length 2 fun i => ccM m 0 = ccM m i)
    ⟨fun q => ⟨frL [(1, .ptr (36001, 0) 0), (2, .ptr (36002, 1) 0), (34, .fz (.sl (m.consts.map enc))), (35, .fz (.i .i64 m.consts.length)), (36, .fz (.i .i64 q.i))], hpL [((36001, 0), some ⟨[.fz (.i .i64 m.size), .fz (.sl (m.consts.map enc)), .fz (.sl (m.rels.map enc))], true, false⟩), ((36002, 1), some ⟨[.fz (.i .i64 0), .fz (.i .i64 0)], true, false⟩)], q.m⟩, fun q => m.consts.length - q.i⟩
    ⟨0, 2, by omega, by omega, rfl⟩ (by kernel_rfl) ?_ ?_
  · refine Weak_to ?_ ?_ ?_ <;> simp only [go_sem]
  rintro ⟨i, q, hi, hq, hp⟩
  try simp only at hi hq hp
  rcases Nat.lt_or_ge i m.consts.length with h1 | h1
  · have hstep := ccM_step h1
    have hbad : ∀ k : Int, constC m.size (pvA m.consts i) m.consts[i] = k → k ≠ 0 → X = ⟨k, i⟩ := fun k h h2 => by
      rw [h, if_pos h2] at hstep
      rw [kX1.out (by rw [hp, hstep]; exact h2), hp, hstep]
    have hgood : constC m.size (pvA m.consts i) m.consts[i] = 0 → ccM m 0 = ccM m (i + 1) := fun h => by
      rw [h, if_neg (by simp)] at hstep
      rw [hp, hstep]
    obtain ⟨c, hc⟩ : ∃ c, m.consts[i] = c := ⟨_, rfl⟩
    rw [hc] at hbad hgood
    clear hstep
    rcases i with _ | i
    · rw [show pvA m.consts 0 = none from rfl] at hbad hgood
      have h1' : (0 : Int) < (m.consts.length : Int) := by omega
      cases hn : isName c.name with
      | false =>
        rw [hbad 10 (by unfold constC; rw [if_pos hn]) (by decide)]
        repeat' (first | refine rq fun _ => ?_ | simp only [go_sem, h1, h1', hc, const_eta, str_eta, getD_map_lt, hn, Tryd.f36])
        refine WcallK.i (f70 (a := 0) (by simp only; omega) (by simp only [go_sem]) fun n' hn' => ?_)
        repeat' (first | refine rq fun _ => ?_ | simp only [go_sem, Tryd.f36])
      | true =>
        have s1 : ∀ x y z : Int, (if isName c.name = false then x else y) = y := fun x y z => if_neg (by simp [hn])
        by_cases hv0 : c.value < 0
        · rw [hbad 3 (by unfold constC; rw [if_neg (by simp [hn]), if_neg (by simp), if_pos (.inl hv0)]) (by decide)]
          repeat' (first | refine rq fun _ => ?_ | simp only [go_sem, h1, h1', hc, const_eta, str_eta, getD_map_lt, hn, hv0, Tryd.f36])
          refine WcallK.i (f70 (a := 0) (by simp only; omega) (by simp only [go_sem]) fun n' hn' => ?_)
          repeat' (first | refine rq fun _ => ?_ | simp only [go_sem, Tryd.f36])
        by_cases hv1 : m.size ≤ c.value
        · rw [hbad 3 (by unfold constC; rw [if_neg (by simp [hn]), if_neg (by simp), if_pos (.inr hv1)]) (by decide)]
          repeat' (first | refine rq fun _ => ?_ | simp only [go_sem, h1, h1', hc, const_eta, str_eta, getD_map_lt, hn, hv0, hv1, Tryd.f36])
          refine WcallK.i (f70 (a := 0) (by simp only; omega) (by simp only [go_sem]) fun n' hn' => ?_)
          repeat' (first | refine rq fun _ => ?_ | simp only [go_sem, Tryd.f36])
        have hnx := hgood (by unfold constC; rw [if_neg (by simp [hn]), if_neg (by simp), if_neg (by omega)])
        repeat' (first | refine rq fun _ => ?_ | simp only [go_sem, h1, h1', hc, const_eta, str_eta, getD_map_lt, hn, hv0, hv1, Tryd.f36])
        refine ⟨⟨0 + 1, q + 2, by omega, by omega, hnx⟩, by simp only; omega, ?_⟩
        refine Weak_to ?_ ?_ ?_ <;> simp only [go_sem]
        all_goals first | done | omega | rfl
      
    · have h0 : i < m.consts.length := by omega
      rw [pvA_succ h0] at hbad hgood
      obtain ⟨p, hpv⟩ : ∃ p, m.consts[i] = p := ⟨_, rfl⟩
      rw [hpv] at hbad hgood
      have h1' : (i : Int) + 1 < (m.consts.length : Int) := by omega
      have hi0 : (0 : Int) < (i : Int) + 1 := by omega
      have hi1 : (i : Int) + 1 - 1 = (i : Int) := by omega
      have hi2 : ((i : Int) + 1).toNat = i + 1 := by omega
      cases hn : isName c.name with
      | false =>
        rw [hbad 10 (by unfold constC; rw [if_pos hn]) (by decide)]
        repeat' (first | refine rq fun _ => ?_ | simp only [go_sem, h1, h1', hi0, hi1, hi2, hc, const_eta, str_eta, getD_map_lt, hn, Tryd.f36])
        refine WcallK.i (f70 (a := (i : Int) + 1) (by simp only; omega) (by simp only [go_sem]) fun n' hn' => ?_)
        repeat' (first | refine rq fun _ => ?_ | simp only [go_sem, Tryd.f36])
      | true =>
        have s1 : ∀ x y z : Int, (if isName c.name = false then x else y) = y := fun x y z => if_neg (by simp [hn])
        by_cases hlt : p.name.l < c.name.l
        rotate_left
        · have hlt' : Op.bytesLess p.name.l c.name.l = false := by rw [bytesLess_lt']; exact decide_eq_false hlt
          rw [hbad 13 (by unfold constC; rw [if_neg (by simp [hn]), if_pos (by simp only; rw [decide_eq_false hlt]; rfl)]) (by decide)]
          repeat' (first | refine rq fun _ => ?_ | simp only [go_sem, h1, h1', hi0, hi1, hi2, hc, const_eta, str_eta, getD_map_lt, hn, hlt', hpv, h0, Tryd.f36])
          refine WcallK.i (f70 (a := (i : Int) + 1) (by simp only; omega) (by simp only [go_sem]) fun n' hn' => ?_)
          repeat' (first | refine rq fun _ => ?_ | simp only [go_sem, Tryd.f36])
        have hlt' : Op.bytesLess p.name.l c.name.l = true := by rw [bytesLess_lt']; exact decide_eq_true hlt
        by_cases hv0 : c.value < 0
        · rw [hbad 3 (by unfold constC; rw [if_neg (by simp [hn]), if_neg (by simp [hlt]), if_pos (.inl hv0)]) (by decide)]
          repeat' (first | refine rq fun _ => ?_ | simp only [go_sem, h1, h1', hi0, hi1, hi2, hc, const_eta, str_eta, getD_map_lt, hn, hlt', hpv, h0, hv0, Tryd.f36])
          refine WcallK.i (f70 (a := (i : Int) + 1) (by simp only; omega) (by simp only [go_sem]) fun n' hn' => ?_)
          repeat' (first | refine rq fun _ => ?_ | simp only [go_sem, Tryd.f36])
        by_cases hv1 : m.size ≤ c.value
        · rw [hbad 3 (by unfold constC; rw [if_neg (by simp [hn]), if_neg (by simp [hlt]), if_pos (.inr hv1)]) (by decide)]
          repeat' (first | refine rq fun _ => ?_ | simp only [go_sem, h1, h1', hi0, hi1, hi2, hc, const_eta, str_eta, getD_map_lt, hn, hlt', hpv, h0, hv0, hv1, Tryd.f36])
          refine WcallK.i (f70 (a := (i : Int) + 1) (by simp only; omega) (by simp only [go_sem]) fun n' hn' => ?_)
          repeat' (first | refine rq fun _ => ?_ | simp only [go_sem, Tryd.f36])
        have hnx := hgood (by unfold constC; rw [if_neg (by simp [hn]), if_neg (by simp [hlt]), if_neg (by omega)])
        repeat' (first | refine rq fun _ => ?_ | simp only [go_sem, h1, h1', hi0, hi1, hi2, hc, const_eta, str_eta, getD_map_lt, hn, hlt', hpv, h0, hv0, hv1, Tryd.f36])
        refine ⟨⟨(i + 1) + 1, q + 2, by omega, by omega, hnx⟩, by simp only; omega, ?_⟩
        refine Weak_to ?_ ?_ ?_ <;> simp only [go_sem]
        all_goals first | done | omega | rfl
      
  obtain rfl : i = m.consts.length := by omega
  have hrr : X = rrM m 0 := kX2.out (by rw [hp, ccM_end])
  repeat' (first | refine rq fun _ => ?_ | simp only [go_sem, Nat.lt_irrefl, Tryd.f36])
  refine WK_loop hm (G := G) hA20 36000 (lst []) (ι := LoopM m.rels.length 2 fun i => rrM m 0 = rrM m i)
    ⟨fun q => ⟨frL [(1, .ptr (36001, 0) 0), (2, .ptr (36002, 1) 0), (78, .fz (.sl (m.rels.map enc))), (79, .fz (.i .i64 m.rels.length)), (80, .fz (.i .i64 q.i))], hpL [((36001, 0), some ⟨[.fz (.i .i64 m.size), .fz (.sl (m.consts.map enc)), .fz (.sl (m.rels.map enc))], true, false⟩), ((36002, 1), some ⟨[.fz (.i .i64 0), .fz (.i .i64 0)], true, false⟩)], q.m⟩, fun q => m.rels.length - q.i⟩
    ⟨0, q, by omega, by omega, rfl⟩ (by kernel_rfl) ?_ ?_
  · refine Weak_to ?_ ?_ ?_ <;> simp only [go_sem]
    all_goals first | done | omega | rfl
  clear hp
  rintro ⟨i, q, hi, hq, hp⟩
  try simp only at hi hq hp
  rcases Nat.lt_or_ge i m.rels.length with h1 | h1
  · have hstep := rrM_step h1
    have hbad : ∀ k : Int, relC m.size (pvA m.rels i) m.rels[i] = k → k ≠ 0 → X = ⟨k, i⟩ := fun k h h2 => by
      rw [h, if_pos h2] at hstep
      rw [hrr, hp, hstep]
    have hgood : relC m.size (pvA m.rels i) m.rels[i] = 0 → rrM m 0 = rrM m (i + 1) := fun h => by
      rw [h, if_neg (by simp)] at hstep
      rw [hp, hstep]
    have htx := ktl.out i h1
    obtain ⟨x, hx⟩ : ∃ x, m.rels[i] = x := ⟨_, rfl⟩
    rw [hx] at hbad hgood
    simp only [hx] at htx
    clear hstep
    rcases i with _ | i
    · rw [show pvA m.rels 0 = none from rfl] at hbad hgood
      have h1' : (0 : Int) < (m.rels.length : Int) := by omega
      cases hn : isName x.name with
      | false =>
        rw [hbad 10 (by unfold relC; rw [if_pos hn]) (by decide)]
        repeat' (first | refine rq fun _ => ?_ | simp only [go_sem, h1, h1', hx, rel_eta, str_eta, getD_map_lt, hn, Tryd.f36])
        refine WcallK.i (f71 (a := 0) (by simp only; omega) (by simp only [go_sem]) fun n' hn' => ?_)
        repeat' (first | refine rq fun _ => ?_ | simp only [go_sem, Tryd.f36])
      | true =>
        by_cases a0 : x.arity < 0
        · rw [hbad 3 (by unfold relC; rw [if_neg (by simp [hn]), if_pos (.inl a0)]) (by decide)]
          repeat' (first | refine rq fun _ => ?_ | simp only [go_sem, h1, h1', hx, rel_eta, str_eta, getD_map_lt, hn, a0, Tryd.f36])
          refine WcallK.i (f71 (a := 0) (by simp only; omega) (by simp only [go_sem]) fun n' hn' => ?_)
          repeat' (first | refine rq fun _ => ?_ | simp only [go_sem, Tryd.f36])
        by_cases a1 : 3 < x.arity
        · rw [hbad 3 (by unfold relC; rw [if_neg (by simp [hn]), if_pos (.inr a1)]) (by decide)]
          repeat' (first | refine rq fun _ => ?_ | simp only [go_sem, h1, h1', hx, rel_eta, str_eta, getD_map_lt, hn, a0, a1, Tryd.f36])
          refine WcallK.i (f71 (a := 0) (by simp only; omega) (by simp only [go_sem]) fun n' hn' => ?_)
          repeat' (first | refine rq fun _ => ?_ | simp only [go_sem, Tryd.f36])
        have hrel : relC m.size none x = ttM m.size x.arity x.tuples 0 := by unfold relC; rw [if_neg (by simp [hn]), if_neg (by omega), if_neg (by simp)]; rfl
        rw [hrel] at hbad hgood
        have hT := htx.1
        repeat' (first | refine rq fun _ => ?_ | simp only [go_sem, h1, h1', hx, rel_eta, str_eta, getD_map_lt, hn, a0, a1, Tryd.f36])
        refine WK_loop hm (G := G) hA20 36000 (lst []) (ι := LoopM x.tuples.length (q + 2) fun k => ttM m.size x.arity x.tuples 0 = ttM m.size x.arity x.tuples k)
          ⟨fun q2 => ⟨frL [(1, .ptr (36001, 0) 0), (2, .ptr (36002, 1) 0), (78, .fz (.sl (m.rels.map enc))), (79, .fz (.i .i64 m.rels.length)), (80, .fz (.i .i64 (0))), (6, .ptr (36006, q) 0), (7, .ptr (36007, q + 1) 0), (8, .fn 71 [.ptr (36006, q) 0]), (118, .fz (.sl (x.tuples.map enc))), (119, .fz (.i .i64 x.tuples.length)), (120, .fz (.i .i64 q2.i))], hpL [((36001, 0), some ⟨[.fz (.i .i64 m.size), .fz (.sl (m.consts.map enc)), .fz (.sl (m.rels.map enc))], true, false⟩), ((36002, 1), some ⟨[.fz (.i .i64 0), .fz (.i .i64 0)], true, false⟩), ((36006, q), some ⟨[.fz (.i .i64 (0))], true, false⟩), ((36007, q + 1), some ⟨[.fz (.s x.name.l), .fz (.i .i64 x.arity), .fz (.sl (x.tuples.map enc))], true, false⟩)], q2.m⟩, fun q2 => x.tuples.length - q2.i⟩
          ⟨0, q + 2, by omega, by omega, rfl⟩ (by kernel_rfl) ?_ ?_
        · refine Weak_to ?_ ?_ ?_ <;> simp only [go_sem]
          all_goals first | done | omega | rfl
        rintro ⟨k, mm, hk, hmm, hpk2⟩
        try simp only at hk hmm hpk2
        rcases Nat.lt_or_ge k x.tuples.length with h2 | h2
        · have hst := ttM_step (size := m.size) (arity := x.arity) h2
          have kTb : ∀ c : Int, tupC m.size x.arity (pvA x.tuples k) x.tuples[k] = c → c ≠ 0 → X = ⟨c, (0 : Int)⟩ := fun c h h4 => by
            rw [h, if_pos h4] at hst
            exact hbad c (hpk2.trans hst) h4
          have kTg : tupC m.size x.arity (pvA x.tuples k) x.tuples[k] = 0 → ttM m.size x.arity x.tuples 0 = ttM m.size x.arity x.tuples (k + 1) := fun h => by
            rw [h, if_neg (by simp)] at hst
            exact hpk2.trans hst
          have htlk := htx.2 k h2
          obtain ⟨t, hkx⟩ : ∃ t, x.tuples[k] = t := ⟨_, rfl⟩
          rw [hkx] at kTb kTg htlk
          clear hst
          have hk := h2
          rcases k with _ | k
          · rw [show pvA x.tuples 0 = none from rfl] at kTb kTg
            have hk1 : (0 : Int) < (x.tuples.length : Int) := by omega
            by_cases ha : (t.length : Int) = x.arity
            rotate_left
            · have ha' : ((t.length : Int) = x.arity) = False := eq_false ha
              rw [kTb 9 (by unfold tupC; rw [if_pos ha]) (by decide)]
              repeat' (first | refine rq fun _ => ?_ | simp only [go_sem, hk, hk1, hkx, h1, h1', hx, rel_eta, str_eta, getD_map_lt, hn, a0, a1, ha', Tryd.f36])
              refine WcallK.i (f71 (a := 0) (by simp only; omega) (by simp only [go_sem]) fun n' hn' => ?_)
              repeat' (first | refine rq fun _ => ?_ | simp only [go_sem, Tryd.f36])
            have ha' : ((t.length : Int) = x.arity) = True := eq_true ha
            repeat' (first | refine rq fun _ => ?_ | simp only [go_sem, hk, hk1, hkx, h1, h1', hx, rel_eta, str_eta, getD_map_lt, hn, a0, a1, ha', Tryd.f36])
            refine WK_loop hm (G := G) hA20 36000 (lst []) (ι := LoopI t.length fun j => (t.take j).any (fun v => decide (v < 0 ∨ m.size ≤ v)) = false)
              ⟨fun q2 => ⟨frL [(1, .ptr (36001, 0) 0), (2, .ptr (36002, 1) 0), (78, .fz (.sl (m.rels.map enc))), (79, .fz (.i .i64 m.rels.length)), (80, .fz (.i .i64 (0))), (6, .ptr (36006, q) 0), (7, .ptr (36007, q + 1) 0), (8, .fn 71 [.ptr (36006, q) 0]), (118, .fz (.sl (x.tuples.map enc))), (119, .fz (.i .i64 x.tuples.length)), (120, .fz (.i .i64 (0))), (9, .fz (.i .i64 (0))), (10, .fz (.sl (t.map enc))), (132, .fz (.sl (t.map enc))), (133, .fz (.i .i64 t.length)), (134, .fz (.i .i64 q2.i))], hpL [((36001, 0), some ⟨[.fz (.i .i64 m.size), .fz (.sl (m.consts.map enc)), .fz (.sl (m.rels.map enc))], true, false⟩), ((36002, 1), some ⟨[.fz (.i .i64 0), .fz (.i .i64 0)], true, false⟩), ((36006, q), some ⟨[.fz (.i .i64 (0))], true, false⟩), ((36007, q + 1), some ⟨[.fz (.s x.name.l), .fz (.i .i64 x.arity), .fz (.sl (x.tuples.map enc))], true, false⟩)], mm⟩, fun q2 => t.length - q2.i⟩
              ⟨0, by omega, rfl⟩ (by kernel_rfl) ?_ ?_
            · refine Weak_to ?_ ?_ ?_ <;> simp only [go_sem]
              all_goals first | done | omega | rfl
            rintro ⟨j, hj, hpj⟩
            try simp only at hj hpj
            rcases Nat.lt_or_ge j t.length with h3 | h3
            · have hts := any_take_succ (f := fun v => decide (v < 0 ∨ m.size ≤ v)) h3
              rw [hpj, Bool.false_or] at hts
              have hany : decide (t[j] < 0 ∨ m.size ≤ t[j]) = true → t.any (fun v => decide (v < 0 ∨ m.size ≤ v)) = true := fun h => List.any_eq_true.2 ⟨t[j], List.getElem_mem h3, h⟩
              obtain ⟨v, hv⟩ : ∃ v, t[j] = v := ⟨_, rfl⟩
              rw [hv] at hts hany
              by_cases v0 : v < 0
              · rw [kTb 3 (by unfold tupC; rw [if_neg (by simp [ha]), if_pos (hany (decide_eq_true (.inl v0)))]) (by decide)]
                repeat' (first | refine rq fun _ => ?_ | simp only [go_sem, hk, hk1, hkx, h1, h1', hx, rel_eta, str_eta, getD_map_lt, hn, a0, a1, h3, hv, v0, Tryd.f36])
                refine WcallK.i (f71 (a := 0) (by simp only; omega) (by simp only [go_sem]) fun n' hn' => ?_)
                repeat' (first | refine rq fun _ => ?_ | simp only [go_sem, Tryd.f36])
              by_cases v1 : m.size ≤ v
              · rw [kTb 3 (by unfold tupC; rw [if_neg (by simp [ha]), if_pos (hany (decide_eq_true (.inr v1)))]) (by decide)]
                repeat' (first | refine rq fun _ => ?_ | simp only [go_sem, hk, hk1, hkx, h1, h1', hx, rel_eta, str_eta, getD_map_lt, hn, a0, a1, h3, hv, v0, v1, Tryd.f36])
                refine WcallK.i (f71 (a := 0) (by simp only; omega) (by simp only [go_sem]) fun n' hn' => ?_)
                repeat' (first | refine rq fun _ => ?_ | simp only [go_sem, Tryd.f36])
              have hnj : (t.take (j + 1)).any (fun v => decide (v < 0 ∨ m.size ≤ v)) = false := by rw [hts]; exact decide_eq_false (by omega)
              repeat' (first | refine rq fun _ => ?_ | simp only [go_sem, hk, hk1, hkx, h1, h1', hx, rel_eta, str_eta, getD_map_lt, hn, a0, a1, h3, hv, v0, v1, Tryd.f36])
              refine ⟨⟨j + 1, by omega, hnj⟩, by simp only; omega, ?_⟩
              refine Weak_to ?_ ?_ ?_ <;> simp only [go_sem]
              all_goals first | done | omega | rfl
            obtain rfl : j = t.length := by omega
            rw [List.take_length] at hpj
            have hnx := kTg (by unfold tupC; rw [if_neg (by simp [ha]), if_neg (by rw [hpj]; decide), if_neg (by simp)])
            repeat' (first | refine rq fun _ => ?_ | simp only [go_sem, hk, hk1, hkx, h1, h1', hx, rel_eta, str_eta, getD_map_lt, hn, a0, a1, Nat.lt_irrefl, Tryd.f36])
            refine ⟨⟨0 + 1, mm, by omega, by omega, hnx⟩, by simp only; omega, ?_⟩
            refine Weak_to ?_ ?_ ?_ <;> simp only [go_sem]
            all_goals first | done | omega | rfl
          · have hk0 : k < x.tuples.length := by omega
            rw [pvA_succ hk0] at kTb kTg
            obtain ⟨y, hpk⟩ : ∃ y, x.tuples[k] = y := ⟨_, rfl⟩
            rw [hpk] at kTb kTg
            have hk1 : (k : Int) + 1 < (x.tuples.length : Int) := by omega
            have hk3 : (0 : Int) < (k : Int) + 1 := by omega
            have hk4 : (k : Int) + 1 - 1 = (k : Int) := by omega
            have hk5 : ((k : Int) + 1).toNat = k + 1 := by omega
            by_cases ha : (t.length : Int) = x.arity
            rotate_left
            · have ha' : ((t.length : Int) = x.arity) = False := eq_false ha
              rw [kTb 9 (by unfold tupC; rw [if_pos ha]) (by decide)]
              repeat' (first | refine rq fun _ => ?_ | simp only [go_sem, hk, hk1, hkx, hk0, hpk, hk3, hk4, hk5, h1, h1', hx, rel_eta, str_eta, getD_map_lt, hn, a0, a1, ha', Tryd.f36])
              refine WcallK.i (f71 (a := 0) (by simp only; omega) (by simp only [go_sem]) fun n' hn' => ?_)
              repeat' (first | refine rq fun _ => ?_ | simp only [go_sem, Tryd.f36])
            have ha' : ((t.length : Int) = x.arity) = True := eq_true ha
            repeat' (first | refine rq fun _ => ?_ | simp only [go_sem, hk, hk1, hkx, hk0, hpk, hk3, hk4, hk5, h1, h1', hx, rel_eta, str_eta, getD_map_lt, hn, a0, a1, ha', Tryd.f36])
            refine WK_loop hm (G := G) hA20 36000 (lst []) (ι := LoopI t.length fun j => (t.take j).any (fun v => decide (v < 0 ∨ m.size ≤ v)) = false)
              ⟨fun q2 => ⟨frL [(1, .ptr (36001, 0) 0), (2, .ptr (36002, 1) 0), (78, .fz (.sl (m.rels.map enc))), (79, .fz (.i .i64 m.rels.length)), (80, .fz (.i .i64 (0))), (6, .ptr (36006, q) 0), (7, .ptr (36007, q + 1) 0), (8, .fn 71 [.ptr (36006, q) 0]), (118, .fz (.sl (x.tuples.map enc))), (119, .fz (.i .i64 x.tuples.length)), (120, .fz (.i .i64 ((k : Int) + 1))), (9, .fz (.i .i64 ((k : Int) + 1))), (10, .fz (.sl (t.map enc))), (132, .fz (.sl (t.map enc))), (133, .fz (.i .i64 t.length)), (134, .fz (.i .i64 q2.i))], hpL [((36001, 0), some ⟨[.fz (.i .i64 m.size), .fz (.sl (m.consts.map enc)), .fz (.sl (m.rels.map enc))], true, false⟩), ((36002, 1), some ⟨[.fz (.i .i64 0), .fz (.i .i64 0)], true, false⟩), ((36006, q), some ⟨[.fz (.i .i64 (0))], true, false⟩), ((36007, q + 1), some ⟨[.fz (.s x.name.l), .fz (.i .i64 x.arity), .fz (.sl (x.tuples.map enc))], true, false⟩)], mm⟩, fun q2 => t.length - q2.i⟩
              ⟨0, by omega, rfl⟩ (by kernel_rfl) ?_ ?_
            · refine Weak_to ?_ ?_ ?_ <;> simp only [go_sem]
              all_goals first | done | omega | rfl
            rintro ⟨j, hj, hpj⟩
            try simp only at hj hpj
            rcases Nat.lt_or_ge j t.length with h3 | h3
            · have hts := any_take_succ (f := fun v => decide (v < 0 ∨ m.size ≤ v)) h3
              rw [hpj, Bool.false_or] at hts
              have hany : decide (t[j] < 0 ∨ m.size ≤ t[j]) = true → t.any (fun v => decide (v < 0 ∨ m.size ≤ v)) = true := fun h => List.any_eq_true.2 ⟨t[j], List.getElem_mem h3, h⟩
              obtain ⟨v, hv⟩ : ∃ v, t[j] = v := ⟨_, rfl⟩
              rw [hv] at hts hany
              by_cases v0 : v < 0
              · rw [kTb 3 (by unfold tupC; rw [if_neg (by simp [ha]), if_pos (hany (decide_eq_true (.inl v0)))]) (by decide)]
                repeat' (first | refine rq fun _ => ?_ | simp only [go_sem, hk, hk1, hkx, hk0, hpk, hk3, hk4, hk5, h1, h1', hx, rel_eta, str_eta, getD_map_lt, hn, a0, a1, h3, hv, v0, Tryd.f36])
                refine WcallK.i (f71 (a := 0) (by simp only; omega) (by simp only [go_sem]) fun n' hn' => ?_)
                repeat' (first | refine rq fun _ => ?_ | simp only [go_sem, Tryd.f36])
              by_cases v1 : m.size ≤ v
              · rw [kTb 3 (by unfold tupC; rw [if_neg (by simp [ha]), if_pos (hany (decide_eq_true (.inr v1)))]) (by decide)]
                repeat' (first | refine rq fun _ => ?_ | simp only [go_sem, hk, hk1, hkx, hk0, hpk, hk3, hk4, hk5, h1, h1', hx, rel_eta, str_eta, getD_map_lt, hn, a0, a1, h3, hv, v0, v1, Tryd.f36])
                refine WcallK.i (f71 (a := 0) (by simp only; omega) (by simp only [go_sem]) fun n' hn' => ?_)
                repeat' (first | refine rq fun _ => ?_ | simp only [go_sem, Tryd.f36])
              have hnj : (t.take (j + 1)).any (fun v => decide (v < 0 ∨ m.size ≤ v)) = false := by rw [hts]; exact decide_eq_false (by omega)
              repeat' (first | refine rq fun _ => ?_ | simp only [go_sem, hk, hk1, hkx, hk0, hpk, hk3, hk4, hk5, h1, h1', hx, rel_eta, str_eta, getD_map_lt, hn, a0, a1, h3, hv, v0, v1, Tryd.f36])
              refine ⟨⟨j + 1, by omega, hnj⟩, by simp only; omega, ?_⟩
              refine Weak_to ?_ ?_ ?_ <;> simp only [go_sem]
              all_goals first | done | omega | rfl
            obtain rfl : j = t.length := by omega
            rw [List.take_length] at hpj
            by_cases hcl2 : 0 ≤ cmpL y t
            · rw [kTb 13 (by unfold tupC; rw [if_neg (by simp [ha]), if_neg (by rw [hpj]; decide), if_pos (by simp [hcl2])]) (by decide)]
              repeat' (first | refine rq fun _ => ?_ | simp only [go_sem, hk, hk1, hkx, hk0, hpk, hk3, hk4, hk5, h1, h1', hx, rel_eta, str_eta, getD_map_lt, hn, a0, a1, Nat.lt_irrefl, hcl2, Tryd.f36])
              refine WcallK.i (f71 (a := 0) (by simp only; omega) (by simp only [go_sem]) fun n' hn' => ?_)
              repeat' (first | refine rq fun _ => ?_ | simp only [go_sem, Tryd.f36])
            have hnx := kTg (by unfold tupC; rw [if_neg (by simp [ha]), if_neg (by rw [hpj]; decide), if_neg (by simp [hcl2])])
            repeat' (first | refine rq fun _ => ?_ | simp only [go_sem, hk, hk1, hkx, hk0, hpk, hk3, hk4, hk5, h1, h1', hx, rel_eta, str_eta, getD_map_lt, hn, a0, a1, Nat.lt_irrefl, hcl2, Tryd.f36])
            refine ⟨⟨(k + 1) + 1, mm, by omega, by omega, hnx⟩, by simp only; omega, ?_⟩
            refine Weak_to ?_ ?_ ?_ <;> simp only [go_sem]
            all_goals first | done | omega | rfl
        obtain rfl : k = x.tuples.length := by omega
        have hnx := hgood (by rw [hpk2, ttM_end])
        repeat' (first | refine rq fun _ => ?_ | simp only [go_sem, h1, h1', hx, rel_eta, str_eta, getD_map_lt, hn, a0, a1, Nat.lt_irrefl, Tryd.f36])
        refine ⟨⟨0 + 1, mm, by omega, by omega, hnx⟩, by simp only; omega, ?_⟩
        refine Weak_to ?_ ?_ ?_ <;> simp only [go_sem]
        all_goals first | done | omega | rfl
    · have h0 : i < m.rels.length := by omega
      rw [pvA_succ h0] at hbad hgood
      obtain ⟨p, hpv⟩ : ∃ p, m.rels[i] = p := ⟨_, rfl⟩
      rw [hpv] at hbad hgood
      have h1' : (i : Int) + 1 < (m.rels.length : Int) := by omega
      have hi0 : (0 : Int) < (i : Int) + 1 := by omega
      have hi1 : (i : Int) + 1 - 1 = (i : Int) := by omega
      have hi2 : ((i : Int) + 1).toNat = i + 1 := by omega
      cases hn : isName x.name with
      | false =>
        rw [hbad 10 (by unfold relC; rw [if_pos hn]) (by decide)]
        repeat' (first | refine rq fun _ => ?_ | simp only [go_sem, h1, h1', hx, rel_eta, str_eta, getD_map_lt, hpv, h0, hi0, hi1, hi2, hn, Tryd.f36])
        refine WcallK.i (f71 (a := (i : Int) + 1) (by simp only; omega) (by simp only [go_sem]) fun n' hn' => ?_)
        repeat' (first | refine rq fun _ => ?_ | simp only [go_sem, Tryd.f36])
      | true =>
        by_cases a0 : x.arity < 0
        · rw [hbad 3 (by unfold relC; rw [if_neg (by simp [hn]), if_pos (.inl a0)]) (by decide)]
          repeat' (first | refine rq fun _ => ?_ | simp only [go_sem, h1, h1', hx, rel_eta, str_eta, getD_map_lt, hpv, h0, hi0, hi1, hi2, hn, a0, Tryd.f36])
          refine WcallK.i (f71 (a := (i : Int) + 1) (by simp only; omega) (by simp only [go_sem]) fun n' hn' => ?_)
          repeat' (first | refine rq fun _ => ?_ | simp only [go_sem, Tryd.f36])
        by_cases a1 : 3 < x.arity
        · rw [hbad 3 (by unfold relC; rw [if_neg (by simp [hn]), if_pos (.inr a1)]) (by decide)]
          repeat' (first | refine rq fun _ => ?_ | simp only [go_sem, h1, h1', hx, rel_eta, str_eta, getD_map_lt, hpv, h0, hi0, hi1, hi2, hn, a0, a1, Tryd.f36])
          refine WcallK.i (f71 (a := (i : Int) + 1) (by simp only; omega) (by simp only [go_sem]) fun n' hn' => ?_)
          repeat' (first | refine rq fun _ => ?_ | simp only [go_sem, Tryd.f36])
        by_cases hcp : 0 ≤ cmpR p x
        · rw [hbad 13 (by unfold relC; rw [if_neg (by simp [hn]), if_neg (by omega), if_pos (by simp [hcp])]) (by decide)]
          repeat' (first | refine rq fun _ => ?_ | simp only [go_sem, h1, h1', hx, rel_eta, str_eta, getD_map_lt, hpv, h0, hi0, hi1, hi2, hn, a0, a1, hcp, Tryd.f36])
          refine WcallK.i (f71 (a := (i : Int) + 1) (by simp only; omega) (by simp only [go_sem]) fun n' hn' => ?_)
          repeat' (first | refine rq fun _ => ?_ | simp only [go_sem, Tryd.f36])
        have hrel : relC m.size (some p) x = ttM m.size x.arity x.tuples 0 := by unfold relC; rw [if_neg (by simp [hn]), if_neg (by omega), if_neg (by simp [hcp])]; rfl
        rw [hrel] at hbad hgood
        have hT := htx.1
        repeat' (first | refine rq fun _ => ?_ | simp only [go_sem, h1, h1', hx, rel_eta, str_eta, getD_map_lt, hpv, h0, hi0, hi1, hi2, hn, a0, a1, hcp, Tryd.f36])
        refine WK_loop hm (G := G) hA20 36000 (lst []) (ι := LoopM x.tuples.length (q + 2) fun k => ttM m.size x.arity x.tuples 0 = ttM m.size x.arity x.tuples k)
          ⟨fun q2 => ⟨frL [(1, .ptr (36001, 0) 0), (2, .ptr (36002, 1) 0), (78, .fz (.sl (m.rels.map enc))), (79, .fz (.i .i64 m.rels.length)), (80, .fz (.i .i64 ((i : Int) + 1))), (6, .ptr (36006, q) 0), (7, .ptr (36007, q + 1) 0), (8, .fn 71 [.ptr (36006, q) 0]), (118, .fz (.sl (x.tuples.map enc))), (119, .fz (.i .i64 x.tuples.length)), (120, .fz (.i .i64 q2.i))], hpL [((36001, 0), some ⟨[.fz (.i .i64 m.size), .fz (.sl (m.consts.map enc)), .fz (.sl (m.rels.map enc))], true, false⟩), ((36002, 1), some ⟨[.fz (.i .i64 0), .fz (.i .i64 0)], true, false⟩), ((36006, q), some ⟨[.fz (.i .i64 ((i : Int) + 1))], true, false⟩), ((36007, q + 1), some ⟨[.fz (.s x.name.l), .fz (.i .i64 x.arity), .fz (.sl (x.tuples.map enc))], true, false⟩)], q2.m⟩, fun q2 => x.tuples.length - q2.i⟩
          ⟨0, q + 2, by omega, by omega, rfl⟩ (by kernel_rfl) ?_ ?_
        · refine Weak_to ?_ ?_ ?_ <;> simp only [go_sem]
          all_goals first | done | omega | rfl
        rintro ⟨k, mm, hk, hmm, hpk2⟩
        try simp only at hk hmm hpk2
        rcases Nat.lt_or_ge k x.tuples.length with h2 | h2
        · have hst := ttM_step (size := m.size) (arity := x.arity) h2
          have kTb : ∀ c : Int, tupC m.size x.arity (pvA x.tuples k) x.tuples[k] = c → c ≠ 0 → X = ⟨c, ((i : Int) + 1 : Int)⟩ := fun c h h4 => by
            rw [h, if_pos h4] at hst
            exact hbad c (hpk2.trans hst) h4
          have kTg : tupC m.size x.arity (pvA x.tuples k) x.tuples[k] = 0 → ttM m.size x.arity x.tuples 0 = ttM m.size x.arity x.tuples (k + 1) := fun h => by
            rw [h, if_neg (by simp)] at hst
            exact hpk2.trans hst
          have htlk := htx.2 k h2
          obtain ⟨t, hkx⟩ : ∃ t, x.tuples[k] = t := ⟨_, rfl⟩
          rw [hkx] at kTb kTg htlk
          clear hst
          have hk := h2
          rcases k with _ | k
          · rw [show pvA x.tuples 0 = none from rfl] at kTb kTg
            have hk1 : (0 : Int) < (x.tuples.length : Int) := by omega
            by_cases ha : (t.length : Int) = x.arity
            rotate_left
            · have ha' : ((t.length : Int) = x.arity) = False := eq_false ha
              rw [kTb 9 (by unfold tupC; rw [if_pos ha]) (by decide)]
              repeat' (first | refine rq fun _ => ?_ | simp only [go_sem, hk, hk1, hkx, h1, h1', hx, rel_eta, str_eta, getD_map_lt, hpv, h0, hi0, hi1, hi2, hn, a0, a1, hcp, ha', Tryd.f36])
              refine WcallK.i (f71 (a := (i : Int) + 1) (by simp only; omega) (by simp only [go_sem]) fun n' hn' => ?_)
              repeat' (first | refine rq fun _ => ?_ | simp only [go_sem, Tryd.f36])
            have ha' : ((t.length : Int) = x.arity) = True := eq_true ha
            repeat' (first | refine rq fun _ => ?_ | simp only [go_sem, hk, hk1, hkx, h1, h1', hx, rel_eta, str_eta, getD_map_lt, hpv, h0, hi0, hi1, hi2, hn, a0, a1, hcp, ha', Tryd.f36])
            refine WK_loop hm (G := G) hA20 36000 (lst []) (ι := LoopI t.length fun j => (t.take j).any (fun v => decide (v < 0 ∨ m.size ≤ v)) = false)
              ⟨fun q2 => ⟨frL [(1, .ptr (36001, 0) 0), (2, .ptr (36002, 1) 0), (78, .fz (.sl (m.rels.map enc))), (79, .fz (.i .i64 m.rels.length)), (80, .fz (.i .i64 ((i : Int) + 1))), (6, .ptr (36006, q) 0), (7, .ptr (36007, q + 1) 0), (8, .fn 71 [.ptr (36006, q) 0]), (118, .fz (.sl (x.tuples.map enc))), (119, .fz (.i .i64 x.tuples.length)), (120, .fz (.i .i64 (0))), (9, .fz (.i .i64 (0))), (10, .fz (.sl (t.map enc))), (132, .fz (.sl (t.map enc))), (133, .fz (.i .i64 t.length)), (134, .fz (.i .i64 q2.i))], hpL [((36001, 0), some ⟨[.fz (.i .i64 m.size), .fz (.sl (m.consts.map enc)), .fz (.sl (m.rels.map enc))], true, false⟩), ((36002, 1), some ⟨[.fz (.i .i64 0), .fz (.i .i64 0)], true, false⟩), ((36006, q), some ⟨[.fz (.i .i64 ((i : Int) + 1))], true, false⟩), ((36007, q + 1), some ⟨[.fz (.s x.name.l), .fz (.i .i64 x.arity), .fz (.sl (x.tuples.map enc))], true, false⟩)], mm⟩, fun q2 => t.length - q2.i⟩
              ⟨0, by omega, rfl⟩ (by kernel_rfl) ?_ ?_
            · refine Weak_to ?_ ?_ ?_ <;> simp only [go_sem]
              all_goals first | done | omega | rfl
            rintro ⟨j, hj, hpj⟩
            try simp only at hj hpj
            rcases Nat.lt_or_ge j t.length with h3 | h3
            · have hts := any_take_succ (f := fun v => decide (v < 0 ∨ m.size ≤ v)) h3
              rw [hpj, Bool.false_or] at hts
              have hany : decide (t[j] < 0 ∨ m.size ≤ t[j]) = true → t.any (fun v => decide (v < 0 ∨ m.size ≤ v)) = true := fun h => List.any_eq_true.2 ⟨t[j], List.getElem_mem h3, h⟩
              obtain ⟨v, hv⟩ : ∃ v, t[j] = v := ⟨_, rfl⟩
              rw [hv] at hts hany
              by_cases v0 : v < 0
              · rw [kTb 3 (by unfold tupC; rw [if_neg (by simp [ha]), if_pos (hany (decide_eq_true (.inl v0)))]) (by decide)]
                repeat' (first | refine rq fun _ => ?_ | simp only [go_sem, hk, hk1, hkx, h1, h1', hx, rel_eta, str_eta, getD_map_lt, hpv, h0, hi0, hi1, hi2, hn, a0, a1, hcp, h3, hv, v0, Tryd.f36])
                refine WcallK.i (f71 (a := (i : Int) + 1) (by simp only; omega) (by simp only [go_sem]) fun n' hn' => ?_)
                repeat' (first | refine rq fun _ => ?_ | simp only [go_sem, Tryd.f36])
              by_cases v1 : m.size ≤ v
              · rw [kTb 3 (by unfold tupC; rw [if_neg (by simp [ha]), if_pos (hany (decide_eq_true (.inr v1)))]) (by decide)]
                repeat' (first | refine rq fun _ => ?_ | simp only [go_sem, hk, hk1, hkx, h1, h1', hx, rel_eta, str_eta, getD_map_lt, hpv, h0, hi0, hi1, hi2, hn, a0, a1, hcp, h3, hv, v0, v1, Tryd.f36])
                refine WcallK.i (f71 (a := (i : Int) + 1) (by simp only; omega) (by simp only [go_sem]) fun n' hn' => ?_)
                repeat' (first | refine rq fun _ => ?_ | simp only [go_sem, Tryd.f36])
              have hnj : (t.take (j + 1)).any (fun v => decide (v < 0 ∨ m.size ≤ v)) = false := by rw [hts]; exact decide_eq_false (by omega)
              repeat' (first | refine rq fun _ => ?_ | simp only [go_sem, hk, hk1, hkx, h1, h1', hx, rel_eta, str_eta, getD_map_lt, hpv, h0, hi0, hi1, hi2, hn, a0, a1, hcp, h3, hv, v0, v1, Tryd.f36])
              refine ⟨⟨j + 1, by omega, hnj⟩, by simp only; omega, ?_⟩
              refine Weak_to ?_ ?_ ?_ <;> simp only [go_sem]
              all_goals first | done | omega | rfl
            obtain rfl : j = t.length := by omega
            rw [List.take_length] at hpj
            have hnx := kTg (by unfold tupC; rw [if_neg (by simp [ha]), if_neg (by rw [hpj]; decide), if_neg (by simp)])
            repeat' (first | refine rq fun _ => ?_ | simp only [go_sem, hk, hk1, hkx, h1, h1', hx, rel_eta, str_eta, getD_map_lt, hpv, h0, hi0, hi1, hi2, hn, a0, a1, hcp, Nat.lt_irrefl, Tryd.f36])
            refine ⟨⟨0 + 1, mm, by omega, by omega, hnx⟩, by simp only; omega, ?_⟩
            refine Weak_to ?_ ?_ ?_ <;> simp only [go_sem]
            all_goals first | done | omega | rfl
          · have hk0 : k < x.tuples.length := by omega
            rw [pvA_succ hk0] at kTb kTg
            obtain ⟨y, hpk⟩ : ∃ y, x.tuples[k] = y := ⟨_, rfl⟩
            rw [hpk] at kTb kTg
            have hk1 : (k : Int) + 1 < (x.tuples.length : Int) := by omega
            have hk3 : (0 : Int) < (k : Int) + 1 := by omega
            have hk4 : (k : Int) + 1 - 1 = (k : Int) := by omega
            have hk5 : ((k : Int) + 1).toNat = k + 1 := by omega
            by_cases ha : (t.length : Int) = x.arity
            rotate_left
            · have ha' : ((t.length : Int) = x.arity) = False := eq_false ha
              rw [kTb 9 (by unfold tupC; rw [if_pos ha]) (by decide)]
              repeat' (first | refine rq fun _ => ?_ | simp only [go_sem, hk, hk1, hkx, hk0, hpk, hk3, hk4, hk5, h1, h1', hx, rel_eta, str_eta, getD_map_lt, hpv, h0, hi0, hi1, hi2, hn, a0, a1, hcp, ha', Tryd.f36])
              refine WcallK.i (f71 (a := (i : Int) + 1) (by simp only; omega) (by simp only [go_sem]) fun n' hn' => ?_)
              repeat' (first | refine rq fun _ => ?_ | simp only [go_sem, Tryd.f36])
            have ha' : ((t.length : Int) = x.arity) = True := eq_true ha
            repeat' (first | refine rq fun _ => ?_ | simp only [go_sem, hk, hk1, hkx, hk0, hpk, hk3, hk4, hk5, h1, h1', hx, rel_eta, str_eta, getD_map_lt, hpv, h0, hi0, hi1, hi2, hn, a0, a1, hcp, ha', Tryd.f36])
            refine WK_loop hm (G := G) hA20 36000 (lst []) (ι := LoopI t.length fun j => (t.take j).any (fun v => decide (v < 0 ∨ m.size ≤ v)) = false)
              ⟨fun q2 => ⟨frL [(1, .ptr (36001, 0) 0), (2, .ptr (36002, 1) 0), (78, .fz (.sl (m.rels.map enc))), (79, .fz (.i .i64 m.rels.length)), (80, .fz (.i .i64 ((i : Int) + 1))), (6, .ptr (36006, q) 0), (7, .ptr (36007, q + 1) 0), (8, .fn 71 [.ptr (36006, q) 0]), (118, .fz (.sl (x.tuples.map enc))), (119, .fz (.i .i64 x.tuples.length)), (120, .fz (.i .i64 ((k : Int) + 1))), (9, .fz (.i .i64 ((k : Int) + 1))), (10, .fz (.sl (t.map enc))), (132, .fz (.sl (t.map enc))), (133, .fz (.i .i64 t.length)), (134, .fz (.i .i64 q2.i))], hpL [((36001, 0), some ⟨[.fz (.i .i64 m.size), .fz (.sl (m.consts.map enc)), .fz (.sl (m.rels.map enc))], true, false⟩), ((36002, 1), some ⟨[.fz (.i .i64 0), .fz (.i .i64 0)], true, false⟩), ((36006, q), some ⟨[.fz (.i .i64 ((i : Int) + 1))], true, false⟩), ((36007, q + 1), some ⟨[.fz (.s x.name.l), .fz (.i .i64 x.arity), .fz (.sl (x.tuples.map enc))], true, false⟩)], mm⟩, fun q2 => t.length - q2.i⟩
              ⟨0, by omega, rfl⟩ (by kernel_rfl) ?_ ?_
            · refine Weak_to ?_ ?_ ?_ <;> simp only [go_sem]
              all_goals first | done | omega | rfl
            rintro ⟨j, hj, hpj⟩
            try simp only at hj hpj
            rcases Nat.lt_or_ge j t.length with h3 | h3
            · have hts := any_take_succ (f := fun v => decide (v < 0 ∨ m.size ≤ v)) h3
              rw [hpj, Bool.false_or] at hts
              have hany : decide (t[j] < 0 ∨ m.size ≤ t[j]) = true → t.any (fun v => decide (v < 0 ∨ m.size ≤ v)) = true := fun h => List.any_eq_true.2 ⟨t[j], List.getElem_mem h3, h⟩
              obtain ⟨v, hv⟩ : ∃ v, t[j] = v := ⟨_, rfl⟩
              rw [hv] at hts hany
              by_cases v0 : v < 0
              · rw [kTb 3 (by unfold tupC; rw [if_neg (by simp [ha]), if_pos (hany (decide_eq_true (.inl v0)))]) (by decide)]
                repeat' (first | refine rq fun _ => ?_ | simp only [go_sem, hk, hk1, hkx, hk0, hpk, hk3, hk4, hk5, h1, h1', hx, rel_eta, str_eta, getD_map_lt, hpv, h0, hi0, hi1, hi2, hn, a0, a1, hcp, h3, hv, v0, Tryd.f36])
                refine WcallK.i (f71 (a := (i : Int) + 1) (by simp only; omega) (by simp only [go_sem]) fun n' hn' => ?_)
                repeat' (first | refine rq fun _ => ?_ | simp only [go_sem, Tryd.f36])
              by_cases v1 : m.size ≤ v
              · rw [kTb 3 (by unfold tupC; rw [if_neg (by simp [ha]), if_pos (hany (decide_eq_true (.inr v1)))]) (by decide)]
                repeat' (first | refine rq fun _ => ?_ | simp only [go_sem, hk, hk1, hkx, hk0, hpk, hk3, hk4, hk5, h1, h1', hx, rel_eta, str_eta, getD_map_lt, hpv, h0, hi0, hi1, hi2, hn, a0, a1, hcp, h3, hv, v0, v1, Tryd.f36])
                refine WcallK.i (f71 (a := (i : Int) + 1) (by simp only; omega) (by simp only [go_sem]) fun n' hn' => ?_)
                repeat' (first | refine rq fun _ => ?_ | simp only [go_sem, Tryd.f36])
              have hnj : (t.take (j + 1)).any (fun v => decide (v < 0 ∨ m.size ≤ v)) = false := by rw [hts]; exact decide_eq_false (by omega)
              repeat' (first | refine rq fun _ => ?_ | simp only [go_sem, hk, hk1, hkx, hk0, hpk, hk3, hk4, hk5, h1, h1', hx, rel_eta, str_eta, getD_map_lt, hpv, h0, hi0, hi1, hi2, hn, a0, a1, hcp, h3, hv, v0, v1, Tryd.f36])
              refine ⟨⟨j + 1, by omega, hnj⟩, by simp only; omega, ?_⟩
              refine Weak_to ?_ ?_ ?_ <;> simp only [go_sem]
              all_goals first | done | omega | rfl
            obtain rfl : j = t.length := by omega
            rw [List.take_length] at hpj
            by_cases hcl2 : 0 ≤ cmpL y t
            · rw [kTb 13 (by unfold tupC; rw [if_neg (by simp [ha]), if_neg (by rw [hpj]; decide), if_pos (by simp [hcl2])]) (by decide)]
              repeat' (first | refine rq fun _ => ?_ | simp only [go_sem, hk, hk1, hkx, hk0, hpk, hk3, hk4, hk5, h1, h1', hx, rel_eta, str_eta, getD_map_lt, hpv, h0, hi0, hi1, hi2, hn, a0, a1, hcp, Nat.lt_irrefl, hcl2, Tryd.f36])
              refine WcallK.i (f71 (a := (i : Int) + 1) (by simp only; omega) (by simp only [go_sem]) fun n' hn' => ?_)
              repeat' (first | refine rq fun _ => ?_ | simp only [go_sem, Tryd.f36])
            have hnx := kTg (by unfold tupC; rw [if_neg (by simp [ha]), if_neg (by rw [hpj]; decide), if_neg (by simp [hcl2])])
            repeat' (first | refine rq fun _ => ?_ | simp only [go_sem, hk, hk1, hkx, hk0, hpk, hk3, hk4, hk5, h1, h1', hx, rel_eta, str_eta, getD_map_lt, hpv, h0, hi0, hi1, hi2, hn, a0, a1, hcp, Nat.lt_irrefl, hcl2, Tryd.f36])
            refine ⟨⟨(k + 1) + 1, mm, by omega, by omega, hnx⟩, by simp only; omega, ?_⟩
            refine Weak_to ?_ ?_ ?_ <;> simp only [go_sem]
            all_goals first | done | omega | rfl
        obtain rfl : k = x.tuples.length := by omega
        have hnx := hgood (by rw [hpk2, ttM_end])
        repeat' (first | refine rq fun _ => ?_ | simp only [go_sem, h1, h1', hx, rel_eta, str_eta, getD_map_lt, hpv, h0, hi0, hi1, hi2, hn, a0, a1, hcp, Nat.lt_irrefl, Tryd.f36])
        refine ⟨⟨(i + 1) + 1, mm, by omega, by omega, hnx⟩, by simp only; omega, ?_⟩
        refine Weak_to ?_ ?_ ?_ <;> simp only [go_sem]
        all_goals first | done | omega | rfl
  obtain rfl : i = m.rels.length := by omega
  have hX0 : X = ⟨0, 0⟩ := by rw [hrr, hp, rrM_end]
  rw [hX0]
  repeat' (first | refine rq fun _ => ?_ | simp only [go_sem, Nat.lt_irrefl, Tryd.f36])
end
end Go.Proofs.YtdlioodgfopmfaaDoor

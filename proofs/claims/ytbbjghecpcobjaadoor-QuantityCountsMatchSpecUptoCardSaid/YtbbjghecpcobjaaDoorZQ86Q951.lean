/- several texts of this proof in one; no conditions -/
import Derived.Test.YtbbjghecpcobjaaDoorAT
import Derived.Test.YtbbjghecpcobjaaDoorZQ84Q872
import Derived.Test.YtbbjghecpcobjaaDoorQ88
import Derived.Test.YtbbjghecpcobjaaDoorZQ28Q313
set_option linter.unusedSimpArgs false
namespace Go.Abs
open Go
def okT (size arity : Int) (t : List Int) : Prop := (t.length : Int) = arity ∧ ∀ v ∈ t, 0 ≤ v ∧ v < size
theorem okT_of {size : Int} {t : List Int} (h : t.any (badV size) = false) : ∀ v ∈ t, 0 ≤ v ∧ v < size := fun v hv => by
  have := List.any_eq_false.1 h v hv
  unfold badV at this
  simp only [decide_eq_true_eq] at this
  omega
theorem okT_pre {size arity : Int} {t : List Int} (h1 : 1 ≤ size) (h2 : size ≤ 6) (h3 : arity ≤ 3) (h : okT size arity t) : codePre t size :=
  ⟨h1, h2, by have := h.1; omega, fun v hv => by have := h.2 v hv; omega⟩
def badC (size : Int) (t : List Int) (j : Nat) : Int := if (t.take j).any (badV size) = true then 3 else 0
theorem badC_zero (size : Int) (t : List Int) : badC size t 0 = 0 := rfl
theorem badC_succ (size : Int) {t : List Int} {j : Nat} (h : j < t.length) : badC size t (j + 1) = if t[j] < 0 ∨ size ≤ t[j] then 3 else badC size t j := by
  unfold badC
  rw [any_take_succ h]
  unfold badV
  by_cases h1 : t[j] < 0 ∨ size ≤ t[j]
  · rw [if_pos h1, decide_eq_true h1, Bool.or_true, if_pos rfl]
  · rw [if_neg h1, decide_eq_false h1, Bool.or_false]
def codeG (s n : Int) (l : List Int) : Int := l.foldl (fun n v => n * s + v) n
theorem codeG_lt {s : Int} (h1 : 1 ≤ s) (h2 : s ≤ 6) : ∀ (a b : List Int) (n n' : Int), a.length = b.length → n < n' → (∀ v ∈ a, 0 ≤ v ∧ v < s) → (∀ v ∈ b, 0 ≤ v ∧ v < s) → codeG s n a < codeG s n' b
  | [], [], n, n', _, h, _, _ => h
  | a :: ass, b :: bss, n, n', hl, h, ha, hb => by
    have a1 := ha a (by simp)
    have b1 := hb b (by simp)
    refine codeG_lt h1 h2 ass bss (n * s + a) (n' * s + b) (by simpa using hl) ?_ (fun v hv => ha v (by simp [hv])) (fun v hv => hb v (by simp [hv]))
    have h6 : s = 1 ∨ s = 2 ∨ s = 3 ∨ s = 4 ∨ s = 5 ∨ s = 6 := by omega
    rcases h6 with rfl | rfl | rfl | rfl | rfl | rfl <;> omega
  | [], _ :: _, _, _, hl, _, _, _ => by simp at hl
  | _ :: _, [], _, _, hl, _, _, _ => by simp at hl
/-- rows of individuals are ordered as their codes -/
theorem cmp_codeG {s : Int} (h1 : 1 ≤ s) (h2 : s ≤ 6) : ∀ (a b : List Int) (n : Int), a.length = b.length → (∀ v ∈ a, 0 ≤ v ∧ v < s) → (∀ v ∈ b, 0 ≤ v ∧ v < s) → (0 ≤ cmpL a b ↔ codeG s n b ≤ codeG s n a)
  | [], [], n, _, _, _ => by simp [cmpL]
  | a :: ass, b :: bss, n, hl, ha, hb => by
    have hl' : ass.length = bss.length := by simpa using hl
    have ha' : ∀ v ∈ ass, 0 ≤ v ∧ v < s := fun v hv => ha v (by simp [hv])
    have hb' : ∀ v ∈ bss, 0 ≤ v ∧ v < s := fun v hv => hb v (by simp [hv])
    show 0 ≤ cmpL (a :: ass) (b :: bss) ↔ codeG s (n * s + b) bss ≤ codeG s (n * s + a) ass
    rw [cmpL]
    rcases Int.lt_trichotomy a b with h | rfl | h
    · have e : cmpI a b = -1 := by unfold cmpI; rw [if_pos h]
      have := codeG_lt h1 h2 ass bss (n * s + a) (n * s + b) hl' (by omega) ha' hb'
      rw [e, if_pos (by decide)]
      constructor <;> intro h3 <;> omega
    · rw [if_neg (by rw [cmpI_zero.2 rfl]; simp)]
      exact cmp_codeG h1 h2 ass bss _ hl' ha' hb'
    · have e : cmpI a b = 1 := by unfold cmpI; rw [if_neg (by omega), if_pos h]
      have := codeG_lt h1 h2 bss ass (n * s + b) (n * s + a) hl'.symm (by omega) hb' ha'
      rw [e, if_pos (by decide)]
      constructor <;> intro h3 <;> omega
  | [], _ :: _, _, hl, _, _ => by simp at hl
  | _ :: _, [], _, hl, _, _ => by simp at hl
theorem cmp_code {size : Int} (h1 : 1 ≤ size) (h2 : size ≤ 6) {n : Int} (a b : List Int) (hl : a.length = b.length) (ha : ∀ v ∈ a, 0 ≤ v ∧ v < size) (hb : ∀ v ∈ b, 0 ≤ v ∧ v < size) : 0 ≤ cmpL a b ↔ codeM size b ≤ codeM size a :=
  cmp_codeG h1 h2 a b 0 hl ha hb
theorem cmpR_cases (p x : MRel) : (x.name.l < p.name.l → 0 ≤ cmpR p x) ∧ (p.name = x.name → x.arity ≤ p.arity → 0 ≤ cmpR p x) ∧ (p.name = x.name → ¬ x.arity ≤ p.arity → ¬ 0 ≤ cmpR p x) ∧ (¬ x.name.l < p.name.l → ¬ p.name = x.name → ¬ 0 ≤ cmpR p x) := by
  have hn := cmpR_neg (a := p) (b := x)
  unfold ltR at hn
  refine ⟨fun h => ?_, fun h h2 => ?_, fun h h2 => ?_, fun h h2 => ?_⟩
  · refine Int.not_lt.1 fun h3 => ?_
    rcases hn.1 h3 with h4 | ⟨h4, _⟩
    · exact lt_irrefl' _ (str_lt_trans h h4)
    · rw [h4] at h; exact lt_irrefl' _ h
  · refine Int.not_lt.1 fun h3 => ?_
    rcases hn.1 h3 with h4 | ⟨_, h4⟩
    · rw [h] at h4; exact lt_irrefl' _ h4
    · omega
  · have := hn.2 (.inr ⟨h, by omega⟩); omega
  · have : p.name.l < x.name.l := by
      rcases str_tri p.name.l x.name.l with h3 | h3 | h3
      · exact h3
      · exact absurd (by cases hp : p.name; cases hx : x.name; rw [hp, hx] at h3; simp only at h3; rw [h3]) h2
      · exact absurd h3 h
    have := hn.2 (.inl this); omega
structure TupI (T n0 : Nat) (X : Fault) (i : Int) (inv : Nat → Prop) where
  k : Nat
  c : Int
  m : Nat
  hm : n0 ≤ m
  h : (c = 0 ∧ k ≤ T ∧ inv k) ∨ (c ≠ 0 ∧ X = ⟨c, i⟩)
end Go.Abs
namespace Go.Proofs.YtbbjghecpcobjaaDoor
open Go Go.Abs Go.Proofs
section
variable {G : Nat → List FD}
/-! ## R.ModelFault -/
def A22 : Tbl := A21.add 39 (sp1 modelM fun _ => True)
attribute [go_sem] A22
set_option maxRecDepth 100000 in
set_option maxHeartbeats 1000000 in
set_option maxHeartbeats 20000000 in
theorem hA22 : TblOk Tryd.prog G A22 := by
  refine sp1_ok ok39 hA21 fun m _ hw => ?_
  have hcl := Wf_sl (Wf_agg (by have h := hw; rw [enc_model] at h; exact h) (FD.sl (m.consts.map enc)) (by simp))
  have hrl := Wf_sl (Wf_agg (by have h := hw; rw [enc_model] at h; exact h) (FD.sl (m.rels.map enc)) (by simp))
  simp only [List.length_map, maxL] at hcl hrl
  have htl : ∀ i (h : i < m.rels.length), m.rels[i].tuples.length ≤ 281474976710656 ∧ ∀ k (h2 : k < m.rels[i].tuples.length), m.rels[i].tuples[k].length ≤ 281474976710656 := fun i h => by
    have h3 : (enc m.rels[i]).Wf := Wf_mem (Wf_agg (by have h := hw; rw [enc_model] at h; exact h) (FD.sl (m.rels.map enc)) (by simp)) _ (List.mem_map_of_mem (List.getElem_mem h))
    rw [enc_rel] at h3
    have h4 := Wf_agg h3 (FD.sl (m.rels[i].tuples.map enc)) (by simp)
    have h5 := Wf_sl h4
    simp only [List.length_map, maxL] at h5
    refine ⟨h5, fun k hk => ?_⟩
    have h6 : (enc m.rels[i].tuples[k]).Wf := Wf_mem h4 _ (List.mem_map_of_mem (List.getElem_mem hk))
    have h7 := Wf_sl h6
    simpa [maxL] using h7
  have ktl := Kp.mk htl
  clear htl hw
  by_cases c1 : m.size < 1
  · have e : modelM m = ⟨3, 0⟩ := by unfold modelM; rw [if_pos (.inl c1)]
    rw [e]
    refine Wcall_K (N := 188) hm (G := G) hA21 39000 (lst []) ok39 Tryd.func39 rfl rfl (by simp) (by kernel_rfl) ?_
    repeat' (first | refine rq fun _ => ?_ | simp only [go_sem, c1, Tryd.f39])
  by_cases c2 : 6 < m.size
  · have e : modelM m = ⟨3, 0⟩ := by unfold modelM; rw [if_pos (.inr c2)]
    rw [e]
    refine Wcall_K (N := 188) hm (G := G) hA21 39000 (lst []) ok39 Tryd.func39 rfl rfl (by simp) (by kernel_rfl) ?_
    repeat' (first | refine rq fun _ => ?_ | simp only [go_sem, c1, c2, Tryd.f39])
  by_cases c3 : 300 < m.consts.length
  · have e : modelM m = ⟨2, 0⟩ := by unfold modelM; rw [if_neg (by omega), if_pos (.inl c3)]
    have c3' : (300 < (m.consts.length : Int)) = True := eq_true (by omega)
    rw [e]
    refine Wcall_K (N := 188) hm (G := G) hA21 39000 (lst []) ok39 Tryd.func39 rfl rfl (by simp) (by kernel_rfl) ?_
    repeat' (first | refine rq fun _ => ?_ | simp only [go_sem, c1, c2, c3', Tryd.f39])
  have c3' : (300 < (m.consts.length : Int)) = False := eq_false (by omega)
  by_cases c4 : 300 < m.rels.length
  · have e : modelM m = ⟨2, 0⟩ := by unfold modelM; rw [if_neg (by omega), if_pos (.inr c4)]
    have c4' : (300 < (m.rels.length : Int)) = True := eq_true (by omega)
    rw [e]
    refine Wcall_K (N := 188) hm (G := G) hA21 39000 (lst []) ok39 Tryd.func39 rfl rfl (by simp) (by kernel_rfl) ?_
    repeat' (first | refine rq fun _ => ?_ | simp only [go_sem, c1, c2, c3', c4', Tryd.f39])
  have c4' : (300 < (m.rels.length : Int)) = False := eq_false (by omega)
  obtain ⟨hX1, hX2⟩ := modelM_cc (m := m) (by omega) (by omega)
  obtain ⟨X, hX⟩ : ∃ X, modelM m = X := ⟨_, rfl⟩
  rw [hX] at hX1 hX2 ⊢
  have kX1 := Kp.mk hX1
  have kX2 := Kp.mk hX2
  clear hX1 hX2 hX
  refine Wcall_K (N := 188) hm (G := G) hA21 39000 (lst []) ok39 Tryd.func39 rfl rfl (by simp) (by kernel_rfl) ?_
  repeat' (first | refine rq fun _ => ?_ | simp only [go_sem, c1, c2, c3', c4', Tryd.f39])
  refine WK_loop hm (G := G) hA21 39000 (lst []) (ι := LoopM m.consts.length 2 fun i => ccM m 0 = ccM m i)
    ⟨fun q => ⟨frL [(1, .ptr (39001, 0) 0), (2, .ptr (39002, 1) 0), (35, .fz (.sl (m.consts.map enc))), (36, .fz (.i .i64 m.consts.length)), (37, .fz (.i .i64 q.i))], hpL [((39001, 0), some ⟨[.fz (.i .i64 m.size), .fz (.sl (m.consts.map enc)), .fz (.sl (m.rels.map enc))], true, false⟩), ((39002, 1), some ⟨[.fz (.i .i64 0), .fz (.i .i64 0)], true, false⟩)], q.m⟩, fun q => m.consts.length - q.i⟩
    ⟨0, 2, by omega, by omega, rfl⟩ (by kernel_rfl) ?_ ?_
  · refine Weak_to ?_ ?_ ?_ <;> simp only [go_sem]
  rintro ⟨i, q, hi, hq, hp⟩
  try simp only at hi hq hp
  rcases Nat.lt_or_ge i m.consts.length with h1 | h1
  · have hstep := ccM_step h1
    have hbad : ∀ k : Int, constC m.size (pvA m.consts i) m.consts[i] = k → k ≠ 0 → X = ⟨k, i⟩ := fun k h h2 => by
      rw [h, if_pos h2] at hstep
      rw [kX1.out (by rw [hp, hstep]; exact h2), hp, hstep]
    have hgood : constC m.size (pvA m.consts i) m.consts[i] = 0 → ccM m 0 = ccM m (i + 1) := fun h => by
      rw [h, if_neg (by simp)] at hstep
      rw [hp, hstep]
    obtain ⟨c, hc⟩ : ∃ c, m.consts[i] = c := ⟨_, rfl⟩
    rw [hc] at hbad hgood
    clear hstep
    rcases i with _ | i
    · rw [show pvA m.consts 0 = none from rfl] at hbad hgood
      have h1' : (0 : Int) < (m.consts.length : Int) := by omega
      cases hn : isName c.name with
      | false =>
        have hXX := hbad 10 (by unfold constC; rw [if_pos hn]) (by decide)
        have hXc : X.code = 10 := by rw [hXX]
        have hXi : X.index = 0 := by rw [hXX]; first | done | rfl | simp
        repeat' (first | refine rq fun _ => ?_ | simp only [go_sem, h1, h1', hc, const_eta, str_eta, getD_map_lt, hn, hXc, hXi, Tryd.f39])
      | true =>
        by_cases hv0 : c.value < 0
        · have hXX := hbad 3 (by unfold constC; rw [if_neg (by simp [hn]), if_neg (by simp), if_pos (.inl hv0)]) (by decide)
          have hXc : X.code = 3 := by rw [hXX]
          have hXi : X.index = 0 := by rw [hXX]; first | done | rfl | simp
          repeat' (first | refine rq fun _ => ?_ | simp only [go_sem, h1, h1', hc, const_eta, str_eta, getD_map_lt, hn, hv0, hXc, hXi, Tryd.f39])
        by_cases hv1 : m.size ≤ c.value
        · have hXX := hbad 3 (by unfold constC; rw [if_neg (by simp [hn]), if_neg (by simp), if_pos (.inr hv1)]) (by decide)
          have hXc : X.code = 3 := by rw [hXX]
          have hXi : X.index = 0 := by rw [hXX]; first | done | rfl | simp
          repeat' (first | refine rq fun _ => ?_ | simp only [go_sem, h1, h1', hc, const_eta, str_eta, getD_map_lt, hn, hv0, hv1, hXc, hXi, Tryd.f39])
        have hnx := hgood (by unfold constC; rw [if_neg (by simp [hn]), if_neg (by simp), if_neg (by omega)])
        repeat' (first | refine rq fun _ => ?_ | simp only [go_sem, h1, h1', hc, const_eta, str_eta, getD_map_lt, hn, hv0, hv1, Tryd.f39])
        refine ⟨⟨0 + 1, q + 1, by omega, by omega, hnx⟩, by simp only; omega, ?_⟩
        refine Weak_to ?_ ?_ ?_ <;> simp only [go_sem]
        all_goals first | done | omega | rfl | trace_state
    · have h0 : i < m.consts.length := by omega
      rw [pvA_succ h0] at hbad hgood
      obtain ⟨p, hpv⟩ : ∃ p, m.consts[i] = p := ⟨_, rfl⟩
      rw [hpv] at hbad hgood
      have h1' : (i : Int) + 1 < (m.consts.length : Int) := by omega
      have hi0 : (0 : Int) < (i : Int) + 1 := by omega
      have hi1 : (i : Int) + 1 - 1 = (i : Int) := by omega
      have hi2 : ((i : Int) + 1).toNat = i + 1 := by omega
      cases hn : isName c.name with
      | false =>
        have hXX := hbad 10 (by unfold constC; rw [if_pos hn]) (by decide)
        have hXc : X.code = 10 := by rw [hXX]
        have hXi : X.index = (i : Int) + 1 := by rw [hXX]; first | done | rfl | simp
        repeat' (first | refine rq fun _ => ?_ | simp only [go_sem, h1, h1', hc, const_eta, str_eta, getD_map_lt, h0, hi0, hi1, hi2, hpv, hn, hXc, hXi, Tryd.f39])
      | true =>
        by_cases q1 : c.name.l < p.name.l
        · have hlt : ¬ p.name.l < c.name.l := fun h => lt_irrefl' _ (str_lt_trans h q1)
          have bl1 : Op.bytesLess c.name.l p.name.l = true := by rw [bytesLess_lt']; exact decide_eq_true q1
          have hXX := hbad 13 (by unfold constC; rw [if_neg (by simp [hn]), if_pos (by simp only; rw [decide_eq_false hlt]; rfl)]) (by decide)
          have hXc : X.code = 13 := by rw [hXX]
          have hXi : X.index = (i : Int) + 1 := by rw [hXX]; first | done | rfl | simp
          repeat' (first | refine rq fun _ => ?_ | simp only [go_sem, h1, h1', hc, const_eta, str_eta, getD_map_lt, h0, hi0, hi1, hi2, hpv, hn, bl1, hXc, hXi, Tryd.f39])
        have bl1 : Op.bytesLess c.name.l p.name.l = false := by rw [bytesLess_lt']; exact decide_eq_false q1
        by_cases q2 : c.name = p.name
        · have hlt : ¬ p.name.l < c.name.l := by rw [q2]; exact lt_irrefl' _
          have q2' : (c.name.l == p.name.l) = true := by rw [q2]; simp
          have hXX := hbad 13 (by unfold constC; rw [if_neg (by simp [hn]), if_pos (by simp only; rw [decide_eq_false hlt]; rfl)]) (by decide)
          have hXc : X.code = 13 := by rw [hXX]
          have hXi : X.index = (i : Int) + 1 := by rw [hXX]; first | done | rfl | simp
          repeat' (first | refine rq fun _ => ?_ | simp only [go_sem, h1, h1', hc, const_eta, str_eta, getD_map_lt, h0, hi0, hi1, hi2, hpv, hn, bl1, q2', hXc, hXi, Tryd.f39])
        have q2' : (c.name.l == p.name.l) = false := by
          rw [beq_eq_false_iff_ne]
          intro h; exact q2 (by cases hp : p.name; cases hx : c.name; rw [hp, hx] at h; simp only at h; rw [h])
        have hlt : p.name.l < c.name.l := by
          rcases str_tri p.name.l c.name.l with h3 | h3 | h3
          · exact h3
          · exact absurd (by cases hp : p.name; cases hx : c.name; rw [hp, hx] at h3; simp only at h3; rw [h3]) q2
          · exact absurd h3 q1
        by_cases hv0 : c.value < 0
        · have hXX := hbad 3 (by unfold constC; rw [if_neg (by simp [hn]), if_neg (by simp [hlt]), if_pos (.inl hv0)]) (by decide)
          have hXc : X.code = 3 := by rw [hXX]
          have hXi : X.index = (i : Int) + 1 := by rw [hXX]; first | done | rfl | simp
          repeat' (first | refine rq fun _ => ?_ | simp only [go_sem, h1, h1', hc, const_eta, str_eta, getD_map_lt, h0, hi0, hi1, hi2, hpv, hn, bl1, q2', hv0, hXc, hXi, Tryd.f39])
        by_cases hv1 : m.size ≤ c.value
        · have hXX := hbad 3 (by unfold constC; rw [if_neg (by simp [hn]), if_neg (by simp [hlt]), if_pos (.inr hv1)]) (by decide)
          have hXc : X.code = 3 := by rw [hXX]
          have hXi : X.index = (i : Int) + 1 := by rw [hXX]; first | done | rfl | simp
          repeat' (first | refine rq fun _ => ?_ | simp only [go_sem, h1, h1', hc, const_eta, str_eta, getD_map_lt, h0, hi0, hi1, hi2, hpv, hn, bl1, q2', hv0, hv1, hXc, hXi, Tryd.f39])
        have hnx := hgood (by unfold constC; rw [if_neg (by simp [hn]), if_neg (by simp [hlt]), if_neg (by omega)])
        repeat' (first | refine rq fun _ => ?_ | simp only [go_sem, h1, h1', hc, const_eta, str_eta, getD_map_lt, h0, hi0, hi1, hi2, hpv, hn, bl1, q2', hv0, hv1, Tryd.f39])
        refine ⟨⟨(i + 1) + 1, q + 1, by omega, by omega, hnx⟩, by simp only; omega, ?_⟩
        refine Weak_to ?_ ?_ ?_ <;> simp only [go_sem]
        all_goals first | done | omega | rfl | trace_state
  obtain rfl : i = m.consts.length := by omega
  have hrr : X = rrM m 0 := kX2.out (by rw [hp, ccM_end])
  repeat' (first | refine rq fun _ => ?_ | simp only [go_sem, Nat.lt_irrefl, Tryd.f39])
  refine WK_loop hm (G := G) hA21 39000 (lst []) (ι := LoopM m.rels.length 2 fun i => rrM m 0 = rrM m i)
    ⟨fun q => ⟨frL [(1, .ptr (39001, 0) 0), (2, .ptr (39002, 1) 0), (77, .fz (.sl (m.rels.map enc))), (78, .fz (.i .i64 m.rels.length)), (79, .fz (.i .i64 q.i))], hpL [((39001, 0), some ⟨[.fz (.i .i64 m.size), .fz (.sl (m.consts.map enc)), .fz (.sl (m.rels.map enc))], true, false⟩), ((39002, 1), some ⟨[.fz (.i .i64 0), .fz (.i .i64 0)], true, false⟩)], q.m⟩, fun q => m.rels.length - q.i⟩
    ⟨0, q, by omega, by omega, rfl⟩ (by kernel_rfl) ?_ ?_
  · refine Weak_to ?_ ?_ ?_ <;> simp only [go_sem]
    all_goals first | done | omega | rfl | trace_state
  clear hp
  rintro ⟨i, q, hi, hq, hp⟩
  try simp only at hi hq hp
  rcases Nat.lt_or_ge i m.rels.length with h1 | h1
  · have hstep := rrM_step h1
    have hbad : ∀ k : Int, relC m.size (pvA m.rels i) m.rels[i] = k → k ≠ 0 → X = ⟨k, i⟩ := fun k h h2 => by
      rw [h, if_pos h2] at hstep
      rw [hrr, hp, hstep]
    have hgood : relC m.size (pvA m.rels i) m.rels[i] = 0 → rrM m 0 = rrM m (i + 1) := fun h => by
      rw [h, if_neg (by simp)] at hstep
      rw [hp, hstep]
    have htx := ktl.out i h1
    obtain ⟨x, hx⟩ : ∃ x, m.rels[i] = x := ⟨_, rfl⟩
    rw [hx] at hbad hgood
    simp only [hx] at htx
    clear hstep
    rcases i with _ | i
    · rw [show pvA m.rels 0 = none from rfl] at hbad hgood
      have h1' : (0 : Int) < (m.rels.length : Int) := by omega
      cases hn : isName x.name with
      | false =>
        have hXX := hbad 10 (by unfold relC; rw [if_pos hn]) (by decide)
        have hXc : X.code = 10 := by rw [hXX]
        have hXi : X.index = 0 := by rw [hXX]; first | done | rfl | simp
        repeat' (first | refine rq fun _ => ?_ | simp only [go_sem, h1, h1', hx, rel_eta, str_eta, getD_map_lt, hn, Tryd.f39])
        refine WK_loop hm (G := G) hA21 39000 (lst []) (ι := LoopI 0 fun _ => True)
          ⟨fun _ => ⟨frL [(1, .ptr (39001, 0) 0), (2, .ptr (39002, 1) 0), (77, .fz (.sl (m.rels.map enc))), (78, .fz (.i .i64 m.rels.length)), (79, .fz (.i .i64 (0))), (6, .fz (.i .i64 (0))), (7, .ptr (39007, q) 0), (8, .fz (.i .i64 10)), (10, .fz (.i .i64 0))], hpL [((39001, 0), some ⟨[.fz (.i .i64 m.size), .fz (.sl (m.consts.map enc)), .fz (.sl (m.rels.map enc))], true, false⟩), ((39002, 1), some ⟨[.fz (.i .i64 0), .fz (.i .i64 0)], true, false⟩), ((39007, q), some ⟨[.fz (.s x.name.l), .fz (.i .i64 x.arity), .fz (.sl (x.tuples.map enc))], true, false⟩)], q + 1⟩, fun _ => 0⟩
          ⟨0, by omega, trivial⟩ (by kernel_rfl) ?_ ?_
        · refine Weak_to ?_ ?_ ?_ <;> simp only [go_sem]
          all_goals first | done | omega | rfl | trace_state
        rintro ⟨j, hj, _⟩
        have hz : (0 : Int) < (x.tuples.length : Int) ∨ ¬ (0 : Int) < (x.tuples.length : Int) := by omega
        rcases hz with hz | hz
        · repeat' (first | refine rq fun _ => ?_ | simp only [go_sem, hz, hXc, hXi, h1, h1', hx, rel_eta, str_eta, getD_map_lt, Tryd.f39])
        · repeat' (first | refine rq fun _ => ?_ | simp only [go_sem, hz, hXc, hXi, h1, h1', hx, rel_eta, str_eta, getD_map_lt, Tryd.f39])
      | true =>
        by_cases a0 : x.arity < 0
        · have hXX := hbad 3 (by unfold relC; rw [if_neg (by simp [hn]), if_pos (.inl a0)]) (by decide)
          have hXc : X.code = 3 := by rw [hXX]
          have hXi : X.index = 0 := by rw [hXX]; first | done | rfl | simp
          repeat' (first | refine rq fun _ => ?_ | simp only [go_sem, h1, h1', hx, rel_eta, str_eta, getD_map_lt, hn, a0, Tryd.f39])
          refine WK_loop hm (G := G) hA21 39000 (lst []) (ι := LoopI 0 fun _ => True)
            ⟨fun _ => ⟨frL [(1, .ptr (39001, 0) 0), (2, .ptr (39002, 1) 0), (77, .fz (.sl (m.rels.map enc))), (78, .fz (.i .i64 m.rels.length)), (79, .fz (.i .i64 (0))), (6, .fz (.i .i64 (0))), (7, .ptr (39007, q) 0), (8, .fz (.i .i64 3)), (10, .fz (.i .i64 0))], hpL [((39001, 0), some ⟨[.fz (.i .i64 m.size), .fz (.sl (m.consts.map enc)), .fz (.sl (m.rels.map enc))], true, false⟩), ((39002, 1), some ⟨[.fz (.i .i64 0), .fz (.i .i64 0)], true, false⟩), ((39007, q), some ⟨[.fz (.s x.name.l), .fz (.i .i64 x.arity), .fz (.sl (x.tuples.map enc))], true, false⟩)], q + 1⟩, fun _ => 0⟩
            ⟨0, by omega, trivial⟩ (by kernel_rfl) ?_ ?_
          · refine Weak_to ?_ ?_ ?_ <;> simp only [go_sem]
            all_goals first | done | omega | rfl | trace_state
          rintro ⟨j, hj, _⟩
          have hz : (0 : Int) < (x.tuples.length : Int) ∨ ¬ (0 : Int) < (x.tuples.length : Int) := by omega
          rcases hz with hz | hz
          · repeat' (first | refine rq fun _ => ?_ | simp only [go_sem, hz, hXc, hXi, h1, h1', hx, rel_eta, str_eta, getD_map_lt, Tryd.f39])
          · repeat' (first | refine rq fun _ => ?_ | simp only [go_sem, hz, hXc, hXi, h1, h1', hx, rel_eta, str_eta, getD_map_lt, Tryd.f39])
        by_cases a1 : 3 < x.arity
        · have hXX := hbad 3 (by unfold relC; rw [if_neg (by simp [hn]), if_pos (.inr a1)]) (by decide)
          have hXc : X.code = 3 := by rw [hXX]
          have hXi : X.index = 0 := by rw [hXX]; first | done | rfl | simp
          repeat' (first | refine rq fun _ => ?_ | simp only [go_sem, h1, h1', hx, rel_eta, str_eta, getD_map_lt, hn, a0, a1, Tryd.f39])
          refine WK_loop hm (G := G) hA21 39000 (lst []) (ι := LoopI 0 fun _ => True)
            ⟨fun _ => ⟨frL [(1, .ptr (39001, 0) 0), (2, .ptr (39002, 1) 0), (77, .fz (.sl (m.rels.map enc))), (78, .fz (.i .i64 m.rels.length)), (79, .fz (.i .i64 (0))), (6, .fz (.i .i64 (0))), (7, .ptr (39007, q) 0), (8, .fz (.i .i64 3)), (10, .fz (.i .i64 0))], hpL [((39001, 0), some ⟨[.fz (.i .i64 m.size), .fz (.sl (m.consts.map enc)), .fz (.sl (m.rels.map enc))], true, false⟩), ((39002, 1), some ⟨[.fz (.i .i64 0), .fz (.i .i64 0)], true, false⟩), ((39007, q), some ⟨[.fz (.s x.name.l), .fz (.i .i64 x.arity), .fz (.sl (x.tuples.map enc))], true, false⟩)], q + 1⟩, fun _ => 0⟩
            ⟨0, by omega, trivial⟩ (by kernel_rfl) ?_ ?_
          · refine Weak_to ?_ ?_ ?_ <;> simp only [go_sem]
            all_goals first | done | omega | rfl | trace_state
          rintro ⟨j, hj, _⟩
          have hz : (0 : Int) < (x.tuples.length : Int) ∨ ¬ (0 : Int) < (x.tuples.length : Int) := by omega
          rcases hz with hz | hz
          · repeat' (first | refine rq fun _ => ?_ | simp only [go_sem, hz, hXc, hXi, h1, h1', hx, rel_eta, str_eta, getD_map_lt, Tryd.f39])
          · repeat' (first | refine rq fun _ => ?_ | simp only [go_sem, hz, hXc, hXi, h1, h1', hx, rel_eta, str_eta, getD_map_lt, Tryd.f39])
        have hrel : relC m.size none x = ttM m.size x.arity x.tuples 0 := by unfold relC; rw [if_neg (by simp [hn]), if_neg (by omega), if_neg (by simp)]; rfl
        rw [hrel] at hbad hgood
        have hT := htx.1
        repeat' (first | refine rq fun _ => ?_ | simp only [go_sem, h1, h1', hx, rel_eta, str_eta, getD_map_lt, hn, a0, a1, Tryd.f39])
        refine WK_loop hm (G := G) hA21 39000 (lst []) (ι := TupI x.tuples.length (q + 1) X (0) fun k => ttM m.size x.arity x.tuples 0 = ttM m.size x.arity x.tuples k ∧ ∀ k' (h : k' < x.tuples.length), k' < k → okT m.size x.arity x.tuples[k'])
          ⟨fun q2 => ⟨frL [(1, .ptr (39001, 0) 0), (2, .ptr (39002, 1) 0), (77, .fz (.sl (m.rels.map enc))), (78, .fz (.i .i64 m.rels.length)), (79, .fz (.i .i64 (0))), (6, .fz (.i .i64 (0))), (7, .ptr (39007, q) 0), (8, .fz (.i .i64 q2.c)), (10, .fz (.i .i64 q2.k))], hpL [((39001, 0), some ⟨[.fz (.i .i64 m.size), .fz (.sl (m.consts.map enc)), .fz (.sl (m.rels.map enc))], true, false⟩), ((39002, 1), some ⟨[.fz (.i .i64 0), .fz (.i .i64 0)], true, false⟩), ((39007, q), some ⟨[.fz (.s x.name.l), .fz (.i .i64 x.arity), .fz (.sl (x.tuples.map enc))], true, false⟩)], q2.m⟩, fun q2 => if q2.c = 0 then x.tuples.length - q2.k + 1 else 0⟩
          ⟨0, 0, (q + 1), by omega, .inl ⟨rfl, by omega, rfl, fun k' h h9 => by omega⟩⟩ (by kernel_rfl) ?_ ?_
        · refine Weak_to ?_ ?_ ?_ <;> simp only [go_sem]
          all_goals first | done | omega | rfl | trace_state
        rintro ⟨k, cd, mm, hmm, ⟨rfl, hk9, hpk2, hval⟩ | ⟨hcd, hX⟩⟩
        rotate_left
        · try simp only at hmm
          have hcd' : (cd = 0) = False := eq_false hcd
          have hz : (k : Int) < (x.tuples.length : Int) ∨ ¬ (k : Int) < (x.tuples.length : Int) := by omega
          have hXc : X.code = cd := by rw [hX]
          have hXi : X.index = 0 := by rw [hX]
          rcases hz with hz | hz
          · repeat' (first | refine rq fun _ => ?_ | simp only [go_sem, hz, hcd', hXc, hXi, h1, h1', hx, rel_eta, str_eta, getD_map_lt, Tryd.f39])
          · repeat' (first | refine rq fun _ => ?_ | simp only [go_sem, hz, hcd', hXc, hXi, h1, h1', hx, rel_eta, str_eta, getD_map_lt, Tryd.f39])
        try simp only at hmm hk9
        rcases Nat.lt_or_ge k x.tuples.length with h2 | h2
        · have hst := ttM_step (size := m.size) (arity := x.arity) h2
          have kTb : ∀ c : Int, tupC m.size x.arity (pvA x.tuples k) x.tuples[k] = c → c ≠ 0 → X = ⟨c, (0 : Int)⟩ := fun c h h4 => by
            rw [h, if_pos h4] at hst
            exact hbad c (hpk2.trans hst) h4
          have kTg : tupC m.size x.arity (pvA x.tuples k) x.tuples[k] = 0 → ttM m.size x.arity x.tuples 0 = ttM m.size x.arity x.tuples (k + 1) := fun h => by
            rw [h, if_neg (by simp)] at hst
            exact hpk2.trans hst
          have htlk := htx.2 k h2
          obtain ⟨t, hkx⟩ : ∃ t, x.tuples[k] = t := ⟨_, rfl⟩
          rw [hkx] at kTb kTg htlk
          clear hst
          have hk := h2
          rcases k with _ | k
          · rw [show pvA x.tuples 0 = none from rfl] at kTb kTg
            have hk1 : (0 : Int) < (x.tuples.length : Int) := by omega
            by_cases ha : (t.length : Int) = x.arity
            rotate_left
            · have ha' : ((t.length : Int) = x.arity) = False := eq_false ha
              have hXX := kTb 9 (by unfold tupC; rw [if_pos ha]) (by decide)
              have hXc : X.code = 9 := by rw [hXX]
              have hXi : X.index = 0 := by rw [hXX]; first | done | rfl | simp
              repeat' (first | refine rq fun _ => ?_ | simp only [go_sem, hk, hk1, hkx, h1, h1', hx, rel_eta, str_eta, getD_map_lt, hn, a0, a1, ha', hXc, hXi, Tryd.f39])
            have ha' : ((t.length : Int) = x.arity) = True := eq_true ha
            have htl3 : t.length ≤ 3 := by omega
            repeat' (first | refine rq fun _ => ?_ | simp only [go_sem, hk, hk1, hkx, h1, h1', hx, rel_eta, str_eta, getD_map_lt, hn, a0, a1, ha', Tryd.f39])
            refine WK_loop hm (G := G) hA21 39000 (lst []) (ι := LoopI t.length fun _ => True)
              ⟨fun q2 => ⟨frL [(1, .ptr (39001, 0) 0), (2, .ptr (39002, 1) 0), (77, .fz (.sl (m.rels.map enc))), (78, .fz (.i .i64 m.rels.length)), (79, .fz (.i .i64 (0))), (6, .fz (.i .i64 (0))), (7, .ptr (39007, q) 0), (8, .fz (.i .i64 (badC m.size t q2.i))), (10, .fz (.i .i64 (0))), (11, .fz (.sl (t.map enc))), (144, .fz (.sl (t.map enc))), (145, .fz (.i .i64 t.length)), (146, .fz (.i .i64 q2.i))], hpL [((39001, 0), some ⟨[.fz (.i .i64 m.size), .fz (.sl (m.consts.map enc)), .fz (.sl (m.rels.map enc))], true, false⟩), ((39002, 1), some ⟨[.fz (.i .i64 0), .fz (.i .i64 0)], true, false⟩), ((39007, q), some ⟨[.fz (.s x.name.l), .fz (.i .i64 x.arity), .fz (.sl (x.tuples.map enc))], true, false⟩)], mm⟩, fun q2 => t.length - q2.i⟩
              ⟨0, by omega, trivial⟩ (by kernel_rfl) ?_ ?_
            · refine Weak_to ?_ ?_ ?_ <;> simp only [go_sem, badC_zero]
              all_goals first | done | omega | rfl | trace_state
            rintro ⟨j, hj, _⟩
            try simp only at hj
            rcases Nat.lt_or_ge j t.length with h3 | h3
            · have hts := badC_succ m.size h3
              obtain ⟨v, hv⟩ : ∃ v, t[j] = v := ⟨_, rfl⟩
              rw [hv] at hts
              by_cases v0 : v < 0
              · rw [if_pos (.inl v0)] at hts
                repeat' (first | refine rq fun _ => ?_ | simp only [go_sem, hk, hk1, hkx, h1, h1', hx, rel_eta, str_eta, getD_map_lt, hn, a0, a1, h3, hv, v0, Tryd.f39])
                refine ⟨⟨j + 1, by omega, trivial⟩, by simp only; omega, ?_⟩
                refine Weak_to ?_ ?_ ?_ <;> simp only [go_sem, hts]
                all_goals first | done | omega | rfl | trace_state
              by_cases v1 : m.size ≤ v
              · rw [if_pos (.inr v1)] at hts
                repeat' (first | refine rq fun _ => ?_ | simp only [go_sem, hk, hk1, hkx, h1, h1', hx, rel_eta, str_eta, getD_map_lt, hn, a0, a1, h3, hv, v0, v1, Tryd.f39])
                refine ⟨⟨j + 1, by omega, trivial⟩, by simp only; omega, ?_⟩
                refine Weak_to ?_ ?_ ?_ <;> simp only [go_sem, hts]
                all_goals first | done | omega | rfl | trace_state
              rw [if_neg (by omega)] at hts
              repeat' (first | refine rq fun _ => ?_ | simp only [go_sem, hk, hk1, hkx, h1, h1', hx, rel_eta, str_eta, getD_map_lt, hn, a0, a1, h3, hv, v0, v1, Tryd.f39])
              refine ⟨⟨j + 1, by omega, trivial⟩, by simp only; omega, ?_⟩
              refine Weak_to ?_ ?_ ?_ <;> simp only [go_sem, hts]
              all_goals first | done | omega | rfl | trace_state
            obtain rfl : j = t.length := by omega
            cases hany : t.any (badV m.size) with
            | true =>
              have hbc : badC m.size t t.length = 3 := by unfold badC; rw [List.take_length, hany]; rfl
              have hX3 := kTb 3 (by unfold tupC; rw [if_neg (by simp [ha]), if_pos (show (t.any fun v => decide (v < 0 ∨ m.size ≤ v)) = true from hany)]) (by decide)
              repeat' (first | refine rq fun _ => ?_ | simp only [go_sem, hk, hk1, hkx, h1, h1', hx, rel_eta, str_eta, getD_map_lt, hn, a0, a1, Nat.lt_irrefl, hbc, Tryd.f39])
              refine ⟨⟨0 + 1, 3, mm, by omega, .inr ⟨by decide, hX3⟩⟩, by simp <;> omega, ?_⟩
              refine Weak_to ?_ ?_ ?_ <;> simp only [go_sem]
              all_goals first | done | omega | rfl | trace_state
            | false =>
              have hbc : badC m.size t t.length = 0 := by unfold badC; rw [List.take_length, hany]; rfl
              have hvt := okT_of (size := m.size) hany
              have hinv : ∀ k' (h : k' < x.tuples.length), k' < 0 + 1 → okT m.size x.arity x.tuples[k'] := fun k' h h9 => by
                rcases Nat.lt_or_ge k' 0 with h8 | h8
                · exact hval k' h h8
                · have e8 : k' = 0 := by omega
                  subst e8
                  rw [hkx]; exact ⟨ha, hvt⟩
              have hnx := kTg (by unfold tupC; rw [if_neg (by simp [ha]), if_neg (by rw [show (t.any fun v => decide (v < 0 ∨ m.size ≤ v)) = t.any (badV m.size) from rfl, hany]; decide), if_neg (by simp)])
              repeat' (first | refine rq fun _ => ?_ | simp only [go_sem, hk, hk1, hkx, h1, h1', hx, rel_eta, str_eta, getD_map_lt, hn, a0, a1, Nat.lt_irrefl, hbc, Tryd.f39])
              refine ⟨⟨0 + 1, 0, mm, by omega, .inl ⟨rfl, by omega, hnx, hinv⟩⟩, by simp <;> omega, ?_⟩
              refine Weak_to ?_ ?_ ?_ <;> simp only [go_sem]
              all_goals first | done | omega | rfl | trace_state
          · have hk0 : k < x.tuples.length := by omega
            rw [pvA_succ hk0] at kTb kTg
            obtain ⟨y, hpk⟩ : ∃ y, x.tuples[k] = y := ⟨_, rfl⟩
            rw [hpk] at kTb kTg
            have hk1 : (k : Int) + 1 < (x.tuples.length : Int) := by omega
            have hk3 : (0 : Int) < (k : Int) + 1 := by omega
            have hk4 : (k : Int) + 1 - 1 = (k : Int) := by omega
            have hk5 : ((k : Int) + 1).toNat = k + 1 := by omega
            by_cases ha : (t.length : Int) = x.arity
            rotate_left
            · have ha' : ((t.length : Int) = x.arity) = False := eq_false ha
              have hXX := kTb 9 (by unfold tupC; rw [if_pos ha]) (by decide)
              have hXc : X.code = 9 := by rw [hXX]
              have hXi : X.index = 0 := by rw [hXX]; first | done | rfl | simp
              repeat' (first | refine rq fun _ => ?_ | simp only [go_sem, hk, hk1, hkx, hk0, hpk, hk3, hk4, hk5, h1, h1', hx, rel_eta, str_eta, getD_map_lt, hn, a0, a1, ha', hXc, hXi, Tryd.f39])
            have ha' : ((t.length : Int) = x.arity) = True := eq_true ha
            have htl3 : t.length ≤ 3 := by omega
            repeat' (first | refine rq fun _ => ?_ | simp only [go_sem, hk, hk1, hkx, hk0, hpk, hk3, hk4, hk5, h1, h1', hx, rel_eta, str_eta, getD_map_lt, hn, a0, a1, ha', Tryd.f39])
            refine WK_loop hm (G := G) hA21 39000 (lst []) (ι := LoopI t.length fun _ => True)
              ⟨fun q2 => ⟨frL [(1, .ptr (39001, 0) 0), (2, .ptr (39002, 1) 0), (77, .fz (.sl (m.rels.map enc))), (78, .fz (.i .i64 m.rels.length)), (79, .fz (.i .i64 (0))), (6, .fz (.i .i64 (0))), (7, .ptr (39007, q) 0), (8, .fz (.i .i64 (badC m.size t q2.i))), (10, .fz (.i .i64 ((k : Int) + 1))), (11, .fz (.sl (t.map enc))), (144, .fz (.sl (t.map enc))), (145, .fz (.i .i64 t.length)), (146, .fz (.i .i64 q2.i))], hpL [((39001, 0), some ⟨[.fz (.i .i64 m.size), .fz (.sl (m.consts.map enc)), .fz (.sl (m.rels.map enc))], true, false⟩), ((39002, 1), some ⟨[.fz (.i .i64 0), .fz (.i .i64 0)], true, false⟩), ((39007, q), some ⟨[.fz (.s x.name.l), .fz (.i .i64 x.arity), .fz (.sl (x.tuples.map enc))], true, false⟩)], mm⟩, fun q2 => t.length - q2.i⟩
              ⟨0, by omega, trivial⟩ (by kernel_rfl) ?_ ?_
            · refine Weak_to ?_ ?_ ?_ <;> simp only [go_sem, badC_zero]
              all_goals first | done | omega | rfl | trace_state
            rintro ⟨j, hj, _⟩
            try simp only at hj
            rcases Nat.lt_or_ge j t.length with h3 | h3
            · have hts := badC_succ m.size h3
              obtain ⟨v, hv⟩ : ∃ v, t[j] = v := ⟨_, rfl⟩
              rw [hv] at hts
              by_cases v0 : v < 0
              · rw [if_pos (.inl v0)] at hts
                repeat' (first | refine rq fun _ => ?_ | simp only [go_sem, hk, hk1, hkx, hk0, hpk, hk3, hk4, hk5, h1, h1', hx, rel_eta, str_eta, getD_map_lt, hn, a0, a1, h3, hv, v0, Tryd.f39])
                refine ⟨⟨j + 1, by omega, trivial⟩, by simp only; omega, ?_⟩
                refine Weak_to ?_ ?_ ?_ <;> simp only [go_sem, hts]
                all_goals first | done | omega | rfl | trace_state
              by_cases v1 : m.size ≤ v
              · rw [if_pos (.inr v1)] at hts
                repeat' (first | refine rq fun _ => ?_ | simp only [go_sem, hk, hk1, hkx, hk0, hpk, hk3, hk4, hk5, h1, h1', hx, rel_eta, str_eta, getD_map_lt, hn, a0, a1, h3, hv, v0, v1, Tryd.f39])
                refine ⟨⟨j + 1, by omega, trivial⟩, by simp only; omega, ?_⟩
                refine Weak_to ?_ ?_ ?_ <;> simp only [go_sem, hts]
                all_goals first | done | omega | rfl | trace_state
              rw [if_neg (by omega)] at hts
              repeat' (first | refine rq fun _ => ?_ | simp only [go_sem, hk, hk1, hkx, hk0, hpk, hk3, hk4, hk5, h1, h1', hx, rel_eta, str_eta, getD_map_lt, hn, a0, a1, h3, hv, v0, v1, Tryd.f39])
              refine ⟨⟨j + 1, by omega, trivial⟩, by simp only; omega, ?_⟩
              refine Weak_to ?_ ?_ ?_ <;> simp only [go_sem, hts]
              all_goals first | done | omega | rfl | trace_state
            obtain rfl : j = t.length := by omega
            cases hany : t.any (badV m.size) with
            | true =>
              have hbc : badC m.size t t.length = 3 := by unfold badC; rw [List.take_length, hany]; rfl
              have hX3 := kTb 3 (by unfold tupC; rw [if_neg (by simp [ha]), if_pos (show (t.any fun v => decide (v < 0 ∨ m.size ≤ v)) = true from hany)]) (by decide)
              repeat' (first | refine rq fun _ => ?_ | simp only [go_sem, hk, hk1, hkx, hk0, hpk, hk3, hk4, hk5, h1, h1', hx, rel_eta, str_eta, getD_map_lt, hn, a0, a1, Nat.lt_irrefl, hbc, Tryd.f39])
              refine ⟨⟨(k + 1) + 1, 3, mm, by omega, .inr ⟨by decide, hX3⟩⟩, by simp <;> omega, ?_⟩
              refine Weak_to ?_ ?_ ?_ <;> simp only [go_sem]
              all_goals first | done | omega | rfl | trace_state
            | false =>
              have hbc : badC m.size t t.length = 0 := by unfold badC; rw [List.take_length, hany]; rfl
              have hvt := okT_of (size := m.size) hany
              have hinv : ∀ k' (h : k' < x.tuples.length), k' < (k + 1) + 1 → okT m.size x.arity x.tuples[k'] := fun k' h h9 => by
                rcases Nat.lt_or_ge k' (k + 1) with h8 | h8
                · exact hval k' h h8
                · have e8 : k' = (k + 1) := by omega
                  subst e8
                  rw [hkx]; exact ⟨ha, hvt⟩
              have hy := hval k hk0 (by omega)
              rw [hpk] at hy
              have pt : codePre t m.size := okT_pre (by omega) (by omega) (by omega) ⟨ha, hvt⟩
              have py : codePre y m.size := okT_pre (by omega) (by omega) (by omega) hy
              have hcc := cmp_code (size := m.size) (by omega) (by omega) (n := 0) y t (by have := hy.1; omega) hy.2 hvt
              by_cases hcl2 : 0 ≤ cmpL y t
              · have hX13 := kTb 13 (by unfold tupC; rw [if_neg (by simp [ha]), if_neg (by rw [show (t.any fun v => decide (v < 0 ∨ m.size ≤ v)) = t.any (badV m.size) from rfl, hany]; decide), if_pos (by simp [hcl2])]) (by decide)
                have hcd : codeM m.size t ≤ codeM m.size y := hcc.1 hcl2
                repeat' (first | refine ReqK.i pt fun _ => ?_ | refine ReqK.i py fun _ => ?_ | refine rq fun _ => ?_ | simp only [go_sem, hk, hk1, hkx, hk0, hpk, hk3, hk4, hk5, h1, h1', hx, rel_eta, str_eta, getD_map_lt, hn, a0, a1, Nat.lt_irrefl, hbc, hcd, Tryd.f39])
                refine ⟨⟨(k + 1) + 1, 13, mm, by omega, .inr ⟨by decide, hX13⟩⟩, by simp <;> omega, ?_⟩
                refine Weak_to ?_ ?_ ?_ <;> simp only [go_sem]
                all_goals first | done | omega | rfl | trace_state
              have hcd : ¬ codeM m.size t ≤ codeM m.size y := fun h => hcl2 (hcc.2 h)
              have hnx := kTg (by unfold tupC; rw [if_neg (by simp [ha]), if_neg (by rw [show (t.any fun v => decide (v < 0 ∨ m.size ≤ v)) = t.any (badV m.size) from rfl, hany]; decide), if_neg (by simp [hcl2])])
              repeat' (first | refine ReqK.i pt fun _ => ?_ | refine ReqK.i py fun _ => ?_ | refine rq fun _ => ?_ | simp only [go_sem, hk, hk1, hkx, hk0, hpk, hk3, hk4, hk5, h1, h1', hx, rel_eta, str_eta, getD_map_lt, hn, a0, a1, Nat.lt_irrefl, hbc, hcd, Tryd.f39])
              refine ⟨⟨(k + 1) + 1, 0, mm, by omega, .inl ⟨rfl, by omega, hnx, hinv⟩⟩, by simp <;> omega, ?_⟩
              refine Weak_to ?_ ?_ ?_ <;> simp only [go_sem]
              all_goals first | done | omega | rfl | trace_state
        obtain rfl : k = x.tuples.length := by omega
        have hnx := hgood (by rw [hpk2, ttM_end])
        repeat' (first | refine rq fun _ => ?_ | simp only [go_sem, h1, h1', hx, rel_eta, str_eta, getD_map_lt, hn, a0, a1, Nat.lt_irrefl, Tryd.f39])
        refine ⟨⟨0 + 1, mm, by omega, by omega, hnx⟩, by simp only; omega, ?_⟩
        refine Weak_to ?_ ?_ ?_ <;> simp only [go_sem]
        all_goals first | done | omega | rfl | trace_state
    · have h0 : i < m.rels.length := by omega
      rw [pvA_succ h0] at hbad hgood
      obtain ⟨p, hpv⟩ : ∃ p, m.rels[i] = p := ⟨_, rfl⟩
      rw [hpv] at hbad hgood
      have h1' : (i : Int) + 1 < (m.rels.length : Int) := by omega
      have hi0 : (0 : Int) < (i : Int) + 1 := by omega
      have hi1 : (i : Int) + 1 - 1 = (i : Int) := by omega
      have hi2 : ((i : Int) + 1).toNat = i + 1 := by omega
      cases hn : isName x.name with
      | false =>
        have hXX := hbad 10 (by unfold relC; rw [if_pos hn]) (by decide)
        have hXc : X.code = 10 := by rw [hXX]
        have hXi : X.index = (i : Int) + 1 := by rw [hXX]; first | done | rfl | simp
        repeat' (first | refine rq fun _ => ?_ | simp only [go_sem, h1, h1', hx, rel_eta, str_eta, getD_map_lt, hpv, h0, hi0, hi1, hi2, hn, Tryd.f39])
        refine WK_loop hm (G := G) hA21 39000 (lst []) (ι := LoopI 0 fun _ => True)
          ⟨fun _ => ⟨frL [(1, .ptr (39001, 0) 0), (2, .ptr (39002, 1) 0), (77, .fz (.sl (m.rels.map enc))), (78, .fz (.i .i64 m.rels.length)), (79, .fz (.i .i64 ((i : Int) + 1))), (6, .fz (.i .i64 ((i : Int) + 1))), (7, .ptr (39007, q) 0), (8, .fz (.i .i64 10)), (10, .fz (.i .i64 0))], hpL [((39001, 0), some ⟨[.fz (.i .i64 m.size), .fz (.sl (m.consts.map enc)), .fz (.sl (m.rels.map enc))], true, false⟩), ((39002, 1), some ⟨[.fz (.i .i64 0), .fz (.i .i64 0)], true, false⟩), ((39007, q), some ⟨[.fz (.s x.name.l), .fz (.i .i64 x.arity), .fz (.sl (x.tuples.map enc))], true, false⟩)], q + 1⟩, fun _ => 0⟩
          ⟨0, by omega, trivial⟩ (by kernel_rfl) ?_ ?_
        · refine Weak_to ?_ ?_ ?_ <;> simp only [go_sem]
          all_goals first | done | omega | rfl | trace_state
        rintro ⟨j, hj, _⟩
        have hz : (0 : Int) < (x.tuples.length : Int) ∨ ¬ (0 : Int) < (x.tuples.length : Int) := by omega
        rcases hz with hz | hz
        · repeat' (first | refine rq fun _ => ?_ | simp only [go_sem, hz, hXc, hXi, h1, h1', hx, rel_eta, str_eta, getD_map_lt, hpv, h0, hi0, hi1, hi2, Tryd.f39])
        · repeat' (first | refine rq fun _ => ?_ | simp only [go_sem, hz, hXc, hXi, h1, h1', hx, rel_eta, str_eta, getD_map_lt, hpv, h0, hi0, hi1, hi2, Tryd.f39])
      | true =>
        by_cases a0 : x.arity < 0
        · have hXX := hbad 3 (by unfold relC; rw [if_neg (by simp [hn]), if_pos (.inl a0)]) (by decide)
          have hXc : X.code = 3 := by rw [hXX]
          have hXi : X.index = (i : Int) + 1 := by rw [hXX]; first | done | rfl | simp
          repeat' (first | refine rq fun _ => ?_ | simp only [go_sem, h1, h1', hx, rel_eta, str_eta, getD_map_lt, hpv, h0, hi0, hi1, hi2, hn, a0, Tryd.f39])
          refine WK_loop hm (G := G) hA21 39000 (lst []) (ι := LoopI 0 fun _ => True)
            ⟨fun _ => ⟨frL [(1, .ptr (39001, 0) 0), (2, .ptr (39002, 1) 0), (77, .fz (.sl (m.rels.map enc))), (78, .fz (.i .i64 m.rels.length)), (79, .fz (.i .i64 ((i : Int) + 1))), (6, .fz (.i .i64 ((i : Int) + 1))), (7, .ptr (39007, q) 0), (8, .fz (.i .i64 3)), (10, .fz (.i .i64 0))], hpL [((39001, 0), some ⟨[.fz (.i .i64 m.size), .fz (.sl (m.consts.map enc)), .fz (.sl (m.rels.map enc))], true, false⟩), ((39002, 1), some ⟨[.fz (.i .i64 0), .fz (.i .i64 0)], true, false⟩), ((39007, q), some ⟨[.fz (.s x.name.l), .fz (.i .i64 x.arity), .fz (.sl (x.tuples.map enc))], true, false⟩)], q + 1⟩, fun _ => 0⟩
            ⟨0, by omega, trivial⟩ (by kernel_rfl) ?_ ?_
          · refine Weak_to ?_ ?_ ?_ <;> simp only [go_sem]
            all_goals first | done | omega | rfl | trace_state
          rintro ⟨j, hj, _⟩
          have hz : (0 : Int) < (x.tuples.length : Int) ∨ ¬ (0 : Int) < (x.tuples.length : Int) := by omega
          rcases hz with hz | hz
          · repeat' (first | refine rq fun _ => ?_ | simp only [go_sem, hz, hXc, hXi, h1, h1', hx, rel_eta, str_eta, getD_map_lt, hpv, h0, hi0, hi1, hi2, Tryd.f39])
          · repeat' (first | refine rq fun _ => ?_ | simp only [go_sem, hz, hXc, hXi, h1, h1', hx, rel_eta, str_eta, getD_map_lt, hpv, h0, hi0, hi1, hi2, Tryd.f39])
        by_cases a1 : 3 < x.arity
        · have hXX := hbad 3 (by unfold relC; rw [if_neg (by simp [hn]), if_pos (.inr a1)]) (by decide)
          have hXc : X.code = 3 := by rw [hXX]
          have hXi : X.index = (i : Int) + 1 := by rw [hXX]; first | done | rfl | simp
          repeat' (first | refine rq fun _ => ?_ | simp only [go_sem, h1, h1', hx, rel_eta, str_eta, getD_map_lt, hpv, h0, hi0, hi1, hi2, hn, a0, a1, Tryd.f39])
          refine WK_loop hm (G := G) hA21 39000 (lst []) (ι := LoopI 0 fun _ => True)
            ⟨fun _ => ⟨frL [(1, .ptr (39001, 0) 0), (2, .ptr (39002, 1) 0), (77, .fz (.sl (m.rels.map enc))), (78, .fz (.i .i64 m.rels.length)), (79, .fz (.i .i64 ((i : Int) + 1))), (6, .fz (.i .i64 ((i : Int) + 1))), (7, .ptr (39007, q) 0), (8, .fz (.i .i64 3)), (10, .fz (.i .i64 0))], hpL [((39001, 0), some ⟨[.fz (.i .i64 m.size), .fz (.sl (m.consts.map enc)), .fz (.sl (m.rels.map enc))], true, false⟩), ((39002, 1), some ⟨[.fz (.i .i64 0), .fz (.i .i64 0)], true, false⟩), ((39007, q), some ⟨[.fz (.s x.name.l), .fz (.i .i64 x.arity), .fz (.sl (x.tuples.map enc))], true, false⟩)], q + 1⟩, fun _ => 0⟩
            ⟨0, by omega, trivial⟩ (by kernel_rfl) ?_ ?_
          · refine Weak_to ?_ ?_ ?_ <;> simp only [go_sem]
            all_goals first | done | omega | rfl | trace_state
          rintro ⟨j, hj, _⟩
          have hz : (0 : Int) < (x.tuples.length : Int) ∨ ¬ (0 : Int) < (x.tuples.length : Int) := by omega
          rcases hz with hz | hz
          · repeat' (first | refine rq fun _ => ?_ | simp only [go_sem, hz, hXc, hXi, h1, h1', hx, rel_eta, str_eta, getD_map_lt, hpv, h0, hi0, hi1, hi2, Tryd.f39])
          · repeat' (first | refine rq fun _ => ?_ | simp only [go_sem, hz, hXc, hXi, h1, h1', hx, rel_eta, str_eta, getD_map_lt, hpv, h0, hi0, hi1, hi2, Tryd.f39])
        have hcr := cmpR_cases p x
        by_cases b1 : x.name.l < p.name.l
        · have hcp : 0 ≤ cmpR p x := hcr.1 b1
          have e1 : Op.bytesLess p.name.l x.name.l = false := by rw [bytesLess_lt']; exact decide_eq_false fun h => lt_irrefl' _ (str_lt_trans h b1)
          have e2 : (p.name.l == x.name.l) = false := by rw [beq_eq_false_iff_ne]; intro h; rw [h] at b1; exact lt_irrefl' _ b1
          have hXX := hbad 13 (by unfold relC; rw [if_neg (by simp [hn]), if_neg (by omega), if_pos (by simp [hcp])]) (by decide)
          have hXc : X.code = 13 := by rw [hXX]
          have hXi : X.index = (i : Int) + 1 := by rw [hXX]; first | done | rfl | simp
          repeat' (first | refine rq fun _ => ?_ | simp only [go_sem, h1, h1', hx, rel_eta, str_eta, getD_map_lt, hpv, h0, hi0, hi1, hi2, hn, a0, a1, e1, e2, Tryd.f39])
          refine WK_loop hm (G := G) hA21 39000 (lst []) (ι := LoopI 0 fun _ => True)
            ⟨fun _ => ⟨frL [(1, .ptr (39001, 0) 0), (2, .ptr (39002, 1) 0), (77, .fz (.sl (m.rels.map enc))), (78, .fz (.i .i64 m.rels.length)), (79, .fz (.i .i64 ((i : Int) + 1))), (6, .fz (.i .i64 ((i : Int) + 1))), (7, .ptr (39007, q) 0), (8, .fz (.i .i64 13)), (10, .fz (.i .i64 0))], hpL [((39001, 0), some ⟨[.fz (.i .i64 m.size), .fz (.sl (m.consts.map enc)), .fz (.sl (m.rels.map enc))], true, false⟩), ((39002, 1), some ⟨[.fz (.i .i64 0), .fz (.i .i64 0)], true, false⟩), ((39007, q), some ⟨[.fz (.s x.name.l), .fz (.i .i64 x.arity), .fz (.sl (x.tuples.map enc))], true, false⟩)], q + 2⟩, fun _ => 0⟩
            ⟨0, by omega, trivial⟩ (by kernel_rfl) ?_ ?_
          · refine Weak_to ?_ ?_ ?_ <;> simp only [go_sem]
            all_goals first | done | omega | rfl | trace_state
          rintro ⟨j, hj, _⟩
          have hz : (0 : Int) < (x.tuples.length : Int) ∨ ¬ (0 : Int) < (x.tuples.length : Int) := by omega
          rcases hz with hz | hz
          · repeat' (first | refine rq fun _ => ?_ | simp only [go_sem, hz, hXc, hXi, h1, h1', hx, rel_eta, str_eta, getD_map_lt, hpv, h0, hi0, hi1, hi2, Tryd.f39])
          · repeat' (first | refine rq fun _ => ?_ | simp only [go_sem, hz, hXc, hXi, h1, h1', hx, rel_eta, str_eta, getD_map_lt, hpv, h0, hi0, hi1, hi2, Tryd.f39])
        by_cases b2 : p.name = x.name
        case pos =>
          have e1 : Op.bytesLess p.name.l x.name.l = false := by rw [bytesLess_lt', b2]; exact decide_eq_false (lt_irrefl' _)
          have e2 : (p.name.l == x.name.l) = true := by rw [b2]; simp
          have e3 : (p.name = x.name) = True := eq_true b2
          by_cases b3 : x.arity ≤ p.arity
          · have hcp : 0 ≤ cmpR p x := hcr.2.1 b2 b3
            have hXX := hbad 13 (by unfold relC; rw [if_neg (by simp [hn]), if_neg (by omega), if_pos (by simp [hcp])]) (by decide)
            have hXc : X.code = 13 := by rw [hXX]
            have hXi : X.index = (i : Int) + 1 := by rw [hXX]; first | done | rfl | simp
            repeat' (first | refine rq fun _ => ?_ | simp only [go_sem, h1, h1', hx, rel_eta, str_eta, getD_map_lt, hpv, h0, hi0, hi1, hi2, hn, a0, a1, e1, e2, e3, b3, Tryd.f39])
            refine WK_loop hm (G := G) hA21 39000 (lst []) (ι := LoopI 0 fun _ => True)
              ⟨fun _ => ⟨frL [(1, .ptr (39001, 0) 0), (2, .ptr (39002, 1) 0), (77, .fz (.sl (m.rels.map enc))), (78, .fz (.i .i64 m.rels.length)), (79, .fz (.i .i64 ((i : Int) + 1))), (6, .fz (.i .i64 ((i : Int) + 1))), (7, .ptr (39007, q) 0), (8, .fz (.i .i64 13)), (10, .fz (.i .i64 0))], hpL [((39001, 0), some ⟨[.fz (.i .i64 m.size), .fz (.sl (m.consts.map enc)), .fz (.sl (m.rels.map enc))], true, false⟩), ((39002, 1), some ⟨[.fz (.i .i64 0), .fz (.i .i64 0)], true, false⟩), ((39007, q), some ⟨[.fz (.s x.name.l), .fz (.i .i64 x.arity), .fz (.sl (x.tuples.map enc))], true, false⟩)], q + 2⟩, fun _ => 0⟩
              ⟨0, by omega, trivial⟩ (by kernel_rfl) ?_ ?_
            · refine Weak_to ?_ ?_ ?_ <;> simp only [go_sem]
              all_goals first | done | omega | rfl | trace_state
            rintro ⟨j, hj, _⟩
            have hz : (0 : Int) < (x.tuples.length : Int) ∨ ¬ (0 : Int) < (x.tuples.length : Int) := by omega
            rcases hz with hz | hz
            · repeat' (first | refine rq fun _ => ?_ | simp only [go_sem, hz, hXc, hXi, h1, h1', hx, rel_eta, str_eta, getD_map_lt, hpv, h0, hi0, hi1, hi2, Tryd.f39])
            · repeat' (first | refine rq fun _ => ?_ | simp only [go_sem, hz, hXc, hXi, h1, h1', hx, rel_eta, str_eta, getD_map_lt, hpv, h0, hi0, hi1, hi2, Tryd.f39])
          have hcp : ¬ 0 ≤ cmpR p x := hcr.2.2.1 b2 b3
          have hrel : relC m.size (some p) x = ttM m.size x.arity x.tuples 0 := by unfold relC; rw [if_neg (by simp [hn]), if_neg (by omega), if_neg (by simp [hcp])]; rfl
          rw [hrel] at hbad hgood
          have hT := htx.1
          repeat' (first | refine rq fun _ => ?_ | simp only [go_sem, h1, h1', hx, rel_eta, str_eta, getD_map_lt, hpv, h0, hi0, hi1, hi2, hn, a0, a1, e1, e2, e3, b3, Tryd.f39])
          refine WK_loop hm (G := G) hA21 39000 (lst []) (ι := TupI x.tuples.length (q + 2) X ((i : Int) + 1) fun k => ttM m.size x.arity x.tuples 0 = ttM m.size x.arity x.tuples k ∧ ∀ k' (h : k' < x.tuples.length), k' < k → okT m.size x.arity x.tuples[k'])
            ⟨fun q2 => ⟨frL [(1, .ptr (39001, 0) 0), (2, .ptr (39002, 1) 0), (77, .fz (.sl (m.rels.map enc))), (78, .fz (.i .i64 m.rels.length)), (79, .fz (.i .i64 ((i : Int) + 1))), (6, .fz (.i .i64 ((i : Int) + 1))), (7, .ptr (39007, q) 0), (8, .fz (.i .i64 q2.c)), (10, .fz (.i .i64 q2.k))], hpL [((39001, 0), some ⟨[.fz (.i .i64 m.size), .fz (.sl (m.consts.map enc)), .fz (.sl (m.rels.map enc))], true, false⟩), ((39002, 1), some ⟨[.fz (.i .i64 0), .fz (.i .i64 0)], true, false⟩), ((39007, q), some ⟨[.fz (.s x.name.l), .fz (.i .i64 x.arity), .fz (.sl (x.tuples.map enc))], true, false⟩)], q2.m⟩, fun q2 => if q2.c = 0 then x.tuples.length - q2.k + 1 else 0⟩
            ⟨0, 0, (q + 2), by omega, .inl ⟨rfl, by omega, rfl, fun k' h h9 => by omega⟩⟩ (by kernel_rfl) ?_ ?_
          · refine Weak_to ?_ ?_ ?_ <;> simp only [go_sem]
            all_goals first | done | omega | rfl | trace_state
          rintro ⟨k, cd, mm, hmm, ⟨rfl, hk9, hpk2, hval⟩ | ⟨hcd, hX⟩⟩
          rotate_left
          · try simp only at hmm
            have hcd' : (cd = 0) = False := eq_false hcd
            have hz : (k : Int) < (x.tuples.length : Int) ∨ ¬ (k : Int) < (x.tuples.length : Int) := by omega
            have hXc : X.code = cd := by rw [hX]
            have hXi : X.index = (i : Int) + 1 := by rw [hX]
            rcases hz with hz | hz
            · repeat' (first | refine rq fun _ => ?_ | simp only [go_sem, hz, hcd', hXc, hXi, h1, h1', hx, rel_eta, str_eta, getD_map_lt, hpv, h0, hi0, hi1, hi2, Tryd.f39])
            · repeat' (first | refine rq fun _ => ?_ | simp only [go_sem, hz, hcd', hXc, hXi, h1, h1', hx, rel_eta, str_eta, getD_map_lt, hpv, h0, hi0, hi1, hi2, Tryd.f39])
          try simp only at hmm hk9
          rcases Nat.lt_or_ge k x.tuples.length with h2 | h2
          · have hst := ttM_step (size := m.size) (arity := x.arity) h2
            have kTb : ∀ c : Int, tupC m.size x.arity (pvA x.tuples k) x.tuples[k] = c → c ≠ 0 → X = ⟨c, ((i : Int) + 1 : Int)⟩ := fun c h h4 => by
              rw [h, if_pos h4] at hst
              exact hbad c (hpk2.trans hst) h4
            have kTg : tupC m.size x.arity (pvA x.tuples k) x.tuples[k] = 0 → ttM m.size x.arity x.tuples 0 = ttM m.size x.arity x.tuples (k + 1) := fun h => by
              rw [h, if_neg (by simp)] at hst
              exact hpk2.trans hst
            have htlk := htx.2 k h2
            obtain ⟨t, hkx⟩ : ∃ t, x.tuples[k] = t := ⟨_, rfl⟩
            rw [hkx] at kTb kTg htlk
            clear hst
            have hk := h2
            rcases k with _ | k
            · rw [show pvA x.tuples 0 = none from rfl] at kTb kTg
              have hk1 : (0 : Int) < (x.tuples.length : Int) := by omega
              by_cases ha : (t.length : Int) = x.arity
              rotate_left
              · have ha' : ((t.length : Int) = x.arity) = False := eq_false ha
                have hXX := kTb 9 (by unfold tupC; rw [if_pos ha]) (by decide)
                have hXc : X.code = 9 := by rw [hXX]
                have hXi : X.index = (i : Int) + 1 := by rw [hXX]; first | done | rfl | simp
                repeat' (first | refine rq fun _ => ?_ | simp only [go_sem, hk, hk1, hkx, h1, h1', hx, rel_eta, str_eta, getD_map_lt, hpv, h0, hi0, hi1, hi2, hn, a0, a1, e1, e2, e3, b3, ha', hXc, hXi, Tryd.f39])
              have ha' : ((t.length : Int) = x.arity) = True := eq_true ha
              have htl3 : t.length ≤ 3 := by omega
              repeat' (first | refine rq fun _ => ?_ | simp only [go_sem, hk, hk1, hkx, h1, h1', hx, rel_eta, str_eta, getD_map_lt, hpv, h0, hi0, hi1, hi2, hn, a0, a1, e1, e2, e3, b3, ha', Tryd.f39])
              refine WK_loop hm (G := G) hA21 39000 (lst []) (ι := LoopI t.length fun _ => True)
                ⟨fun q2 => ⟨frL [(1, .ptr (39001, 0) 0), (2, .ptr (39002, 1) 0), (77, .fz (.sl (m.rels.map enc))), (78, .fz (.i .i64 m.rels.length)), (79, .fz (.i .i64 ((i : Int) + 1))), (6, .fz (.i .i64 ((i : Int) + 1))), (7, .ptr (39007, q) 0), (8, .fz (.i .i64 (badC m.size t q2.i))), (10, .fz (.i .i64 (0))), (11, .fz (.sl (t.map enc))), (144, .fz (.sl (t.map enc))), (145, .fz (.i .i64 t.length)), (146, .fz (.i .i64 q2.i))], hpL [((39001, 0), some ⟨[.fz (.i .i64 m.size), .fz (.sl (m.consts.map enc)), .fz (.sl (m.rels.map enc))], true, false⟩), ((39002, 1), some ⟨[.fz (.i .i64 0), .fz (.i .i64 0)], true, false⟩), ((39007, q), some ⟨[.fz (.s x.name.l), .fz (.i .i64 x.arity), .fz (.sl (x.tuples.map enc))], true, false⟩)], mm⟩, fun q2 => t.length - q2.i⟩
                ⟨0, by omega, trivial⟩ (by kernel_rfl) ?_ ?_
              · refine Weak_to ?_ ?_ ?_ <;> simp only [go_sem, badC_zero]
                all_goals first | done | omega | rfl | trace_state
              rintro ⟨j, hj, _⟩
              try simp only at hj
              rcases Nat.lt_or_ge j t.length with h3 | h3
              · have hts := badC_succ m.size h3
                obtain ⟨v, hv⟩ : ∃ v, t[j] = v := ⟨_, rfl⟩
                rw [hv] at hts
                by_cases v0 : v < 0
                · rw [if_pos (.inl v0)] at hts
                  repeat' (first | refine rq fun _ => ?_ | simp only [go_sem, hk, hk1, hkx, h1, h1', hx, rel_eta, str_eta, getD_map_lt, hpv, h0, hi0, hi1, hi2, hn, a0, a1, e1, e2, e3, b3, h3, hv, v0, Tryd.f39])
                  refine ⟨⟨j + 1, by omega, trivial⟩, by simp only; omega, ?_⟩
                  refine Weak_to ?_ ?_ ?_ <;> simp only [go_sem, hts]
                  all_goals first | done | omega | rfl | trace_state
                by_cases v1 : m.size ≤ v
                · rw [if_pos (.inr v1)] at hts
                  repeat' (first | refine rq fun _ => ?_ | simp only [go_sem, hk, hk1, hkx, h1, h1', hx, rel_eta, str_eta, getD_map_lt, hpv, h0, hi0, hi1, hi2, hn, a0, a1, e1, e2, e3, b3, h3, hv, v0, v1, Tryd.f39])
                  refine ⟨⟨j + 1, by omega, trivial⟩, by simp only; omega, ?_⟩
                  refine Weak_to ?_ ?_ ?_ <;> simp only [go_sem, hts]
                  all_goals first | done | omega | rfl | trace_state
                rw [if_neg (by omega)] at hts
                repeat' (first | refine rq fun _ => ?_ | simp only [go_sem, hk, hk1, hkx, h1, h1', hx, rel_eta, str_eta, getD_map_lt, hpv, h0, hi0, hi1, hi2, hn, a0, a1, e1, e2, e3, b3, h3, hv, v0, v1, Tryd.f39])
                refine ⟨⟨j + 1, by omega, trivial⟩, by simp only; omega, ?_⟩
                refine Weak_to ?_ ?_ ?_ <;> simp only [go_sem, hts]
                all_goals first | done | omega | rfl | trace_state
              obtain rfl : j = t.length := by omega
              cases hany : t.any (badV m.size) with
              | true =>
                have hbc : badC m.size t t.length = 3 := by unfold badC; rw [List.take_length, hany]; rfl
                have hX3 := kTb 3 (by unfold tupC; rw [if_neg (by simp [ha]), if_pos (show (t.any fun v => decide (v < 0 ∨ m.size ≤ v)) = true from hany)]) (by decide)
                repeat' (first | refine rq fun _ => ?_ | simp only [go_sem, hk, hk1, hkx, h1, h1', hx, rel_eta, str_eta, getD_map_lt, hpv, h0, hi0, hi1, hi2, hn, a0, a1, e1, e2, e3, b3, Nat.lt_irrefl, hbc, Tryd.f39])
                refine ⟨⟨0 + 1, 3, mm, by omega, .inr ⟨by decide, hX3⟩⟩, by simp <;> omega, ?_⟩
                refine Weak_to ?_ ?_ ?_ <;> simp only [go_sem]
                all_goals first | done | omega | rfl | trace_state
              | false =>
                have hbc : badC m.size t t.length = 0 := by unfold badC; rw [List.take_length, hany]; rfl
                have hvt := okT_of (size := m.size) hany
                have hinv : ∀ k' (h : k' < x.tuples.length), k' < 0 + 1 → okT m.size x.arity x.tuples[k'] := fun k' h h9 => by
                  rcases Nat.lt_or_ge k' 0 with h8 | h8
                  · exact hval k' h h8
                  · have e8 : k' = 0 := by omega
                    subst e8
                    rw [hkx]; exact ⟨ha, hvt⟩
                have hnx := kTg (by unfold tupC; rw [if_neg (by simp [ha]), if_neg (by rw [show (t.any fun v => decide (v < 0 ∨ m.size ≤ v)) = t.any (badV m.size) from rfl, hany]; decide), if_neg (by simp)])
                repeat' (first | refine rq fun _ => ?_ | simp only [go_sem, hk, hk1, hkx, h1, h1', hx, rel_eta, str_eta, getD_map_lt, hpv, h0, hi0, hi1, hi2, hn, a0, a1, e1, e2, e3, b3, Nat.lt_irrefl, hbc, Tryd.f39])
                refine ⟨⟨0 + 1, 0, mm, by omega, .inl ⟨rfl, by omega, hnx, hinv⟩⟩, by simp <;> omega, ?_⟩
                refine Weak_to ?_ ?_ ?_ <;> simp only [go_sem]
                all_goals first | done | omega | rfl | trace_state
            · have hk0 : k < x.tuples.length := by omega
              rw [pvA_succ hk0] at kTb kTg
              obtain ⟨y, hpk⟩ : ∃ y, x.tuples[k] = y := ⟨_, rfl⟩
              rw [hpk] at kTb kTg
              have hk1 : (k : Int) + 1 < (x.tuples.length : Int) := by omega
              have hk3 : (0 : Int) < (k : Int) + 1 := by omega
              have hk4 : (k : Int) + 1 - 1 = (k : Int) := by omega
              have hk5 : ((k : Int) + 1).toNat = k + 1 := by omega
              by_cases ha : (t.length : Int) = x.arity
              rotate_left
              · have ha' : ((t.length : Int) = x.arity) = False := eq_false ha
                have hXX := kTb 9 (by unfold tupC; rw [if_pos ha]) (by decide)
                have hXc : X.code = 9 := by rw [hXX]
                have hXi : X.index = (i : Int) + 1 := by rw [hXX]; first | done | rfl | simp
                repeat' (first | refine rq fun _ => ?_ | simp only [go_sem, hk, hk1, hkx, hk0, hpk, hk3, hk4, hk5, h1, h1', hx, rel_eta, str_eta, getD_map_lt, hpv, h0, hi0, hi1, hi2, hn, a0, a1, e1, e2, e3, b3, ha', hXc, hXi, Tryd.f39])
              have ha' : ((t.length : Int) = x.arity) = True := eq_true ha
              have htl3 : t.length ≤ 3 := by omega
              repeat' (first | refine rq fun _ => ?_ | simp only [go_sem, hk, hk1, hkx, hk0, hpk, hk3, hk4, hk5, h1, h1', hx, rel_eta, str_eta, getD_map_lt, hpv, h0, hi0, hi1, hi2, hn, a0, a1, e1, e2, e3, b3, ha', Tryd.f39])
              refine WK_loop hm (G := G) hA21 39000 (lst []) (ι := LoopI t.length fun _ => True)
                ⟨fun q2 => ⟨frL [(1, .ptr (39001, 0) 0), (2, .ptr (39002, 1) 0), (77, .fz (.sl (m.rels.map enc))), (78, .fz (.i .i64 m.rels.length)), (79, .fz (.i .i64 ((i : Int) + 1))), (6, .fz (.i .i64 ((i : Int) + 1))), (7, .ptr (39007, q) 0), (8, .fz (.i .i64 (badC m.size t q2.i))), (10, .fz (.i .i64 ((k : Int) + 1))), (11, .fz (.sl (t.map enc))), (144, .fz (.sl (t.map enc))), (145, .fz (.i .i64 t.length)), (146, .fz (.i .i64 q2.i))], hpL [((39001, 0), some ⟨[.fz (.i .i64 m.size), .fz (.sl (m.consts.map enc)), .fz (.sl (m.rels.map enc))], true, false⟩), ((39002, 1), some ⟨[.fz (.i .i64 0), .fz (.i .i64 0)], true, false⟩), ((39007, q), some ⟨[.fz (.s x.name.l), .fz (.i .i64 x.arity), .fz (.sl (x.tuples.map enc))], true, false⟩)], mm⟩, fun q2 => t.length - q2.i⟩
                ⟨0, by omega, trivial⟩ (by kernel_rfl) ?_ ?_
              · refine Weak_to ?_ ?_ ?_ <;> simp only [go_sem, badC_zero]
                all_goals first | done | omega | rfl | trace_state
              rintro ⟨j, hj, _⟩
              try simp only at hj
              rcases Nat.lt_or_ge j t.length with h3 | h3
              · have hts := badC_succ m.size h3
                obtain ⟨v, hv⟩ : ∃ v, t[j] = v := ⟨_, rfl⟩
                rw [hv] at hts
                by_cases v0 : v < 0
                · rw [if_pos (.inl v0)] at hts
                  repeat' (first | refine rq fun _ => ?_ | simp only [go_sem, hk, hk1, hkx, hk0, hpk, hk3, hk4, hk5, h1, h1', hx, rel_eta, str_eta, getD_map_lt, hpv, h0, hi0, hi1, hi2, hn, a0, a1, e1, e2, e3, b3, h3, hv, v0, Tryd.f39])
                  refine ⟨⟨j + 1, by omega, trivial⟩, by simp only; omega, ?_⟩
                  refine Weak_to ?_ ?_ ?_ <;> simp only [go_sem, hts]
                  all_goals first | done | omega | rfl | trace_state
                by_cases v1 : m.size ≤ v
                · rw [if_pos (.inr v1)] at hts
                  repeat' (first | refine rq fun _ => ?_ | simp only [go_sem, hk, hk1, hkx, hk0, hpk, hk3, hk4, hk5, h1, h1', hx, rel_eta, str_eta, getD_map_lt, hpv, h0, hi0, hi1, hi2, hn, a0, a1, e1, e2, e3, b3, h3, hv, v0, v1, Tryd.f39])
                  refine ⟨⟨j + 1, by omega, trivial⟩, by simp only; omega, ?_⟩
                  refine Weak_to ?_ ?_ ?_ <;> simp only [go_sem, hts]
                  all_goals first | done | omega | rfl | trace_state
                rw [if_neg (by omega)] at hts
                repeat' (first | refine rq fun _ => ?_ | simp only [go_sem, hk, hk1, hkx, hk0, hpk, hk3, hk4, hk5, h1, h1', hx, rel_eta, str_eta, getD_map_lt, hpv, h0, hi0, hi1, hi2, hn, a0, a1, e1, e2, e3, b3, h3, hv, v0, v1, Tryd.f39])
                refine ⟨⟨j + 1, by omega, trivial⟩, by simp only; omega, ?_⟩
                refine Weak_to ?_ ?_ ?_ <;> simp only [go_sem, hts]
                all_goals first | done | omega | rfl | trace_state
              obtain rfl : j = t.length := by omega
              cases hany : t.any (badV m.size) with
              | true =>
                have hbc : badC m.size t t.length = 3 := by unfold badC; rw [List.take_length, hany]; rfl
                have hX3 := kTb 3 (by unfold tupC; rw [if_neg (by simp [ha]), if_pos (show (t.any fun v => decide (v < 0 ∨ m.size ≤ v)) = true from hany)]) (by decide)
                repeat' (first | refine rq fun _ => ?_ | simp only [go_sem, hk, hk1, hkx, hk0, hpk, hk3, hk4, hk5, h1, h1', hx, rel_eta, str_eta, getD_map_lt, hpv, h0, hi0, hi1, hi2, hn, a0, a1, e1, e2, e3, b3, Nat.lt_irrefl, hbc, Tryd.f39])
                refine ⟨⟨(k + 1) + 1, 3, mm, by omega, .inr ⟨by decide, hX3⟩⟩, by simp <;> omega, ?_⟩
                refine Weak_to ?_ ?_ ?_ <;> simp only [go_sem]
                all_goals first | done | omega | rfl | trace_state
              | false =>
                have hbc : badC m.size t t.length = 0 := by unfold badC; rw [List.take_length, hany]; rfl
                have hvt := okT_of (size := m.size) hany
                have hinv : ∀ k' (h : k' < x.tuples.length), k' < (k + 1) + 1 → okT m.size x.arity x.tuples[k'] := fun k' h h9 => by
                  rcases Nat.lt_or_ge k' (k + 1) with h8 | h8
                  · exact hval k' h h8
                  · have e8 : k' = (k + 1) := by omega
                    subst e8
                    rw [hkx]; exact ⟨ha, hvt⟩
                have hy := hval k hk0 (by omega)
                rw [hpk] at hy
                have pt : codePre t m.size := okT_pre (by omega) (by omega) (by omega) ⟨ha, hvt⟩
                have py : codePre y m.size := okT_pre (by omega) (by omega) (by omega) hy
                have hcc := cmp_code (size := m.size) (by omega) (by omega) (n := 0) y t (by have := hy.1; omega) hy.2 hvt
                by_cases hcl2 : 0 ≤ cmpL y t
                · have hX13 := kTb 13 (by unfold tupC; rw [if_neg (by simp [ha]), if_neg (by rw [show (t.any fun v => decide (v < 0 ∨ m.size ≤ v)) = t.any (badV m.size) from rfl, hany]; decide), if_pos (by simp [hcl2])]) (by decide)
                  have hcd : codeM m.size t ≤ codeM m.size y := hcc.1 hcl2
                  repeat' (first | refine ReqK.i pt fun _ => ?_ | refine ReqK.i py fun _ => ?_ | refine rq fun _ => ?_ | simp only [go_sem, hk, hk1, hkx, hk0, hpk, hk3, hk4, hk5, h1, h1', hx, rel_eta, str_eta, getD_map_lt, hpv, h0, hi0, hi1, hi2, hn, a0, a1, e1, e2, e3, b3, Nat.lt_irrefl, hbc, hcd, Tryd.f39])
                  refine ⟨⟨(k + 1) + 1, 13, mm, by omega, .inr ⟨by decide, hX13⟩⟩, by simp <;> omega, ?_⟩
                  refine Weak_to ?_ ?_ ?_ <;> simp only [go_sem]
                  all_goals first | done | omega | rfl | trace_state
                have hcd : ¬ codeM m.size t ≤ codeM m.size y := fun h => hcl2 (hcc.2 h)
                have hnx := kTg (by unfold tupC; rw [if_neg (by simp [ha]), if_neg (by rw [show (t.any fun v => decide (v < 0 ∨ m.size ≤ v)) = t.any (badV m.size) from rfl, hany]; decide), if_neg (by simp [hcl2])])
                repeat' (first | refine ReqK.i pt fun _ => ?_ | refine ReqK.i py fun _ => ?_ | refine rq fun _ => ?_ | simp only [go_sem, hk, hk1, hkx, hk0, hpk, hk3, hk4, hk5, h1, h1', hx, rel_eta, str_eta, getD_map_lt, hpv, h0, hi0, hi1, hi2, hn, a0, a1, e1, e2, e3, b3, Nat.lt_irrefl, hbc, hcd, Tryd.f39])
                refine ⟨⟨(k + 1) + 1, 0, mm, by omega, .inl ⟨rfl, by omega, hnx, hinv⟩⟩, by simp <;> omega, ?_⟩
                refine Weak_to ?_ ?_ ?_ <;> simp only [go_sem]
                all_goals first | done | omega | rfl | trace_state
          obtain rfl : k = x.tuples.length := by omega
          have hnx := hgood (by rw [hpk2, ttM_end])
          repeat' (first | refine rq fun _ => ?_ | simp only [go_sem, h1, h1', hx, rel_eta, str_eta, getD_map_lt, hpv, h0, hi0, hi1, hi2, hn, a0, a1, e1, e2, e3, b3, Nat.lt_irrefl, Tryd.f39])
          refine ⟨⟨(i + 1) + 1, mm, by omega, by omega, hnx⟩, by simp only; omega, ?_⟩
          refine Weak_to ?_ ?_ ?_ <;> simp only [go_sem]
          all_goals first | done | omega | rfl | trace_state
        case neg =>
          have hcp : ¬ 0 ≤ cmpR p x := hcr.2.2.2 b1 b2
          have hlt : p.name.l < x.name.l := by
            rcases str_tri p.name.l x.name.l with h3 | h3 | h3
            · exact h3
            · exact absurd (by cases hp : p.name; cases hx : x.name; rw [hp, hx] at h3; simp only at h3; rw [h3]) b2
            · exact absurd h3 b1
          have e1 : Op.bytesLess p.name.l x.name.l = true := by rw [bytesLess_lt']; exact decide_eq_true hlt
          have e3 : (p.name = x.name) = False := eq_false b2
          have hrel : relC m.size (some p) x = ttM m.size x.arity x.tuples 0 := by unfold relC; rw [if_neg (by simp [hn]), if_neg (by omega), if_neg (by simp [hcp])]; rfl
          rw [hrel] at hbad hgood
          have hT := htx.1
          repeat' (first | refine rq fun _ => ?_ | simp only [go_sem, h1, h1', hx, rel_eta, str_eta, getD_map_lt, hpv, h0, hi0, hi1, hi2, hn, a0, a1, e1, e3, Tryd.f39])
          refine WK_loop hm (G := G) hA21 39000 (lst []) (ι := TupI x.tuples.length (q + 2) X ((i : Int) + 1) fun k => ttM m.size x.arity x.tuples 0 = ttM m.size x.arity x.tuples k ∧ ∀ k' (h : k' < x.tuples.length), k' < k → okT m.size x.arity x.tuples[k'])
            ⟨fun q2 => ⟨frL [(1, .ptr (39001, 0) 0), (2, .ptr (39002, 1) 0), (77, .fz (.sl (m.rels.map enc))), (78, .fz (.i .i64 m.rels.length)), (79, .fz (.i .i64 ((i : Int) + 1))), (6, .fz (.i .i64 ((i : Int) + 1))), (7, .ptr (39007, q) 0), (8, .fz (.i .i64 q2.c)), (10, .fz (.i .i64 q2.k))], hpL [((39001, 0), some ⟨[.fz (.i .i64 m.size), .fz (.sl (m.consts.map enc)), .fz (.sl (m.rels.map enc))], true, false⟩), ((39002, 1), some ⟨[.fz (.i .i64 0), .fz (.i .i64 0)], true, false⟩), ((39007, q), some ⟨[.fz (.s x.name.l), .fz (.i .i64 x.arity), .fz (.sl (x.tuples.map enc))], true, false⟩)], q2.m⟩, fun q2 => if q2.c = 0 then x.tuples.length - q2.k + 1 else 0⟩
            ⟨0, 0, (q + 2), by omega, .inl ⟨rfl, by omega, rfl, fun k' h h9 => by omega⟩⟩ (by kernel_rfl) ?_ ?_
          · refine Weak_to ?_ ?_ ?_ <;> simp only [go_sem]
            all_goals first | done | omega | rfl | trace_state
          rintro ⟨k, cd, mm, hmm, ⟨rfl, hk9, hpk2, hval⟩ | ⟨hcd, hX⟩⟩
          rotate_left
          · try simp only at hmm
            have hcd' : (cd = 0) = False := eq_false hcd
            have hz : (k : Int) < (x.tuples.length : Int) ∨ ¬ (k : Int) < (x.tuples.length : Int) := by omega
            have hXc : X.code = cd := by rw [hX]
            have hXi : X.index = (i : Int) + 1 := by rw [hX]
            rcases hz with hz | hz
            · repeat' (first | refine rq fun _ => ?_ | simp only [go_sem, hz, hcd', hXc, hXi, h1, h1', hx, rel_eta, str_eta, getD_map_lt, hpv, h0, hi0, hi1, hi2, Tryd.f39])
            · repeat' (first | refine rq fun _ => ?_ | simp only [go_sem, hz, hcd', hXc, hXi, h1, h1', hx, rel_eta, str_eta, getD_map_lt, hpv, h0, hi0, hi1, hi2, Tryd.f39])
          try simp only at hmm hk9
          rcases Nat.lt_or_ge k x.tuples.length with h2 | h2
          · have hst := ttM_step (size := m.size) (arity := x.arity) h2
            have kTb : ∀ c : Int, tupC m.size x.arity (pvA x.tuples k) x.tuples[k] = c → c ≠ 0 → X = ⟨c, ((i : Int) + 1 : Int)⟩ := fun c h h4 => by
              rw [h, if_pos h4] at hst
              exact hbad c (hpk2.trans hst) h4
            have kTg : tupC m.size x.arity (pvA x.tuples k) x.tuples[k] = 0 → ttM m.size x.arity x.tuples 0 = ttM m.size x.arity x.tuples (k + 1) := fun h => by
              rw [h, if_neg (by simp)] at hst
              exact hpk2.trans hst
            have htlk := htx.2 k h2
            obtain ⟨t, hkx⟩ : ∃ t, x.tuples[k] = t := ⟨_, rfl⟩
            rw [hkx] at kTb kTg htlk
            clear hst
            have hk := h2
            rcases k with _ | k
            · rw [show pvA x.tuples 0 = none from rfl] at kTb kTg
              have hk1 : (0 : Int) < (x.tuples.length : Int) := by omega
              by_cases ha : (t.length : Int) = x.arity
              rotate_left
              · have ha' : ((t.length : Int) = x.arity) = False := eq_false ha
                have hXX := kTb 9 (by unfold tupC; rw [if_pos ha]) (by decide)
                have hXc : X.code = 9 := by rw [hXX]
                have hXi : X.index = (i : Int) + 1 := by rw [hXX]; first | done | rfl | simp
                repeat' (first | refine rq fun _ => ?_ | simp only [go_sem, hk, hk1, hkx, h1, h1', hx, rel_eta, str_eta, getD_map_lt, hpv, h0, hi0, hi1, hi2, hn, a0, a1, e1, e3, ha', hXc, hXi, Tryd.f39])
              have ha' : ((t.length : Int) = x.arity) = True := eq_true ha
              have htl3 : t.length ≤ 3 := by omega
              repeat' (first | refine rq fun _ => ?_ | simp only [go_sem, hk, hk1, hkx, h1, h1', hx, rel_eta, str_eta, getD_map_lt, hpv, h0, hi0, hi1, hi2, hn, a0, a1, e1, e3, ha', Tryd.f39])
              refine WK_loop hm (G := G) hA21 39000 (lst []) (ι := LoopI t.length fun _ => True)
                ⟨fun q2 => ⟨frL [(1, .ptr (39001, 0) 0), (2, .ptr (39002, 1) 0), (77, .fz (.sl (m.rels.map enc))), (78, .fz (.i .i64 m.rels.length)), (79, .fz (.i .i64 ((i : Int) + 1))), (6, .fz (.i .i64 ((i : Int) + 1))), (7, .ptr (39007, q) 0), (8, .fz (.i .i64 (badC m.size t q2.i))), (10, .fz (.i .i64 (0))), (11, .fz (.sl (t.map enc))), (144, .fz (.sl (t.map enc))), (145, .fz (.i .i64 t.length)), (146, .fz (.i .i64 q2.i))], hpL [((39001, 0), some ⟨[.fz (.i .i64 m.size), .fz (.sl (m.consts.map enc)), .fz (.sl (m.rels.map enc))], true, false⟩), ((39002, 1), some ⟨[.fz (.i .i64 0), .fz (.i .i64 0)], true, false⟩), ((39007, q), some ⟨[.fz (.s x.name.l), .fz (.i .i64 x.arity), .fz (.sl (x.tuples.map enc))], true, false⟩)], mm⟩, fun q2 => t.length - q2.i⟩
                ⟨0, by omega, trivial⟩ (by kernel_rfl) ?_ ?_
              · refine Weak_to ?_ ?_ ?_ <;> simp only [go_sem, badC_zero]
                all_goals first | done | omega | rfl | trace_state
              rintro ⟨j, hj, _⟩
              try simp only at hj
              rcases Nat.lt_or_ge j t.length with h3 | h3
              · have hts := badC_succ m.size h3
                obtain ⟨v, hv⟩ : ∃ v, t[j] = v := ⟨_, rfl⟩
                rw [hv] at hts
                by_cases v0 : v < 0
                · rw [if_pos (.inl v0)] at hts
                  repeat' (first | refine rq fun _ => ?_ | simp only [go_sem, hk, hk1, hkx, h1, h1', hx, rel_eta, str_eta, getD_map_lt, hpv, h0, hi0, hi1, hi2, hn, a0, a1, e1, e3, h3, hv, v0, Tryd.f39])
                  refine ⟨⟨j + 1, by omega, trivial⟩, by simp only; omega, ?_⟩
                  refine Weak_to ?_ ?_ ?_ <;> simp only [go_sem, hts]
                  all_goals first | done | omega | rfl | trace_state
                by_cases v1 : m.size ≤ v
                · rw [if_pos (.inr v1)] at hts
                  repeat' (first | refine rq fun _ => ?_ | simp only [go_sem, hk, hk1, hkx, h1, h1', hx, rel_eta, str_eta, getD_map_lt, hpv, h0, hi0, hi1, hi2, hn, a0, a1, e1, e3, h3, hv, v0, v1, Tryd.f39])
                  refine ⟨⟨j + 1, by omega, trivial⟩, by simp only; omega, ?_⟩
                  refine Weak_to ?_ ?_ ?_ <;> simp only [go_sem, hts]
                  all_goals first | done | omega | rfl | trace_state
                rw [if_neg (by omega)] at hts
                repeat' (first | refine rq fun _ => ?_ | simp only [go_sem, hk, hk1, hkx, h1, h1', hx, rel_eta, str_eta, getD_map_lt, hpv, h0, hi0, hi1, hi2, hn, a0, a1, e1, e3, h3, hv, v0, v1, Tryd.f39])
                refine ⟨⟨j + 1, by omega, trivial⟩, by simp only; omega, ?_⟩
                refine Weak_to ?_ ?_ ?_ <;> simp only [go_sem, hts]
                all_goals first | done | omega | rfl | trace_state
              obtain rfl : j = t.length := by omega
              cases hany : t.any (badV m.size) with
              | true =>
                have hbc : badC m.size t t.length = 3 := by unfold badC; rw [List.take_length, hany]; rfl
                have hX3 := kTb 3 (by unfold tupC; rw [if_neg (by simp [ha]), if_pos (show (t.any fun v => decide (v < 0 ∨ m.size ≤ v)) = true from hany)]) (by decide)
                repeat' (first | refine rq fun _ => ?_ | simp only [go_sem, hk, hk1, hkx, h1, h1', hx, rel_eta, str_eta, getD_map_lt, hpv, h0, hi0, hi1, hi2, hn, a0, a1, e1, e3, Nat.lt_irrefl, hbc, Tryd.f39])
                refine ⟨⟨0 + 1, 3, mm, by omega, .inr ⟨by decide, hX3⟩⟩, by simp <;> omega, ?_⟩
                refine Weak_to ?_ ?_ ?_ <;> simp only [go_sem]
                all_goals first | done | omega | rfl | trace_state
              | false =>
                have hbc : badC m.size t t.length = 0 := by unfold badC; rw [List.take_length, hany]; rfl
                have hvt := okT_of (size := m.size) hany
                have hinv : ∀ k' (h : k' < x.tuples.length), k' < 0 + 1 → okT m.size x.arity x.tuples[k'] := fun k' h h9 => by
                  rcases Nat.lt_or_ge k' 0 with h8 | h8
                  · exact hval k' h h8
                  · have e8 : k' = 0 := by omega
                    subst e8
                    rw [hkx]; exact ⟨ha, hvt⟩
                have hnx := kTg (by unfold tupC; rw [if_neg (by simp [ha]), if_neg (by rw [show (t.any fun v => decide (v < 0 ∨ m.size ≤ v)) = t.any (badV m.size) from rfl, hany]; decide), if_neg (by simp)])
                repeat' (first | refine rq fun _ => ?_ | simp only [go_sem, hk, hk1, hkx, h1, h1', hx, rel_eta, str_eta, getD_map_lt, hpv, h0, hi0, hi1, hi2, hn, a0, a1, e1, e3, Nat.lt_irrefl, hbc, Tryd.f39])
                refine ⟨⟨0 + 1, 0, mm, by omega, .inl ⟨rfl, by omega, hnx, hinv⟩⟩, by simp <;> omega, ?_⟩
                refine Weak_to ?_ ?_ ?_ <;> simp only [go_sem]
                all_goals first | done | omega | rfl | trace_state
            · have hk0 : k < x.tuples.length := by omega
              rw [pvA_succ hk0] at kTb kTg
              obtain ⟨y, hpk⟩ : ∃ y, x.tuples[k] = y := ⟨_, rfl⟩
              rw [hpk] at kTb kTg
              have hk1 : (k : Int) + 1 < (x.tuples.length : Int) := by omega
              have hk3 : (0 : Int) < (k : Int) + 1 := by omega
              have hk4 : (k : Int) + 1 - 1 = (k : Int) := by omega
              have hk5 : ((k : Int) + 1).toNat = k + 1 := by omega
              by_cases ha : (t.length : Int) = x.arity
              rotate_left
              · have ha' : ((t.length : Int) = x.arity) = False := eq_false ha
                have hXX := kTb 9 (by unfold tupC; rw [if_pos ha]) (by decide)
                have hXc : X.code = 9 := by rw [hXX]
                have hXi : X.index = (i : Int) + 1 := by rw [hXX]; first | done | rfl | simp
                repeat' (first | refine rq fun _ => ?_ | simp only [go_sem, hk, hk1, hkx, hk0, hpk, hk3, hk4, hk5, h1, h1', hx, rel_eta, str_eta, getD_map_lt, hpv, h0, hi0, hi1, hi2, hn, a0, a1, e1, e3, ha', hXc, hXi, Tryd.f39])
              have ha' : ((t.length : Int) = x.arity) = True := eq_true ha
              have htl3 : t.length ≤ 3 := by omega
              repeat' (first | refine rq fun _ => ?_ | simp only [go_sem, hk, hk1, hkx, hk0, hpk, hk3, hk4, hk5, h1, h1', hx, rel_eta, str_eta, getD_map_lt, hpv, h0, hi0, hi1, hi2, hn, a0, a1, e1, e3, ha', Tryd.f39])
              refine WK_loop hm (G := G) hA21 39000 (lst []) (ι := LoopI t.length fun _ => True)
                ⟨fun q2 => ⟨frL [(1, .ptr (39001, 0) 0), (2, .ptr (39002, 1) 0), (77, .fz (.sl (m.rels.map enc))), (78, .fz (.i .i64 m.rels.length)), (79, .fz (.i .i64 ((i : Int) + 1))), (6, .fz (.i .i64 ((i : Int) + 1))), (7, .ptr (39007, q) 0), (8, .fz (.i .i64 (badC m.size t q2.i))), (10, .fz (.i .i64 ((k : Int) + 1))), (11, .fz (.sl (t.map enc))), (144, .fz (.sl (t.map enc))), (145, .fz (.i .i64 t.length)), (146, .fz (.i .i64 q2.i))], hpL [((39001, 0), some ⟨[.fz (.i .i64 m.size), .fz (.sl (m.consts.map enc)), .fz (.sl (m.rels.map enc))], true, false⟩), ((39002, 1), some ⟨[.fz (.i .i64 0), .fz (.i .i64 0)], true, false⟩), ((39007, q), some ⟨[.fz (.s x.name.l), .fz (.i .i64 x.arity), .fz (.sl (x.tuples.map enc))], true, false⟩)], mm⟩, fun q2 => t.length - q2.i⟩
                ⟨0, by omega, trivial⟩ (by kernel_rfl) ?_ ?_
              · refine Weak_to ?_ ?_ ?_ <;> simp only [go_sem, badC_zero]
                all_goals first | done | omega | rfl | trace_state
              rintro ⟨j, hj, _⟩
              try simp only at hj
              rcases Nat.lt_or_ge j t.length with h3 | h3
              · have hts := badC_succ m.size h3
                obtain ⟨v, hv⟩ : ∃ v, t[j] = v := ⟨_, rfl⟩
                rw [hv] at hts
                by_cases v0 : v < 0
                · rw [if_pos (.inl v0)] at hts
                  repeat' (first | refine rq fun _ => ?_ | simp only [go_sem, hk, hk1, hkx, hk0, hpk, hk3, hk4, hk5, h1, h1', hx, rel_eta, str_eta, getD_map_lt, hpv, h0, hi0, hi1, hi2, hn, a0, a1, e1, e3, h3, hv, v0, Tryd.f39])
                  refine ⟨⟨j + 1, by omega, trivial⟩, by simp only; omega, ?_⟩
                  refine Weak_to ?_ ?_ ?_ <;> simp only [go_sem, hts]
                  all_goals first | done | omega | rfl | trace_state
                by_cases v1 : m.size ≤ v
                · rw [if_pos (.inr v1)] at hts
                  repeat' (first | refine rq fun _ => ?_ | simp only [go_sem, hk, hk1, hkx, hk0, hpk, hk3, hk4, hk5, h1, h1', hx, rel_eta, str_eta, getD_map_lt, hpv, h0, hi0, hi1, hi2, hn, a0, a1, e1, e3, h3, hv, v0, v1, Tryd.f39])
                  refine ⟨⟨j + 1, by omega, trivial⟩, by simp only; omega, ?_⟩
                  refine Weak_to ?_ ?_ ?_ <;> simp only [go_sem, hts]
                  all_goals first | done | omega | rfl | trace_state
                rw [if_neg (by omega)] at hts
                repeat' (first | refine rq fun _ => ?_ | simp only [go_sem, hk, hk1, hkx, hk0, hpk, hk3, hk4, hk5, h1, h1', hx, rel_eta, str_eta, getD_map_lt, hpv, h0, hi0, hi1, hi2, hn, a0, a1, e1, e3, h3, hv, v0, v1, Tryd.f39])
                refine ⟨⟨j + 1, by omega, trivial⟩, by simp only; omega, ?_⟩
                refine Weak_to ?_ ?_ ?_ <;> simp only [go_sem, hts]
                all_goals first | done | omega | rfl | trace_state
              obtain rfl : j = t.length := by omega
              cases hany : t.any (badV m.size) with
              | true =>
                have hbc : badC m.size t t.length = 3 := by unfold badC; rw [List.take_length, hany]; rfl
                have hX3 := kTb 3 (by unfold tupC; rw [if_neg (by simp [ha]), if_pos (show (t.any fun v => decide (v < 0 ∨ m.size ≤ v)) = true from hany)]) (by decide)
                repeat' (first | refine rq fun _ => ?_ | simp only [go_sem, hk, hk1, hkx, hk0, hpk, hk3, hk4, hk5, h1, h1', hx, rel_eta, str_eta, getD_map_lt, hpv, h0, hi0, hi1, hi2, hn, a0, a1, e1, e3, Nat.lt_irrefl, hbc, Tryd.f39])
                refine ⟨⟨(k + 1) + 1, 3, mm, by omega, .inr ⟨by decide, hX3⟩⟩, by simp <;> omega, ?_⟩
                refine Weak_to ?_ ?_ ?_ <;> simp only [go_sem]
                all_goals first | done | omega | rfl | trace_state
              | false =>
                have hbc : badC m.size t t.length = 0 := by unfold badC; rw [List.take_length, hany]; rfl
                have hvt := okT_of (size := m.size) hany
                have hinv : ∀ k' (h : k' < x.tuples.length), k' < (k + 1) + 1 → okT m.size x.arity x.tuples[k'] := fun k' h h9 => by
                  rcases Nat.lt_or_ge k' (k + 1) with h8 | h8
                  · exact hval k' h h8
                  · have e8 : k' = (k + 1) := by omega
                    subst e8
                    rw [hkx]; exact ⟨ha, hvt⟩
                have hy := hval k hk0 (by omega)
                rw [hpk] at hy
                have pt : codePre t m.size := okT_pre (by omega) (by omega) (by omega) ⟨ha, hvt⟩
                have py : codePre y m.size := okT_pre (by omega) (by omega) (by omega) hy
                have hcc := cmp_code (size := m.size) (by omega) (by omega) (n := 0) y t (by have := hy.1; omega) hy.2 hvt
                by_cases hcl2 : 0 ≤ cmpL y t
                · have hX13 := kTb 13 (by unfold tupC; rw [if_neg (by simp [ha]), if_neg (by rw [show (t.any fun v => decide (v < 0 ∨ m.size ≤ v)) = t.any (badV m.size) from rfl, hany]; decide), if_pos (by simp [hcl2])]) (by decide)
                  have hcd : codeM m.size t ≤ codeM m.size y := hcc.1 hcl2
                  repeat' (first | refine ReqK.i pt fun _ => ?_ | refine ReqK.i py fun _ => ?_ | refine rq fun _ => ?_ | simp only [go_sem, hk, hk1, hkx, hk0, hpk, hk3, hk4, hk5, h1, h1', hx, rel_eta, str_eta, getD_map_lt, hpv, h0, hi0, hi1, hi2, hn, a0, a1, e1, e3, Nat.lt_irrefl, hbc, hcd, Tryd.f39])
                  refine ⟨⟨(k + 1) + 1, 13, mm, by omega, .inr ⟨by decide, hX13⟩⟩, by simp <;> omega, ?_⟩
                  refine Weak_to ?_ ?_ ?_ <;> simp only [go_sem]
                  all_goals first | done | omega | rfl | trace_state
                have hcd : ¬ codeM m.size t ≤ codeM m.size y := fun h => hcl2 (hcc.2 h)
                have hnx := kTg (by unfold tupC; rw [if_neg (by simp [ha]), if_neg (by rw [show (t.any fun v => decide (v < 0 ∨ m.size ≤ v)) = t.any (badV m.size) from rfl, hany]; decide), if_neg (by simp [hcl2])])
                repeat' (first | refine ReqK.i pt fun _ => ?_ | refine ReqK.i py fun _ => ?_ | refine rq fun _ => ?_ | simp only [go_sem, hk, hk1, hkx, hk0, hpk, hk3, hk4, hk5, h1, h1', hx, rel_eta, str_eta, getD_map_lt, hpv, h0, hi0, hi1, hi2, hn, a0, a1, e1, e3, Nat.lt_irrefl, hbc, hcd, Tryd.f39])
                refine ⟨⟨(k + 1) + 1, 0, mm, by omega, .inl ⟨rfl, by omega, hnx, hinv⟩⟩, by simp <;> omega, ?_⟩
                refine Weak_to ?_ ?_ ?_ <;> simp only [go_sem]
                all_goals first | done | omega | rfl | trace_state
          obtain rfl : k = x.tuples.length := by omega
          have hnx := hgood (by rw [hpk2, ttM_end])
          repeat' (first | refine rq fun _ => ?_ | simp only [go_sem, h1, h1', hx, rel_eta, str_eta, getD_map_lt, hpv, h0, hi0, hi1, hi2, hn, a0, a1, e1, e3, Nat.lt_irrefl, Tryd.f39])
          refine ⟨⟨(i + 1) + 1, mm, by omega, by omega, hnx⟩, by simp only; omega, ?_⟩
          refine Weak_to ?_ ?_ ?_ <;> simp only [go_sem]
          all_goals first | done | omega | rfl | trace_state
  obtain rfl : i = m.rels.length := by omega
  have hX0 : X = ⟨0, 0⟩ := by rw [hrr, hp, rrM_end]
  rw [hX0]
  repeat' (first | refine rq fun _ => ?_ | simp only [go_sem, Nat.lt_irrefl, Tryd.f39])
end
end Go.Proofs.YtbbjghecpcobjaaDoor

namespace Go.Proofs.YtbbjghecpcobjaaDoor
open Go Go.Abs Go.Proofs
section
variable {G : Nat → List FD}
/-! ## the document's own values -/
def E1 : Tbl := Tbl.or B27 A22
attribute [go_sem] E1
theorem hE1 : TblOk Tryd.prog G E1 := TblOk_or hB27 hA22
def lqP (m : Model) (f : Abs.Form) : Prop := (f.fit = true ∧ f.size ≤ 1000) ∧ m.rels.length ≤ 1000000 ∧ m.consts.length ≤ 1000000
def isC (m : Model) (c : Str) : Bool := m.consts.any fun k => decide (k.name = c)
theorem isC_find (m : Model) (c : Str) : (findC m c).isSome = isC m c := by
  unfold findC isC
  rw [Bool.eq_iff_iff, List.find?_isSome, List.any_eq_true]
theorem lacks_eq (m : Model) (f : Abs.Form) : lacksM m f = if (cstR f [] []).all (isC m) = true then !hasR m f else true := by
  unfold lacksM
  have h : (cst f []).all (fun c => (findC m c).isSome) = (cstR f [] []).all (isC m) := by
    rw [Bool.eq_iff_iff, List.all_eq_true, List.all_eq_true]
    refine ⟨fun h x hx => ?_, fun h x hx => ?_⟩
    · rw [← isC_find]; exact h x (((mem_cstR x f [] []).1 hx).resolve_left (by simp))
    · rw [isC_find]; exact h x ((mem_cstR x f [] []).2 (.inr hx))
  rw [h]
  cases (cstR f [] []).all (isC m) <;> rfl
def E2 : Tbl := E1.add 42 (sp2 lacksM lqP)
attribute [go_sem] E2
set_option maxRecDepth 100000 in
set_option maxHeartbeats 1000000 in
set_option maxHeartbeats 4000000 in
theorem hE2 : TblOk Tryd.prog G E2 := by
  refine sp2_ok ok42 hE1 fun m f hpre _ _ => ?_
  obtain ⟨hf, hr, hc⟩ := hpre
  have hlk : lkP m f := ⟨⟨hf.1, by omega⟩, hr⟩
  obtain ⟨Z, hZ⟩ : ∃ Z, lacksM m f = Z := ⟨_, rfl⟩
  have hll : (cstR f [] []).length ≤ 1000000 := by have := cstR_len f [] [] hf.1; rw [List.length_nil] at this; omega
  have hl := lacks_eq m f
  rw [hZ] at hl
  rw [hZ]
  obtain ⟨L, hL⟩ : ∃ L, cstR f [] [] = L := ⟨_, rfl⟩
  rw [hL] at hll hl
  have hbad : ∀ c ∈ L, isC m c = false → Z = true := fun c hc hb => by
    rw [hl, if_neg]
    intro h
    rw [List.all_eq_true.1 h c hc] at hb
    cases hb
  have hgood : L.all (isC m) = true → Z = !hasR m f := fun h => by rw [hl, if_pos h]
  obtain ⟨I, hI⟩ : ∃ I : Str → Nat → Bool, I = fun c k => (m.consts.take k).any fun x => decide (x.name = c) := ⟨_, rfl⟩
  have hI0 : ∀ c, I c 0 = false := fun c => by rw [hI]; simp
  have hIs : ∀ c k (h : k < m.consts.length), I c (k + 1) = (I c k || decide (m.consts[k].name = c)) := fun c k h => by rw [hI]; exact any_take_succ h
  have hIe : ∀ c, I c m.consts.length = isC m c := fun c => by rw [hI]; unfold isC; simp only [List.take_length]
  have kbad := Kp.mk hbad
  have kgood := Kp.mk hgood
  have kI0 := Kp.mk hI0
  have kIs := Kp.mk hIs
  have kIe := Kp.mk hIe
  clear hl hbad hgood hI hI0 hIs hIe
  refine Wcall_K (N := 38) hm hE1 42000 (lst []) ok42 Tryd.func42 rfl rfl (by simp) (by kernel_rfl) ?_
  repeat' (first | refine ReqK.i hf fun _ => ?_ | refine rq fun _ => ?_ | simp only [go_sem, hL, form_eta, str_eta, model_eta, getD_map_lt, Tryd.f42])
  refine WK_loop hm hE1 42000 (lst []) (ι := LoopM L.length 2 fun i => (L.take i).all (isC m) = true)
    ⟨fun q => ⟨frL [(2, .ptr (42002, 0) 0), (3, .ptr (42003, 1) 0), (11, .fz (.sl (L.map enc))), (12, .fz (.i .i64 L.length)), (13, .fz (.i .i64 q.i))], hpL [((42002, 0), some ⟨[.fz (.i .i64 m.size), .fz (.sl (m.consts.map enc)), .fz (.sl (m.rels.map enc))], true, false⟩), ((42003, 1), some ⟨[.fz (.i .i64 f.kind), .fz (.s f.name.l), .fz (.sl (f.words.map enc)), .fz (.sl (f.subs.map enc))], true, false⟩)], q.m⟩, fun q => L.length - q.i⟩
    ⟨0, 2, by omega, by omega, rfl⟩ (by kernel_rfl) ?_ ?_
  · refine Weak_to ?_ ?_ ?_ <;> simp only [go_sem, hL]
    all_goals first | done | rfl | omega | trace_state
  rintro ⟨i, n, hi, hn, hp⟩
  try simp only at hi hn hp
  rcases Nat.lt_or_ge i L.length with h1 | h1
  rotate_left
  · obtain rfl : i = L.length := by omega
    rw [List.take_length] at hp
    have hg := kgood.out hp
    repeat' (first | refine ReqK.i hlk fun _ => ?_ | refine rq fun _ => ?_ | simp only [go_sem, Nat.lt_irrefl, form_eta, str_eta, model_eta, getD_map_lt, Tryd.f42])
    all_goals
      rw [hg]
      first | done | rfl | trace_state
  obtain ⟨c, hcx⟩ : ∃ c, L[i] = c := ⟨_, rfl⟩
  have hcm : c ∈ L := hcx ▸ List.getElem_mem h1
  have hi0 := kI0.out c
  repeat' (first | refine rq fun _ => ?_ | simp only [go_sem, h1, hcx, form_eta, str_eta, model_eta, getD_map_lt, Tryd.f42])
  refine WK_loop hm hE1 42000 (lst []) (ι := LoopM m.consts.length n fun _ => True)
    ⟨fun q => ⟨frL [(2, .ptr (42002, 0) 0), (3, .ptr (42003, 1) 0), (11, .fz (.sl (L.map enc))), (12, .fz (.i .i64 L.length)), (13, .fz (.i .i64 i)), (6, .fz (.s c.l)), (7, .fz (.b (I c q.i))), (18, .fz (.sl (m.consts.map enc))), (19, .fz (.i .i64 m.consts.length)), (20, .fz (.i .i64 q.i))], hpL [((42002, 0), some ⟨[.fz (.i .i64 m.size), .fz (.sl (m.consts.map enc)), .fz (.sl (m.rels.map enc))], true, false⟩), ((42003, 1), some ⟨[.fz (.i .i64 f.kind), .fz (.s f.name.l), .fz (.sl (f.words.map enc)), .fz (.sl (f.subs.map enc))], true, false⟩)], q.m⟩, fun q => m.consts.length - q.i⟩
    ⟨0, n, by omega, by omega, trivial⟩ (by kernel_rfl) ?_ ?_
  · refine Weak_to ?_ ?_ ?_ <;> simp only [go_sem, hi0]
    all_goals first | done | rfl | omega | trace_state
  rintro ⟨k, n2, hk, hn2, _⟩
  try simp only at hk hn2
  rcases Nat.lt_or_ge k m.consts.length with h2 | h2
  · obtain ⟨x, hx⟩ : ∃ x, m.consts[k] = x := ⟨_, rfl⟩
    have hs := kIs.out c k h2
    rw [hx] at hs
    obtain ⟨B, hB⟩ : ∃ B, I c k = B := ⟨_, rfl⟩
    rw [hB] at hs
    by_cases he : x.name = c
    · have he' : (x.name = c) = True := eq_true he
      rw [decide_eq_true he, Bool.or_true] at hs
      cases B
      all_goals
        repeat' (first | refine rq fun _ => ?_ | simp only [go_sem, h2, hx, hB, he', form_eta, str_eta, model_eta, getD_map_lt, Tryd.f42])
        refine ⟨⟨k + 1, n2 + 3, by omega, by omega, trivial⟩, by simp only; omega, ?_⟩
        refine Weak_to ?_ ?_ ?_ <;> simp only [go_sem, hs]
        all_goals first | done | rfl | omega | trace_state
    · have he' : (x.name = c) = False := eq_false he
      rw [decide_eq_false he, Bool.or_false] at hs
      cases B
      all_goals
        repeat' (first | refine rq fun _ => ?_ | simp only [go_sem, h2, hx, hB, he', form_eta, str_eta, model_eta, getD_map_lt, Tryd.f42])
        refine ⟨⟨k + 1, n2 + 3, by omega, by omega, trivial⟩, by simp only; omega, ?_⟩
        refine Weak_to ?_ ?_ ?_ <;> simp only [go_sem, hs]
        all_goals first | done | rfl | omega | trace_state
  obtain rfl : k = m.consts.length := by omega
  have hie := kIe.out c
  cases hb : isC m c with
  | false =>
    rw [hb] at hie
    have hz := kbad.out c hcm hb
    repeat' (first | refine rq fun _ => ?_ | simp only [go_sem, Nat.lt_irrefl, hie, form_eta, str_eta, model_eta, getD_map_lt, Tryd.f42])
    all_goals
      rw [hz]
      first | done | rfl | trace_state
  | true =>
    rw [hb] at hie
    have hp2 : (L.take (i + 1)).all (isC m) = true := by rw [all_take_succ h1, hp, hcx, hb]; rfl
    repeat' (first | refine rq fun _ => ?_ | simp only [go_sem, Nat.lt_irrefl, hie, form_eta, str_eta, model_eta, getD_map_lt, Tryd.f42])
    refine ⟨⟨i + 1, n2, by omega, by omega, hp2⟩, by simp only; omega, ?_⟩
    refine Weak_to ?_ ?_ ?_ <;> simp only [go_sem]
    all_goals first | done | rfl | omega | trace_state
def nfR (m : Model) (name : Str) (f : Abs.Form) (at' : Int) : Fault := if (modelM m).code ≠ 0 then modelM m else if isName name = false then ⟨10, -2⟩ else qfM m name f at'
def E3 : Tbl := E2.add 13 (sp4 nfR fun _ _ _ _ => True)
attribute [go_sem] E3
set_option maxRecDepth 100000 in
set_option maxHeartbeats 1000000 in
set_option maxHeartbeats 4000000 in
theorem hE3 : TblOk Tryd.prog G E3 := by
  refine sp4_ok ok13 hE2 fun m name f at' _ _ _ _ _ => ?_
  by_cases h1 : (modelM m).code = 0
  rotate_left
  · have e : nfR m name f at' = modelM m := by unfold nfR; rw [if_pos h1]
    obtain ⟨x, hx⟩ : ∃ x, modelM m = x := ⟨_, rfl⟩
    rw [hx] at h1 e
    rw [e]
    refine Wcall_K (N := 47) hm hE2 13000 (lst []) ok13 Tryd.func13 rfl rfl (by simp) (by kernel_rfl) ?_
    repeat' (first | refine rq fun _ => ?_ | simp only [go_sem, hx, h1, form_eta, str_eta, model_eta, getD_map_lt, Tryd.f13])
    all_goals trace_state
  have hmz := modelM_zero h1
  have hmv := (modelM_good h1).v
  cases hn : isName name with
  | false =>
    have e : nfR m name f at' = ⟨10, -2⟩ := by unfold nfR; rw [if_neg (by simp [h1]), if_pos hn]
    rw [e]
    refine Wcall_K (N := 47) hm hE2 13000 (lst []) ok13 Tryd.func13 rfl rfl (by simp) (by kernel_rfl) ?_
    repeat' (first | refine rq fun _ => ?_ | simp only [go_sem, hmz, hn, form_eta, str_eta, model_eta, getD_map_lt, Tryd.f13])
    all_goals trace_state
  | true =>
    have e : nfR m name f at' = qfM m name f at' := by unfold nfR; rw [if_neg (by simp [h1]), if_neg (by simp [hn])]
    rw [e]
    by_cases h2 : (checkM false f).code = 0
    rotate_left
    · have e2 : qfM m name f at' = ⟨(checkM false f).code, at'⟩ := by unfold qfM; rw [if_pos h2]
      obtain ⟨x, hx⟩ : ∃ x, (checkM false f).code = x := ⟨_, rfl⟩
      rw [hx] at h2 e2
      have h2' : (x = 0) = False := eq_false h2
      rw [e2]
      refine Wcall_K (N := 47) hm hE2 13000 (lst []) ok13 Tryd.func13 rfl rfl (by simp) (by kernel_rfl) ?_
      repeat' (first | refine rq fun _ => ?_ | simp only [go_sem, hmz, hn, hx, h2', form_eta, str_eta, model_eta, getD_map_lt, Tryd.f13])
      all_goals trace_state
    have hsz : szP f := ⟨checkM_fit h2, by have := checkM_size h2; omega⟩
    have hq : lqP m (Abs.Form.mk 9 name [] [f]) := by
      refine ⟨⟨?_, ?_⟩, by have := hmv.lr; omega, by have := hmv.lc; omega⟩
      · rw [Form.fit, Form.fits, Form.fits, checkM_fit h2]; simp
      · rw [Form.size, Form.sizes, Form.sizes]; have := checkM_size h2; omega
    have hnest : nestM (Abs.Form.mk 9 name [] [f]) = nestM f + 1 := by rw [nestM, nestMs, nestMs, if_pos (by unfold isQ; omega)]; simp
    by_cases h3 : 4 < nestM f
    · have e2 : qfM m name f at' = ⟨17, at'⟩ := by
        unfold qfM truthE
        rw [if_neg (by simp [h2]), hnest, if_pos (show 5 < nestM f + 1 by omega), if_pos (by decide)]
      have h3' : ((4 : Int) < ((nestM f : Nat) : Int)) = True := eq_true (by omega)
      rw [e2]
      refine Wcall_K (N := 47) hm hE2 13000 (lst []) ok13 Tryd.func13 rfl rfl (by simp) (by kernel_rfl) ?_
      repeat' (first | refine ReqK.i hsz fun _ => ?_ | refine rq fun _ => ?_ | simp only [go_sem, hmz, hn, h2, h3', form_eta, str_eta, model_eta, getD_map_lt, Tryd.f13])
      all_goals trace_state
    have h3' : ((4 : Int) < ((nestM f : Nat) : Int)) = False := eq_false (by omega)
    cases hl : lacksM m (Abs.Form.mk 9 name [] [f]) with
    | true =>
      have e2 : qfM m name f at' = ⟨6, at'⟩ := by
        unfold qfM truthE
        rw [if_neg (by simp [h2]), hnest, if_neg (show ¬ 5 < nestM f + 1 by omega), if_pos hl, if_pos (by decide)]
      rw [e2]
      refine Wcall_K (N := 47) hm hE2 13000 (lst []) ok13 Tryd.func13 rfl rfl (by simp) (by kernel_rfl) ?_
      repeat' (first | refine ReqK.i hsz fun _ => ?_ | refine ReqK.i hq fun _ => ?_ | refine rq fun _ => ?_ | simp only [go_sem, hmz, hn, h2, h3', hl, form_eta, str_eta, model_eta, getD_map_lt, Tryd.f13])
      all_goals trace_state
    | false =>
      have e2 : qfM m name f at' = ⟨0, 0⟩ := by
        unfold qfM truthE
        rw [if_neg (by simp [h2]), hnest, if_neg (show ¬ 5 < nestM f + 1 by omega), if_neg (by simp [hl])]
      rw [e2]
      refine Wcall_K (N := 47) hm hE2 13000 (lst []) ok13 Tryd.func13 rfl rfl (by simp) (by kernel_rfl) ?_
      repeat' (first | refine ReqK.i hsz fun _ => ?_ | refine ReqK.i hq fun _ => ?_ | refine rq fun _ => ?_ | simp only [go_sem, hmz, hn, h2, h3', hl, form_eta, str_eta, model_eta, getD_map_lt, Tryd.f13])
      all_goals trace_state
end
end Go.Proofs.YtbbjghecpcobjaaDoor

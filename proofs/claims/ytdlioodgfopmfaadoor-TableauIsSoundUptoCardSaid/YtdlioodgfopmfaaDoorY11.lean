/- several texts of this proof in one; no conditions -/
import Derived.Test.YtdlioodgfopmfaaDoorAT
import Derived.Test.YtdlioodgfopmfaaDoorY10
import Derived.Test.YtdlioodgfopmfaaDoorY13
import Derived.Test.YtdlioodgfopmfaaDoorY4
set_option maxRecDepth 100000
set_option maxHeartbeats 1000000
set_option linter.unusedSimpArgs false
namespace Go.Proofs.YtdlioodgfopmfaaDoor
open Go Go.Abs Go.Proofs

section
variable {P : Program} {G : Nat → List FD}
theorem Wcall_ownT {f : FuncId} {args : List D} {xs ys : List FD} {H : Heap} {n t es : Nat} {R : D → Heap → Nat → Prop} (ha : D.toFDs args = some xs)
    (h : Wcall P G f (xs.map .fz) H0 0 (fun d H1 n1 => ∃ g, g < n1 ∧ d = .ow (t, g) es ys ∧ H1 (t, g) = some tok)) (hR : ∀ g n', n ≤ g → g < n' → R (.ow (t, g) es ys) (hpX [((t, g), some tok)] H) n') : Wcall P G f args H n R := by
  refine Wcall_fresh h.1 fun hfr => Wcall_post (Wcall_own ha h) ?_
  rintro d H' n' ⟨d1, H1, n1, ⟨g, hg, rfl, ho⟩, rfl, rfl, rfl⟩
  have hsh : shH n H H1 (t, g + n) = some tok := by
    unfold shH
    rw [if_pos (by simp), show (t, g + n - n) = (t, g) by rw [Nat.add_sub_cancel], ho]
    rfl
  refine ⟨.ow (t, g + n) es ys, hpX [((t, g + n), some tok)] H, n + n1, Weak_toH ?_ (fun id o hid => ?_) (Nat.le_refl _), hR (g + n) (n + n1) (by omega) (by omega)⟩
  · exact ⟨rfl, trivial⟩
  · simp only [hpX] at hid
    split at hid
    · rename_i e; subst e; rw [← hid]; exact hsh
    · have hlt : id.2 < n := by
        rcases Nat.lt_or_ge id.2 n with h3 | h3
        · exact h3
        · rw [hfr id h3] at hid; cases hid
      show shH n H H1 id = some o
      unfold shH
      rw [if_neg (by omega)]
      exact hid
theorem Wcall_ownW {f : FuncId} {args : List D} {xs cs : List FD} {H : Heap} {n t es len : Nat} {v : Bool} {R : D → Heap → Nat → Prop} (ha : D.toFDs args = some xs)
    (h : Wcall P G f (xs.map .fz) H0 0 (fun d H1 n1 => ∃ g, g < n1 ∧ d = .arr (t, g) es 0 len ∧ H1 (t, g) = some ⟨cs.map .fz, false, v⟩)) (hR : ∀ g n', n ≤ g → g < n' → R (.arr (t, g) es 0 len) (hpX [((t, g), some ⟨cs.map .fz, false, v⟩)] H) n') : Wcall P G f args H n R := by
  refine Wcall_fresh h.1 fun hfr => Wcall_post (Wcall_own ha h) ?_
  rintro d H' n' ⟨d1, H1, n1, ⟨g, hg, rfl, ho⟩, rfl, rfl, rfl⟩
  have hm : ∀ l : List FD, shDs n (l.map .fz) = l.map .fz := fun l => by
    rw [shDs_map, List.map_map]
    exact List.map_congr_left fun x _ => rfl
  have hsh : shH n H H1 (t, g + n) = some ⟨cs.map .fz, false, v⟩ := by
    unfold shH
    rw [if_pos (by simp), show (t, g + n - n) = (t, g) by rw [Nat.add_sub_cancel], ho]
    simp only [Option.map_some, shO, hm]
  refine ⟨.arr (t, g + n) es 0 len, hpX [((t, g + n), some ⟨cs.map .fz, false, v⟩)] H, n + n1, Weak_toH ?_ (fun id o hid => ?_) (Nat.le_refl _), hR (g + n) (n + n1) (by omega) (by omega)⟩
  · exact ⟨rfl, trivial⟩
  · simp only [hpX] at hid
    split at hid
    · rename_i e; subst e; rw [← hid]; exact hsh
    · have hlt : id.2 < n := by
        rcases Nat.lt_or_ge id.2 n with h3 | h3
        · exact h3
        · rw [hfr id h3] at hid; cases hid
      show shH n H H1 id = some o
      unfold shH
      rw [if_neg (by omega)]
      exact hid
end

theorem cloneFs {l : List Abs.Form} (hl : l.length ≤ 1000000) : Wcall Tryd.prog GA 68 [.fz (.sl (l.map enc))] H0 0 (fun d H n => ∃ g, g < n ∧ d = .ow (68007, g) 4 (l.map enc) ∧ H (68007, g) = some tok) := by
  rw [H0_eq]
  obtain ⟨Q, hQ⟩ : ∃ Q : D → Heap → Nat → Prop, Q = (fun d H n => (d = .full [] ∧ l = [] ∧ n = 0 ∧ H = hpL []) ∨ ∃ g, g < n ∧ d = .ow (68007, g) 4 (l.map enc) ∧ H (68007, g) = some tok) := ⟨_, rfl⟩
  have key : Wcall Tryd.prog GA 68 [.fz (.sl (l.map enc))] (hpL []) 0 Q := by
    refine Wcall_K (N := 8) hm hY9 68000 (lsw [7] []) ok68 Tryd.func68 rfl rfl (by simp) (by kernel_rfl) ?_
    simp only [go_sem]
    refine AllN.i fun b hb => ?_
    cases b
    · repeat' (first | refine And.intro ?_ ?_ | exact True.intro | refine rq fun _ => ?_ | refine rf fun _ => ?_ | simp only [go_sem, Tryd.f68])
      rw [hQ]
      exact .inr ⟨0, by omega, by simp only [go_sem], by simp only [go_sem]⟩
    · have : l = [] := List.eq_nil_of_length_eq_zero (hb rfl)
      subst this
      repeat' (first | refine And.intro ?_ ?_ | exact True.intro | refine rq fun _ => ?_ | refine rf fun _ => ?_ | simp only [go_sem, Tryd.f68])
      rw [hQ]
      exact .inl ⟨rfl, rfl, rfl, rfl⟩
  refine Wcall_post key ?_
  rw [hQ]
  rintro d H n (⟨rfl, rfl, rfl, rfl⟩ | ⟨g, hg, rfl, ho⟩)
  · refine ⟨.ow (68007, 0) 4 [], hpL [((68007, 0), some tok)], 1, ?_, 0, by omega, rfl, by simp only [go_sem]⟩
    refine Weak_g [] [(68007, 0)] [] ?_ ?_ ?_ ?_ ?_ <;> simp only [go_sem]
    all_goals first | done | rfl
  · exact ⟨_, H, n, Weak_toH ⟨rfl, trivial⟩ (fun _ _ h => h) (Nat.le_refl _), g, hg, rfl, ho⟩
theorem cloneBs {l : List Bool} (hl : l.length ≤ 1000000) : Wcall Tryd.prog GA 64 [.fz (.sl (l.map enc))] H0 0 (fun d H n => ∃ g, g < n ∧ d = .ow (64007, g) 1 (l.map enc) ∧ H (64007, g) = some tok) := by
  rw [H0_eq]
  obtain ⟨Q, hQ⟩ : ∃ Q : D → Heap → Nat → Prop, Q = (fun d H n => (d = .full [] ∧ l = [] ∧ n = 0 ∧ H = hpL []) ∨ ∃ g, g < n ∧ d = .ow (64007, g) 1 (l.map enc) ∧ H (64007, g) = some tok) := ⟨_, rfl⟩
  have key : Wcall Tryd.prog GA 64 [.fz (.sl (l.map enc))] (hpL []) 0 Q := by
    refine Wcall_K (N := 8) hm hY9 64000 (lsw [7] []) ok64 Tryd.func64 rfl rfl (by simp) (by kernel_rfl) ?_
    simp only [go_sem]
    refine AllN.i fun b hb => ?_
    cases b
    · repeat' (first | refine And.intro ?_ ?_ | exact True.intro | refine rq fun _ => ?_ | refine rf fun _ => ?_ | simp only [go_sem, Tryd.f64])
      rw [hQ]
      exact .inr ⟨0, by omega, by simp only [go_sem], by simp only [go_sem]⟩
    · have : l = [] := List.eq_nil_of_length_eq_zero (hb rfl)
      subst this
      repeat' (first | refine And.intro ?_ ?_ | exact True.intro | refine rq fun _ => ?_ | refine rf fun _ => ?_ | simp only [go_sem, Tryd.f64])
      rw [hQ]
      exact .inl ⟨rfl, rfl, rfl, rfl⟩
  refine Wcall_post key ?_
  rw [hQ]
  rintro d H n (⟨rfl, rfl, rfl, rfl⟩ | ⟨g, hg, rfl, ho⟩)
  · refine ⟨.ow (64007, 0) 1 [], hpL [((64007, 0), some tok)], 1, ?_, 0, by omega, rfl, by simp only [go_sem]⟩
    refine Weak_g [] [(64007, 0)] [] ?_ ?_ ?_ ?_ ?_ <;> simp only [go_sem]
    all_goals first | done | rfl
  · exact ⟨_, H, n, Weak_toH ⟨rfl, trivial⟩ (fun _ _ h => h) (Nat.le_refl _), g, hg, rfl, ho⟩
theorem cloneSs {l : List Str} (hl : l.length ≤ 1000000) : Wcall Tryd.prog GA 69 [.fz (.sl (l.map enc))] H0 0 (fun d H n => ∃ g, g < n ∧ d = .ow (69007, g) 1 (l.map enc) ∧ H (69007, g) = some tok) := by
  rw [H0_eq]
  obtain ⟨Q, hQ⟩ : ∃ Q : D → Heap → Nat → Prop, Q = (fun d H n => (d = .full [] ∧ l = [] ∧ n = 0 ∧ H = hpL []) ∨ ∃ g, g < n ∧ d = .ow (69007, g) 1 (l.map enc) ∧ H (69007, g) = some tok) := ⟨_, rfl⟩
  have key : Wcall Tryd.prog GA 69 [.fz (.sl (l.map enc))] (hpL []) 0 Q := by
    refine Wcall_K (N := 8) hm hY9 69000 (lsw [7] []) ok69 Tryd.func69 rfl rfl (by simp) (by kernel_rfl) ?_
    simp only [go_sem]
    refine AllN.i fun b hb => ?_
    cases b
    · repeat' (first | refine And.intro ?_ ?_ | exact True.intro | refine rq fun _ => ?_ | refine rf fun _ => ?_ | simp only [go_sem, Tryd.f69])
      rw [hQ]
      exact .inr ⟨0, by omega, by simp only [go_sem], by simp only [go_sem]⟩
    · have : l = [] := List.eq_nil_of_length_eq_zero (hb rfl)
      subst this
      repeat' (first | refine And.intro ?_ ?_ | exact True.intro | refine rq fun _ => ?_ | refine rf fun _ => ?_ | simp only [go_sem, Tryd.f69])
      rw [hQ]
      exact .inl ⟨rfl, rfl, rfl, rfl⟩
  refine Wcall_post key ?_
  rw [hQ]
  rintro d H n (⟨rfl, rfl, rfl, rfl⟩ | ⟨g, hg, rfl, ho⟩)
  · refine ⟨.ow (69007, 0) 1 [], hpL [((69007, 0), some tok)], 1, ?_, 0, by omega, rfl, by simp only [go_sem]⟩
    refine Weak_g [] [(69007, 0)] [] ?_ ?_ ?_ ?_ ?_ <;> simp only [go_sem]
    all_goals first | done | rfl
  · exact ⟨_, H, n, Weak_toH ⟨rfl, trivial⟩ (fun _ _ h => h) (Nat.le_refl _), g, hg, rfl, ho⟩
theorem cloneBA {l : List Bool} (hl : l.length ≤ 1000000) : Wcall Tryd.prog GA 64 [.fz (.sl (l.map enc))] H0 0 (fun d H n => ∃ g, g < n ∧ d = .arr (64007, g) 1 0 l.length ∧ H (64007, g) = some ⟨(l.map enc).map .fz, false, l.isEmpty⟩) := by
  rw [H0_eq]
  have hfl : flatFz (l.map enc) = (l.map enc).map .fz := by
    unfold flatFz
    rw [List.map_map, List.flatMap_map]
    induction l with
    | nil => rfl
    | cons x l ih => rw [List.flatMap_cons, List.map_cons, ih (by simp at hl; omega)]; rfl
  obtain ⟨Q, hQ⟩ : ∃ Q : D → Heap → Nat → Prop, Q = (fun d H n => (d = .full [] ∧ l = [] ∧ n = 0 ∧ H = hpL []) ∨ ∃ g, g < n ∧ d = .arr (64007, g) 1 0 l.length ∧ H (64007, g) = some ⟨(l.map enc).map .fz, false, l.isEmpty⟩) := ⟨_, rfl⟩
  have key : Wcall Tryd.prog GA 64 [.fz (.sl (l.map enc))] (hpL []) 0 Q := by
    refine Wcall_K (N := 8) hm hY9 64000 (lst [7]) ok64 Tryd.func64 rfl rfl (by simp) (by kernel_rfl) ?_
    simp only [go_sem]
    refine AllN.i fun b hb => ?_
    cases b
    · repeat' (first | refine And.intro ?_ ?_ | exact True.intro | refine rq fun _ => ?_ | refine rf fun _ => ?_ | simp only [go_sem, Tryd.f64])
      rw [hQ]
      refine .inr ⟨0, by omega, by simp only [go_sem], ?_⟩
      simp only [go_sem, ← hfl]
      all_goals trace_state
    · have : l = [] := List.eq_nil_of_length_eq_zero (hb rfl)
      subst this
      repeat' (first | refine And.intro ?_ ?_ | exact True.intro | refine rq fun _ => ?_ | refine rf fun _ => ?_ | simp only [go_sem, Tryd.f64])
      rw [hQ]
      exact .inl ⟨rfl, rfl, rfl, rfl⟩
  refine Wcall_post key ?_
  rw [hQ]
  rintro d H n (⟨rfl, rfl, rfl, rfl⟩ | ⟨g, hg, rfl, ho⟩)
  · refine ⟨.arr (64007, 0) 1 0 0, hpL [((64007, 0), some ⟨[], false, true⟩)], 1, ?_, 0, by omega, rfl, by simp only [go_sem]⟩
    refine Weak_g [] [(64007, 0)] [] ?_ ?_ ?_ ?_ ?_ <;> simp only [go_sem]
    all_goals first | done | rfl
  · exact ⟨_, H, n, Weak_toH ⟨rfl, trivial⟩ (fun _ _ h => h) (Nat.le_refl _), g, hg, rfl, ho⟩
end Go.Proofs.YtdlioodgfopmfaaDoor

namespace Go.Proofs.YtdlioodgfopmfaaDoor
open Go Go.Abs Go.Proofs

theorem tbl0Z : TblOk Tryd.prog GA Tbl0 := fun f t xs r c h _ _ => by cases h
def seenC (k g : Nat) (S : List (List Str)) : List D := S.mapIdx fun j x => if j = k then .ow (69007, g) 1 (x.map enc) else .fz (.sl (x.map enc))
theorem seenC_len {k g : Nat} {S : List (List Str)} : (seenC k g S).length = S.length := by simp [seenC]
theorem seenC_snoc {k g : Nat} {S : List (List Str)} {x : List Str} : seenC k g (S ++ [x]) = seenC k g S ++ [if S.length = k then .ow (69007, g) 1 (x.map enc) else .fz (.sl (x.map enc))] := by
  unfold seenC; rw [List.mapIdx_concat]
theorem seenC_lt {k g g2 : Nat} {S : List (List Str)} (h : S.length ≤ k) : seenC k g S = seenC k g2 S := by
  unfold seenC
  apply List.ext_getElem (by simp)
  intro j h1 h2
  have hj : j < S.length := by simpa using h1
  simp only [List.getElem_mapIdx]
  rw [if_neg (by omega), if_neg (by omega)]
theorem seenC_get {k g j : Nat} {S : List (List Str)} (h : j < S.length) : (seenC k g S).getD j .junk = if j = k then .ow (69007, g) 1 (S[j].map enc) else .fz (.sl (S[j].map enc)) := by
  unfold seenC
  rw [List.getD_eq_getElem?_getD, List.getElem?_eq_getElem (by simpa using h), Option.getD_some, List.getElem_mapIdx]
theorem zerC_one {te : TI} {d : D} {n : Nat} (h : te.size = 1) (hz : te.zero = [d]) : zerC te n = List.replicate n d := by
  unfold zerC
  rw [h, hz, Nat.mul_one]
  apply List.ext_getElem (by simp)
  intro j h1 h2
  simp [Nat.mod_one]
theorem flat_repB {n : Nat} : flatFz ((List.replicate n false).map enc) = List.replicate n (D.fz (.b false)) := by
  induction n with
  | zero => rfl
  | succ n ih =>
    rw [List.replicate_succ, List.map_cons, List.replicate_succ, ← ih]
    rfl
instance : Kc Bool 1 := ⟨fun _ => rfl⟩
theorem dr_seen {n n' : Nat} {pre : Abs.Id → Abs.Id} {vn : Abs.Id → Bool} {z : Abs.Id → Option (List FD)} {H : Heap} {k g j : Nat} {x : List Str} (hg : g < n') :
    Dr n n' pre vn z H (if j = k then .ow (69007, g) 1 (x.map enc) else .fz (.sl (x.map enc))) (if j = k then .ow (69007, g) 1 (x.map enc) else .fz (.sl (x.map enc))) := by
  split
  · rw [r_ow, r_same]; exact ⟨rfl, rfl, hg⟩
  · rw [r_fz]
theorem drs_seen {n n' : Nat} {pre : Abs.Id → Abs.Id} {vn : Abs.Id → Bool} {z : Abs.Id → Option (List FD)} {H : Heap} {k g : Nat} {S : List (List Str)} {d d' : D} (hg : g < n') (hd : Dr n n' pre vn z H d d') :
    Drs n n' pre vn z H (seenC k g S ++ [d]) (seenC k g S ++ [d']) := by
  refine Drs_of (by simp) fun j hj => ?_
  simp only [List.length_append, seenC_len, List.length_cons, List.length_nil] at hj
  rcases Nat.lt_or_ge j S.length with h | h
  · rw [getD_append_l (by rw [seenC_len]; exact h), getD_append_l (by rw [seenC_len]; exact h), seenC_get h]
    exact dr_seen hg
  · obtain rfl : j = S.length := by omega
    rw [getD_append_r (by rw [seenC_len]; exact h), getD_append_r (by rw [seenC_len]; exact h), seenC_len, Nat.sub_self]
    exact hd
theorem drs_fin {n n' : Nat} {pre : Abs.Id → Abs.Id} {vn : Abs.Id → Bool} {z : Abs.Id → Option (List FD)} {H : Heap} {k g m : Nat} {S : List (List Str)} (hg : g < n') :
    Drs n n' pre vn z H (seenC k g S ++ List.replicate m (.full [])) (seenC k g (S ++ List.replicate m [])) := by
  refine Drs_of (by simp [seenC_len]) fun j hj => ?_
  rw [seenC_len] at hj
  rw [seenC_get hj]
  rw [List.length_append, List.length_replicate] at hj
  rcases Nat.lt_or_ge j S.length with h | h
  · rw [getD_append_l (by rw [seenC_len]; exact h), seenC_get h, List.getElem_append_left h]
    exact dr_seen hg
  · rw [getD_append_r (by rw [seenC_len]; exact h), seenC_len, List.getElem_append_right h]
    simp only [List.getElem_replicate, List.map_nil]
    rw [List.getD_eq_getElem?_getD, List.getElem?_replicate_of_lt (by omega), Option.getD_some]
    split
    · rw [r_owfull]; exact ⟨rfl, hg⟩
    · rw [r_full]
theorem isE_snoc {α : Type} {A : List α} {x : α} : (A ++ [x]).isEmpty = false := by cases A <;> rfl
structure LoopA (n n0 : Nat) where
  i : Nat
  r : Nat
  g : Nat
  m : Nat
  hi : i ≤ n
  hr : r < m
  hg : g < m
  hm : n0 ≤ m
def treeA7 : Tv := (.q 0 (.q 2 (.br [(1, (.br [(3, (.br [(4, (.br [(5, (.q 6 (.br [(7, .leaf)])))]))]))])), (3, (.br [(1, (.br [(4, (.br [(5, (.q 6 (.br [(7, .leaf)])))]))])), (4, (.q 1 (.br [(5, (.q 6 (.br [(7, .leaf)])))])))]))])))
set_option maxHeartbeats 4000000 in
theorem addW (k : Nat) {b : Brn} {fs : List Abs.Form} (hb : b.list.length ≤ 100000 ∧ b.used.length ≤ 100000 ∧ b.seen.length ≤ 100000 ∧ fs.length ≤ 100000) (hs : ∀ s ∈ b.seen, s.length ≤ 1000000) :
    Wcall Tryd.prog GA 33 [.fz (enc b), .fz (.sl (fs.map enc))] (hpL []) 0 (fun d H n => ∃ r g, r < n ∧ g < n ∧ d = .agg [.fz (.sl ((b.list ++ fs).map enc)), .fz (.sl ((b.used ++ List.replicate fs.length false).map enc)), .arr (33043, r) 1 0 (b.seen.length + fs.length), .fz (.i .i64 b.rounds)] ∧
      H (33043, r) = some ⟨seenC k g (b.seen ++ List.replicate fs.length []), false, (b.seen ++ List.replicate fs.length []).isEmpty⟩ ∧ H (69007, g) = some tok) := by
  obtain ⟨hb1, hb2, hb3, hb4⟩ := hb
  obtain ⟨Q, hQ⟩ : ∃ Q : D → Heap → Nat → Prop, Q = (fun d H n => ∃ r g, r < n ∧ g < n ∧ d = .agg [.fz (.sl ((b.list ++ fs).map enc)), .fz (.sl ((b.used ++ List.replicate fs.length false).map enc)), .arr (33043, r) 1 0 (b.seen.length + fs.length), .fz (.i .i64 b.rounds)] ∧
      H (33043, r) = some ⟨seenC k g b.seen ++ List.replicate fs.length (D.full []), false, b.seen.isEmpty && (seenC k g b.seen ++ List.replicate fs.length (D.full [])).isEmpty⟩ ∧ H (69007, g) = some tok) := ⟨_, rfl⟩
  suffices hkey : Wcall Tryd.prog GA 33 [.fz (enc b), .fz (.sl (fs.map enc))] (hpL []) 0 Q by
    refine Wcall_post hkey ?_
    rw [hQ]
    rintro d H n ⟨r, g, hr, hg, rfl, ho, hg2⟩
    have hve : (b.seen ++ List.replicate fs.length []).isEmpty = (b.seen.isEmpty && (seenC k g b.seen ++ List.replicate fs.length (D.full [])).isEmpty) := by
      rw [Bool.eq_iff_iff]
      simp only [List.isEmpty_iff, Bool.and_eq_true, List.append_eq_nil_iff]
      constructor
      · rintro ⟨h1, h2⟩
        refine ⟨h1, ⟨by rw [h1]; rfl, ?_⟩⟩
        rw [List.replicate_eq_nil_iff] at h2 ⊢
        exact h2
      · rintro ⟨h1, _, h2⟩
        refine ⟨h1, ?_⟩
        rw [List.replicate_eq_nil_iff] at h2 ⊢
        exact h2
    refine ⟨_, hpL [((33043, r), some ⟨seenC k g (b.seen ++ List.replicate fs.length []), false, (b.seen ++ List.replicate fs.length []).isEmpty⟩), ((69007, g), some tok)], n, ?_, r, g, hr, hg, rfl, by simp only [go_sem], by simp only [go_sem]⟩
    refine Weak_g [] [] [] ?_ ?_ ?_ ?_ ?_ <;> simp only [go_sem, ho, hg2, hve]
    all_goals repeat' (first | refine And.intro ?_ ?_ | omega | rfl | exact drs_fin hg | simp only [go_sem])
    all_goals trace_state
  have kq := Kp.mk hQ
  have ks := Kp.mk hs
  clear hQ hs
  refine Wcall_KE (N := 46) hm tbl0Z 33000 (lsw [15] [35, 36, 1000003, 1000007, 1000009]) ok33 Tryd.func33 rfl rfl (by simp) (by kernel_rfl) ?_
  repeat' (first | refine And.intro ?_ ?_ | exact True.intro | refine rq fun _ => ?_ | refine rf fun _ => ?_ | simp only [go_sem, brn_eta, Tryd.f33, Tbl0])
  refine WcallK.i (Wcall_ownT (xs := [FD.sl (b.list.map enc)]) rfl (cloneFs (l := b.list) (by omega)) fun g1 n1 hg1 hn1 => ?_)
  repeat' (first | refine And.intro ?_ ?_ | exact True.intro | refine rq fun _ => ?_ | refine rf fun _ => ?_ | simp only [go_sem, brn_eta, Tryd.f33, Tbl0])
  refine WK_regionZ (rid := 3) tbl0Z 33000 (lsw [15] [35, 36, 1000003, 1000007, 1000009]) 5 rfl rfl rfl rfl rfl rfl rfl ?_
  repeat' (first | refine And.intro ?_ ?_ | exact True.intro | refine rq fun _ => ?_ | refine rf fun _ => ?_ | simp only [go_sem, brn_eta, Tryd.f33, Tbl0])
  refine WcallK.i (Wcall_ownT (xs := [FD.sl (b.used.map enc)]) rfl (cloneBs (l := b.used) (by omega)) fun g2 n2 hg2 hn2 => ?_)
  repeat' (first | refine And.intro ?_ ?_ | exact True.intro | refine rq fun _ => ?_ | refine rf fun _ => ?_ | simp only [go_sem, brn_eta, Tryd.f33, Tbl0])
  refine AppZK.ow (kk := .i64) ((List.replicate fs.length false).map enc) (te := ⟨1, 1, [.fz (.b false)], .bool, false, false, []⟩) (by simp only [go_sem]) Tryd.underlying3 (by omega) rfl rfl (by omega) (by simp) (by rw [zerC_one rfl rfl, Int.toNat_natCast]; exact flat_repB) (o := ⟨[], false, true⟩) (by simp only [go_sem]) (lens_kc _) (lens_kc _) (by rw [flat_repB]; simp [oneB]) (by rw [Int.toNat_natCast]; exact fits_of2 (by rw [List.length_map]; omega) (by decide)) ?_
  repeat' (first | refine And.intro ?_ ?_ | exact True.intro | refine rq fun _ => ?_ | refine rf fun _ => ?_ | simp only [go_sem, brn_eta, Tryd.f33, Tbl0])
  refine WK_loopE hm tbl0Z 33000 (lsw [15] [35, 36, 1000003, 1000007, 1000009]) (ι := LoopA b.seen.length (n2 + 3))
    ⟨fun q => ⟨frL [(1, .fz (.sl (fs.map enc))), (2, .ptr (33002, 0) 0), (4, .ptr (33004, 1) 0), (5, .ptr (33005, 2) 0), (25, .fz (.sl (b.seen.map enc))), (26, .fz (.i .i64 b.seen.length)), (27, .fz (.i .i64 q.i))],
      hpL [((33002, 0), some ⟨[.fz (.sl (b.list.map enc)), .fz (.sl (b.used.map enc)), .fz (.sl (b.seen.map enc)), .fz (.i .i64 b.rounds)], true, false⟩), ((33004, 1), some ⟨[.full [], .full [], .full [], .fz (.i .i64 0)], true, false⟩),
        ((33005, 2), some ⟨[.fz (.sl ((b.list ++ fs).map enc)), .fz (.sl ((b.used ++ List.replicate fs.length false).map enc)), .arr (33036, q.r) 1 0 q.i, .fz (.i .i64 b.rounds)], true, false⟩),
        ((33036, q.r), some ⟨seenC k q.g (b.seen.take q.i), false, (b.seen.take q.i).isEmpty⟩), ((69007, q.g), some tok)], q.m⟩, fun q => b.seen.length - q.i⟩
    ⟨0, n2 + 1, n2 + 2, n2 + 3, by omega, by omega, by omega, by omega⟩ (by kernel_rfl) ?_ ?_
  · refine Weak_g [] [(33036, n2 + 1), (69007, n2 + 2)] [] ?_ ?_ ?_ ?_ ?_ <;> simp only [go_sem, List.map_append, seenC]
    all_goals first | done | rfl | omega | (refine ⟨by omega, by omega, ⟨by omega, by omega⟩, ⟨by omega, rfl⟩, by omega, by omega⟩)
  rintro ⟨i, r, g, m, hi, hr, hg, hm2⟩
  try simp only at hi hr hg hm2
  rcases Nat.lt_or_ge i b.seen.length with h1 | h1
  · obtain ⟨s, hx⟩ : ∃ s, b.seen[i] = s := ⟨_, rfl⟩
    have hsl : s.length ≤ 1000000 := ks.out s (by rw [← hx]; exact List.getElem_mem h1)
    have e3 := List.take_succ_eq_append_getElem h1
    rw [hx] at e3
    have htl : (b.seen.take i).length = i := by rw [List.length_take]; omega
    have hts : (seenC k g (b.seen.take i)).take i = seenC k g (b.seen.take i) := List.take_of_length_le (by rw [seenC_len, htl]; exact Nat.le_refl _)
    by_cases hik : i = k
    · have hif : (i = k) = True := eq_true hik
      repeat' (first | refine WcallK.i (Wcall_ownT (xs := [FD.sl (s.map enc)]) rfl (cloneSs (l := s) (by omega)) fun g3 m3 hg3 hm3 => ?_) | refine WK_drawV (id := 7) hm tbl0Z 33000 (lsw [15] [35, 36, 1000003, 1000007, 1000009]) treeA7 (by kernel_rfl) (by kernel_rfl) ?_ | refine And.intro ?_ ?_ | exact True.intro | refine rq fun _ => ?_ | refine rf fun _ => ?_ | simp only [go_sem, hts, h1, hx, treeA7, seenC_len, htl, getD_map_lt, brn_eta, Tryd.f33, Tbl0])
      all_goals
        have hsw : seenC k g (b.seen.take i) = seenC k g3 (b.seen.take i) := seenC_lt (by rw [htl]; omega)
        refine ⟨⟨i + 1, m3 + 1, g3, m3 + 2, by omega, by omega, by omega, by omega⟩, by simp only; omega, ?_⟩
        refine Weak_g [] [] [] ?_ ?_ ?_ ?_ ?_ <;> simp only [go_sem, e3, hsw, seenC_snoc, htl, hif, List.map_append, isE_snoc]
      all_goals repeat' (first | refine And.intro ?_ ?_ | omega | rfl | (refine drs_seen (by omega) ?_) | simp only [go_sem])
      all_goals trace_state
    · have hif : (i = k) = False := eq_false hik
      repeat' (first | refine WcallK.i (Wcall_ownT (xs := [FD.sl (s.map enc)]) rfl (cloneSs (l := s) (by omega)) fun g3 m3 hg3 hm3 => ?_) | refine WK_drawV (id := 7) hm tbl0Z 33000 (lsw [15] [35, 36, 1000003, 1000007, 1000009]) treeA7 (by kernel_rfl) (by kernel_rfl) ?_ | refine And.intro ?_ ?_ | exact True.intro | refine rq fun _ => ?_ | refine rf fun _ => ?_ | simp only [go_sem, hts, h1, hx, treeA7, seenC_len, htl, getD_map_lt, brn_eta, Tryd.f33, Tbl0])
      all_goals
        have hgg : (g = g3) = False := eq_false (by omega)
        refine ⟨⟨i + 1, m3 + 1, g, m3 + 2, by omega, by omega, by omega, by omega⟩, by simp only; omega, ?_⟩
        refine Weak_g [] [] [] ?_ ?_ ?_ ?_ ?_ <;> simp only [go_sem, e3, seenC_snoc, htl, hif, hgg, List.map_append, isE_snoc]
      all_goals repeat' (first | refine And.intro ?_ ?_ | omega | rfl | (refine drs_seen (by omega) ?_) | simp only [go_sem])
      all_goals trace_state
  · obtain rfl : i = b.seen.length := by omega
    have htl : (b.seen.take b.seen.length) = b.seen := List.take_length
    have hts : (seenC k g b.seen).take b.seen.length = seenC k g b.seen := List.take_of_length_le (by rw [seenC_len]; exact Nat.le_refl _)
    repeat' (first | refine And.intro ?_ ?_ | exact True.intro | refine rq fun _ => ?_ | refine rf fun _ => ?_ | simp only [go_sem, htl, Nat.lt_irrefl, hts, seenC_len, brn_eta, Tryd.f33, Tbl0])
    refine WK_regionZ (rid := 9) tbl0Z 33000 (lsw [15] [35, 36, 1000003, 1000007, 1000009]) 4 rfl rfl rfl rfl rfl rfl rfl ?_
    repeat' (first | refine And.intro ?_ ?_ | exact True.intro | refine rq fun _ => ?_ | refine rf fun _ => ?_ | simp only [go_sem, htl, Nat.lt_irrefl, hts, seenC_len, brn_eta, Tryd.f33, Tbl0])
    refine AppZK.arr (kk := .i64) (te := ⟨1, 24, [.full []], .slice 9, false, false, []⟩) (by simp only [go_sem]) Tryd.underlying3 (by omega) rfl rfl (by omega) (o := ⟨seenC k g b.seen, false, b.seen.isEmpty⟩) (by simp only [go_sem, htl]) (by simp [seenC_len]) (by rw [zerC_one rfl rfl]; simp [oneB]) (by decide) (by rw [Int.toNat_natCast]; exact fits_of2 (by omega) (by decide)) ?_
    have hz : zerC ⟨1, 24, [.full []], .slice 9, false, false, []⟩ fs.length = List.replicate fs.length (D.full []) := zerC_one rfl rfl
    repeat' (first | refine And.intro ?_ ?_ | exact True.intro | refine rq fun _ => ?_ | refine rf fun _ => ?_ | simp only [go_sem, hz, htl, Nat.lt_irrefl, hts, seenC_len, Int.toNat_natCast, Nat.mul_one, List.drop_zero, brn_eta, Tryd.f33, Tbl0])
    rw [kq.out]
    refine ⟨m, g, by omega, by omega, ?_, ?_, ?_⟩
    · simp only [go_sem, List.map_append]
    · simp only [go_sem]
    · simp only [go_sem]
end Go.Proofs.YtdlioodgfopmfaaDoor

namespace Go.Proofs.YtdlioodgfopmfaaDoor
open Go Go.Abs Go.Proofs

def Z1 : Tbl := Y9.add 63 (sp1 (fun f => (partsM f).1) brF)
attribute [go_sem] Z1
set_option maxHeartbeats 4000000 in
theorem hZ1 : TblOk Tryd.prog GA Z1 := by
  refine sp1_ok ok63 hY9 fun f hbr _ => ?_
  have hkb := vok_eq.1 hbr.v
  have hk1 := hkb.1
  have hk2 := hkb.2.1
  clear hkb
  by_cases k4 : f.kind = 4
  · obtain ⟨g, hg, s0, hbg⟩ := br_one hbr (.inl k4)
    have hgk := vok_eq.1 hbg.v
    have hg1 := hgk.1
    have hg2 := hgk.2.1
    clear hgk
    have hcase : g.kind = 1 ∨ g.kind = 2 ∨ g.kind = 3 ∨ g.kind = 4 ∨ g.kind = 5 ∨ g.kind = 6 ∨ g.kind = 7 ∨ g.kind = 8 ∨ g.kind = 9 := by omega
    rcases hcase with j | j | j | j | j | j | j | j | j
    all_goals
      have e := partsM_not k4 s0 j
      try simp only at e
      rw [e]
      refine Wcall_K (N := 32) hm hY9 63000 (lst []) ok63 Tryd.func63 rfl rfl (by simp) (by kernel_rfl) ?_
      repeat' (first | refine And.intro ?_ ?_ | exact True.intro | refine rq fun _ => ?_ | refine rf fun _ => ?_ | simp only [go_sem, k4, hg, j, getD_map_lt, form_eta, Tryd.f63])
  · have hcase : f.kind = 1 ∨ f.kind = 2 ∨ f.kind = 3 ∨ f.kind = 5 ∨ f.kind = 6 ∨ f.kind = 7 ∨ f.kind = 8 ∨ f.kind = 9 := by omega
    rcases hcase with j | j | j | j | j | j | j | j
    all_goals
      have e := partsM_kind k4 j
      try simp only at e
      rw [e]
      refine Wcall_K (N := 32) hm hY9 63000 (lst []) ok63 Tryd.func63 rfl rfl (by simp) (by kernel_rfl) ?_
      repeat' (first | refine And.intro ?_ ?_ | exact True.intro | refine rq fun _ => ?_ | refine rf fun _ => ?_ | simp only [go_sem, j, getD_map_lt, form_eta, Tryd.f63])
theorem isE_flat {B U : List Str} : (B.isEmpty && U.isEmpty) = (B.isEmpty && (flatFz (B.map enc ++ U.map enc)).isEmpty) := by
  rw [← List.map_append, flat_one]
  cases B <;> cases U <;> rfl
theorem namesM_eq (l : List Abs.Form) : namesM l = compL (sortL (l.flatMap usedM)) := by
  unfold namesM compL sortL; rw [map_l_mk]
theorem used_len {f : Abs.Form} (h : brF f) : (usedM f).length ≤ 1000000 := by
  rw [usedM_eq]
  have h1 := cst_len h.ft []
  have hs := h.s
  have h2 : (compL (sortL (cst f []))).length ≤ (sortL (cst f [])).length := by
    unfold compL
    rw [List.length_map]
    have := compS_len ((sortL (cst f [])).map (·.l))
    rw [List.length_map] at this
    exact this
  rw [sortL_len] at h2
  omega
set_option maxHeartbeats 4000000 in
theorem namesW {l : List Abs.Form} (hbr : ∀ f ∈ l, brF f) (hl : l.length ≤ 100000) : Wcall Tryd.prog GA 66 [.fz (enc l)] (hpL []) 0
    (fun d H n => ∃ g, g < n ∧ d = .arr (66015, g) 1 0 (namesM l).length ∧ H (66015, g) = some ⟨flatFz ((namesM l).map enc), false, (l.flatMap usedM).isEmpty⟩) := by
  obtain ⟨Q, hQ⟩ : ∃ Q : D → Heap → Nat → Prop, Q = (fun d H n => ∃ g, g < n ∧ d = .arr (66015, g) 1 0 (namesM l).length ∧ H (66015, g) = some ⟨flatFz ((namesM l).map enc), false, (l.flatMap usedM).isEmpty⟩) := ⟨_, rfl⟩
  rw [← hQ]
  obtain ⟨A, hA⟩ : ∃ A : Nat → List Str, A = fun i => (l.take i).flatMap usedM := ⟨_, rfl⟩
  have hA0 : A 0 = [] := by rw [hA]; rfl
  have hAs : ∀ i (h : i < l.length), A (i + 1) = A i ++ usedM l[i] := fun i h => by
    rw [hA]; simp only
    rw [List.take_succ_eq_append_getElem h, List.flatMap_append, List.flatMap_cons, List.flatMap_nil, List.append_nil]
  have hAe : A l.length = l.flatMap usedM := by rw [hA]; simp only [List.take_length]
  rw [namesM_eq, ← hAe] at hQ
  have kb := Kp.mk hbr
  have kA := Kp.mk hAs
  have kq := Kp.mk hQ
  clear hbr hA hAs hAe hQ
  refine Wcall_K (N := 21) hm hZ1 66000 (lst [15]) ok66 Tryd.func66 rfl rfl (by simp) (by kernel_rfl) ?_
  repeat' (first | refine And.intro ?_ ?_ | exact True.intro | refine rq fun _ => ?_ | refine rf fun _ => ?_ | simp only [go_sem, Tryd.f66])
  refine WK_loop hm hZ1 66000 (lst [15]) (ι := LoopG l.length 1 fun i => (A i).length ≤ i * 1000000)
    ⟨fun q => ⟨frL [(3, .arr (66015, q.g) 1 0 (A q.i).length), (6, .fz (.sl (l.map enc))), (7, .fz (.i .i64 l.length)), (8, .fz (.i .i64 q.i))], hpL [((66015, q.g), some ⟨flatFz ((A q.i).map enc), false, (A q.i).isEmpty⟩)], q.m⟩, fun q => l.length - q.i⟩
    ⟨0, 0, 1, by omega, by omega, by omega, by rw [hA0]; simp⟩ (by kernel_rfl) ?_ ?_
  · refine Weak_g [] [(66015, 0)] [] ?_ ?_ ?_ ?_ ?_ <;> simp only [go_sem, hA0]
    all_goals first | done | rfl | omega
  rintro ⟨i, g, m, hi, hg, hm2, hp⟩
  try simp only at hi hg hm2 hp
  rcases Nat.lt_or_ge i l.length with h1 | h1
  · obtain ⟨x, hx⟩ : ∃ x, l[i] = x := ⟨_, rfl⟩
    have hxb : brF x := kb.out x (by rw [← hx]; exact List.getElem_mem h1)
    have hs := kA.out i h1
    rw [hx] at hs
    have hul := used_len hxb
    obtain ⟨U, hU⟩ : ∃ U, usedM x = U := ⟨_, rfl⟩
    rw [hU] at hs hul
    obtain ⟨B, hB⟩ : ∃ B, A i = B := ⟨_, rfl⟩
    rw [hB] at hs hp
    have hft : fits (B.length + U.length) 16 := ⟨by unfold maxL; omega, by omega⟩
    repeat' (first | refine ReqK.i hxb fun _ => ?_ | refine ReqK.i hft fun _ => ?_ | refine ReqK.i (by simp only [List.length_map]; exact hft) fun _ => ?_ | refine And.intro ?_ ?_ | exact True.intro | refine rq fun _ => ?_ | refine rf fun _ => ?_ | simp only [go_sem, h1, hx, hU, hB, getD_map_lt, form_eta, str_eta, Tryd.f66])
    all_goals refine ⟨⟨i + 1, m + 1, m + 2, by omega, by omega, by omega, by rw [hs, List.length_append]; omega⟩, by simp only; omega, ?_⟩
    all_goals refine Weak_g [] [] [] ?_ ?_ ?_ ?_ ?_ <;> simp only [go_sem, hs, List.map_append, List.length_append]
    all_goals first | done | rfl | omega | exact ⟨by omega, isE_flat⟩
  · obtain rfl : i = l.length := by omega
    obtain ⟨B, hB⟩ : ∃ B, A l.length = B := ⟨_, rfl⟩
    repeat' (first | refine And.intro ?_ ?_ | exact True.intro | refine rq fun _ => ?_ | refine rf fun _ => ?_ | simp only [go_sem, hB, Nat.lt_irrefl, form_eta, str_eta, Tryd.f66])
    refine WcallK.i (sort_own (l := B) (bx := false) (vt := B.isEmpty) (by simp only [go_sem, hB]) ?_)
    have b1 := sortL_len B
    repeat' (first | refine And.intro ?_ ?_ | exact True.intro | refine rq fun _ => ?_ | refine rf fun _ => ?_ | simp only [go_sem, hB, Nat.lt_irrefl, form_eta, str_eta, Tryd.f66])
    rw [← sortL_len B]
    refine WcallK.i (comp_own (l := sortL B) (bx := false) (vt := B.isEmpty) (by simp only [go_sem]) ?_)
    repeat' (first | refine And.intro ?_ ?_ | exact True.intro | refine rq fun _ => ?_ | refine rf fun _ => ?_ | simp only [go_sem, hB, Nat.lt_irrefl, form_eta, str_eta, Tryd.f66])
    rw [kq.out, hB]
    exact ⟨g, by omega, by simp only [go_sem], by simp only [go_sem]⟩
def Z2 : Tbl := Z1.add 66 (sp1 namesM fun l => (∀ f ∈ l, brF f) ∧ l.length ≤ 100000)
attribute [go_sem] Z2
theorem hZ2 : TblOk Tryd.prog GA Z2 := by
  refine sp1_ok ok66 hZ1 fun l hp hw => ?_
  refine Wcall_post (namesW hp.1 hp.2) ?_
  rintro d H n ⟨g, hg, rfl, ho⟩
  have hn : (l.flatMap usedM).isEmpty = true → namesM l = [] := fun h => by
    rw [namesM_eq, List.isEmpty_iff.1 h]
    cases hu : compL (sortL []) with
    | nil => rfl
    | cons x t =>
      have : x ∈ compL (sortL []) := by rw [hu]; simp
      unfold compL sortL at this
      rw [map_l_mk] at this
      obtain ⟨y, hy, rfl⟩ := List.mem_map.1 this
      have h2 := (mem_compS _ _).1 hy
      have h3 := (sortS_perm _).mem_iff.1 h2
      simp at h3
  obtain ⟨U, hU⟩ : ∃ U, namesM l = U := ⟨_, rfl⟩
  rw [hU] at ho hn ⊢
  refine ⟨.fz (.sl (U.map enc)), H0, n, ?_, rfl⟩
  have e : H0 = hpL [] := rfl
  rw [e]
  refine Weak_g [] [] [((66015, g), U.map enc)] ?_ ?_ ?_ ?_ ?_ <;> simp only [go_sem, ho]
  intro h
  rw [hn h]; rfl
theorem fullW {sid : Abs.Id} {uses a k : Int} {H : Heap} {n : Nat} {R : D → Heap → Nat → Prop} (ho : H sid = some ⟨[.fz (.i .i64 uses), .fz (.i .i64 a)], true, false⟩) (ha : 0 ≤ a ∧ a ≤ 300) (hk : 0 ≤ k ∧ k ≤ 1000000)
    (hR : R (.fz (.b (decide (300 < a + k)))) (updH H sid (some ⟨[.fz (.i .i64 uses), .fz (.i .i64 (a + k))], true, false⟩)) n) : Wcall Tryd.prog GA 65 [.ptr sid 0, .fz (.i .i64 k)] H n R := by
  refine Wcall_cell (T := 7) (xs := [.i .i64 k]) (cs := [.i .i64 uses, .i .i64 a]) (cs' := [.i .i64 uses, .i .i64 (a + k)]) rfl ?_ ho hR
  obtain ⟨ha0, ha1⟩ := ha
  obtain ⟨hk0, hk1⟩ := hk
  obtain ⟨Q, hQ⟩ : ∃ Q : D → Heap → Nat → Prop, Q = (fun d H' _ => D.val d = some (.fz (.b (decide (300 < a + k)))) ∧ H' (7, 0) = some ⟨[FD.i .i64 uses, .i .i64 (a + k)].map .fz, true, false⟩) := ⟨_, rfl⟩
  rw [← hQ]
  refine Wcall_K (N := 18) hm hZ2 65000 (lst []) ok65 Tryd.func65 rfl rfl (by simp) (by kernel_rfl) ?_
  repeat' (first | refine And.intro ?_ ?_ | exact True.intro | refine rq fun _ => ?_ | refine rf fun _ => ?_ | simp only [go_sem, Tryd.f65, Tbl0])
  all_goals (
    rw [hQ]
    refine ⟨?_, ?_⟩
    · simp only [go_sem]
    · simp only [go_sem])
end Go.Proofs.YtdlioodgfopmfaaDoor

namespace Go.Proofs.YtdlioodgfopmfaaDoor
open Go Go.Abs Go.Proofs

theorem seenC_big {k g : Nat} {S : List (List Str)} (h : S.length ≤ k) : seenC k g S = flatFz (S.map enc) := by
  rw [flat_one]
  unfold seenC
  apply List.ext_getElem (by simp)
  intro j h1 h2
  have hj : j < S.length := by simpa using h1
  simp only [List.getElem_mapIdx, List.getElem_map]
  rw [if_neg (by omega)]
  rfl
theorem addP {b : Brn} {fs : List Abs.Form} {args : List D} {H : Heap} {n : Nat} {R : D → Heap → Nat → Prop} (hb : b.list.length ≤ 100000 ∧ b.used.length ≤ 100000 ∧ b.seen.length ≤ 100000 ∧ fs.length ≤ 100000) (hs : ∀ s ∈ b.seen, s.length ≤ 1000000)
    (ha : D.toFDs args = some [enc b, .sl (fs.map enc)]) (hR : R (.fz (enc (addB b fs))) H n) : Wcall Tryd.prog GA 33 args H n R := by
  have h : Wcall Tryd.prog GA 33 ([enc b, FD.sl (fs.map enc)].map .fz) H0 0 (fun d _ _ => D.val d = some (.fz (enc (addB b fs)))) := by
    refine Wcall_post (addW (b.seen.length + fs.length) hb hs) ?_
    rintro d H n ⟨r, g, hr, hg, rfl, ho, _⟩
    have hlen : (b.seen ++ List.replicate fs.length ([] : List Str)).length = b.seen.length + fs.length := by simp
    rw [seenC_big (by rw [hlen]; exact Nat.le_refl _)] at ho
    obtain ⟨S, hS⟩ : ∃ S, b.seen ++ List.replicate fs.length ([] : List Str) = S := ⟨_, rfl⟩
    have e1 : enc (addB b fs) = .agg [.sl ((b.list ++ fs).map enc), .sl ((b.used ++ List.replicate fs.length false).map enc), .sl (S.map enc), .i .i64 b.rounds] := by rw [← hS]; rfl
    rw [hS] at ho hlen
    refine ⟨.agg [.fz (.sl ((b.list ++ fs).map enc)), .fz (.sl ((b.used ++ List.replicate fs.length false).map enc)), .fz (.sl (S.map enc)), .fz (.i .i64 b.rounds)], hpL [], n, ?_, by rw [e1]; rfl⟩
    refine Weak_g [] [] [((33043, r), S.map enc)] ?_ ?_ ?_ ?_ ?_ <;> simp only [go_sem, ho]
    all_goals first | done | rfl | omega | (intro h; rw [List.isEmpty_iff.1 h]; rfl)
  exact Wcall_mono (Wcall_pure ha h) (by rintro d H' n' ⟨rfl, rfl, rfl⟩; exact hR)
theorem shDs_seen {k g n : Nat} {S : List (List Str)} : shDs n (seenC k g S) = seenC k (g + n) S := by
  rw [shDs_map]
  unfold seenC
  apply List.ext_getElem (by simp)
  intro j h1 h2
  simp only [List.getElem_map, List.getElem_mapIdx]
  split <;> rfl
theorem addC (k : Nat) {b : Brn} {fs : List Abs.Form} {args : List D} {H : Heap} {n : Nat} {R : D → Heap → Nat → Prop} (hb : b.list.length ≤ 100000 ∧ b.used.length ≤ 100000 ∧ b.seen.length ≤ 100000 ∧ fs.length ≤ 100000) (hs : ∀ s ∈ b.seen, s.length ≤ 1000000)
    (ha : D.toFDs args = some [enc b, .sl (fs.map enc)])
    (hR : ∀ r g n', n ≤ r → r < n' → n ≤ g → g < n' → R (D.agg [.fz (.sl ((b.list ++ fs).map enc)), .fz (.sl ((b.used ++ List.replicate fs.length false).map enc)), .arr (33043, r) 1 0 (b.seen.length + fs.length), .fz (.i .i64 b.rounds)]) (hpX [((33043, r), some ⟨seenC k g (b.seen ++ List.replicate fs.length []), false, (b.seen ++ List.replicate fs.length []).isEmpty⟩), ((69007, g), some tok)] H) n') : Wcall Tryd.prog GA 33 args H n R := by
  have h := addW k hb hs
  refine Wcall_fresh h.1 fun hfr => Wcall_post (Wcall_own ha h) ?_
  rintro d H' n' ⟨d1, H1, n1, ⟨r, g, hr, hg, rfl, ho, ho2⟩, rfl, rfl, rfl⟩
  have hsh : shH n H H1 (33043, r + n) = some ⟨seenC k (g + n) (b.seen ++ List.replicate fs.length []), false, (b.seen ++ List.replicate fs.length []).isEmpty⟩ := by
    unfold shH
    rw [if_pos (by simp), show (33043, r + n - n) = (33043, r) by rw [Nat.add_sub_cancel], ho]
    simp only [Option.map_some, shO, shDs_seen]
  have hsh2 : shH n H H1 (69007, g + n) = some tok := by
    unfold shH
    rw [if_pos (by simp), show (69007, g + n - n) = (69007, g) by rw [Nat.add_sub_cancel], ho2]
    rfl
  refine ⟨D.agg [.fz (.sl ((b.list ++ fs).map enc)), .fz (.sl ((b.used ++ List.replicate fs.length false).map enc)), .arr (33043, r + n) 1 0 (b.seen.length + fs.length), .fz (.i .i64 b.rounds)], hpX [((33043, r + n), some ⟨seenC k (g + n) (b.seen ++ List.replicate fs.length []), false, (b.seen ++ List.replicate fs.length []).isEmpty⟩), ((69007, g + n), some tok)] H, n + n1, Weak_toH ?_ (fun id o hid => ?_) (Nat.le_refl _), hR (r + n) (g + n) (n + n1) (by omega) (by omega) (by omega) (by omega)⟩
  · exact ⟨rfl, trivial⟩
  · simp only [hpX] at hid
    split at hid
    · rename_i e; subst e; rw [← hid]; exact hsh
    split at hid
    · rename_i e; subst e; rw [← hid]; exact hsh2
    · have hlt : id.2 < n := by
        rcases Nat.lt_or_ge id.2 n with h3 | h3
        · exact h3
        · rw [hfr id h3] at hid; cases hid
      show shH n H H1 id = some o
      unfold shH
      rw [if_neg (by omega)]
      exact hid
def Z3 : Tbl := Z2.add 62 (sp1p closedR fun l => (∀ f ∈ l, brF f) ∧ l.length ≤ 100000)
attribute [go_sem] Z3
theorem closedL_step {c : List Bind} {l : List Abs.Form} {i k : Nat} (h : i < l.length) : closedL c l (l.drop i) k = match closedI c l l[i] k with | some p => some p | none => closedL c l (l.drop (i + 1)) (k + 1) := by
  rw [List.drop_eq_getElem_cons h, closedL]
  cases closedI c l l[i] k <;> rfl
theorem firstI_step {p : Abs.Form → Bool} {l : List Abs.Form} {i k : Nat} (h : i < l.length) : firstI p (l.drop i) k = if p l[i] then some k else firstI p (l.drop (i + 1)) (k + 1) := by
  rw [List.drop_eq_getElem_cons h, firstI]
theorem closedR_some {l : List Abs.Form} {p : Prf} (h : closedM l = some p) : closedR l = (p, true) := by unfold closedR; rw [h]
theorem closedR_none {l : List Abs.Form} (h : closedM l = none) : closedR l = (zeroP, false) := by unfold closedR; rw [h]
def treeC11 : Tv := (.q 0 (.q 1 (.q 2 (.q 3 (.q 4 (.q 5 (.q 6 .leaf)))))))
set_option maxHeartbeats 4000000 in
theorem hZ3 : TblOk Tryd.prog GA Z3 := by
  refine sp1p_ok ok62 hZ2 fun l hp _ => ?_
  obtain ⟨hbr, hl⟩ := hp
  obtain ⟨cw, cl⟩ := cls_wf l
  obtain ⟨C, hC⟩ : ∃ C, clsM l = C := ⟨_, rfl⟩
  have hM : closedL C l (l.drop 0) 0 = closedM l := by rw [← hC]; rfl
  rw [hC] at cw cl
  have hpl : (∀ f ∈ l, brF f) ∧ l.length ≤ 100000 := ⟨hbr, hl⟩
  obtain ⟨V, hV⟩ : ∃ V, closedR l = V := ⟨_, rfl⟩
  obtain ⟨M, hMM⟩ : ∃ M, closedM l = M := ⟨_, rfl⟩
  have hVs : ∀ p, M = some p → V = (p, true) := fun p h => by rw [← hV, closedR_some (hMM.trans h)]
  have hVn : M = none → V = (zeroP, false) := fun h => by rw [← hV, closedR_none (hMM.trans h)]
  rw [hMM] at hM
  rw [hV]
  have kb := Kp.mk hbr
  have kp := Kp.mk hpl
  have kC := Kp.mk cw
  have ks := Kp.mk hVs
  have kn := Kp.mk hVn
  clear hbr hpl cw hVs hVn
  refine Wcall_K (N := 55) hm hZ2 62000 (lst [1000011]) ok62 Tryd.func62 rfl rfl (by simp) (by kernel_rfl) ?_
  repeat' (first | refine ReqK.i kp.out fun _ => ?_ | refine And.intro ?_ ?_ | exact True.intro | refine rq fun _ => ?_ | refine rf fun _ => ?_ | simp only [go_sem, hC, form_eta, Tryd.f62])
  refine WK_loop hm hZ2 62000 (lst [1000011]) (ι := LoopM l.length 1 fun i => closedL C l (l.drop i) i = M)
    ⟨fun q => ⟨frL [(0, .fz (.sl (l.map enc))), (2, .ptr (62002, 0) 0), (3, .fz (.b false)), (4, .fz (.sl (C.map enc))), (11, .fz (.sl (l.map enc))), (12, .fz (.i .i64 l.length)), (13, .fz (.i .i64 q.i))], hpL [((62002, 0), some ⟨[.fz (.i .i64 0), .fz (.i .i64 0), .fz (.i .i64 0), .fz (.s []), .full []], true, false⟩)], q.m⟩, fun q => l.length - q.i⟩
    ⟨0, 1, by omega, by omega, hM⟩ (by kernel_rfl) ?_ ?_
  · refine Weak_to ?_ ?_ ?_ <;> simp only [go_sem, hC]
    all_goals first | done | rfl | omega
  rintro ⟨i, m, hi, hm1, hq⟩
  try simp only at hi hm1 hq
  rcases Nat.lt_or_ge i l.length with h1 | h1
  · obtain ⟨f, hf⟩ : ∃ f, l[i] = f := ⟨_, rfl⟩
    have hfb : brF f := kb.out f (by rw [← hf]; exact List.getElem_mem h1)
    rw [closedL_step h1, hf] at hq
    have hcon : conPreY C f := ⟨⟨kC.out, by omega⟩, hfb⟩
    obtain ⟨B, hB⟩ : ∃ B, conM C f = B := ⟨_, rfl⟩
    by_cases hv : B = true
    · have hI : closedI C l f i = some (.mk 1 i i ⟨[]⟩ []) := by unfold closedI; rw [if_pos (by rw [hB]; exact hv)]
      rw [hI] at hq
      have e := ks.out _ hq.symm
      rw [e]
      repeat' (first | refine ReqK.i hcon fun _ => ?_ | refine And.intro ?_ ?_ | exact True.intro | refine rq fun _ => ?_ | refine rf fun _ => ?_ | simp only [go_sem, h1, hf, hB, hv, getD_map_lt, form_eta, Tryd.f62])
      all_goals trace_state
    have hv : B = false := by simpa using hv
    by_cases k4 : f.kind = 4
    rotate_left
    · have hI : closedI C l f i = none := by unfold closedI; rw [hB, hv, if_neg (by simp), if_neg (by omega)]
      rw [hI] at hq
      repeat' (first | refine ReqK.i hcon fun _ => ?_ | refine And.intro ?_ ?_ | exact True.intro | refine rq fun _ => ?_ | refine rf fun _ => ?_ | simp only [go_sem, h1, hf, hB, hv, k4, getD_map_lt, form_eta, Tryd.f62])
      all_goals refine ⟨⟨i + 1, m + 1, by omega, by omega, hq⟩, by simp only; omega, ?_⟩
      all_goals refine Weak_to ?_ ?_ ?_ <;> simp only [go_sem]
      all_goals first | done | rfl | omega
    obtain ⟨g, hg, s0, hbg⟩ := br_one hfb (.inl k4)
    have eF : Abs.Form.mk 4 f.name f.words [g] = f := by rw [← k4, ← hg]; exact form_eta
    by_cases k2 : g.kind = 2
    rotate_left
    · have hI : closedI C l f i = none := by unfold closedI; rw [hB, hv, if_neg (by simp), if_neg (by rw [s0]; omega)]
      rw [hI] at hq
      repeat' (first | refine ReqK.i hcon fun _ => ?_ | refine And.intro ?_ ?_ | exact True.intro | refine rq fun _ => ?_ | refine rf fun _ => ?_ | simp only [go_sem, h1, hf, hB, hv, k4, eF, hg, k2, getD_map_lt, form_eta, Tryd.f62])
      all_goals refine ⟨⟨i + 1, m + 1, by omega, by omega, hq⟩, by simp only; omega, ?_⟩
      all_goals refine Weak_to ?_ ?_ ?_ <;> simp only [go_sem]
      all_goals first | done | rfl | omega
    have eG : Abs.Form.mk 2 g.name g.words g.subs = g := by rw [← k2]; exact form_eta
    obtain ⟨W, hW⟩ : ∃ W, firstI (fun h => alikM C h g) (l.drop 0) 0 = W := ⟨_, rfl⟩
    have hI : closedI C l f i = W.map fun (k : Nat) => Prf.mk 1 (k : Int) i ⟨[]⟩ [] := by
      unfold closedI
      rw [hB, hv, if_neg (by simp), if_pos ⟨k4, by rw [s0]; exact k2⟩, s0, ← hW, List.drop_zero]
    rw [hI] at hq
    repeat' (first | refine ReqK.i hcon fun _ => ?_ | refine And.intro ?_ ?_ | exact True.intro | refine rq fun _ => ?_ | refine rf fun _ => ?_ | simp only [go_sem, h1, hf, hB, hv, k4, eF, hg, k2, eG, getD_map_lt, form_eta, Tryd.f62])
    refine WK_loop hm hZ2 62000 (lst [1000011]) (ι := LoopM l.length (m + 1) fun k => firstI (fun h => alikM C h g) (l.drop k) k = W)
      ⟨fun q => ⟨frL [(0, .fz (.sl (l.map enc))), (2, .ptr (62002, 0) 0), (3, .fz (.b false)), (4, .fz (.sl (C.map enc))), (5, .fz (.i .i64 i)), (6, .ptr (62006, m) 0), (11, .fz (.sl (l.map enc))), (12, .fz (.i .i64 l.length)), (13, .fz (.i .i64 i)), (35, .fz (.sl (l.map enc))), (36, .fz (.i .i64 l.length)), (37, .fz (.i .i64 q.i))],
        hpL [((62002, 0), some ⟨[.fz (.i .i64 0), .fz (.i .i64 0), .fz (.i .i64 0), .fz (.s []), .full []], true, false⟩), ((62006, m), some ⟨[.fz (.i .i64 4), .fz (.s f.name.l), .fz (.sl (f.words.map enc)), .fz (.sl [enc g])], true, false⟩)], q.m⟩, fun q => l.length - q.i⟩
      ⟨0, m + 1, by omega, by omega, hW⟩ (by kernel_rfl) ?_ ?_
    · refine Weak_to ?_ ?_ ?_ <;> simp only [go_sem, k2]
      all_goals first | done | rfl | omega
    rintro ⟨k, m2, hk, hm3, hr⟩
    try simp only at hk hm3 hr
    rcases Nat.lt_or_ge k l.length with h2 | h2
    · obtain ⟨x, hx⟩ : ∃ x, l[k] = x := ⟨_, rfl⟩
      have hxb : brF x := kb.out x (by rw [← hx]; exact List.getElem_mem h2)
      have hal : (wfC C ∧ C.length ≤ 1000000) ∧ x.fit = true := ⟨⟨kC.out, by omega⟩, hxb.ft⟩
      rw [firstI_step h2, hx] at hr
      obtain ⟨E, hE⟩ : ∃ E, alikM C x g = E := ⟨_, rfl⟩
      by_cases hv2 : E = true
      · rw [if_pos (hE.trans hv2)] at hr
        rw [← hr] at hq
        have e := ks.out _ hq.symm
        rw [e]
        repeat' (first | refine ReqK.i hal fun _ => ?_ | refine WK_drawV (id := 11) hm hZ2 62000 (lst [1000011]) treeC11 (by kernel_rfl) (by kernel_rfl) ?_ | refine And.intro ?_ ?_ | exact True.intro | refine rq fun _ => ?_ | refine rf fun _ => ?_ | simp only [go_sem, h2, hx, hE, hv2, hg, eG, treeC11, getD_map_lt, form_eta, Tryd.f62])
        all_goals trace_state
      · have hv2 : E = false := by simpa using hv2
        rw [if_neg (by rw [hE, hv2]; simp)] at hr
        repeat' (first | refine ReqK.i hal fun _ => ?_ | refine WK_drawV (id := 11) hm hZ2 62000 (lst [1000011]) treeC11 (by kernel_rfl) (by kernel_rfl) ?_ | refine And.intro ?_ ?_ | exact True.intro | refine rq fun _ => ?_ | refine rf fun _ => ?_ | simp only [go_sem, h2, hx, hE, hv2, hg, eG, treeC11, getD_map_lt, form_eta, Tryd.f62])
        all_goals refine ⟨⟨k + 1, m2 + 1, by omega, by omega, hr⟩, by simp only; omega, ?_⟩
        all_goals refine Weak_to ?_ ?_ ?_ <;> simp only [go_sem]
        all_goals first | done | rfl | omega
    · have hWn : W = none := by
        rw [← hr, List.drop_eq_nil_of_le h2]; rfl
      rw [hWn] at hq
      obtain rfl : k = l.length := by omega
      repeat' (first | refine And.intro ?_ ?_ | exact True.intro | refine rq fun _ => ?_ | refine rf fun _ => ?_ | simp only [go_sem, Nat.lt_irrefl, getD_map_lt, form_eta, Tryd.f62])
      all_goals refine ⟨⟨i + 1, m2, by omega, by omega, hq⟩, by simp only; omega, ?_⟩
      all_goals refine Weak_to ?_ ?_ ?_ <;> simp only [go_sem]
      all_goals first | done | rfl | omega
  · have hMn : M = none := by
      rw [← hq, List.drop_eq_nil_of_le h1]; rfl
    have e := kn.out hMn
    obtain rfl : i = l.length := by omega
    rw [e]
    repeat' (first | refine And.intro ?_ ?_ | exact True.intro | refine rq fun _ => ?_ | refine rf fun _ => ?_ | simp only [go_sem, zeroP, Nat.lt_irrefl, getD_map_lt, form_eta, Tryd.f62])
    all_goals trace_state
end Go.Proofs.YtdlioodgfopmfaaDoor

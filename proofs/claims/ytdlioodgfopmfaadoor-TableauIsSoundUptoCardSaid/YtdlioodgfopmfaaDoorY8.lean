/- several texts of this proof in one; no conditions -/
import Derived.Test.YtdlioodgfopmfaaDoorAT
import Derived.Test.YtdlioodgfopmfaaDoorY7
import Derived.Test.YtdlioodgfopmfaaDoorY0
set_option maxRecDepth 100000
set_option maxHeartbeats 1000000
set_option linter.unusedSimpArgs false
namespace Go.Proofs.YtdlioodgfopmfaaDoor
open Go Go.Abs Go.Proofs

section
variable {P : Program} {G : Nat → List FD}
theorem shDs_flat {k : Nat} (xs : List FD) : shDs k (flatFz xs) = flatFz xs := by
  rw [shDs_map]
  conv => rhs; rw [← List.map_id (flatFz xs)]
  refine List.map_congr_left fun d hd => ?_
  obtain ⟨x, hx, hd⟩ := List.mem_flatMap.1 hd
  obtain ⟨y, _, rfl⟩ := List.mem_map.1 hd
  rfl
theorem Wcall_ownA {f : FuncId} {args : List D} {xs ys : List FD} {hl : List (Abs.Id × Option O)} {n t len : Nat} {bx vt : Bool} {R : D → Heap → Nat → Prop} (ha : D.toFDs args = some xs)
    (h : Wcall P G f (xs.map .fz) (hpL []) 0 (fun d H1 n1 => ∃ g, g < n1 ∧ d = .arr (t, g) 1 0 len ∧ H1 (t, g) = some ⟨flatFz ys, bx, vt⟩)) (hR : ∀ g n', n ≤ g → g < n' → R (.arr (t, g) 1 0 len) (hpL (((t, g), some ⟨flatFz ys, bx, vt⟩) :: hl)) n') : Wcall P G f args (hpL hl) n R := by
  rw [← H0_eq] at h
  refine Wcall_fresh h.1 fun hfr => Wcall_post (Wcall_own ha h) ?_
  rintro d H' n' ⟨d1, H1, n1, ⟨g, hg, rfl, ho⟩, rfl, rfl, rfl⟩
  have hsh : shH n (hpL hl) H1 (t, g + n) = some ⟨flatFz ys, bx, vt⟩ := by
    unfold shH
    rw [if_pos (by simp), show (t, g + n - n) = (t, g) by rw [Nat.add_sub_cancel], ho]
    simp only [Option.map_some, shO, shDs_flat]
  refine ⟨.arr (t, g + n) 1 0 len, hpL (((t, g + n), some ⟨flatFz ys, bx, vt⟩) :: hl), n + n1, Weak_toH ?_ (fun id o hid => ?_) (Nat.le_refl _), hR (g + n) (n + n1) (by omega) (by omega)⟩
  · exact ⟨rfl, trivial⟩
  · simp only [hpL] at hid
    split at hid
    · rename_i e; subst e; rw [← hid]; exact hsh
    · have hlt : id.2 < n := by
        rcases Nat.lt_or_ge id.2 n with h3 | h3
        · exact h3
        · rw [hfr id h3] at hid; cases hid
      show shH n (hpL hl) H1 id = some o
      unfold shH
      rw [if_neg (by omega)]
      exact hid
end
theorem hpL_appX (k : List (Abs.Id × Option O)) : ∀ l : List (Abs.Id × Option O), hpL (l ++ k) = hpX l (hpL k)
  | [] => rfl
  | (i, o) :: l => by funext j; simp only [List.cons_append, hpL, hpX, hpL_appX k l]

def rep1 (b : Bind) (w : Str) : Str := if w = b.fr then b.to else w
theorem replM_snoc (env : List Bind) (b : Bind) (u : List Str) : replM (env ++ [b]) u = (replM env u).map (rep1 b) := by
  unfold replM; rw [List.foldl_append]; rfl
def half (b : Bind) (u : List Str) (i : Nat) : List Str := (u.take i).map (rep1 b) ++ u.drop i
theorem half_len {b : Bind} {u : List Str} {i : Nat} : (half b u i).length = u.length := by
  unfold half; rw [List.length_append, List.length_map, List.length_take, List.length_drop]; omega
theorem half_zero {b : Bind} {u : List Str} : half b u 0 = u := by simp [half]
theorem half_all {b : Bind} {u : List Str} : half b u u.length = u.map (rep1 b) := by simp [half]
theorem half_get {b : Bind} {u : List Str} {i : Nat} (h : i < u.length) : (flatFz ((half b u i).map enc)).getD i .junk = .fz (.s u[i].l) := by
  have h2 : i < (half b u i).length := by rw [half_len]; exact h
  rw [flat_getD h2]
  have h3 : (half b u i)[i]? = some u[i] := by
    unfold half
    rw [List.getElem?_append_right (by rw [List.length_map, List.length_take]; omega)]
    simp [List.length_take, Nat.min_eq_left (Nat.le_of_lt h), h]
  rw [(List.getElem?_eq_some_iff.1 h3).2]
  rfl
theorem half_keep {b : Bind} {u : List Str} {i : Nat} (h : i < u.length) : (half b u i).set i u[i] = half b u i := by
  have h2 : i < (half b u i).length := by rw [half_len]; exact h
  have h3 : (half b u i)[i]? = some u[i] := by
    unfold half
    rw [List.getElem?_append_right (by rw [List.length_map, List.length_take]; omega)]
    simp [List.length_take, Nat.min_eq_left (Nat.le_of_lt h), h]
  have h4 := (List.getElem?_eq_some_iff.1 h3).2
  rw [← h4]
  exact List.set_getElem_self h2
theorem half_succ {b : Bind} {u : List Str} {i : Nat} (h : i < u.length) : half b u (i + 1) = (half b u i).set i (rep1 b u[i]) := by
  unfold half
  have hl : ((u.take i).map (rep1 b)).length = i := by rw [List.length_map, List.length_take]; omega
  rw [List.set_append_right _ _ (by omega), hl, Nat.sub_self, List.take_succ_eq_append_getElem h, List.map_append, List.append_assoc, List.drop_eq_getElem_cons h]
  rfl
theorem cst_len {f : Abs.Form} (h : f.fit = true) (bd : List Str) : (cst f bd).length ≤ 1000 * f.size := by
  suffices hh : ∀ m, (∀ (f : Abs.Form) (bd : List Str), f.size ≤ m → f.fit = true → (cst f bd).length ≤ 1000 * f.size) ∧ (∀ (fs : List Abs.Form) (bd : List Str), Form.sizes fs ≤ m → Form.fits fs = true → (csts fs bd).length ≤ 1000 * Form.sizes fs) from (hh f.size).1 f bd (Nat.le_refl _) h
  intro m
  induction m with
  | zero =>
    refine ⟨fun f _ h => by have := f.size_pos; omega, fun fs bd h _ => ?_⟩
    cases fs with
    | nil => simp [csts]
    | cons f fs => rw [Form.sizes] at h; have := f.size_pos; omega
  | succ m ih =>
    have h1 : ∀ (f : Abs.Form) (bd : List Str), f.size ≤ m + 1 → f.fit = true → (cst f bd).length ≤ 1000 * f.size := by
      rintro ⟨k, nm, ws, s⟩ bd hs hf
      rw [Form.size] at hs ⊢
      rw [Form.fit] at hf
      simp only [Bool.and_eq_true, decide_eq_true_eq] at hf
      rw [cst, List.length_append]
      have h2 := ih.2 s (if isQ k then bd ++ [nm] else bd) (by omega) hf.2
      have h3 := List.length_filter_le (fun w => decide (w ∉ bd)) ws
      omega
    refine ⟨h1, fun fs => ?_⟩
    induction fs with
    | nil => intro bd _ _; simp [csts]
    | cons f fs ih2 =>
      intro bd hs hf
      rw [Form.sizes] at hs ⊢
      rw [Form.fits, Bool.and_eq_true] at hf
      rw [csts, List.length_append]
      have h2 := h1 f bd (by omega) hf.1
      have h3 := ih2 bd (by omega) hf.2
      omega
structure EnvI (n : Nat) where
  e : Nat
  m : Nat
  he : e ≤ n
structure RowI (n m0 : Nat) where
  i : Nat
  hi : i ≤ n
def canonPre (f : Abs.Form) (env : List Bind) : Prop := f.fit = true ∧ f.size ≤ 1000 ∧ env.length ≤ 1000
def R2 : Tbl := R1.add 82 (sp2 canonM canonPre)
attribute [go_sem] R2
theorem hR2 : TblOk Tryd.prog GA R2 := by
  refine sp2_ok ok82 hR1 fun f env hpre hw _ => ?_
  obtain ⟨hfit, hsz, hel⟩ := hpre
  have hcl := cst_len hfit []
  have hul := usedM_len f
  have h167 := f76 hw (by omega) (by omega)
  rw [enc_form] at h167
  obtain ⟨u, hu⟩ : ∃ u, usedM f = u := ⟨_, rfl⟩
  obtain ⟨vt, hvt⟩ : ∃ vt, (cst f []).isEmpty = vt := ⟨_, rfl⟩
  have hvu : u ≠ [] → vt = false := fun h => by
    rw [← hvt]
    cases hc : cst f [] with
    | cons => rfl
    | nil => rw [hc] at hul; rw [hu] at hul; simp only [List.length_nil, Nat.le_zero] at hul; exact absurd (List.eq_nil_of_length_eq_zero hul) h
  have hvu2 : vt = true → u = [] := fun h => by
    cases hc : u with
    | nil => rfl
    | cons a l => have := hvu (by rw [hc]; simp); rw [this] at h; cases h
  rw [hu, hvt] at h167
  rw [hu] at hul
  refine Wcall_K (N := 43) hm hR1 82000 (lst []) ok82 Tryd.func82 rfl rfl (by simp) (by kernel_rfl) ?_
  repeat' (first | refine rq fun _ => ?_ | simp only [go_sem, Tryd.f82])
  refine WcallK.i (Wcall_ownA rfl h167 fun g m hg hgm => ?_)
  repeat' (first | refine rq fun _ => ?_ | simp only [go_sem, Tryd.f82])
  obtain ⟨X, hXd⟩ : ∃ X : Nat → List Str, X = fun e => replM (env.take e) u := ⟨_, rfl⟩
  have hX0 : X 0 = u := by rw [hXd]; rfl
  have hXs : ∀ e (h : e < env.length), X (e + 1) = (X e).map (rep1 env[e]) := fun e h => by rw [hXd]; simp only [List.take_succ_eq_append_getElem h, replM_snoc]
  have hXl : ∀ e, (X e).length = u.length := fun e => by rw [hXd]; exact replM_len _ _
  have hXe : X env.length = replM env u := by rw [hXd]; simp only [List.take_length]
  clear hXd
  refine WK_loop hm hR1 82000 (lst []) (ι := EnvI env.length)
    ⟨fun q => ⟨frL [(1, .fz (.sl (env.map enc))), (2, .ptr (82002, 0) 0), (4, .ptr (82004, 1) 0), (5, .ptr (82005, m) 0), (14, .fz (.sl (env.map enc))), (15, .fz (.i .i64 env.length)), (16, .fz (.i .i64 q.e))],
      hpL [((82002, 0), some ⟨[.fz (.i .i64 f.kind), .fz (.s f.name.l), .fz (.sl (f.words.map enc)), .fz (.sl (f.subs.map enc))], true, false⟩), ((82004, 1), some ⟨[.fz (.i .i64 0), .fz (.s []), .full [], .full []], true, false⟩),
        ((82005, m), some ⟨[.arr (101024, g) 1 0 u.length], true, false⟩), ((101024, g), some ⟨flatFz ((X q.e).map enc), false, vt⟩)], m + 1 + q.m⟩, fun q => env.length - q.e⟩
    ⟨0, 0, by omega⟩ (by kernel_rfl) ?_ ?_
  · refine Weak_to ?_ ?_ ?_ <;> simp only [go_sem, hX0]
  rintro ⟨e, q, he⟩
  try simp only at he
  rcases Nat.lt_or_ge e env.length with h1 | h1
  · obtain ⟨b, hb⟩ : ∃ b, env[e] = b := ⟨_, rfl⟩
    have hXe1 := hXs e h1
    have hXl1 := hXl e
    rw [hb] at hXe1
    obtain ⟨x, hx⟩ : ∃ x, X e = x := ⟨_, rfl⟩
    rw [hx] at hXl1 hXe1
    repeat' (first | refine rq fun _ => ?_ | simp only [go_sem, h1, hb, hx, getD_map_lt, Tryd.f82])
    refine WK_loop hm hR1 82000 (lst []) (ι := RowI x.length 0)
      ⟨fun p => ⟨frL [(1, .fz (.sl (env.map enc))), (2, .ptr (82002, 0) 0), (4, .ptr (82004, 1) 0), (5, .ptr (82005, m) 0), (7, .ptr (82007, m + 1 + q) 0), (14, .fz (.sl (env.map enc))), (15, .fz (.i .i64 env.length)), (16, .fz (.i .i64 e)),
          (20, .arr (101024, g) 1 0 u.length), (21, .fz (.i .i64 u.length)), (22, .fz (.i .i64 p.i))],
        hpL [((82002, 0), some ⟨[.fz (.i .i64 f.kind), .fz (.s f.name.l), .fz (.sl (f.words.map enc)), .fz (.sl (f.subs.map enc))], true, false⟩), ((82004, 1), some ⟨[.fz (.i .i64 0), .fz (.s []), .full [], .full []], true, false⟩),
          ((82005, m), some ⟨[.arr (101024, g) 1 0 u.length], true, false⟩), ((82007, m + 1 + q), some ⟨[.fz (.s b.fr.l), .fz (.s b.to.l)], true, false⟩),
          ((101024, g), some ⟨flatFz ((half b x p.i).map enc), false, vt⟩)], m + 1 + q + 1⟩, fun p => x.length - p.i⟩
      ⟨0, by omega⟩ (by kernel_rfl) ?_ ?_
    · refine Weak_to ?_ ?_ ?_ <;> simp only [go_sem, half_zero]
    rintro ⟨i, hi⟩
    try simp only at hi
    rcases Nat.lt_or_ge i x.length with h2 | h2
    · have hv0 : vt = false := hvu (by intro e; rw [e] at hXl1; simp only [List.length_nil] at hXl1; omega)
      have hgt := half_get (b := b) h2
      have hi2 : i < u.length := by omega
      obtain ⟨w, hw2⟩ : ∃ w, x[i] = w := ⟨_, rfl⟩
      have hsc := half_succ (b := b) h2
      rw [hw2] at hgt hsc
      have hhl := @half_len b x i
      obtain ⟨y, hy⟩ : ∃ y, half b x i = y := ⟨_, rfl⟩
      rw [hy] at hgt hsc hhl
      have hst : (flatFz (y.map enc)).set i (.fz (.s b.to.l)) = flatFz ((y.set i b.to).map enc) := flat_set (a := b.to)
      by_cases he2 : w.l = b.fr.l
      · have hr : rep1 b w = b.to := by unfold rep1; rw [if_pos (by cases w; cases b; simp only at he2; simp [he2])]
        rw [hr] at hsc
        repeat' (first | refine rq fun _ => ?_ | simp only [go_sem, hi2, hy, hgt, he2, hv0, hst, Tryd.f82])
        refine ⟨⟨i + 1, by omega⟩, by simp only; omega, ?_⟩
        refine Weak_to ?_ ?_ ?_ <;> simp only [go_sem, hsc, hv0]
      · have hr : rep1 b w = w := by unfold rep1; rw [if_neg (fun e => he2 (by rw [e]))]
        rw [hr] at hsc
        repeat' (first | refine rq fun _ => ?_ | simp only [go_sem, hi2, hy, hgt, he2, hv0, Tryd.f82])
        have hkp := half_keep (b := b) h2
        rw [hw2, hy] at hkp
        rw [hkp] at hsc
        refine ⟨⟨i + 1, by omega⟩, by simp only; omega, ?_⟩
        refine Weak_to ?_ ?_ ?_ <;> simp only [go_sem, hsc, hv0]
    · obtain rfl : i = x.length := by omega
      have ha : half b x u.length = x.map (rep1 b) := by rw [← hXl1]; exact half_all
      repeat' (first | refine rq fun _ => ?_ | simp only [go_sem, Nat.lt_irrefl, hXl1, Tryd.f82])
      refine ⟨⟨e + 1, q + 1, by omega⟩, by simp only; omega, ?_⟩
      refine Weak_to ?_ ?_ ?_ <;> simp only [go_sem, hXe1, hXl1, ha]
      all_goals first | done | omega
  · obtain rfl : e = env.length := by omega
    have hrl := replM_len env u
    obtain ⟨r, hr⟩ : ∃ r, replM env u = r := ⟨_, rfl⟩
    rw [hr] at hrl hXe
    have h215 := f106 (used := r) (ga := m + 1 + q) (gb := m) f.size f env 0 (m + 1 + q + 1) (hpL [((82004, 1), some ⟨[.fz (.i .i64 0), .fz (.s []), .full [], .full []], true, false⟩)]) (Nat.le_refl _) hw hfit (by omega) (by omega)
      (by
        have h5 : (r.length + 1) * f.size ≤ 1000001 * 1000 := Nat.mul_le_mul (by omega) hsz
        omega) (by omega) (fun id o ho => by
        simp only [hpL] at ho
        split at ho
        · rename_i e; subst e; simp only; omega
        · cases ho)
    have hcan : (ren (vg r) f env 0).1 = canonM f env := by unfold canonM; rw [hu, hr]
    rw [hcan] at h215
    obtain ⟨c, hc⟩ : ∃ c, canonM f env = c := ⟨_, rfl⟩
    rw [hc] at h215 ⊢
    rw [enc_form (f := f)] at h215
    repeat' (first | refine rq fun _ => ?_ | simp only [go_sem, Nat.lt_irrefl, hXe, Tryd.f82])
    refine WcallK.i (Wcall_hd rfl (Wcall_g (args' := [.fz (.agg [.i .i64 f.kind, .s f.name.l, .sl (f.words.map enc), .sl (f.subs.map enc)]), .fz (enc env), .fn 105 [.ptr (82010, m + 1 + q) 0, .ptr (82005, m) 0]])
      (hl := HHn 0 r (m + 1 + q) m ++ [((82004, 1), some ⟨[.fz (.i .i64 0), .fz (.s []), .full [], .full []], true, false⟩)]) (n' := m + 1 + q + 1) [] [] [((101024, g), r.map enc)] rfl ?_ ?_ ?_ ?_ ?_ ?_))
    case _ => omega
    case _ =>
      simp only [go_sem]
      intro h
      have h9 := hvu2 h
      rw [h9, List.length_nil] at hrl
      rw [List.eq_nil_of_length_eq_zero hrl]
      rfl
    case _ => simp only [go_sem, HHn]; (repeat' (first | omega | rfl | apply And.intro))
    case _ => simp only [go_sem, HHn]; (repeat' (first | omega | rfl | apply And.intro))
    case _ => simp only [go_sem]; (repeat' (first | omega | rfl | apply And.intro))
    rw [hpL_appX]
    refine Wcall_mono h215 ?_
    rintro d' H' n' ⟨rfl, e1, e2, e3⟩
    have b4 := e3 (82004, 1) ⟨[.fz (.i .i64 0), .fz (.s []), .full [], .full []], true, false⟩ (by simp only [go_sem])
    rw [show H' = hpX [] H' from rfl]
    repeat' (first | refine rq fun _ => ?_ | simp only [go_sem, b4, Tryd.f82])

def R3 : Tbl := R2.add 53 (sp3 (fun (f : Abs.Form) (a b : Str) => canonM f [⟨a, b⟩]) fun f _ _ => f.fit = true ∧ f.size ≤ 1000)
attribute [go_sem] R3
theorem dec_bind1 {a b : List UInt8} : dec (α := List Bind) (.sl [.agg [.s a, .s b]]) = [⟨⟨a⟩, ⟨b⟩⟩] := rfl
theorem hR3 : TblOk Tryd.prog GA R3 := by
  refine sp3_ok ok53 hR2 fun f a b hpre _ _ _ => ?_
  have hp : canonPre f [⟨a, b⟩] := ⟨hpre.1, hpre.2, by simp⟩
  refine Wcall_K (N := 13) hm hR2 53000 (lst []) ok53 Tryd.func53 rfl rfl (by simp) (by kernel_rfl) ?_
  repeat' (first | refine rq fun _ => ?_ | refine ReqK.i hp fun _ => ?_ | refine rq fun _ => ?_ | simp only [go_sem, str_eta, dec_bind1, Tryd.f53])
def R4 : Tbl := R3.add 40 (sp1 (fun f : Abs.Form => canonM f []) fun f => f.fit = true ∧ f.size ≤ 1000)
attribute [go_sem] R4
theorem hR4 : TblOk Tryd.prog GA R4 := by
  refine sp1_ok ok40 hR3 fun f hpre _ => ?_
  have hp : canonPre f [] := ⟨hpre.1, hpre.2, by simp⟩
  refine Wcall_K (N := 5) hm hR3 40000 (lst []) ok40 Tryd.func40 rfl rfl (by simp) (by kernel_rfl) ?_
  repeat' (first | refine rq fun _ => ?_ | refine ReqK.i hp fun _ => ?_ | simp only [go_sem, R3, R2, Tryd.f40])
end Go.Proofs.YtdlioodgfopmfaaDoor

namespace Go.Proofs.YtdlioodgfopmfaaDoor
open Go Go.Abs Go.Proofs

section
variable {P : Program} {G : Nat → List FD} {T : Tbl}
theorem sp3_rec {α β γ ρ : Type} [Enc α] [Enc β] [Enc γ] [Enc ρ] {f : FuncId} {g : α → β → γ → ρ} {pre : α → β → γ → Prop} (m : α → Nat) (hc : CallOk P f) (hT : TblOk P G T)
    (h : ∀ n, TblOk P G (T.add f (sp3 g fun a b c => m a < n ∧ pre a b c)) → ∀ a b c, m a = n → pre a b c → (enc a).Wf → (enc b).Wf → (enc c).Wf → Wcall P G f [.fz (enc a), .fz (enc b), .fz (enc c)] (hpL []) 0 (fun d _ _ => D.val d = some (.fz (enc (g a b c))))) : TblOk P G (T.add f (sp3 g pre)) := by
  have key : ∀ n, TblOk P G (T.add f (sp3 g fun a b c => m a < n ∧ pre a b c)) := by
    intro n
    induction n with
    | zero => exact sp3_ok hc hT fun a b c ha => by omega
    | succ n ih =>
      refine sp3_ok hc hT fun a b c ha hw hw2 hw3 => ?_
      rcases Nat.lt_or_ge (m a) n with h1 | h1
      · have h2 := ih f (sp3 g fun a b c => m a < n ∧ pre a b c) [enc a, enc b, enc c] _ _ (by simp [Tbl.add]) (k_sp3) ⟨by rw [dec_enc], by rw [dec_enc], by rw [dec_enc], by rw [dec_enc, dec_enc, dec_enc]; exact ⟨h1, ha.2⟩⟩
        rw [dec_enc, dec_enc, dec_enc, H0_eq] at h2
        exact h2
      · exact h n ih a b c (by omega) ha.2 hw hw2 hw3
  exact sp3_ok hc hT fun a b c ha hw hw2 hw3 => h (m a) (key _) a b c rfl ha hw hw2 hw3
end

def digS (n : Int) : Str := ⟨digits n.toNat⟩
structure DigI (n0 : Nat) where
  n : Nat
  s : List UInt8
  hn : n ≤ n0
  h : digits n0 = digits n ++ s
  hl : s.length ≤ n0 - n
def R5 : Tbl := R4.add 60 (sp1 digS fun n => 0 ≤ n ∧ n ≤ 1000000000000)
attribute [go_sem] R5
end Go.Proofs.YtdlioodgfopmfaaDoor

namespace Go.Proofs.YtdlioodgfopmfaaDoor
open Go Go.Abs Go.Proofs

def twN (l : List Str) (s : Str) : Nat := (l.takeWhile fun x => decide (x.l < s.l)).length
theorem twN_cons {x s : Str} {l : List Str} : twN (x :: l) s = if x.l < s.l then twN l s + 1 else 0 := by
  unfold twN
  by_cases h : x.l < s.l
  · rw [List.takeWhile_cons_of_pos (by simpa using h), if_pos h, List.length_cons]
  · rw [List.takeWhile_cons_of_neg (by simpa using h), if_neg h]; rfl
theorem twN_le (s : Str) : ∀ l : List Str, twN l s ≤ l.length
  | [] => Nat.le_refl _
  | x :: l => by
    rw [twN_cons]
    have := twN_le s l
    split <;> simp only [List.length_cons] <;> omega
theorem twN_lt {s : Str} : ∀ {l : List Str} {i : Nat} (h : i < l.length), i < twN l s → l[i].l < s.l
  | x :: l, 0, _, h2 => by
    rw [twN_cons] at h2
    split at h2
    · assumption
    · omega
  | x :: l, i + 1, h, h2 => by
    rw [twN_cons] at h2
    split at h2
    · exact twN_lt (l := l) (by simpa using h) (by omega)
    · omega
theorem twN_at {s : Str} : ∀ {l : List Str} {i : Nat} (h : i < l.length), i = twN l s → ¬ l[i].l < s.l
  | x :: l, 0, _, h2 => by
    rw [twN_cons] at h2
    split at h2
    · omega
    · assumption
  | x :: l, i + 1, h, h2 => by
    rw [twN_cons] at h2
    split at h2
    · exact twN_at (l := l) (by simpa using h) (by omega)
    · omega
theorem bytesLess_lt : ∀ x y : List UInt8, Op.bytesLess x y = decide (x < y)
  | [], [] => by simp [Op.bytesLess]
  | _ :: _, [] => by simp [Op.bytesLess]
  | [], _ :: _ => by simp [Op.bytesLess]
  | a :: x, b :: y => by
    rw [Op.bytesLess, bytesLess_lt x y]
    by_cases h1 : a < b <;> by_cases h2 : a = b <;> simp [h1, h2, List.cons_lt_cons_iff]
theorem cut_toM {α : Type} [Enc α] {l : List α} {i : Nat} : cutFD (l.map enc) (i : Int) (l.length : Int) = (l.drop i).map enc := by
  have h := @cut_to (l.map enc) i
  rw [List.length_map] at h; rw [h, List.map_drop]
def R6 : Tbl := R5.add 57 (sp2 putR fun l _ => l.length ≤ 1000000)
attribute [go_sem] R6
end Go.Proofs.YtdlioodgfopmfaaDoor

namespace Go.Abs
open Go
def vEq (x d : D) : Prop := x = d ∨ D.val x = some d
def FrV (fr : Nat → D) : List (Nat × D) → Prop
  | [] => True
  | (k, d) :: l => vEq (fr k) d ∧ FrV fr l
@[go_sem] theorem FrV_nil {fr : Nat → D} : FrV fr [] = True := rfl
@[go_sem] theorem FrV_cons {fr : Nat → D} {k : Nat} {d : D} {l : List (Nat × D)} : FrV fr ((k, d) :: l) = (vEq (fr k) d ∧ FrV fr l) := rfl
@[go_sem] theorem vEq_self {d : D} : vEq d d = True := eq_true (.inl rfl)
@[go_sem] theorem vEq_ow {id : Abs.Id} {es : Nat} {xs ys : List FD} : vEq (.ow id es xs) (.fz (.sl ys)) = (xs = ys) := by
  unfold vEq; rw [val_ow]; simp
@[go_sem] theorem vEq_full {xs ys : List FD} : vEq (.full xs) (.fz (.sl ys)) = (xs = ys) := by
  unfold vEq; rw [val_full]; simp
@[go_sem] theorem vEq_fz {x y : FD} : vEq (.fz x) (.fz y) = (x = y) := by
  unfold vEq; rw [val_fz]; simp
theorem FrV.get {fr : Nat → D} : ∀ {l : List (Nat × D)}, FrV fr l → ∀ t, frL l t = fr t ∨ D.val (fr t) = some (frL l t) ∨ frL l t = .junk
  | [], _, _ => .inr (.inr rfl)
  | (k, d) :: l, h, t => by
    simp only [frL]
    split
    · rename_i e; subst e
      rcases h.1 with h1 | h1
      · exact .inl h1.symm
      · exact .inr (.inl h1)
    · exact FrV.get h.2 t
theorem Weak_toV {G : Nat → List FD} {N : Nat} {st : St} {l : List (Nat × D)} (hf : FrV st.fr l) : Weak G N st ⟨frL l, st.H, st.n⟩ := by
  intro a w L F hr
  refine ⟨L, F, ⟨hr.ok, hr.size, fun t => ?_, hr.nd⟩, Step.refl _ _ _ _ _⟩
  have := hr.fr t
  simp only
  rcases hf.get t with e | e | e
  · rw [e]; exact this
  · exact this.val e
  · rw [e]; exact trivial
end Go.Abs
namespace Go.Abs
open Go
theorem cstR_eq {f : Abs.Form} {bd l : List Str} : cstR f bd l = cstsR f.subs (if isQ f.kind then bd ++ [f.name] else bd) (f.words.foldl (fun l w => if w ∈ bd then l else putR l w) l) := by cases f; rw [cstR]; rfl
mutual
theorem cstR_len : ∀ (f : Abs.Form) (bd l : List Str), f.fit = true → (cstR f bd l).length ≤ l.length + 1000 * f.size
  | .mk k nm ws s, bd, l, h => by
    rw [Form.fit] at h
    simp only [Bool.and_eq_true, decide_eq_true_eq] at h
    rw [cstR, Form.size]
    have h1 := cstsR_len s (if isQ k then bd ++ [nm] else bd) (ws.foldl (fun l w => if w ∈ bd then l else putR l w) l) h.2
    have h2 := foldR_len bd ws l
    omega
theorem cstsR_len : ∀ (fs : List Abs.Form) (bd l : List Str), Form.fits fs = true → (cstsR fs bd l).length ≤ l.length + 1000 * Form.sizes fs
  | [], _, l, _ => by rw [cstsR]; omega
  | f :: fs, bd, l, h => by
    rw [Form.fits, Bool.and_eq_true] at h
    rw [cstsR, Form.sizes]
    have h1 := cstR_len f bd l h.1
    have h2 := cstsR_len fs bd (cstR f bd l) h.2
    omega
end
theorem fits_take : ∀ {fs : List Abs.Form} (j : Nat), Form.fits fs = true → Form.fits (fs.take j) = true
  | [], j, _ => by rw [List.take_nil, Form.fits]
  | f :: fs, 0, _ => by rw [List.take_zero, Form.fits]
  | f :: fs, j + 1, h => by
    rw [Form.fits, Bool.and_eq_true] at h
    rw [List.take_succ_cons, Form.fits, Bool.and_eq_true]
    exact ⟨h.1, fits_take j h.2⟩
end Go.Abs
namespace Go.Proofs.YtdlioodgfopmfaaDoor
open Go Go.Abs Go.Proofs

def treeCst : Tv := (.q 0 (.q 1 (.q 3 (.r 4 (.q 5 (.br [(2, (.br [(6, (.q 7 .leaf))]))]))))))
def conPre (f : Abs.Form) (bd l : List Str) : Prop := f.fit = true ∧ bd.length + f.size ≤ 2000 ∧ l.length + 1000 * f.size ≤ 1000000
def R7 : Tbl := R6.add 90 (sp3 cstR conPre)
attribute [go_sem] R7
def R8 : Tbl := R7.add 56 (sp1 (fun f => cstR f [] []) fun f => f.fit = true ∧ f.size ≤ 1000)
attribute [go_sem] R8
end Go.Proofs.YtdlioodgfopmfaaDoor

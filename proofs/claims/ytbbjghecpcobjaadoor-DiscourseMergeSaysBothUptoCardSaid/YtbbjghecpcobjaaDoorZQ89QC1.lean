/- several texts of this proof in one; no conditions -/
import Derived.Test.YtbbjghecpcobjaaDoorAT
import Derived.Test.YtbbjghecpcobjaaDoorY5
import Derived.Test.YtbbjghecpcobjaaDoorY3
import Derived.Test.YtbbjghecpcobjaaDoorVP
import Derived.Test.YtbbjghecpcobjaaDoorAbs46
import Derived.Test.YtbbjghecpcobjaaDoorAL
set_option linter.unusedSimpArgs false
namespace Go.Proofs.YtbbjghecpcobjaaDoor
open Go Go.Abs Go.Proofs

/-! ## truth.Holds, beside the package plural -/
def C1 : Tbl := Tbl.or R25 (Tbl.or R28 A21)
attribute [go_sem] C1
theorem hC1 : TblOk Tryd.prog GA C1 := TblOk_or hR25 (TblOk_or hR28 hA21)
def holdsP (m : Model) (f : Abs.Form) : Bool × Fault := if (modelM m).code ≠ 0 then (false, modelM m) else if (checkM false f).code ≠ 0 then (false, checkM false f) else if (truthE m f).code ≠ 0 then (false, truthE m f) else (valM m f [], ⟨0, 0⟩)
theorem flP_ok {m : Model} {f : Abs.Form} (hm : mval m) (h : (checkM false f).code = 0) : flP m f := by
  have h1 := checkM_fit h
  have h2 := checkM_size h
  have := cst_len h1 []
  exact ⟨hm.c, hm.r, ⟨h1, by omega⟩, by omega⟩
theorem truthE_zero {m : Model} {f : Abs.Form} (h : (truthE m f).code = 0) : truthE m f = ⟨0, 0⟩ := by
  unfold truthE at h ⊢
  split at h
  · exact absurd h (by decide)
  · rename_i h1
    split at h
    · exact absurd h (by decide)
    · rename_i h2; rw [if_neg h1, if_neg h2]
theorem holds_ok {m : Model} {f : Abs.Form} (h1 : (modelM m).code = 0) (h2 : (checkM false f).code = 0) (h3 : (truthE m f).code = 0) : holdsP m f = (valM m f [], ⟨0, 0⟩) := by
  unfold holdsP
  rw [if_neg (by simp [h1]), if_neg (by simp [h2]), if_neg (by simp [h3])]
theorem holds_inv {m : Model} {f : Abs.Form} {b : Bool} {e : Fault} (h : holdsP m f = (b, e)) (he : e.code = 0) : (modelM m).code = 0 ∧ (checkM false f).code = 0 ∧ (truthE m f).code = 0 ∧ b = valM m f [] ∧ e = ⟨0, 0⟩ := by
  unfold holdsP at h
  split at h
  · rename_i h1; obtain ⟨rfl, rfl⟩ := Prod.mk.inj h; exact absurd he h1
  · rename_i h1
    split at h
    · rename_i h2; obtain ⟨rfl, rfl⟩ := Prod.mk.inj h; exact absurd he h2
    · rename_i h2
      split at h
      · rename_i h3; obtain ⟨rfl, rfl⟩ := Prod.mk.inj h; exact absurd he h3
      · rename_i h3
        obtain ⟨rfl, rfl⟩ := Prod.mk.inj h
        exact ⟨Decidable.not_not.1 h1, Decidable.not_not.1 h2, Decidable.not_not.1 h3, rfl, rfl⟩
def C2 : Tbl := C1.add 28 (sp2p holdsP fun _ _ => True)
attribute [go_sem] C2
set_option maxRecDepth 100000 in
set_option maxHeartbeats 1000000 in
set_option maxHeartbeats 4000000 in
theorem hC2 : TblOk Tryd.prog GA C2 := by
  refine sp2p_ok ok28 hC1 fun m f _ _ _ => ?_
  by_cases h1 : (modelM m).code = 0
  rotate_left
  · have e : holdsP m f = (false, modelM m) := by unfold holdsP; rw [if_pos h1]
    obtain ⟨X, hX⟩ : ∃ X, modelM m = X := ⟨_, rfl⟩
    rw [hX] at e h1
    rw [e]
    refine Wcall_K (N := 32) hm hC1 28000 (lst []) ok28 Tryd.func28 rfl rfl (by simp) (by kernel_rfl) ?_
    repeat' (first | refine rq fun _ => ?_ | simp only [go_sem, h1, hX, model_eta, form_eta, Tryd.f28])
  have hmv := (modelM_good h1).v
  have hmz := modelM_zero h1
  by_cases h2 : (checkM false f).code = 0
  rotate_left
  · have e : holdsP m f = (false, checkM false f) := by unfold holdsP; rw [if_neg (by simp [h1]), if_pos h2]
    obtain ⟨X, hX⟩ : ∃ X, checkM false f = X := ⟨_, rfl⟩
    rw [hX] at e h2
    rw [e]
    refine Wcall_K (N := 32) hm hC1 28000 (lst []) ok28 Tryd.func28 rfl rfl (by simp) (by kernel_rfl) ?_
    repeat' (first | refine rq fun _ => ?_ | simp only [go_sem, hmz, h2, hX, model_eta, form_eta, Tryd.f28])
  have hck := checkM_code h2
  have hfl := flP_ok hmv h2
  have hvp := vsP_val (vsP_ok hmv h2) [] (by simp)
  by_cases h3 : (truthE m f).code = 0
  rotate_left
  · have e : holdsP m f = (false, truthE m f) := by unfold holdsP; rw [if_neg (by simp [h1]), if_neg (by simp [h2]), if_pos h3]
    obtain ⟨X, hX⟩ : ∃ X, truthE m f = X := ⟨_, rfl⟩
    rw [hX] at e h3
    rw [e]
    refine Wcall_K (N := 32) hm hC1 28000 (lst []) ok28 Tryd.func28 rfl rfl (by simp) (by kernel_rfl) ?_
    repeat' (first | refine ReqK.i hfl fun _ => ?_ | refine rq fun _ => ?_ | simp only [go_sem, hmz, hck, h3, hX, model_eta, form_eta, Tryd.f28])
  have htz := truthE_zero h3
  rw [holds_ok h1 h2 h3]
  obtain ⟨b, hb⟩ : ∃ b, valM m f [] = b := ⟨_, rfl⟩
  rw [hb]
  refine Wcall_K (N := 32) hm hC1 28000 (lst []) ok28 Tryd.func28 rfl rfl (by simp) (by kernel_rfl) ?_
  repeat' (first | refine ReqK.i hfl fun _ => ?_ | refine ReqK.i hvp fun _ => ?_ | refine rq fun _ => ?_ | simp only [go_sem, hmz, hck, htz, hb, dec_sl_nil, model_eta, form_eta, Tryd.f28])
def sPD : Str := ⟨[100, 111, 103]⟩
def sPX : Str := ⟨[120]⟩
def sPK : Str := ⟨[107, 105, 109]⟩
def sPL : Str := ⟨[108, 101, 101]⟩
def sPS : Str := ⟨[115, 101, 101]⟩
def fPX : Abs.Form := predM sPD [sPX]
def fPK : Abs.Form := predM sPD [sPK]
/-! ## the law PluralEachIsTrueOfEach -/
def tree1314 : Tv := (.q 0 (.q 1 (.q 2 (.q 3 (.q 4 (.q 5 (.q 6 (.q 7 (.q 8 (.q 9 (.q 10 (.br [(11, (.br [(12, (.br [(13, (.br [(14, .leaf)]))]))])), (12, (.br [(11, (.br [(13, (.br [(14, .leaf)]))]))]))]))))))))))))
end Go.Proofs.YtbbjghecpcobjaaDoor

namespace Go.Abs
open Go

/-! ## that there are at least so many, in a model -/
theorem val_some (m : Model) (nm : Str) (c : Form) (ev : List Const) : valM m (.mk 9 nm [] [c]) ev = (indiv m).any fun x => valM m c (ev ++ [⟨nm, x⟩]) := by
  rw [valM]
  simp only [reduceIte, show ¬ ((9 : Int) = 1) by decide, show ¬ ((9 : Int) = 2) by decide, show ¬ ((9 : Int) = 3) by decide, show ¬ ((9 : Int) = 4) by decide, show ¬ ((9 : Int) = 5) by decide, show ¬ ((9 : Int) = 6) by decide, show ¬ ((9 : Int) = 7) by decide, show ¬ ((9 : Int) = 8) by decide, if_false]
  rfl
theorem val_same (m : Model) (a b : Str) (ev : List Const) : valM m (.mk 3 ⟨[]⟩ [a, b] []) ev = decide (wordV m ev a = wordV m ev b) := by
  rw [valM]
  simp only [reduceIte, show ¬ ((3 : Int) = 1) by decide, show ¬ ((3 : Int) = 2) by decide, if_false]
  rfl
def bndsN (v : Nat → Str) (g : Nat → Int) (n : Nat) : List Const := (List.range n).map fun i => ⟨v i, g i⟩
theorem bnds_succ (v : Nat → Str) (g : Nat → Int) (n : Nat) : bndsN v g (n + 1) = bndsN v g n ++ [⟨v n, g n⟩] := by
  unfold bndsN; rw [List.range_succ, List.map_append]; rfl
theorem bnds_congr {v : Nat → Str} {g h : Nat → Int} {n : Nat} (e : ∀ i, i < n → g i = h i) : bndsN v g n = bndsN v h n := by
  unfold bndsN
  refine List.map_congr_left fun i hi => ?_
  rw [e i (List.mem_range.1 hi)]
theorem wrap_val (m : Model) (v : Nat → Str) : ∀ (n : Nat) (c : Form) (ev : List Const), valM m (wrap v n c) ev = true ↔ ∃ g : Nat → Int, (∀ i, i < n → g i ∈ indiv m) ∧ valM m c (ev ++ bndsN v g n) = true
  | 0, c, ev => by
    rw [wrap]
    refine ⟨fun h => ⟨fun _ => 0, fun i hi => absurd hi (by omega), ?_⟩, fun ⟨g, _, h⟩ => ?_⟩
    · show valM m c (ev ++ []) = true
      rw [List.append_nil]; exact h
    · have h : valM m c (ev ++ []) = true := h
      rw [List.append_nil] at h; exact h
  | n + 1, c, ev => by
    rw [wrap, wrap_val m v n]
    refine ⟨fun ⟨g, h1, h2⟩ => ?_, fun ⟨g, h1, h2⟩ => ⟨g, fun i hi => h1 i (by omega), ?_⟩⟩
    · rw [val_some, List.any_eq_true] at h2
      obtain ⟨x, hx, h2⟩ := h2
      refine ⟨fun i => if i = n then x else g i, fun i hi => ?_, ?_⟩
      · by_cases h : i = n
        · simp only [if_pos h]; exact hx
        · simp only [if_neg h]; exact h1 i (by omega)
      · rw [bnds_succ, if_pos rfl, bnds_congr (h := g) (fun i hi => if_neg (by omega)), ← List.append_assoc]
        exact h2
    · rw [val_some, List.any_eq_true]
      refine ⟨g n, h1 n (by omega), ?_⟩
      rw [bnds_succ, ← List.append_assoc] at h2
      exact h2
theorem bnds_out {m : Model} {v : Nat → Str} {g : Nat → Int} {w : Str} : ∀ {n : Nat}, (∀ i, i < n → v i ≠ w) → wordV m (bndsN v g n) w = constV m w
  | 0, _ => rfl
  | n + 1, h => by rw [bnds_succ, wordV_snoc, if_neg (h n (by omega)), bnds_out fun i hi => h i (by omega)]
theorem bnds_in {m : Model} {v : Nat → Str} {g : Nat → Int} (hv : ∀ i j, v i = v j → i = j) {i : Nat} : ∀ {n : Nat}, i < n → wordV m (bndsN v g n) (v i) = g i
  | 0, h => absurd h (by omega)
  | n + 1, h => by
    rw [bnds_succ, wordV_snoc]
    by_cases e : v n = v i
    · rw [if_pos e, hv _ _ e]
    · rw [if_neg e, bnds_in hv (by have : i ≠ n := fun h => e (by rw [h]); omega)]
theorem qn_inj (i j : Nat) (h : qn i = qn j) : i = j := by
  have : vnum i = vnum j := by
    unfold vnum
    unfold qn at h
    injection h with h
    injection h with _ h
    rw [h]
  exact vnum_inj this
/-- a formula with a new name in the place of a word, where the name stands for an individual -/
theorem put_valG {m : Model} {f : Form} {nm g : Str} {x : Int} {ev : List Const} (hv : vok f) (h1 : wordV m ev g = x) (h2 : ∀ w ∈ cst f [], wordV m ev w = constV m w) : valM m (canonM f [⟨nm, g⟩]) ev = valM m f [⟨nm, x⟩] := by
  refine ren_val m (U := usedM f) f [⟨nm, g⟩] [] 0 [⟨nm, x⟩] ev hv (fun w hw => ?_) fun x hx => (mem_usedM f x).2 hx
  have e : lkp [⟨nm, g⟩] w = if nm = w then g else w := by
    have := lkp_snoc [] ⟨nm, g⟩ w
    rw [List.nil_append, lkp_nil] at this
    exact this
  rw [e, show ([⟨nm, x⟩] : List Const) = [] ++ [⟨nm, x⟩] from rfl, wordV_snoc]
  rcases hw with h | h
  · simp at h
  refine ⟨?_, .inl ?_⟩
  · by_cases h : nm = w
    · rw [if_pos h, if_pos h, h1]
    · rw [if_neg h, if_neg h, h2 w ((mem_usedM f w).1 ‹_›)]; rfl
  · rw [repl_look (by simp), ← e]
    exact List.mem_map_of_mem h
theorem diffs_all {m : Model} {v : Nat → Str} {n : Nat} {ev : List Const} : ((diffs v n).all fun g => valM m g ev) = true ↔ ∀ i k, i < k → k < n → wordV m ev (v i) ≠ wordV m ev (v k) := by
  rw [List.all_eq_true]
  unfold diffs
  refine ⟨fun h i k hik hk => ?_, fun h g hg => ?_⟩
  · have := h (.mk 4 ⟨[]⟩ [] [.mk 3 ⟨[]⟩ [v i, v k] []]) (List.mem_flatMap.2 ⟨i, List.mem_range.2 (by omega), List.mem_map.2 ⟨k, List.mem_range'_1.2 ⟨by omega, by omega⟩, rfl⟩⟩)
    rw [val_not, val_same] at this
    simpa using this
  · obtain ⟨i, hi, hg⟩ := List.mem_flatMap.1 hg
    obtain ⟨k, hk, rfl⟩ := List.mem_map.1 hg
    have hi := List.mem_range.1 hi
    have hk := List.mem_range'_1.1 hk
    rw [val_not, val_same]
    simpa using h i k (by omega) (by omega)
theorem least_ne {f : Form} {name : Str} {n : Nat} (hn : n ≠ 0) : ((List.range n).map (fun i => canonM f [⟨name, qn i⟩]) ++ diffs qn n) ≠ [] := by
  cases n with
  | zero => exact absurd rfl hn
  | succ n => simp [List.range_succ]
theorem least_val {m : Model} {f : Form} {name : Str} (hc : (checkM false f).code = 0) (n : Nat) : valM m (leastP f name n) [] = true ↔ ∃ g : Nat → Int, (∀ i, i < n → g i ∈ indiv m) ∧ (∀ i, i < n → valM m f [⟨name, g i⟩] = true) ∧ ∀ i k, i < k → k < n → g i ≠ g k := by
  have hv := checkM_vok hc
  unfold leastP leastG
  by_cases hn : n = 0
  · rw [if_pos hn]
    refine ⟨fun _ => ⟨fun _ => 0, fun i hi => absurd hi (by omega), fun i hi => absurd hi (by omega), fun i k h1 h2 => absurd h2 (by omega)⟩, fun _ => ?_⟩
    rw [valM, if_pos rfl]
  rw [if_neg hn, wrap_val]
  have key : ∀ g : Nat → Int, valM m (joinM 5 ((List.range n).map (fun i => canonM f [⟨name, qn i⟩]) ++ diffs qn n)) ([] ++ bndsN qn g n) = true ↔ (∀ i, i < n → valM m f [⟨name, g i⟩] = true) ∧ ∀ i k, i < k → k < n → g i ≠ g k := fun g => by
    rw [List.nil_append, join_and (least_ne hn), List.all_append, Bool.and_eq_true, diffs_all, List.all_map]
    refine and_congr ?_ ?_
    · have hp : ∀ i, i < n → valM m (canonM f [⟨name, qn i⟩]) (bndsN qn g n) = valM m f [⟨name, g i⟩] := fun i hi => put_valG hv (bnds_in qn_inj hi) fun w hw => bnds_out fun j _ e => by
        have := cst_names' hc [] w hw
        rw [← e] at this
        have h9 : isName (qn j) = false := by unfold isName; rw [decide_eq_false_iff_not]; exact fun h => absurd (show lowc 63 from h.2.2.1) (by decide)
        rw [h9] at this; cases this
      rw [List.all_eq_true]
      refine ⟨fun h i hi => ?_, fun h i hi => ?_⟩
      · rw [← hp i hi]; exact h i (List.mem_range.2 hi)
      · have hi := List.mem_range.1 hi
        show valM m (canonM f [⟨name, qn i⟩]) (bndsN qn g n) = true
        rw [hp i hi]; exact h i hi
    · refine ⟨fun h i k h1 h2 => ?_, fun h i k h1 h2 => ?_⟩
      · have := h i k h1 h2
        rwa [bnds_in qn_inj (by omega), bnds_in qn_inj h2] at this
      · rw [bnds_in qn_inj (by omega), bnds_in qn_inj h2]
        exact h i k h1 h2
  exact ⟨fun ⟨g, h1, h2⟩ => ⟨g, h1, (key g).1 h2⟩, fun ⟨g, h1, h2⟩ => ⟨g, h1, (key g).2 h2⟩⟩
theorem nodup_sub : ∀ {a b : List Int}, a.Pairwise (· ≠ ·) → (∀ x ∈ a, x ∈ b) → a.length ≤ b.length
  | [], _, _, _ => by simp
  | x :: a, b, h, hs => by
    have hx := hs x (by simp)
    have h2 := List.pairwise_cons.1 h
    have := nodup_sub (b := b.erase x) h2.2 fun y hy => (List.mem_erase_of_ne (h2.1 y hy).symm).2 (hs y (List.mem_cons_of_mem _ hy))
    rw [List.length_erase_of_mem hx] at this
    have := List.length_pos_of_mem hx
    rw [List.length_cons]; omega
theorem indiv_nodup (m : Model) : (indiv m).Pairwise (· ≠ ·) := by
  unfold indiv
  rw [List.pairwise_map]
  refine List.Pairwise.imp (fun h => ?_) List.pairwise_lt_range
  intro e
  have : _ = _ := Int.ofNat.inj e
  omega
theorem gD_lt {l : List Int} {i : Nat} (h : i < l.length) : l.getD i 0 = l[i] := by simp [List.getD_eq_getElem?_getD, h]
theorem many_iff {l : List Int} {P : Int → Bool} (hl : l.Pairwise (· ≠ ·)) (n : Nat) : (∃ g : Nat → Int, (∀ i, i < n → g i ∈ l) ∧ (∀ i, i < n → P (g i) = true) ∧ ∀ i k, i < k → k < n → g i ≠ g k) ↔ n ≤ (l.filter P).length := by
  refine ⟨fun ⟨g, h1, h2, h3⟩ => ?_, fun h => ?_⟩
  · have := nodup_sub (a := (List.range n).map g) (b := l.filter P) ?_ ?_
    · rwa [List.length_map, List.length_range] at this
    · rw [List.pairwise_map]
      refine List.pairwise_iff_getElem.2 fun i j hi hj hij => ?_
      rw [List.getElem_range, List.getElem_range]
      exact h3 i j hij (by simpa using hj)
    · intro x hx
      obtain ⟨i, hi, rfl⟩ := List.mem_map.1 hx
      have hi := List.mem_range.1 hi
      exact List.mem_filter.2 ⟨h1 i hi, h2 i hi⟩
  · have hp : (l.filter P).Pairwise (· ≠ ·) := hl.filter _
    have hg : ∀ i, i < n → (l.filter P).getD i 0 ∈ l.filter P := fun i hi => by
      rw [gD_lt (by omega)]; exact List.getElem_mem _
    refine ⟨fun i => (l.filter P).getD i 0, fun i hi => (List.mem_filter.1 (hg i hi)).1, fun i hi => (List.mem_filter.1 (hg i hi)).2, fun i k h1 h2 => ?_⟩
    show (l.filter P).getD i 0 ≠ (l.filter P).getD k 0
    rw [gD_lt (by omega), gD_lt (by omega)]
    exact List.pairwise_iff_getElem.1 hp i k (by omega) (by omega) h1
/-- at least n is true just if n are counted -/
theorem least_count {m : Model} {f : Form} {name : Str} (hc : (checkM false f).code = 0) (n : Nat) : valM m (leastP f name n) [] = decide (n ≤ ((indiv m).filter fun v => valM m f [⟨name, v⟩]).length) := by
  rw [Bool.eq_iff_iff, least_val hc, decide_eq_true_iff]
  exact many_iff (P := fun v => valM m f [⟨name, v⟩]) (indiv_nodup m) n
theorem wrap_vok (v : Nat → Str) : ∀ (n : Nat) (c : Form), vok c → vok (wrap v n c)
  | 0, c, h => h
  | n + 1, c, h => by
    rw [wrap]
    refine wrap_vok v n _ ?_
    rw [vok, voks, voks]
    exact ⟨by decide, by decide, fun e => absurd e (by decide), fun e => absurd e (by decide), fun _ => rfl, fun e => by omega, h, trivial⟩
theorem least_vok {f : Form} {name : Str} (hc : (checkM false f).code = 0) (n : Nat) : vok (leastP f name n) := by
  have hv := checkM_vok hc
  unfold leastP leastG
  by_cases hn : n = 0
  · rw [if_pos hn, vok, voks]
    exact ⟨by decide, by decide, fun e => absurd e (by decide), fun e => absurd e (by decide), fun e => by omega, fun e => by omega, trivial⟩
  rw [if_neg hn]
  refine wrap_vok _ _ _ (join_vok (.inl rfl) (least_ne hn) fun g hg => ?_)
  rcases List.mem_append.1 hg with hg | hg
  · obtain ⟨i, _, rfl⟩ := List.mem_map.1 hg; exact canon_vok hv
  · obtain ⟨i, _, hg⟩ := List.mem_flatMap.1 hg
    obtain ⟨k, _, rfl⟩ := List.mem_map.1 hg
    rw [vok, voks, voks, vok, voks]
    exact ⟨by decide, by decide, fun e => absurd e (by decide), fun e => absurd e (by decide), fun _ => rfl, fun e => by omega, ⟨by decide, by decide, fun e => absurd e (by decide), fun _ => rfl, fun e => by omega, fun e => by omega, trivial⟩, trivial⟩
theorem not_vok {f : Form} (h : vok f) : vok (.mk 4 ⟨[]⟩ [] [f]) := by
  rw [vok, voks, voks]
  exact ⟨by decide, by decide, fun e => absurd e (by decide), fun e => absurd e (by decide), fun _ => rfl, fun e => by omega, h, trivial⟩
theorem and_vok {f g : Form} (h : vok f) (h2 : vok g) : vok (.mk 5 ⟨[]⟩ [] [f, g]) := by
  rw [vok, voks, voks, voks]
  exact ⟨by decide, by decide, fun e => absurd e (by decide), fun e => absurd e (by decide), fun e => by omega, fun _ => rfl, h, h2, trivial⟩
end Go.Abs

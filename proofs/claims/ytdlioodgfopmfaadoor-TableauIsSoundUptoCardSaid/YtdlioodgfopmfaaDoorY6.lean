/- several texts of this proof in one; no conditions -/
import Derived.Test.YtdlioodgfopmfaaDoorAT
import Derived.Test.YtdlioodgfopmfaaDoorFacts
import Derived.Test.YtdlioodgfopmfaaDoorY5
import Derived.Test.YtdlioodgfopmfaaDoorY0
set_option maxRecDepth 100000
set_option maxHeartbeats 1000000
set_option linter.unusedSimpArgs false
namespace Go.Proofs.YtdlioodgfopmfaaDoor
open Go Go.Abs Go.Proofs

def G0 : Nat → List FD := fun _ => []

def Q1 : Tbl := Tbl0
attribute [go_sem] Q1
theorem hQ1 : TblOk Tryd.prog G0 Q1 := TblOk_0
def Q2 : Tbl := Q1.add 27 (sp2 (fun (l : List Str) (s : Str) => decide (s ∈ l)) fun _ _ => True)
attribute [go_sem] Q2
theorem hQ2 : TblOk Tryd.prog G0 Q2 := by
  refine sp2_ok ok27 hQ1 fun l s _ ha hb => ?_
  have la := Wf_sl ha
  simp only [List.length_map, maxL] at la
  refine Wcall_K (N := 17) hm hQ1 27000 (lst []) ok27 Tryd.func27 rfl rfl (by simp) (by kernel_rfl) ?_
  simp only [go_sem]
  refine WK_loop hm hQ1 27000 (lst []) (ι := LoopI l.length fun i => s ∉ l.take i) ⟨fun i => ⟨frL [(0, .fz (enc l)), (1, .fz (enc s)), (7, .fz (enc l)), (8, .fz (.i .i64 l.length)), (9, .fz (.i .i64 i.i))], hpL [], 0⟩, fun i => l.length - i.i⟩ ⟨0, by simp, by simp⟩ (by kernel_rfl) ?_ ?_
  · refine Weak_to ?_ ?_ ?_ <;> simp only [go_sem]
  · intro i
    have hi := i.hi
    simp only [go_sem]
    refine CondK.d (fun h2 => ?_) (fun h2 => ?_)
    · simp only [go_sem, h2, getD_map_lt]
      refine CondK.d (fun h4 => ?_) (fun h4 => ?_)
      · have hin : s ∈ l := h4 ▸ List.getElem_mem h2
        simp only [go_sem, Tryd.f27, hin]
      · simp only [go_sem]
        refine ReqK.i (by omega) fun _ => ?_
        simp only [go_sem]
        refine ⟨⟨i.i + 1, by omega, notin_succ h2 i.hp h4⟩, by simp only; omega, ?_⟩
        refine Weak_to ?_ ?_ ?_ <;> simp only [go_sem]
    · simp only [go_sem, Tryd.f27, notin_all h2 i.hp]

def Q3 : Tbl := Q2.add 88 (sp2 idx fun _ _ => True)
attribute [go_sem] Q3
theorem hQ3 : TblOk Tryd.prog G0 Q3 := by
  refine sp2_ok ok88 hQ2 fun l s _ ha hb => ?_
  have la := Wf_sl ha
  simp only [List.length_map, maxL] at la
  refine Wcall_K (N := 19) hm hQ2 88000 (lst []) ok88 Tryd.func88 rfl rfl (by simp) (by kernel_rfl) ?_
  simp only [go_sem]
  refine WK_loop hm hQ2 88000 (lst []) (ι := LoopI l.length fun i => s ∉ l.take i) ⟨fun i => ⟨frL [(0, .fz (enc l)), (1, .fz (enc s)), (7, .fz (.i .i64 l.length)), (8, .fz (.i .i64 i.i))], hpL [], 0⟩, fun i => l.length - i.i⟩ ⟨0, by simp, by simp⟩ (by kernel_rfl) ?_ ?_
  · refine Weak_to ?_ ?_ ?_ <;> simp only [go_sem]
  · intro i
    have hi := i.hi
    simp only [go_sem]
    refine CondK.d (fun h2 => ?_) (fun h2 => ?_)
    · simp only [go_sem, h2, getD_map_lt]
      refine CondK.d (fun h4 => ?_) (fun h4 => ?_)
      · have hin : s ∈ l := h4 ▸ List.getElem_mem h2
        have e : idx l s = i.i := by
          unfold idx
          rw [if_pos hin, idx_at (l := l) h2 i.hp h4.symm]
        simp only [go_sem, Tryd.f88, e]
      · simp only [go_sem]
        refine ReqK.i (by omega) fun _ => ?_
        simp only [go_sem]
        refine ⟨⟨i.i + 1, by omega, notin_succ h2 i.hp fun e => h4 e.symm⟩, by simp only; omega, ?_⟩
        refine Weak_to ?_ ?_ ?_ <;> simp only [go_sem]
    · have e : idx l s = -1 := by
        unfold idx
        rw [if_neg (notin_all h2 i.hp)]
      simp only [go_sem, Tryd.f88, e]

def Q4 : Tbl := Q3.add 52 (sp2 (fun (l : List Str) (s : Str) => decide (s ∈ l)) fun _ _ => True)
attribute [go_sem] Q4
theorem hQ4 : TblOk Tryd.prog G0 Q4 := by
  refine sp2_ok ok52 hQ3 fun l s _ ha hb => ?_
  refine Wcall_K (N := 9) hm hQ3 52000 (lst []) ok52 Tryd.func52 rfl rfl (by simp) (by kernel_rfl) ?_
  have e : decide (0 ≤ idx l s) = decide (s ∈ l) := by
    unfold idx
    split <;> rename_i h <;> simp [h]
  simp only [go_sem, Q3, Tryd.f52, e]

def Q5 : Tbl := Q4.add 49 (sp1 isName fun _ => True)
attribute [go_sem] Q5
theorem hQ5 : TblOk Tryd.prog G0 Q5 := by
  refine sp1_ok ok49 hQ4 fun s _ hs => ?_
  have ls := Wf_s hs
  simp only [maxL] at ls
  refine Wcall_K (N := 55) hm hQ4 49000 (lst []) ok49 Tryd.func49 rfl rfl (by simp) (by kernel_rfl) ?_
  simp only [go_sem]
  repeat' (first | refine CondK.d (fun _ => ?_) (fun _ => ?_) | refine rq fun _ => ?_ | simp only [go_sem, Tryd.f49, *])
  · rw [name_false (by unfold lowc; omega)]
  · rw [name_false (by unfold lowc; omega)]
  · rw [name_false (by unfold lowc; omega)]
  · rw [name_false (by unfold lowc; omega)]
  · refine WK_loop hm hQ4 49000 (lst []) (ι := LoopI s.l.length fun i => ∀ j, j < i → okc (s.l.getD j 0)) ⟨fun i => ⟨frL [(0, .fz (enc s)), (24, .fz (.i .i64 s.l.length)), (25, .fz (.i .i64 i.i))], hpL [], 0⟩, fun i => s.l.length - i.i⟩ ⟨0, by simp, by simp⟩ (by kernel_rfl) ?_ ?_
    · refine Weak_to ?_ ?_ ?_ <;> simp only [go_sem]
    · intro i
      have hi := i.hi
      have hp := i.hp
      simp only [go_sem]
      refine CondK.d (fun h2 => ?_) (fun h2 => ?_)
      · repeat' (first | refine CondK.d (fun _ => ?_) (fun _ => ?_) | refine rq fun _ => ?_ | simp only [go_sem, Tryd.f49, *])
        all_goals first
          | rw [name_bad h2 (by unfold okc lowc; omega)]
          | (refine ⟨⟨i.i + 1, by omega, all_succ' hp (by unfold okc lowc; omega)⟩, by simp only; omega, ?_⟩
             refine Weak_to ?_ ?_ ?_ <;> simp only [go_sem])
      · simp only [go_sem, Tryd.f49]
        rw [name_good (by omega) (by omega) (by unfold lowc; omega) fun j hj => hp j (by omega)]

def Q6 : Tbl := Q5.add 26 (sp1 isName fun _ => True)
attribute [go_sem] Q6
theorem hQ6 : TblOk Tryd.prog G0 Q6 := by
  refine sp1_ok ok26 hQ5 fun s _ hs => ?_
  have ls := Wf_s hs
  simp only [maxL] at ls
  refine Wcall_K (N := 62) hm hQ5 26000 (lst []) ok26 Tryd.func26 rfl rfl (by simp) (by kernel_rfl) ?_
  simp only [go_sem]
  repeat' (first | refine CondK.d (fun _ => ?_) (fun _ => ?_) | refine rq fun _ => ?_ | simp only [go_sem, Tryd.f26, *])
  · rw [name_false (by unfold lowc; omega)]
  · rw [name_false (by unfold lowc; omega)]
  · refine WK_loop hm hQ5 26000 (lst []) (ι := LoopI s.l.length fun i => (∀ j, j < i → okc (s.l.getD j 0)) ∧ (0 < i → lowc (s.l.getD 0 0))) ⟨fun i => ⟨frL [(0, .fz (enc s)), (3, .fz (.i .i64 i.i))], hpL [], 0⟩, fun i => s.l.length - i.i⟩ ⟨0, by simp, by simp⟩ (by kernel_rfl) ?_ ?_
    · refine Weak_to ?_ ?_ ?_ <;> simp only [go_sem]
    · intro i
      have hi := i.hi
      have hp := i.hp.1
      have hz := i.hp.2
      simp only [go_sem]
      refine CondK.d (fun h2 => ?_) (fun h2 => ?_)
      · repeat' (first | refine CondK.d (fun _ => ?_) (fun _ => ?_) | refine rq fun _ => ?_ | simp only [go_sem, Tryd.f26, *])
        all_goals first
          | rw [name_zero (s := s) (j := i.i) (by omega) (by unfold lowc; omega)]
          | rw [name_bad h2 (by unfold okc lowc; omega)]
          | (refine ⟨⟨i.i + 1, by omega, all_succ' hp (by unfold okc lowc; omega), low_next hz (by unfold lowc; omega)⟩, by simp only; omega, ?_⟩
             refine Weak_to ?_ ?_ ?_ <;> simp only [go_sem])
      · simp only [go_sem, Tryd.f26]
        rw [name_good (by omega) (by omega) (hz (by omega)) fun j hj => hp j (by omega)]
def Q7 : Tbl := Q6.add 69 (sp1 (fun l : List Str => l) fun l => l.length ≤ 4194304)
attribute [go_sem] Q7
theorem hQ7 : TblOk Tryd.prog G0 Q7 := by
  refine sp1_ok ok69 hQ6 fun l hl hw => ?_
  refine Wcall_K (N := 8) hm hQ6 69000 (lst []) ok69 Tryd.func69 rfl rfl (by simp) (by kernel_rfl) ?_
  simp only [go_sem]
  refine AllN.i fun b hb => ?_
  cases b
  · simp only [go_sem]
    refine ReqK.i (fits_of (by omega) (by decide)) fun _ => ?_
    simp only [go_sem, Tryd.f69]
  · have : l = [] := List.eq_nil_of_length_eq_zero (hb rfl)
    subst this
    simp only [go_sem, Tryd.f69]

end Go.Proofs.YtdlioodgfopmfaaDoor

namespace Go.Proofs.YtdlioodgfopmfaaDoor
open Go Go.Abs Go.Proofs

def Q8 : Tbl := Q7.add 99 (sp1 subsK fun _ => True)
attribute [go_sem] Q8
theorem hQ8 : TblOk Tryd.prog G0 Q8 := by
  refine sp1_ok ok99 hQ7 fun k _ hs => ?_
  refine Wcall_K (N := 16) hm hQ7 99000 (lst []) ok99 Tryd.func99 rfl rfl (by simp) (by kernel_rfl) ?_
  repeat' (first | refine CondK.d (fun _ => ?_) (fun _ => ?_) | refine rq fun _ => ?_ | simp only [go_sem, Tryd.f99, *])
  all_goals (unfold subsK; first | rw [if_pos (by omega)] | rw [if_neg (by omega), if_pos (by omega)] | rw [if_neg (by omega), if_neg (by omega), if_pos (by omega)] | rw [if_neg (by omega), if_neg (by omega), if_neg (by omega)])

def Q9 : Tbl := Q8.add 100 (sp1 (fun f : Abs.Form => decide (f.kind = 8 ∨ f.kind = 9)) fun _ => True)
attribute [go_sem] Q9
theorem hQ9 : TblOk Tryd.prog G0 Q9 := by
  refine sp1_ok ok100 hQ8 fun f _ hs => ?_
  refine Wcall_K (N := 11) hm hQ8 100000 (lst []) ok100 Tryd.func100 rfl rfl (by simp) (by kernel_rfl) ?_
  repeat' (first | refine CondK.d (fun _ => ?_) (fun _ => ?_) | refine rq fun _ => ?_ | simp only [go_sem, Tryd.f100, *])


theorem f98 {c a : Int} {id : Abs.Id} {H : Heap} {n : Nat} {R : D → Heap → Nat → Prop} (hid : id.2 < n) (ho : H id = some ⟨[.fz (.i .i64 a)], true, false⟩) (hR : ∀ n', n ≤ n' → R (.agg [.fz (.i .i64 c), .fz (.i .i64 a)]) H n') :
    Wcall Tryd.prog G0 98 [.fz (.i .i64 c), .ptr id 0] H n R := by
  refine Wcall_keep ok98 (fun hfr => ?_) hR
  have hne : id ≠ (98003, n) := by rintro rfl; simp at hid
  have hne' : (id = (98003, n)) = False := eq_false hne
  obtain ⟨Q, hQ⟩ : ∃ Q : D → Heap → Nat → Prop, Q = (fun d' H' n' => d' = .agg [.fz (.i .i64 c), .fz (.i .i64 a)] ∧ n ≤ n' ∧ ∀ id, id.2 < n → H' id = H id) := ⟨_, rfl⟩
  rw [← hQ]
  have e : H = hpX [] H := rfl
  rw [e]
  refine Wcall_K (N := 7) hm hQ9 98000 (lst []) ok98 Tryd.func98 rfl rfl (by simp) (by kernel_rfl) ?_
  simp only [go_sem]
  rw [if_neg hne, ho]
  simp only [go_sem, Tryd.f98]
  rw [hQ]
  refine ⟨?_, by omega, fun id hid => hpX_old (n := n) (by intro p hp; simp at hp; rcases hp with rfl | rfl <;> simp) id hid⟩
  simp only [go_sem]
end Go.Proofs.YtdlioodgfopmfaaDoor

namespace Go.Proofs.YtdlioodgfopmfaaDoor
open Go Go.Abs Go.Proofs
attribute [local irreducible] isName

def HHc (op : Bool) (n : Nat) : List (Abs.Id × Option O) :=
  [((74005, 3), some ⟨[.fz (.i .i64 n)], true, false⟩), ((74003, 1), some ⟨[.fz (.b op)], true, false⟩),
   ((74006, 4), some ⟨[.fn 97 [.ptr (74005, 3) 0, .ptr (74003, 1) 0, .ptr (74006, 4) 0]], true, false⟩),
   ((74004, 2), some ⟨[.fz (.i .i64 0), .fz (.i .i64 0)], true, false⟩)]
def agg2 (x : Fault) : D := .agg [.fz (.i .i64 x.code), .fz (.i .i64 x.index)]

theorem chk_bad {op : Bool} {f : Abs.Form} {d : Int} {n : Nat} (h : nodeC op f d n ≠ 0) : chk op f d n = (⟨nodeC op f d n, n⟩, n + 1) := by rw [chk_eq, if_pos h]
theorem str_eta {s : Str} : (⟨s.l⟩ : Str) = s := rfl
theorem str_nil {s : Str} : s = ⟨[]⟩ ↔ s.l = [] := by cases s; simp

def apartL (id : Abs.Id) : List (Abs.Id × Option O) → Prop
  | [] => True
  | (i, _) :: l => i ≠ id ∧ apartL id l
theorem hpX_pass {id : Abs.Id} {X : Heap} : ∀ {l : List (Abs.Id × Option O)}, apartL id l → hpX l X id = X id
  | [], _ => rfl
  | (i, o) :: l, h => by simp only [hpX]; rw [if_neg (fun e => h.1 e.symm)]; exact hpX_pass h.2

theorem nodeC_eq {op : Bool} {f : Abs.Form} {d p : Int} {n : Nat} (hp : partsK op f = p) : nodeC op f d n = if 200 < (n : Int) + 1 ∨ 40 < d then 1 else if p < 0 then 4
    else if ¬((f.subs.length : Int) = p ∧ (f.kind = 2 → (f.words.length : Int) ≤ 3) ∧ (f.kind = 3 → (f.words.length : Int) = 2) ∧ (f.kind ≠ 2 → f.kind ≠ 3 → (f.words.length : Int) = 0)) then 9
    else if (f.kind = 2 ∨ f.kind = 8 ∨ f.kind = 9 ∨ f.kind = 10) ∧ isName f.name = false then 10 else if ¬(f.kind = 2 ∨ f.kind = 8 ∨ f.kind = 9 ∨ f.kind = 10) ∧ ¬ f.name.l = [] then 5 else if f.words.all isName = false then 10 else 0 := by
  have e1 : (200 < n + 1 ∨ 40 < d) = (200 < (n : Int) + 1 ∨ 40 < d) := propext (by omega)
  have e2 : (wordsOk f = true) = ((f.kind = 2 → (f.words.length : Int) ≤ 3) ∧ (f.kind = 3 → (f.words.length : Int) = 2) ∧ (f.kind ≠ 2 → f.kind ≠ 3 → (f.words.length : Int) = 0)) := propext (by
    unfold wordsOk
    by_cases h2 : f.kind = 2
    · rw [if_pos h2, decide_eq_true_eq]; omega
    · rw [if_neg h2]
      by_cases h3 : f.kind = 3
      · rw [if_pos h3, decide_eq_true_eq]; omega
      · rw [if_neg h3, decide_eq_true_eq]; omega)
  have e3 : (f.name ≠ ⟨[]⟩) = ¬ f.name.l = [] := propext (by rw [Ne, str_nil])
  unfold nodeC
  simp only [hp, e1, e2, e3, named, decide_eq_true_eq, decide_eq_false_iff_not]
theorem subs10 : subsK 10 = -1 := by decide
theorem subs2 : subsK 2 = 0 := by decide
theorem subs3 : subsK 3 = 0 := by decide
theorem parts_cases (op : Bool) (f : Abs.Form) : (f.kind = 2 ∧ partsK op f = 0) ∨ (f.kind = 3 ∧ partsK op f = 0) ∨ (f.kind = 10 ∧ op = true ∧ partsK op f = 0) ∨ (f.kind = 10 ∧ op = false ∧ partsK op f = -1) ∨ (¬ f.kind = 2 ∧ ¬ f.kind = 3 ∧ ¬ f.kind = 10 ∧ partsK op f = subsK f.kind) := by
  unfold partsK
  by_cases h2 : f.kind = 2
  · exact .inl ⟨h2, by rw [if_neg (by omega), h2]; rfl⟩
  by_cases h3 : f.kind = 3
  · exact .inr (.inl ⟨h3, by rw [if_neg (by omega), h3]; rfl⟩)
  by_cases h10 : f.kind = 10
  · cases op
    · exact .inr (.inr (.inr (.inl ⟨h10, rfl, by rw [if_neg (by simp), h10]; rfl⟩)))
    · exact .inr (.inr (.inl ⟨h10, rfl, by rw [if_pos ⟨h10, rfl⟩]⟩))
  · exact .inr (.inr (.inr (.inr ⟨h2, h3, h10, by rw [if_neg (fun h => h10 h.1)]⟩)))

theorem Wcall_toX {P : Program} {G : Nat → List FD} {f : FuncId} {args : List D} {H X : Heap} {hl : List (Abs.Id × Option O)} {n n' : Nat} {R : D → Heap → Nat → Prop} (hf : FrOk (frL (argL 0 args)) (argL 0 args)) (hh : HpOk H hl) (hx : ∀ id o, X id = some o → H id = some o) (hn : n ≤ n') (h : Wcall P G f args (hpX hl X) n' R) : Wcall P G f args H n R :=
  Wcall_weak rfl (Weak_toH hf (HpOk.getX hx hh) hn) h
theorem Wcall_hd {P : Program} {G : Nat → List FD} {f : FuncId} {d : D} {x : FD} {rest : List D} {H : Heap} {n : Nat} {R : D → Heap → Nat → Prop} (ha : D.toFDs [d] = some [x]) (h : Wcall P G f (.fz x :: rest) H n R) : Wcall P G f (d :: rest) H n R := by
  refine ⟨h.1, fun w L F vs hok hvs => h.2 w L F vs hok ?_⟩
  cases vs with
  | nil => simp [VReps] at hvs
  | cons v vs =>
    simp only [VReps] at hvs ⊢
    have h1 : VReps w L F (Ub n) [d] [v] := by simp only [VReps]; exact ⟨hvs.1, trivial⟩
    have h2 : VReps w L F (Ub n) ([x].map .fz) [v] := h1.of_toFDs ha
    simp only [List.map_cons, List.map_nil, VReps] at h2
    exact ⟨h2.1, hvs.2⟩
structure Kp (p : Prop) : Prop where
  out : p
structure LoopC (n0 len : Nat) (p : Nat → Nat → Prop) where
  j : Nat
  n : Nat
  m : Nat
  hj : j ≤ len
  hm : n0 ≤ m
  hp : p j n

theorem f97 (op : Bool) : ∀ (k : Nat) (f : Abs.Form) (d : Int) (n m : Nat) (X : Heap), f.size ≤ k → (enc f).Wf → 0 ≤ d → d ≤ 41 → n ≤ 200 → 4 < m →
    (∀ id o, X id = some o → id.2 < m ∧ id.1 ≠ 74003 ∧ id.1 ≠ 74004 ∧ id.1 ≠ 74005 ∧ id.1 ≠ 74006) →
    Wcall Tryd.prog G0 97 [.fz (enc f), .fz (.i .i64 d), .ptr (74005, 3) 0, .ptr (74003, 1) 0, .ptr (74006, 4) 0] (hpX (HHc op n) X) m
      (fun d' H' n' => d' = agg2 (chk op f d n).1 ∧ m ≤ n' ∧ HpOk H' (HHc op (chk op f d n).2) ∧ ∀ id o, X id = some o → H' id = some o) := by
  intro k
  induction k with
  | zero => intro f d n m X hs; have := f.size_pos; omega
  | succ k ih =>
    intro f d n m X hs hw hd0 hd hn hm' hX
    obtain ⟨Q, hQ⟩ : ∃ Q : D → Heap → Nat → Prop, Q = (fun d' H' n' => d' = agg2 (chk op f d n).1 ∧ m ≤ n' ∧ HpOk H' (HHc op (chk op f d n).2) ∧ ∀ id o, X id = some o → H' id = some o) := ⟨_, rfl⟩
    rw [← hQ]
    have hbad : ∀ {c : Int} {d' : D} {H' : Heap} {n' : Nat}, nodeC op f d n = c → c ≠ 0 → d' = agg2 ⟨c, n⟩ → m ≤ n' → HpOk H' (HHc op (n + 1)) → (∀ id o, X id = some o → H' id = some o) → Q d' H' n' := fun h1 h2 h3 h4 h5 h6 => by
      rw [hQ]
      have e : chk op f d n = (⟨_, n⟩, n + 1) := (chk_bad (by rw [h1]; exact h2)).trans (by rw [h1])
      rw [e]
      exact ⟨h3, h4, h5, h6⟩
    have hX' : ∀ {l : List (Abs.Id × Option O)} (id o), X id = some o → (id.2 < m ∧ id.1 ≠ 74003 ∧ id.1 ≠ 74004 ∧ id.1 ≠ 74005 ∧ id.1 ≠ 74006 → apartL id l) → hpX l X id = some o := fun id o h1 h2 => (hpX_pass (h2 (hX id o h1))).trans h1
    have hwl : f.words.length ≤ maxL := by
      have h := Wf_agg (by have h := hw; rw [enc_form] at h; exact h) (FD.sl (f.words.map enc)) (by simp)
      have := Wf_sl h
      simpa using this
    have hsl : f.subs.length ≤ maxL := by
      have h := Wf_agg (by have h := hw; rw [enc_form] at h; exact h) (FD.sl (f.subs.map enc)) (by simp)
      have := Wf_sl h
      simpa using this
    have hsw : ∀ g ∈ f.subs, (enc g).Wf := fun g hg => Wf_mem (Wf_agg (by have h := hw; rw [enc_form] at h; exact h) (FD.sl (f.subs.map enc)) (by simp)) _ (List.mem_map_of_mem hg)
    have hss : ∀ g ∈ f.subs, g.size ≤ k := fun g hg => by have := Form.size_sub hg; omega
    unfold maxL at hwl hsl
    have kX := Kp.mk @hX'
    have kQ := Kp.mk hQ
    have kI := Kp.mk ih
    have kS := Kp.mk hsw
    have kZ := Kp.mk hss
    have kb := Kp.mk @hbad
    have kx := Kp.mk hX
    clear hX' hQ ih hsw hss hX hbad
    refine Wcall_K (N := 133) hm hQ9 97000 (lst []) ok97 Tryd.func97 rfl rfl (by simp) (by kernel_rfl) ?_
    rcases parts_cases op f with ⟨hk, hp⟩ | ⟨hk, hp⟩ | ⟨hk, hop, hp⟩ | ⟨hk, hop, hp⟩ | ⟨hk, hk3, hk10, hp⟩
    all_goals repeat' (first | refine CondK.d (fun _ => ?_) (fun _ => ?_) | refine CondK.i (fun _ => ?_) (fun _ => ?_) | refine rq fun _ => ?_ | refine WcallK.i (f98 (a := (n : Int)) (by simp only; omega) (by simp only [go_sem, HHc]) fun n' hn' => ?_) | simp only [go_sem, HHc, subs10, subs2, subs3, Tryd.f97, *])
    all_goals try
      refine kb.out (by first
        | rw [nodeC_eq hp, if_pos (by omega)]
        | rw [nodeC_eq hp, if_neg (by omega), if_pos (by omega)]
        | rw [nodeC_eq hp, if_neg (by omega), if_neg (by omega), if_pos (by omega)]
        | rw [nodeC_eq hp, if_neg (by omega), if_neg (by omega), if_neg (by omega), if_pos ⟨by omega, by first | assumption | simp_all [str_eta]⟩]
        | rw [nodeC_eq hp, if_neg (by omega), if_neg (by omega), if_neg (by omega), if_neg (by omega), if_pos ⟨by omega, by assumption⟩]) (by decide) rfl (by omega) (by first | (simp only [go_sem, HHc]; done) | (simp only [go_sem, HHc, hop]; done)) fun id o ho => ?_
      refine kX.out id o ho fun h1 => ?_
      ((repeat' (first | exact trivial | apply And.intro)) <;> (rintro rfl; simp only at h1; omega))
    all_goals
      have hN : nodeC op f d n = if f.words.all isName = false then 10 else 0 := by
        rw [nodeC_eq hp, if_neg (by omega), if_neg (by omega), if_neg (by omega), if_neg (by first | omega | (rintro ⟨_, h⟩; simp_all [str_eta])), if_neg (by first | omega | (rintro ⟨_, h⟩; simp_all))]
    all_goals
      refine WK_loop hm hQ9 97000 (lst []) (ι := LoopM f.words.length (m + 1 + 1 + 1) fun i => (f.words.take i).all isName = true)
        ⟨fun q => ⟨frL [(1, .fz (.i .i64 d)), (2, .ptr (74005, 3) 0), (3, .ptr (74003, 1) 0), (4, .ptr (74006, 4) 0), (5, .ptr (97005, m) 0), (7, .ptr (97007, m + 1) 0), (9, .fn 98 [.ptr (97008, m + 1 + 1) 0]),
            (103, .fz (.sl (f.words.map enc))), (104, .fz (.i .i64 f.words.length)), (105, .fz (.i .i64 q.i))],
          hpX ([((97007, m + 1), some ⟨[.fz (.i .i64 0), .fz (.i .i64 0)], true, false⟩), ((97008, m + 1 + 1), some ⟨[.fz (.i .i64 n)], true, false⟩),
            ((97005, m), some ⟨[.fz (.i .i64 f.kind), .fz (.s f.name.l), .fz (.sl (f.words.map enc)), .fz (.sl (f.subs.map enc))], true, false⟩)] ++ HHc op (n + 1)) X, q.m⟩, fun q => f.words.length - q.i⟩
        ⟨0, _, by omega, Nat.le_refl _, by simp⟩ (by kernel_rfl) ?_ ?_
      · refine Weak_toX ?_ ?_ (fun id o ho => ?_) ?_
        · simp only [go_sem, *]
        · simp only [go_sem, HHc, *]
        · refine kX.out id o ho fun h1 => ?_
          ((repeat' (first | exact trivial | apply And.intro)) <;> (rintro rfl; simp only at h1; omega))
        · simp only [go_sem]
      rintro ⟨i, q, hi, hq, hpi⟩
      try simp only at hi hq hpi
      rcases Nat.lt_or_ge i f.words.length with h1 | h1
      · cases hnm : isName f.words[i] with
        | false =>
          have hall : f.words.all isName = false := List.all_eq_false.2 ⟨_, List.getElem_mem h1, by simp [hnm]⟩
          rw [if_pos hall] at hN
          repeat' (first | refine rq fun _ => ?_ | refine WcallK.i (f98 (a := (n : Int)) (by simp only; omega) (by simp only [go_sem, HHc]) fun n' hn' => ?_) | simp only [go_sem, HHc, h1, hnm, str_eta, getD_map_lt, Tryd.f97])
          refine kb.out hN (by decide) rfl (by omega) (by simp only [go_sem, HHc]) fun id o ho => ?_
          refine kX.out id o ho fun h1 => ?_
          ((repeat' (first | exact trivial | apply And.intro)) <;> (rintro rfl; simp only at h1; omega))
        | true =>
          repeat' (first | refine rq fun _ => ?_ | simp only [go_sem, HHc, h1, hnm, str_eta, getD_map_lt, Tryd.f97])
          refine ⟨⟨i + 1, q, by omega, by omega, by rw [all_take_succ h1, hpi, hnm]; rfl⟩, by simp only; omega, ?_⟩
          refine Weak_toX ?_ ?_ (fun id o ho => ?_) ?_
          · simp only [go_sem]
          · simp only [go_sem, HHc]
          · refine kX.out id o ho fun h1 => ?_
            ((repeat' (first | exact trivial | apply And.intro)) <;> (rintro rfl; simp only at h1; omega))
          · simp only [go_sem]
      · have h1' : ¬ i < f.words.length := by omega
        rw [List.take_of_length_le h1] at hpi
        rw [if_neg (by rw [hpi]; simp)] at hN
        repeat' (first | refine rq fun _ => ?_ | simp only [go_sem, HHc, h1', getD_map_lt, Tryd.f97])
        have hchk : chk op f d n = chks op f.subs (d + 1) (n + 1) := by rw [chk_eq, if_neg (by rw [hN]; simp)]
        refine WK_loop hm hQ9 97000 (lst []) (ι := LoopC (m + 1 + 1 + 1) f.subs.length fun j n2 => n2 ≤ 200 ∧ chks op f.subs (d + 1) (n + 1) = chks op (f.subs.drop j) (d + 1) n2)
          ⟨fun q => ⟨frL [(1, .fz (.i .i64 d)), (2, .ptr (74005, 3) 0), (3, .ptr (74003, 1) 0), (4, .ptr (74006, 4) 0), (7, .ptr (97007, m + 1) 0),
              (116, .fz (.sl (f.subs.map enc))), (117, .fz (.i .i64 f.subs.length)), (118, .fz (.i .i64 q.j))],
            hpX (((97007, m + 1), some ⟨[.fz (.i .i64 0), .fz (.i .i64 0)], true, false⟩) :: HHc op q.n) X, q.m⟩, fun q => f.subs.length - q.j⟩
          ⟨0, n + 1, q, by omega, hq, by omega, rfl⟩ (by kernel_rfl) ?_ ?_
        · refine Weak_toX ?_ ?_ (fun id o ho => ?_) ?_
          · simp only [go_sem]
          · simp only [go_sem, HHc]
          · refine kX.out id o ho fun h1 => ?_
            ((repeat' (first | exact trivial | apply And.intro)) <;> (rintro rfl; simp only at h1; omega))
          · simp only [go_sem]
        rintro ⟨j, n2, q2, hj, hq2, hn2, hch⟩
        try simp only at hj hq2 hn2 hch
        rcases Nat.lt_or_ge j f.subs.length with h2 | h2
        · have hmem := List.getElem_mem h2
          rw [List.drop_eq_getElem_cons h2, chks] at hch
          have ih2 := kI.out f.subs[j] (d + 1) n2 (q2 + 1) (hpX [((97007, m + 1), some ⟨[.fz (.i .i64 0), .fz (.i .i64 0)], true, false⟩)] X) (kZ.out _ hmem) (kS.out _ hmem) (by omega) (by omega) hn2 (by omega) (by
            intro id o ho
            simp only [hpX] at ho
            split at ho
            · rename_i e; subst e; simp only; omega
            · have := kx.out id o ho; omega)
          rw [enc_form] at ih2
          repeat' (first | refine rq fun _ => ?_ | simp only [go_sem, HHc, h2, getD_map_lt, Tryd.f97])
          refine WcallK.i (Wcall_hd rfl (Wcall_toX (by simp only [go_sem, argL]) (by simp only [go_sem, HHc]) (fun id o ho => ?_) (Nat.le_refl _) (Wcall_mono ih2 ?_)))
          · simp only [hpX] at ho
            split at ho
            · rename_i e; subst e; simp only [go_sem]; exact Option.some.inj ho
            · refine kX.out id o ho fun h1 => ?_
              ((repeat' (first | exact trivial | apply And.intro)) <;> (rintro rfl; simp only at h1; omega))
          rintro d' H' n' ⟨rfl, e1, e2, e3⟩
          have b0 := e3 (97007, m + 1) ⟨[.fz (.i .i64 0), .fz (.i .i64 0)], true, false⟩ (by simp only [hpX, if_true])
          have hX2 : ∀ id o, X id = some o → H' id = some o := fun id o ho => e3 id o (kX.out id o ho fun h1 => ⟨by rintro rfl; simp only at h1; omega, trivial⟩)
          simp only [go_sem, HHc] at e2
          obtain ⟨b1, b2, b3, b4⟩ := e2
          rw [show H' = hpX [] H' from rfl]
          by_cases hc : (chk op f.subs[j] (d + 1) n2).1.code = 0
          · rw [if_neg (by rw [hc]; simp)] at hch
            obtain ⟨c1, c2, c3⟩ := chk_n _ _ _ hc
            repeat' (first | refine rq fun _ => ?_ | simp only [go_sem, HHc, h2, hc, agg2, b0, Tryd.f97])
            refine ⟨⟨j + 1, _, n' + 1, by omega, by omega, c2, hch⟩, by simp only; omega, ?_⟩
            refine Weak_toX ?_ ?_ (fun id o ho => ?_) ?_
            · simp only [go_sem]
            · simp only [go_sem, HHc, b0, b1, b2, b3, b4]
            · have h1 := kx.out id o ho
              refine (hpX_pass ?_).trans (hX2 id o ho)
              ((repeat' (first | exact trivial | apply And.intro)) <;> (rintro rfl; simp only at h1; omega))
            · simp only [go_sem]
          · rw [if_pos hc] at hch
            repeat' (first | refine rq fun _ => ?_ | simp only [go_sem, HHc, h2, hc, agg2, b0, Tryd.f97])
            rw [kQ.out, hchk, hch]
            refine ⟨rfl, by omega, by simp only [go_sem, HHc, b1, b2, b3, b4], fun id o ho => ?_⟩
            have h1 := kx.out id o ho
            refine (hpX_pass ?_).trans (hX2 id o ho)
            ((repeat' (first | exact trivial | apply And.intro)) <;> (rintro rfl; simp only at h1; omega))
        · have h2' : ¬ j < f.subs.length := by omega
          rw [List.drop_of_length_le h2, chks] at hch
          repeat' (first | refine rq fun _ => ?_ | simp only [go_sem, HHc, h2', agg2, Tryd.f97])
          rw [kQ.out, hchk, hch]
          refine ⟨rfl, by omega, by simp only [go_sem, HHc], fun id o ho => kX.out id o ho fun h1 => ?_⟩
          ((repeat' (first | exact trivial | apply And.intro)) <;> (rintro rfl; simp only at h1; omega))
end Go.Proofs.YtdlioodgfopmfaaDoor

namespace Go.Proofs.YtdlioodgfopmfaaDoor
open Go Go.Abs Go.Proofs

def Q10 : Tbl := Q9.add 74 (sp2 (fun (f : Abs.Form) (op : Bool) => checkM op f) fun _ _ => True)
attribute [go_sem] Q10
theorem hQ10 : TblOk Tryd.prog G0 Q10 := by
  refine sp2_ok ok74 hQ9 fun f op _ hf _ => ?_
  refine Wcall_K (N := 11) hm hQ9 74000 (lst []) ok74 Tryd.func74 rfl rfl (by simp) (by kernel_rfl) ?_
  have h := f97 op f.size f 1 0 5 (fun _ => none) (Nat.le_refl _) hf (by omega) (by omega) (by omega) (by omega) (fun id o ho => nomatch ho)
  rw [enc_form] at h
  repeat' (first | refine rq fun _ => ?_ | simp only [go_sem, Tryd.f74])
  refine WcallK.i (Wcall_hd rfl (Wcall_toX (by simp only [go_sem, argL]) (by simp only [go_sem, HHc]) (fun id o ho => ?_) (Nat.le_refl _) (Wcall_mono h ?_)))
  · cases ho
  rintro d' H' n' ⟨rfl, e1, e2, e3⟩
  simp only [go_sem, HHc] at e2
  obtain ⟨b1, b2, b3, b4⟩ := e2
  rw [show H' = hpX [] H' from rfl]
  repeat' (first | refine rq fun _ => ?_ | simp only [go_sem, HHc, agg2, b4, checkM, Tryd.f74])

def Q11 : Tbl := Q10.add 37 (sp1 (fun (f : Abs.Form) => checkM false f) fun _ => True)
attribute [go_sem] Q11
theorem hQ11 : TblOk Tryd.prog G0 Q11 := by
  refine sp1_ok ok37 hQ10 fun f _ hf => ?_
  refine Wcall_K (N := 5) hm hQ10 37000 (lst []) ok37 Tryd.func37 rfl rfl (by simp) (by kernel_rfl) ?_
  repeat' (first | refine rq fun _ => ?_ | simp only [go_sem, Tryd.f37])
end Go.Proofs.YtdlioodgfopmfaaDoor

namespace Go.Proofs.YtdlioodgfopmfaaDoor
open Go Go.Abs Go.Proofs

def Q12 : Tbl := Q11.add 89 (sp1 subsK fun _ => True)
attribute [go_sem] Q12
theorem hQ12 : TblOk Tryd.prog G0 Q12 := by
  refine sp1_ok ok89 hQ11 fun k _ hs => ?_
  refine Wcall_K (N := 13) hm hQ11 89000 (lst []) ok89 Tryd.func89 rfl rfl (by simp) (by kernel_rfl) ?_
  by_cases h : 1 ≤ k ∧ k ≤ 9
  · have hk : k = 1 ∨ k = 2 ∨ k = 3 ∨ k = 4 ∨ k = 5 ∨ k = 6 ∨ k = 7 ∨ k = 8 ∨ k = 9 := by omega
    rcases hk with rfl | rfl | rfl | rfl | rfl | rfl | rfl | rfl | rfl
    all_goals
      repeat' (first | refine rq fun _ => ?_ | simp only [go_sem, Tryd.f89, subsK])
  · have e : subsK k = -1 := by unfold subsK; rw [if_neg (by omega), if_neg (by omega), if_neg (by omega)]
    repeat' (first | refine CondK.d (fun _ => ?_) (fun _ => ?_) | refine rq fun _ => ?_ | simp only [go_sem, Tryd.f89, e, *])
    all_goals (exfalso; omega)

def Q13 : Tbl := Q12
attribute [go_sem] Q13
theorem hQ13 : TblOk Tryd.prog G0 Q13 := hQ12
end Go.Proofs.YtdlioodgfopmfaaDoor

namespace Go.Proofs.YtdlioodgfopmfaaDoor
open Go Go.Abs Go.Proofs

def Q14 : Tbl := Q13
attribute [go_sem] Q14
theorem hQ14 : TblOk Tryd.prog G0 Q14 := hQ13
def predM (nm : Str) (w : List Str) : Abs.Form := .mk 2 nm w []
def Q15 : Tbl := Q14.add 7 (sp2 predM fun _ _ => True)
attribute [go_sem] Q15
theorem hQ15 : TblOk Tryd.prog G0 Q15 := by
  refine sp2_ok ok7 hQ14 fun nm w _ _ hs => ?_
  refine Wcall_K (N := 8) hm hQ14 7000 (lst []) ok7 Tryd.func7 rfl rfl (by simp) (by kernel_rfl) ?_
  repeat' (first | refine rq fun _ => ?_ | simp only [go_sem, Tryd.f7, predM])

def Q16 : Tbl := Q15
attribute [go_sem] Q16
theorem hQ16 : TblOk Tryd.prog G0 Q16 := hQ15
end Go.Proofs.YtdlioodgfopmfaaDoor

namespace Go.Proofs.YtdlioodgfopmfaaDoor
open Go Go.Abs Go.Proofs

def Q17 : Tbl := Q16
attribute [go_sem] Q17
theorem hQ17 : TblOk Tryd.prog G0 Q17 := hQ16
def Q18 : Tbl := Q17
attribute [go_sem] Q18
theorem hQ18 : TblOk Tryd.prog G0 Q18 := hQ17
end Go.Proofs.YtdlioodgfopmfaaDoor

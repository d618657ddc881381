import Derived.Test.YtdlioodgfopmfaaDoorAT
import Derived.Test.YtdlioodgfopmfaaDoorQ8
import Derived.Test.YtdlioodgfopmfaaDoorCN
import Derived.Test.YtdlioodgfopmfaaDoorSH
set_option linter.unusedSimpArgs false
namespace Go.Proofs.YtdlioodgfopmfaaDoor
open Go Go.Abs Go.Proofs


def GA : Nat → List FD := fun g => if g = 0 then [.i .i64 0, .i .i64 0] else if g = 1 then Lib.pow10Tab.map (.i .u64) else []
theorem tab_name : Tryd.prog.globalNamed "internal/strconv.uint64pow10" = some 1 := by kernel_rfl
def itoaS (n : Int) : Str := ⟨Lib.itoa n⟩
def R1 : Tbl := Q20.add 67 (sp1 itoaS fun n => 0 ≤ n ∧ n ≤ 1000000000000)
attribute [go_sem] R1
theorem hR1 : TblOk Tryd.prog GA R1 := by
  refine sp1_ok ok67 (TblOk_glob hQ20) fun n hn _ => ?_
  refine Wcall_mono (Wcall_itoa ok67 tab_name rfl Tryd.strconv_Itoa hn.1 hn.2) ?_
  rintro d H m ⟨rfl, _, _⟩
  rfl
theorem itoaS_nat (n : Nat) : (itoaS (n : Int)).l = digits n := itoa_nat n

def HHk (acc : List Str) (g : Nat) : List (Abs.Id × Option O) :=
  [((76003, 1), some ⟨[.arr (101024, g) 1 0 acc.length], true, false⟩),
   ((76004, 2), some ⟨[.fn 101 [.ptr (76003, 1) 0, .ptr (76004, 2) 0]], true, false⟩),
   ((101024, g), some ⟨flatFz (acc.map enc), false, acc.isEmpty⟩)]
theorem cst_eq {f : Abs.Form} {bd : List Str} : cst f bd = f.words.filter (fun w => decide (w ∉ bd)) ++ csts f.subs (if isQ f.kind then bd ++ [f.name] else bd) := by cases f; rw [cst]; rfl
theorem filter_len_take {ws bd : List Str} (i : Nat) : ((ws.take i).filter (fun w => decide (w ∉ bd))).length ≤ (ws.filter (fun w => decide (w ∉ bd))).length :=
  (List.Sublist.filter _ (List.take_sublist i ws)).length_le
theorem filter_take_succ {ws bd : List Str} {i : Nat} (h : i < ws.length) : (ws.take (i + 1)).filter (fun w => decide (w ∉ bd)) = (ws.take i).filter (fun w => decide (w ∉ bd)) ++ if ws[i] ∈ bd then [] else [ws[i]] := by
  rw [List.take_succ_eq_append_getElem h, List.filter_append]
  congr 1
  by_cases hb : ws[i] ∈ bd
  · simp [hb]
  · simp [hb]

theorem flat_snocS {xs : List FD} {l : List UInt8} : flatFz (xs ++ [FD.s l]) = flatFz xs ++ [D.fz (FD.s l)] := by simp [flatFz, FD.cells]
theorem csts_take_succ {fs : List Abs.Form} {bd : List Str} {j : Nat} (h : j < fs.length) : csts (fs.take (j + 1)) bd = csts (fs.take j) bd ++ cst fs[j] bd := by
  rw [List.take_succ_eq_append_getElem h, csts_app, csts, csts, List.append_nil]
theorem csts_take_len {fs : List Abs.Form} {bd : List Str} (j : Nat) : (csts (fs.take j) bd).length ≤ (csts fs bd).length := by
  have h := csts_app bd (fs.take j) (fs.drop j)
  rw [List.take_append_drop] at h
  rw [h, List.length_append]; omega

set_option maxRecDepth 100000 in
set_option maxHeartbeats 1000000 in
theorem f101 : ∀ (k : Nat) (f : Abs.Form) (bd acc : List Str) (g n : Nat) (X : Heap), f.size ≤ k → (enc f).Wf → g < n → 2 < n → acc.length + (cst f bd).length ≤ 1000000 → bd.length + f.size ≤ 1000000 →
    (∀ id o, X id = some o → id.2 < n ∧ id.1 ≠ 76003 ∧ id.1 ≠ 76004 ∧ id.1 ≠ 101024) →
    Wcall Tryd.prog GA 101 [.fz (enc f), .fz (enc bd), .ptr (76003, 1) 0, .ptr (76004, 2) 0] (hpX (HHk acc g) X) n
      (fun d' H' n' => d' = .tup [] ∧ n ≤ n' ∧ (∃ g', g' < n' ∧ HpOk H' (HHk (acc ++ cst f bd) g')) ∧ ∀ id o, X id = some o → H' id = some o) := by
  intro k
  induction k with
  | zero => intro f bd acc g n X hs; have := f.size_pos; omega
  | succ k ih =>
    intro f bd acc g n X hs hw hg hn hlen hbl hX
    obtain ⟨Q, hQ⟩ : ∃ Q : D → Heap → Nat → Prop, Q = (fun d' H' n' => d' = .tup [] ∧ n ≤ n' ∧ (∃ g', g' < n' ∧ HpOk H' (HHk (acc ++ cst f bd) g')) ∧ ∀ id o, X id = some o → H' id = some o) := ⟨_, rfl⟩
    rw [← hQ]
    have hX' : ∀ {l : List (Abs.Id × Option O)} (id o), X id = some o → (id.2 < n ∧ id.1 ≠ 76003 ∧ id.1 ≠ 76004 ∧ id.1 ≠ 101024 → apartL id l) → hpX l X id = some o := fun id o h1 h2 => (hpX_pass (h2 (hX id o h1))).trans h1
    have hwl : f.words.length ≤ maxL := by
      have h := Wf_agg (by have h := hw; rw [enc_form] at h; exact h) (FD.sl (f.words.map enc)) (by simp)
      have := Wf_sl h
      simpa using this
    have hsl : f.subs.length ≤ maxL := by
      have h := Wf_agg (by have h := hw; rw [enc_form] at h; exact h) (FD.sl (f.subs.map enc)) (by simp)
      have := Wf_sl h
      simpa using this
    have hsw : ∀ g ∈ f.subs, (enc g).Wf := fun g hg => Wf_mem (Wf_agg (by have h := hw; rw [enc_form] at h; exact h) (FD.sl (f.subs.map enc)) (by simp)) _ (List.mem_map_of_mem hg)
    have hss : ∀ g ∈ f.subs, g.size ≤ k ∧ g.size + 1 ≤ f.size := fun g hg => by have := Form.size_sub hg; omega
    unfold maxL at hwl hsl
    rw [cst_eq, List.length_append] at hlen
    obtain ⟨A, hA⟩ : ∃ A : Nat → List Str, A = fun i => acc ++ (f.words.take i).filter (fun w => decide (w ∉ bd)) := ⟨_, rfl⟩
    have hA0 : A 0 = acc := by rw [hA]; simp
    have hAl : ∀ i, (A i).length ≤ acc.length + (f.words.filter (fun w => decide (w ∉ bd))).length := fun i => by
      rw [hA]; simp only [List.length_append]; have := @filter_len_take f.words bd i; omega
    have hAs : ∀ i (h : i < f.words.length), A (i + 1) = A i ++ if f.words[i] ∈ bd then [] else [f.words[i]] := fun i h => by
      rw [hA]; simp only [filter_take_succ h, List.append_assoc]
    have hAe : A f.words.length = acc ++ f.words.filter (fun w => decide (w ∉ bd)) := by rw [hA]; simp only [List.take_length]
    have kA := Kp.mk hAl
    have kB := Kp.mk hAs
    have kC := Kp.mk hAe
    clear hA hAl hAs hAe
    have kX := Kp.mk @hX'
    have kQ := Kp.mk hQ
    have kI := Kp.mk ih
    have kS := Kp.mk hsw
    have kZ := Kp.mk hss
    have kx := Kp.mk hX
    clear hX' hQ ih hsw hss hX
    refine Wcall_K (N := 50) hm hR1 101000 (lst [24]) ok101 Tryd.func101 rfl rfl (by simp) (by kernel_rfl) ?_
    repeat' (first | refine rq fun _ => ?_ | simp only [go_sem, HHk, Tryd.f101, *])
    refine WK_loop hm hR1 101000 (lst [24]) (ι := LoopG f.words.length (n + 1) fun _ => True)
      ⟨fun q => ⟨frL [(1, .fz (.sl (bd.map enc))), (2, .ptr (76003, 1) 0), (3, .ptr (76004, 2) 0), (4, .ptr (101004, n) 0), (11, .fz (.sl (f.words.map enc))), (12, .fz (.i .i64 f.words.length)), (13, .fz (.i .i64 q.i))],
        hpX (((101004, n), some ⟨[.fz (.i .i64 f.kind), .fz (.s f.name.l), .fz (.sl (f.words.map enc)), .fz (.sl (f.subs.map enc))], true, false⟩) :: HHk (A q.i) q.g) X, q.m⟩, fun q => f.words.length - q.i⟩
      ⟨0, g, n + 1, by omega, by omega, by omega, trivial⟩ (by kernel_rfl) ?_ ?_
    · refine Weak_toX ?_ ?_ (fun id o ho => ?_) ?_
      · simp only [go_sem]
      · simp only [go_sem, HHk, hA0]
      · refine kX.out id o ho fun h1 => ?_
        ((repeat' (first | exact trivial | apply And.intro)) <;> (rintro rfl; simp only at h1; omega))
      · simp only [go_sem]
    rintro ⟨i, g1, m1, hi, hg1, hm1, _⟩
    try simp only at hi hg1 hm1
    rcases Nat.lt_or_ge i f.words.length with h1 | h1
    · have hfl := kB.out i h1
      have hl1 := kA.out i
      have hl2 := kA.out (i + 1)
      by_cases hin : f.words[i] ∈ bd
      · rw [if_pos hin, List.append_nil] at hfl
        repeat' (first | refine rq fun _ => ?_ | simp only [go_sem, HHk, h1, hin, str_eta, getD_map_lt, Tryd.f101])
        refine ⟨⟨i + 1, g1, m1, by omega, by omega, by omega, trivial⟩, by simp only; omega, ?_⟩
        refine Weak_toX ?_ ?_ (fun id o ho => ?_) ?_
        · simp only [go_sem]
        · simp only [go_sem, HHk, hfl]
        · refine kX.out id o ho fun h1 => ?_
          ((repeat' (first | exact trivial | apply And.intro)) <;> (rintro rfl; simp only at h1; omega))
        · simp only [go_sem]
      · rw [if_neg hin] at hfl
        have hl3 : (flatFz ((A i).map enc)).length = (A i).length := by rw [flat_len1 (lens_map (f := enc) (k := 1) (fun _ => rfl) _), List.length_map]
        repeat' (first | refine rq fun _ => ?_ | refine ReqK.i (fits_of2 (by omega) (by decide)) fun _ => ?_ | simp only [go_sem, HHk, h1, hin, str_eta, getD_map_lt, Tryd.f101])
        refine ⟨⟨i + 1, m1, m1 + 1, by omega, by omega, by omega, trivial⟩, by simp only; omega, ?_⟩
        refine Weak_toX ?_ ?_ (fun id o ho => ?_) ?_
        · simp only [go_sem]
        · simp only [go_sem, HHk, hfl, flat_snocS]
        · refine kX.out id o ho fun h1 => ?_
          ((repeat' (first | exact trivial | apply And.intro)) <;> (rintro rfl; simp only at h1; omega))
        · simp only [go_sem]
    · obtain rfl : i = f.words.length := by omega
      have hAe := kC.out
      obtain ⟨bd2, hbd⟩ : ∃ bd2, bd2 = if isQ f.kind then bd ++ [f.name] else bd := ⟨_, rfl⟩
      rw [← hbd] at hlen
      obtain ⟨B, hB⟩ : ∃ B : Nat → List Str, B = fun j => A f.words.length ++ csts (f.subs.take j) bd2 := ⟨_, rfl⟩
      have hB0 : B 0 = A f.words.length := by rw [hB]; simp [csts]
      have hBs : ∀ j (h : j < f.subs.length), B (j + 1) = B j ++ cst f.subs[j] bd2 := fun j h => by rw [hB]; simp only [csts_take_succ h, List.append_assoc]
      have hBl : ∀ j, (B j).length ≤ 1000000 := fun j => by rw [hB, List.length_append, hAe, List.length_append]; have := @csts_take_len f.subs bd2 j; omega
      have hBe : B f.subs.length = acc ++ cst f bd := by rw [hB, cst_eq, ← hbd, hAe]; simp only [List.take_length, List.append_assoc]
      have hb2 : bd2.length ≤ bd.length + 1 := by
        rw [hbd]; split
        · simp
        · omega
      have kBs := Kp.mk hBs
      have kBl := Kp.mk hBl
      have kBe := Kp.mk hBe
      clear hBs hBl hBe hB hAe
      rcases Decidable.em (isQ f.kind) with hq | hq
      all_goals
        (first | rw [if_pos hq] at hbd | rw [if_neg hq] at hbd)
        unfold isQ at hq
        repeat' (first | refine rq fun _ => ?_ | refine ReqK.i (fits_of2 (by omega) (by decide)) fun _ => ?_ | simp only [go_sem, HHk, hq, Nat.lt_irrefl, str_eta, Tryd.f101])
        refine WK_loop hm hR1 101000 (lst [24]) (ι := LoopG f.subs.length (n + 1) fun _ => True)
          ⟨fun q => ⟨frL [(1, .fz (.sl (bd2.map enc))), (2, .ptr (76003, 1) 0), (3, .ptr (76004, 2) 0), (39, .fz (.sl (f.subs.map enc))), (40, .fz (.i .i64 f.subs.length)), (41, .fz (.i .i64 q.i))], hpX (HHk (B q.i) q.g) X, q.m⟩, fun q => f.subs.length - q.i⟩
          ⟨0, g1, m1, by omega, by omega, by omega, trivial⟩ (by kernel_rfl) ?_ ?_
        · refine Weak_toX ?_ ?_ (fun id o ho => ?_) ?_
          · simp only [go_sem, hbd, List.map_append]
          · simp only [go_sem, HHk, hB0]
          · refine kX.out id o ho fun h1 => ?_
            ((repeat' (first | exact trivial | apply And.intro)) <;> (rintro rfl; simp only at h1; omega))
          · simp only [go_sem]
        rintro ⟨j, g2, m2, hj, hg2, hm2, _⟩
        try simp only at hj hg2 hm2
        rcases Nat.lt_or_ge j f.subs.length with h2 | h2
        · have hmem := List.getElem_mem h2
          have hBj := kBs.out j h2
          have hl4 := kBl.out (j + 1)
          have hz := kZ.out _ hmem
          rw [hBj, List.length_append] at hl4
          have ih2 := kI.out f.subs[j] bd2 (B j) g2 (m2 + 1) X hz.1 (kS.out _ hmem) (by omega) (by omega) hl4 (by omega) (fun id o ho => by have := kx.out id o ho; omega)
          rw [enc_form] at ih2
          repeat' (first | refine rq fun _ => ?_ | simp only [go_sem, HHk, h2, getD_map_lt, Tryd.f101])
          refine WcallK.i (Wcall_hd rfl (Wcall_toX (by simp only [go_sem, argL]) (by simp only [go_sem, HHk]) (fun id o ho => ?_) (Nat.le_refl _) (Wcall_mono ih2 ?_)))
          · refine kX.out id o ho fun h1 => ?_
            ((repeat' (first | exact trivial | apply And.intro)) <;> (rintro rfl; simp only at h1; omega))
          rintro d' H' n' ⟨rfl, e1, ⟨g3, hg3, e2⟩, e3⟩
          rw [← hBj] at e2
          simp only [go_sem, HHk] at e2
          obtain ⟨b1, b2, b3⟩ := e2
          rw [show H' = hpX [] H' from rfl]
          repeat' (first | refine rq fun _ => ?_ | simp only [go_sem, HHk, h2, Tryd.f101])
          refine ⟨⟨j + 1, g3, n', by omega, by omega, by omega, trivial⟩, by simp only; omega, ?_⟩
          refine Weak_toX ?_ ?_ (fun id o ho => ?_) ?_
          · simp only [go_sem]
          · simp only [go_sem, HHk, b1, b2, b3]
          · exact e3 id o ho
          · simp only [go_sem]
        · obtain rfl : j = f.subs.length := by omega
          repeat' (first | refine rq fun _ => ?_ | simp only [go_sem, HHk, Nat.lt_irrefl, Tryd.f101])
          rw [kQ.out]
          refine ⟨rfl, by omega, ⟨g2, by omega, ?_⟩, fun id o ho => kX.out id o ho fun h1 => ?_⟩
          · rw [← kBe.out]; simp only [go_sem, HHk]
          · ((repeat' (first | exact trivial | apply And.intro)) <;> (rintro rfl; simp only at h1; omega))
end Go.Proofs.YtdlioodgfopmfaaDoor

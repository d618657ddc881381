import Derived.Test.YtoicheicnbjfeaaDoorAT
import Derived.Test.YtoicheicnbjfeaaDoorQ34
import Derived.Test.YtoicheicnbjfeaaDoorLW
set_option linter.unusedSimpArgs false
namespace Go.Abs
open Go
section
variable {P : Program} {G : Nat → List FD} {T : Tbl}
/-- a recursive function of one argument with two results -/
theorem sp1p_rec {α ρ σ : Type} [Enc α] [Enc ρ] [Enc σ] {f : FuncId} {g : α → ρ × σ} {pre : α → Prop} (m : α → Nat) (hc : CallOk P f) (hT : TblOk P G T)
    (h : ∀ n, TblOk P G (T.add f (sp1p g fun a => m a < n ∧ pre a)) → ∀ a, m a = n → pre a → (enc a).Wf → Wcall P G f [.fz (enc a)] (hpL []) 0 (fun d _ _ => D.val d = some (.tup [.fz (enc (g a).1), .fz (enc (g a).2)]))) : TblOk P G (T.add f (sp1p g pre)) := by
  have key : ∀ n, TblOk P G (T.add f (sp1p g fun a => m a < n ∧ pre a)) := by
    intro n
    induction n with
    | zero => exact sp1p_ok hc hT fun a ha => by omega
    | succ n ih =>
      refine sp1p_ok hc hT fun a ha hw => ?_
      rcases Nat.lt_or_ge (m a) n with h1 | h1
      · have h2 := ih f (sp1p g fun a => m a < n ∧ pre a) [enc a] _ _ (by simp [Tbl.add]) (k_sp1p) ⟨by rw [dec_enc], by rw [dec_enc]; exact ⟨h1, ha.2⟩⟩
        rw [dec_enc, H0_eq] at h2
        exact h2
      · exact h n ih a (by omega) ha.2 hw
  refine sp1p_ok hc hT fun a ha hw => h (m a) (key _) a rfl ha hw
end
theorem size_eq {f : Abs.Form} : f.size = Form.sizes f.subs + 1 := by cases f; rw [Form.size]; rfl
theorem depth_eq {f : Abs.Form} : f.depth = Form.depths f.subs + 1 := by cases f; rw [Form.depth]; rfl
theorem sizes_take_succ {fs : List Abs.Form} {j : Nat} (h : j < fs.length) : Form.sizes (fs.take (j + 1)) = Form.sizes (fs.take j) + fs[j].size := by
  rw [List.take_succ_eq_append_getElem h, Form.sizes_app, Form.sizes, Form.sizes]; omega
theorem depths_take_succ {fs : List Abs.Form} {j : Nat} (h : j < fs.length) : Form.depths (fs.take (j + 1)) = max (Form.depths (fs.take j)) fs[j].depth := by
  rw [List.take_succ_eq_append_getElem h, Form.depths_app, Form.depths, Form.depths]; omega
theorem depths_take_le {fs : List Abs.Form} (j : Nat) : Form.depths (fs.take j) ≤ Form.depths fs := by
  have := congrArg Form.depths (List.take_append_drop j fs)
  rw [Form.depths_app] at this; omega
end Go.Abs
namespace Go.Proofs.YtoicheicnbjfeaaDoor
open Go Go.Abs Go.Proofs

/-! ## size, depth, limits -/
def szPre (f : Abs.Form) : Prop := f.fit = true ∧ f.size ≤ 1000000
def R12 : Tbl := R11.add 87 (sp1 (fun f : Abs.Form => (f.size : Int)) szPre)
set_option maxRecDepth 100000 in
set_option maxHeartbeats 1000000 in
theorem hR12 : TblOk Tryd.prog GA R12 := by
  refine sp1_rec Form.size ok87 hR11 fun n hT f hn hpre _ => ?_
  obtain ⟨hfit, hsz⟩ := hpre
  obtain ⟨_, hsl, hfs⟩ := Form.fit_eq hfit
  have hse := @size_eq f
  have hr : ∀ g ∈ f.subs, g.size < n ∧ szPre g := fun g hg => ⟨by have := Form.size_sub hg; omega, Form.fits_mem hfs hg, by have := Form.size_sub hg; omega⟩
  have kT := Kp.mk hT
  have kr := Kp.mk hr
  obtain ⟨S, hS⟩ : ∃ S : Nat → Nat, S = fun j => Form.sizes (f.subs.take j) + 1 := ⟨_, rfl⟩
  have hS0 : S 0 = 1 := by rw [hS]; simp [Form.sizes]
  have hSs : ∀ j (h : j < f.subs.length), S (j + 1) = S j + f.subs[j].size := fun j h => by rw [hS]; simp only [sizes_take_succ h]; omega
  have hSl : ∀ j (h : j < f.subs.length), S j + f.subs[j].size ≤ 1000001 := fun j h => by have := sizes_take h; rw [hS]; simp only; omega
  have hSe : f.size = S f.subs.length := by rw [hS, hse]; simp only [List.take_length]
  have kS := Kp.mk hSs
  have kL := Kp.mk hSl
  rw [hSe]
  clear hT hr hS hSs hSl hSe hfit hfs hn
  refine Wcall_K (N := 21) hm kT.out 87000 (lst []) ok87 Tryd.func87 rfl rfl (by simp) (by kernel_rfl) ?_
  repeat' (first | refine ReqK.i (by omega) fun _ => ?_ | simp only [go_sem, Tryd.f87, R11, R10, R9, R8, R7, R6, R5, R4, R3, R2, R1, Q20, Q19, Q18, Q17, Q16, Q15, Q14, Q13, Q12, Q11, Q10, Q9, Q8, Q7, Q6, Q5, Q4, Q3, Q2, Q1, Tbl0])
  refine WK_weak2 (Weak_rpL (id := (87001, 0)) (t := 1) (b := true) (ys := [.i .i64 f.kind, .s f.name.l, .sl (f.words.map enc), .sl (f.subs.map enc)]) (by simp only [go_sem]) (by simp only [go_sem])) ?_
  refine WK_loop hm kT.out 87000 (lst []) (ι := LoopI f.subs.length fun _ => True)
    ⟨fun q => ⟨frL [(1, .rp [.i .i64 f.kind, .s f.name.l, .sl (f.words.map enc), .sl (f.subs.map enc)]), (3, .fz (.i .i64 (S q.i : Nat))), (7, .fz (.i .i64 f.subs.length)), (8, .fz (.i .i64 q.i))], hpL [], 1⟩, fun q => f.subs.length - q.i⟩
    ⟨0, by omega, trivial⟩ (by kernel_rfl) ?_ ?_
  · refine Weak_to ?_ ?_ ?_ <;> simp only [go_sem, hS0]
    all_goals first | done | rfl
  rintro ⟨j, hj, _⟩
  try simp only at hj
  rcases Nat.lt_or_ge j f.subs.length with h2 | h2
  · have hss := kS.out j h2
    have hsl2 := kL.out j h2
    have hr := kr.out _ (List.getElem_mem h2)
    obtain ⟨x, hx⟩ : ∃ x, f.subs[j] = x := ⟨_, rfl⟩
    rw [hx] at hss hsl2 hr
    repeat' (first | refine ReqK.i (by omega) fun _ => ?_ | refine ReqK.i hr fun _ => ?_ | simp only [go_sem, h2, hx, getD_map_lt, Tryd.f87, R11, R10, R9, R8, R7, R6, R5, R4, R3, R2, R1, Q20, Q19, Q18, Q17, Q16, Q15, Q14, Q13, Q12, Q11, Q10, Q9, Q8, Q7, Q6, Q5, Q4, Q3, Q2, Q1, Tbl0])
    refine ⟨⟨j + 1, by omega, trivial⟩, by simp only; omega, ?_⟩
    refine Weak_to ?_ ?_ ?_ <;> simp only [go_sem, hss, Int.natCast_add]
    all_goals first | done | rfl
  · obtain rfl : j = f.subs.length := by omega
    repeat' (first | refine ReqK.i (by omega) fun _ => ?_ | simp only [go_sem, Nat.lt_irrefl, Tryd.f87, R11, R10, R9, R8, R7, R6, R5, R4, R3, R2, R1, Q20, Q19, Q18, Q17, Q16, Q15, Q14, Q13, Q12, Q11, Q10, Q9, Q8, Q7, Q6, Q5, Q4, Q3, Q2, Q1, Tbl0])
def R13 : Tbl := R12.add 88 (sp1 (fun f : Abs.Form => (f.depth : Int)) szPre)
set_option maxRecDepth 100000 in
set_option maxHeartbeats 1000000 in
theorem hR13 : TblOk Tryd.prog GA R13 := by
  refine sp1_rec Form.size ok88 hR12 fun n hT f hn hpre _ => ?_
  obtain ⟨hfit, hsz⟩ := hpre
  obtain ⟨_, hsl, hfs⟩ := Form.fit_eq hfit
  have hde := f.depth_size
  have hse := @depth_eq f
  have hr : ∀ g ∈ f.subs, g.size < n ∧ szPre g := fun g hg => ⟨by have := Form.size_sub hg; omega, Form.fits_mem hfs hg, by have := Form.size_sub hg; omega⟩
  have kT := Kp.mk hT
  have kr := Kp.mk hr
  obtain ⟨S, hS⟩ : ∃ S : Nat → Nat, S = fun j => Form.depths (f.subs.take j) := ⟨_, rfl⟩
  have hS0 : S 0 = 0 := by rw [hS]; simp [Form.depths]
  have hSs : ∀ j (h : j < f.subs.length), S (j + 1) = max (S j) f.subs[j].depth := fun j h => by rw [hS]; simp only [depths_take_succ h]
  have hSl : ∀ j, S j ≤ 1000000 := fun j => by have := depths_take_le (fs := f.subs) j; rw [hS]; simp only; omega
  have hSe : f.depth = S f.subs.length + 1 := by rw [hS, hse]; simp only [List.take_length]
  have kS := Kp.mk hSs
  have hSn := hSl f.subs.length
  rw [hSe]
  clear hT hr hS hSs hSl hSe hfit hfs hn
  refine Wcall_K (N := 25) hm kT.out 88000 (lst []) ok88 Tryd.func88 rfl rfl (by simp) (by kernel_rfl) ?_
  repeat' (first | refine ReqK.i (by omega) fun _ => ?_ | simp only [go_sem, Tryd.f88, R12, R11, R10, R9, R8, R7, R6, R5, R4, R3, R2, R1, Q20, Q19, Q18, Q17, Q16, Q15, Q14, Q13, Q12, Q11, Q10, Q9, Q8, Q7, Q6, Q5, Q4, Q3, Q2, Q1, Tbl0])
  refine WK_weak2 (Weak_rpL (id := (88001, 0)) (t := 1) (b := true) (ys := [.i .i64 f.kind, .s f.name.l, .sl (f.words.map enc), .sl (f.subs.map enc)]) (by simp only [go_sem]) (by simp only [go_sem])) ?_
  refine WK_loop hm kT.out 88000 (lst []) (ι := LoopI f.subs.length fun _ => True)
    ⟨fun q => ⟨frL [(1, .rp [.i .i64 f.kind, .s f.name.l, .sl (f.words.map enc), .sl (f.subs.map enc)]), (3, .fz (.i .i64 (S q.i : Nat))), (8, .fz (.i .i64 f.subs.length)), (9, .fz (.i .i64 q.i))], hpL [], 1⟩, fun q => f.subs.length - q.i⟩
    ⟨0, by omega, trivial⟩ (by kernel_rfl) ?_ ?_
  · refine Weak_to ?_ ?_ ?_ <;> simp only [go_sem, hS0]
    all_goals first | done | rfl
  rintro ⟨j, hj, _⟩
  try simp only at hj
  rcases Nat.lt_or_ge j f.subs.length with h2 | h2
  · have hss := kS.out j h2
    have hr := kr.out _ (List.getElem_mem h2)
    obtain ⟨x, hx⟩ : ∃ x, f.subs[j] = x := ⟨_, rfl⟩
    rw [hx] at hss hr
    rcases Nat.lt_or_ge (S j) x.depth with h3 | h3
    · have h3' : (S j : Int) < (x.depth : Int) := by omega
      have h4 : S (j + 1) = x.depth := by omega
      repeat' (first | refine ReqK.i (by omega) fun _ => ?_ | refine ReqK.i hr fun _ => ?_ | simp only [go_sem, h2, hx, h3, h3', getD_map_lt, Tryd.f88, R12, R11, R10, R9, R8, R7, R6, R5, R4, R3, R2, R1, Q20, Q19, Q18, Q17, Q16, Q15, Q14, Q13, Q12, Q11, Q10, Q9, Q8, Q7, Q6, Q5, Q4, Q3, Q2, Q1, Tbl0])
      refine ⟨⟨j + 1, by omega, trivial⟩, by simp only; omega, ?_⟩
      refine Weak_to ?_ ?_ ?_ <;> simp only [go_sem, h4]
    · have h3' : ¬ (S j : Int) < (x.depth : Int) := by omega
      have h3'' : ¬ S j < x.depth := by omega
      have h4 : S (j + 1) = S j := by omega
      repeat' (first | refine ReqK.i (by omega) fun _ => ?_ | refine ReqK.i hr fun _ => ?_ | simp only [go_sem, h2, hx, h3', h3'', getD_map_lt, Tryd.f88, R12, R11, R10, R9, R8, R7, R6, R5, R4, R3, R2, R1, Q20, Q19, Q18, Q17, Q16, Q15, Q14, Q13, Q12, Q11, Q10, Q9, Q8, Q7, Q6, Q5, Q4, Q3, Q2, Q1, Tbl0])
      refine ⟨⟨j + 1, by omega, trivial⟩, by simp only; omega, ?_⟩
      refine Weak_to ?_ ?_ ?_ <;> simp only [go_sem, h4]
  · obtain rfl : j = f.subs.length := by omega
    repeat' (first | refine ReqK.i (by omega) fun _ => ?_ | simp only [go_sem, Nat.lt_irrefl, Tryd.f88, R12, R11, R10, R9, R8, R7, R6, R5, R4, R3, R2, R1, Q20, Q19, Q18, Q17, Q16, Q15, Q14, Q13, Q12, Q11, Q10, Q9, Q8, Q7, Q6, Q5, Q4, Q3, Q2, Q1, Tbl0])
    all_goals first | done | rfl
def R14 : Tbl := R13.add 118 (sp1 fitsM szPre)
set_option maxRecDepth 100000 in
set_option maxHeartbeats 1000000 in
theorem hR14 : TblOk Tryd.prog GA R14 := by
  refine sp1_ok ok118 hR13 fun f hpre _ => ?_
  refine Wcall_K (N := 11) hm hR13 118000 (lst []) ok118 Tryd.func118 rfl rfl (by simp) (by kernel_rfl) ?_
  by_cases h1 : f.size ≤ 200
  · have h1' : (f.size : Int) ≤ 200 := by omega
    by_cases h2 : f.depth ≤ 40
    · have h2' : (f.depth : Int) ≤ 40 := by omega
      have e : fitsM f = true := decide_eq_true ⟨h1, h2⟩
      repeat' (first | refine ReqK.i (by omega) fun _ => ?_ | refine ReqK.i hpre fun _ => ?_ | simp only [go_sem, h1', h2', e, form_eta, Tryd.f118, R13, R12, R11, R10, R9, R8, R7, R6, R5, R4, R3, R2, R1, Q20, Q19, Q18, Q17, Q16, Q15, Q14, Q13, Q12, Q11, Q10, Q9, Q8, Q7, Q6, Q5, Q4, Q3, Q2, Q1, Tbl0])
    · have h2' : ¬ (f.depth : Int) ≤ 40 := by omega
      have e : fitsM f = false := decide_eq_false fun h => h2 h.2
      repeat' (first | refine ReqK.i (by omega) fun _ => ?_ | refine ReqK.i hpre fun _ => ?_ | simp only [go_sem, h1', h2', e, form_eta, Tryd.f118, R13, R12, R11, R10, R9, R8, R7, R6, R5, R4, R3, R2, R1, Q20, Q19, Q18, Q17, Q16, Q15, Q14, Q13, Q12, Q11, Q10, Q9, Q8, Q7, Q6, Q5, Q4, Q3, Q2, Q1, Tbl0])
  · have h1' : ¬ (f.size : Int) ≤ 200 := by omega
    have e : fitsM f = false := decide_eq_false fun h => h1 h.1
    repeat' (first | refine ReqK.i (by omega) fun _ => ?_ | refine ReqK.i hpre fun _ => ?_ | simp only [go_sem, h1', e, form_eta, Tryd.f118, R13, R12, R11, R10, R9, R8, R7, R6, R5, R4, R3, R2, R1, Q20, Q19, Q18, Q17, Q16, Q15, Q14, Q13, Q12, Q11, Q10, Q9, Q8, Q7, Q6, Q5, Q4, Q3, Q2, Q1, Tbl0])
def R15 : Tbl := R14.add 158 (sp1p (fun f : Abs.Form => ((f.size : Int), (f.depth : Int))) szPre)
set_option maxRecDepth 100000 in
set_option maxHeartbeats 1000000 in
theorem hR15 : TblOk Tryd.prog GA R15 := by
  refine sp1p_rec Form.size ok158 hR14 fun n hT f hn hpre _ => ?_
  obtain ⟨hfit, hsz⟩ := hpre
  obtain ⟨_, hsl, hfs⟩ := Form.fit_eq hfit
  have hse := @size_eq f
  have hdd := f.depth_size
  have hde := @depth_eq f
  have hr : ∀ g ∈ f.subs, g.size < n ∧ szPre g := fun g hg => ⟨by have := Form.size_sub hg; omega, Form.fits_mem hfs hg, by have := Form.size_sub hg; omega⟩
  have kT := Kp.mk hT
  have kr := Kp.mk hr
  obtain ⟨S, hS⟩ : ∃ S : Nat → Nat, S = fun j => Form.sizes (f.subs.take j) + 1 := ⟨_, rfl⟩
  have hS0 : S 0 = 1 := by rw [hS]; simp [Form.sizes]
  have hSs : ∀ j (h : j < f.subs.length), S (j + 1) = S j + f.subs[j].size := fun j h => by rw [hS]; simp only [sizes_take_succ h]; omega
  have hSl : ∀ j (h : j < f.subs.length), S j + f.subs[j].size ≤ 1000001 := fun j h => by have := sizes_take h; rw [hS]; simp only; omega
  have hSe : f.size = S f.subs.length := by rw [hS, hse]; simp only [List.take_length]
  obtain ⟨E, hE⟩ : ∃ E : Nat → Nat, E = fun j => Form.depths (f.subs.take j) := ⟨_, rfl⟩
  have hE0 : E 0 = 0 := by rw [hE]; simp [Form.depths]
  have hEs : ∀ j (h : j < f.subs.length), E (j + 1) = max (E j) f.subs[j].depth := fun j h => by rw [hE]; simp only [depths_take_succ h]
  have hEl : ∀ j, E j ≤ 1000000 := fun j => by have := depths_take_le (fs := f.subs) j; rw [hE]; simp only; omega
  have hEe : f.depth = E f.subs.length + 1 := by rw [hE, hde]; simp only [List.take_length]
  have hEn := hEl f.subs.length
  have kS := Kp.mk hSs
  have kL := Kp.mk hSl
  have kE := Kp.mk hEs
  rw [hSe, hEe]
  clear hT hr hS hSs hSl hSe hE hEs hEl hEe hfit hfs hn
  refine Wcall_K (N := 32) hm kT.out 158000 (lst []) ok158 Tryd.func158 rfl rfl (by simp) (by kernel_rfl) ?_
  repeat' (first | refine ReqK.i (by omega) fun _ => ?_ | simp only [go_sem, Tryd.f158, R14, R13, R12, R11, R10, R9, R8, R7, R6, R5, R4, R3, R2, R1, Q20, Q19, Q18, Q17, Q16, Q15, Q14, Q13, Q12, Q11, Q10, Q9, Q8, Q7, Q6, Q5, Q4, Q3, Q2, Q1, Tbl0])
  refine WK_weak2 (Weak_rpL (id := (158001, 0)) (t := 1) (b := true) (ys := [.i .i64 f.kind, .s f.name.l, .sl (f.words.map enc), .sl (f.subs.map enc)]) (by simp only [go_sem]) (by simp only [go_sem])) ?_
  refine WK_loop hm kT.out 158000 (lst []) (ι := LoopM f.subs.length 1 fun _ => True)
    ⟨fun q => ⟨frL [(4, .fz (.i .i64 (S q.i : Nat))), (5, .fz (.i .i64 (E q.i : Nat))), (11, .fz (.sl (f.subs.map enc))), (12, .fz (.i .i64 f.subs.length)), (13, .fz (.i .i64 q.i))], hpL [], q.m⟩, fun q => f.subs.length - q.i⟩
    ⟨0, 1, by omega, by omega, trivial⟩ (by kernel_rfl) ?_ ?_
  · refine Weak_to ?_ ?_ ?_ <;> simp only [go_sem, hS0, hE0]
    all_goals first | done | rfl
  rintro ⟨j, m, hj, hm1, _⟩
  try simp only at hj hm1
  rcases Nat.lt_or_ge j f.subs.length with h2 | h2
  · have hss := kS.out j h2
    have hes := kE.out j h2
    have hsl2 := kL.out j h2
    have hr := kr.out _ (List.getElem_mem h2)
    obtain ⟨x, hx⟩ : ∃ x, f.subs[j] = x := ⟨_, rfl⟩
    rw [hx] at hss hsl2 hr hes
    repeat' (first | refine ReqK.i (by omega) fun _ => ?_ | refine ReqK.i hr fun _ => ?_ | simp only [go_sem, h2, hx, getD_map_lt, Tryd.f158, R14, R13, R12, R11, R10, R9, R8, R7, R6, R5, R4, R3, R2, R1, Q20, Q19, Q18, Q17, Q16, Q15, Q14, Q13, Q12, Q11, Q10, Q9, Q8, Q7, Q6, Q5, Q4, Q3, Q2, Q1, Tbl0])
    refine ⟨⟨j + 1, m + 1, by omega, by omega, trivial⟩, by simp only; omega, ?_⟩
    refine Weak_to ?_ ?_ ?_ <;> simp only [go_sem, hss, hes, Int.natCast_add]
    all_goals first | done | rfl | omega
  · obtain rfl : j = f.subs.length := by omega
    repeat' (first | refine ReqK.i (by omega) fun _ => ?_ | simp only [go_sem, Nat.lt_irrefl, Tryd.f158, R14, R13, R12, R11, R10, R9, R8, R7, R6, R5, R4, R3, R2, R1, Q20, Q19, Q18, Q17, Q16, Q15, Q14, Q13, Q12, Q11, Q10, Q9, Q8, Q7, Q6, Q5, Q4, Q3, Q2, Q1, Tbl0])
    all_goals first | done | rfl
def R16 : Tbl := R15.add 122 (sp1 fitsM szPre)
set_option maxRecDepth 100000 in
set_option maxHeartbeats 1000000 in
theorem hR16 : TblOk Tryd.prog GA R16 := by
  refine sp1_ok ok122 hR15 fun f hpre _ => ?_
  refine Wcall_K (N := 16) hm hR15 122000 (lst []) ok122 Tryd.func122 rfl rfl (by simp) (by kernel_rfl) ?_
  by_cases h1 : f.size ≤ 200
  · have h1' : (f.size : Int) ≤ 200 := by omega
    by_cases h2 : f.depth ≤ 40
    · have h2' : (f.depth : Int) ≤ 40 := by omega
      have e : fitsM f = true := decide_eq_true ⟨h1, h2⟩
      repeat' (first | refine ReqK.i (by omega) fun _ => ?_ | refine ReqK.i hpre fun _ => ?_ | simp only [go_sem, h1', h2', e, form_eta, Tryd.f122, R15, R14, R13, R12, R11, R10, R9, R8, R7, R6, R5, R4, R3, R2, R1, Q20, Q19, Q18, Q17, Q16, Q15, Q14, Q13, Q12, Q11, Q10, Q9, Q8, Q7, Q6, Q5, Q4, Q3, Q2, Q1, Tbl0])
    · have h2' : ¬ (f.depth : Int) ≤ 40 := by omega
      have e : fitsM f = false := decide_eq_false fun h => h2 h.2
      repeat' (first | refine ReqK.i (by omega) fun _ => ?_ | refine ReqK.i hpre fun _ => ?_ | simp only [go_sem, h1', h2', e, form_eta, Tryd.f122, R15, R14, R13, R12, R11, R10, R9, R8, R7, R6, R5, R4, R3, R2, R1, Q20, Q19, Q18, Q17, Q16, Q15, Q14, Q13, Q12, Q11, Q10, Q9, Q8, Q7, Q6, Q5, Q4, Q3, Q2, Q1, Tbl0])
  · have h1' : ¬ (f.size : Int) ≤ 200 := by omega
    have e : fitsM f = false := decide_eq_false fun h => h1 h.1
    repeat' (first | refine ReqK.i (by omega) fun _ => ?_ | refine ReqK.i hpre fun _ => ?_ | simp only [go_sem, h1', e, form_eta, Tryd.f122, R15, R14, R13, R12, R11, R10, R9, R8, R7, R6, R5, R4, R3, R2, R1, Q20, Q19, Q18, Q17, Q16, Q15, Q14, Q13, Q12, Q11, Q10, Q9, Q8, Q7, Q6, Q5, Q4, Q3, Q2, Q1, Tbl0])
end Go.Proofs.YtoicheicnbjfeaaDoor

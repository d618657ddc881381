import Derived.Test.YtdlioodgfopmfaaDoorA3
namespace Go.Abs
open Go

/-! more table entries -/
section
variable {P : Program} {G : Nat → List FD} {T : Tbl}
def sp0 {ρ : Type} [Enc ρ] (f : ρ) : List FD → Option (D × Prop)
  | [] => some (.fz (enc f), True)
  | _ => none
@[go_sem] theorem k_sp0 {ρ : Type} [Enc ρ] {f : ρ} : sp0 f [] = some (.fz (enc f), True) := rfl
theorem sp0_ok {ρ : Type} [Enc ρ] {f : FuncId} {g : ρ} (hT : TblOk P G T)
    (h : Wcall P G f [] (hpL []) 0 (fun d _ _ => D.val d = some (.fz (enc g)))) : TblOk P G (T.add f (sp0 g)) := by
  refine TblOk_add hT fun xs r c hx _ => ?_
  unfold sp0 at hx
  split at hx
  · simp only [Option.some.injEq, Prod.mk.injEq] at hx
    obtain ⟨rfl, rfl⟩ := hx
    rw [H0_eq]
    exact h
  · cases hx
def sp4 {α β γ δ ρ : Type} [Enc α] [Enc β] [Enc γ] [Enc δ] [Enc ρ] (f : α → β → γ → δ → ρ) (pre : α → β → γ → δ → Prop) : List FD → Option (D × Prop)
  | [x, y, z, w] => some (.fz (enc (f (dec x) (dec y) (dec z) (dec w))), x = enc (dec (α := α) x) ∧ y = enc (dec (α := β) y) ∧ z = enc (dec (α := γ) z) ∧ w = enc (dec (α := δ) w) ∧ pre (dec x) (dec y) (dec z) (dec w))
  | _ => none
@[go_sem] theorem k_sp4 {α β γ δ ρ : Type} [Enc α] [Enc β] [Enc γ] [Enc δ] [Enc ρ] {f : α → β → γ → δ → ρ} {pre : α → β → γ → δ → Prop} {x y z w : FD} : sp4 f pre [x, y, z, w] = some (.fz (enc (f (dec x) (dec y) (dec z) (dec w))), x = enc (dec (α := α) x) ∧ y = enc (dec (α := β) y) ∧ z = enc (dec (α := γ) z) ∧ w = enc (dec (α := δ) w) ∧ pre (dec x) (dec y) (dec z) (dec w)) := rfl
theorem sp4_ok {α β γ δ ρ : Type} [Enc α] [Enc β] [Enc γ] [Enc δ] [Enc ρ] {f : FuncId} {g : α → β → γ → δ → ρ} {pre : α → β → γ → δ → Prop} (hc : CallOk P f) (hT : TblOk P G T)
    (h : ∀ a b c d, pre a b c d → (enc a).Wf → (enc b).Wf → (enc c).Wf → (enc d).Wf → Wcall P G f [.fz (enc a), .fz (enc b), .fz (enc c), .fz (enc d)] (hpL []) 0 (fun r _ _ => D.val r = some (.fz (enc (g a b c d))))) : TblOk P G (T.add f (sp4 g pre)) := by
  refine TblOk_add hT fun xs r c hx hcc => ?_
  unfold sp4 at hx
  split at hx
  · rename_i x y z w
    simp only [Option.some.injEq, Prod.mk.injEq] at hx
    obtain ⟨rfl, rfl⟩ := hx
    obtain ⟨e, e2, e3, e4, hp⟩ := hcc
    refine Wcall_wf hc fun hw => ?_
    rw [H0_eq]
    have := h (dec x) (dec y) (dec z) (dec w) hp (by rw [← e]; exact hw x (by simp)) (by rw [← e2]; exact hw y (by simp)) (by rw [← e3]; exact hw z (by simp)) (by rw [← e4]; exact hw w (by simp))
    rw [← e, ← e2, ← e3, ← e4] at this
    exact this
  · cases hx
def sp2p {α β ρ σ : Type} [Enc α] [Enc β] [Enc ρ] [Enc σ] (f : α → β → ρ × σ) (pre : α → β → Prop) : List FD → Option (D × Prop)
  | [x, y] => some (.tup [.fz (enc (f (dec x) (dec y)).1), .fz (enc (f (dec x) (dec y)).2)], x = enc (dec (α := α) x) ∧ y = enc (dec (α := β) y) ∧ pre (dec x) (dec y))
  | _ => none
@[go_sem] theorem k_sp2p {α β ρ σ : Type} [Enc α] [Enc β] [Enc ρ] [Enc σ] {f : α → β → ρ × σ} {pre : α → β → Prop} {x y : FD} : sp2p f pre [x, y] = some (.tup [.fz (enc (f (dec x) (dec y)).1), .fz (enc (f (dec x) (dec y)).2)], x = enc (dec (α := α) x) ∧ y = enc (dec (α := β) y) ∧ pre (dec x) (dec y)) := rfl
theorem sp2p_ok {α β ρ σ : Type} [Enc α] [Enc β] [Enc ρ] [Enc σ] {f : FuncId} {g : α → β → ρ × σ} {pre : α → β → Prop} (hc : CallOk P f) (hT : TblOk P G T)
    (h : ∀ a b, pre a b → (enc a).Wf → (enc b).Wf → Wcall P G f [.fz (enc a), .fz (enc b)] (hpL []) 0 (fun d _ _ => D.val d = some (.tup [.fz (enc (g a b).1), .fz (enc (g a b).2)]))) : TblOk P G (T.add f (sp2p g pre)) := by
  refine TblOk_add hT fun xs r c hx hcc => ?_
  unfold sp2p at hx
  split at hx
  · rename_i x y
    simp only [Option.some.injEq, Prod.mk.injEq] at hx
    obtain ⟨rfl, rfl⟩ := hx
    obtain ⟨e, e2, hp⟩ := hcc
    refine Wcall_wf hc fun hw => ?_
    rw [H0_eq]
    have := h (dec x) (dec y) hp (by rw [← e]; exact hw x (by simp)) (by rw [← e2]; exact hw y (by simp))
    rw [← e, ← e2] at this
    exact this
  · cases hx
def sp3p {α β γ ρ σ : Type} [Enc α] [Enc β] [Enc γ] [Enc ρ] [Enc σ] (f : α → β → γ → ρ × σ) (pre : α → β → γ → Prop) : List FD → Option (D × Prop)
  | [x, y, z] => some (.tup [.fz (enc (f (dec x) (dec y) (dec z)).1), .fz (enc (f (dec x) (dec y) (dec z)).2)], x = enc (dec (α := α) x) ∧ y = enc (dec (α := β) y) ∧ z = enc (dec (α := γ) z) ∧ pre (dec x) (dec y) (dec z))
  | _ => none
@[go_sem] theorem k_sp3p {α β γ ρ σ : Type} [Enc α] [Enc β] [Enc γ] [Enc ρ] [Enc σ] {f : α → β → γ → ρ × σ} {pre : α → β → γ → Prop} {x y z : FD} : sp3p f pre [x, y, z] = some (.tup [.fz (enc (f (dec x) (dec y) (dec z)).1), .fz (enc (f (dec x) (dec y) (dec z)).2)], x = enc (dec (α := α) x) ∧ y = enc (dec (α := β) y) ∧ z = enc (dec (α := γ) z) ∧ pre (dec x) (dec y) (dec z)) := rfl
theorem sp3p_ok {α β γ ρ σ : Type} [Enc α] [Enc β] [Enc γ] [Enc ρ] [Enc σ] {f : FuncId} {g : α → β → γ → ρ × σ} {pre : α → β → γ → Prop} (hc : CallOk P f) (hT : TblOk P G T)
    (h : ∀ a b c, pre a b c → (enc a).Wf → (enc b).Wf → (enc c).Wf → Wcall P G f [.fz (enc a), .fz (enc b), .fz (enc c)] (hpL []) 0 (fun d _ _ => D.val d = some (.tup [.fz (enc (g a b c).1), .fz (enc (g a b c).2)]))) : TblOk P G (T.add f (sp3p g pre)) := by
  refine TblOk_add hT fun xs r c hx hcc => ?_
  unfold sp3p at hx
  split at hx
  · rename_i x y z
    simp only [Option.some.injEq, Prod.mk.injEq] at hx
    obtain ⟨rfl, rfl⟩ := hx
    obtain ⟨e, e2, e3, hp⟩ := hcc
    refine Wcall_wf hc fun hw => ?_
    rw [H0_eq]
    have := h (dec x) (dec y) (dec z) hp (by rw [← e]; exact hw x (by simp)) (by rw [← e2]; exact hw y (by simp)) (by rw [← e3]; exact hw z (by simp))
    rw [← e, ← e2, ← e3] at this
    exact this
  · cases hx
end

/-! bits -/
def orI (n m : Int) : Int := IntKind.wrap .i64 (BitVec.ofInt 64 n ||| BitVec.ofInt 64 m).toNat
def andI (n m : Int) : Int := IntKind.wrap .i64 (BitVec.ofInt 64 n &&& BitVec.ofInt 64 m).toNat
@[go_sem] theorem k_i_or {n m : Int} : evInt .or .i64 .i64 n m = some (.fz (.i .i64 (orI n m)), True) := by
  simp only [evInt, orI, eq_self]; rfl
@[go_sem] theorem k_i_and {n m : Int} : evInt .and .i64 .i64 n m = some (.fz (.i .i64 (andI n m)), True) := by
  simp only [evInt, andI, eq_self]; rfl

/-! own arrays of frozen data of k cells an element -/
class Kc (α : Type) [Enc α] (k : outParam Nat) : Prop where
  len : ∀ a : α, (enc a).cells.length = k
theorem lens_kc {α : Type} [Enc α] {k : Nat} [Kc α k] (l : List α) : lens (l.map enc) k := lens_map (f := enc) (k := k) Kc.len l
theorem flat_len_kc {α : Type} [Enc α] {k : Nat} [Kc α k] (l : List α) : (flatFz (l.map enc)).length = l.length * k := by
  rw [flatFz_len (lens_get (lens_kc l)), List.length_map]
theorem flat_take_kc {α : Type} [Enc α] {k : Nat} [Kc α k] (l : List α) : (flatFz (l.map enc)).take (l.length * k) = flatFz (l.map enc) :=
  List.take_of_length_le (by rw [flat_len_kc]; exact Nat.le_refl _)
theorem flat_all_fz {xs : List FD} (h : ∀ x ∈ xs, ∀ y ∈ x.cells, oneB (.fz y) = true) : (flatFz xs).all oneB = true := by
  rw [List.all_eq_true]
  intro d hd
  simp only [flatFz, List.mem_flatMap, List.mem_map] at hd
  obtain ⟨x, hx, y, hy, rfl⟩ := hd
  exact h x hx y hy
@[go_sem] theorem r_agg {n n' : Nat} {pre : Id → Id} {vn : Id → Bool} {z : Id → Option (List FD)} {H : Heap} {ds ds' : List D} : Dr n n' pre vn z H (.agg ds) (.agg ds') = Drs n n' pre vn z H ds ds' := by
  simp only [Dr, D.agg.injEq, eq_iff_iff]
  exact ⟨fun ⟨_, h1, h2⟩ => h1 ▸ h2, fun h => ⟨_, rfl, h⟩⟩
end Go.Abs

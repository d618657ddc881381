import Derived.Test.YtdlioodgfopmfaaDoorAbs39
set_option linter.unusedSimpArgs false
namespace Go.Abs
open Go

/-! ## formulas -/

inductive Form where
  | mk (kind : Int) (name : Str) (words : List Str) (subs : List Form)
namespace Form
def kind : Form → Int | mk k _ _ _ => k
def name : Form → Str | mk _ n _ _ => n
def words : Form → List Str | mk _ _ w _ => w
def subs : Form → List Form | mk _ _ _ s => s
end Form
@[go_sem] theorem form_kind {k n w s} : (Form.mk k n w s).kind = k := rfl
@[go_sem] theorem form_name {k n w s} : (Form.mk k n w s).name = n := rfl
@[go_sem] theorem form_words {k n w s} : (Form.mk k n w s).words = w := rfl
@[go_sem] theorem form_subs {k n w s} : (Form.mk k n w s).subs = s := rfl
@[go_sem] theorem form_eta {f : Form} : Form.mk f.kind f.name f.words f.subs = f := by cases f; rfl

mutual
def encF : Form → FD
  | .mk k n w s => .agg [.i .i64 k, .s n.l, .sl (w.map enc), .sl (encFs s)]
def encFs : List Form → List FD
  | [] => []
  | f :: fs => encF f :: encFs fs
end
mutual
def decF : FD → Form
  | .agg [.i _ k, .s n, .sl w, .sl s] => .mk k ⟨n⟩ (w.map dec) (decFs s)
  | _ => .mk 0 ⟨[]⟩ [] []
def decFs : List FD → List Form
  | [] => []
  | x :: xs => decF x :: decFs xs
end
theorem map_dec_enc {α : Type} [Enc α] (l : List α) : (l.map enc).map dec = l := by
  rw [List.map_map, show (dec ∘ enc : α → α) = id from funext fun a => dec_enc a]; simp
mutual
theorem decF_encF : ∀ f, decF (encF f) = f
  | .mk k n w s => by
    simp only [encF, decF, map_dec_enc, decFs_encFs s]
theorem decFs_encFs : ∀ s, decFs (encFs s) = s
  | [] => rfl
  | f :: fs => by simp only [encFs, decFs, decF_encF f, decFs_encFs fs]
end
instance : Enc Form := ⟨encF, decF, decF_encF⟩
theorem encFs_map : ∀ s : List Form, encFs s = s.map enc
  | [] => rfl
  | f :: fs => by rw [encFs, encFs_map fs]; rfl
theorem decFs_map : ∀ s : List FD, decFs s = dec (α := List Form) (.sl s)
  | [] => rfl
  | f :: fs => by rw [decFs, decFs_map fs]; rfl
@[go_sem] theorem enc_form {f : Form} : enc f = .agg [.i .i64 f.kind, .s f.name.l, .sl (f.words.map enc), .sl (f.subs.map enc)] := by
  cases f with
  | mk k n w s => show encF _ = _; rw [encF, encFs_map]; rfl
@[go_sem] theorem dec_form {i k n w s} : dec (α := Form) (.agg [.i i k, .s n, .sl w, .sl s]) = .mk k ⟨n⟩ (dec (.sl w)) (dec (.sl s)) := by
  show decF _ = _; rw [decF, decFs_map]; rfl
instance : Kc Form 4 := ⟨fun f => by rw [enc_form]; rfl⟩
@[go_sem] theorem lens_forms {l : List Form} : lens (l.map enc) 4 = True := eq_true (lens_kc l)
@[go_sem] theorem flats_forms {l : List Form} : (flatFz (l.map enc)).all oneB = true := by
  rw [List.all_eq_true]
  intro d hd
  simp only [flatFz, List.mem_flatMap, List.mem_map] at hd
  obtain ⟨_, ⟨a, _, rfl⟩, x, hx, rfl⟩ := hd
  simp only [enc_form, FD.cells, List.mem_cons, List.not_mem_nil, or_false] at hx
  rcases hx with rfl | rfl | rfl | rfl <;> rfl

mutual
def Form.beq : Form → Form → Bool
  | .mk k n w s, .mk k' n' w' s' => decide (k = k') && decide (n = n') && decide (w = w') && Form.beqs s s'
def Form.beqs : List Form → List Form → Bool
  | [], [] => true
  | f :: fs, g :: gs => Form.beq f g && Form.beqs fs gs
  | [], _ :: _ => false
  | _ :: _, [] => false
end
mutual
theorem Form.beq_iff : ∀ f g : Form, Form.beq f g = true ↔ f = g
  | .mk k n w s, .mk k' n' w' s' => by
    simp only [Form.beq, Bool.and_eq_true, decide_eq_true_eq, Form.beqs_iff s s', Form.mk.injEq]
    constructor
    · rintro ⟨⟨⟨a, b⟩, c⟩, d⟩; exact ⟨a, b, c, d⟩
    · rintro ⟨a, b, c, d⟩; exact ⟨⟨⟨a, b⟩, c⟩, d⟩
theorem Form.beqs_iff : ∀ f g : List Form, Form.beqs f g = true ↔ f = g
  | [], [] => by simp [Form.beqs]
  | f :: fs, g :: gs => by simp only [Form.beqs, Bool.and_eq_true, Form.beq_iff f g, Form.beqs_iff fs gs, List.cons.injEq]
  | [], _ :: _ => by simp [Form.beqs]
  | _ :: _, [] => by simp [Form.beqs]
end
instance : DecidableEq Form := fun f g => decidable_of_iff _ (Form.beq_iff f g)
instance : Inhabited Form := ⟨.mk 0 ⟨[]⟩ [] []⟩

mutual
def Form.size : Form → Nat
  | .mk _ _ _ s => Form.sizes s + 1
def Form.sizes : List Form → Nat
  | [] => 0
  | f :: fs => f.size + Form.sizes fs
end
theorem Form.size_mem : ∀ {l : List Form} {f : Form}, f ∈ l → f.size ≤ Form.sizes l
  | g :: l, f, h => by
    rw [Form.sizes]
    rcases List.mem_cons.1 h with rfl | h
    · omega
    · have := Form.size_mem h; omega
theorem Form.size_sub {f g : Form} (h : g ∈ f.subs) : g.size < f.size := by
  cases f with
  | mk k n w s => rw [Form.size]; have := Form.size_mem (show g ∈ s from h); omega
theorem Form.size_pos (f : Form) : 0 < f.size := by cases f; rw [Form.size]; omega

/-! ## recursion in a table -/
section
variable {P : Program} {G : Nat → List FD} {T : Tbl}
/-- a recursive function of one argument: at each size it may be called at smaller ones -/
theorem sp1_rec {α ρ : Type} [Enc α] [Enc ρ] {f : FuncId} {g : α → ρ} {pre : α → Prop} (m : α → Nat) (hc : CallOk P f) (hT : TblOk P G T)
    (h : ∀ n, TblOk P G (T.add f (sp1 g fun a => m a < n ∧ pre a)) → ∀ a, m a = n → pre a → (enc a).Wf → Wcall P G f [.fz (enc a)] (hpL []) 0 (fun d _ _ => D.val d = some (.fz (enc (g a))))) : TblOk P G (T.add f (sp1 g pre)) := by
  have key : ∀ n, TblOk P G (T.add f (sp1 g fun a => m a < n ∧ pre a)) := by
    intro n
    induction n with
    | zero => exact sp1_ok hc hT fun a ha => by omega
    | succ n ih =>
      refine sp1_ok hc hT fun a ha hw => ?_
      rcases Nat.lt_or_ge (m a) n with h1 | h1
      · have h2 := ih f (sp1 g fun a => m a < n ∧ pre a) [enc a] _ _ (by simp [Tbl.add]) (k_sp1) ⟨by rw [dec_enc], by rw [dec_enc]; exact ⟨h1, ha.2⟩⟩
        rw [dec_enc, H0_eq] at h2
        exact h2
      · exact h n ih a (by omega) ha.2 hw
  refine sp1_ok hc hT fun a ha hw => h (m a) (key _) a rfl ha hw
end
end Go.Abs

/- several texts of this proof in one; no conditions -/
import Derived.Test.YtdlioodgfopmfaaDoorY0
set_option linter.unusedSimpArgs false
namespace Go.Abs
open Go


inductive Form where
  | mk (kind : Int) (name : Str) (words : List Str) (subs : List Form)
namespace Form
def kind : Form → Int | mk k _ _ _ => k
def name : Form → Str | mk _ n _ _ => n
def words : Form → List Str | mk _ _ w _ => w
def subs : Form → List Form | mk _ _ _ s => s
end Form
@[go_sem] theorem form_kind {k n w s} : (Form.mk k n w s).kind = k := rfl
@[go_sem] theorem form_name {k n w s} : (Form.mk k n w s).name = n := rfl
@[go_sem] theorem form_words {k n w s} : (Form.mk k n w s).words = w := rfl
@[go_sem] theorem form_subs {k n w s} : (Form.mk k n w s).subs = s := rfl
@[go_sem] theorem form_eta {f : Form} : Form.mk f.kind f.name f.words f.subs = f := by cases f; rfl

mutual
def encF : Form → FD
  | .mk k n w s => .agg [.i .i64 k, .s n.l, .sl (w.map enc), .sl (encFs s)]
def encFs : List Form → List FD
  | [] => []
  | f :: fs => encF f :: encFs fs
end
mutual
def decF : FD → Form
  | .agg [.i _ k, .s n, .sl w, .sl s] => .mk k ⟨n⟩ (w.map dec) (decFs s)
  | _ => .mk 0 ⟨[]⟩ [] []
def decFs : List FD → List Form
  | [] => []
  | x :: xs => decF x :: decFs xs
end
theorem map_dec_enc {α : Type} [Enc α] (l : List α) : (l.map enc).map dec = l := by
  rw [List.map_map, show (dec ∘ enc : α → α) = id from funext fun a => dec_enc a]; simp
mutual
theorem decF_encF : ∀ f, decF (encF f) = f
  | .mk k n w s => by
    simp only [encF, decF, map_dec_enc, decFs_encFs s]
theorem decFs_encFs : ∀ s, decFs (encFs s) = s
  | [] => rfl
  | f :: fs => by simp only [encFs, decFs, decF_encF f, decFs_encFs fs]
end
instance : Enc Form := ⟨encF, decF, decF_encF⟩
theorem encFs_map : ∀ s : List Form, encFs s = s.map enc
  | [] => rfl
  | f :: fs => by rw [encFs, encFs_map fs]; rfl
theorem decFs_map : ∀ s : List FD, decFs s = dec (α := List Form) (.sl s)
  | [] => rfl
  | f :: fs => by rw [decFs, decFs_map fs]; rfl
@[go_sem] theorem enc_form {f : Form} : enc f = .agg [.i .i64 f.kind, .s f.name.l, .sl (f.words.map enc), .sl (f.subs.map enc)] := by
  cases f with
  | mk k n w s => show encF _ = _; rw [encF, encFs_map]; rfl
@[go_sem] theorem dec_form {i k n w s} : dec (α := Form) (.agg [.i i k, .s n, .sl w, .sl s]) = .mk k ⟨n⟩ (dec (.sl w)) (dec (.sl s)) := by
  show decF _ = _; rw [decF, decFs_map]; rfl
instance : Kc Form 4 := ⟨fun f => by rw [enc_form]; rfl⟩
@[go_sem] theorem lens_forms {l : List Form} : lens (l.map enc) 4 = True := eq_true (lens_kc l)
@[go_sem] theorem flats_forms {l : List Form} : (flatFz (l.map enc)).all oneB = true := by
  rw [List.all_eq_true]
  intro d hd
  simp only [flatFz, List.mem_flatMap, List.mem_map] at hd
  obtain ⟨_, ⟨a, _, rfl⟩, x, hx, rfl⟩ := hd
  simp only [enc_form, FD.cells, List.mem_cons, List.not_mem_nil, or_false] at hx
  rcases hx with rfl | rfl | rfl | rfl <;> rfl

mutual
def Form.beq : Form → Form → Bool
  | .mk k n w s, .mk k' n' w' s' => decide (k = k') && decide (n = n') && decide (w = w') && Form.beqs s s'
def Form.beqs : List Form → List Form → Bool
  | [], [] => true
  | f :: fs, g :: gs => Form.beq f g && Form.beqs fs gs
  | [], _ :: _ => false
  | _ :: _, [] => false
end
mutual
theorem Form.beq_iff : ∀ f g : Form, Form.beq f g = true ↔ f = g
  | .mk k n w s, .mk k' n' w' s' => by
    simp only [Form.beq, Bool.and_eq_true, decide_eq_true_eq, Form.beqs_iff s s', Form.mk.injEq]
    constructor
    · rintro ⟨⟨⟨a, b⟩, c⟩, d⟩; exact ⟨a, b, c, d⟩
    · rintro ⟨a, b, c, d⟩; exact ⟨⟨⟨a, b⟩, c⟩, d⟩
theorem Form.beqs_iff : ∀ f g : List Form, Form.beqs f g = true ↔ f = g
  | [], [] => by simp [Form.beqs]
  | f :: fs, g :: gs => by simp only [Form.beqs, Bool.and_eq_true, Form.beq_iff f g, Form.beqs_iff fs gs, List.cons.injEq]
  | [], _ :: _ => by simp [Form.beqs]
  | _ :: _, [] => by simp [Form.beqs]
end
instance : DecidableEq Form := fun f g => decidable_of_iff _ (Form.beq_iff f g)
instance : Inhabited Form := ⟨.mk 0 ⟨[]⟩ [] []⟩

mutual
def Form.size : Form → Nat
  | .mk _ _ _ s => Form.sizes s + 1
def Form.sizes : List Form → Nat
  | [] => 0
  | f :: fs => f.size + Form.sizes fs
end
theorem Form.size_mem : ∀ {l : List Form} {f : Form}, f ∈ l → f.size ≤ Form.sizes l
  | g :: l, f, h => by
    rw [Form.sizes]
    rcases List.mem_cons.1 h with rfl | h
    · omega
    · have := Form.size_mem h; omega
theorem Form.size_sub {f g : Form} (h : g ∈ f.subs) : g.size < f.size := by
  cases f with
  | mk k n w s => rw [Form.size]; have := Form.size_mem (show g ∈ s from h); omega
theorem Form.size_pos (f : Form) : 0 < f.size := by cases f; rw [Form.size]; omega

section
variable {P : Program} {G : Nat → List FD} {T : Tbl}
theorem sp1_rec {α ρ : Type} [Enc α] [Enc ρ] {f : FuncId} {g : α → ρ} {pre : α → Prop} (m : α → Nat) (hc : CallOk P f) (hT : TblOk P G T)
    (h : ∀ n, TblOk P G (T.add f (sp1 g fun a => m a < n ∧ pre a)) → ∀ a, m a = n → pre a → (enc a).Wf → Wcall P G f [.fz (enc a)] (hpL []) 0 (fun d _ _ => D.val d = some (.fz (enc (g a))))) : TblOk P G (T.add f (sp1 g pre)) := by
  have key : ∀ n, TblOk P G (T.add f (sp1 g fun a => m a < n ∧ pre a)) := by
    intro n
    induction n with
    | zero => exact sp1_ok hc hT fun a ha => by omega
    | succ n ih =>
      refine sp1_ok hc hT fun a ha hw => ?_
      rcases Nat.lt_or_ge (m a) n with h1 | h1
      · have h2 := ih f (sp1 g fun a => m a < n ∧ pre a) [enc a] _ _ (by simp [Tbl.add]) (k_sp1) ⟨by rw [dec_enc], by rw [dec_enc]; exact ⟨h1, ha.2⟩⟩
        rw [dec_enc, H0_eq] at h2
        exact h2
      · exact h n ih a (by omega) ha.2 hw
  refine sp1_ok hc hT fun a ha hw => h (m a) (key _) a rfl ha hw
end
end Go.Abs

namespace Go.Abs
open Go

def lowc (c : UInt8) : Prop := 97 ≤ (c.toNat : Int) ∧ (c.toNat : Int) ≤ 122
def okc (c : UInt8) : Prop := lowc c ∨ (48 ≤ (c.toNat : Int) ∧ (c.toNat : Int) ≤ 57) ∨ (c.toNat : Int) = 95 ∨ (c.toNat : Int) = 45
instance (c : UInt8) : Decidable (lowc c) := inferInstanceAs (Decidable (_ ∧ _))
instance (c : UInt8) : Decidable (okc c) := inferInstanceAs (Decidable (_ ∨ _))
def isName (s : Str) : Bool := decide (1 ≤ s.l.length ∧ s.l.length ≤ 30 ∧ lowc (s.l.getD 0 0) ∧ ∀ j, j < s.l.length → okc (s.l.getD j 0))
theorem all_succ' {p : Nat → Prop} {i : Nat} (h : ∀ j, j < i → p j) (hi : p i) : ∀ j, j < i + 1 → p j := fun j hj => by
  rcases Nat.lt_or_ge j i with h' | h'
  · exact h j h'
  · obtain rfl : j = i := by omega
    exact hi
theorem name_false {s : Str} (h : ¬(1 ≤ s.l.length ∧ s.l.length ≤ 30 ∧ lowc (s.l.getD 0 0))) : isName s = false := by
  unfold isName
  exact decide_eq_false fun hh => h ⟨hh.1, hh.2.1, hh.2.2.1⟩
theorem name_bad {s : Str} {j : Nat} (hj : j < s.l.length) (h : ¬ okc (s.l.getD j 0)) : isName s = false := by
  unfold isName
  exact decide_eq_false fun hh => h (hh.2.2.2 j hj)
theorem name_good {s : Str} (h1 : 1 ≤ s.l.length) (h2 : s.l.length ≤ 30) (h3 : lowc (s.l.getD 0 0)) (h4 : ∀ j, j < s.l.length → okc (s.l.getD j 0)) : isName s = true := by
  unfold isName
  exact decide_eq_true ⟨h1, h2, h3, h4⟩
theorem name_zero {s : Str} {j : Nat} (e : j = 0) (h : ¬ lowc (s.l.getD j 0)) : isName s = false := by
  subst e; exact name_false fun hh => h hh.2.2
theorem low_next {s : Str} {i : Nat} (hz : 0 < i → lowc (s.l.getD 0 0)) (h : i = 0 → lowc (s.l.getD i 0)) : 0 < i + 1 → lowc (s.l.getD 0 0) := fun _ => by
  rcases Nat.eq_zero_or_pos i with e | e
  · have := h e; rwa [e] at this
  · exact hz e

structure LoopI (n : Nat) (p : Nat → Prop) where
  i : Nat
  hi : i ≤ n
  hp : p i
structure LoopM (n n0 : Nat) (p : Nat → Prop) where
  i : Nat
  m : Nat
  hi : i ≤ n
  hm : n0 ≤ m
  hp : p i
structure LoopG (n n0 : Nat) (p : Nat → Prop) where
  i : Nat
  g : Nat
  m : Nat
  hi : i ≤ n
  hg : g < m
  hm : n0 ≤ m
  hp : p i

def idx (l : List Str) (s : Str) : Int := if s ∈ l then (l.idxOf s : Int) else -1
theorem idx_at {s : Str} : ∀ {l : List Str} {i : Nat} (h : i < l.length), s ∉ l.take i → l[i] = s → l.idxOf s = i
  | [], i, h, _, _ => by simp at h
  | x :: l, 0, h, _, e => by simp at e; simp [e]
  | x :: l, i + 1, h, h1, e => by
    simp only [List.take_succ_cons, List.mem_cons, not_or] at h1
    have := idx_at (s := s) (l := l) (i := i) (by simpa using h) h1.2 (by simpa using e)
    rw [List.idxOf_cons]
    have hne : (x == s) = false := by simpa using fun e => h1.1 e.symm
    simp [hne, this]
theorem notin_succ {α : Type} {l : List α} {i : Nat} {s : α} (h : i < l.length) (h1 : s ∉ l.take i) (h2 : ¬ l[i] = s) : s ∉ l.take (i + 1) := by
  rw [List.take_succ_eq_append_getElem h, List.mem_append, List.mem_singleton]
  rintro (h' | h')
  · exact h1 h'
  · exact h2 h'.symm
theorem notin_all {α : Type} {l : List α} {i : Nat} {s : α} (h : ¬ i < l.length) (h1 : s ∉ l.take i) : s ∉ l := by
  rwa [List.take_of_length_le (by omega)] at h1
theorem any_take_succ {α : Type} {O : List α} {f : α → Bool} {j : Nat} (h : j < O.length) : (O.take (j + 1)).any f = ((O.take j).any f || f O[j]) := by
  rw [List.take_succ_eq_append_getElem h, List.any_append]; simp
theorem all_take_succ {α : Type} {O : List α} {f : α → Bool} {j : Nat} (h : j < O.length) : (O.take (j + 1)).all f = ((O.take j).all f && f O[j]) := by
  rw [List.take_succ_eq_append_getElem h, List.all_append]; simp
end Go.Abs

namespace Go.Abs
open Go

def subsK (k : Int) : Int := if k = 1 ∨ k = 2 ∨ k = 3 then 0 else if k = 4 ∨ k = 8 ∨ k = 9 then 1 else if k = 5 ∨ k = 6 ∨ k = 7 then 2 else -1
def named (f : Form) : Bool := decide (f.kind = 2 ∨ f.kind = 8 ∨ f.kind = 9 ∨ f.kind = 10)
def wordsOk (f : Form) : Bool := if f.kind = 2 then decide (f.words.length ≤ 3) else if f.kind = 3 then decide (f.words.length = 2) else decide (f.words.length = 0)
def partsK (op : Bool) (f : Form) : Int := if f.kind = 10 ∧ op = true then 0 else subsK f.kind
def nodeC (op : Bool) (f : Form) (depth : Int) (n : Nat) : Int :=
  if 200 < n + 1 ∨ 40 < depth then 1 else if partsK op f < 0 then 4 else if ¬ ((f.subs.length : Int) = partsK op f ∧ wordsOk f = true) then 9
  else if named f = true ∧ isName f.name = false then 10 else if named f = false ∧ f.name ≠ ⟨[]⟩ then 5 else if f.words.all isName = false then 10 else 0
mutual
def chk (op : Bool) : Form → Int → Nat → Fault × Nat
  | .mk k nm w s, depth, n => if nodeC op (.mk k nm w s) depth n ≠ 0 then (⟨nodeC op (.mk k nm w s) depth n, n⟩, n + 1) else chks op s (depth + 1) (n + 1)
def chks (op : Bool) : List Form → Int → Nat → Fault × Nat
  | [], _, n => (⟨0, 0⟩, n)
  | f :: fs, depth, n => if (chk op f depth n).1.code ≠ 0 then chk op f depth n else chks op fs depth (chk op f depth n).2
end
def checkM (op : Bool) (f : Form) : Fault := (chk op f 1 0).1
theorem chk_eq {op : Bool} {f : Form} {depth : Int} {n : Nat} : chk op f depth n = if nodeC op f depth n ≠ 0 then (⟨nodeC op f depth n, n⟩, n + 1) else chks op f.subs (depth + 1) (n + 1) := by
  cases f; rw [chk]; rfl
mutual
theorem chk_n {op : Bool} : ∀ (f : Form) (depth : Int) (n : Nat), ((chk op f depth n).1.code = 0 → (chk op f depth n).1 = ⟨0, 0⟩ ∧ (chk op f depth n).2 ≤ 200 ∧ n < (chk op f depth n).2)
  | .mk k nm w s, depth, n => by
    rw [chk]
    split
    · rename_i h; intro h2; exact absurd h2 h
    · rename_i h
      intro h2
      have hn : n + 1 ≤ 200 := by
        unfold nodeC at h
        split at h
        · simp at h
        · omega
      have := chks_n s (depth + 1) (n + 1) hn h2
      exact ⟨this.1, this.2.1, by omega⟩
theorem chks_n {op : Bool} : ∀ (fs : List Form) (depth : Int) (n : Nat), n ≤ 200 → ((chks op fs depth n).1.code = 0 → (chks op fs depth n).1 = ⟨0, 0⟩ ∧ (chks op fs depth n).2 ≤ 200 ∧ n ≤ (chks op fs depth n).2)
  | [], depth, n, hn => by rw [chks]; intro _; exact ⟨rfl, hn, Nat.le_refl _⟩
  | f :: fs, depth, n, hn => by
    rw [chks]
    split
    · rename_i h; intro h2; exact absurd h2 h
    · rename_i h
      have h3 := chk_n f depth n (Decidable.not_not.1 h)
      intro h2
      have := chks_n fs depth _ h3.2.1 h2
      exact ⟨this.1, this.2.1, by omega⟩
end
def restM (op : Bool) : List (Form × Int) → Nat → Fault
  | [], _ => ⟨0, 0⟩
  | (f, d) :: st, n => if (chk op f d n).1.code ≠ 0 then (chk op f d n).1 else restM op st (chk op f d n).2
theorem restM_app {op : Bool} {d : Int} {st : List (Form × Int)} : ∀ (fs : List Form) (n : Nat), restM op (fs.map (fun g => (g, d)) ++ st) n = if (chks op fs d n).1.code ≠ 0 then (chks op fs d n).1 else restM op st (chks op fs d n).2
  | [], n => by simp [chks]
  | f :: fs, n => by
    rw [List.map_cons, List.cons_append, restM, chks]
    split
    · rfl
    · exact restM_app fs _
theorem restM_step {op : Bool} {f : Form} {d : Int} {st : List (Form × Int)} {n : Nat} : restM op ((f, d) :: st) n = if nodeC op f d n ≠ 0 then ⟨nodeC op f d n, n⟩ else restM op (f.subs.map (fun g => (g, d + 1)) ++ st) (n + 1) := by
  rw [restM, restM_app, chk_eq]
  by_cases h : nodeC op f d n ≠ 0
  · rw [if_pos h, if_pos h, if_pos h]
  · rw [if_neg h, if_neg h]
theorem restM_one {op : Bool} {f : Form} : restM op [(f, 1)] 0 = checkM op f := by
  unfold checkM
  rw [restM, restM]
  split
  · rfl
  · rename_i h; exact ((chk_n f 1 0 (Decidable.not_not.1 h)).1).symm
theorem checkM_code {op : Bool} {f : Form} (h : (checkM op f).code = 0) : checkM op f = ⟨0, 0⟩ := (chk_n f 1 0 h).1
end Go.Abs

namespace Go.Abs
open Go

mutual
inductive Cond where
  | mk (kind : Int) (name : Str) (form : Form) (boxes : List Box)
inductive Box where
  | mk (refs : List Str) (conds : List Cond)
end
def Cond.kind : Cond → Int | .mk k _ _ _ => k
def Cond.name : Cond → Str | .mk _ n _ _ => n
def Cond.form : Cond → Form | .mk _ _ f _ => f
def Cond.boxes : Cond → List Box | .mk _ _ _ b => b
def Box.refs : Box → List Str | .mk r _ => r
def Box.conds : Box → List Cond | .mk _ c => c
@[go_sem] theorem cond_kind {k n f b} : (Cond.mk k n f b).kind = k := rfl
@[go_sem] theorem cond_name {k n f b} : (Cond.mk k n f b).name = n := rfl
@[go_sem] theorem cond_form {k n f b} : (Cond.mk k n f b).form = f := rfl
@[go_sem] theorem cond_boxes {k n f b} : (Cond.mk k n f b).boxes = b := rfl
@[go_sem] theorem box_refs {r c} : (Box.mk r c).refs = r := rfl
@[go_sem] theorem box_conds {r c} : (Box.mk r c).conds = c := rfl
@[go_sem] theorem cond_eta {c : Cond} : Cond.mk c.kind c.name c.form c.boxes = c := by cases c; rfl
@[go_sem] theorem box_eta {b : Box} : Box.mk b.refs b.conds = b := by cases b; rfl
mutual
def encC : Cond → FD
  | .mk k n f b => .agg [.i .i64 k, .s n.l, .i .i64 f.kind, .s f.name.l, .sl (f.words.map enc), .sl (f.subs.map enc), .sl (encBs b)]
def encB : Box → FD
  | .mk r c => .agg [.sl (r.map enc), .sl (encCs c)]
def encBs : List Box → List FD
  | [] => []
  | b :: bs => encB b :: encBs bs
def encCs : List Cond → List FD
  | [] => []
  | c :: cs => encC c :: encCs cs
end
mutual
def decC : FD → Cond
  | .agg [.i _ k, .s n, .i _ fk, .s fn, .sl fw, .sl fs, .sl b] => .mk k ⟨n⟩ (.mk fk ⟨fn⟩ (fw.map dec) (fs.map dec)) (decBs b)
  | _ => .mk 0 ⟨[]⟩ (.mk 0 ⟨[]⟩ [] []) []
def decB : FD → Box
  | .agg [.sl r, .sl c] => .mk (r.map dec) (decCs c)
  | _ => .mk [] []
def decBs : List FD → List Box
  | [] => []
  | x :: xs => decB x :: decBs xs
def decCs : List FD → List Cond
  | [] => []
  | x :: xs => decC x :: decCs xs
end
mutual
theorem decC_encC : ∀ c, decC (encC c) = c
  | .mk k n f b => by simp only [encC, decC, map_dec_enc, decBs_encBs b, str_eta, form_eta]
theorem decB_encB : ∀ b, decB (encB b) = b
  | .mk r c => by simp only [encB, decB, map_dec_enc, decCs_encCs c]
theorem decBs_encBs : ∀ b, decBs (encBs b) = b
  | [] => rfl
  | b :: bs => by simp only [encBs, decBs, decB_encB b, decBs_encBs bs]
theorem decCs_encCs : ∀ c, decCs (encCs c) = c
  | [] => rfl
  | c :: cs => by simp only [encCs, decCs, decC_encC c, decCs_encCs cs]
end
instance : Enc Cond := ⟨encC, decC, decC_encC⟩
instance : Enc Box := ⟨encB, decB, decB_encB⟩
theorem encBs_map : ∀ s : List Box, encBs s = s.map enc
  | [] => rfl
  | f :: fs => by rw [encBs, encBs_map fs]; rfl
theorem encCs_map : ∀ s : List Cond, encCs s = s.map enc
  | [] => rfl
  | f :: fs => by rw [encCs, encCs_map fs]; rfl
theorem decBs_map : ∀ s : List FD, decBs s = dec (α := List Box) (.sl s)
  | [] => rfl
  | f :: fs => by rw [decBs, decBs_map fs]; rfl
theorem decCs_map : ∀ s : List FD, decCs s = dec (α := List Cond) (.sl s)
  | [] => rfl
  | f :: fs => by rw [decCs, decCs_map fs]; rfl
@[go_sem] theorem enc_cond {c : Cond} : enc c = .agg [.i .i64 c.kind, .s c.name.l, .i .i64 c.form.kind, .s c.form.name.l, .sl (c.form.words.map enc), .sl (c.form.subs.map enc), .sl (c.boxes.map enc)] := by
  cases c with
  | mk k n f b => show encC _ = _; rw [encC, encBs_map]; rfl
@[go_sem] theorem enc_box {b : Box} : enc b = .agg [.sl (b.refs.map enc), .sl (b.conds.map enc)] := by
  cases b with
  | mk r c => show encB _ = _; rw [encB, encCs_map]; rfl
@[go_sem] theorem dec_cond {i j k n fk fn fw fs b} : dec (α := Cond) (.agg [.i i k, .s n, .i j fk, .s fn, .sl fw, .sl fs, .sl b]) = .mk k ⟨n⟩ (.mk fk ⟨fn⟩ (dec (.sl fw)) (dec (.sl fs))) (dec (.sl b)) := by
  show decC _ = _; rw [decC, decBs_map]; rfl
@[go_sem] theorem dec_box {r c} : dec (α := Box) (.agg [.sl r, .sl c]) = .mk (dec (.sl r)) (dec (.sl c)) := by
  show decB _ = _; rw [decB, decCs_map]; rfl
instance : Kc Cond 7 := ⟨fun f => by rw [enc_cond]; rfl⟩
instance : Kc Box 2 := ⟨fun f => by rw [enc_box]; rfl⟩
@[go_sem] theorem lens_conds {l : List Cond} : lens (l.map enc) 7 = True := eq_true (lens_kc l)
@[go_sem] theorem lens_boxes {l : List Box} : lens (l.map enc) 2 = True := eq_true (lens_kc l)
@[go_sem] theorem flats_conds {l : List Cond} : (flatFz (l.map enc)).all oneB = true := by
  rw [List.all_eq_true]
  intro d hd
  simp only [flatFz, List.mem_flatMap, List.mem_map] at hd
  obtain ⟨_, ⟨a, _, rfl⟩, x, hx, rfl⟩ := hd
  simp only [enc_cond, FD.cells, List.mem_cons, List.not_mem_nil, or_false] at hx
  rcases hx with rfl | rfl | rfl | rfl | rfl | rfl | rfl <;> rfl
@[go_sem] theorem flats_boxes {l : List Box} : (flatFz (l.map enc)).all oneB = true := by
  rw [List.all_eq_true]
  intro d hd
  simp only [flatFz, List.mem_flatMap, List.mem_map] at hd
  obtain ⟨_, ⟨a, _, rfl⟩, x, hx, rfl⟩ := hd
  simp only [enc_box, FD.cells, List.mem_cons, List.not_mem_nil, or_false] at hx
  rcases hx with rfl | rfl <;> rfl
mutual
def Cond.size : Cond → Nat
  | .mk _ _ _ b => Box.sizes b + 1
def Box.size : Box → Nat
  | .mk _ c => Cond.sizes c + 1
def Box.sizes : List Box → Nat
  | [] => 0
  | b :: bs => b.size + Box.sizes bs
def Cond.sizes : List Cond → Nat
  | [] => 0
  | c :: cs => c.size + Cond.sizes cs
end
theorem Box.size_mem : ∀ {l : List Box} {f : Box}, f ∈ l → f.size ≤ Box.sizes l
  | g :: l, f, h => by
    rw [Box.sizes]
    rcases List.mem_cons.1 h with rfl | h
    · omega
    · have := Box.size_mem h; omega
theorem Cond.size_mem : ∀ {l : List Cond} {f : Cond}, f ∈ l → f.size ≤ Cond.sizes l
  | g :: l, f, h => by
    rw [Cond.sizes]
    rcases List.mem_cons.1 h with rfl | h
    · omega
    · have := Cond.size_mem h; omega
theorem Box.size_sub {b : Box} {c : Cond} (h : c ∈ b.conds) : c.size < b.size := by
  cases b with
  | mk r cs => rw [Box.size]; have := Cond.size_mem (show c ∈ cs from h); omega
theorem Cond.size_sub {c : Cond} {b : Box} (h : b ∈ c.boxes) : b.size < c.size := by
  cases c with
  | mk k n f bs => rw [Cond.size]; have := Box.size_mem (show b ∈ bs from h); omega

def boxesK (k : Int) : Int := if k = 1 ∨ k = 5 then 0 else if k = 2 ∨ k = 6 then 1 else if k = 3 ∨ k = 4 then 2 else -1
def noForm (f : Form) : Bool := decide (f.kind = 0) && decide (f.name = ⟨[]⟩) && decide (f.words.length = 0) && decide (f.subs.length = 0)
def condC (c : Cond) (refs : List Str) : Int :=
  if boxesK c.kind < 0 then 4 else if ¬ (c.boxes.length : Int) = boxesK c.kind then 9 else if c.kind ≠ 5 ∧ c.name ≠ ⟨[]⟩ ∨ 0 < boxesK c.kind ∧ noForm c.form = false then 5
  else if 0 < boxesK c.kind then 0 else if (checkM false c.form).code ≠ 0 then (checkM false c.form).code
  else if c.kind = 1 ∧ c.form.kind ≠ 2 ∧ c.form.kind ≠ 3 ∨ c.kind = 5 ∧ (c.form.kind ≠ 2 ∨ c.form.words.length ≠ 0) then 5 else if c.kind = 5 ∧ c.name ∉ refs then 6 else 0
def refsGo : List Str → List Str → Int × List Str
  | refs, [] => (0, refs)
  | refs, x :: xs => if isName x = false then (10, refs) else if x ∈ refs then (7, refs) else refsGo (refs ++ [x]) xs
structure BS where
  e : Fault
  n : Nat
  refs : List Str
mutual
def boxW : Box → Int → Int → Nat → List Str → BS
  | .mk r cs, depth, most, n, refs =>
    if 200 < n + 1 ∨ 10 < depth then ⟨⟨1, n⟩, n + 1, refs⟩
    else if most < r.length ∨ 200 < refs.length + r.length then ⟨⟨2, n⟩, n + 1, refs⟩
    else if (refsGo refs r).1 ≠ 0 then ⟨⟨(refsGo refs r).1, n⟩, n + 1, (refsGo refs r).2⟩
    else condsW r cs depth (n + 1) (refsGo refs r).2
def condsW : List Str → List Cond → Int → Nat → List Str → BS
  | _, [], _, n, refs => ⟨⟨0, 0⟩, n, refs⟩
  | r, c :: cs, depth, n, refs => if (condW r c depth n refs).e.code ≠ 0 then condW r c depth n refs else condsW r cs depth (condW r c depth n refs).n (condW r c depth n refs).refs
def condW : List Str → Cond → Int → Nat → List Str → BS
  | r, .mk k nm f bs, depth, n, refs =>
    if 200 < n + 1 then ⟨⟨1, n⟩, n + 1, refs⟩ else if condC (.mk k nm f bs) r ≠ 0 then ⟨⟨condC (.mk k nm f bs) r, n⟩, n + 1, refs⟩
    else boxsW bs (depth + 1) (if k = 6 then 2 else 200) (n + 1) refs
def boxsW : List Box → Int → Int → Nat → List Str → BS
  | [], _, _, n, refs => ⟨⟨0, 0⟩, n, refs⟩
  | b :: bs, depth, most, n, refs => if (boxW b depth most n refs).e.code ≠ 0 then boxW b depth most n refs else boxsW bs depth most (boxW b depth most n refs).n (boxW b depth most n refs).refs
end
end Go.Abs

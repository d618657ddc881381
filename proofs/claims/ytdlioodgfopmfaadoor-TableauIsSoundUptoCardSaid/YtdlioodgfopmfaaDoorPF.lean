import Derived.Test.YtdlioodgfopmfaaDoorLW
set_option linter.unusedSimpArgs false
namespace Go.Abs
open Go

inductive Prf where
  | mk (kind form other : Int) (name : Str) (subs : List Prf)
namespace Prf
def kind : Prf → Int | mk k _ _ _ _ => k
def form : Prf → Int | mk _ f _ _ _ => f
def other : Prf → Int | mk _ _ o _ _ => o
def name : Prf → Str | mk _ _ _ n _ => n
def subs : Prf → List Prf | mk _ _ _ _ s => s
end Prf
@[go_sem] theorem prf_kind {k f o n s} : (Prf.mk k f o n s).kind = k := rfl
@[go_sem] theorem prf_form {k f o n s} : (Prf.mk k f o n s).form = f := rfl
@[go_sem] theorem prf_other {k f o n s} : (Prf.mk k f o n s).other = o := rfl
@[go_sem] theorem prf_name {k f o n s} : (Prf.mk k f o n s).name = n := rfl
@[go_sem] theorem prf_subs {k f o n s} : (Prf.mk k f o n s).subs = s := rfl
@[go_sem] theorem prf_eta {p : Prf} : Prf.mk p.kind p.form p.other p.name p.subs = p := by cases p; rfl
mutual
def encP : Prf → FD
  | .mk k f o n s => .agg [.i .i64 k, .i .i64 f, .i .i64 o, .s n.l, .sl (encPs s)]
def encPs : List Prf → List FD
  | [] => []
  | f :: fs => encP f :: encPs fs
end
mutual
def decP : FD → Prf
  | .agg [.i _ k, .i _ f, .i _ o, .s n, .sl s] => .mk k f o ⟨n⟩ (decPs s)
  | _ => .mk 0 0 0 ⟨[]⟩ []
def decPs : List FD → List Prf
  | [] => []
  | x :: xs => decP x :: decPs xs
end
mutual
theorem decP_encP : ∀ f, decP (encP f) = f
  | .mk k f o n s => by simp only [encP, decP, decPs_encPs s]
theorem decPs_encPs : ∀ s, decPs (encPs s) = s
  | [] => rfl
  | f :: fs => by simp only [encPs, decPs, decP_encP f, decPs_encPs fs]
end
instance : Enc Prf := ⟨encP, decP, decP_encP⟩
theorem encPs_map : ∀ s : List Prf, encPs s = s.map enc
  | [] => rfl
  | f :: fs => by rw [encPs, encPs_map fs]; rfl
theorem decPs_map : ∀ s : List FD, decPs s = dec (α := List Prf) (.sl s)
  | [] => rfl
  | f :: fs => by rw [decPs, decPs_map fs]; rfl
@[go_sem] theorem enc_prf {p : Prf} : enc p = .agg [.i .i64 p.kind, .i .i64 p.form, .i .i64 p.other, .s p.name.l, .sl (p.subs.map enc)] := by
  cases p with
  | mk k f o n s => show encP _ = _; rw [encP, encPs_map]; rfl
@[go_sem] theorem dec_prf {i j h k f o n s} : dec (α := Prf) (.agg [.i i k, .i j f, .i h o, .s n, .sl s]) = .mk k f o ⟨n⟩ (dec (.sl s)) := by
  show decP _ = _; rw [decP, decPs_map]
instance : Kc Prf 5 := ⟨fun f => by rw [enc_prf]; rfl⟩
@[go_sem] theorem lens_prfs {l : List Prf} : lens (l.map enc) 5 = True := eq_true (lens_kc l)
@[go_sem] theorem flats_prfs {l : List Prf} : (flatFz (l.map enc)).all oneB = true := by
  rw [List.all_eq_true]
  intro d hd
  simp only [flatFz, List.mem_flatMap, List.mem_map] at hd
  obtain ⟨_, ⟨a, _, rfl⟩, x, hx, rfl⟩ := hd
  simp only [enc_prf, FD.cells, List.mem_cons, List.not_mem_nil, or_false] at hx
  rcases hx with rfl | rfl | rfl | rfl | rfl <;> rfl
mutual
def Prf.size : Prf → Nat
  | .mk _ _ _ _ s => Prf.sizes s + 1
def Prf.sizes : List Prf → Nat
  | [] => 0
  | f :: fs => f.size + Prf.sizes fs
end
theorem Prf.size_mem : ∀ {l : List Prf} {f : Prf}, f ∈ l → f.size ≤ Prf.sizes l
  | g :: l, f, h => by
    rw [Prf.sizes]
    rcases List.mem_cons.1 h with rfl | h
    · omega
    · have := Prf.size_mem h; omega
theorem Prf.size_sub {f g : Prf} (h : g ∈ f.subs) : g.size < f.size := by
  cases f with
  | mk k f o n w => rw [Prf.size]; have := Prf.size_mem (show g ∈ w from h); omega
mutual
def cntK : Prf → Int → Int
  | .mk _ _ _ _ s, n => cntKs s (n + 1)
def cntKs : List Prf → Int → Int
  | [], n => n
  | x :: xs, n => if 2000 < n then n else cntKs xs (cntK x n)
end
theorem cntK_eq (p : Prf) (n : Int) : cntK p n = cntKs p.subs (n + 1) := by cases p; rw [cntK]; rfl
mutual
theorem cntK_le : ∀ (p : Prf) (n : Int), n ≤ 2000 → n + 1 ≤ cntK p n ∧ cntK p n ≤ 2001
  | .mk k f o nm s, n, h => by
    rw [cntK]
    have := cntKs_le s (n + 1) (by omega)
    omega
theorem cntKs_le : ∀ (s : List Prf) (n : Int), n ≤ 2001 → n ≤ cntKs s n ∧ cntKs s n ≤ 2001
  | [], n, h => by rw [cntKs]; omega
  | x :: xs, n, h => by
    rw [cntKs]
    split
    · omega
    · have h1 := cntK_le x n (by omega)
      have h2 := cntKs_le xs (cntK x n) h1.2
      omega
end
theorem cntKs_app : ∀ (a b : List Prf) (n : Int), cntKs (a ++ b) n = cntKs b (cntKs a n)
  | [], b, n => by rw [List.nil_append, cntKs]
  | x :: a, b, n => by
    rw [List.cons_append, cntKs, cntKs]
    split
    · rename_i h
      cases b with
      | nil => rw [cntKs]
      | cons y b => rw [cntKs, if_pos h]
    · rw [cntKs_app a b]
end Go.Abs

import Derived.Test.YtdlioodgfopmfaaDoorTA
import Derived.Test.YtdlioodgfopmfaaDoorY14
import Derived.Test.YtdlioodgfopmfaaDoorPF
set_option linter.unusedSimpArgs false
namespace Go.Abs
open Go

def bodyG (f : Form) (name : Str) : Form := canonM (sub0 f) [⟨f.name, name⟩]
def instG (q : Form) (turned : Bool) (name : Str) : Form := if turned then ngg (bodyG q name) else bodyG q name
def occG (l : List Form) (name : Str) : Bool := l.any fun f => decide (name ∈ usedM f)
def swapTo (f : Form) (nm : Str) : Str := if f.words.getD 0 ⟨[]⟩ = nm then f.words.getD 1 ⟨[]⟩ else f.words.getD 0 ⟨[]⟩
def inL (l : List Form) (i : Int) : Bool := decide (0 ≤ i) && decide (i < l.length)
def atL (l : List Form) (i : Int) : Form := l.getD i.toNat zeroF
def closeM (l : List Form) (f g : Form) : Bool := decide (ngg f = g) || decide (g.kind = 4) && alikM (clsM l) f (sub0 g)
def chkN (k fo ot : Int) (nm : Str) (cs : List (List Form → Bool)) (l : List Form) : Bool :=
  if inL l fo = false then false
  else if k = 1 then decide (cs.length = 0) && inL l ot && (if ot = fo then conM (clsM l) (atL l fo) else closeM l (atL l fo) (atL l ot))
  else if k = 2 then decide ((partsM (atL l fo)).1 = 1) && decide (cs.length = 1) && cs.getD 0 (fun _ => false) (l ++ (partsM (atL l fo)).2.1)
  else if k = 3 then decide ((partsM (atL l fo)).1 = 2) && decide (cs.length = 2) && cs.getD 0 (fun _ => false) (l ++ [(partsM (atL l fo)).2.1.getD 0 zeroF]) && cs.getD 1 (fun _ => false) (l ++ [(partsM (atL l fo)).2.1.getD 1 zeroF])
  else if k = 4 then decide ((partsM (atL l fo)).1 = 3) && isName nm && decide (cs.length = 1) && cs.getD 0 (fun _ => false) (l ++ [instG (partsM (atL l fo)).2.2.1 (partsM (atL l fo)).2.2.2 nm])
  else if k = 5 then decide ((partsM (atL l fo)).1 = 4) && isName nm && !occG l nm && decide (cs.length = 1) && cs.getD 0 (fun _ => false) (l ++ [instG (partsM (atL l fo)).2.2.1 (partsM (atL l fo)).2.2.2 nm])
  else if k = 6 then decide ((atL l fo).kind = 3) && inL l ot && decide (cs.length = 1) && decide (nm ∈ (atL l fo).words) && cs.getD 0 (fun _ => false) (l ++ [canonM (atL l ot) [⟨nm, swapTo (atL l fo) nm⟩]])
  else false
mutual
def chkM : Prf → List Form → Bool
  | .mk k fo ot nm s, l => chkN k fo ot nm (chkMs s) l
def chkMs : List Prf → List (List Form → Bool)
  | [] => []
  | p :: ps => chkM p :: chkMs ps
end
theorem chkMs_map : ∀ l : List Prf, chkMs l = l.map chkM
  | [] => rfl
  | p :: l => by rw [chkMs, chkMs_map l]; rfl
theorem chkM_eq (p : Prf) (l : List Form) : chkM p l = chkN p.kind p.form p.other p.name (p.subs.map chkM) l := by cases p; rw [chkM, chkMs_map]; rfl
theorem brF.cn {f : Form} (h : brF f) {env : List Bind} : brF (canonM f env) := ⟨canon_vok h.v, by rw [canonM_fit]; exact h.ft, by rw [canonM_size]; exact h.s⟩
theorem brF.ng {f : Form} (h : brF f) (hs : f.size + 1 ≤ 800) : brF (ngg f) := by
  unfold ngg
  refine ⟨canon_vok ?_, ?_, ?_⟩
  · unfold notF
    rw [vok, voks, voks]
    exact ⟨by decide, by decide, fun e => absurd e (by decide), fun e => absurd e (by decide), fun _ => rfl, fun e => by omega, h.v, trivial⟩
  · rw [canonM_fit]; simp [notF, Form.fit, Form.fits, h.ft]
  · rw [canonM_size]; simp only [notF, Form.size, Form.sizes]; omega
theorem size_one {f a : Form} (h : f.subs = [a]) : f.size = a.size + 1 := by
  cases f with
  | mk k nm ws s => rw [form_subs] at h; subst h; rw [Form.size, Form.sizes, Form.sizes]
theorem size_two {f a b : Form} (h : f.subs = [a, b]) : f.size = a.size + b.size + 1 := by
  cases f with
  | mk k nm ws s => rw [form_subs] at h; subst h; rw [Form.size, Form.sizes, Form.sizes, Form.sizes]; rfl
theorem parts_br {f : Form} (h : brF f) : (∀ g ∈ (partsM f).2.1, brF g) ∧ ((partsM f).1 = 2 → (partsM f).2.1.length = 2) ∧ (partsM f).2.1.length ≤ 2 ∧
    (((partsM f).1 = 3 ∨ (partsM f).1 = 4) → ∃ a, (partsM f).2.2.1.subs = [a] ∧ brF a ∧ a.size + 1 ≤ 800) := by
  have hs := h.s
  by_cases k5 : f.kind = 5
  · obtain ⟨a, b, hab, s0, s1, ha, hb⟩ := br_two h (by omega)
    have hz := size_two hab
    have hpa := a.size_pos
    have hpb := b.size_pos
    have e : partsM f = (1, [cnn a, cnn b], zeroF, false) := by
      unfold partsM
      rw [s0, s1, k5]; rfl
    rw [e]
    refine ⟨fun x hx => ?_, fun e => by simp at e, Nat.le_refl _, fun e => by simp at e⟩
    simp only [List.mem_cons, List.not_mem_nil, or_false] at hx
    rcases hx with rfl | rfl
    · exact ha.cn
    · exact hb.cn
  by_cases k6 : f.kind = 6
  · obtain ⟨a, b, hab, s0, s1, ha, hb⟩ := br_two h (by omega)
    have hz := size_two hab
    have hpa := a.size_pos
    have hpb := b.size_pos
    have e : partsM f = (2, [cnn a, cnn b], zeroF, false) := by
      unfold partsM
      rw [s0, s1, k6]; rfl
    rw [e]
    refine ⟨fun x hx => ?_, fun _ => rfl, Nat.le_refl _, fun e => by simp at e⟩
    simp only [List.mem_cons, List.not_mem_nil, or_false] at hx
    rcases hx with rfl | rfl
    · exact ha.cn
    · exact hb.cn
  by_cases k7 : f.kind = 7
  · obtain ⟨a, b, hab, s0, s1, ha, hb⟩ := br_two h (by omega)
    have hz := size_two hab
    have hpa := a.size_pos
    have hpb := b.size_pos
    have e : partsM f = (2, [ngg a, cnn b], zeroF, false) := by
      unfold partsM
      rw [s0, s1, k7]; rfl
    rw [e]
    refine ⟨fun x hx => ?_, fun _ => rfl, Nat.le_refl _, fun e => by simp at e⟩
    simp only [List.mem_cons, List.not_mem_nil, or_false] at hx
    rcases hx with rfl | rfl
    · exact ha.ng (by omega)
    · exact hb.cn
  by_cases k8 : f.kind = 8
  · obtain ⟨a, ha, s0, hb⟩ := br_one h (by omega)
    have hz := size_one ha
    have e : partsM f = (3, [], f, false) := by
      unfold partsM
      rw [k8]; rfl
    rw [e]
    exact ⟨fun x hx => by simp at hx, fun e => by simp at e, Nat.zero_le _, fun _ => ⟨a, ha, hb, by omega⟩⟩
  by_cases k9 : f.kind = 9
  · obtain ⟨a, ha, s0, hb⟩ := br_one h (by omega)
    have hz := size_one ha
    have e : partsM f = (4, [], f, false) := by
      unfold partsM
      rw [k9]; rfl
    rw [e]
    exact ⟨fun x hx => by simp at hx, fun e => by simp at e, Nat.zero_le _, fun _ => ⟨a, ha, hb, by omega⟩⟩
  by_cases k4 : f.kind = 4
  · obtain ⟨g, hg, s0, hbg⟩ := br_one h (.inl k4)
    have hzg := size_one hg
    by_cases j4 : g.kind = 4
    · obtain ⟨a, ha, t0, hb⟩ := br_one hbg (.inl j4)
      have e : partsM f = (1, [cnn a], zeroF, false) := by
        unfold partsM
        rw [s0, t0, k4, j4]; rfl
      rw [e]
      refine ⟨fun x hx => ?_, fun e => by simp at e, by simp, fun e => by simp at e⟩
      rw [List.mem_singleton.1 hx]; exact hb.cn
    by_cases j5 : g.kind = 5
    · obtain ⟨a, b, hab, t0, t1, ha, hb⟩ := br_two hbg (by omega)
      have hz := size_two hab
      have hpa := a.size_pos
      have hpb := b.size_pos
      have e : partsM f = (2, [ngg a, ngg b], zeroF, false) := by
        unfold partsM
        rw [s0, t0, t1, k4, j5]; rfl
      rw [e]
      refine ⟨fun x hx => ?_, fun _ => rfl, Nat.le_refl _, fun e => by simp at e⟩
      simp only [List.mem_cons, List.not_mem_nil, or_false] at hx
      rcases hx with rfl | rfl
      · exact ha.ng (by omega)
      · exact hb.ng (by omega)
    by_cases j6 : g.kind = 6
    · obtain ⟨a, b, hab, t0, t1, ha, hb⟩ := br_two hbg (by omega)
      have hz := size_two hab
      have hpa := a.size_pos
      have hpb := b.size_pos
      have e : partsM f = (1, [ngg a, ngg b], zeroF, false) := by
        unfold partsM
        rw [s0, t0, t1, k4, j6]; rfl
      rw [e]
      refine ⟨fun x hx => ?_, fun e => by simp at e, Nat.le_refl _, fun e => by simp at e⟩
      simp only [List.mem_cons, List.not_mem_nil, or_false] at hx
      rcases hx with rfl | rfl
      · exact ha.ng (by omega)
      · exact hb.ng (by omega)
    by_cases j7 : g.kind = 7
    · obtain ⟨a, b, hab, t0, t1, ha, hb⟩ := br_two hbg (by omega)
      have hz := size_two hab
      have hpa := a.size_pos
      have hpb := b.size_pos
      have e : partsM f = (1, [cnn a, ngg b], zeroF, false) := by
        unfold partsM
        rw [s0, t0, t1, k4, j7]; rfl
      rw [e]
      refine ⟨fun x hx => ?_, fun e => by simp at e, Nat.le_refl _, fun e => by simp at e⟩
      simp only [List.mem_cons, List.not_mem_nil, or_false] at hx
      rcases hx with rfl | rfl
      · exact ha.cn
      · exact hb.ng (by omega)
    by_cases j8 : g.kind = 8
    · obtain ⟨a, ha, t0, hb⟩ := br_one hbg (by omega)
      have hz := size_one ha
      have e : partsM f = (4, [], g, true) := by
        unfold partsM
        rw [s0, k4, j8]; rfl
      rw [e]
      exact ⟨fun x hx => by simp at hx, fun e => by simp at e, Nat.zero_le _, fun _ => ⟨a, ha, hb, by omega⟩⟩
    by_cases j9 : g.kind = 9
    · obtain ⟨a, ha, t0, hb⟩ := br_one hbg (by omega)
      have hz := size_one ha
      have e : partsM f = (3, [], g, true) := by
        unfold partsM
        rw [s0, k4, j9]; rfl
      rw [e]
      exact ⟨fun x hx => by simp at hx, fun e => by simp at e, Nat.zero_le _, fun _ => ⟨a, ha, hb, by omega⟩⟩
    have e : partsM f = (0, [], zeroF, false) := by
      unfold partsM
      rw [s0, k4]
      simp only [j4, j5, j6, j7, j8, j9, if_false]
      rfl
    rw [e]
    exact ⟨fun x hx => by simp at hx, fun e => by simp at e, Nat.zero_le _, fun e => by simp at e⟩
  have e : partsM f = (0, [], zeroF, false) := by
    unfold partsM
    simp only [k4, k5, k6, k7, k8, k9, if_false]
  rw [e]
  exact ⟨fun x hx => by simp at hx, fun e => by simp at e, Nat.zero_le _, fun e => by simp at e⟩
theorem inst_br {q a : Form} {t : Bool} {nm : Str} (hq : q.subs = [a]) (ha : brF a) (hs : a.size + 1 ≤ 800) : brF (instG q t nm) := by
  have e : bodyG q nm = canonM a [⟨q.name, nm⟩] := by unfold bodyG sub0; rw [hq]; rfl
  unfold instG
  rw [e]
  cases t with
  | false => exact ha.cn
  | true => exact (ha.cn).ng (by rw [canonM_size]; omega)
end Go.Abs

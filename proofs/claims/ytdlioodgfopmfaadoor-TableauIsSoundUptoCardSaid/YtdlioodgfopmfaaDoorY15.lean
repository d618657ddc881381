/- several texts of this proof in one; no conditions -/
import Derived.Test.YtdlioodgfopmfaaDoorTK
import Derived.Test.YtdlioodgfopmfaaDoorAE
set_option linter.unusedSimpArgs false
namespace Go.Abs
open Go

def jn (sep : List UInt8) : List Str → List UInt8
  | [] => []
  | w :: ws => w.l ++ ws.flatMap fun v => sep ++ v.l
def txN (k : Int) (nm : Str) (ws : List Str) (ts : List (List UInt8)) : List UInt8 :=
  if k = 1 then [116, 114, 117, 101]
  else if k = 2 then nm.l ++ [40] ++ jn [44] ws ++ [41]
  else if k = 3 then nm.l ++ [40] ++ jn [32, 61, 32] ws ++ [41]
  else if k = 4 then 45 :: ts.getD 0 []
  else if k = 8 then [97, 108, 108, 32] ++ nm.l ++ [32] ++ ts.getD 0 []
  else if k = 9 then [115, 111, 109, 101, 32] ++ nm.l ++ [32] ++ ts.getD 0 []
  else [40] ++ ts.getD 0 [] ++ (if k = 5 then [32, 38, 32] else if k = 6 then [32, 124, 32] else [32, 62, 32]) ++ ts.getD 1 [] ++ [41]
mutual
def txt : Form → List UInt8
  | .mk k nm ws s => txN k nm ws (txts s)
def txts : List Form → List (List UInt8)
  | [] => []
  | f :: fs => txt f :: txts fs
end
theorem txt_1 {f : Form} (h : f.kind = 1) : txt f = [116, 114, 117, 101] := by
  obtain ⟨k, nm, ws, s⟩ := f
  rw [form_kind] at h; subst h; rw [txt]; rfl
theorem txt_2 {f : Form} (h : f.kind = 2) : txt f = f.name.l ++ [40] ++ jn [44] f.words ++ [41] := by
  obtain ⟨k, nm, ws, s⟩ := f
  rw [form_kind] at h; subst h; rw [txt]; rfl
theorem txt_3 {f : Form} (h : f.kind = 3) : txt f = f.name.l ++ [40] ++ jn [32, 61, 32] f.words ++ [41] := by
  obtain ⟨k, nm, ws, s⟩ := f
  rw [form_kind] at h; subst h; rw [txt]; rfl
theorem txt_4 {f a : Form} (h : f.kind = 4) (hs : f.subs = [a]) : txt f = 45 :: txt a := by
  obtain ⟨k, nm, ws, s⟩ := f
  rw [form_kind] at h; subst h
  rw [form_subs] at hs; subst hs; rw [txt, txts, txts]; rfl
theorem txt_8 {f a : Form} (h : f.kind = 8) (hs : f.subs = [a]) : txt f = [97, 108, 108, 32] ++ f.name.l ++ [32] ++ txt a := by
  obtain ⟨k, nm, ws, s⟩ := f
  rw [form_kind] at h; subst h
  rw [form_subs] at hs; subst hs; rw [txt, txts, txts]; rfl
theorem txt_9 {f a : Form} (h : f.kind = 9) (hs : f.subs = [a]) : txt f = [115, 111, 109, 101, 32] ++ f.name.l ++ [32] ++ txt a := by
  obtain ⟨k, nm, ws, s⟩ := f
  rw [form_kind] at h; subst h
  rw [form_subs] at hs; subst hs; rw [txt, txts, txts]; rfl
def sgn (k : Int) : List UInt8 := if k = 5 then [32, 38, 32] else if k = 6 then [32, 124, 32] else [32, 62, 32]
theorem txt_5 {f a b : Form} (h : f.kind = 5 ∨ f.kind = 6 ∨ f.kind = 7) (hs : f.subs = [a, b]) : txt f = [40] ++ txt a ++ sgn f.kind ++ txt b ++ [41] := by
  obtain ⟨k, nm, ws, s⟩ := f
  rw [form_kind] at h
  rw [form_subs] at hs; subst hs; rw [txt, txts, txts, txts]
  unfold txN
  rw [if_neg (by omega), if_neg (by omega), if_neg (by omega), if_neg (by omega), if_neg (by omega), if_neg (by omega)]
  rfl
structure txP (f : Form) : Prop where
  v : vok f
  ft : f.fit = true
  l : (txt f).length ≤ 1000000000
theorem txP.sub {f g : Form} (h : txP f) (hg : g ∈ f.subs) (hl : (txt g).length ≤ (txt f).length) : txP g := by
  have hv := h.v
  obtain ⟨k, nm, ws, s⟩ := f
  rw [vok] at hv
  have hf := h.ft
  rw [Form.fit] at hf
  simp only [Bool.and_eq_true] at hf
  exact ⟨(voks_mem s).1 hv.2.2.2.2.2.2 g hg, Form.fits_mem hf.2 hg, Nat.le_trans hl h.l⟩
end Go.Abs

namespace Go.Abs
open Go

def okb (c : UInt8) : Bool := decide (okc c)
def nok (r : List UInt8) : Prop := ∀ c t, r = c :: t → okb c = false
theorem span_eq : ∀ {a b r s : List UInt8}, (∀ c ∈ a, okb c = true) → (∀ c ∈ b, okb c = true) → nok r → nok s → a ++ r = b ++ s → a = b ∧ r = s
  | [], [], r, s, _, _, _, _, h => ⟨rfl, h⟩
  | [], y :: b, r, s, _, hb, hr, _, h => by
    have h1 := hr y (b ++ s) h
    rw [hb y (by simp)] at h1; cases h1
  | x :: a, [], r, s, ha, _, _, hs, h => by
    have h1 := hs x (a ++ r) h.symm
    rw [ha x (by simp)] at h1; cases h1
  | x :: a, y :: b, r, s, ha, hb, hr, hs, h => by
    obtain ⟨rfl, h2⟩ := List.cons.inj (show x :: (a ++ r) = y :: (b ++ s) from h)
    obtain ⟨rfl, h3⟩ := span_eq (fun c hc => ha c (by simp [hc])) (fun c hc => hb c (by simp [hc])) hr hs h2
    exact ⟨rfl, h3⟩
theorem tw_eq : ∀ {a r : List UInt8}, (∀ c ∈ a, okb c = true) → nok r → (a ++ r).takeWhile okb = a ∧ (a ++ r).dropWhile okb = r
  | [], [], _, _ => ⟨rfl, rfl⟩
  | [], y :: r, _, hr => by
    have := hr y r rfl
    simp [this]
  | x :: a, r, ha, hr => by
    have h1 := ha x (by simp)
    obtain ⟨h2, h3⟩ := tw_eq (a := a) (fun c hc => ha c (by simp [hc])) hr
    simp [h1, h2, h3]
theorem nok_cons {c : UInt8} {t : List UInt8} (h : okb c = false) : nok (c :: t) := fun d u e => by
  obtain ⟨rfl, rfl⟩ := List.cons.inj e; exact h
theorem name_okb {w : Str} (h : isName w = true) : ∀ c ∈ w.l, okb c = true := by
  unfold isName at h
  intro c hc
  obtain ⟨j, hj, rfl⟩ := List.getElem_of_mem hc
  have := (of_decide_eq_true h).2.2.2 j hj
  rw [List.getD_eq_getElem?_getD, List.getElem?_eq_getElem hj] at this
  exact decide_eq_true this
theorem name_low {w : Str} (h : isName w = true) : ∃ c t, w.l = c :: t ∧ lowc c := by
  unfold isName at h
  obtain ⟨h1, _, h2, _⟩ := of_decide_eq_true h
  match hl : w.l, h1, h2 with
  | c :: t, _, h2 => exact ⟨c, t, rfl, h2⟩
theorem low_ne {c : UInt8} (h : lowc c) : c ≠ 40 ∧ c ≠ 45 ∧ c ≠ 41 ∧ c ≠ 61 := by
  refine ⟨?_, ?_, ?_, ?_⟩ <;> (rintro rfl; revert h; decide)
inductive Vw : Form → Prop
  | t : Vw (.mk 1 ⟨[]⟩ [] [])
  | p (nm : Str) (ws : List Str) : isName nm = true → (∀ w ∈ ws, isName w = true) → Vw (.mk 2 nm ws [])
  | e (a b : Str) : isName a = true → isName b = true → Vw (.mk 3 ⟨[]⟩ [a, b] [])
  | n (a : Form) : Vw a → Vw (.mk 4 ⟨[]⟩ [] [a])
  | j (k : Int) (a b : Form) : (k = 5 ∨ k = 6 ∨ k = 7) → Vw a → Vw b → Vw (.mk k ⟨[]⟩ [] [a, b])
  | q (k : Int) (nm : Str) (a : Form) : (k = 8 ∨ k = 9) → isName nm = true → Vw a → Vw (.mk k nm [] [a])
def stp (r : List UInt8) : Prop := r = [] ∨ ∃ c t, r = c :: t ∧ (c = 32 ∨ c = 41)
theorem stp.nok {r : List UInt8} (h : stp r) : nok r := by
  rcases h with rfl | ⟨c, t, rfl, rfl | rfl⟩
  · intro c t e; cases e
  · exact nok_cons (by decide)
  · exact nok_cons (by decide)
theorem stp.h40 {r t : List UInt8} (h : stp r) : r ≠ 40 :: t := by
  rintro rfl
  rcases h with h | ⟨c, u, h, hc⟩
  · cases h
  · obtain ⟨rfl, _⟩ := List.cons.inj h
    revert hc; decide
theorem stp_sp {t : List UInt8} : stp (32 :: t) := .inr ⟨32, t, rfl, .inl rfl⟩
theorem stp_cl {t : List UInt8} : stp (41 :: t) := .inr ⟨41, t, rfl, .inr rfl⟩
def kap (L : List UInt8) : Int :=
  match L with
  | [] => 0
  | c :: t => if c = 45 then 4 else if c = 40 then (if (t.dropWhile okb).take 2 = [32, 61] then 3 else 5)
    else if (L.dropWhile okb).head? = some 40 then 2 else if L.takeWhile okb = [116, 114, 117, 101] then 1 else if L.takeWhile okb = [97, 108, 108] then 8 else 9
def kaf (k : Int) : Int := if k = 5 ∨ k = 6 ∨ k = 7 then 5 else k
theorem kap_name {a r : List UInt8} {c : UInt8} {t : List UInt8} (ha : ∀ c ∈ a, okb c = true) (hr : nok r) (hc : a = c :: t) (h1 : c ≠ 45) (h2 : c ≠ 40) :
    kap (a ++ r) = if r.head? = some 40 then 2 else if a = [116, 114, 117, 101] then 1 else if a = [97, 108, 108] then 8 else 9 := by
  obtain ⟨e1, e2⟩ := tw_eq ha hr
  subst hc
  rw [List.cons_append] at e1 e2 ⊢
  unfold kap
  simp only [if_neg h1, if_neg h2]
  rw [e1, e2]
theorem txt_v1 : txt (.mk 1 ⟨[]⟩ [] []) = [116, 114, 117, 101] := txt_1 rfl
theorem txt_v2 {nm ws s} : txt (.mk 2 nm ws s) = nm.l ++ 40 :: (jn [44] ws ++ [41]) := by rw [txt_2 rfl, form_name, form_words]; simp
theorem txt_v3 {a b : Str} {s} : txt (.mk 3 ⟨[]⟩ [a, b] s) = 40 :: (a.l ++ (32 :: 61 :: 32 :: (b.l ++ [41]))) := by rw [txt_3 rfl, form_name, form_words]; simp [jn]
theorem txt_v4 {nm ws a} : txt (.mk 4 nm ws [a]) = 45 :: txt a := txt_4 rfl rfl
def sg2 (k : Int) : UInt8 := if k = 5 then 38 else if k = 6 then 124 else 62
theorem txt_v5 {k : Int} {nm ws a b} (h : k = 5 ∨ k = 6 ∨ k = 7) : txt (.mk k nm ws [a, b]) = 40 :: (txt a ++ (32 :: sg2 k :: 32 :: (txt b ++ [41]))) := by
  rw [txt_5 (f := .mk k nm ws [a, b]) h rfl, form_kind]
  have : sgn k = [32, sg2 k, 32] := by unfold sgn sg2; split <;> (try split) <;> rfl
  rw [this]; simp
def qs (k : Int) : List UInt8 := if k = 8 then [97, 108, 108] else [115, 111, 109, 101]
theorem txt_v8 {k : Int} {nm ws a} (h : k = 8 ∨ k = 9) : txt (.mk k nm ws [a]) = qs k ++ (32 :: (nm.l ++ (32 :: txt a))) := by
  rcases h with rfl | rfl
  · rw [txt_8 (f := .mk 8 nm ws [a]) rfl rfl, form_name]; simp [qs]
  · rw [txt_9 (f := .mk 9 nm ws [a]) rfl rfl, form_name]; simp [qs]
theorem qs_ok (k : Int) : (∀ c ∈ qs k, okb c = true) ∧ (∃ c t, qs k = c :: t ∧ c ≠ 45 ∧ c ≠ 40) := by
  unfold qs
  split
  · exact ⟨by decide, 97, [108, 108], rfl, by decide, by decide⟩
  · exact ⟨by decide, 115, [111, 109, 101], rfl, by decide, by decide⟩
theorem Vw.noeq {f : Form} (h : Vw f) : ∀ (c : UInt8) (t : List UInt8), c ≠ 61 → ((txt f ++ 32 :: c :: t).dropWhile okb).take 2 ≠ [32, 61] := by
  have n40 : okb 40 = false := by decide
  have o45 : okb 45 = true := by decide
  induction h with
  | t =>
    intro c t hc
    rw [txt_v1, (tw_eq (by decide) (nok_cons (by decide))).2]
    simpa using hc
  | p nm ws h1 h2 =>
    intro c t hc
    rw [txt_v2, List.append_assoc, List.cons_append, (tw_eq (name_okb h1) (nok_cons n40)).2]
    simp
  | e a b h1 h2 =>
    intro c t hc
    rw [txt_v3, List.cons_append, List.dropWhile_cons_of_neg (by simp [n40])]
    simp
  | n a _ ih =>
    intro c t hc
    rw [txt_v4, List.cons_append, List.dropWhile_cons_of_pos o45]
    exact ih c t hc
  | j k a b hk _ _ _ _ =>
    intro c t hc
    rw [txt_v5 hk, List.cons_append, List.dropWhile_cons_of_neg (by simp [n40])]
    simp
  | q k nm a hk h1 _ _ =>
    intro c t hc
    obtain ⟨d, u, hd, hl⟩ := name_low h1
    rw [txt_v8 hk, List.append_assoc, List.cons_append, (tw_eq (qs_ok k).1 (nok_cons (by decide))).2, hd]
    have := (low_ne hl).2.2.2
    simpa using this
theorem sg2_ne (k : Int) : sg2 k ≠ 61 := by unfold sg2; split <;> (try split) <;> decide
theorem Vw.kap {f : Form} (h : Vw f) {r : List UInt8} (hr : stp r) : kap (txt f ++ r) = kaf f.kind := by
  cases h with
  | t =>
    rw [txt_v1, kap_name (by decide) hr.nok rfl (by decide) (by decide)]
    have : r.head? ≠ some 40 := by
      rcases hr with rfl | ⟨c, t, rfl, rfl | rfl⟩ <;> simp
    rw [if_neg this]; rfl
  | p nm ws h1 h2 =>
    obtain ⟨d, u, hd, hl⟩ := name_low h1
    rw [txt_v2, List.append_assoc, List.cons_append, kap_name (name_okb h1) (nok_cons (by decide)) hd (low_ne hl).2.1 (low_ne hl).1]
    simp [kaf, form_kind]
  | e a b h1 h2 =>
    rw [txt_v3, List.cons_append]
    unfold Go.Abs.kap
    simp only [if_neg (show ¬ ((40 : UInt8) = 45) by decide), if_true]
    rw [List.append_assoc, List.cons_append, List.cons_append, (tw_eq (name_okb h1) (nok_cons (by decide))).2]
    simp [kaf, form_kind]
  | n a _ =>
    rw [txt_v4, List.cons_append]
    unfold Go.Abs.kap
    simp [kaf, form_kind]
  | j k a b hk ha _ =>
    rw [txt_v5 hk, List.cons_append, List.append_assoc, List.cons_append, List.cons_append]
    unfold Go.Abs.kap
    simp only [if_neg (show ¬ ((40 : UInt8) = 45) by decide), if_true]
    rw [if_neg (ha.noeq _ _ (sg2_ne k))]
    unfold kaf; rw [form_kind, if_pos hk]
  | q k nm a hk h1 _ =>
    obtain ⟨c, t, hq, q1, q2⟩ := (qs_ok k).2
    rw [txt_v8 hk, List.append_assoc, List.cons_append, kap_name (qs_ok k).1 (nok_cons (by decide)) hq q1 q2]
    rcases hk with rfl | rfl <;> simp [kaf, form_kind, qs]
theorem flat_inj : ∀ {ws vs : List Str} {r s : List UInt8}, (∀ w ∈ ws, isName w = true) → (∀ w ∈ vs, isName w = true) → (ws.flatMap fun v => [44] ++ v.l) ++ 41 :: r = (vs.flatMap fun v => [44] ++ v.l) ++ 41 :: s → ws = vs ∧ r = s
  | [], [], r, s, _, _, h => ⟨rfl, (List.cons.inj h).2⟩
  | [], v :: vs, r, s, _, _, h => by simp at h
  | w :: ws, [], r, s, _, _, h => by simp at h
  | w :: ws, v :: vs, r, s, hw, hv, h => by
    rw [List.flatMap_cons, List.flatMap_cons] at h
    simp only [List.cons_append, List.nil_append, List.append_assoc, List.cons.injEq, true_and] at h
    have nk : ∀ (l : List Str) (t : List UInt8), nok ((l.flatMap fun v => 44 :: v.l) ++ 41 :: t) := fun l t => by
      cases l with
      | nil => exact nok_cons (by decide)
      | cons a l => rw [List.flatMap_cons, List.cons_append, List.cons_append]; exact nok_cons (by decide)
    obtain ⟨h1, h2⟩ := span_eq (name_okb (hw w (by simp))) (name_okb (hv v (by simp))) (nk _ _) (nk _ _) h
    obtain ⟨h3, h4⟩ := flat_inj (ws := ws) (vs := vs) (r := r) (s := s) (fun x hx => hw x (by simp [hx])) (fun x hx => hv x (by simp [hx])) h2
    refine ⟨?_, h4⟩
    rw [h3, show w = v from by cases w; cases v; exact congrArg Str.mk h1]
theorem jn_inj {ws vs : List Str} {r s : List UInt8} (hw : ∀ w ∈ ws, isName w = true) (hv : ∀ w ∈ vs, isName w = true) (h : jn [44] ws ++ 41 :: r = jn [44] vs ++ 41 :: s) : ws = vs ∧ r = s := by
  cases ws with
  | nil =>
    cases vs with
    | nil => exact ⟨rfl, (List.cons.inj h).2⟩
    | cons v vs =>
      obtain ⟨d, u, hd, hl⟩ := name_low (hv v (by simp))
      rw [jn, jn, hd] at h
      have := (List.cons.inj h).1
      exact absurd this.symm (low_ne hl).2.2.1
  | cons w ws =>
    cases vs with
    | nil =>
      obtain ⟨d, u, hd, hl⟩ := name_low (hw w (by simp))
      rw [jn, jn, hd] at h
      have := (List.cons.inj h).1
      exact absurd this (low_ne hl).2.2.1
    | cons v vs =>
      refine flat_inj hw hv ?_
      rw [List.flatMap_cons, List.flatMap_cons]
      rw [jn, jn] at h
      simpa using h
theorem str_of {a b : Str} (h : a.l = b.l) : a = b := by cases a; cases b; exact congrArg Str.mk h
theorem Vw.inj {f : Form} (hf : Vw f) : ∀ {g : Form}, Vw g → ∀ {r s : List UInt8}, stp r → stp s → txt f ++ r = txt g ++ s → f = g ∧ r = s := by
  induction hf with
  | t =>
    intro g hg r s hr hs h
    have hk := (Vw.t.kap hr).symm.trans ((congrArg Go.Abs.kap h).trans (hg.kap hs))
    cases hg with
    | t => exact ⟨rfl, List.append_cancel_left h⟩
    | p => simp [kaf, form_kind] at hk
    | e => simp [kaf, form_kind] at hk
    | n => simp [kaf, form_kind] at hk
    | j k a b hk2 => exfalso; rw [form_kind, form_kind, show kaf k = 5 by unfold kaf; rw [if_pos hk2]] at hk; revert hk; decide
    | q k nm a hk2 => exfalso; rcases hk2 with rfl | rfl <;> simp [kaf, form_kind] at hk
  | p nm ws h1 h2 =>
    intro g hg r s hr hs h
    have hk := ((Vw.p nm ws h1 h2).kap hr).symm.trans ((congrArg Go.Abs.kap h).trans (hg.kap hs))
    cases hg with
    | t => simp [kaf, form_kind] at hk
    | p nm' ws' h1' h2' =>
      rw [txt_v2, txt_v2] at h
      simp only [List.append_assoc, List.cons_append, List.nil_append] at h
      obtain ⟨e1, e2⟩ := span_eq (name_okb h1) (name_okb h1') (nok_cons (by decide)) (nok_cons (by decide)) h
      obtain ⟨e3, e4⟩ := jn_inj h2 h2' (List.cons.inj e2).2
      exact ⟨by rw [str_of e1, e3], e4⟩
    | e => simp [kaf, form_kind] at hk
    | n => simp [kaf, form_kind] at hk
    | j k a b hk2 => exfalso; rw [form_kind, form_kind, show kaf k = 5 by unfold kaf; rw [if_pos hk2]] at hk; revert hk; decide
    | q k nm a hk2 => exfalso; rcases hk2 with rfl | rfl <;> simp [kaf, form_kind] at hk
  | e a b h1 h2 =>
    intro g hg r s hr hs h
    have hk := ((Vw.e a b h1 h2).kap hr).symm.trans ((congrArg Go.Abs.kap h).trans (hg.kap hs))
    cases hg with
    | t => simp [kaf, form_kind] at hk
    | p => simp [kaf, form_kind] at hk
    | e a' b' h1' h2' =>
      rw [txt_v3, txt_v3] at h
      simp only [List.append_assoc, List.cons_append, List.nil_append, List.cons.injEq, true_and] at h
      obtain ⟨e1, e2⟩ := span_eq (name_okb h1) (name_okb h1') (nok_cons (by decide)) (nok_cons (by decide)) h
      simp only [List.cons.injEq, true_and] at e2
      obtain ⟨e3, e4⟩ := span_eq (name_okb h2) (name_okb h2') (nok_cons (by decide)) (nok_cons (by decide)) e2
      exact ⟨by rw [str_of e1, str_of e3], (List.cons.inj e4).2⟩
    | n => simp [kaf, form_kind] at hk
    | j k a b hk2 => exfalso; rw [form_kind, form_kind, show kaf k = 5 by unfold kaf; rw [if_pos hk2]] at hk; revert hk; decide
    | q k nm a hk2 => exfalso; rcases hk2 with rfl | rfl <;> simp [kaf, form_kind] at hk
  | n a ha ih =>
    intro g hg r s hr hs h
    have hk := ((Vw.n a ha).kap hr).symm.trans ((congrArg Go.Abs.kap h).trans (hg.kap hs))
    cases hg with
    | t => simp [kaf, form_kind] at hk
    | p => simp [kaf, form_kind] at hk
    | e => simp [kaf, form_kind] at hk
    | n a' ha' =>
      rw [txt_v4, txt_v4] at h
      obtain ⟨e1, e2⟩ := ih ha' hr hs (List.cons.inj h).2
      exact ⟨by rw [e1], e2⟩
    | j k a b hk2 => exfalso; rw [form_kind, form_kind, show kaf k = 5 by unfold kaf; rw [if_pos hk2]] at hk; revert hk; decide
    | q k nm a hk2 => exfalso; rcases hk2 with rfl | rfl <;> simp [kaf, form_kind] at hk
  | j k a b hk1 ha hb iha ihb =>
    intro g hg r s hr hs h
    have hk := ((Vw.j k a b hk1 ha hb).kap hr).symm.trans ((congrArg Go.Abs.kap h).trans (hg.kap hs))
    have h5 : kaf k = 5 := by unfold kaf; rw [if_pos hk1]
    rw [form_kind, h5] at hk
    cases hg with
    | t => simp [kaf, form_kind] at hk
    | p => simp [kaf, form_kind] at hk
    | e => simp [kaf, form_kind] at hk
    | n => simp [kaf, form_kind] at hk
    | j k' a' b' hk2 ha' hb' =>
      rw [txt_v5 hk1, txt_v5 hk2] at h
      simp only [List.append_assoc, List.cons_append, List.nil_append, List.cons.injEq, true_and] at h
      obtain ⟨e1, e2⟩ := iha ha' stp_sp stp_sp h
      simp only [List.cons.injEq, true_and] at e2
      obtain ⟨e3, e4⟩ := e2
      obtain ⟨e5, e6⟩ := ihb hb' stp_cl stp_cl e4
      have ek : k = k' := by
        rcases hk1 with rfl | rfl | rfl <;> rcases hk2 with rfl | rfl | rfl <;> first | rfl | (exfalso; revert e3; decide)
      exact ⟨by rw [ek, e1, e5], (List.cons.inj e6).2⟩
    | q k nm a hk2 => exfalso; rcases hk2 with rfl | rfl <;> simp [kaf, form_kind] at hk
  | q k nm a hk1 h1 ha ih =>
    intro g hg r s hr hs h
    have hk := ((Vw.q k nm a hk1 h1 ha).kap hr).symm.trans ((congrArg Go.Abs.kap h).trans (hg.kap hs))
    have h8 : kaf k = k := by unfold kaf; rw [if_neg (by omega)]
    rw [form_kind, h8] at hk
    cases hg with
    | t => rcases hk1 with rfl | rfl <;> simp [kaf, form_kind] at hk
    | p => rcases hk1 with rfl | rfl <;> simp [kaf, form_kind] at hk
    | e => rcases hk1 with rfl | rfl <;> simp [kaf, form_kind] at hk
    | n => rcases hk1 with rfl | rfl <;> simp [kaf, form_kind] at hk
    | j k' a b hk2 => exfalso; unfold kaf at hk; simp only [form_kind, if_pos hk2] at hk; omega
    | q k' nm' a' hk2 h1' ha' =>
      have h8' : kaf k' = k' := by unfold kaf; rw [if_neg (by omega)]
      rw [form_kind, h8'] at hk
      subst hk
      rw [txt_v8 hk1, txt_v8 hk1] at h
      simp only [List.append_assoc, List.cons_append, List.nil_append] at h
      have h := List.append_cancel_left h
      simp only [List.cons.injEq, true_and] at h
      obtain ⟨e1, e2⟩ := span_eq (name_okb h1) (name_okb h1') (nok_cons (by decide)) (nok_cons (by decide)) h
      obtain ⟨e3, e4⟩ := ih ha' hr hs (List.cons.inj e2).2
      exact ⟨by rw [str_of e1, e3], e4⟩
theorem Vw.txt_eq {f g : Form} (hf : Vw f) (hg : Vw g) (h : txt f = txt g) : f = g := (hf.inj hg (.inl rfl) (.inl rfl) (by rw [h])).1
end Go.Abs

namespace Go.Abs
open Go

theorem vg_congr {a b : List Str} (h : ∀ j, vnum j ∈ a ↔ vnum j ∈ b) : vg a = vg b := by
  funext k; unfold vg; rw [nextM_congr h k]
mutual
theorem cst_ren {used : List Str} : ∀ (f : Form) (env : List Bind) (bd bd' : List Str) (n : Nat), (∀ w ∈ bd, lkp env w ∈ bd') → (∀ w ∈ bd', w ∉ used) → (∀ w ∈ cst f bd, lkp env w ∈ used) →
    cst (ren (vg used) f env n).1 bd' = (cst f bd).map (lkp env)
  | .mk k nm ws s, env, bd, bd', n, h1, h2, h3 => by
    rw [cst] at h3
    have hw : (ws.map (lkp env)).filter (fun w => decide (w ∉ bd')) = (ws.filter fun w => decide (w ∉ bd)).map (lkp env) := by
      have : ∀ l : List Str, (∀ w ∈ l, w ∈ ws) → (l.map (lkp env)).filter (fun w => decide (w ∉ bd')) = (l.filter fun w => decide (w ∉ bd)).map (lkp env) := by
        intro l
        induction l with
        | nil => intro _; rfl
        | cons w l ih =>
          intro hl
          have ih := ih fun x hx => hl x (by simp [hx])
          rw [List.map_cons]
          by_cases hb : w ∈ bd
          · rw [List.filter_cons_of_neg (by simpa using h1 w hb), List.filter_cons_of_neg (by simpa using hb), ih]
          · have hu : lkp env w ∉ bd' := fun hm => h2 _ hm (h3 w (List.mem_append_left _ (List.mem_filter.2 ⟨hl w (by simp), by simpa using hb⟩)))
            rw [List.filter_cons_of_pos (by simpa using hu), List.filter_cons_of_pos (by simpa using hb), ih, List.map_cons]
      exact this ws fun _ h => h
    rw [ren]
    by_cases hq : isQ k
    · rw [if_pos hq] at h3
      rw [if_pos hq, cst, cst, if_pos hq, if_pos hq, List.map_append, hw]
      have hv : vnum (nextM used n) ∉ used := (nextM_spec used n).2.2.1
      have hc : ∀ w ∈ csts s (bd ++ [nm]), lkp (env ++ [⟨nm, (vg used n).1⟩]) w = lkp env w := fun w hw => by
        have hn := csts_notin s _ w hw
        rw [lkp_snoc, if_neg fun e => hn (List.mem_append_right _ (List.mem_singleton.2 e.symm))]
      have ih := csts_ren s (env ++ [⟨nm, (vg used n).1⟩]) (bd ++ [nm]) (bd' ++ [(vg used n).1]) (vg used n).2 (fun w hw => by
        rw [lkp_snoc]
        by_cases e : nm = w
        · rw [if_pos e]; exact List.mem_append_right _ (by simp)
        · rw [if_neg e]
          rcases List.mem_append.1 hw with h | h
          · exact List.mem_append_left _ (h1 w h)
          · exact absurd (List.mem_singleton.1 h).symm e) (fun w hw => by
        rcases List.mem_append.1 hw with h | h
        · exact h2 w h
        · rw [List.mem_singleton.1 h]; exact hv) (fun w hw => by rw [hc w hw]; exact h3 w (List.mem_append_right _ hw))
      rw [ih]
      congr 1
      exact List.map_congr_left hc
    · rw [if_neg hq] at h3
      rw [if_neg hq, cst, cst, if_neg hq, if_neg hq, List.map_append, hw]
      rw [csts_ren s env bd bd' n h1 h2 fun w hw => h3 w (List.mem_append_right _ hw)]
theorem csts_ren {used : List Str} : ∀ (fs : List Form) (env : List Bind) (bd bd' : List Str) (n : Nat), (∀ w ∈ bd, lkp env w ∈ bd') → (∀ w ∈ bd', w ∉ used) → (∀ w ∈ csts fs bd, lkp env w ∈ used) →
    csts (rens (vg used) fs env n).1 bd' = (csts fs bd).map (lkp env)
  | [], env, bd, bd', n, _, _, _ => by rw [rens, csts, csts]; rfl
  | f :: fs, env, bd, bd', n, h1, h2, h3 => by
    rw [csts] at h3
    rw [rens, csts, csts, List.map_append, cst_ren f env bd bd' n h1 h2 fun w hw => h3 w (List.mem_append_left _ hw), csts_ren fs env bd bd' _ h1 h2 fun w hw => h3 w (List.mem_append_right _ hw)]
end
mutual
theorem ren_twice {g : Nat → Str × Nat} : ∀ (f : Form) (env env' : List Bind) (n : Nat), (∀ w, lkp env' w = w) → ren g (ren g f env n).1 env' n = ((ren g f env n).1, (ren g f env n).2)
  | .mk k nm ws s, env, env', n, h => by
    have hm : ∀ l : List Str, l.map (lkp env') = l := fun l => by
      rw [show lkp env' = id from funext h, List.map_id]
    rw [ren]
    by_cases hq : isQ k
    · rw [if_pos hq, ren, if_pos hq]
      rw [rens_twice s _ _ _ (fun w => by rw [lkp_snoc]; split; · assumption
                                          · exact h w), hm]
    · rw [if_neg hq, ren, if_neg hq]
      rw [rens_twice s env env' n h, hm]
theorem rens_twice {g : Nat → Str × Nat} : ∀ (fs : List Form) (env env' : List Bind) (n : Nat), (∀ w, lkp env' w = w) → rens g (rens g fs env n).1 env' n = ((rens g fs env n).1, (rens g fs env n).2)
  | [], env, env', n, _ => by simp [rens]
  | f :: fs, env, env', n, h => by
    rw [rens, rens, ren_twice f env env' n h, rens_twice fs env env' _ h]
end
theorem replM_one {b : Bind} {u : List Str} : replM [b] u = u.map fun w => if w = b.fr then b.to else w := rfl
theorem lkp_one {b : Bind} {w : Str} : lkp [b] w = if w = b.fr then b.to else w := by
  have := lkp_snoc [] b w
  rw [List.nil_append, lkp_nil] at this
  rw [this]
  by_cases h : b.fr = w
  · rw [if_pos h, if_pos h.symm]
  · rw [if_neg h, if_neg fun e => h e.symm]
theorem repl_lkp {env : List Bind} {u : List Str} (he : env.length ≤ 1) : replM env u = u.map (lkp env) := by
  match env, he with
  | [], _ => rw [show lkp [] = id from funext lkp_nil, List.map_id]; rfl
  | [b], _ => rw [replM_one]; exact List.map_congr_left fun w _ => lkp_one.symm
theorem canon_twice {f : Form} {env : List Bind} (he : env.length ≤ 1) : canonM (canonM f env) [] = canonM f env := by
  have hc : cst (canonM f env) [] = (cst f []).map (lkp env) := by
    unfold canonM
    refine cst_ren f env [] [] 0 (by simp) (by simp) fun w hw => ?_
    rw [repl_lkp he]
    exact List.mem_map.2 ⟨w, (mem_usedM f w).2 hw, rfl⟩
  have hv : vg (replM [] (usedM (canonM f env))) = vg (replM env (usedM f)) := by
    refine vg_congr fun j => ?_
    rw [repl_lkp he, show replM [] (usedM (canonM f env)) = usedM (canonM f env) from rfl, mem_usedM, hc, List.mem_map, List.mem_map]
    constructor
    · rintro ⟨w, hw, e⟩; exact ⟨w, (mem_usedM f w).2 hw, e⟩
    · rintro ⟨w, hw, e⟩; exact ⟨w, (mem_usedM f w).1 hw, e⟩
  have e : canonM (canonM f env) [] = (ren (vg (replM env (usedM f))) (canonM f env) [] 0).1 := by
    rw [← hv]; rfl
  rw [e]
  unfold canonM
  rw [ren_twice f env [] 0 lkp_nil]
structure BF0 (f : Form) : Prop where
  b : brF f
  sh : shp false f
  aw : allW (fun w => isName w = true) f
structure BF (f : Form) : Prop where
  o : BF0 f
  cn : cnn f = f
theorem BF0.clean {f : Form} (h : BF0 f) : clean f := allW_clean (fun _ hw => name_bang hw) f h.aw
theorem BF0.sub {f g : Form} (h : BF0 f) (hg : g ∈ f.subs) : BF0 g := by
  have hs := h.sh
  have ha := h.aw
  refine ⟨h.b.sub hg, ?_, ?_⟩
  · obtain ⟨k, nm, ws, s⟩ := f
    rw [shp] at hs
    exact (shps_mem s).1 hs.2 g hg
  · obtain ⟨k, nm, ws, s⟩ := f
    rw [allW] at ha
    exact (allWs_mem _ s).1 ha.2.2 g hg
theorem ren_names2 {used : List Str} {B : Nat} {p : Str → Prop} (hv : ∀ j, j < B → p (vnum j)) : ∀ m, (∀ (f : Form) (env : List Bind) (n : Nat), f.size ≤ m → n + (used.length + 1) * f.size ≤ B → allW p f → (∀ w, p w → p (lkp env w)) → allW p (ren (vg used) f env n).1) ∧
    ∀ (fs : List Form) (env : List Bind) (n : Nat), Form.sizes fs ≤ m → n + (used.length + 1) * Form.sizes fs ≤ B → allWs p fs → (∀ w, p w → p (lkp env w)) → allWs p (rens (vg used) fs env n).1 := by
  intro m
  induction m with
  | zero =>
    refine ⟨fun f env n h => by have := f.size_pos; omega, fun fs env n h _ _ _ => ?_⟩
    cases fs with
    | nil => rw [rens, allWs]; trivial
    | cons f fs => rw [Form.sizes] at h; have := f.size_pos; omega
  | succ m ih =>
    have h1 : ∀ (f : Form) (env : List Bind) (n : Nat), f.size ≤ m + 1 → n + (used.length + 1) * f.size ≤ B → allW p f → (∀ w, p w → p (lkp env w)) → allW p (ren (vg used) f env n).1 := by
      intro f env n hs hn ha he
      obtain ⟨k, nm, ws, s⟩ := f
      rw [Form.size] at hs hn
      rw [Nat.mul_add, Nat.mul_one] at hn
      rw [allW] at ha
      have hw : ∀ w ∈ ws.map (lkp env), p w := fun w hw => by
        obtain ⟨x, hx, rfl⟩ := List.mem_map.1 hw
        exact he x (ha.1 x hx)
      have hg := nextM_spec used n
      rw [ren]
      by_cases hq : isQ k
      · have hvn : p (vnum (nextM used n)) := hv _ (by omega)
        rw [if_pos hq, allW]
        refine ⟨hw, fun _ => hvn, ih.2 s _ _ (by omega) ?_ ha.2.2 fun w hw => ?_⟩
        · show nextM used n + 1 + _ ≤ B
          omega
        · rw [lkp_snoc]
          split
          · exact hvn
          · exact he w hw
      · rw [if_neg hq, allW]
        exact ⟨hw, fun h => absurd h hq, ih.2 s _ _ (by omega) (by omega) ha.2.2 he⟩
    refine ⟨h1, fun fs => ?_⟩
    induction fs with
    | nil => intro env n _ _ _ _; rw [rens, allWs]; trivial
    | cons f fs ih2 =>
      intro env n hs hn ha he
      rw [Form.sizes] at hs hn
      rw [Nat.mul_add] at hn
      rw [allWs] at ha
      rw [rens, allWs]
      have := ((ren_le (vg_le used)).1 f env n).2
      exact ⟨h1 f env n (by omega) (by omega) ha.1 he, ih2 env _ (by omega) (by omega) ha.2 he⟩
theorem BF0.can {f : Form} {env : List Bind} (h : BF0 f) (he : env.length ≤ 1) (hn : ∀ b ∈ env, isName b.to = true) : BF (canonM f env) := by
  refine ⟨⟨h.b.cn, ren_shp _ f env 0 h.sh, ?_⟩, canon_twice he⟩
  unfold canonM
  have h1 := cst_len f [] h.b.ft
  have h2 := usedM_len f
  refine (ren_names2 (B := 10 ^ 20) (fun j hj => vnum_name hj) f.size).1 f env 0 (Nat.le_refl _) ?_ h.aw fun w hw => ?_
  · rw [repl_lkp he, List.length_map]
    have hs := h.b.s
    have h3 : ((usedM f).length + 1) * f.size ≤ 800001 * 800 := Nat.mul_le_mul (by omega) hs
    omega
  · rcases lkp_or env w with e | ⟨b, hb, e⟩
    · rw [e]; exact hw
    · rw [e]; exact hn b hb
theorem BF0.cn {f : Form} (h : BF0 f) : BF (cnn f) := h.can (by simp) (by simp)
theorem BF0.not {f : Form} (h : BF0 f) (hs : f.size + 1 ≤ 800) : BF0 (notF f) := by
  refine ⟨⟨?_, ?_, ?_⟩, ?_, ?_⟩
  · unfold notF
    rw [vok, voks, voks]
    exact ⟨by decide, by decide, fun e => absurd e (by decide), fun e => absurd e (by decide), fun _ => rfl, fun e => by omega, h.b.v, trivial⟩
  · simp [notF, Form.fit, Form.fits, h.b.ft]
  · simp only [notF, Form.size, Form.sizes]; omega
  · unfold notF
    rw [shp, shps, shps]
    refine ⟨⟨rfl, rfl, fun e => ?_, fun _ => rfl⟩, h.sh, trivial⟩
    exact absurd (of_decide_eq_true e) (by rw [form_kind]; omega)
  · exact notF_allW h.aw
theorem BF0.ng {f : Form} (h : BF0 f) (hs : f.size + 1 ≤ 800) : BF (ngg f) := (h.not hs).can (by simp) (by simp)
theorem bf_view : ∀ (n : Nat) (f : Form), f.size ≤ n → BF0 f → Vw f
  | 0, f, h, _ => by have := f.size_pos; omega
  | n + 1, f, h, hb => by
    have hv := vok_eq.1 hb.b.v
    have hsub : ∀ g ∈ f.subs, Vw g := fun g hg => bf_view n g (by have := Form.size_sub hg; omega) (hb.sub hg)
    have hs := hb.sh
    have ha := hb.aw
    obtain ⟨k, nm, ws, s⟩ := f
    rw [shp] at hs
    rw [allW] at ha
    obtain ⟨⟨s1, s2, s3, s4⟩, _⟩ := hs
    simp only [form_kind, form_subs, form_name, form_words] at hv s1 s2 s3 s4 hsub
    have hp : partsK false (.mk k nm ws s) = subsK k := by unfold partsK; rw [form_kind, if_neg (by simp)]
    rw [hp] at s1
    have w0 : k ≠ 2 → k ≠ 3 → ws = [] := fun h2 h3 => by
      unfold wordsOk at s2
      rw [form_kind, form_words, if_neg h2, if_neg h3] at s2
      exact List.eq_nil_of_length_eq_zero (of_decide_eq_true s2)
    have n0 : k ≠ 2 → k ≠ 8 → k ≠ 9 → nm = ⟨[]⟩ := fun h2 h8 h9 => s4 (by
      unfold named
      rw [form_kind]
      exact decide_eq_false (by omega))
    have sub0 : (k = 1 ∨ k = 2 ∨ k = 3) → s = [] := fun h => by
      unfold subsK at s1
      rw [if_pos h] at s1
      exact List.eq_nil_of_length_eq_zero (by omega)
    by_cases h1 : k = 1
    · subst h1
      rw [w0 (by decide) (by decide), n0 (by decide) (by decide) (by decide), sub0 (.inl rfl)]
      exact .t
    by_cases h2 : k = 2
    · subst h2
      rw [sub0 (.inr (.inl rfl))]
      exact .p nm ws (s3 rfl (by unfold isQ; decide)) ha.1
    by_cases h3 : k = 3
    · subst h3
      rw [n0 (by decide) (by decide) (by decide), sub0 (.inr (.inr rfl))]
      have hl := hv.2.2.2.1 rfl
      match ws, hl, ha.1 with
      | [a, b], _, hw => exact .e a b (hw a (by simp)) (hw b (by simp))
    have hw := w0 h2 h3
    subst hw
    by_cases h4 : k = 4
    · subst h4
      rw [n0 (by decide) (by decide) (by decide)]
      have hl := hv.2.2.2.2.1 (.inl rfl)
      match s, hl, hsub with
      | [a], _, hsub => exact .n a (hsub a (by simp))
    by_cases h8 : k = 8 ∨ k = 9
    · have hl := hv.2.2.2.2.1 (.inr h8)
      match s, hl, hsub with
      | [a], _, hsub => exact .q k nm a h8 (ha.2.1 h8) (hsub a (by simp))
    have h5 : k = 5 ∨ k = 6 ∨ k = 7 := by omega
    rw [n0 h2 (by omega) (by omega)]
    have hl := hv.2.2.2.2.2.1 h5
    match s, hl, hsub with
    | [a, b], _, hsub => exact .j k a b h5 (hsub a (by simp)) (hsub b (by simp))
theorem BF0.vw {f : Form} (h : BF0 f) : Vw f := bf_view f.size f (Nat.le_refl _) h
theorem txt_eq {f g : Form} (hf : BF0 f) (hg : BF0 g) : txt f = txt g ↔ f = g := ⟨hf.vw.txt_eq hg.vw, fun h => by rw [h]⟩
end Go.Abs

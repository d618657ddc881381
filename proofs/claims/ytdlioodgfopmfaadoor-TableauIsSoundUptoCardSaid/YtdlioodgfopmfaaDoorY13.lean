/- several texts of this proof in one; no conditions -/
import Derived.Test.YtdlioodgfopmfaaDoorTK
import Derived.KernelRfl
set_option linter.unusedSimpArgs false
namespace Go.Abs
open Go

structure Brn where
  list : List Form
  used : List Bool
  seen : List (List Str)
  rounds : Int
def encBr (b : Brn) : FD := .agg [.sl (b.list.map enc), .sl (b.used.map enc), .sl (b.seen.map enc), .i .i64 b.rounds]
def decBr : FD → Brn
  | .agg [l, u, s, .i _ r] => ⟨dec l, dec u, dec s, r⟩
  | _ => ⟨[], [], [], 0⟩
theorem decBr_encBr (b : Brn) : decBr (encBr b) = b := by
  have h1 : dec (.sl (b.list.map enc)) = b.list := dec_enc b.list
  have h2 : dec (.sl (b.used.map enc)) = b.used := dec_enc b.used
  have h3 : dec (.sl (b.seen.map enc)) = b.seen := dec_enc b.seen
  unfold decBr encBr
  simp only [h1, h2, h3]
instance : Enc Brn := ⟨encBr, decBr, decBr_encBr⟩
@[go_sem] theorem enc_brn {b : Brn} : enc b = .agg [.sl (b.list.map enc), .sl (b.used.map enc), .sl (b.seen.map enc), .i .i64 b.rounds] := rfl
@[go_sem] theorem dec_brn {l u s : FD} {i : IntKind} {r : Int} : dec (α := Brn) (.agg [l, u, s, .i i r]) = ⟨dec l, dec u, dec s, r⟩ := rfl
@[go_sem] theorem brn_list {l u s r} : (Brn.mk l u s r).list = l := rfl
@[go_sem] theorem brn_used {l u s r} : (Brn.mk l u s r).used = u := rfl
@[go_sem] theorem brn_seen {l u s r} : (Brn.mk l u s r).seen = s := rfl
@[go_sem] theorem brn_rounds {l u s r} : (Brn.mk l u s r).rounds = r := rfl
@[go_sem] theorem brn_eta {b : Brn} : Brn.mk b.list b.used b.seen b.rounds = b := by cases b; rfl
def addB (b : Brn) (fs : List Form) : Brn := ⟨b.list ++ fs, b.used ++ List.replicate fs.length false, b.seen ++ List.replicate fs.length [], b.rounds⟩
def zeroP : Prf := .mk 0 0 0 ⟨[]⟩ []
def firstI (p : Form → Bool) : List Form → Nat → Option Nat
  | [], _ => none
  | x :: xs, k => if p x then some k else firstI p xs (k + 1)
def closedI (c : List Bind) (l : List Form) (f : Form) (i : Nat) : Option Prf :=
  if conM c f then some (.mk 1 i i ⟨[]⟩ [])
  else if f.kind = 4 ∧ (sub0 f).kind = 2 then (firstI (fun h => alikM c h (sub0 f)) l 0).map fun (k : Nat) => Prf.mk 1 (k : Int) i ⟨[]⟩ []
  else none
def closedL (c : List Bind) (l : List Form) : List Form → Nat → Option Prf
  | [], _ => none
  | f :: fs, i => match closedI c l f i with
    | some p => some p
    | none => closedL c l fs (i + 1)
def closedM (l : List Form) : Option Prf := closedL (clsM l) l l 0
def closedR (l : List Form) : Prf × Bool := match closedM l with
  | some p => (p, true)
  | none => (zeroP, false)
def namesM (l : List Form) : List Str := (compS (sortS ((l.flatMap usedM).map (·.l)))).map Str.mk
def cname (k : Nat) : Str := ⟨99 :: digits k⟩
def freshK (have' : List Str) : Nat → Nat → Nat
  | 0, k => k
  | m + 1, k => if cname k ∈ have' then freshK have' m (k + 1) else k
def freshM (have' : List Str) : Str := cname (freshK have' have'.length 0)
structure Res where
  p : Prf
  ok : Bool
  lim : Bool
  added : Int
def limR (a : Int) : Res := ⟨zeroP, false, true, a⟩
def pickK (want : Int) : List Form → List Bool → Nat → Option Nat
  | f :: fs, u :: us, i => if u = false ∧ (partsM f).1 = want then some i else pickK want fs us (i + 1)
  | [], _, _ => none
  | _ :: _, [], _ => none
def betaM (rec : Brn → Int → Res) (b1 : Brn) (i : Nat) : List Form → List Prf → Int → Res
  | [], subs, a => ⟨.mk 3 i 0 ⟨[]⟩ subs, true, false, a⟩
  | x :: xs, subs, a =>
    if 300 < a + 1 then limR (a + 1)
    else if (rec (addB b1 [x]) (a + 1)).ok = false then ⟨zeroP, false, (rec (addB b1 [x]) (a + 1)).lim, (rec (addB b1 [x]) (a + 1)).added⟩
    else betaM rec b1 i xs (subs ++ [(rec (addB b1 [x]) (a + 1)).p]) (rec (addB b1 [x]) (a + 1)).added
def markB (b : Brn) (i : Nat) : Brn := ⟨b.list, b.used.set i true, b.seen, b.rounds⟩
def alphaR (i : Nat) (r : Res) : Res := ⟨.mk 2 i 0 ⟨[]⟩ [r.p], r.ok, r.lim, r.added⟩
def deltaR (i : Nat) (nm : Str) (r : Res) : Res := ⟨.mk 5 i 0 nm [r.p], r.ok, r.lim, r.added⟩
def foundM (rec : Brn → Int → Res) (b : Brn) (a : Int) (i : Nat) (f : Form) : Res :=
  if (partsM f).1 = 1 then
    if 300 < a + (partsM f).2.1.length then limR (a + (partsM f).2.1.length)
    else alphaR i (rec (addB (markB b i) (partsM f).2.1) (a + (partsM f).2.1.length))
  else if (partsM f).1 = 4 then
    if 300 < a + 1 then limR (a + 1)
    else deltaR i (freshM (namesM b.list)) (rec (addB (markB b i) [instG (partsM f).2.2.1 (partsM f).2.2.2 (freshM (namesM b.list))]) (a + 1))
  else betaM rec (markB b i) i (partsM f).2.1 [] a
structure GS where
  c : Brn
  steps : List Prf
  added : Int
inductive GR where
  | lim (a : Int)
  | go (s : GS)
def saw (c : Brn) (i : Nat) (w : Str) : Brn := ⟨c.list, c.used, c.seen.set i (c.seen.getD i [] ++ [w]), c.rounds⟩
def gamW (q : Form) (t : Bool) (i : Nat) : List Str → GS → GR
  | [], s => .go s
  | w :: ws, s =>
    if w ∈ s.c.seen.getD i [] then gamW q t i ws s
    else if 300 < s.added + 1 then .lim (s.added + 1)
    else gamW q t i ws ⟨addB (saw s.c i w) [instG q t w], s.steps ++ [.mk 4 i 0 w []], s.added + 1⟩
def GR.bind (r : GR) (k : GS → GR) : GR := match r with
  | .lim a => .lim a
  | .go s => k s
def gamL (ws : List Str) : List Form → Nat → GS → GR
  | [], _, s => .go s
  | f :: fs, i, s => if (partsM f).1 = 3 then (gamW (partsM f).2.2.1 (partsM f).2.2.2 i ws s).bind (gamL ws fs (i + 1)) else gamL ws fs (i + 1) s
def wrapP (steps : List Prf) (p : Prf) : Prf := steps.foldr (fun s p => .mk s.kind s.form s.other s.name [p]) p
def constsM (l : List Form) : List Str := if namesM l = [] then [⟨[99, 48]⟩] else namesM l
def gamF (rec : Brn → Int → Res) : GR → Res
  | .lim a => limR a
  | .go s => if s.steps = [] then ⟨zeroP, false, false, s.added⟩ else ⟨wrapP s.steps (rec s.c s.added).p, (rec s.c s.added).ok, (rec s.c s.added).lim, (rec s.c s.added).added⟩
def gammaM (rec : Brn → Int → Res) (uses : Int) (b : Brn) (a : Int) : Res :=
  if b.rounds = uses then ⟨zeroP, false, false, a⟩
  else gamF rec (gamL (constsM b.list) b.list 0 ⟨⟨b.list, b.used, b.seen, b.rounds + 1⟩, [], a⟩)
def pickW (rec : Brn → Int → Res) (b : Brn) (a : Int) (k : Res) : List Int → Res
  | [] => k
  | w :: ws => match pickK w b.list b.used 0 with
    | some i => foundM rec b a i (b.list.getD i zeroF)
    | none => pickW rec b a k ws
def stepM (rec : Brn → Int → Res) (uses : Int) (b : Brn) (a : Int) : Res := match closedM b.list with
  | some p => ⟨p, true, false, a⟩
  | none => pickW rec b a (gammaM rec uses b a) [1, 4, 2]
def runM (uses : Int) : Nat → Brn → Int → Res
  | 0, _, a => limR a
  | n + 1, b, a => stepM (runM uses n) uses b a

section
variable {r1 r2 : Brn → Int → Res}
end
theorem partsM_not {f g : Form} {j : Int} (k4 : f.kind = 4) (s0 : sub0 f = g) (hj : g.kind = j) :
    (partsM f).1 = if j = 4 then 1 else if j = 5 then 2 else if j = 6 then 1 else if j = 7 then 1 else if j = 8 then 4 else if j = 9 then 3 else 0 := by
  subst hj s0
  unfold partsM
  rw [if_neg (by omega), if_neg (by omega), if_neg (by omega), if_neg (by omega), if_neg (by omega), if_pos k4]
  repeat' (first | rfl | (split; try rfl))
theorem partsM_kind {f : Form} {j : Int} (k4 : ¬ f.kind = 4) (hj : f.kind = j) :
    (partsM f).1 = if j = 5 then 1 else if j = 6 then 2 else if j = 7 then 2 else if j = 8 then 3 else if j = 9 then 4 else 0 := by
  subst hj
  unfold partsM
  repeat' (first | rfl | (split; try rfl))
  all_goals contradiction
end Go.Abs

namespace Go.Abs
open Go

structure RunOk (uses : Int) (b : Brn) (a : Int) : Prop where
  br : ∀ f ∈ b.list, brF f
  ll : (b.list.length : Int) ≤ 41 + a
  ul : b.used.length = b.list.length
  sl : b.seen.length = b.list.length
  ss : ∀ s ∈ b.seen, (s.length : Int) ≤ a
  r0 : 0 ≤ b.rounds
  r1 : b.rounds ≤ uses
  u : uses ≤ 1000
  a0 : 0 ≤ a
  a1 : a ≤ 300
section
variable {uses : Int} {b : Brn} {a : Int}
theorem RunOk.mono (h : RunOk uses b a) {a' : Int} (h1 : a ≤ a') (h2 : a' ≤ 300) : RunOk uses b a' :=
  ⟨h.br, by have := h.ll; omega, h.ul, h.sl, fun s hs => by have := h.ss s hs; omega, h.r0, h.r1, h.u, by have := h.a0; omega, h2⟩
theorem RunOk.mark (h : RunOk uses b a) (i : Nat) : RunOk uses (markB b i) a :=
  ⟨h.br, h.ll, by unfold markB; simp only [List.length_set]; exact h.ul, h.sl, h.ss, h.r0, h.r1, h.u, h.a0, h.a1⟩
theorem RunOk.add (h : RunOk uses b a) {fs : List Form} (hf : ∀ f ∈ fs, brF f) {a' : Int} (ha : a' = a + fs.length) (h2 : a' ≤ 300) : RunOk uses (addB b fs) a' := by
  subst ha
  have hll := h.ll
  have ha0 := h.a0
  refine ⟨fun f hf' => ?_, ?_, ?_, ?_, fun s hs => ?_, h.r0, h.r1, h.u, by omega, h2⟩
  · rcases List.mem_append.1 hf' with h1 | h1
    · exact h.br f h1
    · exact hf f h1
  · show ((b.list ++ fs).length : Int) ≤ _
    rw [List.length_append]; omega
  · show (b.used ++ List.replicate fs.length false).length = (b.list ++ fs).length
    rw [List.length_append, List.length_append, List.length_replicate, h.ul]
  · show (b.seen ++ List.replicate fs.length []).length = (b.list ++ fs).length
    rw [List.length_append, List.length_append, List.length_replicate, h.sl]
  · rcases List.mem_append.1 hs with h1 | h1
    · have := h.ss s h1; omega
    · rw [(List.mem_replicate.1 h1).2]; simp only [List.length_nil]; omega
theorem RunOk.saw (h : RunOk uses b a) {i : Nat} {w : Str} {I : Form} (hi : i < b.seen.length) (hI : brF I) (h2 : a + 1 ≤ 300) : RunOk uses (addB (saw b i w) [I]) (a + 1) := by
  have hll := h.ll
  have ha0 := h.a0
  refine ⟨fun f hf' => ?_, ?_, ?_, ?_, fun s hs => ?_, h.r0, h.r1, h.u, by omega, h2⟩
  · rcases List.mem_append.1 hf' with h1 | h1
    · exact h.br f h1
    · rw [List.mem_singleton.1 h1]; exact hI
  · show ((b.list ++ [I]).length : Int) ≤ _
    rw [List.length_append, List.length_singleton]; omega
  · show (b.used ++ List.replicate 1 false).length = (b.list ++ [I]).length
    rw [List.length_append, List.length_append, List.length_replicate, h.ul]; rfl
  · show (b.seen.set i (b.seen.getD i [] ++ [w]) ++ List.replicate 1 []).length = (b.list ++ [I]).length
    rw [List.length_append, List.length_append, List.length_replicate, List.length_set, h.sl]; rfl
  · rcases List.mem_append.1 hs with h1 | h1
    · rcases List.mem_or_eq_of_mem_set h1 with h3 | h3
      · have := h.ss s h3; omega
      · have hm : b.seen.getD i [] ∈ b.seen := by
          rw [List.getD_eq_getElem?_getD, List.getElem?_eq_getElem hi]; exact List.getElem_mem hi
        have h4 := h.ss _ hm
        rw [h3, List.length_append, List.length_singleton]
        omega
    · rw [(List.mem_replicate.1 h1).2]; simp only [List.length_nil]; omega
theorem alpha_pos {f : Form} (h : (partsM f).1 = 1) : 1 ≤ (partsM f).2.1.length := by
  unfold partsM at h ⊢
  by_cases h0 : f.kind = 5
  · rw [if_pos h0]; exact (by decide : (1 : Nat) ≤ 2)
  rw [if_neg h0] at h ⊢
  by_cases h1 : f.kind = 6
  · rw [if_pos h1] at h; exact absurd h (show ¬ ((2 : Int) = 1) by decide)
  rw [if_neg h1] at h ⊢
  by_cases h2 : f.kind = 7
  · rw [if_pos h2] at h; exact absurd h (show ¬ ((2 : Int) = 1) by decide)
  rw [if_neg h2] at h ⊢
  by_cases h3 : f.kind = 8
  · rw [if_pos h3] at h; exact absurd h (show ¬ ((3 : Int) = 1) by decide)
  rw [if_neg h3] at h ⊢
  by_cases h4 : f.kind = 9
  · rw [if_pos h4] at h; exact absurd h (show ¬ ((4 : Int) = 1) by decide)
  rw [if_neg h4] at h ⊢
  by_cases hk : f.kind = 4
  rotate_left
  · rw [if_neg hk] at h; exact absurd h (show ¬ ((0 : Int) = 1) by decide)
  rw [if_pos hk] at h ⊢
  by_cases h5 : (sub0 f).kind = 4
  · rw [if_pos h5]; exact (by decide : (1 : Nat) ≤ 1)
  rw [if_neg h5] at h ⊢
  by_cases h6 : (sub0 f).kind = 5
  · rw [if_pos h6] at h; exact absurd h (show ¬ ((2 : Int) = 1) by decide)
  rw [if_neg h6] at h ⊢
  by_cases h7 : (sub0 f).kind = 6
  · rw [if_pos h7]; exact (by decide : (1 : Nat) ≤ 2)
  rw [if_neg h7] at h ⊢
  by_cases h8 : (sub0 f).kind = 7
  · rw [if_pos h8]; exact (by decide : (1 : Nat) ≤ 2)
  rw [if_neg h8] at h ⊢
  by_cases h9 : (sub0 f).kind = 8
  · rw [if_pos h9] at h; exact absurd h (show ¬ ((4 : Int) = 1) by decide)
  rw [if_neg h9] at h ⊢
  by_cases h10 : (sub0 f).kind = 9
  · rw [if_pos h10] at h; exact absurd h (show ¬ ((3 : Int) = 1) by decide)
  rw [if_neg h10] at h ⊢
  exact absurd h (show ¬ ((0 : Int) = 1) by decide)
theorem gamW_added {q : Form} {t : Bool} {i : Nat} : ∀ (ws : List Str) (s : GS), s.added ≤ 300 → match gamW q t i ws s with
    | .lim a => s.added ≤ a
    | .go s' => s.added ≤ s'.added ∧ s'.added ≤ 300
  | [], s, h => by rw [gamW]; exact ⟨Int.le_refl _, h⟩
  | w :: ws, s, h => by
    rw [gamW]
    by_cases h1 : w ∈ s.c.seen.getD i []
    · rw [if_pos h1]; exact gamW_added ws s h
    · rw [if_neg h1]
      by_cases h2 : 300 < s.added + 1
      · rw [if_pos h2]; simp only; omega
      · rw [if_neg h2]
        have h3 := gamW_added (q := q) (t := t) (i := i) ws ⟨addB (saw s.c i w) [instG q t w], s.steps ++ [.mk 4 i 0 w []], s.added + 1⟩ (by simp only; omega)
        revert h3
        generalize gamW q t i ws ⟨addB (saw s.c i w) [instG q t w], s.steps ++ [.mk 4 i 0 w []], s.added + 1⟩ = r
        cases r with
        | lim a => intro h3; simp only at h3 ⊢; omega
        | go s' => intro h3; simp only at h3 ⊢; omega
theorem gamL_added {ws : List Str} : ∀ (l : List Form) (i : Nat) (s : GS), s.added ≤ 300 → match gamL ws l i s with
    | .lim a => s.added ≤ a
    | .go s' => s.added ≤ s'.added ∧ s'.added ≤ 300
  | [], i, s, h => by rw [gamL]; exact ⟨Int.le_refl _, h⟩
  | f :: fs, i, s, h => by
    rw [gamL]
    by_cases h1 : (partsM f).1 = 3
    · rw [if_pos h1]
      have h2 := gamW_added (q := (partsM f).2.2.1) (t := (partsM f).2.2.2) (i := i) ws s h
      revert h2
      generalize gamW (partsM f).2.2.1 (partsM f).2.2.2 i ws s = r
      cases r with
      | lim a => intro h2; exact h2
      | go s' =>
        intro h2
        have h3 := gamL_added (ws := ws) fs (i + 1) s' h2.2
        show match gamL ws fs (i + 1) s' with
          | .lim a => s.added ≤ a
          | .go s' => s.added ≤ s'.added ∧ s'.added ≤ 300
        revert h3
        generalize gamL ws fs (i + 1) s' = r
        cases r with
        | lim a => intro h3; simp only at h2 h3 ⊢; omega
        | go s'' => intro h3; simp only at h2 h3 ⊢; omega
    · rw [if_neg h1]; exact gamL_added fs (i + 1) s h
def addOk (a : Int) (r : Res) : Prop := a ≤ r.added ∧ (r.ok = true → r.added ≤ 300)
theorem betaM_added {rec : Brn → Int → Res} {b1 : Brn} {i : Nat} (h : ∀ b a, a ≤ 300 → addOk a (rec b a)) : ∀ (xs : List Form) (subs : List Prf) (a : Int), a ≤ 300 → addOk a (betaM rec b1 i xs subs a)
  | [], subs, a, ha => ⟨Int.le_refl _, fun _ => ha⟩
  | x :: xs, subs, a, ha => by
    rw [betaM]
    by_cases h1 : 300 < a + 1
    · rw [if_pos h1]; exact ⟨by show a ≤ a + 1; omega, fun e => by cases e⟩
    · rw [if_neg h1]
      have h2 := h (addB b1 [x]) (a + 1) (by omega)
      by_cases h3 : (rec (addB b1 [x]) (a + 1)).ok = false
      · rw [if_pos h3]
        exact ⟨by have := h2.1; simp only; omega, fun e => by cases e⟩
      · rw [if_neg h3]
        have h4 := betaM_added (b1 := b1) (i := i) h xs (subs ++ [(rec (addB b1 [x]) (a + 1)).p]) _ (h2.2 (by simpa using h3))
        exact ⟨by have := h2.1; have := h4.1; omega, h4.2⟩
theorem foundM_added {rec : Brn → Int → Res} {i : Nat} {f : Form} (h : ∀ b a, a ≤ 300 → addOk a (rec b a)) (ha : a ≤ 300) : addOk a (foundM rec b a i f) := by
  unfold foundM
  by_cases h1 : (partsM f).1 = 1
  · rw [if_pos h1]
    by_cases h2 : 300 < a + (partsM f).2.1.length
    · rw [if_pos h2]; exact ⟨by show a ≤ a + _; omega, fun e => by cases e⟩
    · rw [if_neg h2]
      have h3 := h (addB (markB b i) (partsM f).2.1) (a + (partsM f).2.1.length) (by omega)
      exact ⟨by have := h3.1; show a ≤ (rec _ _).added; omega, h3.2⟩
  · rw [if_neg h1]
    by_cases h4 : (partsM f).1 = 4
    · rw [if_pos h4]
      by_cases h2 : 300 < a + 1
      · rw [if_pos h2]; exact ⟨by show a ≤ a + 1; omega, fun e => by cases e⟩
      · rw [if_neg h2]
        have h3 := h (addB (markB b i) [instG (partsM f).2.2.1 (partsM f).2.2.2 (freshM (namesM b.list))]) (a + 1) (by omega)
        exact ⟨by have := h3.1; show a ≤ (rec _ _).added; omega, h3.2⟩
    · rw [if_neg h4]; exact betaM_added h _ _ _ ha
theorem runM_added {uses : Int} : ∀ (n : Nat) (b : Brn) (a : Int), a ≤ 300 → addOk a (runM uses n b a)
  | 0, b, a, ha => ⟨Int.le_refl _, fun e => by cases e⟩
  | n + 1, b, a, ha => by
    rw [runM]
    unfold stepM
    have ih := runM_added (uses := uses) n
    cases closedM b.list with
    | some p => exact ⟨Int.le_refl _, fun _ => ha⟩
    | none =>
      have hg : addOk a (gammaM (runM uses n) uses b a) := by
        unfold gammaM
        by_cases h1 : b.rounds = uses
        · rw [if_pos h1]; exact ⟨Int.le_refl _, fun e => by cases e⟩
        · rw [if_neg h1]
          have h2 := gamL_added (ws := constsM b.list) b.list 0 ⟨⟨b.list, b.used, b.seen, b.rounds + 1⟩, [], a⟩ ha
          revert h2
          generalize gamL (constsM b.list) b.list 0 ⟨⟨b.list, b.used, b.seen, b.rounds + 1⟩, [], a⟩ = r
          cases r with
          | lim a' => intro h2; exact ⟨h2, fun e => by cases e⟩
          | go s =>
            intro h2
            simp only at h2
            unfold gamF
            simp only
            by_cases h3 : s.steps = []
            · rw [if_pos h3]; exact ⟨h2.1, fun e => by cases e⟩
            · rw [if_neg h3]
              have h4 := ih s.c s.added h2.2
              exact ⟨by have := h4.1; have := h2.1; simp only; omega, h4.2⟩
      have key : ∀ ws : List Int, addOk a (pickW (runM uses n) b a (gammaM (runM uses n) uses b a) ws) := by
        intro ws
        induction ws with
        | nil => exact hg
        | cons w ws ihw =>
          rw [pickW]
          cases pickK w b.list b.used 0 with
          | some i => exact foundM_added ih ha
          | none => exact ihw
      exact key _
theorem pickK_step {want : Int} {l : List Form} {u : List Bool} {i k : Nat} (h : i < l.length) (h2 : i < u.length) : pickK want (l.drop i) (u.drop i) k = if u[i] = false ∧ (partsM l[i]).1 = want then some k else pickK want (l.drop (i + 1)) (u.drop (i + 1)) (k + 1) := by
  rw [List.drop_eq_getElem_cons h, List.drop_eq_getElem_cons h2, pickK]
theorem pickK_end {want : Int} {l : List Form} {u : List Bool} {i k : Nat} (h : l.length ≤ i) : pickK want (l.drop i) (u.drop i) k = none := by
  rw [List.drop_eq_nil_of_le h, pickK]
theorem gamW_step {q : Form} {t : Bool} {i j : Nat} {ws : List Str} {s : GS} (h : j < ws.length) : gamW q t i (ws.drop j) s =
    if ws[j] ∈ s.c.seen.getD i [] then gamW q t i (ws.drop (j + 1)) s
    else if 300 < s.added + 1 then .lim (s.added + 1)
    else gamW q t i (ws.drop (j + 1)) ⟨addB (saw s.c i ws[j]) [instG q t ws[j]], s.steps ++ [.mk 4 i 0 ws[j] []], s.added + 1⟩ := by
  rw [List.drop_eq_getElem_cons h, gamW]
theorem gamL_step {ws : List Str} {l : List Form} {i k : Nat} {s : GS} (h : i < l.length) : gamL ws (l.drop i) k s =
    if (partsM l[i]).1 = 3 then (gamW (partsM l[i]).2.2.1 (partsM l[i]).2.2.2 k ws s).bind (gamL ws (l.drop (i + 1)) (k + 1)) else gamL ws (l.drop (i + 1)) (k + 1) s := by
  rw [List.drop_eq_getElem_cons h, gamL]
theorem betaM_step {rec : Brn → Int → Res} {b1 : Brn} {i j : Nat} {xs : List Form} {subs : List Prf} (h : j < xs.length) : betaM rec b1 i (xs.drop j) subs a =
    if 300 < a + 1 then limR (a + 1)
    else if (rec (addB b1 [xs[j]]) (a + 1)).ok = false then ⟨zeroP, false, (rec (addB b1 [xs[j]]) (a + 1)).lim, (rec (addB b1 [xs[j]]) (a + 1)).added⟩
    else betaM rec b1 i (xs.drop (j + 1)) (subs ++ [(rec (addB b1 [xs[j]]) (a + 1)).p]) (rec (addB b1 [xs[j]]) (a + 1)).added := by
  rw [List.drop_eq_getElem_cons h, betaM]
end
theorem cname_inj {u v : Nat} (h : cname u = cname v) : u = v := digits_inj (List.cons.inj (Str.mk.inj h)).2
theorem freshK_le (used : List Str) : ∀ m k, k ≤ freshK used m k ∧ freshK used m k ≤ k + m
  | 0, k => by simp [freshK]
  | m + 1, k => by
    rw [freshK]
    split
    · have := freshK_le used m (k + 1); omega
    · omega
theorem freshK_taken (used : List Str) : ∀ m k i, k ≤ i → i < freshK used m k → cname i ∈ used
  | 0, k, i, h1, h2 => by simp only [freshK] at h2; omega
  | m + 1, k, i, h1, h2 => by
    rw [freshK] at h2
    split at h2
    · rename_i h
      rcases Nat.eq_or_lt_of_le h1 with rfl | h1
      · exact h
      · exact freshK_taken used m (k + 1) i h1 h2
    · omega
theorem freshK_free (used : List Str) : ∀ m k, freshK used m k < k + m → cname (freshK used m k) ∉ used
  | 0, k, h => by simp [freshK] at h
  | m + 1, k, h => by
    rw [freshK] at h ⊢
    split
    · rename_i h1
      rw [if_pos h1] at h
      exact freshK_free used m (k + 1) (by omega)
    · assumption
theorem pigC : ∀ (used : List Str) (S : List Nat), S.Nodup → (∀ i ∈ S, cname i ∈ used) → S.length ≤ used.length
  | [], S, _, h => by
    cases S with
    | nil => simp
    | cons i S => have := h i (by simp); simp at this
  | u :: us, S, hn, h => by
    by_cases he : ∃ i ∈ S, cname i = u
    · obtain ⟨i, hi, rfl⟩ := he
      have h1 := pigC us (S.erase i) (hn.erase i) fun j hj => by
        have h2 := (List.Nodup.mem_erase_iff hn).1 hj
        rcases List.mem_cons.1 (h j h2.2) with h3 | h3
        · exact absurd (cname_inj h3) h2.1
        · exact h3
      rw [List.length_erase_of_mem hi] at h1
      simp only [List.length_cons]
      omega
    · have h1 := pigC us S hn fun j hj => by
        rcases List.mem_cons.1 (h j hj) with h3 | h3
        · exact absurd ⟨j, hj, h3⟩ he
        · exact h3
      simp only [List.length_cons]
      omega
theorem freshK_spec (used : List Str) : freshK used used.length 0 ≤ used.length ∧ cname (freshK used used.length 0) ∉ used ∧ ∀ i, i < freshK used used.length 0 → cname i ∈ used := by
  have h1 := freshK_le used used.length 0
  have h2 := freshK_taken used used.length 0
  refine ⟨by omega, ?_, fun i hi => h2 i (Nat.zero_le _) hi⟩
  rcases Nat.lt_or_ge (freshK used used.length 0) (0 + used.length) with h | h
  · exact freshK_free used _ _ h
  · have he : freshK used used.length 0 = used.length := by omega
    intro hin
    rw [he] at hin h2
    have h3 := pigC used (List.range' 0 (used.length + 1)) List.nodup_range' fun i hi => by
      have := List.mem_range'_1.1 hi
      rcases Nat.lt_or_ge i used.length with h4 | h4
      · exact h2 i (Nat.zero_le _) h4
      · obtain rfl : i = used.length := by omega
        exact hin
    rw [List.length_range'] at h3
    omega
end Go.Abs

namespace Go.Abs
open Go

def manS : Str := ⟨[109, 97, 110]⟩
def morS : Str := ⟨[109, 111, 114, 116, 97, 108]⟩
def kimS : Str := ⟨[107, 105, 109]⟩
def exS : Str := ⟨[120]⟩
def v0S : Str := ⟨[118, 48]⟩
def prF (n w : Str) : Form := .mk 2 n [w] []
def allF (x : Str) : Form := .mk 8 x [] [.mk 7 ⟨[]⟩ [] [prF manS x, prF morS x]]
def mortalL : List Form := [allF exS, prF manS kimS]
def mortG : Form := prF morS kimS
def mortB : List Form := [allF v0S, prF manS kimS, .mk 4 ⟨[]⟩ [] [mortG]]
theorem used_nil {f : Form} (h : cst f [] = []) : usedM f = [] := by
  cases hu : usedM f with
  | nil => rfl
  | cons x l =>
    have := (mem_usedM f x).1 (by rw [hu]; simp)
    rw [h] at this
    simp at this
theorem sortS_rep {k : List UInt8} {n : Nat} : sortS (List.replicate n k) = List.replicate n k := List.perm_replicate.1 (sortS_perm _)
theorem used_one {f : Form} {w : Str} (h : cst f [] = [w]) : usedM f = [w] := by
  unfold usedM
  rw [h]
  have e : ([w].map (·.l)) = List.replicate 1 w.l := rfl
  rw [e, sortS_rep]
  rfl
theorem mort_can : canonM (allF exS) [] = allF v0S := by
  unfold canonM
  rw [used_nil (by kernel_rfl)]
  kernel_rfl
theorem mort_can2 : canonM (prF manS kimS) [] = prF manS kimS := by kernel_rfl
theorem mort_neg : ngg mortG = .mk 4 ⟨[]⟩ [] [mortG] := by kernel_rfl
theorem mort_names : namesM mortB = [kimS] := by
  unfold namesM
  have e1 : usedM (allF v0S) = [] := used_nil (by kernel_rfl)
  have e2 : usedM (prF manS kimS) = [kimS] := used_one (by kernel_rfl)
  have e3 : usedM (.mk 4 ⟨[]⟩ [] [mortG]) = [kimS] := used_one (by kernel_rfl)
  have e : (mortB.flatMap usedM) = [kimS, kimS] := by
    unfold mortB
    rw [List.flatMap_cons, List.flatMap_cons, List.flatMap_cons, List.flatMap_nil, e1, e2, e3]
    rfl
  rw [e]
  have e4 : ([kimS, kimS].map (·.l)) = List.replicate 2 kimS.l := rfl
  rw [e4, sortS_rep]
  have e5 : (compS (List.replicate 2 kimS.l)).map Str.mk = [kimS] := by kernel_rfl
  exact e5
def mortN : Brn := addB ⟨[], [], [], 0⟩ mortB
theorem mort_run {uses : Int} (h : 0 < uses) (n : Nat) : runM uses (n + 1) mortN 0 = gamF (runM uses n) (gamL [kimS] mortB 0 ⟨⟨mortB, mortN.used, mortN.seen, 1⟩, [], 0⟩) := by
  rw [runM]
  unfold stepM
  have h1 : closedM mortN.list = none := by kernel_rfl
  have h2 : pickK 1 mortN.list mortN.used 0 = none := by kernel_rfl
  have h3 : pickK 4 mortN.list mortN.used 0 = none := by kernel_rfl
  have h4 : pickK 2 mortN.list mortN.used 0 = none := by kernel_rfl
  rw [h1]
  simp only [pickW, h2, h3, h4]
  unfold gammaM
  have h5 : mortN.rounds = 0 := rfl
  have h6 : mortN.list = mortB := rfl
  rw [if_neg (by rw [h5]; omega)]
  have h7 : constsM mortB = [kimS] := by
    unfold constsM
    rw [mort_names, if_neg (by simp)]
  rw [h6, h7]
  rfl
theorem mort_1 : (runM 1 301 mortN 0).ok = true ∧ (runM 1 301 mortN 0).lim = false ∧ (runM 1 301 mortN 0).p.kind ≠ 0 := by
  rw [mort_run (by decide)]
  refine ⟨by kernel_rfl, by kernel_rfl, ?_⟩
  have e : (gamF (runM 1 300) (gamL [kimS] mortB 0 ⟨⟨mortB, mortN.used, mortN.seen, 1⟩, [], 0⟩)).p.kind = 4 := by kernel_rfl
  rw [e]
  decide
end Go.Abs

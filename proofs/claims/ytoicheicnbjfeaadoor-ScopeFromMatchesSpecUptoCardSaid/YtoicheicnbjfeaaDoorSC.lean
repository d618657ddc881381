import Derived.Test.YtoicheicnbjfeaaDoorLW
set_option linter.unusedSimpArgs false
namespace Go.Abs
open Go

/-! ## underspecified meanings -/
structure Piece where
  label : Str
  form : Form
deriving DecidableEq
structure Over where
  hole : Str
  label : Str
deriving DecidableEq
structure Scoped where
  pieces : List Piece
  overs : List Over
  vars : List Str
deriving DecidableEq
@[go_sem] theorem piece_eta {p : Piece} : Piece.mk p.label p.form = p := by cases p; rfl
@[go_sem] theorem over_eta {p : Over} : Over.mk p.hole p.label = p := by cases p; rfl
@[go_sem] theorem scoped_eta {p : Scoped} : Scoped.mk p.pieces p.overs p.vars = p := by cases p; rfl
instance : Inhabited Over := ⟨⟨⟨[]⟩, ⟨[]⟩⟩⟩
instance : Inhabited Piece := ⟨⟨⟨[]⟩, default⟩⟩
instance : Enc Over := ⟨fun b => .agg [.s b.hole.l, .s b.label.l], fun x => match x with | .agg [.s a, .s b] => ⟨⟨a⟩, ⟨b⟩⟩ | _ => ⟨⟨[]⟩, ⟨[]⟩⟩, fun b => by cases b; rfl⟩
@[go_sem] theorem enc_over {b : Over} : enc b = .agg [.s b.hole.l, .s b.label.l] := rfl
@[go_sem] theorem dec_over {a b : List UInt8} : dec (α := Over) (.agg [.s a, .s b]) = ⟨⟨a⟩, ⟨b⟩⟩ := rfl
instance : Kc Over 2 := ⟨fun _ => rfl⟩
@[go_sem] theorem lens_overs {l : List Over} : lens (l.map enc) 2 = True := eq_true (lens_kc l)
@[go_sem] theorem flats_overs {l : List Over} : (flatFz (l.map enc)).all oneB = true := by
  rw [List.all_eq_true]
  intro d hd
  simp only [flatFz, List.mem_flatMap, List.mem_map] at hd
  obtain ⟨_, ⟨a, _, rfl⟩, x, hx, rfl⟩ := hd
  simp only [enc_over, FD.cells, List.mem_cons, List.not_mem_nil, or_false] at hx
  rcases hx with rfl | rfl <;> rfl
instance : Enc Piece := ⟨fun p => .agg [.s p.label.l, .i .i64 p.form.kind, .s p.form.name.l, .sl (p.form.words.map enc), .sl (p.form.subs.map enc)],
  fun x => match x with | .agg [.s a, .i _ k, .s n, .sl w, .sl s] => ⟨⟨a⟩, .mk k ⟨n⟩ (w.map dec) (s.map dec)⟩ | _ => ⟨⟨[]⟩, default⟩, fun p => by
    cases p with
    | mk l f => simp only [map_dec_enc]; rw [show (⟨f.name.l⟩ : Str) = f.name from rfl, form_eta]⟩
@[go_sem] theorem enc_piece {p : Piece} : enc p = .agg [.s p.label.l, .i .i64 p.form.kind, .s p.form.name.l, .sl (p.form.words.map enc), .sl (p.form.subs.map enc)] := rfl
@[go_sem] theorem dec_piece {i a k n w s} : dec (α := Piece) (.agg [.s a, .i i k, .s n, .sl w, .sl s]) = ⟨⟨a⟩, .mk k ⟨n⟩ (dec (.sl w)) (dec (.sl s))⟩ := rfl
instance : Kc Piece 5 := ⟨fun _ => rfl⟩
@[go_sem] theorem lens_pieces {l : List Piece} : lens (l.map enc) 5 = True := eq_true (lens_kc l)
@[go_sem] theorem flats_pieces {l : List Piece} : (flatFz (l.map enc)).all oneB = true := by
  rw [List.all_eq_true]
  intro d hd
  simp only [flatFz, List.mem_flatMap, List.mem_map] at hd
  obtain ⟨_, ⟨a, _, rfl⟩, x, hx, rfl⟩ := hd
  simp only [enc_piece, FD.cells, List.mem_cons, List.not_mem_nil, or_false] at hx
  rcases hx with rfl | rfl | rfl | rfl | rfl <;> rfl
instance : Enc Scoped := ⟨fun s => .agg [.sl (s.pieces.map enc), .sl (s.overs.map enc), .sl (s.vars.map enc)],
  fun x => match x with | .agg [.sl a, .sl b, .sl c] => ⟨a.map dec, b.map dec, c.map dec⟩ | _ => ⟨[], [], []⟩, fun p => by
    cases p; simp only [map_dec_enc]⟩
@[go_sem] theorem enc_scoped {s : Scoped} : enc s = .agg [.sl (s.pieces.map enc), .sl (s.overs.map enc), .sl (s.vars.map enc)] := rfl
@[go_sem] theorem dec_scoped {a b c} : dec (α := Scoped) (.agg [.sl a, .sl b, .sl c]) = ⟨dec (.sl a), dec (.sl b), dec (.sl c)⟩ := rfl

/-! ### holes -/
mutual
def holesM : Form → List Str
  | .mk k nm _ s => if k = 10 then [nm] else holesMs s
def holesMs : List Form → List Str
  | [] => []
  | f :: fs => holesM f ++ holesMs fs
end
mutual
def holesR : Form → List Str
  | .mk k nm _ s => (if k = 10 then [nm] else []) ++ holesRs s
def holesRs : List Form → List Str
  | [] => []
  | f :: fs => holesR f ++ holesRs fs
end
theorem holesM_eq {f : Form} : holesM f = if f.kind = 10 then [f.name] else holesMs f.subs := by cases f; rw [holesM]; rfl
theorem holesR_eq {f : Form} : holesR f = (if f.kind = 10 then [f.name] else []) ++ holesRs f.subs := by cases f; rw [holesR]; rfl
theorem holesMs_app : ∀ a b : List Form, holesMs (a ++ b) = holesMs a ++ holesMs b
  | [], b => by rw [holesMs]; rfl
  | f :: a, b => by rw [List.cons_append, holesMs, holesMs, holesMs_app a b, List.append_assoc]
theorem holesRs_app : ∀ a b : List Form, holesRs (a ++ b) = holesRs a ++ holesRs b
  | [], b => by rw [holesRs]; rfl
  | f :: a, b => by rw [List.cons_append, holesRs, holesRs, holesRs_app a b, List.append_assoc]
theorem holesMs_take {s : List Form} {i : Nat} (h : i < s.length) : holesMs (s.take (i + 1)) = holesMs (s.take i) ++ holesM s[i] := by
  rw [List.take_succ_eq_append_getElem h, holesMs_app, holesMs, holesMs, List.append_nil]
theorem holesRs_take {s : List Form} {i : Nat} (h : i < s.length) : holesRs (s.take (i + 1)) = holesRs (s.take i) ++ holesR s[i] := by
  rw [List.take_succ_eq_append_getElem h, holesRs_app, holesRs, holesRs, List.append_nil]
mutual
theorem holesM_len : ∀ f : Form, (holesM f).length ≤ f.size
  | .mk k nm ws s => by
    rw [holesM, Form.size]
    split
    · simp
    · have := holesMs_len s; omega
theorem holesMs_len : ∀ fs : List Form, (holesMs fs).length ≤ Form.sizes fs
  | [] => by rw [holesMs]; simp
  | f :: fs => by rw [holesMs, Form.sizes, List.length_append]; have := holesM_len f; have := holesMs_len fs; omega
end
mutual
theorem holesR_len : ∀ f : Form, (holesR f).length ≤ f.size
  | .mk k nm ws s => by
    rw [holesR, Form.size, List.length_append]
    have := holesRs_len s
    split
    · simp; omega
    · simp; omega
theorem holesRs_len : ∀ fs : List Form, (holesRs fs).length ≤ Form.sizes fs
  | [] => by rw [holesRs]; simp
  | f :: fs => by rw [holesRs, Form.sizes, List.length_append]; have := holesR_len f; have := holesRs_len fs; omega
end
mutual
theorem chk_holes {op : Bool} : ∀ (f : Form) (d : Int) (n : Nat), (chk op f d n).1.code = 0 → holesR f = holesM f
  | .mk k nm w s, d, n, h => by
    rw [chk] at h
    split at h
    · rename_i h1; exact absurd h h1
    · rename_i h1
      have h2 := (nodeC_words (Decidable.not_not.1 h1)).2.2.2.2
      have h3 := chks_holes s _ _ h
      rw [holesR, holesM]
      split
      · rename_i hk
        subst hk
        simp only [form_subs] at h2
        have : partsK op (Form.mk 10 nm w s) ≤ 0 := by
          unfold partsK subsK
          simp only [form_kind]
          repeat' (split <;> try decide)
          all_goals omega
        have hs : s = [] := List.eq_nil_of_length_eq_zero (by omega)
        subst hs
        rw [holesRs]; rfl
      · rw [h3, List.nil_append]
theorem chks_holes {op : Bool} : ∀ (fs : List Form) (d : Int) (n : Nat), (chks op fs d n).1.code = 0 → holesRs fs = holesMs fs
  | [], d, n, _ => by rw [holesRs, holesMs]
  | f :: fs, d, n, h => by
    rw [chks] at h
    split at h
    · rename_i h1; exact absurd h h1
    · rename_i h1
      rw [holesRs, holesMs, chk_holes f d n (Decidable.not_not.1 h1), chks_holes fs d _ h]
end
theorem checkM_holes {op : Bool} {f : Form} (h : (checkM op f).code = 0) : holesR f = holesM f := chk_holes f 1 0 h

/-! ### the check -/
def dupH : List Str → List Str → Bool
  | _, [] => false
  | all, h :: hs => decide (h ∈ all) || dupH (all ++ [h]) hs
def pieceC (labels all : List Str) (p : Piece) : Int :=
  if isName p.label = false then 10 else if p.label ∈ labels then 7 else if (checkM true p.form).code ≠ 0 then (checkM true p.form).code else if dupH all (holesM p.form) = true then 7 else 0
/-- what is left of the walk through the pieces -/
def restP : List Str → List Str → List Piece → Nat → Fault
  | _, _, [], _ => ⟨0, 0⟩
  | l, a, p :: ps, i => if pieceC l a p ≠ 0 then ⟨pieceC l a p, i⟩ else restP (l ++ [p.label]) (a ++ holesM p.form) ps (i + 1)
def oversOk (labels all : List Str) (o : Over) : Bool := decide (o.hole ∈ all) && decide (o.label ∈ labels)
def varC (bef : List Str) (v : Str) : Int := if isName v = false then 10 else if v ∈ bef then 7 else 0
def restV : List Str → List Str → Int
  | _, [] => 0
  | b, v :: vs => if varC b v ≠ 0 then varC b v else restV (b ++ [v]) vs
def nodesM (l : List Piece) : Nat := Form.sizes (l.map (·.form))
def deepM : List Piece → Nat
  | [] => 0
  | p :: ps => p.form.depth + deepM ps
def labelsM (l : List Piece) : List Str := l.map (·.label)
def allM (l : List Piece) : List Str := l.flatMap fun p => holesM p.form
def scopeM (s : Scoped) : Fault :=
  if s.pieces.length = 0 ∨ 6 < s.pieces.length then ⟨2, -1⟩
  else if (restP [] [] s.pieces 0).code ≠ 0 then restP [] [] s.pieces 0
  else if 200 < nodesM s.pieces ∨ 40 < deepM s.pieces then ⟨1, -1⟩
  else if 300 < s.overs.length then ⟨2, -2⟩
  else if s.overs.all (oversOk (labelsM s.pieces) (allM s.pieces)) = false then ⟨6, -2⟩
  else if 6 < s.vars.length then ⟨2, -3⟩
  else if restV [] s.vars ≠ 0 then ⟨restV [] s.vars, -3⟩ else ⟨0, 0⟩
theorem scopeM_in {s : Scoped} (h0 : ¬ s.pieces.length = 0) (h6 : ¬ 6 < s.pieces.length) : scopeM s = if (restP [] [] s.pieces 0).code ≠ 0 then restP [] [] s.pieces 0
  else if 200 < nodesM s.pieces ∨ 40 < deepM s.pieces then ⟨1, -1⟩
  else if 300 < s.overs.length then ⟨2, -2⟩
  else if s.overs.all (oversOk (labelsM s.pieces) (allM s.pieces)) = false then ⟨6, -2⟩
  else if 6 < s.vars.length then ⟨2, -3⟩
  else if restV [] s.vars ≠ 0 then ⟨restV [] s.vars, -3⟩ else ⟨0, 0⟩ := by
  unfold scopeM; rw [if_neg (by omega)]
theorem deepM_app : ∀ a b : List Piece, deepM (a ++ b) = deepM a + deepM b
  | [], b => by rw [deepM]; simp
  | p :: a, b => by rw [List.cons_append, deepM, deepM, deepM_app a b]; omega
theorem nodesM_take {l : List Piece} {i : Nat} (h : i < l.length) : nodesM (l.take (i + 1)) = nodesM (l.take i) + l[i].form.size := by
  unfold nodesM
  rw [List.take_succ_eq_append_getElem h, List.map_append, Form.sizes_app]
  simp [Form.sizes]
theorem deepM_take {l : List Piece} {i : Nat} (h : i < l.length) : deepM (l.take (i + 1)) = deepM (l.take i) + l[i].form.depth := by
  rw [List.take_succ_eq_append_getElem h, deepM_app, deepM, deepM]; omega
theorem labelsM_take {l : List Piece} {i : Nat} (h : i < l.length) : labelsM (l.take (i + 1)) = labelsM (l.take i) ++ [l[i].label] := by
  unfold labelsM; rw [List.take_succ_eq_append_getElem h, List.map_append]; rfl
theorem allM_take {l : List Piece} {i : Nat} (h : i < l.length) : allM (l.take (i + 1)) = allM (l.take i) ++ holesM l[i].form := by
  unfold allM; rw [List.take_succ_eq_append_getElem h, List.flatMap_append]; simp
theorem restP_step {l a : List Str} {ps : List Piece} {i : Nat} (h : i < ps.length) : restP l a (ps.drop i) i = if pieceC l a ps[i] ≠ 0 then ⟨pieceC l a ps[i], i⟩ else restP (l ++ [ps[i].label]) (a ++ holesM ps[i].form) (ps.drop (i + 1)) (i + 1) := by
  rw [List.drop_eq_getElem_cons h, restP]
theorem restV_step {b vs : List Str} {i : Nat} (h : i < vs.length) : restV b (vs.drop i) = if varC b vs[i] ≠ 0 then varC b vs[i] else restV (b ++ [vs[i]]) (vs.drop (i + 1)) := by
  rw [List.drop_eq_getElem_cons h, restV]
theorem dupH_step {a hs : List Str} {i : Nat} (h : i < hs.length) : dupH a (hs.drop i) = (decide (hs[i] ∈ a) || dupH (a ++ [hs[i]]) (hs.drop (i + 1))) := by
  rw [List.drop_eq_getElem_cons h, dupH]
end Go.Abs

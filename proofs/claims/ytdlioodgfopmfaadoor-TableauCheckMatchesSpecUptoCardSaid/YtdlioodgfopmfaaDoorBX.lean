import Derived.Test.YtdlioodgfopmfaaDoorFC
set_option linter.unusedSimpArgs false
namespace Go.Abs
open Go

/-! ## boxes -/
mutual
inductive Cond where
  | mk (kind : Int) (name : Str) (form : Form) (boxes : List Box)
inductive Box where
  | mk (refs : List Str) (conds : List Cond)
end
def Cond.kind : Cond → Int | .mk k _ _ _ => k
def Cond.name : Cond → Str | .mk _ n _ _ => n
def Cond.form : Cond → Form | .mk _ _ f _ => f
def Cond.boxes : Cond → List Box | .mk _ _ _ b => b
def Box.refs : Box → List Str | .mk r _ => r
def Box.conds : Box → List Cond | .mk _ c => c
@[go_sem] theorem cond_kind {k n f b} : (Cond.mk k n f b).kind = k := rfl
@[go_sem] theorem cond_name {k n f b} : (Cond.mk k n f b).name = n := rfl
@[go_sem] theorem cond_form {k n f b} : (Cond.mk k n f b).form = f := rfl
@[go_sem] theorem cond_boxes {k n f b} : (Cond.mk k n f b).boxes = b := rfl
@[go_sem] theorem box_refs {r c} : (Box.mk r c).refs = r := rfl
@[go_sem] theorem box_conds {r c} : (Box.mk r c).conds = c := rfl
@[go_sem] theorem cond_eta {c : Cond} : Cond.mk c.kind c.name c.form c.boxes = c := by cases c; rfl
@[go_sem] theorem box_eta {b : Box} : Box.mk b.refs b.conds = b := by cases b; rfl
mutual
def encC : Cond → FD
  | .mk k n f b => .agg [.i .i64 k, .s n.l, .i .i64 f.kind, .s f.name.l, .sl (f.words.map enc), .sl (f.subs.map enc), .sl (encBs b)]
def encB : Box → FD
  | .mk r c => .agg [.sl (r.map enc), .sl (encCs c)]
def encBs : List Box → List FD
  | [] => []
  | b :: bs => encB b :: encBs bs
def encCs : List Cond → List FD
  | [] => []
  | c :: cs => encC c :: encCs cs
end
mutual
def decC : FD → Cond
  | .agg [.i _ k, .s n, .i _ fk, .s fn, .sl fw, .sl fs, .sl b] => .mk k ⟨n⟩ (.mk fk ⟨fn⟩ (fw.map dec) (fs.map dec)) (decBs b)
  | _ => .mk 0 ⟨[]⟩ (.mk 0 ⟨[]⟩ [] []) []
def decB : FD → Box
  | .agg [.sl r, .sl c] => .mk (r.map dec) (decCs c)
  | _ => .mk [] []
def decBs : List FD → List Box
  | [] => []
  | x :: xs => decB x :: decBs xs
def decCs : List FD → List Cond
  | [] => []
  | x :: xs => decC x :: decCs xs
end
mutual
theorem decC_encC : ∀ c, decC (encC c) = c
  | .mk k n f b => by simp only [encC, decC, map_dec_enc, decBs_encBs b, str_eta, form_eta]
theorem decB_encB : ∀ b, decB (encB b) = b
  | .mk r c => by simp only [encB, decB, map_dec_enc, decCs_encCs c]
theorem decBs_encBs : ∀ b, decBs (encBs b) = b
  | [] => rfl
  | b :: bs => by simp only [encBs, decBs, decB_encB b, decBs_encBs bs]
theorem decCs_encCs : ∀ c, decCs (encCs c) = c
  | [] => rfl
  | c :: cs => by simp only [encCs, decCs, decC_encC c, decCs_encCs cs]
end
instance : Enc Cond := ⟨encC, decC, decC_encC⟩
instance : Enc Box := ⟨encB, decB, decB_encB⟩
theorem encBs_map : ∀ s : List Box, encBs s = s.map enc
  | [] => rfl
  | f :: fs => by rw [encBs, encBs_map fs]; rfl
theorem encCs_map : ∀ s : List Cond, encCs s = s.map enc
  | [] => rfl
  | f :: fs => by rw [encCs, encCs_map fs]; rfl
theorem decBs_map : ∀ s : List FD, decBs s = dec (α := List Box) (.sl s)
  | [] => rfl
  | f :: fs => by rw [decBs, decBs_map fs]; rfl
theorem decCs_map : ∀ s : List FD, decCs s = dec (α := List Cond) (.sl s)
  | [] => rfl
  | f :: fs => by rw [decCs, decCs_map fs]; rfl
@[go_sem] theorem enc_cond {c : Cond} : enc c = .agg [.i .i64 c.kind, .s c.name.l, .i .i64 c.form.kind, .s c.form.name.l, .sl (c.form.words.map enc), .sl (c.form.subs.map enc), .sl (c.boxes.map enc)] := by
  cases c with
  | mk k n f b => show encC _ = _; rw [encC, encBs_map]; rfl
@[go_sem] theorem enc_box {b : Box} : enc b = .agg [.sl (b.refs.map enc), .sl (b.conds.map enc)] := by
  cases b with
  | mk r c => show encB _ = _; rw [encB, encCs_map]; rfl
@[go_sem] theorem dec_cond {i j k n fk fn fw fs b} : dec (α := Cond) (.agg [.i i k, .s n, .i j fk, .s fn, .sl fw, .sl fs, .sl b]) = .mk k ⟨n⟩ (.mk fk ⟨fn⟩ (dec (.sl fw)) (dec (.sl fs))) (dec (.sl b)) := by
  show decC _ = _; rw [decC, decBs_map]; rfl
@[go_sem] theorem dec_box {r c} : dec (α := Box) (.agg [.sl r, .sl c]) = .mk (dec (.sl r)) (dec (.sl c)) := by
  show decB _ = _; rw [decB, decCs_map]; rfl
instance : Kc Cond 7 := ⟨fun f => by rw [enc_cond]; rfl⟩
instance : Kc Box 2 := ⟨fun f => by rw [enc_box]; rfl⟩
@[go_sem] theorem lens_conds {l : List Cond} : lens (l.map enc) 7 = True := eq_true (lens_kc l)
@[go_sem] theorem lens_boxes {l : List Box} : lens (l.map enc) 2 = True := eq_true (lens_kc l)
@[go_sem] theorem flats_conds {l : List Cond} : (flatFz (l.map enc)).all oneB = true := by
  rw [List.all_eq_true]
  intro d hd
  simp only [flatFz, List.mem_flatMap, List.mem_map] at hd
  obtain ⟨_, ⟨a, _, rfl⟩, x, hx, rfl⟩ := hd
  simp only [enc_cond, FD.cells, List.mem_cons, List.not_mem_nil, or_false] at hx
  rcases hx with rfl | rfl | rfl | rfl | rfl | rfl | rfl <;> rfl
@[go_sem] theorem flats_boxes {l : List Box} : (flatFz (l.map enc)).all oneB = true := by
  rw [List.all_eq_true]
  intro d hd
  simp only [flatFz, List.mem_flatMap, List.mem_map] at hd
  obtain ⟨_, ⟨a, _, rfl⟩, x, hx, rfl⟩ := hd
  simp only [enc_box, FD.cells, List.mem_cons, List.not_mem_nil, or_false] at hx
  rcases hx with rfl | rfl <;> rfl
mutual
def Cond.size : Cond → Nat
  | .mk _ _ _ b => Box.sizes b + 1
def Box.size : Box → Nat
  | .mk _ c => Cond.sizes c + 1
def Box.sizes : List Box → Nat
  | [] => 0
  | b :: bs => b.size + Box.sizes bs
def Cond.sizes : List Cond → Nat
  | [] => 0
  | c :: cs => c.size + Cond.sizes cs
end
theorem Box.size_mem : ∀ {l : List Box} {f : Box}, f ∈ l → f.size ≤ Box.sizes l
  | g :: l, f, h => by
    rw [Box.sizes]
    rcases List.mem_cons.1 h with rfl | h
    · omega
    · have := Box.size_mem h; omega
theorem Cond.size_mem : ∀ {l : List Cond} {f : Cond}, f ∈ l → f.size ≤ Cond.sizes l
  | g :: l, f, h => by
    rw [Cond.sizes]
    rcases List.mem_cons.1 h with rfl | h
    · omega
    · have := Cond.size_mem h; omega
theorem Box.size_sub {b : Box} {c : Cond} (h : c ∈ b.conds) : c.size < b.size := by
  cases b with
  | mk r cs => rw [Box.size]; have := Cond.size_mem (show c ∈ cs from h); omega
theorem Cond.size_sub {c : Cond} {b : Box} (h : b ∈ c.boxes) : b.size < c.size := by
  cases c with
  | mk k n f bs => rw [Cond.size]; have := Box.size_mem (show b ∈ bs from h); omega

/-! ### the check of a box -/
def boxesK (k : Int) : Int := if k = 1 ∨ k = 5 then 0 else if k = 2 ∨ k = 6 then 1 else if k = 3 ∨ k = 4 then 2 else -1
def noForm (f : Form) : Bool := decide (f.kind = 0) && decide (f.name = ⟨[]⟩) && decide (f.words.length = 0) && decide (f.subs.length = 0)
/-- the code of a condition's error -/
def condC (c : Cond) (refs : List Str) : Int :=
  if boxesK c.kind < 0 then 4 else if ¬ (c.boxes.length : Int) = boxesK c.kind then 9 else if c.kind ≠ 5 ∧ c.name ≠ ⟨[]⟩ ∨ 0 < boxesK c.kind ∧ noForm c.form = false then 5
  else if 0 < boxesK c.kind then 0 else if (checkM false c.form).code ≠ 0 then (checkM false c.form).code
  else if c.kind = 1 ∧ c.form.kind ≠ 2 ∧ c.form.kind ≠ 3 ∨ c.kind = 5 ∧ (c.form.kind ≠ 2 ∨ c.form.words.length ≠ 0) then 5 else if c.kind = 5 ∧ c.name ∉ refs then 6 else 0
/-- referents are added, one by one: the code of an error, and those so far -/
def refsGo : List Str → List Str → Int × List Str
  | refs, [] => (0, refs)
  | refs, x :: xs => if isName x = false then (10, refs) else if x ∈ refs then (7, refs) else refsGo (refs ++ [x]) xs
structure BS where
  e : Fault
  n : Nat
  refs : List Str
mutual
def boxW : Box → Int → Int → Nat → List Str → BS
  | .mk r cs, depth, most, n, refs =>
    if 200 < n + 1 ∨ 10 < depth then ⟨⟨1, n⟩, n + 1, refs⟩
    else if most < r.length ∨ 200 < refs.length + r.length then ⟨⟨2, n⟩, n + 1, refs⟩
    else if (refsGo refs r).1 ≠ 0 then ⟨⟨(refsGo refs r).1, n⟩, n + 1, (refsGo refs r).2⟩
    else condsW r cs depth (n + 1) (refsGo refs r).2
def condsW : List Str → List Cond → Int → Nat → List Str → BS
  | _, [], _, n, refs => ⟨⟨0, 0⟩, n, refs⟩
  | r, c :: cs, depth, n, refs => if (condW r c depth n refs).e.code ≠ 0 then condW r c depth n refs else condsW r cs depth (condW r c depth n refs).n (condW r c depth n refs).refs
def condW : List Str → Cond → Int → Nat → List Str → BS
  | r, .mk k nm f bs, depth, n, refs =>
    if 200 < n + 1 then ⟨⟨1, n⟩, n + 1, refs⟩ else if condC (.mk k nm f bs) r ≠ 0 then ⟨⟨condC (.mk k nm f bs) r, n⟩, n + 1, refs⟩
    else boxsW bs (depth + 1) (if k = 6 then 2 else 200) (n + 1) refs
def boxsW : List Box → Int → Int → Nat → List Str → BS
  | [], _, _, n, refs => ⟨⟨0, 0⟩, n, refs⟩
  | b :: bs, depth, most, n, refs => if (boxW b depth most n refs).e.code ≠ 0 then boxW b depth most n refs else boxsW bs depth most (boxW b depth most n refs).n (boxW b depth most n refs).refs
end
def boxM (b : Box) : Fault := (boxW b 1 200 0 []).e
end Go.Abs

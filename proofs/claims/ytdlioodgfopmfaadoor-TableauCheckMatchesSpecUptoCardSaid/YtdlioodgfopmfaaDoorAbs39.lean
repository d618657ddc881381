import Derived.Test.YtdlioodgfopmfaaDoorAbs38
namespace Go.Abs
open Go Go.Deep

/-! ## from a row's reading to the data, second form: structs and types that hold themselves -/

/-- cells that stand for data -/
def CR (w : World) (cs : List Value) (ys : List FD) : Prop := cs.length = ys.length ∧ ∀ j, j < cs.length → FRep w (Fall w) (cs.getD j undef) (ys.getD j .nilf)

theorem CR.nil {w : World} : CR w [] [] := ⟨rfl, fun j hj => by simp at hj⟩
theorem CR.app {w : World} {cs ds : List Value} {xs ys : List FD} (h1 : CR w cs xs) (h2 : CR w ds ys) : CR w (cs ++ ds) (xs ++ ys) := by
  refine ⟨by rw [List.length_append, List.length_append, h1.1, h2.1], fun j hj => ?_⟩
  rw [List.length_append] at hj
  by_cases hj1 : j < cs.length
  · rw [List.getD_eq_getElem?_getD, List.getElem?_append_left hj1, List.getD_eq_getElem?_getD, List.getElem?_append_left (by rw [← h1.1]; exact hj1)]
    have := h1.2 j hj1
    rwa [List.getD_eq_getElem?_getD, List.getD_eq_getElem?_getD] at this
  · rw [List.getD_eq_getElem?_getD, List.getElem?_append_right (by omega), List.getD_eq_getElem?_getD, List.getElem?_append_right (by rw [← h1.1]; omega), ← h1.1]
    have := h2.2 (j - cs.length) (by omega)
    rwa [List.getD_eq_getElem?_getD, List.getD_eq_getElem?_getD] at this
theorem CR.one {w : World} {v : Value} {y : FD} (h : FRep w (Fall w) v y) : CR w [v] [y] := ⟨rfl, fun j hj => by
  obtain rfl : j = 0 := by simp at hj; omega
  exact h⟩
theorem CR.one_inv {w : World} {v : Value} {y : FD} (h : CR w [v] [y]) : FRep w (Fall w) v y := h.2 0 (by simp)
theorem CR.agg {w : World} {cs : Array Value} {ys : List FD} (h : CR w cs.toList ys) : FRep w (Fall w) (.agg cs) (.agg ys) := by
  have := FRep.agg (w := w) (F := Fall w) cs.toList ys h.1 (fun j hj => h.2 j (by rw [h.1]; exact hj))
  simpa using this
theorem CR.part {w : World} {cs : List Value} {o s : Nat} {xs ys : List FD} (h1 : CR w ((cs.drop o).take s) xs) (h2 : CR w (cs.drop (o + s)) ys) : CR w (cs.drop o) (xs ++ ys) := by
  have := h1.app h2
  rwa [← List.drop_drop, List.take_append_drop] at this
theorem CR.fin {w : World} {cs : List Value} {o : Nat} (h : cs.length = o) : CR w (cs.drop o) [] := by
  rw [List.drop_of_length_le (by omega)]; exact .nil

def RdN (n : Nat) (blk : (H : Type) → DataW H → Nat) (P : Program) (t : TypeId) (α : Type) [Enc α] : Prop :=
  ∀ {H : Type} {en : TypeId × Value → H} {w : World} {base : Nat} {spare : Nat → Bool} {held : Bool} {fuel : Nat} {cs : List Value} {x : DataW H × List MemPlace},
    DataW.trod en P w base spare held fuel t cs = some x → SizeOf.sizeOf x.1 < n → blk H x.1 ≤ 1048576 → ∃ a : α, CR w cs (enc a).cells

section
variable {n : Nat} {blk : (H : Type) → DataW H → Nat} {P : Program} {t e : TypeId}
theorem RdN.of {α : Type} [Enc α] (h : Rd blk P t α) : RdN n blk P t α := fun h1 _ h2 => h h1 h2
theorem RdN.to {α : Type} [Enc α] (h : ∀ n, RdN n blk P t α) : Rd blk P t α := fun h1 h2 => h _ h1 (Nat.lt_succ_self _) h2

theorem rdn_slice (hB : BulkOk blk) {α : Type} [Enc α] (ht : P.underlying t = some (.slice e)) (hes : 0 < P.cellsOf e) (hr : RdN n blk P e α) : RdN n blk P t (List α) := by
  intro H en w base spare held fuel cs x h hsz hbk
  rcases open_slice ht h with ⟨rfl, _⟩ | ⟨a, len, cap, m, k, D, Pl, rfl, hb, hl, hm, hme, rfl, hel⟩
  · exact ⟨[], .one (.sl0 none 0)⟩
  · have hlm : len ≤ m := by rw [hme]; split <;> omega
    have each : ∀ i, i < len → ∃ b : α, (enc b).cells.length = P.cellsOf e ∧ ∀ j, j < P.cellsOf e → ∃ v, w.cell? ((a.add (i * P.cellsOf e)).add j) = some v ∧ FRep w (Fall w) v ((enc b).cells.getD j .nilf) := fun i hi => by
      obtain ⟨cs', h1, h2⟩ := hel i (by omega)
      obtain ⟨g1, g2⟩ := cells?_get h1
      have hmem : D i ∈ (List.range len).map D := List.mem_map.2 ⟨i, List.mem_range.2 hi, rfl⟩
      have hlt : SizeOf.sizeOf (D i) < n := by
        have q1 := List.sizeOf_lt_of_mem hmem
        simp only [DataW.slice.sizeOf_spec] at hsz
        omega
      obtain ⟨b, b1, b2⟩ := hr h2 hlt (Nat.le_trans (hB.el _ _ _ _ hmem) hbk)
      exact ⟨b, by rw [← b1, g1], fun j hj => ⟨_, g2 j hj, b2 j (by rw [g1]; exact hj)⟩⟩
    obtain ⟨l, l1, l2⟩ := list_choice len each
    refine ⟨l, .one ?_⟩
    have hmax : len ≤ maxL := by
      have := Nat.le_trans (hB.sl _ _ _) hbk
      simp only [List.length_map, List.length_range] at this
      unfold maxL; omega
    have hxl : (l.map enc).length = len := by simp [l1]
    show FRep w (Fall w) (.slice (some a) len cap) (.sl (l.map enc))
    rcases Nat.eq_zero_or_pos len with h0 | h0
    · have : l = [] := List.eq_nil_of_length_eq_zero (by omega)
      subst this
      rw [h0]
      exact .sl0 _ _
    · have gd : ∀ i (hi : i < len), (l.map enc).getD i .nilf = enc (l[i]'(by omega)) := fun i hi => by
        simp [List.getD_eq_getElem?_getD, show i < l.length by omega]
      obtain ⟨v0, hv0, _⟩ := (l2 0 (by omega)).2 0 hes
      rw [Nat.zero_mul] at hv0
      have ha0 : (a.add 0).add 0 = a := by simp [Addr.add]
      rw [ha0] at hv0
      obtain ⟨hsp, cs, T, fr, hcs, _⟩ := cell?_some hv0
      have hlt : a.block < w.heap.size := by
        rcases Nat.lt_or_ge a.block w.heap.size with h | h
        · exact h
        · rw [Array.getElem?_eq_none h] at hcs; cases hcs
      have ea : a = ⟨a.block, a.off, none⟩ := by cases a; simp at hsp; subst hsp; rfl
      have key : ∀ i j, i < len → j < P.cellsOf e → ∃ v, cs[a.off + i * P.cellsOf e + j]? = some v ∧ FRep w (Fall w) v (((l.map enc).getD i .nilf).cells.getD j .nilf) := fun i j hi hj => by
        obtain ⟨v, h1, h2⟩ := (l2 i (by omega)).2 j hj
        rw [ea, addr_add, addr_add, cell_of hcs] at h1
        exact ⟨v, h1, by rw [gd i hi]; exact h2⟩
      rw [ea, ← hxl]
      refine FRep.sl a.block a.off cap (P.cellsOf e) _ (fun i j => cs.getD (a.off + i * P.cellsOf e + j) undef) (by omega) (by omega) (fun _ _ => hlt) (fun i hi => ?_) (fun i j hi hj => ?_) (fun i j hi hj => ?_)
      · rw [gd i (by omega)]; exact (l2 i (by omega)).1
      · obtain ⟨v, h1, _⟩ := key i j (by omega) hj
        rw [at_of hcs]
        simp [Array.getD_eq_getD_getElem?, h1]
      · obtain ⟨v, h1, h2⟩ := key i j (by omega) hj
        simpa [Array.getD_eq_getD_getElem?, h1] using h2

theorem rdn_int {k : IntKind} (hk : k = .i64) (ht : P.underlying t = some (.int k)) : RdN n blk P t Int := by
  subst hk
  intro H en w base spare held fuel cs x h _ _
  obtain ⟨m, rfl, _, hw⟩ := DataW.trod_int ht h
  have hb : IntKind.min .i64 ≤ m ∧ m ≤ IntKind.max .i64 := by simpa [Lit.wf] using hw
  exact ⟨m, .one (.i .i64 m hb.1 hb.2)⟩

/-- a struct is read field by field -/
theorem trod_struct {H : Type} {en : TypeId × Value → H} {w : World} {base : Nat} {spare : Nat → Bool} {held : Bool} {fuel : Nat} {cs : List Value} {x : DataW H × List MemPlace} {fs : Array Field} (ht : P.underlying t = some (.struct fs))
    (h : DataW.trod en P w base spare held fuel t cs = some x) : cs.length = P.cellsOf t ∧ ∃ ps k, x.1 = .agg ps ∧ ∀ f ∈ fs.toList, ∃ y, DataW.trod en P w base spare held k f.type ((cs.drop f.offset).take (P.cellsOf f.type)) = some y ∧ y.1 ∈ ps := by
  cases fuel with
  | zero => simp [DataW.trod] at h
  | succ fuel =>
    simp only [DataW.trod, ht] at h
    split at h
    case isFalse => cases h
    rename_i hlen
    refine ⟨hlen, ?_⟩
    simp only [Option.map_eq_some_iff] at h
    obtain ⟨xs, h1, rfl⟩ := h
    refine ⟨_, fuel, rfl, ?_⟩
    generalize fs.toList = l at h1 ⊢
    clear hlen ht
    induction l generalizing xs with
    | nil => intro f hf; simp at hf
    | cons g l ih =>
      simp only [List.mapM_cons, Option.bind_eq_bind, Option.bind_eq_some_iff, Option.pure_def, Option.some.injEq] at h1
      obtain ⟨y, hy, ys, hys, rfl⟩ := h1
      intro f hf
      rcases List.mem_cons.1 hf with rfl | hf
      · exact ⟨y, hy, by simp⟩
      · obtain ⟨z, hz1, hz2⟩ := ih _ hys f hf
        exact ⟨z, hz1, by simp only [List.map_cons, List.mem_cons]; exact .inr hz2⟩

/-- a field of a struct -/
theorem rdn_field (hB : BulkOk blk) {H : Type} {en : TypeId × Value → H} {w : World} {base : Nat} {spare : Nat → Bool} {held : Bool} {k : Nat} {cs : List Value} {ps : List (DataW H)} {f : Field} {α : Type} [Enc α]
    (h : ∃ y, DataW.trod en P w base spare held k f.type ((cs.drop f.offset).take (P.cellsOf f.type)) = some y ∧ y.1 ∈ ps) (hr : RdN n blk P f.type α) (hsz : SizeOf.sizeOf (DataW.agg ps) < n + 1) (hb : blk H (.agg ps) ≤ 1048576) :
    ∃ a : α, CR w ((cs.drop f.offset).take (P.cellsOf f.type)) (enc a).cells := by
  obtain ⟨y, h1, h2⟩ := h
  have q1 := List.sizeOf_lt_of_mem h2
  simp only [DataW.agg.sizeOf_spec] at hsz
  exact hr h1 (by omega) (Nat.le_trans (hB.ag _ _ _ h2) hb)
end
end Go.Abs
namespace Go.Abs
open Go Go.Deep
theorem rdn_fld {n : Nat} {blk : (H : Type) → DataW H → Nat} (hB : BulkOk blk) {P : Program} {H : Type} {en : TypeId × Value → H} {w : World} {base : Nat} {spare : Nat → Bool} {held : Bool} {k : Nat} {cs : List Value} {ps : List (DataW H)} {fs : Array Field} {α : Type} [Enc α]
    (hf : ∀ f ∈ fs.toList, ∃ y, DataW.trod en P w base spare held k f.type ((cs.drop f.offset).take (P.cellsOf f.type)) = some y ∧ y.1 ∈ ps) (i : Nat) {f : Field} (hi : fs[i]? = some f) {o s : Nat} (ho : f.offset = o) {ty : TypeId} (hty : f.type = ty) (hs : P.cellsOf ty = s)
    (hr : RdN n blk P ty α) (hsz : SizeOf.sizeOf (DataW.agg ps) < n + 1) (hb : blk H (.agg ps) ≤ 1048576) : ∃ a : α, CR w ((cs.drop o).take s) (enc a).cells := by
  have hm : f ∈ fs.toList := by
    rw [← Array.getElem?_toList] at hi
    exact List.mem_of_getElem? hi
  have := rdn_field hB (hf f hm) (hty ▸ hr) hsz hb
  rwa [ho, hty, hs] at this
end Go.Abs

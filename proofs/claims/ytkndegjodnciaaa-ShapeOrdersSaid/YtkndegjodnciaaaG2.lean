/- Rows in memory of their own, each apart from the others; a circuit of such rows. -/
import Derived.Test.YtkndegjodnciaaaG1
set_option linter.unusedVariables false
set_option linter.unusedSimpArgs false
namespace Go.Proofs.Ytkndegjodnciaaa
namespace SC
open Go.Proofs
structure Rw where
  v : Value
  t : TypeId
  sz : Nat
  n : Nat
  cells : List Value
def Rw.own (r : Rw) (w : World) (base : Nat) : Prop := w.ownsRow base r.t r.sz r.v r.n r.cells
def nilRw : Rw := ⟨.slice none 0 0, 3, 1, 0, []⟩
def upd (f : Nat → Rw) (i : Nat) (r : Rw) : Nat → Rw := fun j => if j = i then r else f j
structure Rows (w : World) (base : Nat) (f : Nat → Rw) : Prop where
  own : ∀ i, (f i).own w base
  apart : ∀ (i j k : Nat), i ≠ j → (f i).v.ownBlock = some k → (f j).v.ownBlock ≠ some k
section
variable {w w' : World} {base : Nat} {f : Nat → Rw}
theorem Rows.mono {b' : Nat} (h : Rows w base f) (hb : b' ≤ base) : Rows w b' f := ⟨fun i => own_mono (h.own i) hb, h.apart⟩
theorem Rows.nil (w : World) (base : Nat) : Rows w base fun _ => nilRw := ⟨fun _ => World.ownsRow_nil _ _ _ _, fun i j k _ h => by cases h⟩
theorem Rows.lt (h : Rows w base f) {i k : Nat} (hk : (f i).v.ownBlock = some k) : base ≤ k ∧ k < w.heap.size := World.ownsRow.lt (h.own i) k hk
theorem Rows.chg (h : Rows w base f) {T : Nat → Prop} (hc : Chg w w' T) (hT : ∀ i k, (f i).v.ownBlock = some k → ¬ T k) : Rows w' base f :=
  ⟨fun i => own_chg (h.own i) hc fun k hk => hT i k hk, h.apart⟩
theorem Rows.same (h : Rows w base f) (hc : Chg w w' none_) : Rows w' base f := h.chg hc fun _ _ _ => id
theorem Rows.put (h : Rows w base f) (i : Nat) (r : Rw) {T : Nat → Prop} (hc : Chg w w' T) (hT : ∀ j k, j ≠ i → (f j).v.ownBlock = some k → ¬ T k) (hr : r.own w' base) (ho : ∀ k, r.v.ownBlock = some k → (f i).v.ownBlock = some k ∨ w.heap.size ≤ k) : Rows w' base (upd f i r) := by
  refine ⟨fun j => ?_, fun j l k hjl hj => ?_⟩
  · unfold upd
    split
    · exact hr
    · rename_i hne
      exact own_chg (h.own j) hc fun k hk => hT j k hne hk
  · unfold upd at hj ⊢
    split at hj
    · rename_i e
      subst e
      rw [if_neg (fun e => hjl e.symm)]
      intro hl
      rcases ho k hj with hk | hk
      · exact h.apart j l k hjl hk hl
      · have := (h.lt hl).2; omega
    · split
      · rename_i _ e
        subst e
        intro hl
        rcases ho k hl with hk | hk
        · exact h.apart j l k hjl hj hk
        · have := (h.lt hj).2; omega
      · exact h.apart j l k hjl hj
/-- A row that has just been made. -/
theorem Rows.add (h : Rows w base f) (i : Nat) (r : Rw) (hc : Chg w w' none_) (hr : w'.ownsRow w.heap.size r.t r.sz r.v r.n r.cells) (hb : base ≤ w.heap.size) : Rows w' base (upd f i r) :=
  h.put i r hc (fun _ _ _ _ => id) (own_mono hr hb) fun k hk => .inr (World.ownsRow.lt hr k hk).1
end
def slc (h : Hd) (i n : Nat) : Value := .slice (h i).1 n (h i).2
/-- The rows of a circuit; of its lists of justice the first 'd' are new ones (jn). -/
def cirRows (c : Circ) (h js jn : Hd) (d : Nat) : Nat → Rw
  | 1 => ⟨slc h 1 c.inputs.length, 3, 1, c.inputs.length, c.inputs.flatMap icell⟩
  | 2 => ⟨slc h 2 c.latches.length, 70, 3, c.latches.length, c.latches.flatMap tcells⟩
  | 3 => ⟨slc h 3 c.outputs.length, 3, 1, c.outputs.length, c.outputs.flatMap icell⟩
  | 4 => ⟨slc h 4 c.bads.length, 3, 1, c.bads.length, c.bads.flatMap icell⟩
  | 5 => ⟨slc h 5 c.constraints.length, 3, 1, c.constraints.length, c.constraints.flatMap icell⟩
  | 6 => ⟨slc h 6 c.justice.length, 45, 1, c.justice.length, (List.range c.justice.length).map fun k => if k < d then slc jn k (c.justice.getD k []).length else slc js k (c.justice.getD k []).length⟩
  | 7 => ⟨slc h 7 c.fairness.length, 3, 1, c.fairness.length, c.fairness.flatMap icell⟩
  | 8 => ⟨slc h 8 c.ands.length, 43, 3, c.ands.length, c.ands.flatMap tcells⟩
  | 9 => ⟨slc h 9 c.symbols.length, 117, 3, c.symbols.length, c.symbols.flatMap scells⟩
  | 10 => ⟨slc h 10 c.comments.length, 9, 1, c.comments.length, c.comments.flatMap bcell⟩
  | k + 11 => if k < d then ⟨slc jn k (c.justice.getD k []).length, 3, 1, (c.justice.getD k []).length, (c.justice.getD k []).flatMap icell⟩ else nilRw
  | 0 => nilRw
/-- A circuit in memory of its own. -/
def CirOwn (w : World) (base : Nat) (c : Circ) (h js : Hd) : Prop := Rows w base (cirRows c h js js c.justice.length)
theorem ilen (a : Int) : (icell a).length = 1 := rfl
theorem slen (s : Sym) : (scells s).length = 3 := rfl
theorem blen (s : ByteArray) : (bcell s).length = 1 := rfl
/-- The row of the lists of justice. -/
def jcells (c : Circ) (js : Hd) : List Value := (List.range c.justice.length).map fun k => slc js k (c.justice.getD k []).length
theorem jcells_len (c : Circ) (js : Hd) : (jcells c js).length = c.justice.length := by simp [jcells]
theorem CirOwn.at {w : World} {base : Nat} {c : Circ} {h js : Hd} (H : CirOwn w base c h js) : CirAt w c h js := by
  refine ⟨RowA.own ilen (H.own 1), RowA.own tlen (H.own 2), RowA.own ilen (H.own 3), RowA.own ilen (H.own 4), RowA.own ilen (H.own 5), fun k hk => ?_, fun k hk => ?_, RowA.own ilen (H.own 7), RowA.own tlen (H.own 8), RowA.own slen (H.own 9), RowA.own blen (H.own 10)⟩
  · have h6 := H.own 6
    simp only [Rw.own, cirRows] at h6
    rcases h6.2 with ⟨hv, hn⟩ | ⟨g, cap, cur, hv, hb, hg, rest⟩
    · omega
    · simp only [slc, Value.slice.injEq] at hv
      refine ⟨⟨g, 0, none⟩, hv.1, ?_⟩
      have := h6.cells (g := g) (by simp [slc, hv.1, Value.ownBlock]) k (slc js k c.justice[k].length) (by simp [hk])
      rw [show (k : Int).toNat * 1 = k by omega]
      exact this
  · have := H.own (k + 11)
    simp only [cirRows, if_pos hk] at this
    have e : c.justice.getD k [] = c.justice[k] := by simp [hk]
    rw [e] at this
    exact RowA.own ilen this
/-- As many as memory holds. -/
structure Circ.Fits (c : Circ) : Prop where
  inputs : c.inputs.length * 8 ≤ 140737488355328
  latches : c.latches.length * 24 ≤ 140737488355328
  outputs : c.outputs.length * 8 ≤ 140737488355328
  bads : c.bads.length * 8 ≤ 140737488355328
  constraints : c.constraints.length * 8 ≤ 140737488355328
  justice : c.justice.length * 24 ≤ 140737488355328
  each : ∀ l ∈ c.justice, l.length * 8 ≤ 140737488355328
  fairness : c.fairness.length * 8 ≤ 140737488355328
  ands : c.ands.length * 24 ≤ 140737488355328
  symbols : c.symbols.length * 32 ≤ 140737488355328
  comments : c.comments.length * 16 ≤ 140737488355328
theorem cell1_icell (l : List Int) : ∀ u ∈ l.flatMap icell, u.oneCell' = true := by
  intro u hu
  obtain ⟨a, _, h⟩ := List.mem_flatMap.1 hu
  simp [icell] at h; subst h; rfl
theorem cell1_tcells (l : List Tri) : ∀ u ∈ l.flatMap tcells, u.oneCell' = true := by
  intro u hu
  obtain ⟨a, _, h⟩ := List.mem_flatMap.1 hu
  simp [tcells] at h; rcases h with rfl | rfl | rfl <;> rfl
theorem cell1_scells (l : List Sym) : ∀ u ∈ l.flatMap scells, u.oneCell' = true := by
  intro u hu
  obtain ⟨a, _, h⟩ := List.mem_flatMap.1 hu
  simp [scells] at h; rcases h with rfl | rfl | rfl <;> rfl
theorem cell1_bcell (l : List ByteArray) : ∀ u ∈ l.flatMap bcell, u.oneCell' = true := by
  intro u hu
  obtain ⟨a, _, h⟩ := List.mem_flatMap.1 hu
  simp [bcell] at h; subst h; rfl
theorem cell1_jcells (c : Circ) (js : Hd) : ∀ u ∈ jcells c js, u.oneCell' = true := by
  intro u hu
  obtain ⟨a, _, rfl⟩ := List.mem_map.1 hu
  rfl
theorem RowA.nil_of {α : Type} {w : World} {enc : α → List Value} {sz : Nat} {l : List α} (h : RowA w enc sz none l) : l.length = 0 := by
  cases l with
  | nil => rfl
  | cons a r => obtain ⟨p, hp, _⟩ := h 0 (by simp); cases hp
theorem CirAt.jcells {w : World} {c : Circ} {h js : Hd} (H : CirAt w c h js) : ∀ p, (h 6).1 = some p → ∀ j u, (SC.jcells c js)[j]? = some u → w.cell? (p.add j) = some u := by
  intro p hp j u hj
  have hlt := (List.getElem?_eq_some_iff.1 hj).1
  rw [jcells_len] at hlt
  obtain ⟨q, hq, hc⟩ := H.justice j hlt
  rw [hp] at hq; cases hq
  rw [show (j : Int).toNat * 1 = j by omega] at hc
  rw [hc]
  rw [← hj]
  unfold SC.jcells slc
  simp [hlt]
def setHd (h : Hd) (i : Nat) (p : Option Addr × Nat) : Hd := fun k => if k = i then p else h k
theorem cirRows_step (c : Circ) (h js jn : Hd) (i : Nat) (p : Option Addr × Nat) :
    upd (upd (cirRows c h js jn i) (i + 11) ⟨.slice p.1 (c.justice.getD i []).length p.2, 3, 1, (c.justice.getD i []).length, (c.justice.getD i []).flatMap icell⟩) 6 (cirRows c h js (setHd jn i p) (i + 1) 6) = cirRows c h js (setHd jn i p) (i + 1) := by
  funext k
  unfold upd
  by_cases h6 : k = 6
  · subst h6; rw [if_pos rfl]
  · rw [if_neg h6]
    by_cases hk : k = i + 11
    · subst hk
      rw [if_pos rfl]
      show _ = if i < i + 1 then _ else _
      rw [if_pos (by omega)]
      simp [slc, setHd]
    · rw [if_neg hk]
      rcases Nat.lt_or_ge k 11 with hlt | hge
      · match k with
        | 0 | 1 | 2 | 3 | 4 | 5 | 7 | 8 | 9 | 10 => rfl
      · obtain ⟨m, rfl⟩ : ∃ m, k = m + 11 := ⟨k - 11, by omega⟩
        show (if m < i then _ else _) = (if m < i + 1 then _ else _)
        have hm : m ≠ i := fun e => hk (by rw [e])
        by_cases hmi : m < i
        · rw [if_pos hmi, if_pos (by omega)]
          simp [slc, setHd, hm]
        · rw [if_neg hmi, if_neg (by omega)]
theorem jrow_step (c : Circ) (h js jn : Hd) (i : Nat) (p : Option Addr × Nat) (hi : i < c.justice.length) :
    (cirRows c h js (setHd jn i p) (i + 1) 6).cells = (cirRows c h js jn i 6).cells.set i (.slice p.1 (c.justice.getD i []).length p.2) := by
  simp only [cirRows]
  apply List.ext_getElem?
  intro k
  rw [List.getElem?_set]
  by_cases hk : i = k
  · subst hk
    rw [if_pos rfl]
    simp [hi, slc, setHd]
  · rw [if_neg hk]
    simp only [List.getElem?_map, List.getElem?_range]
    by_cases hkl : k < c.justice.length
    · rw [List.getElem?_range hkl]
      simp only [Option.map_some]
      have hk' : ¬ k = i := fun e => hk e.symm
      by_cases hki : k < i
      · rw [if_pos hki, if_pos (by omega)]; simp [slc, setHd, hk']
      · rw [if_neg hki, if_neg (by omega)]
    · rw [List.getElem?_eq_none (by simp; omega)]
      rfl
theorem cirRows_all (c : Circ) (h js jn : Hd) : cirRows c h js jn c.justice.length = cirRows c h jn jn c.justice.length := by
  funext k
  by_cases h6 : k = 6
  · subst h6
    simp only [cirRows, Rw.mk.injEq, true_and]
    apply List.map_congr_left
    intro j hj
    have := List.mem_range.1 hj
    rw [if_pos this, if_pos this]
  · rcases Nat.lt_or_ge k 11 with hlt | hge
    · match k with
      | 0 | 1 | 2 | 3 | 4 | 5 | 7 | 8 | 9 | 10 => rfl
    · obtain ⟨m, rfl⟩ : ∃ m, k = m + 11 := ⟨k - 11, by omega⟩
      rfl
theorem own_set {w : World} {base : Nat} {t : TypeId} {sz n cap g : Nat} {xs : List Value} (h : w.ownsRow base t sz (.slice (some ⟨g, 0, none⟩) n cap) n xs) :
    ∃ cur : List Value, Blk w g t cur ∧ xs = cur.take (n * sz) ∧ n * sz ≤ cur.length ∧ base ≤ g ∧ ∀ cur' : List Value, cur'.length = cur.length → (w.setRow g cur'.toArray).ownsRow base t sz (.slice (some ⟨g, 0, none⟩) n cap) n (cur'.take (n * sz)) := by
  rcases h.2 with ⟨hv, _⟩ | ⟨g', cap', cur, hv, hb, hg, hc, hm, hs, ht⟩
  · cases hv
  · cases hv
    have hle : n * sz ≤ cap * sz := Nat.mul_le_mul_right _ hc
    have hB : Blk w g t cur.toList := by simpa [Blk] using hg
    refine ⟨cur.toList, hB, ht.symm, by simpa [hs] using hle, hb, fun cur' hl => ⟨by simp only [List.length_take]; simp at hl; omega, .inr ⟨g, cap, cur'.toArray, rfl, hb, hB.set cur', hc, hm, by simpa [hs] using hl, rfl⟩⟩⟩
theorem take_set {α : Type} (l : List α) (m o : Nat) (v : α) : (l.set o v).take m = (l.take m).set o v := by rw [List.take_set]
theorem sz_alloc (w : World) (o : Obj) : (w.alloc o).heap.size = w.heap.size + 1 := by simp
section
variable {P : Program} {n : Nat} {all rest : List Oper} {K : Env → World → Prop} {e : Env} {w : World} {d : Option Tmp} {ty : TypeId} {x : Operand} {t : TypeId} {td : TypeDesc} {sz by_ : Nat} {zv v : Value} {ag : Bool}
theorem X_allocK (k : Nat) [T : Ty P t td sz zv by_ ag] (hk : w.heap.size = k) (hr : WL P n all K rest (push d (.pointer (some ⟨k, 0, none⟩)) e) (w.alloc (.cells zv.cells t))) : WX P n all K rest d (.alloc t) ty e w := by subst hk; exact X_alloc hr
end
end SC
end Go.Proofs.Ytkndegjodnciaaa

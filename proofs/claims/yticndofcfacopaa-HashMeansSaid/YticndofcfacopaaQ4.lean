/- Texts of this seat, one behind the other: N6 N7 N8 N9 N17 N23 N24 B3 B4 B5 N25 N26 N34 N35 N36 N38 N37 B6 B7 B8 N27 N28 N39 N10 N11 N41 N40 N29 N42 N30 N12 N13 N14 N15 N43. -/
import Derived.Test.YticndofcfacopaaQ3
section
/- trestleref15: Step. -/
set_option linter.unusedVariables false
set_option linter.unusedSimpArgs false
namespace Go.Proofs.Yticndofcfacopaa
namespace SC
open Go.Proofs
theorem Dec.all {α : Type} {enc : α → List Value} : ∀ l : List α, Dec enc (l.flatMap enc) l
  | [] => Dec.nil
  | a :: r => by rw [List.flatMap_cons]; exact Dec.cg (Dec.all r)
attribute [local irreducible] WC WL WX WS WO OX Does DoesU Enters CV Pure thenQ blockQ retQ Wants retQC GC GL GS GX RdB thenG blockG retG Rd At gt CVN CVM
set_option maxRecDepth 100000
end SC
end Go.Proofs.Yticndofcfacopaa
end
section
/- trestlelaw15: works. -/
set_option linter.unusedVariables false
set_option linter.unusedSimpArgs false
namespace Go.Proofs.Yticndofcfacopaa
namespace SC
open Go.Proofs
attribute [local irreducible] WC WL WX WS WO OX Does DoesU Enters CV Pure thenQ blockQ retQ Wants retQC GC GL GS GX RdB thenG blockG retG Rd At CVN CVM
set_option maxRecDepth 100000
end SC
end Go.Proofs.Yticndofcfacopaa
end
section
/- trestlelaw15: EncodeModels: the walk. -/
set_option linter.unusedVariables false
set_option linter.unusedSimpArgs false
namespace Go.Proofs.Yticndofcfacopaa
namespace SC
open Go.Proofs
attribute [local irreducible] WC WL WX WS WO OX Does DoesU Enters CV Pure thenQ blockQ retQ Wants retQC GC GL GS GX RdB thenG blockG retG Rd At gt CVN CVM
attribute [local irreducible] lentX
set_option maxRecDepth 100000
end SC
end Go.Proofs.Yticndofcfacopaa
end
section
/- trestlebook: SameCnf, SpoilCnf; lists of numbers lent. -/
set_option linter.unusedVariables false
set_option linter.unusedSimpArgs false
namespace Go.Proofs.Yticndofcfacopaa
namespace SC
open Go.Proofs
theorem In.rowL {Γ : Mm} {w : World} {t : TypeId} {A : Option Addr} {c : Nat} {l : List Int} (h : In Γ (.vec icell 1 t A c (l ++ [-77]))) (M : Mem w Γ) : RowA w icell 1 A l := RowA.left (h.row M)
theorem Wk.one {E : Ent} {Γ : Mm} : Wk (E :: Γ) [E] := Wk.cons .here .nil
theorem Wk.there {Γ Γ' : Mm} (h : Wk Γ Γ') : Wk Γ ([] ++ Γ') := h
attribute [local irreducible] WC WL WX WS WO OX Does DoesU Enters CV Pure thenQ blockQ retQ Wants retQC GC GL GS GX RdB thenG blockG retG Rd At gt CVN CVM
set_option maxRecDepth 100000
end SC
end Go.Proofs.Yticndofcfacopaa
end
section
/- A formula is the circuit: the plain law. -/
set_option linter.unusedVariables false
set_option linter.unusedSimpArgs false
namespace Go.Proofs.Yticndofcfacopaa
namespace SC
open Go.Proofs
/-! ### truth of literals, clauses, formulas -/
theorem lv_even {v : List Bool} {l : Int} (h : l % 2 = 0) : lv v l = gt v (l / 2) := by
  unfold lv
  rw [h]
  simp
/-! ### the two laws -/
end SC
end Go.Proofs.Yticndofcfacopaa
end
section
/- A circuit whose variables stand in order is right, and its order is 0, 1, ..: the plain law of circuits that are built. -/
set_option linter.unusedVariables false
set_option linter.unusedSimpArgs false
namespace Go.Proofs.Yticndofcfacopaa
namespace SC
open Go.Proofs
/-- All variables in order: inputs, latches, gates; each gate hangs on what stands before it. -/
structure SeqOk (c : Circ) : Prop where
  max : c.max = ((c.inputs.length + c.latches.length + c.ands.length : Nat) : Int)
  m1 : c.max ≤ 16384
  lens : ∀ n ∈ c.lens, n ≤ 16384
  sum : sumW c.justice ≤ 16384
  inp : ∀ (i : Nat) (h : i < c.inputs.length), c.inputs[i] = 2 * (i : Int) + 2
  lat : ∀ (i : Nat) (h : i < c.latches.length), c.latches[i].1 = 2 * ((c.inputs.length + i : Nat) : Int) + 2
  gat : ∀ (i : Nat) (h : i < c.ands.length), c.ands[i].1 = 2 * ((c.inputs.length + c.latches.length + i : Nat) : Int) + 2
  reset : ∀ x ∈ c.latches, ¬ badReset x
  next : ∀ x ∈ c.latches, inR c x.2.1
  low : ∀ x ∈ c.ands, (0 ≤ x.2.1 ∧ x.2.1 < x.1) ∧ (0 ≤ x.2.2 ∧ x.2.2 < x.1)
  outputs : ∀ x ∈ c.outputs, inR c x
  bads : ∀ x ∈ c.bads, inR c x
  constraints : ∀ x ∈ c.constraints, inR c x
  justice : ∀ l ∈ c.justice, ∀ x ∈ l, inR c x
  fairness : ∀ x ∈ c.fairness, inR c x
  sym : goSym c c.symbols 0 (fun _ _ => 0) < 0
  com : goCom c.comments 0 < 0
section
variable {c : Circ} (Q : SeqOk c)
include Q
theorem SeqOk.m0 : 0 ≤ c.max := by have := Q.max; omega
theorem SeqOk.defs : allDefs c = (List.range (c.inputs.length + c.latches.length + c.ands.length)).map fun (j : Nat) => 2 * (j : Int) + 2 := by
  unfold allDefs
  apply List.ext_getElem (by simp [Nat.add_assoc])
  intro j h1 h2
  simp only [List.length_append, List.length_map] at h1
  rw [List.getElem_map, List.getElem_range]
  by_cases ha : j < c.inputs.length
  · rw [List.getElem_append_left (by simp; omega), List.getElem_append_left ha, Q.inp j ha]
  · by_cases hb : j < c.inputs.length + c.latches.length
    · rw [List.getElem_append_left (by simp; omega), List.getElem_append_right (by omega), List.getElem_map, Q.lat _ (by omega)]
      omega
    · rw [List.getElem_append_right (by simp; omega), List.getElem_map]
      have := Q.gat (j - (c.inputs.length + c.latches.length)) (by omega)
      simp only [List.length_append, List.length_map]
      rw [this]
      omega
theorem SeqOk.sizes : sizesM c = 0 := sizesM_zero Q.m0 Q.m1 Q.lens Q.sum
theorem SeqOk.defines : (definesM c (T0 c)).1.2 = 0 := by
  have hm := Q.max
  refine defines_pass (fun l hl => ?_) Q.reset ?_
  · rw [Q.defs] at hl
    obtain ⟨j, hj, rfl⟩ := List.mem_map.1 hl
    simp only [List.mem_range] at hj
    unfold defBad
    omega
  · rw [Q.defs, List.map_map]
    exact nodup_map (fun a b e => by simp only [Function.comp_apply] at e; omega) List.nodup_range
theorem SeqOk.tab : TabOk c (tabM c) := definesM_spec Q.m0 Q.defines
theorem SeqOk.use {l : Int} (h : inR c l) : useOk c (tabM c) l := by
  have hm := Q.max
  obtain ⟨h0, h1⟩ := h
  refine ⟨h0, h1, fun h2 => ?_⟩
  have hin : (2 * (((l / 2 - 1).toNat : Nat) : Int) + 2) ∈ allDefs c := by
    rw [Q.defs]
    exact List.mem_map.2 ⟨(l / 2 - 1).toNat, List.mem_range.2 (by omega), rfl⟩
  have := kind_def Q.tab hin
  rwa [show (2 * (((l / 2 - 1).toNat : Nat) : Int) + 2) / 2 = l / 2 by omega] at this
theorem SeqOk.lowR {x : Tri} (h : x ∈ c.ands) : inR c x.2.1 ∧ inR c x.2.2 := by
  have hm := Q.max
  obtain ⟨i, hi, rfl⟩ := List.mem_iff_getElem.1 h
  have h1 := Q.gat i hi
  obtain ⟨⟨a, b⟩, ⟨d, e⟩⟩ := Q.low _ h
  unfold inR
  omega
theorem SeqOk.uses : (usesM c (tabM c)).2 = 0 := usesM_spec.2 ⟨fun x hx => Q.use (Q.next x hx), fun x hx => Q.use (Q.outputs x hx), fun x hx => Q.use (Q.bads x hx), fun x hx => Q.use (Q.constraints x hx), fun l hl x hx => Q.use (Q.justice l hl x hx), fun x hx => Q.use (Q.fairness x hx), fun x hx => ⟨Q.use (Q.lowR hx).1, Q.use (Q.lowR hx).2⟩⟩
theorem SeqOk.all : All c.ands.length (gateB (tabM c) c) (upto c.ands.length) := by
  refine all_upto fun k hk z hz => ?_
  have hz' : z ∈ belowL (tabM c) [(andAt c (k : Int)).2.1, (andAt c (k : Int)).2.2] := hz
  rw [mem_belowL] at hz'
  obtain ⟨l, hl, h3, hat⟩ := hz'
  have ea : andAt c (k : Int) = gt c.ands (k : Int) := rfl
  rw [ea] at hl
  have b1 := Q.gat k hk
  have hg := Q.low _ (gt_mem (l := c.ands) (i := (k : Int)) (by omega) (by omega))
  rw [gt_nat hk] at hg hl
  have hle : 0 ≤ l ∧ l < c.ands[k].1 := by
    simp only [List.mem_cons, List.not_mem_nil, or_false] at hl
    rcases hl with rfl | rfl
    · exact hg.1
    · exact hg.2
  obtain ⟨v, hv⟩ : ∃ v : Nat, l / 2 = v := ⟨(l / 2).toNat, by omega⟩
  rw [hv] at h3 hat
  obtain ⟨j, hj, g1, g2, _⟩ := Q.tab.gate h3
  have b4 := Q.gat j hj
  rw [g1] at b4
  omega
theorem SeqOk.ord : ordM c = upto c.ands.length := ordM_eq Q.all
theorem SeqOk.look : lookM c = (0, 0) := by
  unfold lookM
  rw [if_neg (fun hh => hh Q.sizes), if_neg (fun hh => hh Q.defines), if_neg (fun hh => hh Q.uses), cycM_eq ⟨_, Q.all, .inl ⟨upto_len _, rfl⟩⟩, if_neg (by decide), if_neg (Int.not_le.2 Q.sym), if_neg (Int.not_le.2 Q.com)]
theorem SeqOk.right : Right c := ⟨Q.tab, usesM_spec.1 Q.uses, Q.m0, Q.m1, Q.lens, Q.sum, by rw [Q.ord]; exact Q.all, by rw [Q.ord, upto_len]⟩
end
end SC
end Go.Proofs.Yticndofcfacopaa
end
section
/- What a builder makes: its gates in order, each once, and their values: the plain law. -/
set_option linter.unusedVariables false
set_option linter.unusedSimpArgs false
namespace Go.Proofs.Yticndofcfacopaa
namespace SC
open Go.Proofs
/-- A builder's gates: in order, none trivial, none twice. -/
structure Gs (n : Int) (gs : List Gate) : Prop where
  nn : 0 ≤ n
  out : ∀ (k : Nat) (h : k < gs.length), gs[k].1 = 2 * (n + k) + 2
  low : ∀ (k : Nat) (h : k < gs.length), 2 ≤ gs[k].2.2 ∧ gs[k].2.2 < gs[k].2.1 ∧ gs[k].2.1 < gs[k].1 ∧ gs[k].2.2 / 2 ≠ gs[k].2.1 / 2
  one : ∀ (j k : Nat) (hj : j < gs.length) (hk : k < gs.length), gs[j].2 = gs[k].2 → j = k
theorem Gs.nil {n : Int} (h : 0 ≤ n) : Gs n [] := ⟨h, fun k hk => absurd hk (Nat.not_lt_zero _), fun k hk => absurd hk (Nat.not_lt_zero _), fun j k hj => absurd hj (Nat.not_lt_zero _)⟩
theorem outOf_at {p q : Int} : ∀ gs : List Gate, 0 < outOf gs p q → ∃ (k : Nat) (h : k < gs.length), gs[k].2 = (p, q) ∧ outOf gs p q = gs[k].1
  | [], h => by unfold outOf at h; omega
  | g :: r, h => by
    unfold outOf at h ⊢
    split at h
    · rename_i hh
      rw [if_pos hh]
      exact ⟨0, Nat.zero_lt_succ _, Prod.ext hh.1 hh.2, rfl⟩
    · rename_i hh
      rw [if_neg hh]
      obtain ⟨k, hk, e1, e2⟩ := outOf_at r h
      exact ⟨k + 1, Nat.succ_lt_succ hk, e1, e2⟩
theorem outOf_no {p q : Int} : ∀ gs : List Gate, (∀ g ∈ gs, 2 ≤ g.1) → ¬ 0 < outOf gs p q → ∀ g ∈ gs, g.2 ≠ (p, q)
  | [], _, _, g, hg => by cases hg
  | x :: r, ho, h, g, hg => by
    unfold outOf at h
    have hx := ho x (List.mem_cons_self ..)
    split at h
    · omega
    · rename_i hh
      rcases List.mem_cons.1 hg with rfl | hg
      · intro e
        exact hh ⟨congrArg Prod.fst e, congrArg Prod.snd e⟩
      · exact outOf_no r (fun y hy => ho y (List.mem_cons_of_mem _ hy)) h g hg
theorem Gs.outs {n : Int} {gs : List Gate} (G : Gs n gs) : ∀ g ∈ gs, 2 ≤ g.1 := fun g hg => by
  obtain ⟨k, hk, rfl⟩ := List.mem_iff_getElem.1 hg
  have := G.out k hk
  have := G.nn
  omega
/-- One gate more. -/
theorem Gs.snoc {n : Int} {gs : List Gate} (G : Gs n gs) {p q : Int} (h0 : 2 ≤ q) (h1 : q < p) (h2 : p ≤ 2 * (n + gs.length) + 1) (h3 : q / 2 ≠ p / 2) (hn : ∀ g ∈ gs, g.2 ≠ (p, q)) : Gs n (gs ++ [(2 * (n + gs.length + 1), p, q)]) := by
  have hl : (gs ++ [(2 * (n + gs.length + 1), p, q)]).length = gs.length + 1 := by simp
  have old : ∀ (k : Nat) (h : k < gs.length) (h' : k < (gs ++ [(2 * (n + gs.length + 1), p, q)]).length), (gs ++ [(2 * (n + gs.length + 1), p, q)])[k] = gs[k] := fun k h h' => List.getElem_append_left h
  have new : ∀ (k : Nat) (h : k = gs.length) (h' : k < (gs ++ [(2 * (n + gs.length + 1), p, q)]).length), (gs ++ [(2 * (n + gs.length + 1), p, q)])[k] = (2 * (n + gs.length + 1), p, q) := fun k h h' => by subst h; simp
  refine ⟨G.nn, fun k hk => ?_, fun k hk => ?_, fun j k hj hk e => ?_⟩
  · by_cases hkl : k < gs.length
    · rw [old k hkl hk]; exact G.out k hkl
    · have : k = gs.length := by omega
      rw [new k this hk]; simp only; omega
  · by_cases hkl : k < gs.length
    · rw [old k hkl hk]; exact G.low k hkl
    · have : k = gs.length := by omega
      rw [new k this hk]; simp only; omega
  · by_cases hjl : j < gs.length
    · by_cases hkl : k < gs.length
      · rw [old j hjl hj, old k hkl hk] at e; exact G.one j k hjl hkl e
      · have : k = gs.length := by omega
        rw [old j hjl hj, new k this hk] at e
        exact absurd e (hn _ (List.getElem_mem hjl))
    · have h9 : j = gs.length := by omega
      by_cases hkl : k < gs.length
      · rw [new j h9 hj, old k hkl hk] at e
        exact absurd e.symm (hn _ (List.getElem_mem hkl))
      · omega
/-- What 'and' makes. -/
theorem Gs.andM {n : Int} {gs : List Gate} {x y : Int} (G : Gs n gs) (hx : okM n gs x) (hy : okM n gs y) : Gs n (andM n gs x y).2.2 ∧ gs <+: (andM n gs x y).2.2 := by
  unfold okM at hx hy
  have nn := G.nn
  unfold SC.andM andP
  split
  · exact ⟨G, List.prefix_refl _⟩
  · rename_i h0
    split
    · exact ⟨G, List.prefix_refl _⟩
    · rename_i h1
      split
      · exact ⟨G, List.prefix_refl _⟩
      · rename_i h2
        split
        · exact ⟨G, List.prefix_refl _⟩
        · exact ⟨G.snoc (by omega) (by omega) (by omega) (by omega) (outOf_no gs G.outs h2), List.prefix_append _ _⟩
/-! ### values -/
/-- Values that fit a builder's gates. -/
structure ValG (n : Int) (gs : List Gate) (v : List Bool) : Prop where
  zero : gt v 0 = false
  gate : ∀ (k : Nat) (h : k < gs.length), gt v (n + k + 1) = (lv v gs[k].2.1 && lv v gs[k].2.2)
theorem ValG.pre {n : Int} {gs gs' : List Gate} {v : List Bool} (V : ValG n gs' v) (h : gs <+: gs') : ValG n gs v := by
  obtain ⟨t, rfl⟩ := h
  refine ⟨V.zero, fun k hk => ?_⟩
  have := V.gate k (by rw [List.length_append]; omega)
  rwa [List.getElem_append_left hk] at this
theorem lv_not {v : List Bool} {x : Int} (h : 0 ≤ x) : lv v (notM x) = !lv v x := by
  unfold lv notM
  rcases (show x % 2 = 0 ∨ x % 2 = 1 by omega) with e | e
  · rw [show (x + 1 - 2 * (x % 2)) / 2 = x / 2 by omega, show (x + 1 - 2 * (x % 2)) % 2 = 1 by omega, e]
    simp
  · rw [show (x + 1 - 2 * (x % 2)) / 2 = x / 2 by omega, show (x + 1 - 2 * (x % 2)) % 2 = 0 by omega, e]
    simp
theorem lv_max (v : List Bool) (x y : Int) : (lv v (max x y) && lv v (min x y)) = (lv v x && lv v y) := by
  rcases Int.le_total x y with h | h
  · rw [Int.max_eq_right h, Int.min_eq_left h, Bool.and_comm]
  · rw [Int.max_eq_left h, Int.min_eq_right h]
theorem lv_zero {v : List Bool} (h : gt v 0 = false) : lv v 0 = false := by unfold lv; simp [h]
theorem lv_one {v : List Bool} (h : gt v 0 = false) : lv v 1 = true := by unfold lv; simp [h]
theorem andM_val {n : Int} {gs : List Gate} {x y : Int} {v : List Bool} (G : Gs n gs) (hx : okM n gs x) (hy : okM n gs y) (V : ValG n (andM n gs x y).2.2 v) (he : (andM n gs x y).2.1 = 0) : lv v (andM n gs x y).1 = (lv v x && lv v y) := by
  unfold okM at hx hy
  rw [← lv_max]
  have hq : 0 ≤ min x y := by omega
  have hqp : min x y ≤ max x y := by omega
  unfold andM at V he ⊢
  generalize max x y = p at *
  generalize min x y = q at *
  have z0 := lv_zero V.zero
  have z1 := lv_one V.zero
  unfold andP at V he ⊢
  split
  · rename_i h0
    rcases h0 with rfl | ⟨rfl, h0⟩
    · rw [z0, Bool.and_false]
    · have e := lv_not (v := v) hq
      rw [show notM q = q + 1 by unfold notM; omega] at e
      simp only
      rw [z0, e]
      simp
  · rename_i h0
    rw [if_neg h0] at V he
    split
    · rename_i h1
      rcases h1 with rfl | rfl
      · simp only; rw [z1, Bool.and_true]
      · simp
    · rename_i h1
      rw [if_neg h1] at V he
      split
      · rename_i h2
        rw [if_pos h2] at V
        obtain ⟨k, hk, e1, e2⟩ := outOf_at gs h2
        have g1 := V.gate k hk
        have g2 := G.out k hk
        rw [e1] at g1
        simp only
        rw [e2, g2, lv_even (by omega), show (2 * (n + (k : Int)) + 2) / 2 = n + k + 1 by omega, g1]
      · rename_i h2
        rw [if_neg h2] at V he
        split
        · rename_i h3
          rw [if_pos h3] at he
          cases he
        · rename_i h3
          rw [if_neg h3] at V
          have g1 := V.gate gs.length (by simp)
          simp only [List.getElem_concat_length] at g1
          simp only
          rw [lv_even (by omega), show 2 * (n + (gs.length : Int) + 1) / 2 = n + gs.length + 1 by omega, g1]
end SC
end Go.Proofs.Yticndofcfacopaa
end
section
/- The builder of hash: its memory; what each of its functions does. -/
set_option linter.unusedVariables false
set_option linter.unusedSimpArgs false
namespace Go.Proofs.Yticndofcfacopaa
namespace SC
open Go.Proofs Go.Maps
attribute [local irreducible] WC WL WX WS WO OX Does DoesU Enters CV Pure thenQ blockQ retQ Wants
set_option maxRecDepth 100000
theorem mixedB : Try.prog.follows .mixedOrders = true := by kernel_rfl
abbrev ptr (g : Nat) : Value := .pointer (some ⟨g, 0, none⟩)
abbrev num (a : Int) : Value := .int .i64 a
/-- What is owned before and behind: only new blocks come in. -/
structure Step (w : World) (S : Nat → Prop) (w' : World) (S' : Nat → Prop) : Prop where
  chg : Chg w w' S
  new : ∀ k, S' k → S k ∨ (w.heap.size ≤ k ∧ k < w'.heap.size)
theorem Step.refl (w : World) (S : Nat → Prop) : Step w S w S := ⟨Chg.refl w S, fun k h => .inl h⟩
theorem Step.trans {w w1 w2 : World} {S S1 S2 : Nat → Prop} (h : Step w S w1 S1) (h' : Step w1 S1 w2 S2) : Step w S w2 S2 :=
  ⟨h.chg.trans h'.chg fun k hk h1 => (h.new k h1).elim id (fun hh => absurd hh.1 (by omega)), fun k hk => by
    rcases h'.new k hk with h1 | h1
    · rcases h.new k h1 with h2 | h2
      · exact .inl h2
      · exact .inr ⟨h2.1, Nat.lt_of_lt_of_le h2.2 h'.chg.size⟩
    · exact .inr ⟨Nat.le_trans h.chg.size h1.1, h1.2⟩⟩
theorem Step.of_chg {w w' : World} {S : Nat → Prop} (h : Chg w w' S) : Step w S w' S := ⟨h, fun k h => .inl h⟩
theorem row_chg {w w' : World} {v : Value} {n : Nat} {e : TypeId} {sz : Nat} {xs : List Value} {T : Nat → Prop} (h : w.ownsRow 0 e sz v n xs) (hc : Chg w w' T) (hn : ∀ k, v.ownBlock = some k → ¬ T k) : w'.ownsRow 0 e sz v n xs := by
  obtain ⟨h1, h2⟩ := h
  refine ⟨h1, ?_⟩
  rcases h2 with h2 | ⟨g, cap, cur, rfl, hb, hg, rest⟩
  · exact .inl h2
  · exact .inr ⟨g, cap, cur, rfl, hb, (hc.block g (Array.getElem?_eq_some_iff.1 hg).1 (hn g rfl)).trans hg, rest⟩
theorem row_apart {w : World} {v : Value} {n : Nat} {e : TypeId} {sz : Nat} {xs : List Value} {g : Nat} {t : TypeId} {cs : List Value} (h : w.ownsRow 0 e sz v n xs) (hb : Blk w g t cs) (hne : t ≠ e) : v.ownBlock ≠ some g := by
  rcases h.2 with ⟨rfl, _⟩ | ⟨g', cap, cur, rfl, _, hg, _⟩
  · simp [Value.ownBlock]
  · intro hh
    simp only [Value.ownBlock, Option.some.injEq] at hh
    subst hh
    unfold Blk at hb
    rw [hg] at hb
    simp at hb
    exact hne hb.2.symm
theorem map_apart {w : World} {m N : Nat} {f : Int → Int → Int} {g : Nat} {t : TypeId} {cs : List Value} (h : MapHas w m N f) (hb : Blk w g t cs) : m ≠ g := by
  rintro rfl
  obtain ⟨D, ⟨es, clock, h1, _⟩, _⟩ := h
  unfold Blk at hb
  rw [h1] at hb
  cases hb
theorem map_row {w : World} {m N : Nat} {f : Int → Int → Int} {v : Value} {n : Nat} {e : TypeId} {sz : Nat} {xs : List Value} (h : MapHas w m N f) (hr : w.ownsRow 0 e sz v n xs) : v.ownBlock ≠ some m := by
  rcases hr.2 with ⟨rfl, _⟩ | ⟨g', cap, cur, rfl, _, hg, _⟩
  · simp [Value.ownBlock]
  · intro hh
    simp only [Value.ownBlock, Option.some.injEq] at hh
    subst hh
    obtain ⟨D, ⟨es, clock, h1, _⟩, _⟩ := h
    rw [h1] at hg
    cases hg
/-- The parts of a builder. -/
structure Parts (w : World) (g : Nat) (S : Nat → Prop) (i l : Int) (gs : List Gate) (v : Value) (m : Nat) : Prop where
  head : Blk w g 101 [num i, num l, v, .map (some m)]
  row : w.ownsRow 0 57 3 v gs.length (flat gs)
  map : MapHas w m gs.length (outOf gs)
  hg : S g
  hm : S m
  hv : ∀ k, v.ownBlock = some k → S k
  lt : ∀ k, S k → k < w.heap.size
theorem Parts.drew {w : World} {g : Nat} {S : Nat → Prop} {i l : Int} {gs : List Gate} {v : Value} {m : Nat} (h : Parts w g S i l gs v m) : Parts w.drew g S i l gs v m := ⟨h.head, h.row, h.map, h.hg, h.hm, h.hv, h.lt⟩
def Bld (w : World) (g : Nat) (S : Nat → Prop) (i l : Int) (gs : List Gate) : Prop := ∃ v m, Parts w g S i l gs v m
theorem Parts.chg {w w' : World} {g : Nat} {S : Nat → Prop} {i l : Int} {gs : List Gate} {v : Value} {m : Nat} (h : Parts w g S i l gs v m) {T : Nat → Prop} (hc : Chg w w' T) (hd : ∀ k, S k → ¬ T k) : Parts w' g S i l gs v m :=
  ⟨h.head.chg hc (hd _ h.hg), row_chg h.row hc fun k hk => hd k (h.hv k hk), h.map.chg hc (hd _ h.hm), h.hg, h.hm, h.hv, fun k hk => Nat.lt_of_lt_of_le (h.lt k hk) hc.size⟩
theorem Bld.chg {w w' : World} {g : Nat} {S : Nat → Prop} {i l : Int} {gs : List Gate} (h : Bld w g S i l gs) {T : Nat → Prop} (hc : Chg w w' T) (hd : ∀ k, S k → ¬ T k) : Bld w' g S i l gs := by
  obtain ⟨v, m, h⟩ := h
  exact ⟨v, m, h.chg hc hd⟩
theorem Parts.alloc {w : World} {g : Nat} {S : Nat → Prop} {i l : Int} {gs : List Gate} {v : Value} {m : Nat} (o : Obj) (h : Parts w g S i l gs v m) : Parts (w.alloc o) g S i l gs v m := h.chg (Chg.alloc w o none_) fun _ _ => id
/-- The row's value as a slice. -/
theorem row_form {w : World} {v : Value} {n : Nat} {e : TypeId} {sz : Nat} {xs : List Value} (h : w.ownsRow 0 e sz v n xs) : ∃ A c, v = .slice A n c := by
  rcases h.2 with ⟨rfl, rfl⟩ | ⟨g', cap, cur, rfl, _⟩
  · exact ⟨_, _, rfl⟩
  · exact ⟨_, _, rfl⟩
theorem greatest_cv {w : World} {g : Nat} {i l : Int} {A : Option Addr} {n c : Nat} {m : Value}
   (hb : Blk w g 101 [num i, num l, .slice A n c, m]) (hi : 0 ≤ i) (hl : 0 ≤ l) (hn : i + l + n ≤ 16384) :
    CV Try.prog 71 [ptr g] w fun v w' => v = num (i + l + n) ∧ w' = w.drew := by
  refine enter 18 [2] Try.func71 rfl rfl rfl (by decide) rfl ?_
  repeat' (first
      | (apply WC_seqK; intro K hK)
      | (apply hK; clear hK)
      | (clear hK; apply hK; clear hK)
      | (clear hK; clear hK; apply hK; clear hK)
      | (clear hK; clear hK; clear hK; apply hK; clear hK)
      | (apply WC_block)
      | (apply WC_region)
      | (apply WL_nil)
      | (apply thenQ_normal)
      | (apply thenQ_ret)
      | (apply thenQ_exit)
      | (apply blockQ_hit)
      | (apply blockQ_miss; eq_refl)
      | (apply blockQ_ret)
      | (apply blockQ_normal)
      | (apply WC_ret)
      | (apply WC_exit)
      | (apply WC_skip)
      | (apply WC_label)
      | (apply WC_if_true; eq_refl)
      | (apply WC_if_false; eq_refl)
      | (apply ret1; eq_refl)
      | (apply ret2; eq_refl; eq_refl)
      | (apply ret3; eq_refl; eq_refl; eq_refl)
      | (apply ret0)
      | (apply ret0n)
      | (apply WL_on0; eq_refl)
      | (apply WL_onG; eq_refl; eq_refl; eq_refl; eq_refl)
      | (apply WL_noG; eq_refl; eq_refl; eq_refl; eq_refl)
      | (apply X_pv; eq_refl; first | exact trivial | omega)
      | (apply X_field; eq_refl)
      | (apply X_loadR; eq_refl; (first | assumption | (apply Blk.alloc; assumption) | apply Blk.new | apply Blk.newA | (apply Blk.alloc; first | apply Blk.newA | (apply Blk.alloc; first | assumption | apply Blk.newA))); eq_refl)
      | (apply X_loadW; eq_refl; (first | assumption | (apply Blk.alloc; assumption) | apply Blk.new | apply Blk.newA | (apply Blk.alloc; first | apply Blk.newA | (apply Blk.alloc; first | assumption | apply Blk.newA))); eq_refl)
      | (apply X_loadC; eq_refl; (first | assumption | (apply cel; first | assumption | (apply cel; assumption))))
      | (apply X_cmpT; eq_refl; eq_refl; omega)
      | (apply X_cmpF; eq_refl; eq_refl; omega)
      | (apply X_cmp; eq_refl; eq_refl; all_goals intro _)
      | (apply X_len; eq_refl)
      | (apply X_lenS; eq_refl)
      | (apply X_index; eq_refl; eq_refl; omega; omega)
      | (apply X_eqB; eq_refl; eq_refl)
      | (apply X_neqB; eq_refl; eq_refl)
      | (apply X_eqP; eq_refl; eq_refl)
      | (apply X_eqL; eq_refl; eq_refl)
      | (apply X_max; eq_refl; eq_refl)
      | (apply X_min; eq_refl; eq_refl)
      | (apply X_cap; eq_refl)
      | (apply X_alloc)
      | (apply X_box; eq_refl)
      | (apply X_makeMap))
  refine WC_draws [(0, true), (1, true), (2, true), (3, true), (4, true), (5, true), (6, true), (7, true), (8, true), (9, true), (10, true), (11, true), (12, true), (13, true), (14, true), (15, true)] (fun w => Blk w g 101 [num i, num l, .slice A n c, m]) mixedB (by kernel_rfl) (by kernel_rfl) ?_
  have hS : Blk w.drew g 101 [num i, num l, .slice A n c, m] := hb
  repeat' (first
      | (apply WC_seqK; intro K hK)
      | (apply hK; clear hK)
      | (clear hK; apply hK; clear hK)
      | (clear hK; clear hK; apply hK; clear hK)
      | (clear hK; clear hK; clear hK; apply hK; clear hK)
      | (apply WC_block)
      | (apply WC_region)
      | (apply WL_nil)
      | (apply thenQ_normal)
      | (apply thenQ_ret)
      | (apply thenQ_exit)
      | (apply blockQ_hit)
      | (apply blockQ_miss; eq_refl)
      | (apply blockQ_ret)
      | (apply blockQ_normal)
      | (apply WC_ret)
      | (apply WC_exit)
      | (apply WC_skip)
      | (apply WC_label)
      | (apply WC_if_true; eq_refl)
      | (apply WC_if_false; eq_refl)
      | (apply ret1; eq_refl)
      | (apply ret2; eq_refl; eq_refl)
      | (apply ret3; eq_refl; eq_refl; eq_refl)
      | (apply ret0)
      | (apply ret0n)
      | (apply WS_nil)
      | (apply WS_next; eq_refl)
      | (apply WO_on0; eq_refl)
      | (apply WO_onG; eq_refl; eq_refl; eq_refl; eq_refl)
      | (apply WO_noG; eq_refl; eq_refl; eq_refl; eq_refl; (first | assumption | exact trivial))
      | (apply O_pv; eq_refl; (first | exact trivial | omega); (first | assumption | exact trivial))
      | (apply O_field; eq_refl; (first | assumption | exact trivial))
      | (apply O_loadR; eq_refl; (first | (intro _ h; exact h) | (intro _ h; exact h.1) | (intro _ h; exact h.2) | (intro _ h; exact h.2.1) | (intro _ h; exact h.2.2) | (intro _ h; exact h.2.2.1) | (intro _ h; exact h.2.2.2)); eq_refl; (first | assumption | exact trivial))
      | (apply O_loadW; eq_refl; (first | (intro _ h; exact h) | (intro _ h; exact h.1) | (intro _ h; exact h.2) | (intro _ h; exact h.2.1) | (intro _ h; exact h.2.2) | (intro _ h; exact h.2.2.1) | (intro _ h; exact h.2.2.2)); eq_refl; (first | assumption | exact trivial))
      | (apply O_loadC; eq_refl; (first | (intro _ h; exact h) | (intro _ h; exact h.1) | (intro _ h; exact h.2) | (intro _ h; exact h.2.1) | (intro _ h; exact h.2.2) | (intro _ h; exact h.2.2.1) | (intro _ h; exact h.2.2.2)); (first | assumption | exact trivial))
      | (apply O_cmpT; eq_refl; eq_refl; omega; (first | assumption | exact trivial))
      | (apply O_cmpF; eq_refl; eq_refl; omega; (first | assumption | exact trivial))
      | (apply O_cmp; eq_refl; eq_refl; (first | assumption | exact trivial); all_goals intro _)
      | (apply O_len; eq_refl; (first | assumption | exact trivial))
      | (apply O_lenS; eq_refl; (first | assumption | exact trivial))
      | (apply O_index; eq_refl; eq_refl; omega; omega; (first | assumption | exact trivial))
      | (apply O_eqB; eq_refl; eq_refl; (first | assumption | exact trivial))
      | (apply O_neqB; eq_refl; eq_refl; (first | assumption | exact trivial))
      | (apply O_pvL; eq_refl; (first | exact trivial | omega); (first | (intro _; assumption) | exact lo (by kernel_rfl)))
      | (apply WL_on0; eq_refl)
      | (apply WL_onG; eq_refl; eq_refl; eq_refl; eq_refl)
      | (apply WL_noG; eq_refl; eq_refl; eq_refl; eq_refl)
      | (apply X_pv; eq_refl; first | exact trivial | omega)
      | (apply X_field; eq_refl)
      | (apply X_loadR; eq_refl; (first | assumption | (apply Blk.alloc; assumption) | apply Blk.new | apply Blk.newA | (apply Blk.alloc; first | apply Blk.newA | (apply Blk.alloc; first | assumption | apply Blk.newA))); eq_refl)
      | (apply X_loadW; eq_refl; (first | assumption | (apply Blk.alloc; assumption) | apply Blk.new | apply Blk.newA | (apply Blk.alloc; first | apply Blk.newA | (apply Blk.alloc; first | assumption | apply Blk.newA))); eq_refl)
      | (apply X_loadC; eq_refl; (first | assumption | (apply cel; first | assumption | (apply cel; assumption))))
      | (apply X_cmpT; eq_refl; eq_refl; omega)
      | (apply X_cmpF; eq_refl; eq_refl; omega)
      | (apply X_cmp; eq_refl; eq_refl; all_goals intro _)
      | (apply X_len; eq_refl)
      | (apply X_lenS; eq_refl)
      | (apply X_index; eq_refl; eq_refl; omega; omega)
      | (apply X_eqB; eq_refl; eq_refl)
      | (apply X_neqB; eq_refl; eq_refl)
      | (apply X_eqP; eq_refl; eq_refl)
      | (apply X_eqL; eq_refl; eq_refl)
      | (apply X_max; eq_refl; eq_refl)
      | (apply X_min; eq_refl; eq_refl)
      | (apply X_cap; eq_refl)
      | (apply X_alloc)
      | (apply X_box; eq_refl)
      | (apply X_makeMap))
  exact ⟨rfl, rfl⟩
theorem eq168 {e : Env} {x y : Operand} {ty : TypeId} {p q p' q' : Int} (h : ev e x = some (.agg #[num p, num q])) (h1 : ev e y = some (.agg #[num p', num q'])) (c : Bool) (hc : decide (p = p' ∧ q = q') = c) (hp : fits p) (hq : fits q) (hp' : fits p') (hq' : fits q') :
    Pure Try.prog (.binOp .eql 145 x y 145) ty e (.bool c) := by
  subst hc
  unfold Pure Does
  intro w ρ dst pos af g hρ
  obtain ⟨r, h2, h3⟩ := run_equal_deep (P := Try.prog) w (m := 2) (by decide) (k := 145) (by kernel_rfl) wide168 (key168 hp hq) (key168 hp' hq')
  have : r = decide (p = p' ∧ q = q') := by
    rw [Bool.eq_iff_iff, h3, decide_eq_true_iff]
    exact ⟨fun hh => kl_inj hp hq hp' hq' hh, fun hh => by rw [hh.1, hh.2]⟩
  subst this
  simp [execOp, hρ _ _ h, hρ _ _ h1, eqGuard, binOp, h2]
section
variable {n : Nat} {all rest : List Oper} {K : Env → World → Prop} {e : Env} {w : World} {d : Option Tmp} {ty : TypeId} {pos : String} {af : Array Edge} {g : Option (Nat × Bool)} {x y : Operand} {p q p' q' : Int}
theorem X_if168 (h : ev e x = some (.agg #[num p, num q])) (h1 : ev e y = some (.agg #[num p', num q'])) (hp : fits p) (hq : fits q) (hp' : fits p') (hq' : fits q') (ht : p = p' ∧ q = q' → WL Try.prog n all K rest (push d (.bool true) e) w) (hf : ¬ (p = p' ∧ q = q') → WL Try.prog n all K rest (push d (.bool false) e) w) :
    WX Try.prog n all K rest d (.binOp .eql 145 x y 145) ty e w := by
  by_cases hc : p = p' ∧ q = q'
  · exact X_pure (eq168 h h1 true (decide_eq_true hc) hp hq hp' hq') (ht hc)
  · exact X_pure (eq168 h h1 false (decide_eq_false hc) hp hq hp' hq') (hf hc)
end
section
variable {P : Program} {n : Nat} {all : List Oper} {K : Env → World → Prop} {S : World → Prop} {r : List (Nat × Bool)} {i : Nat} {e : Env} {w : World} {d : Option Tmp} {ty : TypeId} {x y z : Operand}
theorem O_updateG {b N : Nat} {f : Int → Int → Int} {p q v : Int} (h : ev e x = some (.map (some b))) (h1 : ev e y = some (.agg #[num p, num q])) (h2 : ev e z = some (num v)) (hm : MapHas w b N f) (hp : fits p) (hq : fits q) (hv : fits v) (hN : N < maxLen)
    (hr : ∀ w', MapHas w' b (N + 1) (fun p' q' => if p' = p ∧ q' = q then v else f p' q') → Chg w w' (fun k => k = b) → (loose .any all.toArray i = false → S w') ∧ WS Try.prog n all S K r (push d undef e) w') :
    OX Try.prog n all S K i false r d (.mapUpdate 99 x y z) ty e w := by
  obtain ⟨w', hd, h3, h4⟩ := does_updateG (ty := ty) h h1 h2 hm hp hq hv hN
  exact O_doesU hd (hr w' h3 h4).1 (hr w' h3 h4).2
end
instance (a : Int) : Decidable (fits a) := by unfold fits; infer_instance
/-- What 'and' answers, behind a world that may be another one. -/
def After (w : World) (g : Nat) (S : Nat → Prop) (i l : Int) (r : Int × Int × List Gate) (v : Value) (w' : World) : Prop :=
  v = .tuple #[num r.1, num r.2.1] ∧ ∃ S', Bld w' g S' i l r.2.2 ∧ Step w S w' S'
theorem After.same {w w' : World} {g : Nat} {S : Nat → Prop} {i l a b : Int} {gs : List Gate} {r : Int × Int × List Gate} (h : Bld w' g S i l gs) (hc : Chg w w' S) (hr : r = (a, b, gs)) : After w g S i l r (.tuple #[num a, num b]) w' := by
  subst hr
  exact ⟨rfl, S, h, Step.of_chg hc⟩
theorem and_cv {w : World} {g : Nat} {S : Nat → Prop} {i l : Int} {gs : List Gate} {x y : Int} (hB : Bld w g S i l gs) (hi : 0 ≤ i) (hl : 0 ≤ l) (hI : Inv (i + l) gs) (hx : okM (i + l) gs x) (hy : okM (i + l) gs y) :
    CV Try.prog 69 [ptr g, num x, num y] w (After w g S i l (andM (i + l) gs x y)) := by
  obtain ⟨v, m, hB⟩ := hB
  obtain ⟨A, c, rfl⟩ := row_form hB.row
  have hx' := hx; have hy' := hy
  unfold okM at hx' hy'
  have htop := hI.top
  have hlt := hB.lt
  show CV _ _ _ _ (After w g S i l (andP (i + l) gs (max x y) (min x y)))
  refine enter 99 [6, 7] Try.func69 rfl rfl rfl (by decide) rfl ?_
  repeat' (first
      | (apply WC_seqK; intro K hK)
      | (apply hK; clear hK)
      | (clear hK; apply hK; clear hK)
      | (clear hK; clear hK; apply hK; clear hK)
      | (clear hK; clear hK; clear hK; apply hK; clear hK)
      | (apply WC_block)
      | (apply WC_region)
      | (apply WL_nil)
      | (apply thenQ_normal)
      | (apply thenQ_ret)
      | (apply thenQ_exit)
      | (apply blockQ_hit)
      | (apply blockQ_miss; eq_refl)
      | (apply blockQ_ret)
      | (apply blockQ_normal)
      | (apply WC_ret)
      | (apply WC_exit)
      | (apply WC_skip)
      | (apply WC_label)
      | (apply WC_if_true; eq_refl)
      | (apply WC_if_false; eq_refl)
      | (apply ret1; eq_refl)
      | (apply ret2; eq_refl; eq_refl)
      | (apply ret3; eq_refl; eq_refl; eq_refl)
      | (apply ret0)
      | (apply ret0n)
      | (apply WL_on0; eq_refl)
      | (apply WL_onG; eq_refl; eq_refl; eq_refl; eq_refl)
      | (apply WL_noG; eq_refl; eq_refl; eq_refl; eq_refl)
      | (apply X_pv; eq_refl; first | exact trivial | omega)
      | (apply X_field; eq_refl)
      | (apply X_loadR; eq_refl; (first | assumption | (apply Blk.alloc; assumption) | apply Blk.new | apply Blk.newA | (apply Blk.alloc; first | apply Blk.newA | (apply Blk.alloc; first | assumption | apply Blk.newA))); eq_refl)
      | (apply X_loadW; eq_refl; (first | assumption | (apply Blk.alloc; assumption) | apply Blk.new | apply Blk.newA | (apply Blk.alloc; first | apply Blk.newA | (apply Blk.alloc; first | assumption | apply Blk.newA))); eq_refl)
      | (apply X_loadC; eq_refl; (first | assumption | (apply cel; first | assumption | (apply cel; assumption))))
      | (apply X_cmpT; eq_refl; eq_refl; omega)
      | (apply X_cmpF; eq_refl; eq_refl; omega)
      | (apply X_cmp; eq_refl; eq_refl; all_goals intro _)
      | (apply X_len; eq_refl)
      | (apply X_lenS; eq_refl)
      | (apply X_index; eq_refl; eq_refl; omega; omega)
      | (apply X_eqB; eq_refl; eq_refl)
      | (apply X_neqB; eq_refl; eq_refl)
      | (apply X_eqP; eq_refl; eq_refl)
      | (apply X_eqL; eq_refl; eq_refl)
      | (apply X_max; eq_refl; eq_refl)
      | (apply X_min; eq_refl; eq_refl)
      | (apply X_cap; eq_refl)
      | (apply X_alloc)
      | (apply X_box; eq_refl)
      | (apply X_makeMap)
      | (apply X_pure; apply build145_0_1 <;> eq_refl)
      | (apply X_pure; apply build145_)
      | (apply X_pure; apply build57_0_1_2 <;> eq_refl)
      | (apply X_does; apply buildS25_1 <;> eq_refl))
  refine X_doesU (does_storeA (vs := [num (max x y), num (min x y)]) (o := 0) (b := w.heap.size) rfl rfl (Blk.newA w _ _) rfl (by exact Nat.le_refl 2) (by simp [Value.oneCell'])) ?_
  refine WL_turn (fun w1 => Parts w1 g S i l gs (.slice A gs.length c) m ∧ Blk w1 w.heap.size 145 [num (max x y), num (min x y)] ∧ Chg w w1 none_ ∧ w1.heap.size = w.heap.size + 1) ?_ ?_
  · have hne : ∀ k, S k → ¬ k = w.heap.size := fun k hk => by have := hlt k hk; omega
    exact ⟨(hB.alloc _).chg (Chg.setRow _ w.heap.size _ (S := fun k => k = w.heap.size) rfl) hne, (Blk.newA w _ 145).set [num (max x y), num (min x y)], (Chg.alloc w _ none_).trans (Chg.setRow _ w.heap.size _ (S := fun k => k = w.heap.size) rfl) fun k hk h => by omega, by simp [World.setRow]⟩
  rintro w1 ⟨hB1, hP1, hC1, hz1⟩
  have hpq : min x y ≤ max x y := by omega
  have hq0 : 0 ≤ min x y := by omega
  have hp1 : max x y ≤ 32769 := by omega
  generalize max x y = p at *
  generalize min x y = q at *
  have hp : fits p := by unfold fits; omega
  have hq : fits q := by unfold fits; omega
  clear hx' hy' hx hy
  repeat' (first
      | (apply X_if168; eq_refl; eq_refl; (first | assumption | decide); (first | assumption | decide); (first | assumption | decide); (first | assumption | decide); all_goals intro _)
      | (apply WC_seqK; intro K hK)
      | (apply hK; clear hK)
      | (clear hK; apply hK; clear hK)
      | (clear hK; clear hK; apply hK; clear hK)
      | (clear hK; clear hK; clear hK; apply hK; clear hK)
      | (apply WC_block)
      | (apply WC_region)
      | (apply WL_nil)
      | (apply thenQ_normal)
      | (apply thenQ_ret)
      | (apply thenQ_exit)
      | (apply blockQ_hit)
      | (apply blockQ_miss; eq_refl)
      | (apply blockQ_ret)
      | (apply blockQ_normal)
      | (apply WC_ret)
      | (apply WC_exit)
      | (apply WC_skip)
      | (apply WC_label)
      | (apply WC_if_true; eq_refl)
      | (apply WC_if_false; eq_refl)
      | (apply ret1; eq_refl)
      | (apply ret2; eq_refl; eq_refl)
      | (apply ret3; eq_refl; eq_refl; eq_refl)
      | (apply ret0)
      | (apply ret0n)
      | (apply WL_on0; eq_refl)
      | (apply WL_onG; eq_refl; eq_refl; eq_refl; eq_refl)
      | (apply WL_noG; eq_refl; eq_refl; eq_refl; eq_refl)
      | (apply X_pv; eq_refl; first | exact trivial | omega)
      | (apply X_field; eq_refl)
      | (apply X_loadR; eq_refl; (first | assumption | (apply Blk.alloc; assumption) | apply Blk.new | apply Blk.newA | (apply Blk.alloc; first | apply Blk.newA | (apply Blk.alloc; first | assumption | apply Blk.newA))); eq_refl)
      | (apply X_loadW; eq_refl; (first | assumption | (apply Blk.alloc; assumption) | apply Blk.new | apply Blk.newA | (apply Blk.alloc; first | apply Blk.newA | (apply Blk.alloc; first | assumption | apply Blk.newA))); eq_refl)
      | (apply X_loadC; eq_refl; (first | assumption | (apply cel; first | assumption | (apply cel; assumption))))
      | (apply X_cmpT; eq_refl; eq_refl; omega)
      | (apply X_cmpF; eq_refl; eq_refl; omega)
      | (apply X_cmp; eq_refl; eq_refl; all_goals intro _)
      | (apply X_len; eq_refl)
      | (apply X_lenS; eq_refl)
      | (apply X_index; eq_refl; eq_refl; omega; omega)
      | (apply X_eqB; eq_refl; eq_refl)
      | (apply X_neqB; eq_refl; eq_refl)
      | (apply X_eqP; eq_refl; eq_refl)
      | (apply X_eqL; eq_refl; eq_refl)
      | (apply X_max; eq_refl; eq_refl)
      | (apply X_min; eq_refl; eq_refl)
      | (apply X_cap; eq_refl)
      | (apply X_alloc)
      | (apply X_box; eq_refl)
      | (apply X_makeMap)
      | (apply X_pure; apply build145_0_1 <;> eq_refl)
      | (apply X_pure; apply build145_)
      | (apply X_pure; apply build57_0_1_2 <;> eq_refl)
      | (apply X_does; apply buildS25_1 <;> eq_refl))
  any_goals (exact After.same ⟨_, _, hB1⟩ (hC1.mono fun _ h => h.elim) (by first | exact andP_zero (by omega) | exact andP_same (by omega) (by omega)))
  have hH1 := hB1.head
  have hm1 := hB1.map
  refine WC_draws [(0, true), (1, true), (2, true), (3, true), (4, true), (5, true), (6, true)] (fun w1 => Blk w1 g 101 [num i, num l, .slice A gs.length c, .map (some m)] ∧ Blk w1 w.heap.size 145 [num p, num q] ∧ MapHas w1 m gs.length (outOf gs)) mixedB (by kernel_rfl) (by kernel_rfl) ?_
  have hS : Blk w1.drew g 101 [num i, num l, .slice A gs.length c, .map (some m)] ∧ Blk w1.drew w.heap.size 145 [num p, num q] ∧ MapHas w1.drew m gs.length (outOf gs) := ⟨hH1, hP1, hm1⟩
  repeat' (first
      | (apply O_quiet; (intro w h; apply does_lookupG; eq_refl; eq_refl; exact h.2.2; assumption; assumption); assumption)
      | (apply X_fn; eq_refl; (apply greatest_cv; assumption; assumption; assumption; assumption); rintro _ _ ⟨rfl, rfl⟩)
      | (apply WC_seqK; intro K hK)
      | (apply hK; clear hK)
      | (clear hK; apply hK; clear hK)
      | (clear hK; clear hK; apply hK; clear hK)
      | (clear hK; clear hK; clear hK; apply hK; clear hK)
      | (apply WC_block)
      | (apply WC_region)
      | (apply WL_nil)
      | (apply thenQ_normal)
      | (apply thenQ_ret)
      | (apply thenQ_exit)
      | (apply blockQ_hit)
      | (apply blockQ_miss; eq_refl)
      | (apply blockQ_ret)
      | (apply blockQ_normal)
      | (apply WC_ret)
      | (apply WC_exit)
      | (apply WC_skip)
      | (apply WC_label)
      | (apply WC_if_true; eq_refl)
      | (apply WC_if_false; eq_refl)
      | (apply ret1; eq_refl)
      | (apply ret2; eq_refl; eq_refl)
      | (apply ret3; eq_refl; eq_refl; eq_refl)
      | (apply ret0)
      | (apply ret0n)
      | (apply WS_nil)
      | (apply WS_next; eq_refl)
      | (apply WO_on0; eq_refl)
      | (apply WO_onG; eq_refl; eq_refl; eq_refl; eq_refl)
      | (apply WO_noG; eq_refl; eq_refl; eq_refl; eq_refl; (first | assumption | exact trivial))
      | (apply O_pv; eq_refl; (first | exact trivial | omega); (first | assumption | exact trivial))
      | (apply O_field; eq_refl; (first | assumption | exact trivial))
      | (apply O_loadR; eq_refl; (first | (intro _ h; exact h) | (intro _ h; exact h.1) | (intro _ h; exact h.2) | (intro _ h; exact h.2.1) | (intro _ h; exact h.2.2) | (intro _ h; exact h.2.2.1) | (intro _ h; exact h.2.2.2)); eq_refl; (first | assumption | exact trivial))
      | (apply O_loadW; eq_refl; (first | (intro _ h; exact h) | (intro _ h; exact h.1) | (intro _ h; exact h.2) | (intro _ h; exact h.2.1) | (intro _ h; exact h.2.2) | (intro _ h; exact h.2.2.1) | (intro _ h; exact h.2.2.2)); eq_refl; (first | assumption | exact trivial))
      | (apply O_loadC; eq_refl; (first | (intro _ h; exact h) | (intro _ h; exact h.1) | (intro _ h; exact h.2) | (intro _ h; exact h.2.1) | (intro _ h; exact h.2.2) | (intro _ h; exact h.2.2.1) | (intro _ h; exact h.2.2.2)); (first | assumption | exact trivial))
      | (apply O_cmpT; eq_refl; eq_refl; omega; (first | assumption | exact trivial))
      | (apply O_cmpF; eq_refl; eq_refl; omega; (first | assumption | exact trivial))
      | (apply O_cmp; eq_refl; eq_refl; (first | assumption | exact trivial); all_goals intro _)
      | (apply O_len; eq_refl; (first | assumption | exact trivial))
      | (apply O_lenS; eq_refl; (first | assumption | exact trivial))
      | (apply O_index; eq_refl; eq_refl; omega; omega; (first | assumption | exact trivial))
      | (apply O_eqB; eq_refl; eq_refl; (first | assumption | exact trivial))
      | (apply O_neqB; eq_refl; eq_refl; (first | assumption | exact trivial))
      | (apply O_pvL; eq_refl; (first | exact trivial | omega); (first | (intro _; assumption) | exact lo (by kernel_rfl)))
      | (apply O_pure; apply build145_0_1 <;> eq_refl; (first | assumption | exact trivial))
      | (apply O_pure; apply build145_; (first | assumption | exact trivial))
      | (apply O_pure; apply build57_0_1_2 <;> eq_refl; (first | assumption | exact trivial))
      | (apply WL_on0; eq_refl)
      | (apply WL_onG; eq_refl; eq_refl; eq_refl; eq_refl)
      | (apply WL_noG; eq_refl; eq_refl; eq_refl; eq_refl)
      | (apply X_pv; eq_refl; first | exact trivial | omega)
      | (apply X_field; eq_refl)
      | (apply X_loadR; eq_refl; (first | assumption | (apply Blk.alloc; assumption) | apply Blk.new | apply Blk.newA | (apply Blk.alloc; first | apply Blk.newA | (apply Blk.alloc; first | assumption | apply Blk.newA))); eq_refl)
      | (apply X_loadW; eq_refl; (first | assumption | (apply Blk.alloc; assumption) | apply Blk.new | apply Blk.newA | (apply Blk.alloc; first | apply Blk.newA | (apply Blk.alloc; first | assumption | apply Blk.newA))); eq_refl)
      | (apply X_loadC; eq_refl; (first | assumption | (apply cel; first | assumption | (apply cel; assumption))))
      | (apply X_cmpT; eq_refl; eq_refl; omega)
      | (apply X_cmpF; eq_refl; eq_refl; omega)
      | (apply X_cmp; eq_refl; eq_refl; all_goals intro _)
      | (apply X_len; eq_refl)
      | (apply X_lenS; eq_refl)
      | (apply X_index; eq_refl; eq_refl; omega; omega)
      | (apply X_eqB; eq_refl; eq_refl)
      | (apply X_neqB; eq_refl; eq_refl)
      | (apply X_eqP; eq_refl; eq_refl)
      | (apply X_eqL; eq_refl; eq_refl)
      | (apply X_max; eq_refl; eq_refl)
      | (apply X_min; eq_refl; eq_refl)
      | (apply X_cap; eq_refl)
      | (apply X_alloc)
      | (apply X_box; eq_refl)
      | (apply X_makeMap)
      | (apply X_pure; apply build145_0_1 <;> eq_refl)
      | (apply X_pure; apply build145_)
      | (apply X_pure; apply build57_0_1_2 <;> eq_refl)
      | (apply X_does; apply buildS25_1 <;> eq_refl))
  any_goals (first | exact After.same ⟨_, _, hB1⟩ hC1.any (andP_hit (by omega) (by omega) (by assumption)) | exact After.same ⟨_, _, hB1.drew⟩ hC1.dr.any (andP_hit (by omega) (by omega) (by assumption)) | exact After.same ⟨_, _, hB1.drew.drew⟩ hC1.dr.dr.any (andP_full (by omega) (by omega) (by assumption) (by assumption)))
  refine WC_turn (fun w2 => Parts w2 g S i l gs (.slice A gs.length c) m ∧ Blk w2 w.heap.size 145 [num p, num q] ∧ Chg w w2 none_ ∧ w2.heap.size = w.heap.size + 1) ⟨hB1.drew.drew.drew, hP1, hC1.dr.dr.dr, hz1⟩ ?_
  rintro w2 ⟨hB2, hP2, hC2, hz2⟩
  clear hB1 hP1 hC1 hz1 hS hH1 hm1
  have hH2 := hB2.head
  refine WC_draws [(0, true), (1, true), (2, true), (3, true), (4, true), (5, true), (6, true), (7, true), (8, true), (9, true), (10, true), (11, false), (12, false), (13, true), (14, true), (15, false)] (fun w1 => Blk w1 g 101 [num i, num l, .slice A gs.length c, .map (some m)] ∧ Blk w1 w.heap.size 145 [num p, num q]) mixedB (by kernel_rfl) (by kernel_rfl) ?_
  have hS : Blk w2.drew g 101 [num i, num l, .slice A gs.length c, .map (some m)] ∧ Blk w2.drew w.heap.size 145 [num p, num q] := ⟨hH2, hP2⟩
  repeat' (first
      | (apply WC_seqK; intro K hK)
      | (apply hK; clear hK)
      | (clear hK; apply hK; clear hK)
      | (clear hK; clear hK; apply hK; clear hK)
      | (clear hK; clear hK; clear hK; apply hK; clear hK)
      | (apply WC_block)
      | (apply WC_region)
      | (apply WL_nil)
      | (apply thenQ_normal)
      | (apply thenQ_ret)
      | (apply thenQ_exit)
      | (apply blockQ_hit)
      | (apply blockQ_miss; eq_refl)
      | (apply blockQ_ret)
      | (apply blockQ_normal)
      | (apply WC_ret)
      | (apply WC_exit)
      | (apply WC_skip)
      | (apply WC_label)
      | (apply WC_if_true; eq_refl)
      | (apply WC_if_false; eq_refl)
      | (apply ret1; eq_refl)
      | (apply ret2; eq_refl; eq_refl)
      | (apply ret3; eq_refl; eq_refl; eq_refl)
      | (apply ret0)
      | (apply ret0n)
      | (apply WS_nil)
      | (apply WS_next; eq_refl)
      | (apply WO_on0; eq_refl)
      | (apply WO_onG; eq_refl; eq_refl; eq_refl; eq_refl)
      | (apply WO_noG; eq_refl; eq_refl; eq_refl; eq_refl; (first | assumption | exact trivial))
      | (apply O_pv; eq_refl; (first | exact trivial | omega); (first | assumption | exact trivial))
      | (apply O_field; eq_refl; (first | assumption | exact trivial))
      | (apply O_loadR; eq_refl; (first | (intro _ h; exact h) | (intro _ h; exact h.1) | (intro _ h; exact h.2) | (intro _ h; exact h.2.1) | (intro _ h; exact h.2.2) | (intro _ h; exact h.2.2.1) | (intro _ h; exact h.2.2.2)); eq_refl; (first | assumption | exact trivial))
      | (apply O_loadW; eq_refl; (first | (intro _ h; exact h) | (intro _ h; exact h.1) | (intro _ h; exact h.2) | (intro _ h; exact h.2.1) | (intro _ h; exact h.2.2) | (intro _ h; exact h.2.2.1) | (intro _ h; exact h.2.2.2)); eq_refl; (first | assumption | exact trivial))
      | (apply O_loadC; eq_refl; (first | (intro _ h; exact h) | (intro _ h; exact h.1) | (intro _ h; exact h.2) | (intro _ h; exact h.2.1) | (intro _ h; exact h.2.2) | (intro _ h; exact h.2.2.1) | (intro _ h; exact h.2.2.2)); (first | assumption | exact trivial))
      | (apply O_cmpT; eq_refl; eq_refl; omega; (first | assumption | exact trivial))
      | (apply O_cmpF; eq_refl; eq_refl; omega; (first | assumption | exact trivial))
      | (apply O_cmp; eq_refl; eq_refl; (first | assumption | exact trivial); all_goals intro _)
      | (apply O_len; eq_refl; (first | assumption | exact trivial))
      | (apply O_lenS; eq_refl; (first | assumption | exact trivial))
      | (apply O_index; eq_refl; eq_refl; omega; omega; (first | assumption | exact trivial))
      | (apply O_eqB; eq_refl; eq_refl; (first | assumption | exact trivial))
      | (apply O_neqB; eq_refl; eq_refl; (first | assumption | exact trivial))
      | (apply O_pvL; eq_refl; (first | exact trivial | omega); (first | (intro _; assumption) | exact lo (by kernel_rfl)))
      | (apply O_pure; apply build145_0_1 <;> eq_refl; (first | assumption | exact trivial))
      | (apply O_pure; apply build145_; (first | assumption | exact trivial))
      | (apply O_pure; apply build57_0_1_2 <;> eq_refl; (first | assumption | exact trivial))
      | (apply WL_on0; eq_refl)
      | (apply WL_onG; eq_refl; eq_refl; eq_refl; eq_refl)
      | (apply WL_noG; eq_refl; eq_refl; eq_refl; eq_refl)
      | (apply X_pv; eq_refl; first | exact trivial | omega)
      | (apply X_field; eq_refl)
      | (apply X_loadR; eq_refl; (first | assumption | (apply Blk.alloc; assumption) | apply Blk.new | apply Blk.newA | (apply Blk.alloc; first | apply Blk.newA | (apply Blk.alloc; first | assumption | apply Blk.newA))); eq_refl)
      | (apply X_loadW; eq_refl; (first | assumption | (apply Blk.alloc; assumption) | apply Blk.new | apply Blk.newA | (apply Blk.alloc; first | apply Blk.newA | (apply Blk.alloc; first | assumption | apply Blk.newA))); eq_refl)
      | (apply X_loadC; eq_refl; (first | assumption | (apply cel; first | assumption | (apply cel; assumption))))
      | (apply X_cmpT; eq_refl; eq_refl; omega)
      | (apply X_cmpF; eq_refl; eq_refl; omega)
      | (apply X_cmp; eq_refl; eq_refl; all_goals intro _)
      | (apply X_len; eq_refl)
      | (apply X_lenS; eq_refl)
      | (apply X_index; eq_refl; eq_refl; omega; omega)
      | (apply X_eqB; eq_refl; eq_refl)
      | (apply X_neqB; eq_refl; eq_refl)
      | (apply X_eqP; eq_refl; eq_refl)
      | (apply X_eqL; eq_refl; eq_refl)
      | (apply X_max; eq_refl; eq_refl)
      | (apply X_min; eq_refl; eq_refl)
      | (apply X_cap; eq_refl)
      | (apply X_alloc)
      | (apply X_box; eq_refl)
      | (apply X_makeMap)
      | (apply X_pure; apply build145_0_1 <;> eq_refl)
      | (apply X_pure; apply build145_)
      | (apply X_pure; apply build57_0_1_2 <;> eq_refl)
      | (apply X_does; apply buildS25_1 <;> eq_refl))
  apply O_does
  · apply buildS25_1 <;> eq_refl
  · intro _; exact ⟨hS.1.alloc _, hS.2.alloc _⟩
  refine WS_turn (fun w3 => Parts w3 g S i l gs (.slice A gs.length c) m ∧ Blk w3 w.heap.size 145 [num p, num q] ∧ Chg w w3 none_ ∧ Blk w3 w2.drew.heap.size 57 [num (2 * (i + l + gs.length + 1)), num p, num q] ∧ w3.heap.size = w.heap.size + 2) ⟨hB2.drew.alloc _, hP2.drew.alloc _, hC2.dr.al _, Blk.newA _ _ _, ?_⟩ ?_
  · simp; exact hz2
  rintro w3 ⟨hB3, hP3, hC3, hN3, hz3⟩
  have hH3 := hB3.head
  replace hS : Blk w3 g 101 [num i, num l, .slice A gs.length c, .map (some m)] ∧ Blk w3 w.heap.size 145 [num p, num q] := ⟨hH3, hP3⟩
  repeat' (first
      | (apply WC_seqK; intro K hK)
      | (apply hK; clear hK)
      | (clear hK; apply hK; clear hK)
      | (clear hK; clear hK; apply hK; clear hK)
      | (clear hK; clear hK; clear hK; apply hK; clear hK)
      | (apply WC_block)
      | (apply WC_region)
      | (apply WL_nil)
      | (apply thenQ_normal)
      | (apply thenQ_ret)
      | (apply thenQ_exit)
      | (apply blockQ_hit)
      | (apply blockQ_miss; eq_refl)
      | (apply blockQ_ret)
      | (apply blockQ_normal)
      | (apply WC_ret)
      | (apply WC_exit)
      | (apply WC_skip)
      | (apply WC_label)
      | (apply WC_if_true; eq_refl)
      | (apply WC_if_false; eq_refl)
      | (apply ret1; eq_refl)
      | (apply ret2; eq_refl; eq_refl)
      | (apply ret3; eq_refl; eq_refl; eq_refl)
      | (apply ret0)
      | (apply ret0n)
      | (apply WS_nil)
      | (apply WS_next; eq_refl)
      | (apply WO_on0; eq_refl)
      | (apply WO_onG; eq_refl; eq_refl; eq_refl; eq_refl)
      | (apply WO_noG; eq_refl; eq_refl; eq_refl; eq_refl; (first | assumption | exact trivial))
      | (apply O_pv; eq_refl; (first | exact trivial | omega); (first | assumption | exact trivial))
      | (apply O_field; eq_refl; (first | assumption | exact trivial))
      | (apply O_loadR; eq_refl; (first | (intro _ h; exact h) | (intro _ h; exact h.1) | (intro _ h; exact h.2) | (intro _ h; exact h.2.1) | (intro _ h; exact h.2.2) | (intro _ h; exact h.2.2.1) | (intro _ h; exact h.2.2.2)); eq_refl; (first | assumption | exact trivial))
      | (apply O_loadW; eq_refl; (first | (intro _ h; exact h) | (intro _ h; exact h.1) | (intro _ h; exact h.2) | (intro _ h; exact h.2.1) | (intro _ h; exact h.2.2) | (intro _ h; exact h.2.2.1) | (intro _ h; exact h.2.2.2)); eq_refl; (first | assumption | exact trivial))
      | (apply O_loadC; eq_refl; (first | (intro _ h; exact h) | (intro _ h; exact h.1) | (intro _ h; exact h.2) | (intro _ h; exact h.2.1) | (intro _ h; exact h.2.2) | (intro _ h; exact h.2.2.1) | (intro _ h; exact h.2.2.2)); (first | assumption | exact trivial))
      | (apply O_cmpT; eq_refl; eq_refl; omega; (first | assumption | exact trivial))
      | (apply O_cmpF; eq_refl; eq_refl; omega; (first | assumption | exact trivial))
      | (apply O_cmp; eq_refl; eq_refl; (first | assumption | exact trivial); all_goals intro _)
      | (apply O_len; eq_refl; (first | assumption | exact trivial))
      | (apply O_lenS; eq_refl; (first | assumption | exact trivial))
      | (apply O_index; eq_refl; eq_refl; omega; omega; (first | assumption | exact trivial))
      | (apply O_eqB; eq_refl; eq_refl; (first | assumption | exact trivial))
      | (apply O_neqB; eq_refl; eq_refl; (first | assumption | exact trivial))
      | (apply O_pvL; eq_refl; (first | exact trivial | omega); (first | (intro _; assumption) | exact lo (by kernel_rfl)))
      | (apply O_pure; apply build145_0_1 <;> eq_refl; (first | assumption | exact trivial))
      | (apply O_pure; apply build145_; (first | assumption | exact trivial))
      | (apply O_pure; apply build57_0_1_2 <;> eq_refl; (first | assumption | exact trivial))
      | (apply WL_on0; eq_refl)
      | (apply WL_onG; eq_refl; eq_refl; eq_refl; eq_refl)
      | (apply WL_noG; eq_refl; eq_refl; eq_refl; eq_refl)
      | (apply X_pv; eq_refl; first | exact trivial | omega)
      | (apply X_field; eq_refl)
      | (apply X_loadR; eq_refl; (first | assumption | (apply Blk.alloc; assumption) | apply Blk.new | apply Blk.newA | (apply Blk.alloc; first | apply Blk.newA | (apply Blk.alloc; first | assumption | apply Blk.newA))); eq_refl)
      | (apply X_loadW; eq_refl; (first | assumption | (apply Blk.alloc; assumption) | apply Blk.new | apply Blk.newA | (apply Blk.alloc; first | apply Blk.newA | (apply Blk.alloc; first | assumption | apply Blk.newA))); eq_refl)
      | (apply X_loadC; eq_refl; (first | assumption | (apply cel; first | assumption | (apply cel; assumption))))
      | (apply X_cmpT; eq_refl; eq_refl; omega)
      | (apply X_cmpF; eq_refl; eq_refl; omega)
      | (apply X_cmp; eq_refl; eq_refl; all_goals intro _)
      | (apply X_len; eq_refl)
      | (apply X_lenS; eq_refl)
      | (apply X_index; eq_refl; eq_refl; omega; omega)
      | (apply X_eqB; eq_refl; eq_refl)
      | (apply X_neqB; eq_refl; eq_refl)
      | (apply X_eqP; eq_refl; eq_refl)
      | (apply X_eqL; eq_refl; eq_refl)
      | (apply X_max; eq_refl; eq_refl)
      | (apply X_min; eq_refl; eq_refl)
      | (apply X_cap; eq_refl)
      | (apply X_alloc)
      | (apply X_box; eq_refl)
      | (apply X_makeMap)
      | (apply X_pure; apply build145_0_1 <;> eq_refl)
      | (apply X_pure; apply build145_)
      | (apply X_pure; apply build57_0_1_2 <;> eq_refl)
      | (apply X_does; apply buildS25_1 <;> eq_refl))
  refine O_append 0 (by eq_refl) (by eq_refl) hB3.row hN3 rfl rfl (by decide) (by simp [Value.oneCell']) (by omega) (by decide) (Nat.zero_le _) ?_
  intro v' w4 hrow hC4 hown hnil
  obtain ⟨A', c', rfl⟩ := row_form hrow
  have hng : ¬ (Value.slice A gs.length c).ownBlock = some g := row_apart hB3.row hH3 (by decide)
  have hnp : ¬ (Value.slice A gs.length c).ownBlock = some w.heap.size := fun hh => absurd (hlt _ (hB.hv _ hh)) (by omega)
  have hH4 := hH3.chg hC4 hng
  have hP4 := hP3.chg hC4 hnp
  have hM4 := hB3.map.chg hC4 (map_row hB3.map hB3.row)
  replace hS : Blk w4 g 101 [num i, num l, .slice A gs.length c, .map (some m)] ∧ Blk w4 w.heap.size 145 [num p, num q] := ⟨hH4, hP4⟩
  refine ⟨fun _ => hS, ?_⟩
  repeat' (first
      | (apply WC_seqK; intro K hK)
      | (apply hK; clear hK)
      | (clear hK; apply hK; clear hK)
      | (clear hK; clear hK; apply hK; clear hK)
      | (clear hK; clear hK; clear hK; apply hK; clear hK)
      | (apply WC_block)
      | (apply WC_region)
      | (apply WL_nil)
      | (apply thenQ_normal)
      | (apply thenQ_ret)
      | (apply thenQ_exit)
      | (apply blockQ_hit)
      | (apply blockQ_miss; eq_refl)
      | (apply blockQ_ret)
      | (apply blockQ_normal)
      | (apply WC_ret)
      | (apply WC_exit)
      | (apply WC_skip)
      | (apply WC_label)
      | (apply WC_if_true; eq_refl)
      | (apply WC_if_false; eq_refl)
      | (apply ret1; eq_refl)
      | (apply ret2; eq_refl; eq_refl)
      | (apply ret3; eq_refl; eq_refl; eq_refl)
      | (apply ret0)
      | (apply ret0n)
      | (apply WS_nil)
      | (apply WS_next; eq_refl)
      | (apply WO_on0; eq_refl)
      | (apply WO_onG; eq_refl; eq_refl; eq_refl; eq_refl)
      | (apply WO_noG; eq_refl; eq_refl; eq_refl; eq_refl; (first | assumption | exact trivial))
      | (apply O_pv; eq_refl; (first | exact trivial | omega); (first | assumption | exact trivial))
      | (apply O_field; eq_refl; (first | assumption | exact trivial))
      | (apply O_loadR; eq_refl; (first | (intro _ h; exact h) | (intro _ h; exact h.1) | (intro _ h; exact h.2) | (intro _ h; exact h.2.1) | (intro _ h; exact h.2.2) | (intro _ h; exact h.2.2.1) | (intro _ h; exact h.2.2.2)); eq_refl; (first | assumption | exact trivial))
      | (apply O_loadW; eq_refl; (first | (intro _ h; exact h) | (intro _ h; exact h.1) | (intro _ h; exact h.2) | (intro _ h; exact h.2.1) | (intro _ h; exact h.2.2) | (intro _ h; exact h.2.2.1) | (intro _ h; exact h.2.2.2)); eq_refl; (first | assumption | exact trivial))
      | (apply O_loadC; eq_refl; (first | (intro _ h; exact h) | (intro _ h; exact h.1) | (intro _ h; exact h.2) | (intro _ h; exact h.2.1) | (intro _ h; exact h.2.2) | (intro _ h; exact h.2.2.1) | (intro _ h; exact h.2.2.2)); (first | assumption | exact trivial))
      | (apply O_cmpT; eq_refl; eq_refl; omega; (first | assumption | exact trivial))
      | (apply O_cmpF; eq_refl; eq_refl; omega; (first | assumption | exact trivial))
      | (apply O_cmp; eq_refl; eq_refl; (first | assumption | exact trivial); all_goals intro _)
      | (apply O_len; eq_refl; (first | assumption | exact trivial))
      | (apply O_lenS; eq_refl; (first | assumption | exact trivial))
      | (apply O_index; eq_refl; eq_refl; omega; omega; (first | assumption | exact trivial))
      | (apply O_eqB; eq_refl; eq_refl; (first | assumption | exact trivial))
      | (apply O_neqB; eq_refl; eq_refl; (first | assumption | exact trivial))
      | (apply O_pvL; eq_refl; (first | exact trivial | omega); (first | (intro _; assumption) | exact lo (by kernel_rfl)))
      | (apply O_pure; apply build145_0_1 <;> eq_refl; (first | assumption | exact trivial))
      | (apply O_pure; apply build145_; (first | assumption | exact trivial))
      | (apply O_pure; apply build57_0_1_2 <;> eq_refl; (first | assumption | exact trivial))
      | (apply WL_on0; eq_refl)
      | (apply WL_onG; eq_refl; eq_refl; eq_refl; eq_refl)
      | (apply WL_noG; eq_refl; eq_refl; eq_refl; eq_refl)
      | (apply X_pv; eq_refl; first | exact trivial | omega)
      | (apply X_field; eq_refl)
      | (apply X_loadR; eq_refl; (first | assumption | (apply Blk.alloc; assumption) | apply Blk.new | apply Blk.newA | (apply Blk.alloc; first | apply Blk.newA | (apply Blk.alloc; first | assumption | apply Blk.newA))); eq_refl)
      | (apply X_loadW; eq_refl; (first | assumption | (apply Blk.alloc; assumption) | apply Blk.new | apply Blk.newA | (apply Blk.alloc; first | apply Blk.newA | (apply Blk.alloc; first | assumption | apply Blk.newA))); eq_refl)
      | (apply X_loadC; eq_refl; (first | assumption | (apply cel; first | assumption | (apply cel; assumption))))
      | (apply X_cmpT; eq_refl; eq_refl; omega)
      | (apply X_cmpF; eq_refl; eq_refl; omega)
      | (apply X_cmp; eq_refl; eq_refl; all_goals intro _)
      | (apply X_len; eq_refl)
      | (apply X_lenS; eq_refl)
      | (apply X_index; eq_refl; eq_refl; omega; omega)
      | (apply X_eqB; eq_refl; eq_refl)
      | (apply X_neqB; eq_refl; eq_refl)
      | (apply X_eqP; eq_refl; eq_refl)
      | (apply X_eqL; eq_refl; eq_refl)
      | (apply X_max; eq_refl; eq_refl)
      | (apply X_min; eq_refl; eq_refl)
      | (apply X_cap; eq_refl)
      | (apply X_alloc)
      | (apply X_box; eq_refl)
      | (apply X_makeMap)
      | (apply X_pure; apply build145_0_1 <;> eq_refl)
      | (apply X_pure; apply build145_)
      | (apply X_pure; apply build57_0_1_2 <;> eq_refl)
      | (apply X_does; apply buildS25_1 <;> eq_refl))
  refine O_doesU (does_store1 (b := g) (o := 2) (v := .slice A' (gs.length + 1) c') (by eq_refl) (by eq_refl) hH4 (by simp) rfl rfl) (lo (by kernel_rfl)) ?_
  have hob : ∀ k, (Value.slice A' (gs.length + 1) c').ownBlock = some k → S k ∨ k = w3.heap.size := fun k hk => by
    rcases hown with h | h
    · exact .inl (hB.hv k (h ▸ hk))
    · exact .inr (Option.some.inj (hk.symm.trans h))
  have hrg : (Value.slice A' (gs.length + 1) c').ownBlock ≠ some g := row_apart hrow hH4 (by decide)
  refine WS_turn (fun w5 => Blk w5 g 101 [num i, num l, .slice A' (gs.length + 1) c', .map (some m)] ∧ w5.ownsRow 0 57 3 (.slice A' (gs.length + 1) c') (gs.length + 1) (flat gs ++ [num (2 * (i + l + gs.length + 1)), num p, num q]) ∧ MapHas w5 m gs.length (outOf gs) ∧ Blk w5 w.heap.size 145 [num p, num q] ∧ Chg w w5 S ∧ w.heap.size + 2 ≤ w5.heap.size)
    ⟨hH4.set _, row_chg hrow (Chg.setRow w4 g _ (S := fun k => k = g) rfl) (fun k hk h => hrg (h ▸ hk)), hM4.chg (Chg.setRow w4 g _ (S := fun k => k = g) rfl) (map_apart hM4 hH4), hP4.chg (Chg.setRow w4 g _ (S := fun k => k = g) rfl) (fun h => absurd (hlt g hB.hg) (by omega)), ?_, ?_⟩ ?_
  · exact (hC3.any.trans hC4 fun k _ hk => hB.hv k hk).trans (Chg.setRow w4 g _ hB.hg) fun _ _ h => h
  · have := hC4.size; simp [World.setRow]; omega
  rintro w5 ⟨hH5, hR5, hM5, hP5, hC5, hz5⟩
  clear hP2 hP3 hP4 hM4 hH4 hB3 hN3 hH3 hB2 hC2 hC3 hH2
  repeat' (first
      | (apply WS_nil)
      | (apply WC_seqK; intro K hK)
      | (apply hK; clear hK)
      | (clear hK; apply hK; clear hK)
      | (clear hK; clear hK; apply hK; clear hK)
      | (clear hK; clear hK; clear hK; apply hK; clear hK)
      | (apply WC_block)
      | (apply WC_region)
      | (apply WL_nil)
      | (apply thenQ_normal)
      | (apply thenQ_ret)
      | (apply thenQ_exit)
      | (apply blockQ_hit)
      | (apply blockQ_miss; eq_refl)
      | (apply blockQ_ret)
      | (apply blockQ_normal)
      | (apply WC_ret)
      | (apply WC_exit)
      | (apply WC_skip)
      | (apply WC_label)
      | (apply WC_if_true; eq_refl)
      | (apply WC_if_false; eq_refl)
      | (apply ret1; eq_refl)
      | (apply ret2; eq_refl; eq_refl)
      | (apply ret3; eq_refl; eq_refl; eq_refl)
      | (apply ret0)
      | (apply ret0n)
      | (apply WL_on0; eq_refl)
      | (apply WL_onG; eq_refl; eq_refl; eq_refl; eq_refl)
      | (apply WL_noG; eq_refl; eq_refl; eq_refl; eq_refl)
      | (apply X_pv; eq_refl; first | exact trivial | omega)
      | (apply X_field; eq_refl)
      | (apply X_loadR; eq_refl; (first | assumption | (apply Blk.alloc; assumption) | apply Blk.new | apply Blk.newA | (apply Blk.alloc; first | apply Blk.newA | (apply Blk.alloc; first | assumption | apply Blk.newA))); eq_refl)
      | (apply X_loadW; eq_refl; (first | assumption | (apply Blk.alloc; assumption) | apply Blk.new | apply Blk.newA | (apply Blk.alloc; first | apply Blk.newA | (apply Blk.alloc; first | assumption | apply Blk.newA))); eq_refl)
      | (apply X_loadC; eq_refl; (first | assumption | (apply cel; first | assumption | (apply cel; assumption))))
      | (apply X_cmpT; eq_refl; eq_refl; omega)
      | (apply X_cmpF; eq_refl; eq_refl; omega)
      | (apply X_cmp; eq_refl; eq_refl; all_goals intro _)
      | (apply X_len; eq_refl)
      | (apply X_lenS; eq_refl)
      | (apply X_index; eq_refl; eq_refl; omega; omega)
      | (apply X_eqB; eq_refl; eq_refl)
      | (apply X_neqB; eq_refl; eq_refl)
      | (apply X_eqP; eq_refl; eq_refl)
      | (apply X_eqL; eq_refl; eq_refl)
      | (apply X_max; eq_refl; eq_refl)
      | (apply X_min; eq_refl; eq_refl)
      | (apply X_cap; eq_refl)
      | (apply X_alloc)
      | (apply X_box; eq_refl)
      | (apply X_makeMap)
      | (apply X_pure; apply build145_0_1 <;> eq_refl)
      | (apply X_pure; apply build145_)
      | (apply X_pure; apply build57_0_1_2 <;> eq_refl)
      | (apply X_does; apply buildS25_1 <;> eq_refl))
  refine WC_draws [(0, true), (1, true), (2, true), (3, true), (4, true), (5, true), (6, false)] (fun w1 => Blk w1 g 101 [num i, num l, .slice A' (gs.length + 1) c', .map (some m)] ∧ Blk w1 w.heap.size 145 [num p, num q]) mixedB (by kernel_rfl) (by kernel_rfl) ?_
  replace hS : Blk w5.drew g 101 [num i, num l, .slice A' (gs.length + 1) c', .map (some m)] ∧ Blk w5.drew w.heap.size 145 [num p, num q] := ⟨hH5, hP5⟩
  repeat' (first
      | (apply WC_seqK; intro K hK)
      | (apply hK; clear hK)
      | (clear hK; apply hK; clear hK)
      | (clear hK; clear hK; apply hK; clear hK)
      | (clear hK; clear hK; clear hK; apply hK; clear hK)
      | (apply WC_block)
      | (apply WC_region)
      | (apply WL_nil)
      | (apply thenQ_normal)
      | (apply thenQ_ret)
      | (apply thenQ_exit)
      | (apply blockQ_hit)
      | (apply blockQ_miss; eq_refl)
      | (apply blockQ_ret)
      | (apply blockQ_normal)
      | (apply WC_ret)
      | (apply WC_exit)
      | (apply WC_skip)
      | (apply WC_label)
      | (apply WC_if_true; eq_refl)
      | (apply WC_if_false; eq_refl)
      | (apply ret1; eq_refl)
      | (apply ret2; eq_refl; eq_refl)
      | (apply ret3; eq_refl; eq_refl; eq_refl)
      | (apply ret0)
      | (apply ret0n)
      | (apply WS_nil)
      | (apply WS_next; eq_refl)
      | (apply WO_on0; eq_refl)
      | (apply WO_onG; eq_refl; eq_refl; eq_refl; eq_refl)
      | (apply WO_noG; eq_refl; eq_refl; eq_refl; eq_refl; (first | assumption | exact trivial))
      | (apply O_pv; eq_refl; (first | exact trivial | omega); (first | assumption | exact trivial))
      | (apply O_field; eq_refl; (first | assumption | exact trivial))
      | (apply O_loadR; eq_refl; (first | (intro _ h; exact h) | (intro _ h; exact h.1) | (intro _ h; exact h.2) | (intro _ h; exact h.2.1) | (intro _ h; exact h.2.2) | (intro _ h; exact h.2.2.1) | (intro _ h; exact h.2.2.2)); eq_refl; (first | assumption | exact trivial))
      | (apply O_loadW; eq_refl; (first | (intro _ h; exact h) | (intro _ h; exact h.1) | (intro _ h; exact h.2) | (intro _ h; exact h.2.1) | (intro _ h; exact h.2.2) | (intro _ h; exact h.2.2.1) | (intro _ h; exact h.2.2.2)); eq_refl; (first | assumption | exact trivial))
      | (apply O_loadC; eq_refl; (first | (intro _ h; exact h) | (intro _ h; exact h.1) | (intro _ h; exact h.2) | (intro _ h; exact h.2.1) | (intro _ h; exact h.2.2) | (intro _ h; exact h.2.2.1) | (intro _ h; exact h.2.2.2)); (first | assumption | exact trivial))
      | (apply O_cmpT; eq_refl; eq_refl; omega; (first | assumption | exact trivial))
      | (apply O_cmpF; eq_refl; eq_refl; omega; (first | assumption | exact trivial))
      | (apply O_cmp; eq_refl; eq_refl; (first | assumption | exact trivial); all_goals intro _)
      | (apply O_len; eq_refl; (first | assumption | exact trivial))
      | (apply O_lenS; eq_refl; (first | assumption | exact trivial))
      | (apply O_index; eq_refl; eq_refl; omega; omega; (first | assumption | exact trivial))
      | (apply O_eqB; eq_refl; eq_refl; (first | assumption | exact trivial))
      | (apply O_neqB; eq_refl; eq_refl; (first | assumption | exact trivial))
      | (apply O_pvL; eq_refl; (first | exact trivial | omega); (first | (intro _; assumption) | exact lo (by kernel_rfl)))
      | (apply O_pure; apply build145_0_1 <;> eq_refl; (first | assumption | exact trivial))
      | (apply O_pure; apply build145_; (first | assumption | exact trivial))
      | (apply O_pure; apply build57_0_1_2 <;> eq_refl; (first | assumption | exact trivial))
      | (apply WL_on0; eq_refl)
      | (apply WL_onG; eq_refl; eq_refl; eq_refl; eq_refl)
      | (apply WL_noG; eq_refl; eq_refl; eq_refl; eq_refl)
      | (apply X_pv; eq_refl; first | exact trivial | omega)
      | (apply X_field; eq_refl)
      | (apply X_loadR; eq_refl; (first | assumption | (apply Blk.alloc; assumption) | apply Blk.new | apply Blk.newA | (apply Blk.alloc; first | apply Blk.newA | (apply Blk.alloc; first | assumption | apply Blk.newA))); eq_refl)
      | (apply X_loadW; eq_refl; (first | assumption | (apply Blk.alloc; assumption) | apply Blk.new | apply Blk.newA | (apply Blk.alloc; first | apply Blk.newA | (apply Blk.alloc; first | assumption | apply Blk.newA))); eq_refl)
      | (apply X_loadC; eq_refl; (first | assumption | (apply cel; first | assumption | (apply cel; assumption))))
      | (apply X_cmpT; eq_refl; eq_refl; omega)
      | (apply X_cmpF; eq_refl; eq_refl; omega)
      | (apply X_cmp; eq_refl; eq_refl; all_goals intro _)
      | (apply X_len; eq_refl)
      | (apply X_lenS; eq_refl)
      | (apply X_index; eq_refl; eq_refl; omega; omega)
      | (apply X_eqB; eq_refl; eq_refl)
      | (apply X_neqB; eq_refl; eq_refl)
      | (apply X_eqP; eq_refl; eq_refl)
      | (apply X_eqL; eq_refl; eq_refl)
      | (apply X_max; eq_refl; eq_refl)
      | (apply X_min; eq_refl; eq_refl)
      | (apply X_cap; eq_refl)
      | (apply X_alloc)
      | (apply X_box; eq_refl)
      | (apply X_makeMap)
      | (apply X_pure; apply build145_0_1 <;> eq_refl)
      | (apply X_pure; apply build145_)
      | (apply X_pure; apply build57_0_1_2 <;> eq_refl)
      | (apply X_does; apply buildS25_1 <;> eq_refl))
  refine O_updateG (by eq_refl) (by eq_refl) (by eq_refl) (w := w5.drew) hM5 hp hq (by unfold fits; omega) (by simp only [maxLen]; omega) ?_
  intro w6 hM6 hC6
  refine ⟨lo (by kernel_rfl), ?_⟩
  have hgm : g ≠ m := fun h => map_apart hM5 hH5 h.symm
  repeat' (first
      | (apply WC_seqK; intro K hK)
      | (apply hK; clear hK)
      | (clear hK; apply hK; clear hK)
      | (clear hK; clear hK; apply hK; clear hK)
      | (clear hK; clear hK; clear hK; apply hK; clear hK)
      | (apply WC_block)
      | (apply WC_region)
      | (apply WL_nil)
      | (apply thenQ_normal)
      | (apply thenQ_ret)
      | (apply thenQ_exit)
      | (apply blockQ_hit)
      | (apply blockQ_miss; eq_refl)
      | (apply blockQ_ret)
      | (apply blockQ_normal)
      | (apply WC_ret)
      | (apply WC_exit)
      | (apply WC_skip)
      | (apply WC_label)
      | (apply WC_if_true; eq_refl)
      | (apply WC_if_false; eq_refl)
      | (apply ret1; eq_refl)
      | (apply ret2; eq_refl; eq_refl)
      | (apply ret3; eq_refl; eq_refl; eq_refl)
      | (apply ret0)
      | (apply ret0n)
      | (apply WS_nil)
      | (apply WS_next; eq_refl)
      | (apply WO_on0; eq_refl)
      | (apply WO_onG; eq_refl; eq_refl; eq_refl; eq_refl)
      | (apply WO_noG; eq_refl; eq_refl; eq_refl; eq_refl; (first | assumption | exact trivial))
      | (apply O_pv; eq_refl; (first | exact trivial | omega); (first | assumption | exact trivial))
      | (apply O_field; eq_refl; (first | assumption | exact trivial))
      | (apply O_loadR; eq_refl; (first | (intro _ h; exact h) | (intro _ h; exact h.1) | (intro _ h; exact h.2) | (intro _ h; exact h.2.1) | (intro _ h; exact h.2.2) | (intro _ h; exact h.2.2.1) | (intro _ h; exact h.2.2.2)); eq_refl; (first | assumption | exact trivial))
      | (apply O_loadW; eq_refl; (first | (intro _ h; exact h) | (intro _ h; exact h.1) | (intro _ h; exact h.2) | (intro _ h; exact h.2.1) | (intro _ h; exact h.2.2) | (intro _ h; exact h.2.2.1) | (intro _ h; exact h.2.2.2)); eq_refl; (first | assumption | exact trivial))
      | (apply O_loadC; eq_refl; (first | (intro _ h; exact h) | (intro _ h; exact h.1) | (intro _ h; exact h.2) | (intro _ h; exact h.2.1) | (intro _ h; exact h.2.2) | (intro _ h; exact h.2.2.1) | (intro _ h; exact h.2.2.2)); (first | assumption | exact trivial))
      | (apply O_cmpT; eq_refl; eq_refl; omega; (first | assumption | exact trivial))
      | (apply O_cmpF; eq_refl; eq_refl; omega; (first | assumption | exact trivial))
      | (apply O_cmp; eq_refl; eq_refl; (first | assumption | exact trivial); all_goals intro _)
      | (apply O_len; eq_refl; (first | assumption | exact trivial))
      | (apply O_lenS; eq_refl; (first | assumption | exact trivial))
      | (apply O_index; eq_refl; eq_refl; omega; omega; (first | assumption | exact trivial))
      | (apply O_eqB; eq_refl; eq_refl; (first | assumption | exact trivial))
      | (apply O_neqB; eq_refl; eq_refl; (first | assumption | exact trivial))
      | (apply O_pvL; eq_refl; (first | exact trivial | omega); (first | (intro _; assumption) | exact lo (by kernel_rfl)))
      | (apply O_pure; apply build145_0_1 <;> eq_refl; (first | assumption | exact trivial))
      | (apply O_pure; apply build145_; (first | assumption | exact trivial))
      | (apply O_pure; apply build57_0_1_2 <;> eq_refl; (first | assumption | exact trivial))
      | (apply WL_on0; eq_refl)
      | (apply WL_onG; eq_refl; eq_refl; eq_refl; eq_refl)
      | (apply WL_noG; eq_refl; eq_refl; eq_refl; eq_refl)
      | (apply X_pv; eq_refl; first | exact trivial | omega)
      | (apply X_field; eq_refl)
      | (apply X_loadR; eq_refl; (first | assumption | (apply Blk.alloc; assumption) | apply Blk.new | apply Blk.newA | (apply Blk.alloc; first | apply Blk.newA | (apply Blk.alloc; first | assumption | apply Blk.newA))); eq_refl)
      | (apply X_loadW; eq_refl; (first | assumption | (apply Blk.alloc; assumption) | apply Blk.new | apply Blk.newA | (apply Blk.alloc; first | apply Blk.newA | (apply Blk.alloc; first | assumption | apply Blk.newA))); eq_refl)
      | (apply X_loadC; eq_refl; (first | assumption | (apply cel; first | assumption | (apply cel; assumption))))
      | (apply X_cmpT; eq_refl; eq_refl; omega)
      | (apply X_cmpF; eq_refl; eq_refl; omega)
      | (apply X_cmp; eq_refl; eq_refl; all_goals intro _)
      | (apply X_len; eq_refl)
      | (apply X_lenS; eq_refl)
      | (apply X_index; eq_refl; eq_refl; omega; omega)
      | (apply X_eqB; eq_refl; eq_refl)
      | (apply X_neqB; eq_refl; eq_refl)
      | (apply X_eqP; eq_refl; eq_refl)
      | (apply X_eqL; eq_refl; eq_refl)
      | (apply X_max; eq_refl; eq_refl)
      | (apply X_min; eq_refl; eq_refl)
      | (apply X_cap; eq_refl)
      | (apply X_alloc)
      | (apply X_box; eq_refl)
      | (apply X_makeMap)
      | (apply X_pure; apply build145_0_1 <;> eq_refl)
      | (apply X_pure; apply build145_)
      | (apply X_pure; apply build57_0_1_2 <;> eq_refl)
      | (apply X_does; apply buildS25_1 <;> eq_refl))
  rw [andP_new (by omega) (by omega) (by assumption) (by assumption)]
  have hchg : Chg w w6 S := hC5.dr.trans hC6 fun k _ hk => by subst hk; exact hB.hm
  refine ⟨rfl, fun k => S k ∨ k = w3.heap.size ∧ (Value.slice A' (gs.length + 1) c').ownBlock = some k, ⟨.slice A' (gs.length + 1) c', m, ?_⟩, hchg, ?_⟩
  · refine ⟨hH5.drew.chg hC6 hgm, ?_, ?_, .inl hB.hg, .inl hB.hm, ?_, ?_⟩
    · have := row_chg (w' := w6) hR5 (hC5.dr.trans hC6 (S := S) (fun k _ hk => by subst hk; exact hB.hm) |> fun _ => (Chg.drew w5 none_).any.trans hC6 (S := fun k => k = m) (fun _ _ h => h)) (fun k hk h => map_row hM5 hR5 (h ▸ hk))
      simpa [flat_append, gcells] using this
    · have e : outOf (gs ++ [(2 * (i + l + ↑gs.length + 1), p, q)]) = fun p' q' => if p' = p ∧ q' = q then 2 * (i + l + ↑gs.length + 1) else outOf gs p' q' := by
        funext p' q'
        exact outOf_append gs _ _ _ _ _ (fun x hx => (hI.outs x hx).1) (by omega)
      simp only [List.length_append, List.length_singleton]
      rw [e]
      exact hM6
    · intro k hk
      rcases hob k hk with h | h
      · exact .inl h
      · exact .inr ⟨h, hk⟩
    · intro k hk
      rcases hk with h | ⟨_, h⟩
      · exact Nat.lt_of_lt_of_le (hlt k h) hchg.size
      · exact Nat.lt_of_lt_of_le (hR5.lt k h).2 hC6.size
  · intro k hk
    rcases hk with h | ⟨h, h'⟩
    · exact .inl h
    · exact .inr ⟨by omega, Nat.lt_of_lt_of_le (hR5.lt k h').2 hC6.size⟩
end SC
end Go.Proofs.Yticndofcfacopaa
end
section
/- The builder of hash: the functions around 'and'. -/
set_option linter.unusedVariables false
set_option linter.unusedSimpArgs false
namespace Go.Proofs.Yticndofcfacopaa
namespace SC
open Go.Proofs Go.Maps
attribute [local irreducible] WC WL WX WS WO OX Does DoesU Enters CV Pure thenQ blockQ retQ Wants
set_option maxRecDepth 100000
theorem lookedB_cv {w : World} {g b c' : Nat} {i l : Int} {A : Option Addr} {n c : Nat} {m : Value} {xs : List Int}
   (hb : Blk w g 101 [num i, num l, .slice A n c, m]) (hr : Blk w b 3 (xs.map num)) (hi : 0 ≤ i) (hl : 0 ≤ l) (hn : i + l + n ≤ 16384) (hlen : xs.length ≤ 1000) :
    CV Try.prog 80 [ptr g, .slice (some ⟨b, 0, none⟩) xs.length c'] w fun v w' => v = num (if ∀ x ∈ xs, 0 ≤ x ∧ x ≤ 2 * (i + l + n) + 1 then 0 else 5) ∧ Chg w w' none_ := by
  refine enter 24 [4] Try.func80 rfl rfl rfl (by decide) rfl ?_
  repeat' (first
      | (apply WC_seqK; intro K hK)
      | (apply hK; clear hK)
      | (clear hK; apply hK; clear hK)
      | (clear hK; clear hK; apply hK; clear hK)
      | (clear hK; clear hK; clear hK; apply hK; clear hK)
      | (apply WC_block)
      | (apply WC_region)
      | (apply WL_nil)
      | (apply thenQ_normal)
      | (apply thenQ_ret)
      | (apply thenQ_exit)
      | (apply blockQ_hit)
      | (apply blockQ_miss; eq_refl)
      | (apply blockQ_ret)
      | (apply blockQ_normal)
      | (apply WC_ret)
      | (apply WC_exit)
      | (apply WC_skip)
      | (apply WC_label)
      | (apply WC_if_true; eq_refl)
      | (apply WC_if_false; eq_refl)
      | (apply ret1; eq_refl)
      | (apply ret2; eq_refl; eq_refl)
      | (apply ret3; eq_refl; eq_refl; eq_refl)
      | (apply ret0)
      | (apply ret0n)
      | (apply WL_on0; eq_refl)
      | (apply WL_onG; eq_refl; eq_refl; eq_refl; eq_refl)
      | (apply WL_noG; eq_refl; eq_refl; eq_refl; eq_refl)
      | (apply X_pv; eq_refl; first | exact trivial | omega)
      | (apply X_field; eq_refl)
      | (apply X_loadR; eq_refl; (first | assumption | (apply Blk.alloc; assumption) | apply Blk.new | apply Blk.newA | (apply Blk.alloc; first | apply Blk.newA | (apply Blk.alloc; first | assumption | apply Blk.newA))); eq_refl)
      | (apply X_loadW; eq_refl; (first | assumption | (apply Blk.alloc; assumption) | apply Blk.new | apply Blk.newA | (apply Blk.alloc; first | apply Blk.newA | (apply Blk.alloc; first | assumption | apply Blk.newA))); eq_refl)
      | (apply X_loadC; eq_refl; (first | assumption | (apply cel; first | assumption | (apply cel; assumption))))
      | (apply X_cmpT; eq_refl; eq_refl; omega)
      | (apply X_cmpF; eq_refl; eq_refl; omega)
      | (apply X_cmp; eq_refl; eq_refl; all_goals intro _)
      | (apply X_len; eq_refl)
      | (apply X_lenS; eq_refl)
      | (apply X_index; eq_refl; eq_refl; omega; omega)
      | (apply X_eqB; eq_refl; eq_refl)
      | (apply X_neqB; eq_refl; eq_refl)
      | (apply X_eqP; eq_refl; eq_refl)
      | (apply X_eqL; eq_refl; eq_refl)
      | (apply X_max; eq_refl; eq_refl)
      | (apply X_min; eq_refl; eq_refl)
      | (apply X_cap; eq_refl)
      | (apply X_alloc)
      | (apply X_box; eq_refl)
      | (apply X_makeMap))
  refine WC_loop (fun k : Nat => [(0, ptr g), (7, .slice (some ⟨b, 0, none⟩) xs.length c'), (8, num xs.length), (9, num k)])
    (fun k w1 => Blk w1 g 101 [num i, num l, .slice A n c, m] ∧ Blk w1 b 3 (xs.map num) ∧ Chg w w1 none_ ∧ k ≤ xs.length ∧ ∀ x ∈ xs.take k, 0 ≤ x ∧ x ≤ 2 * (i + l + n) + 1) (fun k => xs.length - k) 0 ⟨rfl, rfl, rfl, rfl, trivial⟩ ⟨hb, hr, Chg.refl _ _, Nat.zero_le _, by simp⟩ ?_
  rintro k w1 ⟨hb1, hr1, hC1, hk, hall⟩
  rcases Nat.lt_or_ge k xs.length with hlt | hge
  · have hx : (xs.map num)[0 + (k : Int).toNat * 1]? = some (num xs[k]) := by simp [hlt]
    repeat' (first
      | (apply X_loadR; eq_refl; assumption; exact hx)
      | (apply X_fn; eq_refl; (apply greatest_cv; assumption; assumption; assumption; assumption); rintro _ _ ⟨rfl, rfl⟩)
      | (apply WC_seqK; intro K hK)
      | (apply hK; clear hK)
      | (clear hK; apply hK; clear hK)
      | (clear hK; clear hK; apply hK; clear hK)
      | (clear hK; clear hK; clear hK; apply hK; clear hK)
      | (apply WC_block)
      | (apply WC_region)
      | (apply WL_nil)
      | (apply thenQ_normal)
      | (apply thenQ_ret)
      | (apply thenQ_exit)
      | (apply blockQ_hit)
      | (apply blockQ_miss; eq_refl)
      | (apply blockQ_ret)
      | (apply blockQ_normal)
      | (apply WC_ret)
      | (apply WC_exit)
      | (apply WC_skip)
      | (apply WC_label)
      | (apply WC_if_true; eq_refl)
      | (apply WC_if_false; eq_refl)
      | (apply ret1; eq_refl)
      | (apply ret2; eq_refl; eq_refl)
      | (apply ret3; eq_refl; eq_refl; eq_refl)
      | (apply ret0)
      | (apply ret0n)
      | (apply WL_on0; eq_refl)
      | (apply WL_onG; eq_refl; eq_refl; eq_refl; eq_refl)
      | (apply WL_noG; eq_refl; eq_refl; eq_refl; eq_refl)
      | (apply X_pv; eq_refl; first | exact trivial | omega)
      | (apply X_field; eq_refl)
      | (apply X_loadR; eq_refl; (first | assumption | (apply Blk.alloc; assumption) | apply Blk.new | apply Blk.newA | (apply Blk.alloc; first | apply Blk.newA | (apply Blk.alloc; first | assumption | apply Blk.newA))); eq_refl)
      | (apply X_loadW; eq_refl; (first | assumption | (apply Blk.alloc; assumption) | apply Blk.new | apply Blk.newA | (apply Blk.alloc; first | apply Blk.newA | (apply Blk.alloc; first | assumption | apply Blk.newA))); eq_refl)
      | (apply X_loadC; eq_refl; (first | assumption | (apply cel; first | assumption | (apply cel; assumption))))
      | (apply X_cmpT; eq_refl; eq_refl; omega)
      | (apply X_cmpF; eq_refl; eq_refl; omega)
      | (apply X_cmp; eq_refl; eq_refl; all_goals intro _)
      | (apply X_len; eq_refl)
      | (apply X_lenS; eq_refl)
      | (apply X_index; eq_refl; eq_refl; omega; omega)
      | (apply X_eqB; eq_refl; eq_refl)
      | (apply X_neqB; eq_refl; eq_refl)
      | (apply X_eqP; eq_refl; eq_refl)
      | (apply X_eqL; eq_refl; eq_refl)
      | (apply X_max; eq_refl; eq_refl)
      | (apply X_min; eq_refl; eq_refl)
      | (apply X_cap; eq_refl)
      | (apply X_alloc)
      | (apply X_box; eq_refl)
      | (apply X_makeMap))
    · exact ⟨by rw [if_neg (fun h => by have := h xs[k] (List.getElem_mem hlt); omega)], hC1⟩
    · exact ⟨by rw [if_neg (fun h => by have := h xs[k] (List.getElem_mem hlt); omega)], hC1.dr⟩
    · refine ⟨k + 1, ⟨rfl, rfl, rfl, rfl, trivial⟩, ⟨hb1, hr1, hC1.dr, hlt, ?_⟩, by omega⟩
      intro x hx'
      rw [List.take_succ_eq_append_getElem hlt] at hx'
      simp only [List.mem_append, List.mem_singleton] at hx'
      rcases hx' with h | rfl
      · exact hall x h
      · omega
  · repeat' (first
      | (apply WC_seqK; intro K hK)
      | (apply hK; clear hK)
      | (clear hK; apply hK; clear hK)
      | (clear hK; clear hK; apply hK; clear hK)
      | (clear hK; clear hK; clear hK; apply hK; clear hK)
      | (apply WC_block)
      | (apply WC_region)
      | (apply WL_nil)
      | (apply thenQ_normal)
      | (apply thenQ_ret)
      | (apply thenQ_exit)
      | (apply blockQ_hit)
      | (apply blockQ_miss; eq_refl)
      | (apply blockQ_ret)
      | (apply blockQ_normal)
      | (apply WC_ret)
      | (apply WC_exit)
      | (apply WC_skip)
      | (apply WC_label)
      | (apply WC_if_true; eq_refl)
      | (apply WC_if_false; eq_refl)
      | (apply ret1; eq_refl)
      | (apply ret2; eq_refl; eq_refl)
      | (apply ret3; eq_refl; eq_refl; eq_refl)
      | (apply ret0)
      | (apply ret0n)
      | (apply WL_on0; eq_refl)
      | (apply WL_onG; eq_refl; eq_refl; eq_refl; eq_refl)
      | (apply WL_noG; eq_refl; eq_refl; eq_refl; eq_refl)
      | (apply X_pv; eq_refl; first | exact trivial | omega)
      | (apply X_field; eq_refl)
      | (apply X_loadR; eq_refl; (first | assumption | (apply Blk.alloc; assumption) | apply Blk.new | apply Blk.newA | (apply Blk.alloc; first | apply Blk.newA | (apply Blk.alloc; first | assumption | apply Blk.newA))); eq_refl)
      | (apply X_loadW; eq_refl; (first | assumption | (apply Blk.alloc; assumption) | apply Blk.new | apply Blk.newA | (apply Blk.alloc; first | apply Blk.newA | (apply Blk.alloc; first | assumption | apply Blk.newA))); eq_refl)
      | (apply X_loadC; eq_refl; (first | assumption | (apply cel; first | assumption | (apply cel; assumption))))
      | (apply X_cmpT; eq_refl; eq_refl; omega)
      | (apply X_cmpF; eq_refl; eq_refl; omega)
      | (apply X_cmp; eq_refl; eq_refl; all_goals intro _)
      | (apply X_len; eq_refl)
      | (apply X_lenS; eq_refl)
      | (apply X_index; eq_refl; eq_refl; omega; omega)
      | (apply X_eqB; eq_refl; eq_refl)
      | (apply X_neqB; eq_refl; eq_refl)
      | (apply X_eqP; eq_refl; eq_refl)
      | (apply X_eqL; eq_refl; eq_refl)
      | (apply X_max; eq_refl; eq_refl)
      | (apply X_min; eq_refl; eq_refl)
      | (apply X_cap; eq_refl)
      | (apply X_alloc)
      | (apply X_box; eq_refl)
      | (apply X_makeMap))
    rw [List.take_of_length_le hge] at hall
    exact ⟨by rw [if_pos hall], hC1⟩
theorem After.from {w w1 w' : World} {g : Nat} {S : Nat → Prop} {i l : Int} {r : Int × Int × List Gate} {v : Value} (hC : Chg w w1 none_) (h : After w1 g S i l r v w') : After w g S i l r v w' := by
  obtain ⟨h1, S', h2, h3⟩ := h
  exact ⟨h1, S', h2, (Step.of_chg hC.any).trans h3⟩
section
variable {w : World} {g : Nat} {S : Nat → Prop} {i l : Int} {gs : List Gate} {x y s : Int}
theorem looked_ok {b c' : Nat} {xs : List Int} (hB : Bld w g S i l gs) (hr : Blk w b 3 (xs.map num)) (hi : 0 ≤ i) (hl : 0 ≤ l) (hI : Inv (i + l) gs) (hlen : xs.length ≤ 1000) (h : ∀ x ∈ xs, okM (i + l) gs x) :
    CV Try.prog 80 [ptr g, .slice (some ⟨b, 0, none⟩) xs.length c'] w fun v w' => v = num 0 ∧ Chg w w' none_ ∧ Bld w' g S i l gs := by
  obtain ⟨v, m, hP⟩ := hB
  obtain ⟨A, c, rfl⟩ := row_form hP.row
  unfold okM at h
  refine (lookedB_cv hP.head hr hi hl hI.top hlen).mono fun v w' hv => ⟨by rw [hv.1, if_pos h], hv.2, ⟨_, _, hP.chg hv.2 fun _ _ => id⟩⟩
theorem looked_no {b c' : Nat} {xs : List Int} (hB : Bld w g S i l gs) (hr : Blk w b 3 (xs.map num)) (hi : 0 ≤ i) (hl : 0 ≤ l) (hI : Inv (i + l) gs) (hlen : xs.length ≤ 1000) (h : ¬ ∀ x ∈ xs, okM (i + l) gs x) :
    CV Try.prog 80 [ptr g, .slice (some ⟨b, 0, none⟩) xs.length c'] w fun v w' => v = num 5 ∧ Chg w w' none_ ∧ Bld w' g S i l gs := by
  obtain ⟨v, m, hP⟩ := hB
  obtain ⟨A, c, rfl⟩ := row_form hP.row
  unfold okM at h
  refine (lookedB_cv hP.head hr hi hl hI.top hlen).mono fun v w' hv => ⟨by rw [hv.1, if_neg h], hv.2, ⟨_, _, hP.chg hv.2 fun _ _ => id⟩⟩
theorem Bld.alloc (o : Obj) (h : Bld w g S i l gs) : Bld (w.alloc o) g S i l gs := h.chg (Chg.alloc w o none_) fun _ _ => id
theorem And_cv (hB : Bld w g S i l gs) (hi : 0 ≤ i) (hl : 0 ≤ l) (hI : Inv (i + l) gs) : CV Try.prog 79 [ptr g, num x, num y] w (After w g S i l (AndM (i + l) gs x y)) := by
  have hB' := hB.alloc (.cells #[num x, num y] 3)
  have hN : Blk (w.alloc (.cells #[num x, num y] 3)) w.heap.size 3 ([x, y].map num) := Blk.newA w #[num x, num y] 3
  by_cases hok : okM (i + l) gs x ∧ okM (i + l) gs y
  · have hx := hok.1
    have hy := hok.2
    refine enter 23 [6, 7] Try.func79 rfl rfl rfl (by decide) rfl ?_
    repeat' (first
      | (apply X_fn; eq_refl; (refine looked_ok (xs := [x, y]) hB' hN hi hl hI (by simp) ?_; simp; exact hok); rintro _ w1 ⟨rfl, hC1, hB1⟩)
      | (apply X_fn; eq_refl; (apply and_cv; assumption; assumption; assumption; assumption; assumption; assumption); rintro _ w2 ⟨rfl, S2, hB2, hSt2⟩)
      | (apply WC_seqK; intro K hK)
      | (apply hK; clear hK)
      | (clear hK; apply hK; clear hK)
      | (clear hK; clear hK; apply hK; clear hK)
      | (clear hK; clear hK; clear hK; apply hK; clear hK)
      | (apply WC_block)
      | (apply WC_region)
      | (apply WL_nil)
      | (apply thenQ_normal)
      | (apply thenQ_ret)
      | (apply thenQ_exit)
      | (apply blockQ_hit)
      | (apply blockQ_miss; eq_refl)
      | (apply blockQ_ret)
      | (apply blockQ_normal)
      | (apply WC_ret)
      | (apply WC_exit)
      | (apply WC_skip)
      | (apply WC_label)
      | (apply WC_if_true; eq_refl)
      | (apply WC_if_false; eq_refl)
      | (apply ret1; eq_refl)
      | (apply ret2; eq_refl; eq_refl)
      | (apply ret3; eq_refl; eq_refl; eq_refl)
      | (apply ret0)
      | (apply ret0n)
      | (apply WL_on0; eq_refl)
      | (apply WL_onG; eq_refl; eq_refl; eq_refl; eq_refl)
      | (apply WL_noG; eq_refl; eq_refl; eq_refl; eq_refl)
      | (apply X_pv; eq_refl; first | exact trivial | omega)
      | (apply X_field; eq_refl)
      | (apply X_loadR; eq_refl; (first | assumption | (apply Blk.alloc; assumption) | apply Blk.new | apply Blk.newA | (apply Blk.alloc; first | apply Blk.newA | (apply Blk.alloc; first | assumption | apply Blk.newA))); eq_refl)
      | (apply X_loadW; eq_refl; (first | assumption | (apply Blk.alloc; assumption) | apply Blk.new | apply Blk.newA | (apply Blk.alloc; first | apply Blk.newA | (apply Blk.alloc; first | assumption | apply Blk.newA))); eq_refl)
      | (apply X_loadC; eq_refl; (first | assumption | (apply cel; first | assumption | (apply cel; assumption))))
      | (apply X_cmpT; eq_refl; eq_refl; omega)
      | (apply X_cmpF; eq_refl; eq_refl; omega)
      | (apply X_cmp; eq_refl; eq_refl; all_goals intro _)
      | (apply X_len; eq_refl)
      | (apply X_lenS; eq_refl)
      | (apply X_index; eq_refl; eq_refl; omega; omega)
      | (apply X_eqB; eq_refl; eq_refl)
      | (apply X_neqB; eq_refl; eq_refl)
      | (apply X_eqP; eq_refl; eq_refl)
      | (apply X_eqL; eq_refl; eq_refl)
      | (apply X_max; eq_refl; eq_refl)
      | (apply X_min; eq_refl; eq_refl)
      | (apply X_cap; eq_refl)
      | (apply X_alloc)
      | (apply X_box; eq_refl)
      | (apply X_makeMap)
      | (apply X_does; apply buildS22_2 <;> eq_refl))
    exact After.from ((Chg.alloc w _ none_).trans hC1 fun _ _ h => h) ⟨by unfold AndM; rw [if_pos hok], S2, by unfold AndM; rw [if_pos hok]; exact hB2, hSt2⟩
  · refine enter 23 [6, 7] Try.func79 rfl rfl rfl (by decide) rfl ?_
    repeat' (first
      | (apply X_fn; eq_refl; (refine looked_no (xs := [x, y]) hB' hN hi hl hI (by simp) ?_; simp only [List.mem_cons, List.not_mem_nil, or_false, forall_eq_or_imp, forall_eq]; exact hok); rintro _ w1 ⟨rfl, hC1, hB1⟩)
      | (apply WC_seqK; intro K hK)
      | (apply hK; clear hK)
      | (clear hK; apply hK; clear hK)
      | (clear hK; clear hK; apply hK; clear hK)
      | (clear hK; clear hK; clear hK; apply hK; clear hK)
      | (apply WC_block)
      | (apply WC_region)
      | (apply WL_nil)
      | (apply thenQ_normal)
      | (apply thenQ_ret)
      | (apply thenQ_exit)
      | (apply blockQ_hit)
      | (apply blockQ_miss; eq_refl)
      | (apply blockQ_ret)
      | (apply blockQ_normal)
      | (apply WC_ret)
      | (apply WC_exit)
      | (apply WC_skip)
      | (apply WC_label)
      | (apply WC_if_true; eq_refl)
      | (apply WC_if_false; eq_refl)
      | (apply ret1; eq_refl)
      | (apply ret2; eq_refl; eq_refl)
      | (apply ret3; eq_refl; eq_refl; eq_refl)
      | (apply ret0)
      | (apply ret0n)
      | (apply WL_on0; eq_refl)
      | (apply WL_onG; eq_refl; eq_refl; eq_refl; eq_refl)
      | (apply WL_noG; eq_refl; eq_refl; eq_refl; eq_refl)
      | (apply X_pv; eq_refl; first | exact trivial | omega)
      | (apply X_field; eq_refl)
      | (apply X_loadR; eq_refl; (first | assumption | (apply Blk.alloc; assumption) | apply Blk.new | apply Blk.newA | (apply Blk.alloc; first | apply Blk.newA | (apply Blk.alloc; first | assumption | apply Blk.newA))); eq_refl)
      | (apply X_loadW; eq_refl; (first | assumption | (apply Blk.alloc; assumption) | apply Blk.new | apply Blk.newA | (apply Blk.alloc; first | apply Blk.newA | (apply Blk.alloc; first | assumption | apply Blk.newA))); eq_refl)
      | (apply X_loadC; eq_refl; (first | assumption | (apply cel; first | assumption | (apply cel; assumption))))
      | (apply X_cmpT; eq_refl; eq_refl; omega)
      | (apply X_cmpF; eq_refl; eq_refl; omega)
      | (apply X_cmp; eq_refl; eq_refl; all_goals intro _)
      | (apply X_len; eq_refl)
      | (apply X_lenS; eq_refl)
      | (apply X_index; eq_refl; eq_refl; omega; omega)
      | (apply X_eqB; eq_refl; eq_refl)
      | (apply X_neqB; eq_refl; eq_refl)
      | (apply X_eqP; eq_refl; eq_refl)
      | (apply X_eqL; eq_refl; eq_refl)
      | (apply X_max; eq_refl; eq_refl)
      | (apply X_min; eq_refl; eq_refl)
      | (apply X_cap; eq_refl)
      | (apply X_alloc)
      | (apply X_box; eq_refl)
      | (apply X_makeMap)
      | (apply X_does; apply buildS22_2 <;> eq_refl))
    exact After.same hB1 (((Chg.alloc w _ none_).trans hC1 fun _ _ h => h).any) (by unfold AndM; rw [if_neg hok])
end
end SC
end Go.Proofs.Yticndofcfacopaa
end
section
/- The builder of hash: the remaining functions. -/
set_option linter.unusedVariables false
set_option linter.unusedSimpArgs false
namespace Go.Proofs.Yticndofcfacopaa
namespace SC
open Go.Proofs Go.Maps
attribute [local irreducible] WC WL WX WS WO OX Does DoesU Enters CV Pure thenQ blockQ retQ Wants
set_option maxRecDepth 100000
theorem After.step {w w1 w' : World} {g : Nat} {S S1 : Nat → Prop} {i l : Int} {r : Int × Int × List Gate} {v : Value} (hC : Step w S w1 S1) (h : After w1 g S1 i l r v w') : After w g S i l r v w' := by
  obtain ⟨h1, S', h2, h3⟩ := h
  exact ⟨h1, S', h2, hC.trans h3⟩
theorem After.eq {w w' : World} {g : Nat} {S : Nat → Prop} {i l : Int} {r r' : Int × Int × List Gate} {v : Value} (h : After w g S i l r v w') (e : r' = r) : After w g S i l r' v w' := e ▸ h
section
variable {n : Int} {gs : List Gate} {x y s : Int}
theorem orM_err (h : (andM n gs (notM x) (notM y)).2.1 ≠ 0) : orM n gs x y = (0, (andM n gs (notM x) (notM y)).2.1, (andM n gs (notM x) (notM y)).2.2) := by unfold orM; simp only; rw [if_pos h]
theorem orM_ok (h : ¬ (andM n gs (notM x) (notM y)).2.1 ≠ 0) : orM n gs x y = (notM (andM n gs (notM x) (notM y)).1, 0, (andM n gs (notM x) (notM y)).2.2) := by unfold orM; simp only; rw [if_neg h]
theorem xorM_err (h : (andM n gs x y).2.1 ≠ 0) : xorM n gs x y = (0, (andM n gs x y).2.1, (andM n gs x y).2.2) := by unfold xorM; simp only; rw [if_pos h]
theorem xorM_err2 (h : ¬ (andM n gs x y).2.1 ≠ 0) (h2 : (andM n (andM n gs x y).2.2 (notM x) (notM y)).2.1 ≠ 0) : xorM n gs x y = (0, (andM n (andM n gs x y).2.2 (notM x) (notM y)).2.1, (andM n (andM n gs x y).2.2 (notM x) (notM y)).2.2) := by unfold xorM; simp only; rw [if_neg h, if_pos h2]
theorem xorM_ok (h : ¬ (andM n gs x y).2.1 ≠ 0) (h2 : ¬ (andM n (andM n gs x y).2.2 (notM x) (notM y)).2.1 ≠ 0) : xorM n gs x y = andM n (andM n (andM n gs x y).2.2 (notM x) (notM y)).2.2 (notM (andM n gs x y).1) (notM (andM n (andM n gs x y).2.2 (notM x) (notM y)).1) := by unfold xorM; simp only; rw [if_neg h, if_neg h2]
end
section
variable {w : World} {g : Nat} {S : Nat → Prop} {i l : Int} {gs : List Gate} {x y s : Int}
theorem or_cv (hB : Bld w g S i l gs) (hi : 0 ≤ i) (hl : 0 ≤ l) (hI : Inv (i + l) gs) (hx : okM (i + l) gs x) (hy : okM (i + l) gs y) : CV Try.prog 81 [ptr g, num x, num y] w (After w g S i l (orM (i + l) gs x y)) := by
  have hx' := okM_not hx
  have hy' := okM_not hy
  have hr := (andM_good hI hx' hy').ok
  have ht := (andM_good hI hx' hy').inv.top
  unfold okM at hr hx hy
  unfold notM at hr hx' hy' ht
  have htop := hI.top
  refine enter 24 [6, 7] Try.func81 rfl rfl rfl (by decide) rfl ?_
  repeat' (first
      | (apply X_fn; eq_refl; (apply and_cv; assumption; assumption; assumption; assumption; assumption; assumption); rintro _ w2 ⟨rfl, S2, hB2, hSt2⟩)
      | (apply WC_seqK; intro K hK)
      | (apply hK; clear hK)
      | (clear hK; apply hK; clear hK)
      | (clear hK; clear hK; apply hK; clear hK)
      | (clear hK; clear hK; clear hK; apply hK; clear hK)
      | (apply WC_block)
      | (apply WC_region)
      | (apply WL_nil)
      | (apply thenQ_normal)
      | (apply thenQ_ret)
      | (apply thenQ_exit)
      | (apply blockQ_hit)
      | (apply blockQ_miss; eq_refl)
      | (apply blockQ_ret)
      | (apply blockQ_normal)
      | (apply WC_ret)
      | (apply WC_exit)
      | (apply WC_skip)
      | (apply WC_label)
      | (apply WC_if_true; eq_refl)
      | (apply WC_if_false; eq_refl)
      | (apply ret1; eq_refl)
      | (apply ret2; eq_refl; eq_refl)
      | (apply ret3; eq_refl; eq_refl; eq_refl)
      | (apply ret0)
      | (apply ret0n)
      | (apply WL_on0; eq_refl)
      | (apply WL_onG; eq_refl; eq_refl; eq_refl; eq_refl)
      | (apply WL_noG; eq_refl; eq_refl; eq_refl; eq_refl)
      | (apply X_pv; eq_refl; first | exact trivial | omega)
      | (apply X_field; eq_refl)
      | (apply X_loadR; eq_refl; (first | assumption | (apply Blk.alloc; assumption) | apply Blk.new | apply Blk.newA | (apply Blk.alloc; first | apply Blk.newA | (apply Blk.alloc; first | assumption | apply Blk.newA))); eq_refl)
      | (apply X_loadW; eq_refl; (first | assumption | (apply Blk.alloc; assumption) | apply Blk.new | apply Blk.newA | (apply Blk.alloc; first | apply Blk.newA | (apply Blk.alloc; first | assumption | apply Blk.newA))); eq_refl)
      | (apply X_loadC; eq_refl; (first | assumption | (apply cel; first | assumption | (apply cel; assumption))))
      | (apply X_cmpT; eq_refl; eq_refl; omega)
      | (apply X_cmpF; eq_refl; eq_refl; omega)
      | (apply X_cmp; eq_refl; eq_refl; all_goals intro _)
      | (apply X_len; eq_refl)
      | (apply X_lenS; eq_refl)
      | (apply X_index; eq_refl; eq_refl; omega; omega)
      | (apply X_eqB; eq_refl; eq_refl)
      | (apply X_neqB; eq_refl; eq_refl)
      | (apply X_eqP; eq_refl; eq_refl)
      | (apply X_eqL; eq_refl; eq_refl)
      | (apply X_max; eq_refl; eq_refl)
      | (apply X_min; eq_refl; eq_refl)
      | (apply X_cap; eq_refl)
      | (apply X_alloc)
      | (apply X_box; eq_refl)
      | (apply X_makeMap))
  · rw [orM_err (by assumption)]; exact ⟨rfl, S2, hB2, hSt2⟩
  · rw [orM_ok (by assumption)]; exact ⟨rfl, S2, hB2, hSt2⟩
theorem Or_cv (hB : Bld w g S i l gs) (hi : 0 ≤ i) (hl : 0 ≤ l) (hI : Inv (i + l) gs) : CV Try.prog 40 [ptr g, num x, num y] w (After w g S i l (OrM (i + l) gs x y)) := by
  have hB' := hB.alloc (.cells #[num x, num y] 3)
  have hN : Blk (w.alloc (.cells #[num x, num y] 3)) w.heap.size 3 ([x, y].map num) := Blk.newA w #[num x, num y] 3
  have htop := hI.top
  have hC0 : ∀ {w1}, Chg (w.alloc (.cells #[num x, num y] 3)) w1 none_ → Chg w w1 none_ := fun h => (Chg.alloc w _ none_).trans h fun _ _ h => h
  by_cases hok : okM (i + l) gs x ∧ okM (i + l) gs y
  · rw [show OrM (i + l) gs x y = orM (i + l) gs x y by unfold OrM; rw [if_pos hok]]
    have hx := hok.1
    have hy := hok.2
    refine enter 23 [6, 7] Try.func40 rfl rfl rfl (by decide) rfl ?_
    repeat' (first
      | (apply X_fn; eq_refl; (refine looked_ok (xs := [x, y]) hB' hN hi hl hI (by simp) ?_; simp only [List.mem_cons, List.not_mem_nil, or_false, forall_eq_or_imp, forall_eq]; exact hok); rintro _ w1 ⟨rfl, hC1, hB1⟩; have hSt : Step w S w1 S := Step.of_chg (hC0 hC1).any)
      | (apply X_fn; eq_refl; (apply or_cv; assumption; assumption; assumption; assumption; assumption; assumption); rintro _ w2 ⟨rfl, S2, hB2, hSt2⟩; replace hSt := hSt.trans hSt2)
      | (apply WC_seqK; intro K hK)
      | (apply hK; clear hK)
      | (clear hK; apply hK; clear hK)
      | (clear hK; clear hK; apply hK; clear hK)
      | (clear hK; clear hK; clear hK; apply hK; clear hK)
      | (apply WC_block)
      | (apply WC_region)
      | (apply WL_nil)
      | (apply thenQ_normal)
      | (apply thenQ_ret)
      | (apply thenQ_exit)
      | (apply blockQ_hit)
      | (apply blockQ_miss; eq_refl)
      | (apply blockQ_ret)
      | (apply blockQ_normal)
      | (apply WC_ret)
      | (apply WC_exit)
      | (apply WC_skip)
      | (apply WC_label)
      | (apply WC_if_true; eq_refl)
      | (apply WC_if_false; eq_refl)
      | (apply ret1; eq_refl)
      | (apply ret2; eq_refl; eq_refl)
      | (apply ret3; eq_refl; eq_refl; eq_refl)
      | (apply ret0)
      | (apply ret0n)
      | (apply WL_on0; eq_refl)
      | (apply WL_onG; eq_refl; eq_refl; eq_refl; eq_refl)
      | (apply WL_noG; eq_refl; eq_refl; eq_refl; eq_refl)
      | (apply X_pv; eq_refl; first | exact trivial | omega)
      | (apply X_field; eq_refl)
      | (apply X_loadR; eq_refl; (first | assumption | (apply Blk.alloc; assumption) | apply Blk.new | apply Blk.newA | (apply Blk.alloc; first | apply Blk.newA | (apply Blk.alloc; first | assumption | apply Blk.newA))); eq_refl)
      | (apply X_loadW; eq_refl; (first | assumption | (apply Blk.alloc; assumption) | apply Blk.new | apply Blk.newA | (apply Blk.alloc; first | apply Blk.newA | (apply Blk.alloc; first | assumption | apply Blk.newA))); eq_refl)
      | (apply X_loadC; eq_refl; (first | assumption | (apply cel; first | assumption | (apply cel; assumption))))
      | (apply X_cmpT; eq_refl; eq_refl; omega)
      | (apply X_cmpF; eq_refl; eq_refl; omega)
      | (apply X_cmp; eq_refl; eq_refl; all_goals intro _)
      | (apply X_len; eq_refl)
      | (apply X_lenS; eq_refl)
      | (apply X_index; eq_refl; eq_refl; omega; omega)
      | (apply X_eqB; eq_refl; eq_refl)
      | (apply X_neqB; eq_refl; eq_refl)
      | (apply X_eqP; eq_refl; eq_refl)
      | (apply X_eqL; eq_refl; eq_refl)
      | (apply X_max; eq_refl; eq_refl)
      | (apply X_min; eq_refl; eq_refl)
      | (apply X_cap; eq_refl)
      | (apply X_alloc)
      | (apply X_box; eq_refl)
      | (apply X_makeMap)
      | (apply X_does; apply buildS22_2 <;> eq_refl))
    exact ⟨rfl, S2, hB2, hSt⟩
  · refine enter 23 [6, 7] Try.func40 rfl rfl rfl (by decide) rfl ?_
    repeat' (first
      | (apply X_fn; eq_refl; (refine looked_no (xs := [x, y]) hB' hN hi hl hI (by simp) ?_; simp only [List.mem_cons, List.not_mem_nil, or_false, forall_eq_or_imp, forall_eq]; exact hok); rintro _ w1 ⟨rfl, hC1, hB1⟩; have hSt : Step w S w1 S := Step.of_chg (hC0 hC1).any)
      | (apply WC_seqK; intro K hK)
      | (apply hK; clear hK)
      | (clear hK; apply hK; clear hK)
      | (clear hK; clear hK; apply hK; clear hK)
      | (clear hK; clear hK; clear hK; apply hK; clear hK)
      | (apply WC_block)
      | (apply WC_region)
      | (apply WL_nil)
      | (apply thenQ_normal)
      | (apply thenQ_ret)
      | (apply thenQ_exit)
      | (apply blockQ_hit)
      | (apply blockQ_miss; eq_refl)
      | (apply blockQ_ret)
      | (apply blockQ_normal)
      | (apply WC_ret)
      | (apply WC_exit)
      | (apply WC_skip)
      | (apply WC_label)
      | (apply WC_if_true; eq_refl)
      | (apply WC_if_false; eq_refl)
      | (apply ret1; eq_refl)
      | (apply ret2; eq_refl; eq_refl)
      | (apply ret3; eq_refl; eq_refl; eq_refl)
      | (apply ret0)
      | (apply ret0n)
      | (apply WL_on0; eq_refl)
      | (apply WL_onG; eq_refl; eq_refl; eq_refl; eq_refl)
      | (apply WL_noG; eq_refl; eq_refl; eq_refl; eq_refl)
      | (apply X_pv; eq_refl; first | exact trivial | omega)
      | (apply X_field; eq_refl)
      | (apply X_loadR; eq_refl; (first | assumption | (apply Blk.alloc; assumption) | apply Blk.new | apply Blk.newA | (apply Blk.alloc; first | apply Blk.newA | (apply Blk.alloc; first | assumption | apply Blk.newA))); eq_refl)
      | (apply X_loadW; eq_refl; (first | assumption | (apply Blk.alloc; assumption) | apply Blk.new | apply Blk.newA | (apply Blk.alloc; first | apply Blk.newA | (apply Blk.alloc; first | assumption | apply Blk.newA))); eq_refl)
      | (apply X_loadC; eq_refl; (first | assumption | (apply cel; first | assumption | (apply cel; assumption))))
      | (apply X_cmpT; eq_refl; eq_refl; omega)
      | (apply X_cmpF; eq_refl; eq_refl; omega)
      | (apply X_cmp; eq_refl; eq_refl; all_goals intro _)
      | (apply X_len; eq_refl)
      | (apply X_lenS; eq_refl)
      | (apply X_index; eq_refl; eq_refl; omega; omega)
      | (apply X_eqB; eq_refl; eq_refl)
      | (apply X_neqB; eq_refl; eq_refl)
      | (apply X_eqP; eq_refl; eq_refl)
      | (apply X_eqL; eq_refl; eq_refl)
      | (apply X_max; eq_refl; eq_refl)
      | (apply X_min; eq_refl; eq_refl)
      | (apply X_cap; eq_refl)
      | (apply X_alloc)
      | (apply X_box; eq_refl)
      | (apply X_makeMap)
      | (apply X_does; apply buildS22_2 <;> eq_refl))
    exact After.same hB1 ((hC0 hC1).any) (by unfold OrM; rw [if_neg hok])
theorem Xor_cv (hB : Bld w g S i l gs) (hi : 0 ≤ i) (hl : 0 ≤ l) (hI : Inv (i + l) gs) : CV Try.prog 41 [ptr g, num x, num y] w (After w g S i l (XorM (i + l) gs x y)) := by
  have hB' := hB.alloc (.cells #[num x, num y] 3)
  have hN : Blk (w.alloc (.cells #[num x, num y] 3)) w.heap.size 3 ([x, y].map num) := Blk.newA w #[num x, num y] 3
  have htop := hI.top
  have hC0 : ∀ {w1}, Chg (w.alloc (.cells #[num x, num y] 3)) w1 none_ → Chg w w1 none_ := fun h => (Chg.alloc w _ none_).trans h fun _ _ h => h
  by_cases hok : okM (i + l) gs x ∧ okM (i + l) gs y
  · rw [show XorM (i + l) gs x y = xorM (i + l) gs x y by unfold XorM; rw [if_pos hok]]
    have hx := hok.1
    have hy := hok.2
    have G1 := andM_good hI hx hy
    have G2 := andM_good G1.inv (okM_more (okM_not hx) G1.more) (okM_more (okM_not hy) G1.more)
    have b1 := G1.ok; have b2 := G2.ok; have t1 := G1.inv.top; have t2 := G2.inv.top
    have bx := hx; have bY := hy
    unfold okM at b1 b2 bx bY
    have i1 := G1.inv; have i2 := G2.inv
    have o1 := okM_more (okM_not hx) G1.more
    have o2 := okM_more (okM_not hy) G1.more
    have o3 := okM_more (okM_not G1.ok) G2.more
    have o4 := okM_not G2.ok
    unfold notM at b2 t2 i2 o1 o2 o3 o4
    refine enter 50 [6, 7] Try.func41 rfl rfl rfl (by decide) rfl ?_
    repeat' (first
      | (apply X_fn; eq_refl; (refine looked_ok (xs := [x, y]) hB' hN hi hl hI (by simp) ?_; simp only [List.mem_cons, List.not_mem_nil, or_false, forall_eq_or_imp, forall_eq]; exact hok); rintro _ w1 ⟨rfl, hC1, hB1⟩; have hSt : Step w S w1 S := Step.of_chg (hC0 hC1).any)
      | (apply X_fn; eq_refl; (apply and_cv; assumption; assumption; assumption; assumption; assumption; assumption); rintro _ w2 ⟨rfl, S2, hB2, hSt2⟩; replace hSt := hSt.trans hSt2)
      | (apply WC_seqK; intro K hK)
      | (apply hK; clear hK)
      | (clear hK; apply hK; clear hK)
      | (clear hK; clear hK; apply hK; clear hK)
      | (clear hK; clear hK; clear hK; apply hK; clear hK)
      | (apply WC_block)
      | (apply WC_region)
      | (apply WL_nil)
      | (apply thenQ_normal)
      | (apply thenQ_ret)
      | (apply thenQ_exit)
      | (apply blockQ_hit)
      | (apply blockQ_miss; eq_refl)
      | (apply blockQ_ret)
      | (apply blockQ_normal)
      | (apply WC_ret)
      | (apply WC_exit)
      | (apply WC_skip)
      | (apply WC_label)
      | (apply WC_if_true; eq_refl)
      | (apply WC_if_false; eq_refl)
      | (apply ret1; eq_refl)
      | (apply ret2; eq_refl; eq_refl)
      | (apply ret3; eq_refl; eq_refl; eq_refl)
      | (apply ret0)
      | (apply ret0n)
      | (apply WL_on0; eq_refl)
      | (apply WL_onG; eq_refl; eq_refl; eq_refl; eq_refl)
      | (apply WL_noG; eq_refl; eq_refl; eq_refl; eq_refl)
      | (apply X_pv; eq_refl; first | exact trivial | omega)
      | (apply X_field; eq_refl)
      | (apply X_loadR; eq_refl; (first | assumption | (apply Blk.alloc; assumption) | apply Blk.new | apply Blk.newA | (apply Blk.alloc; first | apply Blk.newA | (apply Blk.alloc; first | assumption | apply Blk.newA))); eq_refl)
      | (apply X_loadW; eq_refl; (first | assumption | (apply Blk.alloc; assumption) | apply Blk.new | apply Blk.newA | (apply Blk.alloc; first | apply Blk.newA | (apply Blk.alloc; first | assumption | apply Blk.newA))); eq_refl)
      | (apply X_loadC; eq_refl; (first | assumption | (apply cel; first | assumption | (apply cel; assumption))))
      | (apply X_cmpT; eq_refl; eq_refl; omega)
      | (apply X_cmpF; eq_refl; eq_refl; omega)
      | (apply X_cmp; eq_refl; eq_refl; all_goals intro _)
      | (apply X_len; eq_refl)
      | (apply X_lenS; eq_refl)
      | (apply X_index; eq_refl; eq_refl; omega; omega)
      | (apply X_eqB; eq_refl; eq_refl)
      | (apply X_neqB; eq_refl; eq_refl)
      | (apply X_eqP; eq_refl; eq_refl)
      | (apply X_eqL; eq_refl; eq_refl)
      | (apply X_max; eq_refl; eq_refl)
      | (apply X_min; eq_refl; eq_refl)
      | (apply X_cap; eq_refl)
      | (apply X_alloc)
      | (apply X_box; eq_refl)
      | (apply X_makeMap)
      | (apply X_does; apply buildS22_2 <;> eq_refl))
    · rw [xorM_err (by assumption)]; exact ⟨rfl, _, hB2, hSt⟩
    · rw [xorM_err2 (by assumption) (by assumption)]; exact ⟨rfl, _, hB2, hSt⟩
    · rw [xorM_ok (by assumption) (by assumption)]; exact ⟨rfl, _, hB2, hSt⟩
  · refine enter 50 [6, 7] Try.func41 rfl rfl rfl (by decide) rfl ?_
    repeat' (first
      | (apply X_fn; eq_refl; (refine looked_no (xs := [x, y]) hB' hN hi hl hI (by simp) ?_; simp only [List.mem_cons, List.not_mem_nil, or_false, forall_eq_or_imp, forall_eq]; exact hok); rintro _ w1 ⟨rfl, hC1, hB1⟩; have hSt : Step w S w1 S := Step.of_chg (hC0 hC1).any)
      | (apply WC_seqK; intro K hK)
      | (apply hK; clear hK)
      | (clear hK; apply hK; clear hK)
      | (clear hK; clear hK; apply hK; clear hK)
      | (clear hK; clear hK; clear hK; apply hK; clear hK)
      | (apply WC_block)
      | (apply WC_region)
      | (apply WL_nil)
      | (apply thenQ_normal)
      | (apply thenQ_ret)
      | (apply thenQ_exit)
      | (apply blockQ_hit)
      | (apply blockQ_miss; eq_refl)
      | (apply blockQ_ret)
      | (apply blockQ_normal)
      | (apply WC_ret)
      | (apply WC_exit)
      | (apply WC_skip)
      | (apply WC_label)
      | (apply WC_if_true; eq_refl)
      | (apply WC_if_false; eq_refl)
      | (apply ret1; eq_refl)
      | (apply ret2; eq_refl; eq_refl)
      | (apply ret3; eq_refl; eq_refl; eq_refl)
      | (apply ret0)
      | (apply ret0n)
      | (apply WL_on0; eq_refl)
      | (apply WL_onG; eq_refl; eq_refl; eq_refl; eq_refl)
      | (apply WL_noG; eq_refl; eq_refl; eq_refl; eq_refl)
      | (apply X_pv; eq_refl; first | exact trivial | omega)
      | (apply X_field; eq_refl)
      | (apply X_loadR; eq_refl; (first | assumption | (apply Blk.alloc; assumption) | apply Blk.new | apply Blk.newA | (apply Blk.alloc; first | apply Blk.newA | (apply Blk.alloc; first | assumption | apply Blk.newA))); eq_refl)
      | (apply X_loadW; eq_refl; (first | assumption | (apply Blk.alloc; assumption) | apply Blk.new | apply Blk.newA | (apply Blk.alloc; first | apply Blk.newA | (apply Blk.alloc; first | assumption | apply Blk.newA))); eq_refl)
      | (apply X_loadC; eq_refl; (first | assumption | (apply cel; first | assumption | (apply cel; assumption))))
      | (apply X_cmpT; eq_refl; eq_refl; omega)
      | (apply X_cmpF; eq_refl; eq_refl; omega)
      | (apply X_cmp; eq_refl; eq_refl; all_goals intro _)
      | (apply X_len; eq_refl)
      | (apply X_lenS; eq_refl)
      | (apply X_index; eq_refl; eq_refl; omega; omega)
      | (apply X_eqB; eq_refl; eq_refl)
      | (apply X_neqB; eq_refl; eq_refl)
      | (apply X_eqP; eq_refl; eq_refl)
      | (apply X_eqL; eq_refl; eq_refl)
      | (apply X_max; eq_refl; eq_refl)
      | (apply X_min; eq_refl; eq_refl)
      | (apply X_cap; eq_refl)
      | (apply X_alloc)
      | (apply X_box; eq_refl)
      | (apply X_makeMap)
      | (apply X_does; apply buildS22_2 <;> eq_refl))
    exact After.same hB1 ((hC0 hC1).any) (by unfold XorM; rw [if_neg hok])
theorem Size_cv {A : Option Addr} {n c : Nat} {m : Value} (hB : Blk w g 101 [num i, num l, .slice A n c, m]) : CV Try.prog 43 [ptr g] w fun u w' => u = num n ∧ w' = w := by
  refine enter 8 [2] Try.func43 rfl rfl rfl (by decide) rfl ?_
  repeat' (first
      | (apply WC_seqK; intro K hK)
      | (apply hK; clear hK)
      | (clear hK; apply hK; clear hK)
      | (clear hK; clear hK; apply hK; clear hK)
      | (clear hK; clear hK; clear hK; apply hK; clear hK)
      | (apply WC_block)
      | (apply WC_region)
      | (apply WL_nil)
      | (apply thenQ_normal)
      | (apply thenQ_ret)
      | (apply thenQ_exit)
      | (apply blockQ_hit)
      | (apply blockQ_miss; eq_refl)
      | (apply blockQ_ret)
      | (apply blockQ_normal)
      | (apply WC_ret)
      | (apply WC_exit)
      | (apply WC_skip)
      | (apply WC_label)
      | (apply WC_if_true; eq_refl)
      | (apply WC_if_false; eq_refl)
      | (apply ret1; eq_refl)
      | (apply ret2; eq_refl; eq_refl)
      | (apply ret3; eq_refl; eq_refl; eq_refl)
      | (apply ret0)
      | (apply ret0n)
      | (apply WL_on0; eq_refl)
      | (apply WL_onG; eq_refl; eq_refl; eq_refl; eq_refl)
      | (apply WL_noG; eq_refl; eq_refl; eq_refl; eq_refl)
      | (apply X_pv; eq_refl; first | exact trivial | omega)
      | (apply X_field; eq_refl)
      | (apply X_loadR; eq_refl; (first | assumption | (apply Blk.alloc; assumption) | apply Blk.new | apply Blk.newA | (apply Blk.alloc; first | apply Blk.newA | (apply Blk.alloc; first | assumption | apply Blk.newA))); eq_refl)
      | (apply X_loadW; eq_refl; (first | assumption | (apply Blk.alloc; assumption) | apply Blk.new | apply Blk.newA | (apply Blk.alloc; first | apply Blk.newA | (apply Blk.alloc; first | assumption | apply Blk.newA))); eq_refl)
      | (apply X_loadC; eq_refl; (first | assumption | (apply cel; first | assumption | (apply cel; assumption))))
      | (apply X_cmpT; eq_refl; eq_refl; omega)
      | (apply X_cmpF; eq_refl; eq_refl; omega)
      | (apply X_cmp; eq_refl; eq_refl; all_goals intro _)
      | (apply X_len; eq_refl)
      | (apply X_lenS; eq_refl)
      | (apply X_index; eq_refl; eq_refl; omega; omega)
      | (apply X_eqB; eq_refl; eq_refl)
      | (apply X_neqB; eq_refl; eq_refl)
      | (apply X_eqP; eq_refl; eq_refl)
      | (apply X_eqL; eq_refl; eq_refl)
      | (apply X_max; eq_refl; eq_refl)
      | (apply X_min; eq_refl; eq_refl)
      | (apply X_cap; eq_refl)
      | (apply X_alloc)
      | (apply X_box; eq_refl)
      | (apply X_makeMap))
  exact ⟨rfl, rfl⟩
def newBad (a b : Int) : Prop := a < 0 ∨ 16384 < a ∨ b < 0 ∨ 16384 < b ∨ 16384 < a + b
theorem New_ok {a b : Int} (h : ¬ newBad a b) : CV Try.prog 39 [num a, num b] w fun u w' => ∃ g S', u = .tuple #[ptr g, num 0] ∧ Bld w' g S' a b [] ∧ Step w none_ w' S' := by
  unfold newBad at h
  refine enter 31 [4, 5] Try.func39 rfl rfl rfl (by decide) rfl ?_
  repeat' (first
      | (apply WC_seqK; intro K hK)
      | (apply hK; clear hK)
      | (clear hK; apply hK; clear hK)
      | (clear hK; clear hK; apply hK; clear hK)
      | (clear hK; clear hK; clear hK; apply hK; clear hK)
      | (apply WC_block)
      | (apply WC_region)
      | (apply WL_nil)
      | (apply thenQ_normal)
      | (apply thenQ_ret)
      | (apply thenQ_exit)
      | (apply blockQ_hit)
      | (apply blockQ_miss; eq_refl)
      | (apply blockQ_ret)
      | (apply blockQ_normal)
      | (apply WC_ret)
      | (apply WC_exit)
      | (apply WC_skip)
      | (apply WC_label)
      | (apply WC_if_true; eq_refl)
      | (apply WC_if_false; eq_refl)
      | (apply ret1; eq_refl)
      | (apply ret2; eq_refl; eq_refl)
      | (apply ret3; eq_refl; eq_refl; eq_refl)
      | (apply ret0)
      | (apply ret0n)
      | (apply WL_on0; eq_refl)
      | (apply WL_onG; eq_refl; eq_refl; eq_refl; eq_refl)
      | (apply WL_noG; eq_refl; eq_refl; eq_refl; eq_refl)
      | (apply X_pv; eq_refl; first | exact trivial | omega)
      | (apply X_field; eq_refl)
      | (apply X_loadR; eq_refl; (first | assumption | (apply Blk.alloc; assumption) | apply Blk.new | apply Blk.newA | (apply Blk.alloc; first | apply Blk.newA | (apply Blk.alloc; first | assumption | apply Blk.newA))); eq_refl)
      | (apply X_loadW; eq_refl; (first | assumption | (apply Blk.alloc; assumption) | apply Blk.new | apply Blk.newA | (apply Blk.alloc; first | apply Blk.newA | (apply Blk.alloc; first | assumption | apply Blk.newA))); eq_refl)
      | (apply X_loadC; eq_refl; (first | assumption | (apply cel; first | assumption | (apply cel; assumption))))
      | (apply X_cmpT; eq_refl; eq_refl; omega)
      | (apply X_cmpF; eq_refl; eq_refl; omega)
      | (apply X_cmp; eq_refl; eq_refl; all_goals intro _)
      | (apply X_len; eq_refl)
      | (apply X_lenS; eq_refl)
      | (apply X_index; eq_refl; eq_refl; omega; omega)
      | (apply X_eqB; eq_refl; eq_refl)
      | (apply X_neqB; eq_refl; eq_refl)
      | (apply X_eqP; eq_refl; eq_refl)
      | (apply X_eqL; eq_refl; eq_refl)
      | (apply X_max; eq_refl; eq_refl)
      | (apply X_min; eq_refl; eq_refl)
      | (apply X_cap; eq_refl)
      | (apply X_alloc)
      | (apply X_box; eq_refl)
      | (apply X_makeMap)
      | (apply X_pure; apply build101_0_1_3 <;> eq_refl))
  have hm := (MapHas.made w).chg (Chg.alloc _ (.cells #[num a, num b, .slice none 0 0, .map (some w.heap.size)] 101) none_) id
  have hz : (w.alloc (.map #[] 0)).heap.size = w.heap.size + 1 := by simp
  refine ⟨(w.alloc (.map #[] 0)).heap.size, fun k => k = w.heap.size ∨ k = (w.alloc (.map #[] 0)).heap.size, rfl, ⟨.slice none 0 0, w.heap.size, ?_⟩, ?_⟩
  · refine ⟨Blk.newA _ _ _, World.ownsRow_nil _ _ _ _, hm, .inr rfl, .inl rfl, fun k hk => by simp [Value.ownBlock] at hk, fun k hk => ?_⟩
    rw [hz] at hk
    simp; omega
  · refine ⟨((Chg.alloc w _ none_).al _), fun k hk => .inr ?_⟩
    rw [hz] at hk
    exact ⟨by omega, by simp; omega⟩
end
end SC
end Go.Proofs.Yticndofcfacopaa
end
section
/- Or, Xor, Mux of a builder: the plain law. -/
set_option linter.unusedVariables false
set_option linter.unusedSimpArgs false
namespace Go.Proofs.Yticndofcfacopaa
namespace SC
open Go.Proofs
theorem Gs.inv {n : Int} {gs : List Gate} (G : Gs n gs) (h : n + gs.length ≤ 16384) : Inv n gs := by
  have nn := G.nn
  refine ⟨nn, h, fun g hg => ?_, fun g hg => ?_⟩
  · obtain ⟨k, hk, rfl⟩ := List.mem_iff_getElem.1 hg
    have := G.out k hk
    omega
  · obtain ⟨k, hk, rfl⟩ := List.mem_iff_getElem.1 hg
    have := G.out k hk
    have := G.low k hk
    omega
/-- What a call makes: no error, so many gates more at most, and a literal with that value. -/
structure Made (n : Int) (gs : List Gate) (m : Nat) (r : Int × Int × List Gate) (f : List Bool → Bool) : Prop where
  err : r.2.1 = 0
  good : Gs n r.2.2
  pre : gs <+: r.2.2
  ok : okM n r.2.2 r.1
  len : r.2.2.length ≤ gs.length + m
  val : ∀ v, ValG n r.2.2 v → lv v r.1 = f v
theorem andM_made {n : Int} {gs : List Gate} {x y : Int} (G : Gs n gs) (hx : okM n gs x) (hy : okM n gs y) (hn : n + gs.length < 16384) : Made n gs 1 (andM n gs x y) fun v => lv v x && lv v y := by
  have g1 := G.andM hx hy
  have g2 := andM_good (G.inv (by omega)) hx hy
  have he : (andM n gs x y).2.1 = 0 ∧ (andM n gs x y).2.2.length ≤ gs.length + 1 := by
    unfold andM andP
    split
    · exact ⟨rfl, by simp⟩
    · split
      · exact ⟨rfl, by simp⟩
      · split
        · exact ⟨rfl, by simp⟩
        · rw [if_neg (by omega)]
          exact ⟨rfl, by simp⟩
  exact ⟨he.1, g1.1, g1.2, g2.ok, he.2, fun v V => andM_val G hx hy V he.1⟩
theorem Made.okM {n : Int} {gs : List Gate} {m : Nat} {r : Int × Int × List Gate} {f : List Bool → Bool} (M : Made n gs m r f) {z : Int} (h : okM n gs z) : okM n r.2.2 z := okM_more h M.pre.length_le
theorem xorM_made {n : Int} {gs : List Gate} {x y : Int} (G : Gs n gs) (hx : okM n gs x) (hy : okM n gs y) (hn : n + gs.length + 2 < 16384) : Made n gs 3 (xorM n gs x y) fun v => lv v x != lv v y := by
  have M1 := andM_made G hx hy (by omega)
  have l1 := M1.len
  have M2 := andM_made M1.good (okM_not (M1.okM hx)) (okM_not (M1.okM hy)) (by omega)
  have l2 := M2.len
  have M3 := andM_made M2.good (okM_not (M2.okM M1.ok)) (okM_not M2.ok) (by omega)
  have l3 := M3.len
  rw [xorM_ok (by rw [M1.err]; decide) (by rw [M2.err]; decide)]
  refine ⟨M3.err, M3.good, M1.pre.trans (M2.pre.trans M3.pre), M3.ok, by omega, fun v V => ?_⟩
  have v1 := M1.val v (V.pre (M2.pre.trans M3.pre))
  have v2 := M2.val v (V.pre M3.pre)
  rw [M3.val v V, lv_not M1.ok.1, lv_not M2.ok.1, v1, v2, lv_not hx.1, lv_not hy.1]
  cases lv v x <;> cases lv v y <;> rfl
end SC
end Go.Proofs.Yticndofcfacopaa
end
section
/- The circuit of a builder's gates: it is right, and its values fit the gates. -/
set_option linter.unusedVariables false
set_option linter.unusedSimpArgs false
namespace Go.Proofs.Yticndofcfacopaa
namespace SC
open Go.Proofs
end SC
end Go.Proofs.Yticndofcfacopaa
end
section
/- hash: what Build makes: the plain law. -/
set_option linter.unusedVariables false
set_option linter.unusedSimpArgs false
namespace Go.Proofs.Yticndofcfacopaa
namespace SC
open Go.Proofs
/-- A literal by a map whose members may be odd. -/
def litX (to : List Int) (l : Int) : Int := xorb (L to (l / 2)) (l % 2)
/-- One gate is built. -/
def bStep (c : Circ) (n : Int) (s : List Int × List Gate) (i : Int) : List Int × List Gate :=
  (s.1.set ((andAt c i).1 / 2).toNat (andM n s.2 (litX s.1 (andAt c i).2.1) (litX s.1 (andAt c i).2.2)).1, (andM n s.2 (litX s.1 (andAt c i).2.1) (litX s.1 (andAt c i).2.2)).2.2)
def nB (c : Circ) : Int := (c.inputs.length : Int) + (c.latches.length : Int)
/-- The map and the gates behind the first k gates of the order. -/
noncomputable def bAt (c : Circ) (k : Nat) : List Int × List Gate := ((ordM c).take k).foldl (bStep c (nB c)) (mapOf c.max (c.inputs ++ c.latches.map (·.1)), [])
theorem bAt_succ {c : Circ} {k : Nat} (h : k < (ordM c).length) : bAt c (k + 1) = bStep c (nB c) (bAt c k) (ordM c)[k] := by
  unfold bAt
  rw [List.take_succ_eq_append_getElem h, List.foldl_append]
  rfl
/-- A variable that has its literal behind k gates. -/
def Done (c : Circ) (k : Nat) (u : Int) : Prop := ∃ (j : Nat) (hj : j < (defsOf c (ordM c)).length), j < c.inputs.length + c.latches.length + k ∧ u = (defsOf c (ordM c))[j] / 2
structure BInv (c : Circ) (k : Nat) (s : List Int × List Gate) : Prop where
  gs : Gs (nB c) s.2
  len : s.2.length ≤ k
  mlen : s.1.length = (c.max + 1).toNat
  ok : ∀ u, 0 ≤ u → okM (nB c) s.2 (L s.1 u)
  off : ∀ u, 0 ≤ u → ¬ Done c k u → L s.1 u = 0
  fst : ∀ (j : Nat) (hj : j < (defsOf c (ordM c)).length), j < c.inputs.length + c.latches.length → L s.1 ((defsOf c (ordM c))[j] / 2) = 2 * j + 2
  val : ∀ st r v w, ValOk c st r v → ValG (nB c) s.2 w → (∀ j : Nat, j < c.inputs.length → gt w ((j : Int) + 1) = gt r (j : Int)) → (∀ j : Nat, j < c.latches.length → gt w (((c.inputs.length + j : Nat) : Int) + 1) = gt st (j : Int)) → ∀ u, Done c k u → lv w (L s.1 u) = gt v u
theorem xorb_ok {n : Int} {gs : List Gate} {a b : Int} (h : okM n gs a) (hb : 0 ≤ b ∧ b ≤ 1) : okM n gs (xorb a b) := by
  unfold xorb
  split
  · exact h
  · exact okM_not h
theorem BInv.lit {c : Circ} {k : Nat} {s : List Int × List Gate} (I : BInv c k s) {l : Int} (hl : 0 ≤ l) : okM (nB c) s.2 (litX s.1 l) := xorb_ok (I.ok _ (by omega)) (by omega)
theorem lv_litX {w v : List Bool} {to : List Int} {l : Int} (h0 : 0 ≤ L to (l / 2)) (h : lv w (L to (l / 2)) = gt v (l / 2)) : lv w (litX to l) = lv v l := by
  unfold litX xorb
  split
  · rename_i e
    rw [h]
    unfold lv
    rw [e]
    simp
  · rename_i e
    have := lv_not (v := w) h0
    unfold notM at this
    rw [this, h]
    have e1 : l % 2 = 1 := by omega
    unfold lv
    rw [e1]
    simp
section
variable {c : Circ} (R : Right c)
include R
theorem Right.kind_in {v : Int} (hv : 0 ≤ v) (h : kindAt (tabM c) v ≠ 0) : ∃ k ∈ defsOf c (ordM c), v = k / 2 := by
  cases hm : (tabM c)[v.toNat]? with
  | none => exact absurd (by unfold kindAt; rw [hm]; rfl) h
  | some m =>
    rw [kindAt_get hm] at h
    rcases R.tab.only _ _ hm with e | ⟨j, hj, e, _⟩ | ⟨j, hj, e, _⟩ | ⟨j, hj, e, _⟩
    · rw [e] at h
      exact absurd rfl h
    · exact ⟨_, by have := memD_inp hj; rwa [gt_nat hj] at this, by omega⟩
    · exact ⟨_, by have := memD_lat hj; rwa [gt_nat hj] at this, by omega⟩
    · have hm := R.ordAll hj
      refine ⟨_, List.mem_append_right _ (List.mem_map.2 ⟨_, hm, rfl⟩), ?_⟩
      have ea : andAt c (j : Int) = gt c.ands (j : Int) := rfl
      show v = (andAt c (j : Int)).1 / 2
      rw [ea, gt_nat hj, e]
      omega
theorem Right.nB_le : nB c + (ordM c).length ≤ c.max := by
  have h1 := R.nDefs
  have h2 := R.nDefs_le
  have h3 := R.ordLen
  unfold nB
  omega
/-- What a gate uses has its literal. -/
theorem Right.used {k : Nat} (hk : k < (ordM c).length) {l : Int} (hl : l = (andAt c (ordM c)[k]).2.1 ∨ l = (andAt c (ordM c)[k]).2.2) : 0 ≤ l ∧ (l / 2 = 0 ∨ Done c k (l / 2)) := by
  have ho := R.ord (List.getElem_mem hk)
  have hlt : (ordM c)[k].toNat < c.ands.length := by omega
  have ha : andAt c (ordM c)[k] ∈ c.ands := by unfold andAt; simp [hlt]
  have hu : useOk c (tabM c) l := by
    have := R.use.ands _ ha
    rcases hl with rfl | rfl
    · exact this.1
    · exact this.2
  obtain ⟨h0, h1, h2⟩ := hu
  refine ⟨h0, ?_⟩
  by_cases h3 : 1 < l
  · obtain ⟨d, hd, e⟩ := R.kind_in (by omega) (h2 h3)
    obtain ⟨j, hj, rfl⟩ := List.mem_iff_getElem.1 hd
    refine .inr ⟨j, hj, ?_, e⟩
    by_cases h4 : j < c.inputs.length + c.latches.length
    · omega
    · have hn := R.nDefs
      have hol := R.ordLen
      obtain ⟨m, rfl⟩ : ∃ m, j = c.inputs.length + c.latches.length + m := ⟨j - (c.inputs.length + c.latches.length), by omega⟩
      have hm : m < (ordM c).length := by omega
      obtain ⟨_, e2⟩ := R.def_and hm
      rw [e2] at e
      have := R.low hk hl hm e
      omega
  · exact .inl (by omega)
theorem Right.def_eq {i j : Nat} (hi : i < (defsOf c (ordM c)).length) (hj : j < (defsOf c (ordM c)).length) (e : (defsOf c (ordM c))[i] / 2 = (defsOf c (ordM c))[j] / 2) : i = j := by
  have := R.defs_nodup
  refine nodup_ix this (a := i) (b := j) (by simpa using hi) (by simpa using hj) ?_
  simpa using e
theorem Right.def_pos {j : Nat} (hj : j < (defsOf c (ordM c)).length) : 0 < (defsOf c (ordM c))[j] / 2 ∧ 2 * ((defsOf c (ordM c))[j] / 2) = (defsOf c (ordM c))[j] := by
  have := R.defs (List.getElem_mem hj)
  unfold defR at this
  omega
theorem Right.bInv0 : BInv c 0 (bAt c 0) := by
  have hn := R.nDefs
  have hle := R.nDefs_le
  have hm1 := R.m1
  have hol := R.ordLen
  have e0 : bAt c 0 = (mapOf c.max ((defsOf c (ordM c)).take (c.inputs.length + c.latches.length)), []) := by
    unfold bAt defsOf
    rw [List.take_zero, List.take_left' (by simp)]
    rfl
  have nn : 0 ≤ nB c := by unfold nB; omega
  have key := fun v hv => mapOf_all (max := c.max) (ks := defsOf c (ordM c)) (fun _ => R.defs_rg) R.defs_nodup (c.inputs.length + c.latches.length) (by omega) v hv
  have off : ∀ u, 0 ≤ u → ¬ Done c 0 u → L (bAt c 0).1 u = 0 := fun u hu h => by
    rw [e0]
    exact (key u hu).2 fun j hj hlt e => h ⟨j, hj, by omega, e⟩
  have fst : ∀ (j : Nat) (hj : j < (defsOf c (ordM c)).length), j < c.inputs.length + c.latches.length → L (bAt c 0).1 ((defsOf c (ordM c))[j] / 2) = 2 * j + 2 := fun j hj hlt => by
    rw [e0]
    exact (key _ (by have := R.def_pos hj; omega)).1 j hj hlt rfl
  refine ⟨by rw [e0]; exact Gs.nil nn, by rw [e0]; exact Nat.le_refl 0, by rw [e0]; exact mapOf_len _ _, fun u hu => ?_, off, fst, fun st r v w V W wi wl u ⟨j, hj, hlt, e⟩ => ?_⟩
  · by_cases h : Done c 0 u
    · obtain ⟨j, hj, hlt, rfl⟩ := h
      rw [fst j hj (by omega), e0]
      unfold okM nB
      omega
    · rw [off u hu h, e0]
      unfold okM
      omega
  · subst e
    rw [fst j hj (by omega), lv_even (by omega), show (2 * (j : Int) + 2) / 2 = (j : Int) + 1 by omega]
    by_cases h1 : j < c.inputs.length
    · obtain ⟨_, e⟩ := R.def_inp h1
      have := V.inp j h1
      rw [gt_nat h1] at this
      rw [e, this, wi j h1]
    · obtain ⟨m, rfl⟩ : ∃ m, j = c.inputs.length + m := ⟨j - c.inputs.length, by omega⟩
      have h2 : m < c.latches.length := by omega
      obtain ⟨_, e⟩ := R.def_lat h2
      have := V.lat m h2
      rw [gt_nat h2] at this
      rw [e, this, wl m h2]
/-- What a gate of the order makes. -/
theorem Right.bMade {k : Nat} (hk : k < (ordM c).length) (I : BInv c k (bAt c k)) : Made (nB c) (bAt c k).2 1 (andM (nB c) (bAt c k).2 (litX (bAt c k).1 (andAt c (ordM c)[k]).2.1) (litX (bAt c k).1 (andAt c (ordM c)[k]).2.2)) fun v => lv v (litX (bAt c k).1 (andAt c (ordM c)[k]).2.1) && lv v (litX (bAt c k).1 (andAt c (ordM c)[k]).2.2) :=
  andM_made I.gs (BInv.lit I (R.used hk (.inl rfl)).1) (BInv.lit I (R.used hk (.inr rfl)).1) (by have := I.len; have := R.nB_le; have := R.m1; omega)
theorem Right.bInv1 {k : Nat} (hk : k < (ordM c).length) (I : BInv c k (bAt c k)) : BInv c (k + 1) (bAt c (k + 1)) := by
  have hn := R.nDefs
  have hol := R.ordLen
  have M := R.bMade hk I
  obtain ⟨hd, ed⟩ := R.def_and hk
  have hp := R.def_pos hd
  have hrg : rg (bAt c k).1.length ((andAt c (ordM c)[k]).1 / 2) := by
    rw [I.mlen, ← ed]
    exact R.defs_rg (List.getElem_mem hd)
  obtain ⟨u1, u1'⟩ := R.used hk (.inl rfl)
  obtain ⟨u2, u2'⟩ := R.used hk (.inr rfl)
  have ho := R.ord (List.getElem_mem hk)
  rw [bAt_succ hk]
  have hL : ∀ u, 0 ≤ u → L (bStep c (nB c) (bAt c k) (ordM c)[k]).1 u = if u = (defsOf c (ordM c))[c.inputs.length + c.latches.length + k] / 2 then (andM (nB c) (bAt c k).2 (litX (bAt c k).1 (andAt c (ordM c)[k]).2.1) (litX (bAt c k).1 (andAt c (ordM c)[k]).2.2)).1 else L (bAt c k).1 u := fun u hu => by
    rw [ed]
    exact L_set _ hrg hu
  have e2 : (bStep c (nB c) (bAt c k) (ordM c)[k]).2 = (andM (nB c) (bAt c k).2 (litX (bAt c k).1 (andAt c (ordM c)[k]).2.1) (litX (bAt c k).1 (andAt c (ordM c)[k]).2.2)).2.2 := rfl
  have el : (bStep c (nB c) (bAt c k) (ordM c)[k]).1.length = (bAt c k).1.length := List.length_set
  generalize bStep c (nB c) (bAt c k) (ordM c)[k] = s' at *
  have dn : ∀ u, Done c (k + 1) u → u ≠ (defsOf c (ordM c))[c.inputs.length + c.latches.length + k] / 2 → Done c k u := fun u ⟨j, hj, hlt, e⟩ hne => ⟨j, hj, by
    rcases Nat.lt_or_ge j (c.inputs.length + c.latches.length + k) with h | h
    · exact h
    · have : j = c.inputs.length + c.latches.length + k := by omega
      subst this
      exact absurd e hne, e⟩
  refine ⟨by rw [e2]; exact M.good, by rw [e2]; have := M.len; have := I.len; omega, by rw [el]; exact I.mlen, fun u hu => ?_, fun u hu h => ?_, fun j hj hlt => ?_, fun st r v w V W wi wl u hu => ?_⟩
  · rw [hL u hu, e2]
    split
    · exact M.ok
    · exact okM_more (I.ok u hu) M.pre.length_le
  · rw [hL u hu, if_neg]
    · exact I.off u hu fun ⟨j, hj, hlt, e⟩ => h ⟨j, hj, by omega, e⟩
    · intro e
      exact h ⟨_, hd, by omega, e⟩
  · rw [hL _ (by have := R.def_pos hj; omega), if_neg]
    · exact I.fst j hj hlt
    · intro e
      have := R.def_eq hj hd e
      omega
  · rw [e2] at W
    have W0 := W.pre M.pre
    have hv := I.val st r v w V W0 wi wl
    have hu0 : 0 ≤ u := by
      obtain ⟨j, hj, _, rfl⟩ := hu
      have := R.def_pos hj
      omega
    rw [hL u hu0]
    split
    · rename_i e
      have lt : ∀ l : Int, 0 ≤ l → (l / 2 = 0 ∨ Done c k (l / 2)) → lv w (litX (bAt c k).1 l) = lv v l := fun l h0 h => by
        refine lv_litX (I.ok _ (by omega)).1 ?_
        rcases h with h | h
        · have hno : ¬ Done c k 0 := fun ⟨j, hj, _, e⟩ => by have := R.def_pos hj; omega
          rw [h, I.off 0 (by omega) hno, lv_zero W.zero, V.zero]
        · exact hv _ h
      rw [M.val w W, lt _ u1 u1', lt _ u2 u2', e, ed]
      have hlt : (ordM c)[k].toNat < c.ands.length := by omega
      have := V.and (ordM c)[k].toNat hlt
      rw [show (((ordM c)[k].toNat : Nat) : Int) = (ordM c)[k] by omega, show gt c.ands (ordM c)[k] = andAt c (ordM c)[k] from rfl] at this
      exact this.symm
    · rename_i e
      exact hv u (dn u hu e)
theorem Right.bInv : ∀ k, k ≤ (ordM c).length → BInv c k (bAt c k)
  | 0, _ => R.bInv0
  | k + 1, h => R.bInv1 h (Right.bInv k (Nat.le_of_succ_le h))
end
end SC
end Go.Proofs.Yticndofcfacopaa
end
section
/- hash: the circuit that Build makes: it is right and in order; its values. -/
set_option linter.unusedVariables false
set_option linter.unusedSimpArgs false
namespace Go.Proofs.Yticndofcfacopaa
namespace SC
open Go.Proofs
noncomputable def bT (c : Circ) : List Int := (bAt c (ordM c).length).1
noncomputable def bG (c : Circ) : List Gate := (bAt c (ordM c).length).2
def bLatch (to : List Int) (x : Tri) : Tri := (litX to x.1, litX to x.2.1, if 1 < x.2.2 then litX to x.2.2 else x.2.2)
noncomputable def bC (c : Circ) : Circ := { max := nB c + (bG c).length, inputs := c.inputs.map (litX (bT c)), latches := c.latches.map (bLatch (bT c)), outputs := c.outputs.map (litX (bT c)), bads := c.bads.map (litX (bT c)), constraints := c.constraints.map (litX (bT c)), justice := c.justice.map fun l => l.map (litX (bT c)), fairness := c.fairness.map (litX (bT c)), ands := bG c, symbols := c.symbols, comments := c.comments }
theorem litX_even {to : List Int} {l : Int} (h : l % 2 = 0) : litX to l = L to (l / 2) := by unfold litX xorb; rw [if_pos h]
section
variable {c : Circ} (R : Right c)
include R
theorem Right.bI : BInv c (ordM c).length (bT c, bG c) := R.bInv _ (Nat.le_refl _)
theorem Right.b_ok {l : Int} (h : 0 ≤ l) : okM (nB c) (bG c) (litX (bT c) l) := BInv.lit R.bI h
theorem Right.b_in {l : Int} (h : 0 ≤ l) : inR (bC c) (litX (bT c) l) := R.b_ok h
theorem Right.bG_len : (bG c).length ≤ c.ands.length := by
  have h1 : (bG c).length ≤ (ordM c).length := R.bI.len
  have := R.ordLen
  omega
theorem Right.b_max : nB c + (bG c).length ≤ c.max := by have := R.bG_len; have := R.nB_le; have := R.ordLen; omega
theorem Right.b_inp {i : Nat} (hi : i < c.inputs.length) : litX (bT c) c.inputs[i] = 2 * (i : Int) + 2 := by
  obtain ⟨hd, e⟩ := R.def_inp hi
  have := R.bI.fst i hd (by omega)
  have h2 := R.def_pos hd
  rw [← e, litX_even (by omega)]
  exact this
theorem Right.b_lat {i : Nat} (hi : i < c.latches.length) : litX (bT c) c.latches[i].1 = 2 * ((c.inputs.length + i : Nat) : Int) + 2 := by
  obtain ⟨hd, e⟩ := R.def_lat hi
  have := R.bI.fst _ hd (by omega)
  have h2 := R.def_pos hd
  rw [← e, litX_even (by omega)]
  exact this
theorem Right.b_seq (he : (lookM c).2 = 0) : SeqOk (bC c) := by
  have hm := R.b_max
  have hm1 := R.m1
  have hg := R.bG_len
  have e1 : (bC c).inputs.length = c.inputs.length := List.length_map _
  have e2 : (bC c).latches.length = c.latches.length := List.length_map _
  have e3 : (bC c).ands.length = (bG c).length := rfl
  have em : (bC c).max = nB c + (bG c).length := rfl
  obtain ⟨_, _, _, _, _, hs, hc⟩ := lookM_ok he
  have one : ∀ {ls : List Int}, (∀ x ∈ ls, useOk c (tabM c) x) → ∀ x ∈ ls.map (litX (bT c)), inR (bC c) x := fun h x hx => by
    obtain ⟨y, hy, rfl⟩ := List.mem_map.1 hx
    exact R.b_in (h y hy).1
  refine ⟨by rw [e1, e2, e3, em]; unfold nB; omega, by rw [em]; omega, fun n hn => ?_, ?_, fun i h => ?_, fun i h => ?_, fun k h => ?_, fun x hx => ?_, fun x hx => ?_, fun x hx => ?_, one R.use.outputs, one R.use.bads, one R.use.constraints, fun l hl => ?_, one R.use.fairness, ?_, hc⟩
  · unfold Circ.lens at hn
    simp only [List.mem_cons, List.not_mem_nil, or_false] at hn
    rcases hn with rfl | rfl | rfl | rfl | rfl | rfl | rfl | rfl | rfl | rfl
    · exact R.lens _ (by simp [Circ.lens, bC])
    · exact R.lens _ (by simp [Circ.lens, bC])
    · exact R.lens _ (by simp [Circ.lens, bC])
    · exact R.lens _ (by simp [Circ.lens, bC])
    · exact R.lens _ (by simp [Circ.lens, bC])
    · exact R.lens _ (by simp [Circ.lens, bC])
    · exact R.lens _ (by simp [Circ.lens, bC])
    · have := R.nAnd; rw [e3]; omega
    · exact R.lens _ (by simp [Circ.lens, bC])
    · exact R.lens _ (by simp [Circ.lens, bC])
  · have : sumW (bC c).justice = sumW c.justice := by
      unfold sumW sumL bC
      simp only [List.map_map]
      congr 3
      apply List.map_congr_left
      intro l _
      simp
    rw [this]
    exact R.sum
  · exact (List.getElem_map (litX (bT c)) (l := c.inputs) (h := h)).trans (R.b_inp (by omega))
  · rw [e1]
    exact (congrArg Prod.fst (List.getElem_map (bLatch (bT c)) (l := c.latches) (h := h))).trans (R.b_lat (by omega))
  · have := R.bI.gs.out k h
    rw [e1, e2]
    show (bG c)[k].1 = _
    rw [this]
    unfold nB
    omega
  · obtain ⟨y, hy, rfl⟩ := List.mem_map.1 (show x ∈ c.latches.map (bLatch (bT c)) from hx)
    obtain ⟨h1, _, h3⟩ := R.lat hy
    unfold defR at h1
    unfold badReset bLatch
    dsimp only
    rcases h3 with h3 | h3 | h3
    · rw [h3, if_neg (by decide)]; omega
    · rw [h3, if_neg (by decide)]; omega
    · rw [h3, if_pos (by omega)]; omega
  · obtain ⟨y, hy, rfl⟩ := List.mem_map.1 (show x ∈ c.latches.map (bLatch (bT c)) from hx)
    exact R.b_in (R.use.next y hy).1
  · obtain ⟨k, hk, rfl⟩ := List.mem_iff_getElem.1 (show x ∈ bG c from hx)
    have := R.bI.gs.low k hk
    dsimp only at this
    omega
  · obtain ⟨y, hy, rfl⟩ := List.mem_map.1 (show l ∈ c.justice.map (fun l => l.map (litX (bT c))) from hl)
    exact one (R.use.justice y hy)
  · have : ∀ k, manyM (bC c) k = manyM c k := fun k => by
      unfold manyM bC
      simp
    show goSym (bC c) c.symbols 0 (fun _ _ => 0) < 0
    rw [goSym_congr this]
    exact hs
/-- Each variable has the value of the literal that it has become. -/
theorem Right.b_val (Q : SeqOk (bC c)) (st r : List Bool) {u : Int} (hu : 0 ≤ u) : lv (valM (bC c) st r) (L (bT c) u) = gt (valM c st r) u := by
  have V := val_ok R st r
  have V' := val_ok Q.right st r
  have e1 : (bC c).inputs.length = c.inputs.length := List.length_map _
  have e2 : (bC c).latches.length = c.latches.length := List.length_map _
  by_cases h : Done c (ordM c).length u
  · refine R.bI.val st r _ _ V ⟨V'.zero, fun k hk => ?_⟩ (fun j hj => ?_) (fun j hj => ?_) u h
    · have := V'.and k hk
      rw [gt_nat (show k < (bC c).ands.length from hk)] at this
      have this : gt (valM (bC c) st r) ((bG c)[k].1 / 2) = (lv (valM (bC c) st r) (bG c)[k].2.1 && lv (valM (bC c) st r) (bG c)[k].2.2) := this
      rw [R.bI.gs.out k hk] at this
      rw [← this]
      congr 1
      omega
    · have h1 : j < (bC c).inputs.length := by omega
      have := V'.inp j h1
      rw [gt_nat h1, Q.inp j h1] at this
      rw [← this]
      congr 1
      omega
    · have h1 : j < (bC c).latches.length := by omega
      have := V'.lat j h1
      rw [gt_nat h1, Q.lat j h1, e1] at this
      rw [← this]
      congr 1
      omega
  · have h0 : ∀ k ∈ defsOf c (ordM c), u ≠ k / 2 := fun k hk e => by
      obtain ⟨j, hj, rfl⟩ := List.mem_iff_getElem.1 hk
      exact h ⟨j, hj, by have := R.nDefs; have := R.ordLen; omega, e⟩
    rw [R.val_no st r hu h0, R.bI.off u hu h]
    exact lv_zero V'.zero
theorem Right.b_lit (Q : SeqOk (bC c)) (st r : List Bool) {l : Int} (hl : 0 ≤ l) : lv (valM (bC c) st r) (litX (bT c) l) = lv (valM c st r) l := lv_litX (R.bI.ok _ (by omega)).1 (R.b_val Q st r (by omega))
end
end SC
end Go.Proofs.Yticndofcfacopaa
end
section
/- hash: a circuit in order whose gates are a builder's stays as it is when it is built anew. -/
set_option linter.unusedVariables false
set_option linter.unusedSimpArgs false
namespace Go.Proofs.Yticndofcfacopaa
namespace SC
open Go.Proofs
section
variable {c : Circ} (Q : SeqOk c) (G : Gs (nB c) c.ands)
include Q G
end
end SC
end Go.Proofs.Yticndofcfacopaa
end
section
/- hash: the circuit that Build makes, as a circuit that may go in; its steps are those of the circuit. -/
set_option linter.unusedVariables false
set_option linter.unusedSimpArgs false
namespace Go.Proofs.Yticndofcfacopaa
namespace SC
open Go.Proofs
section
variable {c : Circ} (R : Right c)
include R
theorem Right.b_le {l : Int} (h : 0 ≤ l) : 0 ≤ litX (bT c) l ∧ litX (bT c) l ≤ 40000 := by
  have h1 := R.b_ok h
  have h2 := R.b_max
  have h3 := R.m1
  unfold okM at h1
  omega
theorem Right.b_okay (ho : c.Okay) : (bC c).Okay := by
  have le : ∀ {l : Int}, 0 ≤ l → fits (litX (bT c) l) := fun h => by have := R.b_le h; unfold fits; omega
  have hg := R.bG_len
  refine ⟨fun n hn => ?_, fun l hl => ?_, fun x hx => ?_, fun x hx => ?_, ho.symbols⟩
  · have hO := ho.lens
    unfold Circ.lens at hn hO
    simp only [List.mem_cons, List.not_mem_nil, or_false] at hn
    rcases hn with rfl | rfl | rfl | rfl | rfl | rfl | rfl | rfl | rfl | rfl
    · exact hO _ (by simp [bC])
    · exact hO _ (by simp [bC])
    · exact hO _ (by simp [bC])
    · exact hO _ (by simp [bC])
    · exact hO _ (by simp [bC])
    · exact hO _ (by simp [bC])
    · exact hO _ (by simp [bC])
    · have h1 := hO c.ands.length (by simp)
      have h2 : (bC c).ands.length ≤ c.ands.length := hg
      omega
    · exact hO _ (by simp [bC])
    · exact hO _ (by simp [bC])
  · obtain ⟨y, hy, rfl⟩ := List.mem_map.1 (show l ∈ c.justice.map (fun l => l.map (litX (bT c))) from hl)
    rw [List.length_map]
    exact ho.just y hy
  · obtain ⟨y, hy, rfl⟩ := List.mem_map.1 (show x ∈ c.latches.map (bLatch (bT c)) from hx)
    obtain ⟨h1, h2, h3⟩ := R.lat hy
    unfold defR at h1
    unfold inR at h2
    refine ⟨le (by omega), le (by omega), ?_⟩
    show fits (if 1 < y.2.2 then litX (bT c) y.2.2 else y.2.2)
    split
    · exact le (by omega)
    · unfold fits; omega
  · obtain ⟨k, hk, rfl⟩ := List.mem_iff_getElem.1 (show x ∈ bG c from hx)
    have g1 := R.bI.gs.low k hk
    have g2 := R.bI.gs.out k hk
    have h2 := R.b_max
    have h3 := R.m1
    have nn := R.bI.gs.nn
    dsimp only at g1 g2
    refine ⟨?_, ?_, ?_⟩ <;> (unfold fits; omega)
theorem Right.b_fits (hf : c.Fits) : (bC c).Fits := by
  have hg := R.bG_len
  refine ⟨?_, ?_, ?_, ?_, ?_, ?_, fun l hl => ?_, ?_, ?_, hf.symbols, hf.comments⟩
  · show (c.inputs.map (litX (bT c))).length * 8 ≤ _; rw [List.length_map]; exact hf.inputs
  · show (c.latches.map (bLatch (bT c))).length * 24 ≤ _; rw [List.length_map]; exact hf.latches
  · show (c.outputs.map (litX (bT c))).length * 8 ≤ _; rw [List.length_map]; exact hf.outputs
  · show (c.bads.map (litX (bT c))).length * 8 ≤ _; rw [List.length_map]; exact hf.bads
  · show (c.constraints.map (litX (bT c))).length * 8 ≤ _; rw [List.length_map]; exact hf.constraints
  · show (c.justice.map (fun l => l.map (litX (bT c)))).length * 24 ≤ _; rw [List.length_map]; exact hf.justice
  · obtain ⟨y, hy, rfl⟩ := List.mem_map.1 (show l ∈ c.justice.map (fun l => l.map (litX (bT c))) from hl)
    rw [List.length_map]; exact hf.each y hy
  · show (c.fairness.map (litX (bT c))).length * 8 ≤ _; rw [List.length_map]; exact hf.fairness
  · have := hf.ands
    show (bG c).length * 24 ≤ _
    omega
theorem Right.b_sane (hs : c.Sane) : (bC c).Sane := by
  have hg := R.bG_len
  refine ⟨fun l hl => ?_, hs.kinds, hs.ats, hs.names, hs.texts, ?_⟩
  · obtain ⟨y, hy, rfl⟩ := List.mem_map.1 (show l ∈ c.justice.map (fun l => l.map (litX (bT c))) from hl)
    rw [List.length_map]
    exact hs.just y hy
  · have h := hs.lens
    have e1 : (bC c).inputs.length = c.inputs.length := List.length_map _
    have e2 : (bC c).latches.length = c.latches.length := List.length_map _
    have e3 : (bC c).outputs.length = c.outputs.length := List.length_map _
    have e4 : (bC c).bads.length = c.bads.length := List.length_map _
    have e5 : (bC c).constraints.length = c.constraints.length := List.length_map _
    have e6 : (bC c).justice.length = c.justice.length := List.length_map _
    have e7 : (bC c).fairness.length = c.fairness.length := List.length_map _
    have e8 : (bC c).symbols = c.symbols := rfl
    have e9 : (bC c).comments = c.comments := rfl
    have e10 : (bC c).ands.length = (bG c).length := rfl
    rw [e1, e2, e3, e4, e5, e6, e7, e8, e9, e10]
    omega
theorem Right.b_step (he : (lookM c).2 = 0) (st r : List Bool) : stepE (bC c) st r = stepE c st r := by
  have Q := R.b_seq he
  have e1 : (bC c).inputs.length = c.inputs.length := List.length_map _
  have e2 : (bC c).latches.length = c.latches.length := List.length_map _
  unfold stepE
  rw [Q.look, he, e1, e2]
theorem Right.b_next (he : (lookM c).2 = 0) (st r : List Bool) : nextM (bC c) st r = nextM c st r := by
  have Q := R.b_seq he
  unfold nextM
  rw [R.b_step he]
  split
  · unfold nxtM
    show (c.latches.map (bLatch (bT c))).map _ = _
    rw [List.map_map]
    exact List.map_congr_left fun x hx => R.b_lit Q st r (R.use.next x hx).1
  · rfl
theorem Right.b_holds (he : (lookM c).2 = 0) (st r : List Bool) : holdsM (bC c) st r = holdsM c st r := by
  have Q := R.b_seq he
  unfold holdsM
  rw [R.b_step he]
  split
  · show (c.constraints.map (litX (bT c))).all _ = _
    rw [List.all_map]
    have : ∀ ls : List Int, (∀ l ∈ ls, 0 ≤ l) → ls.all (lv (valM (bC c) st r) ∘ litX (bT c)) = ls.all (lv (valM c st r)) := by
      intro ls
      induction ls with
      | nil => intro _; rfl
      | cons a s ih => intro h; rw [List.all_cons, List.all_cons, ih fun l hl => h l (List.mem_cons_of_mem _ hl), Function.comp_apply, R.b_lit Q st r (h a List.mem_cons_self)]
    exact this _ fun l hl => (R.use.constraints l hl).1
  · rfl
end
end SC
end Go.Proofs.Yticndofcfacopaa
end
section
/- A circuit of its own as entries: its rows apart, and together as one. shape.Copy by entries. -/
set_option linter.unusedVariables false
set_option linter.unusedSimpArgs false
namespace Go.Proofs.Yticndofcfacopaa
namespace SC
open Go.Proofs
/-- A circuit of its own, as an entry. -/
def cirX (base : Nat) (c : Circ) (h js : Hd) : EntX where
  own := fun b => ∃ i, (cirRows c h js js c.justice.length i).v.ownBlock = some b
  ok := fun w => CirOwn w base c h js
  lt := fun w H b ⟨i, hi⟩ => (Rows.lt H hi).2
  keep := fun w w' S H hc hn => Rows.chg H hc fun i b hb => hn b ⟨i, hb⟩
theorem In.cirAt {Γ : Mm} {w : World} {base : Nat} {c : Circ} {h js : Hd} (hi : In Γ (.any (cirX base c h js))) (M : Mem w Γ) : CirAt w c h js := CirOwn.at (hi.ok M)
def rowL (p : Hdl × List Int) : Ent := .vec icell 1 3 p.1.1 p.1.2 p.2
/-- The rows of a circuit, by their places. -/
def cirG (c : Circ) (h js : Hd) : Nat → Ent
  | 1 => rowL (h 1, c.inputs)
  | 2 => .vec tcells 3 83 (h 2).1 (h 2).2 c.latches
  | 3 => rowL (h 3, c.outputs)
  | 4 => rowL (h 4, c.bads)
  | 5 => rowL (h 5, c.constraints)
  | 6 => .vec encS 1 22 (h 6).1 (h 6).2 (jps c js)
  | 7 => rowL (h 7, c.fairness)
  | 8 => .vec tcells 3 57 (h 8).1 (h 8).2 c.ands
  | 9 => .vec scells 3 110 (h 9).1 (h 9).2 c.symbols
  | 10 => .vec bcell 1 9 (h 10).1 (h 10).2 c.comments
  | k + 11 => rowL (js k, c.justice.getD k [])
  | 0 => rowL ((none, 0), [])
def cirIx (c : Circ) : List Nat := [2, 6, 8, 9, 10, 1, 3, 4, 5, 7] ++ (List.range c.justice.length).map (· + 11)
theorem cirIx_nodup (c : Circ) : (cirIx c).Nodup := by
  unfold cirIx
  rw [List.nodup_append]
  refine ⟨by decide, nodup_map (fun a b e => by simpa using e) List.nodup_range, fun a ha b hb e => ?_⟩
  obtain ⟨k, _, rfl⟩ := List.mem_map.1 hb
  subst e
  simp at ha
theorem mem_cirIx {c : Circ} {i : Nat} : i ∈ cirIx c ↔ (1 ≤ i ∧ i ≤ 10) ∨ (11 ≤ i ∧ i - 11 < c.justice.length) := by
  unfold cirIx
  rw [List.mem_append, List.mem_map]
  constructor
  · rintro (h | ⟨k, hk, rfl⟩)
    · simp at h
      omega
    · have := List.mem_range.1 hk
      right
      omega
  · rintro (h | h)
    · left
      simp
      omega
    · exact .inr ⟨i - 11, List.mem_range.2 h.2, by omega⟩
theorem rw_nil {w : World} {base : Nat} : nilRw.own w base := World.ownsRow_nil _ _ _ _
theorem cirG_own {w : World} {base : Nat} {c : Circ} {h js : Hd} {i : Nat} (hi : i ∈ cirIx c) (H : (cirRows c h js js c.justice.length i).own w base) : (cirG c h js i).ok w := by
  match i with
  | 1 | 2 | 3 | 4 | 5 | 7 | 8 | 9 | 10 => exact ownsRow_low H
  | 6 =>
    have e6 : ((List.range c.justice.length).map fun k => if k < c.justice.length then slc js k (c.justice.getD k []).length else slc js k (c.justice.getD k []).length) = jcells c js := by
      unfold jcells
      exact List.map_congr_left fun k hk => by split <;> rfl
    simp only [Rw.own, cirRows] at H
    rw [e6, ← jps_cells] at H
    have H' : w.ownsRow base 22 1 (.slice (h 6).1 (jps c js).length (h 6).2) (jps c js).length ((jps c js).flatMap encS) := by rw [jps_len]; exact H
    exact ownsRow_low H'
  | k + 11 =>
    have hk : k < c.justice.length := by rw [mem_cirIx] at hi; omega
    simp only [Rw.own, cirRows, if_pos hk] at H
    exact ownsRow_low H
  | 0 => rw [mem_cirIx] at hi; omega
theorem own_cirG {w : World} {c : Circ} {h js : Hd} {i : Nat} (hi : i ∈ cirIx c) (H : (cirG c h js i).ok w) : (cirRows c h js js c.justice.length i).own w 0 := by
  match i with
  | 1 | 2 | 3 | 4 | 5 | 7 | 8 | 9 | 10 => exact H
  | 6 =>
    have e6 : ((List.range c.justice.length).map fun k => if k < c.justice.length then slc js k (c.justice.getD k []).length else slc js k (c.justice.getD k []).length) = jcells c js := by
      unfold jcells
      exact List.map_congr_left fun k hk => by split <;> rfl
    simp only [Rw.own, cirRows]
    rw [e6, ← jps_cells]
    have H' : w.ownsRow 0 22 1 (.slice (h 6).1 (jps c js).length (h 6).2) (jps c js).length ((jps c js).flatMap encS) := H
    rw [jps_len] at H'
    exact H'
  | k + 11 =>
    have hk : k < c.justice.length := by rw [mem_cirIx] at hi; omega
    simp only [Rw.own, cirRows, if_pos hk]
    exact H
  | 0 => exact rw_nil
theorem cirG_blk {c : Circ} {h js : Hd} {i k : Nat} (hi : i ∈ cirIx c) : (cirG c h js i).own k ↔ (cirRows c h js js c.justice.length i).v.ownBlock = some k := by
  match i with
  | 1 | 2 | 3 | 4 | 5 | 7 | 8 | 9 | 10 => exact Iff.rfl
  | 6 =>
    show (Value.slice (h 6).1 (jps c js).length (h 6).2).ownBlock = some k ↔ (Value.slice (h 6).1 c.justice.length (h 6).2).ownBlock = some k
    rw [jps_len]
  | n + 11 =>
    have hk : n < c.justice.length := by rw [mem_cirIx] at hi; omega
    simp only [cirRows, if_pos hk]
    exact Iff.rfl
  | 0 => rw [mem_cirIx] at hi; omega
theorem cirRows_no {c : Circ} {h js : Hd} {i : Nat} (hi : i ∉ cirIx c) : cirRows c h js js c.justice.length i = nilRw := by
  rw [mem_cirIx] at hi
  match i with
  | 1 | 2 | 3 | 4 | 5 | 6 | 7 | 8 | 9 | 10 => omega
  | n + 11 =>
    have hk : ¬ n < c.justice.length := by omega
    simp only [cirRows, if_neg hk]
  | 0 => rfl
theorem pair_nodup {α : Type} {R : α → α → Prop} : ∀ {l : List α}, l.Nodup → (∀ a ∈ l, ∀ b ∈ l, a ≠ b → R a b) → l.Pairwise R
  | [], _, _ => .nil
  | a :: r, h, hR => by
    rw [List.nodup_cons] at h
    refine List.pairwise_cons.2 ⟨fun b hb => hR a List.mem_cons_self b (List.mem_cons_of_mem _ hb) fun e => h.1 (e ▸ hb), pair_nodup h.2 fun x hx y hy => hR x (List.mem_cons_of_mem _ hx) y (List.mem_cons_of_mem _ hy)⟩
theorem pair_all {α : Type} {R : α → α → Prop} (hs : ∀ a b, R a b → R b a) : ∀ {l : List α}, l.Pairwise R → ∀ a ∈ l, ∀ b ∈ l, a ≠ b → R a b
  | [], _, a, ha => by cases ha
  | x :: r, h, a, ha => fun b hb hne => by
    obtain ⟨h1, h2⟩ := List.pairwise_cons.1 h
    rcases List.mem_cons.1 ha with rfl | ha' <;> rcases List.mem_cons.1 hb with rfl | hb'
    · exact absurd rfl hne
    · exact h1 b hb'
    · exact hs _ _ (h1 a ha')
    · exact pair_all hs h2 a ha' b hb' hne
theorem CirOwn.mem {w : World} {base : Nat} {c : Circ} {h js : Hd} (H : CirOwn w base c h js) : Mem w ((cirIx c).map (cirG c h js)) := by
  refine ⟨fun E hE => ?_, ?_⟩
  · obtain ⟨i, hi, rfl⟩ := List.mem_map.1 hE
    exact cirG_own hi (Rows.own H i)
  · rw [List.pairwise_map]
    exact pair_nodup (cirIx_nodup c) fun a ha b hb hne k h1 h2 => Rows.apart H a b k hne ((cirG_blk ha).1 h1) ((cirG_blk hb).1 h2)
theorem Mem.cir {w : World} {c : Circ} {h js : Hd} (M : Mem w ((cirIx c).map (cirG c h js))) : CirOwn w 0 c h js := by
  have ap := M.ap
  rw [List.pairwise_map] at ap
  have ap := pair_all (fun a b h => Ent.apart.symm h) ap
  refine ⟨fun i => ?_, fun i j k hne hi hj => ?_⟩
  · by_cases h1 : i ∈ cirIx c
    · exact own_cirG h1 (M.ok _ (List.mem_map.2 ⟨i, h1, rfl⟩))
    · rw [cirRows_no h1]
      exact rw_nil
  · by_cases h1 : i ∈ cirIx c
    · by_cases h2 : j ∈ cirIx c
      · exact ap i h1 j h2 hne k ((cirG_blk h1).2 hi) ((cirG_blk h2).2 hj)
      · rw [cirRows_no h2] at hj
        cases hj
    · rw [cirRows_no h1] at hi
      cases hi
/-- The lists of numbers of a circuit: inputs, outputs, bads, constraints, fairness, justice. -/
def rowsOf (c : Circ) (h js : Hd) : List (Hdl × List Int) := [(h 1, c.inputs), (h 3, c.outputs), (h 4, c.bads), (h 5, c.constraints), (h 7, c.fairness)] ++ jps c js
def bE (c : Circ) (h js : Hd) : Mm := .vec tcells 3 83 (h 2).1 (h 2).2 c.latches :: .vec encS 1 22 (h 6).1 (h 6).2 (jps c js) :: .vec tcells 3 57 (h 8).1 (h 8).2 c.ands :: .vec scells 3 110 (h 9).1 (h 9).2 c.symbols :: .vec bcell 1 9 (h 10).1 (h 10).2 c.comments :: fam rowJ (rowsOf c h js)
theorem flat_row : ∀ ps : List (Hdl × List Int), ps.flatMap rowJ = ps.map rowL
  | [] => rfl
  | a :: r => by rw [List.flatMap_cons, flat_row r]; rfl
theorem fam_perm (ps : List (Hdl × List Int)) : (ps.map rowL).Perm (fam rowJ ps) := by
  have : fam rowJ ps = (ps.map rowL).reverse := by
    unfold fam
    rw [← List.map_reverse]
    exact flat_row _
  rw [this]
  exact (List.reverse_perm _).symm
theorem bE_perm (c : Circ) (h js : Hd) : ((cirIx c).map (cirG c h js)).Perm (bE c h js) := by
  have e : (cirIx c).map (cirG c h js) = [cirG c h js 2, cirG c h js 6, cirG c h js 8, cirG c h js 9, cirG c h js 10] ++ (rowsOf c h js).map rowL := by
    unfold cirIx rowsOf jps
    simp only [List.map_append, List.map_map, List.map_cons, List.map_nil, List.cons_append, List.nil_append]
    rfl
  rw [e]
  exact (fam_perm _).append_left [cirG c h js 2, cirG c h js 6, cirG c h js 8, cirG c h js 9, cirG c h js 10]
/-- The rows together are a circuit of its own. -/
theorem bE_cir (c : Circ) (h js : Hd) : Wk (bE c h js) [.any (cirX 0 c h js)] := by
  refine ⟨fun w M => Mem.one (E := .any (cirX 0 c h js)) (Mem.cir (M.perm (bE_perm c h js).symm)), fun k hk => ?_⟩
  rw [owns_perm (bE_perm c h js).symm]
  have hk' : ∃ i, (cirRows c h js js c.justice.length i).v.ownBlock = some k := (owns_cons.1 hk).elim id fun h => absurd h owns_nil
  obtain ⟨i, hi⟩ := hk'
  by_cases h1 : i ∈ cirIx c
  · exact ⟨_, List.mem_map.2 ⟨i, h1, rfl⟩, (cirG_blk h1).2 hi⟩
  · rw [cirRows_no h1] at hi
    cases hi
/-- shape.Copy. -/
theorem CopyG {w : World} {c : Circ} {h js : Hd} (H : CirAt w c h js) (hf : c.Fits) : CVN Try.prog 70 [.agg (ccells c h).toArray] w fun v N => ∃ h' js', v = .agg (ccells c h').toArray ∧ N = bE c h' js' :=
  CV.mono (Copy_cv H hf) fun v w' ⟨h', js', e1, hH, hc⟩ => by
    refine ⟨bE c h' js', Mem.join (hH.mem.perm (bE_perm c h' js')) (.one hc) fun k h1 ⟨F, hF, h2⟩ => ?_, h', js', e1, rfl⟩
    simp only [List.mem_singleton] at hF
    subst hF
    rw [owns_perm (bE_perm c h' js').symm] at h1
    obtain ⟨E, hE, hk⟩ := h1
    obtain ⟨i, hi, rfl⟩ := List.mem_map.1 hE
    have := (Rows.lt hH ((cirG_blk hi).1 hk)).1
    have := h2.1
    omega
end SC
end Go.Proofs.Yticndofcfacopaa
end
section
/- The builder of the reference: its memory; what each of its functions does. -/
set_option linter.unusedVariables false
set_option linter.unusedSimpArgs false
namespace Go.Proofs.Yticndofcfacopaa
namespace SC
open Go.Proofs Go.Maps
attribute [local irreducible] WC WL WX WS WO OX Does DoesU Enters CV Pure thenQ blockQ retQ Wants
set_option maxRecDepth 100000
section
variable {w : World} {g : Nat} {S : Nat → Prop} {i l : Int} {gs : List Gate} {x y s : Int}
end
end SC
end Go.Proofs.Yticndofcfacopaa
end
section
/- The builder of the reference: 'and'. -/
set_option linter.unusedVariables false
set_option linter.unusedSimpArgs false
namespace Go.Proofs.Yticndofcfacopaa
namespace SC
open Go.Proofs Go.Maps
attribute [local irreducible] WC WL WX WS WO OX Does DoesU Enters CV Pure thenQ blockQ retQ Wants
set_option maxRecDepth 100000
end SC
end Go.Proofs.Yticndofcfacopaa
end
section
/- The builder of the reference: the functions around 'and'. -/
set_option linter.unusedVariables false
set_option linter.unusedSimpArgs false
namespace Go.Proofs.Yticndofcfacopaa
namespace SC
open Go.Proofs Go.Maps
attribute [local irreducible] WC WL WX WS WO OX Does DoesU Enters CV Pure thenQ blockQ retQ Wants
set_option maxRecDepth 100000
section
variable {n : Int} {gs : List Gate} {x y s : Int}
theorem AndM_ok (hx : okM n gs x) (hy : okM n gs y) : AndM n gs x y = andM n gs x y := if_pos ⟨hx, hy⟩
theorem OrM_ok (hx : okM n gs x) (hy : okM n gs y) : OrM n gs x y = orM n gs x y := if_pos ⟨hx, hy⟩
theorem XorM_ok (hx : okM n gs x) (hy : okM n gs y) : XorM n gs x y = xorM n gs x y := if_pos ⟨hx, hy⟩
end
section
variable {w : World} {g : Nat} {S : Nat → Prop} {i l : Int} {gs : List Gate} {x y s : Int}
end
end SC
end Go.Proofs.Yticndofcfacopaa
end
section
/- Builders as entries; their calls by entries. -/
set_option linter.unusedVariables false
set_option linter.unusedSimpArgs false
namespace Go.Proofs.Yticndofcfacopaa
namespace SC
open Go.Proofs
/-- A builder of hash, with the blocks that it owns. -/
def bldX (g : Nat) (S : Nat → Prop) (i l : Int) (gs : List Gate) : EntX where
  own := S
  ok := fun w => Bld w g S i l gs
  lt := fun w ⟨v, m, H⟩ k hk => H.lt k hk
  keep := fun w w' T H hc hn => H.chg hc hn
/-- A call of a builder: what it answers, and the builder behind it. -/
def BldR (g : Nat) (i l : Int) (r : Int × Int × List Gate) (v : Value) (N : Mm) : Prop := v = .tuple #[nu r.1, nu r.2.1] ∧ ∃ S', N = [.any (bldX g S' i l r.2.2)]
theorem After.cvm {f : FuncId} {args : List Value} {w : World} {g : Nat} {S : Nat → Prop} {i l : Int} {gs : List Gate} {r : Int × Int × List Gate} (h : CV Try.prog f args w (After w g S i l r)) : CVM Try.prog f args w [.any (bldX g S i l gs)] (BldR g i l r) :=
  CV.mono h fun v w' ⟨e, S', hB, hS⟩ => by
    have ho : ∀ k, owns [.any (bldX g S i l gs)] k ↔ S k := fun k => by
      rw [owns_cons]
      exact ⟨fun h => h.elim id fun h => absurd h owns_nil, fun h => .inl h⟩
    have hB' : (Ent.any (bldX g S' i l r.2.2)).ok w' := hB
    have hC : (Ent.old w (owns [.any (bldX g S i l gs)])).ok w' := Chg.mono hS.chg fun k hk => (ho k).2 hk
    refine ⟨[.any (bldX g S' i l r.2.2)], Mem.join (.one hB') (.one hC) fun k h1 h2 => ?_, e, S', rfl⟩
    rw [owns_cons] at h1 h2
    have h1' : S' k := h1.elim id fun h => absurd h owns_nil
    have h2' : k < w.heap.size ∧ ¬ owns [.any (bldX g S i l gs)] k := h2.elim id fun h => absurd h owns_nil
    rcases hS.new k h1' with h3 | h3
    · exact h2'.2 ((ho k).2 h3)
    · omega
/-- and. -/
theorem andG {w : World} {g : Nat} {S : Nat → Prop} {i l : Int} {gs : List Gate} {x y : Int} (hi : 0 ≤ i) (hl : 0 ≤ l) (G : Gs (i + l) gs) (hn : i + l + gs.length ≤ 16384) (hx : okM (i + l) gs x) (hy : okM (i + l) gs y) (M : Mem w [.any (bldX g S i l gs)]) :
    CVM Try.prog 69 [ptr g, num x, num y] w [.any (bldX g S i l gs)] (BldR g i l (andM (i + l) gs x y)) := After.cvm (and_cv (M.head) hi hl (G.inv hn) hx hy)
theorem OrG {w : World} {g : Nat} {S : Nat → Prop} {i l : Int} {gs : List Gate} {x y : Int} (hi : 0 ≤ i) (hl : 0 ≤ l) (G : Gs (i + l) gs) (hn : i + l + gs.length ≤ 16384) (hx : okM (i + l) gs x) (hy : okM (i + l) gs y) (M : Mem w [.any (bldX g S i l gs)]) :
    CVM Try.prog 40 [ptr g, num x, num y] w [.any (bldX g S i l gs)] (BldR g i l (orM (i + l) gs x y)) := by
  have := Or_cv (x := x) (y := y) (M.head : Bld w g S i l gs) hi hl (G.inv hn)
  rw [OrM_ok hx hy] at this
  exact After.cvm this
theorem XorG {w : World} {g : Nat} {S : Nat → Prop} {i l : Int} {gs : List Gate} {x y : Int} (hi : 0 ≤ i) (hl : 0 ≤ l) (G : Gs (i + l) gs) (hn : i + l + gs.length ≤ 16384) (hx : okM (i + l) gs x) (hy : okM (i + l) gs y) (M : Mem w [.any (bldX g S i l gs)]) :
    CVM Try.prog 41 [ptr g, num x, num y] w [.any (bldX g S i l gs)] (BldR g i l (xorM (i + l) gs x y)) := by
  have := Xor_cv (x := x) (y := y) (M.head : Bld w g S i l gs) hi hl (G.inv hn)
  rw [XorM_ok hx hy] at this
  exact After.cvm this
/-- New, where the numbers are right. -/
theorem NewG {w : World} {a b : Int} (h : ¬ newBad a b) : CVN Try.prog 39 [num a, num b] w fun v N => ∃ g S', v = .tuple #[ptr g, nu 0] ∧ N = [.any (bldX g S' a b [])] :=
  CV.mono (New_ok h) fun v w' ⟨g, S', e, hB, hS⟩ => by
    have hB' : (Ent.any (bldX g S' a b [])).ok w' := hB
    have hC : (Ent.old w none_).ok w' := hS.chg
    refine ⟨[.any (bldX g S' a b [])], Mem.join (.one hB') (.one hC) fun k h1 h2 => ?_, g, S', e, rfl⟩
    rw [owns_cons] at h1 h2
    have h1' : S' k := h1.elim id fun h => absurd h owns_nil
    have h2' : k < w.heap.size ∧ ¬ none_ k := h2.elim id fun h => absurd h owns_nil
    rcases hS.new k h1' with h3 | h3
    · exact h2'.2 h3
    · omega
end SC
end Go.Proofs.Yticndofcfacopaa
end
section
/- Size and Gates of a builder, by entries. -/
set_option linter.unusedVariables false
set_option linter.unusedSimpArgs false
namespace Go.Proofs.Yticndofcfacopaa
namespace SC
open Go.Proofs
theorem SizeG {Γ : Mm} {w : World} {g : Nat} {S : Nat → Prop} {i l : Int} {gs : List Gate} (hi : In Γ (.any (bldX g S i l gs))) (M : Mem w Γ) : CVN Try.prog 43 [ptr g] w fun v N => N = [] ∧ v = nu gs.length := by
  obtain ⟨v, m, H⟩ : Bld w g S i l gs := hi.ok M
  obtain ⟨A, c, rfl⟩ := row_form H.row
  exact CVN.of (Size_cv H.head) fun v w' ⟨e1, e2⟩ => ⟨by rw [e2]; exact Chg.refl w none_, e1⟩
end SC
end Go.Proofs.Yticndofcfacopaa
end
section
/- hash: Build's closure; a builder opened: its parts as entries. -/
set_option linter.unusedVariables false
set_option linter.unusedSimpArgs false
namespace Go.Proofs.Yticndofcfacopaa
namespace SC
open Go.Proofs
section
variable {P : Program} {n : Nat} {all : List Oper} {K : Env → Mm → Prop} {m : Md} {e : Env} {Γ Γ' Γ1 : Mm} {d : Option Tmp} {ty t t' : TypeId} {x y : Operand} {c : Code} {Q : PostG}
theorem G_xorb {a b : Int} (h : ev e x = some (.int .i64 a)) (h1 : ev e y = some (.int .i64 b)) (hb : 0 ≤ b) (hb1 : b ≤ 1) (h3 : 0 ≤ a) (h4 : a ≤ 9223372036854775807) (hr : GN P n all K m (push d (nu (xorb a b)) e) Γ) : GX P n all K m d (.binOp .xor t x y t') ty e Γ :=
  GX_pure (p_xor01 (P := P) (ty := ty) (t := t) (t' := t') h h1 hb hb1 (by omega) h4) hr
theorem GC_ex {ι : Type} {Γs : ι → Mm} (h : ∀ w, Mem w Γ → ∃ x, Mem w (Γs x)) (hr : ∀ x, GC P n c Q e (Γs x)) : GC P n c Q e Γ := fun w M => by
  obtain ⟨x, M'⟩ := h w M
  exact hr x w M'
theorem bld_open {w : World} {g : Nat} {S : Nat → Prop} {i l : Int} {gs : List Gate} (M : Mem w (.any (bldX g S i l gs) :: Γ)) : ∃ x : Option Addr × Nat × Nat, Mem w (.box g 101 [num i, num l, .slice x.1 gs.length x.2.1, .map (some x.2.2)] :: .vec tcells 3 57 x.1 x.2.1 gs :: Γ) := by
  obtain ⟨v, mm, H⟩ : Bld w g S i l gs := M.head
  obtain ⟨A, cp, rfl⟩ := row_form H.row
  have hap := (List.pairwise_cons.1 M.ap).1
  have o : (Ent.vec tcells 3 57 A cp gs).ok w := H.row
  have M1 : Mem w (.vec tcells 3 57 A cp gs :: Γ) := M.tail.cons o fun k hk ⟨F, hF, h2⟩ => hap F hF k (H.hv k hk) h2
  refine ⟨(A, cp, mm), M1.cons (E := .box g 101 [num i, num l, .slice A gs.length cp, .map (some mm)]) H.head fun k hk h2 => ?_⟩
  have hk' : k = g := hk
  subst hk'
  rcases owns_cons.1 h2 with h2 | ⟨F, hF, h2⟩
  · rcases H.row.2 with ⟨hv, _⟩ | ⟨g', cap, cur, hv, _, hg, _⟩
    · have h3 : (Value.slice A gs.length cp).ownBlock = some k := h2
      rw [hv] at h3
      cases h3
    · have e1 : g' = k := by
        have h3 : (Value.slice A gs.length cp).ownBlock = some k := h2
        rw [hv] at h3
        simpa [Value.ownBlock] using h3
      subst e1
      have h4 := H.head
      unfold Blk at h4
      rw [hg] at h4
      simp at h4
  · exact hap F hF k H.hg h2
theorem GC_bld {g : Nat} {S : Nat → Prop} {i l : Int} {gs : List Gate} (hR : Rem Γ (.any (bldX g S i l gs)) Γ1) (h : ∀ A cp mm, GC P n c Q e (.box g 101 [num i, num l, .slice A gs.length cp, .map (some mm)] :: .vec tcells 3 57 A cp gs :: Γ1)) : GC P n c Q e Γ :=
  GC_ex (Γs := fun x : Option Addr × Nat × Nat => .box g 101 [num i, num l, .slice x.1 gs.length x.2.1, .map (some x.2.2)] :: .vec tcells 3 57 x.1 x.2.1 gs :: Γ1) (fun w M => bld_open (M.perm hR.perm)) fun x => h x.1 x.2.1 x.2.2
theorem G_ldIn {td : TypeDesc} {sz by_ : Nat} {zv : Value} {g : Nat} {S : Nat → Prop} {i l : Int} {gs : List Gate} [T : Ty P t td sz zv by_ false] (h : ev e x = some (.pointer (some ⟨g, 0, none⟩))) (hi : In Γ (.any (bldX g S i l gs))) (hr : GN P n all K m (push d (num i) e) Γ) : GX P n all K m d (.load t x) ty e Γ :=
  GX_def (fun w M => by
    obtain ⟨v, mm, H⟩ : Bld w g S i l gs := hi.ok M
    exact does_load1 h H.head rfl) hr
end
theorem greatestG {w : World} {g : Nat} {i l : Int} {A : Option Addr} {n c : Nat} {m : Value} (hb : Blk w g 101 [num i, num l, .slice A n c, m]) (hi : 0 ≤ i) (hl : 0 ≤ l) (hn : i + l + n ≤ 16384) : CVN Try.prog 71 [ptr g] w fun v N => N = [] ∧ v = num (i + l + n) :=
  CVN.of (greatest_cv hb hi hl hn) fun v w' ⟨e1, e2⟩ => ⟨by rw [e2]; exact Chg.drew w none_, e1⟩
attribute [local irreducible] WC WL WX WS WO OX Does DoesU Enters CV Pure thenQ blockQ retQ Wants retQC GC GL GS GX RdB thenG blockG retG Rd At gt CVN CVM
set_option maxRecDepth 100000
theorem litB_cv {w : World} {b : Nat} {A : Option Addr} {k : Nat} {to : List Int} {l : Int} (hb : Blk w b 22 [.slice A to.length k]) (hA : RowA w icell 1 A to) (h0 : 0 ≤ l) (h1 : l / 2 < to.length) (h3 : to.length ≤ 1000000) (h2 : 0 ≤ gt to (l / 2) ∧ gt to (l / 2) ≤ 100000) : CVN Try.prog 68 [nu l, pt b] w fun v N => N = [] ∧ v = nu (litX to l) := by
  have e0 : litX to l = xorb (gt to (l / 2)) (l % 2) := by
    unfold litX
    rw [show L to (l / 2) = gt to (l / 2) by unfold gt L; rfl]
  rw [e0]
  refine CVN.enter 12 [3] Try.func68 rfl rfl rfl (by decide) rfl ?_
  repeat' (first
      | (apply G_xorb; eq_refl; eq_refl; omega; omega; omega; omega)
      | (apply GC_seqK; intro K hK)
      | (apply hK; clear hK K)
      | (clear hK K; apply hK; clear hK K)
      | (clear hK K; clear hK K; apply hK; clear hK K)
      | (clear hK K; clear hK K; clear hK K; apply hK; clear hK K)
      | (apply GC_block)
      | (apply GC_region)
      | (apply GL_nil)
      | (apply thenG_normal)
      | (apply thenG_ret)
      | (apply thenG_exit)
      | (apply blockG_hit)
      | (apply blockG_miss; eq_refl)
      | (apply blockG_ret)
      | (apply blockG_normal)
      | (apply GC_ret)
      | (apply GC_exit)
      | (apply GC_skip)
      | (apply GC_if_true; eq_refl)
      | (apply GC_if_false; eq_refl)
      | (apply GC_ifD; eq_refl; all_goals intro _)
      | (apply GC_if; eq_refl; all_goals intro _)
      | (apply retG1; eq_refl)
      | (apply retG2; eq_refl; eq_refl)
      | (apply retG3; eq_refl; eq_refl; eq_refl)
      | (apply retG0)
      | (apply retG0n)
      | (apply GL_on; eq_refl; eq_refl)
      | (apply G_pv; eq_refl; first | exact trivial | omega)
      | (apply G_ld; eq_refl; (repeat first | exact In.here | apply In.there | apply In.skip); eq_refl)
      | (apply G_ldW; eq_refl; (repeat first | exact In.here | apply In.there | apply In.skip); eq_refl)
      | (apply G_ldO; eq_refl; (repeat first | exact In.here | apply In.there | apply In.skip); assumption; eq_refl)
      | (apply G_ldR; eq_refl; (apply RdB.oldR; (repeat first | exact In.here | apply In.there | apply In.skip); assumption); eq_refl)
      | (apply G_ldOW; eq_refl; (repeat first | exact In.here | apply In.there | apply In.skip); assumption; eq_refl)
      | (apply G_rd; eq_refl; (first | (apply Rd.own; (repeat first | exact In.here | apply In.there | apply In.skip); infer_instance) | (apply Rd.old; (repeat first | exact In.here | apply In.there | apply In.skip); assumption) | (apply Rd.oldR; (repeat first | exact In.here | apply In.there | apply In.skip); assumption) | exact Rd.nil | assumption); (case ih => infer_instance); omega; omega; eq_refl)
      | (apply G_rdF; eq_refl; (first | (apply Rd.own; (repeat first | exact In.here | apply In.there | apply In.skip); infer_instance) | (apply Rd.old; (repeat first | exact In.here | apply In.there | apply In.skip); assumption) | (apply Rd.oldR; (repeat first | exact In.here | apply In.there | apply In.skip); assumption) | exact Rd.nil | assumption); (case ih => infer_instance); omega; omega; eq_refl)
      | (apply G_rdW; eq_refl; (first | (apply Rd.own; (repeat first | exact In.here | apply In.there | apply In.skip); infer_instance) | (apply Rd.old; (repeat first | exact In.here | apply In.there | apply In.skip); assumption) | (apply Rd.oldR; (repeat first | exact In.here | apply In.there | apply In.skip); assumption) | exact Rd.nil | assumption); infer_instance; (case ih => infer_instance); omega; omega)
      | (apply G_cmpT; eq_refl; eq_refl; omega)
      | (apply G_cmpF; eq_refl; eq_refl; omega)
      | (apply G_cmp; eq_refl; eq_refl; all_goals intro _)
      | (apply G_ix; eq_refl; eq_refl; (first | (apply Rd.own; (repeat first | exact In.here | apply In.there | apply In.skip); infer_instance) | (apply Rd.old; (repeat first | exact In.here | apply In.there | apply In.skip); assumption) | (apply Rd.oldR; (repeat first | exact In.here | apply In.there | apply In.skip); assumption) | exact Rd.nil | assumption); (first | eq_refl | omega); omega; omega)
      | (apply G_ixA; eq_refl; eq_refl; omega; omega))
  exact ⟨[], (by repeat first | exact Wk.nil | exact Wk.refl | (apply Wk.cons; (focus ((repeat first | exact Rem.here | apply Rem.there | apply Rem.skip); done))) | apply Wk.nilv | apply Wk.last | apply Wk.drop), rfl, rfl⟩
end SC
end Go.Proofs.Yticndofcfacopaa
end
section
/- The gates on which literals hang: the plain law. -/
set_option linter.unusedVariables false
set_option linter.unusedSimpArgs false
namespace Go.Proofs.Yticndofcfacopaa
namespace SC
open Go.Proofs
end SC
end Go.Proofs.Yticndofcfacopaa
end
section
/- trestleref10: lits, spread within a step, Inputs. -/
set_option linter.unusedVariables false
set_option linter.unusedSimpArgs false
namespace Go.Proofs.Yticndofcfacopaa
namespace SC
open Go.Proofs
theorem Upd.left {Θ Θ' Γ : Mm} {E F : Ent} (h : Upd Θ E F Θ') : Upd (Θ ++ Γ) E F (Θ' ++ Γ) := by
  induction h with
  | here => exact .here
  | there _ ih => exact .there ih
section
variable {P : Program} {n : Nat} {all : List Oper} {K : Env → Mm → Prop} {A : List Fl} {Θ Θ' C : Mm} {r : List PStep} {e : Env} {Γ Γ' : Mm} {j : Nat} {d : Option Tmp} {ty t t0 : TypeId} {x y : Operand}
/-- What was kept apart comes back. -/
theorem GS_nilP (h : K e (Θ ++ Γ)) : GS P n all K [] Θ [] e Γ := by
  intro B a Q fuel listed w hB ha hs M hQ hp hns hsz hsh hF hok
  obtain rfl : B = [] := by simpa using hB
  simp only [planM, Bool.and_eq_true, List.isEmpty_iff] at hok
  obtain rfl := Nat.eq_of_beq_eq_true hok.2
  exact ⟨hok.1.2, hQ a w e (Θ ++ Γ) ha (show Mem w (Θ ++ Γ) from M) h⟩
/-- Entries kept apart: no quiet operation looks at them. -/
theorem GC_drawsP {id : Nat} {l : List Oper} {Q : PostG} (pl : List PStep) (hm : P.follows .mixedOrders = true) (hns : Region.noSelect l.toArray = true) (hok : planM l.toArray pl l.toArray.size (Array.replicate l.toArray.size false) [] = true) (hC : Rems Γ C Γ')
    (h : GS P n l (fun e Γ => Q .normal e Γ) [] C pl e Γ') : GC P n (.region id l.toArray true) Q e Γ := fun w M a ha =>
  wp_region_any hm (wpAny_of_M _ _ _ _ _ (h [] a _ _ _ _ rfl ha (fun _ _ h => (by cases h)) (show Mem w.drew (C ++ Γ') from Mem.takes hC M.drew) (fun a' w' e' Γ' ha' M' hK => ⟨e', ha', Γ', M', hK⟩) lift_panic hns (by simp) (Shut.init _ _ _) ⟨fun _ h => (by cases h), List.Pairwise.nil, List.Pairwise.nil⟩ hok))
theorem G_stVP {α : Type} {enc : α → List Value} {td : TypeDesc} {by_ : Nat} {zv v : Value} {ag : Bool} {b c : Nat} {i : Int} {l : List α} (a : α) [T : Ty P t td 1 zv by_ ag] (h : ev e x = some (.pointer (some ⟨b, 0 + i.toNat * 1, none⟩))) (h1 : ev e y = some v) (hv : v.cells = #[v]) (h2 : v.oneCell' = true)
    (hU : Upd Θ (.vec enc 1 t0 (some ⟨b, 0, none⟩) c l) (.vec enc 1 t0 (some ⟨b, 0, none⟩) c (l.set i.toNat a)) Θ') (N : Enc enc 1) (ih : Inhabited α) (ha : enc a = [v]) (h0 : 0 ≤ i) (hlt : i < l.length) (hr : GS P n all K A Θ' r (push d undef e) Γ) : GX P n all K (.c j A Θ r) d (.store t x y) ty e Γ := fun pos af g ho hg hd hA =>
  GS_priv (R := fun v Θ1 N => v = undef ∧ Θ1 = Θ' ∧ N = []) ho hg hd hA (fun Δ w M => by
    have hU' := hU.left (Γ := Γ)
    have hb : (Ent.vec enc 1 t0 (some ⟨b, 0, none⟩) c l).ok w := by obtain ⟨R, p, _⟩ := hU'.perm; exact M.right.ok _ (p.mem_iff.2 (by simp))
    obtain ⟨hl, e1⟩ := gt_get h0 hlt
    have ha' : enc a = (enc l[i.toNat]).set 0 v := by
      have := N.len l[i.toNat]
      rcases hh : enc l[i.toNat] with _ | ⟨u, _ | ⟨u', r⟩⟩
      · rw [hh] at this; simp at this
      · rw [ha]; rfl
      · rw [hh] at this; simp at this
    obtain ⟨g, cur, e2, hB, hlt2, hown⟩ := vec_store hb hl (Nat.zero_lt_one) a v ha'
    cases e2
    have e3 : (⟨b, 0 + i.toNat * 1, none⟩ : Addr) = ⟨b, i.toNat * 1 + 0, none⟩ := by simp
    rw [e3] at h
    have hown' : (Ent.vec enc 1 t0 (some ⟨b, 0, none⟩) c (l.set i.toNat a)).ok (w.setRow b (cur.set (i.toNat * 1 + 0) v).toArray) := by
      show World.ownsRow _ _ _ _ _ _ _
      rw [List.length_set]
      exact hown
    refine .inr (.inr ⟨_, does_store1 h h1 hB hlt2 hv h2, Θ', [], ?_, rfl, rfl, rfl⟩)
    exact Mem.upd hU' M (Chg.setRow w b _ (S := fun k => k = b) rfl) (fun k _ h => by subst h; rfl) hown' fun k hk => .inl hk) fun v Θ1 N ⟨e1, e2, e3⟩ => by rw [e1, e2, e3]; exact hr
end
attribute [local irreducible] WC WL WX WS WO OX Does DoesU Enters CV Pure thenQ blockQ retQ Wants retQC GC GL GS GX RdB thenG blockG retG Rd At gt CVN CVM
set_option maxRecDepth 100000
end SC
end Go.Proofs.Yticndofcfacopaa
end
section
/- Families of rows bound together: one row taken out and put back; a slice of slices that grows by another one; the circuit that Build makes put together. -/
set_option linter.unusedVariables false
set_option linter.unusedSimpArgs false
namespace Go.Proofs.Yticndofcfacopaa
namespace SC
open Go.Proofs
section
variable {P : Program} {n : Nat} {all : List Oper} {K : Env → Mm → Prop} {m : Md} {e : Env} {Γ Γ' Γ1 Γ2 Θ : Mm} {d : Option Tmp} {ty t t0 : TypeId} {x y : Operand} {c : Code} {Q : PostG} {td : TypeDesc} {sz by_ : Nat} {zv : Value} {ag : Bool}
theorem Wk.part {C D : Mm} (hR : Rems Γ C Γ1) (h : Wk C D) (h2 : Wk Γ1 Γ') : Wk Γ (D ++ Γ') := by
  refine ⟨fun w M => ?_, fun k hk => ?_⟩
  · have M1 := M.perm hR.perm
    exact (h.mem w M1.left).join (h2.mem w M1.right) fun k k1 k2 => M1.sep k (h.sub k k1) (h2.sub k k2)
  · rw [owns_perm hR.perm, owns_append]
    exact (owns_append.1 hk).imp (h.sub k) (h2.sub k)
/-- One entry becomes others. -/
theorem GC_wk {E : Ent} {D : Mm} (hR : Rem Γ E Γ1) (h : Wk [E] D) (hr : GC P n c Q e (D ++ Γ1)) : GC P n c Q e Γ := fun w M => hr w ((Wk.part (.cons hR .nil) h .refl).mem w M)
theorem bun_in {D : Mm} : Wk D [.any (bun D)] := ⟨fun w M => Mem.one (E := .any (bun D)) M, fun k hk => (owns_cons.1 hk).elim id fun h => absurd h owns_nil⟩
theorem bun_out {D : Mm} : Wk [.any (bun D)] D := ⟨fun w M => M.head, fun k hk => owns_cons.2 (.inl hk)⟩
theorem fam_mid (a b : List (Hdl × List Int)) (x : Hdl × List Int) : (fam rowJ (a ++ x :: b)).Perm (rowL x :: fam rowJ (a ++ b)) := by
  refine (fam_perm _).symm.trans ?_
  rw [List.map_append, List.map_cons]
  refine List.perm_middle.trans ((List.Perm.cons _) ?_)
  rw [← List.map_append]
  exact fam_perm _
theorem row_out (a b : List (Hdl × List Int)) (x : Hdl × List Int) : Wk [.any (bun (fam rowJ (a ++ x :: b)))] [rowL x, .any (bun (fam rowJ (a ++ b)))] :=
  bun_out.trans ((Wk.perm (fam_mid a b x)).trans (Wk.cons .here bun_in))
theorem row_in (a b : List (Hdl × List Int)) (x : Hdl × List Int) : Wk [rowL x, .any (bun (fam rowJ (a ++ b)))] [.any (bun (fam rowJ (a ++ x :: b)))] :=
  (Wk.cons .here bun_out).trans ((Wk.perm (fam_mid a b x).symm).trans bun_in)
/-- A store into a box that is kept apart. -/
theorem G_stBP {b o : Nat} {t1 : TypeId} {cs : List Value} {v : Value} {Θ Θ' : Mm} {A : List Fl} {r : List PStep} {j : Nat} [T : Ty P t td 1 zv by_ ag] (h : ev e x = some (.pointer (some ⟨b, o, none⟩))) (h1 : ev e y = some v) (hv : v.cells = #[v]) (h2 : v.oneCell' = true) (hU : Upd Θ (.box b t1 cs) (.box b t1 (cs.set o v)) Θ') (hlt : o < cs.length)
    (hr : GS P n all K A Θ' r (push d undef e) Γ) : GX P n all K (.c j A Θ r) d (.store t x y) ty e Γ := fun pos af g ho hg hd hA =>
  GS_priv (R := fun v Θ1 N => v = undef ∧ Θ1 = Θ' ∧ N = []) ho hg hd hA (fun Δ w M => by
    have hU' := hU.left (Γ := Γ)
    have hb : Blk w b t1 cs := by obtain ⟨R, p, _⟩ := hU'.perm; exact M.right.ok (.box b t1 cs) (p.mem_iff.2 (by simp))
    refine .inr (.inr ⟨_, does_store1 h h1 hb hlt hv h2, Θ', [], ?_, rfl, rfl, rfl⟩)
    exact Mem.upd hU' M (Chg.setRow w b _ (S := fun k => k = b) rfl) (fun k _ h => h) (hb.set _) fun k hk => .inl hk) fun v Θ1 N ⟨e1, e2, e3⟩ => by rw [e1, e2, e3]; exact hr
theorem G_stWP {b : Nat} {t1 : TypeId} {cs vs : List Value} {Θ Θ' : Mm} {A : List Fl} {r : List PStep} {j : Nat} [T : Ty P t td sz zv by_ ag] (h : ev e x = some (.pointer (some ⟨b, 0, none⟩))) (h1 : ev e y = some (.agg vs.toArray)) (hl : vs.length = sz) (h2 : vs.all Value.oneCell' = true) (hU : Upd Θ (.box b t1 cs) (.box b t1 vs) Θ') (hlt : cs.length = sz)
    (hr : GS P n all K A Θ' r (push d undef e) Γ) : GX P n all K (.c j A Θ r) d (.store t x y) ty e Γ := fun pos af g ho hg hd hA =>
  GS_priv (R := fun v Θ1 N => v = undef ∧ Θ1 = Θ' ∧ N = []) ho hg hd hA (fun Δ w M => by
    have e1 : splice cs 0 vs = vs := by unfold splice; simp; omega
    have hU' := hU.left (Γ := Γ)
    have hb : Blk w b t1 cs := by obtain ⟨R, p, _⟩ := hU'.perm; exact M.right.ok (.box b t1 cs) (p.mem_iff.2 (by simp))
    refine .inr (.inr ⟨_, does_storeA h h1 hb hl (by omega) (fun v hv => List.all_eq_true.1 h2 v hv), Θ', [], ?_, rfl, rfl, rfl⟩)
    rw [e1]
    exact Mem.upd hU' M (Chg.setRow w b _ (S := fun k => k = b) rfl) (fun k _ h => h) (hb.set _) fun k hk => .inl hk) fun v Θ1 N ⟨e1, e2, e3⟩ => by rw [e1, e2, e3]; exact hr
/-- A call that changes what is kept apart. -/
theorem G_callMP {f : FuncId} [F : Go.Proofs.Yticndofcfacopaa.SC.Fn P f] {args : Array Operand} {ats : Array TypeId} {vs : List Value} {C Θ Θ' : Mm} {A : List Fl} {r : List PStep} {j : Nat} {R : Value → Mm → Prop} (h : evs e args.toList = some vs) (hc : ∀ w, Mem w C → CVM P f vs w C R) (hC : Rems Θ C Θ') (hr : ∀ v N, R v N → GS P n all K A (N ++ Θ') r (push d v e) Γ) :
    GX P n all K (.c j A Θ r) d (.call { callee := .value (.func f), args := args, argTypes := ats }) ty e Γ := fun pos af g ho hg hd hA =>
  GS_priv (R := fun v Θ1 N => N = [] ∧ ∃ N1, Θ1 = N1 ++ Θ' ∧ R v N1) ho hg hd hA (fun Δ w M => by
    have p1 : (Δ ++ (Θ ++ Γ)).Perm (C ++ (Δ ++ (Θ' ++ Γ))) := by
      refine ((hC.perm.append_right Γ).append_left Δ).trans ?_
      rw [List.append_assoc]
      exact List.perm_append_comm_assoc ..
    have M1 := M.perm p1
    refine .inr (.inl ⟨f, vs, enters (evs_map h), CV.mono (hc w M1.left) fun v w' ⟨N, M', hR⟩ => ⟨N ++ Θ', [], ?_, rfl, N, rfl, hR⟩⟩)
    refine (M1.addS M').perm ?_
    rw [List.nil_append, List.append_assoc]
    exact List.perm_append_comm_assoc ..) fun v Θ1 N ⟨e1, N1, e2, hR⟩ => by rw [e1, e2]; exact hr v N1 hR
/-- A call of a closure that also looks at what is kept apart. -/
theorem G_callFP {f : FuncId} {args : Array Operand} {ats : Array TypeId} {vs : List Value} {cap : Array Value} {Θ : Mm} {A : List Fl} {r : List PStep} {j : Nat} {R : Value → Mm → Prop} (hx : ev e x = some (.func (.func f) #[] cap)) (F : Go.Proofs.Yticndofcfacopaa.SC.Fn P f) (h : evs e args.toList = some vs) (hc : ∀ w, Mem w (Θ ++ Γ) → CVN P f (vs ++ cap.toList) w R) (hr : ∀ v N, R v N → GS P n all K A Θ r (push d v e) (N ++ Γ)) :
    GX P n all K (.c j A Θ r) d (.call { callee := .value x, args := args, argTypes := ats }) ty e Γ := fun pos af g ho hg hd hA =>
  GS_priv (R := fun v Θ1 N => Θ1 = Θ ∧ R v N) ho hg hd hA (fun Δ w M => by
    refine .inr (.inl ⟨f, vs ++ cap.toList, entersC hx (evs_map h), CV.mono (hc w M.right) fun v w' ⟨N, M', hR⟩ => ⟨Θ, N, ?_, rfl, hR⟩⟩)
    refine (M.add M').perm ?_
    exact (List.perm_append_comm_assoc ..).trans ((List.perm_append_comm_assoc ..).append_left _)) fun v Θ1 N ⟨e1, hR⟩ => by rw [e1]; exact hr v N hR
/-- Appended: to a box, an own slice. -/
theorem G_appBV {α : Type} {enc : α → List Value} [U : Ty P t (.slice t0) 1 (.slice none 0 0) 24 false] [T : Ty P t0 td sz zv by_ ag] {A2 : Option Addr} {b c k1 k2 c2 : Nat} {l2 : List α} {cs : List Value} {t2 : TypeId} {Γ1 : Mm} {Γ2 : Option Addr → Nat → Mm} (l : List α) (hm : wrOk all m = true) (h : ev e x = some (.slice (some ⟨b, 0, none⟩) k1 c)) (h1 : ev e y = some (.slice A2 k2 c2)) (N : Enc enc sz)
    (hU1 : Upd Γ (.box b t0 cs) (.vec enc sz t0 (some ⟨b, 0, none⟩) c l) Γ1) (hD : Dec enc cs l) (hi : In Γ1 (.vec enc sz t2 A2 c2 l2)) (hU : ∀ A' c', Upd Γ1 (.vec enc sz t0 (some ⟨b, 0, none⟩) c l) (.vec enc sz t0 A' c' (l ++ l2)) (Γ2 A' c')) (hk1 : k1 = l.length) (hc : c = l.length) (hl : l.length ≤ 1000) (hk : k2 = l2.length) (hzs : zv.cells.size = sz) (hby : (l.length + l2.length) * by_ ≤ 140737488355328) (hby1 : 1 ≤ by_)
    (hr : ∀ A' c', GN P n all K m (push d (.slice A' (l ++ l2).length c') e) (Γ2 A' c')) : GX P n all K m d (.call { callee := .builtin .append, args := #[x, y], argTypes := #[t, t] }) ty e Γ := by
  subst hc
  exact GX_acts hm (acts_box hU1 hD (by unfold maxLen; omega) (acts_appendR h hk1 h1 hk hU (Rd.own hi N) (fun w M hA => by
    have := hi.ok M
    rcases this.2 with ⟨h1, _⟩ | ⟨g, cap, cur, h1, _⟩
    · simp only [Value.slice.injEq] at h1; exact h1.2.2
    · simp only [Value.slice.injEq] at h1; rw [h1.1] at hA; cases hA) hzs hby hby1)) fun v Γ1 ⟨A', c', e1, e2⟩ => by rw [e1, e2]; exact hr A' c'
end
theorem Wk.app {C D Γ : Mm} (h : Wk C D) : Wk (C ++ Γ) (D ++ Γ) := ⟨fun w M => (h.mem w M.left).join M.right fun k k1 k2 => M.sep k (h.sub k k1) k2, fun k hk => owns_append.2 ((owns_append.1 hk).imp (h.sub k) id)⟩
theorem Wk.appL {C D Γ : Mm} (h : Wk C D) : Wk (Γ ++ C) (Γ ++ D) := (Wk.perm List.perm_append_comm).trans (h.app.trans (Wk.perm List.perm_append_comm))
theorem CVN.wk {P : Program} {f : FuncId} {args : List Value} {w : World} {R R' : Value → Mm → Prop} (h : CVN P f args w R) (hR : ∀ v N, R v N → ∃ N', Wk N N' ∧ R' v N') : CVN P f args w R' :=
  CV.mono h fun v w' ⟨N, M, hv⟩ => by
    obtain ⟨N', h1, h2⟩ := hR v N hv
    exact ⟨N', h1.app.mem w' M, h2⟩
/-- shape.Copy: its lists of numbers bound together. -/
theorem CopyB {w : World} {c : Circ} {h js : Hd} (H : CirAt w c h js) (hf : c.Fits) : CVN Try.prog 70 [.agg (ccells c h).toArray] w fun v N => ∃ h' js', v = .agg (ccells c h').toArray ∧ N = [.vec tcells 3 83 (h' 2).1 (h' 2).2 c.latches, .vec encS 1 22 (h' 6).1 (h' 6).2 (jps c js'), .vec tcells 3 57 (h' 8).1 (h' 8).2 c.ands, .vec scells 3 110 (h' 9).1 (h' 9).2 c.symbols, .vec bcell 1 9 (h' 10).1 (h' 10).2 c.comments, .any (bun (fam rowJ (rowsOf c h' js')))] :=
  (CopyG H hf).wk fun v N ⟨h', js', e1, e2⟩ => by
    subst e2
    exact ⟨_, Wk.appL (Γ := [.vec tcells 3 83 (h' 2).1 (h' 2).2 c.latches, .vec encS 1 22 (h' 6).1 (h' 6).2 (jps c js'), .vec tcells 3 57 (h' 8).1 (h' 8).2 c.ands, .vec scells 3 110 (h' 9).1 (h' 9).2 c.symbols, .vec bcell 1 9 (h' 10).1 (h' 10).2 c.comments]) bun_in, h', js', e1, rfl⟩
/-- A row whose literals have gone through a map. -/
def rowF (to : List Int) (p : Hdl × List Int) : Hdl × List Int := (p.1, p.2.map (litX to))
def hd8 (h : Hd) (A : Option Addr) (k : Nat) : Hd := fun i => if i = 8 then (A, k) else h i
theorem rows_built {c : Circ} {h js : Hd} {A : Option Addr} {k : Nat} : (rowsOf c h js).map (rowF (bT c)) = rowsOf (bC c) (hd8 h A k) js := by
  have e : (jps c js).map (rowF (bT c)) = jps (bC c) js := by
    unfold jps
    rw [List.map_map]
    have e1 : (bC c).justice.length = c.justice.length := List.length_map _
    rw [e1]
    refine List.map_congr_left fun i hi => ?_
    have := List.mem_range.1 hi
    show (js i, (c.justice.getD i []).map (litX (bT c))) = (js i, (c.justice.map fun l => l.map (litX (bT c))).getD i [])
    simp [List.getD, this]
  unfold rowsOf
  rw [List.map_append, e]
  rfl
theorem just_built {c : Circ} {js : Hd} : (jps c js).flatMap encS = (jps (bC c) js).flatMap encS := by
  rw [jps_cells, jps_cells]
  unfold jcells
  have e1 : (bC c).justice.length = c.justice.length := List.length_map _
  rw [e1]
  refine List.map_congr_left fun i hi => ?_
  have := List.mem_range.1 hi
  show slc js i (c.justice.getD i []).length = slc js i ((c.justice.map fun l => l.map (litX (bT c))).getD i []).length
  simp [List.getD, this]
theorem Wk.same {E F : Ent} (h1 : ∀ w, E.ok w → F.ok w) (h2 : ∀ k, F.own k → E.own k) : Wk [E] [F] := ⟨fun w M => Mem.one (h1 w M.head), fun k hk => owns_cons.2 ((owns_cons.1 hk).imp (h2 k) fun h => absurd h owns_nil)⟩
theorem just_wk {c : Circ} {js : Hd} {A : Option Addr} {k : Nat} : Wk [.vec encS 1 22 A k (jps c js)] [.vec encS 1 22 A k (jps (bC c) js)] := by
  have e1 : (jps (bC c) js).length = (jps c js).length := by rw [jps_len, jps_len]; exact List.length_map _
  refine Wk.same (fun w H => ?_) fun b hb => ?_
  · show w.ownsRow 0 22 1 (.slice A (jps (bC c) js).length k) (jps (bC c) js).length ((jps (bC c) js).flatMap encS)
    rw [e1, ← just_built]
    exact H
  · show (Value.slice A (jps c js).length k).ownBlock = some b
    rw [← e1]
    exact hb
/-- The parts of what Build makes, put together. -/
theorem built_wk {c : Circ} {h js : Hd} {A : Option Addr} {k : Nat} : Wk [.vec encS 1 22 (h 6).1 (h 6).2 (jps c js), .any (bun (fam rowJ ((rowsOf c h js).map (rowF (bT c))))), .vec tcells 3 83 (h 2).1 (h 2).2 (c.latches.map (bLatch (bT c))), .vec tcells 3 57 A k (bG c), .vec scells 3 110 (h 9).1 (h 9).2 c.symbols, .vec bcell 1 9 (h 10).1 (h 10).2 c.comments] [.any (cirX 0 (bC c) (hd8 h A k) js)] := by
  rw [rows_built (A := A) (k := k)]
  refine Wk.trans (Wk.part (C := [.vec encS 1 22 (h 6).1 (h 6).2 (jps c js)]) (.cons .here .nil) just_wk (Wk.part (C := [.any (bun (fam rowJ (rowsOf (bC c) (hd8 h A k) js)))]) (.cons .here .nil) bun_out .refl)) ?_
  refine Wk.trans (Wk.perm ?_) (bE_cir (bC c) (hd8 h A k) js)
  unfold bE
  show ([Ent.vec encS 1 22 (h 6).1 (h 6).2 (jps (bC c) js)] ++ (fam rowJ (rowsOf (bC c) (hd8 h A k) js) ++ [Ent.vec tcells 3 83 (h 2).1 (h 2).2 (bC c).latches, .vec tcells 3 57 A k (bC c).ands, .vec scells 3 110 (h 9).1 (h 9).2 (bC c).symbols, .vec bcell 1 9 (h 10).1 (h 10).2 (bC c).comments])).Perm (Ent.vec tcells 3 83 (h 2).1 (h 2).2 (bC c).latches :: Ent.vec encS 1 22 (h 6).1 (h 6).2 (jps (bC c) js) :: .vec tcells 3 57 A k (bC c).ands :: .vec scells 3 110 (h 9).1 (h 9).2 (bC c).symbols :: .vec bcell 1 9 (h 10).1 (h 10).2 (bC c).comments :: fam rowJ (rowsOf (bC c) (hd8 h A k) js))
  generalize fam rowJ (rowsOf (bC c) (hd8 h A k) js) = Φ
  refine ((List.perm_append_comm (l₁ := Φ)).append_left _).trans ?_
  exact List.Perm.swap ..
end SC
end Go.Proofs.Yticndofcfacopaa
end
section
/- hash: Build of a right circuit: the walk. -/
set_option linter.unusedVariables false
set_option linter.unusedSimpArgs false
namespace Go.Proofs.Yticndofcfacopaa
namespace SC
open Go.Proofs
theorem map_step {max : Int} {ks : List Int} {i : Nat} {x y : Int} (h : i < ks.length) (hx : ks[i] = x) (hy : y = 2 * (i : Int) + 2) : mapOf max (ks.take (i + 1)) = (mapOf max (ks.take i)).set (x / 2).toNat y := by
  rw [List.take_succ_eq_append_getElem h, mapOf_snoc, List.length_take, Nat.min_eq_left (by omega), hx, hy]
theorem gt_and (c : Circ) (i : Int) : gt c.ands i = andAt c i := rfl
theorem mix_get {α : Type} [Inhabited α] {a b : List α} {i : Nat} (h : a.length = b.length) (hi : i < b.length) : gt (mix a b i) (i : Int) = gt b (i : Int) := by
  have e : (a.take i).length = i := by rw [List.length_take]; omega
  rw [gt_nat (by rw [mix_len h]; exact hi), gt_nat hi]
  unfold mix
  rw [List.getElem_append_right (by omega)]
  simp [e]
theorem mix_rows {f : Hdl × List Int → Hdl × List Int} {ps : List (Hdl × List Int)} {i : Nat} (h : i < ps.length) : mix (ps.map f) ps i = (ps.map f).take i ++ gt ps (i : Int) :: ps.drop (i + 1) ∧ mix (ps.map f) ps (i + 1) = (ps.map f).take i ++ f (gt ps (i : Int)) :: ps.drop (i + 1) := by
  rw [gt_nat h]
  unfold mix
  refine ⟨by rw [List.drop_eq_getElem_cons h], ?_⟩
  rw [List.take_succ_eq_append_getElem (by rw [List.length_map]; exact h), List.append_assoc, List.getElem_map]
  rfl
theorem rows_ok {c : Circ} (R : Right c) (hf : c.Fits) {h js : Hd} : ∀ p ∈ rowsOf c h js, (∀ l ∈ p.2, inR c l) ∧ p.2.length ≤ 16384 := by
  intro p hp
  unfold rowsOf at hp
  rcases List.mem_append.1 hp with hp | hp
  · simp only [List.mem_cons, List.not_mem_nil, or_false] at hp
    rcases hp with rfl | rfl | rfl | rfl | rfl
    · exact ⟨fun l hl => (R.inp hl).in, R.nIn⟩
    · exact ⟨fun l hl => ⟨(R.use.outputs l hl).1, (R.use.outputs l hl).2.1⟩, by have h9 := R.lens c.outputs.length (by simp [Circ.lens]); simp only; omega⟩
    · exact ⟨fun l hl => R.bad hl, R.nBad⟩
    · exact ⟨fun l hl => R.con hl, R.nCon⟩
    · exact ⟨fun l hl => R.fair hl, R.nFair⟩
  · have h1 : p.2 ∈ (jps c js).map (·.2) := List.mem_map_of_mem hp
    rw [jps_snd] at h1
    refine ⟨fun l hl => R.just h1 hl, ?_⟩
    have h2 := sumL_mem h1
    have h3 := R.sumJ hf
    omega
theorem bAt_zero (c : Circ) : mapOf c.max ((defsOf c (ordM c)).take (c.inputs.length + c.latches.length)) = (bAt c 0).1 := by
  unfold bAt defsOf
  rw [List.take_zero, List.take_left' (by simp)]
  rfl
attribute [local irreducible] WC WL WX WS WO OX Does DoesU Enters CV Pure thenQ blockQ retQ Wants retQC GC GL GS GX RdB thenG blockG retG Rd At gt CVN CVM
attribute [local irreducible] bldX cirX fam
set_option maxRecDepth 100000
set_option maxHeartbeats 3200000 in
theorem build_ok {w : World} {c : Circ} {h js : Hd} (H : CirIn w c h js) (he : (lookM c).2 = 0) : CVN Try.prog 32 [.agg (ccells c h).toArray] w fun v N => ∃ h' js' A k, v = .tuple #[.agg (ccells (bC c) h').toArray, .slice A (bT c).length k, nu 0] ∧ N = [.any (cirX 0 (bC c) h' js'), .vec icell 1 3 A k (bT c)] := by
  have R := right_of H.at_ H.sane he
  have hord : ∀ Γ, In Γ (.old w none_) → ∀ w', Mem w' Γ → CVN Try.prog 61 [.agg (ccells c h).toArray] w' fun v N => ∃ A k, v = .tuple #[.slice A (ordM c).length k, nu 0] ∧ N = [.vec icell 1 3 A k (ordM c)] := fun Γ hi w' M => (OrderG (H.at_.chg (hi.old M)) H.sane).mono fun v N hv => by
    rcases hv with ⟨h1, _⟩ | ⟨_, hv⟩
    · exact absurd he h1
    · exact hv
  have m0 := R.m0
  have m1 := R.m1
  have n1 := R.nIn
  have n2 := R.nLat
  have n3 := R.nAnd
  have nd := R.nDefs
  have nl := R.nDefs_le
  have ol := R.ordLen
  have hN : ∀ w', CVN Try.prog 39 [nu c.inputs.length, nu c.latches.length] w' _ := fun w' => NewG (by unfold newBad; omega)
  have hInp := H.at_.inputs
  have hLat := H.at_.latches
  have hAnd := H.at_.ands
  refine CVN.enterC (t := 29) 202 2 [3, 4] Try.func32 rfl rfl rfl (.inr rfl) rfl ?_
  repeat' (first
      | (apply G_call; eq_refl; eq_refl; (apply hord; (repeat first | exact In.here | apply In.there | apply In.skip)); rintro _ _ ⟨Ao, ko, rfl, rfl⟩)
      | (apply G_call; eq_refl; eq_refl; (exact fun w' _ => hN w'); rintro _ _ ⟨g, S0, rfl, rfl⟩)
      | (apply GC_seqK; intro K hK)
      | (apply hK; clear hK K)
      | (apply GC_block)
      | (apply GC_region)
      | (apply GL_nil)
      | (apply thenG_normal)
      | (apply GC_skip)
      | (apply GC_if_false; eq_refl)
      | (apply GL_on; eq_refl; eq_refl)
      | (apply G_pv; eq_refl; first | exact trivial | omega)
      | (apply G_field; eq_refl)
      | (apply G_ld; eq_refl; (repeat first | exact In.here | apply In.there | apply In.skip); eq_refl)
      | (apply G_ldW; eq_refl; (repeat first | exact In.here | apply In.there | apply In.skip); eq_refl)
      | (apply G_cmpF; eq_refl; eq_refl; omega)
      | (apply G_len; eq_refl)
      | (apply G_alloc; eq_refl; intro _)
      | (apply G_box; eq_refl; eq_refl; intro _)
      | (apply G_st; (first | exact wr_p | kernel_rfl); eq_refl; eq_refl; eq_refl; eq_refl; (repeat first | exact Upd.here | apply Upd.there | apply Upd.skip); (first | decide | exact Nat.le_of_ble_eq_true rfl))
      | (apply G_makeI icell; eq_refl; eq_refl; omega; eq_refl; omega; decide; intro _)
      | (apply G_fun; eq_refl))
  rename_i b1 b2 bm b8
  refine GC_loopK [1, 2, 5, 7, 8, 9, 52, 53] (fun i : Nat => [(54, nu i)]) (fun i => [.vec icell 1 3 (some ⟨bm, 0, none⟩) (c.max + 1).toNat (mapOf c.max ((defsOf c (ordM c)).take i)), .any (bldX g S0 c.inputs.length c.latches.length []), .vec icell 1 3 Ao ko (ordM c), .box b8 22 [.slice (some ⟨bm, 0, none⟩) (c.max + 1).toNat (c.max + 1).toNat], .box b2 29 Zc, .box b1 29 (ccells c h), .old w none_]) (fun i => i ≤ c.inputs.length) (fun i => c.inputs.length - i) 0 (by repeat first | exact Pick.nil | (apply Pick.cons; eq_refl)) (by repeat first | exact trivial | refine ⟨rfl, ?_⟩) (by repeat first | exact Wk.nil | exact Wk.refl | (apply Wk.cons; (focus ((repeat first | exact Rem.here | apply Rem.there | apply Rem.skip); done))) | apply Wk.nilv | apply Wk.last | apply Wk.drop) (Nat.zero_le _) ?_
  intro i hi
  rcases Nat.lt_or_ge i c.inputs.length with hlt | hge
  · obtain ⟨hd, e2⟩ := R.def_inp hlt
    have e4 : mapOf c.max ((defsOf c (ordM c)).take (i + 1)) = (mapOf c.max ((defsOf c (ordM c)).take i)).set (gt c.inputs (i : Int) / 2).toNat (2 * ((i : Int) + 1)) := map_step hd (by rw [e2, gt_nat hlt]) (by omega)
    have e7 := R.defs_rg (k := gt c.inputs (i : Int)) (by rw [gt_nat hlt, ← e2]; exact List.getElem_mem hd)
    unfold rg at e7
    have e8 : (mapOf c.max ((defsOf c (ordM c)).take i)).length = (c.max + 1).toNat := mapOf_len _ _
    generalize mapOf c.max ((defsOf c (ordM c)).take i) = mm at *
    repeat' (first
      | (apply GC_seqK; intro K hK)
      | (apply hK; clear hK K)
      | (apply GC_block)
      | (apply GC_region)
      | (apply GL_nil)
      | (apply thenG_normal)
      | (apply blockG_normal)
      | (apply GC_skip)
      | (apply GC_if_true; eq_refl)
      | (apply GL_on; eq_refl; eq_refl)
      | (apply G_pv; eq_refl; first | exact trivial | omega)
      | (apply G_ld; eq_refl; (repeat first | exact In.here | apply In.there | apply In.skip); eq_refl)
      | (apply G_rd; eq_refl; (first | (apply Rd.own; (repeat first | exact In.here | apply In.there | apply In.skip); infer_instance) | (apply Rd.old; (repeat first | exact In.here | apply In.there | apply In.skip); assumption) | (apply Rd.oldR; (repeat first | exact In.here | apply In.there | apply In.skip); assumption) | exact Rd.nil | assumption); (case ih => infer_instance); omega; omega; eq_refl)
      | (apply G_cmpT; eq_refl; eq_refl; omega)
      | (apply G_ix; eq_refl; eq_refl; (first | (apply Rd.own; (repeat first | exact In.here | apply In.there | apply In.skip); infer_instance) | (apply Rd.old; (repeat first | exact In.here | apply In.there | apply In.skip); assumption) | (apply Rd.oldR; (repeat first | exact In.here | apply In.there | apply In.skip); assumption) | exact Rd.nil | assumption); (first | eq_refl | omega); omega; omega)
      | (apply G_stV; (first | exact wr_p | kernel_rfl); eq_refl; eq_refl; eq_refl; eq_refl; (repeat first | exact Upd.here | apply Upd.there | apply Upd.skip); infer_instance; infer_instance; eq_refl; omega; (try simp only [List.length_set, List.length_append, List.length_replicate]); omega))
    refine ⟨i + 1, (by repeat first | exact trivial | refine ⟨rfl, ?_⟩), ?_, hlt, by omega⟩
    rw [e4]
    exact (by repeat first | exact Wk.nil | exact Wk.refl | (apply Wk.cons; (focus ((repeat first | exact Rem.here | apply Rem.there | apply Rem.skip); done))) | apply Wk.nilv | apply Wk.last | apply Wk.drop)
  obtain rfl : i = c.inputs.length := by omega
  repeat' (first
      | (apply GC_seqK; intro K hK)
      | (apply hK; clear hK K)
      | (clear hK K; apply hK; clear hK K)
      | (apply GC_block)
      | (apply GC_region)
      | (apply GL_nil)
      | (apply thenG_normal)
      | (apply thenG_exit)
      | (apply blockG_hit)
      | (apply GC_exit)
      | (apply GC_if_false; eq_refl)
      | (apply GL_on; eq_refl; eq_refl)
      | (apply G_pv; eq_refl; first | exact trivial | omega)
      | (apply G_field; eq_refl)
      | (apply G_ld; eq_refl; (repeat first | exact In.here | apply In.there | apply In.skip); eq_refl)
      | (apply G_cmpF; eq_refl; eq_refl; omega)
      | (apply G_len; eq_refl))
  refine GC_loopK [1, 2, 5, 7, 8, 9, 68, 69] (fun i : Nat => [(70, nu i)]) (fun i => [.vec icell 1 3 (some ⟨bm, 0, none⟩) (c.max + 1).toNat (mapOf c.max ((defsOf c (ordM c)).take (c.inputs.length + i))), .any (bldX g S0 c.inputs.length c.latches.length []), .vec icell 1 3 Ao ko (ordM c), .box b8 22 [.slice (some ⟨bm, 0, none⟩) (c.max + 1).toNat (c.max + 1).toNat], .box b2 29 Zc, .box b1 29 (ccells c h), .old w none_]) (fun i => i ≤ c.latches.length) (fun i => c.latches.length - i) 0 (by repeat first | exact Pick.nil | (apply Pick.cons; eq_refl)) (by repeat first | exact trivial | refine ⟨rfl, ?_⟩) (by repeat first | exact Wk.nil | exact Wk.refl | (apply Wk.cons; (focus ((repeat first | exact Rem.here | apply Rem.there | apply Rem.skip); done))) | apply Wk.nilv | apply Wk.last | apply Wk.drop) (Nat.zero_le _) ?_
  intro i hi2
  rcases Nat.lt_or_ge i c.latches.length with hlt | hge2
  · obtain ⟨hd, e2⟩ := R.def_lat hlt
    have e4 : mapOf c.max ((defsOf c (ordM c)).take (c.inputs.length + (i + 1))) = (mapOf c.max ((defsOf c (ordM c)).take (c.inputs.length + i))).set ((gt c.latches (i : Int)).1 / 2).toNat (2 * ((c.inputs.length : Int) + (i : Int) + 1)) := map_step (i := c.inputs.length + i) hd (by rw [e2, gt_nat hlt]) (by omega)
    have e7 := R.defs_rg (k := (gt c.latches (i : Int)).1) (by rw [gt_nat hlt, ← e2]; exact List.getElem_mem hd)
    unfold rg at e7
    have e8 : (mapOf c.max ((defsOf c (ordM c)).take (c.inputs.length + i))).length = (c.max + 1).toNat := mapOf_len _ _
    generalize mapOf c.max ((defsOf c (ordM c)).take (c.inputs.length + i)) = mm at *
    repeat' (first
      | (apply G_ldIn; eq_refl; (focus ((repeat first | exact In.here | apply In.there | apply In.skip); done)))
      | (apply GC_seqK; intro K hK)
      | (apply hK; clear hK K)
      | (apply GC_block)
      | (apply GC_region)
      | (apply GL_nil)
      | (apply thenG_normal)
      | (apply blockG_normal)
      | (apply GC_skip)
      | (apply GC_if_true; eq_refl)
      | (apply GL_on; eq_refl; eq_refl)
      | (refine GC_draws (id := 17) [.q 0, .q 1, .q 2, .q 3, .q 4, .q 5, .q 6, .q 7, .q 8, .q 9, .q 10, .q 11, .q 12, .c 13] mixed (by kernel_rfl) (by kernel_rfl) ?_)
      | (apply GS_nil)
      | (apply GS_qon; eq_refl; eq_refl; eq_refl; eq_refl)
      | (apply GS_con; eq_refl; eq_refl; eq_refl; eq_refl)
      | (apply G_pv; eq_refl; first | exact trivial | omega)
      | (apply G_field; eq_refl)
      | (apply G_ld; eq_refl; (repeat first | exact In.here | apply In.there | apply In.skip); eq_refl)
      | (apply G_rdW; eq_refl; (first | (apply Rd.own; (repeat first | exact In.here | apply In.there | apply In.skip); infer_instance) | (apply Rd.old; (repeat first | exact In.here | apply In.there | apply In.skip); assumption) | (apply Rd.oldR; (repeat first | exact In.here | apply In.there | apply In.skip); assumption) | exact Rd.nil | assumption); infer_instance; (case ih => infer_instance); omega; omega)
      | (apply G_cmpT; eq_refl; eq_refl; omega)
      | (apply G_ix; eq_refl; eq_refl; (first | (apply Rd.own; (repeat first | exact In.here | apply In.there | apply In.skip); infer_instance) | (apply Rd.old; (repeat first | exact In.here | apply In.there | apply In.skip); assumption) | (apply Rd.oldR; (repeat first | exact In.here | apply In.there | apply In.skip); assumption) | exact Rd.nil | assumption); (first | eq_refl | omega); omega; omega)
      | (apply G_alloc; eq_refl; intro _)
      | (apply G_stV; (first | exact wr_p | kernel_rfl); eq_refl; eq_refl; eq_refl; eq_refl; (repeat first | exact Upd.here | apply Upd.there | apply Upd.skip); infer_instance; infer_instance; eq_refl; omega; (try simp only [List.length_set, List.length_append, List.length_replicate]); omega)
      | (apply G_stW; (first | exact wr_p | kernel_rfl); eq_refl; eq_refl; eq_refl; eq_refl; (repeat first | exact Upd.here | apply Upd.there | apply Upd.skip); eq_refl))
    refine ⟨i + 1, (by repeat first | exact trivial | refine ⟨rfl, ?_⟩), ?_, hlt, by omega⟩
    rw [e4]
    exact (by repeat first | exact Wk.nil | exact Wk.refl | (apply Wk.cons; (focus ((repeat first | exact Rem.here | apply Rem.there | apply Rem.skip); done))) | apply Wk.nilv | apply Wk.last | apply Wk.drop)
  obtain rfl : i = c.latches.length := by omega
  rw [bAt_zero c]
  repeat' (first
      | (apply GC_seqK; intro K hK)
      | (apply hK; clear hK K)
      | (clear hK K; apply hK; clear hK K)
      | (apply GC_block)
      | (apply GC_region)
      | (apply GL_nil)
      | (apply thenG_normal)
      | (apply thenG_exit)
      | (apply blockG_hit)
      | (apply GC_exit)
      | (apply GC_if_false; eq_refl)
      | (apply GL_on; eq_refl; eq_refl)
      | (apply G_pv; eq_refl; first | exact trivial | omega)
      | (apply G_cmpF; eq_refl; eq_refl; omega)
      | (apply G_len; eq_refl))
  refine GC_loopK [1, 2, 7, 8, 9, 89, 90] (fun s : Nat × (Nat → Prop) => [(91, nu s.1)]) (fun s => [.vec icell 1 3 (some ⟨bm, 0, none⟩) (c.max + 1).toNat (bAt c s.1).1, .any (bldX g s.2 c.inputs.length c.latches.length (bAt c s.1).2), .vec icell 1 3 Ao ko (ordM c), .box b8 22 [.slice (some ⟨bm, 0, none⟩) (c.max + 1).toNat (c.max + 1).toNat], .box b2 29 Zc, .box b1 29 (ccells c h), .old w none_]) (fun s => s.1 ≤ (ordM c).length) (fun s => (ordM c).length - s.1) (0, S0) (by repeat first | exact Pick.nil | (apply Pick.cons; eq_refl)) (by repeat first | exact trivial | refine ⟨rfl, ?_⟩) (by repeat first | exact Wk.nil | exact Wk.refl | (apply Wk.cons; (focus ((repeat first | exact Rem.here | apply Rem.there | apply Rem.skip); done))) | apply Wk.nilv | apply Wk.last | apply Wk.drop) (Nat.zero_le _) ?_
  rintro ⟨i, S⟩ hi3
  dsimp only at hi3 ⊢
  rcases Nat.lt_or_ge i (ordM c).length with hlt | hge3
  · have I := R.bInv i (by omega)
    have M := R.bMade hlt I
    have ho := R.ord (gt_mem (l := ordM c) (i := (i : Int)) (by omega) (by omega))
    have hm := gt_mem (l := c.ands) (i := gt (ordM c) (i : Int)) (by omega) (by omega)
    obtain ⟨g1, g2, g3⟩ := R.gate hm
    have ea : andAt c (ordM c)[i] = gt c.ands (gt (ordM c) (i : Int)) := by rw [gt_and, gt_nat hlt]
    have e4 := bAt_succ hlt
    have hb := R.nB_le
    unfold bStep at e4
    rw [ea] at e4 M
    have i1 := I.gs
    have i2 := I.len
    have i3 := I.mlen
    have i4 := I.ok
    have i5 : ∀ {l : Int}, 0 ≤ l → okM (nB c) (bAt c i).2 (litX (bAt c i).1 l) := fun h => BInv.lit I h
    clear I
    generalize bAt c i = s at *
    obtain ⟨mm, gs⟩ := s
    dsimp only at *
    unfold inR at g2 g3
    unfold defR at g1
    have hcl : ∀ l : Int, 0 ≤ l → l ≤ 2 * c.max + 1 → ∀ Γ, In Γ (.box b8 22 [.slice (some ⟨bm, 0, none⟩) (c.max + 1).toNat (c.max + 1).toNat]) → In Γ (.vec icell 1 3 (some ⟨bm, 0, none⟩) (c.max + 1).toNat mm) → ∀ w', Mem w' Γ → CVN Try.prog 68 ([nu l] ++ (#[pt b8] : Array Value).toList) w' fun v N => N = [] ∧ v = nu (litX mm l) := fun l h0 h1 Γ k1 k2 w' M' => by
      have k3 := i4 (l / 2) (by omega)
      unfold okM nB at k3
      rw [← gt_L] at k3
      exact litB_cv (k := (c.max + 1).toNat) (by rw [i3]; exact k1.ok M') (k2.row M') h0 (by omega) (by omega) (by unfold nB at hb; omega)
    have hc1 := hcl (gt c.ands (gt (ordM c) (i : Int))).2.1 g2.1 g2.2
    have hc2 := hcl (gt c.ands (gt (ordM c) (i : Int))).2.2 g3.1 g3.2
    have hand : ∀ w', Mem w' [.any (bldX g S c.inputs.length c.latches.length gs)] → CVM Try.prog 69 [ptr g, nu (litX mm (gt c.ands (gt (ordM c) (i : Int))).2.1), nu (litX mm (gt c.ands (gt (ordM c) (i : Int))).2.2)] w' [.any (bldX g S c.inputs.length c.latches.length gs)] fun v N => v = .tuple #[nu (andM (nB c) gs (litX mm (gt c.ands (gt (ordM c) (i : Int))).2.1) (litX mm (gt c.ands (gt (ordM c) (i : Int))).2.2)).1, nu 0] ∧ ∃ S', N = [.any (bldX g S' c.inputs.length c.latches.length (andM (nB c) gs (litX mm (gt c.ands (gt (ordM c) (i : Int))).2.1) (litX mm (gt c.ands (gt (ordM c) (i : Int))).2.2)).2.2)] := fun w' M' => by
      have := andG (by omega) (by omega) i1 (by unfold nB at hb; omega) (i5 g2.1) (i5 g3.1) M'
      unfold BldR at this
      rw [show (c.inputs.length : Int) + (c.latches.length : Int) = nB c from rfl, M.err] at this
      exact this
    clear hcl
    generalize andM (nB c) gs (litX mm (gt c.ands (gt (ordM c) (i : Int))).2.1) (litX mm (gt c.ands (gt (ordM c) (i : Int))).2.2) = r at *
    repeat' (first
      | (apply G_callFP; eq_refl; infer_instance; eq_refl; (first | (apply hc1; (repeat first | exact In.here | apply In.there | apply In.skip); (repeat first | exact In.here | apply In.there | apply In.skip)) | (apply hc2; (repeat first | exact In.here | apply In.there | apply In.skip); (repeat first | exact In.here | apply In.there | apply In.skip))); rintro _ _ ⟨rfl, rfl⟩)
      | (apply GC_drawsP (id := 23) (C := [.any (bldX g S c.inputs.length c.latches.length gs), .vec icell 1 3 (some ⟨bm, 0, none⟩) (c.max + 1).toNat mm]) [.q 0, .q 1, .q 2, .q 3, .q 4, .q 5, .q 6, .q 7, .q 9, .q 10, .q 11, .c 8, .c 12, .c 13, .q 14, .q 15, .q 16, .q 17, .c 18, .q 19]; exact mixed; kernel_rfl; kernel_rfl; (repeat first | exact Rems.nil | (apply Rems.cons; (focus ((repeat first | exact Rem.here | apply Rem.there | apply Rem.skip); done)))))
      | (apply GS_nilP)
      | (apply G_callMP; eq_refl; (exact hand); (repeat first | exact Rems.nil | (apply Rems.cons; (focus ((repeat first | exact Rem.here | apply Rem.there | apply Rem.skip); done)))); rintro _ _ ⟨rfl, S1, rfl⟩)
      | (apply G_stVP (enc := icell) r.1; eq_refl; eq_refl; eq_refl; eq_refl; (repeat first | exact Upd.here | apply Upd.there | apply Upd.skip); infer_instance; infer_instance; eq_refl; omega; omega)
      | (apply GC_seqK; intro K hK)
      | (apply hK; clear hK K)
      | (apply GC_block)
      | (apply GC_region)
      | (apply GL_nil)
      | (apply thenG_normal)
      | (apply blockG_normal)
      | (apply GC_skip)
      | (apply GC_if_true; eq_refl)
      | (apply GC_if_false; eq_refl)
      | (apply GL_on; eq_refl; eq_refl)
      | (apply GS_qon; eq_refl; eq_refl; eq_refl; eq_refl)
      | (apply GS_con; eq_refl; eq_refl; eq_refl; eq_refl)
      | (apply G_pv; eq_refl; first | exact trivial | omega)
      | (apply G_field; eq_refl)
      | (apply G_ld; eq_refl; (repeat first | exact In.here | apply In.there | apply In.skip); eq_refl)
      | (apply G_rd; eq_refl; (first | (apply Rd.own; (repeat first | exact In.here | apply In.there | apply In.skip); infer_instance) | (apply Rd.old; (repeat first | exact In.here | apply In.there | apply In.skip); assumption) | (apply Rd.oldR; (repeat first | exact In.here | apply In.there | apply In.skip); assumption) | exact Rd.nil | assumption); (case ih => infer_instance); omega; omega; eq_refl)
      | (apply G_rdW; eq_refl; (first | (apply Rd.own; (repeat first | exact In.here | apply In.there | apply In.skip); infer_instance) | (apply Rd.old; (repeat first | exact In.here | apply In.there | apply In.skip); assumption) | (apply Rd.oldR; (repeat first | exact In.here | apply In.there | apply In.skip); assumption) | exact Rd.nil | assumption); infer_instance; (case ih => infer_instance); omega; omega)
      | (apply G_cmpT; eq_refl; eq_refl; omega)
      | (apply G_cmpF; eq_refl; eq_refl; omega)
      | (apply G_ix; eq_refl; eq_refl; (first | (apply Rd.own; (repeat first | exact In.here | apply In.there | apply In.skip); infer_instance) | (apply Rd.old; (repeat first | exact In.here | apply In.there | apply In.skip); assumption) | (apply Rd.oldR; (repeat first | exact In.here | apply In.there | apply In.skip); assumption) | exact Rd.nil | assumption); (first | eq_refl | omega); omega; omega)
      | (apply G_ixA; eq_refl; eq_refl; omega; omega)
      | (apply G_alloc; eq_refl; intro _)
      | (apply G_stW; (first | exact wr_p | kernel_rfl); eq_refl; eq_refl; eq_refl; eq_refl; (repeat first | exact Upd.here | apply Upd.there | apply Upd.skip); eq_refl))
    refine ⟨(i + 1, S1), (by repeat first | exact trivial | refine ⟨rfl, ?_⟩), ?_, hlt, by simp only; omega⟩
    dsimp only
    rw [e4]
    exact (by repeat first | exact Wk.nil | exact Wk.refl | (apply Wk.cons; (focus ((repeat first | exact Rem.here | apply Rem.there | apply Rem.skip); done))) | apply Wk.nilv | apply Wk.last | apply Wk.drop)
  obtain rfl : i = (ordM c).length := by omega
  rw [show (bAt c (ordM c).length).1 = bT c from rfl, show (bAt c (ordM c).length).2 = bG c from rfl]
  have hcp : ∀ Γ, In Γ (.old w none_) → ∀ w', Mem w' Γ → CVN Try.prog 70 [.agg (ccells c h).toArray] w' _ := fun Γ hi w' M => CopyB (H.at_.chg (hi.old M)) H.fits
  have hjl : ∀ js, (jps c js).length ≤ 16384 := fun js => by rw [jps_len]; exact R.nJust
  repeat' (first
      | (apply G_call; eq_refl; eq_refl; (apply hcp; (repeat first | exact In.here | apply In.there | apply In.skip)); rintro _ _ ⟨h', js', rfl, rfl⟩)
      | (apply G_appBV (enc := encS) [(h' 1, c.inputs), (h' 3, c.outputs), (h' 4, c.bads), (h' 5, c.constraints), (h' 7, c.fairness)]; (first | exact wr_p | kernel_rfl); eq_refl; eq_refl; infer_instance; (repeat first | exact Upd.here | apply Upd.there | apply Upd.skip); (repeat first | exact Dec.nil | (apply Dec.c1; exact rfl)); (repeat first | exact In.here | apply In.there | apply In.skip); (intro A c; (repeat first | exact Upd.here | apply Upd.there | apply Upd.skip)); eq_refl; eq_refl; exact Nat.le_of_ble_eq_true rfl; exact (jps_len _ _).symm; eq_refl; (simp only [List.length_cons, List.length_nil]; have := hjl js'; omega); decide; intro A8 k8)
      | (apply GC_seqK; intro K hK)
      | (apply hK; clear hK K)
      | (clear hK K; apply hK; clear hK K)
      | (apply GC_block)
      | (apply GC_region)
      | (apply GL_nil)
      | (apply thenG_normal)
      | (apply thenG_exit)
      | (apply blockG_hit)
      | (apply GC_exit)
      | (apply GC_if_false; eq_refl)
      | (apply GL_on; eq_refl; eq_refl)
      | (apply G_pv; eq_refl; first | exact trivial | omega)
      | (apply G_field; eq_refl)
      | (apply G_ld; eq_refl; (repeat first | exact In.here | apply In.there | apply In.skip); eq_refl)
      | (apply G_ldW; eq_refl; (repeat first | exact In.here | apply In.there | apply In.skip); eq_refl)
      | (apply G_cmpF; eq_refl; eq_refl; omega)
      | (apply G_len; eq_refl)
      | (apply G_alloc; eq_refl; intro _)
      | (apply G_stW; (first | exact wr_p | kernel_rfl); eq_refl; eq_refl; eq_refl; eq_refl; (repeat first | exact Upd.here | apply Upd.there | apply Upd.skip); eq_refl)
      | (apply G_new (fun b => .slice (some ⟨b, 0, none⟩) 5 5); eq_refl; (intro _; apply buildS24_5 <;> eq_refl); intro _))
  rename_i b17 b5
  have hT := R.bI
  have tl : (bT c).length = (c.max + 1).toNat := hT.mlen
  have bmx := R.b_max
  have hro := rows_ok R H.fits (h := h') (js := js')
  have hrl : (rowsOf c h' js').length = 5 + c.justice.length := by unfold rowsOf; rw [List.length_append, jps_len]; rfl
  have hnj := R.nJust
  have hcl : ∀ l : Int, inR c l → ∀ Γ, In Γ (.box b8 22 [.slice (some ⟨bm, 0, none⟩) (c.max + 1).toNat (c.max + 1).toNat]) → In Γ (.vec icell 1 3 (some ⟨bm, 0, none⟩) (c.max + 1).toNat (bT c)) → ∀ w', Mem w' Γ → CVN Try.prog 68 ([nu l] ++ (#[pt b8] : Array Value).toList) w' fun v N => N = [] ∧ v = nu (litX (bT c) l) := fun l hl Γ k1 k2 w' M' => by
    unfold inR at hl
    have k3 := hT.ok (l / 2) (by omega)
    unfold okM at k3
    rw [← gt_L] at k3
    exact litB_cv (k := (c.max + 1).toNat) (by rw [tl]; exact k1.ok M') (k2.row M') hl.1 (by omega) (by omega) ⟨k3.1, by have := k3.2; dsimp only at this; omega⟩
  rw [show [(h' 1, c.inputs), (h' 3, c.outputs), (h' 4, c.bads), (h' 5, c.constraints), (h' 7, c.fairness)] ++ jps c js' = rowsOf c h' js' from rfl]
  skip
  generalize hps : rowsOf c h' js' = ps at *
  have pl : (ps.map (rowF (bT c))).length = ps.length := List.length_map _
  refine GC_loopK [1, 2, 7, 8, 9, 17, 138, 139] (fun i : Nat => [(140, nu i)]) (fun i => [.any (bun (fam rowJ (mix (ps.map (rowF (bT c))) ps i))), .vec encS 1 22 A8 k8 ps, .vec tcells 3 83 (h' 2).1 (h' 2).2 c.latches, .vec encS 1 22 (h' 6).1 (h' 6).2 (jps c js'), .vec scells 3 110 (h' 9).1 (h' 9).2 c.symbols, .vec bcell 1 9 (h' 10).1 (h' 10).2 c.comments, .vec icell 1 3 (some ⟨bm, 0, none⟩) (c.max + 1).toNat (bT c), .any (bldX g S c.inputs.length c.latches.length (bG c)), .box b8 22 [.slice (some ⟨bm, 0, none⟩) (c.max + 1).toNat (c.max + 1).toNat], .box b17 29 (ccells c h'), .box b2 29 Zc, .box b1 29 (ccells c h), .old w none_]) (fun i => i ≤ ps.length) (fun i => ps.length - i) 0 (by repeat first | exact Pick.nil | (apply Pick.cons; eq_refl)) (by repeat first | exact trivial | refine ⟨rfl, ?_⟩) (by repeat first | exact Wk.nil | exact Wk.refl | (apply Wk.cons; (focus ((repeat first | exact Rem.here | apply Rem.there | apply Rem.skip); done))) | apply Wk.nilv | apply Wk.last | apply Wk.drop) (Nat.zero_le _) ?_
  intro i hi4
  rcases Nat.lt_or_ge i ps.length with hlt | hge4
  · obtain ⟨q1, q2⟩ := mix_rows (f := rowF (bT c)) hlt
    obtain ⟨ro1, ro2⟩ := hro _ (gt_mem (l := ps) (i := (i : Int)) (by omega) (by omega))
    rw [q1]
    generalize (ps.map (rowF (bT c))).take i = aa at *
    generalize ps.drop (i + 1) = dd at *
    generalize hx : gt ps (i : Int) = x at *
    obtain ⟨x1, ls⟩ := x
    dsimp only at ro1 ro2
    refine GC_wk .here (row_out aa dd (x1, ls)) ?_
    repeat' (first
      | (apply G_rd; eq_refl; (first | (apply Rd.own; (repeat first | exact In.here | apply In.there | apply In.skip); infer_instance) | (apply Rd.old; (repeat first | exact In.here | apply In.there | apply In.skip); assumption) | (apply Rd.oldR; (repeat first | exact In.here | apply In.there | apply In.skip); assumption) | exact Rd.nil | assumption); (case ih => infer_instance); omega; omega; (rw [hx]; dsimp only [encS]; eq_refl))
      | (apply GC_seqK; intro K hK)
      | (apply hK; clear hK K)
      | (apply GC_block)
      | (apply GC_region)
      | (apply GL_nil)
      | (apply thenG_normal)
      | (apply GC_skip)
      | (apply GC_if_true; eq_refl)
      | (apply GL_on; eq_refl; eq_refl)
      | (apply G_pv; eq_refl; first | exact trivial | omega)
      | (apply G_cmpT; eq_refl; eq_refl; omega)
      | (apply G_len; eq_refl)
      | (apply G_ix; eq_refl; eq_refl; (first | (apply Rd.own; (repeat first | exact In.here | apply In.there | apply In.skip); infer_instance) | (apply Rd.old; (repeat first | exact In.here | apply In.there | apply In.skip); assumption) | (apply Rd.oldR; (repeat first | exact In.here | apply In.there | apply In.skip); assumption) | exact Rd.nil | assumption); (first | eq_refl | omega); omega; omega))
    have lm : (ls.map (litX (bT c))).length = ls.length := List.length_map _
    refine GC_loopK [1, 2, 7, 8, 9, 17, 138, 139, 140, 19, 144, 145] (fun j : Nat => [(146, nu j)]) (fun j => [.vec icell 1 3 x1.1 x1.2 (mix (ls.map (litX (bT c))) ls j), .any (bun (fam rowJ (aa ++ dd))), .vec encS 1 22 A8 k8 ps, .vec tcells 3 83 (h' 2).1 (h' 2).2 c.latches, .vec encS 1 22 (h' 6).1 (h' 6).2 (jps c js'), .vec scells 3 110 (h' 9).1 (h' 9).2 c.symbols, .vec bcell 1 9 (h' 10).1 (h' 10).2 c.comments, .vec icell 1 3 (some ⟨bm, 0, none⟩) (c.max + 1).toNat (bT c), .any (bldX g S c.inputs.length c.latches.length (bG c)), .box b8 22 [.slice (some ⟨bm, 0, none⟩) (c.max + 1).toNat (c.max + 1).toNat], .box b17 29 (ccells c h'), .box b2 29 Zc, .box b1 29 (ccells c h), .old w none_]) (fun j => j ≤ ls.length) (fun j => ls.length - j) 0 (by repeat first | exact Pick.nil | (apply Pick.cons; eq_refl)) (by repeat first | exact trivial | refine ⟨rfl, ?_⟩) (by repeat first | exact Wk.nil | exact Wk.refl | (apply Wk.cons; (focus ((repeat first | exact Rem.here | apply Rem.there | apply Rem.skip); done))) | apply Wk.nilv | apply Wk.last | apply Wk.drop) (Nat.zero_le _) ?_
    intro j hj
    rcases Nat.lt_or_ge j ls.length with hjl | hjg
    · have f1 := mix_get (i := j) lm hjl
      have hin := ro1 _ (gt_mem (l := ls) (i := (j : Int)) (by omega) (by omega))
      have e5 : mix (ls.map (litX (bT c))) ls (j + 1) = (mix (ls.map (litX (bT c))) ls j).set (j : Int).toNat (litX (bT c) (gt ls (j : Int))) := (mix_step (by omega) lm (by rw [List.getElem_map, gt_nat hjl])).symm
      have e6 : (mix (ls.map (litX (bT c))) ls j).length = ls.length := mix_len lm
      rw [← f1] at e5 hin
      generalize mix (ls.map (litX (bT c))) ls j = ml at *
      repeat' (first
      | (apply G_callF; eq_refl; eq_refl; infer_instance; eq_refl; (apply hcl; (first | exact hin | exact hin1 | exact hin2); (repeat first | exact In.here | apply In.there | apply In.skip); (repeat first | exact In.here | apply In.there | apply In.skip)); rintro _ _ ⟨rfl, rfl⟩)
      | (apply GC_seqK; intro K hK)
      | (apply hK; clear hK K)
      | (apply GC_block)
      | (apply GC_region)
      | (apply GL_nil)
      | (apply thenG_normal)
      | (apply blockG_normal)
      | (apply GC_skip)
      | (apply GC_if_true; eq_refl)
      | (apply GL_on; eq_refl; eq_refl)
      | (apply G_pv; eq_refl; first | exact trivial | omega)
      | (apply G_rd; eq_refl; (first | (apply Rd.own; (repeat first | exact In.here | apply In.there | apply In.skip); infer_instance) | (apply Rd.old; (repeat first | exact In.here | apply In.there | apply In.skip); assumption) | (apply Rd.oldR; (repeat first | exact In.here | apply In.there | apply In.skip); assumption) | exact Rd.nil | assumption); (case ih => infer_instance); omega; omega; eq_refl)
      | (apply G_cmpT; eq_refl; eq_refl; omega)
      | (apply G_ix; eq_refl; eq_refl; (first | (apply Rd.own; (repeat first | exact In.here | apply In.there | apply In.skip); infer_instance) | (apply Rd.old; (repeat first | exact In.here | apply In.there | apply In.skip); assumption) | (apply Rd.oldR; (repeat first | exact In.here | apply In.there | apply In.skip); assumption) | exact Rd.nil | assumption); (first | eq_refl | omega); omega; omega)
      | (apply G_stV; (first | exact wr_p | kernel_rfl); eq_refl; eq_refl; eq_refl; eq_refl; (repeat first | exact Upd.here | apply Upd.there | apply Upd.skip); infer_instance; infer_instance; eq_refl; omega; (try simp only [List.length_set, List.length_append, List.length_replicate]); omega))
      refine ⟨j + 1, (by repeat first | exact trivial | refine ⟨rfl, ?_⟩), ?_, hjl, by omega⟩
      rw [e5]
      exact (by repeat first | exact Wk.nil | exact Wk.refl | (apply Wk.cons; (focus ((repeat first | exact Rem.here | apply Rem.there | apply Rem.skip); done))) | apply Wk.nilv | apply Wk.last | apply Wk.drop)
    obtain rfl : j = ls.length := by omega
    rw [show mix (ls.map (litX (bT c))) ls ls.length = ls.map (litX (bT c)) from mix_all (by omega) (Nat.le_refl _)]
    repeat' (first
      | (apply GC_seqK; intro K hK)
      | (apply hK; clear hK K)
      | (clear hK K; apply hK; clear hK K)
      | (apply GC_region)
      | (apply GL_nil)
      | (apply thenG_normal)
      | (apply thenG_exit)
      | (apply blockG_hit)
      | (apply blockG_normal)
      | (apply GC_exit)
      | (apply GC_if_false; eq_refl)
      | (apply GL_on; eq_refl; eq_refl)
      | (apply G_pv; eq_refl; first | exact trivial | omega)
      | (apply G_cmpF; eq_refl; eq_refl; omega))
    refine ⟨i + 1, (by repeat first | exact trivial | refine ⟨rfl, ?_⟩), ?_, hlt, by omega⟩
    rw [q2]
    exact Wk.part (C := [rowL (x1, ls.map (litX (bT c))), .any (bun (fam rowJ (aa ++ dd)))]) (by (repeat first | exact Rems.nil | (apply Rems.cons; (focus ((repeat first | exact Rem.here | apply Rem.there | apply Rem.skip); done))))) (row_in aa dd (x1, ls.map (litX (bT c)))) (by repeat first | exact Wk.nil | exact Wk.refl | (apply Wk.cons; (focus ((repeat first | exact Rem.here | apply Rem.there | apply Rem.skip); done))) | apply Wk.nilv | apply Wk.last | apply Wk.drop)
  obtain rfl : i = ps.length := by omega
  rw [show mix (ps.map (rowF (bT c))) ps ps.length = ps.map (rowF (bT c)) from mix_all (by omega) (Nat.le_refl _)]
  repeat' (first
      | (apply GC_seqK; intro K hK)
      | (apply hK; clear hK K)
      | (clear hK K; apply hK; clear hK K)
      | (apply GC_block)
      | (apply GC_region)
      | (apply GL_nil)
      | (apply thenG_normal)
      | (apply thenG_exit)
      | (apply blockG_hit)
      | (apply GC_exit)
      | (apply GC_if_false; eq_refl)
      | (apply GL_on; eq_refl; eq_refl)
      | (apply G_pv; eq_refl; first | exact trivial | omega)
      | (apply G_field; eq_refl)
      | (apply G_ld; eq_refl; (repeat first | exact In.here | apply In.there | apply In.skip); eq_refl)
      | (apply G_cmpF; eq_refl; eq_refl; omega)
      | (apply G_len; eq_refl))
  have kl : (c.latches.map (bLatch (bT c))).length = c.latches.length := List.length_map _
  refine GC_loopK [1, 2, 7, 8, 9, 17, 161, 162] (fun i : Nat => [(163, nu i)]) (fun i => [.vec tcells 3 83 (h' 2).1 (h' 2).2 (mix (c.latches.map (bLatch (bT c))) c.latches i), .any (bun (fam rowJ (ps.map (rowF (bT c))))), .vec encS 1 22 (h' 6).1 (h' 6).2 (jps c js'), .vec scells 3 110 (h' 9).1 (h' 9).2 c.symbols, .vec bcell 1 9 (h' 10).1 (h' 10).2 c.comments, .vec icell 1 3 (some ⟨bm, 0, none⟩) (c.max + 1).toNat (bT c), .any (bldX g S c.inputs.length c.latches.length (bG c)), .box b8 22 [.slice (some ⟨bm, 0, none⟩) (c.max + 1).toNat (c.max + 1).toNat], .box b17 29 (ccells c h'), .box b2 29 Zc, .box b1 29 (ccells c h), .old w none_]) (fun i => i ≤ c.latches.length) (fun i => c.latches.length - i) 0 (by repeat first | exact Pick.nil | (apply Pick.cons; eq_refl)) (by repeat first | exact trivial | refine ⟨rfl, ?_⟩) (by repeat first | exact Wk.nil | exact Wk.refl | (apply Wk.cons; (focus ((repeat first | exact Rem.here | apply Rem.there | apply Rem.skip); done))) | apply Wk.nilv | apply Wk.last | apply Wk.drop) (Nat.zero_le _) ?_
  intro i hi5
  rcases Nat.lt_or_ge i c.latches.length with hlt | hge5
  · have hm := gt_mem (l := c.latches) (i := (i : Int)) (by omega) (by omega)
    obtain ⟨g1, hin1, g3⟩ := R.lat hm
    have hin0 := g1.in
    have hin2 : inR c (gt c.latches (i : Int)).2.2 := by
      unfold inR at hin0 ⊢
      rcases g3 with g3 | g3 | g3 <;> omega
    have e5 : mix (c.latches.map (bLatch (bT c))) c.latches (i + 1) = (mix (c.latches.map (bLatch (bT c))) c.latches i).set (i : Int).toNat (bLatch (bT c) (gt c.latches (i : Int))) := (mix_step (by omega) kl (by rw [List.getElem_map, gt_nat hlt])).symm
    have e6 : (mix (c.latches.map (bLatch (bT c))) c.latches i).length = c.latches.length := mix_len kl
    generalize mix (c.latches.map (bLatch (bT c))) c.latches i = ml at *
    by_cases hr : 1 < (gt c.latches (i : Int)).2.2
    · have e9 : tcells (bLatch (bT c) (gt c.latches (i : Int))) = [nu (litX (bT c) (gt c.latches (i : Int)).1), nu (litX (bT c) (gt c.latches (i : Int)).2.1), nu (litX (bT c) (gt c.latches (i : Int)).2.2)] := by
        unfold bLatch tcells
        rw [if_pos hr]
      repeat' (first
      | (apply G_callF; eq_refl; eq_refl; infer_instance; eq_refl; (apply hcl; (first | exact hin0 | exact hin1 | exact hin2); (repeat first | exact In.here | apply In.there | apply In.skip); (repeat first | exact In.here | apply In.there | apply In.skip)); rintro _ _ ⟨rfl, rfl⟩)
      | (apply G_stVW (bLatch (bT c) (gt c.latches (i : Int))); (first | exact wr_p | kernel_rfl); eq_refl; eq_refl; exact e9.symm; (repeat first | exact Upd.here | apply Upd.there | apply Upd.skip); infer_instance; omega; omega)
      | (apply GC_seqK; intro K hK)
      | (apply hK; clear hK K)
      | (apply GC_block)
      | (apply GC_region)
      | (apply GL_nil)
      | (apply thenG_normal)
      | (apply blockG_normal)
      | (apply GC_skip)
      | (apply GC_if_true; eq_refl)
      | (apply GL_on; eq_refl; eq_refl)
      | (refine GC_draws (id := 42) [.q 0, .q 1, .q 2, .q 3, .q 4, .q 5, .q 7, .q 8, .q 9, .q 11, .q 12, .c 6, .c 10, .q 13, .q 14, .c 15] mixed (by kernel_rfl) (by kernel_rfl) ?_)
      | (apply GS_nil)
      | (apply GS_qon; eq_refl; eq_refl; eq_refl; eq_refl)
      | (apply GS_con; eq_refl; eq_refl; eq_refl; eq_refl)
      | (apply G_pv; eq_refl; first | exact trivial | omega)
      | (apply G_field; eq_refl)
      | (apply G_ld; eq_refl; (repeat first | exact In.here | apply In.there | apply In.skip); eq_refl)
      | (apply G_rdW; eq_refl; (first | (apply Rd.own; (repeat first | exact In.here | apply In.there | apply In.skip); infer_instance) | (apply Rd.old; (repeat first | exact In.here | apply In.there | apply In.skip); assumption) | (apply Rd.oldR; (repeat first | exact In.here | apply In.there | apply In.skip); assumption) | exact Rd.nil | assumption); infer_instance; (case ih => infer_instance); omega; omega)
      | (apply G_cmpT; eq_refl; eq_refl; omega)
      | (apply G_ix; eq_refl; eq_refl; (first | (apply Rd.own; (repeat first | exact In.here | apply In.there | apply In.skip); infer_instance) | (apply Rd.old; (repeat first | exact In.here | apply In.there | apply In.skip); assumption) | (apply Rd.oldR; (repeat first | exact In.here | apply In.there | apply In.skip); assumption) | exact Rd.nil | assumption); (first | eq_refl | omega); omega; omega)
      | (apply G_alloc; eq_refl; intro _)
      | (apply G_st; (first | exact wr_p | kernel_rfl); eq_refl; eq_refl; eq_refl; eq_refl; (repeat first | exact Upd.here | apply Upd.there | apply Upd.skip); (first | decide | exact Nat.le_of_ble_eq_true rfl))
      | (apply G_stW; (first | exact wr_p | kernel_rfl); eq_refl; eq_refl; eq_refl; eq_refl; (repeat first | exact Upd.here | apply Upd.there | apply Upd.skip); eq_refl)
      | (apply GX_pure; apply build83_0_1_2 <;> eq_refl))
      refine ⟨i + 1, (by repeat first | exact trivial | refine ⟨rfl, ?_⟩), ?_, hlt, by omega⟩
      rw [e5]
      exact (by repeat first | exact Wk.nil | exact Wk.refl | (apply Wk.cons; (focus ((repeat first | exact Rem.here | apply Rem.there | apply Rem.skip); done))) | apply Wk.nilv | apply Wk.last | apply Wk.drop)
    · have e9 : tcells (bLatch (bT c) (gt c.latches (i : Int))) = [nu (litX (bT c) (gt c.latches (i : Int)).1), nu (litX (bT c) (gt c.latches (i : Int)).2.1), nu (gt c.latches (i : Int)).2.2] := by
        unfold bLatch tcells
        rw [if_neg hr]
      repeat' (first
      | (apply G_callF; eq_refl; eq_refl; infer_instance; eq_refl; (apply hcl; (first | exact hin0 | exact hin1 | exact hin2); (repeat first | exact In.here | apply In.there | apply In.skip); (repeat first | exact In.here | apply In.there | apply In.skip)); rintro _ _ ⟨rfl, rfl⟩)
      | (apply G_stVW (bLatch (bT c) (gt c.latches (i : Int))); (first | exact wr_p | kernel_rfl); eq_refl; eq_refl; exact e9.symm; (repeat first | exact Upd.here | apply Upd.there | apply Upd.skip); infer_instance; omega; omega)
      | (apply GC_seqK; intro K hK)
      | (apply hK; clear hK K)
      | (apply GC_block)
      | (apply GC_region)
      | (apply GL_nil)
      | (apply thenG_normal)
      | (apply blockG_normal)
      | (apply GC_skip)
      | (apply GC_if_true; eq_refl)
      | (apply GC_if_false; eq_refl)
      | (apply GL_on; eq_refl; eq_refl)
      | (refine GC_draws (id := 42) [.q 0, .q 1, .q 2, .q 3, .q 4, .q 5, .q 7, .q 8, .q 9, .q 11, .q 12, .c 6, .c 10, .q 13, .q 14, .c 15] mixed (by kernel_rfl) (by kernel_rfl) ?_)
      | (apply GS_nil)
      | (apply GS_qon; eq_refl; eq_refl; eq_refl; eq_refl)
      | (apply GS_con; eq_refl; eq_refl; eq_refl; eq_refl)
      | (apply G_pv; eq_refl; first | exact trivial | omega)
      | (apply G_field; eq_refl)
      | (apply G_ld; eq_refl; (repeat first | exact In.here | apply In.there | apply In.skip); eq_refl)
      | (apply G_rdW; eq_refl; (first | (apply Rd.own; (repeat first | exact In.here | apply In.there | apply In.skip); infer_instance) | (apply Rd.old; (repeat first | exact In.here | apply In.there | apply In.skip); assumption) | (apply Rd.oldR; (repeat first | exact In.here | apply In.there | apply In.skip); assumption) | exact Rd.nil | assumption); infer_instance; (case ih => infer_instance); omega; omega)
      | (apply G_cmpT; eq_refl; eq_refl; omega)
      | (apply G_cmpF; eq_refl; eq_refl; omega)
      | (apply G_ix; eq_refl; eq_refl; (first | (apply Rd.own; (repeat first | exact In.here | apply In.there | apply In.skip); infer_instance) | (apply Rd.old; (repeat first | exact In.here | apply In.there | apply In.skip); assumption) | (apply Rd.oldR; (repeat first | exact In.here | apply In.there | apply In.skip); assumption) | exact Rd.nil | assumption); (first | eq_refl | omega); omega; omega)
      | (apply G_alloc; eq_refl; intro _)
      | (apply G_stW; (first | exact wr_p | kernel_rfl); eq_refl; eq_refl; eq_refl; eq_refl; (repeat first | exact Upd.here | apply Upd.there | apply Upd.skip); eq_refl)
      | (apply GX_pure; apply build83_0_1_2 <;> eq_refl))
      refine ⟨i + 1, (by repeat first | exact trivial | refine ⟨rfl, ?_⟩), ?_, hlt, by omega⟩
      rw [e5]
      exact (by repeat first | exact Wk.nil | exact Wk.refl | (apply Wk.cons; (focus ((repeat first | exact Rem.here | apply Rem.there | apply Rem.skip); done))) | apply Wk.nilv | apply Wk.last | apply Wk.drop)
  obtain rfl : i = c.latches.length := by omega
  rw [show mix (c.latches.map (bLatch (bT c))) c.latches c.latches.length = c.latches.map (bLatch (bT c)) from mix_all (by omega) (Nat.le_refl _)]
  refine GC_bld (by repeat first | exact Rem.here | apply Rem.there) ?_
  intro AB cB mB
  have hgr : ∀ Γ, In Γ (.box g 101 [num c.inputs.length, num c.latches.length, .slice AB (bG c).length cB, .map (some mB)]) → ∀ w', Mem w' Γ → CVN Try.prog 71 [ptr g] w' fun v N => N = [] ∧ v = num (nB c + (bG c).length) := fun Γ hi w' M => greatestG (hi.ok M) (by omega) (by omega) (by unfold nB at bmx; omega)
  repeat' (first
      | (apply G_call; eq_refl; eq_refl; (apply hgr; (repeat first | exact In.here | apply In.there | apply In.skip)); rintro _ _ ⟨rfl, rfl⟩)
      | (apply GC_drawsP (id := 44) (C := [.box b17 29 (ccells c h')]) [.q 0, .q 2, .q 3, .q 4, .q 5, .c 1, .q 6, .c 7, .q 8, .c 9]; exact mixed; kernel_rfl; kernel_rfl; (repeat first | exact Rems.nil | (apply Rems.cons; (focus ((repeat first | exact Rem.here | apply Rem.there | apply Rem.skip); done)))))
      | (apply GS_nilP)
      | (apply G_stBP; eq_refl; eq_refl; eq_refl; eq_refl; (repeat first | exact Upd.here | apply Upd.there | apply Upd.skip); exact Nat.le_of_ble_eq_true rfl)
      | (apply GC_drawsP (id := 45) (C := [.box b2 29 Zc]) [.q 0, .q 1, .c 2, .q 3, .q 4]; exact mixed; kernel_rfl; kernel_rfl; (repeat first | exact Rems.nil | (apply Rems.cons; (focus ((repeat first | exact Rem.here | apply Rem.there | apply Rem.skip); done)))))
      | (apply G_stWP; eq_refl; eq_refl; eq_refl; eq_refl; (repeat first | exact Upd.here | apply Upd.there | apply Upd.skip); eq_refl)
      | (apply GC_seqK; intro K hK)
      | (apply hK; clear hK K)
      | (clear hK K; apply hK; clear hK K)
      | (apply GC_region)
      | (apply GL_nil)
      | (apply thenG_normal)
      | (apply thenG_exit)
      | (apply blockG_hit)
      | (apply GC_ret)
      | (apply GC_exit)
      | (apply GC_if_false; eq_refl)
      | (apply retGC2; eq_refl; (repeat first | exact In.here | apply In.there | apply In.skip); eq_refl; eq_refl; eq_refl)
      | (apply GL_on; eq_refl; eq_refl)
      | (apply GS_qon; eq_refl; eq_refl; eq_refl; eq_refl)
      | (apply GS_con; eq_refl; eq_refl; eq_refl; eq_refl)
      | (apply G_pv; eq_refl; first | exact trivial | omega)
      | (apply G_field; eq_refl)
      | (apply G_ld; eq_refl; (repeat first | exact In.here | apply In.there | apply In.skip); eq_refl)
      | (apply G_ldW; eq_refl; (repeat first | exact In.here | apply In.there | apply In.skip); eq_refl)
      | (apply G_cmpF; eq_refl; eq_refl; omega))
  have hcells : ((ccells c h').set (0 + 0) (num (nB c + (bG c).length))).set (0 + 8) (.slice AB (bG c).length cB) = ccells (bC c) (hd8 h' AB cB) := by simp [ccells, bC, hd8]
  rw [hcells]
  have hW := built_wk (c := c) (h := h') (js := js') (A := AB) (k := cB)
  rw [hps] at hW
  refine ⟨[.any (cirX 0 (bC c) (hd8 h' AB cB) js'), .vec icell 1 3 (some ⟨bm, 0, none⟩) (c.max + 1).toNat (bT c)], ?_, _, js', _, _, by rw [tl], rfl⟩
  exact Wk.part (D := [.any (cirX 0 (bC c) (hd8 h' AB cB) js')]) (Γ' := [.vec icell 1 3 (some ⟨bm, 0, none⟩) (c.max + 1).toNat (bT c), .old w none_]) (C := [.vec encS 1 22 (h' 6).1 (h' 6).2 (jps c js'), .any (bun (fam rowJ (ps.map (rowF (bT c))))), .vec tcells 3 83 (h' 2).1 (h' 2).2 (c.latches.map (bLatch (bT c))), .vec tcells 3 57 AB cB (bG c), .vec scells 3 110 (h' 9).1 (h' 9).2 c.symbols, .vec bcell 1 9 (h' 10).1 (h' 10).2 c.comments]) (by (repeat first | exact Rems.nil | (apply Rems.cons; (focus ((repeat first | exact Rem.here | apply Rem.there | apply Rem.skip); done))))) hW (by repeat first | exact Wk.nil | exact Wk.refl | (apply Wk.cons; (focus ((repeat first | exact Rem.here | apply Rem.there | apply Rem.skip); done))) | apply Wk.nilv | apply Wk.last | apply Wk.drop)
end SC
end Go.Proofs.Yticndofcfacopaa
end
section
/- trestlelaw09: works, by entries. -/
set_option linter.unusedVariables false
set_option linter.unusedSimpArgs false
namespace Go.Proofs.Yticndofcfacopaa
namespace SC
open Go.Proofs
theorem AndG {w : World} {g : Nat} {S : Nat → Prop} {i l : Int} {gs : List Gate} {x y : Int} (hi : 0 ≤ i) (hl : 0 ≤ l) (G : Gs (i + l) gs) (hn : i + l + gs.length ≤ 16384) (hx : okM (i + l) gs x) (hy : okM (i + l) gs y) (M : Mem w [.any (bldX g S i l gs)]) :
    CVM Try.prog 79 [ptr g, num x, num y] w [.any (bldX g S i l gs)] (BldR g i l (andM (i + l) gs x y)) := by
  have := And_cv (x := x) (y := y) (M.head : Bld w g S i l gs) hi hl (G.inv hn)
  rw [AndM_ok hx hy] at this
  exact After.cvm this
attribute [local irreducible] WC WL WX WS WO OX Does DoesU Enters CV Pure thenQ blockQ retQ Wants retQC GC GL GS GX RdB thenG blockG retG Rd At gt CVN CVM
set_option maxRecDepth 100000
theorem works09_cv {w : World} : CVN Try.prog 38 [] w fun v N => N = [] ∧ v = .bool true := by
  have G0 : Gs 2 [] := Gs.nil (by decide)
  have M1 := andM_made (x := 4) (y := 2) G0 (by unfold okM; decide) (by unfold okM; decide) (by decide)
  have e1 : andM 2 [] 4 2 = (6, 0, [(6, 4, 2)]) := by decide
  rw [e1] at M1
  have G1 : Gs 2 [(6, 4, 2)] := M1.good
  have M2 := xorM_made (x := 2) (y := 4) G1 (by unfold okM; decide) (by unfold okM; decide) (by decide)
  have e2 : xorM 2 [(6, 4, 2)] 2 4 = (10, 0, [(6, 4, 2), (8, 5, 3), (10, 9, 7)]) := by decide
  rw [e2] at M2
  have G2 : Gs 2 [(6, 4, 2), (8, 5, 3), (10, 9, 7)] := M2.good
  have e3 : orM 2 [(6, 4, 2), (8, 5, 3), (10, 9, 7)] 2 4 = (9, 0, [(6, 4, 2), (8, 5, 3), (10, 9, 7)]) := by decide
  have hN : ∀ w', CVN Try.prog 39 [nu 2, nu 0] w' _ := fun w' => NewG (by unfold newBad; decide)
  have hA : ∀ g S w', Mem w' [.any (bldX g S 2 0 [])] → CVM Try.prog 79 [ptr g, nu 4, nu 2] w' [.any (bldX g S 2 0 [])] (BldR g 2 0 (6, 0, [(6, 4, 2)])) := fun g S w' M => by
    have := AndG (x := 4) (y := 2) (by decide) (by decide) G0 (by decide) (by unfold okM; decide) (by unfold okM; decide) M
    rwa [show (2 : Int) + 0 = 2 from rfl, e1] at this
  have hX : ∀ g S w', Mem w' [.any (bldX g S 2 0 [(6, 4, 2)])] → CVM Try.prog 41 [ptr g, nu 2, nu 4] w' [.any (bldX g S 2 0 [(6, 4, 2)])] (BldR g 2 0 (10, 0, [(6, 4, 2), (8, 5, 3), (10, 9, 7)])) := fun g S w' M => by
    have := XorG (x := 2) (y := 4) (by decide) (by decide) G1 (by decide) (by unfold okM; decide) (by unfold okM; decide) M
    rwa [show (2 : Int) + 0 = 2 from rfl, e2] at this
  have hO : ∀ g S w', Mem w' [.any (bldX g S 2 0 [(6, 4, 2), (8, 5, 3), (10, 9, 7)])] → CVM Try.prog 40 [ptr g, nu 2, nu 4] w' [.any (bldX g S 2 0 [(6, 4, 2), (8, 5, 3), (10, 9, 7)])] (BldR g 2 0 (9, 0, [(6, 4, 2), (8, 5, 3), (10, 9, 7)])) := fun g S w' M => by
    have := OrG (x := 2) (y := 4) (by decide) (by decide) G2 (by decide) (by unfold okM; decide) (by unfold okM; decide) M
    rwa [show (2 : Int) + 0 = 2 from rfl, e3] at this
  have hS : ∀ Γ g S, In Γ (.any (bldX g S 2 0 [(6, 4, 2), (8, 5, 3), (10, 9, 7)])) → ∀ w', Mem w' Γ → CVN Try.prog 43 [ptr g] w' fun v N => N = [] ∧ v = nu 3 := fun Γ g S hi w' M => SizeG hi M
  refine CVN.enter 61 [0] Try.func38 rfl rfl rfl (by decide) rfl ?_
  repeat' (first
      | (simp only [Option.isNone_some])
      | (apply G_call; eq_refl; eq_refl; (exact fun w' _ => hN w'); rintro _ _ ⟨g, S, rfl, rfl⟩)
      | (apply G_callM2; exact wr_p; eq_refl; (exact hA g S); (repeat first | exact Rems.nil | (apply Rems.cons; (focus ((repeat first | exact Rem.here | apply Rem.there | apply Rem.skip); done)))); rintro _ _ ⟨rfl, S1, rfl⟩)
      | (apply G_callM2; exact wr_p; eq_refl; (exact hX g S1); (repeat first | exact Rems.nil | (apply Rems.cons; (focus ((repeat first | exact Rem.here | apply Rem.there | apply Rem.skip); done)))); rintro _ _ ⟨rfl, S2, rfl⟩)
      | (apply G_callM2; exact wr_p; eq_refl; (exact hO g S2); (repeat first | exact Rems.nil | (apply Rems.cons; (focus ((repeat first | exact Rem.here | apply Rem.there | apply Rem.skip); done)))); rintro _ _ ⟨rfl, S3, rfl⟩)
      | (apply G_call; eq_refl; eq_refl; (apply hS; (repeat first | exact In.here | apply In.there | apply In.skip)); rintro _ _ ⟨rfl, rfl⟩)
      | (apply GC_seqK; intro K hK)
      | (apply hK; clear hK K)
      | (clear hK K; apply hK; clear hK K)
      | (clear hK K; clear hK K; apply hK; clear hK K)
      | (clear hK K; clear hK K; clear hK K; apply hK; clear hK K)
      | (apply GC_block)
      | (apply GC_region)
      | (apply GL_nil)
      | (apply thenG_normal)
      | (apply thenG_ret)
      | (apply thenG_exit)
      | (apply blockG_hit)
      | (apply blockG_miss; eq_refl)
      | (apply blockG_ret)
      | (apply blockG_normal)
      | (apply GC_ret)
      | (apply GC_exit)
      | (apply GC_skip)
      | (apply GC_if_true; eq_refl)
      | (apply GC_if_false; eq_refl)
      | (apply GC_ifD; eq_refl; all_goals intro _)
      | (apply GC_if; eq_refl; all_goals intro _)
      | (apply retG1; eq_refl)
      | (apply retG2; eq_refl; eq_refl)
      | (apply retG3; eq_refl; eq_refl; eq_refl)
      | (apply retG0)
      | (apply retG0n)
      | (apply GL_on; eq_refl; eq_refl)
      | (apply GL_off; eq_refl; eq_refl)
      | (apply GL_offU; eq_refl; eq_refl; eq_refl)
      | (apply GL_split; eq_refl; eq_refl; all_goals intro _)
      | (apply G_pv; eq_refl; first | exact trivial | omega)
      | (apply G_cmpT; eq_refl; eq_refl; omega)
      | (apply G_cmpF; eq_refl; eq_refl; omega)
      | (apply G_cmp; eq_refl; eq_refl; all_goals intro _)
      | (apply G_eqB; eq_refl; eq_refl)
      | (apply G_neqB; eq_refl; eq_refl)
      | (apply G_eqP; eq_refl; eq_refl)
      | (apply G_eqL; eq_refl; eq_refl)
      | (apply G_pickAnd; eq_refl; eq_refl)
      | (apply G_pickOr; eq_refl; eq_refl))
  exact ⟨[], (by repeat first | exact Wk.nil | exact Wk.refl | (apply Wk.cons; (focus ((repeat first | exact Rem.here | apply Rem.there | apply Rem.skip); done))) | apply Wk.nilv | apply Wk.last | apply Wk.drop), rfl, by first | trivial | rfl⟩
end SC
end Go.Proofs.Yticndofcfacopaa
end
section
/- trestlelaw09: HashSettles: the walk. -/
set_option linter.unusedVariables false
set_option linter.unusedSimpArgs false
namespace Go.Proofs.Yticndofcfacopaa
namespace SC
open Go.Proofs
theorem In.cirB {Γ : Mm} {w w0 : World} {base : Nat} {c : Circ} {h js h' js' : Hd} (H : CirIn w0 c h js) (he : (lookM c).2 = 0) (hi : In Γ (.any (cirX base (bC c) h' js'))) (M : Mem w Γ) : CirIn w (bC c) h' js' := by
  have R := right_of H.at_ H.sane he
  exact ⟨CirOwn.at (hi.ok M), R.b_sane H.sane, R.b_okay H.okay, R.b_fits H.fits⟩
theorem Rd.cirBads {Γ : Mm} {base : Nat} {c : Circ} {h js : Hd} (hi : In Γ (.any (cirX base c h js))) : Rd Γ icell 1 (h 4).1 c.bads := fun w M => (hi.cirAt M).bads
attribute [local irreducible] WC WL WX WS WO OX Does DoesU Enters CV Pure thenQ blockQ retQ Wants retQC GC GL GS GX RdB thenG blockG retG Rd At gt CVN CVM
attribute [local irreducible] bldX cirX fam
set_option maxRecDepth 100000
theorem build_no {w : World} {c : Circ} {h js : Hd} (H : CirIn w c h js) (he : (lookM c).2 ≠ 0) : CVN Try.prog 32 [.agg (ccells c h).toArray] w fun v N => v = .tuple #[.agg Zc.toArray, .slice none 0 0, nu (lookM c).2] ∧ N = [] := by
  have hord : ∀ Γ, In Γ (.old w none_) → ∀ w', Mem w' Γ → CVN Try.prog 61 [.agg (ccells c h).toArray] w' (OrdR c) := fun Γ hi w' M => OrderG (H.at_.chg (hi.old M)) H.sane
  refine CVN.enterC (t := 29) 202 2 [3, 4] Try.func32 rfl rfl rfl (.inr rfl) rfl ?_
  repeat' (first
      | (apply G_call; eq_refl; eq_refl; (apply hord; (repeat first | exact In.here | apply In.there | apply In.skip)); rintro _ _ (⟨_, rfl, rfl⟩ | ⟨he', A1, k1, rfl, rfl⟩); rotate_left; (exact absurd he' he))
      | (apply GC_seqK; intro K hK)
      | (apply hK; clear hK K)
      | (apply GC_region)
      | (apply GL_nil)
      | (apply thenG_normal)
      | (apply thenG_ret)
      | (apply GC_ret)
      | (apply GC_if_true; eq_refl)
      | (apply retGC2; eq_refl; (repeat first | exact In.here | apply In.there | apply In.skip); eq_refl; eq_refl; eq_refl)
      | (apply GL_on; eq_refl; eq_refl)
      | (apply G_pv; eq_refl; first | exact trivial | omega)
      | (apply G_ldW; eq_refl; (repeat first | exact In.here | apply In.there | apply In.skip); eq_refl)
      | (apply G_cmpT; eq_refl; eq_refl; omega)
      | (apply G_alloc; eq_refl; intro _)
      | (apply G_box; eq_refl; eq_refl; intro _)
      | (apply G_stW; (first | exact wr_p | kernel_rfl); eq_refl; eq_refl; eq_refl; eq_refl; (repeat first | exact Upd.here | apply Upd.there | apply Upd.skip); eq_refl)
      | (apply GX_pure; apply build29_))
  exact ⟨[], (by repeat first | exact Wk.nil | exact Wk.refl | (apply Wk.cons; (focus ((repeat first | exact Rem.here | apply Rem.there | apply Rem.skip); done))) | apply Wk.nilv | apply Wk.last | apply Wk.drop), rfl, rfl⟩
end SC
end Go.Proofs.Yticndofcfacopaa
end
section
/- trestlelaw09: lit; the circuit of HashTables in memory. -/
set_option linter.unusedVariables false
set_option linter.unusedSimpArgs false
namespace Go.Proofs.Yticndofcfacopaa
namespace SC
open Go.Proofs
attribute [local irreducible] WC WL WX WS WO OX Does DoesU Enters CV Pure thenQ blockQ retQ Wants retQC GC GL GS GX RdB thenG blockG retG Rd At gt CVN CVM
set_option maxRecDepth 100000
theorem lit9_cv {w : World} {A : Option Addr} {c : Nat} {v : List Bool} {l : Int} (hA : RowA w booc 1 A v) (hl : hasL v l) : CVN Try.prog 45 [.slice A v.length c, nu l] w fun r N => N = [] ∧ r = .bool (lv v l) := by
  obtain ⟨h0, h1, h2⟩ := hl
  refine CVN.enter 14 [4] Try.func45 rfl rfl rfl (by decide) rfl ?_
  repeat' (first
      | (apply GC_seqK; intro K hK)
      | (apply hK; clear hK K)
      | (clear hK K; apply hK; clear hK K)
      | (clear hK K; clear hK K; apply hK; clear hK K)
      | (clear hK K; clear hK K; clear hK K; apply hK; clear hK K)
      | (apply GC_block)
      | (apply GC_region)
      | (apply GL_nil)
      | (apply thenG_normal)
      | (apply thenG_ret)
      | (apply thenG_exit)
      | (apply blockG_hit)
      | (apply blockG_miss; eq_refl)
      | (apply blockG_ret)
      | (apply blockG_normal)
      | (apply GC_ret)
      | (apply GC_exit)
      | (apply GC_skip)
      | (apply GC_if_true; eq_refl)
      | (apply GC_if_false; eq_refl)
      | (apply GC_ifD; eq_refl; all_goals intro _)
      | (apply GC_if; eq_refl; all_goals intro _)
      | (apply retG1; eq_refl)
      | (apply retG2; eq_refl; eq_refl)
      | (apply retG3; eq_refl; eq_refl; eq_refl)
      | (apply retG0)
      | (apply retG0n)
      | (apply GL_on; eq_refl; eq_refl)
      | (apply G_pv; eq_refl; first | exact trivial | omega)
      | (apply G_ld; eq_refl; (repeat first | exact In.here | apply In.there | apply In.skip); eq_refl)
      | (apply G_ldW; eq_refl; (repeat first | exact In.here | apply In.there | apply In.skip); eq_refl)
      | (apply G_ldO; eq_refl; (repeat first | exact In.here | apply In.there | apply In.skip); assumption; eq_refl)
      | (apply G_ldR; eq_refl; (apply RdB.oldR; (repeat first | exact In.here | apply In.there | apply In.skip); assumption); eq_refl)
      | (apply G_ldOW; eq_refl; (repeat first | exact In.here | apply In.there | apply In.skip); assumption; eq_refl)
      | (apply G_rd; eq_refl; (first | (apply Rd.own; (repeat first | exact In.here | apply In.there | apply In.skip); infer_instance) | (apply Rd.old; (repeat first | exact In.here | apply In.there | apply In.skip); assumption) | (apply Rd.oldR; (repeat first | exact In.here | apply In.there | apply In.skip); assumption) | exact Rd.nil | assumption); (case ih => infer_instance); omega; omega; eq_refl)
      | (apply G_rdF; eq_refl; (first | (apply Rd.own; (repeat first | exact In.here | apply In.there | apply In.skip); infer_instance) | (apply Rd.old; (repeat first | exact In.here | apply In.there | apply In.skip); assumption) | (apply Rd.oldR; (repeat first | exact In.here | apply In.there | apply In.skip); assumption) | exact Rd.nil | assumption); (case ih => infer_instance); omega; omega; eq_refl)
      | (apply G_rdW; eq_refl; (first | (apply Rd.own; (repeat first | exact In.here | apply In.there | apply In.skip); infer_instance) | (apply Rd.old; (repeat first | exact In.here | apply In.there | apply In.skip); assumption) | (apply Rd.oldR; (repeat first | exact In.here | apply In.there | apply In.skip); assumption) | exact Rd.nil | assumption); infer_instance; (case ih => infer_instance); omega; omega)
      | (apply G_cmpT; eq_refl; eq_refl; omega)
      | (apply G_cmpF; eq_refl; eq_refl; omega)
      | (apply G_cmpD; eq_refl; eq_refl; (case hd => infer_instance))
      | (apply G_cmp; eq_refl; eq_refl; all_goals intro _)
      | (apply G_ix; eq_refl; eq_refl; (first | (apply Rd.own; (repeat first | exact In.here | apply In.there | apply In.skip); infer_instance) | (apply Rd.old; (repeat first | exact In.here | apply In.there | apply In.skip); assumption) | (apply Rd.oldR; (repeat first | exact In.here | apply In.there | apply In.skip); assumption) | exact Rd.nil | assumption); (first | eq_refl | omega); omega; omega)
      | (apply G_ixA; eq_refl; eq_refl; omega; omega)
      | (apply G_eqB; eq_refl; eq_refl)
      | (apply G_neqB; eq_refl; eq_refl)
      | (apply G_eqP; eq_refl; eq_refl)
      | (apply G_eqL; eq_refl; eq_refl))
  exact ⟨[], (by repeat first | exact Wk.nil | exact Wk.refl | (apply Wk.cons; (focus ((repeat first | exact Rem.here | apply Rem.there | apply Rem.skip); done))) | apply Wk.nilv | apply Wk.last | apply Wk.drop), rfl, rfl⟩
end SC
end Go.Proofs.Yticndofcfacopaa
end
section
/- trestleref15: Cone. -/
set_option linter.unusedVariables false
set_option linter.unusedSimpArgs false
namespace Go.Proofs.Yticndofcfacopaa
namespace SC
open Go.Proofs
attribute [local irreducible] WC WL WX WS WO OX Does DoesU Enters CV Pure thenQ blockQ retQ Wants retQC GC GL GS GX RdB thenG blockG retG Rd At gt CVN CVM
set_option maxRecDepth 100000
end SC
end Go.Proofs.Yticndofcfacopaa
end
section
/- encode: Cone; Lit of both. -/
set_option linter.unusedVariables false
set_option linter.unusedSimpArgs false
namespace Go.Proofs.Yticndofcfacopaa
namespace SC
open Go.Proofs
attribute [local irreducible] WC WL WX WS WO OX Does DoesU Enters CV Pure thenQ blockQ retQ Wants retQC GC GL GS GX RdB thenG blockG retG Rd At gt CVN CVM
set_option maxRecDepth 100000
end SC
end Go.Proofs.Yticndofcfacopaa
end
section
/- encode: Cone. -/
set_option linter.unusedVariables false
set_option linter.unusedSimpArgs false
namespace Go.Proofs.Yticndofcfacopaa
namespace SC
open Go.Proofs
attribute [local irreducible] WC WL WX WS WO OX Does DoesU Enters CV Pure thenQ blockQ retQ Wants retQC GC GL GS GX RdB thenG blockG retG Rd At gt CVN CVM
set_option maxRecDepth 100000
end SC
end Go.Proofs.Yticndofcfacopaa
end
section
/- trestlelaw15: EncodeGates: the walk; numbers that come in. -/
set_option linter.unusedVariables false
set_option linter.unusedSimpArgs false
namespace Go.Proofs.Yticndofcfacopaa
namespace SC
open Go.Proofs
attribute [local irreducible] WC WL WX WS WO OX Does DoesU Enters CV Pure thenQ blockQ retQ Wants retQC GC GL GS GX RdB thenG blockG retG Rd At gt CVN CVM
attribute [local irreducible] lentX bun
set_option maxRecDepth 100000
end SC
end Go.Proofs.Yticndofcfacopaa
end
section
/- trestlelaw09: HashMeans: the walk. -/
set_option linter.unusedVariables false
set_option linter.unusedSimpArgs false
namespace Go.Proofs.Yticndofcfacopaa
namespace SC
open Go.Proofs
attribute [local irreducible] WC WL WX WS WO OX Does DoesU Enters CV Pure thenQ blockQ retQ Wants retQC GC GL GS GX RdB thenG blockG retG Rd At gt CVN CVM
attribute [local irreducible] bldX cirX fam
set_option maxRecDepth 100000
set_option maxHeartbeats 3200000 in
theorem hashMeans_cv {w : World} {c : Circ} {h js : Hd} {S T : Option Addr} {k2 k3 : Nat} {s r : List Bool} (H : CirIn w c h js) (hS : RowA w booc 1 S s) (hT : RowA w booc 1 T r) : CVN Try.prog 10 [.agg (ccells c h).toArray, .slice S s.length k2, .slice T r.length k3] w fun v N => N = [] ∧ v = .bool true := by
  have hW : ∀ w', CVN Try.prog 38 [] w' _ := fun w' => works09_cv
  refine CVN.enter 198 [6] Try.func10 rfl rfl rfl (by decide) rfl ?_
  by_cases he : (lookM c).2 = 0
  · have R := right_of H.at_ H.sane he
    have Q := R.b_seq he
    have hB : ∀ Γ, In Γ (.old w none_) → ∀ w', Mem w' Γ → CVN Try.prog 32 [.agg (ccells c h).toArray] w' _ := fun Γ hi w' M => build_ok (H.chg (hi.old M)) he
    have tl : (bT c).length = (c.max + 1).toNat := R.bI.mlen
    have m0 := R.m0
    have m1 := R.m1
    by_cases hz : stepE c s r = 0
    · have hz2 : stepE (bC c) s r = 0 := by rw [R.b_step he]; exact hz
      have ev1 : valsM c s r = valM c s r := by unfold valsM; rw [if_pos hz]
      have ev2 : valsM (bC c) s r = valM (bC c) s r := by unfold valsM; rw [if_pos hz2]
      have V1 := val_ok R s r
      have V2 := val_ok Q.right s r
      have hu := V1.len
      have hv := V2.len
      have hV : ∀ Γ, In Γ (.old w none_) → ∀ w', Mem w' Γ → CVN Try.prog 31 [.agg (ccells c h).toArray, .slice S s.length k2, .slice T r.length k3] w' fun v N => ∃ A k, v = .tuple #[.slice A (valM c s r).length k, nu 0] ∧ N = [.vec booc 1 4 A k (valM c s r)] := fun Γ hi w' M => (ValuesP_cv (H.chg (hi.old M)) (hS.chg (hi.old M)) (hT.chg (hi.old M))).mono fun v N hv => by
        unfold ValsR at hv
        rw [hz, ev1] at hv
        exact hv
      have hV2 : ∀ Γ h1 js1, In Γ (.any (cirX 0 (bC c) h1 js1)) → In Γ (.old w none_) → ∀ w', Mem w' Γ → CVN Try.prog 31 [.agg (ccells (bC c) h1).toArray, .slice S s.length k2, .slice T r.length k3] w' fun v N => ∃ A k, v = .tuple #[.slice A (valM (bC c) s r).length k, nu 0] ∧ N = [.vec booc 1 4 A k (valM (bC c) s r)] := fun Γ h1 js1 hc hi w' M => (ValuesP_cv (In.cirB H he hc M) (hS.chg (hi.old M)) (hT.chg (hi.old M))).mono fun v N hv => by
        unfold ValsR at hv
        rw [hz2, ev2] at hv
        exact hv
      have hN : ∀ Γ, In Γ (.old w none_) → ∀ w', Mem w' Γ → CVN Try.prog 46 [.agg (ccells c h).toArray, .slice S s.length k2, .slice T r.length k3] w' fun v N => ∃ A k, v = .tuple #[.slice A (nextM c s r).length k, nu 0] ∧ N = [.vec booc 1 4 A k (nextM c s r)] := fun Γ hi w' M => (NextP_cv (H.chg (hi.old M)) (hS.chg (hi.old M)) (hT.chg (hi.old M))).mono fun v N hv => by
        unfold NextR at hv
        rw [hz] at hv
        exact hv
      have hN2 : ∀ Γ h1 js1, In Γ (.any (cirX 0 (bC c) h1 js1)) → In Γ (.old w none_) → ∀ w', Mem w' Γ → CVN Try.prog 46 [.agg (ccells (bC c) h1).toArray, .slice S s.length k2, .slice T r.length k3] w' fun v N => ∃ A k, v = .tuple #[.slice A (nextM c s r).length k, nu 0] ∧ N = [.vec booc 1 4 A k (nextM c s r)] := fun Γ h1 js1 hc hi w' M => (NextP_cv (In.cirB H he hc M) (hS.chg (hi.old M)) (hT.chg (hi.old M))).mono fun v N hv => by
        unfold NextR at hv
        rw [hz2, R.b_next he] at hv
        exact hv
      have hH : ∀ Γ, In Γ (.old w none_) → ∀ w', Mem w' Γ → CVN Try.prog 47 [.agg (ccells c h).toArray, .slice S s.length k2, .slice T r.length k3] w' fun v N => v = .tuple #[.bool (holdsM c s r), nu 0] ∧ N = [] := fun Γ hi w' M => (HoldsP_cv (H.chg (hi.old M)) (hS.chg (hi.old M)) (hT.chg (hi.old M))).mono fun v N hv => by
        rw [hz] at hv
        exact hv
      have hH2 : ∀ Γ h1 js1, In Γ (.any (cirX 0 (bC c) h1 js1)) → In Γ (.old w none_) → ∀ w', Mem w' Γ → CVN Try.prog 47 [.agg (ccells (bC c) h1).toArray, .slice S s.length k2, .slice T r.length k3] w' fun v N => v = .tuple #[.bool (holdsM c s r), nu 0] ∧ N = [] := fun Γ h1 js1 hc hi w' M => (HoldsP_cv (In.cirB H he hc M) (hS.chg (hi.old M)) (hT.chg (hi.old M))).mono fun v N hv => by
        rw [hz2, R.b_holds he] at hv
        exact hv
      have hbm := R.b_max
      have hx1 : (bC c).max ≤ 16384 := Q.m1
      have hx0 : 0 ≤ (bC c).max := Q.m0
      have hbv : ∀ i : Nat, i < (bT c).length → 0 ≤ gt (bT c) (i : Int) ∧ gt (bT c) (i : Int) ≤ 2 * (bC c).max + 1 ∧ lv (valM (bC c) s r) (gt (bT c) (i : Int)) = gt (valM c s r) (i : Int) := fun i hi => by
        have g1 : okM (nB c) (bG c) (L (bT c) (i : Int)) := R.bI.ok (i : Int) (by omega)
        have g2 := R.b_val Q s r (u := (i : Int)) (by omega)
        rw [← gt_L] at g1 g2
        exact ⟨g1.1, g1.2, g2⟩
      have hbb : ∀ i : Nat, i < c.bads.length → (0 ≤ gt c.bads (i : Int) ∧ gt c.bads (i : Int) ≤ 2 * c.max + 1) ∧ (0 ≤ gt (bC c).bads (i : Int) ∧ gt (bC c).bads (i : Int) ≤ 2 * (bC c).max + 1) ∧ lv (valM (bC c) s r) (gt (bC c).bads (i : Int)) = lv (valM c s r) (gt c.bads (i : Int)) := fun i hi => by
        have g1 := R.bad (gt_mem (l := c.bads) (i := (i : Int)) (by omega) (by omega))
        have e : gt (bC c).bads (i : Int) = litX (bT c) (gt c.bads (i : Int)) := by
          rw [gt_nat (show i < (bC c).bads.length by rw [show (bC c).bads.length = c.bads.length from List.length_map _]; exact hi), gt_nat hi]
          exact List.getElem_map _
        rw [e]
        exact ⟨g1, R.b_in g1.1, R.b_lit Q s r g1.1⟩
      have hlb : (bC c).bads.length = c.bads.length := List.length_map _
      have hnb := R.nBad
      have hbads := H.at_.bads
      have hln := next_le H s r
      clear Q hz2 ev1 ev2 V1 V2
      generalize valM c s r = u at *
      generalize valM (bC c) s r = v at *
      generalize nextM c s r = n at *
      generalize holdsM c s r = β at *
      generalize bT c = to at *
      generalize bC c = x at *
      cases β
      all_goals
        repeat' (first
      | (apply G_call; eq_refl; eq_refl; (exact fun w' _ => hW w'); rintro _ _ ⟨rfl, rfl⟩)
      | (apply G_call; eq_refl; eq_refl; (apply hB; (repeat first | exact In.here | apply In.there | apply In.skip)); rintro _ _ ⟨h1, js1, A1, k1, rfl, rfl⟩)
      | (apply G_call; eq_refl; eq_refl; (apply hV; (repeat first | exact In.here | apply In.there | apply In.skip)); rintro _ _ ⟨AV, kV, rfl, rfl⟩)
      | (apply G_call; eq_refl; eq_refl; (apply hV2; (repeat first | exact In.here | apply In.there | apply In.skip); (repeat first | exact In.here | apply In.there | apply In.skip)); rintro _ _ ⟨AW, kW, rfl, rfl⟩)
      | (apply GC_seqK; intro K hK)
      | (apply hK; clear hK K)
      | (apply GC_block)
      | (apply GC_region)
      | (apply GL_nil)
      | (apply thenG_normal)
      | (apply GC_skip)
      | (apply GC_if_false; eq_refl)
      | (apply GL_on; eq_refl; eq_refl)
      | (apply G_pv; eq_refl; first | exact trivial | omega)
      | (apply G_field; eq_refl)
      | (apply G_ld; eq_refl; (repeat first | exact In.here | apply In.there | apply In.skip); eq_refl)
      | (apply G_ldW; eq_refl; (repeat first | exact In.here | apply In.there | apply In.skip); eq_refl)
      | (apply G_cmpF; eq_refl; eq_refl; omega)
      | (apply G_len; eq_refl)
      | (apply G_alloc; eq_refl; intro _)
      | (apply G_box; eq_refl; eq_refl; intro _)
      | (apply G_stW; (first | exact wr_p | kernel_rfl); eq_refl; eq_refl; eq_refl; eq_refl; (repeat first | exact Upd.here | apply Upd.there | apply Upd.skip); eq_refl))
        rename_i b3 b7
        refine GC_loopK [1, 2, 3, 7, 8, 10, 12, 70, 71] (fun i : Nat => [(72, nu i)]) (fun i => [.vec icell 1 3 A1 k1 to, .vec booc 1 4 AW kW v, .vec booc 1 4 AV kV u, .any (cirX 0 x h1 js1), .box b7 29 (ccells x h1), .box b3 29 (ccells c h), .old w none_]) (fun i => i ≤ to.length) (fun i => to.length - i) 0 (by repeat first | exact Pick.nil | (apply Pick.cons; eq_refl)) (by repeat first | exact trivial | refine ⟨rfl, ?_⟩) (by repeat first | exact Wk.nil | exact Wk.refl | (apply Wk.cons; (focus ((repeat first | exact Rem.here | apply Rem.there | apply Rem.skip); done))) | apply Wk.nilv | apply Wk.last | apply Wk.drop) (Nat.zero_le _) ?_
        intro i hi
        rcases Nat.lt_or_ge i to.length with hlt | hge
        · obtain ⟨g1, g2, g3⟩ := hbv i hlt
          have hl : ∀ Γ, In Γ (.vec booc 1 4 AW kW v) → ∀ w', Mem w' Γ → CVN Try.prog 45 [.slice AW v.length kW, nu (gt to (i : Int))] w' fun r N => N = [] ∧ r = .bool (gt u (i : Int)) := fun Γ hi w' M => by
            have := lit9_cv (c := kW) (l := gt to (i : Int)) (hi.row M) (by unfold hasL; omega)
            rw [g3] at this
            exact this
          clear g3
          generalize hb : gt u (i : Int) = β at *
          cases β
          all_goals
            repeat' (first
      | (apply G_call; eq_refl; eq_refl; (apply hl; (repeat first | exact In.here | apply In.there | apply In.skip)); rintro _ _ ⟨rfl, rfl⟩)
      | (apply G_rd; eq_refl; (first | (apply Rd.own; (repeat first | exact In.here | apply In.there | apply In.skip); infer_instance) | (apply Rd.old; (repeat first | exact In.here | apply In.there | apply In.skip); assumption) | (apply Rd.oldR; (repeat first | exact In.here | apply In.there | apply In.skip); assumption) | exact Rd.nil | assumption); (case ih => infer_instance); omega; omega; (rw [hb]; eq_refl))
      | (apply GC_seqK; intro K hK)
      | (apply hK; clear hK K)
      | (apply GC_block)
      | (apply GC_region)
      | (apply GL_nil)
      | (apply thenG_normal)
      | (apply blockG_normal)
      | (apply GC_skip)
      | (apply GC_if_true; eq_refl)
      | (apply GC_if_false; eq_refl)
      | (apply GL_on; eq_refl; eq_refl)
      | (refine GC_draws (id := 15) [.q 0, .q 1, .q 2, .q 3, .q 4, .q 5, .q 6, .q 7, .q 8, .q 9, .q 10, .q 11, .q 12, .q 13, .q 14, .q 15, .q 16, .c 17, .q 18, .q 19] mixed (by kernel_rfl) (by kernel_rfl) ?_)
      | (apply GS_nil)
      | (apply GS_qon; eq_refl; eq_refl; eq_refl; eq_refl)
      | (apply GS_con; eq_refl; eq_refl; eq_refl; eq_refl)
      | (apply G_pv; eq_refl; first | exact trivial | omega)
      | (apply G_field; eq_refl)
      | (apply G_ld; eq_refl; (repeat first | exact In.here | apply In.there | apply In.skip); eq_refl)
      | (apply G_rd; eq_refl; (first | (apply Rd.own; (repeat first | exact In.here | apply In.there | apply In.skip); infer_instance) | (apply Rd.old; (repeat first | exact In.here | apply In.there | apply In.skip); assumption) | (apply Rd.oldR; (repeat first | exact In.here | apply In.there | apply In.skip); assumption) | exact Rd.nil | assumption); (case ih => infer_instance); omega; omega; eq_refl)
      | (apply G_cmpT; eq_refl; eq_refl; omega)
      | (apply G_cmpF; eq_refl; eq_refl; omega)
      | (apply G_ix; eq_refl; eq_refl; (first | (apply Rd.own; (repeat first | exact In.here | apply In.there | apply In.skip); infer_instance) | (apply Rd.old; (repeat first | exact In.here | apply In.there | apply In.skip); assumption) | (apply Rd.oldR; (repeat first | exact In.here | apply In.there | apply In.skip); assumption) | exact Rd.nil | assumption); (first | eq_refl | omega); omega; omega)
      | (apply G_neqB; eq_refl; eq_refl))
            exact ⟨i + 1, (by repeat first | exact trivial | refine ⟨rfl, ?_⟩), (by repeat first | exact Wk.nil | exact Wk.refl | (apply Wk.cons; (focus ((repeat first | exact Rem.here | apply Rem.there | apply Rem.skip); done))) | apply Wk.nilv | apply Wk.last | apply Wk.drop), hlt, by omega⟩
        obtain rfl : i = to.length := by omega
        repeat' (first
      | (apply G_call; eq_refl; eq_refl; (apply hN; (repeat first | exact In.here | apply In.there | apply In.skip)); rintro _ _ ⟨AN, kN, rfl, rfl⟩)
      | (apply G_call; eq_refl; eq_refl; (apply hN2; (repeat first | exact In.here | apply In.there | apply In.skip); (repeat first | exact In.here | apply In.there | apply In.skip)); rintro _ _ ⟨AM, kM, rfl, rfl⟩)
      | (apply G_call; eq_refl; eq_refl; (apply hH; (repeat first | exact In.here | apply In.there | apply In.skip)); rintro _ _ ⟨rfl, rfl⟩)
      | (apply G_call; eq_refl; eq_refl; (apply hH2; (repeat first | exact In.here | apply In.there | apply In.skip); (repeat first | exact In.here | apply In.there | apply In.skip)); rintro _ _ ⟨rfl, rfl⟩)
      | (apply GC_seqK; intro K hK)
      | (apply hK; clear hK K)
      | (clear hK K; apply hK; clear hK K)
      | (apply GC_block)
      | (apply GC_region)
      | (apply GL_nil)
      | (apply thenG_normal)
      | (apply thenG_exit)
      | (apply blockG_hit)
      | (apply GC_exit)
      | (apply GC_skip)
      | (apply GC_if_false; eq_refl)
      | (apply GL_on; eq_refl; eq_refl)
      | (apply G_pv; eq_refl; first | exact trivial | omega)
      | (apply G_field; eq_refl)
      | (apply G_ld; eq_refl; (repeat first | exact In.here | apply In.there | apply In.skip); eq_refl)
      | (apply G_ldW; eq_refl; (repeat first | exact In.here | apply In.there | apply In.skip); eq_refl)
      | (apply G_cmpF; eq_refl; eq_refl; omega)
      | (apply G_len; eq_refl)
      | (apply G_neqB; eq_refl; eq_refl))
        refine GC_loopK [3, 7, 10, 12, 16, 17, 161, 162] (fun i : Nat => [(163, nu i)]) (fun i => [.vec booc 1 4 AM kM n, .vec booc 1 4 AN kN n, .vec booc 1 4 AW kW v, .vec booc 1 4 AV kV u, .any (cirX 0 x h1 js1), .box b7 29 (ccells x h1), .box b3 29 (ccells c h), .old w none_]) (fun i => i ≤ n.length) (fun i => n.length - i) 0 (by repeat first | exact Pick.nil | (apply Pick.cons; eq_refl)) (by repeat first | exact trivial | refine ⟨rfl, ?_⟩) (by repeat first | exact Wk.nil | exact Wk.refl | (apply Wk.cons; (focus ((repeat first | exact Rem.here | apply Rem.there | apply Rem.skip); done))) | apply Wk.nilv | apply Wk.last | apply Wk.drop) (Nat.zero_le _) ?_
        intro i hi2
        rcases Nat.lt_or_ge i n.length with hlt | hge2
        · generalize hb : gt n (i : Int) = β at *
          cases β
          all_goals
            repeat' (first
      | (apply G_rd; eq_refl; (first | (apply Rd.own; (repeat first | exact In.here | apply In.there | apply In.skip); infer_instance) | (apply Rd.old; (repeat first | exact In.here | apply In.there | apply In.skip); assumption) | (apply Rd.oldR; (repeat first | exact In.here | apply In.there | apply In.skip); assumption) | exact Rd.nil | assumption); (case ih => infer_instance); omega; omega; (rw [hb]; eq_refl))
      | (apply GC_seqK; intro K hK)
      | (apply hK; clear hK K)
      | (apply GC_block)
      | (apply GC_region)
      | (apply GL_nil)
      | (apply thenG_normal)
      | (apply blockG_normal)
      | (apply GC_skip)
      | (apply GC_if_true; eq_refl)
      | (apply GC_if_false; eq_refl)
      | (apply GL_on; eq_refl; eq_refl)
      | (refine GC_draws (id := 27) [.q 0, .q 1, .q 2, .q 3, .q 4, .q 5, .q 6, .q 7, .q 8] mixed (by kernel_rfl) (by kernel_rfl) ?_)
      | (apply GS_nil)
      | (apply GS_qon; eq_refl; eq_refl; eq_refl; eq_refl)
      | (apply G_pv; eq_refl; first | exact trivial | omega)
      | (apply G_cmpT; eq_refl; eq_refl; omega)
      | (apply G_ix; eq_refl; eq_refl; (first | (apply Rd.own; (repeat first | exact In.here | apply In.there | apply In.skip); infer_instance) | (apply Rd.old; (repeat first | exact In.here | apply In.there | apply In.skip); assumption) | (apply Rd.oldR; (repeat first | exact In.here | apply In.there | apply In.skip); assumption) | exact Rd.nil | assumption); (first | eq_refl | omega); omega; omega)
      | (apply G_neqB; eq_refl; eq_refl))
            exact ⟨i + 1, (by repeat first | exact trivial | refine ⟨rfl, ?_⟩), (by repeat first | exact Wk.nil | exact Wk.refl | (apply Wk.cons; (focus ((repeat first | exact Rem.here | apply Rem.there | apply Rem.skip); done))) | apply Wk.nilv | apply Wk.last | apply Wk.drop), hlt, by omega⟩
        obtain rfl : i = n.length := by omega
        repeat' (first
      | (apply GC_seqK; intro K hK)
      | (apply hK; clear hK K)
      | (clear hK K; apply hK; clear hK K)
      | (apply GC_block)
      | (apply GC_region)
      | (apply GL_nil)
      | (apply thenG_normal)
      | (apply thenG_exit)
      | (apply blockG_hit)
      | (apply GC_exit)
      | (apply GC_if_false; eq_refl)
      | (apply GL_on; eq_refl; eq_refl)
      | (apply G_pv; eq_refl; first | exact trivial | omega)
      | (apply G_field; eq_refl)
      | (apply G_ld; eq_refl; (repeat first | exact In.here | apply In.there | apply In.skip); eq_refl)
      | (apply G_cmpF; eq_refl; eq_refl; omega)
      | (apply G_len; eq_refl))
        refine GC_loopK [3, 7, 10, 12, 177, 178] (fun i : Nat => [(179, nu i)]) (fun i => [.vec booc 1 4 AW kW v, .vec booc 1 4 AV kV u, .any (cirX 0 x h1 js1), .box b7 29 (ccells x h1), .box b3 29 (ccells c h), .old w none_]) (fun i => i ≤ c.bads.length) (fun i => c.bads.length - i) 0 (by repeat first | exact Pick.nil | (apply Pick.cons; eq_refl)) (by repeat first | exact trivial | refine ⟨rfl, ?_⟩) (by repeat first | exact Wk.nil | exact Wk.refl | (apply Wk.cons; (focus ((repeat first | exact Rem.here | apply Rem.there | apply Rem.skip); done))) | apply Wk.nilv | apply Wk.last | apply Wk.drop) (Nat.zero_le _) ?_
        intro i hi3
        rcases Nat.lt_or_ge i c.bads.length with hlt | hge3
        · obtain ⟨⟨a0, a1⟩, ⟨b0, b1⟩, e⟩ := hbb i hlt
          have hl1 : ∀ Γ, In Γ (.vec booc 1 4 AV kV u) → ∀ w', Mem w' Γ → CVN Try.prog 45 [.slice AV u.length kV, nu (gt c.bads (i : Int))] w' fun r N => N = [] ∧ r = .bool (lv u (gt c.bads (i : Int))) := fun Γ hi w' M => lit9_cv (hi.row M) (by unfold hasL; omega)
          have hl2 : ∀ Γ, In Γ (.vec booc 1 4 AW kW v) → ∀ w', Mem w' Γ → CVN Try.prog 45 [.slice AW v.length kW, nu (gt x.bads (i : Int))] w' fun r N => N = [] ∧ r = .bool (lv u (gt c.bads (i : Int))) := fun Γ hi w' M => by
            have := lit9_cv (c := kW) (l := gt x.bads (i : Int)) (hi.row M) (by unfold hasL; omega)
            rw [e] at this
            exact this
          clear e
          generalize lv u (gt c.bads (i : Int)) = β at *
          cases β
          all_goals
            repeat' (first
      | (apply G_call; eq_refl; eq_refl; (first | (apply hl1; (repeat first | exact In.here | apply In.there | apply In.skip)) | (apply hl2; (repeat first | exact In.here | apply In.there | apply In.skip))); rintro _ _ ⟨rfl, rfl⟩)
      | (apply G_ix; eq_refl; eq_refl; (apply Rd.cirBads; (focus ((repeat first | exact In.here | apply In.there | apply In.skip); done))); (first | eq_refl | omega); omega; omega)
      | (apply G_rd; eq_refl; (apply Rd.cirBads; (focus ((repeat first | exact In.here | apply In.there | apply In.skip); done))); (case ih => infer_instance); omega; omega; eq_refl)
      | (apply GC_seqK; intro K hK)
      | (apply hK; clear hK K)
      | (apply GC_block)
      | (apply GC_region)
      | (apply GL_nil)
      | (apply thenG_normal)
      | (apply blockG_normal)
      | (apply GC_skip)
      | (apply GC_if_true; eq_refl)
      | (apply GC_if_false; eq_refl)
      | (apply GL_on; eq_refl; eq_refl)
      | (refine GC_draws (id := 33) [.q 0, .q 1, .q 2, .q 3, .q 4, .q 5, .q 7, .q 8, .q 9, .q 10, .q 11, .q 12, .c 6, .c 13, .q 14] mixed (by kernel_rfl) (by kernel_rfl) ?_)
      | (apply GS_nil)
      | (apply GS_qon; eq_refl; eq_refl; eq_refl; eq_refl)
      | (apply GS_con; eq_refl; eq_refl; eq_refl; eq_refl)
      | (apply G_pv; eq_refl; first | exact trivial | omega)
      | (apply G_field; eq_refl)
      | (apply G_ld; eq_refl; (repeat first | exact In.here | apply In.there | apply In.skip); eq_refl)
      | (apply G_rd; eq_refl; (first | (apply Rd.own; (repeat first | exact In.here | apply In.there | apply In.skip); infer_instance) | (apply Rd.old; (repeat first | exact In.here | apply In.there | apply In.skip); assumption) | (apply Rd.oldR; (repeat first | exact In.here | apply In.there | apply In.skip); assumption) | exact Rd.nil | assumption); (case ih => infer_instance); omega; omega; eq_refl)
      | (apply G_cmpT; eq_refl; eq_refl; omega)
      | (apply G_ix; eq_refl; eq_refl; (first | (apply Rd.own; (repeat first | exact In.here | apply In.there | apply In.skip); infer_instance) | (apply Rd.old; (repeat first | exact In.here | apply In.there | apply In.skip); assumption) | (apply Rd.oldR; (repeat first | exact In.here | apply In.there | apply In.skip); assumption) | exact Rd.nil | assumption); (first | eq_refl | omega); omega; omega)
      | (apply G_neqB; eq_refl; eq_refl))
            exact ⟨i + 1, (by repeat first | exact trivial | refine ⟨rfl, ?_⟩), (by repeat first | exact Wk.nil | exact Wk.refl | (apply Wk.cons; (focus ((repeat first | exact Rem.here | apply Rem.there | apply Rem.skip); done))) | apply Wk.nilv | apply Wk.last | apply Wk.drop), hlt, by omega⟩
        · repeat' (first
      | (apply GC_seqK; intro K hK)
      | (apply hK; clear hK K)
      | (clear hK K; apply hK; clear hK K)
      | (apply GC_region)
      | (apply GL_nil)
      | (apply thenG_normal)
      | (apply thenG_exit)
      | (apply blockG_hit)
      | (apply GC_ret)
      | (apply GC_exit)
      | (apply GC_if_false; eq_refl)
      | (apply retG1; eq_refl)
      | (apply GL_on; eq_refl; eq_refl)
      | (apply G_pv; eq_refl; first | exact trivial | omega)
      | (apply G_cmpF; eq_refl; eq_refl; omega))
          exact ⟨[], (by repeat first | exact Wk.nil | exact Wk.refl | (apply Wk.cons; (focus ((repeat first | exact Rem.here | apply Rem.there | apply Rem.skip); done))) | apply Wk.nilv | apply Wk.last | apply Wk.drop), rfl, rfl⟩
    · have hV : ∀ Γ, In Γ (.old w none_) → ∀ w', Mem w' Γ → CVN Try.prog 31 [.agg (ccells c h).toArray, .slice S s.length k2, .slice T r.length k3] w' _ := fun Γ hi w' M => ValuesP_cv (H.chg (hi.old M)) (hS.chg (hi.old M)) (hT.chg (hi.old M))
      have hV2 : ∀ Γ h1 js1, In Γ (.any (cirX 0 (bC c) h1 js1)) → In Γ (.old w none_) → ∀ w', Mem w' Γ → CVN Try.prog 31 [.agg (ccells (bC c) h1).toArray, .slice S s.length k2, .slice T r.length k3] w' fun v N => ∃ A k, v = .tuple #[.slice A (valsM (bC c) s r).length k, nu (stepE c s r)] ∧ N = [.vec booc 1 4 A k (valsM (bC c) s r)] := fun Γ h1 js1 hc hi w' M => (ValuesP_cv (In.cirB H he hc M) (hS.chg (hi.old M)) (hT.chg (hi.old M))).mono fun v N hv => by
        unfold ValsR at hv
        rw [R.b_step he] at hv
        exact hv
      repeat' (first
      | (apply G_call; eq_refl; eq_refl; (exact fun w' _ => hW w'); rintro _ _ ⟨rfl, rfl⟩)
      | (apply G_call; eq_refl; eq_refl; (apply hB; (repeat first | exact In.here | apply In.there | apply In.skip)); rintro _ _ ⟨h1, js1, A1, k1, rfl, rfl⟩)
      | (apply G_call; eq_refl; eq_refl; (apply hV; (repeat first | exact In.here | apply In.there | apply In.skip)); rintro _ _ ⟨AV, kV, rfl, rfl⟩)
      | (apply G_call; eq_refl; eq_refl; (apply hV2; (repeat first | exact In.here | apply In.there | apply In.skip); (repeat first | exact In.here | apply In.there | apply In.skip)); rintro _ _ ⟨AW, kW, rfl, rfl⟩)
      | (apply GC_seqK; intro K hK)
      | (apply hK; clear hK K)
      | (apply GC_region)
      | (apply GL_nil)
      | (apply thenG_normal)
      | (apply thenG_ret)
      | (apply GC_ret)
      | (apply GC_skip)
      | (apply GC_if_true; eq_refl)
      | (apply GC_if_false; eq_refl)
      | (apply retG1; eq_refl)
      | (apply GL_on; eq_refl; eq_refl)
      | (apply G_pv; eq_refl; first | exact trivial | omega)
      | (apply G_field; eq_refl)
      | (apply G_ld; eq_refl; (repeat first | exact In.here | apply In.there | apply In.skip); eq_refl)
      | (apply G_ldW; eq_refl; (repeat first | exact In.here | apply In.there | apply In.skip); eq_refl)
      | (apply G_cmpT; eq_refl; eq_refl; omega)
      | (apply G_cmpF; eq_refl; eq_refl; omega)
      | (apply G_len; eq_refl)
      | (apply G_alloc; eq_refl; intro _)
      | (apply G_box; eq_refl; eq_refl; intro _)
      | (apply G_stW; (first | exact wr_p | kernel_rfl); eq_refl; eq_refl; eq_refl; eq_refl; (repeat first | exact Upd.here | apply Upd.there | apply Upd.skip); eq_refl))
      exact ⟨[], (by repeat first | exact Wk.nil | exact Wk.refl | (apply Wk.cons; (focus ((repeat first | exact Rem.here | apply Rem.there | apply Rem.skip); done))) | apply Wk.nilv | apply Wk.last | apply Wk.drop), rfl, rfl⟩
  · have hB : ∀ Γ, In Γ (.old w none_) → ∀ w', Mem w' Γ → CVN Try.prog 32 [.agg (ccells c h).toArray] w' _ := fun Γ hi w' M => build_no (H.chg (hi.old M)) he
    generalize (lookM c).2 = ε at *
    repeat' (first
      | (apply G_call; eq_refl; eq_refl; (exact fun w' _ => hW w'); rintro _ _ ⟨rfl, rfl⟩)
      | (apply G_call; eq_refl; eq_refl; (apply hB; (repeat first | exact In.here | apply In.there | apply In.skip)); rintro _ _ ⟨rfl, rfl⟩)
      | (apply GC_seqK; intro K hK)
      | (apply hK; clear hK K)
      | (apply GC_region)
      | (apply GL_nil)
      | (apply thenG_normal)
      | (apply thenG_ret)
      | (apply GC_ret)
      | (apply GC_skip)
      | (apply GC_if_true; eq_refl)
      | (apply GC_if_false; eq_refl)
      | (apply retG1; eq_refl)
      | (apply GL_on; eq_refl; eq_refl)
      | (apply G_pv; eq_refl; first | exact trivial | omega)
      | (apply G_field; eq_refl)
      | (apply G_ld; eq_refl; (repeat first | exact In.here | apply In.there | apply In.skip); eq_refl)
      | (apply G_ldW; eq_refl; (repeat first | exact In.here | apply In.there | apply In.skip); eq_refl)
      | (apply G_cmpT; eq_refl; eq_refl; omega)
      | (apply G_len; eq_refl)
      | (apply G_alloc; eq_refl; intro _)
      | (apply G_box; eq_refl; eq_refl; intro _)
      | (apply G_stW; (first | exact wr_p | kernel_rfl); eq_refl; eq_refl; eq_refl; eq_refl; (repeat first | exact Upd.here | apply Upd.there | apply Upd.skip); eq_refl))
    exact ⟨[], (by repeat first | exact Wk.nil | exact Wk.refl | (apply Wk.cons; (focus ((repeat first | exact Rem.here | apply Rem.there | apply Rem.skip); done))) | apply Wk.nilv | apply Wk.last | apply Wk.drop), rfl, rfl⟩
end SC
end Go.Proofs.Yticndofcfacopaa
end

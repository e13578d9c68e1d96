/- Texts of this seat, one behind the other: K3 K4 K5 L1 L2 G6 G7 H1 L3 L4 L5 L6 L7 L8 L9 S2 S3 S4 S5 S6 S7 S8 S9 S10 S11 S12 S13 L10 S14 S15 S16 S17 S18 S19 S20 S21 S22 S23 S24 S27. -/
import Derived.Test.YticndofcfacopaaT3
import Derived.SizedLaws
import Derived.ChangeArms
section
/- trestlebook: LendCircuit. -/
set_option linter.unusedVariables false
set_option linter.unusedSimpArgs false
namespace Go.Proofs.Yticndofcfacopaa
namespace SC
open Go.Proofs
/-- As many as memory holds, one more in each list. -/
structure Circ.Fits1 (c : Circ) : Prop extends c.Fits where
  inputs1 : (c.inputs.length + 1) * 8 ≤ 140737488355328
  latches1 : (c.latches.length + 1) * 24 ≤ 140737488355328
  outputs1 : (c.outputs.length + 1) * 8 ≤ 140737488355328
  bads1 : (c.bads.length + 1) * 8 ≤ 140737488355328
  constraints1 : (c.constraints.length + 1) * 8 ≤ 140737488355328
  fairness1 : (c.fairness.length + 1) * 8 ≤ 140737488355328
  ands1 : (c.ands.length + 1) * 24 ≤ 140737488355328
def lintRow (h : Hd) (i : Nat) (l : List Int) : Rw := ⟨slc h i (l.length + 1), 3, 1, l.length + 1, (l ++ [-77]).flatMap icell⟩
def ltriRow (h : Hd) (i : Nat) (t : TypeId) (l : List Tri) : Rw := ⟨slc h i (l.length + 1), t, 3, l.length + 1, (l ++ [(-77, 0, 0)]).flatMap tcells⟩
/-- The rows of a circuit that is lent: one more behind the end. -/
def lentRow (c : Circ) (h js : Hd) : Nat → Rw
  | 1 => lintRow h 1 c.inputs
  | 2 => ltriRow h 2 83 c.latches
  | 3 => lintRow h 3 c.outputs
  | 4 => lintRow h 4 c.bads
  | 5 => lintRow h 5 c.constraints
  | 7 => lintRow h 7 c.fairness
  | 8 => ltriRow h 8 57 c.ands
  | k => cirRows c h js js c.justice.length k
def Has (w : World) (base : Nat) (f : Nat → Rw) : Prop := ∀ i, (f i).own w base
def CirLent (w : World) (base : Nat) (c : Circ) (h js : Hd) : Prop := Has w base (lentRow c h js)
theorem Has.chg {w w' : World} {base : Nat} {f : Nat → Rw} {T : Nat → Prop} (H : Has w base f) (hc : Chg w w' T) (hT : ∀ i k, (f i).v.ownBlock = some k → ¬ T k) : Has w' base f := fun i => own_chg (H i) hc (hT i)
theorem Has.put {w w' : World} {base : Nat} {f : Nat → Rw} {T : Nat → Prop} (H : Has w base f) (i : Nat) (r : Rw) (hc : Chg w w' T) (hT : ∀ j k, j ≠ i → (f j).v.ownBlock = some k → ¬ T k) (hr : r.own w' base) : Has w' base (upd f i r) := fun j => by
  unfold upd
  split
  · exact hr
  · rename_i hne
    exact own_chg (H j) hc fun k hk => hT j k hne hk
theorem Has.lt {w : World} {base : Nat} {f : Nat → Rw} (H : Has w base f) {i k : Nat} (hk : (f i).v.ownBlock = some k) : base ≤ k ∧ k < w.heap.size := World.ownsRow.lt (H i) k hk
theorem own_blk {w : World} {base sz n b : Nat} {t t1 : TypeId} {v : Value} {xs cs : List Value} (h : w.ownsRow base t sz v n xs) (hb : Blk w b t1 cs) (hne : t ≠ t1) : v.ownBlock ≠ some b := by
  rcases h.2 with ⟨rfl, _⟩ | ⟨g, _, _, rfl, _, hg, _⟩
  · intro hh; cases hh
  · intro hh
    simp only [Value.ownBlock, Option.some.injEq] at hh
    subst hh
    unfold Blk at hb
    rw [hg] at hb
    simp at hb
    exact hne hb.2
theorem lent_tri (l : List Tri) : (l ++ [(-77, 0, 0)]).flatMap tcells = l.flatMap tcells ++ [nu (-77), nu 0, nu 0] := by rw [List.flatMap_append]; rfl
def rt : Nat → TypeId
  | 2 => 83
  | 6 => 22
  | 8 => 57
  | 9 => 110
  | 10 => 9
  | _ => 3
theorem rt_51 (j : Nat) : rt j ≠ 29 := by unfold rt; split <;> decide
theorem rt_70 {j : Nat} (h : j ≠ 2) : rt j ≠ 83 := by unfold rt; split <;> first | decide | exact absurd rfl h
theorem rt_43 {j : Nat} (h : j ≠ 8) : rt j ≠ 57 := by unfold rt; split <;> first | decide | exact absurd rfl h
theorem cirRows_t (c : Circ) (h js jn : Hd) (d : Nat) (j : Nat) : (cirRows c h js jn d j).t = rt j := by
  match j with
  | 0 | 1 | 2 | 3 | 4 | 5 | 6 | 7 | 8 | 9 | 10 => rfl
  | k + 11 =>
    simp only [cirRows]
    split <;> rfl
theorem upd_t {f : Nat → Rw} {i : Nat} {r : Rw} {g : Nat → Nat} (hf : ∀ j, (f j).t = g j) (hr : r.t = g i) : ∀ j, (upd f i r j).t = g j := fun j => by
  unfold upd
  split
  · rename_i e; rw [e]; exact hr
  · exact hf j
section
variable {P : Program} {n : Nat} {all : List Oper} {S : World → Prop} {K : Env → World → Prop} {i : Nat} {r : List (Nat × Bool)} {d : Option Tmp} {ty t t0 : TypeId} {e : Env} {w : World} {x y : Operand} {td : TypeDesc} {sz by_ sz1 by1 : Nat} {zv z1 : Value} {ag ag1 : Bool}
theorem O_sliceTo {a : Option Addr} {m c : Nat} {k : IntKind} {j : Int} [U : Ty P t (.slice t0) sz1 z1 by1 ag1] [T : Ty P t0 td sz zv by_ ag] (h : ev e x = some (.slice a m c)) (h1 : ev e y = some (.int k j)) (h0 : 0 ≤ j) (h2 : j ≤ c) (hS : S w) (hr : WS P n all S K r (push d (.slice a j.toNat c) e) w) :
    OX P n all S K i true r d (.slice t x none (some y) none) ty e w := O_pure (p_sliceTo U.und T h h1 h0 h2) hS hr
end
attribute [local irreducible] WC WL WX WS WO OX Does DoesU Enters CV Pure thenQ blockQ retQ Wants retQC
set_option maxRecDepth 100000
theorem lendCircuit_cv {w : World} {c : Circ} {h js : Hd} (H : CirAt w c h js) (hf : c.Fits1) (hn : Nils h js) : CV Try.prog 12 [.agg (ccells c h).toArray] w fun v w' => ∃ h' js', v = .agg (ccells c h').toArray ∧ CirLent w' w.heap.size c h' js' ∧ Chg w w' none_ := by
  refine enterC (t := 29) 47 2 [] Try.func12 rfl rfl rfl (.inl rfl) rfl ?_
  repeat' (first
 | (apply X_allocK (w.heap.size + 1); exact sz_alloc _ _)
 | (apply WC_seqK; intro K hK)
 | (apply hK; clear hK)
 | (apply WC_region)
 | (apply WL_nil)
 | (apply thenQ_normal)
 | (apply WL_on0; eq_refl)
 | (apply X_loadW; eq_refl; (first | assumption | (apply Blk.alloc; assumption) | apply Blk.new | apply Blk.newA | (apply Blk.alloc; first | apply Blk.newA | (apply Blk.alloc; first | assumption | apply Blk.newA))); eq_refl)
 | (apply X_box; eq_refl))
  have e2 := Blk.newA (w.alloc (.cells (Value.agg (ccells c h).toArray).cells 29)) (Value.agg #[nu 0, .slice none 0 0, .slice none 0 0, .slice none 0 0, .slice none 0 0, .slice none 0 0, .slice none 0 0, .slice none 0 0, .slice none 0 0, .slice none 0 0, .slice none 0 0]).cells 29
  rw [sz_alloc] at e2
  have e1 := Blk.new w (ccells c h) 29
  have hC0 : Chg w ((w.alloc (.cells (Value.agg (ccells c h).toArray).cells 29)).alloc (.cells (Value.agg #[nu 0, .slice none 0 0, .slice none 0 0, .slice none 0 0, .slice none 0 0, .slice none 0 0, .slice none 0 0, .slice none 0 0, .slice none 0 0, .slice none 0 0, .slice none 0 0]).cells 29)) none_ := (Chg.alloc w _ none_).al _
  refine WX_turn (fun W => Chg w W none_ ∧ Blk W w.heap.size 29 (ccells c h) ∧ Blk W (w.heap.size + 1) 29 [nu 0, .slice none 0 0, .slice none 0 0, .slice none 0 0, .slice none 0 0, .slice none 0 0, .slice none 0 0, .slice none 0 0, .slice none 0 0, .slice none 0 0, .slice none 0 0]) ⟨hC0, Blk.alloc _ e1, e2⟩ ?_
  clear e1 e2 hC0
  rintro w0 ⟨hC0, hI0, hR0⟩
  have hcp := copyCircuit_cv (H.chg hC0) hf.toFits hn
  repeat' (first
 | (apply X_fn; eq_refl; exact hcp; rintro _ w1 ⟨h1, js1, rfl, hH1, hC1⟩)
 | (apply WL_on0; eq_refl)
 | (apply X_alloc))
  have hbW : w.heap.size + 2 ≤ w0.heap.size := hR0.lt
  have hO1 := Blk.newA w1 (Value.agg #[nu 0, .slice none 0 0, .slice none 0 0, .slice none 0 0, .slice none 0 0, .slice none 0 0, .slice none 0 0, .slice none 0 0, .slice none 0 0, .slice none 0 0, .slice none 0 0]).cells 29
  refine X_doesU (does_storeA (t1 := 29) (vs := ccells c h1) (o := 0) (b := w1.heap.size) (by eq_refl) (by eq_refl) (cs := (Value.agg #[nu 0, .slice none 0 0, .slice none 0 0, .slice none 0 0, .slice none 0 0, .slice none 0 0, .slice none 0 0, .slice none 0 0, .slice none 0 0, .slice none 0 0, .slice none 0 0]).cells.toList) hO1 rfl (by exact Nat.le_refl 11) (by simp [ccells, Value.oneCell'])) ?_
  have hcc : Chg (w1.alloc (.cells (Value.agg #[nu 0, .slice none 0 0, .slice none 0 0, .slice none 0 0, .slice none 0 0, .slice none 0 0, .slice none 0 0, .slice none 0 0, .slice none 0 0, .slice none 0 0, .slice none 0 0]).cells 29)) ((w1.alloc (.cells (Value.agg #[nu 0, .slice none 0 0, .slice none 0 0, .slice none 0 0, .slice none 0 0, .slice none 0 0, .slice none 0 0, .slice none 0 0, .slice none 0 0, .slice none 0 0, .slice none 0 0]).cells 29)).setRow w1.heap.size (ccells c h1).toArray) (fun k => k = w1.heap.size) := Chg.setRow _ _ _ rfl
  have hI1 := hI0.chg hC1 id
  have hR1 := hR0.chg hC1 id
  have hs1 := hC1.size
  refine WL_turn (fun W => Chg w W none_ ∧ Blk W w.heap.size 29 (ccells c h) ∧ Blk W (w.heap.size + 1) 29 [nu 0, .slice none 0 0, .slice none 0 0, .slice none 0 0, .slice none 0 0, .slice none 0 0, .slice none 0 0, .slice none 0 0, .slice none 0 0, .slice none 0 0, .slice none 0 0] ∧ Blk W w1.heap.size 29 (ccells c h1) ∧ Has W w0.heap.size (cirRows c h1 js1 js1 c.justice.length)) ⟨((hC0.trans hC1 fun _ _ h => h).al _).trans hcc fun k hk hh => by omega, (hI1.alloc _).chg hcc (by omega), (hR1.alloc _).chg hcc (by omega), hO1.set (ccells c h1), fun i => own_chg ((hH1 i).alloc _) hcc fun k hk hh => by have := ((hH1 i).lt k hk).2; omega⟩ ?_
  clear hO1 hcc hcp hH1 hI1 hR1 hI0 hR0 hC1
  rintro w2 ⟨hC2, hI2, hR2, hO2, hW2⟩
  generalize w1.heap.size = b3 at *
  have ht2 : ∀ j, (cirRows c h1 js1 js1 c.justice.length j).t = rt j := cirRows_t c h1 js1 js1 _
  repeat' (first
 | (apply WC_seqK; intro K hK)
 | (apply hK; clear hK)
 | (apply WL_nil)
 | (apply thenQ_normal))

  refine WC_draws [(0, true), (1, true), (3, true), (4, true), (6, true), (7, true), (2, false), (9, true), (5, false), (8, false), (10, false), (11, true), (12, false), (13, true), (14, false)] (fun W => Blk W w.heap.size 29 (ccells c h)) mixed (by kernel_rfl) (by kernel_rfl) ?_
  have hC2 := hC2.dr
  have hI2 : Blk w2.drew w.heap.size 29 (ccells c h) := hI2
  have hR2 : Blk w2.drew (w.heap.size + 1) 29 _ := hR2
  have hO2 : Blk w2.drew b3 29 (ccells c h1) := hO2
  have hW2 : Has w2.drew w0.heap.size (cirRows c h1 js1 js1 c.justice.length) := hW2
  have hS2 : Blk w2.drew w.heap.size 29 (ccells c h) := hI2
  generalize w2.drew = w2' at *
  repeat' (first
 | (apply O_fn; eq_refl; (apply lendInts_cv; exact (H.chg hC2).inputs; exact hn.1 1; exact hf.inputs1); rintro _ w3 ⟨A1, p1, rfl, hr, hE⟩; refine ⟨fun _ => hI2.chg hE id, ?_⟩)
 | (apply WS_next; eq_refl)
 | (apply WO_on0; eq_refl)
 | (apply O_field; eq_refl; (first | assumption | exact trivial))
 | (apply O_loadR; eq_refl; (first | (intro _ h; exact h) | (intro _ h; exact h.1) | (intro _ h; exact h.2) | (intro _ h; exact h.2.1) | (intro _ h; exact h.2.2) | (intro _ h; exact h.2.2.1) | (intro _ h; exact h.2.2.2)); eq_refl; (first | assumption | exact trivial)))
  have hC3 := hC2.trans hE fun _ _ h => h
  have hI3 := hI2.chg hE id
  have hR3 := hR2.chg hE id
  have hO3 := hO2.chg hE id
  have hlb3 : w0.heap.size ≤ w2'.heap.size := by have := hO2.lt; omega
  have hW3 : Has w3 w0.heap.size (upd (cirRows c h1 js1 js1 c.justice.length) 1 ⟨.slice A1 (c.inputs.length + 1) p1, 3, 1, c.inputs.length + 1, (c.inputs ++ [-77]).flatMap icell⟩) := hW2.put 1 _ hE (fun _ _ _ _ => id) (own_mono hr hlb3)
  have ht3 : ∀ j, ((upd (cirRows c h1 js1 js1 c.justice.length) 1 ⟨.slice A1 (c.inputs.length + 1) p1, 3, 1, c.inputs.length + 1, (c.inputs ++ [-77]).flatMap icell⟩) j).t = rt j := upd_t ht2 rfl
  have hS3 := hI3
  clear hr hE
  repeat' (first
 | (apply O_fn; eq_refl; (apply lendInts_cv; exact (H.chg hC3).outputs; exact hn.1 3; exact hf.outputs1); rintro _ w4 ⟨A3, p3, rfl, hr, hE⟩; refine ⟨fun _ => hI3.chg hE id, ?_⟩)
 | (apply WS_next; eq_refl)
 | (apply WO_on0; eq_refl)
 | (apply O_field; eq_refl; (first | assumption | exact trivial)))
  have hC4 := hC3.trans hE fun _ _ h => h
  have hI4 := hI3.chg hE id
  have hR4 := hR3.chg hE id
  have hO4 := hO3.chg hE id
  have hlb4 : w0.heap.size ≤ w3.heap.size := by have := hO3.lt; omega
  have hW4 : Has w4 w0.heap.size (upd (upd (cirRows c h1 js1 js1 c.justice.length) 1 ⟨.slice A1 (c.inputs.length + 1) p1, 3, 1, c.inputs.length + 1, (c.inputs ++ [-77]).flatMap icell⟩) 3 ⟨.slice A3 (c.outputs.length + 1) p3, 3, 1, c.outputs.length + 1, (c.outputs ++ [-77]).flatMap icell⟩) := hW3.put 3 _ hE (fun _ _ _ _ => id) (own_mono hr hlb4)
  have ht4 : ∀ j, ((upd (upd (cirRows c h1 js1 js1 c.justice.length) 1 ⟨.slice A1 (c.inputs.length + 1) p1, 3, 1, c.inputs.length + 1, (c.inputs ++ [-77]).flatMap icell⟩) 3 ⟨.slice A3 (c.outputs.length + 1) p3, 3, 1, c.outputs.length + 1, (c.outputs ++ [-77]).flatMap icell⟩) j).t = rt j := upd_t ht3 rfl
  have hS4 := hI4
  clear hr hE
  repeat' (first
 | (apply O_fn; eq_refl; (apply lendInts_cv; exact (H.chg hC4).bads; exact hn.1 4; exact hf.bads1); rintro _ w5 ⟨A4, p4, rfl, hr, hE⟩; refine ⟨fun _ => hI4.chg hE id, ?_⟩)
 | (apply WS_next; eq_refl)
 | (apply WO_on0; eq_refl))
  have hC5 := hC4.trans hE fun _ _ h => h
  have hI5 := hI4.chg hE id
  have hR5 := hR4.chg hE id
  have hO5 := hO4.chg hE id
  have hlb5 : w0.heap.size ≤ w4.heap.size := by have := hO4.lt; omega
  have hW5 : Has w5 w0.heap.size (upd (upd (upd (cirRows c h1 js1 js1 c.justice.length) 1 ⟨.slice A1 (c.inputs.length + 1) p1, 3, 1, c.inputs.length + 1, (c.inputs ++ [-77]).flatMap icell⟩) 3 ⟨.slice A3 (c.outputs.length + 1) p3, 3, 1, c.outputs.length + 1, (c.outputs ++ [-77]).flatMap icell⟩) 4 ⟨.slice A4 (c.bads.length + 1) p4, 3, 1, c.bads.length + 1, (c.bads ++ [-77]).flatMap icell⟩) := hW4.put 4 _ hE (fun _ _ _ _ => id) (own_mono hr hlb5)
  have ht5 : ∀ j, ((upd (upd (upd (cirRows c h1 js1 js1 c.justice.length) 1 ⟨.slice A1 (c.inputs.length + 1) p1, 3, 1, c.inputs.length + 1, (c.inputs ++ [-77]).flatMap icell⟩) 3 ⟨.slice A3 (c.outputs.length + 1) p3, 3, 1, c.outputs.length + 1, (c.outputs ++ [-77]).flatMap icell⟩) 4 ⟨.slice A4 (c.bads.length + 1) p4, 3, 1, c.bads.length + 1, (c.bads ++ [-77]).flatMap icell⟩) j).t = rt j := upd_t ht4 rfl
  have hS5 := hI5
  clear hr hE
  skip
  have hE : Chg w5 (w5.setRow b3 ((ccells c h1).set (0 + 1) (.slice A1 c.inputs.length p1)).toArray) (fun k => k = b3) := Chg.setRow _ _ _ rfl
  have hC6 := hC5.trans hE fun k hk hh => by omega
  have hI6 := hI5.chg hE (by omega)
  have hR6 := hR5.chg hE (by omega)
  have hW6 : Has _ w0.heap.size (upd (upd (upd (cirRows c h1 js1 js1 c.justice.length) 1 ⟨.slice A1 (c.inputs.length + 1) p1, 3, 1, c.inputs.length + 1, (c.inputs ++ [-77]).flatMap icell⟩) 3 ⟨.slice A3 (c.outputs.length + 1) p3, 3, 1, c.outputs.length + 1, (c.outputs ++ [-77]).flatMap icell⟩) 4 ⟨.slice A4 (c.bads.length + 1) p4, 3, 1, c.bads.length + 1, (c.bads ++ [-77]).flatMap icell⟩) := hW5.chg hE fun i k hk hh => own_blk (hW5 i) hO5 (by rw [ht5 i]; exact rt_51 i) (by rw [hk, hh])
  have ht6 := ht5
  refine O_doesU (does_store1 (t1 := 29) (b := b3) (o := 0 + 1) (v := (.slice A1 c.inputs.length p1)) (by eq_refl) (by eq_refl) hO5 (by simp [ccells]) rfl rfl) (fun _ => hI6) ?_
  have hO6 : Blk _ b3 29 (ccells c (setHd h1 1 (A1, p1))) := hO5.set ((ccells c h1).set (0 + 1) (.slice A1 c.inputs.length p1))
  have hS6 := hI6
  clear hE
  generalize w5.setRow b3 ((ccells c h1).set (0 + 1) (.slice A1 c.inputs.length p1)).toArray = w6 at *
  repeat' (first
 | (apply WS_next; eq_refl)
 | (apply WO_on0; eq_refl)
 | (apply O_field; eq_refl; (first | assumption | exact trivial)))
  have hE : Chg w6 (w6.setRow b3 ((ccells c (setHd h1 1 (A1, p1))).set (0 + 3) (.slice A3 c.outputs.length p3)).toArray) (fun k => k = b3) := Chg.setRow _ _ _ rfl
  have hC7 := hC6.trans hE fun k hk hh => by omega
  have hI7 := hI6.chg hE (by omega)
  have hR7 := hR6.chg hE (by omega)
  have hW7 : Has _ w0.heap.size (upd (upd (upd (cirRows c h1 js1 js1 c.justice.length) 1 ⟨.slice A1 (c.inputs.length + 1) p1, 3, 1, c.inputs.length + 1, (c.inputs ++ [-77]).flatMap icell⟩) 3 ⟨.slice A3 (c.outputs.length + 1) p3, 3, 1, c.outputs.length + 1, (c.outputs ++ [-77]).flatMap icell⟩) 4 ⟨.slice A4 (c.bads.length + 1) p4, 3, 1, c.bads.length + 1, (c.bads ++ [-77]).flatMap icell⟩) := hW6.chg hE fun i k hk hh => own_blk (hW6 i) hO6 (by rw [ht6 i]; exact rt_51 i) (by rw [hk, hh])
  have ht7 := ht6
  refine O_doesU (does_store1 (t1 := 29) (b := b3) (o := 0 + 3) (v := (.slice A3 c.outputs.length p3)) (by eq_refl) (by eq_refl) hO6 (by simp [ccells]) rfl rfl) (fun _ => hI7) ?_
  have hO7 : Blk _ b3 29 (ccells c (setHd (setHd h1 1 (A1, p1)) 3 (A3, p3))) := hO6.set ((ccells c (setHd h1 1 (A1, p1))).set (0 + 3) (.slice A3 c.outputs.length p3))
  have hS7 := hI7
  clear hE
  generalize w6.setRow b3 ((ccells c (setHd h1 1 (A1, p1))).set (0 + 3) (.slice A3 c.outputs.length p3)).toArray = w7 at *
  repeat' (first
 | (apply WS_next; eq_refl)
 | (apply WO_on0; eq_refl)
 | (apply O_field; eq_refl; (first | assumption | exact trivial)))
  have hE : Chg w7 (w7.setRow b3 ((ccells c (setHd (setHd h1 1 (A1, p1)) 3 (A3, p3))).set (0 + 4) (.slice A4 c.bads.length p4)).toArray) (fun k => k = b3) := Chg.setRow _ _ _ rfl
  have hC8 := hC7.trans hE fun k hk hh => by omega
  have hI8 := hI7.chg hE (by omega)
  have hR8 := hR7.chg hE (by omega)
  have hW8 : Has _ w0.heap.size (upd (upd (upd (cirRows c h1 js1 js1 c.justice.length) 1 ⟨.slice A1 (c.inputs.length + 1) p1, 3, 1, c.inputs.length + 1, (c.inputs ++ [-77]).flatMap icell⟩) 3 ⟨.slice A3 (c.outputs.length + 1) p3, 3, 1, c.outputs.length + 1, (c.outputs ++ [-77]).flatMap icell⟩) 4 ⟨.slice A4 (c.bads.length + 1) p4, 3, 1, c.bads.length + 1, (c.bads ++ [-77]).flatMap icell⟩) := hW7.chg hE fun i k hk hh => own_blk (hW7 i) hO7 (by rw [ht7 i]; exact rt_51 i) (by rw [hk, hh])
  have ht8 := ht7
  refine O_doesU (does_store1 (t1 := 29) (b := b3) (o := 0 + 4) (v := (.slice A4 c.bads.length p4)) (by eq_refl) (by eq_refl) hO7 (by simp [ccells]) rfl rfl) (fun _ => hI8) ?_
  have hO8 : Blk _ b3 29 (ccells c (setHd (setHd (setHd h1 1 (A1, p1)) 3 (A3, p3)) 4 (A4, p4))) := hO7.set ((ccells c (setHd (setHd h1 1 (A1, p1)) 3 (A3, p3))).set (0 + 4) (.slice A4 c.bads.length p4))
  have hS8 := hI8
  clear hE
  generalize w7.setRow b3 ((ccells c (setHd (setHd h1 1 (A1, p1)) 3 (A3, p3))).set (0 + 4) (.slice A4 c.bads.length p4)).toArray = w8 at *
  repeat' (first
 | (apply WC_seqK; intro K hK)
 | (apply hK; clear hK)
 | (apply thenQ_normal)
 | (apply WS_nil))
  skip
  refine WC_draws [(0, true), (1, true), (3, true), (4, true), (2, false), (6, true), (5, false), (7, false), (8, true), (9, false)] (fun W => Blk W w.heap.size 29 (ccells c h)) mixed (by kernel_rfl) (by kernel_rfl) ?_
  have hC8 := hC8.dr
  have hI8 : Blk w8.drew w.heap.size 29 (ccells c h) := hI8
  have hR8 : Blk w8.drew (w.heap.size + 1) 29 _ := hR8
  have hO8 : Blk w8.drew b3 29 (ccells c (setHd (setHd (setHd h1 1 (A1, p1)) 3 (A3, p3)) 4 (A4, p4))) := hO8
  have hW8 : Has w8.drew w0.heap.size (upd (upd (upd (cirRows c h1 js1 js1 c.justice.length) 1 ⟨.slice A1 (c.inputs.length + 1) p1, 3, 1, c.inputs.length + 1, (c.inputs ++ [-77]).flatMap icell⟩) 3 ⟨.slice A3 (c.outputs.length + 1) p3, 3, 1, c.outputs.length + 1, (c.outputs ++ [-77]).flatMap icell⟩) 4 ⟨.slice A4 (c.bads.length + 1) p4, 3, 1, c.bads.length + 1, (c.bads ++ [-77]).flatMap icell⟩) := hW8
  have hS8 : Blk w8.drew w.heap.size 29 (ccells c h) := hI8
  generalize w8.drew = w8' at *
  repeat' (first
 | (apply O_fn; eq_refl; (apply lendInts_cv; exact (H.chg hC8).constraints; exact hn.1 5; exact hf.constraints1); rintro _ w9 ⟨A5, p5, rfl, hr, hE⟩; refine ⟨fun _ => hI8.chg hE id, ?_⟩)
 | (apply WS_next; eq_refl)
 | (apply WO_on0; eq_refl)
 | (apply O_field; eq_refl; (first | assumption | exact trivial))
 | (apply O_loadR; eq_refl; (first | (intro _ h; exact h) | (intro _ h; exact h.1) | (intro _ h; exact h.2) | (intro _ h; exact h.2.1) | (intro _ h; exact h.2.2) | (intro _ h; exact h.2.2.1) | (intro _ h; exact h.2.2.2)); eq_refl; (first | assumption | exact trivial)))
  have hC9 := hC8.trans hE fun _ _ h => h
  have hI9 := hI8.chg hE id
  have hR9 := hR8.chg hE id
  have hO9 := hO8.chg hE id
  have hlb9 : w0.heap.size ≤ w8'.heap.size := by have := hO8.lt; omega
  have hW9 : Has w9 w0.heap.size (upd (upd (upd (upd (cirRows c h1 js1 js1 c.justice.length) 1 ⟨.slice A1 (c.inputs.length + 1) p1, 3, 1, c.inputs.length + 1, (c.inputs ++ [-77]).flatMap icell⟩) 3 ⟨.slice A3 (c.outputs.length + 1) p3, 3, 1, c.outputs.length + 1, (c.outputs ++ [-77]).flatMap icell⟩) 4 ⟨.slice A4 (c.bads.length + 1) p4, 3, 1, c.bads.length + 1, (c.bads ++ [-77]).flatMap icell⟩) 5 ⟨.slice A5 (c.constraints.length + 1) p5, 3, 1, c.constraints.length + 1, (c.constraints ++ [-77]).flatMap icell⟩) := hW8.put 5 _ hE (fun _ _ _ _ => id) (own_mono hr hlb9)
  have ht9 : ∀ j, ((upd (upd (upd (upd (cirRows c h1 js1 js1 c.justice.length) 1 ⟨.slice A1 (c.inputs.length + 1) p1, 3, 1, c.inputs.length + 1, (c.inputs ++ [-77]).flatMap icell⟩) 3 ⟨.slice A3 (c.outputs.length + 1) p3, 3, 1, c.outputs.length + 1, (c.outputs ++ [-77]).flatMap icell⟩) 4 ⟨.slice A4 (c.bads.length + 1) p4, 3, 1, c.bads.length + 1, (c.bads ++ [-77]).flatMap icell⟩) 5 ⟨.slice A5 (c.constraints.length + 1) p5, 3, 1, c.constraints.length + 1, (c.constraints ++ [-77]).flatMap icell⟩) j).t = rt j := upd_t ht8 rfl
  have hS9 := hI9
  clear hr hE
  repeat' (first
 | (apply O_fn; eq_refl; (apply lendInts_cv; exact (H.chg hC9).fairness; exact hn.1 7; exact hf.fairness1); rintro _ w10 ⟨A7, p7, rfl, hr, hE⟩; refine ⟨fun _ => hI9.chg hE id, ?_⟩)
 | (apply WS_next; eq_refl)
 | (apply WO_on0; eq_refl)
 | (apply O_field; eq_refl; (first | assumption | exact trivial)))
  have hC10 := hC9.trans hE fun _ _ h => h
  have hI10 := hI9.chg hE id
  have hR10 := hR9.chg hE id
  have hO10 := hO9.chg hE id
  have hlb10 : w0.heap.size ≤ w9.heap.size := by have := hO9.lt; omega
  have hW10 : Has w10 w0.heap.size (upd (upd (upd (upd (upd (cirRows c h1 js1 js1 c.justice.length) 1 ⟨.slice A1 (c.inputs.length + 1) p1, 3, 1, c.inputs.length + 1, (c.inputs ++ [-77]).flatMap icell⟩) 3 ⟨.slice A3 (c.outputs.length + 1) p3, 3, 1, c.outputs.length + 1, (c.outputs ++ [-77]).flatMap icell⟩) 4 ⟨.slice A4 (c.bads.length + 1) p4, 3, 1, c.bads.length + 1, (c.bads ++ [-77]).flatMap icell⟩) 5 ⟨.slice A5 (c.constraints.length + 1) p5, 3, 1, c.constraints.length + 1, (c.constraints ++ [-77]).flatMap icell⟩) 7 ⟨.slice A7 (c.fairness.length + 1) p7, 3, 1, c.fairness.length + 1, (c.fairness ++ [-77]).flatMap icell⟩) := hW9.put 7 _ hE (fun _ _ _ _ => id) (own_mono hr hlb10)
  have ht10 : ∀ j, ((upd (upd (upd (upd (upd (cirRows c h1 js1 js1 c.justice.length) 1 ⟨.slice A1 (c.inputs.length + 1) p1, 3, 1, c.inputs.length + 1, (c.inputs ++ [-77]).flatMap icell⟩) 3 ⟨.slice A3 (c.outputs.length + 1) p3, 3, 1, c.outputs.length + 1, (c.outputs ++ [-77]).flatMap icell⟩) 4 ⟨.slice A4 (c.bads.length + 1) p4, 3, 1, c.bads.length + 1, (c.bads ++ [-77]).flatMap icell⟩) 5 ⟨.slice A5 (c.constraints.length + 1) p5, 3, 1, c.constraints.length + 1, (c.constraints ++ [-77]).flatMap icell⟩) 7 ⟨.slice A7 (c.fairness.length + 1) p7, 3, 1, c.fairness.length + 1, (c.fairness ++ [-77]).flatMap icell⟩) j).t = rt j := upd_t ht9 rfl
  have hS10 := hI10
  clear hr hE
  skip
  have hE : Chg w10 (w10.setRow b3 ((ccells c (setHd (setHd (setHd h1 1 (A1, p1)) 3 (A3, p3)) 4 (A4, p4))).set (0 + 5) (.slice A5 c.constraints.length p5)).toArray) (fun k => k = b3) := Chg.setRow _ _ _ rfl
  have hC11 := hC10.trans hE fun k hk hh => by omega
  have hI11 := hI10.chg hE (by omega)
  have hR11 := hR10.chg hE (by omega)
  have hW11 : Has _ w0.heap.size (upd (upd (upd (upd (upd (cirRows c h1 js1 js1 c.justice.length) 1 ⟨.slice A1 (c.inputs.length + 1) p1, 3, 1, c.inputs.length + 1, (c.inputs ++ [-77]).flatMap icell⟩) 3 ⟨.slice A3 (c.outputs.length + 1) p3, 3, 1, c.outputs.length + 1, (c.outputs ++ [-77]).flatMap icell⟩) 4 ⟨.slice A4 (c.bads.length + 1) p4, 3, 1, c.bads.length + 1, (c.bads ++ [-77]).flatMap icell⟩) 5 ⟨.slice A5 (c.constraints.length + 1) p5, 3, 1, c.constraints.length + 1, (c.constraints ++ [-77]).flatMap icell⟩) 7 ⟨.slice A7 (c.fairness.length + 1) p7, 3, 1, c.fairness.length + 1, (c.fairness ++ [-77]).flatMap icell⟩) := hW10.chg hE fun i k hk hh => own_blk (hW10 i) hO10 (by rw [ht10 i]; exact rt_51 i) (by rw [hk, hh])
  have ht11 := ht10
  refine O_doesU (does_store1 (t1 := 29) (b := b3) (o := 0 + 5) (v := (.slice A5 c.constraints.length p5)) (by eq_refl) (by eq_refl) hO10 (by simp [ccells]) rfl rfl) (fun _ => hI11) ?_
  have hO11 : Blk _ b3 29 (ccells c (setHd (setHd (setHd (setHd h1 1 (A1, p1)) 3 (A3, p3)) 4 (A4, p4)) 5 (A5, p5))) := hO10.set ((ccells c (setHd (setHd (setHd h1 1 (A1, p1)) 3 (A3, p3)) 4 (A4, p4))).set (0 + 5) (.slice A5 c.constraints.length p5))
  have hS11 := hI11
  clear hE
  generalize w10.setRow b3 ((ccells c (setHd (setHd (setHd h1 1 (A1, p1)) 3 (A3, p3)) 4 (A4, p4))).set (0 + 5) (.slice A5 c.constraints.length p5)).toArray = w11 at *
  repeat' (first
 | (apply WS_next; eq_refl)
 | (apply WO_on0; eq_refl)
 | (apply O_field; eq_refl; (first | assumption | exact trivial)))
  have hE : Chg w11 (w11.setRow b3 ((ccells c (setHd (setHd (setHd (setHd h1 1 (A1, p1)) 3 (A3, p3)) 4 (A4, p4)) 5 (A5, p5))).set (0 + 7) (.slice A7 c.fairness.length p7)).toArray) (fun k => k = b3) := Chg.setRow _ _ _ rfl
  have hC12 := hC11.trans hE fun k hk hh => by omega
  have hI12 := hI11.chg hE (by omega)
  have hR12 := hR11.chg hE (by omega)
  have hW12 : Has _ w0.heap.size (upd (upd (upd (upd (upd (cirRows c h1 js1 js1 c.justice.length) 1 ⟨.slice A1 (c.inputs.length + 1) p1, 3, 1, c.inputs.length + 1, (c.inputs ++ [-77]).flatMap icell⟩) 3 ⟨.slice A3 (c.outputs.length + 1) p3, 3, 1, c.outputs.length + 1, (c.outputs ++ [-77]).flatMap icell⟩) 4 ⟨.slice A4 (c.bads.length + 1) p4, 3, 1, c.bads.length + 1, (c.bads ++ [-77]).flatMap icell⟩) 5 ⟨.slice A5 (c.constraints.length + 1) p5, 3, 1, c.constraints.length + 1, (c.constraints ++ [-77]).flatMap icell⟩) 7 ⟨.slice A7 (c.fairness.length + 1) p7, 3, 1, c.fairness.length + 1, (c.fairness ++ [-77]).flatMap icell⟩) := hW11.chg hE fun i k hk hh => own_blk (hW11 i) hO11 (by rw [ht11 i]; exact rt_51 i) (by rw [hk, hh])
  have ht12 := ht11
  refine O_doesU (does_store1 (t1 := 29) (b := b3) (o := 0 + 7) (v := (.slice A7 c.fairness.length p7)) (by eq_refl) (by eq_refl) hO11 (by simp [ccells]) rfl rfl) (fun _ => hI12) ?_
  have hO12 : Blk _ b3 29 (ccells c (setHd (setHd (setHd (setHd (setHd h1 1 (A1, p1)) 3 (A3, p3)) 4 (A4, p4)) 5 (A5, p5)) 7 (A7, p7))) := hO11.set ((ccells c (setHd (setHd (setHd (setHd h1 1 (A1, p1)) 3 (A3, p3)) 4 (A4, p4)) 5 (A5, p5))).set (0 + 7) (.slice A7 c.fairness.length p7))
  have hS12 := hI12
  clear hE
  generalize w11.setRow b3 ((ccells c (setHd (setHd (setHd (setHd h1 1 (A1, p1)) 3 (A3, p3)) 4 (A4, p4)) 5 (A5, p5))).set (0 + 7) (.slice A7 c.fairness.length p7)).toArray = w12 at *
  repeat' (first
 | (apply WC_seqK; intro K hK)
 | (apply hK; clear hK)
 | (apply thenQ_normal)
 | (apply WS_nil))
  skip
  refine WC_draws [(0, true), (1, true), (2, true), (5, true), (6, true), (7, true), (3, false), (4, false), (8, true), (9, true), (10, false)] (fun W => Blk W w.heap.size 29 (ccells c h) ∧ Blk W b3 29 (ccells c (setHd (setHd (setHd (setHd (setHd h1 1 (A1, p1)) 3 (A3, p3)) 4 (A4, p4)) 5 (A5, p5)) 7 (A7, p7)))) mixed (by kernel_rfl) (by kernel_rfl) ?_
  have hC12 := hC12.dr
  have hI12 : Blk w12.drew w.heap.size 29 (ccells c h) := hI12
  have hR12 : Blk w12.drew (w.heap.size + 1) 29 _ := hR12
  have hO12 : Blk w12.drew b3 29 (ccells c (setHd (setHd (setHd (setHd (setHd h1 1 (A1, p1)) 3 (A3, p3)) 4 (A4, p4)) 5 (A5, p5)) 7 (A7, p7))) := hO12
  have hW12 : Has w12.drew w0.heap.size (upd (upd (upd (upd (upd (cirRows c h1 js1 js1 c.justice.length) 1 ⟨.slice A1 (c.inputs.length + 1) p1, 3, 1, c.inputs.length + 1, (c.inputs ++ [-77]).flatMap icell⟩) 3 ⟨.slice A3 (c.outputs.length + 1) p3, 3, 1, c.outputs.length + 1, (c.outputs ++ [-77]).flatMap icell⟩) 4 ⟨.slice A4 (c.bads.length + 1) p4, 3, 1, c.bads.length + 1, (c.bads ++ [-77]).flatMap icell⟩) 5 ⟨.slice A5 (c.constraints.length + 1) p5, 3, 1, c.constraints.length + 1, (c.constraints ++ [-77]).flatMap icell⟩) 7 ⟨.slice A7 (c.fairness.length + 1) p7, 3, 1, c.fairness.length + 1, (c.fairness ++ [-77]).flatMap icell⟩) := hW12
  have hS12 : Blk w12.drew w.heap.size 29 (ccells c h) ∧ Blk w12.drew b3 29 (ccells c (setHd (setHd (setHd (setHd (setHd h1 1 (A1, p1)) 3 (A3, p3)) 4 (A4, p4)) 5 (A5, p5)) 7 (A7, p7))) := ⟨hI12, hO12⟩
  generalize w12.drew = w12' at *
  repeat' (first
 | (apply O_loadR; eq_refl; (first | exact fun _ h => h.1 | exact fun _ h => h.2); eq_refl; exact hS12)
 | (apply WS_next; eq_refl)
 | (apply WO_on0; eq_refl)
 | (apply O_field; eq_refl; (first | assumption | exact trivial))
 | (apply O_len; eq_refl; (first | assumption | exact trivial))
 | (apply O_pure; apply build83_0 <;> eq_refl; (first | assumption | exact trivial)))
  refine O_does (buildS23_1 (by eq_refl)) (fun _ => ⟨hI12.alloc _, hO12.alloc _⟩) ?_
  have hr2 : w12'.ownsRow w0.heap.size 83 3 (slc h1 2 c.latches.length) c.latches.length (c.latches.flatMap tcells) := hW12 2
  have hlw : w0.heap.size ≤ w12'.heap.size := by have := hO12.lt; omega
  repeat' (first
 | (apply WS_next; eq_refl)
 | (apply WO_on0; eq_refl))
  refine O_append w0.heap.size (by eq_refl) (by eq_refl) (hr2.alloc _) (Blk.newA w12' #[nu (-77), nu 0, nu 0] 83) rfl rfl (by decide) (by simp [Value.oneCell']) hf.latches1 (by decide) (by rw [sz_alloc]; omega) ?_
  intro v' w13 hr hE _ _
  obtain ⟨A2, p2, rfl⟩ := row_form' hr
  have hcap := own_cap hr
  have hC13 : Chg w w13 none_ := (hC12.al _).trans hE fun k hk hh => by have := (hr2.lt k hh).1; omega
  have hI13 := (hI12.alloc (.cells #[nu (-77), nu 0, nu 0] 83)).chg hE (own_blk hr2 hI12 (by decide))
  have hR13 := (hR12.alloc (.cells #[nu (-77), nu 0, nu 0] 83)).chg hE (own_blk hr2 hR12 (by decide))
  have hO13 := (hO12.alloc (.cells #[nu (-77), nu 0, nu 0] 83)).chg hE (own_blk hr2 hO12 (by decide))
  have hWa : Has (w12'.alloc (.cells #[nu (-77), nu 0, nu 0] 83)) w0.heap.size (upd (upd (upd (upd (upd (cirRows c h1 js1 js1 c.justice.length) 1 ⟨.slice A1 (c.inputs.length + 1) p1, 3, 1, c.inputs.length + 1, (c.inputs ++ [-77]).flatMap icell⟩) 3 ⟨.slice A3 (c.outputs.length + 1) p3, 3, 1, c.outputs.length + 1, (c.outputs ++ [-77]).flatMap icell⟩) 4 ⟨.slice A4 (c.bads.length + 1) p4, 3, 1, c.bads.length + 1, (c.bads ++ [-77]).flatMap icell⟩) 5 ⟨.slice A5 (c.constraints.length + 1) p5, 3, 1, c.constraints.length + 1, (c.constraints ++ [-77]).flatMap icell⟩) 7 ⟨.slice A7 (c.fairness.length + 1) p7, 3, 1, c.fairness.length + 1, (c.fairness ++ [-77]).flatMap icell⟩) := fun j => (hW12 j).alloc _
  have hW13 : Has w13 w0.heap.size (upd (upd (upd (upd (upd (upd (cirRows c h1 js1 js1 c.justice.length) 1 ⟨.slice A1 (c.inputs.length + 1) p1, 3, 1, c.inputs.length + 1, (c.inputs ++ [-77]).flatMap icell⟩) 3 ⟨.slice A3 (c.outputs.length + 1) p3, 3, 1, c.outputs.length + 1, (c.outputs ++ [-77]).flatMap icell⟩) 4 ⟨.slice A4 (c.bads.length + 1) p4, 3, 1, c.bads.length + 1, (c.bads ++ [-77]).flatMap icell⟩) 5 ⟨.slice A5 (c.constraints.length + 1) p5, 3, 1, c.constraints.length + 1, (c.constraints ++ [-77]).flatMap icell⟩) 7 ⟨.slice A7 (c.fairness.length + 1) p7, 3, 1, c.fairness.length + 1, (c.fairness ++ [-77]).flatMap icell⟩) 2 ⟨.slice A2 (c.latches.length + 1) p2, 83, 3, c.latches.length + 1, c.latches.flatMap tcells ++ [nu (-77), nu 0, nu 0]⟩) := hWa.put 2 _ hE (fun j k hj hk hh => own_ne hr2 (hW12 j) (by rw [ht12 j]; exact fun e => rt_70 hj e.symm) hh hk) hr
  have ht13 : ∀ j, ((upd (upd (upd (upd (upd (upd (cirRows c h1 js1 js1 c.justice.length) 1 ⟨.slice A1 (c.inputs.length + 1) p1, 3, 1, c.inputs.length + 1, (c.inputs ++ [-77]).flatMap icell⟩) 3 ⟨.slice A3 (c.outputs.length + 1) p3, 3, 1, c.outputs.length + 1, (c.outputs ++ [-77]).flatMap icell⟩) 4 ⟨.slice A4 (c.bads.length + 1) p4, 3, 1, c.bads.length + 1, (c.bads ++ [-77]).flatMap icell⟩) 5 ⟨.slice A5 (c.constraints.length + 1) p5, 3, 1, c.constraints.length + 1, (c.constraints ++ [-77]).flatMap icell⟩) 7 ⟨.slice A7 (c.fairness.length + 1) p7, 3, 1, c.fairness.length + 1, (c.fairness ++ [-77]).flatMap icell⟩) 2 ⟨.slice A2 (c.latches.length + 1) p2, 83, 3, c.latches.length + 1, c.latches.flatMap tcells ++ [nu (-77), nu 0, nu 0]⟩) j).t = rt j := upd_t ht12 rfl
  have hS13 : Blk w13 w.heap.size 29 (ccells c h) ∧ Blk w13 b3 29 (ccells c (setHd (setHd (setHd (setHd (setHd h1 1 (A1, p1)) 3 (A3, p3)) 4 (A4, p4)) 5 (A5, p5)) 7 (A7, p7))) := ⟨hI13, hO13⟩
  refine ⟨fun _ => hS13, ?_⟩
  clear hE hWa hr2
  repeat' (first
 | (apply O_sliceTo; eq_refl; eq_refl; omega; omega; exact hS13)
 | (apply WS_next; eq_refl)
 | (apply WO_on0; eq_refl)
 | (apply O_field; eq_refl; (first | assumption | exact trivial)))
  skip
  have hE : Chg w13 (w13.setRow b3 ((ccells c (setHd (setHd (setHd (setHd (setHd h1 1 (A1, p1)) 3 (A3, p3)) 4 (A4, p4)) 5 (A5, p5)) 7 (A7, p7))).set (0 + 2) (.slice A2 c.latches.length p2)).toArray) (fun k => k = b3) := Chg.setRow _ _ _ rfl
  have hC14 := hC13.trans hE fun k hk hh => by omega
  have hI14 := hI13.chg hE (by omega)
  have hR14 := hR13.chg hE (by omega)
  have hW14 : Has _ w0.heap.size (upd (upd (upd (upd (upd (upd (cirRows c h1 js1 js1 c.justice.length) 1 ⟨.slice A1 (c.inputs.length + 1) p1, 3, 1, c.inputs.length + 1, (c.inputs ++ [-77]).flatMap icell⟩) 3 ⟨.slice A3 (c.outputs.length + 1) p3, 3, 1, c.outputs.length + 1, (c.outputs ++ [-77]).flatMap icell⟩) 4 ⟨.slice A4 (c.bads.length + 1) p4, 3, 1, c.bads.length + 1, (c.bads ++ [-77]).flatMap icell⟩) 5 ⟨.slice A5 (c.constraints.length + 1) p5, 3, 1, c.constraints.length + 1, (c.constraints ++ [-77]).flatMap icell⟩) 7 ⟨.slice A7 (c.fairness.length + 1) p7, 3, 1, c.fairness.length + 1, (c.fairness ++ [-77]).flatMap icell⟩) 2 ⟨.slice A2 (c.latches.length + 1) p2, 83, 3, c.latches.length + 1, c.latches.flatMap tcells ++ [nu (-77), nu 0, nu 0]⟩) := hW13.chg hE fun i k hk hh => own_blk (hW13 i) hO13 (by rw [ht13 i]; exact rt_51 i) (by rw [hk, hh])
  have ht14 := ht13
  refine O_doesU (does_store1 (t1 := 29) (b := b3) (o := 0 + 2) (v := (.slice A2 c.latches.length p2)) (by eq_refl) (by eq_refl) hO13 (by simp [ccells]) rfl rfl) (lo (by kernel_rfl)) ?_
  have hO14 : Blk _ b3 29 (ccells c (setHd (setHd (setHd (setHd (setHd (setHd h1 1 (A1, p1)) 3 (A3, p3)) 4 (A4, p4)) 5 (A5, p5)) 7 (A7, p7)) 2 (A2, p2))) := hO13.set ((ccells c (setHd (setHd (setHd (setHd (setHd h1 1 (A1, p1)) 3 (A3, p3)) 4 (A4, p4)) 5 (A5, p5)) 7 (A7, p7))).set (0 + 2) (.slice A2 c.latches.length p2))
  have hS14 := hI14
  clear hE
  generalize w13.setRow b3 ((ccells c (setHd (setHd (setHd (setHd (setHd h1 1 (A1, p1)) 3 (A3, p3)) 4 (A4, p4)) 5 (A5, p5)) 7 (A7, p7))).set (0 + 2) (.slice A2 c.latches.length p2)).toArray = w14 at *
  repeat' (first
 | (apply WC_seqK; intro K hK)
 | (apply hK; clear hK)
 | (apply thenQ_normal)
 | (apply WS_nil))
  skip
  refine WC_draws [(0, true), (1, true), (2, true), (5, true), (6, true), (7, true), (3, false), (4, false), (8, true), (9, true), (10, false)] (fun W => Blk W w.heap.size 29 (ccells c h) ∧ Blk W b3 29 (ccells c (setHd (setHd (setHd (setHd (setHd (setHd h1 1 (A1, p1)) 3 (A3, p3)) 4 (A4, p4)) 5 (A5, p5)) 7 (A7, p7)) 2 (A2, p2)))) mixed (by kernel_rfl) (by kernel_rfl) ?_
  have hC14 := hC14.dr
  have hI14 : Blk w14.drew w.heap.size 29 (ccells c h) := hI14
  have hR14 : Blk w14.drew (w.heap.size + 1) 29 _ := hR14
  have hO14 : Blk w14.drew b3 29 (ccells c (setHd (setHd (setHd (setHd (setHd (setHd h1 1 (A1, p1)) 3 (A3, p3)) 4 (A4, p4)) 5 (A5, p5)) 7 (A7, p7)) 2 (A2, p2))) := hO14
  have hW14 : Has w14.drew w0.heap.size (upd (upd (upd (upd (upd (upd (cirRows c h1 js1 js1 c.justice.length) 1 ⟨.slice A1 (c.inputs.length + 1) p1, 3, 1, c.inputs.length + 1, (c.inputs ++ [-77]).flatMap icell⟩) 3 ⟨.slice A3 (c.outputs.length + 1) p3, 3, 1, c.outputs.length + 1, (c.outputs ++ [-77]).flatMap icell⟩) 4 ⟨.slice A4 (c.bads.length + 1) p4, 3, 1, c.bads.length + 1, (c.bads ++ [-77]).flatMap icell⟩) 5 ⟨.slice A5 (c.constraints.length + 1) p5, 3, 1, c.constraints.length + 1, (c.constraints ++ [-77]).flatMap icell⟩) 7 ⟨.slice A7 (c.fairness.length + 1) p7, 3, 1, c.fairness.length + 1, (c.fairness ++ [-77]).flatMap icell⟩) 2 ⟨.slice A2 (c.latches.length + 1) p2, 83, 3, c.latches.length + 1, c.latches.flatMap tcells ++ [nu (-77), nu 0, nu 0]⟩) := hW14
  have hS14 : Blk w14.drew w.heap.size 29 (ccells c h) ∧ Blk w14.drew b3 29 (ccells c (setHd (setHd (setHd (setHd (setHd (setHd h1 1 (A1, p1)) 3 (A3, p3)) 4 (A4, p4)) 5 (A5, p5)) 7 (A7, p7)) 2 (A2, p2))) := ⟨hI14, hO14⟩
  generalize w14.drew = w14' at *
  repeat' (first
 | (apply O_loadR; eq_refl; (first | exact fun _ h => h.1 | exact fun _ h => h.2); eq_refl; exact hS14)
 | (apply WS_next; eq_refl)
 | (apply WO_on0; eq_refl)
 | (apply O_field; eq_refl; (first | assumption | exact trivial))
 | (apply O_len; eq_refl; (first | assumption | exact trivial))
 | (apply O_pure; apply build57_0 <;> eq_refl; (first | assumption | exact trivial)))
  refine O_does (buildS25_1 (by eq_refl)) (fun _ => ⟨hI14.alloc _, hO14.alloc _⟩) ?_
  have hr2 : w14'.ownsRow w0.heap.size 57 3 (slc h1 8 c.ands.length) c.ands.length (c.ands.flatMap tcells) := hW14 8
  have hlw : w0.heap.size ≤ w14'.heap.size := by have := hO14.lt; omega
  repeat' (first
 | (apply WS_next; eq_refl)
 | (apply WO_on0; eq_refl))
  refine O_append w0.heap.size (by eq_refl) (by eq_refl) (hr2.alloc _) (Blk.newA w14' #[nu (-77), nu 0, nu 0] 57) rfl rfl (by decide) (by simp [Value.oneCell']) hf.ands1 (by decide) (by rw [sz_alloc]; omega) ?_
  intro v' w15 hr hE _ _
  obtain ⟨A8, p8, rfl⟩ := row_form' hr
  have hcap := own_cap hr
  have hC15 : Chg w w15 none_ := (hC14.al _).trans hE fun k hk hh => by have := (hr2.lt k hh).1; omega
  have hI15 := (hI14.alloc (.cells #[nu (-77), nu 0, nu 0] 57)).chg hE (own_blk hr2 hI14 (by decide))
  have hR15 := (hR14.alloc (.cells #[nu (-77), nu 0, nu 0] 57)).chg hE (own_blk hr2 hR14 (by decide))
  have hO15 := (hO14.alloc (.cells #[nu (-77), nu 0, nu 0] 57)).chg hE (own_blk hr2 hO14 (by decide))
  have hWa : Has (w14'.alloc (.cells #[nu (-77), nu 0, nu 0] 57)) w0.heap.size (upd (upd (upd (upd (upd (upd (cirRows c h1 js1 js1 c.justice.length) 1 ⟨.slice A1 (c.inputs.length + 1) p1, 3, 1, c.inputs.length + 1, (c.inputs ++ [-77]).flatMap icell⟩) 3 ⟨.slice A3 (c.outputs.length + 1) p3, 3, 1, c.outputs.length + 1, (c.outputs ++ [-77]).flatMap icell⟩) 4 ⟨.slice A4 (c.bads.length + 1) p4, 3, 1, c.bads.length + 1, (c.bads ++ [-77]).flatMap icell⟩) 5 ⟨.slice A5 (c.constraints.length + 1) p5, 3, 1, c.constraints.length + 1, (c.constraints ++ [-77]).flatMap icell⟩) 7 ⟨.slice A7 (c.fairness.length + 1) p7, 3, 1, c.fairness.length + 1, (c.fairness ++ [-77]).flatMap icell⟩) 2 ⟨.slice A2 (c.latches.length + 1) p2, 83, 3, c.latches.length + 1, c.latches.flatMap tcells ++ [nu (-77), nu 0, nu 0]⟩) := fun j => (hW14 j).alloc _
  have hW15 : Has w15 w0.heap.size (upd (upd (upd (upd (upd (upd (upd (cirRows c h1 js1 js1 c.justice.length) 1 ⟨.slice A1 (c.inputs.length + 1) p1, 3, 1, c.inputs.length + 1, (c.inputs ++ [-77]).flatMap icell⟩) 3 ⟨.slice A3 (c.outputs.length + 1) p3, 3, 1, c.outputs.length + 1, (c.outputs ++ [-77]).flatMap icell⟩) 4 ⟨.slice A4 (c.bads.length + 1) p4, 3, 1, c.bads.length + 1, (c.bads ++ [-77]).flatMap icell⟩) 5 ⟨.slice A5 (c.constraints.length + 1) p5, 3, 1, c.constraints.length + 1, (c.constraints ++ [-77]).flatMap icell⟩) 7 ⟨.slice A7 (c.fairness.length + 1) p7, 3, 1, c.fairness.length + 1, (c.fairness ++ [-77]).flatMap icell⟩) 2 ⟨.slice A2 (c.latches.length + 1) p2, 83, 3, c.latches.length + 1, c.latches.flatMap tcells ++ [nu (-77), nu 0, nu 0]⟩) 8 ⟨.slice A8 (c.ands.length + 1) p8, 57, 3, c.ands.length + 1, c.ands.flatMap tcells ++ [nu (-77), nu 0, nu 0]⟩) := hWa.put 8 _ hE (fun j k hj hk hh => own_ne hr2 (hW14 j) (by rw [ht14 j]; exact fun e => rt_43 hj e.symm) hh hk) hr
  have ht15 : ∀ j, ((upd (upd (upd (upd (upd (upd (upd (cirRows c h1 js1 js1 c.justice.length) 1 ⟨.slice A1 (c.inputs.length + 1) p1, 3, 1, c.inputs.length + 1, (c.inputs ++ [-77]).flatMap icell⟩) 3 ⟨.slice A3 (c.outputs.length + 1) p3, 3, 1, c.outputs.length + 1, (c.outputs ++ [-77]).flatMap icell⟩) 4 ⟨.slice A4 (c.bads.length + 1) p4, 3, 1, c.bads.length + 1, (c.bads ++ [-77]).flatMap icell⟩) 5 ⟨.slice A5 (c.constraints.length + 1) p5, 3, 1, c.constraints.length + 1, (c.constraints ++ [-77]).flatMap icell⟩) 7 ⟨.slice A7 (c.fairness.length + 1) p7, 3, 1, c.fairness.length + 1, (c.fairness ++ [-77]).flatMap icell⟩) 2 ⟨.slice A2 (c.latches.length + 1) p2, 83, 3, c.latches.length + 1, c.latches.flatMap tcells ++ [nu (-77), nu 0, nu 0]⟩) 8 ⟨.slice A8 (c.ands.length + 1) p8, 57, 3, c.ands.length + 1, c.ands.flatMap tcells ++ [nu (-77), nu 0, nu 0]⟩) j).t = rt j := upd_t ht14 rfl
  have hS15 : Blk w15 w.heap.size 29 (ccells c h) ∧ Blk w15 b3 29 (ccells c (setHd (setHd (setHd (setHd (setHd (setHd h1 1 (A1, p1)) 3 (A3, p3)) 4 (A4, p4)) 5 (A5, p5)) 7 (A7, p7)) 2 (A2, p2))) := ⟨hI15, hO15⟩
  refine ⟨fun _ => hS15, ?_⟩
  clear hE hWa hr2
  repeat' (first
 | (apply O_sliceTo; eq_refl; eq_refl; omega; omega; exact hS15)
 | (apply WS_next; eq_refl)
 | (apply WO_on0; eq_refl)
 | (apply O_field; eq_refl; (first | assumption | exact trivial)))
  skip
  have hE : Chg w15 (w15.setRow b3 ((ccells c (setHd (setHd (setHd (setHd (setHd (setHd h1 1 (A1, p1)) 3 (A3, p3)) 4 (A4, p4)) 5 (A5, p5)) 7 (A7, p7)) 2 (A2, p2))).set (0 + 8) (.slice A8 c.ands.length p8)).toArray) (fun k => k = b3) := Chg.setRow _ _ _ rfl
  have hC16 := hC15.trans hE fun k hk hh => by omega
  have hI16 := hI15.chg hE (by omega)
  have hR16 := hR15.chg hE (by omega)
  have hW16 : Has _ w0.heap.size (upd (upd (upd (upd (upd (upd (upd (cirRows c h1 js1 js1 c.justice.length) 1 ⟨.slice A1 (c.inputs.length + 1) p1, 3, 1, c.inputs.length + 1, (c.inputs ++ [-77]).flatMap icell⟩) 3 ⟨.slice A3 (c.outputs.length + 1) p3, 3, 1, c.outputs.length + 1, (c.outputs ++ [-77]).flatMap icell⟩) 4 ⟨.slice A4 (c.bads.length + 1) p4, 3, 1, c.bads.length + 1, (c.bads ++ [-77]).flatMap icell⟩) 5 ⟨.slice A5 (c.constraints.length + 1) p5, 3, 1, c.constraints.length + 1, (c.constraints ++ [-77]).flatMap icell⟩) 7 ⟨.slice A7 (c.fairness.length + 1) p7, 3, 1, c.fairness.length + 1, (c.fairness ++ [-77]).flatMap icell⟩) 2 ⟨.slice A2 (c.latches.length + 1) p2, 83, 3, c.latches.length + 1, c.latches.flatMap tcells ++ [nu (-77), nu 0, nu 0]⟩) 8 ⟨.slice A8 (c.ands.length + 1) p8, 57, 3, c.ands.length + 1, c.ands.flatMap tcells ++ [nu (-77), nu 0, nu 0]⟩) := hW15.chg hE fun i k hk hh => own_blk (hW15 i) hO15 (by rw [ht15 i]; exact rt_51 i) (by rw [hk, hh])
  have ht16 := ht15
  refine O_doesU (does_store1 (t1 := 29) (b := b3) (o := 0 + 8) (v := (.slice A8 c.ands.length p8)) (by eq_refl) (by eq_refl) hO15 (by simp [ccells]) rfl rfl) (lo (by kernel_rfl)) ?_
  have hO16 : Blk _ b3 29 (ccells c (setHd (setHd (setHd (setHd (setHd (setHd (setHd h1 1 (A1, p1)) 3 (A3, p3)) 4 (A4, p4)) 5 (A5, p5)) 7 (A7, p7)) 2 (A2, p2)) 8 (A8, p8))) := hO15.set ((ccells c (setHd (setHd (setHd (setHd (setHd (setHd h1 1 (A1, p1)) 3 (A3, p3)) 4 (A4, p4)) 5 (A5, p5)) 7 (A7, p7)) 2 (A2, p2))).set (0 + 8) (.slice A8 c.ands.length p8))
  have hS16 := hI16
  clear hE
  generalize w15.setRow b3 ((ccells c (setHd (setHd (setHd (setHd (setHd (setHd h1 1 (A1, p1)) 3 (A3, p3)) 4 (A4, p4)) 5 (A5, p5)) 7 (A7, p7)) 2 (A2, p2))).set (0 + 8) (.slice A8 c.ands.length p8)).toArray = w16 at *
  repeat' (first
 | (apply WC_seqK; intro K hK)
 | (apply hK; clear hK)
 | (apply WC_region)
 | (apply thenQ_normal)
 | (apply WS_nil)
 | (apply WL_on0; eq_refl)
 | (apply X_loadW; eq_refl; (first | assumption | (apply Blk.alloc; assumption) | apply Blk.new | apply Blk.newA | (apply Blk.alloc; first | apply Blk.newA | (apply Blk.alloc; first | assumption | apply Blk.newA))); eq_refl))
  skip
  refine X_doesU (does_storeA (t1 := 29) (vs := ccells c (setHd (setHd (setHd (setHd (setHd (setHd (setHd h1 1 (A1, p1)) 3 (A3, p3)) 4 (A4, p4)) 5 (A5, p5)) 7 (A7, p7)) 2 (A2, p2)) 8 (A8, p8))) (o := 0) (b := w.heap.size + 1) (by eq_refl) (by eq_refl) hR16 rfl (by exact Nat.le_refl 11) (by simp [ccells, Value.oneCell'])) ?_
  have hE : Chg w16 (w16.setRow (w.heap.size + 1) (ccells c (setHd (setHd (setHd (setHd (setHd (setHd (setHd h1 1 (A1, p1)) 3 (A3, p3)) 4 (A4, p4)) 5 (A5, p5)) 7 (A7, p7)) 2 (A2, p2)) 8 (A8, p8))).toArray) (fun k => k = w.heap.size + 1) := Chg.setRow _ _ _ rfl
  have hRf := hR16.set (ccells c (setHd (setHd (setHd (setHd (setHd (setHd (setHd h1 1 (A1, p1)) 3 (A3, p3)) 4 (A4, p4)) 5 (A5, p5)) 7 (A7, p7)) 2 (A2, p2)) 8 (A8, p8)))
  have hWf : Has _ w0.heap.size (upd (upd (upd (upd (upd (upd (upd (cirRows c h1 js1 js1 c.justice.length) 1 ⟨.slice A1 (c.inputs.length + 1) p1, 3, 1, c.inputs.length + 1, (c.inputs ++ [-77]).flatMap icell⟩) 3 ⟨.slice A3 (c.outputs.length + 1) p3, 3, 1, c.outputs.length + 1, (c.outputs ++ [-77]).flatMap icell⟩) 4 ⟨.slice A4 (c.bads.length + 1) p4, 3, 1, c.bads.length + 1, (c.bads ++ [-77]).flatMap icell⟩) 5 ⟨.slice A5 (c.constraints.length + 1) p5, 3, 1, c.constraints.length + 1, (c.constraints ++ [-77]).flatMap icell⟩) 7 ⟨.slice A7 (c.fairness.length + 1) p7, 3, 1, c.fairness.length + 1, (c.fairness ++ [-77]).flatMap icell⟩) 2 ⟨.slice A2 (c.latches.length + 1) p2, 83, 3, c.latches.length + 1, c.latches.flatMap tcells ++ [nu (-77), nu 0, nu 0]⟩) 8 ⟨.slice A8 (c.ands.length + 1) p8, 57, 3, c.ands.length + 1, c.ands.flatMap tcells ++ [nu (-77), nu 0, nu 0]⟩) := hW16.chg hE fun i k hk hh => own_blk (hW16 i) hR16 (by rw [ht16 i]; exact rt_51 i) (by rw [hk, hh])
  have hCf := hC16.trans hE fun k hk hh => by omega
  repeat' (first
 | (apply hK; clear hK)
 | (apply WL_nil)
 | (apply thenQ_normal)
 | (apply WC_ret))
  refine retC0 (.inl rfl) (by eq_refl) (cs := ccells c (setHd (setHd (setHd (setHd (setHd (setHd (setHd h1 1 (A1, p1)) 3 (A3, p3)) 4 (A4, p4)) 5 (A5, p5)) 7 (A7, p7)) 2 (A2, p2)) 8 (A8, p8))) (fun j u hj => ?_) rfl ⟨(setHd (setHd (setHd (setHd (setHd (setHd (setHd h1 1 (A1, p1)) 3 (A3, p3)) 4 (A4, p4)) 5 (A5, p5)) 7 (A7, p7)) 2 (A2, p2)) 8 (A8, p8)), js1, rfl, fun j => ?_, hCf⟩
  · rw [add_at, Nat.zero_add]
    exact (hRf.cell j).trans hj
  · have hj := own_mono (hWf j) (show w.heap.size ≤ w0.heap.size by omega)
    match j with
    | 0 | 1 | 3 | 4 | 5 | 6 | 7 | 9 | 10 => exact hj
    | 2 =>
      show World.ownsRow _ _ 83 3 _ _ ((c.latches ++ [(-77, 0, 0)]).flatMap tcells)
      rw [lent_tri]
      exact hj
    | 8 =>
      show World.ownsRow _ _ 57 3 _ _ ((c.ands ++ [(-77, 0, 0)]).flatMap tcells)
      rw [lent_tri]
      exact hj
    | k + 11 => exact hj
end SC
end Go.Proofs.Yticndofcfacopaa
end
section
/- trestlebook: KeptCircuit. -/
set_option linter.unusedVariables false
set_option linter.unusedSimpArgs false
namespace Go.Proofs.Yticndofcfacopaa
namespace SC
open Go.Proofs
theorem lint_at {w : World} {base : Nat} {h : Hd} {i : Nat} {l : List Int} (H : (lintRow h i l).own w base) : RowA w icell 1 (h i).1 (l ++ [-77]) ∧ l.length + 1 ≤ (h i).2 := by
  have H1 : w.ownsRow base 3 1 (.slice (h i).1 (l ++ [-77]).length (h i).2) (l ++ [-77]).length ((l ++ [-77]).flatMap icell) := by
    have e : (l ++ [(-77 : Int)]).length = l.length + 1 := by simp
    rw [e]; exact H
  have hc := own_cap H1
  exact ⟨RowA.own ilen H1, by simpa using hc⟩
theorem ltri_at {w : World} {base : Nat} {h : Hd} {i : Nat} {t : TypeId} {l : List Tri} (H : (ltriRow h i t l).own w base) : RowA w tcells 3 (h i).1 (l ++ [(-77, 0, 0)]) ∧ l.length + 1 ≤ (h i).2 := by
  have H1 : w.ownsRow base t 3 (.slice (h i).1 (l ++ [(-77, 0, 0)]).length (h i).2) (l ++ [(-77, 0, 0)]).length ((l ++ [(-77, 0, 0)]).flatMap tcells) := by
    have e : (l ++ [((-77, 0, 0) : Tri)]).length = l.length + 1 := by simp
    rw [e]; exact H
  have hc := own_cap H1
  exact ⟨RowA.own tlen H1, by simpa using hc⟩
theorem CirLent.chg {w w' : World} {base : Nat} {c : Circ} {h js : Hd} (H : CirLent w base c h js) (hc : Chg w w' none_) : CirLent w' base c h js := fun i => own_chg (H i) hc fun _ _ => id
theorem CirLent.at {w : World} {base : Nat} {c : Circ} {h js : Hd} (H : CirLent w base c h js) : CirAt w c h js := by
  refine ⟨(lint_at (H 1)).1.left, (ltri_at (H 2)).1.left, (lint_at (H 3)).1.left, (lint_at (H 4)).1.left, (lint_at (H 5)).1.left, fun k hk => ?_, fun k hk => ?_, (lint_at (H 7)).1.left, (ltri_at (H 8)).1.left, RowA.own slen (H 9), RowA.own blen (H 10)⟩
  · have h6 := H 6
    simp only [Rw.own, lentRow, cirRows] at h6
    rcases h6.2 with ⟨hv, hn⟩ | ⟨g, cap, cur, hv, hb, hg, rest⟩
    · omega
    · simp only [slc, Value.slice.injEq] at hv
      refine ⟨⟨g, 0, none⟩, hv.1, ?_⟩
      have := h6.cells (g := g) (by simp [slc, hv.1, Value.ownBlock]) k (slc js k c.justice[k].length) (by simp [hk])
      rw [show (k : Int).toNat * 1 = k by omega]
      exact this
  · have := H (k + 11)
    simp only [lentRow, cirRows, if_pos hk] at this
    have e : c.justice.getD k [] = c.justice[k] := by simp [hk]
    rw [e] at this
    exact RowA.own ilen this
section
variable {e : Env} {x y : Operand} {ty t : TypeId}
theorem O_eqVT {n : Nat} {all : List Oper} {K : Env → World → Prop} {S : World → Prop} {r : List (Nat × Bool)} {i : Nat} {w : World} {d : Option Tmp} {a : Array Value} {C : Prop} (hgd : Try.prog.eqGuardType Try.prog.depth t = false) (hr : ∀ w, ∃ r, (Op.equal t (.agg a) (.agg a)).run Try.prog w = .ok r w ∧ (r = true ↔ C)) (hC : C) (h : ev e x = some (.agg a)) (h1 : ev e y = some (.agg a)) (hS : S w)
    (ht : WS Try.prog n all S K r (push d (.bool true) e) w) : OX Try.prog n all S K i true r d (.binOp .eql t x y t) ty e w :=
  O_pure ((p_eqV hgd hr h h1).2 hC) hS ht
end
attribute [local irreducible] WC WL WX WS WO OX Does DoesU Enters CV Pure thenQ blockQ retQ Wants retQC
set_option maxRecDepth 100000
theorem mark_fits : TriFits (-77, 0, 0) := ⟨by unfold fits; decide, by unfold fits; decide, by unfold fits; decide⟩
theorem keptCircuit_cv {w : World} {base : Nat} {c : Circ} {h js k ks : Hd} (H : CirLent w base c h js) (H' : CirAt w c k ks) (hc : c.Okay) (hl : ∀ n ∈ c.lens, n + 1 ≤ 9223372036854775807) : CV Try.prog 18 [.agg (ccells c h).toArray, .agg (ccells c k).toArray] w fun v w' => v = .bool true ∧ Chg w w' none_ := by
  have hC0 : Chg w ((w.alloc (.cells (ccells c h).toArray 29)).alloc (.cells (ccells c k).toArray 29)) none_ := (Chg.alloc w _ none_).al _
  have hA : ∀ W, Chg ((w.alloc (.cells (ccells c h).toArray 29)).alloc (.cells (ccells c k).toArray 29)) W none_ → Blk W w.heap.size 29 (ccells c h) := fun W hW => (Blk.alloc _ (Blk.new w _ _)).chg hW id
  have hB : ∀ W, Chg ((w.alloc (.cells (ccells c h).toArray 29)).alloc (.cells (ccells c k).toArray 29)) W none_ → Blk W (w.alloc (.cells (ccells c h).toArray 29)).heap.size 29 (ccells c k) := fun W hW => (Blk.new (w.alloc (.cells (ccells c h).toArray 29)) (ccells c k) 29).chg hW id
  have hr := Chg.refl ((w.alloc (.cells (ccells c h).toArray 29)).alloc (.cells (ccells c k).toArray 29)) none_
  have lc : ∀ n : Nat, (n : Int) ∈ c.lens → n + 1 ≤ 9223372036854775807 := fun n hn => by have := hl _ hn; omega
  have s1 : ∀ W, Chg ((w.alloc (.cells (ccells c h).toArray 29)).alloc (.cells (ccells c k).toArray 29)) W none_ → CV Try.prog 29 [.slice (h 1).1 c.inputs.length (h 1).2, .slice (k 1).1 c.inputs.length (k 1).2] W fun v w' => v = .bool true ∧ Chg W w' none_ := fun W hW => keptInts_cv ((lint_at (H 1)).1.chg hC0 |>.chg hW) (lint_at (H 1)).2 ((H'.chg hC0).chg hW).inputs (lc _ (by simp [Circ.lens]))
  have s3 : ∀ W, Chg ((w.alloc (.cells (ccells c h).toArray 29)).alloc (.cells (ccells c k).toArray 29)) W none_ → CV Try.prog 29 [.slice (h 3).1 c.outputs.length (h 3).2, .slice (k 3).1 c.outputs.length (k 3).2] W fun v w' => v = .bool true ∧ Chg W w' none_ := fun W hW => keptInts_cv ((lint_at (H 3)).1.chg hC0 |>.chg hW) (lint_at (H 3)).2 ((H'.chg hC0).chg hW).outputs (lc _ (by simp [Circ.lens]))
  have s4 : ∀ W, Chg ((w.alloc (.cells (ccells c h).toArray 29)).alloc (.cells (ccells c k).toArray 29)) W none_ → CV Try.prog 29 [.slice (h 4).1 c.bads.length (h 4).2, .slice (k 4).1 c.bads.length (k 4).2] W fun v w' => v = .bool true ∧ Chg W w' none_ := fun W hW => keptInts_cv ((lint_at (H 4)).1.chg hC0 |>.chg hW) (lint_at (H 4)).2 ((H'.chg hC0).chg hW).bads (lc _ (by simp [Circ.lens]))
  have s5 : ∀ W, Chg ((w.alloc (.cells (ccells c h).toArray 29)).alloc (.cells (ccells c k).toArray 29)) W none_ → CV Try.prog 29 [.slice (h 5).1 c.constraints.length (h 5).2, .slice (k 5).1 c.constraints.length (k 5).2] W fun v w' => v = .bool true ∧ Chg W w' none_ := fun W hW => keptInts_cv ((lint_at (H 5)).1.chg hC0 |>.chg hW) (lint_at (H 5)).2 ((H'.chg hC0).chg hW).constraints (lc _ (by simp [Circ.lens]))
  have s7 : ∀ W, Chg ((w.alloc (.cells (ccells c h).toArray 29)).alloc (.cells (ccells c k).toArray 29)) W none_ → CV Try.prog 29 [.slice (h 7).1 c.fairness.length (h 7).2, .slice (k 7).1 c.fairness.length (k 7).2] W fun v w' => v = .bool true ∧ Chg W w' none_ := fun W hW => keptInts_cv ((lint_at (H 7)).1.chg hC0 |>.chg hW) (lint_at (H 7)).2 ((H'.chg hC0).chg hW).fairness (lc _ (by simp [Circ.lens]))
  have s34 : ∀ W, Chg ((w.alloc (.cells (ccells c h).toArray 29)).alloc (.cells (ccells c k).toArray 29)) W none_ → CV Try.prog 34 [.agg (ccells c h).toArray, .agg (ccells c k).toArray] W fun v w' => v = .bool true ∧ Chg W w' none_ := fun W hW => (sameCircuit_cv ((H.at.chg hC0).chg hW) ((H'.chg hC0).chg hW) hc hc).mono fun v w' ⟨b, e, h1, h2⟩ => ⟨by rw [e, h1.2 rfl], h2⟩
  obtain ⟨q2, hq2, c2⟩ := (ltri_at (H 2)).1 c.latches.length (by simp)
  obtain ⟨q8, hq8, c8⟩ := (ltri_at (H 8)).1 c.ands.length (by simp)
  have d2 : ∀ W, Chg ((w.alloc (.cells (ccells c h).toArray 29)).alloc (.cells (ccells c k).toArray 29)) W none_ → ∀ j u, (tcells (-77, 0, 0))[j]? = some u → W.cell? ((q2.add ((c.latches.length : Int).toNat * 3)).add j) = some u := fun W hW j u hj => cel_chg (cel_chg (c2 j u (by simpa using hj)) hC0 id) hW id
  have d8 : ∀ W, Chg ((w.alloc (.cells (ccells c h).toArray 29)).alloc (.cells (ccells c k).toArray 29)) W none_ → ∀ j u, (tcells (-77, 0, 0))[j]? = some u → W.cell? ((q8.add ((c.ands.length : Int).toNat * 3)).add j) = some u := fun W hW j u hj => cel_chg (cel_chg (c8 j u (by simpa using hj)) hC0 id) hW id
  have n2 := (ltri_at (H 2)).2
  have n8 := (ltri_at (H 8)).2
  have m2 := lc c.latches.length (by simp [Circ.lens])
  have m8 := lc c.ands.length (by simp [Circ.lens])
  refine enter 77 [4] Try.func18 rfl rfl rfl (by decide) rfl ?_
  repeat' (first
 | (apply X_loadR; eq_refl; (apply hA; assumption); eq_refl)
 | (apply X_loadR; eq_refl; (apply hB; assumption); eq_refl)
 | (apply X_fn; eq_refl; (first | (apply s1; assumption) | (apply s3; assumption) | (apply s4; assumption) | (apply s5; assumption) | (apply s7; assumption)); rintro _ W ⟨rfl, hE⟩; have hD := Chg.trans (by assumption) hE (fun _ _ h => h))
 | (apply WC_seqK; intro K hK)
 | (apply hK; clear hK)
 | (apply WC_region)
 | (apply WL_nil)
 | (apply thenQ_normal)
 | (apply WL_on0; eq_refl)
 | (apply WL_onG; eq_refl; eq_refl; eq_refl; eq_refl)
 | (apply X_pv; eq_refl; first | exact trivial | omega)
 | (apply X_field; eq_refl)
 | (apply X_box; eq_refl))
  refine WC_turn (fun W => Chg ((w.alloc (.cells (ccells c h).toArray 29)).alloc (.cells (ccells c k).toArray 29)) W none_) (by assumption) ?_
  intro W9 hW9
  refine WC_draws [(0, true), (1, true), (2, true), (3, true), (4, false), (5, true), (6, true), (7, true), (8, true), (9, true), (10, true), (11, true), (12, true), (13, true), (14, true), (15, true), (16, true), (17, true), (18, true), (19, true), (20, true), (21, true), (22, true), (23, true), (24, true), (25, true), (26, true), (27, true), (28, true), (29, true), (30, true), (31, true), (32, true), (33, true), (34, true), (35, true), (36, true), (37, true), (38, true)] (fun W => Chg ((w.alloc (.cells (ccells c h).toArray 29)).alloc (.cells (ccells c k).toArray 29)) W none_) mixed (by kernel_rfl) (by kernel_rfl) ?_
  have hS := hW9.dr
  clear hW9
  have e2 : (ccells c h)[0 + 2]? = some (.slice (some q2) c.latches.length (h 2).2) := by rw [← hq2]; rfl
  have e8 : (ccells c h)[0 + 8]? = some (.slice (some q8) c.ands.length (h 8).2) := by rw [← hq8]; rfl
  repeat' (first
 | (apply O_loadW; eq_refl; exact hA; eq_refl; assumption)
 | (apply O_loadW; eq_refl; exact hB; eq_refl; assumption)
 | (apply O_loadR; eq_refl; exact hA; exact e2; assumption)
 | (apply O_loadR; eq_refl; exact hA; exact e8; assumption)
 | (apply O_loadR; eq_refl; exact hB; eq_refl; assumption)
 | (apply O_fn; eq_refl; (apply s34; assumption); rintro _ W2 ⟨rfl, hE⟩; have hS2 := Chg.trans hS hE (fun _ _ h => h); refine ⟨fun _ => hS2, ?_⟩)
 | (apply O_sliceTo; eq_refl; eq_refl; omega; omega; assumption)
 | (apply O_loadAP (tcells (-77, 0, 0)); eq_refl; eq_refl; (first | exact d2 | exact d8); assumption)
 | (apply O_eqVT guard70 (run_neq70 mark_fits mark_fits) rfl; eq_refl; eq_refl; assumption)
 | (apply O_eqVT guard43 (run_neq43 mark_fits mark_fits) rfl; eq_refl; eq_refl; assumption)
 | (apply hK; clear hK)
 | (apply thenQ_normal)
 | (apply WC_ret)
 | (apply ret1; eq_refl)
 | (apply WS_nil)
 | (apply WS_next; eq_refl)
 | (apply WO_on0; eq_refl)
 | (apply WO_onG; eq_refl; eq_refl; eq_refl; eq_refl)
 | (apply O_pv; eq_refl; (first | exact trivial | omega); (first | assumption | exact trivial))
 | (apply O_field; eq_refl; (first | assumption | exact trivial))
 | (apply O_len; eq_refl; (first | assumption | exact trivial))
 | (apply O_indexP; eq_refl; eq_refl; omega; omega; (first | assumption | exact trivial))
 | (apply O_pure; apply build83_0 <;> eq_refl; (first | assumption | exact trivial))
 | (apply O_pure; apply build57_0 <;> eq_refl; (first | assumption | exact trivial)))
  skip
  exact ⟨rfl, hC0.trans (by assumption) fun _ _ h => h⟩
end SC
end Go.Proofs.Yticndofcfacopaa
end
section
/- A circuit that comes in, with its reach: numbers that fit, lists that memory holds, no room where there is no row. -/
set_option linter.unusedVariables false
set_option linter.unusedSimpArgs false
namespace Go.Proofs.Yticndofcfacopaa
namespace SC
open Go.Proofs
set_option maxRecDepth 100000
theorem weightsAll_mem {H : Type} {P : Program} {e : TypeId} : ∀ {l : List (DataW H)} {d : DataW H}, d ∈ l → ∀ n ∈ d.weights P e, n ∈ DataW.weightsAll P e l
  | d' :: r, d, hd, n, hn => by
    simp only [DataW.weightsAll, List.mem_append]
    rcases List.mem_cons.1 hd with rfl | h
    · exact Or.inl hn
    · exact Or.inr (weightsAll_mem h n hn)
section
variable {H : Type} {enc : TypeId × Value → H} {W : World} {base : Nat} {spare : Nat → Bool} {held : Bool}
/-- A row that comes in. -/
theorem openRowS {α : Type} (en : α → List Value) (Good : α → DataW H → Prop) {t e : TypeId} {sz : Nat} (ht : Try.prog.underlying t = some (.slice e)) (hsz : Try.prog.cellsOf e = sz) (hl : ∀ a, (en a).length = sz)
    (he : ∀ (fuel : Nat) (cs : List Value) (x : DataW H × List MemPlace), DataW.trod enc Try.prog W base spare held fuel e cs = some x → ∃ a, en a = cs ∧ Good a x.1) {fuel : Nat} {cs : List Value} {x : DataW H × List MemPlace}
    (h : DataW.trod enc Try.prog W base spare held fuel t cs = some x) : ∃ (A : Option Addr) (cp : Nat) (l : List α), cs = [.slice A l.length cp] ∧ RowA W en sz A l ∧ (∀ a ∈ l, ∃ d, Good a d ∧ ∀ n ∈ d.weights Try.prog e, n ∈ x.1.weights Try.prog t) ∧ l.length ≤ maxLen ∧ (A = none → cp = 0) ∧ (∀ R, (∀ n ∈ x.1.weights Try.prog t, n ≤ R) → l.length * Try.prog.bytesOf e ≤ R) := by
  rcases DataW.trod_slice ht h with ⟨rfl, _⟩ | ⟨a, len, cap, elems, rest, n, _, rfl, hx0, hb, hlc, hcm, hel, hi, _⟩
  · exact ⟨none, 0, [], rfl, fun k hk => absurd hk (Nat.not_lt_zero _), fun a ha => (by cases ha), Nat.zero_le _, fun _ => rfl, fun R _ => by simp⟩
  · have key : ∀ i, i < len → ∃ y : α, (∃ d, Good y d ∧ ∀ n ∈ d.weights Try.prog e, n ∈ x.1.weights Try.prog t) ∧ ∀ j u, (en y)[j]? = some u → W.cell? ((a.add (i * sz)).add j) = some u := fun i hlt => by
      have h1 := hi i hlt
      have hlt' : i < elems.length := by omega
      rw [List.getElem?_eq_getElem hlt'] at h1
      obtain ⟨cs, hc, hx⟩ := Option.bind_eq_some_iff.1 h1
      rw [hsz] at hc
      obtain ⟨_, hcl, hat⟩ := World.cells?_some hc
      obtain ⟨y, rfl, hg⟩ := he _ _ _ hx
      refine ⟨y, ⟨_, hg, fun m hm => ?_⟩, fun j u hj => ?_⟩
      · rw [hx0]
        simp only [DataW.weights, ht, List.mem_cons, List.mem_append]
        exact .inr (.inl (weightsAll_mem (List.mem_map.2 ⟨_, List.getElem_mem hlt', rfl⟩) m hm))
      · have hjl : j < sz := by have := (List.getElem?_eq_some_iff.1 hj).1; rwa [hl] at this
        rw [hat j hjl]
        exact hj
    obtain ⟨l, hll, hq⟩ := listOf key
    subst hll
    refine ⟨some a, cap, l, rfl, fun k hk => ⟨a, rfl, fun j u hj => ?_⟩, fun y hy => ?_, Nat.le_trans hlc hcm, fun h => (by cases h), fun R hR => ?_⟩
    · rw [show (k : Int).toNat = k by omega]
      exact (hq k hk).2 j u hj
    · obtain ⟨i, hi', rfl⟩ := List.mem_iff_getElem.1 hy
      exact (hq i hi').1
    · have := hR ((elems.length + rest.length) * Try.prog.bytesOf e) (by rw [hx0]; simp [DataW.weights, ht])
      rw [← hel]
      exact Nat.le_trans (Nat.mul_le_mul_right _ (Nat.le_add_right _ _)) this
theorem openFieldS {t : TypeId} {fs : Array Field} {fuel : Nat} {cs : List Value} {x : DataW H × List MemPlace} (ht : Try.prog.underlying t = some (.struct fs)) (hc : Try.prog.cellsOf t = fs.size) (h : DataW.trod enc Try.prog W base spare held fuel t cs = some x) :
    cs.length = fs.size ∧ ∃ n, ∀ (i : Nat) (f : Field) (hi : i < cs.length), fs[i]? = some f → f.offset = i → Try.prog.cellsOf f.type = 1 → ∃ y, DataW.trod enc Try.prog W base spare held n f.type [cs[i]] = some y ∧ ∀ n ∈ y.1.weights Try.prog f.type, n ∈ x.1.weights Try.prog t := by
  obtain ⟨xs, n, _, hx0, hcl, hxl, hf⟩ := DataW.trod_struct ht h
  refine ⟨hcl.trans hc, n, fun i f hi hfi ho h1 => ?_⟩
  have := hf i f hfi
  have hx : i < xs.length := by rw [hxl, ← hc, ← hcl]; exact hi
  rw [ho, h1, List.drop_eq_getElem_cons hi, List.getElem?_eq_getElem hx] at this
  refine ⟨_, this, fun m hm => ?_⟩
  rw [hx0]
  simp only [DataW.weights, ht]
  exact DataW.weights_mem_each (j := i) (t := f.type) (d := xs[i].1) (by rw [List.getElem?_map, Array.getElem?_toList, hfi]; rfl) (by rw [List.getElem?_map, List.getElem?_eq_getElem hx]; rfl) m hm
theorem openIntS {fuel : Nat} {cs : List Value} {x : DataW H × List MemPlace} (h : DataW.trod enc Try.prog W base spare held fuel 3 cs = some x) : ∃ a, icell a = cs ∧ fits a := by
  obtain ⟨z, rfl, _, w1⟩ := DataW.trod_int Try.underlying3 h
  refine ⟨z, rfl, ?_⟩
  simp [Lit.wf, IntKind.min, IntKind.max, IntKind.signed, IntKind.bits] at w1; unfold fits; omega
theorem openTriS {t : TypeId} {fs : Array Field} (ht : Try.prog.underlying t = some (.struct fs)) (hc : Try.prog.cellsOf t = 3) (hs : fs.size = 3) (hf : ∀ i, i < 3 → ∃ f, fs[i]? = some f ∧ f.offset = i ∧ f.type = 3) {fuel : Nat} {cs : List Value} {x : DataW H × List MemPlace}
    (h : DataW.trod enc Try.prog W base spare held fuel t cs = some x) : ∃ a, tcells a = cs ∧ TriFits a := by
  obtain ⟨hl, n, hfl⟩ := openField ht (hc.trans hs.symm) h
  rw [hs] at hl
  have one : ∀ (i : Nat) (hi : i < cs.length), ∃ z : Int, cs[i] = nu z ∧ fits z := fun i hi => by
    obtain ⟨f, h1, h2, h3⟩ := hf i (by omega)
    obtain ⟨y, hy⟩ := hfl i f hi h1 h2 (by rw [h3]; kernel_rfl)
    rw [h3] at hy
    obtain ⟨z, hz, hw⟩ := openIntS hy
    exact ⟨z, (List.cons.inj hz).1.symm, hw⟩
  obtain ⟨p, h0, f0⟩ := one 0 (by omega)
  obtain ⟨q, h1, f1⟩ := one 1 (by omega)
  obtain ⟨r, h2, f2⟩ := one 2 (by omega)
  refine ⟨(p, q, r), ?_, f0, f1, f2⟩
  apply List.ext_getElem (by rw [hl]; rfl)
  intro i hi1 hi2
  match i, hi2 with
  | 0, _ => exact h0.symm
  | 1, _ => exact h1.symm
  | 2, _ => exact h2.symm
theorem openAndS {fuel : Nat} {cs : List Value} {x : DataW H × List MemPlace} (h : DataW.trod enc Try.prog W base spare held fuel 57 cs = some x) : ∃ a, tcells a = cs ∧ TriFits a :=
  openTriS Try.underlying57 (by kernel_rfl) rfl (fun i hi => match i, hi with
    | 0, _ => ⟨_, rfl, rfl, rfl⟩
    | 1, _ => ⟨_, rfl, rfl, rfl⟩
    | 2, _ => ⟨_, rfl, rfl, rfl⟩) h
theorem openLatchS {fuel : Nat} {cs : List Value} {x : DataW H × List MemPlace} (h : DataW.trod enc Try.prog W base spare held fuel 83 cs = some x) : ∃ a, tcells a = cs ∧ TriFits a :=
  openTriS Try.underlying83 (by kernel_rfl) rfl (fun i hi => match i, hi with
    | 0, _ => ⟨_, rfl, rfl, rfl⟩
    | 1, _ => ⟨_, rfl, rfl, rfl⟩
    | 2, _ => ⟨_, rfl, rfl, rfl⟩) h
theorem bytes3 : Try.prog.bytesOf 3 = 8 := by kernel_rfl
theorem bytes70 : Try.prog.bytesOf 83 = 24 := by kernel_rfl
theorem bytes43 : Try.prog.bytesOf 57 = 24 := by kernel_rfl
theorem bytes45 : Try.prog.bytesOf 22 = 24 := by kernel_rfl
theorem bytes117 : Try.prog.bytesOf 110 = 32 := by kernel_rfl
theorem bytes9 : Try.prog.bytesOf 9 = 16 := by kernel_rfl
theorem openIntsS {fuel : Nat} {cs : List Value} {x : DataW H × List MemPlace} (h : DataW.trod enc Try.prog W base spare held fuel 22 cs = some x) : ∃ y, lcell y = cs ∧ (RowA W icell 1 y.A y.l ∧ y.l.length ≤ maxLen ∧ (y.A = none → y.cp = 0) ∧ ∀ R, (∀ n ∈ x.1.weights Try.prog 22, n ≤ R) → y.l.length * 8 ≤ R) := by
  obtain ⟨A, cp, l, rfl, hr, _, hl, hn, hw⟩ := openRowS icell (fun _ _ => True) Try.underlying22 (by kernel_rfl) ilen (fun _ _ _ h => by obtain ⟨a, h1, _⟩ := openIntS h; exact ⟨a, h1, trivial⟩) h
  rw [bytes3] at hw
  exact ⟨⟨A, cp, l⟩, rfl, hr, hl, hn, hw⟩
/-- A circuit that comes in. -/
theorem openCirS {v : Value} {d : DataW H} {ps : List MemPlace} {r : Reach} {b0 : Nat} (hv : Value.okWide Try.prog W r b0 29 v) (h : DataW.Trod enc Try.prog W base spare held 29 v d ps) (hz : ∀ n ∈ d.weights Try.prog 29, n ≤ 140737488351232) :
    ∃ (c : Circ) (h js : Hd), v = .agg (ccells c h).toArray ∧ CirAt W c h js ∧ c.Sane ∧ c.Okay ∧ c.Fits1 ∧ Nils h js := by
  obtain ⟨cs, rfl, hsz⟩ := Go.WideShapes.okWide_struct Try.underlying29 hv
  obtain ⟨fuel, hf⟩ := h
  rw [agg_cells] at hf
  obtain ⟨hl, n, hfl⟩ := openFieldS Try.underlying29 (by kernel_rfl) hf
  have hl : cs.toList.length = 11 := hl
  obtain ⟨y0, h0, g0⟩ := hfl 0 _ (by rw [hl]; decide) rfl rfl (by kernel_rfl)
  obtain ⟨y1, h1, g1⟩ := hfl 1 _ (by rw [hl]; decide) rfl rfl (by kernel_rfl)
  obtain ⟨y2, h2, g2⟩ := hfl 2 _ (by rw [hl]; decide) rfl rfl (by kernel_rfl)
  obtain ⟨y3, h3, g3⟩ := hfl 3 _ (by rw [hl]; decide) rfl rfl (by kernel_rfl)
  obtain ⟨y4, h4, g4⟩ := hfl 4 _ (by rw [hl]; decide) rfl rfl (by kernel_rfl)
  obtain ⟨y5, h5, g5⟩ := hfl 5 _ (by rw [hl]; decide) rfl rfl (by kernel_rfl)
  obtain ⟨y6, h6, g6⟩ := hfl 6 _ (by rw [hl]; decide) rfl rfl (by kernel_rfl)
  obtain ⟨y7, h7, g7⟩ := hfl 7 _ (by rw [hl]; decide) rfl rfl (by kernel_rfl)
  obtain ⟨y8, h8, g8⟩ := hfl 8 _ (by rw [hl]; decide) rfl rfl (by kernel_rfl)
  obtain ⟨y9, h9, g9⟩ := hfl 9 _ (by rw [hl]; decide) rfl rfl (by kernel_rfl)
  obtain ⟨y10, h10, g10⟩ := hfl 10 _ (by rw [hl]; decide) rfl rfl (by kernel_rfl)
  obtain ⟨m, e0, _, _⟩ := DataW.trod_int Try.underlying3 h0
  have oi : ∀ (fuel : Nat) (cs : List Value) (x : DataW H × List MemPlace), DataW.trod enc Try.prog W base spare held fuel 3 cs = some x → ∃ a, icell a = cs ∧ True := fun _ _ _ h => by obtain ⟨a, h1, _⟩ := openIntS h; exact ⟨a, h1, trivial⟩
  obtain ⟨A1, c1, l1, e1, r1, _, n1, z1, w1⟩ := openRowS icell (fun _ _ => True) Try.underlying22 (by kernel_rfl) ilen oi h1
  obtain ⟨A2, c2, l2, e2, r2, k2, n2, z2, w2⟩ := openRowS tcells (fun a _ => TriFits a) Try.underlying23 (by kernel_rfl) tlen (fun _ _ _ h => openLatchS h) h2
  obtain ⟨A3, c3, l3, e3, r3, _, n3, z3, w3⟩ := openRowS icell (fun _ _ => True) Try.underlying22 (by kernel_rfl) ilen oi h3
  obtain ⟨A4, c4, l4, e4, r4, _, n4, z4, w4⟩ := openRowS icell (fun _ _ => True) Try.underlying22 (by kernel_rfl) ilen oi h4
  obtain ⟨A5, c5, l5, e5, r5, _, n5, z5, w5⟩ := openRowS icell (fun _ _ => True) Try.underlying22 (by kernel_rfl) ilen oi h5
  obtain ⟨A6, c6, l6, e6, r6, k6, n6, z6, w6⟩ := openRowS lcell (fun y d => RowA W icell 1 y.A y.l ∧ y.l.length ≤ maxLen ∧ (y.A = none → y.cp = 0) ∧ ∀ R, (∀ n ∈ d.weights Try.prog 22, n ≤ R) → y.l.length * 8 ≤ R) Try.underlying24 (by kernel_rfl) (fun _ => rfl) (fun _ _ _ h => openIntsS h) h6
  obtain ⟨A7, c7, l7, e7, r7, _, n7, z7, w7⟩ := openRowS icell (fun _ _ => True) Try.underlying22 (by kernel_rfl) ilen oi h7
  obtain ⟨A8, c8, l8, e8, r8, k8, n8, z8, w8⟩ := openRowS tcells (fun a _ => TriFits a) Try.underlying25 (by kernel_rfl) tlen (fun _ _ _ h => openAndS h) h8
  obtain ⟨A9, c9, l9, e9, r9, k9, n9, z9, w9⟩ := openRowS scells (fun s _ => (0 ≤ s.kind ∧ s.kind ≤ 255) ∧ (-9223372036854775808 ≤ s.at_ ∧ s.at_ ≤ 9223372036854775807) ∧ s.name.size ≤ maxLen) Try.underlying26 (by kernel_rfl) slen (fun _ _ _ h => openSym h) h9
  obtain ⟨A10, c10, l10, e10, r10, k10, n10, z10, w10⟩ := openRowS bcell (fun s _ => s.size ≤ maxLen) Try.underlying27 (by kernel_rfl) blen (fun _ _ _ h => openTxt h) h10
  rw [bytes3] at w1 w3 w4 w5 w7
  rw [bytes70] at w2
  rw [bytes43] at w8
  rw [bytes45] at w6
  rw [bytes117] at w9
  rw [bytes9] at w10
  have v1 := w1 _ fun n hn => hz n (g1 n hn)
  have v2 := w2 _ fun n hn => hz n (g2 n hn)
  have v3 := w3 _ fun n hn => hz n (g3 n hn)
  have v4 := w4 _ fun n hn => hz n (g4 n hn)
  have v5 := w5 _ fun n hn => hz n (g5 n hn)
  have v6 := w6 _ fun n hn => hz n (g6 n hn)
  have v7 := w7 _ fun n hn => hz n (g7 n hn)
  have v8 := w8 _ fun n hn => hz n (g8 n hn)
  have v9 := w9 _ fun n hn => hz n (g9 n hn)
  have v10 := w10 _ fun n hn => hz n (g10 n hn)
  have k6' : ∀ y ∈ l6, RowA W icell 1 y.A y.l ∧ y.l.length ≤ maxLen ∧ (y.A = none → y.cp = 0) ∧ y.l.length * 8 ≤ 140737488351232 := fun y hy => by
    obtain ⟨d, ⟨q1, q2, q3, q4⟩, q5⟩ := k6 y hy
    exact ⟨q1, q2, q3, q4 _ fun n hn => hz n (g6 n (q5 n hn))⟩
  have k9' : ∀ s ∈ l9, (0 ≤ s.kind ∧ s.kind ≤ 255) ∧ (-9223372036854775808 ≤ s.at_ ∧ s.at_ ≤ 9223372036854775807) ∧ s.name.size ≤ maxLen := fun s hs => by obtain ⟨_, q, _⟩ := k9 s hs; exact q
  have k10' : ∀ s ∈ l10, s.size ≤ maxLen := fun s hs => by obtain ⟨_, q, _⟩ := k10 s hs; exact q
  refine ⟨⟨m, l1, l2, l3, l4, l5, l6.map (·.l), l7, l8, l9, l10⟩, fun | 1 => (A1, c1) | 2 => (A2, c2) | 3 => (A3, c3) | 4 => (A4, c4) | 5 => (A5, c5) | 6 => (A6, c6) | 7 => (A7, c7) | 8 => (A8, c8) | 9 => (A9, c9) | 10 => (A10, c10) | _ => (none, 0), fun k => ((l6[k]?).map fun y => (y.A, y.cp)).getD (none, 0), ?_, ?_, ?_, ?_, ?_, ?_, ?_⟩
  · congr 1
    apply Array.ext'
    apply List.ext_getElem (by rw [hl]; rfl)
    intro i hi1 hi2
    match i, hi2 with
    | 0, _ => exact (List.cons.inj e0).1
    | 1, _ => exact (List.cons.inj e1).1
    | 2, _ => exact (List.cons.inj e2).1
    | 3, _ => exact (List.cons.inj e3).1
    | 4, _ => exact (List.cons.inj e4).1
    | 5, _ => exact (List.cons.inj e5).1
    | 6, _ =>
      refine (List.cons.inj e6).1.trans ?_
      show _ = Value.slice A6 (l6.map (·.l)).length c6
      rw [List.length_map]
    | 7, _ => exact (List.cons.inj e7).1
    | 8, _ => exact (List.cons.inj e8).1
    | 9, _ => exact (List.cons.inj e9).1
    | 10, _ => exact (List.cons.inj e10).1
  · refine ⟨r1, r2, r3, r4, r5, fun k hk => ?_, fun k hk => ?_, r7, r8, r9, r10⟩
    · have hk' : k < l6.length := by simpa using hk
      obtain ⟨p, hp, hc⟩ := r6 k hk'
      refine ⟨p, hp, ?_⟩
      have := hc 0 (.slice l6[k].A l6[k].l.length l6[k].cp) rfl
      rw [add_zero'] at this
      rw [this]
      simp [hk']
    · have hk' : k < l6.length := by simpa using hk
      have := (k6' _ (List.getElem_mem hk')).1
      simpa [hk'] using this
  · refine ⟨fun l hl => ?_, fun s hs => (k9' s hs).1, fun s hs => (k9' s hs).2.1, fun s hs => ?_, fun s hs => ?_, ?_⟩
    · obtain ⟨y, hy, rfl⟩ := List.mem_map.1 hl
      have := (k6' y hy).2.1
      simp only [maxLen] at this
      omega
    · have := (k9' s hs).2.2
      simp only [maxLen] at this
      omega
    · have := k10' s hs
      simp only [maxLen] at this
      omega
    · simp only [maxLen] at *
      simp only [List.length_map]
      omega
  · refine ⟨fun n hn => ?_, fun l hl => ?_, fun x hx => (by obtain ⟨_, q, _⟩ := k2 x hx; exact q), fun x hx => (by obtain ⟨_, q, _⟩ := k8 x hx; exact q), fun s hs => ?_⟩
    · simp only [maxLen] at *
      simp only [Circ.lens, List.mem_cons, List.length_map, List.not_mem_nil, or_false] at hn
      rcases hn with rfl | rfl | rfl | rfl | rfl | rfl | rfl | rfl | rfl | rfl <;> omega
    · obtain ⟨y, hy, rfl⟩ := List.mem_map.1 hl
      have := (k6' y hy).2.1
      simp only [maxLen] at this
      omega
    · have := k9' s hs
      simp only [maxLen] at this
      exact ⟨this.1, this.2.1, by omega⟩
  · refine ⟨⟨?_, ?_, ?_, ?_, ?_, ?_, fun l hl => ?_, ?_, ?_, ?_, ?_⟩, ?_, ?_, ?_, ?_, ?_, ?_, ?_⟩
    all_goals first
      | (simp only [List.length_map]; omega)
      | (obtain ⟨y, hy, rfl⟩ := List.mem_map.1 hl
         have := (k6' y hy).2.2.2
         omega)
  · intro i hi
    match i with
    | 1 => exact z1 hi
    | 2 => exact z2 hi
    | 3 => exact z3 hi
    | 4 => exact z4 hi
    | 5 => exact z5 hi
    | 6 => exact z6 hi
    | 7 => exact z7 hi
    | 8 => exact z8 hi
    | 9 => exact z9 hi
    | 10 => exact z10 hi
    | 0 => rfl
    | k + 11 => rfl
  · intro k hk
    cases hy : l6[k]? with
    | none => simp only [hy]; rfl
    | some y =>
      have hm := List.mem_of_getElem? hy
      simp only [hy, Option.map_some, Option.getD_some] at hk ⊢
      exact (k6' y hm).2.2.1 hk
end
end SC
end Go.Proofs.Yticndofcfacopaa
end
section
/- trestleref03: size, one, used. -/
set_option linter.unusedVariables false
set_option linter.unusedSimpArgs false
namespace Go.Proofs.Yticndofcfacopaa
namespace SC
open Go.Proofs
attribute [local irreducible] WC WL WX WS WO OX Does DoesU Enters CV Pure thenQ blockQ retQ Wants retQC
set_option maxRecDepth 100000
theorem lens_ex {c : Circ} : (∃ n ∈ c.lens, 16384 < n) ↔ (16384 < (c.inputs.length : Int) ∨ 16384 < (c.latches.length : Int) ∨ 16384 < (c.outputs.length : Int) ∨ 16384 < (c.bads.length : Int) ∨ 16384 < (c.constraints.length : Int) ∨ 16384 < (c.justice.length : Int) ∨ 16384 < (c.fairness.length : Int) ∨ 16384 < (c.ands.length : Int) ∨ 16384 < (c.symbols.length : Int) ∨ 16384 < (c.comments.length : Int)) := by
  simp [Circ.lens]
theorem size_cv {w : World} {c : Circ} {h js : Hd} (H : CirAt w c h js) (hf : c.Fits) (hs : c.Okay) : CV Try.prog 96 [.agg (ccells c h).toArray] w fun v w' => v = nu (sizesM c) ∧ Chg w w' none_ := by
  have hI : Blk (w.alloc (.cells (ccells c h).toArray 29)) w.heap.size 29 (ccells c h) := Blk.new w _ _
  have hC := Chg.alloc w (.cells (ccells c h).toArray 29) none_
  have hj := (H.chg hC).justice
  by_cases hm : c.max < 0 ∨ 16384 < c.max
  · refine enter 109 [2] Try.func96 rfl rfl rfl (by decide) rfl ?_
    repeat' (first
 | (apply WC_seqK; intro K hK)
 | (apply hK; clear hK)
 | (apply WC_region)
 | (apply WL_nil)
 | (apply thenQ_normal)
 | (apply thenQ_ret)
 | (apply WC_ret)
 | (apply WC_if_true; eq_refl)
 | (apply ret1; eq_refl)
 | (apply WL_on0; eq_refl)
 | (apply WL_onG; eq_refl; eq_refl; eq_refl; eq_refl)
 | (apply WL_noG; eq_refl; eq_refl; eq_refl; eq_refl)
 | (apply X_pv; eq_refl; first | exact trivial | omega)
 | (apply X_field; eq_refl)
 | (apply X_loadR; eq_refl; (first | assumption | (apply Blk.alloc; assumption) | apply Blk.new | apply Blk.newA | (apply Blk.alloc; first | apply Blk.newA | (apply Blk.alloc; first | assumption | apply Blk.newA))); eq_refl)
 | (apply X_cmpT; eq_refl; eq_refl; omega)
 | (apply X_cmp; eq_refl; eq_refl; all_goals intro _)
 | (apply X_box; eq_refl))
    all_goals exact ⟨by unfold sizesM; rw [if_pos hm], hC⟩
  have hlens := hs.lens
  simp only [Circ.lens, List.mem_cons, List.not_mem_nil, or_false] at hlens
  have k1 := hlens _ (.inl rfl)
  have k2 := hlens _ (.inr (.inl rfl))
  have k3 := hlens _ (.inr (.inr (.inl rfl)))
  have k4 := hlens _ (.inr (.inr (.inr (.inl rfl))))
  have k5 := hlens _ (.inr (.inr (.inr (.inr (.inl rfl)))))
  have k6 := hlens _ (.inr (.inr (.inr (.inr (.inr (.inl rfl))))))
  have k7 := hlens _ (.inr (.inr (.inr (.inr (.inr (.inr (.inl rfl)))))))
  have k8 := hlens _ (.inr (.inr (.inr (.inr (.inr (.inr (.inr (.inl rfl))))))))
  have k9 := hlens _ (.inr (.inr (.inr (.inr (.inr (.inr (.inr (.inr (.inl rfl)))))))))
  have k10 := hlens _ (.inr (.inr (.inr (.inr (.inr (.inr (.inr (.inr (.inr rfl)))))))))
  clear hlens
  refine enter 109 [2] Try.func96 rfl rfl rfl (by decide) rfl ?_
  repeat' (first
 | (apply WC_seqK; intro K hK)
 | (apply hK; clear hK)
 | (apply WC_block)
 | (apply WC_region)
 | (apply WL_nil)
 | (apply thenQ_normal)
 | (apply WC_skip)
 | (apply WC_if_false; eq_refl)
 | (apply WL_on0; eq_refl)
 | (apply WL_onG; eq_refl; eq_refl; eq_refl; eq_refl)
 | (apply X_pv; eq_refl; first | exact trivial | omega)
 | (apply X_field; eq_refl)
 | (apply X_loadR; eq_refl; (first | assumption | (apply Blk.alloc; assumption) | apply Blk.new | apply Blk.newA | (apply Blk.alloc; first | apply Blk.newA | (apply Blk.alloc; first | assumption | apply Blk.newA))); eq_refl)
 | (apply X_cmpF; eq_refl; eq_refl; omega)
 | (apply X_box; eq_refl))
  refine WC_loop (fun i : Nat => [(1, pt w.heap.size), (3, nu 16384), (4, nu (sumL (c.justice.take i))), (5, nu i)]) (fun i w1 => Chg w w1 none_ ∧ Blk w1 w.heap.size 29 (ccells c h) ∧ i ≤ c.justice.length ∧ i ≤ 16385 ∧ sumL (c.justice.take i) ≤ i * 17592186044416) (fun i => c.justice.length - i) 0 ⟨rfl, rfl, rfl, rfl, trivial⟩ ⟨hC, hI, Nat.zero_le _, Nat.zero_le _, by simp [sumL]⟩ ?_
  rintro i w1 ⟨hC1, hI1, hi, hi2, hsum⟩
  by_cases hgo : i < c.justice.length ∧ i ≤ 16384
  · obtain ⟨hlt, hle⟩ := hgo
    obtain ⟨p, hp, hpc⟩ := (H.chg hC1).justice i hlt
    have hst := sumL_take hlt
    have hee := hf.each _ (List.getElem_mem hlt)
    generalize hx : c.justice[i] = l at *
    generalize hb : sumL (c.justice.take i) = a at *
    have e6 : (ccells c h)[0 + 6]? = some (.slice (some p) c.justice.length (h 6).2) := by rw [← hp]; rfl
    repeat' (first
 | (apply X_loadR; eq_refl; exact hI1; exact e6)
 | (apply WC_seqK; intro K hK)
 | (apply hK; clear hK)
 | (apply WC_block)
 | (apply WC_region)
 | (apply WL_nil)
 | (apply thenQ_normal)
 | (apply blockQ_normal)
 | (apply WC_skip)
 | (apply WC_if_true; eq_refl)
 | (apply WL_on0; eq_refl)
 | (apply WL_onG; eq_refl; eq_refl; eq_refl; eq_refl)
 | (apply X_pv; eq_refl; first | exact trivial | omega)
 | (apply X_field; eq_refl)
 | (apply X_loadC; eq_refl; (first | assumption | (apply cel; first | assumption | (apply cel; assumption))))
 | (apply X_cmpT; eq_refl; eq_refl; omega)
 | (apply X_len; eq_refl)
 | (apply X_indexP; eq_refl; eq_refl; omega; omega))
    exact ⟨i + 1, ⟨rfl, rfl, by simp only [hst]; rfl, rfl, trivial⟩, ⟨hC1, hI1, hlt, by omega, by rw [hst]; omega⟩, by omega⟩
  · have key : sizesM c = if (∃ n ∈ c.lens, 16384 < n) ∨ 16384 < ((sumL (c.justice.take i) : Nat) : Int) then 2 else 0 := by
      unfold sizesM
      rw [if_neg hm]
      rcases Nat.lt_or_ge 16384 c.justice.length with hbig | hsm
      · rw [if_pos (.inl ⟨(c.justice.length : Int), by simp [Circ.lens], by omega⟩), if_pos (.inl ⟨(c.justice.length : Int), by simp [Circ.lens], by omega⟩)]
      · have e1 : c.justice.take i = c.justice := List.take_of_length_le (by omega)
        rw [e1] at hsum ⊢
        have e2 : sumW c.justice = sumL c.justice := by
          unfold sumW
          simp only [IntKind.wrap_i64]
          omega
        rw [e2]
    clear hsum hj
    have hsb : sumL (c.justice.take i) ≤ 16385 * 17592186044416 := by
      refine Nat.le_trans (sumL_le (M := 17592186044416) fun x hx => ?_) (Nat.mul_le_mul_right _ (by simp; omega))
      have := hf.each x (List.mem_of_mem_take hx)
      omega
    generalize hb : sumL (c.justice.take i) = a at *
    repeat' (first
 | (apply WC_seqK; intro K hK)
 | (apply hK; clear hK)
 | (clear hK; apply hK; clear hK)
 | (apply WC_region)
 | (apply WL_nil)
 | (apply thenQ_normal)
 | (apply thenQ_ret)
 | (apply thenQ_exit)
 | (apply blockQ_hit)
 | (apply WC_ret)
 | (apply WC_exit)
 | (apply WC_skip)
 | (apply WC_if_true; eq_refl)
 | (apply WC_if_false; eq_refl)
 | (apply ret1; eq_refl)
 | (apply WL_on0; eq_refl)
 | (apply WL_onG; eq_refl; eq_refl; eq_refl; eq_refl)
 | (apply WL_noG; eq_refl; eq_refl; eq_refl; eq_refl)
 | (apply X_pv; eq_refl; first | exact trivial | omega)
 | (apply X_field; eq_refl)
 | (apply X_loadR; eq_refl; (first | assumption | (apply Blk.alloc; assumption) | apply Blk.new | apply Blk.newA | (apply Blk.alloc; first | apply Blk.newA | (apply Blk.alloc; first | assumption | apply Blk.newA))); eq_refl)
 | (apply X_cmpT; eq_refl; eq_refl; omega)
 | (apply X_cmpF; eq_refl; eq_refl; omega)
 | (apply X_cmp; eq_refl; eq_refl; all_goals intro _)
 | (apply X_len; eq_refl))
    all_goals
      refine ⟨?_, hC1⟩
      rw [key]
      simp only [lens_ex]
      split <;> first | rfl | (exfalso; omega)
end SC
end Go.Proofs.Yticndofcfacopaa
end
section
/- trestleref03: one, used, usedAll. -/
set_option linter.unusedVariables false
set_option linter.unusedSimpArgs false
namespace Go.Proofs.Yticndofcfacopaa
namespace SC
open Go.Proofs
attribute [local irreducible] WC WL WX WS WO OX Does DoesU Enters CV Pure thenQ blockQ retQ Wants retQC
set_option maxRecDepth 100000
/-- Which variables are defined. -/
def bt (t : Tab) : List Bool := t.map fun m => decide (m.1 ≠ 0)
theorem bt_len (t : Tab) : (bt t).length = t.length := by simp [bt]
theorem bt_set (t : Tab) (v : Nat) (m : Int × Int) (h : m.1 ≠ 0) : bt (t.set v m) = (bt t).set v true := by
  unfold bt
  rw [List.map_set, decide_eq_true h]
theorem bt_get {t : Tab} {v : Nat} (h : v < t.length) : (bt t)[v]? = some (decide (kindAt t (v : Int) ≠ 0)) := by
  unfold bt
  rw [List.getElem?_map, List.getElem?_eq_getElem h]
  simp only [Option.map_some]
  rw [kindAt_get (m := t[v]) (by rw [show ((v : Int)).toNat = v by omega, List.getElem?_eq_getElem h])]
theorem one_cv {w : World} {c : Circ} {h : Hd} {t : Tab} {b : Nat} {l k i : Int} (hB : Blk w b 4 ((bt t).map Value.bool)) (hm : 0 ≤ c.max ∧ c.max ≤ 16384) (hl : (t.length : Int) = c.max + 1) (hk : k ≠ 0) :
    CV Try.prog 139 [.agg (ccells c h).toArray, .slice (some ⟨b, 0, none⟩) t.length t.length, nu l] w fun v w' => v = nu (defM c.max t l (k, i)).1 ∧ Blk w' b 4 ((bt (defM c.max t l (k, i)).2).map Value.bool) ∧ Chg w w' (fun k => k = b) := by
  have hI : Blk (w.alloc (.cells (ccells c h).toArray 29)) w.heap.size 29 (ccells c h) := Blk.new w _ _
  have hC := Chg.alloc w (.cells (ccells c h).toArray 29) none_
  have hB1 := hB.alloc (.cells (ccells c h).toArray 29)
  by_cases hbad : defBad c.max l
  · have e : defM c.max t l (k, i) = (30, t) := if_pos hbad
    rw [e]
    unfold defBad at hbad
    refine enter 30 [6] Try.func139 rfl rfl rfl (by decide) rfl ?_
    repeat' (first
 | (apply WC_seqK; intro K hK)
 | (apply hK; clear hK)
 | (apply WC_region)
 | (apply WL_nil)
 | (apply thenQ_normal)
 | (apply thenQ_ret)
 | (apply WC_ret)
 | (apply WC_if_true; eq_refl)
 | (apply ret1; eq_refl)
 | (apply WL_on0; eq_refl)
 | (apply WL_onG; eq_refl; eq_refl; eq_refl; eq_refl)
 | (apply WL_noG; eq_refl; eq_refl; eq_refl; eq_refl)
 | (apply X_pv; eq_refl; first | exact trivial | omega)
 | (apply X_field; eq_refl)
 | (apply X_loadR; eq_refl; (first | assumption | (apply Blk.alloc; assumption) | apply Blk.new | apply Blk.newA | (apply Blk.alloc; first | apply Blk.newA | (apply Blk.alloc; first | assumption | apply Blk.newA))); eq_refl)
 | (apply X_cmpT; eq_refl; eq_refl; omega)
 | (apply X_cmp; eq_refl; eq_refl; all_goals intro _)
 | (apply X_box; eq_refl))
    all_goals exact ⟨rfl, hB1, Chg.alloc w _ _⟩
  · have hb2 := hbad
    unfold defBad at hb2
    have hlt : (l / 2).toNat < t.length := by omega
    have hg := bt_get hlt
    rw [show (((l / 2).toNat : Nat) : Int) = l / 2 by omega] at hg
    have hcell : ((bt t).map Value.bool)[0 + (l / 2).toNat * 1]? = some (.bool (decide (kindAt t (l / 2) ≠ 0))) := by
      rw [Nat.zero_add, Nat.mul_one, List.getElem?_map, hg]; rfl
    by_cases hk0 : kindAt t (l / 2) ≠ 0
    · have e : defM c.max t l (k, i) = (31, t) := (if_neg hbad).trans (if_pos hk0)
      rw [e]
      rw [decide_eq_true hk0] at hcell
      refine enter 30 [6] Try.func139 rfl rfl rfl (by decide) rfl ?_
      repeat' (first
 | (apply X_loadR; eq_refl; exact hB1; exact hcell)
 | (apply WC_seqK; intro K hK)
 | (apply hK; clear hK)
 | (apply WC_region)
 | (apply WL_nil)
 | (apply thenQ_normal)
 | (apply thenQ_ret)
 | (apply WC_ret)
 | (apply WC_skip)
 | (apply WC_if_true; eq_refl)
 | (apply WC_if_false; eq_refl)
 | (apply ret1; eq_refl)
 | (apply WL_on0; eq_refl)
 | (apply WL_onG; eq_refl; eq_refl; eq_refl; eq_refl)
 | (apply X_pv; eq_refl; first | exact trivial | omega)
 | (apply X_field; eq_refl)
 | (apply X_loadR; eq_refl; (first | assumption | (apply Blk.alloc; assumption) | apply Blk.new | apply Blk.newA | (apply Blk.alloc; first | apply Blk.newA | (apply Blk.alloc; first | assumption | apply Blk.newA))); eq_refl)
 | (apply X_cmpF; eq_refl; eq_refl; omega)
 | (apply X_index; eq_refl; eq_refl; omega; omega)
 | (apply X_box; eq_refl))
      exact ⟨rfl, hB1, Chg.alloc w _ _⟩
    · have e : defM c.max t l (k, i) = (0, t.set (l / 2).toNat (k, i)) := (if_neg hbad).trans (if_neg hk0)
      rw [e]
      rw [decide_eq_false hk0] at hcell
      refine enter 30 [6] Try.func139 rfl rfl rfl (by decide) rfl ?_
      repeat' (first
 | (apply X_loadR; eq_refl; exact hB1; exact hcell)
 | (apply WC_seqK; intro K hK)
 | (apply hK; clear hK)
 | (apply WC_region)
 | (apply WL_nil)
 | (apply thenQ_normal)
 | (apply WC_skip)
 | (apply WC_if_false; eq_refl)
 | (apply WL_on0; eq_refl)
 | (apply WL_onG; eq_refl; eq_refl; eq_refl; eq_refl)
 | (apply X_pv; eq_refl; first | exact trivial | omega)
 | (apply X_field; eq_refl)
 | (apply X_loadR; eq_refl; (first | assumption | (apply Blk.alloc; assumption) | apply Blk.new | apply Blk.newA | (apply Blk.alloc; first | apply Blk.newA | (apply Blk.alloc; first | assumption | apply Blk.newA))); eq_refl)
 | (apply X_cmpF; eq_refl; eq_refl; omega)
 | (apply X_index; eq_refl; eq_refl; omega; omega)
 | (apply X_box; eq_refl))
      refine X_doesU (does_store1 (t1 := 4) (b := b) (o := 0 + (l / 2).toNat * 1) (v := .bool true) (by eq_refl) (by eq_refl) hB1 (by rw [List.length_map, bt_len]; omega) rfl rfl) ?_
      have hc2 : Chg (w.alloc (.cells (ccells c h).toArray 29)) ((w.alloc (.cells (ccells c h).toArray 29)).setRow b ((((bt t).map Value.bool).set (0 + (l / 2).toNat * 1) (.bool true)).toArray)) (fun k => k = b) := Chg.setRow _ _ _ rfl
      have hB2 := hB1.set (((bt t).map Value.bool).set (0 + (l / 2).toNat * 1) (.bool true))
      repeat' (first
 | (apply WC_seqK; intro K hK)
 | (apply hK; clear hK)
 | (apply WC_region)
 | (apply WL_nil)
 | (apply thenQ_normal)
 | (apply WC_ret)
 | (apply ret1; eq_refl)
 | (apply WL_on0; eq_refl)
 | (apply X_pv; eq_refl; first | exact trivial | omega))
      refine ⟨rfl, ?_, (Chg.alloc w _ _).trans hc2 fun k hk hh => hh⟩
      rw [bt_set t _ _ hk, List.map_set]
      have e0 : (((bt t).map Value.bool).set (l / 2).toNat (Value.bool true)) = ((bt t).map Value.bool).set (0 + (l / 2).toNat * 1) (.bool true) := by rw [Nat.zero_add, Nat.mul_one]
      rw [e0]
      exact hB2
/-- Which variables may be used: those that are defined, and the constant. -/
def ut (t : Tab) : List Bool := (bt t).set 0 true
theorem used_cv {w : World} {c : Circ} {h : Hd} {t : Tab} {b n : Nat} {x : Int} (hB : Blk w b 4 ((ut t).map Value.bool)) (hn : n = t.length) (hm : 0 ≤ c.max ∧ c.max ≤ 16384) (hl : (t.length : Int) = c.max + 1) :
    CV Try.prog 140 [.agg (ccells c h).toArray, .slice (some ⟨b, 0, none⟩) n n, nu x] w fun v w' => v = nu (useOne c.max t x) ∧ Chg w w' none_ := by
  have hI : Blk (w.alloc (.cells (ccells c h).toArray 29)) w.heap.size 29 (ccells c h) := Blk.new w _ _
  have hC := Chg.alloc w (.cells (ccells c h).toArray 29) none_
  have hB1 := hB.alloc (.cells (ccells c h).toArray 29)
  subst hn
  by_cases hbad : x < 0 ∨ 2 * c.max + 1 < x
  · have e : useOne c.max t x = 30 := if_pos hbad
    rw [e]
    refine enter 23 [6] Try.func140 rfl rfl rfl (by decide) rfl ?_
    repeat' (first
 | (apply WC_seqK; intro K hK)
 | (apply hK; clear hK)
 | (apply WC_region)
 | (apply WL_nil)
 | (apply thenQ_normal)
 | (apply thenQ_ret)
 | (apply WC_ret)
 | (apply WC_if_true; eq_refl)
 | (apply ret1; eq_refl)
 | (apply WL_on0; eq_refl)
 | (apply WL_onG; eq_refl; eq_refl; eq_refl; eq_refl)
 | (apply WL_noG; eq_refl; eq_refl; eq_refl; eq_refl)
 | (apply X_pv; eq_refl; first | exact trivial | omega)
 | (apply X_field; eq_refl)
 | (apply X_loadR; eq_refl; (first | assumption | (apply Blk.alloc; assumption) | apply Blk.new | apply Blk.newA | (apply Blk.alloc; first | apply Blk.newA | (apply Blk.alloc; first | assumption | apply Blk.newA))); eq_refl)
 | (apply X_cmpT; eq_refl; eq_refl; omega)
 | (apply X_cmp; eq_refl; eq_refl; all_goals intro _)
 | (apply X_box; eq_refl))
    all_goals exact ⟨rfl, hC⟩
  · have hlt : (x / 2).toNat < t.length := by omega
    have hg := bt_get hlt
    rw [show (((x / 2).toNat : Nat) : Int) = x / 2 by omega] at hg
    have hcell : ((ut t).map Value.bool)[0 + (x / 2).toNat * 1]? = some (.bool (decide (¬ (1 < x ∧ kindAt t (x / 2) = 0)))) := by
      rw [Nat.zero_add, Nat.mul_one, List.getElem?_map]
      unfold ut
      rcases Nat.eq_zero_or_pos (x / 2).toNat with h0 | h0
      · rw [h0, List.getElem?_set_self (by rw [bt_len]; omega)]
        simp; omega
      · rw [List.getElem?_set_ne (by omega), hg]
        by_cases hk : kindAt t (x / 2) = 0
        · simp [hk]; omega
        · simp [hk]
    by_cases hk : 1 < x ∧ kindAt t (x / 2) = 0
    · have e : useOne c.max t x = 32 := (if_neg hbad).trans (if_pos hk)
      rw [e]
      rw [decide_eq_false (fun hh => hh hk)] at hcell
      refine enter 23 [6] Try.func140 rfl rfl rfl (by decide) rfl ?_
      repeat' (first
 | (apply X_loadR; eq_refl; exact hB1; exact hcell)
 | (apply WC_seqK; intro K hK)
 | (apply hK; clear hK)
 | (apply WC_region)
 | (apply WL_nil)
 | (apply thenQ_normal)
 | (apply thenQ_ret)
 | (apply WC_ret)
 | (apply WC_skip)
 | (apply WC_if_true; eq_refl)
 | (apply WC_if_false; eq_refl)
 | (apply ret1; eq_refl)
 | (apply WL_on0; eq_refl)
 | (apply WL_onG; eq_refl; eq_refl; eq_refl; eq_refl)
 | (apply X_pv; eq_refl; first | exact trivial | omega)
 | (apply X_field; eq_refl)
 | (apply X_loadR; eq_refl; (first | assumption | (apply Blk.alloc; assumption) | apply Blk.new | apply Blk.newA | (apply Blk.alloc; first | apply Blk.newA | (apply Blk.alloc; first | assumption | apply Blk.newA))); eq_refl)
 | (apply X_cmpF; eq_refl; eq_refl; omega)
 | (apply X_index; eq_refl; eq_refl; omega; omega)
 | (apply X_box; eq_refl))
      exact ⟨rfl, hC⟩
    · have e : useOne c.max t x = 0 := (if_neg hbad).trans (if_neg hk)
      rw [e]
      rw [decide_eq_true hk] at hcell
      refine enter 23 [6] Try.func140 rfl rfl rfl (by decide) rfl ?_
      repeat' (first
 | (apply X_loadR; eq_refl; exact hB1; exact hcell)
 | (apply WC_seqK; intro K hK)
 | (apply hK; clear hK)
 | (apply WC_region)
 | (apply WL_nil)
 | (apply thenQ_normal)
 | (apply WC_ret)
 | (apply WC_skip)
 | (apply WC_if_false; eq_refl)
 | (apply ret1; eq_refl)
 | (apply WL_on0; eq_refl)
 | (apply WL_onG; eq_refl; eq_refl; eq_refl; eq_refl)
 | (apply X_pv; eq_refl; first | exact trivial | omega)
 | (apply X_field; eq_refl)
 | (apply X_loadR; eq_refl; (first | assumption | (apply Blk.alloc; assumption) | apply Blk.new | apply Blk.newA | (apply Blk.alloc; first | apply Blk.newA | (apply Blk.alloc; first | assumption | apply Blk.newA))); eq_refl)
 | (apply X_cmpF; eq_refl; eq_refl; omega)
 | (apply X_index; eq_refl; eq_refl; omega; omega)
 | (apply X_box; eq_refl))
      exact ⟨rfl, hC⟩
theorem usedAll_cv {w : World} {c : Circ} {h : Hd} {t : Tab} {b n cp : Nat} {A : Option Addr} {ls : List Int} (hB : Blk w b 4 ((ut t).map Value.bool)) (hn : n = t.length) (hm : 0 ≤ c.max ∧ c.max ≤ 16384) (hl : (t.length : Int) = c.max + 1) (R : RowA w icell 1 A ls) (hlen : ls.length ≤ 9223372036854775807) :
    CV Try.prog 141 [.agg (ccells c h).toArray, .slice (some ⟨b, 0, none⟩) n n, .slice A ls.length cp] w fun v w' => v = .tuple #[nu (goUse c.max t (ones ls) 0).1, nu (goUse c.max t (ones ls) 0).2] ∧ Chg w w' none_ := by
  have hI : Blk (w.alloc (.cells (ccells c h).toArray 29)) w.heap.size 29 (ccells c h) := Blk.new w _ _
  have hC := Chg.alloc w (.cells (ccells c h).toArray 29) none_
  refine enter 27 [6, 7] Try.func141 rfl rfl rfl (by decide) rfl ?_
  repeat' (first
 | (apply WC_seqK; intro K hK)
 | (apply hK; clear hK)
 | (apply WC_block)
 | (apply WC_region)
 | (apply WL_nil)
 | (apply thenQ_normal)
 | (apply WL_on0; eq_refl)
 | (apply X_pv; eq_refl; first | exact trivial | omega)
 | (apply X_box; eq_refl))
  refine WC_loop (fun i : Nat => [(1, .slice (some ⟨b, 0, none⟩) n n), (2, .slice A ls.length cp), (3, pt w.heap.size), (8, nu i)]) (fun i w1 => Chg w w1 none_ ∧ Blk w1 w.heap.size 29 (ccells c h) ∧ i ≤ ls.length ∧ goUse c.max t ((ones ls).drop i) i = goUse c.max t (ones ls) 0) (fun i => ls.length - i) 0 ⟨rfl, rfl, rfl, rfl, trivial⟩ ⟨hC, hI, Nat.zero_le _, rfl⟩ ?_
  rintro i w1 ⟨hC1, hI1, hi, hgo⟩
  rcases Nat.lt_or_ge i ls.length with hlt | hge
  · obtain ⟨p, hp, hpc⟩ := (R.chg hC1).one hlt (v := nu ls[i]) rfl
    rw [goUse_step (by rw [ones_len]; exact hlt)] at hgo
    have e1 : (ones ls)[i]'(by rw [ones_len]; exact hlt) = [ls[i]] := by simp [ones]
    have e2 : useM c.max t [ls[i]] = useOne c.max t ls[i] := by
      simp only [useM]; split
      · rfl
      · omega
    rw [e1, e2] at hgo
    generalize ls[i] = x at *
    rw [hp]
    repeat' (first
 | (apply WC_seqK; intro K hK)
 | (apply hK; clear hK)
 | (apply WC_block)
 | (apply WC_region)
 | (apply WL_nil)
 | (apply thenQ_normal)
 | (apply WC_skip)
 | (apply WC_if_true; eq_refl)
 | (apply WL_on0; eq_refl)
 | (apply X_pv; eq_refl; first | exact trivial | omega)
 | (apply X_cmpT; eq_refl; eq_refl; omega)
 | (apply X_len; eq_refl))
    refine WC_draws [(0, true), (1, true), (2, true), (3, true), (4, true), (5, true), (6, false), (7, true)] (fun W => Blk W w.heap.size 29 (ccells c h) ∧ W.cell? (p.add ((i : Int).toNat * 1)) = some (nu x)) mixed (by kernel_rfl) (by kernel_rfl) ?_
    have hS : Blk w1.drew w.heap.size 29 (ccells c h) ∧ w1.drew.cell? (p.add ((i : Int).toNat * 1)) = some (nu x) := ⟨hI1, cel_chg hpc (Chg.refl w1 none_).dr id⟩
    have hus := used_cv (h := h) (n := n) (x := x) ((hB.chg hC1 id).chg (Chg.refl w1 none_).dr id) hn hm hl
    repeat' (first
 | (apply O_fn; eq_refl; exact hus; rintro _ w3 ⟨rfl, hC3⟩; have hS3 : Blk w3 w.heap.size 29 (ccells c h) ∧ w3.cell? (p.add ((i : Int).toNat * 1)) = some (nu x) := ⟨hS.1.chg hC3 id, cel_chg hS.2 hC3 id⟩; refine ⟨fun _ => hS3, ?_⟩)
 | (apply WC_seqK; intro K hK)
 | (apply hK; clear hK)
 | (apply WC_region)
 | (apply WL_nil)
 | (apply thenQ_normal)
 | (apply thenQ_ret)
 | (apply blockQ_ret)
 | (apply blockQ_normal)
 | (apply WC_ret)
 | (apply WC_skip)
 | (apply WC_if_true; eq_refl)
 | (apply WC_if_false; eq_refl)
 | (apply ret2; eq_refl; eq_refl)
 | (apply WS_nil)
 | (apply WS_next; eq_refl)
 | (apply WO_on0; eq_refl)
 | (apply O_pv; eq_refl; (first | exact trivial | omega); (first | assumption | exact trivial))
 | (apply O_loadW; eq_refl; (first | (intro _ h; exact h) | (intro _ h; exact h.1) | (intro _ h; exact h.2) | (intro _ h; exact h.2.1) | (intro _ h; exact h.2.2) | (intro _ h; exact h.2.2.1) | (intro _ h; exact h.2.2.2)); eq_refl; (first | assumption | exact trivial))
 | (apply O_loadC; eq_refl; (first | (intro _ h; exact h) | (intro _ h; exact h.1) | (intro _ h; exact h.2) | (intro _ h; exact h.2.1) | (intro _ h; exact h.2.2) | (intro _ h; exact h.2.2.1) | (intro _ h; exact h.2.2.2)); (first | assumption | exact trivial))
 | (apply O_indexP; eq_refl; eq_refl; omega; omega; (first | assumption | exact trivial))
 | (apply WL_on0; eq_refl)
 | (apply X_pv; eq_refl; first | exact trivial | omega)
 | (apply X_cmp; eq_refl; eq_refl; all_goals intro _))
    all_goals have hC4 : Chg w w3 none_ := hC1.dr.trans hC3 fun _ _ h => h
    · rw [if_pos (by assumption)] at hgo
      exact ⟨by rw [← hgo], hC4⟩
    · rw [if_neg (by assumption)] at hgo
      exact ⟨i + 1, ⟨rfl, by first | rfl | (rw [hp]; rfl), rfl, rfl, trivial⟩, ⟨hC4, hS3.1, hlt, hgo⟩, by omega⟩
  · rw [List.drop_eq_nil_of_le (by rw [ones_len]; exact hge)] at hgo
    repeat' (first
 | (apply WC_seqK; intro K hK)
 | (apply hK; clear hK)
 | (clear hK; apply hK; clear hK)
 | (apply WC_region)
 | (apply WL_nil)
 | (apply thenQ_normal)
 | (apply thenQ_exit)
 | (apply blockQ_hit)
 | (apply WC_ret)
 | (apply WC_exit)
 | (apply WC_if_false; eq_refl)
 | (apply ret2; eq_refl; eq_refl)
 | (apply WL_on0; eq_refl)
 | (apply X_pv; eq_refl; first | exact trivial | omega)
 | (apply X_cmpF; eq_refl; eq_refl; omega)
 | (apply X_len; eq_refl))
    exact ⟨by rw [← hgo]; rfl, hC1⟩
end SC
end Go.Proofs.Yticndofcfacopaa
end
section
/- shape: Renumber, the walk. -/
set_option linter.unusedVariables false
set_option linter.unusedSimpArgs false
namespace Go.Proofs.Yticndofcfacopaa
namespace SC
open Go.Proofs
section
variable {P : Program} {n : Nat} {all : List Oper} {K : Env → World → Prop} {S : World → Prop} {r : List (Nat × Bool)} {i : Nat} {e : Env} {w : World} {d : Option Tmp} {ty : TypeId} {x : Operand}
end
abbrev Zc : List Value := [nu 0, .slice none 0 0, .slice none 0 0, .slice none 0 0, .slice none 0 0, .slice none 0 0, .slice none 0 0, .slice none 0 0, .slice none 0 0, .slice none 0 0, .slice none 0 0]
attribute [local irreducible] WC WL WX WS WO OX Does DoesU Enters CV Pure thenQ blockQ retQ Wants retQC
set_option maxRecDepth 100000
section
variable {w W W' : World} {c : Circ} {h : Hd} {u : Value} {ord : List Int} {tr : Nat} {ks : List Int}
end
section
variable {w W W' : World} {c : Circ} {h : Hd} {u : Value} {ord to : List Int} {tr lb ob : Nat} {cs : List Value} {F : Nat → Rw}
end
theorem sumL_mem : ∀ {ls : List (List Int)} {l : List Int}, l ∈ ls → (l.length : Int) ≤ sumL ls
  | a :: r, l, h => by
    rcases List.mem_cons.1 h with rfl | h
    · unfold sumL; simp only [List.map_cons, List.sum_cons]; omega
    · have := sumL_mem h; unfold sumL at *; simp only [List.map_cons, List.sum_cons]; omega
end SC
end Go.Proofs.Yticndofcfacopaa
end
section
/- shape: works. -/
set_option linter.unusedVariables false
set_option linter.unusedSimpArgs false
namespace Go.Proofs.Yticndofcfacopaa
namespace SC
open Go.Proofs
attribute [local irreducible] WC WL WX WS WO OX Does DoesU Enters CV Pure thenQ blockQ retQ Wants retQC
set_option maxRecDepth 100000
end SC
end Go.Proofs.Yticndofcfacopaa
end
section
/- shape's laws: gates of each variable; ShapeOrders' walk. -/
set_option linter.unusedVariables false
set_option linter.unusedSimpArgs false
namespace Go.Proofs.Yticndofcfacopaa
namespace SC
open Go.Proofs
def gatesL : List Tri → Nat → List Int → List Int
  | [], _, l => l
  | x :: r, i, l => gatesL r (i + 1) (l.set (x.1 / 2).toNat i)
theorem gatesL_len : ∀ (ls : List Tri) (k : Nat) (l : List Int), (gatesL ls k l).length = l.length
  | [], _, _ => rfl
  | x :: r, k, l => by unfold gatesL; rw [gatesL_len r]; simp
theorem gatesL_step {ls : List Tri} {k : Nat} {l : List Int} (hk : k < ls.length) : gatesL (ls.drop k) k l = gatesL (ls.drop (k + 1)) (k + 1) (l.set (ls[k].1 / 2).toNat k) := by
  rw [List.drop_eq_getElem_cons hk]
  rfl
theorem gatesL_not : ∀ (ls : List Tri) (k : Nat) (l : List Int) (v : Int), 0 ≤ v → (∀ x ∈ ls, rg l.length (x.1 / 2) ∧ x.1 / 2 ≠ v) → L (gatesL ls k l) v = L l v
  | [], _, _, _, _, _ => rfl
  | x :: r, k, l, v, hv, h => by
    obtain ⟨h1, h2⟩ := h x (by simp)
    unfold gatesL
    rw [gatesL_not r (k + 1) _ v hv fun y hy => by rw [List.length_set]; exact h y (by simp [hy]), L_set _ h1 hv, if_neg (fun e => h2 e.symm)]
theorem gatesL_at : ∀ (ls : List Tri) (k : Nat) (l : List Int) (j : Nat) (hj : j < ls.length), (∀ x ∈ ls, rg l.length (x.1 / 2)) → (∀ i (hi : i < ls.length), ls[i].1 / 2 = ls[j].1 / 2 → i = j) → L (gatesL ls k l) (ls[j].1 / 2) = k + j
  | [], _, _, j, hj, _, _ => absurd hj (Nat.not_lt_zero _)
  | x :: r, k, l, 0, hj, h, hu => by
    have h1 := h x (by simp)
    unfold gatesL
    simp only [List.getElem_cons_zero]
    rw [gatesL_not r (k + 1) _ _ h1.1 fun y hy => ⟨by rw [List.length_set]; exact h y (by simp [hy]), fun e => ?_⟩, L_set _ h1 h1.1, if_pos rfl]
    · simp
    · obtain ⟨i, hi, rfl⟩ := List.mem_iff_getElem.1 hy
      have := hu (i + 1) (by simp; omega) (by simpa using e)
      omega
  | x :: r, k, l, j + 1, hj, h, hu => by
    unfold gatesL
    simp only [List.getElem_cons_succ]
    rw [gatesL_at r (k + 1) _ j (by simpa using hj) (fun y hy => by rw [List.length_set]; exact h y (by simp [hy])) fun i hi e => by
      have := hu (i + 1) (by simp; omega) (by simpa using e)
      omega]
    simp; omega
/-- Of each variable the gate that defines it, or -1. -/
def gatesM (c : Circ) : List Int := gatesL c.ands 0 (List.replicate (c.max + 1).toNat (-1))
theorem gatesM_len (c : Circ) : (gatesM c).length = (c.max + 1).toNat := by unfold gatesM; rw [gatesL_len]; simp
theorem TabOk.gatesM {c : Circ} {t : Tab} (h : TabOk c t) {v : Int} (hv : rg (c.max + 1).toNat v) : L (SC.gatesM c) v = if kindAt t v = 3 then atOf t v else -1 := by
  have hrg : ∀ x ∈ c.ands, rg (List.replicate (c.max + 1).toNat (-1 : Int)).length (x.1 / 2) := fun x hx => by
    obtain ⟨j, hj, rfl⟩ := List.mem_iff_getElem.1 hx
    have := (h.gat j hj).1
    rw [List.length_replicate]
    unfold defBad at this; unfold rg; omega
  have e : v = ((v.toNat : Nat) : Int) := by unfold rg at hv; omega
  by_cases hk : kindAt t v = 3
  · rw [if_pos hk]
    rw [e] at hk
    obtain ⟨j, hj, h1, h2, h3⟩ := h.gate hk
    rw [← e] at h1 h2
    have e2 : c.ands[j].1 / 2 = v := by omega
    have := gatesL_at c.ands 0 (List.replicate (c.max + 1).toNat (-1)) j hj hrg fun i hi e3 => by
      have g1 := (h.gat i hi).2
      have g2 := (h.gat j hj).2
      rw [e3, g2] at g1
      simp at g1
      omega
    rw [e2] at this
    unfold SC.gatesM
    rw [this, h2]
    simp
  · rw [if_neg hk]
    unfold SC.gatesM
    rw [gatesL_not c.ands 0 _ v hv.1 fun x hx => ⟨hrg x hx, fun e2 => hk ?_⟩]
    · unfold L
      unfold rg at hv
      simp only [List.getD_eq_getElem?_getD, List.getElem?_replicate]
      rw [if_pos (by omega)]
      rfl
    · obtain ⟨j, hj, rfl⟩ := List.mem_iff_getElem.1 hx
      have := (h.gat j hj).2
      rw [e2] at this
      rw [kindAt_get this]
theorem mem_gateB {c : Circ} {t : Tab} {i : Int} {z : Int} (hi : rg c.ands.length i) : z ∈ gateB t c i ↔ ∃ l, (l = (andAt c i).2.1 ∨ l = (andAt c i).2.2) ∧ kindAt t (l / 2) = 3 ∧ atOf t (l / 2) = z := by
  unfold gateB belowM
  rw [mem_belowL]
  unfold andAt
  simp
attribute [local irreducible] WC WL WX WS WO OX Does DoesU Enters CV Pure thenQ blockQ retQ Wants retQC
set_option maxRecDepth 100000
end SC
end Go.Proofs.Yticndofcfacopaa
end
section
/- trestleref03: Defined. -/
set_option linter.unusedVariables false
set_option linter.unusedSimpArgs false
namespace Go.Proofs.Yticndofcfacopaa
namespace SC
open Go.Proofs
attribute [local irreducible] WC WL WX WS WO OX Does DoesU Enters CV Pure thenQ blockQ retQ Wants retQC
set_option maxRecDepth 100000
theorem defined_cv {w : World} {c : Circ} {h js : Hd} (H : CirAt w c h js) (hs : c.Okay) (hm : 0 ≤ c.max ∧ c.max ≤ 16384) : CV Try.prog 97 [.agg (ccells c h).toArray] w fun v w' => Chg w w' none_ ∧
    (((definesM c (T0 c)).1.2 ≠ 0 ∧ v = .tuple #[.slice none 0 0, nu (definesM c (T0 c)).1.1, nu (definesM c (T0 c)).1.2]) ∨
     ((definesM c (T0 c)).1.2 = 0 ∧ ∃ b, ∃ n : Nat, w.heap.size ≤ b ∧ (n : Int) = c.max + 1 ∧ (tabM c).length = n ∧ v = .tuple #[.slice (some ⟨b, 0, none⟩) n n, nu 0, nu 0] ∧ Blk w' b 4 ((ut (tabM c)).map Value.bool))) := by
  obtain ⟨m, hm2⟩ : ∃ m : Nat, c.max + 1 = m := ⟨(c.max + 1).toNat, by omega⟩
  have hml : (c.max + 1).toNat = m := by omega
  have hI0 : Blk (w.alloc (.cells (ccells c h).toArray 29)) w.heap.size 29 (ccells c h) := Blk.new w _ _
  have hC0 := Chg.alloc w (.cells (ccells c h).toArray 29) none_
  have hz0 := sz_alloc w (.cells (ccells c h).toArray 29)
  have hlens := hs.lens
  simp only [Circ.lens, List.mem_cons, List.not_mem_nil, or_false] at hlens
  have k1 := hlens _ (.inl rfl)
  have k2 := hlens _ (.inr (.inl rfl))
  have k8 := hlens _ (.inr (.inr (.inr (.inr (.inr (.inr (.inr (.inl rfl))))))))
  clear hlens
  refine enter 96 [2, 3, 4] Try.func97 rfl rfl rfl (by decide) rfl ?_
  repeat' (first
 | (apply WC_seqK; intro K hK)
 | (apply hK; clear hK)
 | (apply WC_region)
 | (apply WL_nil)
 | (apply thenQ_normal)
 | (apply WL_on0; eq_refl)
 | (apply X_pv; eq_refl; first | exact trivial | omega)
 | (apply X_field; eq_refl)
 | (apply X_loadR; eq_refl; (first | assumption | (apply Blk.alloc; assumption) | apply Blk.new | apply Blk.newA | (apply Blk.alloc; first | apply Blk.newA | (apply Blk.alloc; first | assumption | apply Blk.newA))); eq_refl)
 | (apply X_box; eq_refl))
  rw [hm2]
  repeat' (first
 | (apply X_make; eq_refl; omega; omega)
 | (apply WC_seqK; intro K hK)
 | (apply hK; clear hK)
 | (apply WC_block)
 | (apply WC_region)
 | (apply WL_nil)
 | (apply thenQ_normal)
 | (apply WL_on0; eq_refl)
 | (apply X_pv; eq_refl; first | exact trivial | omega))
  have e1 : (madeCells (Value.bool false).cells (m * 1)).toList = (bt (T0 c)).map Value.bool := by rw [Nat.mul_one, show (Value.bool false).cells = #[Value.bool false] from rfl, made_one]; simp [bt, T0, hml]
  have b1 := Blk.newA (w.alloc (.cells (ccells c h).toArray 29)) (madeCells (Value.bool false).cells (m * 1)) 4
  rw [e1, hz0] at b1
  refine WC_turn (fun W => Chg w W none_ ∧ Blk W w.heap.size 29 (ccells c h) ∧ Blk W (w.heap.size + 1) 4 ((bt (T0 c)).map Value.bool)) ⟨hC0.al _, hI0.alloc _, b1⟩ ?_
  clear b1 hI0 hC0 e1
  rintro w0 ⟨hC0, hI0, hB0⟩
  have hl0 : ((T0 c).length : Int) = c.max + 1 := by simp [T0, hml, hm2]
  refine WC_loop (fun s : Nat × Tab => [(1, pt w.heap.size), (5, .slice (some ⟨w.heap.size + 1, 0, none⟩) m m), (6, nu s.1)])
    (fun s W => Chg w W none_ ∧ Blk W w.heap.size 29 (ccells c h) ∧ Blk W (w.heap.size + 1) 4 ((bt s.2).map Value.bool) ∧ s.2.length = m ∧ s.1 ≤ c.inputs.length ∧ goDef c.max 1 (c.inputs.drop s.1) s.1 s.2 = goDef c.max 1 c.inputs 0 (T0 c)) (fun s => c.inputs.length - s.1) (0, T0 c) ⟨rfl, congrArg (fun k => some (Value.slice (some ⟨k, 0, none⟩) m m)) hz0, rfl, trivial⟩ ⟨hC0, hI0, hB0, by show (T0 c).length = m; omega, Nat.zero_le _, rfl⟩ ?_
  clear hB0 hI0 hC0 hz0 w0
  rintro ⟨k, t1⟩ w1 ⟨hC1, hI1, hB1, hl1, hk, hgo⟩
  simp only at hB1 hl1 hk hgo
  rcases Nat.lt_or_ge k c.inputs.length with hlt | hge
  · obtain ⟨p, hp, hpc⟩ := H.inputs.one hlt (v := nu c.inputs[k]) rfl
    rw [goDef_step hlt] at hgo
    generalize hx : c.inputs[k] = x at *
    have e6 : (ccells c h)[0 + 1]? = some (.slice (some p) c.inputs.length (h 1).2) := by rw [← hp]; rfl
    have hlen3 := len_defM c.max t1 x (1, (k : Int))
    repeat' (first
 | (apply WC_seqK; intro K hK)
 | (apply hK; clear hK)
 | (apply WC_block)
 | (apply WC_region)
 | (apply WL_nil)
 | (apply thenQ_normal)
 | (apply WC_skip)
 | (apply WC_if_true; eq_refl)
 | (apply WL_on0; eq_refl)
 | (apply X_pv; eq_refl; first | exact trivial | omega)
 | (apply X_field; eq_refl)
 | (apply X_loadR; eq_refl; (first | assumption | (apply Blk.alloc; assumption) | apply Blk.new | apply Blk.newA | (apply Blk.alloc; first | apply Blk.newA | (apply Blk.alloc; first | assumption | apply Blk.newA))); eq_refl)
 | (apply X_cmpT; eq_refl; eq_refl; omega)
 | (apply X_len; eq_refl))
    refine WC_draws [(0, true), (1, true), (2, true), (3, true), (4, true), (5, true), (6, true), (7, false), (8, true)] (fun W => Chg w W none_ ∧ Blk W w.heap.size 29 (ccells c h)) mixed (by kernel_rfl) (by kernel_rfl) ?_
    have hS : Chg w w1.drew none_ ∧ Blk w1.drew w.heap.size 29 (ccells c h) := ⟨hC1.dr, hI1⟩
    have hone := one_cv (h := h) (k := 1) (i := (k : Int)) (l := x) (hB1.chg (Chg.refl w1 none_).dr id) hm (by omega) (by decide)
    rw [hl1] at hone
    repeat' (first
 | (apply O_loadW; eq_refl; (exact fun _ h => h.2); eq_refl; assumption)
 | (apply O_loadR; eq_refl; (exact fun _ h => h.2); exact e6; assumption)
 | (apply O_loadC; eq_refl; (exact fun W h => cel_chg hpc h.1 id); assumption)
 | (apply O_fn; eq_refl; exact hone; rintro _ w3 ⟨rfl, hB3, hC3⟩; have hS3 : Chg w w3 none_ ∧ Blk w3 w.heap.size 29 (ccells c h) := ⟨hS.1.trans hC3 fun k hk hh => by omega, hS.2.chg hC3 (by omega)⟩; refine ⟨fun _ => hS3, ?_⟩)
 | (apply WC_seqK; intro K hK)
 | (apply hK; clear hK)
 | (apply WC_region)
 | (apply WL_nil)
 | (apply thenQ_normal)
 | (apply thenQ_ret)
 | (apply blockQ_ret)
 | (apply blockQ_normal)
 | (apply WC_ret)
 | (apply WC_skip)
 | (apply WC_if_true; eq_refl)
 | (apply WC_if_false; eq_refl)
 | (apply ret3; eq_refl; eq_refl; eq_refl)
 | (apply WS_nil)
 | (apply WS_next; eq_refl)
 | (apply WO_on0; eq_refl)
 | (apply O_pv; eq_refl; (first | exact trivial | omega); (first | assumption | exact trivial))
 | (apply O_field; eq_refl; (first | assumption | exact trivial))
 | (apply O_indexP; eq_refl; eq_refl; omega; omega; (first | assumption | exact trivial))
 | (apply WL_on0; eq_refl)
 | (apply X_pv; eq_refl; first | exact trivial | omega)
 | (apply X_cmp; eq_refl; eq_refl; all_goals intro _))
    · rw [if_pos (by assumption)] at hgo
      have e : definesM c (T0 c) = goDef c.max 1 c.inputs 0 (T0 c) := by unfold definesM; rw [if_pos (by rw [← hgo]; assumption)]
      rw [e, ← hgo]
      exact ⟨hS3.1, .inl ⟨by assumption, rfl⟩⟩
    · rw [if_neg (by assumption)] at hgo
      exact ⟨(k + 1, (defM c.max t1 x (1, (k : Int))).2), ⟨rfl, rfl, rfl, trivial⟩, ⟨hS3.1, hS3.2, hB3, by simp only; omega, hlt, hgo⟩, by simp only; omega⟩
  rw [List.drop_eq_nil_of_le hge] at hgo
  have e1 : (goDef c.max 1 c.inputs 0 (T0 c)).1.2 = 0 := by rw [← hgo]; rfl
  have e2 : (goDef c.max 1 c.inputs 0 (T0 c)).2 = t1 := by rw [← hgo]; rfl
  have e3 : definesM c (T0 c) = if (goDefL c.max c.latches 0 t1).1.2 ≠ 0 then goDefL c.max c.latches 0 t1 else goDef c.max 3 (c.ands.map (·.1)) 0 (goDefL c.max c.latches 0 t1).2 := by unfold definesM; rw [if_neg (by simp [e1]), e2]
  clear e1 e2 hgo
  repeat' (first
 | (apply WC_seqK; intro K hK)
 | (apply hK; clear hK)
 | (clear hK; apply hK; clear hK)
 | (apply WC_block)
 | (apply WC_region)
 | (apply WL_nil)
 | (apply thenQ_normal)
 | (apply thenQ_exit)
 | (apply blockQ_hit)
 | (apply WC_exit)
 | (apply WC_if_false; eq_refl)
 | (apply WL_on0; eq_refl)
 | (apply X_pv; eq_refl; first | exact trivial | omega)
 | (apply X_field; eq_refl)
 | (apply X_loadR; eq_refl; (first | assumption | (apply Blk.alloc; assumption) | apply Blk.new | apply Blk.newA | (apply Blk.alloc; first | apply Blk.newA | (apply Blk.alloc; first | assumption | apply Blk.newA))); eq_refl)
 | (apply X_cmpF; eq_refl; eq_refl; omega)
 | (apply X_len; eq_refl))
  refine WC_loop (fun s : Nat × Tab => [(1, pt w.heap.size), (5, .slice (some ⟨w.heap.size + 1, 0, none⟩) m m), (8, nu s.1)])
    (fun s W => Chg w W none_ ∧ Blk W w.heap.size 29 (ccells c h) ∧ Blk W (w.heap.size + 1) 4 ((bt s.2).map Value.bool) ∧ s.2.length = m ∧ s.1 ≤ c.latches.length ∧ goDefL c.max (c.latches.drop s.1) s.1 s.2 = goDefL c.max c.latches 0 t1) (fun s => c.latches.length - s.1) (0, t1) ⟨rfl, rfl, rfl, trivial⟩ ⟨hC1, hI1, hB1, hl1, Nat.zero_le _, rfl⟩ ?_
  clear hI1 hB1 hC1 hge hk
  rintro ⟨k, t2⟩ w2 ⟨hC2, hI2, hB2, hl2, hk, hgo⟩
  simp only at hB2 hl2 hk hgo
  rcases Nat.lt_or_ge k c.latches.length with hlt | hge
  · obtain ⟨p, hp, hpc⟩ := (H.chg hC2).latches k hlt
    rw [goDefL_step hlt] at hgo
    generalize hx : c.latches[k] = x at *
    have hlen3 := len_defM c.max t2 x.1 (2, (k : Int))
    have e6 : (ccells c h)[0 + 2]? = some (.slice (some p) c.latches.length (h 2).2) := by rw [← hp]; rfl
    repeat' (first
 | (apply X_loadR; eq_refl; exact hI2; exact e6)
 | (apply X_loadAP (tcells x); eq_refl; eq_refl; exact hpc)
 | (apply WC_seqK; intro K hK)
 | (apply hK; clear hK)
 | (apply WC_block)
 | (apply WC_region)
 | (apply WL_nil)
 | (apply thenQ_normal)
 | (apply WC_skip)
 | (apply WC_if_true; eq_refl)
 | (apply WL_on0; eq_refl)
 | (apply X_pv; eq_refl; first | exact trivial | omega)
 | (apply X_field; eq_refl)
 | (apply X_cmpT; eq_refl; eq_refl; omega)
 | (apply X_len; eq_refl)
 | (apply X_indexP; eq_refl; eq_refl; omega; omega)
 | (apply X_alloc))
    refine X_doesU (does_storeA (t1 := 83) (vs := tcells x) (o := 0) (b := w2.heap.size) (by eq_refl) (by eq_refl) (Blk.newA w2 _ _) rfl (by exact Nat.le_refl 3) (by simp [tcells, Value.oneCell'])) ?_
    have hcc : Chg w2 ((w2.alloc (.cells #[nu 0, nu 0, nu 0] 83)).setRow w2.heap.size (tcells x).toArray) none_ := (Chg.alloc w2 _ none_).trans (Chg.setRow _ w2.heap.size _ (S := fun k => k = w2.heap.size) rfl) fun k hk h => by omega
    have hb2 : w.heap.size + 2 ≤ w2.heap.size := hB2.lt
    refine WL_turn (fun W => Chg w W none_ ∧ Blk W w.heap.size 29 (ccells c h) ∧ Blk W (w.heap.size + 1) 4 ((bt t2).map Value.bool) ∧ Blk W w2.heap.size 83 (tcells x)) ⟨hC2.trans hcc fun _ _ h => h, hI2.chg hcc id, hB2.chg hcc id, (Blk.newA w2 _ 83).set (tcells x)⟩ ?_
    rintro w3 ⟨hC3, hI3, hB3, hN3⟩
    have hone := one_cv (h := h) (k := 2) (i := (k : Int)) (l := x.1) hB3 hm (by omega) (by decide)
    rw [hl2] at hone
    repeat' (first
 | (apply X_fn; eq_refl; exact hone; rintro _ w4 ⟨rfl, hB4, hC4⟩; have hN4 := hN3.chg hC4 (by omega); have hI4 := hI3.chg hC4 (by omega); have hC4' := hC3.trans hC4 fun k hk hh => by omega)
 | (apply WC_seqK; intro K hK)
 | (apply hK; clear hK)
 | (apply WC_region)
 | (apply WL_nil)
 | (apply thenQ_normal)
 | (apply thenQ_ret)
 | (apply blockQ_ret)
 | (apply blockQ_normal)
 | (apply WC_ret)
 | (apply WC_skip)
 | (apply WC_if_true; eq_refl)
 | (apply WC_if_false; eq_refl)
 | (apply ret3; eq_refl; eq_refl; eq_refl)
 | (apply WL_on0; eq_refl)
 | (apply WL_onG; eq_refl; eq_refl; eq_refl; eq_refl)
 | (apply WL_noG; eq_refl; eq_refl; eq_refl; eq_refl)
 | (apply X_pv; eq_refl; first | exact trivial | omega)
 | (apply X_field; eq_refl)
 | (apply X_loadR; eq_refl; (first | assumption | (apply Blk.alloc; assumption) | apply Blk.new | apply Blk.newA | (apply Blk.alloc; first | apply Blk.newA | (apply Blk.alloc; first | assumption | apply Blk.newA))); eq_refl)
 | (apply X_loadW; eq_refl; (first | assumption | (apply Blk.alloc; assumption) | apply Blk.new | apply Blk.newA | (apply Blk.alloc; first | apply Blk.newA | (apply Blk.alloc; first | assumption | apply Blk.newA))); eq_refl)
 | (apply X_cmp; eq_refl; eq_refl; all_goals intro _))
    all_goals simp only at *
    · rw [if_pos (by assumption)] at hgo
      have e : definesM c (T0 c) = goDefL c.max c.latches 0 t1 := by rw [e3, if_pos (by rw [← hgo]; assumption)]
      rw [e, ← hgo]
      exact ⟨hC4', .inl ⟨by assumption, rfl⟩⟩
    · rw [if_neg (by assumption), if_pos (by unfold badReset; refine ⟨?_, ?_, ?_⟩ <;> assumption)] at hgo
      have e : definesM c (T0 c) = goDefL c.max c.latches 0 t1 := by rw [e3, if_pos (by rw [← hgo]; show (33 : Int) ≠ 0; decide)]
      rw [e, ← hgo]
      exact ⟨hC4', .inl ⟨by show (33 : Int) ≠ 0; decide, rfl⟩⟩
    all_goals
      rw [if_neg (by assumption), if_neg (by unfold badReset; omega)] at hgo
      exact ⟨(k + 1, (defM c.max t2 x.1 (2, (k : Int))).2), ⟨rfl, rfl, rfl, trivial⟩, ⟨hC4', hI4, hB4, by simp only; omega, hlt, hgo⟩, by simp only; omega⟩
  rw [List.drop_eq_nil_of_le hge] at hgo
  have e1 : (goDefL c.max c.latches 0 t1).1.2 = 0 := by rw [← hgo]; rfl
  have e2 : (goDefL c.max c.latches 0 t1).2 = t2 := by rw [← hgo]; rfl
  have e4 : definesM c (T0 c) = goDef c.max 3 (c.ands.map (·.1)) 0 t2 := by rw [e3, if_neg (by simp [e1]), e2]
  clear e1 e2 hgo e3
  repeat' (first
 | (apply WC_seqK; intro K hK)
 | (apply hK; clear hK)
 | (clear hK; apply hK; clear hK)
 | (apply WC_block)
 | (apply WC_region)
 | (apply WL_nil)
 | (apply thenQ_normal)
 | (apply thenQ_exit)
 | (apply blockQ_hit)
 | (apply WC_exit)
 | (apply WC_if_false; eq_refl)
 | (apply WL_on0; eq_refl)
 | (apply X_pv; eq_refl; first | exact trivial | omega)
 | (apply X_field; eq_refl)
 | (apply X_loadR; eq_refl; (first | assumption | (apply Blk.alloc; assumption) | apply Blk.new | apply Blk.newA | (apply Blk.alloc; first | apply Blk.newA | (apply Blk.alloc; first | assumption | apply Blk.newA))); eq_refl)
 | (apply X_cmpF; eq_refl; eq_refl; omega)
 | (apply X_len; eq_refl))
  refine WC_loop (fun s : Nat × Tab => [(1, pt w.heap.size), (5, .slice (some ⟨w.heap.size + 1, 0, none⟩) m m), (11, nu s.1)])
    (fun s W => Chg w W none_ ∧ Blk W w.heap.size 29 (ccells c h) ∧ Blk W (w.heap.size + 1) 4 ((bt s.2).map Value.bool) ∧ s.2.length = m ∧ s.1 ≤ c.ands.length ∧ goDef c.max 3 ((c.ands.map (·.1)).drop s.1) s.1 s.2 = goDef c.max 3 (c.ands.map (·.1)) 0 t2) (fun s => c.ands.length - s.1) (0, t2) ⟨rfl, rfl, rfl, trivial⟩ ⟨hC2, hI2, hB2, hl2, Nat.zero_le _, rfl⟩ ?_
  clear hI2 hB2 hC2 hge hk
  rintro ⟨k, t3⟩ w1 ⟨hC1, hI1, hB1, hl1, hk, hgo⟩
  simp only at hB1 hl1 hk hgo
  rcases Nat.lt_or_ge k c.ands.length with hlt | hge
  · obtain ⟨p, hp, hpc⟩ := H.ands k hlt
    rw [goDef_step (by simpa using hlt), List.getElem_map] at hgo
    generalize hx : c.ands[k] = x at *
    have hlen3 := len_defM c.max t3 x.1 (3, (k : Int))
    have e6 : (ccells c h)[0 + 8]? = some (.slice (some p) c.ands.length (h 8).2) := by rw [← hp]; rfl
    repeat' (first
 | (apply WC_seqK; intro K hK)
 | (apply hK; clear hK)
 | (apply WC_block)
 | (apply WC_region)
 | (apply WL_nil)
 | (apply thenQ_normal)
 | (apply WC_skip)
 | (apply WC_if_true; eq_refl)
 | (apply WL_on0; eq_refl)
 | (apply X_pv; eq_refl; first | exact trivial | omega)
 | (apply X_field; eq_refl)
 | (apply X_loadR; eq_refl; (first | assumption | (apply Blk.alloc; assumption) | apply Blk.new | apply Blk.newA | (apply Blk.alloc; first | apply Blk.newA | (apply Blk.alloc; first | assumption | apply Blk.newA))); eq_refl)
 | (apply X_cmpT; eq_refl; eq_refl; omega)
 | (apply X_len; eq_refl))
    refine WC_draws [(0, true), (1, true), (2, true), (3, true), (4, true), (5, true), (6, true), (7, true), (8, false), (9, true)] (fun W => Chg w W none_ ∧ Blk W w.heap.size 29 (ccells c h)) mixed (by kernel_rfl) (by kernel_rfl) ?_
    have hS : Chg w w1.drew none_ ∧ Blk w1.drew w.heap.size 29 (ccells c h) := ⟨hC1.dr, hI1⟩
    have hone := one_cv (h := h) (k := 3) (i := (k : Int)) (l := x.1) (hB1.chg (Chg.refl w1 none_).dr id) hm (by omega) (by decide)
    rw [hl1] at hone
    repeat' (first
 | (apply O_loadW; eq_refl; (exact fun _ h => h.2); eq_refl; assumption)
 | (apply O_loadR; eq_refl; (exact fun _ h => h.2); exact e6; assumption)
 | (apply O_loadC; eq_refl; (exact fun W h => cel_chg (hpc 0 _ rfl) h.1 id); assumption)
 | (apply O_fn; eq_refl; exact hone; rintro _ w3 ⟨rfl, hB3, hC3⟩; have hS3 : Chg w w3 none_ ∧ Blk w3 w.heap.size 29 (ccells c h) := ⟨hS.1.trans hC3 fun k hk hh => by omega, hS.2.chg hC3 (by omega)⟩; refine ⟨fun _ => hS3, ?_⟩)
 | (apply WC_seqK; intro K hK)
 | (apply hK; clear hK)
 | (apply WC_region)
 | (apply WL_nil)
 | (apply thenQ_normal)
 | (apply thenQ_ret)
 | (apply blockQ_ret)
 | (apply blockQ_normal)
 | (apply WC_ret)
 | (apply WC_skip)
 | (apply WC_if_true; eq_refl)
 | (apply WC_if_false; eq_refl)
 | (apply ret3; eq_refl; eq_refl; eq_refl)
 | (apply WS_nil)
 | (apply WS_next; eq_refl)
 | (apply WO_on0; eq_refl)
 | (apply O_pv; eq_refl; (first | exact trivial | omega); (first | assumption | exact trivial))
 | (apply O_field; eq_refl; (first | assumption | exact trivial))
 | (apply O_indexP; eq_refl; eq_refl; omega; omega; (first | assumption | exact trivial))
 | (apply O_fieldP; eq_refl; (first | assumption | exact trivial))
 | (apply WL_on0; eq_refl)
 | (apply X_pv; eq_refl; first | exact trivial | omega)
 | (apply X_cmp; eq_refl; eq_refl; all_goals intro _))
    · rw [if_pos (by assumption)] at hgo
      rw [e4, ← hgo]
      exact ⟨hS3.1, .inl ⟨by assumption, rfl⟩⟩
    · rw [if_neg (by assumption)] at hgo
      exact ⟨(k + 1, (defM c.max t3 x.1 (3, (k : Int))).2), ⟨rfl, rfl, rfl, trivial⟩, ⟨hS3.1, hS3.2, hB3, by simp only; omega, hlt, hgo⟩, by simp only; omega⟩
  rw [List.drop_eq_nil_of_le (by simpa using hge)] at hgo
  have e1 : definesM c (T0 c) = ((0, 0), t3) := by rw [e4, ← hgo]; rfl
  repeat' (first
 | (apply WC_seqK; intro K hK)
 | (apply hK; clear hK)
 | (clear hK; apply hK; clear hK)
 | (apply WC_region)
 | (apply WL_nil)
 | (apply thenQ_normal)
 | (apply thenQ_exit)
 | (apply blockQ_hit)
 | (apply WC_exit)
 | (apply WC_if_false; eq_refl)
 | (apply WL_on0; eq_refl)
 | (apply X_pv; eq_refl; first | exact trivial | omega)
 | (apply X_field; eq_refl)
 | (apply X_loadR; eq_refl; (first | assumption | (apply Blk.alloc; assumption) | apply Blk.new | apply Blk.newA | (apply Blk.alloc; first | apply Blk.newA | (apply Blk.alloc; first | assumption | apply Blk.newA))); eq_refl)
 | (apply X_cmpF; eq_refl; eq_refl; omega)
 | (apply X_len; eq_refl)
 | (apply X_index; eq_refl; eq_refl; omega; omega))
  refine X_doesU (does_store1 (t1 := 4) (b := w.heap.size + 1) (o := 0 + (0 : Int).toNat * 1) (v := .bool true) (by eq_refl) (by eq_refl) hB1 (by rw [List.length_map, bt_len]; show 0 + 0 * 1 < _; omega) rfl rfl) ?_
  have hcc : Chg w1 (w1.setRow (w.heap.size + 1) (((bt t3).map Value.bool).set (0 + (0 : Int).toNat * 1) (.bool true)).toArray) (fun k => k = w.heap.size + 1) := Chg.setRow _ _ _ rfl
  have hB2 : Blk (w1.setRow (w.heap.size + 1) (((bt t3).map Value.bool).set (0 + (0 : Int).toNat * 1) (.bool true)).toArray) (w.heap.size + 1) 4 ((ut t3).map Value.bool) := by
    have := hB1.set (((bt t3).map Value.bool).set (0 + (0 : Int).toNat * 1) (.bool true))
    unfold ut
    rw [List.map_set]
    exact this
  have hC2 : Chg w (w1.setRow (w.heap.size + 1) (((bt t3).map Value.bool).set (0 + (0 : Int).toNat * 1) (.bool true)).toArray) none_ := hC1.trans hcc fun k hk hh => by omega
  repeat' (first
 | (apply WC_seqK; intro K hK)
 | (apply hK; clear hK)
 | (apply WC_region)
 | (apply WL_nil)
 | (apply thenQ_normal)
 | (apply WC_ret)
 | (apply ret3; eq_refl; eq_refl; eq_refl)
 | (apply WL_on0; eq_refl)
 | (apply X_pv; eq_refl; first | exact trivial | omega))
  refine ⟨hC2, .inr ⟨by rw [e1], w.heap.size + 1, m, by omega, by omega, ?_, rfl, ?_⟩⟩
  · unfold tabM; rw [e1]; exact hl1
  · unfold tabM; rw [e1]; exact hB2
end SC
end Go.Proofs.Yticndofcfacopaa
end
section
/- trestleref03: uses. -/
set_option linter.unusedVariables false
set_option linter.unusedSimpArgs false
namespace Go.Proofs.Yticndofcfacopaa
namespace SC
open Go.Proofs
section
variable {P : Program} {ty t t0 : TypeId} {e : Env} {w : World} {x y : Operand} {d0 : TypeDesc} {sz by_ sz1 by1 : Nat} {z z1 : Value} {ag ag1 : Bool} {m b o : Nat} {i : Int} {k : IntKind}
theorem does_indexA [U : Ty P t (.array m t0) sz1 z1 by1 ag1] [T : Ty P t0 d0 sz z by_ ag] (h : ev e x = some (.pointer (some ⟨b, o, none⟩))) (h1 : ev e y = some (.int k i)) (h0 : 0 ≤ i) (h2 : i < m) : Does P (.indexAddr t x y) ty e w (.pointer (some ⟨b, o + i.toNat * sz, none⟩)) w := by
  intro ρ dst pos af g hρ
  simp [execOp, hρ _ _ h, hρ _ _ h1, Instr.indexAt, Instr.sureAddr, asIntOf, run_underlying U.und, h0, h2, T.size, add_at]
theorem O_indexA {n : Nat} {all : List Oper} {S : World → Prop} {K : Env → World → Prop} {j : Nat} {r : List (Nat × Bool)} {d : Option Tmp} [U : Ty P t (.array m t0) sz1 z1 by1 ag1] [T : Ty P t0 d0 sz z by_ ag] (h : ev e x = some (.pointer (some ⟨b, o, none⟩))) (h1 : ev e y = some (.int k i)) (h0 : 0 ≤ i) (h2 : i < m) (hS : S w)
    (hr : WS P n all S K r (push d (.pointer (some ⟨b, o + i.toNat * sz, none⟩)) e) w) : OX P n all S K j true r d (.indexAddr t x y) ty e w := O_quiet (fun _ _ => does_indexA h h1 h0 h2) hS hr
theorem X_indexA {n : Nat} {all : List Oper} {K : Env → World → Prop} {r : List Oper} {d : Option Tmp} [U : Ty P t (.array m t0) sz1 z1 by1 ag1] [T : Ty P t0 d0 sz z by_ ag] (h : ev e x = some (.pointer (some ⟨b, o, none⟩))) (h1 : ev e y = some (.int k i)) (h0 : 0 ≤ i) (h2 : i < m)
    (hr : WL P n all K r (push d (.pointer (some ⟨b, o + i.toNat * sz, none⟩)) e) w) : WX P n all K r d (.indexAddr t x y) ty e w := X_does (does_indexA h h1 h0 h2) hr
end
theorem goUse_ones {max : Int} {t : Tab} : ∀ (ls : List Int) (k : Nat), (goUse max t (ones ls) k).2 = useM max t ls
  | [], _ => rfl
  | x :: r, k => by
    have h1 : useM max t [x] = useOne max t x := by
      simp only [useM]; split
      · rfl
      · omega
    show (if useM max t [x] ≠ 0 then ((k : Int), useM max t [x]) else goUse max t (ones r) (k + 1)).2 = if useOne max t x ≠ 0 then useOne max t x else useM max t r
    rw [h1]
    split
    · rfl
    · exact goUse_ones r (k + 1)
attribute [local irreducible] WC WL WX WS WO OX Does DoesU Enters CV Pure thenQ blockQ retQ Wants retQC
set_option maxRecDepth 100000
theorem uses_cv' {w : World} {c : Circ} {h js : Hd} {t : Tab} {b n : Nat} (H : CirAt w c h js) (hs : c.Okay) (hm : 0 ≤ c.max ∧ c.max ≤ 16384) (hB : Blk w b 4 ((ut t).map Value.bool)) (hl : (t.length : Int) = c.max + 1) (hn : n = t.length) : CV Try.prog 98 [.agg (ccells c h).toArray, .slice (some ⟨b, 0, none⟩) n n] w fun v w' => v = .tuple #[nu (usesM c t).1, nu (usesM c t).2] ∧ Chg w w' none_ := by
  have hI0 : Blk (w.alloc (.cells (ccells c h).toArray 29)) w.heap.size 29 (ccells c h) := Blk.new w _ _
  have hC0 := Chg.alloc w (.cells (ccells c h).toArray 29) none_
  have hlens := hs.lens
  simp only [Circ.lens, List.mem_cons, List.not_mem_nil, or_false] at hlens
  have k2 := hlens _ (.inr (.inl rfl))
  have k3 := hlens _ (.inr (.inr (.inl rfl)))
  have k4 := hlens _ (.inr (.inr (.inr (.inl rfl))))
  have k5 := hlens _ (.inr (.inr (.inr (.inr (.inl rfl)))))
  have k6 := hlens _ (.inr (.inr (.inr (.inr (.inr (.inl rfl))))))
  have k7 := hlens _ (.inr (.inr (.inr (.inr (.inr (.inr (.inl rfl)))))))
  have k8 := hlens _ (.inr (.inr (.inr (.inr (.inr (.inr (.inr (.inl rfl))))))))
  clear hlens
  have hus : ∀ {W : World} {x : Int}, Chg w W none_ → CV Try.prog 140 [.agg (ccells c h).toArray, .slice (some ⟨b, 0, none⟩) n n, nu x] W fun v w' => v = nu (useOne c.max t x) ∧ Chg W w' none_ := fun {W x} hW => used_cv (h := h) (hB.chg hW id) hn hm hl
  have hua : ∀ {W : World} {A : Option Addr} {cp : Nat} {ls : List Int}, Chg w W none_ → RowA W icell 1 A ls → ls.length ≤ 9223372036854775807 → CV Try.prog 141 [.agg (ccells c h).toArray, .slice (some ⟨b, 0, none⟩) n n, .slice A ls.length cp] W fun v w' => v = .tuple #[nu (goUse c.max t (ones ls) 0).1, nu (useM c.max t ls)] ∧ Chg W w' none_ := fun {W A cp ls} hW R hl1 => by
    have := usedAll_cv (h := h) (cp := cp) (hB.chg hW id) hn hm hl R hl1
    rwa [goUse_ones] at this
  refine enter 128 [4, 5] Try.func98 rfl rfl rfl (by decide) rfl ?_
  repeat' (first
 | (apply WC_seqK; intro K hK)
 | (apply hK; clear hK)
 | (apply WC_block)
 | (apply WC_region)
 | (apply WL_nil)
 | (apply thenQ_normal)
 | (apply WL_on0; eq_refl)
 | (apply X_pv; eq_refl; first | exact trivial | omega)
 | (apply X_box; eq_refl))
  refine WC_loop (fun s : Nat => [(1, .slice (some ⟨b, 0, none⟩) n n), (2, pt w.heap.size), (6, nu s)])
    (fun s W => Chg w W none_ ∧ Blk W w.heap.size 29 (ccells c h) ∧ s ≤ c.latches.length ∧ goUse c.max t ((c.latches.map fun x => [x.2.1]).drop s) s = goUse c.max t (c.latches.map fun x => [x.2.1]) 0) (fun s => c.latches.length - s) 0 ⟨rfl, rfl, rfl, trivial⟩ ⟨hC0, hI0, Nat.zero_le _, rfl⟩ ?_
  clear hI0 hC0
  rintro k w1 ⟨hC1, hI1, hk, hgo⟩
  rcases Nat.lt_or_ge k c.latches.length with hlt | hge
  · obtain ⟨p, hp, hpc⟩ := H.latches k hlt
    rw [goUse_step (by simpa using hlt), List.getElem_map] at hgo
    generalize hx : c.latches[k] = x at *
    have e2 : useM c.max t [x.2.1] = useOne c.max t x.2.1 := by
      simp only [useM]; split
      · rfl
      · omega
    rw [e2] at hgo
    have e6 : (ccells c h)[0 + 2]? = some (.slice (some p) c.latches.length (h 2).2) := by rw [← hp]; rfl
    repeat' (first
 | (apply WC_seqK; intro K hK)
 | (apply hK; clear hK)
 | (apply WC_block)
 | (apply WC_region)
 | (apply WL_nil)
 | (apply thenQ_normal)
 | (apply WC_skip)
 | (apply WC_if_true; eq_refl)
 | (apply WL_on0; eq_refl)
 | (apply X_pv; eq_refl; first | exact trivial | omega)
 | (apply X_field; eq_refl)
 | (apply X_loadR; eq_refl; (first | assumption | (apply Blk.alloc; assumption) | apply Blk.new | apply Blk.newA | (apply Blk.alloc; first | apply Blk.newA | (apply Blk.alloc; first | assumption | apply Blk.newA))); eq_refl)
 | (apply X_cmpT; eq_refl; eq_refl; omega)
 | (apply X_len; eq_refl))
    refine WC_draws [(0, true), (1, true), (2, true), (3, true), (4, true), (5, true), (6, true), (7, true), (8, false), (9, true)] (fun W => Chg w W none_ ∧ Blk W w.heap.size 29 (ccells c h)) mixed (by kernel_rfl) (by kernel_rfl) ?_
    have hS : Chg w w1.drew none_ ∧ Blk w1.drew w.heap.size 29 (ccells c h) := ⟨hC1.dr, hI1⟩
    repeat' (first
 | (apply O_loadW; eq_refl; (exact fun _ h => h.2); eq_refl; assumption)
 | (apply O_loadR; eq_refl; (exact fun _ h => h.2); exact e6; assumption)
 | (apply O_loadC; eq_refl; (exact fun W h => cel_chg (hpc 1 _ rfl) h.1 id); assumption)
 | (apply O_fn; eq_refl; exact hus hS.1; rintro _ w3 ⟨rfl, hC3⟩; have hS3 : Chg w w3 none_ ∧ Blk w3 w.heap.size 29 (ccells c h) := ⟨hS.1.trans hC3 fun k hk hh => hh, hS.2.chg hC3 id⟩; refine ⟨fun _ => hS3, ?_⟩)
 | (apply WC_seqK; intro K hK)
 | (apply hK; clear hK)
 | (apply WC_region)
 | (apply WL_nil)
 | (apply thenQ_normal)
 | (apply thenQ_ret)
 | (apply blockQ_ret)
 | (apply blockQ_normal)
 | (apply WC_ret)
 | (apply WC_skip)
 | (apply WC_if_true; eq_refl)
 | (apply WC_if_false; eq_refl)
 | (apply ret2; eq_refl; eq_refl)
 | (apply WS_nil)
 | (apply WS_next; eq_refl)
 | (apply WO_on0; eq_refl)
 | (apply O_pv; eq_refl; (first | exact trivial | omega); (first | assumption | exact trivial))
 | (apply O_field; eq_refl; (first | assumption | exact trivial))
 | (apply O_indexP; eq_refl; eq_refl; omega; omega; (first | assumption | exact trivial))
 | (apply O_fieldP; eq_refl; (first | assumption | exact trivial))
 | (apply WL_on0; eq_refl)
 | (apply X_pv; eq_refl; first | exact trivial | omega)
 | (apply X_cmp; eq_refl; eq_refl; all_goals intro _))
    · rw [if_pos (by assumption)] at hgo
      have e : usesM c t = goUse c.max t (c.latches.map fun x => [x.2.1]) 0 := thenE_err (by rw [← hgo]; assumption)
      rw [e, ← hgo]
      exact ⟨rfl, hS3.1⟩
    · rw [if_neg (by assumption)] at hgo
      exact ⟨k + 1, ⟨rfl, rfl, rfl, trivial⟩, ⟨hS3.1, hS3.2, hlt, hgo⟩, by omega⟩
  rw [List.drop_eq_nil_of_le (by simpa using hge)] at hgo
  have E1 : usesM c t = restOf c.max t (thenE (goUse c.max t c.justice 0) (thenE (goUse c.max t (ones c.fairness) 0) (goUse c.max t (c.ands.map fun x => [x.2.1, x.2.2]) 0))) [c.outputs, c.bads, c.constraints] := thenE_ok (by rw [← hgo]; rfl)
  clear hgo
  repeat' (first
 | (apply X_loadR; eq_refl; exact hI1; eq_refl)
 | (apply WC_seqK; intro K hK)
 | (apply hK; clear hK)
 | (clear hK; apply hK; clear hK)
 | (apply WC_region)
 | (apply WL_nil)
 | (apply thenQ_normal)
 | (apply thenQ_exit)
 | (apply blockQ_hit)
 | (apply WC_exit)
 | (apply WC_if_false; eq_refl)
 | (apply WL_on0; eq_refl)
 | (apply X_pv; eq_refl; first | exact trivial | omega)
 | (apply X_field; eq_refl)
 | (apply X_cmpF; eq_refl; eq_refl; omega)
 | (apply X_len; eq_refl)
 | (apply X_alloc)
 | (apply X_pure; apply build167_0_1_2 <;> eq_refl))
  clear hge hk
  refine X_doesU (does_storeA (t1 := 167) (vs := [slc h 3 c.outputs.length, slc h 4 c.bads.length, slc h 5 c.constraints.length]) (o := 0) (b := w1.heap.size) (by eq_refl) (by eq_refl) (Blk.newA w1 _ _) rfl (by exact Nat.le_refl 3) (by simp [slc, Value.oneCell'])) ?_
  have hb1 : w.heap.size + 1 ≤ w1.heap.size := hI1.lt
  have hcc : Chg w1 ((w1.alloc (.cells #[.slice none 0 0, .slice none 0 0, .slice none 0 0] 167)).setRow w1.heap.size [slc h 3 c.outputs.length, slc h 4 c.bads.length, slc h 5 c.constraints.length].toArray) none_ := (Chg.alloc w1 _ none_).trans (Chg.setRow _ w1.heap.size _ (S := fun k => k = w1.heap.size) rfl) fun k hk h => by omega
  refine WL_turn (fun W => Chg w W none_ ∧ Blk W w.heap.size 29 (ccells c h) ∧ Blk W w1.heap.size 167 [slc h 3 c.outputs.length, slc h 4 c.bads.length, slc h 5 c.constraints.length]) ⟨hC1.trans hcc fun _ _ h => h, hI1.chg hcc id, (Blk.newA w1 _ 167).set [slc h 3 c.outputs.length, slc h 4 c.bads.length, slc h 5 c.constraints.length]⟩ ?_
  clear hcc hC1 hI1
  generalize w1.heap.size = b8 at *
  rintro w2 ⟨hC2, hI2, hA2⟩
  repeat' (first
 | (apply WC_seqK; intro K hK)
 | (apply hK; clear hK)
 | (apply WC_block)
 | (apply WC_region)
 | (apply WL_nil)
 | (apply thenQ_normal)
 | (apply WL_on0; eq_refl)
 | (apply X_pv; eq_refl; first | exact trivial | omega))
  refine WC_loop (fun s : Nat => [(1, .slice (some ⟨b, 0, none⟩) n n), (2, pt w.heap.size), (8, pt b8), (9, nu s)])
    (fun s W => Chg w W none_ ∧ Blk W w.heap.size 29 (ccells c h) ∧ Blk W b8 167 [slc h 3 c.outputs.length, slc h 4 c.bads.length, slc h 5 c.constraints.length] ∧ s ≤ 3 ∧ usesM c t = restOf c.max t (thenE (goUse c.max t c.justice 0) (thenE (goUse c.max t (ones c.fairness) 0) (goUse c.max t (c.ands.map fun x => [x.2.1, x.2.2]) 0))) ([c.outputs, c.bads, c.constraints].drop s)) (fun s => 3 - s) 0 ⟨rfl, rfl, rfl, rfl, trivial⟩ ⟨hC2, hI2, hA2, Nat.zero_le _, E1⟩ ?_
  clear hC2 hI2 hA2 E1
  rintro k w1 ⟨hC1, hI1, hA1, hk, hgo⟩
  rcases Nat.lt_or_ge k 3 with hlt | hge
  · obtain ⟨A, cp, ls, e7, hR, hls, hdr⟩ : ∃ A cp ls, [slc h 3 c.outputs.length, slc h 4 c.bads.length, slc h 5 c.constraints.length][0 + (k : Int).toNat * 1]? = some (.slice A (List.length ls) cp) ∧ RowA w icell 1 A ls ∧ ls.length ≤ 9223372036854775807 ∧ [c.outputs, c.bads, c.constraints].drop k = ls :: [c.outputs, c.bads, c.constraints].drop (k + 1) := by
      match k, hlt with
      | 0, _ => exact ⟨_, _, c.outputs, rfl, H.outputs, by omega, rfl⟩
      | 1, _ => exact ⟨_, _, c.bads, rfl, H.bads, by omega, rfl⟩
      | 2, _ => exact ⟨_, _, c.constraints, rfl, H.constraints, by omega, rfl⟩
    rw [hdr] at hgo
    repeat' (first
 | (apply WC_seqK; intro K hK)
 | (apply hK; clear hK)
 | (apply WC_block)
 | (apply WC_region)
 | (apply WL_nil)
 | (apply thenQ_normal)
 | (apply WC_skip)
 | (apply WC_if_true; eq_refl)
 | (apply WL_on0; eq_refl)
 | (apply X_pv; eq_refl; first | exact trivial | omega)
 | (apply X_cmpT; eq_refl; eq_refl; omega))
    refine WC_draws [(0, true), (1, true), (2, true), (3, true), (4, true), (5, false), (6, true), (7, true), (8, true), (9, true), (10, true)] (fun W => Chg w W none_ ∧ Blk W w.heap.size 29 (ccells c h) ∧ Blk W b8 167 [slc h 3 c.outputs.length, slc h 4 c.bads.length, slc h 5 c.constraints.length]) mixed (by kernel_rfl) (by kernel_rfl) ?_
    have hS : Chg w w1.drew none_ ∧ Blk w1.drew w.heap.size 29 (ccells c h) ∧ Blk w1.drew b8 167 [slc h 3 c.outputs.length, slc h 4 c.bads.length, slc h 5 c.constraints.length] := ⟨hC1.dr, hI1, hA1⟩
    repeat' (first
 | (apply O_loadW; eq_refl; (exact fun _ h => h.2.1); eq_refl; assumption)
 | (apply O_indexA; eq_refl; eq_refl; omega; omega; assumption)
 | (apply O_loadR; eq_refl; (exact fun _ h => h.2.2); exact e7; assumption)
 | (apply O_fn; eq_refl; (exact hua hS.1 (hR.chg hS.1) hls); rintro _ w3 ⟨rfl, hC3⟩; have hS3 : Chg w w3 none_ ∧ Blk w3 w.heap.size 29 (ccells c h) ∧ Blk w3 b8 167 [slc h 3 c.outputs.length, slc h 4 c.bads.length, slc h 5 c.constraints.length] := ⟨hS.1.trans hC3 fun k hk hh => hh, hS.2.1.chg hC3 id, hS.2.2.chg hC3 id⟩; refine ⟨fun _ => hS3, ?_⟩)
 | (apply WC_seqK; intro K hK)
 | (apply hK; clear hK)
 | (apply WC_region)
 | (apply WL_nil)
 | (apply thenQ_normal)
 | (apply thenQ_ret)
 | (apply blockQ_ret)
 | (apply blockQ_normal)
 | (apply WC_ret)
 | (apply WC_skip)
 | (apply WC_if_true; eq_refl)
 | (apply WC_if_false; eq_refl)
 | (apply ret2; eq_refl; eq_refl)
 | (apply WS_nil)
 | (apply WS_next; eq_refl)
 | (apply WO_on0; eq_refl)
 | (apply O_pv; eq_refl; (first | exact trivial | omega); (first | assumption | exact trivial))
 | (apply WL_on0; eq_refl)
 | (apply X_pv; eq_refl; first | exact trivial | omega)
 | (apply X_cmp; eq_refl; eq_refl; all_goals intro _))
    · have e : usesM c t = goUse c.max t (ones ls) 0 := hgo.trans (thenE_err (by rw [goUse_ones]; assumption))
      rw [e, goUse_ones]
      exact ⟨rfl, hS3.1⟩
    · exact ⟨k + 1, ⟨rfl, rfl, rfl, rfl, trivial⟩, ⟨hS3.1, hS3.2.1, hS3.2.2, hlt, hgo.trans (thenE_ok (by rw [goUse_ones]; omega))⟩, by omega⟩
  obtain rfl : k = 3 := by omega
  replace hgo : usesM c t = thenE (goUse c.max t c.justice 0) (thenE (goUse c.max t (ones c.fairness) 0) (goUse c.max t (c.ands.map fun x => [x.2.1, x.2.2]) 0)) := hgo
  repeat' (first
 | (apply WC_seqK; intro K hK)
 | (apply hK; clear hK)
 | (clear hK; apply hK; clear hK)
 | (apply WC_block)
 | (apply WC_region)
 | (apply WL_nil)
 | (apply thenQ_normal)
 | (apply thenQ_exit)
 | (apply blockQ_hit)
 | (apply WC_exit)
 | (apply WC_if_false; eq_refl)
 | (apply WL_on0; eq_refl)
 | (apply X_pv; eq_refl; first | exact trivial | omega)
 | (apply X_cmpF; eq_refl; eq_refl; omega))
  clear hge hk hA1
  have E2 := hgo
  clear hgo
  refine WC_loop (fun s : Nat => [(1, .slice (some ⟨b, 0, none⟩) n n), (2, pt w.heap.size), (12, nu s)])
    (fun s W => Chg w W none_ ∧ Blk W w.heap.size 29 (ccells c h) ∧ s ≤ c.justice.length ∧ goUse c.max t (c.justice.drop s) s = goUse c.max t c.justice 0) (fun s => c.justice.length - s) 0 ⟨rfl, rfl, rfl, trivial⟩ ⟨hC1, hI1, Nat.zero_le _, rfl⟩ ?_
  clear hI1 hC1
  rintro k w1 ⟨hC1, hI1, hk, hgo⟩
  rcases Nat.lt_or_ge k c.justice.length with hlt | hge
  · obtain ⟨p, hp, hpc⟩ := H.justice k hlt
    have hR := H.each k hlt
    have hls := hs.just _ (List.getElem_mem hlt)
    rw [goUse_step hlt] at hgo
    generalize hx : c.justice[k] = ls at *
    have e6 : (ccells c h)[0 + 6]? = some (.slice (some p) c.justice.length (h 6).2) := by rw [← hp]; rfl
    repeat' (first
 | (apply WC_seqK; intro K hK)
 | (apply hK; clear hK)
 | (apply WC_block)
 | (apply WC_region)
 | (apply WL_nil)
 | (apply thenQ_normal)
 | (apply WC_skip)
 | (apply WC_if_true; eq_refl)
 | (apply WL_on0; eq_refl)
 | (apply X_pv; eq_refl; first | exact trivial | omega)
 | (apply X_field; eq_refl)
 | (apply X_loadR; eq_refl; (first | assumption | (apply Blk.alloc; assumption) | apply Blk.new | apply Blk.newA | (apply Blk.alloc; first | apply Blk.newA | (apply Blk.alloc; first | assumption | apply Blk.newA))); eq_refl)
 | (apply X_cmpT; eq_refl; eq_refl; omega)
 | (apply X_len; eq_refl))
    refine WC_draws [(0, true), (1, true), (2, true), (3, true), (4, true), (5, true), (6, true), (7, false), (8, true), (9, true), (10, true), (11, true), (12, true)] (fun W => Chg w W none_ ∧ Blk W w.heap.size 29 (ccells c h)) mixed (by kernel_rfl) (by kernel_rfl) ?_
    have hS : Chg w w1.drew none_ ∧ Blk w1.drew w.heap.size 29 (ccells c h) := ⟨hC1.dr, hI1⟩
    repeat' (first
 | (apply O_loadW; eq_refl; (exact fun _ h => h.2); eq_refl; assumption)
 | (apply O_loadR; eq_refl; (exact fun _ h => h.2); exact e6; assumption)
 | (apply O_loadC; eq_refl; (exact fun W h => cel_chg hpc h.1 id); assumption)
 | (apply O_fn; eq_refl; (exact hua hS.1 (hR.chg hS.1) hls); rintro _ w3 ⟨rfl, hC3⟩; have hS3 : Chg w w3 none_ ∧ Blk w3 w.heap.size 29 (ccells c h) := ⟨hS.1.trans hC3 fun k hk hh => hh, hS.2.chg hC3 id⟩; refine ⟨fun _ => hS3, ?_⟩)
 | (apply WC_seqK; intro K hK)
 | (apply hK; clear hK)
 | (apply WC_region)
 | (apply WL_nil)
 | (apply thenQ_normal)
 | (apply thenQ_ret)
 | (apply blockQ_ret)
 | (apply blockQ_normal)
 | (apply WC_ret)
 | (apply WC_skip)
 | (apply WC_if_true; eq_refl)
 | (apply WC_if_false; eq_refl)
 | (apply ret2; eq_refl; eq_refl)
 | (apply WS_nil)
 | (apply WS_next; eq_refl)
 | (apply WO_on0; eq_refl)
 | (apply O_pv; eq_refl; (first | exact trivial | omega); (first | assumption | exact trivial))
 | (apply O_field; eq_refl; (first | assumption | exact trivial))
 | (apply O_indexP; eq_refl; eq_refl; omega; omega; (first | assumption | exact trivial))
 | (apply WL_on0; eq_refl)
 | (apply X_pv; eq_refl; first | exact trivial | omega)
 | (apply X_cmp; eq_refl; eq_refl; all_goals intro _))
    · rw [if_pos (by assumption)] at hgo
      have e : usesM c t = goUse c.max t c.justice 0 := E2.trans (thenE_err (by rw [← hgo]; assumption))
      rw [e, ← hgo]
      exact ⟨rfl, hS3.1⟩
    · rw [if_neg (by assumption)] at hgo
      exact ⟨k + 1, ⟨rfl, rfl, rfl, trivial⟩, ⟨hS3.1, hS3.2, hlt, hgo⟩, by omega⟩
  rw [List.drop_eq_nil_of_le hge] at hgo
  have E3 : usesM c t = thenE (goUse c.max t (ones c.fairness) 0) (goUse c.max t (c.ands.map fun x => [x.2.1, x.2.2]) 0) := E2.trans (thenE_ok (by rw [← hgo]; rfl))
  clear hgo E2
  repeat' (first
 | (apply X_fn; eq_refl; (exact hua hC1 (H.chg hC1).fairness (by omega)); rintro _ w3 ⟨rfl, hC3⟩)
 | (apply WC_seqK; intro K hK)
 | (apply hK; clear hK)
 | (clear hK; apply hK; clear hK)
 | (apply WC_block)
 | (apply WC_region)
 | (apply WL_nil)
 | (apply thenQ_normal)
 | (apply thenQ_ret)
 | (apply thenQ_exit)
 | (apply blockQ_hit)
 | (apply WC_ret)
 | (apply WC_exit)
 | (apply WC_skip)
 | (apply WC_if_true; eq_refl)
 | (apply WC_if_false; eq_refl)
 | (apply ret2; eq_refl; eq_refl)
 | (apply WL_on0; eq_refl)
 | (apply X_pv; eq_refl; first | exact trivial | omega)
 | (apply X_field; eq_refl)
 | (apply X_loadR; eq_refl; (first | assumption | (apply Blk.alloc; assumption) | apply Blk.new | apply Blk.newA | (apply Blk.alloc; first | apply Blk.newA | (apply Blk.alloc; first | assumption | apply Blk.newA))); eq_refl)
 | (apply X_loadW; eq_refl; (first | assumption | (apply Blk.alloc; assumption) | apply Blk.new | apply Blk.newA | (apply Blk.alloc; first | apply Blk.newA | (apply Blk.alloc; first | assumption | apply Blk.newA))); eq_refl)
 | (apply X_cmpF; eq_refl; eq_refl; omega)
 | (apply X_cmp; eq_refl; eq_refl; all_goals intro _)
 | (apply X_len; eq_refl))
  · have e : usesM c t = goUse c.max t (ones c.fairness) 0 := E3.trans (thenE_err (by rw [goUse_ones]; assumption))
    rw [e, goUse_ones]
    exact ⟨rfl, hC1.trans hC3 fun _ _ h => h⟩
  have E4 : usesM c t = goUse c.max t (c.ands.map fun x => [x.2.1, x.2.2]) 0 := E3.trans (thenE_ok (by rw [goUse_ones]; omega))
  clear E3 hge hk
  refine WC_loop (fun s : Nat => [(1, .slice (some ⟨b, 0, none⟩) n n), (2, pt w.heap.size), (17, nu s)])
    (fun s W => Chg w W none_ ∧ Blk W w.heap.size 29 (ccells c h) ∧ s ≤ c.ands.length ∧ goUse c.max t ((c.ands.map fun x => [x.2.1, x.2.2]).drop s) s = goUse c.max t (c.ands.map fun x => [x.2.1, x.2.2]) 0) (fun s => c.ands.length - s) 0 ⟨rfl, rfl, rfl, trivial⟩ ⟨hC1.trans hC3 fun _ _ h => h, hI1.chg hC3 id, Nat.zero_le _, rfl⟩ ?_
  clear hI1 hC1 hC3 w3
  rintro k w1 ⟨hC1, hI1, hk, hgo⟩
  rcases Nat.lt_or_ge k c.ands.length with hlt | hge
  · obtain ⟨p, hp, hpc⟩ := H.ands k hlt
    rw [goUse_step (by simpa using hlt), List.getElem_map] at hgo
    generalize hx : c.ands[k] = x at *
    have e6 : (ccells c h)[0 + 8]? = some (.slice (some p) c.ands.length (h 8).2) := by rw [← hp]; rfl
    repeat' (first
 | (apply WC_seqK; intro K hK)
 | (apply hK; clear hK)
 | (apply WC_block)
 | (apply WC_region)
 | (apply WL_nil)
 | (apply thenQ_normal)
 | (apply WC_skip)
 | (apply WC_if_true; eq_refl)
 | (apply WL_on0; eq_refl)
 | (apply X_pv; eq_refl; first | exact trivial | omega)
 | (apply X_field; eq_refl)
 | (apply X_loadR; eq_refl; (first | assumption | (apply Blk.alloc; assumption) | apply Blk.new | apply Blk.newA | (apply Blk.alloc; first | apply Blk.newA | (apply Blk.alloc; first | assumption | apply Blk.newA))); eq_refl)
 | (apply X_cmpT; eq_refl; eq_refl; omega)
 | (apply X_len; eq_refl))
    refine WC_draws [(0, true), (1, true), (2, true), (3, true), (4, true), (5, true), (6, true), (7, true), (8, true), (9, true), (10, true), (11, true), (12, true), (13, true), (14, false), (15, false), (16, true), (17, true), (18, true), (19, true), (20, true)] (fun W => Chg w W none_ ∧ Blk W w.heap.size 29 (ccells c h)) mixed (by kernel_rfl) (by kernel_rfl) ?_
    have hS : Chg w w1.drew none_ ∧ Blk w1.drew w.heap.size 29 (ccells c h) := ⟨hC1.dr, hI1⟩
    have hSa : Chg w (w1.drew.alloc (.cells #[nu x.2.1, nu x.2.2] 3)) none_ ∧ Blk (w1.drew.alloc (.cells #[nu x.2.1, nu x.2.2] 3)) w.heap.size 29 (ccells c h) := ⟨hS.1.al _, hS.2.alloc _⟩
    have hone := hua (cp := 2) (ls := [x.2.1, x.2.2]) hSa.1 (RowA.lit w1.drew [x.2.1, x.2.2]) (by simp)
    repeat' (first
 | (apply O_loadW; eq_refl; (exact fun _ h => h.2); eq_refl; assumption)
 | (apply O_loadR; eq_refl; (exact fun _ h => h.2); exact e6; assumption)
 | (apply O_loadC; eq_refl; (exact fun W h => cel_chg (hpc 1 _ rfl) h.1 id); assumption)
 | (apply O_loadC; eq_refl; (exact fun W h => cel_chg (hpc 2 _ rfl) h.1 id); assumption)
 | (apply O_does; (apply buildS22_2 <;> eq_refl); exact (fun _ => hSa))
 | (apply O_fn; eq_refl; exact hone; rintro _ w3 ⟨rfl, hC3⟩; have hS3 : Chg w w3 none_ ∧ Blk w3 w.heap.size 29 (ccells c h) := ⟨hSa.1.trans hC3 fun k hk hh => hh, hSa.2.chg hC3 id⟩; refine ⟨fun _ => hS3, ?_⟩)
 | (apply WC_seqK; intro K hK)
 | (apply hK; clear hK)
 | (apply WC_region)
 | (apply WL_nil)
 | (apply thenQ_normal)
 | (apply thenQ_ret)
 | (apply blockQ_ret)
 | (apply blockQ_normal)
 | (apply WC_ret)
 | (apply WC_skip)
 | (apply WC_if_true; eq_refl)
 | (apply WC_if_false; eq_refl)
 | (apply ret2; eq_refl; eq_refl)
 | (apply WS_nil)
 | (apply WS_next; eq_refl)
 | (apply WO_on0; eq_refl)
 | (apply O_pv; eq_refl; (first | exact trivial | omega); (first | assumption | exact trivial))
 | (apply O_field; eq_refl; (first | assumption | exact trivial))
 | (apply O_indexP; eq_refl; eq_refl; omega; omega; (first | assumption | exact trivial))
 | (apply O_fieldP; eq_refl; (first | assumption | exact trivial))
 | (apply WL_on0; eq_refl)
 | (apply X_pv; eq_refl; first | exact trivial | omega)
 | (apply X_cmp; eq_refl; eq_refl; all_goals intro _))
    · rw [if_pos (by assumption)] at hgo
      rw [E4, ← hgo]
      exact ⟨rfl, hS3.1⟩
    · rw [if_neg (by assumption)] at hgo
      exact ⟨k + 1, ⟨rfl, rfl, rfl, trivial⟩, ⟨hS3.1, hS3.2, hlt, hgo⟩, by omega⟩
  rw [List.drop_eq_nil_of_le (by simpa using hge)] at hgo
  repeat' (first
 | (apply WC_seqK; intro K hK)
 | (apply hK; clear hK)
 | (clear hK; apply hK; clear hK)
 | (apply WC_region)
 | (apply WL_nil)
 | (apply thenQ_normal)
 | (apply thenQ_exit)
 | (apply blockQ_hit)
 | (apply WC_ret)
 | (apply WC_exit)
 | (apply WC_if_false; eq_refl)
 | (apply ret2; eq_refl; eq_refl)
 | (apply WL_on0; eq_refl)
 | (apply X_pv; eq_refl; first | exact trivial | omega)
 | (apply X_field; eq_refl)
 | (apply X_loadR; eq_refl; (first | assumption | (apply Blk.alloc; assumption) | apply Blk.new | apply Blk.newA | (apply Blk.alloc; first | apply Blk.newA | (apply Blk.alloc; first | assumption | apply Blk.newA))); eq_refl)
 | (apply X_cmpF; eq_refl; eq_refl; omega)
 | (apply X_len; eq_refl))
  rw [E4, ← hgo]
  exact ⟨rfl, hC1⟩
end SC
end Go.Proofs.Yticndofcfacopaa
end
section
/- trestleref03: gates. -/
set_option linter.unusedVariables false
set_option linter.unusedSimpArgs false
namespace Go.Proofs.Yticndofcfacopaa
namespace SC
open Go.Proofs
/-- What a gate asks for: a literal's gate, or none. -/
theorem TabOk.lit {c : Circ} {t : Tab} (hT : TabOk c t) (hU : UseAll c t) {i : Int} (hi : rg c.ands.length i) {l : Int} (hl : l = (andAt c i).2.1 ∨ l = (andAt c i).2.2) :
    0 ≤ l ∧ l ≤ 2 * c.max + 1 ∧ ((kindAt t (l / 2) = 3 ∧ L (SC.gatesM c) (l / 2) = atOf t (l / 2) ∧ rg c.ands.length (atOf t (l / 2)) ∧ atOf t (l / 2) ∈ gateB t c i) ∨ (kindAt t (l / 2) ≠ 3 ∧ L (SC.gatesM c) (l / 2) = -1)) := by
  have hlt : i.toNat < c.ands.length := by unfold rg at hi; omega
  have e : andAt c i = c.ands[i.toNat] := by unfold andAt; simp [hlt]
  have hu := hU.ands _ (List.getElem_mem hlt)
  rw [← e] at hu
  have h0 : 0 ≤ l ∧ l ≤ 2 * c.max + 1 := by
    rcases hl with rfl | rfl
    · exact ⟨hu.1.1, hu.1.2.1⟩
    · exact ⟨hu.2.1, hu.2.2.1⟩
  refine ⟨h0.1, h0.2, ?_⟩
  have hr : rg (c.max + 1).toNat (l / 2) := by unfold rg; omega
  have hg := hT.gatesM hr
  by_cases hk : kindAt t (l / 2) = 3
  · rw [if_pos hk] at hg
    have hm : atOf t (l / 2) ∈ gateB t c i := (mem_gateB hi).2 ⟨l, hl, hk, rfl⟩
    exact .inl ⟨hk, hg, hT.below hU i hi _ hm, hm⟩
  · rw [if_neg hk] at hg
    exact .inr ⟨hk, hg⟩
attribute [local irreducible] WC WL WX WS WO OX Does DoesU Enters CV Pure thenQ blockQ retQ Wants retQC
set_option maxRecDepth 100000
theorem gates80_cv {w : World} {c : Circ} {h js : Hd} {t : Tab} (H : CirAt w c h js) (hT : TabOk c t) (hm : 0 ≤ c.max ∧ c.max ≤ 16384) (hn : c.ands.length ≤ 16384) : CV Try.prog 100 [.agg (ccells c h).toArray] w fun v w' => v = .slice (some ⟨w.heap.size + 1, 0, none⟩) (gatesM c).length (gatesM c).length ∧ Blk w' (w.heap.size + 1) 3 ((gatesM c).map nu) ∧ Chg w w' none_ := by
  obtain ⟨m, hm2⟩ : ∃ m : Nat, c.max + 1 = m := ⟨(c.max + 1).toNat, by omega⟩
  have hml : (c.max + 1).toNat = m := by omega
  have hI0 : Blk (w.alloc (.cells (ccells c h).toArray 29)) w.heap.size 29 (ccells c h) := Blk.new w _ _
  have hC0 := Chg.alloc w (.cells (ccells c h).toArray 29) none_
  have hz0 := sz_alloc w (.cells (ccells c h).toArray 29)
  refine enter 37 [2] Try.func100 rfl rfl rfl (by decide) rfl ?_
  repeat' (first
 | (apply WC_seqK; intro K hK)
 | (apply hK; clear hK)
 | (apply WC_region)
 | (apply WL_nil)
 | (apply thenQ_normal)
 | (apply WL_on0; eq_refl)
 | (apply X_pv; eq_refl; first | exact trivial | omega)
 | (apply X_field; eq_refl)
 | (apply X_loadR; eq_refl; (first | assumption | (apply Blk.alloc; assumption) | apply Blk.new | apply Blk.newA | (apply Blk.alloc; first | apply Blk.newA | (apply Blk.alloc; first | assumption | apply Blk.newA))); eq_refl)
 | (apply X_box; eq_refl))
  rw [hm2]
  repeat' (first
 | (apply X_make; eq_refl; omega; omega)
 | (apply WC_seqK; intro K hK)
 | (apply hK; clear hK)
 | (apply WC_block)
 | (apply WC_region)
 | (apply WL_nil)
 | (apply thenQ_normal)
 | (apply WL_on0; eq_refl)
 | (apply X_pv; eq_refl; first | exact trivial | omega))
  have e1 : (madeCells (Value.int .i64 0).cells (m * 1)).toList = (List.replicate m (0 : Int)).map nu := by rw [Nat.mul_one, show (Value.int .i64 0).cells = #[nu 0] from rfl, made_one, List.map_replicate]
  have b1 := Blk.newA (w.alloc (.cells (ccells c h).toArray 29)) (madeCells (Value.int .i64 0).cells (m * 1)) 3
  rw [e1, hz0] at b1
  refine WC_loop (fun s : Nat × List Int => [(1, pt w.heap.size), (3, .slice (some ⟨w.heap.size + 1, 0, none⟩) m m), (4, nu s.1)])
    (fun s W => Chg w W none_ ∧ Blk W w.heap.size 29 (ccells c h) ∧ Blk W (w.heap.size + 1) 3 (s.2.map nu) ∧ s.2.length = m ∧ s.2.take s.1 = List.replicate s.1 (-1) ∧ s.1 ≤ m) (fun s => m - s.1) (0, List.replicate m 0) ⟨rfl, congrArg (fun k => some (Value.slice (some ⟨k, 0, none⟩) m m)) hz0, rfl, trivial⟩ ⟨hC0.al _, hI0.alloc _, b1, by simp, by simp, Nat.zero_le _⟩ ?_
  clear b1 hI0 hC0 hz0 e1
  rintro ⟨i, l⟩ w1 ⟨hC1, hI1, hB1, hll, hlt', hi⟩
  simp only at hB1 hll hlt' hi
  rcases Nat.lt_or_ge i m with hlt | hge
  · repeat' (first
 | (apply WC_seqK; intro K hK)
 | (apply hK; clear hK)
 | (apply WC_block)
 | (apply WC_region)
 | (apply WL_nil)
 | (apply thenQ_normal)
 | (apply WC_skip)
 | (apply WC_if_true; eq_refl)
 | (apply WL_on0; eq_refl)
 | (apply X_pv; eq_refl; first | exact trivial | omega)
 | (apply X_field; eq_refl)
 | (apply X_loadR; eq_refl; (first | assumption | (apply Blk.alloc; assumption) | apply Blk.new | apply Blk.newA | (apply Blk.alloc; first | apply Blk.newA | (apply Blk.alloc; first | assumption | apply Blk.newA))); eq_refl)
 | (apply X_cmpT; eq_refl; eq_refl; omega)
 | (apply X_index; eq_refl; eq_refl; omega; omega))
    refine X_doesU (does_store1 (t1 := 3) (b := w.heap.size + 1) (o := 0 + (i : Int).toNat * 1) (v := nu (-1)) (by eq_refl) (by eq_refl) hB1 (by simp; omega) rfl rfl) ?_
    rw [set_nu, show 0 + (i : Int).toNat * 1 = i by omega]
    have hcc := Chg.setRow w1 (w.heap.size + 1) ((l.set i (-1)).map nu).toArray (S := fun k => k = w.heap.size + 1) rfl
    have hB2 := hB1.set ((l.set i (-1)).map nu)
    repeat' (first
 | (apply hK; clear hK)
 | (apply WC_region)
 | (apply WL_nil)
 | (apply thenQ_normal)
 | (apply blockQ_normal)
 | (apply WL_on0; eq_refl)
 | (apply X_pv; eq_refl; first | exact trivial | omega))
    exact ⟨(i + 1, l.set i (-1)), ⟨rfl, rfl, rfl, trivial⟩, ⟨hC1.trans hcc fun k hk hh => by omega, hI1.chg hcc (by omega), hB2, by simp [hll], by rw [take_set_succ _ _ _ (by omega), hlt', List.replicate_succ'], hlt⟩, by simp only; omega⟩
  obtain rfl : i = m := by omega
  rw [List.take_of_length_le (by omega)] at hlt'
  subst hlt'
  repeat' (first
 | (apply WC_seqK; intro K hK)
 | (apply hK; clear hK)
 | (clear hK; apply hK; clear hK)
 | (apply WC_block)
 | (apply WC_region)
 | (apply WL_nil)
 | (apply thenQ_normal)
 | (apply thenQ_exit)
 | (apply blockQ_hit)
 | (apply WC_exit)
 | (apply WC_if_false; eq_refl)
 | (apply WL_on0; eq_refl)
 | (apply X_pv; eq_refl; first | exact trivial | omega)
 | (apply X_field; eq_refl)
 | (apply X_loadR; eq_refl; (first | assumption | (apply Blk.alloc; assumption) | apply Blk.new | apply Blk.newA | (apply Blk.alloc; first | apply Blk.newA | (apply Blk.alloc; first | assumption | apply Blk.newA))); eq_refl)
 | (apply X_cmpF; eq_refl; eq_refl; omega))
  refine WC_loop (fun s : Nat × List Int => [(1, pt w.heap.size), (3, .slice (some ⟨w.heap.size + 1, 0, none⟩) i i), (5, nu s.1)])
    (fun s W => Chg w W none_ ∧ Blk W w.heap.size 29 (ccells c h) ∧ Blk W (w.heap.size + 1) 3 (s.2.map nu) ∧ s.2.length = i ∧ gatesL (c.ands.drop s.1) s.1 s.2 = gatesM c ∧ s.1 ≤ c.ands.length) (fun s => c.ands.length - s.1) (0, List.replicate i (-1)) ⟨rfl, rfl, rfl, trivial⟩ ⟨hC1, hI1, hB1, by simp, by unfold gatesM; rw [hml]; rfl, Nat.zero_le _⟩ ?_
  clear hI1 hB1 hC1 hll
  rintro ⟨k, l⟩ w1 ⟨hC1, hI1, hB1, hll, hgo, hk⟩
  simp only at hB1 hll hgo hk
  rcases Nat.lt_or_ge k c.ands.length with hlt | hge
  · obtain ⟨p, hp, hpc⟩ := (H.chg hC1).ands k hlt
    have hdb := (hT.gat k hlt).1
    rw [gatesL_step hlt] at hgo
    generalize hx : c.ands[k] = x at *
    have hx2 : 0 ≤ x.1 / 2 ∧ x.1 / 2 < i ∧ 0 ≤ x.1 ∧ x.1 ≤ 100000 := by unfold defBad at hdb; omega
    have e6 : (ccells c h)[0 + 8]? = some (.slice (some p) c.ands.length (h 8).2) := by rw [← hp]; rfl
    repeat' (first
 | (apply X_loadR; eq_refl; exact hI1; exact e6)
 | (apply X_loadC; eq_refl; exact (hpc 0 _ rfl))
 | (apply WC_seqK; intro K hK)
 | (apply hK; clear hK)
 | (apply WC_block)
 | (apply WC_region)
 | (apply WL_nil)
 | (apply thenQ_normal)
 | (apply WC_skip)
 | (apply WC_if_true; eq_refl)
 | (apply WL_on0; eq_refl)
 | (apply X_pv; eq_refl; first | exact trivial | omega)
 | (apply X_field; eq_refl)
 | (apply X_cmpT; eq_refl; eq_refl; omega)
 | (apply X_len; eq_refl)
 | (apply X_index; eq_refl; eq_refl; omega; omega)
 | (apply X_indexP; eq_refl; eq_refl; omega; omega)
 | (apply X_fieldP; eq_refl))
    refine X_doesU (does_store1 (t1 := 3) (b := w.heap.size + 1) (o := 0 + (x.1 / 2).toNat * 1) (v := nu k) (by eq_refl) (by eq_refl) hB1 (by simp; omega) rfl rfl) ?_
    rw [set_nu, show 0 + (x.1 / 2).toNat * 1 = (x.1 / 2).toNat by omega]
    have hcc := Chg.setRow w1 (w.heap.size + 1) ((l.set (x.1 / 2).toNat k).map nu).toArray (S := fun k => k = w.heap.size + 1) rfl
    have hB3 := hB1.set ((l.set (x.1 / 2).toNat k).map nu)
    repeat' (first
 | (apply hK; clear hK)
 | (apply WC_region)
 | (apply WL_nil)
 | (apply thenQ_normal)
 | (apply blockQ_normal)
 | (apply WL_on0; eq_refl)
 | (apply X_pv; eq_refl; first | exact trivial | omega))
    exact ⟨(k + 1, l.set (x.1 / 2).toNat k), ⟨rfl, rfl, rfl, trivial⟩, ⟨hC1.trans hcc fun k hk hh => by omega, hI1.chg hcc (by omega), hB3, by simp [hll], hgo, hlt⟩, by simp only; omega⟩
  obtain rfl : k = c.ands.length := by omega
  rw [List.drop_of_length_le (Nat.le_refl _)] at hgo
  have hgo : l = gatesM c := hgo
  subst hgo
  have hgl : (gatesM c).length = i := hll
  repeat' (first
 | (apply WC_seqK; intro K hK)
 | (apply hK; clear hK)
 | (clear hK; apply hK; clear hK)
 | (apply WC_region)
 | (apply WL_nil)
 | (apply thenQ_normal)
 | (apply thenQ_exit)
 | (apply blockQ_hit)
 | (apply WC_ret)
 | (apply WC_exit)
 | (apply WC_if_false; eq_refl)
 | (apply ret1; eq_refl)
 | (apply WL_on0; eq_refl)
 | (apply X_pv; eq_refl; first | exact trivial | omega)
 | (apply X_field; eq_refl)
 | (apply X_loadR; eq_refl; (first | assumption | (apply Blk.alloc; assumption) | apply Blk.new | apply Blk.newA | (apply Blk.alloc; first | apply Blk.newA | (apply Blk.alloc; first | assumption | apply Blk.newA))); eq_refl)
 | (apply X_cmpF; eq_refl; eq_refl; omega)
 | (apply X_len; eq_refl))
  refine ⟨?_, hB1, hC1⟩
  rw [hgl]
end SC
end Go.Proofs.Yticndofcfacopaa
end
section
/- trestleref03: told. -/
set_option linter.unusedVariables false
set_option linter.unusedSimpArgs false
namespace Go.Proofs.Yticndofcfacopaa
namespace SC
open Go.Proofs
/-- What told keeps in memory: the gates of the variables, which are told, and their row. -/
structure TolSt (w W : World) (c : Circ) (h : Hd) (t : Tab) (g D : Nat) (out : List Int) (dn : List Bool) (vo : Value) : Prop where
  chg : Chg w W none_
  box : Blk W w.heap.size 29 (ccells c h)
  gate : Blk W g 3 ((gatesM c).map nu)
  done : Blk W D 4 (dn.map Value.bool)
  row : W.ownsRow (D + 1) 3 1 vo out.length (out.map nu)
  len : dn.length = c.ands.length
  told : Told c.ands.length (gateB t c) out
  mem : ∀ y, rg c.ands.length y → (Sn dn y = true ↔ y ∈ out)
theorem TolSt.same {w W W' : World} {c : Circ} {h : Hd} {t : Tab} {g D : Nat} {out : List Int} {dn : List Bool} {vo : Value} (S : TolSt w W c h t g D out dn vo) (hc : Chg W W' none_) : TolSt w W' c h t g D out dn vo :=
  ⟨S.chg.trans hc fun _ _ h => h, S.box.chg hc id, S.gate.chg hc id, S.done.chg hc id, own_chg S.row hc fun _ _ => id, S.len, S.told, S.mem⟩
section
variable {P : Program} {n : Nat} {all rest : List Oper} {K : Env → World → Prop} {e : Env} {w : World}
/-- A guard whose slot was left out: not carried out. -/
theorem WL_noU {j : Nat} {b : Bool} {d' : Nat} {d : Option Tmp} {op : Op} {ty : TypeId} {pos : String} {af : Array Edge} (h1 : gslot all j = some d') (h2 : look e d' = some undef) (hd : slotOk n d = true) (hr : WL P n all K rest (push d undef e) w) : WL P n all K (⟨d, op, ty, pos, af, some (j, b)⟩ :: rest) e w := by
  intro a Q ha hQ
  have hw : Region.wanted ⟨d, op, ty, pos, af, some (j, b)⟩ (yielded all.toArray a.tmps) = false := by
    unfold Region.wanted
    have ht := ha.tmps d' _ h2
    have hy : yielded all.toArray a.tmps j = none := by
      unfold yielded
      unfold gslot at h1
      rw [nth_eq] at h1
      have : ((all.toArray[j]?).bind (·.dst)) = some d' := by simpa using h1
      rw [this]
      simp [ht, undef]
    simp only [hy]
    rfl
  unfold wpList
  rw [if_neg (by simp [hw])]
  exact hr _ Q (ha.put d undef hd) hQ
end
attribute [local irreducible] WC WL WX WS WO OX Does DoesU Enters CV Pure thenQ blockQ retQ Wants retQC
set_option maxRecDepth 100000
theorem told_cv {w : World} {c : Circ} {h js : Hd} {t : Tab} (H : CirAt w c h js) (hT : TabOk c t) (hU : UseAll c t) (hm : 0 ≤ c.max ∧ c.max ≤ 16384) (hn : c.ands.length ≤ 16384) : CV Try.prog 99 [.agg (ccells c h).toArray] w fun v w' => Chg w w' none_ ∧ ∃ out, All c.ands.length (gateB t c) out ∧ w'.ownsRow w.heap.size 3 1 v out.length (out.map nu) := by
  have hI0 : Blk (w.alloc (.cells (ccells c h).toArray 29)) w.heap.size 29 (ccells c h) := Blk.new w _ _
  have hC0 := Chg.alloc w (.cells (ccells c h).toArray 29) none_
  have hgl := gatesM_len c
  have hga := gates80_cv (H.chg hC0) hT hm hn
  refine enter 74 [2] Try.func99 rfl rfl rfl (by decide) rfl ?_
  repeat' (first
 | (apply X_fn; eq_refl; exact hga; rintro _ w1 ⟨rfl, hG1, hC1⟩; have hI1 := hI0.chg hC1 id)
 | (apply X_make; eq_refl; omega; omega)
 | (apply WC_seqK; intro K hK)
 | (apply hK; clear hK)
 | (apply WC_block)
 | (apply WC_region)
 | (apply WL_nil)
 | (apply thenQ_normal)
 | (apply WL_on0; eq_refl)
 | (apply X_pv; eq_refl; first | exact trivial | omega)
 | (apply X_field; eq_refl)
 | (apply X_loadR; eq_refl; (first | assumption | (apply Blk.alloc; assumption) | apply Blk.new | apply Blk.newA | (apply Blk.alloc; first | apply Blk.newA | (apply Blk.alloc; first | assumption | apply Blk.newA))); eq_refl)
 | (apply X_loadW; eq_refl; (first | assumption | (apply Blk.alloc; assumption) | apply Blk.new | apply Blk.newA | (apply Blk.alloc; first | apply Blk.newA | (apply Blk.alloc; first | assumption | apply Blk.newA))); eq_refl)
 | (apply X_len; eq_refl)
 | (apply X_box; eq_refl))
  have hC1' := hC0.trans hC1 fun _ _ h => h
  have hg0 := hG1.lt
  have hg1 : w.heap.size < (w.alloc (.cells (ccells c h).toArray 29)).heap.size + 1 := by simp; omega
  generalize (w.alloc (.cells (ccells c h).toArray 29)).heap.size + 1 = g at *
  have hdm : Blk (w1.alloc (.cells (madeCells (Value.bool false).cells (c.ands.length * 1)) 4)) w1.heap.size 4 ((List.replicate c.ands.length false).map Value.bool) := by
    have e1 : (madeCells (Value.bool false).cells (c.ands.length * 1)).toList = (List.replicate c.ands.length false).map Value.bool := by rw [Nat.mul_one, show (Value.bool false).cells = #[Value.bool false] from rfl, made_one, List.map_replicate]
    have := Blk.newA w1 (madeCells (Value.bool false).cells (c.ands.length * 1)) 4
    rwa [e1] at this
  have hS0 : TolSt w (w1.alloc (.cells (madeCells (Value.bool false).cells (c.ands.length * 1)) 4)) c h t g w1.heap.size [] (List.replicate c.ands.length false) (.slice none 0 0) :=
    ⟨hC1'.al _, hI1.alloc _, hG1.alloc _, hdm, World.ownsRow_nil _ _ _ _, by simp, .nil, fun y _ => by rw [Sn_false]; simp⟩
  generalize w1.alloc (.cells (madeCells (Value.bool false).cells (c.ands.length * 1)) 4) = w2 at *
  generalize w1.heap.size = D at *
  refine WC_loop (fun s : List Int × List Bool × Value × Bool => [(1, pt w.heap.size), (3, .slice (some ⟨g, 0, none⟩) (gatesM c).length (gatesM c).length), (4, .slice (some ⟨D, 0, none⟩) c.ands.length c.ands.length), (5, s.2.2.1), (6, .bool s.2.2.2)])
    (fun s W => TolSt w W c h t g D s.1 s.2.1 s.2.2.1 ∧ (s.2.2.2 = false → All c.ands.length (gateB t c) s.1)) (fun s => 2 * (c.ands.length - s.1.length) + if s.2.2.2 then 1 else 0)
    ([], List.replicate c.ands.length false, .slice none 0 0, true) ⟨rfl, rfl, rfl, rfl, rfl, trivial⟩ ⟨hS0, fun h => (by cases h)⟩ ?_
  clear hS0 hdm hG1 hC1 hI1 hga hI0 hC0 hC1'
  rintro ⟨out, dn, vo, again⟩ w3 ⟨hS3, hal⟩
  simp only at hS3 hal
  cases again with
  | false =>
    repeat' (first
 | (apply WC_seqK; intro K hK)
 | (apply hK; clear hK)
 | (clear hK; apply hK; clear hK)
 | (apply WC_region)
 | (apply WL_nil)
 | (apply thenQ_normal)
 | (apply thenQ_exit)
 | (apply blockQ_hit)
 | (apply WC_ret)
 | (apply WC_exit)
 | (apply WC_if_false; eq_refl)
 | (apply ret1; eq_refl)
 | (apply WL_on0; eq_refl)
 | (apply X_pv; eq_refl; first | exact trivial | omega))
    exact ⟨hS3.chg, out, hal rfl, own_mono hS3.row (by omega)⟩
  | true =>
    repeat' (first
 | (apply WC_seqK; intro K hK)
 | (apply hK; clear hK)
 | (apply WC_block)
 | (apply WC_region)
 | (apply WL_nil)
 | (apply thenQ_normal)
 | (apply WC_skip)
 | (apply WC_if_true; eq_refl)
 | (apply WL_on0; eq_refl)
 | (apply X_pv; eq_refl; first | exact trivial | omega))
    refine WC_loop (fun i : Nat => [(1, pt w.heap.size), (3, .slice (some ⟨g, 0, none⟩) (gatesM c).length (gatesM c).length), (4, .slice (some ⟨D, 0, none⟩) c.ands.length c.ands.length), (5, vo), (6, .bool false), (7, nu i)])
      (fun i W => TolSt w W c h t g D out dn vo ∧ i ≤ c.ands.length ∧ ∀ y, y < (i : Int) → ¬ CanTell c.ands.length (gateB t c) out y) (fun i => c.ands.length - i)
      0 ⟨rfl, rfl, rfl, rfl, rfl, rfl, trivial⟩ ⟨hS3, Nat.zero_le _, fun y hy hc => by have := hc.rg; unfold rg at this; omega⟩ ?_
    clear hS3 hal w3
    rintro i w3 ⟨hS3, hi, hno⟩
    have hbox := hS3.box
    rcases Nat.lt_or_ge i c.ands.length with hlt | hge
    · have hri : rg c.ands.length (i : Int) := ⟨by omega, by omega⟩
      have hdone := hS3.done
      have hcell := Sn_cell (sn := dn) (z := i) (by rw [hS3.len]; exact hri)
      have hmem := hS3.mem i hri
      cases hsi : Sn dn i with
      | true =>
        rw [hsi] at hcell
        repeat' (first
 | (apply X_loadR; eq_refl; exact hdone; exact hcell)
 | (apply WC_seqK; intro K hK)
 | (apply hK; clear hK)
 | (clear hK; apply hK; clear hK)
 | (apply WC_block)
 | (apply WC_region)
 | (apply WL_nil)
 | (apply thenQ_normal)
 | (apply thenQ_exit)
 | (apply blockQ_hit)
 | (apply WC_exit)
 | (apply WC_skip)
 | (apply WC_if_true; eq_refl)
 | (apply WL_on0; eq_refl)
 | (apply X_pv; eq_refl; first | exact trivial | omega)
 | (apply X_field; eq_refl)
 | (apply X_loadR; eq_refl; (first | assumption | (apply Blk.alloc; assumption) | apply Blk.new | apply Blk.newA | (apply Blk.alloc; first | apply Blk.newA | (apply Blk.alloc; first | assumption | apply Blk.newA))); eq_refl)
 | (apply X_cmpT; eq_refl; eq_refl; omega)
 | (apply X_len; eq_refl)
 | (apply X_index; eq_refl; eq_refl; omega; omega))
        refine ⟨i + 1, ⟨rfl, rfl, rfl, rfl, rfl, rfl, trivial⟩, ⟨hS3, hlt, fun y hy hc => ?_⟩, by omega⟩
        rcases Int.lt_or_le y (i : Int) with h1 | h1
        · exact hno y h1 hc
        · have : y = i := by omega
          subst this
          exact hc.new (hmem.1 hsi)
      | false =>
        rw [hsi] at hcell hmem
        have hnew : (i : Int) ∉ out := fun hh => by have := hmem.2 hh; cases this
        obtain ⟨p, hp, hpc⟩ := H.ands i hlt
        have hle := hT.lit hU hri (.inl rfl)
        have hri' := hT.lit hU hri (.inr rfl)
        have hx : andAt c i = c.ands[i] := by unfold andAt; simp [hlt]
        rw [hx] at hle hri'
        generalize hxx : c.ands[i] = x at *
        have hmB : ∀ z, z ∈ gateB t c i ↔ (kindAt t (x.2.1 / 2) = 3 ∧ atOf t (x.2.1 / 2) = z) ∨ (kindAt t (x.2.2 / 2) = 3 ∧ atOf t (x.2.2 / 2) = z) := fun z => by
          rw [mem_gateB hri, hx]
          constructor
          · rintro ⟨l, rfl | rfl, h1, h2⟩
            · exact .inl ⟨h1, h2⟩
            · exact .inr ⟨h1, h2⟩
          · rintro (⟨h1, h2⟩ | ⟨h1, h2⟩)
            · exact ⟨_, .inl rfl, h1, h2⟩
            · exact ⟨_, .inr rfl, h1, h2⟩
        obtain ⟨hl0, hl1, hl2⟩ := hle
        obtain ⟨hr0, hr1, hr2⟩ := hri'
        have hcl := L_cell (ls := gatesM c) (y := x.2.1 / 2) (by unfold rg; rw [hgl]; omega)
        have hcr := L_cell (ls := gatesM c) (y := x.2.2 / 2) (by unfold rg; rw [hgl]; omega)
        have ha : (L (gatesM c) (x.2.1 / 2) < 0 ∧ kindAt t (x.2.1 / 2) ≠ 3) ∨ (rg c.ands.length (L (gatesM c) (x.2.1 / 2)) ∧ kindAt t (x.2.1 / 2) = 3 ∧ atOf t (x.2.1 / 2) = L (gatesM c) (x.2.1 / 2)) := by
          rcases hl2 with ⟨h1, h2, h3, _⟩ | ⟨h1, h2⟩
          · exact .inr ⟨by rw [h2]; exact h3, h1, h2.symm⟩
          · exact .inl ⟨by rw [h2]; decide, h1⟩
        have hb : (L (gatesM c) (x.2.2 / 2) < 0 ∧ kindAt t (x.2.2 / 2) ≠ 3) ∨ (rg c.ands.length (L (gatesM c) (x.2.2 / 2)) ∧ kindAt t (x.2.2 / 2) = 3 ∧ atOf t (x.2.2 / 2) = L (gatesM c) (x.2.2 / 2)) := by
          rcases hr2 with ⟨h1, h2, h3, _⟩ | ⟨h1, h2⟩
          · exact .inr ⟨by rw [h2]; exact h3, h1, h2.symm⟩
          · exact .inl ⟨by rw [h2]; decide, h1⟩
        clear hl2 hr2
        generalize L (gatesM c) (x.2.1 / 2) = a at *
        generalize L (gatesM c) (x.2.2 / 2) = bb at *
        have e6 : (ccells c h)[0 + 8]? = some (.slice (some p) c.ands.length (h 8).2) := by rw [← hp]; rfl
        have hsl := hS3.len
        have hca : rg c.ands.length a → Sn dn a = true → (dn.map Value.bool)[0 + a.toNat * 1]? = some (.bool true) := fun h1 h2 => by rw [Sn_cell (by rw [hsl]; exact h1), h2]
        have hcb : rg c.ands.length bb → Sn dn bb = true → (dn.map Value.bool)[0 + bb.toNat * 1]? = some (.bool true) := fun h1 h2 => by rw [Sn_cell (by rw [hsl]; exact h1), h2]
        have hfa : rg c.ands.length a → Sn dn a = false → (dn.map Value.bool)[0 + a.toNat * 1]? = some (.bool false) := fun h1 h2 => by rw [Sn_cell (by rw [hsl]; exact h1), h2]
        have hfb : rg c.ands.length bb → Sn dn bb = false → (dn.map Value.bool)[0 + bb.toNat * 1]? = some (.bool false) := fun h1 h2 => by rw [Sn_cell (by rw [hsl]; exact h1), h2]
        have hra : rg c.ands.length a → 0 ≤ a ∧ a < c.ands.length := id
        have hrb : rg c.ands.length bb → 0 ≤ bb ∧ bb < c.ands.length := id
        repeat' (first
 | (apply X_loadR; eq_refl; exact hdone; exact hcell)
 | (apply WC_seqK; intro K hK)
 | (apply hK; clear hK)
 | (apply WC_block)
 | (apply WC_region)
 | (apply WL_nil)
 | (apply thenQ_normal)
 | (apply WC_skip)
 | (apply WC_if_true; eq_refl)
 | (apply WC_if_false; eq_refl)
 | (apply WL_on0; eq_refl)
 | (apply X_pv; eq_refl; first | exact trivial | omega)
 | (apply X_field; eq_refl)
 | (apply X_loadR; eq_refl; (first | assumption | (apply Blk.alloc; assumption) | apply Blk.new | apply Blk.newA | (apply Blk.alloc; first | apply Blk.newA | (apply Blk.alloc; first | assumption | apply Blk.newA))); eq_refl)
 | (apply X_cmpT; eq_refl; eq_refl; omega)
 | (apply X_len; eq_refl)
 | (apply X_index; eq_refl; eq_refl; omega; omega))
        refine WC_draws [(0, true), (1, true), (2, true), (3, true), (4, true), (5, true), (6, true), (7, true), (8, true), (9, true), (10, true), (11, true), (12, true), (13, true), (14, true), (15, true), (16, true), (17, true), (18, true), (19, true), (20, true), (21, true)] (fun W => TolSt w W c h t g D out dn vo) mixed (by kernel_rfl) (by kernel_rfl) ?_
        have hS := hS3.same (Chg.refl w3 none_).dr
        have hdone' := hS.done
        by_cases hcan : CanTell c.ands.length (gateB t c) out i
        · have ha' : a < 0 ∨ (rg c.ands.length a ∧ Sn dn a = true ∧ 0 ≤ a ∧ a < c.ands.length) := by
            rcases ha with ⟨h1, _⟩ | ⟨h1, h2, h3⟩
            · exact .inl h1
            · exact .inr ⟨h1, (hS.mem a h1).2 (hcan.low a ((hmB a).2 (.inl ⟨h2, h3⟩))), hra h1⟩
          have hb' : bb < 0 ∨ (rg c.ands.length bb ∧ Sn dn bb = true ∧ 0 ≤ bb ∧ bb < c.ands.length) := by
            rcases hb with ⟨h1, _⟩ | ⟨h1, h2, h3⟩
            · exact .inl h1
            · exact .inr ⟨h1, (hS.mem bb h1).2 (hcan.low bb ((hmB bb).2 (.inr ⟨h2, h3⟩))), hrb h1⟩
          clear ha hb hmB hfa hfb hra hrb
          have htell : Told c.ands.length (gateB t c) (out ++ [(i : Int)]) := .snoc hS.told hcan fun y hy => by
            rcases Int.lt_or_le y (i : Int) with h1 | h1
            · exact absurd hy (hno y h1)
            · exact h1
          have hsize := htell.size
          simp only [List.length_append, List.length_singleton] at hsize
          rcases ha' with ha' | ⟨ha', hta, ha0, ha1⟩ <;> rcases hb' with hb' | ⟨hb', htb, hb0, hb1⟩
          all_goals
            repeat' (first
 | (apply O_loadR; eq_refl; (exact fun _ h => h.box); exact e6; assumption)
 | (apply O_loadC; eq_refl; (exact fun W h => cel_chg (hpc 1 _ rfl) h.chg id); assumption)
 | (apply O_loadC; eq_refl; (exact fun W h => cel_chg (hpc 2 _ rfl) h.chg id); assumption)
 | (apply O_loadR; eq_refl; (exact fun _ h => h.gate); exact hcl; assumption)
 | (apply O_loadR; eq_refl; (exact fun _ h => h.gate); exact hcr; assumption)
 | (apply X_loadR; eq_refl; exact hdone'; (exact hca (by assumption) (by assumption)))
 | (apply X_loadR; eq_refl; exact hdone'; (exact hcb (by assumption) (by assumption)))
 | (apply WC_seqK; intro K hK)
 | (apply hK; clear hK)
 | (apply WC_region)
 | (apply WL_nil)
 | (apply thenQ_normal)
 | (apply WC_if_true; eq_refl)
 | (apply WS_nil)
 | (apply WS_next; eq_refl)
 | (apply WO_on0; eq_refl)
 | (apply O_pv; eq_refl; (first | exact trivial | omega); (first | assumption | exact trivial))
 | (apply O_field; eq_refl; (first | assumption | exact trivial))
 | (apply O_index; eq_refl; eq_refl; omega; omega; (first | assumption | exact trivial))
 | (apply O_indexP; eq_refl; eq_refl; omega; omega; (first | assumption | exact trivial))
 | (apply O_fieldP; eq_refl; (first | assumption | exact trivial))
 | (apply WL_on0; eq_refl)
 | (apply WL_onG; eq_refl; eq_refl; eq_refl; eq_refl)
 | (apply WL_noG; eq_refl; eq_refl; eq_refl; eq_refl)
 | (apply X_pv; eq_refl; first | exact trivial | omega)
 | (apply X_cmpT; eq_refl; eq_refl; omega)
 | (apply X_cmpF; eq_refl; eq_refl; omega)
 | (apply X_index; eq_refl; eq_refl; omega; omega))
          all_goals
            refine X_doesU (does_store1 (t1 := 4) (b := D) (o := 0 + (i : Int).toNat * 1) (v := .bool true) (by eq_refl) (by eq_refl) hdone' (by simp; omega) rfl rfl) ?_
            have hcc : Chg w3.drew (w3.drew.setRow D ((dn.map Value.bool).set (0 + (i : Int).toNat * 1) (.bool true)).toArray) (fun k => k = D) := Chg.setRow _ _ _ rfl
            have hD2 := hdone'.set ((dn.map Value.bool).set (0 + (i : Int).toNat * 1) (.bool true))
            rw [show (dn.map Value.bool).set (0 + (i : Int).toNat * 1) (.bool true) = (dn.set i true).map Value.bool by rw [Nat.zero_add, Nat.mul_one, List.map_set, Int.toNat_natCast]] at hcc hD2 ⊢
            have hrow2 := own_chg hS.row hcc fun k hk hh => by have := (hS.row.lt k hk).1; omega
            have hbox2 := hS.box.chg hcc (by omega)
            have hgate2 := hS.gate.chg hcc (by omega)
            have hC2 := hS.chg.trans hcc fun k hk hh => by omega
            generalize w3.drew.setRow D ((dn.set i true).map Value.bool).toArray = w4 at *
            repeat' (first
 | (apply WC_seqK; intro K hK)
 | (apply hK; clear hK)
 | (apply WC_region)
 | (apply WL_nil)
 | (apply thenQ_normal)
 | (apply WL_on0; eq_refl)
 | (apply X_pv; eq_refl; first | exact trivial | omega)
 | (apply X_does; apply buildS22_1 <;> eq_refl))
          all_goals
            refine X_append (D + 1) (by eq_refl) (by eq_refl) (hrow2.alloc _) (Blk.newA w4 _ _) rfl rfl (by decide) (by simp [Value.oneCell']) (by omega) (by decide) (by have := hD2.lt; simp; omega) ?_
            intro vo' w5 hrow5 hC5 _ _
            have hown : ∀ k, vo.ownBlock = some k → D + 1 ≤ k := fun k hk => (hrow2.lt k hk).1
            have hC5' : Chg w w5 none_ := (hC2.al _).trans hC5 fun k hk hh => by have := hown k hh; omega
            have hS5 : TolSt w w5 c h t g D (out ++ [(i : Int)]) (dn.set i true) vo' := by
              refine ⟨hC5', (hbox2.alloc _).chg hC5 fun hh => by have := hown _ hh; omega, (hgate2.alloc _).chg hC5 fun hh => by have := hown _ hh; omega, (hD2.alloc _).chg hC5 fun hh => by have := hown _ hh; omega, by simpa using hrow5, by rw [List.length_set]; exact hsl, htell, fun y hy => ?_⟩
              have hss := Sn_set (sn := dn) (i := (i : Int)) true (by rw [hsl]; exact hri) hy.1
              rw [Int.toNat_natCast] at hss
              rw [hss, List.mem_append, List.mem_singleton]
              split
              · rename_i e; simp [e]
              · rename_i e; rw [hS.mem y hy]; simp [e]
            repeat' (first
 | (apply WC_seqK; intro K hK)
 | (apply hK; clear hK)
 | (apply WC_region)
 | (apply WL_nil)
 | (apply thenQ_normal)
 | (apply thenQ_exit)
 | (apply blockQ_hit)
 | (apply blockQ_miss; eq_refl)
 | (apply blockQ_normal)
 | (apply WC_exit)
 | (apply WL_on0; eq_refl)
 | (apply X_pv; eq_refl; first | exact trivial | omega))
            exact ⟨(out ++ [(i : Int)], dn.set i true, vo', true), ⟨rfl, rfl, rfl, rfl, rfl, trivial⟩, ⟨hS5, fun h => (by cases h)⟩, by simp only [List.length_append, List.length_singleton]; simp; omega⟩
        · have hz : (rg c.ands.length a ∧ Sn dn a = false ∧ 0 ≤ a ∧ a < c.ands.length) ∨ ((a < 0 ∨ (rg c.ands.length a ∧ Sn dn a = true ∧ 0 ≤ a ∧ a < c.ands.length)) ∧ rg c.ands.length bb ∧ Sn dn bb = false ∧ 0 ≤ bb ∧ bb < c.ands.length) := by
            rcases ha with ⟨h1, h1'⟩ | ⟨h1, h2, h3⟩
            · rcases hb with ⟨g1, g1'⟩ | ⟨g1, g2, g3⟩
              · refine absurd ⟨hri, hnew, fun z hz => ?_⟩ hcan
                rcases (hmB z).1 hz with ⟨e, _⟩ | ⟨e, _⟩
                · exact absurd e h1'
                · exact absurd e g1'
              · refine .inr ⟨.inl h1, g1, ?_, hrb g1⟩
                cases hsb : Sn dn bb with
                | false => rfl
                | true =>
                  refine absurd ⟨hri, hnew, fun z hz => ?_⟩ hcan
                  rcases (hmB z).1 hz with ⟨e, _⟩ | ⟨e, e2⟩
                  · exact absurd e h1'
                  · rw [← e2, g3]; exact (hS.mem bb g1).1 hsb
            · cases hsa : Sn dn a with
              | false => exact .inl ⟨h1, rfl, hra h1⟩
              | true =>
                refine .inr ⟨.inr ⟨h1, rfl, hra h1⟩, ?_⟩
                rcases hb with ⟨g1, g1'⟩ | ⟨g1, g2, g3⟩
                · refine absurd ⟨hri, hnew, fun z hz => ?_⟩ hcan
                  rcases (hmB z).1 hz with ⟨e, e2⟩ | ⟨e, _⟩
                  · rw [← e2, h3]; exact (hS.mem a h1).1 hsa
                  · exact absurd e g1'
                · refine ⟨g1, ?_, hrb g1⟩
                  cases hsb : Sn dn bb with
                  | false => rfl
                  | true =>
                    refine absurd ⟨hri, hnew, fun z hz => ?_⟩ hcan
                    rcases (hmB z).1 hz with ⟨e, e2⟩ | ⟨e, e2⟩
                    · rw [← e2, h3]; exact (hS.mem a h1).1 hsa
                    · rw [← e2, g3]; exact (hS.mem bb g1).1 hsb
          clear ha hb hmB hra hrb
          rcases hz with ⟨ha', hta, ha0, ha1⟩ | ⟨ha' | ⟨ha', hta, ha0, ha1⟩, hb', htb, hb0, hb1⟩
          all_goals
            repeat' (first
 | (apply O_loadR; eq_refl; (exact fun _ h => h.box); exact e6; assumption)
 | (apply O_loadC; eq_refl; (exact fun W h => cel_chg (hpc 1 _ rfl) h.chg id); assumption)
 | (apply O_loadC; eq_refl; (exact fun W h => cel_chg (hpc 2 _ rfl) h.chg id); assumption)
 | (apply O_loadR; eq_refl; (exact fun _ h => h.gate); exact hcl; assumption)
 | (apply O_loadR; eq_refl; (exact fun _ h => h.gate); exact hcr; assumption)
 | (apply X_loadR; eq_refl; exact hdone'; (exact hca (by assumption) (by assumption)))
 | (apply X_loadR; eq_refl; exact hdone'; (exact hfa (by assumption) (by assumption)))
 | (apply X_loadR; eq_refl; exact hdone'; (exact hfb (by assumption) (by assumption)))
 | (apply WL_noU; eq_refl; eq_refl; eq_refl)
 | (apply WC_seqK; intro K hK)
 | (apply hK; clear hK)
 | (apply WC_region)
 | (apply WL_nil)
 | (apply thenQ_normal)
 | (apply blockQ_normal)
 | (apply WC_skip)
 | (apply WC_if_false; eq_refl)
 | (apply WS_nil)
 | (apply WS_next; eq_refl)
 | (apply WO_on0; eq_refl)
 | (apply O_pv; eq_refl; (first | exact trivial | omega); (first | assumption | exact trivial))
 | (apply O_field; eq_refl; (first | assumption | exact trivial))
 | (apply O_index; eq_refl; eq_refl; omega; omega; (first | assumption | exact trivial))
 | (apply O_indexP; eq_refl; eq_refl; omega; omega; (first | assumption | exact trivial))
 | (apply O_fieldP; eq_refl; (first | assumption | exact trivial))
 | (apply WL_on0; eq_refl)
 | (apply WL_onG; eq_refl; eq_refl; eq_refl; eq_refl)
 | (apply WL_noG; eq_refl; eq_refl; eq_refl; eq_refl)
 | (apply X_pv; eq_refl; first | exact trivial | omega)
 | (apply X_cmpT; eq_refl; eq_refl; omega)
 | (apply X_cmpF; eq_refl; eq_refl; omega)
 | (apply X_index; eq_refl; eq_refl; omega; omega))
          all_goals
            refine ⟨i + 1, ⟨rfl, rfl, rfl, rfl, rfl, rfl, trivial⟩, ⟨hS, hlt, fun y hy hc => ?_⟩, by omega⟩
            rcases Int.lt_or_le y (i : Int) with h1 | h1
            · exact hno y h1 hc
            · have : y = i := by omega
              subst this
              exact hcan hc
    · obtain rfl : i = c.ands.length := by omega
      repeat' (first
 | (apply WC_seqK; intro K hK)
 | (apply hK; clear hK)
 | (apply WC_region)
 | (apply WL_nil)
 | (apply thenQ_normal)
 | (apply thenQ_exit)
 | (apply blockQ_hit)
 | (apply blockQ_normal)
 | (apply WC_exit)
 | (apply WC_if_false; eq_refl)
 | (apply WL_on0; eq_refl)
 | (apply X_pv; eq_refl; first | exact trivial | omega)
 | (apply X_field; eq_refl)
 | (apply X_loadR; eq_refl; (first | assumption | (apply Blk.alloc; assumption) | apply Blk.new | apply Blk.newA | (apply Blk.alloc; first | apply Blk.newA | (apply Blk.alloc; first | assumption | apply Blk.newA))); eq_refl)
 | (apply X_cmpF; eq_refl; eq_refl; omega)
 | (apply X_len; eq_refl))
      refine ⟨(out, dn, vo, false), ⟨rfl, rfl, rfl, rfl, rfl, trivial⟩, ⟨hS3, fun _ => ⟨hS3.told, fun y hy => hno y hy.rg.2 hy⟩⟩, by simp⟩
end SC
end Go.Proofs.Yticndofcfacopaa
end
section
/- trestleref03: round. -/
set_option linter.unusedVariables false
set_option linter.unusedSimpArgs false
namespace Go.Proofs.Yticndofcfacopaa
namespace SC
open Go.Proofs
/-- The search from a gate, first come first served: i of the list are done. -/
structure Bfs (n : Nat) (B : Int → List Int) (at_ : Int) (l : List Int) (sn : List Bool) (i : Nat) : Prop where
  len : sn.length = n
  head : l[0]? = some at_
  all : ∀ z ∈ l, rg n z ∧ (z = at_ ∨ Hangs B at_ z)
  seen : ∀ z, rg n z → Sn sn z = true → z ∈ l
  done : ∀ j (hj : j < l.length), j < i → ∀ u ∈ B l[j], u ≠ at_ ∧ u ∈ l
  cnt : l.length + sn.count false = n + 1
  le : i ≤ l.length
theorem Bfs.init {n : Nat} {B : Int → List Int} {at_ : Int} (h : rg n at_) : Bfs n B at_ [at_] (List.replicate n false) 0 :=
  ⟨by simp, rfl, fun z hz => by simp at hz; subst hz; exact ⟨h, .inl rfl⟩, fun z _ hz => (by rw [Sn_false] at hz; cases hz), fun j _ hj => absurd hj (Nat.not_lt_zero _), by simp; omega, Nat.zero_le _⟩
theorem Bfs.hangs {n : Nat} {B : Int → List Int} {at_ : Int} {l : List Int} {sn : List Bool} {i : Nat} (h : Bfs n B at_ l sn i) {x u : Int} (hx : x ∈ l) (hu : u ∈ B x) : Hangs B at_ u := by
  rcases (h.all x hx).2 with rfl | hh
  · exact .one hu
  · exact .more hh hu
theorem Bfs.add {n : Nat} {B : Int → List Int} {at_ : Int} {l : List Int} {sn : List Bool} {i : Nat} (h : Bfs n B at_ l sn i) {u : Int} (hr : rg n u) (hh : Hangs B at_ u) (hs : Sn sn u = false) : Bfs n B at_ (l ++ [u]) (sn.set u.toNat true) i := by
  have hul : u.toNat < sn.length := by have := h.len; unfold rg at hr; omega
  have hc : (sn.set u.toNat true).count false + 1 = sn.count false := count_set _ _ (by
    rw [List.getElem?_eq_getElem hul]
    unfold Sn at hs
    simpa [hul] using hs)
  have hpos : 0 < l.length := (List.getElem?_eq_some_iff.1 h.head).1
  have hle := h.le
  refine ⟨by rw [List.length_set]; exact h.len, by rw [List.getElem?_append_left hpos]; exact h.head, fun z hz => ?_, fun z hz hz2 => ?_, fun j hj hji v hv => ?_, ?_, by simp; omega⟩
  · rcases List.mem_append.1 hz with hz | hz
    · exact h.all z hz
    · simp at hz; subst hz; exact ⟨hr, .inr hh⟩
  · rw [Sn_set true (by rw [h.len]; exact hr) hz.1] at hz2
    split at hz2
    · rename_i e; subst e; simp
    · exact List.mem_append_left _ (h.seen z hz hz2)
  · rcases Nat.lt_or_ge j l.length with hjl | hjl
    · rw [List.getElem_append_left hjl] at hv
      obtain ⟨h1, h2⟩ := h.done j hjl hji v hv
      exact ⟨h1, List.mem_append_left _ h2⟩
    · omega
  · have := h.cnt
    rw [List.length_append, List.length_singleton]
    omega
theorem Bfs.next {n : Nat} {B : Int → List Int} {at_ : Int} {l : List Int} {sn : List Bool} {i : Nat} (h : Bfs n B at_ l sn i) (hi : i < l.length) (hu : ∀ u ∈ B l[i], u ≠ at_ ∧ u ∈ l) : Bfs n B at_ l sn (i + 1) :=
  ⟨h.len, h.head, h.all, h.seen, fun j hj hji u hh => by
    rcases Nat.lt_or_ge j i with h1 | h1
    · exact h.done j hj h1 u hh
    · have e : j = i := by omega
      subst e
      exact hu u hh, h.cnt, hi⟩
theorem Bfs.none {n : Nat} {B : Int → List Int} {at_ : Int} {l : List Int} {sn : List Bool} {i : Nat} (h : Bfs n B at_ l sn i) (hi : l.length ≤ i) : ¬ Hangs B at_ at_ := by
  have key : ∀ z, Hangs B at_ z → z ≠ at_ ∧ z ∈ l := fun z hz => by
    have cl : ∀ x ∈ l, ∀ u ∈ B x, u ≠ at_ ∧ u ∈ l := fun x hx u hu => by
      obtain ⟨j, hj, rfl⟩ := List.mem_iff_getElem.1 hx
      exact h.done j hj (by omega) u hu
    generalize hv : at_ = v at hz
    have hat : at_ ∈ l := List.mem_of_getElem? h.head
    induction hz with
    | one h1 => subst hv; exact cl _ hat _ h1
    | more _ h1 ih => subst hv; exact cl _ ih.2 _ h1
  exact fun hh => (key _ hh).1 rfl
theorem Bfs.size {n : Nat} {B : Int → List Int} {at_ : Int} {l : List Int} {sn : List Bool} {i : Nat} (h : Bfs n B at_ l sn i) : l.length ≤ n + 1 := by have := h.cnt; omega
/-- What round keeps in memory. -/
structure RndSt (w W : World) (c : Circ) (h : Hd) (g D : Nat) (l : List Int) (sn : List Bool) (v : Value) : Prop where
  chg : Chg w W none_
  box : Blk W w.heap.size 29 (ccells c h)
  gate : Blk W g 3 ((gatesM c).map nu)
  seen : Blk W D 4 (sn.map Value.bool)
  row : W.ownsRow (D + 1) 3 1 v l.length (l.map nu)
theorem RndSt.same {w W W' : World} {c : Circ} {h : Hd} {g D : Nat} {l : List Int} {sn : List Bool} {v : Value} (S : RndSt w W c h g D l sn v) (hc : Chg W W' none_) : RndSt w W' c h g D l sn v :=
  ⟨S.chg.trans hc fun _ _ h => h, S.box.chg hc id, S.gate.chg hc id, S.seen.chg hc id, own_chg S.row hc fun _ _ => id⟩
section
variable {P : Program} {n : Nat} {all : List Oper} {S : World → Prop} {K : Env → World → Prop} {i : Nat} {r : List (Nat × Bool)} {d : Option Tmp} {ty t : TypeId} {e : Env} {w : World} {td : TypeDesc} {sz by_ : Nat} {zv : Value} {ag : Bool}
theorem O_alloc [T : Ty P t td sz zv by_ ag] (hS : loose .any all.toArray i = false → S (w.alloc (.cells zv.cells t))) (hr : WS P n all S K r (push d (.pointer (some ⟨w.heap.size, 0, none⟩)) e) (w.alloc (.cells zv.cells t))) : OX P n all S K i false r d (.alloc t) ty e w := O_does does_alloc hS hr
end
attribute [local irreducible] WC WL WX WS WO OX Does DoesU Enters CV Pure thenQ blockQ retQ Wants retQC
set_option maxRecDepth 100000
theorem round_cv {w : World} {c : Circ} {h js : Hd} {t : Tab} {g : Nat} {at_ : Int} (H : CirAt w c h js) (hG : Blk w g 3 ((gatesM c).map nu)) (hT : TabOk c t) (hU : UseAll c t) (hm : 0 ≤ c.max ∧ c.max ≤ 16384) (hn : c.ands.length ≤ 16384) (hat : rg c.ands.length at_) :
    CV Try.prog 101 [.agg (ccells c h).toArray, .slice (some ⟨g, 0, none⟩) (gatesM c).length (gatesM c).length, nu at_] w fun v w' => ∃ b, v = .bool b ∧ (b = true ↔ Hangs (gateB t c) at_ at_) ∧ Chg w w' none_ := by
  have hI0 : Blk (w.alloc (.cells (ccells c h).toArray 29)) w.heap.size 29 (ccells c h) := Blk.new w _ _
  have hC0 := Chg.alloc w (.cells (ccells c h).toArray 29) none_
  have hgl := gatesM_len c
  have hg0 := hG.lt
  refine enter 79 [6] Try.func101 rfl rfl rfl (by decide) rfl ?_
  repeat' (first
 | (apply X_make; eq_refl; omega; omega)
 | (apply WC_seqK; intro K hK)
 | (apply hK; clear hK)
 | (apply WC_block)
 | (apply WC_region)
 | (apply WL_nil)
 | (apply thenQ_normal)
 | (apply WL_on0; eq_refl)
 | (apply X_pv; eq_refl; first | exact trivial | omega)
 | (apply X_field; eq_refl)
 | (apply X_loadR; eq_refl; (first | assumption | (apply Blk.alloc; assumption) | apply Blk.new | apply Blk.newA | (apply Blk.alloc; first | apply Blk.newA | (apply Blk.alloc; first | assumption | apply Blk.newA))); eq_refl)
 | (apply X_len; eq_refl)
 | (apply X_box; eq_refl)
 | (apply X_does; apply buildS22_1 <;> eq_refl))
  have hz0 := sz_alloc w (.cells (ccells c h).toArray 29)
  have hz1 := sz_alloc (w.alloc (.cells (ccells c h).toArray 29)) (.cells (madeCells (Value.bool false).cells (c.ands.length * 1)) 4)
  have hdm : Blk ((w.alloc (.cells (ccells c h).toArray 29)).alloc (.cells (madeCells (Value.bool false).cells (c.ands.length * 1)) 4)) (w.alloc (.cells (ccells c h).toArray 29)).heap.size 4 ((List.replicate c.ands.length false).map Value.bool) := by
    have e1 : (madeCells (Value.bool false).cells (c.ands.length * 1)).toList = (List.replicate c.ands.length false).map Value.bool := by rw [Nat.mul_one, show (Value.bool false).cells = #[Value.bool false] from rfl, made_one, List.map_replicate]
    have := Blk.newA (w.alloc (.cells (ccells c h).toArray 29)) (madeCells (Value.bool false).cells (c.ands.length * 1)) 4
    rwa [e1] at this
  have hS0 : RndSt w (((w.alloc (.cells (ccells c h).toArray 29)).alloc (.cells (madeCells (Value.bool false).cells (c.ands.length * 1)) 4)).alloc (.cells #[nu at_] 3)) c h g (w.alloc (.cells (ccells c h).toArray 29)).heap.size [at_] (List.replicate c.ands.length false) (.slice (some ⟨((w.alloc (.cells (ccells c h).toArray 29)).alloc (.cells (madeCells (Value.bool false).cells (c.ands.length * 1)) 4)).heap.size, 0, none⟩) 1 1) :=
    ⟨(hC0.al _).al _, (hI0.alloc _).alloc _, ((hG.alloc _).alloc _).alloc _, hdm.alloc _, ⟨by simp, .inr ⟨_, 1, #[nu at_], rfl, by rw [hz1]; exact Nat.le_refl _, heap_alloc_new _ _, Nat.le_refl _, by simp [maxLen], rfl, rfl⟩⟩⟩
  have hDw : w.heap.size < (w.alloc (.cells (ccells c h).toArray 29)).heap.size := by omega
  refine WC_loop (fun s : Nat × List Int × List Bool × Value => [(1, .slice (some ⟨g, 0, none⟩) (gatesM c).length (gatesM c).length), (2, nu at_), (3, pt w.heap.size), (7, .slice (some ⟨(w.alloc (.cells (ccells c h).toArray 29)).heap.size, 0, none⟩) c.ands.length c.ands.length), (8, s.2.2.2), (9, nu s.1)])
    (fun s W => RndSt w W c h g (w.alloc (.cells (ccells c h).toArray 29)).heap.size s.2.1 s.2.2.1 s.2.2.2 ∧ Bfs c.ands.length (gateB t c) at_ s.2.1 s.2.2.1 s.1) (fun s => c.ands.length + 2 - s.1)
    (0, [at_], List.replicate c.ands.length false, .slice (some ⟨((w.alloc (.cells (ccells c h).toArray 29)).alloc (.cells (madeCells (Value.bool false).cells (c.ands.length * 1)) 4)).heap.size, 0, none⟩) 1 1) ⟨rfl, rfl, rfl, rfl, rfl, rfl, trivial⟩ ⟨hS0, .init hat⟩ ?_
  clear hS0 hdm hI0 hC0 hz0 hz1
  generalize (w.alloc (.cells (ccells c h).toArray 29)).heap.size = D at *
  rintro ⟨i, l, sn, vl⟩ w1 ⟨hS1, hB1⟩
  simp only at hS1 hB1
  obtain ⟨A1, cp1, rfl⟩ := row_form' hS1.row
  have hsz := hB1.size
  rcases Nat.lt_or_ge i l.length with hlt | hge
  · obtain ⟨p, rfl, hpc⟩ := (rowI hS1.row).one hlt (v := nu l[i]) rfl
    have hz := hB1.all _ (List.getElem_mem hlt)
    have hnx := hB1.next hlt
    have hlz := List.getElem_mem hlt
    generalize hzz : l[i] = z at *
    obtain ⟨hzr, hzh⟩ := hz
    have hzr' : 0 ≤ z ∧ z < c.ands.length := hzr
    have hzn : z.toNat < c.ands.length := by omega
    obtain ⟨q, hq, hqc⟩ := H.ands z.toNat hzn
    have hx : andAt c z = c.ands[z.toNat] := by unfold andAt; simp [hzn]
    have hle := hT.lit hU hzr (.inl rfl)
    have hri := hT.lit hU hzr (.inr rfl)
    rw [hx] at hle hri
    rw [show ((z.toNat : Nat) : Int) = z by omega] at hqc
    generalize hxx : c.ands[z.toNat] = x at *
    have hmB : ∀ u, u ∈ gateB t c z ↔ (kindAt t (x.2.1 / 2) = 3 ∧ atOf t (x.2.1 / 2) = u) ∨ (kindAt t (x.2.2 / 2) = 3 ∧ atOf t (x.2.2 / 2) = u) := fun u => by
      rw [mem_gateB hzr, hx]
      constructor
      · rintro ⟨l, rfl | rfl, h1, h2⟩
        · exact .inl ⟨h1, h2⟩
        · exact .inr ⟨h1, h2⟩
      · rintro (⟨h1, h2⟩ | ⟨h1, h2⟩)
        · exact ⟨_, .inl rfl, h1, h2⟩
        · exact ⟨_, .inr rfl, h1, h2⟩
    obtain ⟨hl0, hl1, hl2⟩ := hle
    obtain ⟨hr0, hr1, hr2⟩ := hri
    have hcl := L_cell (ls := gatesM c) (y := x.2.1 / 2) (by unfold rg; rw [hgl]; omega)
    have hcr := L_cell (ls := gatesM c) (y := x.2.2 / 2) (by unfold rg; rw [hgl]; omega)
    have hab : ∀ u : Int, 0 ≤ u → (L (gatesM c) (x.2.1 / 2) = u ∨ L (gatesM c) (x.2.2 / 2) = u) → rg c.ands.length u ∧ u ∈ gateB t c z := fun u hu hh => by
      rcases hh with rfl | rfl
      · rcases hl2 with ⟨_, h2, h3, h4⟩ | ⟨_, h2⟩
        · rw [h2]; exact ⟨h3, h4⟩
        · omega
      · rcases hr2 with ⟨_, h2, h3, h4⟩ | ⟨_, h2⟩
        · rw [h2]; exact ⟨h3, h4⟩
        · omega
    have hBab : ∀ u ∈ gateB t c z, 0 ≤ u ∧ (L (gatesM c) (x.2.1 / 2) = u ∨ L (gatesM c) (x.2.2 / 2) = u) := fun u hu => by
      rcases (hmB u).1 hu with ⟨h1, h2⟩ | ⟨h1, h2⟩
      · rcases hl2 with ⟨_, g2, g3, _⟩ | ⟨g1, _⟩
        · unfold rg at g3; exact ⟨by omega, .inl (g2.trans h2)⟩
        · exact absurd h1 g1
      · rcases hr2 with ⟨_, g2, g3, _⟩ | ⟨g1, _⟩
        · unfold rg at g3; exact ⟨by omega, .inr (g2.trans h2)⟩
        · exact absurd h1 g1
    clear hl2 hr2 hmB
    generalize L (gatesM c) (x.2.1 / 2) = a at *
    generalize L (gatesM c) (x.2.2 / 2) = bb at *
    have e6 : (ccells c h)[0 + 8]? = some (.slice (some q) c.ands.length (h 8).2) := by rw [← hq]; rfl
    repeat' (first
 | (apply WC_seqK; intro K hK)
 | (apply hK; clear hK)
 | (apply WC_block)
 | (apply WC_region)
 | (apply WL_nil)
 | (apply thenQ_normal)
 | (apply WC_skip)
 | (apply WC_if_true; eq_refl)
 | (apply WL_on0; eq_refl)
 | (apply X_pv; eq_refl; first | exact trivial | omega)
 | (apply X_cmpT; eq_refl; eq_refl; omega)
 | (apply X_len; eq_refl))
    refine WC_draws [(0, true), (1, true), (2, true), (3, true), (4, true), (5, true), (6, true), (7, true), (8, false), (9, false)] (fun W => Chg w1.drew W none_) mixed (by kernel_rfl) (by kernel_rfl) ?_
    have hS2 := hS1.same (Chg.refl w1 none_).dr
    have hpc2 : w1.drew.cell? _ = _ := hpc
    generalize w1.drew = w2 at *
    have hR := Chg.refl w2 none_
    repeat' (first
 | (apply O_loadR; eq_refl; (exact fun _ h => hS2.box.chg h id); exact e6; assumption)
 | (apply O_loadC; eq_refl; (exact fun W h => cel_chg hpc2 h id); assumption)
 | (apply O_loadAP (tcells x); eq_refl; eq_refl; (exact fun W h j u hj => cel_chg (hqc j u hj) (hS2.chg.trans h fun _ _ h => h) id); assumption)
 | (apply O_alloc; exact fun _ => hR.al _)
 | (apply WS_next; eq_refl)
 | (apply WO_on0; eq_refl)
 | (apply O_pv; eq_refl; (first | exact trivial | omega); (first | assumption | exact trivial))
 | (apply O_field; eq_refl; (first | assumption | exact trivial))
 | (apply O_indexP; eq_refl; eq_refl; omega; omega; (first | assumption | exact trivial)))
    have hcc : Chg w2 ((w2.alloc (.cells #[nu 0, nu 0, nu 0] 57)).setRow w2.heap.size (tcells x).toArray) none_ := (Chg.alloc w2 _ none_).trans (Chg.setRow _ w2.heap.size _ (S := fun k => k = w2.heap.size) rfl) fun k hk h => by omega
    refine O_doesU (does_storeA (t1 := 57) (vs := tcells x) (o := 0) (b := w2.heap.size) (by eq_refl) (by eq_refl) (Blk.newA w2 _ _) rfl (by exact Nat.le_refl 3) (by simp [tcells, Value.oneCell'])) (fun _ => hcc) ?_
    refine WS_turn (fun W => RndSt w W c h g D l sn (.slice (some p) l.length cp1) ∧ Blk W w2.heap.size 57 (tcells x)) ⟨hS2.same hcc, (Blk.newA w2 _ 57).set (tcells x)⟩ ?_
    clear hcc hR hS2 hpc2 hpc hS1
    generalize w2.heap.size = b10 at *
    rintro w3 ⟨hS3, hT3⟩
    repeat' (first
 | (apply WC_seqK; intro K hK)
 | (apply hK; clear hK)
 | (apply thenQ_normal)
 | (apply WS_nil))
    skip
    refine WC_draws [(0, true), (1, true), (2, true), (3, true), (4, true), (5, true), (6, true), (7, true), (8, true), (9, true), (10, true), (11, true), (12, true), (13, false), (14, false)] (fun W => Chg w3.drew W none_) mixed (by kernel_rfl) (by kernel_rfl) ?_
    have hS4 := hS3.same (Chg.refl w3 none_).dr
    have hT4 : Blk w3.drew b10 57 (tcells x) := hT3
    generalize w3.drew = w4 at *
    have hR := Chg.refl w4 none_
    repeat' (first
 | (apply O_loadR; eq_refl; (exact fun _ h => hT4.chg h id); eq_refl; assumption)
 | (apply O_loadR; eq_refl; (exact fun W h => hS4.gate.chg h id); exact hcl; assumption)
 | (apply O_loadR; eq_refl; (exact fun W h => hS4.gate.chg h id); exact hcr; assumption)
 | (apply O_alloc; exact fun _ => hR.al _)
 | (apply WS_next; eq_refl)
 | (apply WO_on0; eq_refl)
 | (apply O_pv; eq_refl; (first | exact trivial | omega); (first | assumption | exact trivial))
 | (apply O_field; eq_refl; (first | assumption | exact trivial))
 | (apply O_index; eq_refl; eq_refl; omega; omega; (first | assumption | exact trivial))
 | (apply O_pure; apply build169_0_1 <;> eq_refl; (first | assumption | exact trivial)))
    have hcc : Chg w4 ((w4.alloc (.cells #[nu 0, nu 0] 169)).setRow w4.heap.size [nu a, nu bb].toArray) none_ := (Chg.alloc w4 _ none_).trans (Chg.setRow _ w4.heap.size _ (S := fun k => k = w4.heap.size) rfl) fun k hk h => by omega
    refine O_doesU (does_storeA (t1 := 169) (vs := [nu a, nu bb]) (o := 0) (b := w4.heap.size) (by eq_refl) (by eq_refl) (Blk.newA w4 _ _) rfl (by exact Nat.le_refl 2) (by simp [Value.oneCell'])) (fun _ => hcc) ?_
    have hDb := hS4.seen.lt
    refine WS_turn (fun W => RndSt w W c h g D l sn (.slice (some p) l.length cp1) ∧ Blk W w4.heap.size 169 [nu a, nu bb]) ⟨hS4.same hcc, (Blk.newA w4 _ 169).set [nu a, nu bb]⟩ ?_
    clear hcc hR hS4 hS3 hT3 hT4
    generalize w4.heap.size = b11 at *
    rintro w5 ⟨hS5, hP5⟩
    repeat' (first
 | (apply WC_seqK; intro K hK)
 | (apply hK; clear hK)
 | (apply WC_block)
 | (apply WC_region)
 | (apply WL_nil)
 | (apply thenQ_normal)
 | (apply WS_nil)
 | (apply WL_on0; eq_refl)
 | (apply X_pv; eq_refl; first | exact trivial | omega))
    skip
    refine WC_loop (fun s : Nat × List Int × List Bool × Value => [(1, .slice (some ⟨g, 0, none⟩) (gatesM c).length (gatesM c).length), (2, nu at_), (3, pt w.heap.size), (7, .slice (some ⟨D, 0, none⟩) c.ands.length c.ands.length), (8, s.2.2.2), (9, nu i), (11, pt b11), (12, nu s.1)])
      (fun s W => RndSt w W c h g D s.2.1 s.2.2.1 s.2.2.2 ∧ Blk W b11 169 [nu a, nu bb] ∧ Bfs c.ands.length (gateB t c) at_ s.2.1 s.2.2.1 i ∧ s.2.1[i]? = some z ∧ s.1 ≤ 2 ∧ (∀ k < s.1, ∀ v, [a, bb][k]? = some v → 0 ≤ v → v ≠ at_ ∧ v ∈ s.2.1)) (fun s => 2 - s.1)
      (0, l, sn, .slice (some p) l.length cp1) ⟨rfl, rfl, rfl, rfl, rfl, rfl, rfl, rfl, trivial⟩ ⟨hS5, hP5, hB1, by rw [List.getElem?_eq_getElem hlt, hzz], Nat.zero_le _, fun k hk => absurd hk (Nat.not_lt_zero _)⟩ ?_
    clear hS5 hP5 hB1 hsz hnx hlz hzz hlt hzh
    rintro ⟨k, l, sn, vl⟩ w5 ⟨hS5, hP5, hB5, hli, hk, hno⟩
    simp only at hS5 hB5 hli hno hk
    have hsz := hB5.size
    have hlz : z ∈ l := List.mem_of_getElem? hli
    rcases Nat.lt_or_ge k 2 with hlt | hge
    · obtain ⟨v, hv1, hv2, hv3⟩ : ∃ v, [a, bb][k]? = some v ∧ [nu a, nu bb][0 + (k : Int).toNat * 1]? = some (nu v) ∧ (a = v ∨ bb = v) := by
        match k, hlt with
        | 0, _ => exact ⟨a, rfl, rfl, .inl rfl⟩
        | 1, _ => exact ⟨bb, rfl, rfl, .inr rfl⟩
      have hseen := hS5.seen
      have hno' : ∀ {l' : List Int}, (∀ y ∈ l, y ∈ l') → (0 ≤ v → v ≠ at_ ∧ v ∈ l') → ∀ k' < k + 1, ∀ u, [a, bb][k']? = some u → 0 ≤ u → u ≠ at_ ∧ u ∈ l' := fun {l'} hsub hv k' hk' u hu h0 => by
        rcases Nat.lt_or_ge k' k with h1 | h1
        · obtain ⟨g1, g2⟩ := hno k' h1 u hu h0
          exact ⟨g1, hsub _ g2⟩
        · have e : k' = k := by omega
          subst e
          rw [hv1] at hu
          cases hu
          exact hv h0
      by_cases hva : v = at_
      · have h0 : 0 ≤ v := by rw [hva]; exact hat.1
        have hh := hB5.hangs hlz (hab v h0 hv3).2
        rw [hva] at hv2 hh
        repeat' (first
 | (apply X_indexA; eq_refl; eq_refl; omega; omega)
 | (apply X_loadR; eq_refl; exact hP5; exact hv2)
 | (apply WC_seqK; intro K hK)
 | (apply hK; clear hK)
 | (apply WC_block)
 | (apply WC_region)
 | (apply WL_nil)
 | (apply thenQ_normal)
 | (apply thenQ_ret)
 | (apply blockQ_ret)
 | (apply WC_ret)
 | (apply WC_skip)
 | (apply WC_if_true; eq_refl)
 | (apply ret1; eq_refl)
 | (apply WL_on0; eq_refl)
 | (apply X_pv; eq_refl; first | exact trivial | omega)
 | (apply X_cmpT; eq_refl; eq_refl; omega))
        exact ⟨true, rfl, ⟨fun _ => hh, fun _ => rfl⟩, hS5.chg⟩
      · by_cases h0 : 0 ≤ v
        · obtain ⟨hvr, hvB⟩ := hab v h0 hv3
          have hvr' : 0 ≤ v ∧ v < c.ands.length := hvr
          have hcell := Sn_cell (sn := sn) (z := v) (by rw [hB5.len]; exact hvr)
          cases hsv : Sn sn v with
          | true =>
            rw [hsv] at hcell
            repeat' (first
 | (apply X_indexA; eq_refl; eq_refl; omega; omega)
 | (apply X_loadR; eq_refl; exact hP5; exact hv2)
 | (apply X_loadR; eq_refl; exact hseen; exact hcell)
 | (apply WC_seqK; intro K hK)
 | (apply hK; clear hK)
 | (apply WC_block)
 | (apply WC_region)
 | (apply WL_nil)
 | (apply thenQ_normal)
 | (apply blockQ_normal)
 | (apply WC_skip)
 | (apply WC_if_true; eq_refl)
 | (apply WC_if_false; eq_refl)
 | (apply WL_on0; eq_refl)
 | (apply WL_onG; eq_refl; eq_refl; eq_refl; eq_refl)
 | (apply X_pv; eq_refl; first | exact trivial | omega)
 | (apply X_cmpT; eq_refl; eq_refl; omega)
 | (apply X_cmpF; eq_refl; eq_refl; omega)
 | (apply X_index; eq_refl; eq_refl; omega; omega))
            exact ⟨(k + 1, l, sn, vl), ⟨rfl, rfl, rfl, rfl, rfl, rfl, rfl, rfl, trivial⟩, ⟨hS5, hP5, hB5, hli, hlt, hno' (fun _ h => h) fun _ => ⟨hva, hB5.seen v hvr hsv⟩⟩, by simp only; omega⟩
          | false =>
            rw [hsv] at hcell
            have hB6 := hB5.add hvr (hB5.hangs hlz hvB) hsv
            have hsl := hB5.len
            repeat' (first
 | (apply X_indexA; eq_refl; eq_refl; omega; omega)
 | (apply X_loadR; eq_refl; exact hP5; exact hv2)
 | (apply X_loadR; eq_refl; exact hseen; exact hcell)
 | (apply WC_seqK; intro K hK)
 | (apply hK; clear hK)
 | (apply WC_block)
 | (apply WC_region)
 | (apply WL_nil)
 | (apply thenQ_normal)
 | (apply WC_skip)
 | (apply WC_if_true; eq_refl)
 | (apply WC_if_false; eq_refl)
 | (apply WL_on0; eq_refl)
 | (apply WL_onG; eq_refl; eq_refl; eq_refl; eq_refl)
 | (apply X_pv; eq_refl; first | exact trivial | omega)
 | (apply X_cmpT; eq_refl; eq_refl; omega)
 | (apply X_cmpF; eq_refl; eq_refl; omega)
 | (apply X_index; eq_refl; eq_refl; omega; omega))
            refine X_doesU (does_store1 (t1 := 4) (b := D) (o := 0 + v.toNat * 1) (v := .bool true) (by eq_refl) (by eq_refl) hseen (by simp; omega) rfl rfl) ?_
            have hcc : Chg w5 (w5.setRow D ((sn.map Value.bool).set (0 + v.toNat * 1) (.bool true)).toArray) (fun k => k = D) := Chg.setRow _ _ _ rfl
            have hD2 := hseen.set ((sn.map Value.bool).set (0 + v.toNat * 1) (.bool true))
            rw [show (sn.map Value.bool).set (0 + v.toNat * 1) (.bool true) = (sn.set v.toNat true).map Value.bool by rw [Nat.zero_add, Nat.mul_one, List.map_set]] at hcc hD2 ⊢
            have hS6 : RndSt w (w5.setRow D ((sn.set v.toNat true).map Value.bool).toArray) c h g D l (sn.set v.toNat true) vl :=
              ⟨hS5.chg.trans hcc fun k hk hh => by omega, hS5.box.chg hcc (by omega), hS5.gate.chg hcc (by omega), hD2, own_chg hS5.row hcc fun k hk hh => by have := (hS5.row.lt k hk).1; omega⟩
            have hP6 := hP5.chg hcc (by omega)
            clear hcc hD2
            generalize w5.setRow D ((sn.set v.toNat true).map Value.bool).toArray = w6 at *
            repeat' (first
 | (apply X_indexA; eq_refl; eq_refl; omega; omega)
 | (apply X_loadR; eq_refl; exact hP6; exact hv2)
 | (apply hK; clear hK)
 | (apply WC_region)
 | (apply WL_nil)
 | (apply thenQ_normal)
 | (apply WL_on0; eq_refl)
 | (apply X_pv; eq_refl; first | exact trivial | omega)
 | (apply X_does; apply buildS22_1 <;> eq_refl))
            have hrow6 := hS6.row
            refine X_append (D + 1) (by eq_refl) (by eq_refl) (hrow6.alloc _) (Blk.newA w6 _ _) rfl rfl (by decide) (by simp [Value.oneCell']) (by omega) (by decide) (by have := hS6.seen.lt; simp; omega) ?_
            intro vl' w7 hrow7 hC7 _ _
            have hown : ∀ k, vl.ownBlock = some k → D + 1 ≤ k := fun k hk => (hrow6.lt k hk).1
            have hS7 : RndSt w w7 c h g D (l ++ [v]) (sn.set v.toNat true) vl' :=
              ⟨(hS6.chg.al _).trans hC7 fun k hk hh => by have := hown k hh; omega, (hS6.box.alloc _).chg hC7 fun hh => by have := hown _ hh; omega, (hS6.gate.alloc _).chg hC7 fun hh => by have := hown _ hh; omega, (hS6.seen.alloc _).chg hC7 fun hh => by have := hown _ hh; omega, by simpa using hrow7⟩
            have hP7 : Blk w7 b11 169 [nu a, nu bb] := (hP6.alloc (.cells #[nu v] 3)).chg hC7 (own_blk (hrow6.alloc (.cells #[nu v] 3)) (hP6.alloc (.cells #[nu v] 3)) (by decide))
            repeat' (first
 | (apply hK; clear hK)
 | (apply WC_region)
 | (apply WL_nil)
 | (apply thenQ_normal)
 | (apply blockQ_normal)
 | (apply WL_on0; eq_refl)
 | (apply X_pv; eq_refl; first | exact trivial | omega))
            have hil : i < l.length := (List.getElem?_eq_some_iff.1 hli).1
            exact ⟨(k + 1, l ++ [v], sn.set v.toNat true, vl'), ⟨rfl, rfl, rfl, rfl, rfl, rfl, rfl, rfl, trivial⟩, ⟨hS7, hP7, hB6, by rw [List.getElem?_append_left hil]; exact hli, hlt, hno' (fun _ h => List.mem_append_left _ h) fun _ => ⟨hva, by simp⟩⟩, by simp only; omega⟩
        · repeat' (first
 | (apply X_indexA; eq_refl; eq_refl; omega; omega)
 | (apply X_loadR; eq_refl; exact hP5; exact hv2)
 | (apply WC_seqK; intro K hK)
 | (apply hK; clear hK)
 | (apply WC_block)
 | (apply WC_region)
 | (apply WL_nil)
 | (apply thenQ_normal)
 | (apply blockQ_normal)
 | (apply WC_skip)
 | (apply WC_if_true; eq_refl)
 | (apply WC_if_false; eq_refl)
 | (apply WL_on0; eq_refl)
 | (apply WL_noG; eq_refl; eq_refl; eq_refl; eq_refl)
 | (apply X_pv; eq_refl; first | exact trivial | omega)
 | (apply X_cmpT; eq_refl; eq_refl; omega)
 | (apply X_cmpF; eq_refl; eq_refl; omega))
          exact ⟨(k + 1, l, sn, vl), ⟨rfl, rfl, rfl, rfl, rfl, rfl, rfl, rfl, trivial⟩, ⟨hS5, hP5, hB5, hli, hlt, hno' (fun _ h => h) fun h => absurd h h0⟩, by simp only; omega⟩
    · obtain rfl : k = 2 := by omega
      have hil : i < l.length := (List.getElem?_eq_some_iff.1 hli).1
      have hzi : l[i] = z := by rw [List.getElem?_eq_getElem hil] at hli; exact Option.some.inj hli
      have hB6 := hB5.next hil (by
        rw [hzi]
        intro u hu
        obtain ⟨h1, h2⟩ := hBab u hu
        rcases h2 with h2 | h2
        · exact hno 0 (by decide) u (by rw [← h2]; rfl) h1
        · exact hno 1 (by decide) u (by rw [← h2]; rfl) h1)
      repeat' (first
 | (apply WC_seqK; intro K hK)
 | (apply hK; clear hK)
 | (clear hK; apply hK; clear hK)
 | (apply WC_region)
 | (apply WL_nil)
 | (apply thenQ_normal)
 | (apply thenQ_exit)
 | (apply blockQ_hit)
 | (apply blockQ_normal)
 | (apply WC_exit)
 | (apply WC_if_false; eq_refl)
 | (apply WL_on0; eq_refl)
 | (apply X_pv; eq_refl; first | exact trivial | omega)
 | (apply X_cmpF; eq_refl; eq_refl; omega))
      exact ⟨(i + 1, l, sn, vl), ⟨rfl, rfl, rfl, rfl, rfl, rfl, trivial⟩, ⟨hS5, hB6⟩, by simp only; omega⟩
  · have hnone := hB1.none hge
    repeat' (first
 | (apply WC_seqK; intro K hK)
 | (apply hK; clear hK)
 | (clear hK; apply hK; clear hK)
 | (apply WC_region)
 | (apply WL_nil)
 | (apply thenQ_normal)
 | (apply thenQ_exit)
 | (apply blockQ_hit)
 | (apply WC_ret)
 | (apply WC_exit)
 | (apply WC_if_false; eq_refl)
 | (apply ret1; eq_refl)
 | (apply WL_on0; eq_refl)
 | (apply X_pv; eq_refl; first | exact trivial | omega)
 | (apply X_cmpF; eq_refl; eq_refl; omega)
 | (apply X_len; eq_refl))
    exact ⟨false, rfl, ⟨fun h => (by cases h), fun h => absurd h hnone⟩, hS1.chg⟩
end SC
end Go.Proofs.Yticndofcfacopaa
end
section
/- trestleref03: symbols. -/
set_option linter.unusedVariables false
set_option linter.unusedSimpArgs false
namespace Go.Proofs.Yticndofcfacopaa
namespace SC
open Go.Proofs
/-- What is to be shown later: stepping words stop here. -/
structure Later (p : Prop) : Prop where
  get : p
section
variable {P : Program} {n : Nat} {x y r b : Code} {Q : Post} {e : Env} {w : World}
theorem WC_mid (e1 : Env) (I : World → Prop) (h1 : WC P n x (fun s e' w' => s = .normal ∧ Sub e1 e' ∧ I w') e w) (h2 : Later (∀ w', I w' → WC P n y Q e1 w')) : WC P n (.seq x y) Q e w :=
  WC_seq (h1.mono fun s e' w' ⟨hs, hsub, hI⟩ => by subst hs; exact (h2.get w' hI).weaken hsub)
theorem WC_midB (i : Nat) (e1 : Env) (I : World → Prop) (h1 : WC P n (.seq r (.block i b)) (fun s e' w' => s = .normal ∧ Sub e1 e' ∧ I w') e w) (h2 : Later (∀ w', I w' → WC P n y Q e1 w')) : WC P n (.seq (.seq r (.block i b)) y) Q e w := WC_mid e1 I h1 h2
theorem WC_midR (i : Nat) {l : Array Oper} {d : Bool} (e1 : Env) (I : World → Prop) (h1 : WC P n (.region i l d) (fun s e' w' => s = .normal ∧ Sub e1 e' ∧ I w') e w) (h2 : Later (∀ w', I w' → WC P n y Q e1 w')) : WC P n (.seq (.region i l d) y) Q e w := WC_mid e1 I h1 h2
end
/-- How often a thing has a name before. -/
def SymF (ls : List Sym) (i : Nat) (f : Int → Int → Int) : Prop := ∀ p q, 0 ≤ f p q ∧ (0 < f p q ↔ ∃ k, ∃ hk : k < ls.length, k < i ∧ ls[k].kind = p ∧ ls[k].at_ = q)
theorem SymF.next {ls : List Sym} {i : Nat} {f : Int → Int → Int} (h : SymF ls i f) (hi : i < ls.length) : SymF ls (i + 1) (fun p q => if p = ls[i].kind ∧ q = ls[i].at_ then f ls[i].kind ls[i].at_ + 1 else f p q) := fun p q => by
  by_cases hc : p = ls[i].kind ∧ q = ls[i].at_
  · simp only [if_pos hc]
    have := (h ls[i].kind ls[i].at_).1
    exact ⟨by omega, fun _ => ⟨i, hi, by omega, hc.1.symm, hc.2.symm⟩, fun _ => by omega⟩
  · simp only [if_neg hc]
    refine ⟨(h p q).1, fun hh => ?_, fun ⟨k, hk, hki, h1, h2⟩ => ?_⟩
    · obtain ⟨k, hk, hki, h1, h2⟩ := (h p q).2.1 hh
      exact ⟨k, hk, by omega, h1, h2⟩
    · have : k ≠ i := fun e => by subst e; exact hc ⟨h1.symm, h2.symm⟩
      exact (h p q).2.2 ⟨k, hk, by omega, h1, h2⟩
attribute [local irreducible] WC WL WX WS WO OX Does DoesU Enters CV Pure thenQ blockQ retQ Wants retQC
set_option maxRecDepth 100000
theorem symbols82_cv {w : World} {c : Circ} {h js : Hd} (H : CirAt w c h js) (hs : c.Sane) : CV Try.prog 102 [.agg (ccells c h).toArray] w fun v w' => v = .tuple #[nu (if 0 ≤ goSym c c.symbols 0 fun _ _ => 0 then goSym c c.symbols 0 fun _ _ => 0 else 0), nu (if 0 ≤ goSym c c.symbols 0 fun _ _ => 0 then 35 else 0)] ∧ Chg w w' none_ := by
  have hN : Blk (w.alloc (.cells (ccells c h).toArray 29)) w.heap.size 29 (ccells c h) := Blk.new w _ _
  have hC := Chg.alloc w (.cells (ccells c h).toArray 29) none_
  have hlens := hs.lens
  refine enter 126 [2, 3] Try.func102 rfl rfl rfl (by decide) rfl ?_
  repeat' (first
 | (apply WC_seqK; intro K hK)
 | (apply hK; clear hK)
 | (apply WC_block)
 | (apply WC_region)
 | (apply WL_nil)
 | (apply thenQ_normal)
 | (apply WL_on0; eq_refl)
 | (apply X_pv; eq_refl; first | exact trivial | omega)
 | (apply X_box; eq_refl))
  generalize hr : (goSym c c.symbols 0 fun _ _ => 0) = r
  refine WC_loop (fun s : Nat × (Int → Int → Int) => [(1, pt w.heap.size), (4, nu s.1)])
    (fun s w1 => Chg w w1 none_ ∧ Blk w1 w.heap.size 29 (ccells c h) ∧ SymF c.symbols s.1 s.2 ∧ s.1 ≤ c.symbols.length ∧ goSym c (c.symbols.drop s.1) s.1 s.2 = r) (fun s => c.symbols.length - s.1) (0, fun _ _ => 0) ⟨rfl, rfl, trivial⟩ ⟨hC, hN, fun p q => ⟨Int.le_refl _, fun hh => absurd hh (Int.lt_irrefl 0), fun ⟨k, hk, hki, _⟩ => absurd hki (Nat.not_lt_zero _)⟩, Nat.zero_le _, hr⟩ ?_
  clear hC hN
  rintro ⟨k, f⟩ w1 ⟨hC1, hN1, hf, hk, hgo⟩
  simp only at hf hk hgo
  rcases Nat.lt_or_ge k c.symbols.length with hlt | hge
  · obtain ⟨p, hp, hc⟩ := H.symbols k hlt
    have hbad := fun hb => goSym_bad (c := c) (f := f) hlt hb
    have hokk := fun hb => goSym_ok (c := c) (f := f) hlt hb
    have hfn := hf.next hlt
    have hkind := hs.kinds _ (List.getElem_mem hlt)
    have hnm := hs.names _ (List.getElem_mem hlt)
    generalize hx : c.symbols[k] = s at *
    have e6 : (ccells c h)[0 + 9]? = some (.slice (some p) c.symbols.length (h 9).2) := by rw [← hp]; rfl
    repeat' (first
 | (apply X_loadR; eq_refl; exact hN1; exact e6)
 | (apply X_loadAP (scells s); eq_refl; eq_refl; exact (fun j u hj => cel_chg (hc j u hj) hC1 id))
 | (apply WC_seqK; intro K hK)
 | (apply hK; clear hK)
 | (apply WC_block)
 | (apply WC_region)
 | (apply WL_nil)
 | (apply thenQ_normal)
 | (apply WC_skip)
 | (apply WC_if_true; eq_refl)
 | (apply WL_on0; eq_refl)
 | (apply X_pv; eq_refl; first | exact trivial | omega)
 | (apply X_field; eq_refl)
 | (apply X_cmpT; eq_refl; eq_refl; omega)
 | (apply X_len; eq_refl)
 | (apply X_indexP; eq_refl; eq_refl; omega; omega)
 | (apply X_alloc))
    refine X_doesU (does_storeA (t1 := 110) (vs := scells s) (o := 0) (b := w1.heap.size) (by eq_refl) (by eq_refl) (Blk.newA w1 _ _) rfl (by exact Nat.le_refl 3) (by simp [scells, Value.oneCell'])) ?_
    have hcc : Chg w1 ((w1.alloc (.cells #[.int .u8 0, nu 0, .string ⟨#[]⟩] 110)).setRow w1.heap.size (scells s).toArray) none_ := (Chg.alloc w1 _ none_).trans (Chg.setRow _ w1.heap.size _ (S := fun k => k = w1.heap.size) rfl) fun k hk h => by omega
    refine WL_turn (fun w2 => Chg w w2 none_ ∧ Blk w2 w.heap.size 29 (ccells c h) ∧ Blk w2 w1.heap.size 110 (scells s)) ⟨hC1.trans hcc fun _ _ h => h, hN1.chg hcc id, (Blk.newA w1 _ 110).set (scells s)⟩ ?_
    clear hcc hC1 hN1
    generalize w1.heap.size = b5
    rintro w2 ⟨hC2, hN2, hS2⟩
    repeat' (first
 | (apply WC_midB 2 [(1, pt w.heap.size), (4, nu k), (5, pt b5), (6, nu (manyM c s.kind))] (fun W => W = w2))
 | (apply WC_seqK; intro K hK)
 | (apply hK; clear hK)
 | (apply WC_block)
 | (apply WC_region)
 | (apply WL_nil)
 | (apply thenQ_normal)
 | (apply blockQ_normal)
 | (apply WC_skip)
 | (apply WC_if_true; eq_refl)
 | (apply WC_if_false; eq_refl)
 | (apply WL_on0; eq_refl)
 | (apply X_pv; eq_refl; first | exact trivial | omega)
 | (apply X_field; eq_refl)
 | (apply X_loadR; eq_refl; (first | assumption | (apply Blk.alloc; assumption) | apply Blk.new | apply Blk.newA | (apply Blk.alloc; first | apply Blk.newA | (apply Blk.alloc; first | assumption | apply Blk.newA))); eq_refl)
 | (apply X_cmp; eq_refl; eq_refl; all_goals intro _)
 | (apply X_len; eq_refl))
    any_goals (refine ⟨rfl, ⟨rfl, rfl, rfl, congrArg (fun z => some (nu z)) ?_, trivial⟩, rfl⟩; unfold manyM; repeat (first | rw [if_pos (by assumption)] | rw [if_neg (by assumption)]))
    refine ⟨?_⟩
    rintro _ rfl
    obtain ⟨ok0, hok0⟩ : ∃ b : Bool, b = true ↔ (0 ≤ s.at_ ∧ s.at_ < manyM c s.kind ∧ 1 ≤ s.name.size ∧ s.name.size ≤ 64) := ⟨decide _, decide_eq_true_iff⟩
    generalize hM : manyM c s.kind = M at *
    rename_i w2
    repeat' (first
 | (apply WC_midR 21 [(1, pt w.heap.size), (4, nu k), (5, pt b5), (7, .bool ok0)] (fun W => W = w2))
 | (apply WC_region)
 | (apply WL_nil)
 | (apply WL_on0; eq_refl)
 | (apply WL_onG; eq_refl; eq_refl; eq_refl; eq_refl)
 | (apply WL_noG; eq_refl; eq_refl; eq_refl; eq_refl)
 | (apply X_pv; eq_refl; first | exact trivial | omega)
 | (apply X_field; eq_refl)
 | (apply X_loadR; eq_refl; (first | assumption | (apply Blk.alloc; assumption) | apply Blk.new | apply Blk.newA | (apply Blk.alloc; first | apply Blk.newA | (apply Blk.alloc; first | assumption | apply Blk.newA))); eq_refl)
 | (apply X_cmp; eq_refl; eq_refl; all_goals intro _)
 | (apply X_lenS; eq_refl))
    any_goals (refine ⟨rfl, ⟨rfl, rfl, rfl, congrArg (fun z => some (Value.bool z)) ?_, trivial⟩, rfl⟩; first | (exact (hok0.2 (by omega)).symm) | (exact (Bool.eq_false_iff.2 fun hh => by have := hok0.1 hh; omega).symm))
    refine ⟨?_⟩
    rintro _ rfl
    rename_i w2
    obtain ⟨ok1, hok1⟩ : ∃ b : Bool, b = true ↔ (ok0 = true ∧ ¬ lowName s.name) := by classical exact ⟨decide _, decide_eq_true_iff⟩
    repeat' (first
 | (apply WC_midB 3 [(1, pt w.heap.size), (4, nu k), (5, pt b5), (7, .bool ok1)] (fun W => W = w2))
 | (apply WC_seqK; intro K hK)
 | (apply hK; clear hK)
 | (apply WC_block)
 | (apply WC_region)
 | (apply WL_nil)
 | (apply thenQ_normal)
 | (apply WL_on0; eq_refl)
 | (apply X_pv; eq_refl; first | exact trivial | omega))
    · refine WC_loop (fun q : Nat × Bool => [(1, pt w.heap.size), (4, nu k), (5, pt b5), (7, .bool q.2), (8, nu q.1)])
        (fun q W => W = w2 ∧ q.1 ≤ s.name.size ∧ (q.2 = true → ok0 = true ∧ ∀ i, i < q.1 → ¬ byteAt s.name i < 32) ∧ (q.2 = false → ok0 = false ∨ lowName s.name)) (fun q => s.name.size - q.1) (0, ok0) ⟨rfl, rfl, rfl, rfl, rfl, trivial⟩ ⟨rfl, Nat.zero_le _, fun h => ⟨h, fun i hi => absurd hi (Nat.not_lt_zero _)⟩, fun h => .inl h⟩ ?_
      rintro ⟨j, ok⟩ w3 ⟨rfl, hj, hT, hF⟩
      simp only at hj hT hF
      cases ok with
      | false =>
        have e1 : false = ok1 := (Bool.eq_false_iff.2 fun hh => by
          obtain ⟨h1, h2⟩ := hok1.1 hh
          rcases hF rfl with g | g
          · rw [g] at h1; cases h1
          · exact h2 g).symm
        repeat' (first
 | (apply WC_seqK; intro K hK)
 | (apply hK; clear hK)
 | (apply WC_region)
 | (apply WL_nil)
 | (apply thenQ_normal)
 | (apply thenQ_exit)
 | (apply blockQ_hit)
 | (apply WC_exit)
 | (apply WC_if_false; eq_refl)
 | (apply WL_on0; eq_refl)
 | (apply WL_noG; eq_refl; eq_refl; eq_refl; eq_refl)
 | (apply X_pv; eq_refl; first | exact trivial | omega))
        exact ⟨rfl, ⟨rfl, rfl, rfl, congrArg (fun z => some (Value.bool z)) e1, trivial⟩, rfl⟩
      | true =>
        obtain ⟨hT1, hT2⟩ := hT rfl
        rcases Nat.lt_or_ge j s.name.size with hjl | hjg
        · repeat' (first
 | (apply X_idxS; eq_refl; eq_refl; omega)
 | (apply WC_seqK; intro K hK)
 | (apply hK; clear hK)
 | (apply WC_block)
 | (apply WC_region)
 | (apply WL_nil)
 | (apply thenQ_normal)
 | (apply blockQ_normal)
 | (apply WC_skip)
 | (apply WC_if_true; eq_refl)
 | (apply WL_on0; eq_refl)
 | (apply WL_onG; eq_refl; eq_refl; eq_refl; eq_refl)
 | (apply X_pv; eq_refl; first | exact trivial | omega)
 | (apply X_field; eq_refl)
 | (apply X_loadR; eq_refl; (first | assumption | (apply Blk.alloc; assumption) | apply Blk.new | apply Blk.newA | (apply Blk.alloc; first | apply Blk.newA | (apply Blk.alloc; first | assumption | apply Blk.newA))); eq_refl)
 | (apply X_cmpT; eq_refl; eq_refl; omega)
 | (apply X_cmp; eq_refl; eq_refl; all_goals intro _)
 | (apply X_lenS; eq_refl))
          · rename_i hb9
            have hb9 : 32 ≤ byteAt s.name j := hb9
            exact ⟨(j + 1, true), ⟨rfl, rfl, rfl, rfl, rfl, trivial⟩, ⟨rfl, hjl, fun _ => ⟨hT1, fun i hi => by
              rcases Nat.lt_or_ge i j with hh | hh
              · exact hT2 i hh
              · obtain rfl : i = j := by omega
                omega⟩, fun h => (by cases h)⟩, by simp only; omega⟩
          · rename_i hb9
            have hb9 : ¬ 32 ≤ byteAt s.name j := hb9
            exact ⟨(j + 1, false), ⟨rfl, rfl, rfl, rfl, rfl, trivial⟩, ⟨rfl, hjl, fun h => (by cases h), fun _ => .inr ⟨j, hjl, by omega⟩⟩, by simp only; omega⟩
        · have e1 : true = ok1 := (hok1.2 ⟨hT1, fun ⟨i, hi, hb⟩ => hT2 i (by omega) hb⟩).symm
          repeat' (first
 | (apply WC_seqK; intro K hK)
 | (apply hK; clear hK)
 | (apply WC_region)
 | (apply WL_nil)
 | (apply thenQ_normal)
 | (apply thenQ_exit)
 | (apply blockQ_hit)
 | (apply WC_exit)
 | (apply WC_if_false; eq_refl)
 | (apply WL_on0; eq_refl)
 | (apply WL_onG; eq_refl; eq_refl; eq_refl; eq_refl)
 | (apply X_pv; eq_refl; first | exact trivial | omega)
 | (apply X_field; eq_refl)
 | (apply X_loadR; eq_refl; (first | assumption | (apply Blk.alloc; assumption) | apply Blk.new | apply Blk.newA | (apply Blk.alloc; first | apply Blk.newA | (apply Blk.alloc; first | assumption | apply Blk.newA))); eq_refl)
 | (apply X_cmpF; eq_refl; eq_refl; omega)
 | (apply X_lenS; eq_refl))
          exact ⟨rfl, ⟨rfl, rfl, rfl, congrArg (fun z => some (Value.bool z)) e1, trivial⟩, rfl⟩
    refine ⟨?_⟩
    rintro _ rfl
    rename_i w2
    obtain ⟨ok2, hok2⟩ : ∃ b : Bool, b = true ↔ (ok1 = true ∧ ∀ q (hq : q < c.symbols.length), q < k → ¬ (c.symbols[q].kind = s.kind ∧ c.symbols[q].at_ = s.at_)) := by classical exact ⟨decide _, decide_eq_true_iff⟩
    repeat' (first
 | (apply WC_midB 5 [(1, pt w.heap.size), (4, nu k), (5, pt b5), (7, .bool ok2)] (fun W => Chg w W none_ ∧ Blk W w.heap.size 29 (ccells c h)))
 | (apply WC_seqK; intro K hK)
 | (apply hK; clear hK)
 | (apply WC_block)
 | (apply WC_region)
 | (apply WL_nil)
 | (apply thenQ_normal)
 | (apply WL_on0; eq_refl)
 | (apply X_pv; eq_refl; first | exact trivial | omega))
    · refine WC_loop (fun q : Nat × Bool => [(1, pt w.heap.size), (4, nu k), (5, pt b5), (7, .bool q.2), (9, nu q.1)])
        (fun q W => (Chg w W none_ ∧ Blk W w.heap.size 29 (ccells c h) ∧ Blk W b5 110 (scells s)) ∧ q.1 ≤ k ∧ (q.2 = true → ok1 = true ∧ ∀ i (hi : i < c.symbols.length), i < q.1 → ¬ (c.symbols[i].kind = s.kind ∧ c.symbols[i].at_ = s.at_)) ∧ (q.2 = false → ok1 = false ∨ ∃ i, ∃ hi : i < c.symbols.length, i < k ∧ c.symbols[i].kind = s.kind ∧ c.symbols[i].at_ = s.at_)) (fun q => k - q.1) (0, ok1) ⟨rfl, rfl, rfl, rfl, rfl, trivial⟩ ⟨⟨hC2, hN2, hS2⟩, Nat.zero_le _, fun h => ⟨h, fun i _ hi => absurd hi (Nat.not_lt_zero _)⟩, fun h => .inl h⟩ ?_
      rintro ⟨j, ok⟩ w3 ⟨⟨hC3, hN3, hS3⟩, hj, hT, hF⟩
      simp only at hj hT hF
      cases ok with
      | false =>
        have e1 : false = ok2 := (Bool.eq_false_iff.2 fun hh => by
          obtain ⟨h1, h2⟩ := hok2.1 hh
          rcases hF rfl with g | ⟨i, hi, g1, g2⟩
          · rw [g] at h1; cases h1
          · exact h2 i hi g1 g2).symm
        repeat' (first
 | (apply WC_seqK; intro K hK)
 | (apply hK; clear hK)
 | (apply WC_region)
 | (apply WL_nil)
 | (apply thenQ_normal)
 | (apply thenQ_exit)
 | (apply blockQ_hit)
 | (apply WC_exit)
 | (apply WC_if_false; eq_refl)
 | (apply WL_on0; eq_refl)
 | (apply WL_noG; eq_refl; eq_refl; eq_refl; eq_refl)
 | (apply X_pv; eq_refl; first | exact trivial | omega))
        exact ⟨rfl, ⟨rfl, rfl, rfl, congrArg (fun z => some (Value.bool z)) e1, trivial⟩, hC3, hN3⟩
      | true =>
        obtain ⟨hT1, hT2⟩ := hT rfl
        rcases Nat.lt_or_ge j k with hjl | hjg
        · have hjs : j < c.symbols.length := by omega
          obtain ⟨p2, hp2, hc2⟩ := H.symbols j hjs
          rw [hp] at hp2
          cases hp2
          have hT3 := hT2
          generalize hy : c.symbols[j] = y at *
          repeat' (first
 | (apply WC_seqK; intro K hK)
 | (apply hK; clear hK)
 | (apply WC_block)
 | (apply WC_region)
 | (apply WL_nil)
 | (apply thenQ_normal)
 | (apply WC_skip)
 | (apply WC_if_true; eq_refl)
 | (apply WL_on0; eq_refl)
 | (apply WL_onG; eq_refl; eq_refl; eq_refl; eq_refl)
 | (apply X_pv; eq_refl; first | exact trivial | omega)
 | (apply X_cmpT; eq_refl; eq_refl; omega))
          refine WC_draws [(0, true), (1, true), (2, true), (3, true), (4, true), (5, true), (6, true), (7, true), (8, true), (9, true), (10, true), (11, true), (12, true), (13, true), (14, true), (15, true), (16, true), (17, true), (18, true), (19, true), (20, true)] (fun W => Chg w W none_ ∧ Blk W w.heap.size 29 (ccells c h) ∧ Blk W b5 110 (scells s)) mixed (by kernel_rfl) (by kernel_rfl) ?_
          have hS : Chg w w3.drew none_ ∧ Blk w3.drew w.heap.size 29 (ccells c h) ∧ Blk w3.drew b5 110 (scells s) := ⟨hC3.dr, hN3, hS3⟩
          by_cases hkk : y.kind = s.kind
          · by_cases haa : y.at_ = s.at_
            · repeat' (first
 | (apply O_loadR; eq_refl; (exact fun _ h => h.2.1); exact e6; assumption)
 | (apply O_loadR; eq_refl; (exact fun _ h => h.2.2); eq_refl; assumption)
 | (apply O_loadC; eq_refl; (exact fun W h => cel_chg (hc2 0 _ rfl) h.1 id); assumption)
 | (apply O_loadC; eq_refl; (exact fun W h => cel_chg (hc2 1 _ rfl) h.1 id); assumption)
 | (apply hK; clear hK)
 | (apply WC_region)
 | (apply WL_nil)
 | (apply thenQ_normal)
 | (apply blockQ_normal)
 | (apply WS_nil)
 | (apply WS_next; eq_refl)
 | (apply WO_on0; eq_refl)
 | (apply WO_onG; eq_refl; eq_refl; eq_refl; eq_refl)
 | (apply O_pv; eq_refl; (first | exact trivial | omega); (first | assumption | exact trivial))
 | (apply O_field; eq_refl; (first | assumption | exact trivial))
 | (apply O_cmpF; eq_refl; eq_refl; omega; (first | assumption | exact trivial))
 | (apply O_indexP; eq_refl; eq_refl; omega; omega; (first | assumption | exact trivial))
 | (apply O_fieldP; eq_refl; (first | assumption | exact trivial))
 | (apply WL_on0; eq_refl)
 | (apply X_pv; eq_refl; first | exact trivial | omega))
              exact ⟨(j + 1, false), ⟨rfl, rfl, rfl, rfl, rfl, trivial⟩, ⟨hS, hjl, fun h => (by cases h), fun _ => .inr ⟨j, hjs, hjl, by rw [hy]; exact ⟨hkk, haa⟩⟩⟩, by simp only; omega⟩
            · repeat' (first
 | (apply O_loadR; eq_refl; (exact fun _ h => h.2.1); exact e6; assumption)
 | (apply O_loadR; eq_refl; (exact fun _ h => h.2.2); eq_refl; assumption)
 | (apply O_loadC; eq_refl; (exact fun W h => cel_chg (hc2 0 _ rfl) h.1 id); assumption)
 | (apply O_loadC; eq_refl; (exact fun W h => cel_chg (hc2 1 _ rfl) h.1 id); assumption)
 | (apply hK; clear hK)
 | (apply WC_region)
 | (apply WL_nil)
 | (apply thenQ_normal)
 | (apply blockQ_normal)
 | (apply WS_nil)
 | (apply WS_next; eq_refl)
 | (apply WO_on0; eq_refl)
 | (apply WO_onG; eq_refl; eq_refl; eq_refl; eq_refl)
 | (apply O_pv; eq_refl; (first | exact trivial | omega); (first | assumption | exact trivial))
 | (apply O_field; eq_refl; (first | assumption | exact trivial))
 | (apply O_cmpT; eq_refl; eq_refl; omega; (first | assumption | exact trivial))
 | (apply O_cmpF; eq_refl; eq_refl; omega; (first | assumption | exact trivial))
 | (apply O_indexP; eq_refl; eq_refl; omega; omega; (first | assumption | exact trivial))
 | (apply O_fieldP; eq_refl; (first | assumption | exact trivial))
 | (apply WL_on0; eq_refl)
 | (apply X_pv; eq_refl; first | exact trivial | omega))
              refine ⟨(j + 1, true), ⟨rfl, rfl, rfl, rfl, rfl, trivial⟩, ⟨hS, hjl, fun _ => ⟨hT1, fun i hi hij => ?_⟩, fun h => (by cases h)⟩, by simp only; omega⟩
              rcases Nat.lt_or_ge i j with hh | hh
              · exact hT3 i hi hh
              · obtain rfl : i = j := by omega
                rw [hy]; exact fun hh => haa hh.2
          · repeat' (first
 | (apply O_loadR; eq_refl; (exact fun _ h => h.2.1); exact e6; assumption)
 | (apply O_loadR; eq_refl; (exact fun _ h => h.2.2); eq_refl; assumption)
 | (apply O_loadC; eq_refl; (exact fun W h => cel_chg (hc2 0 _ rfl) h.1 id); assumption)
 | (apply hK; clear hK)
 | (apply WC_region)
 | (apply WL_nil)
 | (apply thenQ_normal)
 | (apply blockQ_normal)
 | (apply WS_nil)
 | (apply WS_next; eq_refl)
 | (apply WO_on0; eq_refl)
 | (apply WO_noG; eq_refl; eq_refl; eq_refl; eq_refl; (first | assumption | exact trivial))
 | (apply O_pv; eq_refl; (first | exact trivial | omega); (first | assumption | exact trivial))
 | (apply O_field; eq_refl; (first | assumption | exact trivial))
 | (apply O_cmpT; eq_refl; eq_refl; omega; (first | assumption | exact trivial))
 | (apply O_indexP; eq_refl; eq_refl; omega; omega; (first | assumption | exact trivial))
 | (apply O_fieldP; eq_refl; (first | assumption | exact trivial))
 | (apply WL_on0; eq_refl)
 | (apply X_pv; eq_refl; first | exact trivial | omega))
            refine ⟨(j + 1, true), ⟨rfl, rfl, rfl, rfl, rfl, trivial⟩, ⟨hS, hjl, fun _ => ⟨hT1, fun i hi hij => ?_⟩, fun h => (by cases h)⟩, by simp only; omega⟩
            rcases Nat.lt_or_ge i j with hh | hh
            · exact hT3 i hi hh
            · obtain rfl : i = j := by omega
              rw [hy]; exact fun hh => hkk hh.1
        · have e1 : true = ok2 := (hok2.2 ⟨hT1, fun i hi hik => hT2 i hi (by omega)⟩).symm
          repeat' (first
 | (apply WC_seqK; intro K hK)
 | (apply hK; clear hK)
 | (apply WC_region)
 | (apply WL_nil)
 | (apply thenQ_normal)
 | (apply thenQ_exit)
 | (apply blockQ_hit)
 | (apply WC_exit)
 | (apply WC_if_false; eq_refl)
 | (apply WL_on0; eq_refl)
 | (apply WL_onG; eq_refl; eq_refl; eq_refl; eq_refl)
 | (apply X_pv; eq_refl; first | exact trivial | omega)
 | (apply X_cmpF; eq_refl; eq_refl; omega))
          exact ⟨rfl, ⟨rfl, rfl, rfl, congrArg (fun z => some (Value.bool z)) e1, trivial⟩, hC3, hN3⟩
    refine ⟨?_⟩
    rintro w4 ⟨hC4, hN4⟩
    have hsb : ok2 = true ↔ ¬ symBad c f s := by
      rw [hok2, hok1, hok0]
      have hsz : s.name = ByteArray.empty ↔ s.name.size = 0 := ⟨fun h => by rw [h]; rfl, fun h => ByteArray.size_eq_zero_iff.1 h⟩
      have hff : 0 < f s.kind s.at_ ↔ ∃ q, ∃ hq : q < c.symbols.length, q < k ∧ c.symbols[q].kind = s.kind ∧ c.symbols[q].at_ = s.at_ := (hf _ _).2
      unfold symBad
      rw [hM, hff, hsz]
      constructor
      · rintro ⟨⟨⟨h1, h2, h3, h4⟩, h5⟩, h6⟩ (g | g | g | g | ⟨q, hq, g1, g2⟩ | g)
        · omega
        · omega
        · omega
        · omega
        · exact h6 q hq g1 g2
        · exact h5 g
      · intro hb
        refine ⟨⟨⟨?_, ?_, ?_, ?_⟩, fun g => hb (.inr (.inr (.inr (.inr (.inr g)))))⟩, fun q hq g1 g2 => hb (.inr (.inr (.inr (.inr (.inl ⟨q, hq, g1, g2⟩)))))⟩
        · exact Int.not_lt.1 fun g => hb (.inl g)
        · exact Int.not_le.1 fun g => hb (.inr (.inl g))
        · exact Nat.pos_of_ne_zero fun g => hb (.inr (.inr (.inl g)))
        · exact Nat.not_lt.1 fun g => hb (.inr (.inr (.inr (.inl g))))
    cases ok2 with
    | false =>
      have hb : symBad c f s := Classical.byContradiction fun g => by have := hsb.2 g; cases this
      rw [hbad hb] at hgo
      repeat' (first
 | (apply WC_seqK; intro K hK)
 | (apply hK; clear hK)
 | (apply WC_region)
 | (apply WL_nil)
 | (apply thenQ_normal)
 | (apply thenQ_ret)
 | (apply blockQ_ret)
 | (apply WC_ret)
 | (apply WC_if_true; eq_refl)
 | (apply ret2; eq_refl; eq_refl)
 | (apply WL_on0; eq_refl)
 | (apply X_pv; eq_refl; first | exact trivial | omega))
      refine ⟨?_, hC4⟩
      first | rw [if_pos (by omega), if_pos (by omega), hgo] | rw [hr, if_pos (by omega), if_pos (by omega), hgo]
    | true =>
      rw [hokk (hsb.1 rfl)] at hgo
      repeat' (first
 | (apply WC_seqK; intro K hK)
 | (apply hK; clear hK)
 | (apply WC_region)
 | (apply WL_nil)
 | (apply thenQ_normal)
 | (apply blockQ_normal)
 | (apply WC_skip)
 | (apply WC_if_false; eq_refl)
 | (apply WL_on0; eq_refl)
 | (apply X_pv; eq_refl; first | exact trivial | omega))
      exact ⟨(k + 1, _), ⟨rfl, rfl, trivial⟩, ⟨hC4, hN4, hfn, hlt, hgo⟩, by simp only; omega⟩
  · rw [List.drop_eq_nil_of_le hge] at hgo
    have e : r = -1 := hgo.symm
    repeat' (first
 | (apply WC_seqK; intro K hK)
 | (apply hK; clear hK)
 | (clear hK; apply hK; clear hK)
 | (apply WC_region)
 | (apply WL_nil)
 | (apply thenQ_normal)
 | (apply thenQ_exit)
 | (apply blockQ_hit)
 | (apply WC_ret)
 | (apply WC_exit)
 | (apply WC_if_false; eq_refl)
 | (apply ret2; eq_refl; eq_refl)
 | (apply WL_on0; eq_refl)
 | (apply X_pv; eq_refl; first | exact trivial | omega)
 | (apply X_field; eq_refl)
 | (apply X_loadR; eq_refl; (first | assumption | (apply Blk.alloc; assumption) | apply Blk.new | apply Blk.newA | (apply Blk.alloc; first | apply Blk.newA | (apply Blk.alloc; first | assumption | apply Blk.newA))); eq_refl)
 | (apply X_cmpF; eq_refl; eq_refl; omega)
 | (apply X_len; eq_refl))
    exact ⟨by rw [hr, e, if_neg (by decide), if_neg (by decide)], hC1⟩
end SC
end Go.Proofs.Yticndofcfacopaa
end
section
/- trestleref03: Check. -/
set_option linter.unusedVariables false
set_option linter.unusedSimpArgs false
namespace Go.Proofs.Yticndofcfacopaa
namespace SC
open Go.Proofs
theorem mem_bytesI {s : ByteArray} {x : Int} : x ∈ bytesI s ↔ ∃ k, k < s.size ∧ byteAt s k = x := by
  have hl : (bytesI s).length = s.size := bytesI_len s
  have hb : ∀ k, byteAt s k = (bytesI s).getD k 0 := fun k => rfl
  constructor
  · intro h
    obtain ⟨k, hk, rfl⟩ := List.mem_iff_getElem.1 h
    exact ⟨k, by omega, by rw [hb]; simp [hk]⟩
  · rintro ⟨k, hk, rfl⟩
    have hk' : k < (bytesI s).length := by omega
    rw [hb, List.getD_eq_getElem?_getD, List.getElem?_eq_getElem hk']
    exact List.getElem_mem hk'
attribute [local irreducible] WC WL WX WS WO OX Does DoesU Enters CV Pure thenQ blockQ retQ Wants retQC
set_option maxRecDepth 100000
theorem checkRef_cv {w : World} {c : Circ} {h js : Hd} (H : CirAt w c h js) (hs : c.Sane) (ho : c.Okay) (hf : c.Fits) : CV Try.prog 53 [.agg (ccells c h).toArray] w fun v w' => v = .tuple #[nu (lookM c).1, nu (lookM c).2] ∧ Chg w w' none_ := by
  have hI0 : Blk (w.alloc (.cells (ccells c h).toArray 29)) w.heap.size 29 (ccells c h) := Blk.new w _ _
  have hC0 := Chg.alloc w (.cells (ccells c h).toArray 29) none_
  have hsz := size_cv (H.chg hC0) hf ho
  refine enter 97 [2, 3] Try.func53 rfl rfl rfl (by decide) rfl ?_
  repeat' (first
 | (apply X_fn; eq_refl; exact hsz; rintro _ w1 ⟨rfl, hC1⟩; have hI1 := hI0.chg hC1 id; have hC1' := hC0.trans hC1 fun _ _ h => h)
 | (apply WC_seqK; intro K hK)
 | (apply hK; clear hK)
 | (apply WC_region)
 | (apply WL_nil)
 | (apply thenQ_normal)
 | (apply thenQ_ret)
 | (apply WC_ret)
 | (apply WC_skip)
 | (apply WC_if_true; eq_refl)
 | (apply WC_if_false; eq_refl)
 | (apply ret2; eq_refl; eq_refl)
 | (apply WL_on0; eq_refl)
 | (apply X_pv; eq_refl; first | exact trivial | omega)
 | (apply X_loadW; eq_refl; (first | assumption | (apply Blk.alloc; assumption) | apply Blk.new | apply Blk.newA | (apply Blk.alloc; first | apply Blk.newA | (apply Blk.alloc; first | assumption | apply Blk.newA))); eq_refl)
 | (apply X_cmp; eq_refl; eq_refl; all_goals intro _)
 | (apply X_box; eq_refl))
  · exact ⟨by unfold lookM; rw [if_pos (by assumption)], hC1'⟩
  have hz : sizesM c = 0 := Classical.byContradiction (by assumption)
  obtain ⟨hm0, hm1, hln, hsum⟩ := sizesM_ok hz
  have hdf := defined_cv (H.chg hC1') ho ⟨hm0, hm1⟩
  have hl1 : lookM c = if (definesM c (T0 c)).1.2 ≠ 0 then (definesM c (T0 c)).1
    else if (usesM c (tabM c)).2 ≠ 0 then usesM c (tabM c)
    else if 0 ≤ cycM c.ands.length (gateB (tabM c) c) then (cycM c.ands.length (gateB (tabM c) c), 34)
    else if 0 ≤ goSym c c.symbols 0 (fun _ _ => 0) then (goSym c c.symbols 0 (fun _ _ => 0), 35)
    else if 0 ≤ goCom c.comments 0 then (goCom c.comments 0, 36)
    else (0, 0) := by unfold lookM; rw [if_neg (by assumption)]
  repeat' (first
 | (apply X_fn; eq_refl; exact hdf; rintro _ w2 ⟨hC2, ⟨hd, rfl⟩ | ⟨hd, b, n, hb0, hn, hnl, rfl, hB2⟩⟩)
 | (apply WC_seqK; intro K hK)
 | (apply hK; clear hK)
 | (apply WC_region)
 | (apply WL_nil)
 | (apply thenQ_normal)
 | (apply thenQ_ret)
 | (apply WC_ret)
 | (apply WC_skip)
 | (apply WC_if_true; eq_refl)
 | (apply WC_if_false; eq_refl)
 | (apply ret2; eq_refl; eq_refl)
 | (apply WL_on0; eq_refl)
 | (apply X_pv; eq_refl; first | exact trivial | omega)
 | (apply X_cmpT; eq_refl; eq_refl; omega)
 | (apply X_cmpF; eq_refl; eq_refl; omega))
  · exact ⟨by rw [hl1, if_pos hd], hC1'.trans hC2 fun _ _ h => h⟩
  rw [if_neg (fun hh => hh hd)] at hl1
  have hTO : TabOk c (tabM c) := definesM_spec hm0 hd
  have hC2' := hC1'.trans hC2 fun _ _ h => h
  have hI2 := hI1.chg hC2 id
  have hus := uses_cv' (H.chg hC2') ho ⟨hm0, hm1⟩ hB2 (by rw [hnl]; exact hn) hnl.symm
  repeat' (first
 | (apply X_fn; eq_refl; exact hus; rintro _ w3 ⟨rfl, hC3⟩; have hI3 := hI2.chg hC3 id; have hC3' := hC2'.trans hC3 fun _ _ h => h)
 | (apply WC_seqK; intro K hK)
 | (apply hK; clear hK)
 | (apply WC_region)
 | (apply WL_nil)
 | (apply thenQ_normal)
 | (apply thenQ_ret)
 | (apply WC_ret)
 | (apply WC_skip)
 | (apply WC_if_true; eq_refl)
 | (apply WC_if_false; eq_refl)
 | (apply ret2; eq_refl; eq_refl)
 | (apply WL_on0; eq_refl)
 | (apply X_pv; eq_refl; first | exact trivial | omega)
 | (apply X_loadW; eq_refl; (first | assumption | (apply Blk.alloc; assumption) | apply Blk.new | apply Blk.newA | (apply Blk.alloc; first | apply Blk.newA | (apply Blk.alloc; first | assumption | apply Blk.newA))); eq_refl)
 | (apply X_cmp; eq_refl; eq_refl; all_goals intro _))
  · exact ⟨by rw [hl1, if_pos (by assumption)], hC3'⟩
  have hu0 : (usesM c (tabM c)).2 = 0 := Classical.byContradiction (by assumption)
  rw [if_neg (fun hh => hh hu0)] at hl1
  have hUA := usesM_spec.1 hu0
  have hna : c.ands.length ≤ 16384 := by have := hln (c.ands.length : Int) (by simp [Circ.lens]); omega
  have hB := hTO.below hUA
  clear hus hdf hsz hB2
  refine WC_draws [(0, true), (3, true), (4, true), (5, true), (1, false), (2, true), (6, true)] (fun W => Chg w W none_ ∧ Blk W w.heap.size 29 (ccells c h)) mixed (by kernel_rfl) (by kernel_rfl) ?_
  have hS : Chg w w3.drew none_ ∧ Blk w3.drew w.heap.size 29 (ccells c h) := ⟨hC3'.dr, hI3⟩
  have htd := told_cv (H.chg hS.1) hTO hUA ⟨hm0, hm1⟩ hna
  repeat' (first
 | (apply O_loadW; eq_refl; (exact fun _ h => h.2); eq_refl; assumption)
 | (apply O_loadR; eq_refl; (exact fun _ h => h.2); eq_refl; assumption)
 | (apply O_fn; eq_refl; exact htd; rintro v4 w4 ⟨hC4, out, hall, hrow⟩; obtain ⟨A4, cp4, rfl⟩ := row_form' hrow; have hS4 : Chg w w4 none_ ∧ Blk w4 w.heap.size 29 (ccells c h) := ⟨hS.1.trans hC4 fun k hk hh => hh, hS.2.chg hC4 id⟩; have hol := hall.told.size; refine ⟨fun _ => hS4, ?_⟩)
 | (apply WC_seqK; intro K hK)
 | (apply hK; clear hK)
 | (apply WC_region)
 | (apply thenQ_normal)
 | (apply WC_skip)
 | (apply WC_if_true; eq_refl)
 | (apply WC_if_false; eq_refl)
 | (apply WS_nil)
 | (apply WS_next; eq_refl)
 | (apply WO_on0; eq_refl)
 | (apply O_field; eq_refl; (first | assumption | exact trivial))
 | (apply O_cmp; eq_refl; eq_refl; (first | assumption | exact trivial); all_goals intro _)
 | (apply O_len; eq_refl; (first | assumption | exact trivial))
 | (apply WL_on0; eq_refl))
  all_goals obtain ⟨hC4', hI4⟩ := hS4
  · have hlt0 : out.length < c.ands.length := by omega
    have hgt := gates80_cv (H.chg hC4') hTO ⟨hm0, hm1⟩ hna
    repeat' (first
 | (apply X_fn; eq_refl; exact hgt; rintro _ w5 ⟨rfl, hG5, hC5⟩; have hI5 := hI4.chg hC5 id; have hC5' := hC4'.trans hC5 fun _ _ h => h)
 | (apply WC_seqK; intro K hK)
 | (apply hK; clear hK)
 | (apply WC_block)
 | (apply WC_region)
 | (apply WL_nil)
 | (apply thenQ_normal)
 | (apply WL_on0; eq_refl)
 | (apply X_pv; eq_refl; first | exact trivial | omega)
 | (apply X_loadW; eq_refl; (first | assumption | (apply Blk.alloc; assumption) | apply Blk.new | apply Blk.newA | (apply Blk.alloc; first | apply Blk.newA | (apply Blk.alloc; first | assumption | apply Blk.newA))); eq_refl))
    generalize w4.heap.size + 1 = g at *
    refine WC_loop (fun i : Nat => [(1, pt w.heap.size), (10, .slice (some ⟨g, 0, none⟩) (gatesM c).length (gatesM c).length), (11, nu i)])
      (fun i W => Chg w W none_ ∧ Blk W w.heap.size 29 (ccells c h) ∧ Blk W g 3 ((gatesM c).map nu) ∧ i ≤ c.ands.length ∧ ∀ j, rg c.ands.length j → j < (i : Int) → ¬ Hangs (gateB (tabM c) c) j j) (fun i => c.ands.length - i) 0 ⟨rfl, rfl, rfl, trivial⟩ ⟨hC5', hI5, hG5, Nat.zero_le _, fun j hj hj2 => by unfold rg at hj; omega⟩ ?_
    clear hC5' hI5 hG5 hC5 w5
    rintro i w5 ⟨hC5, hI5, hG5, hi, hno⟩
    rcases Nat.lt_or_ge i c.ands.length with hlt | hge
    · have hri : rg c.ands.length (i : Int) := ⟨by omega, by omega⟩
      have hrd := round_cv (H.chg hC5) hG5 hTO hUA ⟨hm0, hm1⟩ hna hri
      repeat' (first
 | (apply X_fn; eq_refl; exact hrd; rintro _ w6 ⟨b, rfl, hb6, hC6⟩; have hI6 := hI5.chg hC6 id; have hC6' := hC5.trans hC6 fun _ _ h => h; cases b)
 | (apply WC_seqK; intro K hK)
 | (apply hK; clear hK)
 | (apply WC_block)
 | (apply WC_region)
 | (apply WL_nil)
 | (apply thenQ_normal)
 | (apply thenQ_ret)
 | (apply blockQ_ret)
 | (apply blockQ_normal)
 | (apply WC_ret)
 | (apply WC_skip)
 | (apply WC_if_true; eq_refl)
 | (apply WC_if_false; eq_refl)
 | (apply ret2; eq_refl; eq_refl)
 | (apply WL_on0; eq_refl)
 | (apply X_pv; eq_refl; first | exact trivial | omega)
 | (apply X_field; eq_refl)
 | (apply X_loadR; eq_refl; (first | assumption | (apply Blk.alloc; assumption) | apply Blk.new | apply Blk.newA | (apply Blk.alloc; first | apply Blk.newA | (apply Blk.alloc; first | assumption | apply Blk.newA))); eq_refl)
 | (apply X_loadW; eq_refl; (first | assumption | (apply Blk.alloc; assumption) | apply Blk.new | apply Blk.newA | (apply Blk.alloc; first | apply Blk.newA | (apply Blk.alloc; first | assumption | apply Blk.newA))); eq_refl)
 | (apply X_cmpT; eq_refl; eq_refl; omega)
 | (apply X_len; eq_refl))
      · refine ⟨i + 1, ⟨rfl, rfl, rfl, trivial⟩, ⟨hC6', hI6, hG5.chg hC6 id, hlt, fun j hj hji hh => ?_⟩, by omega⟩
        rcases Int.lt_or_le j (i : Int) with h1 | h1
        · exact hno j hj h1 hh
        · have : j = i := by omega
          subst this
          have := hb6.2 hh
          cases this
      · have hcy : CycOf c.ands.length (gateB (tabM c) c) (i : Int) := ⟨out, hall, .inr ⟨hlt0, hri, hb6.1 rfl, hno⟩⟩
        rw [cycM_eq hcy, if_pos (by omega)] at hl1
        exact ⟨by rw [hl1], hC6'⟩
    · obtain ⟨j, hj, hh⟩ := hall.round hB hlt0
      exact absurd hh (hno j hj (by unfold rg at hj; omega))
  have hcy : CycOf c.ands.length (gateB (tabM c) c) (-1) := ⟨out, hall, .inl ⟨by omega, rfl⟩⟩
  rw [cycM_eq hcy, if_neg (by decide)] at hl1
  have hsy := symbols82_cv (H.chg hC4') hs
  by_cases hgs : 0 ≤ goSym c c.symbols 0 fun _ _ => 0
  · rw [if_pos hgs, if_pos hgs] at hsy
    rw [if_pos hgs] at hl1
    repeat' (first
 | (apply X_fn; eq_refl; exact hsy; rintro _ w5 ⟨rfl, hC5⟩)
 | (apply WC_seqK; intro K hK)
 | (apply hK; clear hK)
 | (apply WC_region)
 | (apply WL_nil)
 | (apply thenQ_normal)
 | (apply thenQ_ret)
 | (apply WC_ret)
 | (apply WC_if_true; eq_refl)
 | (apply ret2; eq_refl; eq_refl)
 | (apply WL_on0; eq_refl)
 | (apply X_pv; eq_refl; first | exact trivial | omega)
 | (apply X_loadW; eq_refl; (first | assumption | (apply Blk.alloc; assumption) | apply Blk.new | apply Blk.newA | (apply Blk.alloc; first | apply Blk.newA | (apply Blk.alloc; first | assumption | apply Blk.newA))); eq_refl)
 | (apply X_cmpT; eq_refl; eq_refl; omega))
    exact ⟨by rw [hl1], hC4'.trans hC5 fun _ _ h => h⟩
  rw [if_neg hgs, if_neg hgs] at hsy
  rw [if_neg hgs] at hl1
  repeat' (first
 | (apply X_fn; eq_refl; exact hsy; rintro _ w5 ⟨rfl, hC5⟩; have hI5 := hI4.chg hC5 id; have hC5' := hC4'.trans hC5 fun _ _ h => h)
 | (apply WC_seqK; intro K hK)
 | (apply hK; clear hK)
 | (apply WC_block)
 | (apply WC_region)
 | (apply WL_nil)
 | (apply thenQ_normal)
 | (apply WC_skip)
 | (apply WC_if_false; eq_refl)
 | (apply WL_on0; eq_refl)
 | (apply X_pv; eq_refl; first | exact trivial | omega)
 | (apply X_loadW; eq_refl; (first | assumption | (apply Blk.alloc; assumption) | apply Blk.new | apply Blk.newA | (apply Blk.alloc; first | apply Blk.newA | (apply Blk.alloc; first | assumption | apply Blk.newA))); eq_refl)
 | (apply X_cmpF; eq_refl; eq_refl; omega))
  have hkl := hs.lens.2.2.2.2.2.2.2.2.2
  have htx := hs.texts
  refine WC_loop (fun i : Nat => [(1, pt w.heap.size), (14, nu i)]) (fun i W => Chg w W none_ ∧ Blk W w.heap.size 29 (ccells c h) ∧ i ≤ c.comments.length ∧ goCom (c.comments.drop i) i = goCom c.comments 0) (fun i => c.comments.length - i) 0 ⟨rfl, rfl, trivial⟩ ⟨hC5', hI5, Nat.zero_le _, rfl⟩ ?_
  clear hsy hC5' hI5 hC5 w5
  rintro i w5 ⟨hC5, hI5, hi, hgo⟩
  rcases Nat.lt_or_ge i c.comments.length with hlt | hge
  · obtain ⟨p, hp, hpc⟩ := (H.chg hC5).comments.one hlt (v := .string c.comments[i]) rfl
    rw [goCom_step hlt] at hgo
    have htl := htx _ (List.getElem_mem hlt)
    generalize hx : c.comments[i] = s at *
    have e6 : (ccells c h)[0 + 10]? = some (.slice (some p) c.comments.length (h 10).2) := by rw [← hp]; rfl
    repeat' (first
 | (apply WC_seqK; intro K hK)
 | (apply hK; clear hK)
 | (apply WC_block)
 | (apply WC_region)
 | (apply WL_nil)
 | (apply thenQ_normal)
 | (apply WC_skip)
 | (apply WC_if_true; eq_refl)
 | (apply WL_on0; eq_refl)
 | (apply X_pv; eq_refl; first | exact trivial | omega)
 | (apply X_field; eq_refl)
 | (apply X_loadR; eq_refl; (first | assumption | (apply Blk.alloc; assumption) | apply Blk.new | apply Blk.newA | (apply Blk.alloc; first | apply Blk.newA | (apply Blk.alloc; first | assumption | apply Blk.newA))); eq_refl)
 | (apply X_cmpT; eq_refl; eq_refl; omega)
 | (apply X_len; eq_refl))
    refine WC_loop (fun k : Nat => [(1, pt w.heap.size), (14, nu i), (15, nu k)]) (fun k W => W = w5 ∧ k ≤ s.size ∧ ∀ j, j < k → byteAt s j ≠ 10) (fun k => s.size - k) 0 ⟨rfl, rfl, rfl, trivial⟩ ⟨rfl, Nat.zero_le _, fun j hj => absurd hj (Nat.not_lt_zero _)⟩ ?_
    rintro k w6 ⟨rfl, hk, hall10⟩
    rcases Nat.lt_or_ge k s.size with hkl2 | hkg
    · repeat' (first
 | (apply X_loadR; eq_refl; exact hI5; exact e6)
 | (apply X_loadC; eq_refl; exact hpc)
 | (apply X_idxS; eq_refl; eq_refl; omega)
 | (apply WC_seqK; intro K hK)
 | (apply hK; clear hK)
 | (apply WC_block)
 | (apply WC_region)
 | (apply WL_nil)
 | (apply thenQ_normal)
 | (apply thenQ_ret)
 | (apply blockQ_ret)
 | (apply blockQ_normal)
 | (apply WC_ret)
 | (apply WC_skip)
 | (apply WC_if_true; eq_refl)
 | (apply WC_if_false; eq_refl)
 | (apply ret2; eq_refl; eq_refl)
 | (apply WL_on0; eq_refl)
 | (apply X_pv; eq_refl; first | exact trivial | omega)
 | (apply X_field; eq_refl)
 | (apply X_cmpT; eq_refl; eq_refl; omega)
 | (apply X_cmp; eq_refl; eq_refl; all_goals intro _)
 | (apply X_lenS; eq_refl)
 | (apply X_indexP; eq_refl; eq_refl; omega; omega))
      · rw [if_pos (mem_bytesI.2 ⟨k, hkl2, by assumption⟩)] at hgo
        rw [← hgo, if_pos (by omega)] at hl1
        exact ⟨by rw [hl1], hC5⟩
      · exact ⟨k + 1, ⟨rfl, rfl, rfl, trivial⟩, ⟨rfl, hkl2, fun j hj => by
          rcases Nat.lt_or_ge j k with h1 | h1
          · exact hall10 j h1
          · have : j = k := by omega
            subst this
            assumption⟩, by omega⟩
    · rw [if_neg (fun hh => by
        obtain ⟨j, hj, hj2⟩ := mem_bytesI.1 hh
        exact hall10 j (by omega) hj2)] at hgo
      repeat' (first
 | (apply X_loadR; eq_refl; exact hI5; exact e6)
 | (apply X_loadC; eq_refl; exact hpc)
 | (apply WC_seqK; intro K hK)
 | (apply hK; clear hK)
 | (clear hK; apply hK; clear hK)
 | (apply WC_region)
 | (apply WL_nil)
 | (apply thenQ_normal)
 | (apply thenQ_exit)
 | (apply blockQ_hit)
 | (apply blockQ_normal)
 | (apply WC_exit)
 | (apply WC_if_false; eq_refl)
 | (apply WL_on0; eq_refl)
 | (apply X_pv; eq_refl; first | exact trivial | omega)
 | (apply X_field; eq_refl)
 | (apply X_cmpF; eq_refl; eq_refl; omega)
 | (apply X_lenS; eq_refl)
 | (apply X_indexP; eq_refl; eq_refl; omega; omega))
      exact ⟨i + 1, ⟨rfl, rfl, trivial⟩, ⟨hC5, hI5, hlt, hgo⟩, by omega⟩
  · rw [List.drop_eq_nil_of_le hge] at hgo
    rw [← hgo, if_neg (by simp [goCom])] at hl1
    repeat' (first
 | (apply WC_seqK; intro K hK)
 | (apply hK; clear hK)
 | (clear hK; apply hK; clear hK)
 | (apply WC_region)
 | (apply WL_nil)
 | (apply thenQ_normal)
 | (apply thenQ_exit)
 | (apply blockQ_hit)
 | (apply WC_ret)
 | (apply WC_exit)
 | (apply WC_if_false; eq_refl)
 | (apply ret2; eq_refl; eq_refl)
 | (apply WL_on0; eq_refl)
 | (apply X_pv; eq_refl; first | exact trivial | omega)
 | (apply X_field; eq_refl)
 | (apply X_loadR; eq_refl; (first | assumption | (apply Blk.alloc; assumption) | apply Blk.new | apply Blk.newA | (apply Blk.alloc; first | apply Blk.newA | (apply Blk.alloc; first | assumption | apply Blk.newA))); eq_refl)
 | (apply X_cmpF; eq_refl; eq_refl; omega)
 | (apply X_len; eq_refl))
    exact ⟨by rw [hl1], hC5⟩
theorem orderRef_cv {w : World} {c : Circ} {h js : Hd} (H : CirAt w c h js) (hs : c.Sane) (ho : c.Okay) (hf : c.Fits) : CV Try.prog 72 [.agg (ccells c h).toArray] w fun v w' => Chg w w' none_ ∧
    (((lookM c).2 ≠ 0 ∧ v = .tuple #[.slice none 0 0, nu (lookM c).2]) ∨ ((lookM c).2 = 0 ∧ ∃ out u, v = .tuple #[u, nu 0] ∧ All c.ands.length (gateB (tabM c) c) out ∧ w'.ownsRow w.heap.size 3 1 u out.length (out.map nu))) := by
  have hI0 : Blk (w.alloc (.cells (ccells c h).toArray 29)) w.heap.size 29 (ccells c h) := Blk.new w _ _
  have hC := Chg.alloc w (.cells (ccells c h).toArray 29) none_
  have hck := checkRef_cv (H.chg hC) hs ho hf
  refine enter 16 [2, 3] Try.func72 rfl rfl rfl (by decide) rfl ?_
  by_cases he : (lookM c).2 = 0
  · obtain ⟨hle, hsz, hd, hu, _⟩ := lookM_ok he
    obtain ⟨hm0, hm1, hln, hsum⟩ := sizesM_ok hsz
    have hTO : TabOk c (tabM c) := definesM_spec hm0 hd
    have hUA := usesM_spec.1 hu
    have hna : c.ands.length ≤ 16384 := by have := hln (c.ands.length : Int) (by simp [Circ.lens]); omega
    rw [he] at hck
    have htd := fun (W : World) (hW : Chg w W none_) => told_cv (H.chg hW) hTO hUA ⟨hm0, hm1⟩ hna
    repeat' (first
 | (apply X_fn; eq_refl; exact hck; rintro _ w1 ⟨rfl, hC1⟩; have hI1 := hI0.chg hC1 id; have hC1' := hC.trans hC1 fun _ _ h => h)
 | (apply X_fn; eq_refl; exact htd _ hC1'; rintro v2 w2 ⟨hC2, out, hall, hrow⟩)
 | (apply WC_seqK; intro K hK)
 | (apply hK; clear hK)
 | (apply WC_region)
 | (apply WL_nil)
 | (apply thenQ_normal)
 | (apply WC_ret)
 | (apply WC_skip)
 | (apply WC_if_false; eq_refl)
 | (apply ret2; eq_refl; eq_refl)
 | (apply WL_on0; eq_refl)
 | (apply X_pv; eq_refl; first | exact trivial | omega)
 | (apply X_loadW; eq_refl; (first | assumption | (apply Blk.alloc; assumption) | apply Blk.new | apply Blk.newA | (apply Blk.alloc; first | apply Blk.newA | (apply Blk.alloc; first | assumption | apply Blk.newA))); eq_refl)
 | (apply X_cmpF; eq_refl; eq_refl; omega)
 | (apply X_box; eq_refl))
    have hs1 := hC1'.size
    exact ⟨hC1'.trans hC2 fun _ _ h => h, .inr ⟨he, out, v2, rfl, hall, own_mono hrow hs1⟩⟩
  · repeat' (first
 | (apply X_fn; eq_refl; exact hck; rintro _ w1 ⟨rfl, hC1⟩; have hI1 := hI0.chg hC1 id; have hC1' := hC.trans hC1 fun _ _ h => h)
 | (apply WC_seqK; intro K hK)
 | (apply hK; clear hK)
 | (apply WC_region)
 | (apply WL_nil)
 | (apply thenQ_normal)
 | (apply thenQ_ret)
 | (apply WC_ret)
 | (apply WC_if_true; eq_refl)
 | (apply ret2; eq_refl; eq_refl)
 | (apply WL_on0; eq_refl)
 | (apply X_pv; eq_refl; first | exact trivial | omega)
 | (apply X_loadW; eq_refl; (first | assumption | (apply Blk.alloc; assumption) | apply Blk.new | apply Blk.newA | (apply Blk.alloc; first | apply Blk.newA | (apply Blk.alloc; first | assumption | apply Blk.newA))); eq_refl)
 | (apply X_cmpT; eq_refl; eq_refl; omega)
 | (apply X_box; eq_refl))
    exact ⟨hC1', .inl ⟨he, rfl⟩⟩
end SC
end Go.Proofs.Yticndofcfacopaa
end
section
/- The order of a right circuit; trestleref07: Next0, Starts0, Values0. -/
set_option linter.unusedVariables false
set_option linter.unusedSimpArgs false
namespace Go.Proofs.Yticndofcfacopaa
namespace SC
open Go.Proofs
theorem ownsRow_low {w : World} {base : Nat} {t : TypeId} {sz n : Nat} {v : Value} {xs : List Value} (h : w.ownsRow base t sz v n xs) : w.ownsRow 0 t sz v n xs := ⟨h.1, h.2.imp id fun ⟨g, cap, cur, h1, _, h2⟩ => ⟨g, cap, cur, h1, Nat.zero_le _, h2⟩⟩
/-- A new row of its own, as an entry. -/
theorem own_vec {α : Type} {enc : α → List Value} {sz : Nat} {w w' : World} {t : TypeId} {u : Value} {l : List α} (h : w'.ownsRow w.heap.size t sz u l.length (l.flatMap enc)) (hc : Chg w w' none_) : ∃ A k, u = .slice A l.length k ∧ Mem w' ([.vec enc sz t A k l] ++ [.old w none_]) := by
  obtain ⟨A, k, rfl⟩ := row_form' h
  refine ⟨A, k, rfl, Mem.join (.one (ownsRow_low h)) (.one hc) fun j ⟨E, hE, h1⟩ ⟨F, hF, h2⟩ => ?_⟩
  simp only [List.mem_singleton] at hE hF
  subst hE hF
  have := (World.ownsRow.lt h j h1).1
  have := h2.1
  omega
/-- The order of its gates. -/
noncomputable def ordM (c : Circ) : List Int := by classical exact if h : ∃ out, All c.ands.length (gateB (tabM c) c) out then h.choose else []
theorem ordM_eq {c : Circ} {out : List Int} (h : All c.ands.length (gateB (tabM c) c) out) : ordM c = out := by
  have hex : ∃ out, All c.ands.length (gateB (tabM c) c) out := ⟨out, h⟩
  unfold ordM
  rw [dif_pos hex]
  exact All.only hex.choose_spec h
/-- What Order answers. -/
def OrdR (c : Circ) (v : Value) (N : Mm) : Prop :=
  ((lookM c).2 ≠ 0 ∧ v = .tuple #[.slice none 0 0, nu (lookM c).2] ∧ N = []) ∨ ((lookM c).2 = 0 ∧ ∃ A k, v = .tuple #[.slice A (ordM c).length k, nu 0] ∧ N = [.vec icell 1 3 A k (ordM c)])
theorem OrderG {w : World} {c : Circ} {h js : Hd} (H : CirAt w c h js) (hs : c.Sane) : CVN Try.prog 61 [.agg (ccells c h).toArray] w (OrdR c) := CV.mono (Order_cv H hs) fun v w' ⟨hc, hv⟩ => by
  rcases hv with ⟨h1, rfl⟩ | ⟨h1, out, u, rfl, h2, h3, h4⟩
  · exact ⟨[], .one hc, .inl ⟨h1, rfl, rfl⟩⟩
  · rw [← flat_icell] at h4
    obtain ⟨A, k, rfl, M⟩ := own_vec h4 hc
    rw [← ordM_eq h2] at M ⊢
    exact ⟨_, M, .inr ⟨h1, A, k, rfl, rfl⟩⟩
theorem OrderRefG {w : World} {c : Circ} {h js : Hd} (H : CirAt w c h js) (hs : c.Sane) (ho : c.Okay) (hf : c.Fits) : CVN Try.prog 72 [.agg (ccells c h).toArray] w (OrdR c) := CV.mono (orderRef_cv H hs ho hf) fun v w' ⟨hc, hv⟩ => by
  rcases hv with ⟨h1, rfl⟩ | ⟨h1, out, u, rfl, h2, h4⟩
  · exact ⟨[], .one hc, .inl ⟨h1, rfl, rfl⟩⟩
  · rw [← flat_icell] at h4
    obtain ⟨A, k, rfl, M⟩ := own_vec h4 hc
    rw [← ordM_eq h2] at M ⊢
    exact ⟨_, M, .inr ⟨h1, A, k, rfl, rfl⟩⟩
/-! ### a row that is filled from the left -/
/-- Next, by the values. -/
def nxtM (c : Circ) (v : List Bool) : List Bool := c.latches.map fun x => lv v x.2.1
attribute [local irreducible] WC WL WX WS WO OX Does DoesU Enters CV Pure thenQ blockQ retQ Wants retQC GC GL GS GX RdB thenG blockG retG Rd At gt CVN CVM
set_option maxRecDepth 100000
end SC
end Go.Proofs.Yticndofcfacopaa
end
section
/- A right circuit; its values. trestleref07: Starts0, Values0. -/
set_option linter.unusedVariables false
set_option linter.unusedSimpArgs false
namespace Go.Proofs.Yticndofcfacopaa
namespace SC
open Go.Proofs
theorem CV.ex {P : Program} {f : FuncId} {args : List Value} {w : World} {R : Value → World → Prop} (h : CV P f args w R) : ∃ v w', R v w' := by
  obtain ⟨e, w', fr, h1, _⟩ := h []
  cases e with
  | returned v => exact ⟨v, w', h1⟩
  | panicked c => exact h1.elim
  | outgrown => exact h1.elim
/-- What is so of a right circuit. -/
structure Right (c : Circ) : Prop where
  tab : TabOk c (tabM c)
  use : UseAll c (tabM c)
  m0 : 0 ≤ c.max
  m1 : c.max ≤ 16384
  lens : ∀ n ∈ c.lens, n ≤ 16384
  sum : sumW c.justice ≤ 16384
  all : All c.ands.length (gateB (tabM c) c) (ordM c)
  ordLen : (ordM c).length = c.ands.length
theorem right_of {w : World} {c : Circ} {h js : Hd} (H : CirAt w c h js) (hs : c.Sane) (he : (lookM c).2 = 0) : Right c := by
  obtain ⟨v, w', _, hv⟩ := CV.ex (Order_cv H hs)
  rcases hv with ⟨h1, _⟩ | ⟨_, out, u, _, h2, h3, _⟩
  · exact absurd he h1
  · obtain ⟨_, g1, g2, g3, _⟩ := lookM_ok he
    obtain ⟨k1, k2, k3, k4⟩ := sizesM_ok g1
    have e1 := ordM_eq h2
    exact ⟨definesM_spec k1 g2, usesM_spec.1 g3, k1, k2, k3, k4, by rw [e1]; exact h2, by rw [e1]; exact h3⟩
def inR (c : Circ) (l : Int) : Prop := 0 ≤ l ∧ l ≤ 2 * c.max + 1
def defR (c : Circ) (l : Int) : Prop := 2 ≤ l ∧ l ≤ 2 * c.max ∧ l % 2 = 0
section
variable {c : Circ} (R : Right c)
include R
theorem Right.nIn : c.inputs.length ≤ 16384 := by have := R.lens c.inputs.length (by simp [Circ.lens]); omega
theorem Right.nLat : c.latches.length ≤ 16384 := by have := R.lens c.latches.length (by simp [Circ.lens]); omega
theorem Right.nAnd : c.ands.length ≤ 16384 := by have := R.lens c.ands.length (by simp [Circ.lens]); omega
theorem Right.nBad : c.bads.length ≤ 16384 := by have := R.lens c.bads.length (by simp [Circ.lens]); omega
theorem Right.nCon : c.constraints.length ≤ 16384 := by have := R.lens c.constraints.length (by simp [Circ.lens]); omega
theorem Right.nFair : c.fairness.length ≤ 16384 := by have := R.lens c.fairness.length (by simp [Circ.lens]); omega
theorem Right.nJust : c.justice.length ≤ 16384 := by have := R.lens c.justice.length (by simp [Circ.lens]); omega
theorem Right.inp {l : Int} (h : l ∈ c.inputs) : defR c l := by
  obtain ⟨j, hj, rfl⟩ := List.mem_iff_getElem.1 h
  have := (R.tab.inp j hj).1
  unfold defBad at this; unfold defR; omega
theorem Right.lat {x : Tri} (h : x ∈ c.latches) : defR c x.1 ∧ inR c x.2.1 ∧ (x.2.2 = 0 ∨ x.2.2 = 1 ∨ x.2.2 = x.1) := by
  obtain ⟨j, hj, rfl⟩ := List.mem_iff_getElem.1 h
  have h1 := (R.tab.lat j hj).1
  have h2 := (R.tab.lat j hj).2.2
  have h3 := R.use.next _ (List.getElem_mem hj)
  unfold defBad at h1; unfold badReset at h2; unfold useOk at h3; unfold defR inR
  omega
theorem Right.gate {x : Tri} (h : x ∈ c.ands) : defR c x.1 ∧ inR c x.2.1 ∧ inR c x.2.2 := by
  obtain ⟨j, hj, rfl⟩ := List.mem_iff_getElem.1 h
  have h1 := (R.tab.gat j hj).1
  have h3 := R.use.ands _ (List.getElem_mem hj)
  unfold defBad at h1; unfold useOk at h3; unfold defR inR
  omega
theorem Right.con {l : Int} (h : l ∈ c.constraints) : inR c l := ⟨(R.use.constraints l h).1, (R.use.constraints l h).2.1⟩
theorem Right.bad {l : Int} (h : l ∈ c.bads) : inR c l := ⟨(R.use.bads l h).1, (R.use.bads l h).2.1⟩
theorem Right.fair {l : Int} (h : l ∈ c.fairness) : inR c l := ⟨(R.use.fairness l h).1, (R.use.fairness l h).2.1⟩
theorem Right.just {ls : List Int} {l : Int} (h : ls ∈ c.justice) (h2 : l ∈ ls) : inR c l := ⟨(R.use.justice ls h l h2).1, (R.use.justice ls h l h2).2.1⟩
theorem Right.ord {i : Int} (h : i ∈ ordM c) : 0 ≤ i ∧ i < c.ands.length := R.all.told.all i h
end
theorem inR.has {c : Circ} {l : Int} {v : List Bool} (h : inR c l) (hm : c.max ≤ 16384) (hv : v.length = (c.max + 1).toNat) : hasL v l := by unfold inR at h; unfold hasL; omega
theorem defR.in {c : Circ} {l : Int} (h : defR c l) : inR c l := by unfold defR at h; unfold inR; omega
/-! ### the values -/
def vIn (c : Circ) (r : List Bool) (i : Nat) : List Bool := (List.range i).foldl (fun v (k : Nat) => v.set (gt c.inputs (k : Int) / 2).toNat (gt r (k : Int))) (List.replicate (c.max + 1).toNat false)
def vLt (c : Circ) (s v : List Bool) (i : Nat) : List Bool := (List.range i).foldl (fun v (k : Nat) => v.set ((gt c.latches (k : Int)).1 / 2).toNat (gt s (k : Int))) v
def vAn (c : Circ) (ord : List Int) (v : List Bool) (i : Nat) : List Bool := (List.range i).foldl (fun v (k : Nat) => v.set ((gt c.ands (gt ord (k : Int))).1 / 2).toNat (lv v (gt c.ands (gt ord (k : Int))).2.1 && lv v (gt c.ands (gt ord (k : Int))).2.2)) v
noncomputable def valM (c : Circ) (s r : List Bool) : List Bool := vAn c (ordM c) (vLt c s (vIn c r c.inputs.length) c.latches.length) (ordM c).length
attribute [local irreducible] WC WL WX WS WO OX Does DoesU Enters CV Pure thenQ blockQ retQ Wants retQC GC GL GS GX RdB thenG blockG retG Rd At gt CVN CVM
set_option maxRecDepth 100000
end SC
end Go.Proofs.Yticndofcfacopaa
end
section
/- trestleref07: Values0. -/
set_option linter.unusedVariables false
set_option linter.unusedSimpArgs false
namespace Go.Proofs.Yticndofcfacopaa
namespace SC
open Go.Proofs
attribute [local irreducible] WC WL WX WS WO OX Does DoesU Enters CV Pure thenQ blockQ retQ Wants retQC GC GL GS GX RdB thenG blockG retG Rd At gt CVN CVM
set_option maxRecDepth 100000
end SC
end Go.Proofs.Yticndofcfacopaa
end
section
/- trestleref07: looked, Values, Next, Holds, Starts. -/
set_option linter.unusedVariables false
set_option linter.unusedSimpArgs false
namespace Go.Proofs.Yticndofcfacopaa
namespace SC
open Go.Proofs
/-- A circuit that can be read, and what is so of any. -/
structure CirIn (w : World) (c : Circ) (h js : Hd) : Prop where
  at_ : CirAt w c h js
  sane : c.Sane
  okay : c.Okay
  fits : c.Fits
theorem CirIn.chg {w w' : World} {c : Circ} {h js : Hd} (H : CirIn w c h js) (hc : Chg w w' none_) : CirIn w' c h js := ⟨H.at_.chg hc, H.sane, H.okay, H.fits⟩
theorem In.old {Γ : Mm} {w w0 : World} (h : In Γ (.old w0 none_)) (M : Mem w Γ) : Chg w0 w none_ := h.ok M
attribute [local irreducible] WC WL WX WS WO OX Does DoesU Enters CV Pure thenQ blockQ retQ Wants retQC GC GL GS GX RdB thenG blockG retG Rd At gt CVN CVM
set_option maxRecDepth 100000
section
variable {w : World} {c : Circ} {h js : Hd} {S T : Option Addr} {k2 k3 : Nat} {s r : List Bool} (H : CirIn w c h js) (hS : RowA w booc 1 S s) (hT : RowA w booc 1 T r)
include H hS hT
end
end SC
end Go.Proofs.Yticndofcfacopaa
end
section
/- sim: is, values, next, holds. -/
set_option linter.unusedVariables false
set_option linter.unusedSimpArgs false
namespace Go.Proofs.Yticndofcfacopaa
namespace SC
open Go.Proofs
theorem In.box {Γ : Mm} {w : World} {b : Nat} {t : TypeId} {cs : List Value} (h : In Γ (.box b t cs)) (M : Mem w Γ) : Blk w b t cs := h.ok M
theorem In.row {Γ : Mm} {w : World} {α : Type} {enc : α → List Value} {sz : Nat} [H : Enc enc sz] {t : TypeId} {A : Option Addr} {c : Nat} {l : List α} (h : In Γ (.vec enc sz t A c l)) (M : Mem w Γ) : RowA w enc sz A l := (Rd.own h H).at M
instance : Fn Try.prog 150 := ⟨fun args w => Try.call150 args w⟩
instance : Fn Try.prog 128 := ⟨fun args w => Try.call128 args w⟩
attribute [local irreducible] WC WL WX WS WO OX Does DoesU Enters CV Pure thenQ blockQ retQ Wants retQC GC GL GS GX RdB thenG blockG retG Rd At gt CVN CVM
set_option maxRecDepth 100000
/-! ### slices.ContainsFunc at numbers -/
end SC
end Go.Proofs.Yticndofcfacopaa
end
section
/- trestlebook: SameBools, SpoilBools; trestlelaw07: lent, lit. -/
set_option linter.unusedVariables false
set_option linter.unusedSimpArgs false
namespace Go.Proofs.Yticndofcfacopaa
namespace SC
open Go.Proofs
attribute [local irreducible] WC WL WX WS WO OX Does DoesU Enters CV Pure thenQ blockQ retQ Wants retQC GC GL GS GX RdB thenG blockG retG Rd At gt CVN CVM
set_option maxRecDepth 100000
end SC
end Go.Proofs.Yticndofcfacopaa
end
section
/- sim: ready, step, Values, Next, Holds, Starts. -/
set_option linter.unusedVariables false
set_option linter.unusedSimpArgs false
namespace Go.Proofs.Yticndofcfacopaa
namespace SC
open Go.Proofs
attribute [local irreducible] WC WL WX WS WO OX Does DoesU Enters CV Pure thenQ blockQ retQ Wants retQC GC GL GS GX RdB thenG blockG retG Rd At gt CVN CVM
set_option maxRecDepth 100000
section
variable {w : World} {c : Circ} {h js : Hd} {S T : Option Addr} {k2 k3 : Nat} {s r : List Bool} (H : CirIn w c h js) (hS : RowA w booc 1 S s) (hT : RowA w booc 1 T r)
include H hS hT
end
end SC
end Go.Proofs.Yticndofcfacopaa
end
section
/- What is so in a step. trestleref07: moment. -/
set_option linter.unusedVariables false
set_option linter.unusedSimpArgs false
namespace Go.Proofs.Yticndofcfacopaa
namespace SC
open Go.Proofs
theorem sumL_take_le (l : List (List Int)) (i : Nat) : sumL (l.take i) ≤ sumL l := by
  unfold sumL
  induction l generalizing i with
  | nil => simp
  | cons a r ih =>
    cases i with
    | zero => simp
    | succ i => simp only [List.take_succ_cons, List.map_cons, List.sum_cons]; have := ih i; omega
theorem Right.sumJ {c : Circ} (R : Right c) (hf : c.Fits) : sumL c.justice ≤ 16384 := by
  have h1 := sumL_le (l := c.justice) (M := 17592186044416) fun x hx => by have := hf.each x hx; omega
  have h2 := R.nJust
  have h3 := R.sum
  unfold sumW at h3
  have h4 : c.justice.length * 17592186044416 ≤ 16384 * 17592186044416 := Nat.mul_le_mul_right _ h2
  rw [wrap64_id (by omega) (by omega)] at h3
  omega
theorem each_sum {l : List (List Int)} {i : Nat} (h : i < l.length) : sumL (l.take i) + l[i].length ≤ sumL l := by
  have := sumL_take_le l (i + 1)
  rw [List.take_succ_eq_append_getElem h] at this
  unfold sumL at *
  rw [List.map_append, List.sum_append] at this
  simpa using this
attribute [local irreducible] WC WL WX WS WO OX Does DoesU Enters CV Pure thenQ blockQ retQ Wants retQC GC GL GS GX RdB thenG blockG retG Rd At gt CVN CVM
set_option maxRecDepth 100000
end SC
end Go.Proofs.Yticndofcfacopaa
end
section
/- sim: moment. -/
set_option linter.unusedVariables false
set_option linter.unusedSimpArgs false
namespace Go.Proofs.Yticndofcfacopaa
namespace SC
open Go.Proofs
attribute [local irreducible] WC WL WX WS WO OX Does DoesU Enters CV Pure thenQ blockQ retQ Wants retQC GC GL GS GX RdB thenG blockG retG Rd At gt CVN CVM
set_option maxRecDepth 100000
end SC
end Go.Proofs.Yticndofcfacopaa
end
section
/- Traces and runs. trestleref07: Fits, Run0, Run; sim: Run. -/
set_option linter.unusedVariables false
set_option linter.unusedSimpArgs false
namespace Go.Proofs.Yticndofcfacopaa
namespace SC
open Go.Proofs
abbrev Hdl := Option Addr × Nat
/-- A trace, each row with its handle. -/
structure Trc where
  init : List Bool
  rows : List (Hdl × List Bool)
  loop : Int
/-- The states of a run, and what is so in its steps. -/
noncomputable def stM (c : Circ) (t : Trc) : Nat → List Bool
  | 0 => t.init
  | k + 1 => nxtM c (valM c (stM c t k) (gt t.rows (k : Int)).2)
attribute [local irreducible] WC WL WX WS WO OX Does DoesU Enters CV Pure thenQ blockQ retQ Wants retQC GC GL GS GX RdB thenG blockG retG Rd At gt CVN CVM
set_option maxRecDepth 100000
end SC
end Go.Proofs.Yticndofcfacopaa
end
section
/- trestleref07: Run; sim: Run. -/
set_option linter.unusedVariables false
set_option linter.unusedSimpArgs false
namespace Go.Proofs.Yticndofcfacopaa
namespace SC
open Go.Proofs
attribute [local irreducible] WC WL WX WS WO OX Does DoesU Enters CV Pure thenQ blockQ retQ Wants retQC GC GL GS GX RdB thenG blockG retG Rd At gt CVN CVM
set_option maxRecDepth 100000
end SC
end Go.Proofs.Yticndofcfacopaa
end
section
/- trestlelaw07: works. -/
set_option linter.unusedVariables false
set_option linter.unusedSimpArgs false
namespace Go.Proofs.Yticndofcfacopaa
namespace SC
open Go.Proofs
attribute [local irreducible] WC WL WX WS WO OX Does DoesU Enters CV Pure thenQ blockQ retQ Wants retQC GC GL GS GX RdB thenG blockG retG Rd At CVN CVM
set_option maxRecDepth 100000
end SC
end Go.Proofs.Yticndofcfacopaa
end
section
/- ShapeChecks: the walk. -/
set_option linter.unusedVariables false
set_option linter.unusedSimpArgs false
namespace Go.Proofs.Yticndofcfacopaa
namespace SC
open Go.Proofs
theorem Circ.Fits.lens1 {c : Circ} (hf : c.Fits) : ∀ n ∈ c.lens, n + 1 ≤ 9223372036854775807 := by
  intro n hn
  have h1 := hf.inputs
  have h2 := hf.latches
  have h3 := hf.outputs
  have h4 := hf.bads
  have h5 := hf.constraints
  have h6 := hf.justice
  have h7 := hf.fairness
  have h8 := hf.ands
  have h9 := hf.symbols
  have h10 := hf.comments
  simp only [Circ.lens, List.mem_cons, List.not_mem_nil, or_false] at hn
  rcases hn with rfl | rfl | rfl | rfl | rfl | rfl | rfl | rfl | rfl | rfl <;> omega
attribute [local irreducible] WC WL WX WS WO OX Does DoesU Enters CV Pure thenQ blockQ retQ Wants retQC
set_option maxRecDepth 100000
end SC
end Go.Proofs.Yticndofcfacopaa
end
section
/- trestlelaw07: SimStarts, SimSteps: the walks. -/
set_option linter.unusedVariables false
set_option linter.unusedSimpArgs false
namespace Go.Proofs.Yticndofcfacopaa
namespace SC
open Go.Proofs
/-- A lent circuit, as an entry. -/
def lentX (base : Nat) (c : Circ) (h js : Hd) : EntX where
  own := fun k => ∃ i, (lentRow c h js i).v.ownBlock = some k
  ok := fun w => CirLent w base c h js
  lt := fun w H k ⟨i, hi⟩ => (World.ownsRow.lt (H i) k hi).2
  keep := fun w w' S H hc hn => fun i => own_chg (H i) hc fun k hk => hn k ⟨i, hk⟩
def LendR (c : Circ) (v : Value) (N : Mm) : Prop := ∃ base h' js', v = .agg (ccells c h').toArray ∧ N = [.any (lentX base c h' js')]
theorem LendG {w : World} {c : Circ} {h js : Hd} (H : CirAt w c h js) (hf : c.Fits1) (hn : Nils h js) : CVN Try.prog 12 [.agg (ccells c h).toArray] w (LendR c) := CV.mono (lendCircuit_cv H hf hn) fun v w' ⟨h', js', e1, e2, hc⟩ =>
  ⟨[.any (lentX w.heap.size c h' js')], Mem.join (.one e2) (.one hc) fun k ⟨E, hE, h1⟩ ⟨F, hF, h2⟩ => by
    simp only [List.mem_singleton] at hE hF
    subst hE hF
    obtain ⟨i, hi⟩ := h1
    have := (World.ownsRow.lt (e2 i) k hi).1
    have := h2.1
    omega, w.heap.size, h', js', e1, rfl⟩
/-- What comes in: a circuit, with its reach. -/
structure CirGot (w : World) (c : Circ) (h js : Hd) : Prop extends CirIn w c h js where
  fits1 : c.Fits1
  nils : Nils h js
theorem CirGot.chg {w w' : World} {c : Circ} {h js : Hd} (H : CirGot w c h js) (hc : Chg w w' none_) : CirGot w' c h js := ⟨H.toCirIn.chg hc, H.fits1, H.nils⟩
theorem In.lent {Γ : Mm} {w w0 : World} {base : Nat} {c : Circ} {h js h' js' : Hd} (H : CirIn w0 c h js) (hi : In Γ (.any (lentX base c h' js'))) (M : Mem w Γ) : CirIn w c h' js' := ⟨CirLent.at (hi.ok M), H.sane, H.okay, H.fits⟩
theorem KeptG {Γ : Mm} {w0 w : World} {base : Nat} {c : Circ} {h js h' js' : Hd} (H : CirGot w0 c h js) (hi : In Γ (.any (lentX base c h' js'))) (ho : In Γ (.old w0 none_)) (M : Mem w Γ) : CVN Try.prog 18 [.agg (ccells c h').toArray, .agg (ccells c h).toArray] w fun v N => N = [] ∧ v = .bool true :=
  CVN.of (keptCircuit_cv (hi.ok M) (H.at_.chg (ho.old M)) H.okay H.fits1.lens1) fun v w' h => ⟨h.2, h.1⟩
attribute [local irreducible] WC WL WX WS WO OX Does DoesU Enters CV Pure thenQ blockQ retQ Wants retQC GC GL GS GX RdB thenG blockG retG Rd At gt CVN CVM
set_option maxRecDepth 100000
end SC
end Go.Proofs.Yticndofcfacopaa
end
section
/- trestlelaw07: SimSteps: the walk. -/
set_option linter.unusedVariables false
set_option linter.unusedSimpArgs false
namespace Go.Proofs.Yticndofcfacopaa
namespace SC
open Go.Proofs
theorem G_callM2 {P : Program} {n : Nat} {all : List Oper} {K : Env → Mm → Prop} {m : Md} {d : Option Tmp} {e : Env} {Γ Γ' : Mm} {ty : TypeId} {f : FuncId} [F : Go.Proofs.Yticndofcfacopaa.SC.Fn P f] {args : Array Operand} {ats : Array TypeId} {vs : List Value} {C : Mm} {R : Value → Mm → Prop} (hm : wrOk all m = true) (h : evs e args.toList = some vs) (hc : ∀ w, Mem w C → CVM P f vs w C R) (hC : Rems Γ C Γ') (hr : ∀ v N, R v N → GN P n all K m (push d v e) (N ++ Γ')) :
    GX P n all K m d (.call { callee := .value (.func f), args := args, argTypes := ats }) ty e Γ :=
  G_callM hm h hC (fun w M => hc w (Mem.takes hC M).left) hr
attribute [local irreducible] WC WL WX WS WO OX Does DoesU Enters CV Pure thenQ blockQ retQ Wants retQC GC GL GS GX RdB thenG blockG retG Rd At gt CVN CVM
set_option maxRecDepth 100000
end SC
end Go.Proofs.Yticndofcfacopaa
end
section
/- Lists of bools that come in. -/
set_option linter.unusedVariables false
set_option linter.unusedSimpArgs false
namespace Go.Proofs.Yticndofcfacopaa
namespace SC
open Go.Proofs
set_option maxRecDepth 100000
section
variable {H : Type} {enc : TypeId × Value → H} {W : World} {base : Nat} {spare : Nat → Bool} {held : Bool}
end
end SC
end Go.Proofs.Yticndofcfacopaa
end
section
/- What is so of the values of a right circuit; trestlelaw07: lit. -/
set_option linter.unusedVariables false
set_option linter.unusedSimpArgs false
namespace Go.Proofs.Yticndofcfacopaa
namespace SC
open Go.Proofs
/-! ### a list that is written from the left -/
section
variable {g : Nat → Nat} {h : List Bool → Nat → Bool} {v : List Bool}
end
theorem nodup_ix {l : List Int} (h : l.Nodup) {a b : Nat} (ha : a < l.length) (hb : b < l.length) (e : l[a] = l[b]) : a = b := by
  have hp := List.pairwise_iff_getElem.1 h
  rcases Nat.lt_trichotomy a b with h1 | h1 | h1
  · exact absurd e (hp a b ha hb h1)
  · exact h1
  · exact absurd e.symm (hp b a hb ha h1)
/-- What the values are. -/
structure ValOk (c : Circ) (s r v : List Bool) : Prop where
  len : v.length = (c.max + 1).toNat
  zero : gt v 0 = false
  inp : ∀ i : Nat, i < c.inputs.length → gt v (gt c.inputs (i : Int) / 2) = gt r (i : Int)
  lat : ∀ i : Nat, i < c.latches.length → gt v ((gt c.latches (i : Int)).1 / 2) = gt s (i : Int)
  and : ∀ i : Nat, i < c.ands.length → gt v ((gt c.ands (i : Int)).1 / 2) = (lv v (gt c.ands (i : Int)).2.1 && lv v (gt c.ands (i : Int)).2.2)
theorem Right.ordAll {c : Circ} (R : Right c) {i : Nat} (hi : i < c.ands.length) : (i : Int) ∈ ordM c := Classical.byContradiction fun hn => by
  have h1 := nodup_size c.ands.length ((i : Int) :: ordM c) (List.nodup_cons.2 ⟨hn, R.all.told.nodup⟩) fun y hy => by
    rcases List.mem_cons.1 hy with rfl | hy
    · exact ⟨by omega, by omega⟩
    · exact R.all.told.all y hy
  have := R.ordLen
  simp only [List.length_cons] at h1
  omega
attribute [local irreducible] WC WL WX WS WO OX Does DoesU Enters CV Pure thenQ blockQ retQ Wants retQC GC GL GS GX RdB thenG blockG retG Rd At gt CVN CVM
set_option maxRecDepth 100000
end SC
end Go.Proofs.Yticndofcfacopaa
end
section
/- trestlelaw07: SimGates: the walk. -/
set_option linter.unusedVariables false
set_option linter.unusedSimpArgs false
namespace Go.Proofs.Yticndofcfacopaa
namespace SC
open Go.Proofs
attribute [local irreducible] WC WL WX WS WO OX Does DoesU Enters CV Pure thenQ blockQ retQ Wants retQC GC GL GS GX RdB thenG blockG retG Rd At gt CVN CVM
set_option maxRecDepth 100000
end SC
end Go.Proofs.Yticndofcfacopaa
end
section
/- trestlebook: SameInts, SpoilInts, SameTrace; trestlelaw07: same. -/
set_option linter.unusedVariables false
set_option linter.unusedSimpArgs false
namespace Go.Proofs.Yticndofcfacopaa
namespace SC
open Go.Proofs Go.Maps
set_option maxRecDepth 100000
theorem sameIntsG {w : World} {A B : Option Addr} {c d : Nat} {l : List Int} (R : RowA w icell 1 A l) (R' : RowA w icell 1 B l) (hl : l.length ≤ 9223372036854775807) : CVN Try.prog 35 [.slice A l.length c, .slice B l.length d] w fun v N => N = [] ∧ v = .bool true :=
  CVN.of (sameInts_cv R R' hl hl) fun v w' h => ⟨h.2, by rw [h.1, decide_eq_true rfl]⟩
theorem spoilIntsG {w : World} {A : Option Addr} {c : Nat} {l : List Int} {mark : Int} (M : Mem w [.vec icell 1 3 A c l]) : CVM Try.prog 37 [.slice A l.length c, nu mark] w [.vec icell 1 3 A c l] fun v N => N = [] :=
  CV.mono (spoil_cv (mark := mark) ((In.here (E := .vec icell 1 3 A c l) (Γ := [])).ok M)) fun v w' h => ⟨[], .one (h.mono fun k hk => owns_cons.2 (.inl hk)), rfl⟩
/-! ### spots -/
/-! ### traces -/
/-! ### the moments of a run, in memory -/
theorem vec_len {α : Type} {enc : α → List Value} {sz : Nat} {w : World} {t : TypeId} {A : Option Addr} {c : Nat} {l : List α} (h : w.ownsRow 0 t sz (.slice A l.length c) l.length (l.flatMap enc)) : l.length ≤ 9223372036854775807 := by
  rcases h.2 with ⟨_, h2⟩ | ⟨g, cap, cur, _, _, _, hc, hm, _⟩
  · omega
  · simp only [maxLen] at hm
    omega
attribute [local irreducible] WC WL WX WS WO OX Does DoesU Enters CV Pure thenQ blockQ retQ Wants retQC GC GL GS GX RdB thenG blockG retG Rd At gt CVN CVM
end SC
end Go.Proofs.Yticndofcfacopaa
end
section
/- trestlebook: CopyTrace; runs of traces that read the same. -/
set_option linter.unusedVariables false
set_option linter.unusedSimpArgs false
namespace Go.Proofs.Yticndofcfacopaa
namespace SC
open Go.Proofs
attribute [local irreducible] WC WL WX WS WO OX Does DoesU Enters CV Pure thenQ blockQ retQ Wants retQC GC GL GS GX RdB thenG blockG retG Rd At gt CVN CVM
set_option maxRecDepth 100000
end SC
end Go.Proofs.Yticndofcfacopaa
end
section
/- Entries bound together; what runs answer. -/
set_option linter.unusedVariables false
set_option linter.unusedSimpArgs false
namespace Go.Proofs.Yticndofcfacopaa
namespace SC
open Go.Proofs
/-- Entries as one. -/
def bun (Δ : Mm) : EntX where
  own := owns Δ
  ok := fun w => Mem w Δ
  lt := fun w M k hk => M.lt hk
  keep := fun w w' S M hc hn => M.chg hc hn
theorem In.bun {Γ Δ : Mm} {w : World} (h : In Γ (.any (bun Δ))) (M : Mem w Γ) : Mem w Δ := h.ok M
theorem Rd.bun {α : Type} {Γ Δ : Mm} {enc : α → List Value} {sz : Nat} {A : Option Addr} {l : List α} (h : In Γ (.any (bun Δ))) (h0 : Rd Δ enc sz A l) : Rd Γ enc sz A l := fun w M => h0.at (h.bun M)
theorem CVN.bun {P : Program} {f : FuncId} {args : List Value} {w : World} {R : Value → Mm → Prop} (h : CVN P f args w R) : CVN P f args w fun v N => ∃ N', R v N' ∧ N = [.any (bun N')] :=
  CV.mono h fun v w' ⟨N, M, hR⟩ => ⟨[.any (SC.bun N)], Mem.join (.one M.left) M.right fun k ⟨E, hE, h1⟩ h2 => by
    simp only [List.mem_singleton] at hE
    subst hE
    exact M.sep k h1 h2, N, hR, rfl⟩
theorem Wk.left {Γ Δ : Mm} : Wk (Δ ++ Γ) Δ := ⟨fun w M => M.left, fun k hk => owns_append.2 (.inl hk)⟩
end SC
end Go.Proofs.Yticndofcfacopaa
end
section
/- trestlelaw07: SimRuns: the walk. -/
set_option linter.unusedVariables false
set_option linter.unusedSimpArgs false
namespace Go.Proofs.Yticndofcfacopaa
namespace SC
open Go.Proofs
attribute [local irreducible] WC WL WX WS WO OX Does DoesU Enters CV Pure thenQ blockQ retQ Wants retQC GC GL GS GX RdB thenG blockG retG Rd At gt CVN CVM
attribute [local irreducible] fam bun
set_option maxRecDepth 100000
end SC
end Go.Proofs.Yticndofcfacopaa
end
section
/- Traces that come in. -/
set_option linter.unusedVariables false
set_option linter.unusedSimpArgs false
namespace Go.Proofs.Yticndofcfacopaa
namespace SC
open Go.Proofs
set_option maxRecDepth 100000
section
variable {H : Type} {enc : TypeId × Value → H} {W : World} {base : Nat} {spare : Nat → Bool} {held : Bool}
end
end SC
end Go.Proofs.Yticndofcfacopaa
end
section
/- A back part of a slice; numbers without a sign; a run from one of its states. -/
set_option linter.unusedVariables false
set_option linter.unusedSimpArgs false
namespace Go.Proofs.Yticndofcfacopaa
namespace SC
open Go.Proofs
set_option maxRecDepth 100000
section
variable {n : Nat} {all : List Oper} {K : Env → Mm → Prop} {m : Md} {e : Env} {Γ : Mm} {d : Option Tmp} {ty t t' t0 : TypeId} {x y : Operand} {td : TypeDesc} {sz sz1 by_ by1 : Nat} {zv z1 : Value} {ag ag1 : Bool}
end
theorem RowA.drop {α : Type} {w : World} {enc : α → List Value} {sz : Nat} {A : Option Addr} {l : List α} (h : RowA w enc sz A l) (i : Nat) : RowA w enc sz (A.map (·.add (i * sz))) (l.drop i) := fun k hk => by
  rw [List.length_drop] at hk
  obtain ⟨p, rfl, hp⟩ := h (i + k) (by omega)
  refine ⟨p.add (i * sz), rfl, fun j u hj => ?_⟩
  rw [List.getElem_drop] at hj
  have := hp j u hj
  rw [show ((i + k : Nat) : Int).toNat = i + k by omega, Nat.add_mul] at this
  rw [show (k : Int).toNat = k by omega, Addr.add_add p]
  exact this
/-- The trace from a state on. -/
noncomputable def tail (c : Circ) (t : Trc) (i : Nat) : Trc := ⟨stM c t i, t.rows.drop i, -1⟩
end SC
end Go.Proofs.Yticndofcfacopaa
end
section
/- trestleref03: Lit, Lits, Binary. -/
set_option linter.unusedVariables false
set_option linter.unusedSimpArgs false
namespace Go.Proofs.Yticndofcfacopaa
namespace SC
open Go.Proofs
theorem gt_L (to : List Int) (v : Int) : gt to v = L to v := rfl
attribute [local irreducible] WC WL WX WS WO OX Does DoesU Enters CV Pure thenQ blockQ retQ Wants retQC GC GL GS GX RdB thenG blockG retG Rd At gt CVN CVM
set_option maxRecDepth 100000
end SC
end Go.Proofs.Yticndofcfacopaa
end

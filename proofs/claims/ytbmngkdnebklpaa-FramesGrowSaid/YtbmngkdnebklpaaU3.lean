/- Texts of this seat, one behind the other: J5 J6 K1 K2 K3 K4 K5 L1 L2 G3 G4 G5 G6 G7 H1 L3 L4 L5 L6 L7 L8 L9 S2 S3 S4 S5 S6 S7 S8 S9 S10 S11 S12 S13 L10 S14 S15 S16 S17 S18 S19 S20 S21 S22 S23 S24 S27 S28 S29 S30 S31 S32 S33 S36 S34 S35 M1 M2 M3 S37 S38 S39 S40 O0 O9 O1 O2 O3 O4 O5 O6 O7 O8 O10 O11 O12 O13 O14 N16. -/
import Derived.Test.YtbmngkdnebklpaaU2
import Derived.SizedLaws
import Derived.ChangeArms
import Derived.Shelf.Spec.SlicesGrow
section
/- trestlebook: symbols, texts, lists: the same? -/
set_option linter.unusedVariables false
set_option linter.unusedSimpArgs false
namespace Go.Proofs.Ytbmngkdnebklpaa
namespace SC
open Go.Proofs Go.Maps
set_option maxRecDepth 100000
def SymFits (s : Sym) : Prop := fit8 s.kind ∧ fit64 s.at_ ∧ s.name.size ≤ 9223372036854775807
section
variable {P : Program} {n : Nat} {all rest : List Oper} {K : Env → World → Prop} {S : World → Prop} {r : List (Nat × Bool)} {i : Nat} {e : Env} {w : World} {d : Option Tmp} {ty : TypeId} {x y : Operand} {t t' : TypeId}
end
attribute [local irreducible] WC WL WX WS WO OX Does DoesU Enters CV Pure thenQ blockQ retQ Wants retQC
end SC
end Go.Proofs.Ytbmngkdnebklpaa
end
section
/- trestlebook: SameLists, SameCircuit. -/
set_option linter.unusedVariables false
set_option linter.unusedSimpArgs false
namespace Go.Proofs.Ytbmngkdnebklpaa
namespace SC
open Go.Proofs
attribute [local irreducible] WC WL WX WS WO OX Does DoesU Enters CV Pure thenQ blockQ retQ Wants retQC
set_option maxRecDepth 100000
/-- The numbers and texts of a circuit fit. -/
structure Circ.Okay (c : Circ) : Prop where
  lens : ∀ n ∈ c.lens, n ≤ 9223372036854775807
  just : ∀ l ∈ c.justice, l.length ≤ 9223372036854775807
  latches : ∀ x ∈ c.latches, TriFits x
  ands : ∀ x ∈ c.ands, TriFits x
  symbols : ∀ x ∈ c.symbols, SymFits x
theorem Circ.same {c d : Circ} (h0 : c.max = d.max) (h1 : c.inputs = d.inputs) (h2 : c.latches = d.latches) (h3 : c.outputs = d.outputs) (h4 : c.bads = d.bads) (h5 : c.constraints = d.constraints) (h6 : c.justice = d.justice) (h7 : c.fairness = d.fairness) (h8 : c.ands = d.ands) (h9 : c.symbols = d.symbols) (h10 : c.comments = d.comments) : c = d := by
  cases c; cases d
  simp at h0 h1 h2 h3 h4 h5 h6 h7 h8 h9 h10
  simp [h0, h1, h2, h3, h4, h5, h6, h7, h8, h9, h10]
end SC
end Go.Proofs.Ytbmngkdnebklpaa
end
section
/- trestlebook: KeptInts, SpoilInts; names. -/
set_option linter.unusedVariables false
set_option linter.unusedSimpArgs false
namespace Go.Proofs.Ytbmngkdnebklpaa
namespace SC
open Go.Proofs
attribute [local irreducible] WC WL WX WS WO OX Does DoesU Enters CV Pure thenQ blockQ retQ Wants retQC
set_option maxRecDepth 100000
theorem RowA.left {α : Type} {w : World} {enc : α → List Value} {sz : Nat} {A : Option Addr} {l m : List α} (h : RowA w enc sz A (l ++ m)) : RowA w enc sz A l := fun k hk => by
  obtain ⟨p, h1, h2⟩ := h k (by simp; omega)
  refine ⟨p, h1, fun j u hj => h2 j u ?_⟩
  rwa [List.getElem_append_left hk]
end SC
end Go.Proofs.Ytbmngkdnebklpaa
end
section
/- trestlebook: CopyCircuit. -/
set_option linter.unusedVariables false
set_option linter.unusedSimpArgs false
namespace Go.Proofs.Ytbmngkdnebklpaa
namespace SC
open Go.Proofs
section
variable {P : Program} {d : Option Tmp} {op : Op} {ty : TypeId} {pos : String} {af : Array Edge} {g : Option (Nat × Bool)} {e : Env} {w : World} {R : Value → World → Prop}
theorem Ex.does {v : Value} {w' : World} (h : Does P op ty e w v w') (hr : R v w') : Ex P ⟨d, op, ty, pos, af, g⟩ e w R := .inl ⟨v, w', h, hr⟩
theorem Ex.fn {f : FuncId} [F : Go.Proofs.Ytbmngkdnebklpaa.SC.Fn P f] {args : Array Operand} {ats : Array TypeId} {vs : List Value} {R' : Value → World → Prop} (h : evs e args.toList = some vs) (hc : CV P f vs w R') (hr : ∀ v w', R' v w' → R v w') :
    Ex P ⟨d, .call { callee := .value (.func f), args := args, argTypes := ats }, ty, pos, af, g⟩ e w R := .inr (.inl ⟨f, vs, enters (evs_map h), hc.mono hr⟩)
end
/-- Where there is no row there is no room. -/
def Nils (h js : Hd) : Prop := (∀ i, (h i).1 = none → (h i).2 = 0) ∧ ∀ i, (js i).1 = none → (js i).2 = 0
attribute [local irreducible] WC WL WX WS WO OX Does DoesU Enters CV Pure thenQ blockQ retQ Wants retQC
set_option maxRecDepth 100000
end SC
end Go.Proofs.Ytbmngkdnebklpaa
end
section
/- trestlebook: LendCircuit. -/
set_option linter.unusedVariables false
set_option linter.unusedSimpArgs false
namespace Go.Proofs.Ytbmngkdnebklpaa
namespace SC
open Go.Proofs
/-- As many as memory holds, one more in each list. -/
structure Circ.Fits1 (c : Circ) : Prop extends c.Fits where
  inputs1 : (c.inputs.length + 1) * 8 ≤ 140737488355328
  latches1 : (c.latches.length + 1) * 24 ≤ 140737488355328
  outputs1 : (c.outputs.length + 1) * 8 ≤ 140737488355328
  bads1 : (c.bads.length + 1) * 8 ≤ 140737488355328
  constraints1 : (c.constraints.length + 1) * 8 ≤ 140737488355328
  fairness1 : (c.fairness.length + 1) * 8 ≤ 140737488355328
  ands1 : (c.ands.length + 1) * 24 ≤ 140737488355328
def lintRow (h : Hd) (i : Nat) (l : List Int) : Rw := ⟨slc h i (l.length + 1), 3, 1, l.length + 1, (l ++ [-77]).flatMap icell⟩
def ltriRow (h : Hd) (i : Nat) (t : TypeId) (l : List Tri) : Rw := ⟨slc h i (l.length + 1), t, 3, l.length + 1, (l ++ [(-77, 0, 0)]).flatMap tcells⟩
/-- The rows of a circuit that is lent: one more behind the end. -/
def lentRow (c : Circ) (h js : Hd) : Nat → Rw
  | 1 => lintRow h 1 c.inputs
  | 2 => ltriRow h 2 58 c.latches
  | 3 => lintRow h 3 c.outputs
  | 4 => lintRow h 4 c.bads
  | 5 => lintRow h 5 c.constraints
  | 7 => lintRow h 7 c.fairness
  | 8 => ltriRow h 8 54 c.ands
  | k => cirRows c h js js c.justice.length k
def Has (w : World) (base : Nat) (f : Nat → Rw) : Prop := ∀ i, (f i).own w base
def CirLent (w : World) (base : Nat) (c : Circ) (h js : Hd) : Prop := Has w base (lentRow c h js)
theorem Has.chg {w w' : World} {base : Nat} {f : Nat → Rw} {T : Nat → Prop} (H : Has w base f) (hc : Chg w w' T) (hT : ∀ i k, (f i).v.ownBlock = some k → ¬ T k) : Has w' base f := fun i => own_chg (H i) hc (hT i)
theorem Has.put {w w' : World} {base : Nat} {f : Nat → Rw} {T : Nat → Prop} (H : Has w base f) (i : Nat) (r : Rw) (hc : Chg w w' T) (hT : ∀ j k, j ≠ i → (f j).v.ownBlock = some k → ¬ T k) (hr : r.own w' base) : Has w' base (upd f i r) := fun j => by
  unfold upd
  split
  · exact hr
  · rename_i hne
    exact own_chg (H j) hc fun k hk => hT j k hne hk
theorem Has.lt {w : World} {base : Nat} {f : Nat → Rw} (H : Has w base f) {i k : Nat} (hk : (f i).v.ownBlock = some k) : base ≤ k ∧ k < w.heap.size := World.ownsRow.lt (H i) k hk
section
variable {P : Program} {n : Nat} {all : List Oper} {S : World → Prop} {K : Env → World → Prop} {i : Nat} {r : List (Nat × Bool)} {d : Option Tmp} {ty t t0 : TypeId} {e : Env} {w : World} {x y : Operand} {td : TypeDesc} {sz by_ sz1 by1 : Nat} {zv z1 : Value} {ag ag1 : Bool}
end
attribute [local irreducible] WC WL WX WS WO OX Does DoesU Enters CV Pure thenQ blockQ retQ Wants retQC
set_option maxRecDepth 100000
end SC
end Go.Proofs.Ytbmngkdnebklpaa
end
section
/- trestlebook: KeptCircuit. -/
set_option linter.unusedVariables false
set_option linter.unusedSimpArgs false
namespace Go.Proofs.Ytbmngkdnebklpaa
namespace SC
open Go.Proofs
theorem lint_at {w : World} {base : Nat} {h : Hd} {i : Nat} {l : List Int} (H : (lintRow h i l).own w base) : RowA w icell 1 (h i).1 (l ++ [-77]) ∧ l.length + 1 ≤ (h i).2 := by
  have H1 : w.ownsRow base 3 1 (.slice (h i).1 (l ++ [-77]).length (h i).2) (l ++ [-77]).length ((l ++ [-77]).flatMap icell) := by
    have e : (l ++ [(-77 : Int)]).length = l.length + 1 := by simp
    rw [e]; exact H
  have hc := own_cap H1
  exact ⟨RowA.own ilen H1, by simpa using hc⟩
theorem ltri_at {w : World} {base : Nat} {h : Hd} {i : Nat} {t : TypeId} {l : List Tri} (H : (ltriRow h i t l).own w base) : RowA w tcells 3 (h i).1 (l ++ [(-77, 0, 0)]) ∧ l.length + 1 ≤ (h i).2 := by
  have H1 : w.ownsRow base t 3 (.slice (h i).1 (l ++ [(-77, 0, 0)]).length (h i).2) (l ++ [(-77, 0, 0)]).length ((l ++ [(-77, 0, 0)]).flatMap tcells) := by
    have e : (l ++ [((-77, 0, 0) : Tri)]).length = l.length + 1 := by simp
    rw [e]; exact H
  have hc := own_cap H1
  exact ⟨RowA.own tlen H1, by simpa using hc⟩
theorem CirLent.chg {w w' : World} {base : Nat} {c : Circ} {h js : Hd} (H : CirLent w base c h js) (hc : Chg w w' none_) : CirLent w' base c h js := fun i => own_chg (H i) hc fun _ _ => id
theorem CirLent.at {w : World} {base : Nat} {c : Circ} {h js : Hd} (H : CirLent w base c h js) : CirAt w c h js := by
  refine ⟨(lint_at (H 1)).1.left, (ltri_at (H 2)).1.left, (lint_at (H 3)).1.left, (lint_at (H 4)).1.left, (lint_at (H 5)).1.left, fun k hk => ?_, fun k hk => ?_, (lint_at (H 7)).1.left, (ltri_at (H 8)).1.left, RowA.own slen (H 9), RowA.own blen (H 10)⟩
  · have h6 := H 6
    simp only [Rw.own, lentRow, cirRows] at h6
    rcases h6.2 with ⟨hv, hn⟩ | ⟨g, cap, cur, hv, hb, hg, rest⟩
    · omega
    · simp only [slc, Value.slice.injEq] at hv
      refine ⟨⟨g, 0, none⟩, hv.1, ?_⟩
      have := h6.cells (g := g) (by simp [slc, hv.1, Value.ownBlock]) k (slc js k c.justice[k].length) (by simp [hk])
      rw [show (k : Int).toNat * 1 = k by omega]
      exact this
  · have := H (k + 11)
    simp only [lentRow, cirRows, if_pos hk] at this
    have e : c.justice.getD k [] = c.justice[k] := by simp [hk]
    rw [e] at this
    exact RowA.own ilen this
section
variable {e : Env} {x y : Operand} {ty t : TypeId}
end
attribute [local irreducible] WC WL WX WS WO OX Does DoesU Enters CV Pure thenQ blockQ retQ Wants retQC
set_option maxRecDepth 100000
end SC
end Go.Proofs.Ytbmngkdnebklpaa
end
section
/- A circuit that comes in, with its reach: numbers that fit, lists that memory holds, no room where there is no row. -/
set_option linter.unusedVariables false
set_option linter.unusedSimpArgs false
namespace Go.Proofs.Ytbmngkdnebklpaa
namespace SC
open Go.Proofs
set_option maxRecDepth 100000
theorem weightsAll_mem {H : Type} {P : Program} {e : TypeId} : ∀ {l : List (DataW H)} {d : DataW H}, d ∈ l → ∀ n ∈ d.weights P e, n ∈ DataW.weightsAll P e l
  | d' :: r, d, hd, n, hn => by
    simp only [DataW.weightsAll, List.mem_append]
    rcases List.mem_cons.1 hd with rfl | h
    · exact Or.inl hn
    · exact Or.inr (weightsAll_mem h n hn)
section
variable {H : Type} {enc : TypeId × Value → H} {W : World} {base : Nat} {spare : Nat → Bool} {held : Bool}
/-- A row that comes in. -/
theorem openRowS {α : Type} (en : α → List Value) (Good : α → DataW H → Prop) {t e : TypeId} {sz : Nat} (ht : Try.prog.underlying t = some (.slice e)) (hsz : Try.prog.cellsOf e = sz) (hl : ∀ a, (en a).length = sz)
    (he : ∀ (fuel : Nat) (cs : List Value) (x : DataW H × List MemPlace), DataW.trod enc Try.prog W base spare held fuel e cs = some x → ∃ a, en a = cs ∧ Good a x.1) {fuel : Nat} {cs : List Value} {x : DataW H × List MemPlace}
    (h : DataW.trod enc Try.prog W base spare held fuel t cs = some x) : ∃ (A : Option Addr) (cp : Nat) (l : List α), cs = [.slice A l.length cp] ∧ RowA W en sz A l ∧ (∀ a ∈ l, ∃ d, Good a d ∧ ∀ n ∈ d.weights Try.prog e, n ∈ x.1.weights Try.prog t) ∧ l.length ≤ maxLen ∧ (A = none → cp = 0) ∧ (∀ R, (∀ n ∈ x.1.weights Try.prog t, n ≤ R) → l.length * Try.prog.bytesOf e ≤ R) := by
  rcases DataW.trod_slice ht h with ⟨rfl, _⟩ | ⟨a, len, cap, elems, rest, n, _, rfl, hx0, hb, hlc, hcm, hel, hi, _⟩
  · exact ⟨none, 0, [], rfl, fun k hk => absurd hk (Nat.not_lt_zero _), fun a ha => (by cases ha), Nat.zero_le _, fun _ => rfl, fun R _ => by simp⟩
  · have key : ∀ i, i < len → ∃ y : α, (∃ d, Good y d ∧ ∀ n ∈ d.weights Try.prog e, n ∈ x.1.weights Try.prog t) ∧ ∀ j u, (en y)[j]? = some u → W.cell? ((a.add (i * sz)).add j) = some u := fun i hlt => by
      have h1 := hi i hlt
      have hlt' : i < elems.length := by omega
      rw [List.getElem?_eq_getElem hlt'] at h1
      obtain ⟨cs, hc, hx⟩ := Option.bind_eq_some_iff.1 h1
      rw [hsz] at hc
      obtain ⟨_, hcl, hat⟩ := World.cells?_some hc
      obtain ⟨y, rfl, hg⟩ := he _ _ _ hx
      refine ⟨y, ⟨_, hg, fun m hm => ?_⟩, fun j u hj => ?_⟩
      · rw [hx0]
        simp only [DataW.weights, ht, List.mem_cons, List.mem_append]
        exact .inr (.inl (weightsAll_mem (List.mem_map.2 ⟨_, List.getElem_mem hlt', rfl⟩) m hm))
      · have hjl : j < sz := by have := (List.getElem?_eq_some_iff.1 hj).1; rwa [hl] at this
        rw [hat j hjl]
        exact hj
    obtain ⟨l, hll, hq⟩ := listOf key
    subst hll
    refine ⟨some a, cap, l, rfl, fun k hk => ⟨a, rfl, fun j u hj => ?_⟩, fun y hy => ?_, Nat.le_trans hlc hcm, fun h => (by cases h), fun R hR => ?_⟩
    · rw [show (k : Int).toNat = k by omega]
      exact (hq k hk).2 j u hj
    · obtain ⟨i, hi', rfl⟩ := List.mem_iff_getElem.1 hy
      exact (hq i hi').1
    · have := hR ((elems.length + rest.length) * Try.prog.bytesOf e) (by rw [hx0]; simp [DataW.weights, ht])
      rw [← hel]
      exact Nat.le_trans (Nat.mul_le_mul_right _ (Nat.le_add_right _ _)) this
theorem openFieldS {t : TypeId} {fs : Array Field} {fuel : Nat} {cs : List Value} {x : DataW H × List MemPlace} (ht : Try.prog.underlying t = some (.struct fs)) (hc : Try.prog.cellsOf t = fs.size) (h : DataW.trod enc Try.prog W base spare held fuel t cs = some x) :
    cs.length = fs.size ∧ ∃ n, ∀ (i : Nat) (f : Field) (hi : i < cs.length), fs[i]? = some f → f.offset = i → Try.prog.cellsOf f.type = 1 → ∃ y, DataW.trod enc Try.prog W base spare held n f.type [cs[i]] = some y ∧ ∀ n ∈ y.1.weights Try.prog f.type, n ∈ x.1.weights Try.prog t := by
  obtain ⟨xs, n, _, hx0, hcl, hxl, hf⟩ := DataW.trod_struct ht h
  refine ⟨hcl.trans hc, n, fun i f hi hfi ho h1 => ?_⟩
  have := hf i f hfi
  have hx : i < xs.length := by rw [hxl, ← hc, ← hcl]; exact hi
  rw [ho, h1, List.drop_eq_getElem_cons hi, List.getElem?_eq_getElem hx] at this
  refine ⟨_, this, fun m hm => ?_⟩
  rw [hx0]
  simp only [DataW.weights, ht]
  exact DataW.weights_mem_each (j := i) (t := f.type) (d := xs[i].1) (by rw [List.getElem?_map, Array.getElem?_toList, hfi]; rfl) (by rw [List.getElem?_map, List.getElem?_eq_getElem hx]; rfl) m hm
theorem openIntS {fuel : Nat} {cs : List Value} {x : DataW H × List MemPlace} (h : DataW.trod enc Try.prog W base spare held fuel 3 cs = some x) : ∃ a, icell a = cs ∧ fits a := by
  obtain ⟨z, rfl, _, w1⟩ := DataW.trod_int Try.underlying3 h
  refine ⟨z, rfl, ?_⟩
  simp [Lit.wf, IntKind.min, IntKind.max, IntKind.signed, IntKind.bits] at w1; unfold fits; omega
theorem openTriS {t : TypeId} {fs : Array Field} (ht : Try.prog.underlying t = some (.struct fs)) (hc : Try.prog.cellsOf t = 3) (hs : fs.size = 3) (hf : ∀ i, i < 3 → ∃ f, fs[i]? = some f ∧ f.offset = i ∧ f.type = 3) {fuel : Nat} {cs : List Value} {x : DataW H × List MemPlace}
    (h : DataW.trod enc Try.prog W base spare held fuel t cs = some x) : ∃ a, tcells a = cs ∧ TriFits a := by
  obtain ⟨hl, n, hfl⟩ := openField ht (hc.trans hs.symm) h
  rw [hs] at hl
  have one : ∀ (i : Nat) (hi : i < cs.length), ∃ z : Int, cs[i] = nu z ∧ fits z := fun i hi => by
    obtain ⟨f, h1, h2, h3⟩ := hf i (by omega)
    obtain ⟨y, hy⟩ := hfl i f hi h1 h2 (by rw [h3]; kernel_rfl)
    rw [h3] at hy
    obtain ⟨z, hz, hw⟩ := openIntS hy
    exact ⟨z, (List.cons.inj hz).1.symm, hw⟩
  obtain ⟨p, h0, f0⟩ := one 0 (by omega)
  obtain ⟨q, h1, f1⟩ := one 1 (by omega)
  obtain ⟨r, h2, f2⟩ := one 2 (by omega)
  refine ⟨(p, q, r), ?_, f0, f1, f2⟩
  apply List.ext_getElem (by rw [hl]; rfl)
  intro i hi1 hi2
  match i, hi2 with
  | 0, _ => exact h0.symm
  | 1, _ => exact h1.symm
  | 2, _ => exact h2.symm
theorem openAndS {fuel : Nat} {cs : List Value} {x : DataW H × List MemPlace} (h : DataW.trod enc Try.prog W base spare held fuel 54 cs = some x) : ∃ a, tcells a = cs ∧ TriFits a :=
  openTriS Try.underlying54 (by kernel_rfl) rfl (fun i hi => match i, hi with
    | 0, _ => ⟨_, rfl, rfl, rfl⟩
    | 1, _ => ⟨_, rfl, rfl, rfl⟩
    | 2, _ => ⟨_, rfl, rfl, rfl⟩) h
theorem openLatchS {fuel : Nat} {cs : List Value} {x : DataW H × List MemPlace} (h : DataW.trod enc Try.prog W base spare held fuel 58 cs = some x) : ∃ a, tcells a = cs ∧ TriFits a :=
  openTriS Try.underlying58 (by kernel_rfl) rfl (fun i hi => match i, hi with
    | 0, _ => ⟨_, rfl, rfl, rfl⟩
    | 1, _ => ⟨_, rfl, rfl, rfl⟩
    | 2, _ => ⟨_, rfl, rfl, rfl⟩) h
theorem bytes3 : Try.prog.bytesOf 3 = 8 := by kernel_rfl
theorem bytes70 : Try.prog.bytesOf 58 = 24 := by kernel_rfl
theorem bytes43 : Try.prog.bytesOf 54 = 24 := by kernel_rfl
theorem bytes45 : Try.prog.bytesOf 22 = 24 := by kernel_rfl
theorem bytes117 : Try.prog.bytesOf 151 = 32 := by kernel_rfl
theorem bytes9 : Try.prog.bytesOf 9 = 16 := by kernel_rfl
theorem openIntsS {fuel : Nat} {cs : List Value} {x : DataW H × List MemPlace} (h : DataW.trod enc Try.prog W base spare held fuel 22 cs = some x) : ∃ y, lcell y = cs ∧ (RowA W icell 1 y.A y.l ∧ y.l.length ≤ maxLen ∧ (y.A = none → y.cp = 0) ∧ ∀ R, (∀ n ∈ x.1.weights Try.prog 22, n ≤ R) → y.l.length * 8 ≤ R) := by
  obtain ⟨A, cp, l, rfl, hr, _, hl, hn, hw⟩ := openRowS icell (fun _ _ => True) Try.underlying22 (by kernel_rfl) ilen (fun _ _ _ h => by obtain ⟨a, h1, _⟩ := openIntS h; exact ⟨a, h1, trivial⟩) h
  rw [bytes3] at hw
  exact ⟨⟨A, cp, l⟩, rfl, hr, hl, hn, hw⟩
/-- A circuit that comes in. -/
theorem openCirS {v : Value} {d : DataW H} {ps : List MemPlace} {r : Reach} {b0 : Nat} (hv : Value.okWide Try.prog W r b0 29 v) (h : DataW.Trod enc Try.prog W base spare held 29 v d ps) (hz : ∀ n ∈ d.weights Try.prog 29, n ≤ 140737488351232) :
    ∃ (c : Circ) (h js : Hd), v = .agg (ccells c h).toArray ∧ CirAt W c h js ∧ c.Sane ∧ c.Okay ∧ c.Fits1 ∧ Nils h js := by
  obtain ⟨cs, rfl, hsz⟩ := Go.WideShapes.okWide_struct Try.underlying29 hv
  obtain ⟨fuel, hf⟩ := h
  rw [agg_cells] at hf
  obtain ⟨hl, n, hfl⟩ := openFieldS Try.underlying29 (by kernel_rfl) hf
  have hl : cs.toList.length = 11 := hl
  obtain ⟨y0, h0, g0⟩ := hfl 0 _ (by rw [hl]; decide) rfl rfl (by kernel_rfl)
  obtain ⟨y1, h1, g1⟩ := hfl 1 _ (by rw [hl]; decide) rfl rfl (by kernel_rfl)
  obtain ⟨y2, h2, g2⟩ := hfl 2 _ (by rw [hl]; decide) rfl rfl (by kernel_rfl)
  obtain ⟨y3, h3, g3⟩ := hfl 3 _ (by rw [hl]; decide) rfl rfl (by kernel_rfl)
  obtain ⟨y4, h4, g4⟩ := hfl 4 _ (by rw [hl]; decide) rfl rfl (by kernel_rfl)
  obtain ⟨y5, h5, g5⟩ := hfl 5 _ (by rw [hl]; decide) rfl rfl (by kernel_rfl)
  obtain ⟨y6, h6, g6⟩ := hfl 6 _ (by rw [hl]; decide) rfl rfl (by kernel_rfl)
  obtain ⟨y7, h7, g7⟩ := hfl 7 _ (by rw [hl]; decide) rfl rfl (by kernel_rfl)
  obtain ⟨y8, h8, g8⟩ := hfl 8 _ (by rw [hl]; decide) rfl rfl (by kernel_rfl)
  obtain ⟨y9, h9, g9⟩ := hfl 9 _ (by rw [hl]; decide) rfl rfl (by kernel_rfl)
  obtain ⟨y10, h10, g10⟩ := hfl 10 _ (by rw [hl]; decide) rfl rfl (by kernel_rfl)
  obtain ⟨m, e0, _, _⟩ := DataW.trod_int Try.underlying3 h0
  have oi : ∀ (fuel : Nat) (cs : List Value) (x : DataW H × List MemPlace), DataW.trod enc Try.prog W base spare held fuel 3 cs = some x → ∃ a, icell a = cs ∧ True := fun _ _ _ h => by obtain ⟨a, h1, _⟩ := openIntS h; exact ⟨a, h1, trivial⟩
  obtain ⟨A1, c1, l1, e1, r1, _, n1, z1, w1⟩ := openRowS icell (fun _ _ => True) Try.underlying22 (by kernel_rfl) ilen oi h1
  obtain ⟨A2, c2, l2, e2, r2, k2, n2, z2, w2⟩ := openRowS tcells (fun a _ => TriFits a) Try.underlying23 (by kernel_rfl) tlen (fun _ _ _ h => openLatchS h) h2
  obtain ⟨A3, c3, l3, e3, r3, _, n3, z3, w3⟩ := openRowS icell (fun _ _ => True) Try.underlying22 (by kernel_rfl) ilen oi h3
  obtain ⟨A4, c4, l4, e4, r4, _, n4, z4, w4⟩ := openRowS icell (fun _ _ => True) Try.underlying22 (by kernel_rfl) ilen oi h4
  obtain ⟨A5, c5, l5, e5, r5, _, n5, z5, w5⟩ := openRowS icell (fun _ _ => True) Try.underlying22 (by kernel_rfl) ilen oi h5
  obtain ⟨A6, c6, l6, e6, r6, k6, n6, z6, w6⟩ := openRowS lcell (fun y d => RowA W icell 1 y.A y.l ∧ y.l.length ≤ maxLen ∧ (y.A = none → y.cp = 0) ∧ ∀ R, (∀ n ∈ d.weights Try.prog 22, n ≤ R) → y.l.length * 8 ≤ R) Try.underlying24 (by kernel_rfl) (fun _ => rfl) (fun _ _ _ h => openIntsS h) h6
  obtain ⟨A7, c7, l7, e7, r7, _, n7, z7, w7⟩ := openRowS icell (fun _ _ => True) Try.underlying22 (by kernel_rfl) ilen oi h7
  obtain ⟨A8, c8, l8, e8, r8, k8, n8, z8, w8⟩ := openRowS tcells (fun a _ => TriFits a) Try.underlying25 (by kernel_rfl) tlen (fun _ _ _ h => openAndS h) h8
  obtain ⟨A9, c9, l9, e9, r9, k9, n9, z9, w9⟩ := openRowS scells (fun s _ => (0 ≤ s.kind ∧ s.kind ≤ 255) ∧ (-9223372036854775808 ≤ s.at_ ∧ s.at_ ≤ 9223372036854775807) ∧ s.name.size ≤ maxLen) Try.underlying26 (by kernel_rfl) slen (fun _ _ _ h => openSym h) h9
  obtain ⟨A10, c10, l10, e10, r10, k10, n10, z10, w10⟩ := openRowS bcell (fun s _ => s.size ≤ maxLen) Try.underlying27 (by kernel_rfl) blen (fun _ _ _ h => openTxt h) h10
  rw [bytes3] at w1 w3 w4 w5 w7
  rw [bytes70] at w2
  rw [bytes43] at w8
  rw [bytes45] at w6
  rw [bytes117] at w9
  rw [bytes9] at w10
  have v1 := w1 _ fun n hn => hz n (g1 n hn)
  have v2 := w2 _ fun n hn => hz n (g2 n hn)
  have v3 := w3 _ fun n hn => hz n (g3 n hn)
  have v4 := w4 _ fun n hn => hz n (g4 n hn)
  have v5 := w5 _ fun n hn => hz n (g5 n hn)
  have v6 := w6 _ fun n hn => hz n (g6 n hn)
  have v7 := w7 _ fun n hn => hz n (g7 n hn)
  have v8 := w8 _ fun n hn => hz n (g8 n hn)
  have v9 := w9 _ fun n hn => hz n (g9 n hn)
  have v10 := w10 _ fun n hn => hz n (g10 n hn)
  have k6' : ∀ y ∈ l6, RowA W icell 1 y.A y.l ∧ y.l.length ≤ maxLen ∧ (y.A = none → y.cp = 0) ∧ y.l.length * 8 ≤ 140737488351232 := fun y hy => by
    obtain ⟨d, ⟨q1, q2, q3, q4⟩, q5⟩ := k6 y hy
    exact ⟨q1, q2, q3, q4 _ fun n hn => hz n (g6 n (q5 n hn))⟩
  have k9' : ∀ s ∈ l9, (0 ≤ s.kind ∧ s.kind ≤ 255) ∧ (-9223372036854775808 ≤ s.at_ ∧ s.at_ ≤ 9223372036854775807) ∧ s.name.size ≤ maxLen := fun s hs => by obtain ⟨_, q, _⟩ := k9 s hs; exact q
  have k10' : ∀ s ∈ l10, s.size ≤ maxLen := fun s hs => by obtain ⟨_, q, _⟩ := k10 s hs; exact q
  refine ⟨⟨m, l1, l2, l3, l4, l5, l6.map (·.l), l7, l8, l9, l10⟩, fun | 1 => (A1, c1) | 2 => (A2, c2) | 3 => (A3, c3) | 4 => (A4, c4) | 5 => (A5, c5) | 6 => (A6, c6) | 7 => (A7, c7) | 8 => (A8, c8) | 9 => (A9, c9) | 10 => (A10, c10) | _ => (none, 0), fun k => ((l6[k]?).map fun y => (y.A, y.cp)).getD (none, 0), ?_, ?_, ?_, ?_, ?_, ?_, ?_⟩
  · congr 1
    apply Array.ext'
    apply List.ext_getElem (by rw [hl]; rfl)
    intro i hi1 hi2
    match i, hi2 with
    | 0, _ => exact (List.cons.inj e0).1
    | 1, _ => exact (List.cons.inj e1).1
    | 2, _ => exact (List.cons.inj e2).1
    | 3, _ => exact (List.cons.inj e3).1
    | 4, _ => exact (List.cons.inj e4).1
    | 5, _ => exact (List.cons.inj e5).1
    | 6, _ =>
      refine (List.cons.inj e6).1.trans ?_
      show _ = Value.slice A6 (l6.map (·.l)).length c6
      rw [List.length_map]
    | 7, _ => exact (List.cons.inj e7).1
    | 8, _ => exact (List.cons.inj e8).1
    | 9, _ => exact (List.cons.inj e9).1
    | 10, _ => exact (List.cons.inj e10).1
  · refine ⟨r1, r2, r3, r4, r5, fun k hk => ?_, fun k hk => ?_, r7, r8, r9, r10⟩
    · have hk' : k < l6.length := by simpa using hk
      obtain ⟨p, hp, hc⟩ := r6 k hk'
      refine ⟨p, hp, ?_⟩
      have := hc 0 (.slice l6[k].A l6[k].l.length l6[k].cp) rfl
      rw [add_zero'] at this
      rw [this]
      simp [hk']
    · have hk' : k < l6.length := by simpa using hk
      have := (k6' _ (List.getElem_mem hk')).1
      simpa [hk'] using this
  · refine ⟨fun l hl => ?_, fun s hs => (k9' s hs).1, fun s hs => (k9' s hs).2.1, fun s hs => ?_, fun s hs => ?_, ?_⟩
    · obtain ⟨y, hy, rfl⟩ := List.mem_map.1 hl
      have := (k6' y hy).2.1
      simp only [maxLen] at this
      omega
    · have := (k9' s hs).2.2
      simp only [maxLen] at this
      omega
    · have := k10' s hs
      simp only [maxLen] at this
      omega
    · simp only [maxLen] at *
      simp only [List.length_map]
      omega
  · refine ⟨fun n hn => ?_, fun l hl => ?_, fun x hx => (by obtain ⟨_, q, _⟩ := k2 x hx; exact q), fun x hx => (by obtain ⟨_, q, _⟩ := k8 x hx; exact q), fun s hs => ?_⟩
    · simp only [maxLen] at *
      simp only [Circ.lens, List.mem_cons, List.length_map, List.not_mem_nil, or_false] at hn
      rcases hn with rfl | rfl | rfl | rfl | rfl | rfl | rfl | rfl | rfl | rfl <;> omega
    · obtain ⟨y, hy, rfl⟩ := List.mem_map.1 hl
      have := (k6' y hy).2.1
      simp only [maxLen] at this
      omega
    · have := k9' s hs
      simp only [maxLen] at this
      exact ⟨this.1, this.2.1, by omega⟩
  · refine ⟨⟨?_, ?_, ?_, ?_, ?_, ?_, fun l hl => ?_, ?_, ?_, ?_, ?_⟩, ?_, ?_, ?_, ?_, ?_, ?_, ?_⟩
    all_goals first
      | (simp only [List.length_map]; omega)
      | (obtain ⟨y, hy, rfl⟩ := List.mem_map.1 hl
         have := (k6' y hy).2.2.2
         omega)
  · intro i hi
    match i with
    | 1 => exact z1 hi
    | 2 => exact z2 hi
    | 3 => exact z3 hi
    | 4 => exact z4 hi
    | 5 => exact z5 hi
    | 6 => exact z6 hi
    | 7 => exact z7 hi
    | 8 => exact z8 hi
    | 9 => exact z9 hi
    | 10 => exact z10 hi
    | 0 => rfl
    | k + 11 => rfl
  · intro k hk
    cases hy : l6[k]? with
    | none => simp only [hy]; rfl
    | some y =>
      have hm := List.mem_of_getElem? hy
      simp only [hy, Option.map_some, Option.getD_some] at hk ⊢
      exact (k6' y hm).2.2.1 hk
end
end SC
end Go.Proofs.Ytbmngkdnebklpaa
end
section
/- trestleref03: size, one, used. -/
set_option linter.unusedVariables false
set_option linter.unusedSimpArgs false
namespace Go.Proofs.Ytbmngkdnebklpaa
namespace SC
open Go.Proofs
attribute [local irreducible] WC WL WX WS WO OX Does DoesU Enters CV Pure thenQ blockQ retQ Wants retQC
set_option maxRecDepth 100000
end SC
end Go.Proofs.Ytbmngkdnebklpaa
end
section
/- trestleref03: one, used, usedAll. -/
set_option linter.unusedVariables false
set_option linter.unusedSimpArgs false
namespace Go.Proofs.Ytbmngkdnebklpaa
namespace SC
open Go.Proofs
attribute [local irreducible] WC WL WX WS WO OX Does DoesU Enters CV Pure thenQ blockQ retQ Wants retQC
set_option maxRecDepth 100000
end SC
end Go.Proofs.Ytbmngkdnebklpaa
end
section
/- shape: Copy. -/
set_option linter.unusedVariables false
set_option linter.unusedSimpArgs false
namespace Go.Proofs.Ytbmngkdnebklpaa
namespace SC
open Go.Proofs
attribute [local irreducible] WC WL WX WS WO OX Does DoesU Enters CV Pure thenQ blockQ retQ Wants retQC
set_option maxRecDepth 100000
end SC
end Go.Proofs.Ytbmngkdnebklpaa
end
section
/- shape: Renumber's closures. -/
set_option linter.unusedVariables false
set_option linter.unusedSimpArgs false
namespace Go.Proofs.Ytbmngkdnebklpaa
namespace SC
open Go.Proofs
attribute [local irreducible] WC WL WX WS WO OX Does DoesU Enters CV Pure thenQ blockQ retQ Wants retQC
set_option maxRecDepth 100000
/-- A literal by a map of variables. -/
def litM (to : List Int) (l : Int) : Int := L to (l / 2) + l % 2
end SC
end Go.Proofs.Ytbmngkdnebklpaa
end
section
/- shape: Renumber, the plain words. -/
set_option linter.unusedVariables false
set_option linter.unusedSimpArgs false
namespace Go.Proofs.Ytbmngkdnebklpaa
namespace SC
open Go.Proofs
def giveM : List Int → Int → List Int → List Int
  | [], _, to => to
  | l :: r, nx, to => giveM r (nx + 2) (to.set (l / 2).toNat (nx + 2))
/-- The map behind these definitions. -/
def mapOf (max : Int) (ks : List Int) : List Int := giveM ks 0 (List.replicate (max + 1).toNat 0)
/-- The gates' definitions in an order. -/
def andAt (c : Circ) (i : Int) : Tri := c.ands.getD i.toNat (0, 0, 0)
def defsOf (c : Circ) (ord : List Int) : List Int := c.inputs ++ c.latches.map (·.1) ++ ord.map fun i => (andAt c i).1
def renLatch (to : List Int) (x : Tri) : Tri := (litM to x.1, litM to x.2.1, if 1 < x.2.2 then litM to x.2.2 else x.2.2)
def renAnd (to : List Int) (x : Tri) : Tri := (litM to x.1, max (litM to x.2.1) (litM to x.2.2), min (litM to x.2.1) (litM to x.2.2))
/-- The circuit in another order. -/
def renM (c : Circ) (ord : List Int) : Circ :=
  let to := mapOf c.max (defsOf c ord)
  { c with
    max := (defsOf c ord).length
    inputs := c.inputs.map (litM to)
    outputs := c.outputs.map (litM to)
    bads := c.bads.map (litM to)
    constraints := c.constraints.map (litM to)
    fairness := c.fairness.map (litM to)
    justice := c.justice.map fun l => l.map (litM to)
    latches := c.latches.map (renLatch to)
    ands := ord.map fun i => renAnd to (andAt c i) }
/-- A row's block. -/
theorem Rows.block {w : World} {base : Nat} {F : Nat → Rw} (h : Rows w base F) (i : Nat) {n : Nat} {a : Option Addr} {c : Nat} (hv : (F i).v = .slice a n c) (hn : (F i).n = n) (h0 : 0 < n) : ∃ g, a = some ⟨g, 0, none⟩ ∧ (F i).v.ownBlock = some g := by
  have := h.own i
  rcases this.2 with ⟨hv', hn'⟩ | ⟨g, cap, cur, hv', _⟩
  · omega
  · rw [hv] at hv'
    cases hv'
    exact ⟨g, rfl, by rw [hv]; rfl⟩
end SC
end Go.Proofs.Ytbmngkdnebklpaa
end
section
/- shape: Renumber, the walk. -/
set_option linter.unusedVariables false
set_option linter.unusedSimpArgs false
namespace Go.Proofs.Ytbmngkdnebklpaa
namespace SC
open Go.Proofs
section
variable {P : Program} {n : Nat} {all : List Oper} {K : Env → World → Prop} {S : World → Prop} {r : List (Nat × Bool)} {i : Nat} {e : Env} {w : World} {d : Option Tmp} {ty : TypeId} {x : Operand}
end
attribute [local irreducible] WC WL WX WS WO OX Does DoesU Enters CV Pure thenQ blockQ retQ Wants retQC
set_option maxRecDepth 100000
section
variable {w W W' : World} {c : Circ} {h : Hd} {u : Value} {ord : List Int} {tr : Nat} {ks : List Int}
end
section
variable {w W W' : World} {c : Circ} {h : Hd} {u : Value} {ord to : List Int} {tr lb ob : Nat} {cs : List Value} {F : Nat → Rw}
end
end SC
end Go.Proofs.Ytbmngkdnebklpaa
end
section
/- shape: works. -/
set_option linter.unusedVariables false
set_option linter.unusedSimpArgs false
namespace Go.Proofs.Ytbmngkdnebklpaa
namespace SC
open Go.Proofs
attribute [local irreducible] WC WL WX WS WO OX Does DoesU Enters CV Pure thenQ blockQ retQ Wants retQC
set_option maxRecDepth 100000
theorem RowA.emp {α : Type} {w : World} {enc : α → List Value} {sz : Nat} {A : Option Addr} : RowA w enc sz A ([] : List α) := fun k hk => absurd hk (Nat.not_lt_zero _)
theorem RowA.blk {α : Type} {w : World} {enc : α → List Value} {sz b : Nat} {t : TypeId} {l : List α} (hsz : ∀ a, (enc a).length = sz) (h : Blk w b t (l.flatMap enc)) : RowA w enc sz (some ⟨b, 0, none⟩) l := fun k hk => by
  refine ⟨_, rfl, fun j u hj => ?_⟩
  have hjl : j < sz := by have := (List.getElem?_eq_some_iff.1 hj).1; rwa [hsz] at this
  rw [add_at, add_at, Nat.zero_add, h.cell, Int.toNat_natCast, flatMap_get enc sz hsz l k hk j hjl]
  exact hj
def hNil : Hd := fun _ => (none, 0)
end SC
end Go.Proofs.Ytbmngkdnebklpaa
end
section
/- shape's laws: gates of each variable; ShapeOrders' walk. -/
set_option linter.unusedVariables false
set_option linter.unusedSimpArgs false
namespace Go.Proofs.Ytbmngkdnebklpaa
namespace SC
open Go.Proofs
def gatesL : List Tri → Nat → List Int → List Int
  | [], _, l => l
  | x :: r, i, l => gatesL r (i + 1) (l.set (x.1 / 2).toNat i)
theorem gatesL_not : ∀ (ls : List Tri) (k : Nat) (l : List Int) (v : Int), 0 ≤ v → (∀ x ∈ ls, rg l.length (x.1 / 2) ∧ x.1 / 2 ≠ v) → L (gatesL ls k l) v = L l v
  | [], _, _, _, _, _ => rfl
  | x :: r, k, l, v, hv, h => by
    obtain ⟨h1, h2⟩ := h x (by simp)
    unfold gatesL
    rw [gatesL_not r (k + 1) _ v hv fun y hy => by rw [List.length_set]; exact h y (by simp [hy]), L_set _ h1 hv, if_neg (fun e => h2 e.symm)]
theorem gatesL_at : ∀ (ls : List Tri) (k : Nat) (l : List Int) (j : Nat) (hj : j < ls.length), (∀ x ∈ ls, rg l.length (x.1 / 2)) → (∀ i (hi : i < ls.length), ls[i].1 / 2 = ls[j].1 / 2 → i = j) → L (gatesL ls k l) (ls[j].1 / 2) = k + j
  | [], _, _, j, hj, _, _ => absurd hj (Nat.not_lt_zero _)
  | x :: r, k, l, 0, hj, h, hu => by
    have h1 := h x (by simp)
    unfold gatesL
    simp only [List.getElem_cons_zero]
    rw [gatesL_not r (k + 1) _ _ h1.1 fun y hy => ⟨by rw [List.length_set]; exact h y (by simp [hy]), fun e => ?_⟩, L_set _ h1 h1.1, if_pos rfl]
    · simp
    · obtain ⟨i, hi, rfl⟩ := List.mem_iff_getElem.1 hy
      have := hu (i + 1) (by simp; omega) (by simpa using e)
      omega
  | x :: r, k, l, j + 1, hj, h, hu => by
    unfold gatesL
    simp only [List.getElem_cons_succ]
    rw [gatesL_at r (k + 1) _ j (by simpa using hj) (fun y hy => by rw [List.length_set]; exact h y (by simp [hy])) fun i hi e => by
      have := hu (i + 1) (by simp; omega) (by simpa using e)
      omega]
    simp; omega
/-- Of each variable the gate that defines it, or -1. -/
def gatesM (c : Circ) : List Int := gatesL c.ands 0 (List.replicate (c.max + 1).toNat (-1))
theorem TabOk.gatesM {c : Circ} {t : Tab} (h : TabOk c t) {v : Int} (hv : rg (c.max + 1).toNat v) : L (SC.gatesM c) v = if kindAt t v = 3 then atOf t v else -1 := by
  have hrg : ∀ x ∈ c.ands, rg (List.replicate (c.max + 1).toNat (-1 : Int)).length (x.1 / 2) := fun x hx => by
    obtain ⟨j, hj, rfl⟩ := List.mem_iff_getElem.1 hx
    have := (h.gat j hj).1
    rw [List.length_replicate]
    unfold defBad at this; unfold rg; omega
  have e : v = ((v.toNat : Nat) : Int) := by unfold rg at hv; omega
  by_cases hk : kindAt t v = 3
  · rw [if_pos hk]
    rw [e] at hk
    obtain ⟨j, hj, h1, h2, h3⟩ := h.gate hk
    rw [← e] at h1 h2
    have e2 : c.ands[j].1 / 2 = v := by omega
    have := gatesL_at c.ands 0 (List.replicate (c.max + 1).toNat (-1)) j hj hrg fun i hi e3 => by
      have g1 := (h.gat i hi).2
      have g2 := (h.gat j hj).2
      rw [e3, g2] at g1
      simp at g1
      omega
    rw [e2] at this
    unfold SC.gatesM
    rw [this, h2]
    simp
  · rw [if_neg hk]
    unfold SC.gatesM
    rw [gatesL_not c.ands 0 _ v hv.1 fun x hx => ⟨hrg x hx, fun e2 => hk ?_⟩]
    · unfold L
      unfold rg at hv
      simp only [List.getD_eq_getElem?_getD, List.getElem?_replicate]
      rw [if_pos (by omega)]
      rfl
    · obtain ⟨j, hj, rfl⟩ := List.mem_iff_getElem.1 hx
      have := (h.gat j hj).2
      rw [e2] at this
      rw [kindAt_get this]
theorem mem_gateB {c : Circ} {t : Tab} {i : Int} {z : Int} (hi : rg c.ands.length i) : z ∈ gateB t c i ↔ ∃ l, (l = (andAt c i).2.1 ∨ l = (andAt c i).2.2) ∧ kindAt t (l / 2) = 3 ∧ atOf t (l / 2) = z := by
  unfold gateB belowM
  rw [mem_belowL]
  unfold andAt
  simp
attribute [local irreducible] WC WL WX WS WO OX Does DoesU Enters CV Pure thenQ blockQ retQ Wants retQC
set_option maxRecDepth 100000
end SC
end Go.Proofs.Ytbmngkdnebklpaa
end
section
/- trestleref03: Defined. -/
set_option linter.unusedVariables false
set_option linter.unusedSimpArgs false
namespace Go.Proofs.Ytbmngkdnebklpaa
namespace SC
open Go.Proofs
attribute [local irreducible] WC WL WX WS WO OX Does DoesU Enters CV Pure thenQ blockQ retQ Wants retQC
set_option maxRecDepth 100000
end SC
end Go.Proofs.Ytbmngkdnebklpaa
end
section
/- trestleref03: uses. -/
set_option linter.unusedVariables false
set_option linter.unusedSimpArgs false
namespace Go.Proofs.Ytbmngkdnebklpaa
namespace SC
open Go.Proofs
section
variable {P : Program} {ty t t0 : TypeId} {e : Env} {w : World} {x y : Operand} {d0 : TypeDesc} {sz by_ sz1 by1 : Nat} {z z1 : Value} {ag ag1 : Bool} {m b o : Nat} {i : Int} {k : IntKind}
end
attribute [local irreducible] WC WL WX WS WO OX Does DoesU Enters CV Pure thenQ blockQ retQ Wants retQC
set_option maxRecDepth 100000
end SC
end Go.Proofs.Ytbmngkdnebklpaa
end
section
/- trestleref03: gates. -/
set_option linter.unusedVariables false
set_option linter.unusedSimpArgs false
namespace Go.Proofs.Ytbmngkdnebklpaa
namespace SC
open Go.Proofs
/-- What a gate asks for: a literal's gate, or none. -/
theorem TabOk.lit {c : Circ} {t : Tab} (hT : TabOk c t) (hU : UseAll c t) {i : Int} (hi : rg c.ands.length i) {l : Int} (hl : l = (andAt c i).2.1 ∨ l = (andAt c i).2.2) :
    0 ≤ l ∧ l ≤ 2 * c.max + 1 ∧ ((kindAt t (l / 2) = 3 ∧ L (SC.gatesM c) (l / 2) = atOf t (l / 2) ∧ rg c.ands.length (atOf t (l / 2)) ∧ atOf t (l / 2) ∈ gateB t c i) ∨ (kindAt t (l / 2) ≠ 3 ∧ L (SC.gatesM c) (l / 2) = -1)) := by
  have hlt : i.toNat < c.ands.length := by unfold rg at hi; omega
  have e : andAt c i = c.ands[i.toNat] := by unfold andAt; simp [hlt]
  have hu := hU.ands _ (List.getElem_mem hlt)
  rw [← e] at hu
  have h0 : 0 ≤ l ∧ l ≤ 2 * c.max + 1 := by
    rcases hl with rfl | rfl
    · exact ⟨hu.1.1, hu.1.2.1⟩
    · exact ⟨hu.2.1, hu.2.2.1⟩
  refine ⟨h0.1, h0.2, ?_⟩
  have hr : rg (c.max + 1).toNat (l / 2) := by unfold rg; omega
  have hg := hT.gatesM hr
  by_cases hk : kindAt t (l / 2) = 3
  · rw [if_pos hk] at hg
    have hm : atOf t (l / 2) ∈ gateB t c i := (mem_gateB hi).2 ⟨l, hl, hk, rfl⟩
    exact .inl ⟨hk, hg, hT.below hU i hi _ hm, hm⟩
  · rw [if_neg hk] at hg
    exact .inr ⟨hk, hg⟩
attribute [local irreducible] WC WL WX WS WO OX Does DoesU Enters CV Pure thenQ blockQ retQ Wants retQC
set_option maxRecDepth 100000
end SC
end Go.Proofs.Ytbmngkdnebklpaa
end
section
/- trestleref03: told. -/
set_option linter.unusedVariables false
set_option linter.unusedSimpArgs false
namespace Go.Proofs.Ytbmngkdnebklpaa
namespace SC
open Go.Proofs
section
variable {P : Program} {n : Nat} {all rest : List Oper} {K : Env → World → Prop} {e : Env} {w : World}
end
attribute [local irreducible] WC WL WX WS WO OX Does DoesU Enters CV Pure thenQ blockQ retQ Wants retQC
set_option maxRecDepth 100000
end SC
end Go.Proofs.Ytbmngkdnebklpaa
end
section
/- trestleref03: round. -/
set_option linter.unusedVariables false
set_option linter.unusedSimpArgs false
namespace Go.Proofs.Ytbmngkdnebklpaa
namespace SC
open Go.Proofs
section
variable {P : Program} {n : Nat} {all : List Oper} {S : World → Prop} {K : Env → World → Prop} {i : Nat} {r : List (Nat × Bool)} {d : Option Tmp} {ty t : TypeId} {e : Env} {w : World} {td : TypeDesc} {sz by_ : Nat} {zv : Value} {ag : Bool}
end
attribute [local irreducible] WC WL WX WS WO OX Does DoesU Enters CV Pure thenQ blockQ retQ Wants retQC
set_option maxRecDepth 100000
end SC
end Go.Proofs.Ytbmngkdnebklpaa
end
section
/- trestleref03: symbols. -/
set_option linter.unusedVariables false
set_option linter.unusedSimpArgs false
namespace Go.Proofs.Ytbmngkdnebklpaa
namespace SC
open Go.Proofs
section
variable {P : Program} {n : Nat} {x y r b : Code} {Q : Post} {e : Env} {w : World}
end
attribute [local irreducible] WC WL WX WS WO OX Does DoesU Enters CV Pure thenQ blockQ retQ Wants retQC
set_option maxRecDepth 100000
end SC
end Go.Proofs.Ytbmngkdnebklpaa
end
section
/- trestleref03: Check. -/
set_option linter.unusedVariables false
set_option linter.unusedSimpArgs false
namespace Go.Proofs.Ytbmngkdnebklpaa
namespace SC
open Go.Proofs
attribute [local irreducible] WC WL WX WS WO OX Does DoesU Enters CV Pure thenQ blockQ retQ Wants retQC
set_option maxRecDepth 100000
end SC
end Go.Proofs.Ytbmngkdnebklpaa
end
section
/- The order of a right circuit; trestleref07: Next0, Starts0, Values0. -/
set_option linter.unusedVariables false
set_option linter.unusedSimpArgs false
namespace Go.Proofs.Ytbmngkdnebklpaa
namespace SC
open Go.Proofs
/-- The order of its gates. -/
noncomputable def ordM (c : Circ) : List Int := by classical exact if h : ∃ out, All c.ands.length (gateB (tabM c) c) out then h.choose else []
theorem ordM_eq {c : Circ} {out : List Int} (h : All c.ands.length (gateB (tabM c) c) out) : ordM c = out := by
  have hex : ∃ out, All c.ands.length (gateB (tabM c) c) out := ⟨out, h⟩
  unfold ordM
  rw [dif_pos hex]
  exact All.only hex.choose_spec h
/-! ### a row that is filled from the left -/
/-- Next, by the values. -/
def nxtM (c : Circ) (v : List Bool) : List Bool := c.latches.map fun x => lv v x.2.1
attribute [local irreducible] WC WL WX WS WO OX Does DoesU Enters CV Pure thenQ blockQ retQ Wants retQC GC GL GS GX RdB thenG blockG retG Rd At gt CVN CVM
set_option maxRecDepth 100000
end SC
end Go.Proofs.Ytbmngkdnebklpaa
end
section
/- A right circuit; its values. trestleref07: Starts0, Values0. -/
set_option linter.unusedVariables false
set_option linter.unusedSimpArgs false
namespace Go.Proofs.Ytbmngkdnebklpaa
namespace SC
open Go.Proofs
theorem CV.ex {P : Program} {f : FuncId} {args : List Value} {w : World} {R : Value → World → Prop} (h : CV P f args w R) : ∃ v w', R v w' := by
  obtain ⟨e, w', fr, h1, _⟩ := h []
  cases e with
  | returned v => exact ⟨v, w', h1⟩
  | panicked c => exact h1.elim
  | outgrown => exact h1.elim
/-- What is so of a right circuit. -/
structure Right (c : Circ) : Prop where
  tab : TabOk c (tabM c)
  use : UseAll c (tabM c)
  m0 : 0 ≤ c.max
  m1 : c.max ≤ 16384
  lens : ∀ n ∈ c.lens, n ≤ 16384
  sum : sumW c.justice ≤ 16384
  all : All c.ands.length (gateB (tabM c) c) (ordM c)
  ordLen : (ordM c).length = c.ands.length
theorem right_of {w : World} {c : Circ} {h js : Hd} (H : CirAt w c h js) (hs : c.Sane) (he : (lookM c).2 = 0) : Right c := by
  obtain ⟨v, w', _, hv⟩ := CV.ex (Order_cv H hs)
  rcases hv with ⟨h1, _⟩ | ⟨_, out, u, _, h2, h3, _⟩
  · exact absurd he h1
  · obtain ⟨_, g1, g2, g3, _⟩ := lookM_ok he
    obtain ⟨k1, k2, k3, k4⟩ := sizesM_ok g1
    have e1 := ordM_eq h2
    exact ⟨definesM_spec k1 g2, usesM_spec.1 g3, k1, k2, k3, k4, by rw [e1]; exact h2, by rw [e1]; exact h3⟩
def inR (c : Circ) (l : Int) : Prop := 0 ≤ l ∧ l ≤ 2 * c.max + 1
def defR (c : Circ) (l : Int) : Prop := 2 ≤ l ∧ l ≤ 2 * c.max ∧ l % 2 = 0
section
variable {c : Circ} (R : Right c)
include R
theorem Right.nLat : c.latches.length ≤ 16384 := by have := R.lens c.latches.length (by simp [Circ.lens]); omega
theorem Right.nAnd : c.ands.length ≤ 16384 := by have := R.lens c.ands.length (by simp [Circ.lens]); omega
theorem Right.nCon : c.constraints.length ≤ 16384 := by have := R.lens c.constraints.length (by simp [Circ.lens]); omega
theorem Right.inp {l : Int} (h : l ∈ c.inputs) : defR c l := by
  obtain ⟨j, hj, rfl⟩ := List.mem_iff_getElem.1 h
  have := (R.tab.inp j hj).1
  unfold defBad at this; unfold defR; omega
theorem Right.lat {x : Tri} (h : x ∈ c.latches) : defR c x.1 ∧ inR c x.2.1 ∧ (x.2.2 = 0 ∨ x.2.2 = 1 ∨ x.2.2 = x.1) := by
  obtain ⟨j, hj, rfl⟩ := List.mem_iff_getElem.1 h
  have h1 := (R.tab.lat j hj).1
  have h2 := (R.tab.lat j hj).2.2
  have h3 := R.use.next _ (List.getElem_mem hj)
  unfold defBad at h1; unfold badReset at h2; unfold useOk at h3; unfold defR inR
  omega
theorem Right.gate {x : Tri} (h : x ∈ c.ands) : defR c x.1 ∧ inR c x.2.1 ∧ inR c x.2.2 := by
  obtain ⟨j, hj, rfl⟩ := List.mem_iff_getElem.1 h
  have h1 := (R.tab.gat j hj).1
  have h3 := R.use.ands _ (List.getElem_mem hj)
  unfold defBad at h1; unfold useOk at h3; unfold defR inR
  omega
theorem Right.con {l : Int} (h : l ∈ c.constraints) : inR c l := ⟨(R.use.constraints l h).1, (R.use.constraints l h).2.1⟩
theorem Right.just {ls : List Int} {l : Int} (h : ls ∈ c.justice) (h2 : l ∈ ls) : inR c l := ⟨(R.use.justice ls h l h2).1, (R.use.justice ls h l h2).2.1⟩
theorem Right.ord {i : Int} (h : i ∈ ordM c) : 0 ≤ i ∧ i < c.ands.length := R.all.told.all i h
end
theorem inR.has {c : Circ} {l : Int} {v : List Bool} (h : inR c l) (hm : c.max ≤ 16384) (hv : v.length = (c.max + 1).toNat) : hasL v l := by unfold inR at h; unfold hasL; omega
theorem defR.in {c : Circ} {l : Int} (h : defR c l) : inR c l := by unfold defR at h; unfold inR; omega
/-! ### the values -/
def vIn (c : Circ) (r : List Bool) (i : Nat) : List Bool := (List.range i).foldl (fun v (k : Nat) => v.set (gt c.inputs (k : Int) / 2).toNat (gt r (k : Int))) (List.replicate (c.max + 1).toNat false)
def vLt (c : Circ) (s v : List Bool) (i : Nat) : List Bool := (List.range i).foldl (fun v (k : Nat) => v.set ((gt c.latches (k : Int)).1 / 2).toNat (gt s (k : Int))) v
def vAn (c : Circ) (ord : List Int) (v : List Bool) (i : Nat) : List Bool := (List.range i).foldl (fun v (k : Nat) => v.set ((gt c.ands (gt ord (k : Int))).1 / 2).toNat (lv v (gt c.ands (gt ord (k : Int))).2.1 && lv v (gt c.ands (gt ord (k : Int))).2.2)) v
noncomputable def valM (c : Circ) (s r : List Bool) : List Bool := vAn c (ordM c) (vLt c s (vIn c r c.inputs.length) c.latches.length) (ordM c).length
attribute [local irreducible] WC WL WX WS WO OX Does DoesU Enters CV Pure thenQ blockQ retQ Wants retQC GC GL GS GX RdB thenG blockG retG Rd At gt CVN CVM
set_option maxRecDepth 100000
end SC
end Go.Proofs.Ytbmngkdnebklpaa
end
section
/- trestleref07: Values0. -/
set_option linter.unusedVariables false
set_option linter.unusedSimpArgs false
namespace Go.Proofs.Ytbmngkdnebklpaa
namespace SC
open Go.Proofs
attribute [local irreducible] WC WL WX WS WO OX Does DoesU Enters CV Pure thenQ blockQ retQ Wants retQC GC GL GS GX RdB thenG blockG retG Rd At gt CVN CVM
set_option maxRecDepth 100000
end SC
end Go.Proofs.Ytbmngkdnebklpaa
end
section
/- trestleref07: looked, Values, Next, Holds, Starts. -/
set_option linter.unusedVariables false
set_option linter.unusedSimpArgs false
namespace Go.Proofs.Ytbmngkdnebklpaa
namespace SC
open Go.Proofs
/-- A circuit that can be read, and what is so of any. -/
structure CirIn (w : World) (c : Circ) (h js : Hd) : Prop where
  at_ : CirAt w c h js
  sane : c.Sane
  okay : c.Okay
  fits : c.Fits
theorem CirIn.chg {w w' : World} {c : Circ} {h js : Hd} (H : CirIn w c h js) (hc : Chg w w' none_) : CirIn w' c h js := ⟨H.at_.chg hc, H.sane, H.okay, H.fits⟩
theorem In.old {Γ : Mm} {w w0 : World} (h : In Γ (.old w0 none_)) (M : Mem w Γ) : Chg w0 w none_ := h.ok M
attribute [local irreducible] WC WL WX WS WO OX Does DoesU Enters CV Pure thenQ blockQ retQ Wants retQC GC GL GS GX RdB thenG blockG retG Rd At gt CVN CVM
set_option maxRecDepth 100000
section
variable {w : World} {c : Circ} {h js : Hd} {S T : Option Addr} {k2 k3 : Nat} {s r : List Bool} (H : CirIn w c h js) (hS : RowA w booc 1 S s) (hT : RowA w booc 1 T r)
include H hS hT
end
end SC
end Go.Proofs.Ytbmngkdnebklpaa
end
section
/- sim: is, values, next, holds. -/
set_option linter.unusedVariables false
set_option linter.unusedSimpArgs false
namespace Go.Proofs.Ytbmngkdnebklpaa
namespace SC
open Go.Proofs
theorem In.box {Γ : Mm} {w : World} {b : Nat} {t : TypeId} {cs : List Value} (h : In Γ (.box b t cs)) (M : Mem w Γ) : Blk w b t cs := h.ok M
theorem In.row {Γ : Mm} {w : World} {α : Type} {enc : α → List Value} {sz : Nat} [H : Enc enc sz] {t : TypeId} {A : Option Addr} {c : Nat} {l : List α} (h : In Γ (.vec enc sz t A c l)) (M : Mem w Γ) : RowA w enc sz A l := (Rd.own h H).at M
instance : Fn Try.prog 91 := ⟨fun args w => Try.call91 args w⟩
instance : Fn Try.prog 95 := ⟨fun args w => Try.call95 args w⟩
instance : Fn Try.prog 105 := ⟨fun args w => Try.call105 args w⟩
attribute [local irreducible] WC WL WX WS WO OX Does DoesU Enters CV Pure thenQ blockQ retQ Wants retQC GC GL GS GX RdB thenG blockG retG Rd At gt CVN CVM
set_option maxRecDepth 100000
/-! ### slices.ContainsFunc at numbers -/
end SC
end Go.Proofs.Ytbmngkdnebklpaa
end
section
/- trestlebook: SameBools, SpoilBools; trestlelaw07: lent, lit. -/
set_option linter.unusedVariables false
set_option linter.unusedSimpArgs false
namespace Go.Proofs.Ytbmngkdnebklpaa
namespace SC
open Go.Proofs
attribute [local irreducible] WC WL WX WS WO OX Does DoesU Enters CV Pure thenQ blockQ retQ Wants retQC GC GL GS GX RdB thenG blockG retG Rd At gt CVN CVM
set_option maxRecDepth 100000
end SC
end Go.Proofs.Ytbmngkdnebklpaa
end
section
/- sim: ready, step, Values, Next, Holds, Starts. -/
set_option linter.unusedVariables false
set_option linter.unusedSimpArgs false
namespace Go.Proofs.Ytbmngkdnebklpaa
namespace SC
open Go.Proofs
attribute [local irreducible] WC WL WX WS WO OX Does DoesU Enters CV Pure thenQ blockQ retQ Wants retQC GC GL GS GX RdB thenG blockG retG Rd At gt CVN CVM
set_option maxRecDepth 100000
section
variable {w : World} {c : Circ} {h js : Hd} {S T : Option Addr} {k2 k3 : Nat} {s r : List Bool} (H : CirIn w c h js) (hS : RowA w booc 1 S s) (hT : RowA w booc 1 T r)
include H hS hT
end
end SC
end Go.Proofs.Ytbmngkdnebklpaa
end
section
/- What is so in a step. trestleref07: moment. -/
set_option linter.unusedVariables false
set_option linter.unusedSimpArgs false
namespace Go.Proofs.Ytbmngkdnebklpaa
namespace SC
open Go.Proofs
attribute [local irreducible] WC WL WX WS WO OX Does DoesU Enters CV Pure thenQ blockQ retQ Wants retQC GC GL GS GX RdB thenG blockG retG Rd At gt CVN CVM
set_option maxRecDepth 100000
end SC
end Go.Proofs.Ytbmngkdnebklpaa
end
section
/- sim: moment. -/
set_option linter.unusedVariables false
set_option linter.unusedSimpArgs false
namespace Go.Proofs.Ytbmngkdnebklpaa
namespace SC
open Go.Proofs
attribute [local irreducible] WC WL WX WS WO OX Does DoesU Enters CV Pure thenQ blockQ retQ Wants retQC GC GL GS GX RdB thenG blockG retG Rd At gt CVN CVM
set_option maxRecDepth 100000
end SC
end Go.Proofs.Ytbmngkdnebklpaa
end
section
/- Traces and runs. trestleref07: Fits, Run0, Run; sim: Run. -/
set_option linter.unusedVariables false
set_option linter.unusedSimpArgs false
namespace Go.Proofs.Ytbmngkdnebklpaa
namespace SC
open Go.Proofs
abbrev Hdl := Option Addr × Nat
/-- A trace, each row with its handle. -/
structure Trc where
  init : List Bool
  rows : List (Hdl × List Bool)
  loop : Int
/-- The states of a run, and what is so in its steps. -/
noncomputable def stM (c : Circ) (t : Trc) : Nat → List Bool
  | 0 => t.init
  | k + 1 => nxtM c (valM c (stM c t k) (gt t.rows (k : Int)).2)
attribute [local irreducible] WC WL WX WS WO OX Does DoesU Enters CV Pure thenQ blockQ retQ Wants retQC GC GL GS GX RdB thenG blockG retG Rd At gt CVN CVM
set_option maxRecDepth 100000
end SC
end Go.Proofs.Ytbmngkdnebklpaa
end
section
/- trestleref07: Run; sim: Run. -/
set_option linter.unusedVariables false
set_option linter.unusedSimpArgs false
namespace Go.Proofs.Ytbmngkdnebklpaa
namespace SC
open Go.Proofs
attribute [local irreducible] WC WL WX WS WO OX Does DoesU Enters CV Pure thenQ blockQ retQ Wants retQC GC GL GS GX RdB thenG blockG retG Rd At gt CVN CVM
set_option maxRecDepth 100000
end SC
end Go.Proofs.Ytbmngkdnebklpaa
end
section
/- trestlelaw07: works. -/
set_option linter.unusedVariables false
set_option linter.unusedSimpArgs false
namespace Go.Proofs.Ytbmngkdnebklpaa
namespace SC
open Go.Proofs
attribute [local irreducible] WC WL WX WS WO OX Does DoesU Enters CV Pure thenQ blockQ retQ Wants retQC GC GL GS GX RdB thenG blockG retG Rd At CVN CVM
set_option maxRecDepth 100000
end SC
end Go.Proofs.Ytbmngkdnebklpaa
end
section
/- ShapeChecks: the walk. -/
set_option linter.unusedVariables false
set_option linter.unusedSimpArgs false
namespace Go.Proofs.Ytbmngkdnebklpaa
namespace SC
open Go.Proofs
attribute [local irreducible] WC WL WX WS WO OX Does DoesU Enters CV Pure thenQ blockQ retQ Wants retQC
set_option maxRecDepth 100000
end SC
end Go.Proofs.Ytbmngkdnebklpaa
end
section
/- trestlelaw07: SimStarts, SimSteps: the walks. -/
set_option linter.unusedVariables false
set_option linter.unusedSimpArgs false
namespace Go.Proofs.Ytbmngkdnebklpaa
namespace SC
open Go.Proofs
/-- A lent circuit, as an entry. -/
def lentX (base : Nat) (c : Circ) (h js : Hd) : EntX where
  own := fun k => ∃ i, (lentRow c h js i).v.ownBlock = some k
  ok := fun w => CirLent w base c h js
  lt := fun w H k ⟨i, hi⟩ => (World.ownsRow.lt (H i) k hi).2
  keep := fun w w' S H hc hn => fun i => own_chg (H i) hc fun k hk => hn k ⟨i, hk⟩
/-- What comes in: a circuit, with its reach. -/
structure CirGot (w : World) (c : Circ) (h js : Hd) : Prop extends CirIn w c h js where
  fits1 : c.Fits1
  nils : Nils h js
theorem CirGot.chg {w w' : World} {c : Circ} {h js : Hd} (H : CirGot w c h js) (hc : Chg w w' none_) : CirGot w' c h js := ⟨H.toCirIn.chg hc, H.fits1, H.nils⟩
theorem In.lent {Γ : Mm} {w w0 : World} {base : Nat} {c : Circ} {h js h' js' : Hd} (H : CirIn w0 c h js) (hi : In Γ (.any (lentX base c h' js'))) (M : Mem w Γ) : CirIn w c h' js' := ⟨CirLent.at (hi.ok M), H.sane, H.okay, H.fits⟩
attribute [local irreducible] WC WL WX WS WO OX Does DoesU Enters CV Pure thenQ blockQ retQ Wants retQC GC GL GS GX RdB thenG blockG retG Rd At gt CVN CVM
set_option maxRecDepth 100000
end SC
end Go.Proofs.Ytbmngkdnebklpaa
end
section
/- trestlelaw07: SimSteps: the walk. -/
set_option linter.unusedVariables false
set_option linter.unusedSimpArgs false
namespace Go.Proofs.Ytbmngkdnebklpaa
namespace SC
open Go.Proofs
attribute [local irreducible] WC WL WX WS WO OX Does DoesU Enters CV Pure thenQ blockQ retQ Wants retQC GC GL GS GX RdB thenG blockG retG Rd At gt CVN CVM
set_option maxRecDepth 100000
end SC
end Go.Proofs.Ytbmngkdnebklpaa
end
section
/- Lists of bools that come in. -/
set_option linter.unusedVariables false
set_option linter.unusedSimpArgs false
namespace Go.Proofs.Ytbmngkdnebklpaa
namespace SC
open Go.Proofs
set_option maxRecDepth 100000
section
variable {H : Type} {enc : TypeId × Value → H} {W : World} {base : Nat} {spare : Nat → Bool} {held : Bool}
end
end SC
end Go.Proofs.Ytbmngkdnebklpaa
end
section
/- What is so of the values of a right circuit; trestlelaw07: lit. -/
set_option linter.unusedVariables false
set_option linter.unusedSimpArgs false
namespace Go.Proofs.Ytbmngkdnebklpaa
namespace SC
open Go.Proofs
/-! ### a list that is written from the left -/
section
variable {g : Nat → Nat} {h : List Bool → Nat → Bool} {v : List Bool}
end
theorem nodup_ix {l : List Int} (h : l.Nodup) {a b : Nat} (ha : a < l.length) (hb : b < l.length) (e : l[a] = l[b]) : a = b := by
  have hp := List.pairwise_iff_getElem.1 h
  rcases Nat.lt_trichotomy a b with h1 | h1 | h1
  · exact absurd e (hp a b ha hb h1)
  · exact h1
  · exact absurd e.symm (hp b a hb ha h1)
attribute [local irreducible] WC WL WX WS WO OX Does DoesU Enters CV Pure thenQ blockQ retQ Wants retQC GC GL GS GX RdB thenG blockG retG Rd At gt CVN CVM
set_option maxRecDepth 100000
end SC
end Go.Proofs.Ytbmngkdnebklpaa
end
section
/- trestlelaw07: SimGates: the walk. -/
set_option linter.unusedVariables false
set_option linter.unusedSimpArgs false
namespace Go.Proofs.Ytbmngkdnebklpaa
namespace SC
open Go.Proofs
attribute [local irreducible] WC WL WX WS WO OX Does DoesU Enters CV Pure thenQ blockQ retQ Wants retQC GC GL GS GX RdB thenG blockG retG Rd At gt CVN CVM
set_option maxRecDepth 100000
end SC
end Go.Proofs.Ytbmngkdnebklpaa
end
section
/- trestlebook: SameInts, SpoilInts, SameTrace; trestlelaw07: same. -/
set_option linter.unusedVariables false
set_option linter.unusedSimpArgs false
namespace Go.Proofs.Ytbmngkdnebklpaa
namespace SC
open Go.Proofs Go.Maps
set_option maxRecDepth 100000
theorem sameIntsG {w : World} {A B : Option Addr} {c d : Nat} {l : List Int} (R : RowA w icell 1 A l) (R' : RowA w icell 1 B l) (hl : l.length ≤ 9223372036854775807) : CVN Try.prog 37 [.slice A l.length c, .slice B l.length d] w fun v N => N = [] ∧ v = .bool true :=
  CVN.of (sameInts_cv R R' hl hl) fun v w' h => ⟨h.2, by rw [h.1, decide_eq_true rfl]⟩
/-! ### spots -/
/-! ### traces -/
theorem gt_snd {α β γ : Type} [Inhabited α] [Inhabited β] [Inhabited γ] {ps : List (α × β)} {qs : List (γ × β)} (h : ps.map (·.2) = qs.map (·.2)) {i : Nat} (hi : i < ps.length) : (gt ps (i : Int)).2 = (gt qs (i : Int)).2 := by
  have hl := congrArg List.length h
  simp only [List.length_map] at hl
  rw [gt_nat hi, gt_nat (by omega)]
  have := congrArg (fun l => l[i]?) h
  simp only [List.getElem?_map, List.getElem?_eq_getElem hi, List.getElem?_eq_getElem (show i < qs.length by omega), Option.map_some, Option.some.injEq] at this
  exact this
/-! ### the moments of a run, in memory -/
attribute [local irreducible] WC WL WX WS WO OX Does DoesU Enters CV Pure thenQ blockQ retQ Wants retQC GC GL GS GX RdB thenG blockG retG Rd At gt CVN CVM
end SC
end Go.Proofs.Ytbmngkdnebklpaa
end
section
/- trestlebook: CopyTrace; runs of traces that read the same. -/
set_option linter.unusedVariables false
set_option linter.unusedSimpArgs false
namespace Go.Proofs.Ytbmngkdnebklpaa
namespace SC
open Go.Proofs
attribute [local irreducible] WC WL WX WS WO OX Does DoesU Enters CV Pure thenQ blockQ retQ Wants retQC GC GL GS GX RdB thenG blockG retG Rd At gt CVN CVM
set_option maxRecDepth 100000
end SC
end Go.Proofs.Ytbmngkdnebklpaa
end
section
/- Entries bound together; what runs answer. -/
set_option linter.unusedVariables false
set_option linter.unusedSimpArgs false
namespace Go.Proofs.Ytbmngkdnebklpaa
namespace SC
open Go.Proofs
/-- Entries as one. -/
def bun (Δ : Mm) : EntX where
  own := owns Δ
  ok := fun w => Mem w Δ
  lt := fun w M k hk => M.lt hk
  keep := fun w w' S M hc hn => M.chg hc hn
theorem In.bun {Γ Δ : Mm} {w : World} (h : In Γ (.any (bun Δ))) (M : Mem w Γ) : Mem w Δ := h.ok M
theorem Rd.bun {α : Type} {Γ Δ : Mm} {enc : α → List Value} {sz : Nat} {A : Option Addr} {l : List α} (h : In Γ (.any (bun Δ))) (h0 : Rd Δ enc sz A l) : Rd Γ enc sz A l := fun w M => h0.at (h.bun M)
theorem CVN.bun {P : Program} {f : FuncId} {args : List Value} {w : World} {R : Value → Mm → Prop} (h : CVN P f args w R) : CVN P f args w fun v N => ∃ N', R v N' ∧ N = [.any (bun N')] :=
  CV.mono h fun v w' ⟨N, M, hR⟩ => ⟨[.any (SC.bun N)], Mem.join (.one M.left) M.right fun k ⟨E, hE, h1⟩ h2 => by
    simp only [List.mem_singleton] at hE
    subst hE
    exact M.sep k h1 h2, N, hR, rfl⟩
theorem Wk.left {Γ Δ : Mm} : Wk (Δ ++ Γ) Δ := ⟨fun w M => M.left, fun k hk => owns_append.2 (.inl hk)⟩
end SC
end Go.Proofs.Ytbmngkdnebklpaa
end
section
/- trestlelaw07: SimRuns: the walk. -/
set_option linter.unusedVariables false
set_option linter.unusedSimpArgs false
namespace Go.Proofs.Ytbmngkdnebklpaa
namespace SC
open Go.Proofs
attribute [local irreducible] WC WL WX WS WO OX Does DoesU Enters CV Pure thenQ blockQ retQ Wants retQC GC GL GS GX RdB thenG blockG retG Rd At gt CVN CVM
attribute [local irreducible] fam bun
set_option maxRecDepth 100000
end SC
end Go.Proofs.Ytbmngkdnebklpaa
end
section
/- Traces that come in. -/
set_option linter.unusedVariables false
set_option linter.unusedSimpArgs false
namespace Go.Proofs.Ytbmngkdnebklpaa
namespace SC
open Go.Proofs
set_option maxRecDepth 100000
section
variable {H : Type} {enc : TypeId × Value → H} {W : World} {base : Nat} {spare : Nat → Bool} {held : Bool}
end
end SC
end Go.Proofs.Ytbmngkdnebklpaa
end
section
/- A back part of a slice; numbers without a sign; a run from one of its states. -/
set_option linter.unusedVariables false
set_option linter.unusedSimpArgs false
namespace Go.Proofs.Ytbmngkdnebklpaa
namespace SC
open Go.Proofs
set_option maxRecDepth 100000
section
variable {n : Nat} {all : List Oper} {K : Env → Mm → Prop} {m : Md} {e : Env} {Γ : Mm} {d : Option Tmp} {ty t t' t0 : TypeId} {x y : Operand} {td : TypeDesc} {sz sz1 by_ by1 : Nat} {zv z1 : Value} {ag ag1 : Bool}
end
theorem RowA.drop {α : Type} {w : World} {enc : α → List Value} {sz : Nat} {A : Option Addr} {l : List α} (h : RowA w enc sz A l) (i : Nat) : RowA w enc sz (A.map (·.add (i * sz))) (l.drop i) := fun k hk => by
  rw [List.length_drop] at hk
  obtain ⟨p, rfl, hp⟩ := h (i + k) (by omega)
  refine ⟨p.add (i * sz), rfl, fun j u hj => ?_⟩
  rw [List.getElem_drop] at hj
  have := hp j u hj
  rw [show ((i + k : Nat) : Int).toNat = i + k by omega, Nat.add_mul] at this
  rw [show (k : Int).toNat = k by omega, Addr.add_add p]
  exact this
/-- The trace from a state on. -/
noncomputable def tail (c : Circ) (t : Trc) (i : Nat) : Trc := ⟨stM c t i, t.rows.drop i, -1⟩
end SC
end Go.Proofs.Ytbmngkdnebklpaa
end
section
/- trestleref03: Lit, Lits, Binary. -/
set_option linter.unusedVariables false
set_option linter.unusedSimpArgs false
namespace Go.Proofs.Ytbmngkdnebklpaa
namespace SC
open Go.Proofs
attribute [local irreducible] WC WL WX WS WO OX Does DoesU Enters CV Pure thenQ blockQ retQ Wants retQC GC GL GS GX RdB thenG blockG retG Rd At gt CVN CVM
set_option maxRecDepth 100000
end SC
end Go.Proofs.Ytbmngkdnebklpaa
end
section
/- The renumbering's map: what it gives to each variable of a right circuit. -/
set_option linter.unusedVariables false
set_option linter.unusedSimpArgs false
namespace Go.Proofs.Ytbmngkdnebklpaa
namespace SC
open Go.Proofs
section
variable {c : Circ} (R : Right c)
include R
end
end SC
end Go.Proofs.Ytbmngkdnebklpaa
end
section
/- Definitions that are apart pass; the renumbered circuit's definitions. -/
set_option linter.unusedVariables false
set_option linter.unusedSimpArgs false
namespace Go.Proofs.Ytbmngkdnebklpaa
namespace SC
open Go.Proofs
/-! ### the renumbered circuit -/
section
variable {c : Circ} (R : Right c)
/-- The circuit in the binary order; the map. -/
noncomputable abbrev renC (c : Circ) : Circ := renM c (ordM c)
noncomputable abbrev toM (c : Circ) : List Int := mapOf c.max (defsOf c (ordM c))
include R
end
end SC
end Go.Proofs.Ytbmngkdnebklpaa
end
section
/- The renumbered circuit is right. -/
set_option linter.unusedVariables false
set_option linter.unusedSimpArgs false
namespace Go.Proofs.Ytbmngkdnebklpaa
namespace SC
open Go.Proofs
section
variable {c : Circ} (R : Right c)
include R
end
end SC
end Go.Proofs.Ytbmngkdnebklpaa
end
section
/- The renumbered circuit's order; it looks right. -/
set_option linter.unusedVariables false
set_option linter.unusedSimpArgs false
namespace Go.Proofs.Ytbmngkdnebklpaa
namespace SC
open Go.Proofs
section
variable {c : Circ} (R : Right c)
include R
/-- A gate that another one uses was told before it. -/
theorem Right.low {k : Nat} (hk : k < (ordM c).length) {l : Int} (hl : l = (andAt c (ordM c)[k]).2.1 ∨ l = (andAt c (ordM c)[k]).2.2) {j : Nat} (hj : j < (ordM c).length) (e : l / 2 = (andAt c (ordM c)[j]).1 / 2) : j < k := by
  have ho := R.ord (List.getElem_mem hj)
  have hlt : (ordM c)[j].toNat < c.ands.length := by omega
  have h3 := (R.tab.gat _ hlt).2
  have ea : andAt c (ordM c)[j] = c.ands[(ordM c)[j].toNat] := by unfold andAt; simp [hlt]
  rw [← ea, ← e, show (((ordM c)[j].toNat : Nat) : Int) = (ordM c)[j] by omega] at h3
  have hsp : ordM c = (ordM c).take k ++ (ordM c)[k] :: (ordM c).drop (k + 1) := by
    have h1 := List.take_append_drop k (ordM c)
    rw [List.drop_eq_getElem_cons hk] at h1
    exact h1.symm
  have hlow := (R.all.told.split hsp).1.low
  have hb : (ordM c)[j] ∈ gateB (tabM c) c (ordM c)[k] := by
    show (ordM c)[j] ∈ belowL (tabM c) [(andAt c (ordM c)[k]).2.1, (andAt c (ordM c)[k]).2.2]
    rw [mem_belowL]
    exact ⟨l, by rcases hl with rfl | rfl <;> simp, kindAt_get h3, atOf_get h3⟩
  obtain ⟨k', hk', ek⟩ := List.mem_iff_getElem.1 (hlow _ hb)
  rw [List.length_take] at hk'
  rw [List.getElem_take] at ek
  have := nodup_ix R.all.told.nodup (a := k') (b := j) (by omega) hj ek
  omega
end
end SC
end Go.Proofs.Ytbmngkdnebklpaa
end
section
/- The renumbered circuit's values and runs. -/
set_option linter.unusedVariables false
set_option linter.unusedSimpArgs false
namespace Go.Proofs.Ytbmngkdnebklpaa
namespace SC
open Go.Proofs
section
variable {c : Circ}
end
section
variable {c : Circ} (R : Right c)
include R
end
end SC
end Go.Proofs.Ytbmngkdnebklpaa
end
section
/- Runs of the renumbered circuit. -/
set_option linter.unusedVariables false
set_option linter.unusedSimpArgs false
namespace Go.Proofs.Ytbmngkdnebklpaa
namespace SC
open Go.Proofs
section
variable {c : Circ} (R : Right c) (R' : Right (renC c))
include R R'
end
end SC
end Go.Proofs.Ytbmngkdnebklpaa
end
section
/- The binary order: a right circuit has it just if renumbering leaves it as it is. -/
set_option linter.unusedVariables false
set_option linter.unusedSimpArgs false
namespace Go.Proofs.Ytbmngkdnebklpaa
namespace SC
open Go.Proofs
section
variable {c : Circ} (R : Right c)
include R
end
end SC
end Go.Proofs.Ytbmngkdnebklpaa
end
section
/- shape: Renumber, by entries. -/
set_option linter.unusedVariables false
set_option linter.unusedSimpArgs false
namespace Go.Proofs.Ytbmngkdnebklpaa
namespace SC
open Go.Proofs
section
variable {c : Circ} (R : Right c)
include R
end
/-- A renumbered circuit of its own and its map, as one entry. -/
def renX (base : Nat) (c : Circ) (h js : Hd) (A : Option Addr) (k : Nat) : EntX where
  own := fun b => (∃ i, (cirRows (renC c) h js js (renC c).justice.length i).v.ownBlock = some b) ∨ (Value.slice A (toM c).length k).ownBlock = some b
  ok := fun w => CirOwn w base (renC c) h js ∧ w.ownsRow base 3 1 (.slice A (toM c).length k) (toM c).length ((toM c).flatMap icell)
  lt := fun w H b hb => by
    rcases hb with ⟨i, hi⟩ | hb
    · exact (Rows.lt H.1 hi).2
    · exact (World.ownsRow.lt H.2 b hb).2
  keep := fun w w' S H hc hn => ⟨Rows.chg H.1 hc fun i b hb => hn b (.inl ⟨i, hb⟩), own_chg H.2 hc fun b hb => hn b (.inr hb)⟩
attribute [local irreducible] WC WL WX WS WO OX Does DoesU Enters CV Pure thenQ blockQ retQ Wants retQC GC GL GS GX RdB thenG blockG retG Rd At gt CVN CVM
set_option maxRecDepth 100000
end SC
end Go.Proofs.Ytbmngkdnebklpaa
end
section
/- trestlelaw07: SimNumbers: the walk. -/
set_option linter.unusedVariables false
set_option linter.unusedSimpArgs false
namespace Go.Proofs.Ytbmngkdnebklpaa
namespace SC
open Go.Proofs
attribute [local irreducible] WC WL WX WS WO OX Does DoesU Enters CV Pure thenQ blockQ retQ Wants retQC GC GL GS GX RdB thenG blockG retG Rd At gt CVN CVM
attribute [local irreducible] fam bun renX
set_option maxRecDepth 100000
end SC
end Go.Proofs.Ytbmngkdnebklpaa
end
section
/- slices.Equal, slices.EqualFunc; shape's Same. -/
set_option linter.unusedVariables false
set_option linter.unusedSimpArgs false
namespace Go.Proofs.Ytbmngkdnebklpaa
namespace SC
open Go.Proofs
attribute [local irreducible] WC WL WX WS WO OX Does DoesU Enters CV Pure thenQ blockQ retQ Wants retQC
set_option maxRecDepth 100000
end SC
end Go.Proofs.Ytbmngkdnebklpaa
end
section
/- slices.EqualFunc at lists of lists; shape's Same. -/
set_option linter.unusedVariables false
set_option linter.unusedSimpArgs false
namespace Go.Proofs.Ytbmngkdnebklpaa
namespace SC
open Go.Proofs
attribute [local irreducible] WC WL WX WS WO OX Does DoesU Enters CV Pure thenQ blockQ retQ Wants retQC
set_option maxRecDepth 100000
end SC
end Go.Proofs.Ytbmngkdnebklpaa
end
section
/- trestlebook: SpoilCircuit. -/
set_option linter.unusedVariables false
set_option linter.unusedSimpArgs false
namespace Go.Proofs.Ytbmngkdnebklpaa
namespace SC
open Go.Proofs
attribute [local irreducible] WC WL WX WS WO OX Does DoesU Enters CV Pure thenQ blockQ retQ Wants retQC
set_option maxRecDepth 100000
end SC
end Go.Proofs.Ytbmngkdnebklpaa
end
section
/- IsBinary, of the reference and of shape. -/
set_option linter.unusedVariables false
set_option linter.unusedSimpArgs false
namespace Go.Proofs.Ytbmngkdnebklpaa
namespace SC
open Go.Proofs
attribute [local irreducible] WC WL WX WS WO OX Does DoesU Enters CV Pure thenQ blockQ retQ Wants retQC GC GL GS GX RdB thenG blockG retG Rd At gt CVN CVM
attribute [local irreducible] renX
set_option maxRecDepth 100000
end SC
end Go.Proofs.Ytbmngkdnebklpaa
end
section
/- The renumbered circuit has the binary order. -/
set_option linter.unusedVariables false
set_option linter.unusedSimpArgs false
namespace Go.Proofs.Ytbmngkdnebklpaa
namespace SC
open Go.Proofs
section
variable {c : Circ} (R : Right c)
include R
end
end SC
end Go.Proofs.Ytbmngkdnebklpaa
end
section
/- trestlelaw03: ShapeSettles: the walk. -/
set_option linter.unusedVariables false
set_option linter.unusedSimpArgs false
namespace Go.Proofs.Ytbmngkdnebklpaa
namespace SC
open Go.Proofs
attribute [local irreducible] WC WL WX WS WO OX Does DoesU Enters CV Pure thenQ blockQ retQ Wants retQC GC GL GS GX RdB thenG blockG retG Rd At gt CVN CVM
attribute [local irreducible] renX
set_option maxRecDepth 100000
end SC
end Go.Proofs.Ytbmngkdnebklpaa
end
section
/- trestlebook: CopyCircuit by entries; trestleref03: Renumber. -/
set_option linter.unusedVariables false
set_option linter.unusedSimpArgs false
namespace Go.Proofs.Ytbmngkdnebklpaa
namespace SC
open Go.Proofs
end SC
end Go.Proofs.Ytbmngkdnebklpaa
end
section
/- General words: clauses in memory, families bound together, regions whose changes are kept apart. (Collected out of N1, N2, N9, N11, N37, N39, N40, N41 for seats without their functions.) -/
set_option linter.unusedVariables false
set_option linter.unusedSimpArgs false
namespace Go.Proofs.Ytbmngkdnebklpaa
namespace SC
open Go.Proofs
theorem does_neg {P : Program} {e : Env} {x : Operand} {t ty : TypeId} {w : World} {a : Int} (h : ev e x = some (.int .i64 a)) (h2 : -9223372036854775808 ≤ -a) (h3 : -a ≤ 9223372036854775807) : Does P (.unOp .neg t x) ty e w (.int .i64 (-a)) w := by
  intro ρ dst pos af g hρ
  have h0 := wrap64_id h2 h3
  simp [execOp, hρ _ _ h, Op.unary, Op.intArith, h0]
theorem G_neg {P : Program} {n : Nat} {all : List Oper} {K : Env → Mm → Prop} {m : Md} {e : Env} {Γ : Mm} {d : Option Tmp} {ty t : TypeId} {x : Operand} {a : Int} (h : ev e x = some (.int .i64 a)) (h2 : -9223372036854775808 ≤ -a) (h3 : -a ≤ 9223372036854775807) (hr : GN P n all K m (push d (nu (-a)) e) Γ) : GX P n all K m d (.unOp .neg t x) ty e Γ := GX_pure (fun _ => does_neg h h2 h3) hr
def rowJ (p : Hdl × List Int) : Mm := [.vec icell 1 3 p.1.1 p.1.2 p.2]
/-- The clauses of a formula, each with its handle. -/
structure CnfAt (w : World) (A : Option Addr) (ps : List (Hdl × List Int)) : Prop where
  row : RowA w encS 1 A ps
  each : ∀ p ∈ ps, RowA w icell 1 p.1.1 p.2
abbrev cnB (ps : List (Hdl × List Int)) (A : Option Addr) (k : Nat) : Mm := .vec encS 1 67 A k ps :: fam rowJ ps
theorem Wk.one {E : Ent} {Γ : Mm} : Wk (E :: Γ) [E] := Wk.cons .here .nil
theorem Wk.there {Γ Γ' : Mm} (h : Wk Γ Γ') : Wk Γ ([] ++ Γ') := h
theorem Upd.left {Θ Θ' Γ : Mm} {E F : Ent} (h : Upd Θ E F Θ') : Upd (Θ ++ Γ) E F (Θ' ++ Γ) := by
  induction h with
  | here => exact .here
  | there _ ih => exact .there ih
section
variable {P : Program} {n : Nat} {all : List Oper} {K : Env → Mm → Prop} {A : List Fl} {Θ Θ' C : Mm} {r : List PStep} {e : Env} {Γ Γ' : Mm} {j : Nat} {d : Option Tmp} {ty t t0 : TypeId} {x y : Operand}
/-- What was kept apart comes back. -/
theorem GS_nilP (h : K e (Θ ++ Γ)) : GS P n all K [] Θ [] e Γ := by
  intro B a Q fuel listed w hB ha hs M hQ hp hns hsz hsh hF hok
  obtain rfl : B = [] := by simpa using hB
  simp only [planM, Bool.and_eq_true, List.isEmpty_iff] at hok
  obtain rfl := Nat.eq_of_beq_eq_true hok.2
  exact ⟨hok.1.2, hQ a w e (Θ ++ Γ) ha (show Mem w (Θ ++ Γ) from M) h⟩
/-- Entries kept apart: no quiet operation looks at them. -/
theorem GC_drawsP {id : Nat} {l : List Oper} {Q : PostG} (pl : List PStep) (hm : P.follows .mixedOrders = true) (hns : Region.noSelect l.toArray = true) (hok : planM l.toArray pl l.toArray.size (Array.replicate l.toArray.size false) [] = true) (hC : Rems Γ C Γ')
    (h : GS P n l (fun e Γ => Q .normal e Γ) [] C pl e Γ') : GC P n (.region id l.toArray true) Q e Γ := fun w M a ha =>
  wp_region_any hm (wpAny_of_M _ _ _ _ _ (h [] a _ _ _ _ rfl ha (fun _ _ h => (by cases h)) (show Mem w.drew (C ++ Γ') from Mem.takes hC M.drew) (fun a' w' e' Γ' ha' M' hK => ⟨e', ha', Γ', M', hK⟩) lift_panic hns (by simp) (Shut.init _ _ _) ⟨fun _ h => (by cases h), List.Pairwise.nil, List.Pairwise.nil⟩ hok))
end
def rowL (p : Hdl × List Int) : Ent := .vec icell 1 3 p.1.1 p.1.2 p.2
theorem flat_row : ∀ ps : List (Hdl × List Int), ps.flatMap rowJ = ps.map rowL
  | [] => rfl
  | a :: r => by rw [List.flatMap_cons, flat_row r]; rfl
theorem fam_perm (ps : List (Hdl × List Int)) : (ps.map rowL).Perm (fam rowJ ps) := by
  have : fam rowJ ps = (ps.map rowL).reverse := by
    unfold fam
    rw [← List.map_reverse]
    exact flat_row _
  rw [this]
  exact (List.reverse_perm _).symm
section
variable {P : Program} {n : Nat} {all : List Oper} {K : Env → Mm → Prop} {m : Md} {e : Env} {Γ Γ' Γ1 Γ2 Θ : Mm} {d : Option Tmp} {ty t t0 : TypeId} {x y : Operand} {c : Code} {Q : PostG} {td : TypeDesc} {sz by_ : Nat} {zv : Value} {ag : Bool}
theorem Wk.part {C D : Mm} (hR : Rems Γ C Γ1) (h : Wk C D) (h2 : Wk Γ1 Γ') : Wk Γ (D ++ Γ') := by
  refine ⟨fun w M => ?_, fun k hk => ?_⟩
  · have M1 := M.perm hR.perm
    exact (h.mem w M1.left).join (h2.mem w M1.right) fun k k1 k2 => M1.sep k (h.sub k k1) (h2.sub k k2)
  · rw [owns_perm hR.perm, owns_append]
    exact (owns_append.1 hk).imp (h.sub k) (h2.sub k)
theorem bun_in {D : Mm} : Wk D [.any (bun D)] := ⟨fun w M => Mem.one (E := .any (bun D)) M, fun k hk => (owns_cons.1 hk).elim id fun h => absurd h owns_nil⟩
theorem bun_out {D : Mm} : Wk [.any (bun D)] D := ⟨fun w M => M.head, fun k hk => owns_cons.2 (.inl hk)⟩
theorem fam_mid (a b : List (Hdl × List Int)) (x : Hdl × List Int) : (fam rowJ (a ++ x :: b)).Perm (rowL x :: fam rowJ (a ++ b)) := by
  refine (fam_perm _).symm.trans ?_
  rw [List.map_append, List.map_cons]
  refine List.perm_middle.trans ((List.Perm.cons _) ?_)
  rw [← List.map_append]
  exact fam_perm _
theorem row_in (a b : List (Hdl × List Int)) (x : Hdl × List Int) : Wk [rowL x, .any (bun (fam rowJ (a ++ b)))] [.any (bun (fam rowJ (a ++ x :: b)))] :=
  (Wk.cons .here bun_out).trans ((Wk.perm (fam_mid a b x).symm).trans bun_in)
/-- Appended: to a box, an own slice. -/
theorem G_appBV {α : Type} {enc : α → List Value} [U : Ty P t (.slice t0) 1 (.slice none 0 0) 24 false] [T : Ty P t0 td sz zv by_ ag] {A2 : Option Addr} {b c k1 k2 c2 : Nat} {l2 : List α} {cs : List Value} {t2 : TypeId} {Γ1 : Mm} {Γ2 : Option Addr → Nat → Mm} (l : List α) (hm : wrOk all m = true) (h : ev e x = some (.slice (some ⟨b, 0, none⟩) k1 c)) (h1 : ev e y = some (.slice A2 k2 c2)) (N : Enc enc sz)
    (hU1 : Upd Γ (.box b t0 cs) (.vec enc sz t0 (some ⟨b, 0, none⟩) c l) Γ1) (hD : Dec enc cs l) (hi : In Γ1 (.vec enc sz t2 A2 c2 l2)) (hU : ∀ A' c', Upd Γ1 (.vec enc sz t0 (some ⟨b, 0, none⟩) c l) (.vec enc sz t0 A' c' (l ++ l2)) (Γ2 A' c')) (hk1 : k1 = l.length) (hc : c = l.length) (hl : l.length ≤ 1000) (hk : k2 = l2.length) (hzs : zv.cells.size = sz) (hby : (l.length + l2.length) * by_ ≤ 140737488355328) (hby1 : 1 ≤ by_)
    (hr : ∀ A' c', GN P n all K m (push d (.slice A' (l ++ l2).length c') e) (Γ2 A' c')) : GX P n all K m d (.call { callee := .builtin .append, args := #[x, y], argTypes := #[t, t] }) ty e Γ := by
  subst hc
  exact GX_acts hm (acts_box hU1 hD (by unfold maxLen; omega) (acts_appendR h hk1 h1 hk hU (Rd.own hi N) (fun w M hA => by
    have := hi.ok M
    rcases this.2 with ⟨h1, _⟩ | ⟨g, cap, cur, h1, _⟩
    · simp only [Value.slice.injEq] at h1; exact h1.2.2
    · simp only [Value.slice.injEq] at h1; rw [h1.1] at hA; cases hA) hzs hby hby1)) fun v Γ1 ⟨A', c', e1, e2⟩ => by rw [e1, e2]; exact hr A' c'
end
theorem Wk.app {C D Γ : Mm} (h : Wk C D) : Wk (C ++ Γ) (D ++ Γ) := ⟨fun w M => (h.mem w M.left).join M.right fun k k1 k2 => M.sep k (h.sub k k1) k2, fun k hk => owns_append.2 ((owns_append.1 hk).imp (h.sub k) id)⟩
theorem CVN.wk {P : Program} {f : FuncId} {args : List Value} {w : World} {R R' : Value → Mm → Prop} (h : CVN P f args w R) (hR : ∀ v N, R v N → ∃ N', Wk N N' ∧ R' v N') : CVN P f args w R' :=
  CV.mono h fun v w' ⟨N, M, hv⟩ => by
    obtain ⟨N', h1, h2⟩ := hR v N hv
    exact ⟨N', h1.app.mem w' M, h2⟩
theorem Wk.same {E F : Ent} (h1 : ∀ w, E.ok w → F.ok w) (h2 : ∀ k, F.own k → E.own k) : Wk [E] [F] := ⟨fun w M => Mem.one (h1 w M.head), fun k hk => owns_cons.2 ((owns_cons.1 hk).imp (h2 k) fun h => absurd h owns_nil)⟩
section
variable {P : Program} {e : Env} {w : World} {t : TypeId} {td : TypeDesc} {sz by_ : Nat} {zv : Value}
theorem results_ofC1 {fn : Func} {n : Nat} {a : Act} {ta r1 : Nat} [T : Ty P t td sz zv by_ true] (ha : Agree n e a) (hr : fn.results = (.cell ta t :: [ResultVar.tmp r1]).toArray) {p : Addr} {cs : List Value} {v1 : Value} (h0 : look e ta = some (.pointer (some p)))
    (hc : ∀ j u, cs[j]? = some u → w.cell? (p.add j) = some u) (hs : cs.length = sz) (h : look e r1 = some v1) : (results fn a.tmps).run P w = .ok (retVal [.agg cs.toArray, v1]) w := by
  have ht : ∀ t v, look e t = some v → a.tmps[t]? = some v := ha.tmps
  have hr0 := run_loadCells_list (P := P) w p cs hc
  subst hs
  simp [results, hr, retVal, ht _ _ h0, ht _ _ h, asAddr, loadVar, T.agg, T.size, hr0, Result.andThen]
end
def retGC1 (a sz r1 : Nat) (R : Value → Mm → Prop) : PostG
  | .ret, e, Γ => ∃ b t cs v, look e a = some (.pointer (some ⟨b, 0, none⟩)) ∧ In Γ (.box b t cs) ∧ cs.length = sz ∧ look e r1 = some v ∧ R (.tuple #[.agg cs.toArray, v]) Γ
  | .normal, e, Γ => ∃ b t cs v, look e a = some (.pointer (some ⟨b, 0, none⟩)) ∧ In Γ (.box b t cs) ∧ cs.length = sz ∧ look e r1 = some v ∧ R (.tuple #[.agg cs.toArray, v]) Γ
  | _, _, _ => False
theorem CVN.enterC1 {P : Program} {f : FuncId} {args : List Value} {w : World} {R : Value → Mm → Prop} {t : TypeId} {td : TypeDesc} {sz by_ : Nat} {zv : Value} {fn : Func} {c : Code} (n a r1 : Nat) [T : Ty P t td sz zv by_ true] (hf : P.funcs[f]? = some fn) (hb : fn.body = some c)
    (hn : fn.ntmps = n) (hr : fn.results = (.cell a t :: [ResultVar.tmp r1]).toArray) (hs : Nat.ble args.length n = true) (h : GC P n c (retGC1 a sz r1 fun v Γ => ∃ N, Wk Γ (N ++ [.old w none_]) ∧ R v N) (argEnv args 0) [.old w none_]) : CVN P f args w R := by
  refine calls_of_wp hf hb ?_
  have hA : Agree n (argEnv args 0) { tmps := args.toArray ++ Array.replicate (fn.ntmps - args.toArray.size) undef, defers := [] } := by
    have hs' := Nat.le_of_ble_eq_true hs
    refine ⟨by simp [hn]; omega, rfl, fun t v hv => ?_⟩
    obtain ⟨_, h2⟩ := argEnv_look args 0 t v hv
    have hlt : t < args.length := (List.getElem?_eq_some_iff.1 h2).1
    rw [Array.getElem?_append_left (by simpa using hlt)]
    simpa using h2
  have key : ∀ (a' : Act) (w' : World) (e : Env) (Γ : Mm), Agree n e a' → Mem w' Γ → (∃ b t' cs v, look e a = some (.pointer (some ⟨b, 0, none⟩)) ∧ In Γ (.box b t' cs) ∧ cs.length = sz ∧ look e r1 = some v ∧ ∃ N, Wk Γ (N ++ [.old w none_]) ∧ R (.tuple #[.agg cs.toArray, v]) N) → a'.defers = [] ∧ ∃ v, (results fn a'.tmps).run P w' = .ok v w' ∧ ∃ N, Mem w' (N ++ [.old w none_]) ∧ R v N := by
    intro a' w' e Γ ha M ⟨b, t', cs, v, h0, hi, hz, h1, N, h2, h3⟩
    refine ⟨ha.defers, _, results_ofC1 (T := T) ha hr h0 (fun j u hj => ?_) hz h1, N, h2.mem w' M, h3⟩
    rw [add_at, Nat.zero_add, (show Blk w' b t' cs from hi.ok M).cell]
    exact hj
  refine wp_mono (h w (Mem.start w) _ hA) ?_
  intro s a' w' hq
  cases s with
  | normal => obtain ⟨e, ha, Γ, M, h⟩ := hq; exact key a' w' e Γ ha M h
  | ret => obtain ⟨e, ha, Γ, M, h⟩ := hq; exact key a' w' e Γ ha M h
  | exit i => obtain ⟨e, _, Γ, M, h⟩ := hq; exact h
  | goto l => obtain ⟨e, _, Γ, M, h⟩ := hq; exact h
  | panic c => exact hq.elim
  | outgrown => exact hq.elim
theorem retGC1r {R : Value → Mm → Prop} {e : Env} {Γ : Mm} {a sz b r1 : Nat} {v : Value} {t : TypeId} {cs : List Value} (h : look e a = some (.pointer (some ⟨b, 0, none⟩))) (hi : In Γ (.box b t cs)) (hl : cs.length = sz) (h1 : look e r1 = some v) (hr : R (.tuple #[.agg cs.toArray, v]) Γ) : retGC1 a sz r1 R .ret e Γ := ⟨b, t, cs, v, h, hi, hl, h1, hr⟩
end SC
end Go.Proofs.Ytbmngkdnebklpaa
end
section
/- trestlebook: SameCnf, SpoilCnf; lists of numbers lent. -/
set_option linter.unusedVariables false
set_option linter.unusedSimpArgs false
namespace Go.Proofs.Ytbmngkdnebklpaa
namespace SC
open Go.Proofs
theorem In.rowL {Γ : Mm} {w : World} {t : TypeId} {A : Option Addr} {c : Nat} {l : List Int} (h : In Γ (.vec icell 1 t A c (l ++ [-77]))) (M : Mem w Γ) : RowA w icell 1 A l := RowA.left (h.row M)
attribute [local irreducible] WC WL WX WS WO OX Does DoesU Enters CV Pure thenQ blockQ retQ Wants retQC GC GL GS GX RdB thenG blockG retG Rd At gt CVN CVM
set_option maxRecDepth 100000
theorem sameClauses_cv {w : World} {A B : Option Addr} {k k2 : Nat} {ps qs : List (Hdl × List Int)} (H : CnfAt w A ps) (H' : CnfAt w B qs) (E : ps.map (·.2) = qs.map (·.2)) (hn : ps.length ≤ 1000000) (hb : ∀ p ∈ ps, p.2.length ≤ 1000) :
    CVN Try.prog 13 [.slice A ps.length k, .slice B qs.length k2] w fun v N => N = [] ∧ v = .bool true := by
  have hl : ps.length = qs.length := by have := congrArg List.length E; simpa using this
  have hA := H.row
  have hB := H'.row
  refine CVN.enter 27 [4] Try.func13 rfl rfl rfl (by decide) rfl ?_
  repeat' (first
 | (apply GC_seqK; intro K hK)
 | (apply hK; clear hK K)
 | (apply GC_block)
 | (apply GC_region)
 | (apply GL_nil)
 | (apply thenG_normal)
 | (apply GC_skip)
 | (apply GC_if_false; eq_refl)
 | (apply GL_on; eq_refl; eq_refl)
 | (apply G_pv; eq_refl; first | exact trivial | omega)
 | (apply G_cmpF; eq_refl; eq_refl; omega)
 | (apply G_len; eq_refl))
  refine GC_loopK [0, 1] (fun i : Nat => [(5, nu i)]) (fun _ => [.old w none_]) (fun i => i ≤ ps.length) (fun i => ps.length - i) 0 (by repeat first | exact Pick.nil | (apply Pick.cons; eq_refl)) (by repeat first | exact trivial | refine ⟨rfl, ?_⟩) (by repeat first | exact Wk.nil | exact Wk.refl | (apply Wk.cons; (focus ((repeat first | exact Rem.here | apply Rem.there | apply Rem.skip); done))) | apply Wk.nilv | apply Wk.last | apply Wk.drop) (Nat.zero_le _) ?_
  intro i hi
  rcases Nat.lt_or_ge i ps.length with hlt | hge
  · have hs : (gt ps (i : Int)).2 = (gt qs (i : Int)).2 := gt_snd E hlt
    have g1 := gt_mem (l := ps) (i := (i : Int)) (by omega) (by omega)
    have g2 := gt_mem (l := qs) (i := (i : Int)) (by omega) (by omega)
    have r1 := H.each _ g1
    have r2 := H'.each _ g2
    have b1 := hb _ g1
    generalize hx : gt ps (i : Int) = x at *
    generalize hy : gt qs (i : Int) = y at *
    obtain ⟨x1, l1⟩ := x
    obtain ⟨y1, l2⟩ := y
    dsimp only at hs r1 r2 b1
    subst hs
    have hsi : ∀ Γ, In Γ (.old w none_) → ∀ w', Mem w' Γ → CVN Try.prog 37 [.slice x1.1 l1.length x1.2, .slice y1.1 l1.length y1.2] w' fun v N => N = [] ∧ v = .bool true := fun Γ ho w' M => sameIntsG (r1.chg (ho.old M)) (r2.chg (ho.old M)) (by omega)
    repeat' (first
 | (apply G_call; eq_refl; eq_refl; (apply hsi; (repeat first | exact In.here | apply In.there | apply In.skip)); rintro _ _ ⟨rfl, rfl⟩)
 | (apply G_rd; eq_refl; (first | (apply Rd.own; (repeat first | exact In.here | apply In.there | apply In.skip); infer_instance) | (apply Rd.old; (repeat first | exact In.here | apply In.there | apply In.skip); assumption) | (apply Rd.oldR; (repeat first | exact In.here | apply In.there | apply In.skip); assumption) | exact Rd.nil | assumption); (case ih => infer_instance); omega; omega; (first | (rw [hx]; dsimp only [encS]; eq_refl) | (rw [hy]; dsimp only [encS]; eq_refl)))
 | (apply GC_seqK; intro K hK)
 | (apply hK; clear hK K)
 | (apply GC_block)
 | (apply GC_region)
 | (apply GL_nil)
 | (apply thenG_normal)
 | (apply blockG_normal)
 | (apply GC_skip)
 | (apply GC_if_true; eq_refl)
 | (apply GC_if_false; eq_refl)
 | (apply GL_on; eq_refl; eq_refl)
 | (refine GC_draws (id := 6) [.q 0, .q 1, .q 2, .q 3, .q 4, .q 5, .q 6, .q 7, .c 8, .q 9] mixed (by kernel_rfl) (by kernel_rfl) ?_)
 | (apply GS_nil)
 | (apply GS_qon; eq_refl; eq_refl; eq_refl; eq_refl)
 | (apply GS_con; eq_refl; eq_refl; eq_refl; eq_refl)
 | (apply G_pv; eq_refl; first | exact trivial | omega)
 | (apply G_cmpT; eq_refl; eq_refl; omega)
 | (apply G_len; eq_refl)
 | (apply G_ix; eq_refl; eq_refl; (first | (apply Rd.own; (repeat first | exact In.here | apply In.there | apply In.skip); infer_instance) | (apply Rd.old; (repeat first | exact In.here | apply In.there | apply In.skip); assumption) | (apply Rd.oldR; (repeat first | exact In.here | apply In.there | apply In.skip); assumption) | exact Rd.nil | assumption); (first | eq_refl | omega); omega; omega))
    exact ⟨i + 1, (by repeat first | exact trivial | refine ⟨rfl, ?_⟩), (by repeat first | exact Wk.nil | exact Wk.refl | (apply Wk.cons; (focus ((repeat first | exact Rem.here | apply Rem.there | apply Rem.skip); done))) | apply Wk.nilv | apply Wk.last | apply Wk.drop), hlt, by omega⟩
  · repeat' (first
 | (apply GC_seqK; intro K hK)
 | (apply hK; clear hK K)
 | (clear hK K; apply hK; clear hK K)
 | (apply GC_region)
 | (apply GL_nil)
 | (apply thenG_normal)
 | (apply thenG_exit)
 | (apply blockG_hit)
 | (apply GC_ret)
 | (apply GC_exit)
 | (apply GC_if_false; eq_refl)
 | (apply retG1; eq_refl)
 | (apply GL_on; eq_refl; eq_refl)
 | (apply G_pv; eq_refl; first | exact trivial | omega)
 | (apply G_cmpF; eq_refl; eq_refl; omega)
 | (apply G_len; eq_refl))
    exact ⟨[], (by repeat first | exact Wk.nil | exact Wk.refl | (apply Wk.cons; (focus ((repeat first | exact Rem.here | apply Rem.there | apply Rem.skip); done))) | apply Wk.nilv | apply Wk.last | apply Wk.drop), rfl, rfl⟩
end SC
end Go.Proofs.Ytbmngkdnebklpaa
end
section
/- frames: literals at a step, the clauses of a step, of what comes next, of the resets, of a run: plain words. -/
set_option linter.unusedVariables false
set_option linter.unusedSimpArgs false
namespace Go.Proofs.Ytbmngkdnebklpaa
namespace SC
open Go.Proofs
/-- A circuit's literal at a step. -/
def atM (mx l t : Int) : Int := if l % 2 = 1 then -(if 0 < l / 2 then 1 + t * mx + l / 2 else 1) else if 0 < l / 2 then 1 + t * mx + l / 2 else 1
def gateS (mx t : Int) (x : Tri) : List (List Int) := [[-atM mx x.1 t, atM mx x.2.1 t], [-atM mx x.1 t, atM mx x.2.2 t], [atM mx x.1 t, -atM mx x.2.1 t, -atM mx x.2.2 t]]
def nxtS (mx t : Int) (x : Tri) : List (List Int) := [[-atM mx x.1 (t + 1), atM mx x.2.1 t], [atM mx x.1 (t + 1), -atM mx x.2.1 t]]
def rstS (mx : Int) (x : Tri) : List (List Int) := if x.2.2 = 0 then [[-atM mx x.1 0]] else if x.2.2 = 1 then [[atM mx x.1 0]] else []
def gatesS (c : Circ) (t : Int) : List (List Int) := c.ands.flatMap (gateS c.max t)
def consS (c : Circ) (t : Int) : List (List Int) := c.constraints.map fun l => [atM c.max l t]
def stepS (c : Circ) (t : Int) : List (List Int) := gatesS c t ++ consS c t
def nextS (c : Circ) (t : Int) : List (List Int) := c.latches.flatMap (nxtS c.max t)
def firstS (c : Circ) : List (List Int) := c.latches.flatMap (rstS c.max)
/-- The formula of n + 1 steps. -/
def runS (c : Circ) : Nat → List (List Int)
  | 0 => [-1] :: firstS c ++ stepS c 0
  | n + 1 => runS c n ++ nextS c (n : Int) ++ stepS c ((n : Int) + 1)
theorem atM_le {mx l t : Int} (h0 : 0 ≤ l) (h1 : l ≤ 40000) (h2 : 0 ≤ t * mx) (h3 : t * mx ≤ 10000000) : -10050000 ≤ atM mx l t ∧ atM mx l t ≤ 10050000 := by
  unfold atM
  generalize t * mx = z at *
  split <;> split <;> omega
theorem mul_le {t mx : Int} (h0 : 0 ≤ t) (h1 : t ≤ 600) (h2 : 0 ≤ mx) (h3 : mx ≤ 16384) : 0 ≤ t * mx ∧ t * mx ≤ 10000000 := by
  refine ⟨Int.mul_nonneg h0 h2, ?_⟩
  have := Int.mul_le_mul h1 h3 h2 (by decide : (0 : Int) ≤ 600)
  omega
theorem flat_snoc {α β : Type} [Inhabited α] {f : α → List β} {l : List α} {i : Nat} (h : i < l.length) : (l.take (i + 1)).flatMap f = (l.take i).flatMap f ++ f (gt l (i : Int)) := by
  rw [List.take_succ_eq_append_getElem h, List.flatMap_append, gt_nat h]
  simp
theorem gateS_len {mx t : Int} {x : Tri} : (gateS mx t x).length = 3 := rfl
theorem nxtS_len {mx t : Int} {x : Tri} : (nxtS mx t x).length = 2 := rfl
theorem rstS_len {mx : Int} {x : Tri} : (rstS mx x).length ≤ 1 := by
  unfold rstS
  split
  · exact Nat.le_refl 1
  · split
    · exact Nat.le_refl 1
    · exact Nat.zero_le _
theorem flat_le {α β : Type} {f : α → List β} {k : Nat} (h : ∀ a, (f a).length ≤ k) : ∀ l : List α, (l.flatMap f).length ≤ k * l.length
  | [] => Nat.zero_le _
  | a :: r => by
    have := flat_le h r
    have := h a
    rw [List.flatMap_cons, List.length_append, List.length_cons, Nat.mul_succ]
    omega
theorem flat_eq {α β : Type} {f : α → List β} {k : Nat} (h : ∀ a, (f a).length = k) : ∀ l : List α, (l.flatMap f).length = k * l.length
  | [] => rfl
  | a :: r => by
    have := flat_eq h r
    have := h a
    rw [List.flatMap_cons, List.length_append, List.length_cons, Nat.mul_succ]
    omega
theorem gatesS_len (c : Circ) (t : Int) : (gatesS c t).length = 3 * c.ands.length := flat_eq (fun _ => gateS_len) _
theorem nextS_len (c : Circ) (t : Int) : (nextS c t).length = 2 * c.latches.length := flat_eq (fun _ => nxtS_len) _
theorem firstS_len (c : Circ) : (firstS c).length ≤ c.latches.length := by have := flat_le (fun x => rstS_len (mx := c.max) (x := x)) c.latches; unfold firstS; omega
theorem consS_len (c : Circ) (t : Int) : (consS c t).length = c.constraints.length := List.length_map _
theorem stepS_len (c : Circ) (t : Int) : (stepS c t).length = 3 * c.ands.length + c.constraints.length := by unfold stepS; rw [List.length_append, gatesS_len, consS_len]
/-- Clauses of at most three literals. -/
def Thin (m : List (List Int)) : Prop := ∀ l ∈ m, l.length ≤ 3
theorem Thin.app {a b : List (List Int)} (h : Thin a) (h2 : Thin b) : Thin (a ++ b) := fun l hl => (List.mem_append.1 hl).elim (h l) (h2 l)
theorem Thin.flat {α : Type} {f : α → List (List Int)} (h : ∀ a, Thin (f a)) (l : List α) : Thin (l.flatMap f) := fun x hx => by
  obtain ⟨a, _, ha⟩ := List.mem_flatMap.1 hx
  exact h a x ha
theorem gateS_thin {mx t : Int} {x : Tri} : Thin (gateS mx t x) := fun l hl => by
  unfold gateS at hl
  simp only [List.mem_cons, List.not_mem_nil, or_false] at hl
  rcases hl with rfl | rfl | rfl <;> exact Nat.le_of_ble_eq_true rfl
theorem nxtS_thin {mx t : Int} {x : Tri} : Thin (nxtS mx t x) := fun l hl => by
  unfold nxtS at hl
  simp only [List.mem_cons, List.not_mem_nil, or_false] at hl
  rcases hl with rfl | rfl <;> exact Nat.le_of_ble_eq_true rfl
theorem rstS_thin {mx : Int} {x : Tri} : Thin (rstS mx x) := fun l hl => by
  unfold rstS at hl
  split at hl
  · simp at hl; subst hl; exact Nat.le_of_ble_eq_true rfl
  · split at hl
    · simp at hl; subst hl; exact Nat.le_of_ble_eq_true rfl
    · cases hl
theorem stepS_thin (c : Circ) (t : Int) : Thin (stepS c t) := Thin.app (Thin.flat (fun _ => gateS_thin) _) fun l hl => by
  obtain ⟨x, _, rfl⟩ := List.mem_map.1 hl
  exact Nat.le_of_ble_eq_true rfl
theorem nextS_thin (c : Circ) (t : Int) : Thin (nextS c t) := Thin.flat (fun _ => nxtS_thin) _
theorem firstS_thin (c : Circ) : Thin (firstS c) := Thin.flat (fun _ => rstS_thin) _
theorem runS_thin (c : Circ) : ∀ n, Thin (runS c n)
  | 0 => Thin.app (fun l hl => by
      rcases List.mem_cons.1 hl with rfl | hl
      · exact Nat.le_of_ble_eq_true rfl
      · exact firstS_thin c l hl) (stepS_thin c 0)
  | n + 1 => ((runS_thin c n).app (nextS_thin c _)).app (stepS_thin c _)
theorem runS_len (c : Circ) : ∀ n : Nat, (runS c n).length = 1 + (firstS c).length + (n + 1) * (3 * c.ands.length + c.constraints.length) + n * (2 * c.latches.length)
  | 0 => by
    show ([-1] :: firstS c ++ stepS c 0).length = _
    rw [List.length_append, List.length_cons, stepS_len]
    omega
  | n + 1 => by
    show (runS c n ++ nextS c (n : Int) ++ stepS c ((n : Int) + 1)).length = _
    rw [List.length_append, List.length_append, runS_len c n, nextS_len, stepS_len, Nat.succ_mul (n + 1), Nat.succ_mul n (2 * c.latches.length)]
    omega
/-- What is wrong with a step of that number, so many steps asked for. -/
noncomputable def ftE (c : Circ) (t most n : Int) : Int := if (lookM c).2 ≠ 0 then (lookM c).2 else if t < 0 ∨ most < t then 1 else if 262144 < 1 + n * c.max then 6 else 0
/-- What is wrong with so many steps. -/
noncomputable def vrE (c : Circ) (n : Int) : Int := if (lookM c).2 ≠ 0 then (lookM c).2 else if n < 1 ∨ 512 < n then 1 else if 262144 < 1 + n * c.max then 6 else 0
end SC
end Go.Proofs.Ytbmngkdnebklpaa
end
section
/- Clauses in memory, their rows bound together. -/
set_option linter.unusedVariables false
set_option linter.unusedSimpArgs false
namespace Go.Proofs.Ytbmngkdnebklpaa
namespace SC
open Go.Proofs
def CliR (m : List (List Int)) (v : Value) (N : Mm) : Prop := ∃ ps A k, v = .slice A ps.length k ∧ ps.map (·.2) = m ∧ N = [.vec encS 1 67 A k ps, .any (bun (fam rowJ ps))]
section
variable {Γ Γ' Γ1 Γ2 : Mm}
theorem row_snoc (ps : List (Hdl × List Int)) (x : Hdl × List Int) : Wk [rowL x, .any (bun (fam rowJ ps))] [.any (bun (fam rowJ (ps ++ [x])))] := by
  have := row_in ps [] x
  rw [List.append_nil] at this
  exact this
theorem rows_app (ps qs : List (Hdl × List Int)) : Wk [.any (bun (fam rowJ ps)), .any (bun (fam rowJ qs))] [.any (bun (fam rowJ (ps ++ qs)))] := by
  rw [fam_app]
  refine Wk.trans ?_ bun_in
  refine Wk.trans (Wk.part (C := [.any (bun (fam rowJ qs))]) (Γ1 := [.any (bun (fam rowJ ps))]) (Rems.cons (.there .here) .nil) bun_out bun_out) ?_
  exact .refl
theorem rows_nil : Wk Γ Γ' → Wk Γ (.any (bun (fam rowJ [])) :: Γ') := fun h => ⟨fun w M => (h.mem w M).cons (E := .any (bun (fam rowJ []))) Mem.nil fun k hk => absurd hk owns_nil, fun k hk => by
  rcases owns_cons.1 hk with h1 | h1
  · exact absurd h1 owns_nil
  · exact h.sub k h1⟩
/-- A row more, at the head. -/
theorem Wk.snoc {ps : List (Hdl × List Int)} {x : Hdl × List Int} (h1 : Rem Γ (.any (bun (fam rowJ ps))) Γ1) (h2 : Rem Γ1 (rowL x) Γ2) (h : Wk Γ2 Γ') : Wk Γ (.any (bun (fam rowJ (ps ++ [x]))) :: Γ') := by
  refine Wk.part (C := [.any (bun (fam rowJ ps)), rowL x]) (D := [.any (bun (fam rowJ (ps ++ [x])))]) (Rems.cons h1 (Rems.cons h2 .nil)) ?_ h
  exact (Wk.perm (List.Perm.swap ..)).trans (row_snoc ps x)
theorem Wk.rows {ps qs : List (Hdl × List Int)} (h1 : Rem Γ (.any (bun (fam rowJ ps))) Γ1) (h2 : Rem Γ1 (.any (bun (fam rowJ qs))) Γ2) (h : Wk Γ2 Γ') : Wk Γ (.any (bun (fam rowJ (ps ++ qs))) :: Γ') :=
  Wk.part (C := [.any (bun (fam rowJ ps)), .any (bun (fam rowJ qs))]) (D := [.any (bun (fam rowJ (ps ++ qs)))]) (Rems.cons h1 (Rems.cons h2 .nil)) (rows_app ps qs) h
theorem Wk.add1 {ps : List (Hdl × List Int)} {b k : Nat} {l : List Int} (h0 : Rem Γ (.any (bun (fam rowJ ps))) Γ1) (h1 : Rem Γ1 (.box b 3 (l.flatMap icell)) Γ2) (hk : k = l.length) (hl : l.length ≤ 1000) (h : Wk Γ2 Γ') : Wk Γ (.any (bun (fam rowJ (ps ++ [((some ⟨b, 0, none⟩, k), l)]))) :: Γ') := by
  subst hk
  have e : Wk [.box b 3 (l.flatMap icell)] [rowL ((some ⟨b, 0, none⟩, l.length), l)] := Wk.vec rfl (by unfold maxLen; omega)
  refine Wk.part (C := [.any (bun (fam rowJ ps)), .box b 3 (l.flatMap icell)]) (D := [.any (bun (fam rowJ (ps ++ [((some ⟨b, 0, none⟩, l.length), l)])))]) (Rems.cons h0 (Rems.cons h1 .nil)) ?_ h
  refine Wk.trans ?_ (row_snoc ps ((some ⟨b, 0, none⟩, l.length), l))
  refine (Wk.perm (List.Perm.swap ..)).trans ?_
  exact Wk.part (C := [.box b 3 (l.flatMap icell)]) (D := [rowL ((some ⟨b, 0, none⟩, l.length), l)]) (.cons .here .nil) e .refl
theorem Wk.add2 {Γ3 : Mm} {ps : List (Hdl × List Int)} {b b2 k k2 : Nat} {l l2 : List Int} (h0 : Rem Γ (.any (bun (fam rowJ ps))) Γ1) (h1 : Rem Γ1 (.box b 3 (l.flatMap icell)) Γ2) (h2 : Rem Γ2 (.box b2 3 (l2.flatMap icell)) Γ3) (hk : k = l.length) (hk2 : k2 = l2.length) (hl : l.length ≤ 1000) (hl2 : l2.length ≤ 1000) (h : Wk Γ3 Γ') : Wk Γ (.any (bun (fam rowJ (ps ++ [((some ⟨b, 0, none⟩, k), l), ((some ⟨b2, 0, none⟩, k2), l2)]))) :: Γ') := by
  rw [show ps ++ [((some ⟨b, 0, none⟩, k), l), ((some ⟨b2, 0, none⟩, k2), l2)] = (ps ++ [((some ⟨b, 0, none⟩, k), l)]) ++ [((some ⟨b2, 0, none⟩, k2), l2)] by simp]
  exact (Wk.add1 h0 h1 hk hl .refl).trans (Wk.add1 .here h2 hk2 hl2 h)
theorem Wk.add3 {Γ3 Γ4 : Mm} {ps : List (Hdl × List Int)} {b b2 b3 k k2 k3 : Nat} {l l2 l3 : List Int} (h0 : Rem Γ (.any (bun (fam rowJ ps))) Γ1) (h1 : Rem Γ1 (.box b 3 (l.flatMap icell)) Γ2) (h2 : Rem Γ2 (.box b2 3 (l2.flatMap icell)) Γ3) (h3 : Rem Γ3 (.box b3 3 (l3.flatMap icell)) Γ4) (hk : k = l.length) (hk2 : k2 = l2.length) (hk3 : k3 = l3.length) (hl : l.length ≤ 1000) (hl2 : l2.length ≤ 1000) (hl3 : l3.length ≤ 1000) (h : Wk Γ4 Γ') : Wk Γ (.any (bun (fam rowJ (ps ++ [((some ⟨b, 0, none⟩, k), l), ((some ⟨b2, 0, none⟩, k2), l2), ((some ⟨b3, 0, none⟩, k3), l3)]))) :: Γ') := by
  rw [show ps ++ [((some ⟨b, 0, none⟩, k), l), ((some ⟨b2, 0, none⟩, k2), l2), ((some ⟨b3, 0, none⟩, k3), l3)] = (ps ++ [((some ⟨b, 0, none⟩, k), l), ((some ⟨b2, 0, none⟩, k2), l2)]) ++ [((some ⟨b3, 0, none⟩, k3), l3)] by simp]
  exact (Wk.add2 h0 h1 h2 hk hk2 hl hl2 .refl).trans (Wk.add1 .here h3 hk3 hl3 h)
end
theorem Cli.at {w : World} {A : Option Addr} {k : Nat} {ps : List (Hdl × List Int)} {Γ : Mm} (h1 : In Γ (.vec encS 1 67 A k ps)) (h2 : In Γ (.any (bun (fam rowJ ps)))) (M : Mem w Γ) : CnfAt w A ps := by
  refine ⟨h1.row M, fun p hp => ?_⟩
  have hE := fam_mem (f := rowJ) hp (E := .vec icell 1 3 p.1.1 p.1.2 p.2) (by unfold rowJ; simp)
  exact (In.of hE).row (h2.bun M)
end SC
end Go.Proofs.Ytbmngkdnebklpaa
end
section
/- frames: literals, gates, constraints, next, first, step: the walks. -/
set_option linter.unusedVariables false
set_option linter.unusedSimpArgs false
namespace Go.Proofs.Ytbmngkdnebklpaa
namespace SC
open Go.Proofs
attribute [local irreducible] WC WL WX WS WO OX Does DoesU Enters CV Pure thenQ blockQ retQ Wants retQC GC GL GS GX RdB thenG blockG retG Rd At gt CVN CVM
set_option maxRecDepth 100000
theorem at_cv {w : World} {c : Circ} {h : Hd} {l t : Int} (h0 : 0 ≤ l) (h1 : l ≤ 40000) (h2 : 0 ≤ t * c.max) (h3 : t * c.max ≤ 10000000) : CVN Try.prog 43 [.agg (ccells c h).toArray, nu l, nu t] w fun v N => N = [] ∧ v = nu (atM c.max l t) := by
  refine CVN.enter 25 [6] Try.func43 rfl rfl rfl (by decide) rfl ?_
  by_cases hb : l % 2 = 1
  · by_cases hv : 0 < l / 2
    · have e : atM c.max l t = -(1 + t * c.max + l / 2) := by unfold atM; rw [if_pos hb, if_pos hv]
      rw [e]
      repeat' (first
 | (apply GC_seqK; intro K hK)
 | (apply hK; clear hK K)
 | (apply GC_region)
 | (apply GL_nil)
 | (apply thenG_normal)
 | (apply thenG_ret)
 | (apply GC_ret)
 | (apply GC_if_true; eq_refl)
 | (apply retG1; eq_refl)
 | (apply GL_on; eq_refl; eq_refl)
 | (apply G_pv; eq_refl; first | exact trivial | omega)
 | (apply G_field; eq_refl)
 | (apply G_ld; eq_refl; (repeat first | exact In.here | apply In.there | apply In.skip); eq_refl)
 | (apply G_cmpT; eq_refl; eq_refl; omega)
 | (apply G_neg; eq_refl; omega; omega)
 | (apply G_box; eq_refl; eq_refl; intro _))
      exact ⟨[], (by repeat first | exact Wk.nil | exact Wk.refl | (apply Wk.cons; (focus ((repeat first | exact Rem.here | apply Rem.there | apply Rem.skip); done))) | apply Wk.nilv | apply Wk.last | apply Wk.drop), rfl, rfl⟩
    · have e : atM c.max l t = -1 := by unfold atM; rw [if_pos hb, if_neg hv]
      rw [e]
      repeat' (first
 | (apply GC_seqK; intro K hK)
 | (apply hK; clear hK K)
 | (apply GC_region)
 | (apply GL_nil)
 | (apply thenG_normal)
 | (apply thenG_ret)
 | (apply GC_ret)
 | (apply GC_skip)
 | (apply GC_if_true; eq_refl)
 | (apply GC_if_false; eq_refl)
 | (apply retG1; eq_refl)
 | (apply GL_on; eq_refl; eq_refl)
 | (apply G_pv; eq_refl; first | exact trivial | omega)
 | (apply G_cmpT; eq_refl; eq_refl; omega)
 | (apply G_cmpF; eq_refl; eq_refl; omega)
 | (apply G_neg; eq_refl; omega; omega)
 | (apply G_box; eq_refl; eq_refl; intro _))
      exact ⟨[], (by repeat first | exact Wk.nil | exact Wk.refl | (apply Wk.cons; (focus ((repeat first | exact Rem.here | apply Rem.there | apply Rem.skip); done))) | apply Wk.nilv | apply Wk.last | apply Wk.drop), rfl, rfl⟩
  · by_cases hv : 0 < l / 2
    · have e : atM c.max l t = 1 + t * c.max + l / 2 := by unfold atM; rw [if_neg hb, if_pos hv]
      rw [e]
      repeat' (first
 | (apply GC_seqK; intro K hK)
 | (apply hK; clear hK K)
 | (apply GC_region)
 | (apply GL_nil)
 | (apply thenG_normal)
 | (apply GC_ret)
 | (apply GC_skip)
 | (apply GC_if_true; eq_refl)
 | (apply GC_if_false; eq_refl)
 | (apply retG1; eq_refl)
 | (apply GL_on; eq_refl; eq_refl)
 | (apply G_pv; eq_refl; first | exact trivial | omega)
 | (apply G_field; eq_refl)
 | (apply G_ld; eq_refl; (repeat first | exact In.here | apply In.there | apply In.skip); eq_refl)
 | (apply G_cmpT; eq_refl; eq_refl; omega)
 | (apply G_cmpF; eq_refl; eq_refl; omega)
 | (apply G_box; eq_refl; eq_refl; intro _))
      exact ⟨[], (by repeat first | exact Wk.nil | exact Wk.refl | (apply Wk.cons; (focus ((repeat first | exact Rem.here | apply Rem.there | apply Rem.skip); done))) | apply Wk.nilv | apply Wk.last | apply Wk.drop), rfl, rfl⟩
    · have e : atM c.max l t = 1 := by unfold atM; rw [if_neg hb, if_neg hv]
      rw [e]
      repeat' (first
 | (apply GC_seqK; intro K hK)
 | (apply hK; clear hK K)
 | (apply GC_region)
 | (apply GL_nil)
 | (apply thenG_normal)
 | (apply GC_ret)
 | (apply GC_skip)
 | (apply GC_if_false; eq_refl)
 | (apply retG1; eq_refl)
 | (apply GL_on; eq_refl; eq_refl)
 | (apply G_pv; eq_refl; first | exact trivial | omega)
 | (apply G_cmpF; eq_refl; eq_refl; omega)
 | (apply G_box; eq_refl; eq_refl; intro _))
      exact ⟨[], (by repeat first | exact Wk.nil | exact Wk.refl | (apply Wk.cons; (focus ((repeat first | exact Rem.here | apply Rem.there | apply Rem.skip); done))) | apply Wk.nilv | apply Wk.last | apply Wk.drop), rfl, rfl⟩
theorem gatesS_cv {w : World} {c : Circ} {h js : Hd} {t : Int} (R : Right c) (H : CirAt w c h js) (t0 : 0 ≤ t) (t1 : t ≤ 600) : CVN Try.prog 62 [.agg (ccells c h).toArray, nu t] w (CliR (gatesS c t)) := by
  have hAnd := H.ands
  have m0 := R.m0
  have m1 := R.m1
  have n3 := R.nAnd
  obtain ⟨z0, z1⟩ := mul_le t0 t1 m0 m1
  have hat : ∀ Γ l, inR c l → ∀ w', Mem w' Γ → CVN Try.prog 43 [.agg (ccells c h).toArray, nu l, nu t] w' fun v N => N = [] ∧ v = nu (atM c.max l t) := fun Γ l hl w' M => at_cv hl.1 (by unfold inR at hl; omega) z0 z1
  refine CVN.enter 53 [4] Try.func62 rfl rfl rfl (by decide) rfl ?_
  repeat' (first
 | (apply GC_seqK; intro K hK)
 | (apply hK; clear hK K)
 | (apply GC_block)
 | (apply GC_region)
 | (apply GL_nil)
 | (apply thenG_normal)
 | (apply GL_on; eq_refl; eq_refl)
 | (apply G_pv; eq_refl; first | exact trivial | omega)
 | (apply G_field; eq_refl)
 | (apply G_ld; eq_refl; (repeat first | exact In.here | apply In.there | apply In.skip); eq_refl)
 | (apply G_len; eq_refl)
 | (apply G_box; eq_refl; eq_refl; intro _))
  rename_i b2
  refine GC_loopK [1, 2, 13, 14] (fun s : Nat × List (Hdl × List Int) × Option Addr × Nat => [(5, .slice s.2.2.1 s.2.1.length s.2.2.2), (15, nu s.1)]) (fun s => [.any (bun (fam rowJ s.2.1)), .vec encS 1 67 s.2.2.1 s.2.2.2 s.2.1, .box b2 69 (ccells c h), .old w none_])
    (fun s => s.1 ≤ c.ands.length ∧ s.2.1.map (·.2) = (c.ands.take s.1).flatMap (gateS c.max t)) (fun s => c.ands.length - s.1) (0, [], none, 0) (by repeat first | exact Pick.nil | (apply Pick.cons; eq_refl)) (by repeat first | exact trivial | refine ⟨rfl, ?_⟩) (rows_nil (Wk.nilv (by repeat first | exact Wk.nil | exact Wk.refl | (apply Wk.cons; (focus ((repeat first | exact Rem.here | apply Rem.there | apply Rem.skip); done))) | apply Wk.nilv | apply Wk.last | apply Wk.drop))) ⟨Nat.zero_le _, rfl⟩ ?_
  rintro ⟨i, ps, A, kA⟩ ⟨hi, hps⟩
  dsimp only at hi hps ⊢
  have hpl : ps.length = 3 * i := by
    have := congrArg List.length hps
    rw [List.length_map, flat_eq (fun _ => gateS_len)] at this
    simp only [List.length_take] at this
    omega
  rcases Nat.lt_or_ge i c.ands.length with hlt | hge
  · obtain ⟨g1, g2, g3⟩ := R.gate (gt_mem (l := c.ands) (i := (i : Int)) (by omega) (by omega))
    have g0 : inR c (gt c.ands (i : Int)).1 := g1.in
    have a1 := atM_le (mx := c.max) (t := t) g0.1 (by unfold inR at g0; omega) z0 z1
    have a2 := atM_le (mx := c.max) (t := t) g2.1 (by unfold inR at g2; omega) z0 z1
    have a3 := atM_le (mx := c.max) (t := t) g3.1 (by unfold inR at g3; omega) z0 z1
    have hsn := flat_snoc (f := gateS c.max t) hlt
    repeat' (first
 | (apply G_call; eq_refl; eq_refl; (apply hat; first | exact g0 | exact g2 | exact g3); rintro _ _ ⟨rfl, rfl⟩)
 | (apply G_app (enc := encS); (first | exact wr_p | kernel_rfl); eq_refl; eq_refl; (intro A c; (repeat first | exact Upd.here | apply Upd.there | apply Upd.skip)); infer_instance; (repeat first | exact In.here | apply In.there | apply In.skip); (exact (Dec.c1 (a := ((_, _), [-atM c.max (gt c.ands (i : Int)).1 t, atM c.max (gt c.ands (i : Int)).2.1 t])) rfl (Dec.c1 (a := ((_, _), [-atM c.max (gt c.ands (i : Int)).1 t, atM c.max (gt c.ands (i : Int)).2.2 t])) rfl (Dec.c1 (a := ((_, _), [atM c.max (gt c.ands (i : Int)).1 t, -atM c.max (gt c.ands (i : Int)).2.1 t, -atM c.max (gt c.ands (i : Int)).2.2 t])) rfl Dec.nil)))); eq_refl; eq_refl; eq_refl; (simp only [List.length_cons, List.length_nil]; omega); decide; intro A9 k9)
 | (apply GC_seqK; intro K hK)
 | (apply hK; clear hK K)
 | (apply GC_block)
 | (apply GC_region)
 | (apply GL_nil)
 | (apply thenG_normal)
 | (apply blockG_normal)
 | (apply GC_skip)
 | (apply GC_if_true; eq_refl)
 | (apply GL_on; eq_refl; eq_refl)
 | (refine GC_draws (id := 5) [.q 0, .q 1, .q 2, .q 3, .q 5, .q 6, .q 7, .q 8, .q 10, .q 11, .q 12, .q 13, .c 4, .c 9, .c 14, .q 15, .q 16, .q 17] mixed (by kernel_rfl) (by kernel_rfl) ?_)
 | (apply GS_nil)
 | (apply GS_qon; eq_refl; eq_refl; eq_refl; eq_refl)
 | (apply GS_con; eq_refl; eq_refl; eq_refl; eq_refl)
 | (apply G_pv; eq_refl; first | exact trivial | omega)
 | (apply G_field; eq_refl)
 | (apply G_ld; eq_refl; (repeat first | exact In.here | apply In.there | apply In.skip); eq_refl)
 | (apply G_ldW; eq_refl; (repeat first | exact In.here | apply In.there | apply In.skip); eq_refl)
 | (apply G_rdW; eq_refl; (first | (apply Rd.own; (repeat first | exact In.here | apply In.there | apply In.skip); infer_instance) | (apply Rd.old; (repeat first | exact In.here | apply In.there | apply In.skip); assumption) | (apply Rd.oldR; (repeat first | exact In.here | apply In.there | apply In.skip); assumption) | exact Rd.nil | assumption); infer_instance; (case ih => infer_instance); omega; omega)
 | (apply G_cmpT; eq_refl; eq_refl; omega)
 | (apply G_ix; eq_refl; eq_refl; (first | (apply Rd.own; (repeat first | exact In.here | apply In.there | apply In.skip); infer_instance) | (apply Rd.old; (repeat first | exact In.here | apply In.there | apply In.skip); assumption) | (apply Rd.oldR; (repeat first | exact In.here | apply In.there | apply In.skip); assumption) | exact Rd.nil | assumption); (first | eq_refl | omega); omega; omega)
 | (apply G_neg; eq_refl; omega; omega)
 | (apply G_alloc; eq_refl; intro _)
 | (apply G_stW; (first | exact wr_p | kernel_rfl); eq_refl; eq_refl; eq_refl; eq_refl; (repeat first | exact Upd.here | apply Upd.there | apply Upd.skip); eq_refl)
 | (apply G_new (fun b => .slice (some ⟨b, 0, none⟩) 2 2); eq_refl; (intro _; apply buildS67_2 <;> eq_refl); intro _)
 | (apply G_new (fun b => .slice (some ⟨b, 0, none⟩) 3 3); eq_refl; (intro _; apply buildS67_3 <;> eq_refl); intro _)
 | (apply G_new (fun b => .slice (some ⟨b, 0, none⟩) 3 3); eq_refl; (intro _; apply buildS32_3 <;> eq_refl); intro _))
    rename_i b7 c1 c2 c3 c4
    refine ⟨(i + 1, ps ++ [((some ⟨c1, 0, none⟩, 2), [-atM c.max (gt c.ands (i : Int)).1 t, atM c.max (gt c.ands (i : Int)).2.1 t]), ((some ⟨c2, 0, none⟩, 2), [-atM c.max (gt c.ands (i : Int)).1 t, atM c.max (gt c.ands (i : Int)).2.2 t]), ((some ⟨c3, 0, none⟩, 3), [atM c.max (gt c.ands (i : Int)).1 t, -atM c.max (gt c.ands (i : Int)).2.1 t, -atM c.max (gt c.ands (i : Int)).2.2 t])], A9, k9), (by repeat first | exact trivial | refine ⟨rfl, ?_⟩), (by dsimp only; exact Wk.add3 (by repeat first | exact Rem.here | apply Rem.there | apply Rem.skip) (by repeat first | exact Rem.here | apply Rem.there | apply Rem.skip) (by repeat first | exact Rem.here | apply Rem.there | apply Rem.skip) (by repeat first | exact Rem.here | apply Rem.there | apply Rem.skip) rfl rfl rfl (Nat.le_of_ble_eq_true rfl) (Nat.le_of_ble_eq_true rfl) (Nat.le_of_ble_eq_true rfl) (by repeat first | exact Wk.nil | exact Wk.refl | (apply Wk.cons; (focus ((repeat first | exact Rem.here | apply Rem.there | apply Rem.skip); done))) | apply Wk.nilv | apply Wk.last | apply Wk.drop)), ⟨hlt, ?_⟩, by simp only; omega⟩
    simp only
    rw [hsn, List.map_append, hps]
    rfl
  · obtain rfl : i = c.ands.length := by omega
    rw [List.take_length] at hps
    repeat' (first
 | (apply GC_seqK; intro K hK)
 | (apply hK; clear hK K)
 | (clear hK K; apply hK; clear hK K)
 | (apply GC_region)
 | (apply GL_nil)
 | (apply thenG_normal)
 | (apply thenG_exit)
 | (apply blockG_hit)
 | (apply GC_ret)
 | (apply GC_exit)
 | (apply GC_if_false; eq_refl)
 | (apply retG1; eq_refl)
 | (apply GL_on; eq_refl; eq_refl)
 | (apply G_pv; eq_refl; first | exact trivial | omega)
 | (apply G_cmpF; eq_refl; eq_refl; omega))
    exact ⟨[.vec encS 1 67 A kA ps, .any (bun (fam rowJ ps))], (by repeat first | exact Wk.nil | exact Wk.refl | (apply Wk.cons; (focus ((repeat first | exact Rem.here | apply Rem.there | apply Rem.skip); done))) | apply Wk.nilv | apply Wk.last | apply Wk.drop), ps, A, kA, rfl, hps, rfl⟩
theorem consS_cv {w : World} {c : Circ} {h js : Hd} {t : Int} (R : Right c) (H : CirAt w c h js) (t0 : 0 ≤ t) (t1 : t ≤ 600) : CVN Try.prog 63 [.agg (ccells c h).toArray, nu t] w (CliR (consS c t)) := by
  have hCon := H.constraints
  have m0 := R.m0
  have m1 := R.m1
  have n3 := R.nCon
  obtain ⟨z0, z1⟩ := mul_le t0 t1 m0 m1
  have hat : ∀ Γ l, inR c l → ∀ w', Mem w' Γ → CVN Try.prog 43 [.agg (ccells c h).toArray, nu l, nu t] w' fun v N => N = [] ∧ v = nu (atM c.max l t) := fun Γ l hl w' M => at_cv hl.1 (by unfold inR at hl; omega) z0 z1
  refine CVN.enter 26 [4] Try.func63 rfl rfl rfl (by decide) rfl ?_
  repeat' (first
 | (apply GC_seqK; intro K hK)
 | (apply hK; clear hK K)
 | (apply GC_block)
 | (apply GC_region)
 | (apply GL_nil)
 | (apply thenG_normal)
 | (apply GL_on; eq_refl; eq_refl)
 | (apply G_pv; eq_refl; first | exact trivial | omega)
 | (apply G_field; eq_refl)
 | (apply G_ld; eq_refl; (repeat first | exact In.here | apply In.there | apply In.skip); eq_refl)
 | (apply G_len; eq_refl)
 | (apply G_box; eq_refl; eq_refl; intro _))
  rename_i b2
  refine GC_loopK [1, 2, 10, 11] (fun s : Nat × List (Hdl × List Int) × Option Addr × Nat => [(5, .slice s.2.2.1 s.2.1.length s.2.2.2), (12, nu s.1)]) (fun s => [.any (bun (fam rowJ s.2.1)), .vec encS 1 67 s.2.2.1 s.2.2.2 s.2.1, .box b2 69 (ccells c h), .old w none_])
    (fun s => s.1 ≤ c.constraints.length ∧ s.2.1.map (·.2) = (c.constraints.take s.1).map fun l => [atM c.max l t]) (fun s => c.constraints.length - s.1) (0, [], none, 0) (by repeat first | exact Pick.nil | (apply Pick.cons; eq_refl)) (by repeat first | exact trivial | refine ⟨rfl, ?_⟩) (rows_nil (Wk.nilv (by repeat first | exact Wk.nil | exact Wk.refl | (apply Wk.cons; (focus ((repeat first | exact Rem.here | apply Rem.there | apply Rem.skip); done))) | apply Wk.nilv | apply Wk.last | apply Wk.drop))) ⟨Nat.zero_le _, rfl⟩ ?_
  rintro ⟨i, ps, A, kA⟩ ⟨hi, hps⟩
  dsimp only at hi hps ⊢
  have hpl : ps.length = i := by
    have := congrArg List.length hps
    simp only [List.length_map, List.length_take] at this
    omega
  rcases Nat.lt_or_ge i c.constraints.length with hlt | hge
  · have g0 := R.con (gt_mem (l := c.constraints) (i := (i : Int)) (by omega) (by omega))
    have a1 := atM_le (mx := c.max) (t := t) g0.1 (by unfold inR at g0; omega) z0 z1
    repeat' (first
 | (apply G_call; eq_refl; eq_refl; (apply hat; exact g0); rintro _ _ ⟨rfl, rfl⟩)
 | (apply G_app (enc := encS); (first | exact wr_p | kernel_rfl); eq_refl; eq_refl; (intro A c; (repeat first | exact Upd.here | apply Upd.there | apply Upd.skip)); infer_instance; (repeat first | exact In.here | apply In.there | apply In.skip); (exact (Dec.c1 (a := ((_, _), [atM c.max (gt c.constraints (i : Int)) t])) rfl Dec.nil)); eq_refl; eq_refl; eq_refl; (simp only [List.length_cons, List.length_nil]; omega); decide; intro A9 k9)
 | (apply GC_seqK; intro K hK)
 | (apply hK; clear hK K)
 | (apply GC_block)
 | (apply GC_region)
 | (apply GL_nil)
 | (apply thenG_normal)
 | (apply blockG_normal)
 | (apply GC_skip)
 | (apply GC_if_true; eq_refl)
 | (apply GL_on; eq_refl; eq_refl)
 | (apply G_pv; eq_refl; first | exact trivial | omega)
 | (apply G_ldW; eq_refl; (repeat first | exact In.here | apply In.there | apply In.skip); eq_refl)
 | (apply G_rd; eq_refl; (first | (apply Rd.own; (repeat first | exact In.here | apply In.there | apply In.skip); infer_instance) | (apply Rd.old; (repeat first | exact In.here | apply In.there | apply In.skip); assumption) | (apply Rd.oldR; (repeat first | exact In.here | apply In.there | apply In.skip); assumption) | exact Rd.nil | assumption); (case ih => infer_instance); omega; omega; eq_refl)
 | (apply G_cmpT; eq_refl; eq_refl; omega)
 | (apply G_ix; eq_refl; eq_refl; (first | (apply Rd.own; (repeat first | exact In.here | apply In.there | apply In.skip); infer_instance) | (apply Rd.old; (repeat first | exact In.here | apply In.there | apply In.skip); assumption) | (apply Rd.oldR; (repeat first | exact In.here | apply In.there | apply In.skip); assumption) | exact Rd.nil | assumption); (first | eq_refl | omega); omega; omega)
 | (apply G_new (fun b => .slice (some ⟨b, 0, none⟩) 1 1); eq_refl; (intro _; apply buildS67_1 <;> eq_refl); intro _)
 | (apply G_new (fun b => .slice (some ⟨b, 0, none⟩) 1 1); eq_refl; (intro _; apply buildS32_1 <;> eq_refl); intro _))
    rename_i c1 c4
    refine ⟨(i + 1, ps ++ [((some ⟨c1, 0, none⟩, 1), [atM c.max (gt c.constraints (i : Int)) t])], A9, k9), (by repeat first | exact trivial | refine ⟨rfl, ?_⟩), (by dsimp only; exact Wk.add1 (by repeat first | exact Rem.here | apply Rem.there | apply Rem.skip) (by repeat first | exact Rem.here | apply Rem.there | apply Rem.skip) rfl (Nat.le_of_ble_eq_true rfl) (by repeat first | exact Wk.nil | exact Wk.refl | (apply Wk.cons; (focus ((repeat first | exact Rem.here | apply Rem.there | apply Rem.skip); done))) | apply Wk.nilv | apply Wk.last | apply Wk.drop)), ⟨hlt, ?_⟩, by simp only; omega⟩
    simp only
    rw [List.take_succ_eq_append_getElem hlt, List.map_append, List.map_append, hps, ← gt_nat hlt]
    rfl
  · obtain rfl : i = c.constraints.length := by omega
    rw [List.take_length] at hps
    repeat' (first
 | (apply GC_seqK; intro K hK)
 | (apply hK; clear hK K)
 | (clear hK K; apply hK; clear hK K)
 | (apply GC_region)
 | (apply GL_nil)
 | (apply thenG_normal)
 | (apply thenG_exit)
 | (apply blockG_hit)
 | (apply GC_ret)
 | (apply GC_exit)
 | (apply GC_if_false; eq_refl)
 | (apply retG1; eq_refl)
 | (apply GL_on; eq_refl; eq_refl)
 | (apply G_pv; eq_refl; first | exact trivial | omega)
 | (apply G_cmpF; eq_refl; eq_refl; omega))
    exact ⟨[.vec encS 1 67 A kA ps, .any (bun (fam rowJ ps))], (by repeat first | exact Wk.nil | exact Wk.refl | (apply Wk.cons; (focus ((repeat first | exact Rem.here | apply Rem.there | apply Rem.skip); done))) | apply Wk.nilv | apply Wk.last | apply Wk.drop), ps, A, kA, rfl, hps, rfl⟩
theorem nextS_cv {w : World} {c : Circ} {h js : Hd} {t : Int} (R : Right c) (H : CirAt w c h js) (t0 : 0 ≤ t) (t1 : t ≤ 599) : CVN Try.prog 35 [.agg (ccells c h).toArray, nu t] w (CliR (nextS c t)) := by
  have hLat := H.latches
  have m0 := R.m0
  have m1 := R.m1
  have n3 := R.nLat
  obtain ⟨z0, z1⟩ := mul_le t0 (by omega : t ≤ 600) m0 m1
  obtain ⟨y0, y1⟩ := mul_le (by omega : 0 ≤ t + 1) (by omega : t + 1 ≤ 600) m0 m1
  have hat : ∀ Γ l, inR c l → ∀ w', Mem w' Γ → CVN Try.prog 43 [.agg (ccells c h).toArray, nu l, nu t] w' fun v N => N = [] ∧ v = nu (atM c.max l t) := fun Γ l hl w' M => at_cv hl.1 (by unfold inR at hl; omega) z0 z1
  have hat2 : ∀ Γ l, inR c l → ∀ w', Mem w' Γ → CVN Try.prog 43 [.agg (ccells c h).toArray, nu l, nu (t + 1)] w' fun v N => N = [] ∧ v = nu (atM c.max l (t + 1)) := fun Γ l hl w' M => at_cv hl.1 (by unfold inR at hl; omega) y0 y1
  refine CVN.enter 42 [4] Try.func35 rfl rfl rfl (by decide) rfl ?_
  repeat' (first
 | (apply GC_seqK; intro K hK)
 | (apply hK; clear hK K)
 | (apply GC_block)
 | (apply GC_region)
 | (apply GL_nil)
 | (apply thenG_normal)
 | (apply GL_on; eq_refl; eq_refl)
 | (apply G_pv; eq_refl; first | exact trivial | omega)
 | (apply G_field; eq_refl)
 | (apply G_ld; eq_refl; (repeat first | exact In.here | apply In.there | apply In.skip); eq_refl)
 | (apply G_len; eq_refl)
 | (apply G_box; eq_refl; eq_refl; intro _))
  rename_i b2
  refine GC_loopK [1, 2, 12, 13] (fun s : Nat × List (Hdl × List Int) × Option Addr × Nat => [(5, .slice s.2.2.1 s.2.1.length s.2.2.2), (14, nu s.1)]) (fun s => [.any (bun (fam rowJ s.2.1)), .vec encS 1 67 s.2.2.1 s.2.2.2 s.2.1, .box b2 69 (ccells c h), .old w none_])
    (fun s => s.1 ≤ c.latches.length ∧ s.2.1.map (·.2) = (c.latches.take s.1).flatMap (nxtS c.max t)) (fun s => c.latches.length - s.1) (0, [], none, 0) (by repeat first | exact Pick.nil | (apply Pick.cons; eq_refl)) (by repeat first | exact trivial | refine ⟨rfl, ?_⟩) (rows_nil (Wk.nilv (by repeat first | exact Wk.nil | exact Wk.refl | (apply Wk.cons; (focus ((repeat first | exact Rem.here | apply Rem.there | apply Rem.skip); done))) | apply Wk.nilv | apply Wk.last | apply Wk.drop))) ⟨Nat.zero_le _, rfl⟩ ?_
  rintro ⟨i, ps, A, kA⟩ ⟨hi, hps⟩
  dsimp only at hi hps ⊢
  have hpl : ps.length = 2 * i := by
    have := congrArg List.length hps
    rw [List.length_map, flat_eq (fun _ => nxtS_len)] at this
    simp only [List.length_take] at this
    omega
  rcases Nat.lt_or_ge i c.latches.length with hlt | hge
  · obtain ⟨g1, g2, _⟩ := R.lat (gt_mem (l := c.latches) (i := (i : Int)) (by omega) (by omega))
    have g0 : inR c (gt c.latches (i : Int)).1 := g1.in
    have a1 := atM_le (mx := c.max) (t := t + 1) g0.1 (by unfold inR at g0; omega) y0 y1
    have a2 := atM_le (mx := c.max) (t := t) g2.1 (by unfold inR at g2; omega) z0 z1
    have hsn := flat_snoc (f := nxtS c.max t) hlt
    repeat' (first
 | (apply G_call; eq_refl; eq_refl; (first | (apply hat; first | exact g0 | exact g2) | (apply hat2; first | exact g0 | exact g2)); rintro _ _ ⟨rfl, rfl⟩)
 | (apply G_app (enc := encS); (first | exact wr_p | kernel_rfl); eq_refl; eq_refl; (intro A c; (repeat first | exact Upd.here | apply Upd.there | apply Upd.skip)); infer_instance; (repeat first | exact In.here | apply In.there | apply In.skip); (exact (Dec.c1 (a := ((_, _), [-atM c.max (gt c.latches (i : Int)).1 (t + 1), atM c.max (gt c.latches (i : Int)).2.1 t])) rfl (Dec.c1 (a := ((_, _), [atM c.max (gt c.latches (i : Int)).1 (t + 1), -atM c.max (gt c.latches (i : Int)).2.1 t])) rfl Dec.nil))); eq_refl; eq_refl; eq_refl; (simp only [List.length_cons, List.length_nil]; omega); decide; intro A9 k9)
 | (apply GC_seqK; intro K hK)
 | (apply hK; clear hK K)
 | (apply GC_block)
 | (apply GC_region)
 | (apply GL_nil)
 | (apply thenG_normal)
 | (apply blockG_normal)
 | (apply GC_skip)
 | (apply GC_if_true; eq_refl)
 | (apply GL_on; eq_refl; eq_refl)
 | (refine GC_draws (id := 5) [.q 0, .q 1, .q 2, .q 3, .q 4, .q 6, .q 7, .q 8, .q 9, .c 5, .c 10, .q 11, .q 12] mixed (by kernel_rfl) (by kernel_rfl) ?_)
 | (apply GS_nil)
 | (apply GS_qon; eq_refl; eq_refl; eq_refl; eq_refl)
 | (apply GS_con; eq_refl; eq_refl; eq_refl; eq_refl)
 | (apply G_pv; eq_refl; first | exact trivial | omega)
 | (apply G_field; eq_refl)
 | (apply G_ld; eq_refl; (repeat first | exact In.here | apply In.there | apply In.skip); eq_refl)
 | (apply G_ldW; eq_refl; (repeat first | exact In.here | apply In.there | apply In.skip); eq_refl)
 | (apply G_rdW; eq_refl; (first | (apply Rd.own; (repeat first | exact In.here | apply In.there | apply In.skip); infer_instance) | (apply Rd.old; (repeat first | exact In.here | apply In.there | apply In.skip); assumption) | (apply Rd.oldR; (repeat first | exact In.here | apply In.there | apply In.skip); assumption) | exact Rd.nil | assumption); infer_instance; (case ih => infer_instance); omega; omega)
 | (apply G_cmpT; eq_refl; eq_refl; omega)
 | (apply G_ix; eq_refl; eq_refl; (first | (apply Rd.own; (repeat first | exact In.here | apply In.there | apply In.skip); infer_instance) | (apply Rd.old; (repeat first | exact In.here | apply In.there | apply In.skip); assumption) | (apply Rd.oldR; (repeat first | exact In.here | apply In.there | apply In.skip); assumption) | exact Rd.nil | assumption); (first | eq_refl | omega); omega; omega)
 | (apply G_neg; eq_refl; omega; omega)
 | (apply G_alloc; eq_refl; intro _)
 | (apply G_stW; (first | exact wr_p | kernel_rfl); eq_refl; eq_refl; eq_refl; eq_refl; (repeat first | exact Upd.here | apply Upd.there | apply Upd.skip); eq_refl)
 | (apply G_new (fun b => .slice (some ⟨b, 0, none⟩) 2 2); eq_refl; (intro _; apply buildS67_2 <;> eq_refl); intro _)
 | (apply G_new (fun b => .slice (some ⟨b, 0, none⟩) 2 2); eq_refl; (intro _; apply buildS32_2 <;> eq_refl); intro _))
    rename_i b7 c1 c2 c4
    refine ⟨(i + 1, ps ++ [((some ⟨c1, 0, none⟩, 2), [-atM c.max (gt c.latches (i : Int)).1 (t + 1), atM c.max (gt c.latches (i : Int)).2.1 t]), ((some ⟨c2, 0, none⟩, 2), [atM c.max (gt c.latches (i : Int)).1 (t + 1), -atM c.max (gt c.latches (i : Int)).2.1 t])], A9, k9), (by repeat first | exact trivial | refine ⟨rfl, ?_⟩), (by dsimp only; exact Wk.add2 (by repeat first | exact Rem.here | apply Rem.there | apply Rem.skip) (by repeat first | exact Rem.here | apply Rem.there | apply Rem.skip) (by repeat first | exact Rem.here | apply Rem.there | apply Rem.skip) rfl rfl (Nat.le_of_ble_eq_true rfl) (Nat.le_of_ble_eq_true rfl) (by repeat first | exact Wk.nil | exact Wk.refl | (apply Wk.cons; (focus ((repeat first | exact Rem.here | apply Rem.there | apply Rem.skip); done))) | apply Wk.nilv | apply Wk.last | apply Wk.drop)), ⟨hlt, ?_⟩, by simp only; omega⟩
    simp only
    rw [hsn, List.map_append, hps]
    rfl
  · obtain rfl : i = c.latches.length := by omega
    rw [List.take_length] at hps
    repeat' (first
 | (apply GC_seqK; intro K hK)
 | (apply hK; clear hK K)
 | (clear hK K; apply hK; clear hK K)
 | (apply GC_region)
 | (apply GL_nil)
 | (apply thenG_normal)
 | (apply thenG_exit)
 | (apply blockG_hit)
 | (apply GC_ret)
 | (apply GC_exit)
 | (apply GC_if_false; eq_refl)
 | (apply retG1; eq_refl)
 | (apply GL_on; eq_refl; eq_refl)
 | (apply G_pv; eq_refl; first | exact trivial | omega)
 | (apply G_cmpF; eq_refl; eq_refl; omega))
    exact ⟨[.vec encS 1 67 A kA ps, .any (bun (fam rowJ ps))], (by repeat first | exact Wk.nil | exact Wk.refl | (apply Wk.cons; (focus ((repeat first | exact Rem.here | apply Rem.there | apply Rem.skip); done))) | apply Wk.nilv | apply Wk.last | apply Wk.drop), ps, A, kA, rfl, hps, rfl⟩
theorem atM_or {mx l : Int} (h : l % 2 = 0) : atM mx (l + 1) 0 = -atM mx l 0 := by
  unfold atM
  rw [if_pos (by omega), if_neg (by omega : ¬ l % 2 = 1), show (l + 1) / 2 = l / 2 by omega]
theorem firstS_cv {w : World} {c : Circ} {h js : Hd} (R : Right c) (H : CirAt w c h js) : CVN Try.prog 33 [.agg (ccells c h).toArray] w (CliR (firstS c)) := by
  have hLat := H.latches
  have m0 := R.m0
  have m1 := R.m1
  have n3 := R.nLat
  have hat : ∀ Γ l, 0 ≤ l → l ≤ 40000 → ∀ w', Mem w' Γ → CVN Try.prog 43 [.agg (ccells c h).toArray, nu l, nu 0] w' fun v N => N = [] ∧ v = nu (atM c.max l 0) := fun Γ l h0 h1 w' M => at_cv h0 h1 (by omega) (by omega)
  refine CVN.enter 31 [2] Try.func33 rfl rfl rfl (by decide) rfl ?_
  repeat' (first
 | (apply GC_seqK; intro K hK)
 | (apply hK; clear hK K)
 | (apply GC_block)
 | (apply GC_region)
 | (apply GL_nil)
 | (apply thenG_normal)
 | (apply GL_on; eq_refl; eq_refl)
 | (apply G_pv; eq_refl; first | exact trivial | omega)
 | (apply G_field; eq_refl)
 | (apply G_ld; eq_refl; (repeat first | exact In.here | apply In.there | apply In.skip); eq_refl)
 | (apply G_len; eq_refl)
 | (apply G_box; eq_refl; eq_refl; intro _))
  rename_i b2
  refine GC_loopK [1, 8, 9] (fun s : Nat × List (Hdl × List Int) × Option Addr × Nat => [(3, .slice s.2.2.1 s.2.1.length s.2.2.2), (10, nu s.1)]) (fun s => [.any (bun (fam rowJ s.2.1)), .vec encS 1 67 s.2.2.1 s.2.2.2 s.2.1, .box b2 69 (ccells c h), .old w none_])
    (fun s => s.1 ≤ c.latches.length ∧ s.2.1.map (·.2) = (c.latches.take s.1).flatMap (rstS c.max)) (fun s => c.latches.length - s.1) (0, [], none, 0) (by repeat first | exact Pick.nil | (apply Pick.cons; eq_refl)) (by repeat first | exact trivial | refine ⟨rfl, ?_⟩) (rows_nil (Wk.nilv (by repeat first | exact Wk.nil | exact Wk.refl | (apply Wk.cons; (focus ((repeat first | exact Rem.here | apply Rem.there | apply Rem.skip); done))) | apply Wk.nilv | apply Wk.last | apply Wk.drop))) ⟨Nat.zero_le _, rfl⟩ ?_
  rintro ⟨i, ps, A, kA⟩ ⟨hi, hps⟩
  dsimp only at hi hps ⊢
  have hpl : ps.length ≤ i := by
    have h1 := congrArg List.length hps
    have h2 := flat_le (f := rstS c.max) (fun _ => rstS_len) (c.latches.take i)
    rw [List.length_map] at h1
    simp only [List.length_take] at h2
    omega
  rcases Nat.lt_or_ge i c.latches.length with hlt | hge
  · obtain ⟨g1, g2, g3⟩ := R.lat (gt_mem (l := c.latches) (i := (i : Int)) (by omega) (by omega))
    unfold defR at g1
    have hsn := flat_snoc (f := rstS c.max) hlt
    have hor : atM c.max ((gt c.latches (i : Int)).1 + 1) 0 = -atM c.max (gt c.latches (i : Int)).1 0 := atM_or g1.2.2
    by_cases hr : (gt c.latches (i : Int)).2.2 < 2
    · by_cases h0 : (gt c.latches (i : Int)).2.2 = 0
      · have er : rstS c.max (gt c.latches (i : Int)) = [[-atM c.max (gt c.latches (i : Int)).1 0]] := if_pos h0
        have ha : ∀ Γ, ∀ w', Mem w' Γ → CVN Try.prog 43 [.agg (ccells c h).toArray, nu ((gt c.latches (i : Int)).1 + (1 - (gt c.latches (i : Int)).2.2)), nu 0] w' fun v N => N = [] ∧ v = nu (-atM c.max (gt c.latches (i : Int)).1 0) := fun Γ w' M => by
          have := hat Γ ((gt c.latches (i : Int)).1 + (1 - (gt c.latches (i : Int)).2.2)) (by omega) (by omega) w' M
          rw [show (gt c.latches (i : Int)).1 + (1 - (gt c.latches (i : Int)).2.2) = (gt c.latches (i : Int)).1 + 1 by omega, hor] at this
          rw [show (gt c.latches (i : Int)).1 + (1 - (gt c.latches (i : Int)).2.2) = (gt c.latches (i : Int)).1 + 1 by omega]
          exact this
        repeat' (first
 | (apply G_call; eq_refl; eq_refl; (apply ha); rintro _ _ ⟨rfl, rfl⟩)
 | (apply GX_pure; apply p_or01; eq_refl; eq_refl; omega; omega; omega; omega; omega)
 | (apply G_app (enc := encS); (first | exact wr_p | kernel_rfl); eq_refl; eq_refl; (intro A c; (repeat first | exact Upd.here | apply Upd.there | apply Upd.skip)); infer_instance; (repeat first | exact In.here | apply In.there | apply In.skip); (exact (Dec.c1 (a := ((_, _), [-atM c.max (gt c.latches (i : Int)).1 0])) rfl Dec.nil)); eq_refl; eq_refl; eq_refl; (simp only [List.length_cons, List.length_nil]; omega); decide; intro A9 k9)
 | (apply GC_seqK; intro K hK)
 | (apply hK; clear hK K)
 | (apply GC_block)
 | (apply GC_region)
 | (apply GL_nil)
 | (apply thenG_normal)
 | (apply blockG_normal)
 | (apply GC_skip)
 | (apply GC_if_true; eq_refl)
 | (apply GL_on; eq_refl; eq_refl)
 | (apply G_pv; eq_refl; first | exact trivial | omega)
 | (apply G_field; eq_refl)
 | (apply G_ld; eq_refl; (repeat first | exact In.here | apply In.there | apply In.skip); eq_refl)
 | (apply G_ldW; eq_refl; (repeat first | exact In.here | apply In.there | apply In.skip); eq_refl)
 | (apply G_rdW; eq_refl; (first | (apply Rd.own; (repeat first | exact In.here | apply In.there | apply In.skip); infer_instance) | (apply Rd.old; (repeat first | exact In.here | apply In.there | apply In.skip); assumption) | (apply Rd.oldR; (repeat first | exact In.here | apply In.there | apply In.skip); assumption) | exact Rd.nil | assumption); infer_instance; (case ih => infer_instance); omega; omega)
 | (apply G_cmpT; eq_refl; eq_refl; omega)
 | (apply G_ix; eq_refl; eq_refl; (first | (apply Rd.own; (repeat first | exact In.here | apply In.there | apply In.skip); infer_instance) | (apply Rd.old; (repeat first | exact In.here | apply In.there | apply In.skip); assumption) | (apply Rd.oldR; (repeat first | exact In.here | apply In.there | apply In.skip); assumption) | exact Rd.nil | assumption); (first | eq_refl | omega); omega; omega)
 | (apply G_alloc; eq_refl; intro _)
 | (apply G_stW; (first | exact wr_p | kernel_rfl); eq_refl; eq_refl; eq_refl; eq_refl; (repeat first | exact Upd.here | apply Upd.there | apply Upd.skip); eq_refl)
 | (apply G_new (fun b => .slice (some ⟨b, 0, none⟩) 1 1); eq_refl; (intro _; apply buildS67_1 <;> eq_refl); intro _)
 | (apply G_new (fun b => .slice (some ⟨b, 0, none⟩) 1 1); eq_refl; (intro _; apply buildS32_1 <;> eq_refl); intro _))
        rename_i b5 c1 c4
        refine ⟨(i + 1, ps ++ [((some ⟨c1, 0, none⟩, 1), [-atM c.max (gt c.latches (i : Int)).1 0])], A9, k9), (by repeat first | exact trivial | refine ⟨rfl, ?_⟩), (by dsimp only; exact Wk.add1 (by repeat first | exact Rem.here | apply Rem.there | apply Rem.skip) (by repeat first | exact Rem.here | apply Rem.there | apply Rem.skip) rfl (Nat.le_of_ble_eq_true rfl) (by repeat first | exact Wk.nil | exact Wk.refl | (apply Wk.cons; (focus ((repeat first | exact Rem.here | apply Rem.there | apply Rem.skip); done))) | apply Wk.nilv | apply Wk.last | apply Wk.drop)), ⟨hlt, ?_⟩, by simp only; omega⟩
        simp only
        rw [hsn, List.map_append, hps, er]
        rfl
      · have h1 : (gt c.latches (i : Int)).2.2 = 1 := by omega
        have er : rstS c.max (gt c.latches (i : Int)) = [[atM c.max (gt c.latches (i : Int)).1 0]] := by
          unfold rstS
          rw [if_neg h0, if_pos h1]
        have ha : ∀ Γ, ∀ w', Mem w' Γ → CVN Try.prog 43 [.agg (ccells c h).toArray, nu ((gt c.latches (i : Int)).1 + (1 - (gt c.latches (i : Int)).2.2)), nu 0] w' fun v N => N = [] ∧ v = nu (atM c.max (gt c.latches (i : Int)).1 0) := fun Γ w' M => by
          have := hat Γ ((gt c.latches (i : Int)).1 + (1 - (gt c.latches (i : Int)).2.2)) (by omega) (by omega) w' M
          rw [show (gt c.latches (i : Int)).1 + (1 - (gt c.latches (i : Int)).2.2) = (gt c.latches (i : Int)).1 by omega] at this
          rw [show (gt c.latches (i : Int)).1 + (1 - (gt c.latches (i : Int)).2.2) = (gt c.latches (i : Int)).1 by omega]
          exact this
        repeat' (first
 | (apply G_call; eq_refl; eq_refl; (apply ha); rintro _ _ ⟨rfl, rfl⟩)
 | (apply GX_pure; apply p_or01; eq_refl; eq_refl; omega; omega; omega; omega; omega)
 | (apply G_app (enc := encS); (first | exact wr_p | kernel_rfl); eq_refl; eq_refl; (intro A c; (repeat first | exact Upd.here | apply Upd.there | apply Upd.skip)); infer_instance; (repeat first | exact In.here | apply In.there | apply In.skip); (exact (Dec.c1 (a := ((_, _), [atM c.max (gt c.latches (i : Int)).1 0])) rfl Dec.nil)); eq_refl; eq_refl; eq_refl; (simp only [List.length_cons, List.length_nil]; omega); decide; intro A9 k9)
 | (apply GC_seqK; intro K hK)
 | (apply hK; clear hK K)
 | (apply GC_block)
 | (apply GC_region)
 | (apply GL_nil)
 | (apply thenG_normal)
 | (apply blockG_normal)
 | (apply GC_skip)
 | (apply GC_if_true; eq_refl)
 | (apply GL_on; eq_refl; eq_refl)
 | (apply G_pv; eq_refl; first | exact trivial | omega)
 | (apply G_field; eq_refl)
 | (apply G_ld; eq_refl; (repeat first | exact In.here | apply In.there | apply In.skip); eq_refl)
 | (apply G_ldW; eq_refl; (repeat first | exact In.here | apply In.there | apply In.skip); eq_refl)
 | (apply G_rdW; eq_refl; (first | (apply Rd.own; (repeat first | exact In.here | apply In.there | apply In.skip); infer_instance) | (apply Rd.old; (repeat first | exact In.here | apply In.there | apply In.skip); assumption) | (apply Rd.oldR; (repeat first | exact In.here | apply In.there | apply In.skip); assumption) | exact Rd.nil | assumption); infer_instance; (case ih => infer_instance); omega; omega)
 | (apply G_cmpT; eq_refl; eq_refl; omega)
 | (apply G_ix; eq_refl; eq_refl; (first | (apply Rd.own; (repeat first | exact In.here | apply In.there | apply In.skip); infer_instance) | (apply Rd.old; (repeat first | exact In.here | apply In.there | apply In.skip); assumption) | (apply Rd.oldR; (repeat first | exact In.here | apply In.there | apply In.skip); assumption) | exact Rd.nil | assumption); (first | eq_refl | omega); omega; omega)
 | (apply G_alloc; eq_refl; intro _)
 | (apply G_stW; (first | exact wr_p | kernel_rfl); eq_refl; eq_refl; eq_refl; eq_refl; (repeat first | exact Upd.here | apply Upd.there | apply Upd.skip); eq_refl)
 | (apply G_new (fun b => .slice (some ⟨b, 0, none⟩) 1 1); eq_refl; (intro _; apply buildS67_1 <;> eq_refl); intro _)
 | (apply G_new (fun b => .slice (some ⟨b, 0, none⟩) 1 1); eq_refl; (intro _; apply buildS32_1 <;> eq_refl); intro _))
        rename_i b5 c1 c4
        refine ⟨(i + 1, ps ++ [((some ⟨c1, 0, none⟩, 1), [atM c.max (gt c.latches (i : Int)).1 0])], A9, k9), (by repeat first | exact trivial | refine ⟨rfl, ?_⟩), (by dsimp only; exact Wk.add1 (by repeat first | exact Rem.here | apply Rem.there | apply Rem.skip) (by repeat first | exact Rem.here | apply Rem.there | apply Rem.skip) rfl (Nat.le_of_ble_eq_true rfl) (by repeat first | exact Wk.nil | exact Wk.refl | (apply Wk.cons; (focus ((repeat first | exact Rem.here | apply Rem.there | apply Rem.skip); done))) | apply Wk.nilv | apply Wk.last | apply Wk.drop)), ⟨hlt, ?_⟩, by simp only; omega⟩
        simp only
        rw [hsn, List.map_append, hps, er]
        rfl
    · have er : rstS c.max (gt c.latches (i : Int)) = [] := by
        unfold rstS
        rw [if_neg (by omega), if_neg (by omega)]
      repeat' (first
 | (apply GC_seqK; intro K hK)
 | (apply hK; clear hK K)
 | (apply GC_block)
 | (apply GC_region)
 | (apply GL_nil)
 | (apply thenG_normal)
 | (apply blockG_normal)
 | (apply GC_skip)
 | (apply GC_if_true; eq_refl)
 | (apply GC_if_false; eq_refl)
 | (apply GL_on; eq_refl; eq_refl)
 | (apply G_pv; eq_refl; first | exact trivial | omega)
 | (apply G_field; eq_refl)
 | (apply G_ld; eq_refl; (repeat first | exact In.here | apply In.there | apply In.skip); eq_refl)
 | (apply G_rdW; eq_refl; (first | (apply Rd.own; (repeat first | exact In.here | apply In.there | apply In.skip); infer_instance) | (apply Rd.old; (repeat first | exact In.here | apply In.there | apply In.skip); assumption) | (apply Rd.oldR; (repeat first | exact In.here | apply In.there | apply In.skip); assumption) | exact Rd.nil | assumption); infer_instance; (case ih => infer_instance); omega; omega)
 | (apply G_cmpT; eq_refl; eq_refl; omega)
 | (apply G_cmpF; eq_refl; eq_refl; omega)
 | (apply G_ix; eq_refl; eq_refl; (first | (apply Rd.own; (repeat first | exact In.here | apply In.there | apply In.skip); infer_instance) | (apply Rd.old; (repeat first | exact In.here | apply In.there | apply In.skip); assumption) | (apply Rd.oldR; (repeat first | exact In.here | apply In.there | apply In.skip); assumption) | exact Rd.nil | assumption); (first | eq_refl | omega); omega; omega)
 | (apply G_alloc; eq_refl; intro _)
 | (apply G_stW; (first | exact wr_p | kernel_rfl); eq_refl; eq_refl; eq_refl; eq_refl; (repeat first | exact Upd.here | apply Upd.there | apply Upd.skip); eq_refl))
      refine ⟨(i + 1, ps, A, kA), (by repeat first | exact trivial | refine ⟨rfl, ?_⟩), (by repeat first | exact Wk.nil | exact Wk.refl | (apply Wk.cons; (focus ((repeat first | exact Rem.here | apply Rem.there | apply Rem.skip); done))) | apply Wk.nilv | apply Wk.last | apply Wk.drop), ⟨hlt, ?_⟩, by simp only; omega⟩
      simp only
      rw [hsn, hps, er, List.append_nil]
  · obtain rfl : i = c.latches.length := by omega
    rw [List.take_length] at hps
    repeat' (first
 | (apply GC_seqK; intro K hK)
 | (apply hK; clear hK K)
 | (clear hK K; apply hK; clear hK K)
 | (apply GC_region)
 | (apply GL_nil)
 | (apply thenG_normal)
 | (apply thenG_exit)
 | (apply blockG_hit)
 | (apply GC_ret)
 | (apply GC_exit)
 | (apply GC_if_false; eq_refl)
 | (apply retG1; eq_refl)
 | (apply GL_on; eq_refl; eq_refl)
 | (apply G_pv; eq_refl; first | exact trivial | omega)
 | (apply G_cmpF; eq_refl; eq_refl; omega))
    exact ⟨[.vec encS 1 67 A kA ps, .any (bun (fam rowJ ps))], (by repeat first | exact Wk.nil | exact Wk.refl | (apply Wk.cons; (focus ((repeat first | exact Rem.here | apply Rem.there | apply Rem.skip); done))) | apply Wk.nilv | apply Wk.last | apply Wk.drop), ps, A, kA, rfl, hps, rfl⟩
end SC
end Go.Proofs.Ytbmngkdnebklpaa
end
section
/- trestleref16: Step0, Next0, First0: the walks. -/
set_option linter.unusedVariables false
set_option linter.unusedSimpArgs false
namespace Go.Proofs.Ytbmngkdnebklpaa
namespace SC
open Go.Proofs
attribute [local irreducible] WC WL WX WS WO OX Does DoesU Enters CV Pure thenQ blockQ retQ Wants retQC GC GL GS GX RdB thenG blockG retG Rd At gt CVN CVM
set_option maxRecDepth 100000
end SC
end Go.Proofs.Ytbmngkdnebklpaa
end
section
/- frames: vars, ready, looked, many, step: the walks. -/
set_option linter.unusedVariables false
set_option linter.unusedSimpArgs false
namespace Go.Proofs.Ytbmngkdnebklpaa
namespace SC
open Go.Proofs
theorem ftE_look {c : Circ} {t most n : Int} (h : (lookM c).2 ≠ 0) : ftE c t most n = (lookM c).2 := if_pos h
theorem ftE_rg {c : Circ} {t most n : Int} (h : (lookM c).2 = 0) (h2 : t < 0 ∨ most < t) : ftE c t most n = 1 := by unfold ftE; rw [if_neg (by omega), if_pos h2]
theorem ftE_sz {c : Circ} {t most n : Int} (h : (lookM c).2 = 0) (h2 : ¬ (t < 0 ∨ most < t)) (h3 : 262144 < 1 + n * c.max) : ftE c t most n = 6 := by unfold ftE; rw [if_neg (by omega), if_neg h2, if_pos h3]
theorem ftE_ok {c : Circ} {t most n : Int} (h : (lookM c).2 = 0) (h2 : ¬ (t < 0 ∨ most < t)) (h3 : ¬ 262144 < 1 + n * c.max) : ftE c t most n = 0 := by unfold ftE; rw [if_neg (by omega), if_neg h2, if_neg h3]
theorem ftE_zero {c : Circ} {t most n : Int} (h : ftE c t most n = 0) : (lookM c).2 = 0 ∧ 0 ≤ t ∧ t ≤ most ∧ 1 + n * c.max ≤ 262144 := by
  unfold ftE at h
  split at h
  · exact absurd h (by assumption)
  · split at h
    · cases h
    · split at h
      · cases h
      · exact ⟨by omega, by omega, by omega, by omega⟩
theorem ftE_n {c : Circ} {t most : Int} (n m : Int) (h : t < 0 ∨ most < t) : ftE c t most n = ftE c t most m := by
  by_cases he : (lookM c).2 = 0
  · rw [ftE_rg he h, ftE_rg he h]
  · rw [ftE_look he, ftE_look he]
section
variable {P : Program} {n : Nat} {all : List Oper} {K : Env → Mm → Prop} {m : Md} {e : Env} {Γ : Mm} {d : Option Tmp} {ty t t' elem : TypeId} {x y : Operand} {w : World} {td : TypeDesc} {by_ : Nat} {zv v : Value}
theorem does_index {k : Nat} {i : Int} {ik : IntKind} {cs : Array Value} [T : Ty P elem td 1 zv by_ false] (hu : P.underlying t = some (.array k elem)) (h : ev e x = some (.agg cs)) (h1 : ev e y = some (.int ik i)) (h0 : 0 ≤ i) (hk : i < k) (hv : cs[i.toNat]? = some v) : Does P (.index t x y) ty e w v w := by
  intro ρ dst pos af g hρ
  simp [execOp, hρ _ _ h, hρ _ _ h1, Instr.index, asIntOf, run_underlying hu, h0, hk, Go.part, T.size, T.agg, hv]
theorem G_index {k : Nat} {i : Int} {ik : IntKind} {cs : Array Value} [T : Ty P elem td 1 zv by_ false] (hu : P.underlying t = some (.array k elem)) (h : ev e x = some (.agg cs)) (h1 : ev e y = some (.int ik i)) (h0 : 0 ≤ i) (hk : i < k) (hv : cs[i.toNat]? = some v) (hr : GN P n all K m (push d v e) Γ) : GX P n all K m d (.index t x y) ty e Γ := GX_pure (fun _ => does_index hu h h1 h0 hk hv) hr
theorem G_addW {a b : Int} (h : ev e x = some (.int .i64 a)) (h1 : ev e y = some (.int .i64 b)) (hr : GN P n all K m (push d (nu (IntKind.i64.wrap (a + b))) e) Γ) : GX P n all K m d (.binOp .add t x y t') ty e Γ := GX_pure (fun _ => does_addW h h1) hr
end
attribute [local irreducible] WC WL WX WS WO OX Does DoesU Enters CV Pure thenQ blockQ retQ Wants retQC GC GL GS GX RdB thenG blockG retG Rd At gt CVN CVM
set_option maxRecDepth 100000
theorem vars_cv {w : World} {c : Circ} {h : Hd} {n : Int} (z0 : 0 ≤ n * c.max) (z1 : n * c.max ≤ 10000000) : CVN Try.prog 54 [.agg (ccells c h).toArray, nu n] w fun v N => N = [] ∧ v = nu (1 + n * c.max) := by
  refine CVN.enter 11 [4] Try.func54 rfl rfl rfl (by decide) rfl ?_
  repeat' (first
 | (apply GC_seqK; intro K hK)
 | (apply hK; clear hK K)
 | (apply GC_region)
 | (apply GL_nil)
 | (apply thenG_normal)
 | (apply GC_ret)
 | (apply retG1; eq_refl)
 | (apply GL_on; eq_refl; eq_refl)
 | (apply G_pv; eq_refl; first | exact trivial | omega)
 | (apply G_field; eq_refl)
 | (apply G_ld; eq_refl; (repeat first | exact In.here | apply In.there | apply In.skip); eq_refl)
 | (apply G_box; eq_refl; eq_refl; intro _))
  exact ⟨[], (by repeat first | exact Wk.nil | exact Wk.refl | (apply Wk.cons; (focus ((repeat first | exact Rem.here | apply Rem.there | apply Rem.skip); done))) | apply Wk.nilv | apply Wk.last | apply Wk.drop), rfl, rfl⟩
theorem ready16_cv {w : World} {c : Circ} {h js : Hd} (H : CirIn w c h js) : CVN Try.prog 47 [.agg (ccells c h).toArray] w fun v N => N = [] ∧ v = .tuple #[.agg (ccells c h).toArray, nu (lookM c).2] := by
  have hck : ∀ Γ, In Γ (.old w none_) → ∀ w', Mem w' Γ → CVN Try.prog 68 [.agg (ccells c h).toArray] w' fun v N => N = [] ∧ v = .tuple #[nu (lookM c).1, nu (lookM c).2] := fun Γ hi w' M => have H' := H.chg (hi.old M); CVN.of (check_cv H'.at_ H'.sane) fun v w' h => ⟨h.2, h.1⟩
  generalize (lookM c).1 = n0 at *
  generalize (lookM c).2 = ε at *
  refine CVN.enterC1 (t := 69) 14 2 3 Try.func47 rfl rfl rfl rfl ?_
  repeat' (first
 | (apply G_call; eq_refl; eq_refl; (apply hck; (repeat first | exact In.here | apply In.there | apply In.skip)); rintro _ _ ⟨rfl, rfl⟩)
 | (apply GC_seqK; intro K hK)
 | (apply hK; clear hK K)
 | (apply GC_region)
 | (apply GL_nil)
 | (apply thenG_normal)
 | (apply GC_ret)
 | (apply retGC1r; eq_refl; (repeat first | exact In.here | apply In.there | apply In.skip); eq_refl; eq_refl)
 | (apply GL_on; eq_refl; eq_refl)
 | (apply G_pv; eq_refl; first | exact trivial | omega)
 | (apply G_ldW; eq_refl; (repeat first | exact In.here | apply In.there | apply In.skip); eq_refl)
 | (apply G_alloc; eq_refl; intro _)
 | (apply G_box; eq_refl; eq_refl; intro _)
 | (apply G_stW; (first | exact wr_p | kernel_rfl); eq_refl; eq_refl; eq_refl; eq_refl; (repeat first | exact Upd.here | apply Upd.there | apply Upd.skip); eq_refl)
 | (apply GX_pure; apply build69_0 <;> eq_refl))
  exact ⟨[], (by repeat first | exact Wk.nil | exact Wk.refl | (apply Wk.cons; (focus ((repeat first | exact Rem.here | apply Rem.there | apply Rem.skip); done))) | apply Wk.nilv | apply Wk.last | apply Wk.drop), rfl, rfl⟩
theorem looked_cv {w : World} {c : Circ} {h js : Hd} {t most n : Int} (H : CirIn w c h js) (hn : 0 ≤ t → t ≤ most → 0 ≤ n ∧ n ≤ 600) : CVN Try.prog 36 [.agg (ccells c h).toArray, nu t, nu most, nu n] w fun v N => N = [] ∧ v = .tuple #[.agg (ccells c h).toArray, nu (ftE c t most n)] := by
  have hrd : ∀ Γ, In Γ (.old w none_) → ∀ w', Mem w' Γ → CVN Try.prog 47 [.agg (ccells c h).toArray] w' _ := fun Γ hi w' M => ready16_cv (H.chg (hi.old M))
  refine CVN.enterC1 (t := 69) 38 8 9 Try.func36 rfl rfl rfl rfl ?_
  by_cases he : (lookM c).2 = 0
  · have R := right_of H.at_ H.sane he
    have m0 := R.m0
    have m1 := R.m1
    rw [he] at hrd
    by_cases hr : t < 0 ∨ most < t
    · rw [ftE_rg he hr]
      by_cases h0 : t < 0
      · repeat' (first
 | (apply G_call; eq_refl; eq_refl; (apply hrd; (repeat first | exact In.here | apply In.there | apply In.skip)); rintro _ _ ⟨rfl, rfl⟩)
 | (apply GC_seqK; intro K hK)
 | (apply hK; clear hK K)
 | (apply GC_block)
 | (apply GC_region)
 | (apply GL_nil)
 | (apply thenG_normal)
 | (apply thenG_ret)
 | (apply blockG_ret)
 | (apply GC_ret)
 | (apply GC_if_true; eq_refl)
 | (apply GC_if_false; eq_refl)
 | (apply retGC1r; eq_refl; (repeat first | exact In.here | apply In.there | apply In.skip); eq_refl; eq_refl)
 | (apply GL_on; eq_refl; eq_refl)
 | (apply GL_off; eq_refl; eq_refl)
 | (apply G_pv; eq_refl; first | exact trivial | omega)
 | (apply G_ldW; eq_refl; (repeat first | exact In.here | apply In.there | apply In.skip); eq_refl)
 | (apply G_cmpT; eq_refl; eq_refl; omega)
 | (apply G_cmpF; eq_refl; eq_refl; omega)
 | (apply G_alloc; eq_refl; intro _)
 | (apply G_box; eq_refl; eq_refl; intro _)
 | (apply G_stW; (first | exact wr_p | kernel_rfl); eq_refl; eq_refl; eq_refl; eq_refl; (repeat first | exact Upd.here | apply Upd.there | apply Upd.skip); eq_refl))
        exact ⟨[], (by repeat first | exact Wk.nil | exact Wk.refl | (apply Wk.cons; (focus ((repeat first | exact Rem.here | apply Rem.there | apply Rem.skip); done))) | apply Wk.nilv | apply Wk.last | apply Wk.drop), rfl, rfl⟩
      · repeat' (first
 | (apply G_call; eq_refl; eq_refl; (apply hrd; (repeat first | exact In.here | apply In.there | apply In.skip)); rintro _ _ ⟨rfl, rfl⟩)
 | (apply GC_seqK; intro K hK)
 | (apply hK; clear hK K)
 | (apply GC_block)
 | (apply GC_region)
 | (apply GL_nil)
 | (apply thenG_normal)
 | (apply thenG_ret)
 | (apply blockG_ret)
 | (apply GC_ret)
 | (apply GC_if_true; eq_refl)
 | (apply GC_if_false; eq_refl)
 | (apply retGC1r; eq_refl; (repeat first | exact In.here | apply In.there | apply In.skip); eq_refl; eq_refl)
 | (apply GL_on; eq_refl; eq_refl)
 | (apply G_pv; eq_refl; first | exact trivial | omega)
 | (apply G_ldW; eq_refl; (repeat first | exact In.here | apply In.there | apply In.skip); eq_refl)
 | (apply G_cmpT; eq_refl; eq_refl; omega)
 | (apply G_cmpF; eq_refl; eq_refl; omega)
 | (apply G_alloc; eq_refl; intro _)
 | (apply G_box; eq_refl; eq_refl; intro _)
 | (apply G_stW; (first | exact wr_p | kernel_rfl); eq_refl; eq_refl; eq_refl; eq_refl; (repeat first | exact Upd.here | apply Upd.there | apply Upd.skip); eq_refl))
        exact ⟨[], (by repeat first | exact Wk.nil | exact Wk.refl | (apply Wk.cons; (focus ((repeat first | exact Rem.here | apply Rem.there | apply Rem.skip); done))) | apply Wk.nilv | apply Wk.last | apply Wk.drop), rfl, rfl⟩
    · obtain ⟨n0, n1⟩ := hn (by omega) (by omega)
      obtain ⟨z0, z1⟩ := mul_le n0 n1 m0 m1
      have hv : ∀ Γ, ∀ w', Mem w' Γ → CVN Try.prog 54 [.agg (ccells c h).toArray, nu n] w' _ := fun Γ w' M => vars_cv (h := h) z0 z1
      by_cases hs : 262144 < 1 + n * c.max
      · rw [ftE_sz he hr hs]
        repeat' (first
 | (apply G_call; eq_refl; eq_refl; (apply hrd; (repeat first | exact In.here | apply In.there | apply In.skip)); rintro _ _ ⟨rfl, rfl⟩)
 | (apply G_call; eq_refl; eq_refl; (apply hv); rintro _ _ ⟨rfl, rfl⟩)
 | (apply GC_seqK; intro K hK)
 | (apply hK; clear hK K)
 | (apply GC_block)
 | (apply GC_region)
 | (apply GL_nil)
 | (apply thenG_normal)
 | (apply thenG_ret)
 | (apply blockG_ret)
 | (apply GC_ret)
 | (apply GC_if_true; eq_refl)
 | (apply GC_if_false; eq_refl)
 | (apply retGC1r; eq_refl; (repeat first | exact In.here | apply In.there | apply In.skip); eq_refl; eq_refl)
 | (apply GL_on; eq_refl; eq_refl)
 | (apply G_pv; eq_refl; first | exact trivial | omega)
 | (apply G_ldW; eq_refl; (repeat first | exact In.here | apply In.there | apply In.skip); eq_refl)
 | (apply G_cmpT; eq_refl; eq_refl; omega)
 | (apply G_cmpF; eq_refl; eq_refl; omega)
 | (apply G_alloc; eq_refl; intro _)
 | (apply G_box; eq_refl; eq_refl; intro _)
 | (apply G_stW; (first | exact wr_p | kernel_rfl); eq_refl; eq_refl; eq_refl; eq_refl; (repeat first | exact Upd.here | apply Upd.there | apply Upd.skip); eq_refl))
        exact ⟨[], (by repeat first | exact Wk.nil | exact Wk.refl | (apply Wk.cons; (focus ((repeat first | exact Rem.here | apply Rem.there | apply Rem.skip); done))) | apply Wk.nilv | apply Wk.last | apply Wk.drop), rfl, rfl⟩
      · rw [ftE_ok he hr hs]
        repeat' (first
 | (apply G_call; eq_refl; eq_refl; (apply hrd; (repeat first | exact In.here | apply In.there | apply In.skip)); rintro _ _ ⟨rfl, rfl⟩)
 | (apply G_call; eq_refl; eq_refl; (apply hv); rintro _ _ ⟨rfl, rfl⟩)
 | (apply GC_seqK; intro K hK)
 | (apply hK; clear hK K)
 | (apply GC_block)
 | (apply GC_region)
 | (apply GL_nil)
 | (apply thenG_normal)
 | (apply blockG_normal)
 | (apply GC_ret)
 | (apply GC_skip)
 | (apply GC_if_false; eq_refl)
 | (apply retGC1r; eq_refl; (repeat first | exact In.here | apply In.there | apply In.skip); eq_refl; eq_refl)
 | (apply GL_on; eq_refl; eq_refl)
 | (apply G_pv; eq_refl; first | exact trivial | omega)
 | (apply G_ldW; eq_refl; (repeat first | exact In.here | apply In.there | apply In.skip); eq_refl)
 | (apply G_cmpF; eq_refl; eq_refl; omega)
 | (apply G_alloc; eq_refl; intro _)
 | (apply G_box; eq_refl; eq_refl; intro _)
 | (apply G_stW; (first | exact wr_p | kernel_rfl); eq_refl; eq_refl; eq_refl; eq_refl; (repeat first | exact Upd.here | apply Upd.there | apply Upd.skip); eq_refl))
        exact ⟨[], (by repeat first | exact Wk.nil | exact Wk.refl | (apply Wk.cons; (focus ((repeat first | exact Rem.here | apply Rem.there | apply Rem.skip); done))) | apply Wk.nilv | apply Wk.last | apply Wk.drop), rfl, rfl⟩
  · rw [ftE_look he]
    generalize (lookM c).2 = ε at *
    repeat' (first
 | (apply G_call; eq_refl; eq_refl; (apply hrd; (repeat first | exact In.here | apply In.there | apply In.skip)); rintro _ _ ⟨rfl, rfl⟩)
 | (apply GC_seqK; intro K hK)
 | (apply hK; clear hK K)
 | (apply GC_block)
 | (apply GC_region)
 | (apply GL_nil)
 | (apply thenG_normal)
 | (apply thenG_ret)
 | (apply blockG_ret)
 | (apply GC_ret)
 | (apply GC_if_true; eq_refl)
 | (apply retGC1r; eq_refl; (repeat first | exact In.here | apply In.there | apply In.skip); eq_refl; eq_refl)
 | (apply GL_on; eq_refl; eq_refl)
 | (apply G_pv; eq_refl; first | exact trivial | omega)
 | (apply G_ldW; eq_refl; (repeat first | exact In.here | apply In.there | apply In.skip); eq_refl)
 | (apply G_cmpT; eq_refl; eq_refl; omega)
 | (apply G_alloc; eq_refl; intro _)
 | (apply G_box; eq_refl; eq_refl; intro _)
 | (apply G_stW; (first | exact wr_p | kernel_rfl); eq_refl; eq_refl; eq_refl; eq_refl; (repeat first | exact Upd.here | apply Upd.there | apply Upd.skip); eq_refl))
    exact ⟨[], (by repeat first | exact Wk.nil | exact Wk.refl | (apply Wk.cons; (focus ((repeat first | exact Rem.here | apply Rem.there | apply Rem.skip); done))) | apply Wk.nilv | apply Wk.last | apply Wk.drop), rfl, rfl⟩
theorem stepF_cv {w : World} {c : Circ} {h js : Hd} {t : Int} (R : Right c) (H : CirAt w c h js) (t0 : 0 ≤ t) (t1 : t ≤ 600) : CVN Try.prog 34 [.agg (ccells c h).toArray, nu t] w (CliR (stepS c t)) := by
  have n3 := R.nAnd
  have n4 := R.nCon
  have lg := gatesS_len c t
  have lc := consS_len c t
  have hg : ∀ Γ, In Γ (.old w none_) → ∀ w', Mem w' Γ → CVN Try.prog 62 ([.agg (ccells c h).toArray, nu t] ++ (#[] : Array Value).toList) w' _ := fun Γ hi w' M => gatesS_cv R (H.chg (hi.old M)) t0 t1
  have hc : ∀ Γ, In Γ (.old w none_) → ∀ w', Mem w' Γ → CVN Try.prog 63 ([.agg (ccells c h).toArray, nu t] ++ (#[] : Array Value).toList) w' _ := fun Γ hi w' M => consS_cv R (H.chg (hi.old M)) t0 t1
  refine CVN.enter 20 [4] Try.func34 rfl rfl rfl (by decide) rfl ?_
  repeat' (first
 | (apply GC_seqK; intro K hK)
 | (apply hK; clear hK K)
 | (apply GC_block)
 | (apply GC_region)
 | (apply GL_nil)
 | (apply thenG_normal)
 | (apply GL_on; eq_refl; eq_refl)
 | (apply G_pv; eq_refl; first | exact trivial | omega)
 | (apply G_box; eq_refl; eq_refl; intro _)
 | (apply GX_pure; apply build103_0_1 <;> eq_refl))
  rename_i b2
  refine GC_loopK [1, 2, 8] (fun s : Nat × List (Hdl × List Int) × Option Addr × Nat => [(5, .slice s.2.2.1 s.2.1.length s.2.2.2), (9, nu s.1)]) (fun s => [.any (bun (fam rowJ s.2.1)), .vec encS 1 67 s.2.2.1 s.2.2.2 s.2.1, .box b2 69 (ccells c h), .old w none_])
    (fun s => s.1 ≤ 2 ∧ s.2.1.map (·.2) = (if s.1 = 0 then [] else if s.1 = 1 then gatesS c t else stepS c t)) (fun s => 2 - s.1) (0, [], none, 0) (by repeat first | exact Pick.nil | (apply Pick.cons; eq_refl)) (by repeat first | exact trivial | refine ⟨rfl, ?_⟩) (rows_nil (Wk.nilv (by repeat first | exact Wk.nil | exact Wk.refl | (apply Wk.cons; (focus ((repeat first | exact Rem.here | apply Rem.there | apply Rem.skip); done))) | apply Wk.nilv | apply Wk.last | apply Wk.drop))) ⟨Nat.zero_le _, rfl⟩ ?_
  rintro ⟨i, ps, A, kA⟩ ⟨hi, hps⟩
  dsimp only at hi hps ⊢
  obtain rfl | rfl | rfl : i = 0 ∨ i = 1 ∨ i = 2 := by omega
  · have hp0 : ps = [] := by simpa using hps
    subst hp0
    repeat' (first
 | (apply G_index (elem := 102) (k := 2); kernel_rfl; eq_refl; eq_refl; omega; omega; eq_refl)
 | (apply G_callF; eq_refl; eq_refl; infer_instance; eq_refl; (apply hg; (repeat first | exact In.here | apply In.there | apply In.skip)); rintro _ _ ⟨qs, B, kB, rfl, hqs, rfl⟩)
 | (apply G_appV (enc := encS); (first | exact wr_p | kernel_rfl); eq_refl; eq_refl; (intro A c; (repeat first | exact Upd.here | apply Upd.there | apply Upd.skip)); infer_instance; (repeat first | exact In.here | apply In.there | apply In.skip); eq_refl; eq_refl; eq_refl; (have := congrArg List.length hqs; rw [List.length_map] at this; (try simp only [List.length_nil]); omega); decide; intro A9 k9)
 | (apply GC_seqK; intro K hK)
 | (apply hK; clear hK K)
 | (apply GC_block)
 | (apply GC_region)
 | (apply GL_nil)
 | (apply thenG_normal)
 | (apply blockG_normal)
 | (apply GC_skip)
 | (apply GC_if_true; eq_refl)
 | (apply GL_on; eq_refl; eq_refl)
 | (apply G_pv; eq_refl; first | exact trivial | omega)
 | (apply G_ldW; eq_refl; (repeat first | exact In.here | apply In.there | apply In.skip); eq_refl)
 | (apply G_cmpT; eq_refl; eq_refl; omega))
    exact ⟨(1, [] ++ qs, A9, k9), (by repeat first | exact trivial | refine ⟨rfl, ?_⟩), (by dsimp only; exact Wk.rows (by repeat first | exact Rem.here | apply Rem.there | apply Rem.skip) (by repeat first | exact Rem.here | apply Rem.there | apply Rem.skip) (by repeat first | exact Wk.nil | exact Wk.refl | (apply Wk.cons; (focus ((repeat first | exact Rem.here | apply Rem.there | apply Rem.skip); done))) | apply Wk.nilv | apply Wk.last | apply Wk.drop)), ⟨by simp only; omega, hqs⟩, by simp only; omega⟩
  · have hpl : ps.length = 3 * c.ands.length := by have := congrArg List.length hps; rw [List.length_map] at this; rw [this]; exact lg
    repeat' (first
 | (apply G_index (elem := 102) (k := 2); kernel_rfl; eq_refl; eq_refl; omega; omega; eq_refl)
 | (apply G_callF; eq_refl; eq_refl; infer_instance; eq_refl; (apply hc; (repeat first | exact In.here | apply In.there | apply In.skip)); rintro _ _ ⟨qs, B, kB, rfl, hqs, rfl⟩)
 | (apply G_appV (enc := encS); (first | exact wr_p | kernel_rfl); eq_refl; eq_refl; (intro A c; (repeat first | exact Upd.here | apply Upd.there | apply Upd.skip)); infer_instance; (repeat first | exact In.here | apply In.there | apply In.skip); eq_refl; eq_refl; eq_refl; (have := congrArg List.length hqs; rw [List.length_map] at this; (try simp only [List.length_nil]); omega); decide; intro A9 k9)
 | (apply GC_seqK; intro K hK)
 | (apply hK; clear hK K)
 | (apply GC_block)
 | (apply GC_region)
 | (apply GL_nil)
 | (apply thenG_normal)
 | (apply blockG_normal)
 | (apply GC_skip)
 | (apply GC_if_true; eq_refl)
 | (apply GL_on; eq_refl; eq_refl)
 | (apply G_pv; eq_refl; first | exact trivial | omega)
 | (apply G_ldW; eq_refl; (repeat first | exact In.here | apply In.there | apply In.skip); eq_refl)
 | (apply G_cmpT; eq_refl; eq_refl; omega))
    exact ⟨(2, ps ++ qs, A9, k9), (by repeat first | exact trivial | refine ⟨rfl, ?_⟩), (by dsimp only; exact Wk.rows (by repeat first | exact Rem.here | apply Rem.there | apply Rem.skip) (by repeat first | exact Rem.here | apply Rem.there | apply Rem.skip) (by repeat first | exact Wk.nil | exact Wk.refl | (apply Wk.cons; (focus ((repeat first | exact Rem.here | apply Rem.there | apply Rem.skip); done))) | apply Wk.nilv | apply Wk.last | apply Wk.drop)), ⟨by simp only; omega, by simp only; rw [List.map_append, hps, hqs]; rfl⟩, by simp only; omega⟩
  · repeat' (first
 | (apply GC_seqK; intro K hK)
 | (apply hK; clear hK K)
 | (clear hK K; apply hK; clear hK K)
 | (apply GC_region)
 | (apply GL_nil)
 | (apply thenG_normal)
 | (apply thenG_exit)
 | (apply blockG_hit)
 | (apply GC_ret)
 | (apply GC_exit)
 | (apply GC_if_false; eq_refl)
 | (apply retG1; eq_refl)
 | (apply GL_on; eq_refl; eq_refl)
 | (apply G_pv; eq_refl; first | exact trivial | omega)
 | (apply G_cmpF; eq_refl; eq_refl; omega))
    exact ⟨[.vec encS 1 67 A kA ps, .any (bun (fam rowJ ps))], (by repeat first | exact Wk.nil | exact Wk.refl | (apply Wk.cons; (focus ((repeat first | exact Rem.here | apply Rem.there | apply Rem.skip); done))) | apply Wk.nilv | apply Wk.last | apply Wk.drop), ps, A, kA, rfl, hps, rfl⟩
end SC
end Go.Proofs.Ytbmngkdnebklpaa
end
section
/- frames: Step, Next; the reference's. -/
set_option linter.unusedVariables false
set_option linter.unusedSimpArgs false
namespace Go.Proofs.Ytbmngkdnebklpaa
namespace SC
open Go.Proofs
noncomputable def stS (c : Circ) (t : Int) : List (List Int) := if ftE c t 511 (t + 1) = 0 then stepS c t else []
noncomputable def nxS (c : Circ) (t : Int) : List (List Int) := if ftE c t 510 (t + 2) = 0 then nextS c t else []
/-- Clauses and an error as an answer. -/
def CliT (m : List (List Int)) (ε : Int) (v : Value) (N : Mm) : Prop := ∃ ps A k, v = .tuple #[.slice A ps.length k, nu ε] ∧ ps.map (·.2) = m ∧ N = [.vec encS 1 67 A k ps, .any (bun (fam rowJ ps))]
attribute [local irreducible] WC WL WX WS WO OX Does DoesU Enters CV Pure thenQ blockQ retQ Wants retQC GC GL GS GX RdB thenG blockG retG Rd At gt CVN CVM
set_option maxRecDepth 100000
theorem StepP16_cv {w : World} {c : Circ} {h js : Hd} {t : Int} (H : CirIn w c h js) (hx : -9223372036854775808 ≤ t ∧ t ≤ 9223372036854775807) : CVN Try.prog 12 [.agg (ccells c h).toArray, nu t] w (CliT (stS c t) (ftE c t 511 (t + 1))) := by
  have hlk : ∀ n, (n = t + 1 ∨ 511 < t) → ∀ Γ, In Γ (.old w none_) → ∀ w', Mem w' Γ → CVN Try.prog 36 [.agg (ccells c h).toArray, nu t, nu 511, nu n] w' fun v N => N = [] ∧ v = .tuple #[.agg (ccells c h).toArray, nu (ftE c t 511 (t + 1))] := fun n hn Γ hi w' M => by
    have := looked_cv (t := t) (most := 511) (n := n) (H.chg (hi.old M)) (fun h0 h1 => by omega)
    rcases hn with rfl | hb
    · exact this
    · rw [ftE_n n (t + 1) (.inr hb)] at this
      exact this
  refine CVN.enter 22 [4, 5] Try.func12 rfl rfl rfl (by decide) rfl ?_
  by_cases hz : ftE c t 511 (t + 1) = 0
  · obtain ⟨he, t0, t1, _⟩ := ftE_zero hz
    have R := right_of H.at_ H.sane he
    have hst : ∀ Γ, In Γ (.old w none_) → ∀ w', Mem w' Γ → CVN Try.prog 34 [.agg (ccells c h).toArray, nu t] w' (CliR (stepS c t)) := fun Γ hi w' M => stepF_cv R (H.at_.chg (hi.old M)) t0 (by omega)
    rw [show stS c t = stepS c t from if_pos hz, hz]
    rw [hz] at hlk
    repeat' (first
 | (apply G_call; eq_refl; eq_refl; (apply (hlk _ (.inl rfl)); (repeat first | exact In.here | apply In.there | apply In.skip)); rintro _ _ ⟨rfl, rfl⟩)
 | (apply G_call; eq_refl; eq_refl; (apply hst; (repeat first | exact In.here | apply In.there | apply In.skip)); rintro _ _ ⟨ps, A, kA, rfl, hps, rfl⟩)
 | (apply GC_seqK; intro K hK)
 | (apply hK; clear hK K)
 | (apply GC_region)
 | (apply GL_nil)
 | (apply thenG_normal)
 | (apply GC_ret)
 | (apply GC_skip)
 | (apply GC_if_false; eq_refl)
 | (apply retG2; eq_refl; eq_refl)
 | (apply GL_on; eq_refl; eq_refl)
 | (apply G_pv; eq_refl; first | exact trivial | omega)
 | (apply G_ldW; eq_refl; (repeat first | exact In.here | apply In.there | apply In.skip); eq_refl)
 | (apply G_cmpF; eq_refl; eq_refl; omega)
 | (apply G_alloc; eq_refl; intro _)
 | (apply G_box; eq_refl; eq_refl; intro _)
 | (apply G_stW; (first | exact wr_p | kernel_rfl); eq_refl; eq_refl; eq_refl; eq_refl; (repeat first | exact Upd.here | apply Upd.there | apply Upd.skip); eq_refl))
    exact ⟨[.vec encS 1 67 A kA ps, .any (bun (fam rowJ ps))], (by repeat first | exact Wk.nil | exact Wk.refl | (apply Wk.cons; (focus ((repeat first | exact Rem.here | apply Rem.there | apply Rem.skip); done))) | apply Wk.nilv | apply Wk.last | apply Wk.drop), ps, A, kA, rfl, hps, rfl⟩
  · rw [show stS c t = [] from if_neg hz]
    generalize ftE c t 511 (t + 1) = ε at *
    by_cases hb : 511 < t
    · repeat' (first
 | (apply G_addW; eq_refl; eq_refl)
 | (apply G_call; eq_refl; eq_refl; (apply (hlk _ (.inr hb)); (repeat first | exact In.here | apply In.there | apply In.skip)); rintro _ _ ⟨rfl, rfl⟩)
 | (apply GC_seqK; intro K hK)
 | (apply hK; clear hK K)
 | (apply GC_region)
 | (apply GL_nil)
 | (apply thenG_normal)
 | (apply thenG_ret)
 | (apply GC_ret)
 | (apply GC_if_true; eq_refl)
 | (apply retG2; eq_refl; eq_refl)
 | (apply GL_on; eq_refl; eq_refl)
 | (apply G_pv; eq_refl; first | exact trivial | omega)
 | (apply G_ldW; eq_refl; (repeat first | exact In.here | apply In.there | apply In.skip); eq_refl)
 | (apply G_cmpT; eq_refl; eq_refl; omega)
 | (apply G_alloc; eq_refl; intro _)
 | (apply G_box; eq_refl; eq_refl; intro _)
 | (apply G_stW; (first | exact wr_p | kernel_rfl); eq_refl; eq_refl; eq_refl; eq_refl; (repeat first | exact Upd.here | apply Upd.there | apply Upd.skip); eq_refl))
      exact ⟨[.vec encS 1 67 none 0 [], .any (bun (fam rowJ []))], Wk.nilv (rows_nil (by repeat first | exact Wk.nil | exact Wk.refl | (apply Wk.cons; (focus ((repeat first | exact Rem.here | apply Rem.there | apply Rem.skip); done))) | apply Wk.nilv | apply Wk.last | apply Wk.drop)), [], none, 0, rfl, rfl, rfl⟩
    · repeat' (first
 | (apply G_call; eq_refl; eq_refl; (apply (hlk _ (.inl rfl)); (repeat first | exact In.here | apply In.there | apply In.skip)); rintro _ _ ⟨rfl, rfl⟩)
 | (apply GC_seqK; intro K hK)
 | (apply hK; clear hK K)
 | (apply GC_region)
 | (apply GL_nil)
 | (apply thenG_normal)
 | (apply thenG_ret)
 | (apply GC_ret)
 | (apply GC_if_true; eq_refl)
 | (apply retG2; eq_refl; eq_refl)
 | (apply GL_on; eq_refl; eq_refl)
 | (apply G_pv; eq_refl; first | exact trivial | omega)
 | (apply G_ldW; eq_refl; (repeat first | exact In.here | apply In.there | apply In.skip); eq_refl)
 | (apply G_cmpT; eq_refl; eq_refl; omega)
 | (apply G_alloc; eq_refl; intro _)
 | (apply G_box; eq_refl; eq_refl; intro _)
 | (apply G_stW; (first | exact wr_p | kernel_rfl); eq_refl; eq_refl; eq_refl; eq_refl; (repeat first | exact Upd.here | apply Upd.there | apply Upd.skip); eq_refl))
      exact ⟨[.vec encS 1 67 none 0 [], .any (bun (fam rowJ []))], Wk.nilv (rows_nil (by repeat first | exact Wk.nil | exact Wk.refl | (apply Wk.cons; (focus ((repeat first | exact Rem.here | apply Rem.there | apply Rem.skip); done))) | apply Wk.nilv | apply Wk.last | apply Wk.drop)), [], none, 0, rfl, rfl, rfl⟩
theorem NextP16_cv {w : World} {c : Circ} {h js : Hd} {t : Int} (H : CirIn w c h js) (hx : -9223372036854775808 ≤ t ∧ t ≤ 9223372036854775807) : CVN Try.prog 11 [.agg (ccells c h).toArray, nu t] w (CliT (nxS c t) (ftE c t 510 (t + 2))) := by
  have hlk : ∀ n, (n = t + 2 ∨ 510 < t) → ∀ Γ, In Γ (.old w none_) → ∀ w', Mem w' Γ → CVN Try.prog 36 [.agg (ccells c h).toArray, nu t, nu 510, nu n] w' fun v N => N = [] ∧ v = .tuple #[.agg (ccells c h).toArray, nu (ftE c t 510 (t + 2))] := fun n hn Γ hi w' M => by
    have := looked_cv (t := t) (most := 510) (n := n) (H.chg (hi.old M)) (fun h0 h1 => by omega)
    rcases hn with rfl | hb
    · exact this
    · rw [ftE_n n (t + 2) (.inr hb)] at this
      exact this
  refine CVN.enter 22 [4, 5] Try.func11 rfl rfl rfl (by decide) rfl ?_
  by_cases hz : ftE c t 510 (t + 2) = 0
  · obtain ⟨he, t0, t1, _⟩ := ftE_zero hz
    have R := right_of H.at_ H.sane he
    have hst : ∀ Γ, In Γ (.old w none_) → ∀ w', Mem w' Γ → CVN Try.prog 35 [.agg (ccells c h).toArray, nu t] w' (CliR (nextS c t)) := fun Γ hi w' M => nextS_cv R (H.at_.chg (hi.old M)) t0 (by omega)
    rw [show nxS c t = nextS c t from if_pos hz, hz]
    rw [hz] at hlk
    repeat' (first
 | (apply G_call; eq_refl; eq_refl; (apply (hlk _ (.inl rfl)); (repeat first | exact In.here | apply In.there | apply In.skip)); rintro _ _ ⟨rfl, rfl⟩)
 | (apply G_call; eq_refl; eq_refl; (apply hst; (repeat first | exact In.here | apply In.there | apply In.skip)); rintro _ _ ⟨ps, A, kA, rfl, hps, rfl⟩)
 | (apply GC_seqK; intro K hK)
 | (apply hK; clear hK K)
 | (apply GC_region)
 | (apply GL_nil)
 | (apply thenG_normal)
 | (apply GC_ret)
 | (apply GC_skip)
 | (apply GC_if_false; eq_refl)
 | (apply retG2; eq_refl; eq_refl)
 | (apply GL_on; eq_refl; eq_refl)
 | (apply G_pv; eq_refl; first | exact trivial | omega)
 | (apply G_ldW; eq_refl; (repeat first | exact In.here | apply In.there | apply In.skip); eq_refl)
 | (apply G_cmpF; eq_refl; eq_refl; omega)
 | (apply G_alloc; eq_refl; intro _)
 | (apply G_box; eq_refl; eq_refl; intro _)
 | (apply G_stW; (first | exact wr_p | kernel_rfl); eq_refl; eq_refl; eq_refl; eq_refl; (repeat first | exact Upd.here | apply Upd.there | apply Upd.skip); eq_refl))
    exact ⟨[.vec encS 1 67 A kA ps, .any (bun (fam rowJ ps))], (by repeat first | exact Wk.nil | exact Wk.refl | (apply Wk.cons; (focus ((repeat first | exact Rem.here | apply Rem.there | apply Rem.skip); done))) | apply Wk.nilv | apply Wk.last | apply Wk.drop), ps, A, kA, rfl, hps, rfl⟩
  · rw [show nxS c t = [] from if_neg hz]
    generalize ftE c t 510 (t + 2) = ε at *
    by_cases hb : 510 < t
    · repeat' (first
 | (apply G_addW; eq_refl; eq_refl)
 | (apply G_call; eq_refl; eq_refl; (apply (hlk _ (.inr hb)); (repeat first | exact In.here | apply In.there | apply In.skip)); rintro _ _ ⟨rfl, rfl⟩)
 | (apply GC_seqK; intro K hK)
 | (apply hK; clear hK K)
 | (apply GC_region)
 | (apply GL_nil)
 | (apply thenG_normal)
 | (apply thenG_ret)
 | (apply GC_ret)
 | (apply GC_if_true; eq_refl)
 | (apply retG2; eq_refl; eq_refl)
 | (apply GL_on; eq_refl; eq_refl)
 | (apply G_pv; eq_refl; first | exact trivial | omega)
 | (apply G_ldW; eq_refl; (repeat first | exact In.here | apply In.there | apply In.skip); eq_refl)
 | (apply G_cmpT; eq_refl; eq_refl; omega)
 | (apply G_alloc; eq_refl; intro _)
 | (apply G_box; eq_refl; eq_refl; intro _)
 | (apply G_stW; (first | exact wr_p | kernel_rfl); eq_refl; eq_refl; eq_refl; eq_refl; (repeat first | exact Upd.here | apply Upd.there | apply Upd.skip); eq_refl))
      exact ⟨[.vec encS 1 67 none 0 [], .any (bun (fam rowJ []))], Wk.nilv (rows_nil (by repeat first | exact Wk.nil | exact Wk.refl | (apply Wk.cons; (focus ((repeat first | exact Rem.here | apply Rem.there | apply Rem.skip); done))) | apply Wk.nilv | apply Wk.last | apply Wk.drop)), [], none, 0, rfl, rfl, rfl⟩
    · repeat' (first
 | (apply G_call; eq_refl; eq_refl; (apply (hlk _ (.inl rfl)); (repeat first | exact In.here | apply In.there | apply In.skip)); rintro _ _ ⟨rfl, rfl⟩)
 | (apply GC_seqK; intro K hK)
 | (apply hK; clear hK K)
 | (apply GC_region)
 | (apply GL_nil)
 | (apply thenG_normal)
 | (apply thenG_ret)
 | (apply GC_ret)
 | (apply GC_if_true; eq_refl)
 | (apply retG2; eq_refl; eq_refl)
 | (apply GL_on; eq_refl; eq_refl)
 | (apply G_pv; eq_refl; first | exact trivial | omega)
 | (apply G_ldW; eq_refl; (repeat first | exact In.here | apply In.there | apply In.skip); eq_refl)
 | (apply G_cmpT; eq_refl; eq_refl; omega)
 | (apply G_alloc; eq_refl; intro _)
 | (apply G_box; eq_refl; eq_refl; intro _)
 | (apply G_stW; (first | exact wr_p | kernel_rfl); eq_refl; eq_refl; eq_refl; eq_refl; (repeat first | exact Upd.here | apply Upd.there | apply Upd.skip); eq_refl))
      exact ⟨[.vec encS 1 67 none 0 [], .any (bun (fam rowJ []))], Wk.nilv (rows_nil (by repeat first | exact Wk.nil | exact Wk.refl | (apply Wk.cons; (focus ((repeat first | exact Rem.here | apply Rem.there | apply Rem.skip); done))) | apply Wk.nilv | apply Wk.last | apply Wk.drop)), [], none, 0, rfl, rfl, rfl⟩
end SC
end Go.Proofs.Ytbmngkdnebklpaa
end
section
/- frames: First, Lit, Vars; the reference's. -/
set_option linter.unusedVariables false
set_option linter.unusedSimpArgs false
namespace Go.Proofs.Ytbmngkdnebklpaa
namespace SC
open Go.Proofs
/-- What is wrong with a literal at a step. -/
noncomputable def ltE (c : Circ) (l t : Int) : Int := if (lookM c).2 ≠ 0 then (lookM c).2 else if l < 0 ∨ 2 * c.max + 1 < l then 1 else ftE c t 511 (t + 1)
noncomputable def ltM (c : Circ) (l t : Int) : Int := if ltE c l t = 0 then atM c.max l t else 0
noncomputable def vrM (c : Circ) (n : Int) : Int := if vrE c n = 0 then 1 + n * c.max else 0
theorem ltE_look {c : Circ} {l t : Int} (h : (lookM c).2 ≠ 0) : ltE c l t = (lookM c).2 := if_pos h
theorem ltE_rg {c : Circ} {l t : Int} (h : (lookM c).2 = 0) (h2 : l < 0 ∨ 2 * c.max + 1 < l) : ltE c l t = 1 := by unfold ltE; rw [if_neg (by omega), if_pos h2]
theorem ltE_in {c : Circ} {l t : Int} (h : (lookM c).2 = 0) (h2 : ¬ (l < 0 ∨ 2 * c.max + 1 < l)) : ltE c l t = ftE c t 511 (t + 1) := by unfold ltE; rw [if_neg (by omega), if_neg h2]
theorem ltM_no {c : Circ} {l t : Int} (h : ltE c l t ≠ 0) : ltM c l t = 0 := if_neg h
theorem ltM_ok {c : Circ} {l t : Int} (h : ltE c l t = 0) : ltM c l t = atM c.max l t := if_pos h
theorem vrE_look {c : Circ} {n : Int} (h : (lookM c).2 ≠ 0) : vrE c n = (lookM c).2 := if_pos h
theorem vrE_rg {c : Circ} {n : Int} (h : (lookM c).2 = 0) (h2 : n < 1 ∨ 512 < n) : vrE c n = 1 := by unfold vrE; rw [if_neg (by omega), if_pos h2]
theorem vrE_ok {c : Circ} {n : Int} (h : (lookM c).2 = 0) (h2 : ¬ (n < 1 ∨ 512 < n)) (h3 : ¬ 262144 < 1 + n * c.max) : vrE c n = 0 := by unfold vrE; rw [if_neg (by omega), if_neg h2, if_neg h3]
theorem vrE_ft {c : Circ} {n : Int} (h2 : ¬ (n < 1 ∨ 512 < n)) : ftE c (n - 1) 511 n = vrE c n := by
  unfold vrE ftE
  split
  · rfl
  · first
    | rw [if_neg h2, if_neg (show ¬ (n - 1 < 0 ∨ 511 < n - 1) by omega)]
    | rw [if_neg (show ¬ (n - 1 < 0 ∨ 511 < n - 1) by omega)]
theorem vrE_zero {c : Circ} {n : Int} (h : vrE c n = 0) : (lookM c).2 = 0 ∧ 1 ≤ n ∧ n ≤ 512 ∧ 1 + n * c.max ≤ 262144 := by
  unfold vrE at h
  split at h
  · exact absurd h (by assumption)
  · split at h
    · cases h
    · split at h
      · cases h
      · exact ⟨by omega, by omega, by omega, by omega⟩
theorem vrM_no {c : Circ} {n : Int} (h : vrE c n ≠ 0) : vrM c n = 0 := if_neg h
theorem vrM_ok {c : Circ} {n : Int} (h : vrE c n = 0) : vrM c n = 1 + n * c.max := if_pos h
attribute [local irreducible] WC WL WX WS WO OX Does DoesU Enters CV Pure thenQ blockQ retQ Wants retQC GC GL GS GX RdB thenG blockG retG Rd At gt CVN CVM
set_option maxRecDepth 100000
theorem LitP16_cv {w : World} {c : Circ} {h js : Hd} {l t : Int} (H : CirIn w c h js) (hx : -9223372036854775808 ≤ t ∧ t ≤ 9223372036854775807) : CVN Try.prog 19 [.agg (ccells c h).toArray, nu l, nu t] w fun v N => N = [] ∧ v = .tuple #[nu (ltM c l t), nu (ltE c l t)] := by
  have hrd : ∀ Γ, In Γ (.old w none_) → ∀ w', Mem w' Γ → CVN Try.prog 47 [.agg (ccells c h).toArray] w' _ := fun Γ hi w' M => ready16_cv (H.chg (hi.old M))
  have hlk : ∀ n, (n = t + 1 ∨ 511 < t) → ∀ Γ, In Γ (.old w none_) → ∀ w', Mem w' Γ → CVN Try.prog 36 [.agg (ccells c h).toArray, nu t, nu 511, nu n] w' fun v N => N = [] ∧ v = .tuple #[.agg (ccells c h).toArray, nu (ftE c t 511 (t + 1))] := fun n hn Γ hi w' M => by
    have := looked_cv (t := t) (most := 511) (n := n) (H.chg (hi.old M)) (fun h0 h1 => by omega)
    rcases hn with rfl | hb
    · exact this
    · rw [ftE_n n (t + 1) (.inr hb)] at this
      exact this
  refine CVN.enter 43 [6, 7] Try.func19 rfl rfl rfl (by decide) rfl ?_
  by_cases he : (lookM c).2 = 0
  · have R := right_of H.at_ H.sane he
    have m0 := R.m0
    have m1 := R.m1
    rw [he] at hrd
    by_cases hl : l < 0 ∨ 2 * c.max + 1 < l
    · have hz := ltE_rg (t := t) he hl
      rw [ltM_no (by rw [hz]; decide), hz]
      by_cases h0 : l < 0
      · repeat' (first
 | (apply G_call; eq_refl; eq_refl; (apply hrd; (repeat first | exact In.here | apply In.there | apply In.skip)); rintro _ _ ⟨rfl, rfl⟩)
 | (apply GC_seqK; intro K hK)
 | (apply hK; clear hK K)
 | (apply GC_region)
 | (apply GL_nil)
 | (apply thenG_normal)
 | (apply thenG_ret)
 | (apply GC_ret)
 | (apply GC_skip)
 | (apply GC_if_true; eq_refl)
 | (apply GC_if_false; eq_refl)
 | (apply retG2; eq_refl; eq_refl)
 | (apply GL_on; eq_refl; eq_refl)
 | (apply GL_off; eq_refl; eq_refl)
 | (apply G_pv; eq_refl; first | exact trivial | omega)
 | (apply G_ldW; eq_refl; (repeat first | exact In.here | apply In.there | apply In.skip); eq_refl)
 | (apply G_cmpT; eq_refl; eq_refl; omega)
 | (apply G_cmpF; eq_refl; eq_refl; omega)
 | (apply G_alloc; eq_refl; intro _)
 | (apply G_box; eq_refl; eq_refl; intro _)
 | (apply G_stW; (first | exact wr_p | kernel_rfl); eq_refl; eq_refl; eq_refl; eq_refl; (repeat first | exact Upd.here | apply Upd.there | apply Upd.skip); eq_refl))
        exact ⟨[], (by repeat first | exact Wk.nil | exact Wk.refl | (apply Wk.cons; (focus ((repeat first | exact Rem.here | apply Rem.there | apply Rem.skip); done))) | apply Wk.nilv | apply Wk.last | apply Wk.drop), rfl, rfl⟩
      · repeat' (first
 | (apply G_call; eq_refl; eq_refl; (apply hrd; (repeat first | exact In.here | apply In.there | apply In.skip)); rintro _ _ ⟨rfl, rfl⟩)
 | (apply GC_seqK; intro K hK)
 | (apply hK; clear hK K)
 | (apply GC_region)
 | (apply GL_nil)
 | (apply thenG_normal)
 | (apply thenG_ret)
 | (apply GC_ret)
 | (apply GC_skip)
 | (apply GC_if_true; eq_refl)
 | (apply GC_if_false; eq_refl)
 | (apply retG2; eq_refl; eq_refl)
 | (apply GL_on; eq_refl; eq_refl)
 | (apply G_pv; eq_refl; first | exact trivial | omega)
 | (apply G_field; eq_refl)
 | (apply G_ld; eq_refl; (repeat first | exact In.here | apply In.there | apply In.skip); eq_refl)
 | (apply G_ldW; eq_refl; (repeat first | exact In.here | apply In.there | apply In.skip); eq_refl)
 | (apply G_cmpT; eq_refl; eq_refl; omega)
 | (apply G_cmpF; eq_refl; eq_refl; omega)
 | (apply G_alloc; eq_refl; intro _)
 | (apply G_box; eq_refl; eq_refl; intro _)
 | (apply G_stW; (first | exact wr_p | kernel_rfl); eq_refl; eq_refl; eq_refl; eq_refl; (repeat first | exact Upd.here | apply Upd.there | apply Upd.skip); eq_refl))
        exact ⟨[], (by repeat first | exact Wk.nil | exact Wk.refl | (apply Wk.cons; (focus ((repeat first | exact Rem.here | apply Rem.there | apply Rem.skip); done))) | apply Wk.nilv | apply Wk.last | apply Wk.drop), rfl, rfl⟩
    · have hz := ltE_in (t := t) he hl
      by_cases hf : ftE c t 511 (t + 1) = 0
      · obtain ⟨_, t0, t1, _⟩ := ftE_zero hf
        obtain ⟨z0, z1⟩ := mul_le t0 (by omega : t ≤ 600) m0 m1
        rw [hf] at hz hlk
        have hat : ∀ Γ, ∀ w', Mem w' Γ → CVN Try.prog 43 [.agg (ccells c h).toArray, nu l, nu t] w' _ := fun Γ w' M => at_cv (h := h) (by omega) (by omega) z0 z1
        rw [ltM_ok hz, hz]
        repeat' (first
 | (apply G_call; eq_refl; eq_refl; (apply hrd; (repeat first | exact In.here | apply In.there | apply In.skip)); rintro _ _ ⟨rfl, rfl⟩)
 | (apply G_call; eq_refl; eq_refl; (apply (hlk _ (.inl rfl)); (repeat first | exact In.here | apply In.there | apply In.skip)); rintro _ _ ⟨rfl, rfl⟩)
 | (apply G_call; eq_refl; eq_refl; (apply hat); rintro _ _ ⟨rfl, rfl⟩)
 | (apply GC_seqK; intro K hK)
 | (apply hK; clear hK K)
 | (apply GC_region)
 | (apply GL_nil)
 | (apply thenG_normal)
 | (apply GC_ret)
 | (apply GC_skip)
 | (apply GC_if_false; eq_refl)
 | (apply retG2; eq_refl; eq_refl)
 | (apply GL_on; eq_refl; eq_refl)
 | (apply G_pv; eq_refl; first | exact trivial | omega)
 | (apply G_field; eq_refl)
 | (apply G_ld; eq_refl; (repeat first | exact In.here | apply In.there | apply In.skip); eq_refl)
 | (apply G_ldW; eq_refl; (repeat first | exact In.here | apply In.there | apply In.skip); eq_refl)
 | (apply G_cmpF; eq_refl; eq_refl; omega)
 | (apply G_alloc; eq_refl; intro _)
 | (apply G_box; eq_refl; eq_refl; intro _)
 | (apply G_stW; (first | exact wr_p | kernel_rfl); eq_refl; eq_refl; eq_refl; eq_refl; (repeat first | exact Upd.here | apply Upd.there | apply Upd.skip); eq_refl))
        exact ⟨[], (by repeat first | exact Wk.nil | exact Wk.refl | (apply Wk.cons; (focus ((repeat first | exact Rem.here | apply Rem.there | apply Rem.skip); done))) | apply Wk.nilv | apply Wk.last | apply Wk.drop), rfl, rfl⟩
      · rw [ltM_no (by rw [hz]; exact hf), hz]
        generalize ftE c t 511 (t + 1) = ε at *
        by_cases hb : 511 < t
        · repeat' (first
 | (apply G_call; eq_refl; eq_refl; (apply hrd; (repeat first | exact In.here | apply In.there | apply In.skip)); rintro _ _ ⟨rfl, rfl⟩)
 | (apply GC_seqK; intro K hK)
 | (apply hK; clear hK K)
 | (apply GC_region)
 | (apply GL_nil)
 | (apply thenG_normal)
 | (apply GC_skip)
 | (apply GC_if_false; eq_refl)
 | (apply GL_on; eq_refl; eq_refl)
 | (apply G_pv; eq_refl; first | exact trivial | omega)
 | (apply G_field; eq_refl)
 | (apply G_ld; eq_refl; (repeat first | exact In.here | apply In.there | apply In.skip); eq_refl)
 | (apply G_ldW; eq_refl; (repeat first | exact In.here | apply In.there | apply In.skip); eq_refl)
 | (apply G_cmpF; eq_refl; eq_refl; omega)
 | (apply G_alloc; eq_refl; intro _)
 | (apply G_box; eq_refl; eq_refl; intro _)
 | (apply G_stW; (first | exact wr_p | kernel_rfl); eq_refl; eq_refl; eq_refl; eq_refl; (repeat first | exact Upd.here | apply Upd.there | apply Upd.skip); eq_refl))
          all_goals (try (apply G_addW; eq_refl; eq_refl))
          repeat' (first
 | (apply G_call; eq_refl; eq_refl; (apply (hlk _ (.inr hb)); (repeat first | exact In.here | apply In.there | apply In.skip)); rintro _ _ ⟨rfl, rfl⟩)
 | (apply GC_seqK; intro K hK)
 | (apply hK; clear hK K)
 | (apply GC_region)
 | (apply GL_nil)
 | (apply thenG_normal)
 | (apply thenG_ret)
 | (apply GC_ret)
 | (apply GC_if_true; eq_refl)
 | (apply retG2; eq_refl; eq_refl)
 | (apply GL_on; eq_refl; eq_refl)
 | (apply G_pv; eq_refl; first | exact trivial | omega)
 | (apply G_cmpT; eq_refl; eq_refl; omega)
 | (apply G_stW; (first | exact wr_p | kernel_rfl); eq_refl; eq_refl; eq_refl; eq_refl; (repeat first | exact Upd.here | apply Upd.there | apply Upd.skip); eq_refl))
          exact ⟨[], (by repeat first | exact Wk.nil | exact Wk.refl | (apply Wk.cons; (focus ((repeat first | exact Rem.here | apply Rem.there | apply Rem.skip); done))) | apply Wk.nilv | apply Wk.last | apply Wk.drop), rfl, rfl⟩
        · repeat' (first
 | (apply G_call; eq_refl; eq_refl; (apply hrd; (repeat first | exact In.here | apply In.there | apply In.skip)); rintro _ _ ⟨rfl, rfl⟩)
 | (apply G_call; eq_refl; eq_refl; (apply (hlk _ (.inl rfl)); (repeat first | exact In.here | apply In.there | apply In.skip)); rintro _ _ ⟨rfl, rfl⟩)
 | (apply GC_seqK; intro K hK)
 | (apply hK; clear hK K)
 | (apply GC_region)
 | (apply GL_nil)
 | (apply thenG_normal)
 | (apply thenG_ret)
 | (apply GC_ret)
 | (apply GC_skip)
 | (apply GC_if_true; eq_refl)
 | (apply GC_if_false; eq_refl)
 | (apply retG2; eq_refl; eq_refl)
 | (apply GL_on; eq_refl; eq_refl)
 | (apply G_pv; eq_refl; first | exact trivial | omega)
 | (apply G_field; eq_refl)
 | (apply G_ld; eq_refl; (repeat first | exact In.here | apply In.there | apply In.skip); eq_refl)
 | (apply G_ldW; eq_refl; (repeat first | exact In.here | apply In.there | apply In.skip); eq_refl)
 | (apply G_cmpT; eq_refl; eq_refl; omega)
 | (apply G_cmpF; eq_refl; eq_refl; omega)
 | (apply G_alloc; eq_refl; intro _)
 | (apply G_box; eq_refl; eq_refl; intro _)
 | (apply G_stW; (first | exact wr_p | kernel_rfl); eq_refl; eq_refl; eq_refl; eq_refl; (repeat first | exact Upd.here | apply Upd.there | apply Upd.skip); eq_refl))
          exact ⟨[], (by repeat first | exact Wk.nil | exact Wk.refl | (apply Wk.cons; (focus ((repeat first | exact Rem.here | apply Rem.there | apply Rem.skip); done))) | apply Wk.nilv | apply Wk.last | apply Wk.drop), rfl, rfl⟩
  · have hz := ltE_look (l := l) (t := t) he
    rw [ltM_no (by rw [hz]; exact he), hz]
    generalize (lookM c).2 = ε at *
    repeat' (first
 | (apply G_call; eq_refl; eq_refl; (apply hrd; (repeat first | exact In.here | apply In.there | apply In.skip)); rintro _ _ ⟨rfl, rfl⟩)
 | (apply GC_seqK; intro K hK)
 | (apply hK; clear hK K)
 | (apply GC_region)
 | (apply GL_nil)
 | (apply thenG_normal)
 | (apply thenG_ret)
 | (apply GC_ret)
 | (apply GC_if_true; eq_refl)
 | (apply retG2; eq_refl; eq_refl)
 | (apply GL_on; eq_refl; eq_refl)
 | (apply G_pv; eq_refl; first | exact trivial | omega)
 | (apply G_ldW; eq_refl; (repeat first | exact In.here | apply In.there | apply In.skip); eq_refl)
 | (apply G_cmpT; eq_refl; eq_refl; omega)
 | (apply G_alloc; eq_refl; intro _)
 | (apply G_box; eq_refl; eq_refl; intro _)
 | (apply G_stW; (first | exact wr_p | kernel_rfl); eq_refl; eq_refl; eq_refl; eq_refl; (repeat first | exact Upd.here | apply Upd.there | apply Upd.skip); eq_refl))
    exact ⟨[], (by repeat first | exact Wk.nil | exact Wk.refl | (apply Wk.cons; (focus ((repeat first | exact Rem.here | apply Rem.there | apply Rem.skip); done))) | apply Wk.nilv | apply Wk.last | apply Wk.drop), rfl, rfl⟩
theorem many16_cv {w : World} {c : Circ} {h js : Hd} {n : Int} (H : CirIn w c h js) (n0 : 0 ≤ n) (n1 : n ≤ 512) : CVN Try.prog 53 [.agg (ccells c h).toArray, nu n] w fun v N => N = [] ∧ v = .tuple #[.agg (ccells c h).toArray, nu (ftE c (n - 1) 511 n)] := by
  have hlk : ∀ Γ, In Γ (.old w none_) → ∀ w', Mem w' Γ → CVN Try.prog 36 [.agg (ccells c h).toArray, nu (n - 1), nu 511, nu n] w' _ := fun Γ hi w' M => looked_cv (t := n - 1) (most := 511) (n := n) (H.chg (hi.old M)) (fun h0 h1 => by omega)
  generalize ftE c (n - 1) 511 n = ε at *
  refine CVN.enterC1 (t := 69) 13 4 5 Try.func53 rfl rfl rfl rfl ?_
  repeat' (first
 | (apply G_call; eq_refl; eq_refl; (apply hlk; (repeat first | exact In.here | apply In.there | apply In.skip)); rintro _ _ ⟨rfl, rfl⟩)
 | (apply GC_seqK; intro K hK)
 | (apply hK; clear hK K)
 | (apply GC_region)
 | (apply GL_nil)
 | (apply thenG_normal)
 | (apply GC_ret)
 | (apply retGC1r; eq_refl; (repeat first | exact In.here | apply In.there | apply In.skip); eq_refl; eq_refl)
 | (apply GL_on; eq_refl; eq_refl)
 | (apply G_pv; eq_refl; first | exact trivial | omega)
 | (apply G_ldW; eq_refl; (repeat first | exact In.here | apply In.there | apply In.skip); eq_refl)
 | (apply G_alloc; eq_refl; intro _)
 | (apply G_box; eq_refl; eq_refl; intro _)
 | (apply G_stW; (first | exact wr_p | kernel_rfl); eq_refl; eq_refl; eq_refl; eq_refl; (repeat first | exact Upd.here | apply Upd.there | apply Upd.skip); eq_refl))
  exact ⟨[], (by repeat first | exact Wk.nil | exact Wk.refl | (apply Wk.cons; (focus ((repeat first | exact Rem.here | apply Rem.there | apply Rem.skip); done))) | apply Wk.nilv | apply Wk.last | apply Wk.drop), rfl, rfl⟩
theorem VarsP16_cv {w : World} {c : Circ} {h js : Hd} {n : Int} (H : CirIn w c h js) : CVN Try.prog 22 [.agg (ccells c h).toArray, nu n] w fun v N => N = [] ∧ v = .tuple #[nu (vrM c n), nu (vrE c n)] := by
  refine CVN.enter 26 [4, 5] Try.func22 rfl rfl rfl (by decide) rfl ?_
  by_cases hr : n < 1 ∨ 512 < n
  · have hz : vrE c n ≠ 0 := fun h => by have := vrE_zero h; omega
    have hm : ∀ Γ, In Γ (.old w none_) → ∀ w', Mem w' Γ → CVN Try.prog 53 [.agg (ccells c h).toArray, nu 0] w' fun v N => N = [] ∧ v = .tuple #[.agg (ccells c h).toArray, nu (vrE c n)] := fun Γ hi w' M => by
      have e : ftE c (0 - 1) 511 0 = vrE c n := by
        by_cases he : (lookM c).2 = 0
        · rw [ftE_rg he (by omega), vrE_rg he hr]
        · rw [ftE_look he, vrE_look he]
      have := many16_cv (n := 0) (H.chg (hi.old M)) (by omega) (by omega)
      rw [e] at this
      exact this
    rw [vrM_no hz]
    generalize vrE c n = ε at *
    by_cases h0 : n < 1
    · repeat' (first
 | (apply G_call; eq_refl; eq_refl; (apply hm; (repeat first | exact In.here | apply In.there | apply In.skip)); rintro _ _ ⟨rfl, rfl⟩)
 | (apply GC_seqK; intro K hK)
 | (apply hK; clear hK K)
 | (apply GC_region)
 | (apply GL_nil)
 | (apply thenG_normal)
 | (apply thenG_ret)
 | (apply GC_ret)
 | (apply GC_if_true; eq_refl)
 | (apply retG2; eq_refl; eq_refl)
 | (apply GL_on; eq_refl; eq_refl)
 | (apply GL_off; eq_refl; eq_refl)
 | (apply G_pv; eq_refl; first | exact trivial | omega)
 | (apply G_ldW; eq_refl; (repeat first | exact In.here | apply In.there | apply In.skip); eq_refl)
 | (apply G_cmpT; eq_refl; eq_refl; omega)
 | (apply G_alloc; eq_refl; intro _)
 | (apply G_box; eq_refl; eq_refl; intro _)
 | (apply G_stW; (first | exact wr_p | kernel_rfl); eq_refl; eq_refl; eq_refl; eq_refl; (repeat first | exact Upd.here | apply Upd.there | apply Upd.skip); eq_refl))
      exact ⟨[], (by repeat first | exact Wk.nil | exact Wk.refl | (apply Wk.cons; (focus ((repeat first | exact Rem.here | apply Rem.there | apply Rem.skip); done))) | apply Wk.nilv | apply Wk.last | apply Wk.drop), rfl, rfl⟩
    · repeat' (first
 | (apply G_call; eq_refl; eq_refl; (apply hm; (repeat first | exact In.here | apply In.there | apply In.skip)); rintro _ _ ⟨rfl, rfl⟩)
 | (apply GC_seqK; intro K hK)
 | (apply hK; clear hK K)
 | (apply GC_region)
 | (apply GL_nil)
 | (apply thenG_normal)
 | (apply thenG_ret)
 | (apply GC_ret)
 | (apply GC_if_true; eq_refl)
 | (apply retG2; eq_refl; eq_refl)
 | (apply GL_on; eq_refl; eq_refl)
 | (apply G_pv; eq_refl; first | exact trivial | omega)
 | (apply G_ldW; eq_refl; (repeat first | exact In.here | apply In.there | apply In.skip); eq_refl)
 | (apply G_cmpT; eq_refl; eq_refl; omega)
 | (apply G_cmpF; eq_refl; eq_refl; omega)
 | (apply G_alloc; eq_refl; intro _)
 | (apply G_box; eq_refl; eq_refl; intro _)
 | (apply G_stW; (first | exact wr_p | kernel_rfl); eq_refl; eq_refl; eq_refl; eq_refl; (repeat first | exact Upd.here | apply Upd.there | apply Upd.skip); eq_refl))
      exact ⟨[], (by repeat first | exact Wk.nil | exact Wk.refl | (apply Wk.cons; (focus ((repeat first | exact Rem.here | apply Rem.there | apply Rem.skip); done))) | apply Wk.nilv | apply Wk.last | apply Wk.drop), rfl, rfl⟩
  · have hm : ∀ Γ, In Γ (.old w none_) → ∀ w', Mem w' Γ → CVN Try.prog 53 [.agg (ccells c h).toArray, nu n] w' fun v N => N = [] ∧ v = .tuple #[.agg (ccells c h).toArray, nu (vrE c n)] := fun Γ hi w' M => by
      have := many16_cv (n := n) (H.chg (hi.old M)) (by omega) (by omega)
      rw [vrE_ft hr] at this
      exact this
    by_cases hz : vrE c n = 0
    · have he := (vrE_zero hz).1
      have R := right_of H.at_ H.sane he
      have m0 := R.m0
      have m1 := R.m1
      obtain ⟨z0, z1⟩ := mul_le (by omega : 0 ≤ n) (by omega : n ≤ 600) m0 m1
      have hv : ∀ Γ, ∀ w', Mem w' Γ → CVN Try.prog 54 [.agg (ccells c h).toArray, nu n] w' _ := fun Γ w' M => vars_cv (h := h) z0 z1
      rw [vrM_ok hz, hz]
      rw [hz] at hm
      repeat' (first
 | (apply G_call; eq_refl; eq_refl; (apply hm; (repeat first | exact In.here | apply In.there | apply In.skip)); rintro _ _ ⟨rfl, rfl⟩)
 | (apply G_call; eq_refl; eq_refl; (apply hv); rintro _ _ ⟨rfl, rfl⟩)
 | (apply GC_seqK; intro K hK)
 | (apply hK; clear hK K)
 | (apply GC_region)
 | (apply GL_nil)
 | (apply thenG_normal)
 | (apply GC_ret)
 | (apply GC_skip)
 | (apply GC_if_false; eq_refl)
 | (apply retG2; eq_refl; eq_refl)
 | (apply GL_on; eq_refl; eq_refl)
 | (apply G_pv; eq_refl; first | exact trivial | omega)
 | (apply G_ldW; eq_refl; (repeat first | exact In.here | apply In.there | apply In.skip); eq_refl)
 | (apply G_cmpF; eq_refl; eq_refl; omega)
 | (apply G_alloc; eq_refl; intro _)
 | (apply G_box; eq_refl; eq_refl; intro _)
 | (apply G_stW; (first | exact wr_p | kernel_rfl); eq_refl; eq_refl; eq_refl; eq_refl; (repeat first | exact Upd.here | apply Upd.there | apply Upd.skip); eq_refl))
      exact ⟨[], (by repeat first | exact Wk.nil | exact Wk.refl | (apply Wk.cons; (focus ((repeat first | exact Rem.here | apply Rem.there | apply Rem.skip); done))) | apply Wk.nilv | apply Wk.last | apply Wk.drop), rfl, rfl⟩
    · rw [vrM_no hz]
      generalize vrE c n = ε at *
      repeat' (first
 | (apply G_call; eq_refl; eq_refl; (apply hm; (repeat first | exact In.here | apply In.there | apply In.skip)); rintro _ _ ⟨rfl, rfl⟩)
 | (apply GC_seqK; intro K hK)
 | (apply hK; clear hK K)
 | (apply GC_region)
 | (apply GL_nil)
 | (apply thenG_normal)
 | (apply thenG_ret)
 | (apply GC_ret)
 | (apply GC_skip)
 | (apply GC_if_true; eq_refl)
 | (apply GC_if_false; eq_refl)
 | (apply retG2; eq_refl; eq_refl)
 | (apply GL_on; eq_refl; eq_refl)
 | (apply G_pv; eq_refl; first | exact trivial | omega)
 | (apply G_ldW; eq_refl; (repeat first | exact In.here | apply In.there | apply In.skip); eq_refl)
 | (apply G_cmpT; eq_refl; eq_refl; omega)
 | (apply G_cmpF; eq_refl; eq_refl; omega)
 | (apply G_alloc; eq_refl; intro _)
 | (apply G_box; eq_refl; eq_refl; intro _)
 | (apply G_stW; (first | exact wr_p | kernel_rfl); eq_refl; eq_refl; eq_refl; eq_refl; (repeat first | exact Upd.here | apply Upd.there | apply Upd.skip); eq_refl))
      exact ⟨[], (by repeat first | exact Wk.nil | exact Wk.refl | (apply Wk.cons; (focus ((repeat first | exact Rem.here | apply Rem.there | apply Rem.skip); done))) | apply Wk.nilv | apply Wk.last | apply Wk.drop), rfl, rfl⟩
end SC
end Go.Proofs.Ytbmngkdnebklpaa
end
section
/- slices.Grow (the kit's contract laid at this program) and slices.Concat at clauses. -/
set_option linter.unusedVariables false
set_option linter.unusedSimpArgs false
namespace Go.Proofs.Ytbmngkdnebklpaa
namespace SC
open Go.Proofs
open Go.Shelf
set_option maxRecDepth 100000
def groRen : Ren := ⟨fun | 4 => 61 | n => n, fun | 0 => 0 | 3 => 3 | 4 => 4 | 9 => 9 | 20 => 20 | 22 => 32 | 25 => 67 | n => n, fun n => n⟩
theorem groLay : Lays8.n4 Try.prog groRen := {
  mixed := by kernel_rfl
  f4 := ⟨Try.f61.name, by rfl, by kernel_rfl⟩
  t0 := by kernel_rfl
  a0 := fun w => by kernel_rfl
  z0 := fun w => by kernel_rfl
  v0 := fun w => by kernel_rfl
  t3 := by kernel_rfl
  a3 := fun w => by kernel_rfl
  z3 := fun w => by kernel_rfl
  v3 := fun w => by kernel_rfl
  t4 := by kernel_rfl
  a4 := fun w => by kernel_rfl
  z4 := fun w => by kernel_rfl
  v4 := fun w => by kernel_rfl
  t9 := by kernel_rfl
  a9 := fun w => by kernel_rfl
  z9 := fun w => by kernel_rfl
  v9 := fun w => by kernel_rfl
  t20 := by kernel_rfl
  a20 := fun w => by kernel_rfl
  z20 := fun w => by kernel_rfl
  v20 := fun w => by kernel_rfl
  t22 := by kernel_rfl
  a22 := fun w => by kernel_rfl
  z22 := fun w => by kernel_rfl
  v22 := fun w => by kernel_rfl }
theorem grow_cv {w : World} {n : Nat} (h0 : 0 < n) (h1 : n ≤ 1000000) : CVN Try.prog 61 [.slice none 0 0, nu (n : Int)] w fun v N => ∃ b k, v = .slice (some ⟨b, 0, none⟩) 0 k ∧ N = [.vec (encS (β := Int)) 1 67 (some ⟨b, 0, none⟩) k []] := by
  have T : Ty Try.prog 67 _ 1 _ 24 false := inferInstance
  have hi := T.info
  cases hi0 : Try.prog.info? 67 with
  | none => rw [hi0] at hi; cases hi
  | some i0 =>
    rw [hi0] at hi
    simp only [Option.map_some, Option.some.injEq, Prod.mk.injEq] at hi
    obtain ⟨e1, e2, e3⟩ := hi
    have hc := Any8.slices_Grow_grow groLay i0 _ hi0 e1 (by omega) none 0 0 n [] w (Nat.le_refl _) (by omega) (by rw [e3]; omega) (by omega) (by simp) (fun _ => rfl) (fun a ha => by cases ha)
    refine cv_of hc ?_
    rw [show groRen.t 25 = 67 from rfl, show (0 + n : Nat) = n by omega]
    have hle := grownCap_ge w n 0 67
    have hml := grownCap_le_maxLen w n 0 67 (by unfold maxLen; omega)
    generalize grownCap w n 0 67 = G at *
    refine ⟨_, ?_, w.heap.size, G, rfl, rfl⟩
    generalize hcs : ((([] : List Value).toArray ++ Builtin.zeroCells (Value.slice none 0 0).cells (n - 0) ++ Builtin.zeroCells (Value.slice none 0 0).cells (G - n)) : Array Value) = cs
    have hz : cs.size = G := by rw [← hcs]; simp [Builtin.zeroCells, Value.cells]; omega
    have M1 := (Mem.start w).drew.new cs 67
    have hb : (Ent.vec (encS (β := Int)) 1 67 (some ⟨w.heap.size, 0, none⟩) G []).ok (w.drew.alloc (.cells cs 67)) :=
      ⟨by simp, .inr ⟨w.heap.size, G, cs, rfl, Nat.zero_le _, heap_alloc_new w.drew _, Nat.zero_le _, hml, by rw [hz, Nat.mul_one], by simp⟩⟩
    refine M1.tail.cons hb fun k hk ho => ?_
    obtain ⟨E, hE, h2⟩ := ho
    simp only [Ent.own, Value.ownBlock, Option.some.injEq] at hk
    exact (List.pairwise_cons.1 M1.ap).1 E hE k hk.symm h2
/-- How long all together. -/
abbrev CatL := List (Hdl × List (Hdl × List Int))
def catN (Q : CatL) : Nat := (Q.flatMap (·.2)).length
theorem catN_take (Q : CatL) (i : Nat) : catN (Q.take i) ≤ catN Q := by
  unfold catN
  conv => rhs; rw [← List.take_append_drop i Q, List.flatMap_append, List.length_append]
  omega
attribute [local irreducible] WC WL WX WS WO OX Does DoesU Enters CV Pure thenQ blockQ retQ Wants retQC GC GL GS GX RdB thenG blockG retG Rd At gt CVN CVM
theorem concat_cv {w : World} {A : Option Addr} {k : Nat} {Q : CatL} (H : RowA w encS 1 A Q) (H2 : ∀ q ∈ Q, RowA w encS 1 q.1.1 q.2 ∧ (q.1.1 = none → q.1.2 = 0)) (hq : Q.length ≤ 1000) (h0 : 0 < catN Q) (h1 : catN Q ≤ 1000000) :
    CVN Try.prog 32 [.slice A Q.length k] w fun v N => ∃ B c, v = .slice B (Q.flatMap (·.2)).length c ∧ N = [.vec encS 1 67 B c (Q.flatMap (·.2))] := by
  have hgr : ∀ Γ, ∀ w', Mem w' Γ → CVN Try.prog 61 [.slice none 0 0, nu (catN Q : Int)] w' _ := fun Γ w' M => grow_cv h0 h1
  refine CVN.enter 36 [2] Try.func32 rfl rfl rfl (by decide) rfl ?_
  repeat' (first
 | (apply GC_seqK; intro K hK)
 | (apply hK; clear hK K)
 | (apply GC_block)
 | (apply GC_region)
 | (apply GL_nil)
 | (apply thenG_normal)
 | (apply GL_on; eq_refl; eq_refl)
 | (apply G_pv; eq_refl; first | exact trivial | omega)
 | (apply G_len; eq_refl))
  refine GC_loopK [0, 9, 10] (fun i : Nat => [(11, nu i), (3, nu (catN (Q.take i) : Nat))]) (fun _ => [.old w none_]) (fun i => i ≤ Q.length) (fun i => Q.length - i) 0 (by repeat first | exact Pick.nil | (apply Pick.cons; eq_refl)) (by repeat first | exact trivial | refine ⟨rfl, ?_⟩) (by repeat first | exact Wk.nil | exact Wk.refl | (apply Wk.cons; (focus ((repeat first | exact Rem.here | apply Rem.there | apply Rem.skip); done))) | apply Wk.nilv | apply Wk.last | apply Wk.drop) (Nat.zero_le _) ?_
  intro i hi
  have cn := catN_take Q i
  rcases Nat.lt_or_ge i Q.length with hlt | hge
  · have g1 := gt_nat hlt
    have e1 : catN (Q.take (i + 1)) = catN (Q.take i) + (gt Q (i : Int)).2.length := by unfold catN; rw [flat_snoc hlt, List.length_append]
    have cn1 := catN_take Q (i + 1)
    generalize hx : gt Q (i : Int) = x at *
    obtain ⟨x1, l1⟩ := x
    dsimp only at e1
    repeat' (first
 | (apply G_rd; eq_refl; (first | (apply Rd.own; (repeat first | exact In.here | apply In.there | apply In.skip); infer_instance) | (apply Rd.old; (repeat first | exact In.here | apply In.there | apply In.skip); assumption) | (apply Rd.oldR; (repeat first | exact In.here | apply In.there | apply In.skip); assumption) | exact Rd.nil | assumption); (case ih => infer_instance); omega; omega; (rw [hx]; dsimp only [encS]; eq_refl))
 | (apply GC_seqK; intro K hK)
 | (apply hK; clear hK K)
 | (apply GC_block)
 | (apply GC_region)
 | (apply GL_nil)
 | (apply thenG_normal)
 | (apply blockG_normal)
 | (apply GC_skip)
 | (apply GC_if_true; eq_refl)
 | (apply GC_if_false; eq_refl)
 | (apply GL_on; eq_refl; eq_refl)
 | (apply G_pv; eq_refl; first | exact trivial | omega)
 | (apply G_cmpT; eq_refl; eq_refl; omega)
 | (apply G_cmpF; eq_refl; eq_refl; omega)
 | (apply G_len; eq_refl)
 | (apply G_ix; eq_refl; eq_refl; (first | (apply Rd.own; (repeat first | exact In.here | apply In.there | apply In.skip); infer_instance) | (apply Rd.old; (repeat first | exact In.here | apply In.there | apply In.skip); assumption) | (apply Rd.oldR; (repeat first | exact In.here | apply In.there | apply In.skip); assumption) | exact Rd.nil | assumption); (first | eq_refl | omega); omega; omega))
    have e2 : ((catN (Q.take (i + 1)) : Nat) : Int) = (catN (Q.take i) : Nat) + (l1.length : Int) := by omega
    refine ⟨i + 1, ?_, (by repeat first | exact Wk.nil | exact Wk.refl | (apply Wk.cons; (focus ((repeat first | exact Rem.here | apply Rem.there | apply Rem.skip); done))) | apply Wk.nilv | apply Wk.last | apply Wk.drop), hlt, by omega⟩
    rw [e2]
    exact (by repeat first | exact trivial | refine ⟨rfl, ?_⟩)
  · obtain rfl : i = Q.length := by omega
    rw [List.take_length] at cn ⊢
    repeat' (first
 | (apply G_call; eq_refl; eq_refl; (apply hgr); rintro _ _ ⟨b, G, rfl, rfl⟩)
 | (apply GC_seqK; intro K hK)
 | (apply hK; clear hK K)
 | (clear hK K; apply hK; clear hK K)
 | (apply GC_block)
 | (apply GC_region)
 | (apply GL_nil)
 | (apply thenG_normal)
 | (apply thenG_exit)
 | (apply blockG_hit)
 | (apply GC_exit)
 | (apply GC_if_false; eq_refl)
 | (apply GL_on; eq_refl; eq_refl)
 | (apply G_pv; eq_refl; first | exact trivial | omega)
 | (apply G_cmpF; eq_refl; eq_refl; omega)
 | (apply G_len; eq_refl))
    refine GC_loopK [25, 26] (fun s : Nat × Option Addr × Nat => [(27, nu s.1), (6, .slice s.2.1 ((Q.take s.1).flatMap (·.2)).length s.2.2)]) (fun s => [.vec encS 1 67 s.2.1 s.2.2 ((Q.take s.1).flatMap (·.2)), .old w none_]) (fun s => s.1 ≤ Q.length) (fun s => Q.length - s.1) (0, some ⟨b, 0, none⟩, G) (by repeat first | exact Pick.nil | (apply Pick.cons; eq_refl)) (by repeat first | exact trivial | refine ⟨rfl, ?_⟩) (by repeat first | exact Wk.nil | exact Wk.refl | (apply Wk.cons; (focus ((repeat first | exact Rem.here | apply Rem.there | apply Rem.skip); done))) | apply Wk.nilv | apply Wk.last | apply Wk.drop) (Nat.zero_le _) ?_
    rintro ⟨i, B, kB⟩ hi
    dsimp only at hi ⊢
    have cn := catN_take Q i
    rcases Nat.lt_or_ge i Q.length with hlt | hge
    · have e1 := flat_snoc (f := (·.2)) hlt
      have cn1 := catN_take Q (i + 1)
      obtain ⟨hx1, hx2⟩ := H2 _ (gt_mem (l := Q) (i := (i : Int)) (by omega) (by omega))
      rw [show catN (Q.take (i + 1)) = _ from congrArg List.length e1, List.length_append] at cn1
      change ((Q.take i).flatMap (·.2)).length ≤ _ at cn
      generalize hx : gt Q (i : Int) = x at *
      obtain ⟨x1, l1⟩ := x
      dsimp only at e1 cn1 hx1 hx2
      generalize (Q.take i).flatMap (·.2) = l at *
      repeat' (first
 | (apply G_rd; eq_refl; (first | (apply Rd.own; (repeat first | exact In.here | apply In.there | apply In.skip); infer_instance) | (apply Rd.old; (repeat first | exact In.here | apply In.there | apply In.skip); assumption) | (apply Rd.oldR; (repeat first | exact In.here | apply In.there | apply In.skip); assumption) | exact Rd.nil | assumption); (case ih => infer_instance); omega; omega; (rw [hx]; dsimp only [encS]; eq_refl))
 | (apply G_appR; (first | exact wr_p | kernel_rfl); eq_refl; eq_refl; (intro A c; (repeat first | exact Upd.here | apply Upd.there | apply Upd.skip)); infer_instance; (first | (apply Rd.own; (repeat first | exact In.here | apply In.there | apply In.skip); infer_instance) | (apply Rd.old; (repeat first | exact In.here | apply In.there | apply In.skip); assumption) | (apply Rd.oldR; (repeat first | exact In.here | apply In.there | apply In.skip); assumption) | exact Rd.nil | assumption); exact hx2; eq_refl; eq_refl; eq_refl; omega; decide; intro A9 k9)
 | (apply GC_seqK; intro K hK)
 | (apply hK; clear hK K)
 | (apply GC_block)
 | (apply GC_region)
 | (apply GL_nil)
 | (apply thenG_normal)
 | (apply blockG_normal)
 | (apply GC_skip)
 | (apply GC_if_true; eq_refl)
 | (apply GL_on; eq_refl; eq_refl)
 | (apply G_pv; eq_refl; first | exact trivial | omega)
 | (apply G_cmpT; eq_refl; eq_refl; omega)
 | (apply G_ix; eq_refl; eq_refl; (first | (apply Rd.own; (repeat first | exact In.here | apply In.there | apply In.skip); infer_instance) | (apply Rd.old; (repeat first | exact In.here | apply In.there | apply In.skip); assumption) | (apply Rd.oldR; (repeat first | exact In.here | apply In.there | apply In.skip); assumption) | exact Rd.nil | assumption); (first | eq_refl | omega); omega; omega))
      refine ⟨(i + 1, A9, k9), ?_, ?_, hlt, by dsimp only; omega⟩
      · dsimp only
        rw [e1]
        exact (by repeat first | exact trivial | refine ⟨rfl, ?_⟩)
      · dsimp only
        rw [e1]
        exact (by repeat first | exact Wk.nil | exact Wk.refl | (apply Wk.cons; (focus ((repeat first | exact Rem.here | apply Rem.there | apply Rem.skip); done))) | apply Wk.nilv | apply Wk.last | apply Wk.drop)
    · obtain rfl : i = Q.length := by omega
      rw [List.take_length]
      repeat' (first
 | (apply GC_seqK; intro K hK)
 | (apply hK; clear hK K)
 | (clear hK K; apply hK; clear hK K)
 | (apply GC_region)
 | (apply GL_nil)
 | (apply thenG_normal)
 | (apply thenG_exit)
 | (apply blockG_hit)
 | (apply GC_ret)
 | (apply GC_exit)
 | (apply GC_if_false; eq_refl)
 | (apply retG1; eq_refl)
 | (apply GL_on; eq_refl; eq_refl)
 | (apply G_pv; eq_refl; first | exact trivial | omega)
 | (apply G_cmpF; eq_refl; eq_refl; omega))
      exact ⟨[.vec encS 1 67 B kB (Q.flatMap (·.2))], (by repeat first | exact Wk.nil | exact Wk.refl | (apply Wk.cons; (focus ((repeat first | exact Rem.here | apply Rem.there | apply Rem.skip); done))) | apply Wk.nilv | apply Wk.last | apply Wk.drop), B, kB, rfl, rfl⟩
end SC
end Go.Proofs.Ytbmngkdnebklpaa
end
section
/- frames: Run. -/
set_option linter.unusedVariables false
set_option linter.unusedSimpArgs false
namespace Go.Proofs.Ytbmngkdnebklpaa
namespace SC
open Go.Proofs
/-- How many clauses so many steps have. -/
noncomputable def rnN (c : Circ) (n : Int) : Int := 1 + ((firstS c).length : Int) + n * (3 * (c.ands.length : Int) + (c.constraints.length : Int)) + 2 * (n - 1) * (c.latches.length : Int)
/-- What is wrong with so many steps' formula. -/
noncomputable def rnE (c : Circ) (n : Int) : Int := if vrE c n ≠ 0 then vrE c n else if 524288 < rnN c n then 6 else 0
noncomputable def rnL (c : Circ) (n : Int) : List (List Int) := if rnE c n = 0 then runS c (n - 1).toNat else []
noncomputable def rnV (c : Circ) (n : Int) : Int := if rnE c n = 0 then 1 + n * c.max else 0
theorem rnE_vr {c : Circ} {n : Int} (h : vrE c n ≠ 0) : rnE c n = vrE c n := if_pos h
theorem rnE_sz {c : Circ} {n : Int} (h : vrE c n = 0) (h2 : 524288 < rnN c n) : rnE c n = 6 := by unfold rnE; rw [if_neg (by omega), if_pos h2]
theorem rnE_ok {c : Circ} {n : Int} (h : vrE c n = 0) (h2 : ¬ 524288 < rnN c n) : rnE c n = 0 := by unfold rnE; rw [if_neg (by omega), if_neg h2]
theorem rnL_no {c : Circ} {n : Int} (h : rnE c n ≠ 0) : rnL c n = [] := if_neg h
theorem rnL_ok {c : Circ} {n : Int} (h : rnE c n = 0) : rnL c n = runS c (n - 1).toNat := if_pos h
theorem rnV_no {c : Circ} {n : Int} (h : rnE c n ≠ 0) : rnV c n = 0 := if_neg h
theorem rnV_ok {c : Circ} {n : Int} (h : rnE c n = 0) : rnV c n = 1 + n * c.max := if_pos h
theorem rnE_zero {c : Circ} {n : Int} (h : rnE c n = 0) : vrE c n = 0 ∧ rnN c n ≤ 524288 := by
  unfold rnE at h
  split at h
  · exact absurd h (by assumption)
  · split at h
    · cases h
    · exact ⟨by omega, by omega⟩
theorem run_num {n a b l : Int} (h1 : 1 ≤ n) (h2 : n ≤ 512) (a0 : 0 ≤ a) (a1 : a ≤ 16384) (b0 : 0 ≤ b) (b1 : b ≤ 16384) (l0 : 0 ≤ l) (l1 : l ≤ 16384) :
    (0 ≤ n * (3 * a + b) ∧ n * (3 * a + b) ≤ 100000000) ∧ (0 ≤ 2 * (n - 1) * l ∧ 2 * (n - 1) * l ≤ 100000000) ∧ (n - 1) * 2 * l = 2 * (n - 1) * l := by
  have h3 := Int.mul_le_mul h2 (by omega : 3 * a + b ≤ 65536) (by omega) (by decide : (0 : Int) ≤ 512)
  have h4 := Int.mul_le_mul (by omega : 2 * (n - 1) ≤ 1022) l1 l0 (by decide : (0 : Int) ≤ 1022)
  refine ⟨⟨Int.mul_nonneg (by omega) (by omega), by omega⟩, ⟨Int.mul_nonneg (by omega) l0, by omega⟩, ?_⟩
  rw [Int.mul_comm (n - 1) 2]
theorem runS_le {c : Circ} (R : Right c) {j : Nat} (hj : j ≤ 512) : (runS c j).length ≤ 60000000 := by
  have n2 := R.nLat
  have n3 := R.nAnd
  have n4 := R.nCon
  have h1 := firstS_len c
  rw [runS_len]
  have h3 := Nat.mul_le_mul (by omega : j + 1 ≤ 513) (by omega : 3 * c.ands.length + c.constraints.length ≤ 65536)
  have h4 := Nat.mul_le_mul hj (by omega : 2 * c.latches.length ≤ 32768)
  omega
theorem map_len {α β : Type} {f : α → β} {l : List α} {m : List β} (h : l.map f = m) : l.length = m.length := by rw [← h, List.length_map]
/-- A formula and an error as an answer. -/
def CnfT (V : Int) (m : List (List Int)) (ε : Int) (v : Value) (N : Mm) : Prop := ∃ ps A k, v = .tuple #[.agg #[nu V, .slice A ps.length k], nu ε] ∧ ps.map (·.2) = m ∧ N = [.vec encS 1 67 A k ps, .any (bun (fam rowJ ps))]
theorem cat2_cv {Γ : Mm} {b b2 b3 kB : Nat} {B : Option Addr} {qs : List (Hdl × List Int)} (h1 : In Γ (.box b 32 [.slice (some ⟨b2, 0, none⟩) 1 1, .slice B qs.length kB])) (h2 : In Γ (.box b2 67 [.slice (some ⟨b3, 0, none⟩) 1 1])) (h3 : In Γ (.vec encS 1 67 B kB qs)) (hl : qs.length ≤ 900000) (w : World) (M : Mem w Γ) :
    CVN Try.prog 32 [.slice (some ⟨b, 0, none⟩) 2 2] w fun v N => ∃ C c, v = .slice C (qs.length + 1) c ∧ N = [.vec encS 1 67 C c (((some ⟨b3, 0, none⟩, 1), [-1]) :: qs)] := by
  have H : RowA w encS 1 (some ⟨b, 0, none⟩) ([((some ⟨b2, 0, none⟩, 1), [((some ⟨b3, 0, none⟩, 1), [-1])]), ((B, kB), qs)] : CatL) := RowA.blk (fun _ => rfl) (h1.box M)
  have hn : B = none → kB = 0 := fun hA => by
    rcases (h3.ok M).2 with ⟨h1, _⟩ | ⟨g, cap, cur, h1, _⟩
    · simp only [Value.slice.injEq] at h1; exact h1.2.2
    · simp only [Value.slice.injEq] at h1; rw [h1.1] at hA; cases hA
  have hc : catN ([((some ⟨b2, 0, none⟩, 1), [((some ⟨b3, 0, none⟩, 1), [-1])]), ((B, kB), qs)] : CatL) = qs.length + 1 := by simp [catN]
  have := concat_cv (k := 2) H (fun q hq => by
    rcases List.mem_cons.1 hq with rfl | hq
    · exact ⟨RowA.blk (enc := encS) (l := ([((some ⟨b3, 0, none⟩, 1), [-1])] : List (Hdl × List Int))) (fun _ => rfl) (h2.box M), fun h => by cases h⟩
    · rcases List.mem_singleton.1 hq with rfl
      exact ⟨RowA.own (enc := encS) (fun _ => rfl) (h3.ok M), hn⟩) (by simp) (by omega) (by omega)
  simpa using this
section
variable {P : Program} {n : Nat} {all : List Oper} {K : Env → Mm → Prop} {e : Env} {Γ : Mm} {d : Option Tmp} {ty t t0 : TypeId} {x y : Operand} {td : TypeDesc} {sz by_ : Nat} {zv : Value} {ag : Bool}
/-- append to a vector that was kept apart. -/
theorem G_appVP {α : Type} {enc : α → List Value} {j : Nat} {A : List Fl} {Θ : Mm} {r : List PStep} [U : Ty P t (.slice t0) 1 (.slice none 0 0) 24 false] [T : Ty P t0 td sz zv by_ ag] {A1 A2 : Option Addr} {c k1 k2 c2 : Nat} {l l2 : List α} {t2 : TypeId} {Θ2 : Option Addr → Nat → Mm} (h : ev e x = some (.slice A1 k1 c)) (h1 : ev e y = some (.slice A2 k2 c2))
    (hU : ∀ A' c', Upd Θ (.vec enc sz t0 A1 c l) (.vec enc sz t0 A' c' (l ++ l2)) (Θ2 A' c')) (N : Enc enc sz) (hi : In Γ (.vec enc sz t2 A2 c2 l2)) (hk1 : k1 = l.length) (hk : k2 = l2.length) (hzs : zv.cells.size = sz) (hby : (l.length + l2.length) * by_ ≤ 140737488355328) (hby1 : 1 ≤ by_)
    (hr : ∀ A' c', GS P n all K A (Θ2 A' c') r (push d (.slice A' (l ++ l2).length c') e) Γ) : GX P n all K (.c j A Θ r) d (.call { callee := .builtin .append, args := #[x, y], argTypes := #[t, t] }) ty e Γ := fun pos af g ho hg hd hA =>
  GS_priv (R := fun v Θ1 N => ∃ A' c', v = .slice A' (l ++ l2).length c' ∧ Θ1 = Θ2 A' c' ∧ N = []) ho hg hd hA (fun Δ w M =>
    (acts_appendR (P := P) (ty := ty) (t := t) (t0 := t0) (enc := enc) (Γ2 := fun A' c' => Θ2 A' c' ++ Γ) h hk1 h1 hk (fun A' c' => (hU A' c').left) (fun w M => Rd.own hi N w M.right) (fun w M hA => by
      have := hi.ok M.right
      rcases this.2 with ⟨h1, _⟩ | ⟨g, cap, cur, h1, _⟩
      · simp only [Value.slice.injEq] at h1; exact h1.2.2
      · simp only [Value.slice.injEq] at h1; rw [h1.1] at hA; cases hA) hzs hby hby1 Δ w M).mono fun v w' ⟨Γ', M', A', c', e1, e2⟩ => by
        subst e2
        exact ⟨Θ2 A' c', [], M', A', c', e1, rfl, rfl⟩) fun v Θ1 N ⟨A', c', e1, e2, e3⟩ => by rw [e1, e2, e3]; exact hr A' c'
theorem Wk.rows2 {Γ Γ1 Γ2 Γ3 Γ' : Mm} {ps qs rs : List (Hdl × List Int)} (h1 : Rem Γ (.any (bun (fam rowJ ps))) Γ1) (h2 : Rem Γ1 (.any (bun (fam rowJ qs))) Γ2) (h3 : Rem Γ2 (.any (bun (fam rowJ rs))) Γ3) (h : Wk Γ3 Γ') : Wk Γ (.any (bun (fam rowJ (ps ++ qs ++ rs))) :: Γ') :=
  (Wk.rows h1 h2 .refl).trans (Wk.rows .here h3 h)
end
attribute [local irreducible] WC WL WX WS WO OX Does DoesU Enters CV Pure thenQ blockQ retQ Wants retQC GC GL GS GX RdB thenG blockG retG Rd At gt CVN CVM
set_option maxRecDepth 100000
theorem RunP16_cv {w : World} {c : Circ} {h js : Hd} {n : Int} (H : CirIn w c h js) : CVN Try.prog 10 [.agg (ccells c h).toArray, nu n] w (CnfT (rnV c n) (rnL c n) (rnE c n)) := by
  have hvr : ∀ Γ, In Γ (.old w none_) → ∀ w', Mem w' Γ → CVN Try.prog 22 [.agg (ccells c h).toArray, nu n] w' _ := fun Γ hi w' M => VarsP16_cv (H.chg (hi.old M))
  refine CVN.enterC1 (t := 34) 79 4 5 Try.func10 rfl rfl rfl rfl ?_
  by_cases hz : vrE c n = 0
  · obtain ⟨he, n1, n2, n3⟩ := vrE_zero hz
    have R := right_of H.at_ H.sane he
    have m0 := R.m0
    have m1 := R.m1
    have l2 := R.nLat
    have l3 := R.nAnd
    have l4 := R.nCon
    have lf := firstS_len c
    obtain ⟨⟨z0, z1⟩, ⟨z2, z3⟩, _⟩ := run_num (a := (c.ands.length : Int)) (b := (c.constraints.length : Int)) (l := (c.latches.length : Int)) n1 n2 (by omega) (by omega) (by omega) (by omega) (by omega) (by omega)
    have hfs : ∀ Γ, In Γ (.old w none_) → ∀ w', Mem w' Γ → CVN Try.prog 33 [.agg (ccells c h).toArray] w' (CliR (firstS c)) := fun Γ hi w' M => firstS_cv R (H.at_.chg (hi.old M))
    have hst : ∀ t : Int, 0 ≤ t → t ≤ 512 → ∀ Γ, In Γ (.old w none_) → ∀ w', Mem w' Γ → CVN Try.prog 34 [.agg (ccells c h).toArray, nu t] w' (CliR (stepS c t)) := fun t t0 t1 Γ hi w' M => stepF_cv R (H.at_.chg (hi.old M)) t0 (by omega)
    have hnx : ∀ t : Int, 0 ≤ t → t ≤ 512 → ∀ Γ, In Γ (.old w none_) → ∀ w', Mem w' Γ → CVN Try.prog 35 [.agg (ccells c h).toArray, nu t] w' (CliR (nextS c t)) := fun t t0 t1 Γ hi w' M => nextS_cv R (H.at_.chg (hi.old M)) t0 (by omega)
    rw [hz, vrM_ok hz] at hvr
    by_cases hs : 524288 < rnN c n
    · rw [rnV_no (by rw [rnE_sz hz hs]; decide), rnL_no (by rw [rnE_sz hz hs]; decide), rnE_sz hz hs]
      unfold rnN at hs
      repeat' (first
 | (apply G_call; eq_refl; eq_refl; (apply hvr; (repeat first | exact In.here | apply In.there | apply In.skip)); rintro _ _ ⟨rfl, rfl⟩)
 | (apply G_call; eq_refl; eq_refl; (apply hfs; (repeat first | exact In.here | apply In.there | apply In.skip)); rintro _ _ ⟨qs, B, kB, rfl, hqs, rfl⟩; have lq := map_len hqs)
 | (apply G_call; eq_refl; eq_refl; (apply cat2_cv; (repeat first | exact In.here | apply In.there | apply In.skip); (repeat first | exact In.here | apply In.there | apply In.skip); (repeat first | exact In.here | apply In.there | apply In.skip); omega); rintro _ _ ⟨C, kC, rfl, rfl⟩)
 | (apply GC_seqK; intro K hK)
 | (apply hK; clear hK K)
 | (apply GC_region)
 | (apply GL_nil)
 | (apply thenG_normal)
 | (apply thenG_ret)
 | (apply GC_ret)
 | (apply GC_skip)
 | (apply GC_if_true; eq_refl)
 | (apply GC_if_false; eq_refl)
 | (apply retGC1r; eq_refl; (repeat first | exact In.here | apply In.there | apply In.skip); eq_refl; eq_refl)
 | (apply GL_on; eq_refl; eq_refl)
 | (apply G_pv; eq_refl; first | exact trivial | omega)
 | (apply G_field; eq_refl)
 | (apply G_ld; eq_refl; (repeat first | exact In.here | apply In.there | apply In.skip); eq_refl)
 | (apply G_ldW; eq_refl; (repeat first | exact In.here | apply In.there | apply In.skip); eq_refl)
 | (apply G_cmpT; eq_refl; eq_refl; omega)
 | (apply G_cmpF; eq_refl; eq_refl; omega)
 | (apply G_len; eq_refl)
 | (apply G_alloc; eq_refl; intro _)
 | (apply G_box; eq_refl; eq_refl; intro _)
 | (apply G_stW; (first | exact wr_p | kernel_rfl); eq_refl; eq_refl; eq_refl; eq_refl; (repeat first | exact Upd.here | apply Upd.there | apply Upd.skip); eq_refl)
 | (apply GX_pure; apply build34_)
 | (apply GX_pure; apply build69_0 <;> eq_refl)
 | (apply GX_pure; apply build34_0_1 <;> eq_refl)
 | (apply G_new (fun b => .slice (some ⟨b, 0, none⟩) 1 1); eq_refl; (intro _; apply buildS67_1 <;> eq_refl); intro _)
 | (apply G_new (fun b => .slice (some ⟨b, 0, none⟩) 1 1); eq_refl; (intro _; apply buildS32_1 <;> eq_refl); intro _)
 | (apply G_new (fun b => .slice (some ⟨b, 0, none⟩) 2 2); eq_refl; (intro _; apply buildS100_2 <;> eq_refl); intro _))
      exact ⟨[.vec encS 1 67 none 0 [], .any (bun (fam rowJ []))], Wk.nilv (rows_nil (by repeat first | exact Wk.nil | exact Wk.refl | (apply Wk.cons; (focus ((repeat first | exact Rem.here | apply Rem.there | apply Rem.skip); done))) | apply Wk.nilv | apply Wk.last | apply Wk.drop)), [], none, 0, rfl, rfl, rfl⟩
    · rw [rnV_ok (rnE_ok hz hs), rnL_ok (rnE_ok hz hs), rnE_ok hz hs]
      unfold rnN at hs
      have ls0 := stepS_len c 0
      repeat' (first
 | (apply G_call; eq_refl; eq_refl; (apply hvr; (repeat first | exact In.here | apply In.there | apply In.skip)); rintro _ _ ⟨rfl, rfl⟩)
 | (apply G_call; eq_refl; eq_refl; (apply hfs; (repeat first | exact In.here | apply In.there | apply In.skip)); rintro _ _ ⟨qs, B, kB, rfl, hqs, rfl⟩; have lq := map_len hqs)
 | (apply G_call; eq_refl; eq_refl; (apply cat2_cv; (repeat first | exact In.here | apply In.there | apply In.skip); (repeat first | exact In.here | apply In.there | apply In.skip); (repeat first | exact In.here | apply In.there | apply In.skip); omega); rintro _ _ ⟨C, kC, rfl, rfl⟩)
 | (apply G_call; eq_refl; eq_refl; (apply (hst 0 (by omega) (by omega)); (repeat first | exact In.here | apply In.there | apply In.skip)); rintro _ _ ⟨rs, D, kD, rfl, hrs, rfl⟩; have lr := map_len hrs)
 | (apply GC_seqK; intro K hK)
 | (apply hK; clear hK K)
 | (apply GC_block)
 | (apply GC_region)
 | (apply GL_nil)
 | (apply thenG_normal)
 | (apply GC_skip)
 | (apply GC_if_false; eq_refl)
 | (apply GL_on; eq_refl; eq_refl)
 | (refine GC_draws (id := 8) [.q 0, .q 1, .q 2, .c 3, .c 4, .q 5, .c 6] mixed (by kernel_rfl) (by kernel_rfl) ?_)
 | (apply GS_nil)
 | (apply GS_qon; eq_refl; eq_refl; eq_refl; eq_refl)
 | (apply GS_con; eq_refl; eq_refl; eq_refl; eq_refl)
 | (apply G_pv; eq_refl; first | exact trivial | omega)
 | (apply G_field; eq_refl)
 | (apply G_ld; eq_refl; (repeat first | exact In.here | apply In.there | apply In.skip); eq_refl)
 | (apply G_ldW; eq_refl; (repeat first | exact In.here | apply In.there | apply In.skip); eq_refl)
 | (apply G_cmpF; eq_refl; eq_refl; omega)
 | (apply G_len; eq_refl)
 | (apply G_alloc; eq_refl; intro _)
 | (apply G_box; eq_refl; eq_refl; intro _)
 | (apply G_st; (first | exact wr_p | kernel_rfl); eq_refl; eq_refl; eq_refl; eq_refl; (repeat first | exact Upd.here | apply Upd.there | apply Upd.skip); (first | decide | exact Nat.le_of_ble_eq_true rfl))
 | (apply G_stW; (first | exact wr_p | kernel_rfl); eq_refl; eq_refl; eq_refl; eq_refl; (repeat first | exact Upd.here | apply Upd.there | apply Upd.skip); eq_refl)
 | (apply G_appV; (first | exact wr_p | kernel_rfl); eq_refl; eq_refl; (intro A c; (repeat first | exact Upd.here | apply Upd.there | apply Upd.skip)); infer_instance; (repeat first | exact In.here | apply In.there | apply In.skip); eq_refl; eq_refl; eq_refl; ((try simp only [List.length_append, List.length_cons, List.length_nil]); omega); decide; intro _ _)
 | (apply GX_pure; apply build69_0 <;> eq_refl)
 | (apply GX_pure; apply build34_0_1 <;> eq_refl)
 | (apply G_new (fun b => .slice (some ⟨b, 0, none⟩) 1 1); eq_refl; (intro _; apply buildS67_1 <;> eq_refl); intro _)
 | (apply G_new (fun b => .slice (some ⟨b, 0, none⟩) 1 1); eq_refl; (intro _; apply buildS32_1 <;> eq_refl); intro _)
 | (apply G_new (fun b => .slice (some ⟨b, 0, none⟩) 2 2); eq_refl; (intro _; apply buildS100_2 <;> eq_refl); intro _))
      rename_i b2 b4 b8 b24 b25 b28 b9 A1 k1
      refine GC_loopK [1, 2, 4, 8, 9] (fun s : Nat × List (Hdl × List Int) × Option Addr × Nat => [(10, nu ((s.1 + 1 : Nat) : Int))]) (fun s => [.any (bun (fam rowJ s.2.1)), .vec encS 1 67 s.2.2.1 s.2.2.2 s.2.1, .box b9 34 [nu (1 + n * c.max), .slice s.2.2.1 s.2.1.length s.2.2.2], .box b8 69 (ccells c h), .box b4 34 [nu 0, .slice none 0 0], .box b2 29 (ccells c h), .old w none_])
        (fun s => (s.1 : Int) + 1 ≤ n ∧ s.2.1.map (·.2) = runS c s.1) (fun s => n.toNat - s.1) (0, ((some ⟨b24, 0, none⟩, 1), [-1]) :: qs ++ rs, A1, k1) (by repeat first | exact Pick.nil | (apply Pick.cons; eq_refl)) (by repeat first | exact trivial | refine ⟨rfl, ?_⟩) ?_ ⟨by dsimp only; omega, ?_⟩ ?_
      · refine Wk.trans (rows_nil .refl) ?_
        refine Wk.trans (Wk.add1 (l := [-1]) (b := b24) .here (by repeat first | exact Rem.here | apply Rem.there | apply Rem.skip) rfl (Nat.le_of_ble_eq_true rfl) .refl) ?_
        refine Wk.trans (Wk.rows (qs := qs) .here (by repeat first | exact Rem.here | apply Rem.there | apply Rem.skip) .refl) ?_
        exact Wk.rows .here (by repeat first | exact Rem.here | apply Rem.there | apply Rem.skip) (by repeat first | exact Wk.nil | exact Wk.refl | (apply Wk.cons; (focus ((repeat first | exact Rem.here | apply Rem.there | apply Rem.skip); done))) | apply Wk.nilv | apply Wk.last | apply Wk.drop)
      · dsimp only
        rw [List.cons_append, List.map_cons, List.map_append, hqs, hrs]
        rfl
      rintro ⟨j, ps, A, kA⟩ ⟨hj, hps⟩
      dsimp only at hj hps ⊢
      have lp := map_len hps
      have le := runS_le R (j := j) (by omega)
      rcases Int.lt_or_le ((j : Int) + 1) n with hlt | hge
      · have ln := nextS_len c (j : Int)
        have ls := stepS_len c ((j : Int) + 1)
        have hn : ∀ Γ, In Γ (.old w none_) → ∀ w', Mem w' Γ → CVN Try.prog 35 [.agg (ccells c h).toArray, nu (((j + 1 : Nat) : Int) - 1)] w' (CliR (nextS c (j : Int))) := by
          rw [show ((j + 1 : Nat) : Int) - 1 = (j : Int) by omega]
          exact hnx _ (by omega) (by omega)
        have hs1 : ∀ Γ, In Γ (.old w none_) → ∀ w', Mem w' Γ → CVN Try.prog 34 [.agg (ccells c h).toArray, nu ((j + 1 : Nat) : Int)] w' (CliR (stepS c ((j : Int) + 1))) := by
          rw [show ((j + 1 : Nat) : Int) = (j : Int) + 1 by omega]
          exact hst _ (by omega) (by omega)
        repeat' (first
 | (apply GC_drawsP (id := 12) (C := [.vec encS 1 67 A kA ps]) [.q 0, .q 1, .q 2, .q 3, .q 4, .q 7, .q 8, .c 5, .c 6, .c 9, .c 10, .q 11, .c 12]; exact mixed; kernel_rfl; kernel_rfl; (repeat first | exact Rems.nil | (apply Rems.cons; (focus ((repeat first | exact Rem.here | apply Rem.there | apply Rem.skip); done)))))
 | (apply GS_nilP)
 | (apply G_appVP (enc := encS); eq_refl; eq_refl; (intro A c; (repeat first | exact Upd.here | apply Upd.there | apply Upd.skip)); infer_instance; (repeat first | exact In.here | apply In.there | apply In.skip); eq_refl; eq_refl; eq_refl; ((try simp only [List.length_append]); omega); decide; intro _ _)
 | (apply G_call; eq_refl; eq_refl; (apply hn; (repeat first | exact In.here | apply In.there | apply In.skip)); rintro _ _ ⟨us, D2, kD2, rfl, hus, rfl⟩; have lu := map_len hus)
 | (apply G_call; eq_refl; eq_refl; (apply hs1; (repeat first | exact In.here | apply In.there | apply In.skip)); rintro _ _ ⟨vs, D3, kD3, rfl, hvs, rfl⟩; have lv := map_len hvs)
 | (apply GC_seqK; intro K hK)
 | (apply hK; clear hK K)
 | (apply GC_block)
 | (apply GC_region)
 | (apply GL_nil)
 | (apply thenG_normal)
 | (apply blockG_normal)
 | (apply GC_skip)
 | (apply GC_if_true; eq_refl)
 | (apply GL_on; eq_refl; eq_refl)
 | (apply GS_qon; eq_refl; eq_refl; eq_refl; eq_refl)
 | (apply GS_con; eq_refl; eq_refl; eq_refl; eq_refl)
 | (apply G_pv; eq_refl; first | exact trivial | omega)
 | (apply G_field; eq_refl)
 | (apply G_ld; eq_refl; (repeat first | exact In.here | apply In.there | apply In.skip); eq_refl)
 | (apply G_ldW; eq_refl; (repeat first | exact In.here | apply In.there | apply In.skip); eq_refl)
 | (apply G_cmpT; eq_refl; eq_refl; omega)
 | (apply G_st; (first | exact wr_p | kernel_rfl); eq_refl; eq_refl; eq_refl; eq_refl; (repeat first | exact Upd.here | apply Upd.there | apply Upd.skip); (first | decide | exact Nat.le_of_ble_eq_true rfl)))
        rename_i A5 k5 A6 k6
        refine ⟨(j + 1, ps ++ us ++ vs, A6, k6), (by repeat first | exact trivial | refine ⟨rfl, ?_⟩), ?_, ⟨by dsimp only; omega, ?_⟩, by dsimp only; omega⟩
        · dsimp only
          exact Wk.rows2 (by repeat first | exact Rem.here | apply Rem.there | apply Rem.skip) (by repeat first | exact Rem.here | apply Rem.there | apply Rem.skip) (by repeat first | exact Rem.here | apply Rem.there | apply Rem.skip) (by repeat first | exact Wk.nil | exact Wk.refl | (apply Wk.cons; (focus ((repeat first | exact Rem.here | apply Rem.there | apply Rem.skip); done))) | apply Wk.nilv | apply Wk.last | apply Wk.drop)
        · dsimp only
          rw [List.map_append, List.map_append, hps, hus, hvs]
          rfl
      · obtain rfl : n = (j : Int) + 1 := by omega
        repeat' (first
 | (apply GC_seqK; intro K hK)
 | (apply hK; clear hK K)
 | (clear hK K; apply hK; clear hK K)
 | (apply GC_region)
 | (apply GL_nil)
 | (apply thenG_normal)
 | (apply thenG_exit)
 | (apply blockG_hit)
 | (apply GC_ret)
 | (apply GC_exit)
 | (apply GC_if_false; eq_refl)
 | (apply retGC1r; eq_refl; (repeat first | exact In.here | apply In.there | apply In.skip); eq_refl; eq_refl)
 | (apply GL_on; eq_refl; eq_refl)
 | (apply G_pv; eq_refl; first | exact trivial | omega)
 | (apply G_ldW; eq_refl; (repeat first | exact In.here | apply In.there | apply In.skip); eq_refl)
 | (apply G_cmpF; eq_refl; eq_refl; omega)
 | (apply G_stW; (first | exact wr_p | kernel_rfl); eq_refl; eq_refl; eq_refl; eq_refl; (repeat first | exact Upd.here | apply Upd.there | apply Upd.skip); eq_refl))
        exact ⟨[.vec encS 1 67 A kA ps, .any (bun (fam rowJ ps))], (by repeat first | exact Wk.nil | exact Wk.refl | (apply Wk.cons; (focus ((repeat first | exact Rem.here | apply Rem.there | apply Rem.skip); done))) | apply Wk.nilv | apply Wk.last | apply Wk.drop), ps, A, kA, rfl, by rw [show ((j : Int) + 1 - 1).toNat = j by omega]; exact hps, rfl⟩
  · rw [rnV_no (by rw [rnE_vr hz]; exact hz), rnL_no (by rw [rnE_vr hz]; exact hz), rnE_vr hz]
    rw [vrM_no hz] at hvr
    generalize vrE c n = ε at *
    repeat' (first
 | (apply G_call; eq_refl; eq_refl; (apply hvr; (repeat first | exact In.here | apply In.there | apply In.skip)); rintro _ _ ⟨rfl, rfl⟩)
 | (apply GC_seqK; intro K hK)
 | (apply hK; clear hK K)
 | (apply GC_region)
 | (apply GL_nil)
 | (apply thenG_normal)
 | (apply thenG_ret)
 | (apply GC_ret)
 | (apply GC_if_true; eq_refl)
 | (apply retGC1r; eq_refl; (repeat first | exact In.here | apply In.there | apply In.skip); eq_refl; eq_refl)
 | (apply GL_on; eq_refl; eq_refl)
 | (apply G_pv; eq_refl; first | exact trivial | omega)
 | (apply G_ldW; eq_refl; (repeat first | exact In.here | apply In.there | apply In.skip); eq_refl)
 | (apply G_cmpT; eq_refl; eq_refl; omega)
 | (apply G_alloc; eq_refl; intro _)
 | (apply G_box; eq_refl; eq_refl; intro _)
 | (apply G_stW; (first | exact wr_p | kernel_rfl); eq_refl; eq_refl; eq_refl; eq_refl; (repeat first | exact Upd.here | apply Upd.there | apply Upd.skip); eq_refl)
 | (apply GX_pure; apply build34_))
    exact ⟨[.vec encS 1 67 none 0 [], .any (bun (fam rowJ []))], Wk.nilv (rows_nil (by repeat first | exact Wk.nil | exact Wk.refl | (apply Wk.cons; (focus ((repeat first | exact Rem.here | apply Rem.there | apply Rem.skip); done))) | apply Wk.nilv | apply Wk.last | apply Wk.drop)), [], none, 0, rfl, rfl, rfl⟩
end SC
end Go.Proofs.Ytbmngkdnebklpaa
end
section
/- The reference's Run. -/
set_option linter.unusedVariables false
set_option linter.unusedSimpArgs false
namespace Go.Proofs.Ytbmngkdnebklpaa
namespace SC
open Go.Proofs
attribute [local irreducible] WC WL WX WS WO OX Does DoesU Enters CV Pure thenQ blockQ retQ Wants retQC GC GL GS GX RdB thenG blockG retG Rd At gt CVN CVM
set_option maxRecDepth 100000
end SC
end Go.Proofs.Ytbmngkdnebklpaa
end
section
/- trestlelaw16: works, cost. -/
set_option linter.unusedVariables false
set_option linter.unusedSimpArgs false
namespace Go.Proofs.Ytbmngkdnebklpaa
namespace SC
open Go.Proofs
def cLt : Circ := ⟨1, [], [(2, 3, 0)], [], [], [], [], [], [], [], []⟩
theorem cLt_sizes : sizesM cLt = 0 := by
  unfold sizesM
  rw [if_neg (by simp [cLt]), if_neg]
  simp [cLt, Circ.lens, sumW, sumL]; decide
theorem cLt_defs : definesM cLt (T0 cLt) = ((0, 0), [(0, 0), (2, 0)]) := by decide
theorem cLt_tab : tabM cLt = [(0, 0), (2, 0)] := by unfold tabM; rw [cLt_defs]
theorem cLt_uses : usesM cLt (tabM cLt) = (0, 0) := by rw [cLt_tab]; decide
theorem cLt_all : All 0 (gateB (tabM cLt) cLt) [] := ⟨.nil, fun x hx => by have := hx.rg; unfold rg at this; omega⟩
theorem cLt_look : (lookM cLt).2 = 0 := by
  have hc : cycM cLt.ands.length (gateB (tabM cLt) cLt) = -1 := cycM_eq ⟨[], cLt_all, .inl ⟨rfl, rfl⟩⟩
  unfold lookM
  rw [cLt_sizes, cLt_defs, cLt_uses, hc]
  simp [cLt, goSym, goCom]
theorem cLt_sane : cLt.Sane := ⟨by simp [cLt], by simp [cLt], by simp [cLt], by simp [cLt], by simp [cLt], by simp [cLt]⟩
theorem cLt_okay : cLt.Okay := ⟨by simp [cLt, Circ.lens], by simp [cLt], (by intro x hx; simp [cLt] at hx; subst hx; simp [TriFits, fit64, fits]), by simp [cLt], by simp [cLt]⟩
theorem cLt_fits : cLt.Fits := ⟨by simp [cLt], by simp [cLt], by simp [cLt], by simp [cLt], by simp [cLt], by simp [cLt], by simp [cLt], by simp [cLt], by simp [cLt], by simp [cLt], by simp [cLt]⟩
def hLt (a : Nat) : Hd := fun | 2 => (some ⟨a, 0, none⟩, 1) | _ => (none, 0)
theorem cLt_in {w : World} {a : Nat} (ha : Blk w a 58 [nu 2, nu 3, nu 0]) : CirIn w cLt (hLt a) hNil :=
  ⟨⟨RowA.emp, RowA.blk (l := [(2, 3, 0)]) tlen ha, RowA.emp, RowA.emp, RowA.emp, fun k hk => absurd hk (Nat.not_lt_zero _), fun k hk => absurd hk (Nat.not_lt_zero _), RowA.emp, RowA.emp, RowA.emp, RowA.emp⟩, cLt_sane, cLt_okay, cLt_fits⟩
theorem cLt_ltE : ltE cLt 3 3 = 0 := by
  rw [ltE_in cLt_look (by decide)]
  exact ftE_ok cLt_look (by decide) (by decide)
theorem cLt_ltM : ltM cLt 3 3 = -5 := by rw [ltM_ok cLt_ltE]; decide
theorem cLt_vrE : vrE cLt 2 = 0 := vrE_ok cLt_look (by decide) (by decide)
theorem cLt_rnE : rnE cLt 2 = 0 := rnE_ok cLt_vrE (by unfold rnN; decide)
theorem cLt_rnV : rnV cLt 2 = 3 := by rw [rnV_ok cLt_rnE]; decide
theorem cLt_rnL : rnL cLt 2 = [[-1], [-2], [-3, -2], [3, 2]] := by rw [rnL_ok cLt_rnE]; decide
theorem cost_cv {w : World} {c : Circ} {h : Hd} {n : Int} : CVN Try.prog 9 [.agg (ccells c h).toArray, nu n] w fun v N => N = [] ∧ v = .bool (decide (40 < n ∧ 30 < c.max)) := by
  refine CVN.enter 12 [4] Try.func9 rfl rfl rfl (by decide) rfl ?_
  by_cases h1 : 40 < n
  · by_cases h2 : 30 < c.max
    · rw [decide_eq_true ⟨h1, h2⟩]
      repeat' (first
 | (apply GC_seqK; intro K hK)
 | (apply hK; clear hK K)
 | (apply GC_region)
 | (apply GL_nil)
 | (apply GC_ret)
 | (apply retG1; eq_refl)
 | (apply GL_on; eq_refl; eq_refl)
 | (apply G_pv; eq_refl; first | exact trivial | omega)
 | (apply G_field; eq_refl)
 | (apply G_ld; eq_refl; (repeat first | exact In.here | apply In.there | apply In.skip); eq_refl)
 | (apply G_cmpT; eq_refl; eq_refl; omega)
 | (apply G_box; eq_refl; eq_refl; intro _))
      exact ⟨[], (by repeat first | exact Wk.nil | exact Wk.refl | (apply Wk.cons; (focus ((repeat first | exact Rem.here | apply Rem.there | apply Rem.skip); done))) | apply Wk.nilv | apply Wk.last | apply Wk.drop), rfl, rfl⟩
    · rw [decide_eq_false (fun h => h2 h.2)]
      repeat' (first
 | (apply GC_seqK; intro K hK)
 | (apply hK; clear hK K)
 | (apply GC_region)
 | (apply GL_nil)
 | (apply GC_ret)
 | (apply retG1; eq_refl)
 | (apply GL_on; eq_refl; eq_refl)
 | (apply G_pv; eq_refl; first | exact trivial | omega)
 | (apply G_field; eq_refl)
 | (apply G_ld; eq_refl; (repeat first | exact In.here | apply In.there | apply In.skip); eq_refl)
 | (apply G_cmpT; eq_refl; eq_refl; omega)
 | (apply G_cmpF; eq_refl; eq_refl; omega)
 | (apply G_box; eq_refl; eq_refl; intro _))
      exact ⟨[], (by repeat first | exact Wk.nil | exact Wk.refl | (apply Wk.cons; (focus ((repeat first | exact Rem.here | apply Rem.there | apply Rem.skip); done))) | apply Wk.nilv | apply Wk.last | apply Wk.drop), rfl, rfl⟩
  · rw [decide_eq_false (fun h => h1 h.1)]
    repeat' (first
 | (apply GC_seqK; intro K hK)
 | (apply hK; clear hK K)
 | (apply GC_region)
 | (apply GL_nil)
 | (apply GC_ret)
 | (apply retG1; eq_refl)
 | (apply GL_on; eq_refl; eq_refl)
 | (apply GL_off; eq_refl; eq_refl)
 | (apply G_pv; eq_refl; first | exact trivial | omega)
 | (apply G_cmpF; eq_refl; eq_refl; omega)
 | (apply G_box; eq_refl; eq_refl; intro _))
    exact ⟨[], (by repeat first | exact Wk.nil | exact Wk.refl | (apply Wk.cons; (focus ((repeat first | exact Rem.here | apply Rem.there | apply Rem.skip); done))) | apply Wk.nilv | apply Wk.last | apply Wk.drop), rfl, rfl⟩
attribute [local irreducible] WC WL WX WS WO OX Does DoesU Enters CV Pure thenQ blockQ retQ Wants retQC GC GL GS GX RdB thenG blockG retG Rd At CVN CVM
set_option maxRecDepth 100000
set_option maxHeartbeats 800000 in
theorem works16_cv {w : World} : CVN Try.prog 8 [] w fun v N => N = [] ∧ v = .bool true := by
  have hlt : ∀ Γ a, In Γ (.box a 58 [nu 2, nu 3, nu 0]) → ∀ w', Mem w' Γ → CVN Try.prog 19 [.agg (ccells cLt (hLt a)).toArray, nu 3, nu 3] w' fun v N => N = [] ∧ v = .tuple #[nu (-5), nu 0] := fun Γ a h1 w' M => by
    have := LitP16_cv (l := 3) (t := 3) (cLt_in (h1.box M)) (by decide)
    rwa [cLt_ltM, cLt_ltE] at this
  have hrun : ∀ Γ a, In Γ (.box a 58 [nu 2, nu 3, nu 0]) → ∀ w', Mem w' Γ → CVN Try.prog 10 [.agg (ccells cLt (hLt a)).toArray, nu 2] w' fun v N => ∃ (h0 h1 h2 h3 : Hdl) (A : Option Addr) (k : Nat), v = .tuple #[.agg #[nu 3, .slice A 4 k], nu 0] ∧ N = [.vec icell 1 3 h3.1 h3.2 [3, 2], .vec icell 1 3 h2.1 h2.2 [-3, -2], .vec icell 1 3 h1.1 h1.2 [-2], .vec icell 1 3 h0.1 h0.2 [-1], .vec encS 1 67 A k [(h0, [-1]), (h1, [-2]), (h2, [-3, -2]), (h3, [3, 2])]] := fun Γ a h1 w' M => by
    refine (RunP16_cv (n := 2) (cLt_in (h1.box M))).wk ?_
    rintro v N ⟨ps, A, k, rfl, hps, rfl⟩
    rw [cLt_rnL] at hps
    rw [cLt_rnV, cLt_rnE]
    match ps, hps with
    | [(q0, l0), (q1, l1), (q2, l2), (q3, l3)], hps =>
      simp only [List.map_cons, List.map_nil, List.cons.injEq, and_true] at hps
      obtain ⟨rfl, rfl, rfl, rfl⟩ := hps
      exact ⟨_, Wk.part (.cons (.there .here) .nil) bun_out .refl, q0, q1, q2, q3, A, k, rfl, rfl⟩
    | [], hps => simp at hps
    | [_], hps => simp at hps
    | [_, _], hps => simp at hps
    | [_, _, _], hps => simp at hps
    | _ :: _ :: _ :: _ :: _ :: _, hps => simp at hps
  refine CVN.enter 66 [0] Try.func8 rfl rfl rfl (by decide) rfl ?_
  repeat' (first
 | (apply G_cmpT; eq_refl; eq_refl; (exact rfl))
 | (apply G_ix; eq_refl; eq_refl; (first | (apply Rd.own; (repeat first | exact In.here | apply In.there | apply In.skip); infer_instance) | (apply Rd.old; (repeat first | exact In.here | apply In.there | apply In.skip); assumption) | (apply Rd.oldR; (repeat first | exact In.here | apply In.there | apply In.skip); assumption) | exact Rd.nil | assumption); eq_refl; (focus simp); (first | (exact (show (0 : Int) < ((2 : Nat) : Int) by decide)) | (exact (show (1 : Int) < ((2 : Nat) : Int) by decide)) | (exact (show (2 : Int) < ((4 : Nat) : Int) by decide))))
 | (apply G_rd; eq_refl; (first | (apply Rd.own; (repeat first | exact In.here | apply In.there | apply In.skip); infer_instance) | (apply Rd.old; (repeat first | exact In.here | apply In.there | apply In.skip); assumption) | (apply Rd.oldR; (repeat first | exact In.here | apply In.there | apply In.skip); assumption) | exact Rd.nil | assumption); (case ih => infer_instance); (focus simp); (first | (exact (show (0 : Int) < ((2 : Nat) : Int) by decide)) | (exact (show (1 : Int) < ((2 : Nat) : Int) by decide)) | (exact (show (2 : Int) < ((4 : Nat) : Int) by decide))); eq_refl)
 | (apply G_call; eq_refl; eq_refl; (apply hlt; (repeat first | exact In.here | apply In.there | apply In.skip)); rintro _ _ ⟨rfl, rfl⟩)
 | (apply G_call; eq_refl; eq_refl; (apply hrun; (repeat first | exact In.here | apply In.there | apply In.skip)); rintro _ _ ⟨h0, h1, h2, h3, A, k, rfl, rfl⟩)
 | (apply GC_seqK; intro K hK)
 | (apply hK; clear hK K)
 | (apply GC_region)
 | (apply GL_nil)
 | (apply thenG_normal)
 | (apply GC_ret)
 | (apply retG1; eq_refl)
 | (apply GL_on; eq_refl; eq_refl)
 | (apply G_pv; eq_refl; first | exact trivial | omega)
 | (apply G_field; eq_refl)
 | (apply G_ld; eq_refl; (repeat first | exact In.here | apply In.there | apply In.skip); eq_refl)
 | (apply G_ldW; eq_refl; (repeat first | exact In.here | apply In.there | apply In.skip); eq_refl)
 | (apply G_len; eq_refl)
 | (apply G_alloc; eq_refl; intro _)
 | (apply G_stW; (first | exact wr_p | kernel_rfl); eq_refl; eq_refl; eq_refl; eq_refl; (repeat first | exact Upd.here | apply Upd.there | apply Upd.skip); eq_refl)
 | (apply GX_pure; apply build58_0_1 <;> eq_refl)
 | (apply GX_pure; apply build29_0_2 <;> eq_refl)
 | (apply G_new (fun b => .slice (some ⟨b, 0, none⟩) 1 1); eq_refl; (intro _; apply buildS23_1 <;> eq_refl); intro _))
  exact ⟨[], (by repeat first | exact Wk.nil | exact Wk.refl | (apply Wk.cons; (focus ((repeat first | exact Rem.here | apply Rem.there | apply Rem.skip); done))) | apply Wk.nilv | apply Wk.last | apply Wk.drop), rfl, rfl⟩
end SC
end Go.Proofs.Ytbmngkdnebklpaa
end
section
/- trestlelaw16: FramesRuns, FramesParts: the walks. -/
set_option linter.unusedVariables false
set_option linter.unusedSimpArgs false
namespace Go.Proofs.Ytbmngkdnebklpaa
namespace SC
open Go.Proofs
theorem CnfAt.bun {Γ : Mm} {w : World} {A : Option Addr} {k : Nat} {ps : List (Hdl × List Int)} (hi : In Γ (.any (bun (cnB ps A k)))) (M : Mem w Γ) : CnfAt w A ps := by
  have M' := hi.bun M
  refine ⟨(In.here (E := .vec encS 1 67 A k ps) (Γ := fam rowJ ps)).row M', fun p hp => ?_⟩
  have hE := fam_mem (f := rowJ) hp (E := .vec icell 1 3 p.1.1 p.1.2 p.2) (by unfold rowJ; simp)
  exact (In.there (In.of hE)).row M'
theorem cnB_in {ps : List (Hdl × List Int)} {A : Option Addr} {k : Nat} : Wk [.vec encS 1 67 A k ps, .any (bun (fam rowJ ps))] [.any (bun (cnB ps A k))] := by
  refine Wk.trans ?_ bun_in
  exact (Wk.part (D := fam rowJ ps) (.cons (.there .here) .nil) bun_out .refl).trans (Wk.perm List.perm_append_comm)
/-- A formula, bound together; clauses, bound together. -/
def CnfB (V : Int) (m : List (List Int)) (ε : Int) (v : Value) (N : Mm) : Prop := ∃ ps A k, v = .tuple #[.agg #[nu V, .slice A ps.length k], nu ε] ∧ ps.map (·.2) = m ∧ N = [.any (bun (cnB ps A k))]
def CliB (m : List (List Int)) (ε : Int) (v : Value) (N : Mm) : Prop := ∃ ps A k, v = .tuple #[.slice A ps.length k, nu ε] ∧ ps.map (·.2) = m ∧ N = [.any (bun (cnB ps A k))]
theorem CnfT.to {P : Program} {f : FuncId} {args : List Value} {w : World} {V ε : Int} {m : List (List Int)} (h : CVN P f args w (CnfT V m ε)) : CVN P f args w (CnfB V m ε) := h.wk fun v N ⟨ps, A, k, e1, e2, e3⟩ => ⟨_, by rw [e3]; exact cnB_in, ps, A, k, e1, e2, rfl⟩
theorem CliT.to {P : Program} {f : FuncId} {args : List Value} {w : World} {ε : Int} {m : List (List Int)} (h : CVN P f args w (CliT m ε)) : CVN P f args w (CliB m ε) := h.wk fun v N ⟨ps, A, k, e1, e2, e3⟩ => ⟨_, by rw [e3]; exact cnB_in, ps, A, k, e1, e2, rfl⟩
theorem CVM.same {P : Program} {f : FuncId} {args : List Value} {w : World} {C C' : Mm} {R : Value → Mm → Prop} (h : CVM P f args w C' R) (he : ∀ k, owns C' k ↔ owns C k) : CVM P f args w C R := by
  have e : owns C' = owns C := funext fun k => propext (he k)
  unfold CVM at h ⊢
  rw [e] at h
  exact h
/-- Clauses that are few and short. -/
def SmC (m : List (List Int)) : Prop := m.length ≤ 1000000 ∧ Thin m
theorem nil_smc : SmC [] := ⟨Nat.zero_le _, fun l h => by cases h⟩
theorem rnL_len {c : Circ} {n : Int} (h : rnE c n = 0) : ((rnL c n).length : Int) = rnN c n := by
  obtain ⟨hv, _⟩ := rnE_zero h
  obtain ⟨_, n1, _, _⟩ := vrE_zero hv
  obtain ⟨j, rfl⟩ : ∃ j : Nat, n = (j : Int) + 1 := ⟨(n - 1).toNat, by omega⟩
  rw [rnL_ok h, show ((j : Int) + 1 - 1).toNat = j by omega, runS_len]
  unfold rnN
  rw [show 2 * ((j : Int) + 1 - 1) * (c.latches.length : Int) = (j : Int) * (2 * (c.latches.length : Int)) by rw [show (j : Int) + 1 - 1 = j by omega, Int.mul_comm 2 (j : Int), Int.mul_assoc]]
  simp only [Int.natCast_add, Int.natCast_mul]
  rfl
theorem rnL_sm (c : Circ) (n : Int) : SmC (rnL c n) := by
  by_cases h : rnE c n = 0
  · refine ⟨?_, by rw [rnL_ok h]; exact runS_thin c _⟩
    have := rnL_len h
    have := (rnE_zero h).2
    omega
  · rw [rnL_no h]
    exact nil_smc
attribute [local irreducible] WC WL WX WS WO OX Does DoesU Enters CV Pure thenQ blockQ retQ Wants retQC GC GL GS GX RdB thenG blockG retG Rd At gt CVN CVM
attribute [local irreducible] lentX bun
set_option maxRecDepth 100000
end SC
end Go.Proofs.Ytbmngkdnebklpaa
end
section
/- trestlelaw16: FramesGrow: the walk. -/
set_option linter.unusedVariables false
set_option linter.unusedSimpArgs false
namespace Go.Proofs.Ytbmngkdnebklpaa
namespace SC
open Go.Proofs
/-- Clauses of three parts against clauses of one. -/
theorem same3 {Γ : Mm} {m : List (List Int)} {A B : Option Addr} {k k2 : Nat} {ps us vs qs : List (Hdl × List Int)} (hs : SmC m) (h1 : In Γ (.vec encS 1 67 A k (ps ++ us ++ vs))) (a1 : In Γ (.any (bun (fam rowJ ps)))) (a2 : In Γ (.any (bun (fam rowJ us)))) (a3 : In Γ (.any (bun (fam rowJ vs))))
    (h2 : In Γ (.vec encS 1 67 B k2 qs)) (a4 : In Γ (.any (bun (fam rowJ qs)))) (e1 : (ps ++ us ++ vs).map (·.2) = m) (e2 : qs.map (·.2) = m) (w : World) (M : Mem w Γ) :
    CVN Try.prog 13 [.slice A (ps ++ us ++ vs).length k, .slice B qs.length k2] w fun v N => N = [] ∧ v = .bool true := by
  have hl := map_len e1
  have := hs.1
  have hr : ∀ {rs : List (Hdl × List Int)}, In Γ (.any (bun (fam rowJ rs))) → ∀ p ∈ rs, RowA w icell 1 p.1.1 p.2 := fun h p hp => by
    have hE := fam_mem (f := rowJ) hp (E := .vec icell 1 3 p.1.1 p.1.2 p.2) (by unfold rowJ; simp)
    exact (In.of hE).row (h.bun M)
  refine sameClauses_cv ⟨h1.row M, fun p hp => ?_⟩ (Cli.at h2 a4 M) (e1.trans e2.symm) (by omega) fun p hp => by
    have := hs.2 p.2 (by rw [← e1]; exact List.mem_map.2 ⟨p, hp, rfl⟩)
    omega
  rcases List.mem_append.1 hp with hp | hp
  · rcases List.mem_append.1 hp with hp | hp
    · exact hr a1 p hp
    · exact hr a2 p hp
  · exact hr a3 p hp
/-- The formula of one step more. -/
theorem rnL_more {c : Circ} {n : Int} (h1 : rnE c n = 0) (h2 : rnE c (n + 1) = 0) : rnL c (n + 1) = rnL c n ++ nextS c (n - 1) ++ stepS c n := by
  obtain ⟨_, n1, _, _⟩ := vrE_zero (rnE_zero h1).1
  obtain ⟨j, rfl⟩ : ∃ j : Nat, n = (j : Int) + 1 := ⟨(n - 1).toNat, by omega⟩
  rw [rnL_ok h1, rnL_ok h2, show ((j : Int) + 1 + 1 - 1).toNat = j + 1 by omega, show ((j : Int) + 1 - 1).toNat = j by omega, show (j : Int) + 1 - 1 = j by omega]
  rfl
attribute [local irreducible] WC WL WX WS WO OX Does DoesU Enters CV Pure thenQ blockQ retQ Wants retQC GC GL GS GX RdB thenG blockG retG Rd At gt CVN CVM
attribute [local irreducible] lentX bun
set_option maxRecDepth 100000
set_option maxHeartbeats 1600000 in
theorem framesGrow_cv {w : World} {c : Circ} {h js : Hd} {n : Int} (H : CirGot w c h js) (hx : -9223372036854775808 ≤ n ∧ n ≤ 9223372036854775807) : CVN Try.prog 3 [.agg (ccells c h).toArray, nu n] w fun v N => N = [] ∧ v = .bool true := by
  have sm1 := rnL_sm c n
  have sm2 := rnL_sm c (n + 1)
  have hG : ∀ t Γ, In Γ (.old w none_) → ∀ w', Mem w' Γ → CVN Try.prog 10 [.agg (ccells c h).toArray, nu t] w' (CnfT (rnV c t) (rnL c t) (rnE c t)) := fun t Γ ho w' M => RunP16_cv (H.toCirIn.chg (ho.old M))
  have hW : ∀ w', CVN Try.prog 8 [] w' _ := fun w' => works16_cv
  have hco : ∀ w', CVN Try.prog 9 [.agg (ccells c h).toArray, nu n] w' _ := fun w' => cost_cv
  refine CVN.enter 91 [4] Try.func3 rfl rfl rfl (by decide) rfl ?_
  by_cases hc : 40 < n ∧ 30 < c.max
  · rw [decide_eq_true hc] at hco
    repeat' (first
 | (apply G_call; eq_refl; eq_refl; (exact fun w' _ => hco w'); rintro _ _ ⟨rfl, rfl⟩)
 | (apply G_call; eq_refl; eq_refl; (exact fun w' _ => hW w'); rintro _ _ ⟨rfl, rfl⟩)
 | (apply GC_seqK; intro K hK)
 | (apply hK; clear hK K)
 | (apply GC_region)
 | (apply GL_nil)
 | (apply thenG_normal)
 | (apply thenG_ret)
 | (apply GC_ret)
 | (apply GC_skip)
 | (apply GC_if_true; eq_refl)
 | (apply GC_if_false; eq_refl)
 | (apply retG1; eq_refl)
 | (apply GL_on; eq_refl; eq_refl)
 | (apply GL_off; eq_refl; eq_refl)
 | (apply G_pv; eq_refl; first | exact trivial | omega)
 | (apply G_ldW; eq_refl; (repeat first | exact In.here | apply In.there | apply In.skip); eq_refl)
 | (apply G_box; eq_refl; eq_refl; intro _))
    exact ⟨[], (by repeat first | exact Wk.nil | exact Wk.refl | (apply Wk.cons; (focus ((repeat first | exact Rem.here | apply Rem.there | apply Rem.skip); done))) | apply Wk.nilv | apply Wk.last | apply Wk.drop), rfl, rfl⟩
  rw [decide_eq_false hc] at hco
  by_cases hc2 : 100 < n
  · repeat' (first
 | (apply G_call; eq_refl; eq_refl; (exact fun w' _ => hco w'); rintro _ _ ⟨rfl, rfl⟩)
 | (apply G_call; eq_refl; eq_refl; (exact fun w' _ => hW w'); rintro _ _ ⟨rfl, rfl⟩)
 | (apply GC_seqK; intro K hK)
 | (apply hK; clear hK K)
 | (apply GC_region)
 | (apply GL_nil)
 | (apply thenG_normal)
 | (apply thenG_ret)
 | (apply GC_ret)
 | (apply GC_skip)
 | (apply GC_if_true; eq_refl)
 | (apply GC_if_false; eq_refl)
 | (apply retG1; eq_refl)
 | (apply GL_on; eq_refl; eq_refl)
 | (apply G_pv; eq_refl; first | exact trivial | omega)
 | (apply G_ldW; eq_refl; (repeat first | exact In.here | apply In.there | apply In.skip); eq_refl)
 | (apply G_cmpT; eq_refl; eq_refl; omega)
 | (apply G_box; eq_refl; eq_refl; intro _))
    exact ⟨[], (by repeat first | exact Wk.nil | exact Wk.refl | (apply Wk.cons; (focus ((repeat first | exact Rem.here | apply Rem.there | apply Rem.skip); done))) | apply Wk.nilv | apply Wk.last | apply Wk.drop), rfl, rfl⟩
  have hG1 := hG n
  have hG2 := hG (n + 1)
  by_cases z1 : rnE c n = 0
  · by_cases z2 : rnE c (n + 1) = 0
    · have hmo := rnL_more z1 z2
      obtain ⟨he, n1, n2, n3⟩ := vrE_zero (rnE_zero z1).1
      obtain ⟨_, n4, n5, n6⟩ := vrE_zero (rnE_zero z2).1
      have q1 : ftE c (n - 1) 510 (n - 1 + 2) = 0 := ftE_ok he (by omega) (by rw [show n - 1 + 2 = n + 1 by omega]; omega)
      have q2 : ftE c n 511 (n + 1) = 0 := ftE_ok he (by omega) (by omega)
      have hN : ∀ Γ, In Γ (.old w none_) → ∀ w', Mem w' Γ → CVN Try.prog 11 [.agg (ccells c h).toArray, nu (n - 1)] w' (CliT (nextS c (n - 1)) 0) := fun Γ ho w' M => by
        have := NextP16_cv (t := n - 1) (H.toCirIn.chg (ho.old M)) (by omega)
        rwa [show nxS c (n - 1) = nextS c (n - 1) from if_pos q1, q1] at this
      have hS : ∀ Γ, In Γ (.old w none_) → ∀ w', Mem w' Γ → CVN Try.prog 12 [.agg (ccells c h).toArray, nu n] w' (CliT (stepS c n) 0) := fun Γ ho w' M => by
        have := StepP16_cv (t := n) (H.toCirIn.chg (ho.old M)) (by omega)
        rwa [show stS c n = stepS c n from if_pos q2, q2] at this
      have hm : (n + 1) * c.max = n * c.max + c.max := by rw [Int.add_mul, Int.one_mul]
      have R := right_of H.at_ H.sane he
      have m0 := R.m0
      have m2 := (mul_le (by omega : 0 ≤ n) (by omega) m0 R.m1).1
      have l1 := R.nLat
      have l2 := R.nAnd
      have l3 := R.nCon
      have l4 := nextS_len c (n - 1)
      have l5 := stepS_len c n
      have l6 := sm1.1
      rw [z1, rnV_ok z1] at hG1
      rw [z2, rnV_ok z2] at hG2
      repeat' (first
 | (apply G_call; eq_refl; eq_refl; (exact fun w' _ => hco w'); rintro _ _ ⟨rfl, rfl⟩)
 | (apply G_call; eq_refl; eq_refl; (exact fun w' _ => hW w'); rintro _ _ ⟨rfl, rfl⟩)
 | (apply G_call; eq_refl; eq_refl; (apply hG1; (repeat first | exact In.here | apply In.there | apply In.skip)); rintro _ _ ⟨ps, A, k, rfl, hps, rfl⟩; have lp := map_len hps)
 | (apply G_call; eq_refl; eq_refl; (apply hG2; (repeat first | exact In.here | apply In.there | apply In.skip)); rintro _ _ ⟨qs, B, kB, rfl, hqs, rfl⟩; have lq := map_len hqs)
 | (apply G_call; eq_refl; eq_refl; (apply hN; (repeat first | exact In.here | apply In.there | apply In.skip)); rintro _ _ ⟨us, D, kD, rfl, hus, rfl⟩; have lu := map_len hus)
 | (apply G_call; eq_refl; eq_refl; (apply hS; (repeat first | exact In.here | apply In.there | apply In.skip)); rintro _ _ ⟨vs, E, kE, rfl, hvs, rfl⟩; have lv := map_len hvs)
 | (apply G_appBV (enc := encS) ([] : List (Hdl × List Int)); (first | exact wr_p | kernel_rfl); eq_refl; eq_refl; infer_instance; (repeat first | exact Upd.here | apply Upd.there | apply Upd.skip); exact Dec.nil; (repeat first | exact In.here | apply In.there | apply In.skip); (intro A c; (repeat first | exact Upd.here | apply Upd.there | apply Upd.skip)); eq_refl; eq_refl; exact Nat.le_of_ble_eq_true rfl; eq_refl; eq_refl; (simp only [List.length_nil]; omega); decide; intro A5 k5)
 | (apply G_call; eq_refl; eq_refl; (apply (same3 (ps := ps) (us := us) (vs := vs) sm2); (repeat first | exact In.here | apply In.there | apply In.skip); (repeat first | exact In.here | apply In.there | apply In.skip); (repeat first | exact In.here | apply In.there | apply In.skip); (repeat first | exact In.here | apply In.there | apply In.skip); (repeat first | exact In.here | apply In.there | apply In.skip); (repeat first | exact In.here | apply In.there | apply In.skip); (rw [List.map_append, List.map_append, hps, hus, hvs, hmo]); exact hqs); rintro _ _ ⟨rfl, rfl⟩)
 | (apply GC_seqK; intro K hK)
 | (apply hK; clear hK K)
 | (apply GC_region)
 | (apply GL_nil)
 | (apply thenG_normal)
 | (apply GC_ret)
 | (apply GC_skip)
 | (apply GC_if_false; eq_refl)
 | (apply retG1; eq_refl)
 | (apply GL_on; eq_refl; eq_refl)
 | (apply G_pv; eq_refl; first | exact trivial | omega)
 | (apply G_field; eq_refl)
 | (apply G_ld; eq_refl; (repeat first | exact In.here | apply In.there | apply In.skip); eq_refl)
 | (apply G_ldW; eq_refl; (repeat first | exact In.here | apply In.there | apply In.skip); eq_refl)
 | (apply G_cmpT; eq_refl; eq_refl; omega)
 | (apply G_cmpF; eq_refl; eq_refl; omega)
 | (apply G_alloc; eq_refl; intro _)
 | (apply G_box; eq_refl; eq_refl; intro _)
 | (apply G_stW; (first | exact wr_p | kernel_rfl); eq_refl; eq_refl; eq_refl; eq_refl; (repeat first | exact Upd.here | apply Upd.there | apply Upd.skip); eq_refl)
 | (apply G_appV; (first | exact wr_p | kernel_rfl); eq_refl; eq_refl; (intro A c; (repeat first | exact Upd.here | apply Upd.there | apply Upd.skip)); infer_instance; (repeat first | exact In.here | apply In.there | apply In.skip); eq_refl; eq_refl; eq_refl; ((try simp only [List.length_append, List.length_cons, List.length_nil]); omega); decide; intro _ _)
 | (apply G_new (fun b => .slice (some ⟨b, 0, none⟩) 0 0); eq_refl; (intro _; apply buildS32_0); intro _))
      exact ⟨[], (by repeat first | exact Wk.nil | exact Wk.refl | (apply Wk.cons; (focus ((repeat first | exact Rem.here | apply Rem.there | apply Rem.skip); done))) | apply Wk.nilv | apply Wk.last | apply Wk.drop), rfl, rfl⟩
    · rw [z1] at hG1
      generalize rnV c n = V1 at *
      generalize rnV c (n + 1) = V2 at *
      generalize rnE c (n + 1) = ε2 at *
      repeat' (first
 | (apply G_call; eq_refl; eq_refl; (exact fun w' _ => hco w'); rintro _ _ ⟨rfl, rfl⟩)
 | (apply G_call; eq_refl; eq_refl; (exact fun w' _ => hW w'); rintro _ _ ⟨rfl, rfl⟩)
 | (apply G_call; eq_refl; eq_refl; (apply hG1; (repeat first | exact In.here | apply In.there | apply In.skip)); rintro _ _ ⟨ps, A, k, rfl, hps, rfl⟩; have lp := map_len hps)
 | (apply G_call; eq_refl; eq_refl; (apply hG2; (repeat first | exact In.here | apply In.there | apply In.skip)); rintro _ _ ⟨qs, B, kB, rfl, hqs, rfl⟩; have lq := map_len hqs)
 | (apply GC_seqK; intro K hK)
 | (apply hK; clear hK K)
 | (apply GC_region)
 | (apply GL_nil)
 | (apply thenG_normal)
 | (apply thenG_ret)
 | (apply GC_ret)
 | (apply GC_skip)
 | (apply GC_if_true; eq_refl)
 | (apply GC_if_false; eq_refl)
 | (apply retG1; eq_refl)
 | (apply GL_on; eq_refl; eq_refl)
 | (apply GL_off; eq_refl; eq_refl)
 | (apply G_pv; eq_refl; first | exact trivial | omega)
 | (apply G_ldW; eq_refl; (repeat first | exact In.here | apply In.there | apply In.skip); eq_refl)
 | (apply G_cmpT; eq_refl; eq_refl; omega)
 | (apply G_cmpF; eq_refl; eq_refl; omega)
 | (apply G_alloc; eq_refl; intro _)
 | (apply G_box; eq_refl; eq_refl; intro _)
 | (apply G_stW; (first | exact wr_p | kernel_rfl); eq_refl; eq_refl; eq_refl; eq_refl; (repeat first | exact Upd.here | apply Upd.there | apply Upd.skip); eq_refl))
      exact ⟨[], (by repeat first | exact Wk.nil | exact Wk.refl | (apply Wk.cons; (focus ((repeat first | exact Rem.here | apply Rem.there | apply Rem.skip); done))) | apply Wk.nilv | apply Wk.last | apply Wk.drop), rfl, rfl⟩
  · rw [rnL_no z1] at hG1
    generalize rnV c n = V1 at *
    generalize rnE c n = ε1 at *
    generalize rnV c (n + 1) = V2 at *
    generalize rnE c (n + 1) = ε2 at *
    repeat' (first
 | (apply G_call; eq_refl; eq_refl; (exact fun w' _ => hco w'); rintro _ _ ⟨rfl, rfl⟩)
 | (apply G_call; eq_refl; eq_refl; (exact fun w' _ => hW w'); rintro _ _ ⟨rfl, rfl⟩)
 | (apply G_call; eq_refl; eq_refl; (apply hG1; (repeat first | exact In.here | apply In.there | apply In.skip)); rintro _ _ ⟨ps, A, k, rfl, hps, rfl⟩; have lp : ps.length = 0 := by rw [map_len hps]; rfl)
 | (apply G_call; eq_refl; eq_refl; (apply hG2; (repeat first | exact In.here | apply In.there | apply In.skip)); rintro _ _ ⟨qs, B, kB, rfl, hqs, rfl⟩; have lq := map_len hqs)
 | (apply GC_seqK; intro K hK)
 | (apply hK; clear hK K)
 | (apply GC_region)
 | (apply GL_nil)
 | (apply thenG_normal)
 | (apply thenG_ret)
 | (apply GC_ret)
 | (apply GC_skip)
 | (apply GC_if_true; eq_refl)
 | (apply GC_if_false; eq_refl)
 | (apply retG1; eq_refl)
 | (apply GL_on; eq_refl; eq_refl)
 | (apply GL_off; eq_refl; eq_refl)
 | (apply G_pv; eq_refl; first | exact trivial | omega)
 | (apply G_field; eq_refl)
 | (apply G_ld; eq_refl; (repeat first | exact In.here | apply In.there | apply In.skip); eq_refl)
 | (apply G_ldW; eq_refl; (repeat first | exact In.here | apply In.there | apply In.skip); eq_refl)
 | (apply G_cmpT; eq_refl; eq_refl; omega)
 | (apply G_cmpF; eq_refl; eq_refl; omega)
 | (apply G_len; eq_refl)
 | (apply G_alloc; eq_refl; intro _)
 | (apply G_box; eq_refl; eq_refl; intro _)
 | (apply G_stW; (first | exact wr_p | kernel_rfl); eq_refl; eq_refl; eq_refl; eq_refl; (repeat first | exact Upd.here | apply Upd.there | apply Upd.skip); eq_refl))
    exact ⟨[], (by repeat first | exact Wk.nil | exact Wk.refl | (apply Wk.cons; (focus ((repeat first | exact Rem.here | apply Rem.there | apply Rem.skip); done))) | apply Wk.nilv | apply Wk.last | apply Wk.drop), rfl, rfl⟩
end SC
end Go.Proofs.Ytbmngkdnebklpaa
end
section
/- Lists of numbers and numbers that come in. -/
set_option linter.unusedVariables false
set_option linter.unusedSimpArgs false
namespace Go.Proofs.Ytbmngkdnebklpaa
namespace SC
open Go.Proofs
set_option maxRecDepth 100000
section
variable {H : Type} {enc : TypeId × Value → H} {W : World} {base : Nat} {spare : Nat → Bool} {held : Bool}
theorem openNumS {v : Value} {d : DataW H} {ps : List MemPlace} {r : Reach} {b0 : Nat} (hv : Value.okWide Try.prog W r b0 3 v) (h : DataW.Trod enc Try.prog W base spare held 3 v d ps) : ∃ a, v = nu a ∧ fits a := by
  obtain ⟨z, rfl, _⟩ := Go.WideShapes.okWide_int Try.underlying3 hv
  obtain ⟨fuel, hf⟩ := h
  obtain ⟨a, e, ha⟩ := openIntS (cs := [nu z]) hf
  cases (List.cons.inj e).1
  exact ⟨z, rfl, ha⟩
end
end SC
end Go.Proofs.Ytbmngkdnebklpaa
end

/- Texts of this seat, one behind the other: T15 N16 T16 O1 O2 O3 O4 O5 O6 O7 O8 O10 O11 O12 O13 O15 O18 T17 S25 T18 T19 T20. -/
import Derived.Test.YtclihihdgodloaaDoorQ3
import Derived.Test.YtclihihdgodloaaDoorRows
import Derived.Test.YtclihihdgodloaaDoorTie
import Derived.ProofKit
import Derived.LaidMore
import Derived.OpenShut
import Derived.Stop.Joined
import Derived.Shelf.Spec.SlicesGrow
section
/- The tables, as the rows' condition tells them. -/
set_option linter.unusedVariables false
set_option linter.unusedSimpArgs false
namespace Go.Proofs.YtclihihdgodloaaDoor
namespace SC
open Go.Proofs Go.ChangeShapes Go.WideShapes Go.ChangeAt Go.WideMaps Go.WideElems Go.RowKit
theorem gCon : Tryd.prog.globalNamed "trestle/tern.contrary" = some 0 := by kernel_rfl
theorem gBoth : Tryd.prog.globalNamed "trestle/tern.both" = some 1 := by kernel_rfl
theorem tCon : (Tryd.prog.globals[0]?).map (·.type) = some 101 := by kernel_rfl
theorem tBoth : (Tryd.prog.globals[1]?).map (·.type) = some 104 := by kernel_rfl
set_option maxRecDepth 100000
section
variable {H : Type} {enc : TypeId × Value → H} {W : World} {base : Nat} {spare : Nat → Bool} {held : Bool}
theorem arr3 {fuel : Nat} {cs : List Value} {x : DataW H × List MemPlace} {a b c : Int} (h : DataW.trod enc Tryd.prog W base spare held fuel 101 cs = some x) (hx : x.1 = .agg [.lit (.int .i64 a), .lit (.int .i64 b), .lit (.int .i64 c)]) : cs = [nu a, nu b, nu c] := by
  obtain ⟨xs, m1, rfl, hx1, hlen, hn3, hel⟩ := DataW.trod_array Tryd.underlying101 h
  have c3 : Tryd.prog.cellsOf 3 = 1 := by kernel_rfl
  have c9 : Tryd.prog.cellsOf 101 = 3 := by kernel_rfl
  rw [c9] at hlen
  have h0 := hel 0 (by decide)
  have h1 := hel 1 (by decide)
  have h2 := hel 2 (by decide)
  rw [c3] at h0 h1 h2
  match cs, hlen, xs, hn3 with
  | [c0, c1, c2], _, [x0, x1, x2], _ =>
    obtain ⟨n0, e0, f0, _⟩ := DataW.trod_int Tryd.underlying3 (show DataW.trod enc Tryd.prog W base spare held m1 3 [c0] = some x0 from h0)
    obtain ⟨n1, e1, f1, _⟩ := DataW.trod_int Tryd.underlying3 (show DataW.trod enc Tryd.prog W base spare held m1 3 [c1] = some x1 from h1)
    obtain ⟨n2, e2, f2, _⟩ := DataW.trod_int Tryd.underlying3 (show DataW.trod enc Tryd.prog W base spare held m1 3 [c2] = some x2 from h2)
    rw [hx1, f0, f1, f2] at hx
    simp only [List.map_cons, List.map_nil, DataW.agg.injEq, List.cons.injEq, DataW.lit.injEq, Lit.int.injEq, true_and, and_true] at hx
    obtain ⟨rfl, rfl, rfl⟩ := hx
    rw [(List.cons.inj e0).1, (List.cons.inj e1).1, (List.cons.inj e2).1]
theorem arr33 {fuel : Nat} {cs : List Value} {x : DataW H × List MemPlace} {a b c a' b' c' a'' b'' c'' : Int} (h : DataW.trod enc Tryd.prog W base spare held fuel 104 cs = some x)
    (hx : x.1 = .agg [.agg [.lit (.int .i64 a), .lit (.int .i64 b), .lit (.int .i64 c)], .agg [.lit (.int .i64 a'), .lit (.int .i64 b'), .lit (.int .i64 c')], .agg [.lit (.int .i64 a''), .lit (.int .i64 b''), .lit (.int .i64 c'')]]) : cs = [nu a, nu b, nu c, nu a', nu b', nu c', nu a'', nu b'', nu c''] := by
  obtain ⟨xs, m1, rfl, hx1, hlen, hn3, hel⟩ := DataW.trod_array Tryd.underlying104 h
  have c9 : Tryd.prog.cellsOf 101 = 3 := by kernel_rfl
  have c27 : Tryd.prog.cellsOf 104 = 9 := by kernel_rfl
  rw [c27] at hlen
  have h0 := hel 0 (by decide)
  have h1 := hel 1 (by decide)
  have h2 := hel 2 (by decide)
  rw [c9] at h0 h1 h2
  match cs, hlen, xs, hn3 with
  | [c0, c1, c2, c3, c4, c5, c6, c7, c8], _, [x0, x1, x2], _ =>
    rw [hx1] at hx
    simp only [List.map_cons, List.map_nil, DataW.agg.injEq, List.cons.injEq, and_true] at hx
    have e0 := arr3 (show DataW.trod enc Tryd.prog W base spare held m1 101 [c0, c1, c2] = some x0 from h0) hx.1
    have e1 := arr3 (show DataW.trod enc Tryd.prog W base spare held m1 101 [c3, c4, c5] = some x1 from h1) hx.2.1
    have e2 := arr3 (show DataW.trod enc Tryd.prog W base spare held m1 101 [c6, c7, c8] = some x2 from h2) hx.2.2
    simp only [List.cons.injEq, and_true] at e0 e1 e2
    obtain ⟨rfl, rfl, rfl⟩ := e0
    obtain ⟨rfl, rfl, rfl⟩ := e1
    obtain ⟨rfl, rfl, rfl⟩ := e2
    rfl
end
abbrev laidT : List (String × DataW Unit) := [("trestle/tern.both", Rows.laid_trestle_tern_both), ("trestle/tern.contrary", Rows.laid_trestle_tern_contrary)]
/-- The door's own heap meets the condition. -/
theorem door_met (os : Os) (args : Array Value) : laidMetH Tryd.prog laidT ((World.doorLaid Tryd.prog 400 os).forCall (fun _ _ => 0) ⟨#[], args, []⟩).memory :=
  laidMetH_of_parts3 (fuel := 8) (laidMet_of_run' 8 (by kernel_rfl) (by kernel_rfl)) (by kernel_rfl) (by kernel_rfl)
theorem of_laid {W : World} (h : laidMetH Tryd.prog laidT W) : TabG W := by
  rw [MakeChecks.laidMetH_plain _ _ _ (by kernel_rfl)] at h
  obtain ⟨ps, ⟨g0, t0, cs0, f0, p0, q0, hg0, ht0, hv0, hd0, ⟨g1, t1, cs1, f1, p1, q1, hg1, ht1, hv1, hd1, _, _⟩, _⟩, _, _⟩ := h
  obtain rfl := Option.some.inj (gBoth.symm.trans hg0)
  obtain rfl := Option.some.inj (gCon.symm.trans hg1)
  obtain rfl := Option.some.inj (tBoth.symm.trans ht0)
  obtain rfl := Option.some.inj (tCon.symm.trans ht1)
  have e0 := arr33 hd0 rfl
  have e1 := arr3 hd1 rfl
  obtain ⟨l0⟩ := cs0
  obtain ⟨l1⟩ := cs1
  simp only at e0 e1
  subst e0 e1
  refine ⟨fun i hi => ?_, fun i j hi hj => ?_⟩
  · rw [World.var?_cell hg1 hv1 i]
    have h3 : i = 0 ∨ i = 1 ∨ i = 2 := by omega
    rcases h3 with rfl | rfl | rfl <;> rfl
  · rw [World.var?_cell hg0 hv0 (i * 3 + j)]
    have h3 : i = 0 ∨ i = 1 ∨ i = 2 := by omega
    have h4 : j = 0 ∨ j = 1 ∨ j = 2 := by omega
    rcases h3 with rfl | rfl | rfl <;> rcases h4 with rfl | rfl | rfl <;> rfl
end SC
end Go.Proofs.YtclihihdgodloaaDoor
end
section
/- Lists of numbers and numbers that come in. -/
set_option linter.unusedVariables false
set_option linter.unusedSimpArgs false
namespace Go.Proofs.YtclihihdgodloaaDoor
namespace SC
open Go.Proofs
set_option maxRecDepth 100000
section
variable {H : Type} {enc : TypeId × Value → H} {W : World} {base : Nat} {spare : Nat → Bool} {held : Bool}
theorem openNumsF {fuel : Nat} {cs : List Value} {x : DataW H × List MemPlace} (h : DataW.trod enc Tryd.prog W base spare held fuel 22 cs = some x) : ∃ (A : Option Addr) (cp : Nat) (l : List Int), cs = [.slice A l.length cp] ∧ RowA W icell 1 A l ∧ (∀ a ∈ l, fits a) ∧ (A = none → cp = 0) ∧ (∀ R, (∀ n ∈ x.1.weights Tryd.prog 22, n ≤ R) → l.length * 8 ≤ R) := by
  obtain ⟨A, cp, l, e, r, g, _, z, w⟩ := openRowS icell (fun a _ => fits a) Tryd.underlying22 (by kernel_rfl) (fun _ => rfl) (fun _ _ _ h => openIntS h) h
  refine ⟨A, cp, l, e, r, fun a ha => ?_, z, fun R hR => ?_⟩
  · obtain ⟨d, hd, _⟩ := g a ha
    exact hd
  · have := w R hR
    rw [bytes3] at this
    exact this
end
end SC
end Go.Proofs.YtclihihdgodloaaDoor
end
section
/- trestlelaw08: TernLifts: the walk; a case that comes in. -/
set_option linter.unusedVariables false
set_option linter.unusedSimpArgs false
namespace Go.Proofs.YtclihihdgodloaaDoor
namespace SC
open Go.Proofs
/-- What is so of a list of numbers that came in. -/
structure Got (w : World) (A : Option Addr) (k : Nat) (l : List Int) : Prop where
  row : RowA w icell 1 A l
  nil : A = none → k = 0
  len : l.length ≤ 17592186043904
  fit : ∀ a ∈ l, fits a
set_option maxRecDepth 100000
section
variable {H : Type} {enc : TypeId × Value → H} {W : World} {base : Nat} {spare : Nat → Bool} {held : Bool}
theorem openCase8 {v : Value} {d : DataW H} {ps : List MemPlace} {r : Reach} {b0 : Nat} (hv : Value.okWide Tryd.prog W r b0 31 v) (h : DataW.Trod enc Tryd.prog W base spare held 31 v d ps) (hz : ∀ n ∈ d.weights Tryd.prog 31, n ≤ 140737488351232) :
    ∃ (A : Option Addr) (k : Nat) (s : List Int) (A' : Option Addr) (k' : Nat) (s' : List Int) (A'' : Option Addr) (k'' : Nat) (s'' : List Int), v = .agg #[.slice A s.length k, .slice A' s'.length k', .slice A'' s''.length k''] ∧ Got W A k s ∧ Got W A' k' s' ∧ Got W A'' k'' s'' := by
  obtain ⟨cs, rfl, hsz⟩ := Go.WideShapes.okWide_struct Tryd.underlying31 hv
  obtain ⟨fuel, hf⟩ := h
  rw [agg_cells] at hf
  obtain ⟨hl, n, hfl⟩ := openFieldS Tryd.underlying31 (by kernel_rfl) hf
  have hl : cs.toList.length = 3 := hl
  obtain ⟨y0, h0, g0⟩ := hfl 0 _ (by rw [hl]; decide) rfl rfl (by kernel_rfl)
  obtain ⟨y1, h1, g1⟩ := hfl 1 _ (by rw [hl]; decide) rfl rfl (by kernel_rfl)
  obtain ⟨y2, h2, g2⟩ := hfl 2 _ (by rw [hl]; decide) rfl rfl (by kernel_rfl)
  obtain ⟨A0, c0, l0, e0, r0, f0, z0, w0⟩ := openNumsF h0
  obtain ⟨A1, c1, l1, e1, r1, f1, z1, w1⟩ := openNumsF h1
  obtain ⟨A2, c2, l2, e2, r2, f2, z2, w2⟩ := openNumsF h2
  refine ⟨A0, c0, l0, A1, c1, l1, A2, c2, l2, ?_, ⟨r0, z0, by have := w0 _ fun n hn => hz n (g0 n hn); omega, f0⟩, ⟨r1, z1, by have := w1 _ fun n hn => hz n (g1 n hn); omega, f1⟩, ⟨r2, z2, by have := w2 _ fun n hn => hz n (g2 n hn); omega, f2⟩⟩
  congr 1
  apply Array.ext'
  apply List.ext_getElem (by rw [hl]; rfl)
  intro i hi1 hi2
  match i, hi2 with
  | 0, _ => exact (List.cons.inj e0).1
  | 1, _ => exact (List.cons.inj e1).1
  | 2, _ => exact (List.cons.inj e2).1
end
attribute [local irreducible] WC WL WX WS WO OX Does DoesU Enters CV Pure thenQ blockQ retQ Wants retQC GC GL GS GX RdB thenG blockG retG Rd At gt CVN CVM
attribute [local irreducible] lentX bun
end SC
end Go.Proofs.YtclihihdgodloaaDoor
end
section
/- frames: literals at a step, the clauses of a step, of what comes next, of the resets, of a run: plain words. -/
set_option linter.unusedVariables false
set_option linter.unusedSimpArgs false
namespace Go.Proofs.YtclihihdgodloaaDoor
namespace SC
open Go.Proofs
end SC
end Go.Proofs.YtclihihdgodloaaDoor
end
section
/- Clauses in memory, their rows bound together. -/
set_option linter.unusedVariables false
set_option linter.unusedSimpArgs false
namespace Go.Proofs.YtclihihdgodloaaDoor
namespace SC
open Go.Proofs
section
variable {Γ Γ' Γ1 Γ2 : Mm}
theorem row_snoc (ps : List (Hdl × List Int)) (x : Hdl × List Int) : Wk [rowL x, .any (bun (fam rowJ ps))] [.any (bun (fam rowJ (ps ++ [x])))] := by
  have := row_in ps [] x
  rw [List.append_nil] at this
  exact this
theorem rows_app (ps qs : List (Hdl × List Int)) : Wk [.any (bun (fam rowJ ps)), .any (bun (fam rowJ qs))] [.any (bun (fam rowJ (ps ++ qs)))] := by
  rw [fam_app]
  refine Wk.trans ?_ bun_in
  refine Wk.trans (Wk.part (C := [.any (bun (fam rowJ qs))]) (Γ1 := [.any (bun (fam rowJ ps))]) (Rems.cons (.there .here) .nil) bun_out bun_out) ?_
  exact .refl
/-- A row more, at the head. -/
theorem Wk.snoc {ps : List (Hdl × List Int)} {x : Hdl × List Int} (h1 : Rem Γ (.any (bun (fam rowJ ps))) Γ1) (h2 : Rem Γ1 (rowL x) Γ2) (h : Wk Γ2 Γ') : Wk Γ (.any (bun (fam rowJ (ps ++ [x]))) :: Γ') := by
  refine Wk.part (C := [.any (bun (fam rowJ ps)), rowL x]) (D := [.any (bun (fam rowJ (ps ++ [x])))]) (Rems.cons h1 (Rems.cons h2 .nil)) ?_ h
  exact (Wk.perm (List.Perm.swap ..)).trans (row_snoc ps x)
theorem Wk.rows {ps qs : List (Hdl × List Int)} (h1 : Rem Γ (.any (bun (fam rowJ ps))) Γ1) (h2 : Rem Γ1 (.any (bun (fam rowJ qs))) Γ2) (h : Wk Γ2 Γ') : Wk Γ (.any (bun (fam rowJ (ps ++ qs))) :: Γ') :=
  Wk.part (C := [.any (bun (fam rowJ ps)), .any (bun (fam rowJ qs))]) (D := [.any (bun (fam rowJ (ps ++ qs)))]) (Rems.cons h1 (Rems.cons h2 .nil)) (rows_app ps qs) h
end
end SC
end Go.Proofs.YtclihihdgodloaaDoor
end
section
/- frames: literals, gates, constraints, next, first, step: the walks. -/
set_option linter.unusedVariables false
set_option linter.unusedSimpArgs false
namespace Go.Proofs.YtclihihdgodloaaDoor
namespace SC
open Go.Proofs
attribute [local irreducible] WC WL WX WS WO OX Does DoesU Enters CV Pure thenQ blockQ retQ Wants retQC GC GL GS GX RdB thenG blockG retG Rd At gt CVN CVM
set_option maxRecDepth 100000
end SC
end Go.Proofs.YtclihihdgodloaaDoor
end
section
/- trestleref16: Step0, Next0, First0: the walks. -/
set_option linter.unusedVariables false
set_option linter.unusedSimpArgs false
namespace Go.Proofs.YtclihihdgodloaaDoor
namespace SC
open Go.Proofs
attribute [local irreducible] WC WL WX WS WO OX Does DoesU Enters CV Pure thenQ blockQ retQ Wants retQC GC GL GS GX RdB thenG blockG retG Rd At gt CVN CVM
set_option maxRecDepth 100000
end SC
end Go.Proofs.YtclihihdgodloaaDoor
end
section
/- frames: vars, ready, looked, many, step: the walks. -/
set_option linter.unusedVariables false
set_option linter.unusedSimpArgs false
namespace Go.Proofs.YtclihihdgodloaaDoor
namespace SC
open Go.Proofs
section
variable {P : Program} {n : Nat} {all : List Oper} {K : Env → Mm → Prop} {m : Md} {e : Env} {Γ : Mm} {d : Option Tmp} {ty t t' elem : TypeId} {x y : Operand} {w : World} {td : TypeDesc} {by_ : Nat} {zv v : Value}
end
attribute [local irreducible] WC WL WX WS WO OX Does DoesU Enters CV Pure thenQ blockQ retQ Wants retQC GC GL GS GX RdB thenG blockG retG Rd At gt CVN CVM
set_option maxRecDepth 100000
end SC
end Go.Proofs.YtclihihdgodloaaDoor
end
section
/- frames: Step, Next; the reference's. -/
set_option linter.unusedVariables false
set_option linter.unusedSimpArgs false
namespace Go.Proofs.YtclihihdgodloaaDoor
namespace SC
open Go.Proofs
attribute [local irreducible] WC WL WX WS WO OX Does DoesU Enters CV Pure thenQ blockQ retQ Wants retQC GC GL GS GX RdB thenG blockG retG Rd At gt CVN CVM
set_option maxRecDepth 100000
end SC
end Go.Proofs.YtclihihdgodloaaDoor
end
section
/- frames: First, Lit, Vars; the reference's. -/
set_option linter.unusedVariables false
set_option linter.unusedSimpArgs false
namespace Go.Proofs.YtclihihdgodloaaDoor
namespace SC
open Go.Proofs
attribute [local irreducible] WC WL WX WS WO OX Does DoesU Enters CV Pure thenQ blockQ retQ Wants retQC GC GL GS GX RdB thenG blockG retG Rd At gt CVN CVM
set_option maxRecDepth 100000
end SC
end Go.Proofs.YtclihihdgodloaaDoor
end
section
/- slices.Grow (the kit's contract laid at this program) and slices.Concat at clauses. -/
set_option linter.unusedVariables false
set_option linter.unusedSimpArgs false
namespace Go.Proofs.YtclihihdgodloaaDoor
namespace SC
open Go.Proofs
open Go.Shelf
set_option maxRecDepth 100000
attribute [local irreducible] WC WL WX WS WO OX Does DoesU Enters CV Pure thenQ blockQ retQ Wants retQC GC GL GS GX RdB thenG blockG retG Rd At gt CVN CVM
end SC
end Go.Proofs.YtclihihdgodloaaDoor
end
section
/- frames: Run. -/
set_option linter.unusedVariables false
set_option linter.unusedSimpArgs false
namespace Go.Proofs.YtclihihdgodloaaDoor
namespace SC
open Go.Proofs
section
variable {P : Program} {n : Nat} {all : List Oper} {K : Env → Mm → Prop} {e : Env} {Γ : Mm} {d : Option Tmp} {ty t t0 : TypeId} {x y : Operand} {td : TypeDesc} {sz by_ : Nat} {zv : Value} {ag : Bool}
end
attribute [local irreducible] WC WL WX WS WO OX Does DoesU Enters CV Pure thenQ blockQ retQ Wants retQC GC GL GS GX RdB thenG blockG retG Rd At gt CVN CVM
set_option maxRecDepth 100000
end SC
end Go.Proofs.YtclihihdgodloaaDoor
end
section
/- The reference's Run. -/
set_option linter.unusedVariables false
set_option linter.unusedSimpArgs false
namespace Go.Proofs.YtclihihdgodloaaDoor
namespace SC
open Go.Proofs
attribute [local irreducible] WC WL WX WS WO OX Does DoesU Enters CV Pure thenQ blockQ retQ Wants retQC GC GL GS GX RdB thenG blockG retG Rd At gt CVN CVM
set_option maxRecDepth 100000
end SC
end Go.Proofs.YtclihihdgodloaaDoor
end
section
/- trestlelaw16: works, cost. -/
set_option linter.unusedVariables false
set_option linter.unusedSimpArgs false
namespace Go.Proofs.YtclihihdgodloaaDoor
namespace SC
open Go.Proofs
attribute [local irreducible] WC WL WX WS WO OX Does DoesU Enters CV Pure thenQ blockQ retQ Wants retQC GC GL GS GX RdB thenG blockG retG Rd At CVN CVM
set_option maxRecDepth 100000
end SC
end Go.Proofs.YtclihihdgodloaaDoor
end
section
/- trestlelaw16: FramesRuns, FramesParts: the walks. -/
set_option linter.unusedVariables false
set_option linter.unusedSimpArgs false
namespace Go.Proofs.YtclihihdgodloaaDoor
namespace SC
open Go.Proofs
theorem CVM.same {P : Program} {f : FuncId} {args : List Value} {w : World} {C C' : Mm} {R : Value → Mm → Prop} (h : CVM P f args w C' R) (he : ∀ k, owns C' k ↔ owns C k) : CVM P f args w C R := by
  have e : owns C' = owns C := funext fun k => propext (he k)
  unfold CVM at h ⊢
  rw [e] at h
  exact h
attribute [local irreducible] WC WL WX WS WO OX Does DoesU Enters CV Pure thenQ blockQ retQ Wants retQC GC GL GS GX RdB thenG blockG retG Rd At gt CVN CVM
attribute [local irreducible] lentX bun
set_option maxRecDepth 100000
end SC
end Go.Proofs.YtclihihdgodloaaDoor
end
section
/- A formula is the circuit, step by step: the plain law. -/
set_option linter.unusedVariables false
set_option linter.unusedSimpArgs false
namespace Go.Proofs.YtclihihdgodloaaDoor
namespace SC
open Go.Proofs
/-! ### truth of literals, clauses, formulas -/
section
variable {c : Circ} {md : List Bool} {k : Nat}
end
end SC
end Go.Proofs.YtclihihdgodloaaDoor
end
section
/- frames: Model: the walk. -/
set_option linter.unusedVariables false
set_option linter.unusedSimpArgs false
namespace Go.Proofs.YtclihihdgodloaaDoor
namespace SC
open Go.Proofs
attribute [local irreducible] WC WL WX WS WO OX Does DoesU Enters CV Pure thenQ blockQ retQ Wants retQC GC GL GS GX RdB thenG blockG retG Rd At gt CVN CVM
set_option maxRecDepth 100000
end SC
end Go.Proofs.YtclihihdgodloaaDoor
end
section
/- trestlelaw08: TernReaches: the walk. -/
set_option linter.unusedVariables false
set_option linter.unusedSimpArgs false
namespace Go.Proofs.YtclihihdgodloaaDoor
namespace SC
open Go.Proofs
attribute [local irreducible] WC WL WX WS WO OX Does DoesU Enters CV Pure thenQ blockQ retQ Wants retQC GC GL GS GX RdB thenG blockG retG Rd At gt CVN CVM
attribute [local irreducible] lentX bun
set_option maxRecDepth 100000
end SC
end Go.Proofs.YtclihihdgodloaaDoor
end
section
/- trestlelaw07: SimGoesOn: the walk. -/
set_option linter.unusedVariables false
set_option linter.unusedSimpArgs false
namespace Go.Proofs.YtclihihdgodloaaDoor
namespace SC
open Go.Proofs
attribute [local irreducible] WC WL WX WS WO OX Does DoesU Enters CV Pure thenQ blockQ retQ Wants retQC GC GL GS GX RdB thenG blockG retG Rd At gt CVN CVM
attribute [local irreducible] fam bun
set_option maxRecDepth 100000
end SC
end Go.Proofs.YtclihihdgodloaaDoor
end
section
/- trestlelaw08: TernMost: the walk. -/
set_option linter.unusedVariables false
set_option linter.unusedSimpArgs false
namespace Go.Proofs.YtclihihdgodloaaDoor
namespace SC
open Go.Proofs
attribute [local irreducible] WC WL WX WS WO OX Does DoesU Enters CV Pure thenQ blockQ retQ Wants retQC GC GL GS GX RdB thenG blockG retG Rd At gt CVN CVM
attribute [local irreducible] lentX bun
set_option maxRecDepth 100000
end SC
end Go.Proofs.YtclihihdgodloaaDoor
end
section
/- trestlelaw08: filled; TernCovers: the walk. -/
set_option linter.unusedVariables false
set_option linter.unusedSimpArgs false
namespace Go.Proofs.YtclihihdgodloaaDoor
namespace SC
open Go.Proofs
section
variable {c : Circ} (R : Right c)
include R
theorem val_zero (s r : List Int) : gt (valT c s r) 0 = 0 := by
  have st : ∀ {v : List Int} {l : Int} {x : Int}, defR c l → gt v 0 = 0 → gt (v.set (l / 2).toNat x) 0 = 0 := fun {v l x} hd h => by
    unfold defR at hd
    by_cases hi : (l / 2).toNat < v.length
    · have := gt_set (j := 0) (x := x) hi
      rw [Int.natCast_zero] at this
      rw [this, if_neg (by omega)]
      exact h
    · have := gt_setN (j := 0) (x := x) hi
      rw [Int.natCast_zero] at this
      rw [this]
      exact h
  have a1 : ∀ i ≤ c.inputs.length, gt (tIn c r i) 0 = 0 := fun i => by
    induction i with
    | zero => exact fun _ => rfl
    | succ i ih => exact fun h => by rw [tIn_succ]; exact st (R.inp (gt_mem (l := c.inputs) (i := (i : Int)) (by omega) (by omega))) (ih (by omega))
  have a2 : ∀ i ≤ c.latches.length, gt (tLt c s (tIn c r c.inputs.length) i) 0 = 0 := fun i => by
    induction i with
    | zero => exact fun _ => a1 _ (Nat.le_refl _)
    | succ i ih => exact fun h => by rw [tLt_succ]; exact st (R.lat (gt_mem (l := c.latches) (i := (i : Int)) (by omega) (by omega))).1 (ih (by omega))
  have a3 : ∀ i ≤ (ordM c).length, gt (tAn c (ordM c) (tLt c s (tIn c r c.inputs.length) c.latches.length) i) 0 = 0 := fun i => by
    induction i with
    | zero => exact fun _ => a2 _ (Nat.le_refl _)
    | succ i ih =>
      intro h
      rw [tAn_succ]
      have ho := R.ord (gt_mem (l := ordM c) (i := (i : Int)) (by omega) (by omega))
      exact st (R.gate (gt_mem (l := c.ands) ho.1 ho.2)).1 (ih (by omega))
  exact a3 _ (Nat.le_refl _)
end
/-- All that are so are marked. -/
def Mkd (D : List Bool) (P : Nat → Prop) : Prop := ∀ i, P i → gt D (i : Int) = true
theorem Mkd.set {D : List Bool} {P Q : Nat → Prop} {k : Nat} (h : Mkd D P) (hk : k < D.length) (hQ : ∀ i, Q i → P i ∨ i = k) : Mkd (D.set k true) Q := fun i hi => by
  rw [gt_set hk]
  split
  · rfl
  · rcases hQ i hi with h1 | h1
    · exact h i h1
    · exact absurd h1 (by assumption)
/-- What 'filled' answers. -/
def FillV (a : List Int) (v : Value) (N : Mm) : Prop := ∃ A k F, CovL a F ∧ v = .slice A F.length k ∧ N = [.vec booc 1 4 A k F]
section
variable {n : Nat} {all : List Oper} {K : Env → Mm → Prop} {m : Md} {e : Env} {Γ : Mm} {d : Option Tmp} {ty t t' : TypeId} {x y : Operand}
theorem p_shrZ8 {P : Program} {a b : Int} (h : ev e x = some (.int .u64 a)) (h1 : ev e y = some (.int .u64 b)) (h2 : 0 ≤ b) : Pure P (.binOp .shr t x y t') ty e (.int .u64 (a.fdiv (2 ^ (min b.toNat IntKind.u64.bits)))) := by
  intro w ρ dst pos af g hρ
  have h5 : ¬ b < 0 := by omega
  simp [execOp, hρ _ _ h, hρ _ _ h1, eqGuard, binOp, Op.shift, h5]
theorem p_andZ8 {P : Program} {a b : Int} (h : ev e x = some (.int .u64 a)) (h1 : ev e y = some (.int .u64 b)) : Pure P (.binOp .and t x y t') ty e (.int .u64 (IntKind.u64.wrap (BitVec.ofInt IntKind.u64.bits a &&& BitVec.ofInt IntKind.u64.bits b).toNat)) := by
  intro w ρ dst pos af g hρ
  simp [execOp, hρ _ _ h, hρ _ _ h1, eqGuard, binOp, Op.intBits]
theorem p_eqZ8 {P : Program} {a b : Int} (h : ev e x = some (.int .u64 a)) (h1 : ev e y = some (.int .u64 b)) : Pure P (.binOp .eql t x y t') ty e (.bool (a == b)) := by
  intro w ρ dst pos af g hρ
  simp [execOp, hρ _ _ h, hρ _ _ h1, eqGuard, binOp, Op.intCmp]
theorem G_remZ8 {P : Program} {a b : Int} (h : ev e x = some (.int .u64 a)) (h1 : ev e y = some (.int .u64 b)) (h2 : 0 ≤ a) (h4 : 0 < b) (hr : ∀ z : Int, 0 ≤ z → GN P n all K m (push d (.int .u64 z) e) Γ) : GX P n all K m d (.binOp .rem t x y t') ty e Γ := GX_pure (p_remU h h1 h2 h4) (hr _ (Int.emod_nonneg _ (by omega)))
theorem G_shrZ8 {P : Program} {a b : Int} (h : ev e x = some (.int .u64 a)) (h1 : ev e y = some (.int .u64 b)) (h2 : 0 ≤ b) (hr : ∀ z : Int, GN P n all K m (push d (.int .u64 z) e) Γ) : GX P n all K m d (.binOp .shr t x y t') ty e Γ := GX_pure (p_shrZ8 h h1 h2) (hr _)
theorem G_andZ8 {P : Program} {a b : Int} (h : ev e x = some (.int .u64 a)) (h1 : ev e y = some (.int .u64 b)) (hr : ∀ z : Int, GN P n all K m (push d (.int .u64 z) e) Γ) : GX P n all K m d (.binOp .and t x y t') ty e Γ := GX_pure (p_andZ8 h h1) (hr _)
theorem G_eqZ8 {P : Program} {a b : Int} (h : ev e x = some (.int .u64 a)) (h1 : ev e y = some (.int .u64 b)) (ht : GN P n all K m (push d (.bool true) e) Γ) (hf : GN P n all K m (push d (.bool false) e) Γ) : GX P n all K m d (.binOp .eql t x y t') ty e Γ := by
  have h9 := p_eqZ8 (P := P) (t := t) (t' := t') (ty := ty) h h1
  cases hb : (a == b)
  · rw [hb] at h9; exact GX_pure h9 hf
  · rw [hb] at h9; exact GX_pure h9 ht
end
attribute [local irreducible] WC WL WX WS WO OX Does DoesU Enters CV Pure thenQ blockQ retQ Wants retQC GC GL GS GX RdB thenG blockG retG Rd At gt CVN CVM
attribute [local irreducible] lentX bun
set_option maxRecDepth 100000
set_option maxHeartbeats 1600000 in
theorem filled_cv {w : World} {A : Option Addr} {k : Nat} {a : List Int} {z : Int} (hA : RowA w icell 1 A a) (hn : a.length ≤ 17592186043904) : CVN Tryd.prog 32 [.slice A a.length k, .int .u64 z] w (FillV a) := by
  refine CVN.enter 41 [4] Tryd.func32 rfl rfl rfl (by decide) rfl ?_
  repeat' (first
|(apply G_makeI booc;eq_refl;eq_refl;omega;eq_refl;omega;decide;intro b)
|(apply GC_seqK;intro K hK)
|(apply hK;clear hK K)
|(apply GC_block)
|(apply GC_region)
|(apply GL_nil)
|(apply thenG_normal)
|(apply GL_on;eq_refl;eq_refl)
|(apply G_pv;eq_refl;first|exact trivial|omega)
|(apply G_len;eq_refl))
  refine GC_loopK [0, 1, 5, 10, 11] (fun s : Nat × List Bool => [(12, nu s.1)]) (fun s => [.vec booc 1 4 (some ⟨b, 0, none⟩) a.length s.2, .old w none_]) (fun s => s.1 ≤ a.length ∧ s.2.length = a.length ∧ ∀ j : Nat, j < s.1 → Cov (gt a (j : Int)) (gt s.2 (j : Int))) (fun s => a.length - s.1) (0, List.replicate a.length false) (by repeat first | exact Pick.nil | (apply Pick.cons; eq_refl)) (by repeat first | exact trivial | refine ⟨rfl, ?_⟩) (by repeat first | exact Wk.nil | exact Wk.refl | (apply Wk.cons; (focus ((repeat first | exact Rem.here | apply Rem.there | apply Rem.skip); done))) | apply Wk.nilv | apply Wk.last | apply Wk.drop) ⟨Nat.zero_le _, List.length_replicate, fun j hj => absurd hj (Nat.not_lt_zero _)⟩ ?_
  rintro ⟨i, F⟩ ⟨hi, hl, hc⟩
  dsimp only at hi hl hc ⊢
  rcases Nat.lt_or_ge i a.length with hlt | hge
  · have key : ∀ β : Bool, Cov (gt a (i : Int)) β → ∀ j : Nat, j < i + 1 → Cov (gt a (j : Int)) (gt (F.set (i : Int).toNat β) (j : Int)) := fun β hβ j hj => by
      rw [Int.toNat_natCast, gt_set (by omega)]
      by_cases e : j = i
      · subst e; rw [if_pos rfl]; exact hβ
      · rw [if_neg e]; exact hc j (by omega)
    generalize hx : gt a (i : Int) = x at *
    by_cases h1 : x = 1
    · subst h1
      repeat' (first
|(apply GC_seqK;intro K hK)
|(apply hK;clear hK K)
|(apply GC_block)
|(apply GC_region)
|(apply GL_nil)
|(apply thenG_normal)
|(apply blockG_normal)
|(apply GC_skip)
|(apply GC_if_true;eq_refl)
|(apply GL_on;eq_refl;eq_refl)
|(apply GL_off;eq_refl;eq_refl)
|(apply GL_offU;eq_refl;eq_refl;eq_refl)
|(apply G_pv;eq_refl;first|exact trivial|omega)
|(apply G_rd;eq_refl;(first|(apply Rd.own;(repeat first|exact In.here|apply In.there|apply In.skip);infer_instance)|(apply Rd.old;(repeat first|exact In.here|apply In.there|apply In.skip);assumption)|(apply Rd.oldR;(repeat first|exact In.here|apply In.there|apply In.skip);assumption)|exact Rd.nil|assumption);(case ih => infer_instance);omega;omega;eq_refl)
|(apply G_cmpT;eq_refl;eq_refl;omega)
|(apply G_ix;eq_refl;eq_refl;(first|(apply Rd.own;(repeat first|exact In.here|apply In.there|apply In.skip);infer_instance)|(apply Rd.old;(repeat first|exact In.here|apply In.there|apply In.skip);assumption)|(apply Rd.oldR;(repeat first|exact In.here|apply In.there|apply In.skip);assumption)|exact Rd.nil|assumption);(first|eq_refl|omega);omega;omega)
|(apply G_stV;(first|exact wr_p|kernel_rfl);eq_refl;eq_refl;eq_refl;eq_refl;(repeat first|exact Upd.here|apply Upd.there|apply Upd.skip);infer_instance;infer_instance;eq_refl;omega;(try simp only [List.length_set, List.length_append, List.length_replicate]);omega))
      exact ⟨(i + 1, F.set (i : Int).toNat true), (by repeat first | exact trivial | refine ⟨rfl, ?_⟩), (by repeat first | exact Wk.nil | exact Wk.refl | (apply Wk.cons; (focus ((repeat first | exact Rem.here | apply Rem.there | apply Rem.skip); done))) | apply Wk.nilv | apply Wk.last | apply Wk.drop), ⟨hlt, by rw [List.length_set]; exact hl, key true fun _ => rfl⟩, by dsimp only; omega⟩
    · by_cases h2 : x = 2
      · subst h2
        repeat' (first
|(apply G_uintX;eq_refl;omega;omega)
|(apply G_remZ8;eq_refl;eq_refl;omega;decide;intro z1 hz1)
|(apply G_shrZ8;eq_refl;eq_refl;omega;intro z2)
|(apply G_andZ8;eq_refl;eq_refl;intro z3)
|(apply G_eqZ8;eq_refl;eq_refl)
|(apply GC_seqK;intro K hK)
|(apply hK;clear hK K)
|(apply GC_block)
|(apply GC_region)
|(apply GL_nil)
|(apply thenG_normal)
|(apply blockG_normal)
|(apply GC_skip)
|(apply GC_if_true;eq_refl)
|(apply GL_on;eq_refl;eq_refl)
|(apply G_pv;eq_refl;first|exact trivial|omega)
|(apply G_rd;eq_refl;(first|(apply Rd.own;(repeat first|exact In.here|apply In.there|apply In.skip);infer_instance)|(apply Rd.old;(repeat first|exact In.here|apply In.there|apply In.skip);assumption)|(apply Rd.oldR;(repeat first|exact In.here|apply In.there|apply In.skip);assumption)|exact Rd.nil|assumption);(case ih => infer_instance);omega;omega;eq_refl)
|(apply G_cmpT;eq_refl;eq_refl;omega)
|(apply G_cmpF;eq_refl;eq_refl;omega)
|(apply G_ix;eq_refl;eq_refl;(first|(apply Rd.own;(repeat first|exact In.here|apply In.there|apply In.skip);infer_instance)|(apply Rd.old;(repeat first|exact In.here|apply In.there|apply In.skip);assumption)|(apply Rd.oldR;(repeat first|exact In.here|apply In.there|apply In.skip);assumption)|exact Rd.nil|assumption);(first|eq_refl|omega);omega;omega)
|(apply G_stV;(first|exact wr_p|kernel_rfl);eq_refl;eq_refl;eq_refl;eq_refl;(repeat first|exact Upd.here|apply Upd.there|apply Upd.skip);infer_instance;infer_instance;eq_refl;omega;(try simp only [List.length_set, List.length_append, List.length_replicate]);omega))
        · exact ⟨(i + 1, F.set (i : Int).toNat true), (by repeat first | exact trivial | refine ⟨rfl, ?_⟩), (by repeat first | exact Wk.nil | exact Wk.refl | (apply Wk.cons; (focus ((repeat first | exact Rem.here | apply Rem.there | apply Rem.skip); done))) | apply Wk.nilv | apply Wk.last | apply Wk.drop), ⟨hlt, by rw [List.length_set]; exact hl, key true fun h => absurd rfl h⟩, by dsimp only; omega⟩
        · exact ⟨(i + 1, F.set (i : Int).toNat false), (by repeat first | exact trivial | refine ⟨rfl, ?_⟩), (by repeat first | exact Wk.nil | exact Wk.refl | (apply Wk.cons; (focus ((repeat first | exact Rem.here | apply Rem.there | apply Rem.skip); done))) | apply Wk.nilv | apply Wk.last | apply Wk.drop), ⟨hlt, by rw [List.length_set]; exact hl, key false fun h => absurd rfl h⟩, by dsimp only; omega⟩
      · repeat' (first
|(apply GC_seqK;intro K hK)
|(apply hK;clear hK K)
|(apply GC_block)
|(apply GC_region)
|(apply GL_nil)
|(apply thenG_normal)
|(apply blockG_normal)
|(apply GC_skip)
|(apply GC_if_true;eq_refl)
|(apply GL_on;eq_refl;eq_refl)
|(apply GL_off;eq_refl;eq_refl)
|(apply G_pv;eq_refl;first|exact trivial|omega)
|(apply G_rd;eq_refl;(first|(apply Rd.own;(repeat first|exact In.here|apply In.there|apply In.skip);infer_instance)|(apply Rd.old;(repeat first|exact In.here|apply In.there|apply In.skip);assumption)|(apply Rd.oldR;(repeat first|exact In.here|apply In.there|apply In.skip);assumption)|exact Rd.nil|assumption);(case ih => infer_instance);omega;omega;eq_refl)
|(apply G_cmpT;eq_refl;eq_refl;omega)
|(apply G_cmpF;eq_refl;eq_refl;omega)
|(apply G_ix;eq_refl;eq_refl;(first|(apply Rd.own;(repeat first|exact In.here|apply In.there|apply In.skip);infer_instance)|(apply Rd.old;(repeat first|exact In.here|apply In.there|apply In.skip);assumption)|(apply Rd.oldR;(repeat first|exact In.here|apply In.there|apply In.skip);assumption)|exact Rd.nil|assumption);(first|eq_refl|omega);omega;omega)
|(apply G_stV;(first|exact wr_p|kernel_rfl);eq_refl;eq_refl;eq_refl;eq_refl;(repeat first|exact Upd.here|apply Upd.there|apply Upd.skip);infer_instance;infer_instance;eq_refl;omega;(try simp only [List.length_set, List.length_append, List.length_replicate]);omega))
        exact ⟨(i + 1, F.set (i : Int).toNat false), (by repeat first | exact trivial | refine ⟨rfl, ?_⟩), (by repeat first | exact Wk.nil | exact Wk.refl | (apply Wk.cons; (focus ((repeat first | exact Rem.here | apply Rem.there | apply Rem.skip); done))) | apply Wk.nilv | apply Wk.last | apply Wk.drop), ⟨hlt, by rw [List.length_set]; exact hl, key false fun _ => decide_eq_false h1⟩, by dsimp only; omega⟩
  · obtain rfl : i = a.length := by omega
    repeat' (first
|(apply GC_seqK;intro K hK)
|(apply hK;clear hK K)
|(clear hK K;apply hK;clear hK K)
|(apply GC_region)
|(apply GL_nil)
|(apply thenG_normal)
|(apply thenG_exit)
|(apply blockG_hit)
|(apply GC_ret)
|(apply GC_exit)
|(apply GC_if_false;eq_refl)
|(apply retG1;eq_refl)
|(apply GL_on;eq_refl;eq_refl)
|(apply G_pv;eq_refl;first|exact trivial|omega)
|(apply G_cmpF;eq_refl;eq_refl;omega))
    exact ⟨[.vec booc 1 4 (some ⟨b, 0, none⟩) a.length F], (by repeat first | exact Wk.nil | exact Wk.refl | (apply Wk.cons; (focus ((repeat first | exact Rem.here | apply Rem.there | apply Rem.skip); done))) | apply Wk.nilv | apply Wk.last | apply Wk.drop), some ⟨b, 0, none⟩, a.length, F, ⟨hl.symm, fun j hj => hc j hj⟩, by rw [hl]; rfl, rfl⟩
end SC
end Go.Proofs.YtclihihdgodloaaDoor
end
section
/- trestlelaw08: TernCovers: the walk. -/
set_option linter.unusedVariables false
set_option linter.unusedSimpArgs false
namespace Go.Proofs.YtclihihdgodloaaDoor
namespace SC
open Go.Proofs
attribute [local irreducible] WC WL WX WS WO OX Does DoesU Enters CV Pure thenQ blockQ retQ Wants retQC GC GL GS GX RdB thenG blockG retG Rd At gt CVN CVM
attribute [local irreducible] lentX bun
set_option maxRecDepth 100000
set_option maxHeartbeats 3200000 in
theorem ternCovers_cv {w : World} {c : Circ} {h js : Hd} {S T L : Option Addr} {k1 k2 k3 : Nat} {s r ls : List Int} {z : Int} (G : TabG w) (H : CirIn w c h js) (hS : Got w S k1 s) (hT : Got w T k2 r) :
    CVN Tryd.prog 8 [.agg (ccells c h).toArray, .agg #[.slice S s.length k1, .slice T r.length k2, .slice L ls.length k3], .int .u64 z] w fun v N => N = [] ∧ v = .bool true := by
  have hns := hS.len
  have hnr := hT.len
  have hSr := hS.row
  have hTr := hT.row
  have hW : ∀ Γ, In Γ (.old w none_) → ∀ w', Mem w' Γ → CVN Tryd.prog 18 [] w' _ := fun Γ ho w' M => works8_cv (G.chg (ho.old M))
  have hva : ∀ Γ, In Γ (.old w none_) → ∀ w', Mem w' Γ → CVN Tryd.prog 24 [.agg (ccells c h).toArray, .slice S s.length k1, .slice T r.length k2] w' (IntsE (tvM c s r) (twE c s r)) := fun Γ ho w' M => ValuesT_cv (G.chg (ho.old M)) (H.chg (ho.old M)) (hSr.chg (ho.old M)) (hTr.chg (ho.old M)) (by omega) (by omega)
  have hse : ∀ Γ, In Γ (.old w none_) → ∀ w', Mem w' Γ → CVN Tryd.prog 26 [.agg (ccells c h).toArray, .slice S s.length k1, .slice T r.length k2] w' (IntsE (tnM c s r) (twE c s r)) := fun Γ ho w' M => StepT_cv (G.chg (ho.old M)) (H.chg (ho.old M)) (hSr.chg (ho.old M)) (hTr.chg (ho.old M)) (by omega) (by omega)
  have hf1 : ∀ z, ∀ Γ, In Γ (.old w none_) → ∀ w', Mem w' Γ → CVN Tryd.prog 32 [.slice S s.length k1, .int .u64 z] w' (FillV s) := fun z Γ ho w' M => filled_cv (hSr.chg (ho.old M)) hns
  have hf2 : ∀ z, ∀ Γ, In Γ (.old w none_) → ∀ w', Mem w' Γ → CVN Tryd.prog 32 [.slice T r.length k2, .int .u64 z] w' (FillV r) := fun z Γ ho w' M => filled_cv (hTr.chg (ho.old M)) hnr
  unfold IntsE at hva hse
  unfold FillV at hf1 hf2
  refine CVN.enter 217 [6] Tryd.func8 rfl rfl rfl (by decide) rfl ?_
  by_cases he : twE c s r = 0
  · obtain ⟨z0, ⟨z1, z2⟩, z3, z4⟩ := twE_zero he
    have R := right_of H.at_ H.sane z0
    have m0 := R.m0
    have m1 := R.m1
    have n1 := R.nIn
    have n2 := R.nLat
    have n3 := R.nAnd
    have e1 : tvM c s r = valT c s r := if_pos he
    have e2 : tnM c s r = nxtT c (valT c s r) := if_pos he
    rw [he, e1] at hva
    rw [he, e2] at hse
    have hvl := valT_len m0 s r
    have hv3 := valT_row (c := c) z2 z4 z1 z3
    have hv0 := val_zero R s r
    have hvd := val_dfn R s r
    have hnl : (nxtT c (valT c s r)).length = c.latches.length := by unfold nxtT; rw [List.length_map]
    have hcov : ∀ F1 F2, CovL s F1 → CovL r F2 → CovL (valT c s r) (valM c F1 F2) ∧ CovL (nxtT c (valT c s r)) (nxtM c (valM c F1 F2)) := fun F1 F2 h1 h2 => by
      have h9 := cov_val R h1 h2 z1 z3 z2 z4
      exact ⟨h9, cov_nxt R h9 hv3 hvl⟩
    have hvs : ∀ F1 F2, CovL s F1 → CovL r F2 → ∀ Γ A q A' q', In Γ (.old w none_) → In Γ (.vec booc 1 4 A q F1) → In Γ (.vec booc 1 4 A' q' F2) → ∀ w', Mem w' Γ → CVN Tryd.prog 33 [.agg (ccells c h).toArray, .slice A F1.length q, .slice A' F2.length q'] w' fun v N => ∃ A k, v = .tuple #[.slice A (valM c F1 F2).length k, nu 0] ∧ N = [.vec booc 1 4 A k (valM c F1 F2)] := fun F1 F2 c1 c2 Γ A q A' q' ho h1 h2 w' M => by
      have e : stepE c F1 F2 = 0 := stepE_ok z0 (by rw [← c1.len]; exact z1) (by rw [← c2.len]; exact z3)
      have e3 : valsM c F1 F2 = valM c F1 F2 := if_pos e
      have := ValuesP_cv (k2 := q) (k3 := q') (H.chg (ho.old M)) (h1.row M) (h2.row M)
      unfold ValsR at this
      rwa [e, e3] at this
    have hnx : ∀ F1 F2, CovL s F1 → CovL r F2 → ∀ Γ A q A' q', In Γ (.old w none_) → In Γ (.vec booc 1 4 A q F1) → In Γ (.vec booc 1 4 A' q' F2) → ∀ w', Mem w' Γ → CVN Tryd.prog 34 [.agg (ccells c h).toArray, .slice A F1.length q, .slice A' F2.length q'] w' fun v N => ∃ A k, v = .tuple #[.slice A (nxtM c (valM c F1 F2)).length k, nu 0] ∧ N = [.vec booc 1 4 A k (nxtM c (valM c F1 F2))] := fun F1 F2 c1 c2 Γ A q A' q' ho h1 h2 w' M => by
      have e : stepE c F1 F2 = 0 := stepE_ok z0 (by rw [← c1.len]; exact z1) (by rw [← c2.len]; exact z3)
      have e3 : nextM c F1 F2 = nxtM c (valM c F1 F2) := if_pos e
      have := NextP_cv (k2 := q) (k3 := q') (H.chg (ho.old M)) (h1.row M) (h2.row M)
      unfold NextR at this
      rwa [e, e3] at this
    generalize nxtT c (valT c s r) = X at *
    generalize valT c s r = V at *
    repeat' (first
|(apply G_call;eq_refl;eq_refl;(apply hW;(repeat first|exact In.here|apply In.there|apply In.skip));rintro _ _ ⟨rfl, rfl⟩)
|(apply G_call;eq_refl;eq_refl;(apply hva;(repeat first|exact In.here|apply In.there|apply In.skip));rintro _ _ ⟨A7, k7, rfl, rfl⟩)
|(apply G_shrZ8;eq_refl;eq_refl;omega;intro z2)
|(apply G_call;eq_refl;eq_refl;(apply hf1;(repeat first|exact In.here|apply In.there|apply In.skip));rintro _ _ ⟨B1, q1, F1, c1, rfl, rfl⟩)
|(apply G_call;eq_refl;eq_refl;(apply hf2;(repeat first|exact In.here|apply In.there|apply In.skip));rintro _ _ ⟨B2, q2, F2, c2, rfl, rfl⟩)
|(apply GC_seqK;intro K hK)
|(apply hK;clear hK K)
|(apply GC_region)
|(apply GL_nil)
|(apply thenG_normal)
|(apply GC_skip)
|(apply GC_if_false;eq_refl)
|(apply GL_on;eq_refl;eq_refl)
|(refine GC_draws (id := 6) [.q 0, .q 1, .q 2, .q 4, .q 5, .q 6, .q 7, .c 3, .c 8, .q 9, .q 10] mixed (by kernel_rfl) (by kernel_rfl) ?_)
|(apply GS_nil)
|(apply GS_qon;eq_refl;eq_refl;eq_refl;eq_refl)
|(apply GS_con;eq_refl;eq_refl;eq_refl;eq_refl)
|(apply G_pv;eq_refl;first|exact trivial|omega)
|(apply G_field;eq_refl)
|(apply G_ld;eq_refl;(repeat first|exact In.here|apply In.there|apply In.skip);eq_refl)
|(apply G_ldW;eq_refl;(repeat first|exact In.here|apply In.there|apply In.skip);eq_refl)
|(apply G_cmpF;eq_refl;eq_refl;omega)
|(apply G_box;eq_refl;eq_refl;intro _))
    obtain ⟨hVW, hXY⟩ := hcov F1 F2 c1 c2
    have hvs := hvs F1 F2 c1 c2
    have hnx := hnx F1 F2 c1 c2
    generalize nxtM c (valM c F1 F2) = Y at *
    generalize valM c F1 F2 = U at *
    have hUl := hVW.len
    have hYl := hXY.len
    repeat' (first
|(apply G_call;eq_refl;eq_refl;(apply hvs;(repeat first|exact In.here|apply In.there|apply In.skip);(repeat first|exact In.here|apply In.there|apply In.skip);(repeat first|exact In.here|apply In.there|apply In.skip));rintro _ _ ⟨A11, k11, rfl, rfl⟩)
|(apply G_call;eq_refl;eq_refl;(apply hse;(repeat first|exact In.here|apply In.there|apply In.skip));rintro _ _ ⟨A13, k13, rfl, rfl⟩)
|(apply G_call;eq_refl;eq_refl;(apply hnx;(repeat first|exact In.here|apply In.there|apply In.skip);(repeat first|exact In.here|apply In.there|apply In.skip);(repeat first|exact In.here|apply In.there|apply In.skip));rintro _ _ ⟨A15, k15, rfl, rfl⟩)
|(apply G_makeI booc;eq_refl;eq_refl;omega;eq_refl;omega;decide;intro b)
|(apply GC_seqK;intro K hK)
|(apply hK;clear hK K)
|(apply GC_block)
|(apply GC_region)
|(apply GL_nil)
|(apply thenG_normal)
|(apply GC_skip)
|(apply GC_if_false;eq_refl)
|(apply GL_on;eq_refl;eq_refl)
|(apply G_pv;eq_refl;first|exact trivial|omega)
|(apply G_field;eq_refl)
|(apply G_ld;eq_refl;(repeat first|exact In.here|apply In.there|apply In.skip);eq_refl)
|(apply G_ldW;eq_refl;(repeat first|exact In.here|apply In.there|apply In.skip);eq_refl)
|(apply G_rd;eq_refl;(first|(apply Rd.own;(repeat first|exact In.here|apply In.there|apply In.skip);infer_instance)|(apply Rd.old;(repeat first|exact In.here|apply In.there|apply In.skip);assumption)|(apply Rd.oldR;(repeat first|exact In.here|apply In.there|apply In.skip);assumption)|exact Rd.nil|assumption);(case ih => infer_instance);omega;omega;eq_refl)
|(apply G_cmpF;eq_refl;eq_refl;omega)
|(apply G_len;eq_refl)
|(apply G_ix;eq_refl;eq_refl;(first|(apply Rd.own;(repeat first|exact In.here|apply In.there|apply In.skip);infer_instance)|(apply Rd.old;(repeat first|exact In.here|apply In.there|apply In.skip);assumption)|(apply Rd.oldR;(repeat first|exact In.here|apply In.there|apply In.skip);assumption)|exact Rd.nil|assumption);(first|eq_refl|omega);omega;omega))
    rename_i b3 b4
    have hInp := H.at_.inputs
    have hLat := H.at_.latches
    have hAnd := H.at_.ands
    refine GC_loopK [3, 7, 11, 13, 15, 17, 110, 111] (fun s : Nat × List Bool => [(112, nu s.1)]) (fun s => [.vec booc 1 4 (some ⟨b, 0, none⟩) (c.max + 1).toNat s.2, .vec icell 1 3 A7 k7 V, .vec booc 1 4 A11 k11 U, .vec icell 1 3 A13 k13 X, .vec booc 1 4 A15 k15 Y, .box b3 29 (ccells c h), .old w none_]) (fun s => s.1 ≤ c.inputs.length ∧ s.2.length = (c.max + 1).toNat ∧ Mkd s.2 fun i => ∃ j : Nat, j < s.1 ∧ (gt c.inputs (j : Int) / 2).toNat = i) (fun s => c.inputs.length - s.1) (0, List.replicate (c.max + 1).toNat false) (by repeat first | exact Pick.nil | (apply Pick.cons; eq_refl)) (by repeat first | exact trivial | refine ⟨rfl, ?_⟩) (by repeat first | exact Wk.nil | exact Wk.refl | (apply Wk.cons; (focus ((repeat first | exact Rem.here | apply Rem.there | apply Rem.skip); done))) | apply Wk.nilv | apply Wk.last | apply Wk.drop) ⟨Nat.zero_le _, List.length_replicate, fun i ⟨j, h1, _⟩ => absurd h1 (Nat.not_lt_zero _)⟩ ?_
    rintro ⟨i, D⟩ ⟨hi, hDl, hD⟩
    dsimp only at hi hDl hD ⊢
    rcases Nat.lt_or_ge i c.inputs.length with hlt | hge
    · have hd := R.inp (gt_mem (l := c.inputs) (i := (i : Int)) (by omega) (by omega))
      unfold defR at hd
      repeat' (first
|(apply GC_seqK;intro K hK)
|(apply hK;clear hK K)
|(apply GC_block)
|(apply GC_region)
|(apply GL_nil)
|(apply thenG_normal)
|(apply blockG_normal)
|(apply GC_skip)
|(apply GC_if_true;eq_refl)
|(apply GL_on;eq_refl;eq_refl)
|(apply G_pv;eq_refl;first|exact trivial|omega)
|(apply G_rd;eq_refl;(first|(apply Rd.own;(repeat first|exact In.here|apply In.there|apply In.skip);infer_instance)|(apply Rd.old;(repeat first|exact In.here|apply In.there|apply In.skip);assumption)|(apply Rd.oldR;(repeat first|exact In.here|apply In.there|apply In.skip);assumption)|exact Rd.nil|assumption);(case ih => infer_instance);omega;omega;eq_refl)
|(apply G_cmpT;eq_refl;eq_refl;omega)
|(apply G_ix;eq_refl;eq_refl;(first|(apply Rd.own;(repeat first|exact In.here|apply In.there|apply In.skip);infer_instance)|(apply Rd.old;(repeat first|exact In.here|apply In.there|apply In.skip);assumption)|(apply Rd.oldR;(repeat first|exact In.here|apply In.there|apply In.skip);assumption)|exact Rd.nil|assumption);(first|eq_refl|omega);omega;omega)
|(apply G_stV;(first|exact wr_p|kernel_rfl);eq_refl;eq_refl;eq_refl;eq_refl;(repeat first|exact Upd.here|apply Upd.there|apply Upd.skip);infer_instance;infer_instance;eq_refl;omega;(try simp only [List.length_set, List.length_append, List.length_replicate]);omega))
      exact ⟨(i + 1, D.set (gt c.inputs (i : Int) / 2).toNat true), (by repeat first | exact trivial | refine ⟨rfl, ?_⟩), (by repeat first | exact Wk.nil | exact Wk.refl | (apply Wk.cons; (focus ((repeat first | exact Rem.here | apply Rem.there | apply Rem.skip); done))) | apply Wk.nilv | apply Wk.last | apply Wk.drop), ⟨hlt, by rw [List.length_set]; exact hDl, hD.set (by omega) fun k ⟨j, h1, h2⟩ => (Nat.lt_succ_iff_lt_or_eq.1 h1).imp (fun h1 => ⟨j, h1, h2⟩) fun h1 => by rw [← h2, h1]⟩, by dsimp only; omega⟩
    · obtain rfl : i = c.inputs.length := by omega
      repeat' (first
|(apply GC_seqK;intro K hK)
|(apply hK;clear hK K)
|(clear hK K;apply hK;clear hK K)
|(apply GC_block)
|(apply GC_region)
|(apply GL_nil)
|(apply thenG_normal)
|(apply thenG_exit)
|(apply blockG_hit)
|(apply GC_exit)
|(apply GC_if_false;eq_refl)
|(apply GL_on;eq_refl;eq_refl)
|(apply G_pv;eq_refl;first|exact trivial|omega)
|(apply G_field;eq_refl)
|(apply G_ld;eq_refl;(repeat first|exact In.here|apply In.there|apply In.skip);eq_refl)
|(apply G_cmpF;eq_refl;eq_refl;omega)
|(apply G_len;eq_refl))
      refine GC_loopK [3, 7, 11, 13, 15, 17, 122, 123] (fun s : Nat × List Bool => [(124, nu s.1)]) (fun s => [.vec booc 1 4 (some ⟨b, 0, none⟩) (c.max + 1).toNat s.2, .vec icell 1 3 A7 k7 V, .vec booc 1 4 A11 k11 U, .vec icell 1 3 A13 k13 X, .vec booc 1 4 A15 k15 Y, .box b3 29 (ccells c h), .old w none_]) (fun s => s.1 ≤ c.latches.length ∧ s.2.length = (c.max + 1).toNat ∧ Mkd s.2 fun i => (∃ j : Nat, j < c.inputs.length ∧ (gt c.inputs (j : Int) / 2).toNat = i) ∨ ∃ j : Nat, j < s.1 ∧ ((gt c.latches (j : Int)).1 / 2).toNat = i) (fun s => c.latches.length - s.1) (0, D) (by repeat first | exact Pick.nil | (apply Pick.cons; eq_refl)) (by repeat first | exact trivial | refine ⟨rfl, ?_⟩) (by repeat first | exact Wk.nil | exact Wk.refl | (apply Wk.cons; (focus ((repeat first | exact Rem.here | apply Rem.there | apply Rem.skip); done))) | apply Wk.nilv | apply Wk.last | apply Wk.drop) ⟨Nat.zero_le _, hDl, fun i h1 => h1.elim (hD i) fun ⟨j, h1, _⟩ => absurd h1 (Nat.not_lt_zero _)⟩ ?_
      clear hD hDl D
      rintro ⟨i, D⟩ ⟨hi, hDl, hD⟩
      dsimp only at hi hDl hD ⊢
      rcases Nat.lt_or_ge i c.latches.length with hlt | hge
      · have hd := (R.lat (gt_mem (l := c.latches) (i := (i : Int)) (by omega) (by omega))).1
        unfold defR at hd
        repeat' (first
|(apply GC_seqK;intro K hK)
|(apply hK;clear hK K)
|(apply GC_block)
|(apply GC_region)
|(apply GL_nil)
|(apply thenG_normal)
|(apply blockG_normal)
|(apply GC_skip)
|(apply GC_if_true;eq_refl)
|(apply GL_on;eq_refl;eq_refl)
|(apply G_pv;eq_refl;first|exact trivial|omega)
|(apply G_field;eq_refl)
|(apply G_ld;eq_refl;(repeat first|exact In.here|apply In.there|apply In.skip);eq_refl)
|(apply G_rdW;eq_refl;(first|(apply Rd.own;(repeat first|exact In.here|apply In.there|apply In.skip);infer_instance)|(apply Rd.old;(repeat first|exact In.here|apply In.there|apply In.skip);assumption)|(apply Rd.oldR;(repeat first|exact In.here|apply In.there|apply In.skip);assumption)|exact Rd.nil|assumption);infer_instance;(case ih => infer_instance);omega;omega)
|(apply G_cmpT;eq_refl;eq_refl;omega)
|(apply G_ix;eq_refl;eq_refl;(first|(apply Rd.own;(repeat first|exact In.here|apply In.there|apply In.skip);infer_instance)|(apply Rd.old;(repeat first|exact In.here|apply In.there|apply In.skip);assumption)|(apply Rd.oldR;(repeat first|exact In.here|apply In.there|apply In.skip);assumption)|exact Rd.nil|assumption);(first|eq_refl|omega);omega;omega)
|(apply G_alloc;eq_refl;intro _)
|(apply G_stV;(first|exact wr_p|kernel_rfl);eq_refl;eq_refl;eq_refl;eq_refl;(repeat first|exact Upd.here|apply Upd.there|apply Upd.skip);infer_instance;infer_instance;eq_refl;omega;(try simp only [List.length_set, List.length_append, List.length_replicate]);omega)
|(apply G_stW;(first|exact wr_p|kernel_rfl);eq_refl;eq_refl;eq_refl;eq_refl;(repeat first|exact Upd.here|apply Upd.there|apply Upd.skip);eq_refl))
        exact ⟨(i + 1, D.set ((gt c.latches (i : Int)).1 / 2).toNat true), (by repeat first | exact trivial | refine ⟨rfl, ?_⟩), (by repeat first | exact Wk.nil | exact Wk.refl | (apply Wk.cons; (focus ((repeat first | exact Rem.here | apply Rem.there | apply Rem.skip); done))) | apply Wk.nilv | apply Wk.last | apply Wk.drop), ⟨hlt, by rw [List.length_set]; exact hDl, hD.set (by omega) fun k h0 => by
          rcases h0 with h1 | ⟨j, h1, h2⟩
          · exact .inl (.inl h1)
          · exact (Nat.lt_succ_iff_lt_or_eq.1 h1).imp (fun h1 => .inr ⟨j, h1, h2⟩) fun h1 => by rw [← h2, h1]⟩, by dsimp only; omega⟩
      · obtain rfl : i = c.latches.length := by omega
        repeat' (first
|(apply GC_seqK;intro K hK)
|(apply hK;clear hK K)
|(clear hK K;apply hK;clear hK K)
|(apply GC_block)
|(apply GC_region)
|(apply GL_nil)
|(apply thenG_normal)
|(apply thenG_exit)
|(apply blockG_hit)
|(apply GC_exit)
|(apply GC_if_false;eq_refl)
|(apply GL_on;eq_refl;eq_refl)
|(apply G_pv;eq_refl;first|exact trivial|omega)
|(apply G_field;eq_refl)
|(apply G_ld;eq_refl;(repeat first|exact In.here|apply In.there|apply In.skip);eq_refl)
|(apply G_cmpF;eq_refl;eq_refl;omega)
|(apply G_len;eq_refl))
        refine GC_loopK [3, 7, 11, 13, 15, 17, 135, 136] (fun s : Nat × List Bool => [(137, nu s.1)]) (fun s => [.vec booc 1 4 (some ⟨b, 0, none⟩) (c.max + 1).toNat s.2, .vec icell 1 3 A7 k7 V, .vec booc 1 4 A11 k11 U, .vec icell 1 3 A13 k13 X, .vec booc 1 4 A15 k15 Y, .box b3 29 (ccells c h), .old w none_]) (fun s => s.1 ≤ c.ands.length ∧ s.2.length = (c.max + 1).toNat ∧ Mkd s.2 fun i => ((∃ j : Nat, j < c.inputs.length ∧ (gt c.inputs (j : Int) / 2).toNat = i) ∨ ∃ j : Nat, j < c.latches.length ∧ ((gt c.latches (j : Int)).1 / 2).toNat = i) ∨ ∃ j : Nat, j < s.1 ∧ ((gt c.ands (j : Int)).1 / 2).toNat = i) (fun s => c.ands.length - s.1) (0, D) (by repeat first | exact Pick.nil | (apply Pick.cons; eq_refl)) (by repeat first | exact trivial | refine ⟨rfl, ?_⟩) (by repeat first | exact Wk.nil | exact Wk.refl | (apply Wk.cons; (focus ((repeat first | exact Rem.here | apply Rem.there | apply Rem.skip); done))) | apply Wk.nilv | apply Wk.last | apply Wk.drop) ⟨Nat.zero_le _, hDl, fun i h1 => h1.elim (hD i) fun ⟨j, h1, _⟩ => absurd h1 (Nat.not_lt_zero _)⟩ ?_
        clear hD hDl D
        rintro ⟨i, D⟩ ⟨hi, hDl, hD⟩
        dsimp only at hi hDl hD ⊢
        rcases Nat.lt_or_ge i c.ands.length with hlt | hge
        · have hd := (R.gate (gt_mem (l := c.ands) (i := (i : Int)) (by omega) (by omega))).1
          unfold defR at hd
          repeat' (first
|(apply GC_seqK;intro K hK)
|(apply hK;clear hK K)
|(apply GC_block)
|(apply GC_region)
|(apply GL_nil)
|(apply thenG_normal)
|(apply blockG_normal)
|(apply GC_skip)
|(apply GC_if_true;eq_refl)
|(apply GL_on;eq_refl;eq_refl)
|(apply G_pv;eq_refl;first|exact trivial|omega)
|(apply G_field;eq_refl)
|(apply G_ld;eq_refl;(repeat first|exact In.here|apply In.there|apply In.skip);eq_refl)
|(apply G_rdW;eq_refl;(first|(apply Rd.own;(repeat first|exact In.here|apply In.there|apply In.skip);infer_instance)|(apply Rd.old;(repeat first|exact In.here|apply In.there|apply In.skip);assumption)|(apply Rd.oldR;(repeat first|exact In.here|apply In.there|apply In.skip);assumption)|exact Rd.nil|assumption);infer_instance;(case ih => infer_instance);omega;omega)
|(apply G_cmpT;eq_refl;eq_refl;omega)
|(apply G_ix;eq_refl;eq_refl;(first|(apply Rd.own;(repeat first|exact In.here|apply In.there|apply In.skip);infer_instance)|(apply Rd.old;(repeat first|exact In.here|apply In.there|apply In.skip);assumption)|(apply Rd.oldR;(repeat first|exact In.here|apply In.there|apply In.skip);assumption)|exact Rd.nil|assumption);(first|eq_refl|omega);omega;omega)
|(apply G_alloc;eq_refl;intro _)
|(apply G_stV;(first|exact wr_p|kernel_rfl);eq_refl;eq_refl;eq_refl;eq_refl;(repeat first|exact Upd.here|apply Upd.there|apply Upd.skip);infer_instance;infer_instance;eq_refl;omega;(try simp only [List.length_set, List.length_append, List.length_replicate]);omega)
|(apply G_stW;(first|exact wr_p|kernel_rfl);eq_refl;eq_refl;eq_refl;eq_refl;(repeat first|exact Upd.here|apply Upd.there|apply Upd.skip);eq_refl))
          exact ⟨(i + 1, D.set ((gt c.ands (i : Int)).1 / 2).toNat true), (by repeat first | exact trivial | refine ⟨rfl, ?_⟩), (by repeat first | exact Wk.nil | exact Wk.refl | (apply Wk.cons; (focus ((repeat first | exact Rem.here | apply Rem.there | apply Rem.skip); done))) | apply Wk.nilv | apply Wk.last | apply Wk.drop), ⟨hlt, by rw [List.length_set]; exact hDl, hD.set (by omega) fun k h0 => by
            rcases h0 with h1 | ⟨j, h1, h2⟩
            · exact .inl (.inl h1)
            · exact (Nat.lt_succ_iff_lt_or_eq.1 h1).imp (fun h1 => .inr ⟨j, h1, h2⟩) fun h1 => by rw [← h2, h1]⟩, by dsimp only; omega⟩
        · obtain rfl : i = c.ands.length := by omega
          have hD : ∀ i : Nat, i < V.length → gt D (i : Int) = false → i = 0 ∨ gt V (i : Int) = 2 := fun i hi hf => Classical.byContradiction fun hn => by
            rcases hvd i hi (fun e => hn (.inr e)) with h1 | h1
            · exact hn (.inl h1)
            · have := hD i (by
                rcases h1 with h1 | h1 | h1
                · exact .inl (.inl h1)
                · exact .inl (.inr h1)
                · exact .inr h1)
              rw [this] at hf
              cases hf
          repeat' (first
|(apply GC_seqK;intro K hK)
|(apply hK;clear hK K)
|(clear hK K;apply hK;clear hK K)
|(apply GC_block)
|(apply GC_region)
|(apply GL_nil)
|(apply thenG_normal)
|(apply thenG_exit)
|(apply blockG_hit)
|(apply GC_exit)
|(apply GC_if_false;eq_refl)
|(apply GL_on;eq_refl;eq_refl)
|(apply G_pv;eq_refl;first|exact trivial|omega)
|(apply G_cmpF;eq_refl;eq_refl;omega)
|(apply G_len;eq_refl))
          refine GC_loopK [7, 11, 13, 15, 17, 147, 148] (fun i : Nat => [(149, nu i)]) (fun _ => [.vec booc 1 4 (some ⟨b, 0, none⟩) (c.max + 1).toNat D, .vec icell 1 3 A7 k7 V, .vec booc 1 4 A11 k11 U, .vec icell 1 3 A13 k13 X, .vec booc 1 4 A15 k15 Y, .old w none_]) (fun i => i ≤ V.length) (fun i => V.length - i) 0 (by repeat first | exact Pick.nil | (apply Pick.cons; eq_refl)) (by repeat first | exact trivial | refine ⟨rfl, ?_⟩) (by repeat first | exact Wk.nil | exact Wk.refl | (apply Wk.cons; (focus ((repeat first | exact Rem.here | apply Rem.there | apply Rem.skip); done))) | apply Wk.nilv | apply Wk.last | apply Wk.drop) (Nat.zero_le _) ?_
          intro i hi
          rcases Nat.lt_or_ge i V.length with hlt | hge
          · have hrdD : ∀ Γ, In Γ (.vec booc 1 4 (some ⟨b, 0, none⟩) (c.max + 1).toNat D) → Rd Γ booc 1 (some ⟨b, 0, none⟩) D := fun Γ hi => Rd.own hi inferInstance
            have hrdU : ∀ Γ, In Γ (.vec booc 1 4 A11 k11 U) → Rd Γ booc 1 A11 U := fun Γ hi => Rd.own hi inferInstance
            have hDi := hD i hlt
            have hcj := hVW.each i hlt
            generalize hd0 : gt D (i : Int) = d0 at *
            generalize hx0 : gt V (i : Int) = x0 at *
            generalize hu0 : gt U (i : Int) = u0 at *
            cases d0
            · by_cases h2 : x0 = 2
              · subst h2
                by_cases h0 : i = 0
                · subst h0
                  repeat' (first
|(apply G_rd;eq_refl;(apply hrdD;(repeat first|exact In.here|apply In.there|apply In.skip));(case ih => infer_instance);omega;omega;(rw [hd0];eq_refl))
|(apply GC_seqK;intro K hK)
|(apply hK;clear hK K)
|(apply GC_block)
|(apply GC_region)
|(apply GL_nil)
|(apply thenG_normal)
|(apply blockG_normal)
|(apply GC_skip)
|(apply GC_if_true;eq_refl)
|(apply GC_if_false;eq_refl)
|(apply GL_on;eq_refl;eq_refl)
|(refine GC_draws (id := 31) [.q 0, .q 1, .q 2, .q 3, .q 4, .q 5, .q 6, .q 7, .q 8, .q 9, .q 10, .q 11, .q 12, .q 13, .q 14, .q 15, .q 16, .q 17, .q 18, .q 19, .q 20, .q 21, .q 22, .q 23, .q 24, .q 25, .q 26, .q 27, .q 28, .q 29, .q 30, .q 31, .q 32, .q 33, .q 34, .q 35, .q 36, .q 37, .q 38, .q 39, .q 40] mixed (by kernel_rfl) (by kernel_rfl) ?_)
|(apply GS_nil)
|(apply GS_qon;eq_refl;eq_refl;eq_refl;eq_refl)
|(apply GS_qoff;eq_refl;eq_refl;eq_refl;eq_refl)
|(apply G_pv;eq_refl;first|exact trivial|omega)
|(apply G_cmpT;eq_refl;eq_refl;omega)
|(apply G_cmpF;eq_refl;eq_refl;omega)
|(apply G_ix;eq_refl;eq_refl;(first|(apply Rd.own;(repeat first|exact In.here|apply In.there|apply In.skip);infer_instance)|(apply Rd.old;(repeat first|exact In.here|apply In.there|apply In.skip);assumption)|(apply Rd.oldR;(repeat first|exact In.here|apply In.there|apply In.skip);assumption)|exact Rd.nil|assumption);(first|eq_refl|omega);omega;omega))
                  exact ⟨0 + 1, (by repeat first | exact trivial | refine ⟨rfl, ?_⟩), (by repeat first | exact Wk.nil | exact Wk.refl | (apply Wk.cons; (focus ((repeat first | exact Rem.here | apply Rem.there | apply Rem.skip); done))) | apply Wk.nilv | apply Wk.last | apply Wk.drop), hlt, by omega⟩
                · repeat' (first
|(apply G_rd;eq_refl;(apply hrdD;(repeat first|exact In.here|apply In.there|apply In.skip));(case ih => infer_instance);omega;omega;(rw [hd0];eq_refl))
|(apply GC_seqK;intro K hK)
|(apply hK;clear hK K)
|(apply GC_block)
|(apply GC_region)
|(apply GL_nil)
|(apply thenG_normal)
|(apply blockG_normal)
|(apply GC_skip)
|(apply GC_if_true;eq_refl)
|(apply GC_if_false;eq_refl)
|(apply GL_on;eq_refl;eq_refl)
|(refine GC_draws (id := 31) [.q 0, .q 1, .q 2, .q 3, .q 4, .q 5, .q 6, .q 7, .q 8, .q 9, .q 10, .q 11, .q 12, .q 13, .q 14, .q 15, .q 16, .q 17, .q 18, .q 19, .q 20, .q 21, .q 22, .q 23, .q 24, .q 25, .q 26, .q 27, .q 28, .q 29, .q 30, .q 31, .q 32, .q 33, .q 34, .q 35, .q 36, .q 37, .q 38, .q 39, .q 40] mixed (by kernel_rfl) (by kernel_rfl) ?_)
|(apply GS_nil)
|(apply GS_qon;eq_refl;eq_refl;eq_refl;eq_refl)
|(apply GS_qoff;eq_refl;eq_refl;eq_refl;eq_refl)
|(apply G_pv;eq_refl;first|exact trivial|omega)
|(apply G_rd;eq_refl;(first|(apply Rd.own;(repeat first|exact In.here|apply In.there|apply In.skip);infer_instance)|(apply Rd.old;(repeat first|exact In.here|apply In.there|apply In.skip);assumption)|(apply Rd.oldR;(repeat first|exact In.here|apply In.there|apply In.skip);assumption)|exact Rd.nil|assumption);(case ih => infer_instance);omega;omega;eq_refl)
|(apply G_cmpT;eq_refl;eq_refl;omega)
|(apply G_cmpF;eq_refl;eq_refl;omega)
|(apply G_ix;eq_refl;eq_refl;(first|(apply Rd.own;(repeat first|exact In.here|apply In.there|apply In.skip);infer_instance)|(apply Rd.old;(repeat first|exact In.here|apply In.there|apply In.skip);assumption)|(apply Rd.oldR;(repeat first|exact In.here|apply In.there|apply In.skip);assumption)|exact Rd.nil|assumption);(first|eq_refl|omega);omega;omega))
                  exact ⟨i + 1, (by repeat first | exact trivial | refine ⟨rfl, ?_⟩), (by repeat first | exact Wk.nil | exact Wk.refl | (apply Wk.cons; (focus ((repeat first | exact Rem.here | apply Rem.there | apply Rem.skip); done))) | apply Wk.nilv | apply Wk.last | apply Wk.drop), hlt, by omega⟩
              · obtain rfl : i = 0 := (hDi rfl).resolve_right h2
                repeat' (first
|(apply G_rd;eq_refl;(apply hrdD;(repeat first|exact In.here|apply In.there|apply In.skip));(case ih => infer_instance);omega;omega;(rw [hd0];eq_refl))
|(apply GC_seqK;intro K hK)
|(apply hK;clear hK K)
|(apply GC_block)
|(apply GC_region)
|(apply GL_nil)
|(apply thenG_normal)
|(apply blockG_normal)
|(apply GC_skip)
|(apply GC_if_true;eq_refl)
|(apply GC_if_false;eq_refl)
|(apply GL_on;eq_refl;eq_refl)
|(refine GC_draws (id := 31) [.q 0, .q 1, .q 2, .q 3, .q 4, .q 5, .q 6, .q 7, .q 8, .q 9, .q 10, .q 11, .q 12, .q 13, .q 14, .q 15, .q 16, .q 17, .q 18, .q 19, .q 20, .q 21, .q 22, .q 23, .q 24, .q 25, .q 26, .q 27, .q 28, .q 29, .q 30, .q 31, .q 32, .q 33, .q 34, .q 35, .q 36, .q 37, .q 38, .q 39, .q 40] mixed (by kernel_rfl) (by kernel_rfl) ?_)
|(apply GS_nil)
|(apply GS_qon;eq_refl;eq_refl;eq_refl;eq_refl)
|(apply GS_qoff;eq_refl;eq_refl;eq_refl;eq_refl)
|(apply G_pv;eq_refl;first|exact trivial|omega)
|(apply G_cmpT;eq_refl;eq_refl;omega)
|(apply G_cmpF;eq_refl;eq_refl;omega)
|(apply G_ix;eq_refl;eq_refl;(first|(apply Rd.own;(repeat first|exact In.here|apply In.there|apply In.skip);infer_instance)|(apply Rd.old;(repeat first|exact In.here|apply In.there|apply In.skip);assumption)|(apply Rd.oldR;(repeat first|exact In.here|apply In.there|apply In.skip);assumption)|exact Rd.nil|assumption);(first|eq_refl|omega);omega;omega))
                exact ⟨0 + 1, (by repeat first | exact trivial | refine ⟨rfl, ?_⟩), (by repeat first | exact Wk.nil | exact Wk.refl | (apply Wk.cons; (focus ((repeat first | exact Rem.here | apply Rem.there | apply Rem.skip); done))) | apply Wk.nilv | apply Wk.last | apply Wk.drop), hlt, by omega⟩
            · by_cases h2 : x0 = 2
              · subst h2
                repeat' (first
|(apply G_rd;eq_refl;(apply hrdD;(repeat first|exact In.here|apply In.there|apply In.skip));(case ih => infer_instance);omega;omega;(rw [hd0];eq_refl))
|(apply GC_seqK;intro K hK)
|(apply hK;clear hK K)
|(apply GC_block)
|(apply GC_region)
|(apply GL_nil)
|(apply thenG_normal)
|(apply blockG_normal)
|(apply GC_skip)
|(apply GC_if_true;eq_refl)
|(apply GC_if_false;eq_refl)
|(apply GL_on;eq_refl;eq_refl)
|(refine GC_draws (id := 31) [.q 0, .q 1, .q 2, .q 3, .q 4, .q 5, .q 6, .q 7, .q 8, .q 9, .q 10, .q 11, .q 12, .q 13, .q 14, .q 15, .q 16, .q 17, .q 18, .q 19, .q 20, .q 21, .q 22, .q 23, .q 24, .q 25, .q 26, .q 27, .q 28, .q 29, .q 30, .q 31, .q 32, .q 33, .q 34, .q 35, .q 36, .q 37, .q 38, .q 39, .q 40] mixed (by kernel_rfl) (by kernel_rfl) ?_)
|(apply GS_nil)
|(apply GS_qon;eq_refl;eq_refl;eq_refl;eq_refl)
|(apply GS_qoff;eq_refl;eq_refl;eq_refl;eq_refl)
|(apply G_pv;eq_refl;first|exact trivial|omega)
|(apply G_rd;eq_refl;(first|(apply Rd.own;(repeat first|exact In.here|apply In.there|apply In.skip);infer_instance)|(apply Rd.old;(repeat first|exact In.here|apply In.there|apply In.skip);assumption)|(apply Rd.oldR;(repeat first|exact In.here|apply In.there|apply In.skip);assumption)|exact Rd.nil|assumption);(case ih => infer_instance);omega;omega;eq_refl)
|(apply G_cmpT;eq_refl;eq_refl;omega)
|(apply G_cmpF;eq_refl;eq_refl;omega)
|(apply G_ix;eq_refl;eq_refl;(first|(apply Rd.own;(repeat first|exact In.here|apply In.there|apply In.skip);infer_instance)|(apply Rd.old;(repeat first|exact In.here|apply In.there|apply In.skip);assumption)|(apply Rd.oldR;(repeat first|exact In.here|apply In.there|apply In.skip);assumption)|exact Rd.nil|assumption);(first|eq_refl|omega);omega;omega))
                exact ⟨i + 1, (by repeat first | exact trivial | refine ⟨rfl, ?_⟩), (by repeat first | exact Wk.nil | exact Wk.refl | (apply Wk.cons; (focus ((repeat first | exact Rem.here | apply Rem.there | apply Rem.skip); done))) | apply Wk.nilv | apply Wk.last | apply Wk.drop), hlt, by omega⟩
              · have hcj := hcj h2
                subst hcj
                by_cases h1 : x0 = 1
                · subst h1
                  repeat' (first
|(apply G_rd;eq_refl;(apply hrdD;(repeat first|exact In.here|apply In.there|apply In.skip));(case ih => infer_instance);omega;omega;(rw [hd0];eq_refl))
|(apply G_rd;eq_refl;(apply hrdU;(repeat first|exact In.here|apply In.there|apply In.skip));(case ih => infer_instance);omega;omega;(rw [hu0];eq_refl))
|(apply GC_seqK;intro K hK)
|(apply hK;clear hK K)
|(apply GC_block)
|(apply GC_region)
|(apply GL_nil)
|(apply thenG_normal)
|(apply blockG_normal)
|(apply GC_skip)
|(apply GC_if_true;eq_refl)
|(apply GC_if_false;eq_refl)
|(apply GL_on;eq_refl;eq_refl)
|(refine GC_draws (id := 31) [.q 0, .q 1, .q 2, .q 3, .q 4, .q 5, .q 6, .q 7, .q 8, .q 9, .q 10, .q 11, .q 12, .q 13, .q 14, .q 15, .q 16, .q 17, .q 18, .q 19, .q 20, .q 21, .q 22, .q 23, .q 24, .q 25, .q 26, .q 27, .q 28, .q 29, .q 30, .q 31, .q 32, .q 33, .q 34, .q 35, .q 36, .q 37, .q 38, .q 39, .q 40] mixed (by kernel_rfl) (by kernel_rfl) ?_)
|(apply GS_nil)
|(apply GS_qon;eq_refl;eq_refl;eq_refl;eq_refl)
|(apply GS_qoff;eq_refl;eq_refl;eq_refl;eq_refl)
|(apply G_pv;eq_refl;first|exact trivial|omega)
|(apply G_rd;eq_refl;(first|(apply Rd.own;(repeat first|exact In.here|apply In.there|apply In.skip);infer_instance)|(apply Rd.old;(repeat first|exact In.here|apply In.there|apply In.skip);assumption)|(apply Rd.oldR;(repeat first|exact In.here|apply In.there|apply In.skip);assumption)|exact Rd.nil|assumption);(case ih => infer_instance);omega;omega;eq_refl)
|(apply G_cmpT;eq_refl;eq_refl;omega)
|(apply G_ix;eq_refl;eq_refl;(first|(apply Rd.own;(repeat first|exact In.here|apply In.there|apply In.skip);infer_instance)|(apply Rd.old;(repeat first|exact In.here|apply In.there|apply In.skip);assumption)|(apply Rd.oldR;(repeat first|exact In.here|apply In.there|apply In.skip);assumption)|exact Rd.nil|assumption);(first|eq_refl|omega);omega;omega)
|(apply G_neqB;eq_refl;eq_refl))
                  exact ⟨i + 1, (by repeat first | exact trivial | refine ⟨rfl, ?_⟩), (by repeat first | exact Wk.nil | exact Wk.refl | (apply Wk.cons; (focus ((repeat first | exact Rem.here | apply Rem.there | apply Rem.skip); done))) | apply Wk.nilv | apply Wk.last | apply Wk.drop), hlt, by omega⟩
                · rw [decide_eq_false h1] at hu0
                  repeat' (first
|(apply G_rd;eq_refl;(apply hrdD;(repeat first|exact In.here|apply In.there|apply In.skip));(case ih => infer_instance);omega;omega;(rw [hd0];eq_refl))
|(apply G_rd;eq_refl;(apply hrdU;(repeat first|exact In.here|apply In.there|apply In.skip));(case ih => infer_instance);omega;omega;(rw [hu0];eq_refl))
|(apply GC_seqK;intro K hK)
|(apply hK;clear hK K)
|(apply GC_block)
|(apply GC_region)
|(apply GL_nil)
|(apply thenG_normal)
|(apply blockG_normal)
|(apply GC_skip)
|(apply GC_if_true;eq_refl)
|(apply GC_if_false;eq_refl)
|(apply GL_on;eq_refl;eq_refl)
|(refine GC_draws (id := 31) [.q 0, .q 1, .q 2, .q 3, .q 4, .q 5, .q 6, .q 7, .q 8, .q 9, .q 10, .q 11, .q 12, .q 13, .q 14, .q 15, .q 16, .q 17, .q 18, .q 19, .q 20, .q 21, .q 22, .q 23, .q 24, .q 25, .q 26, .q 27, .q 28, .q 29, .q 30, .q 31, .q 32, .q 33, .q 34, .q 35, .q 36, .q 37, .q 38, .q 39, .q 40] mixed (by kernel_rfl) (by kernel_rfl) ?_)
|(apply GS_nil)
|(apply GS_qon;eq_refl;eq_refl;eq_refl;eq_refl)
|(apply GS_qoff;eq_refl;eq_refl;eq_refl;eq_refl)
|(apply G_pv;eq_refl;first|exact trivial|omega)
|(apply G_rd;eq_refl;(first|(apply Rd.own;(repeat first|exact In.here|apply In.there|apply In.skip);infer_instance)|(apply Rd.old;(repeat first|exact In.here|apply In.there|apply In.skip);assumption)|(apply Rd.oldR;(repeat first|exact In.here|apply In.there|apply In.skip);assumption)|exact Rd.nil|assumption);(case ih => infer_instance);omega;omega;eq_refl)
|(apply G_cmpT;eq_refl;eq_refl;omega)
|(apply G_cmpF;eq_refl;eq_refl;omega)
|(apply G_ix;eq_refl;eq_refl;(first|(apply Rd.own;(repeat first|exact In.here|apply In.there|apply In.skip);infer_instance)|(apply Rd.old;(repeat first|exact In.here|apply In.there|apply In.skip);assumption)|(apply Rd.oldR;(repeat first|exact In.here|apply In.there|apply In.skip);assumption)|exact Rd.nil|assumption);(first|eq_refl|omega);omega;omega)
|(apply G_neqB;eq_refl;eq_refl))
                  exact ⟨i + 1, (by repeat first | exact trivial | refine ⟨rfl, ?_⟩), (by repeat first | exact Wk.nil | exact Wk.refl | (apply Wk.cons; (focus ((repeat first | exact Rem.here | apply Rem.there | apply Rem.skip); done))) | apply Wk.nilv | apply Wk.last | apply Wk.drop), hlt, by omega⟩
          · obtain rfl : i = V.length := by omega
            repeat' (first
|(apply GC_seqK;intro K hK)
|(apply hK;clear hK K)
|(clear hK K;apply hK;clear hK K)
|(apply GC_block)
|(apply GC_region)
|(apply GL_nil)
|(apply thenG_normal)
|(apply thenG_exit)
|(apply blockG_hit)
|(apply GC_exit)
|(apply GC_if_false;eq_refl)
|(apply GL_on;eq_refl;eq_refl)
|(apply G_pv;eq_refl;first|exact trivial|omega)
|(apply G_cmpF;eq_refl;eq_refl;omega)
|(apply G_len;eq_refl))
            refine GC_loopK [13, 15, 194, 195] (fun i : Nat => [(196, nu i)]) (fun _ => [.vec icell 1 3 A13 k13 X, .vec booc 1 4 A15 k15 Y, .old w none_]) (fun i => i ≤ X.length) (fun i => X.length - i) 0 (by repeat first | exact Pick.nil | (apply Pick.cons; eq_refl)) (by repeat first | exact trivial | refine ⟨rfl, ?_⟩) (by repeat first | exact Wk.nil | exact Wk.refl | (apply Wk.cons; (focus ((repeat first | exact Rem.here | apply Rem.there | apply Rem.skip); done))) | apply Wk.nilv | apply Wk.last | apply Wk.drop) (Nat.zero_le _) ?_
            intro i hi
            rcases Nat.lt_or_ge i X.length with hlt | hge
            · have hrdY : ∀ Γ, In Γ (.vec booc 1 4 A15 k15 Y) → Rd Γ booc 1 A15 Y := fun Γ hi => Rd.own hi inferInstance
              have hcj := hXY.each i hlt
              generalize hx0 : gt X (i : Int) = x0 at *
              generalize hu0 : gt Y (i : Int) = u0 at *
              by_cases h2 : x0 = 2
              · subst h2
                repeat' (first
|(apply GC_seqK;intro K hK)
|(apply hK;clear hK K)
|(apply GC_block)
|(apply GC_region)
|(apply GL_nil)
|(apply thenG_normal)
|(apply blockG_normal)
|(apply GC_skip)
|(apply GC_if_true;eq_refl)
|(apply GC_if_false;eq_refl)
|(apply GL_on;eq_refl;eq_refl)
|(refine GC_draws (id := 37) [.q 0, .q 1, .q 2, .q 3, .q 4, .q 5, .q 6, .q 7, .q 8, .q 9, .q 10, .q 11, .q 12, .q 13, .q 14, .q 15, .q 16] mixed (by kernel_rfl) (by kernel_rfl) ?_)
|(apply GS_nil)
|(apply GS_qon;eq_refl;eq_refl;eq_refl;eq_refl)
|(apply GS_qoff;eq_refl;eq_refl;eq_refl;eq_refl)
|(apply G_pv;eq_refl;first|exact trivial|omega)
|(apply G_rd;eq_refl;(first|(apply Rd.own;(repeat first|exact In.here|apply In.there|apply In.skip);infer_instance)|(apply Rd.old;(repeat first|exact In.here|apply In.there|apply In.skip);assumption)|(apply Rd.oldR;(repeat first|exact In.here|apply In.there|apply In.skip);assumption)|exact Rd.nil|assumption);(case ih => infer_instance);omega;omega;eq_refl)
|(apply G_cmpT;eq_refl;eq_refl;omega)
|(apply G_cmpF;eq_refl;eq_refl;omega)
|(apply G_ix;eq_refl;eq_refl;(first|(apply Rd.own;(repeat first|exact In.here|apply In.there|apply In.skip);infer_instance)|(apply Rd.old;(repeat first|exact In.here|apply In.there|apply In.skip);assumption)|(apply Rd.oldR;(repeat first|exact In.here|apply In.there|apply In.skip);assumption)|exact Rd.nil|assumption);(first|eq_refl|omega);omega;omega))
                exact ⟨i + 1, (by repeat first | exact trivial | refine ⟨rfl, ?_⟩), (by repeat first | exact Wk.nil | exact Wk.refl | (apply Wk.cons; (focus ((repeat first | exact Rem.here | apply Rem.there | apply Rem.skip); done))) | apply Wk.nilv | apply Wk.last | apply Wk.drop), hlt, by omega⟩
              · have hcj := hcj h2
                subst hcj
                by_cases h1 : x0 = 1
                · subst h1
                  repeat' (first
|(apply G_rd;eq_refl;(apply hrdY;(repeat first|exact In.here|apply In.there|apply In.skip));(case ih => infer_instance);omega;omega;(rw [hu0];eq_refl))
|(apply GC_seqK;intro K hK)
|(apply hK;clear hK K)
|(apply GC_block)
|(apply GC_region)
|(apply GL_nil)
|(apply thenG_normal)
|(apply blockG_normal)
|(apply GC_skip)
|(apply GC_if_true;eq_refl)
|(apply GC_if_false;eq_refl)
|(apply GL_on;eq_refl;eq_refl)
|(refine GC_draws (id := 37) [.q 0, .q 1, .q 2, .q 3, .q 4, .q 5, .q 6, .q 7, .q 8, .q 9, .q 10, .q 11, .q 12, .q 13, .q 14, .q 15, .q 16] mixed (by kernel_rfl) (by kernel_rfl) ?_)
|(apply GS_nil)
|(apply GS_qon;eq_refl;eq_refl;eq_refl;eq_refl)
|(apply G_pv;eq_refl;first|exact trivial|omega)
|(apply G_rd;eq_refl;(first|(apply Rd.own;(repeat first|exact In.here|apply In.there|apply In.skip);infer_instance)|(apply Rd.old;(repeat first|exact In.here|apply In.there|apply In.skip);assumption)|(apply Rd.oldR;(repeat first|exact In.here|apply In.there|apply In.skip);assumption)|exact Rd.nil|assumption);(case ih => infer_instance);omega;omega;eq_refl)
|(apply G_cmpT;eq_refl;eq_refl;omega)
|(apply G_ix;eq_refl;eq_refl;(first|(apply Rd.own;(repeat first|exact In.here|apply In.there|apply In.skip);infer_instance)|(apply Rd.old;(repeat first|exact In.here|apply In.there|apply In.skip);assumption)|(apply Rd.oldR;(repeat first|exact In.here|apply In.there|apply In.skip);assumption)|exact Rd.nil|assumption);(first|eq_refl|omega);omega;omega)
|(apply G_neqB;eq_refl;eq_refl))
                  exact ⟨i + 1, (by repeat first | exact trivial | refine ⟨rfl, ?_⟩), (by repeat first | exact Wk.nil | exact Wk.refl | (apply Wk.cons; (focus ((repeat first | exact Rem.here | apply Rem.there | apply Rem.skip); done))) | apply Wk.nilv | apply Wk.last | apply Wk.drop), hlt, by omega⟩
                · rw [decide_eq_false h1] at hu0
                  repeat' (first
|(apply G_rd;eq_refl;(apply hrdY;(repeat first|exact In.here|apply In.there|apply In.skip));(case ih => infer_instance);omega;omega;(rw [hu0];eq_refl))
|(apply GC_seqK;intro K hK)
|(apply hK;clear hK K)
|(apply GC_block)
|(apply GC_region)
|(apply GL_nil)
|(apply thenG_normal)
|(apply blockG_normal)
|(apply GC_skip)
|(apply GC_if_true;eq_refl)
|(apply GC_if_false;eq_refl)
|(apply GL_on;eq_refl;eq_refl)
|(refine GC_draws (id := 37) [.q 0, .q 1, .q 2, .q 3, .q 4, .q 5, .q 6, .q 7, .q 8, .q 9, .q 10, .q 11, .q 12, .q 13, .q 14, .q 15, .q 16] mixed (by kernel_rfl) (by kernel_rfl) ?_)
|(apply GS_nil)
|(apply GS_qon;eq_refl;eq_refl;eq_refl;eq_refl)
|(apply G_pv;eq_refl;first|exact trivial|omega)
|(apply G_rd;eq_refl;(first|(apply Rd.own;(repeat first|exact In.here|apply In.there|apply In.skip);infer_instance)|(apply Rd.old;(repeat first|exact In.here|apply In.there|apply In.skip);assumption)|(apply Rd.oldR;(repeat first|exact In.here|apply In.there|apply In.skip);assumption)|exact Rd.nil|assumption);(case ih => infer_instance);omega;omega;eq_refl)
|(apply G_cmpT;eq_refl;eq_refl;omega)
|(apply G_cmpF;eq_refl;eq_refl;omega)
|(apply G_ix;eq_refl;eq_refl;(first|(apply Rd.own;(repeat first|exact In.here|apply In.there|apply In.skip);infer_instance)|(apply Rd.old;(repeat first|exact In.here|apply In.there|apply In.skip);assumption)|(apply Rd.oldR;(repeat first|exact In.here|apply In.there|apply In.skip);assumption)|exact Rd.nil|assumption);(first|eq_refl|omega);omega;omega)
|(apply G_neqB;eq_refl;eq_refl))
                  exact ⟨i + 1, (by repeat first | exact trivial | refine ⟨rfl, ?_⟩), (by repeat first | exact Wk.nil | exact Wk.refl | (apply Wk.cons; (focus ((repeat first | exact Rem.here | apply Rem.there | apply Rem.skip); done))) | apply Wk.nilv | apply Wk.last | apply Wk.drop), hlt, by omega⟩
            · obtain rfl : i = X.length := by omega
              repeat' (first
|(apply GC_seqK;intro K hK)
|(apply hK;clear hK K)
|(clear hK K;apply hK;clear hK K)
|(apply GC_region)
|(apply GL_nil)
|(apply thenG_normal)
|(apply thenG_exit)
|(apply blockG_hit)
|(apply GC_ret)
|(apply GC_exit)
|(apply GC_if_false;eq_refl)
|(apply retG1;eq_refl)
|(apply GL_on;eq_refl;eq_refl)
|(apply G_pv;eq_refl;first|exact trivial|omega)
|(apply G_cmpF;eq_refl;eq_refl;omega))
              exact ⟨[], (by repeat first | exact Wk.nil | exact Wk.refl | (apply Wk.cons; (focus ((repeat first | exact Rem.here | apply Rem.there | apply Rem.skip); done))) | apply Wk.nilv | apply Wk.last | apply Wk.drop), rfl, rfl⟩
  · have e1 : tvM c s r = [] := if_neg he
    rw [e1] at hva
    generalize twE c s r = ε at *
    repeat' (first
|(apply G_call;eq_refl;eq_refl;(apply hW;(repeat first|exact In.here|apply In.there|apply In.skip));rintro _ _ ⟨rfl, rfl⟩)
|(apply G_call;eq_refl;eq_refl;(apply hva;(repeat first|exact In.here|apply In.there|apply In.skip));rintro _ _ ⟨A8, k8, rfl, rfl⟩)
|(apply GC_seqK;intro K hK)
|(apply hK;clear hK K)
|(apply GC_region)
|(apply GL_nil)
|(apply thenG_normal)
|(apply thenG_ret)
|(apply GC_ret)
|(apply GC_skip)
|(apply GC_if_true;eq_refl)
|(apply GC_if_false;eq_refl)
|(apply retG1;eq_refl)
|(apply GL_on;eq_refl;eq_refl)
|(apply G_pv;eq_refl;first|exact trivial|omega)
|(apply G_field;eq_refl)
|(apply G_ld;eq_refl;(repeat first|exact In.here|apply In.there|apply In.skip);eq_refl)
|(apply G_ldW;eq_refl;(repeat first|exact In.here|apply In.there|apply In.skip);eq_refl)
|(apply G_cmpT;eq_refl;eq_refl;omega)
|(apply G_cmp;eq_refl;eq_refl;all_goals intro _)
|(apply G_len;eq_refl)
|(apply G_box;eq_refl;eq_refl;intro _))
    all_goals first | exact ⟨[], (by repeat first | exact Wk.nil | exact Wk.refl | (apply Wk.cons; (focus ((repeat first | exact Rem.here | apply Rem.there | apply Rem.skip); done))) | apply Wk.nilv | apply Wk.last | apply Wk.drop), rfl, rfl⟩ | (exfalso; simp at *; done)
end SC
end Go.Proofs.YtclihihdgodloaaDoor
end

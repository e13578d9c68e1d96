/- Texts of this seat, one behind the other: S3 S4 S5 S6 S7 S8 S9 S10 S11 S12 S13 L10 S14 S15 S16 S17 S18 S19 S20 S21 S22 S23 S24 S27 S28 S29 S30 S31 S32 S33 S36 S34 S35 M1 M2 M3 S37 S38 S39. -/
import Derived.Test.YtkndegjodnciaaaW3
import Derived.ChangeArms
section
/- A right circuit; its values. trestleref07: Starts0, Values0. -/
set_option linter.unusedVariables false
set_option linter.unusedSimpArgs false
namespace Go.Proofs.Ytkndegjodnciaaa
namespace SC
open Go.Proofs
theorem CV.ex {P : Program} {f : FuncId} {args : List Value} {w : World} {R : Value → World → Prop} (h : CV P f args w R) : ∃ v w', R v w' := by
  obtain ⟨e, w', fr, h1, _⟩ := h []
  cases e with
  | returned v => exact ⟨v, w', h1⟩
  | panicked c => exact h1.elim
  | outgrown => exact h1.elim
/-- What is so of a right circuit. -/
structure Right (c : Circ) : Prop where
  tab : TabOk c (tabM c)
  use : UseAll c (tabM c)
  m0 : 0 ≤ c.max
  m1 : c.max ≤ 16384
  lens : ∀ n ∈ c.lens, n ≤ 16384
  sum : sumW c.justice ≤ 16384
  all : All c.ands.length (gateB (tabM c) c) (ordM c)
  ordLen : (ordM c).length = c.ands.length
theorem right_of {w : World} {c : Circ} {h js : Hd} (H : CirAt w c h js) (hs : c.Sane) (he : (lookM c).2 = 0) : Right c := by
  obtain ⟨v, w', _, hv⟩ := CV.ex (Order_cv H hs)
  rcases hv with ⟨h1, _⟩ | ⟨_, out, u, _, h2, h3, _⟩
  · exact absurd he h1
  · obtain ⟨_, g1, g2, g3, _⟩ := lookM_ok he
    obtain ⟨k1, k2, k3, k4⟩ := sizesM_ok g1
    have e1 := ordM_eq h2
    exact ⟨definesM_spec k1 g2, usesM_spec.1 g3, k1, k2, k3, k4, by rw [e1]; exact h2, by rw [e1]; exact h3⟩
def inR (c : Circ) (l : Int) : Prop := 0 ≤ l ∧ l ≤ 2 * c.max + 1
def defR (c : Circ) (l : Int) : Prop := 2 ≤ l ∧ l ≤ 2 * c.max ∧ l % 2 = 0
section
variable {c : Circ} (R : Right c)
include R
theorem Right.nLat : c.latches.length ≤ 16384 := by have := R.lens c.latches.length (by simp [Circ.lens]); omega
theorem Right.nBad : c.bads.length ≤ 16384 := by have := R.lens c.bads.length (by simp [Circ.lens]); omega
theorem Right.nJust : c.justice.length ≤ 16384 := by have := R.lens c.justice.length (by simp [Circ.lens]); omega
theorem Right.inp {l : Int} (h : l ∈ c.inputs) : defR c l := by
  obtain ⟨j, hj, rfl⟩ := List.mem_iff_getElem.1 h
  have := (R.tab.inp j hj).1
  unfold defBad at this; unfold defR; omega
theorem Right.lat {x : Tri} (h : x ∈ c.latches) : defR c x.1 ∧ inR c x.2.1 ∧ (x.2.2 = 0 ∨ x.2.2 = 1 ∨ x.2.2 = x.1) := by
  obtain ⟨j, hj, rfl⟩ := List.mem_iff_getElem.1 h
  have h1 := (R.tab.lat j hj).1
  have h2 := (R.tab.lat j hj).2.2
  have h3 := R.use.next _ (List.getElem_mem hj)
  unfold defBad at h1; unfold badReset at h2; unfold useOk at h3; unfold defR inR
  omega
theorem Right.gate {x : Tri} (h : x ∈ c.ands) : defR c x.1 ∧ inR c x.2.1 ∧ inR c x.2.2 := by
  obtain ⟨j, hj, rfl⟩ := List.mem_iff_getElem.1 h
  have h1 := (R.tab.gat j hj).1
  have h3 := R.use.ands _ (List.getElem_mem hj)
  unfold defBad at h1; unfold useOk at h3; unfold defR inR
  omega
theorem Right.con {l : Int} (h : l ∈ c.constraints) : inR c l := ⟨(R.use.constraints l h).1, (R.use.constraints l h).2.1⟩
theorem Right.bad {l : Int} (h : l ∈ c.bads) : inR c l := ⟨(R.use.bads l h).1, (R.use.bads l h).2.1⟩
theorem Right.fair {l : Int} (h : l ∈ c.fairness) : inR c l := ⟨(R.use.fairness l h).1, (R.use.fairness l h).2.1⟩
theorem Right.just {ls : List Int} {l : Int} (h : ls ∈ c.justice) (h2 : l ∈ ls) : inR c l := ⟨(R.use.justice ls h l h2).1, (R.use.justice ls h l h2).2.1⟩
theorem Right.ord {i : Int} (h : i ∈ ordM c) : 0 ≤ i ∧ i < c.ands.length := R.all.told.all i h
end
theorem inR.has {c : Circ} {l : Int} {v : List Bool} (h : inR c l) (hm : c.max ≤ 16384) (hv : v.length = (c.max + 1).toNat) : hasL v l := by unfold inR at h; unfold hasL; omega
theorem defR.in {c : Circ} {l : Int} (h : defR c l) : inR c l := by unfold defR at h; unfold inR; omega
/-! ### the values -/
def vIn (c : Circ) (r : List Bool) (i : Nat) : List Bool := (List.range i).foldl (fun v (k : Nat) => v.set (gt c.inputs (k : Int) / 2).toNat (gt r (k : Int))) (List.replicate (c.max + 1).toNat false)
def vLt (c : Circ) (s v : List Bool) (i : Nat) : List Bool := (List.range i).foldl (fun v (k : Nat) => v.set ((gt c.latches (k : Int)).1 / 2).toNat (gt s (k : Int))) v
def vAn (c : Circ) (ord : List Int) (v : List Bool) (i : Nat) : List Bool := (List.range i).foldl (fun v (k : Nat) => v.set ((gt c.ands (gt ord (k : Int))).1 / 2).toNat (lv v (gt c.ands (gt ord (k : Int))).2.1 && lv v (gt c.ands (gt ord (k : Int))).2.2)) v
noncomputable def valM (c : Circ) (s r : List Bool) : List Bool := vAn c (ordM c) (vLt c s (vIn c r c.inputs.length) c.latches.length) (ordM c).length
/-- May the state begin? -/
def okSt (x : Tri) (b : Bool) : Bool := (decide (x.2.2 ≠ 0) || !b) && (decide (x.2.2 ≠ 1) || b)
def startsM (c : Circ) (s : List Bool) (i : Nat) : Bool := (List.range i).all fun (k : Nat) => okSt (gt c.latches (k : Int)) (gt s (k : Int))
attribute [local irreducible] WC WL WX WS WO OX Does DoesU Enters CV Pure thenQ blockQ retQ Wants retQC GC GL GS GX RdB thenG blockG retG Rd At gt CVN CVM
set_option maxRecDepth 100000
end SC
end Go.Proofs.Ytkndegjodnciaaa
end
section
/- trestleref07: Values0. -/
set_option linter.unusedVariables false
set_option linter.unusedSimpArgs false
namespace Go.Proofs.Ytkndegjodnciaaa
namespace SC
open Go.Proofs
attribute [local irreducible] WC WL WX WS WO OX Does DoesU Enters CV Pure thenQ blockQ retQ Wants retQC GC GL GS GX RdB thenG blockG retG Rd At gt CVN CVM
set_option maxRecDepth 100000
end SC
end Go.Proofs.Ytkndegjodnciaaa
end
section
/- trestleref07: looked, Values, Next, Holds, Starts. -/
set_option linter.unusedVariables false
set_option linter.unusedSimpArgs false
namespace Go.Proofs.Ytkndegjodnciaaa
namespace SC
open Go.Proofs
/-- A circuit that can be read, and what is so of any. -/
structure CirIn (w : World) (c : Circ) (h js : Hd) : Prop where
  at_ : CirAt w c h js
  sane : c.Sane
  okay : c.Okay
  fits : c.Fits
theorem CirIn.chg {w w' : World} {c : Circ} {h js : Hd} (H : CirIn w c h js) (hc : Chg w w' none_) : CirIn w' c h js := ⟨H.at_.chg hc, H.sane, H.okay, H.fits⟩
theorem In.old {Γ : Mm} {w w0 : World} (h : In Γ (.old w0 none_)) (M : Mem w Γ) : Chg w0 w none_ := h.ok M
/-- What is wrong with a step. -/
noncomputable def stepE (c : Circ) (s r : List Bool) : Int := if (lookM c).2 ≠ 0 then (lookM c).2 else if s.length ≠ c.latches.length ∨ r.length ≠ c.inputs.length then 4 else 0
noncomputable def valsM (c : Circ) (s r : List Bool) : List Bool := if stepE c s r = 0 then valM c s r else []
noncomputable def nextM (c : Circ) (s r : List Bool) : List Bool := if stepE c s r = 0 then nxtM c (valM c s r) else []
noncomputable def holdsM (c : Circ) (s r : List Bool) : Bool := if stepE c s r = 0 then c.constraints.all (lv (valM c s r)) else false
def LookR (c : Circ) (s r : List Bool) (v : Value) (N : Mm) : Prop :=
  (stepE c s r ≠ 0 ∧ v = .tuple #[.slice none 0 0, nu (stepE c s r)] ∧ N = []) ∨ (stepE c s r = 0 ∧ ∃ A k, v = .tuple #[.slice A (ordM c).length k, nu 0] ∧ N = [.vec icell 1 3 A k (ordM c)])
def ValsR (c : Circ) (s r : List Bool) (v : Value) (N : Mm) : Prop := ∃ A k, v = .tuple #[.slice A (valsM c s r).length k, nu (stepE c s r)] ∧ N = [.vec booc 1 4 A k (valsM c s r)]
def NextR (c : Circ) (s r : List Bool) (v : Value) (N : Mm) : Prop := ∃ A k, v = .tuple #[.slice A (nextM c s r).length k, nu (stepE c s r)] ∧ N = [.vec booc 1 4 A k (nextM c s r)]
attribute [local irreducible] WC WL WX WS WO OX Does DoesU Enters CV Pure thenQ blockQ retQ Wants retQC GC GL GS GX RdB thenG blockG retG Rd At gt CVN CVM
set_option maxRecDepth 100000
section
variable {w : World} {c : Circ} {h js : Hd} {S T : Option Addr} {k2 k3 : Nat} {s r : List Bool} (H : CirIn w c h js) (hS : RowA w booc 1 S s) (hT : RowA w booc 1 T r)
include H hS hT
end
/-- Whether a state may begin, and what is wrong. -/
noncomputable def startE (c : Circ) (s : List Bool) : Int := if (lookM c).2 ≠ 0 then (lookM c).2 else if s.length ≠ c.latches.length then 4 else 0
noncomputable def startB (c : Circ) (s : List Bool) : Bool := if startE c s = 0 then startsM c s c.latches.length else false
end SC
end Go.Proofs.Ytkndegjodnciaaa
end
section
/- sim: is, values, next, holds. -/
set_option linter.unusedVariables false
set_option linter.unusedSimpArgs false
namespace Go.Proofs.Ytkndegjodnciaaa
namespace SC
open Go.Proofs
/-- The runner's cells. -/
noncomputable def rcells (c : Circ) (h : Hd) (B : Option Addr) (k : Nat) : List Value := ccells c h ++ [.slice B (ordM c).length k]
theorem In.box {Γ : Mm} {w : World} {b : Nat} {t : TypeId} {cs : List Value} (h : In Γ (.box b t cs)) (M : Mem w Γ) : Blk w b t cs := h.ok M
theorem In.row {Γ : Mm} {w : World} {α : Type} {enc : α → List Value} {sz : Nat} [H : Enc enc sz] {t : TypeId} {A : Option Addr} {c : Nat} {l : List α} (h : In Γ (.vec enc sz t A c l)) (M : Mem w Γ) : RowA w enc sz A l := (Rd.own h H).at M
instance : Fn Try.prog 143 := ⟨fun args w => Try.call143 args w⟩
instance : Fn Try.prog 146 := ⟨fun args w => Try.call146 args w⟩
instance : Fn Try.prog 150 := ⟨fun args w => Try.call150 args w⟩
attribute [local irreducible] WC WL WX WS WO OX Does DoesU Enters CV Pure thenQ blockQ retQ Wants retQC GC GL GS GX RdB thenG blockG retG Rd At gt CVN CVM
set_option maxRecDepth 100000
/-! ### slices.ContainsFunc at numbers -/
end SC
end Go.Proofs.Ytkndegjodnciaaa
end
section
/- trestlebook: SameBools, SpoilBools; trestlelaw07: lent, lit. -/
set_option linter.unusedVariables false
set_option linter.unusedSimpArgs false
namespace Go.Proofs.Ytkndegjodnciaaa
namespace SC
open Go.Proofs
attribute [local irreducible] WC WL WX WS WO OX Does DoesU Enters CV Pure thenQ blockQ retQ Wants retQC GC GL GS GX RdB thenG blockG retG Rd At gt CVN CVM
set_option maxRecDepth 100000
end SC
end Go.Proofs.Ytkndegjodnciaaa
end
section
/- sim: ready, step, Values, Next, Holds, Starts. -/
set_option linter.unusedVariables false
set_option linter.unusedSimpArgs false
namespace Go.Proofs.Ytkndegjodnciaaa
namespace SC
open Go.Proofs
/-- What ready answers. -/
def ReadyR (c : Circ) (h : Hd) (v : Value) (N : Mm) : Prop :=
  ((lookM c).2 ≠ 0 ∧ v = .tuple #[.pointer none, nu (lookM c).2] ∧ N = []) ∨ ((lookM c).2 = 0 ∧ ∃ p B k, v = .tuple #[pt p, nu 0] ∧ N = [.box p 163 (rcells c h B k), .vec icell 1 3 B k (ordM c)])
def StepR (c : Circ) (h : Hd) (s r : List Bool) (v : Value) (N : Mm) : Prop :=
  (stepE c s r ≠ 0 ∧ v = .tuple #[.pointer none, .slice none 0 0, nu (stepE c s r)] ∧ N = []) ∨
  (stepE c s r = 0 ∧ ∃ p B k A k', v = .tuple #[pt p, .slice A (valM c s r).length k', nu 0] ∧ N = [.vec booc 1 4 A k' (valM c s r), .box p 163 (rcells c h B k), .vec icell 1 3 B k (ordM c)])
attribute [local irreducible] WC WL WX WS WO OX Does DoesU Enters CV Pure thenQ blockQ retQ Wants retQC GC GL GS GX RdB thenG blockG retG Rd At gt CVN CVM
set_option maxRecDepth 100000
section
variable {w : World} {c : Circ} {h js : Hd} {S T : Option Addr} {k2 k3 : Nat} {s r : List Bool} (H : CirIn w c h js) (hS : RowA w booc 1 S s) (hT : RowA w booc 1 T r)
include H hS hT
end
end SC
end Go.Proofs.Ytkndegjodnciaaa
end
section
/- What is so in a step. trestleref07: moment. -/
set_option linter.unusedVariables false
set_option linter.unusedSimpArgs false
namespace Go.Proofs.Ytkndegjodnciaaa
namespace SC
open Go.Proofs
structure Mom where
  state : List Bool
  holds : Bool
  bads : List Int
  fair : List (Int × Int)
instance : Inhabited Mom := ⟨⟨[], false, [], []⟩⟩
abbrev HMom := (Option Addr × Nat) × (Option Addr × Nat) × (Option Addr × Nat)
def encM (p : HMom × Mom) : List Value := [.slice p.1.1.1 p.2.state.length p.1.1.2, .bool p.2.holds, .slice p.1.2.1.1 p.2.bads.length p.1.2.1.2, .slice p.1.2.2.1 p.2.fair.length p.1.2.2.2]
def momE (p : HMom × Mom) : Mm := [.vec booc 1 4 p.1.1.1 p.1.1.2 p.2.state, .vec icell 1 3 p.1.2.1.1 p.1.2.1.2 p.2.bads, .vec spotc 2 138 p.1.2.2.1 p.1.2.2.2 p.2.fair]
instance : Enc encM 4 := ⟨fun _ => rfl, fun a u h => by simp [encM] at h; rcases h with rfl | rfl | rfl | rfl <;> rfl, by decide⟩
def selI (v : List Bool) (ls : List Int) (i : Nat) : List Int := ((List.range i).filter fun (k : Nat) => lv v (gt ls (k : Int))).map fun (k : Nat) => (k : Int)
def selF (at_ : Int) (v : List Bool) (ls : List Int) (i : Nat) : List (Int × Int) := ((List.range i).filter fun (k : Nat) => lv v (gt ls (k : Int))).map fun (k : Nat) => (at_, (k : Int))
def fairJ (v : List Bool) (js : List (List Int)) (i : Nat) : List (Int × Int) := (List.range i).flatMap fun (k : Nat) => selF (k : Int) v (js.getD k []) (js.getD k []).length
def momM (c : Circ) (s v : List Bool) : Mom := ⟨s, c.constraints.all (lv v), selI v c.bads c.bads.length, fairJ v c.justice c.justice.length ++ selF (-1) v c.fairness c.fairness.length⟩
theorem Right.sumJ {c : Circ} (R : Right c) (hf : c.Fits) : sumL c.justice ≤ 16384 := by
  have h1 := sumL_le (l := c.justice) (M := 17592186044416) fun x hx => by have := hf.each x hx; omega
  have h2 := R.nJust
  have h3 := R.sum
  unfold sumW at h3
  have h4 : c.justice.length * 17592186044416 ≤ 16384 * 17592186044416 := Nat.mul_le_mul_right _ h2
  rw [wrap64_id (by omega) (by omega)] at h3
  omega
/-- What moment answers: a struct, its three lists new memory. -/
def MomR (m : Mom) (v : Value) (N : Mm) : Prop := ∃ hm : HMom, v = .agg (encM (hm, m)).toArray ∧ N = momE (hm, m)
attribute [local irreducible] WC WL WX WS WO OX Does DoesU Enters CV Pure thenQ blockQ retQ Wants retQC GC GL GS GX RdB thenG blockG retG Rd At gt CVN CVM
set_option maxRecDepth 100000
end SC
end Go.Proofs.Ytkndegjodnciaaa
end
section
/- sim: moment. -/
set_option linter.unusedVariables false
set_option linter.unusedSimpArgs false
namespace Go.Proofs.Ytkndegjodnciaaa
namespace SC
open Go.Proofs
attribute [local irreducible] WC WL WX WS WO OX Does DoesU Enters CV Pure thenQ blockQ retQ Wants retQC GC GL GS GX RdB thenG blockG retG Rd At gt CVN CVM
set_option maxRecDepth 100000
/-- The closure that tells the fair spots. -/
def fairC (b : Nat) (x0 x1 x2 : Value) (A : Option Addr) (k : Nat) (F : List (Int × Int)) : Mm := [.box b 82 [x0, x1, x2, .slice A F.length k], .vec spotc 2 138 A k F]
end SC
end Go.Proofs.Ytkndegjodnciaaa
end
section
/- Traces and runs. trestleref07: Fits, Run0, Run; sim: Run. -/
set_option linter.unusedVariables false
set_option linter.unusedSimpArgs false
namespace Go.Proofs.Ytkndegjodnciaaa
namespace SC
open Go.Proofs
abbrev Hdl := Option Addr × Nat
/-- A trace, each row with its handle. -/
structure Trc where
  init : List Bool
  rows : List (Hdl × List Bool)
  loop : Int
def tcs (t : Trc) (a b : Hdl) : List Value := [.slice a.1 t.init.length a.2, .slice b.1 t.rows.length b.2, nu t.loop]
structure TrcIn (w : World) (t : Trc) (a b : Hdl) : Prop where
  init : RowA w booc 1 a.1 t.init
  rows : RowA w encS 1 b.1 t.rows
  each : ∀ p ∈ t.rows, RowA w booc 1 p.1.1 p.2
  nila : a.1 = none → a.2 = 0
  nilb : b.1 = none → b.2 = 0
  nile : ∀ p ∈ t.rows, p.1.1 = none → p.1.2 = 0
  li : t.init.length ≤ 140737488351232
  lr : t.rows.length ≤ 5864062014634
  le : ∀ p ∈ t.rows, p.2.length ≤ 140737488351232
  lo : fits t.loop
theorem TrcIn.chg {w w' : World} {t : Trc} {a b : Hdl} (H : TrcIn w t a b) (hc : Chg w w' none_) : TrcIn w' t a b := ⟨H.init.chg hc, H.rows.chg hc, fun p hp => (H.each p hp).chg hc, H.nila, H.nilb, H.nile, H.li, H.lr, H.le, H.lo⟩
def fitsM (c : Circ) (t : Trc) : Bool := decide (t.init.length = c.latches.length) && decide (1 ≤ t.rows.length) && decide (t.rows.length ≤ 512) && decide (-1 ≤ t.loop) && decide (t.loop < t.rows.length) && t.rows.all fun p => decide (p.2.length = c.inputs.length)
structure Fit (c : Circ) (t : Trc) : Prop where
  init : t.init.length = c.latches.length
  pos : 1 ≤ t.rows.length
  few : t.rows.length ≤ 512
  lo : -1 ≤ t.loop
  hi : t.loop < t.rows.length
  rows : ∀ p ∈ t.rows, p.2.length = c.inputs.length
/-- The states of a run, and what is so in its steps. -/
noncomputable def stM (c : Circ) (t : Trc) : Nat → List Bool
  | 0 => t.init
  | k + 1 => nxtM c (valM c (stM c t k) (gt t.rows (k : Int)).2)
noncomputable def runM (c : Circ) (t : Trc) (n : Nat) : List Mom := (List.range n).map fun k => momM c (stM c t k) (valM c (stM c t k) (gt t.rows (k : Int)).2)
noncomputable def runE (c : Circ) (t : Trc) : Int := if (lookM c).2 ≠ 0 then (lookM c).2 else if fitsM c t = true then 0 else 4
noncomputable def runsM (c : Circ) (t : Trc) : List Mom := if runE c t = 0 then runM c t t.rows.length else []
/-- What Run answers. -/
def RunR (c : Circ) (t : Trc) (v : Value) (N : Mm) : Prop := ∃ (ps : List (HMom × Mom)) (A : Option Addr) (k : Nat), v = .tuple #[.slice A ps.length k, nu (runE c t)] ∧ ps.map (·.2) = runsM c t ∧ N = .vec encM 4 82 A k ps :: fam momE ps
theorem In.nil0 {Γ : Mm} {α : Type} {enc : α → List Value} {sz : Nat} {t : TypeId} {A : Option Addr} {c : Nat} {l : List α} {w : World} (h : In Γ (.vec enc sz t A c l)) (M : Mem w Γ) (hA : A = none) : c = 0 := by
  rcases (h.ok M).2 with ⟨h1, _⟩ | ⟨g, cap, cur, h1, _⟩
  · simp only [Value.slice.injEq] at h1; exact h1.2.2
  · simp only [Value.slice.injEq] at h1; rw [h1.1] at hA; cases hA
instance : Inhabited HMom := ⟨((none, 0), (none, 0), (none, 0))⟩
attribute [local irreducible] WC WL WX WS WO OX Does DoesU Enters CV Pure thenQ blockQ retQ Wants retQC GC GL GS GX RdB thenG blockG retG Rd At gt CVN CVM
set_option maxRecDepth 100000
end SC
end Go.Proofs.Ytkndegjodnciaaa
end
section
/- trestleref07: Run; sim: Run. -/
set_option linter.unusedVariables false
set_option linter.unusedSimpArgs false
namespace Go.Proofs.Ytkndegjodnciaaa
namespace SC
open Go.Proofs
def stEnt : Nat → Option Addr → Nat → List Bool → Mm
  | 0, _, _, _ => []
  | _ + 1, A, k, l => [.vec booc 1 4 A k l]
attribute [local irreducible] WC WL WX WS WO OX Does DoesU Enters CV Pure thenQ blockQ retQ Wants retQC GC GL GS GX RdB thenG blockG retG Rd At gt CVN CVM
set_option maxRecDepth 100000
end SC
end Go.Proofs.Ytkndegjodnciaaa
end
section
/- trestlelaw07: works. -/
set_option linter.unusedVariables false
set_option linter.unusedSimpArgs false
namespace Go.Proofs.Ytkndegjodnciaaa
namespace SC
open Go.Proofs
def cWk : Circ := ⟨1, [], [(2, 3, 0)], [], [2], [], [], [], [], [], []⟩
def tWk (h1 h2 : Hdl) : Trc := ⟨[false], [(h1, []), (h2, [])], -1⟩
def mWk0 : Mom := ⟨[false], true, [], []⟩
def mWk1 : Mom := ⟨[true], true, [0], []⟩
def hWk (a b : Nat) : Hd := fun | 2 => (some ⟨a, 0, none⟩, 1) | 4 => (some ⟨b, 0, none⟩, 1) | _ => (none, 0)
attribute [local irreducible] WC WL WX WS WO OX Does DoesU Enters CV Pure thenQ blockQ retQ Wants retQC GC GL GS GX RdB thenG blockG retG Rd At CVN CVM
set_option maxRecDepth 100000
end SC
end Go.Proofs.Ytkndegjodnciaaa
end
section
/- ShapeChecks: the walk. -/
set_option linter.unusedVariables false
set_option linter.unusedSimpArgs false
namespace Go.Proofs.Ytkndegjodnciaaa
namespace SC
open Go.Proofs
attribute [local irreducible] WC WL WX WS WO OX Does DoesU Enters CV Pure thenQ blockQ retQ Wants retQC
set_option maxRecDepth 100000
end SC
end Go.Proofs.Ytkndegjodnciaaa
end
section
/- trestlelaw07: SimStarts, SimSteps: the walks. -/
set_option linter.unusedVariables false
set_option linter.unusedSimpArgs false
namespace Go.Proofs.Ytkndegjodnciaaa
namespace SC
open Go.Proofs
/-- A lent circuit, as an entry. -/
def lentX (base : Nat) (c : Circ) (h js : Hd) : EntX where
  own := fun k => ∃ i, (lentRow c h js i).v.ownBlock = some k
  ok := fun w => CirLent w base c h js
  lt := fun w H k ⟨i, hi⟩ => (World.ownsRow.lt (H i) k hi).2
  keep := fun w w' S H hc hn => fun i => own_chg (H i) hc fun k hk => hn k ⟨i, hk⟩
def LendR (c : Circ) (v : Value) (N : Mm) : Prop := ∃ base h' js', v = .agg (ccells c h').toArray ∧ N = [.any (lentX base c h' js')]
/-- What comes in: a circuit, with its reach. -/
structure CirGot (w : World) (c : Circ) (h js : Hd) : Prop extends CirIn w c h js where
  fits1 : c.Fits1
  nils : Nils h js
theorem CirGot.chg {w w' : World} {c : Circ} {h js : Hd} (H : CirGot w c h js) (hc : Chg w w' none_) : CirGot w' c h js := ⟨H.toCirIn.chg hc, H.fits1, H.nils⟩
theorem In.lent {Γ : Mm} {w w0 : World} {base : Nat} {c : Circ} {h js h' js' : Hd} (H : CirIn w0 c h js) (hi : In Γ (.any (lentX base c h' js'))) (M : Mem w Γ) : CirIn w c h' js' := ⟨CirLent.at (hi.ok M), H.sane, H.okay, H.fits⟩
attribute [local irreducible] WC WL WX WS WO OX Does DoesU Enters CV Pure thenQ blockQ retQ Wants retQC GC GL GS GX RdB thenG blockG retG Rd At gt CVN CVM
set_option maxRecDepth 100000
end SC
end Go.Proofs.Ytkndegjodnciaaa
end
section
/- trestlelaw07: SimSteps: the walk. -/
set_option linter.unusedVariables false
set_option linter.unusedSimpArgs false
namespace Go.Proofs.Ytkndegjodnciaaa
namespace SC
open Go.Proofs
attribute [local irreducible] WC WL WX WS WO OX Does DoesU Enters CV Pure thenQ blockQ retQ Wants retQC GC GL GS GX RdB thenG blockG retG Rd At gt CVN CVM
set_option maxRecDepth 100000
end SC
end Go.Proofs.Ytkndegjodnciaaa
end
section
/- Lists of bools that come in. -/
set_option linter.unusedVariables false
set_option linter.unusedSimpArgs false
namespace Go.Proofs.Ytkndegjodnciaaa
namespace SC
open Go.Proofs
set_option maxRecDepth 100000
section
variable {H : Type} {enc : TypeId × Value → H} {W : World} {base : Nat} {spare : Nat → Bool} {held : Bool}
end
end SC
end Go.Proofs.Ytkndegjodnciaaa
end
section
/- What is so of the values of a right circuit; trestlelaw07: lit. -/
set_option linter.unusedVariables false
set_option linter.unusedSimpArgs false
namespace Go.Proofs.Ytkndegjodnciaaa
namespace SC
open Go.Proofs
/-! ### a list that is written from the left -/
section
variable {g : Nat → Nat} {h : List Bool → Nat → Bool} {v : List Bool}
def wrF (g : Nat → Nat) (h : List Bool → Nat → Bool) (v : List Bool) (i : Nat) : List Bool := (List.range i).foldl (fun v k => v.set (g k) (h v k)) v
end
theorem nodup_ix {l : List Int} (h : l.Nodup) {a b : Nat} (ha : a < l.length) (hb : b < l.length) (e : l[a] = l[b]) : a = b := by
  have hp := List.pairwise_iff_getElem.1 h
  rcases Nat.lt_trichotomy a b with h1 | h1 | h1
  · exact absurd e (hp a b ha hb h1)
  · exact h1
  · exact absurd e.symm (hp b a hb ha h1)
theorem gtB (v : List Bool) (i : Int) : gt v i = v.getD i.toNat false := rfl
/-- What the values are. -/
structure ValOk (c : Circ) (s r v : List Bool) : Prop where
  len : v.length = (c.max + 1).toNat
  zero : gt v 0 = false
  inp : ∀ i : Nat, i < c.inputs.length → gt v (gt c.inputs (i : Int) / 2) = gt r (i : Int)
  lat : ∀ i : Nat, i < c.latches.length → gt v ((gt c.latches (i : Int)).1 / 2) = gt s (i : Int)
  and : ∀ i : Nat, i < c.ands.length → gt v ((gt c.ands (i : Int)).1 / 2) = (lv v (gt c.ands (i : Int)).2.1 && lv v (gt c.ands (i : Int)).2.2)
attribute [local irreducible] WC WL WX WS WO OX Does DoesU Enters CV Pure thenQ blockQ retQ Wants retQC GC GL GS GX RdB thenG blockG retG Rd At gt CVN CVM
set_option maxRecDepth 100000
end SC
end Go.Proofs.Ytkndegjodnciaaa
end
section
/- trestlelaw07: SimGates: the walk. -/
set_option linter.unusedVariables false
set_option linter.unusedSimpArgs false
namespace Go.Proofs.Ytkndegjodnciaaa
namespace SC
open Go.Proofs
attribute [local irreducible] WC WL WX WS WO OX Does DoesU Enters CV Pure thenQ blockQ retQ Wants retQC GC GL GS GX RdB thenG blockG retG Rd At gt CVN CVM
set_option maxRecDepth 100000
end SC
end Go.Proofs.Ytkndegjodnciaaa
end
section
/- trestlebook: SameInts, SpoilInts, SameTrace; trestlelaw07: same. -/
set_option linter.unusedVariables false
set_option linter.unusedSimpArgs false
namespace Go.Proofs.Ytkndegjodnciaaa
namespace SC
open Go.Proofs Go.Maps
set_option maxRecDepth 100000
/-! ### spots -/
/-! ### traces -/
structure TrcEq (t t' : Trc) : Prop where
  init : t.init = t'.init
  loop : t.loop = t'.loop
  rows : t.rows.map (·.2) = t'.rows.map (·.2)
theorem gt_snd {α β γ : Type} [Inhabited α] [Inhabited β] [Inhabited γ] {ps : List (α × β)} {qs : List (γ × β)} (h : ps.map (·.2) = qs.map (·.2)) {i : Nat} (hi : i < ps.length) : (gt ps (i : Int)).2 = (gt qs (i : Int)).2 := by
  have hl := congrArg List.length h
  simp only [List.length_map] at hl
  rw [gt_nat hi, gt_nat (by omega)]
  have := congrArg (fun l => l[i]?) h
  simp only [List.getElem?_map, List.getElem?_eq_getElem hi, List.getElem?_eq_getElem (show i < qs.length by omega), Option.map_some, Option.some.injEq] at this
  exact this
/-! ### the moments of a run, in memory -/
structure MomsIn (w : World) (A : Option Addr) (ps : List (HMom × Mom)) : Prop where
  row : RowA w encM 4 A ps
  st : ∀ p ∈ ps, RowA w booc 1 p.1.1.1 p.2.state
  bd : ∀ p ∈ ps, RowA w icell 1 p.1.2.1.1 p.2.bads
  fr : ∀ p ∈ ps, RowA w spotc 2 p.1.2.2.1 p.2.fair
  len : ps.length ≤ 9223372036854775807
  le : ∀ p ∈ ps, p.2.state.length ≤ 9223372036854775807 ∧ p.2.bads.length ≤ 9223372036854775807 ∧ p.2.fair.length ≤ 9223372036854775807
theorem vec_len {α : Type} {enc : α → List Value} {sz : Nat} {w : World} {t : TypeId} {A : Option Addr} {c : Nat} {l : List α} (h : w.ownsRow 0 t sz (.slice A l.length c) l.length (l.flatMap enc)) : l.length ≤ 9223372036854775807 := by
  rcases h.2 with ⟨_, h2⟩ | ⟨g, cap, cur, _, _, _, hc, hm, _⟩
  · omega
  · simp only [maxLen] at hm
    omega
theorem MomsIn.of {Γ : Mm} {w : World} {A : Option Addr} {k : Nat} {ps : List (HMom × Mom)} (hi : In Γ (.vec encM 4 82 A k ps)) (hf : ∀ E ∈ fam momE ps, In Γ E) (M : Mem w Γ) : MomsIn w A ps := by
  have h1 : ∀ p ∈ ps, In Γ (.vec booc 1 4 p.1.1.1 p.1.1.2 p.2.state) := fun p hp => hf _ (fam_mem hp (by unfold momE; simp))
  have h2 : ∀ p ∈ ps, In Γ (.vec icell 1 3 p.1.2.1.1 p.1.2.1.2 p.2.bads) := fun p hp => hf _ (fam_mem hp (by unfold momE; simp))
  have h3 : ∀ p ∈ ps, In Γ (.vec spotc 2 138 p.1.2.2.1 p.1.2.2.2 p.2.fair) := fun p hp => hf _ (fam_mem hp (by unfold momE; simp))
  exact ⟨hi.row M, fun p hp => (h1 p hp).row M, fun p hp => (h2 p hp).row M, fun p hp => (h3 p hp).row M, vec_len (hi.ok M), fun p hp => ⟨vec_len ((h1 p hp).ok M), vec_len ((h2 p hp).ok M), vec_len ((h3 p hp).ok M)⟩⟩
attribute [local irreducible] WC WL WX WS WO OX Does DoesU Enters CV Pure thenQ blockQ retQ Wants retQC GC GL GS GX RdB thenG blockG retG Rd At gt CVN CVM
end SC
end Go.Proofs.Ytkndegjodnciaaa
end
section
/- trestlebook: CopyTrace; runs of traces that read the same. -/
set_option linter.unusedVariables false
set_option linter.unusedSimpArgs false
namespace Go.Proofs.Ytkndegjodnciaaa
namespace SC
open Go.Proofs
theorem map_snd_get {α β γ : Type} [Inhabited α] [Inhabited β] [Inhabited γ] {ps : List (α × β)} {qs : List (γ × β)} (h : ps.map (·.2) = qs.map (·.2)) (i : Nat) : (gt ps (i : Int)).2 = (gt qs (i : Int)).2 := by
  have hl := congrArg List.length h
  simp only [List.length_map] at hl
  by_cases hi : i < ps.length
  · exact gt_snd h hi
  · unfold gt
    simp only [Int.toNat_natCast]
    rw [List.getD_eq_getElem?_getD, List.getD_eq_getElem?_getD, List.getElem?_eq_none (by omega), List.getElem?_eq_none (by omega)]
    rfl
theorem TrcEq.fit {c : Circ} {t t' : Trc} (E : TrcEq t t') : fitsM c t = fitsM c t' := by
  have e3 := congrArg List.length E.rows
  simp only [List.length_map] at e3
  have e4 : ∀ (r : List (Hdl × List Bool)), (r.all fun p => decide (p.2.length = c.inputs.length)) = (r.map (·.2)).all fun l => decide (l.length = c.inputs.length) := fun r => by rw [List.all_map]; rfl
  unfold fitsM
  rw [E.init, E.loop, e3, e4, e4, E.rows]
theorem TrcEq.st {c : Circ} {t t' : Trc} (E : TrcEq t t') : ∀ k, stM c t k = stM c t' k
  | 0 => E.init
  | k + 1 => by unfold stM; rw [TrcEq.st E k, map_snd_get E.rows k]
theorem TrcEq.runE {c : Circ} {t t' : Trc} (E : TrcEq t t') : runE c t = runE c t' := by unfold SC.runE; rw [E.fit]
theorem TrcEq.runs {c : Circ} {t t' : Trc} (E : TrcEq t t') : runsM c t = runsM c t' := by
  have e3 := congrArg List.length E.rows
  simp only [List.length_map] at e3
  unfold runsM runM
  rw [E.runE, e3]
  congr 1
  exact List.map_congr_left fun k _ => by rw [E.st k, map_snd_get E.rows k]
def rowE (p : Hdl × List Bool) : Mm := [.vec booc 1 4 p.1.1 p.1.2 p.2]
def CopyR (t : Trc) (v : Value) (N : Mm) : Prop := ∃ t' a' b', TrcEq t' t ∧ v = .agg (tcs t' a' b').toArray ∧ N = .vec booc 1 4 a'.1 a'.2 t'.init :: .vec encS 1 62 b'.1 b'.2 t'.rows :: fam rowE t'.rows
/-- A trace in memory of its own. -/
theorem TrcIn.own {Γ : Mm} {w w0 : World} {t t' : Trc} {a b a' b' : Hdl} (H : TrcIn w0 t a b) (E : TrcEq t' t) (h1 : In Γ (.vec booc 1 4 a'.1 a'.2 t'.init)) (h2 : In Γ (.vec encS 1 62 b'.1 b'.2 t'.rows)) (h3 : ∀ F ∈ fam rowE t'.rows, In Γ F) (M : Mem w Γ) : TrcIn w t' a' b' := by
  have e3 := congrArg List.length E.rows
  simp only [List.length_map] at e3
  have hp : ∀ p ∈ t'.rows, In Γ (.vec booc 1 4 p.1.1 p.1.2 p.2) := fun p hp => h3 _ (fam_mem hp (by unfold rowE; simp))
  refine ⟨h1.row M, h2.row M, fun p h => (hp p h).row M, fun h => h1.nil0 M h, fun h => h2.nil0 M h, fun p h hA => (hp p h).nil0 M hA, by rw [E.init]; exact H.li, by rw [e3]; exact H.lr, fun p h => ?_, by rw [E.loop]; exact H.lo⟩
  have : p.2 ∈ t.rows.map (·.2) := by rw [← E.rows]; exact List.mem_map.2 ⟨p, h, rfl⟩
  obtain ⟨q, hq, e⟩ := List.mem_map.1 this
  rw [← e]
  exact H.le q hq
attribute [local irreducible] WC WL WX WS WO OX Does DoesU Enters CV Pure thenQ blockQ retQ Wants retQC GC GL GS GX RdB thenG blockG retG Rd At gt CVN CVM
set_option maxRecDepth 100000
end SC
end Go.Proofs.Ytkndegjodnciaaa
end
section
/- Entries bound together; what runs answer. -/
set_option linter.unusedVariables false
set_option linter.unusedSimpArgs false
namespace Go.Proofs.Ytkndegjodnciaaa
namespace SC
open Go.Proofs
/-- Entries as one. -/
def bun (Δ : Mm) : EntX where
  own := owns Δ
  ok := fun w => Mem w Δ
  lt := fun w M k hk => M.lt hk
  keep := fun w w' S M hc hn => M.chg hc hn
theorem In.bun {Γ Δ : Mm} {w : World} (h : In Γ (.any (bun Δ))) (M : Mem w Γ) : Mem w Δ := h.ok M
theorem Rd.bun {α : Type} {Γ Δ : Mm} {enc : α → List Value} {sz : Nat} {A : Option Addr} {l : List α} (h : In Γ (.any (bun Δ))) (h0 : Rd Δ enc sz A l) : Rd Γ enc sz A l := fun w M => h0.at (h.bun M)
theorem CVN.bun {P : Program} {f : FuncId} {args : List Value} {w : World} {R : Value → Mm → Prop} (h : CVN P f args w R) : CVN P f args w fun v N => ∃ N', R v N' ∧ N = [.any (bun N')] :=
  CV.mono h fun v w' ⟨N, M, hR⟩ => ⟨[.any (SC.bun N)], Mem.join (.one M.left) M.right fun k ⟨E, hE, h1⟩ h2 => by
    simp only [List.mem_singleton] at hE
    subst hE
    exact M.sep k h1 h2, N, hR, rfl⟩
theorem Wk.left {Γ Δ : Mm} : Wk (Δ ++ Γ) Δ := ⟨fun w M => M.left, fun k hk => owns_append.2 (.inl hk)⟩
/-- A run's moments, bound together. -/
abbrev runB (ps : List (HMom × Mom)) (A : Option Addr) (k : Nat) : Mm := .vec encM 4 82 A k ps :: fam momE ps
theorem MomsIn.bun {Γ : Mm} {w : World} {A : Option Addr} {k : Nat} {ps : List (HMom × Mom)} (hi : In Γ (.any (bun (runB ps A k)))) (M : Mem w Γ) : MomsIn w A ps := MomsIn.of .here (fun E hE => .there (In.of hE)) (hi.bun M)
abbrev trcB (t : Trc) (a b : Hdl) : Mm := .vec booc 1 4 a.1 a.2 t.init :: .vec encS 1 62 b.1 b.2 t.rows :: fam rowE t.rows
theorem TrcIn.bun {Γ : Mm} {w w0 : World} {t t' : Trc} {a b a' b' : Hdl} (H : TrcIn w0 t a b) (E : TrcEq t' t) (hi : In Γ (.any (bun (trcB t' a' b')))) (M : Mem w Γ) : TrcIn w t' a' b' := H.own E .here (.there .here) (fun F hF => .there (.there (In.of hF))) (hi.bun M)
def RunR' (ε : Int) (m : List Mom) (v : Value) (N : Mm) : Prop := ∃ (ps : List (HMom × Mom)) (A : Option Addr) (k : Nat), v = .tuple #[.slice A ps.length k, nu ε] ∧ ps.map (·.2) = m ∧ N = runB ps A k
def RunB (ε : Int) (m : List Mom) (v : Value) (N : Mm) : Prop := ∃ (ps : List (HMom × Mom)) (A : Option Addr) (k : Nat), v = .tuple #[.slice A ps.length k, nu ε] ∧ ps.map (·.2) = m ∧ N = [.any (bun (runB ps A k))]
theorem RunR.to {P : Program} {f : FuncId} {args : List Value} {w : World} {c : Circ} {t : Trc} {ε : Int} {m : List Mom} (h : CVN P f args w (RunR c t)) (h1 : runE c t = ε) (h2 : runsM c t = m) : CVN P f args w (RunR' ε m) := by
  subst h1 h2
  exact h
theorem RunB.to {P : Program} {f : FuncId} {args : List Value} {w : World} {ε : Int} {m : List Mom} (h : CVN P f args w (RunR' ε m)) : CVN P f args w (RunB ε m) :=
  h.bun.mono fun v N ⟨N', ⟨ps, A, k, e1, e2, e3⟩, e4⟩ => ⟨ps, A, k, e1, e2, by rw [e4, e3]⟩
end SC
end Go.Proofs.Ytkndegjodnciaaa
end
section
/- trestlelaw07: SimRuns: the walk. -/
set_option linter.unusedVariables false
set_option linter.unusedSimpArgs false
namespace Go.Proofs.Ytkndegjodnciaaa
namespace SC
open Go.Proofs
attribute [local irreducible] WC WL WX WS WO OX Does DoesU Enters CV Pure thenQ blockQ retQ Wants retQC GC GL GS GX RdB thenG blockG retG Rd At gt CVN CVM
attribute [local irreducible] fam bun
set_option maxRecDepth 100000
end SC
end Go.Proofs.Ytkndegjodnciaaa
end
section
/- Traces that come in. -/
set_option linter.unusedVariables false
set_option linter.unusedSimpArgs false
namespace Go.Proofs.Ytkndegjodnciaaa
namespace SC
open Go.Proofs
set_option maxRecDepth 100000
section
variable {H : Type} {enc : TypeId × Value → H} {W : World} {base : Nat} {spare : Nat → Bool} {held : Bool}
end
end SC
end Go.Proofs.Ytkndegjodnciaaa
end
section
/- A back part of a slice; numbers without a sign; a run from one of its states. -/
set_option linter.unusedVariables false
set_option linter.unusedSimpArgs false
namespace Go.Proofs.Ytkndegjodnciaaa
namespace SC
open Go.Proofs
set_option maxRecDepth 100000
section
variable {n : Nat} {all : List Oper} {K : Env → Mm → Prop} {m : Md} {e : Env} {Γ : Mm} {d : Option Tmp} {ty t t' t0 : TypeId} {x y : Operand} {td : TypeDesc} {sz sz1 by_ by1 : Nat} {zv z1 : Value} {ag ag1 : Bool}
end
theorem RowA.drop {α : Type} {w : World} {enc : α → List Value} {sz : Nat} {A : Option Addr} {l : List α} (h : RowA w enc sz A l) (i : Nat) : RowA w enc sz (A.map (·.add (i * sz))) (l.drop i) := fun k hk => by
  rw [List.length_drop] at hk
  obtain ⟨p, rfl, hp⟩ := h (i + k) (by omega)
  refine ⟨p.add (i * sz), rfl, fun j u hj => ?_⟩
  rw [List.getElem_drop] at hj
  have := hp j u hj
  rw [show ((i + k : Nat) : Int).toNat = i + k by omega, Nat.add_mul] at this
  rw [show (k : Int).toNat = k by omega, Addr.add_add p]
  exact this
theorem MomsIn.drop {w : World} {A : Option Addr} {ps : List (HMom × Mom)} (H : MomsIn w A ps) (i : Nat) : MomsIn w (A.map (·.add (i * 4))) (ps.drop i) :=
  ⟨H.row.drop i, fun p hp => H.st p (List.mem_of_mem_drop hp), fun p hp => H.bd p (List.mem_of_mem_drop hp), fun p hp => H.fr p (List.mem_of_mem_drop hp), by have := H.len; rw [List.length_drop]; omega, fun p hp => H.le p (List.mem_of_mem_drop hp)⟩
/-- The trace from a state on. -/
noncomputable def tail (c : Circ) (t : Trc) (i : Nat) : Trc := ⟨stM c t i, t.rows.drop i, -1⟩
end SC
end Go.Proofs.Ytkndegjodnciaaa
end
section
/- trestleref03: Lit, Lits, Binary. -/
set_option linter.unusedVariables false
set_option linter.unusedSimpArgs false
namespace Go.Proofs.Ytkndegjodnciaaa
namespace SC
open Go.Proofs
theorem litM_gt (to : List Int) (l : Int) : litM to l = gt to (l / 2) + l % 2 := rfl
theorem gt_L (to : List Int) (v : Int) : gt to v = L to v := rfl
/-- The binary order. -/
structure BinOk (c : Circ) : Prop where
  inp : ∀ i : Nat, i < c.inputs.length → gt c.inputs (i : Int) = 2 * i + 2
  lat : ∀ i : Nat, i < c.latches.length → (gt c.latches (i : Int)).1 = 2 * (c.inputs.length + i) + 2
  and : ∀ i : Nat, i < c.ands.length → (gt c.ands (i : Int)).1 = 2 * (c.inputs.length + c.latches.length + i) + 2 ∧ (gt c.ands (i : Int)).2.1 < (gt c.ands (i : Int)).1 ∧ (gt c.ands (i : Int)).2.2 ≤ (gt c.ands (i : Int)).2.1
  max : (c.inputs.length : Int) + c.latches.length + c.ands.length = c.max
theorem xor_even {a b : Int} (h : a % 2 = 0) (hb : 0 ≤ b) (hb1 : b ≤ 1) : xorb a b = a + b := by unfold xorb; split <;> omega
theorem G_xor01 {P : Program} {n : Nat} {all : List Oper} {K : Env → Mm → Prop} {m : Md} {e : Env} {Γ : Mm} {d : Option Tmp} {ty t t' : TypeId} {x y : Operand} {a b : Int} (h : ev e x = some (.int .i64 a)) (h1 : ev e y = some (.int .i64 b)) (h2 : a % 2 = 0) (hb : 0 ≤ b) (hb1 : b ≤ 1) (h3 : 0 ≤ a) (h4 : a ≤ 9223372036854775807) (hr : GN P n all K m (push d (nu (a + b)) e) Γ) : GX P n all K m d (.binOp .xor t x y t') ty e Γ :=
  GX_pure (by have := p_xor01 (P := P) (ty := ty) (t := t) (t' := t') h h1 hb hb1 (by omega) h4; rw [xor_even h2 hb hb1] at this; exact this) hr
attribute [local irreducible] WC WL WX WS WO OX Does DoesU Enters CV Pure thenQ blockQ retQ Wants retQC GC GL GS GX RdB thenG blockG retG Rd At gt CVN CVM
set_option maxRecDepth 100000
end SC
end Go.Proofs.Ytkndegjodnciaaa
end
section
/- The renumbering's map: what it gives to each variable of a right circuit. -/
set_option linter.unusedVariables false
set_option linter.unusedSimpArgs false
namespace Go.Proofs.Ytkndegjodnciaaa
namespace SC
open Go.Proofs
theorem nodup_map {α β : Type} {f : α → β} {l : List α} (hf : ∀ a b, f a = f b → a = b) (h : l.Nodup) : (l.map f).Nodup := by
  rw [List.Nodup, List.pairwise_map]
  exact h.imp fun {a b} hab e => hab (hf a b e)
theorem nodup_of_map {α β : Type} {f : α → β} {l : List α} (h : (l.map f).Nodup) : l.Nodup := by
  rw [List.Nodup, List.pairwise_map] at h
  exact h.imp fun {a b} hab e => hab (by rw [e])
theorem mapOf_all {max : Int} {ks : List Int} (hr : ∀ k ∈ ks, rg (max + 1).toNat (k / 2)) (hn : (ks.map (· / 2)).Nodup) : ∀ (n : Nat), n ≤ ks.length → ∀ v, 0 ≤ v → (∀ (j : Nat) (hj : j < ks.length), j < n → v = ks[j] / 2 → L (mapOf max (ks.take n)) v = 2 * j + 2) ∧ ((∀ (j : Nat) (hj : j < ks.length), j < n → v ≠ ks[j] / 2) → L (mapOf max (ks.take n)) v = 0) := by
  intro n
  induction n with
  | zero =>
    intro _ v _
    rw [List.take_zero]
    exact ⟨fun j _ hj => absurd hj (Nat.not_lt_zero _), fun _ => L_rep _ v⟩
  | succ n ih =>
    intro hn' v hv
    have hlt : n < ks.length := by omega
    rw [List.take_succ_eq_append_getElem hlt, mapOf_snoc, L_set _ (by rw [mapOf_len]; exact hr _ (List.getElem_mem hlt)) hv, List.length_take, Nat.min_eq_left (by omega)]
    obtain ⟨i1, i2⟩ := ih (by omega) v hv
    refine ⟨fun j hj hjn e => ?_, fun h => ?_⟩
    · by_cases hjn' : j = n
      · subst hjn'
        rw [if_pos e]
      · have hne : v ≠ ks[n] / 2 := fun e2 => hjn' (by
          have h1 : (ks.map (· / 2))[j]'(by simpa using hj) = (ks.map (· / 2))[n]'(by simpa using hlt) := by simp only [List.getElem_map]; rw [← e, ← e2]
          exact nodup_ix hn (by simpa using hj) (by simpa using hlt) h1)
        rw [if_neg hne]
        exact i1 j hj (by omega) e
    · rw [if_neg (h n hlt (by omega))]
      exact i2 fun j hj hjn => h j hj (by omega)
theorem mapOf_at {max : Int} {ks : List Int} (hr : ∀ k ∈ ks, rg (max + 1).toNat (k / 2)) (hn : (ks.map (· / 2)).Nodup) {j : Nat} (hj : j < ks.length) : L (mapOf max ks) (ks[j] / 2) = 2 * j + 2 := by
  have h := (mapOf_all hr hn ks.length (Nat.le_refl _) (ks[j] / 2) (hr _ (List.getElem_mem hj)).1).1 j hj hj rfl
  rwa [List.take_length] at h
theorem mapOf_no {max : Int} {ks : List Int} (hr : ∀ k ∈ ks, rg (max + 1).toNat (k / 2)) (hn : (ks.map (· / 2)).Nodup) {v : Int} (hv : 0 ≤ v) (h0 : ∀ k ∈ ks, v ≠ k / 2) : L (mapOf max ks) v = 0 := by
  have h := (mapOf_all hr hn ks.length (Nat.le_refl _) v hv).2 fun j hj _ => h0 _ (List.getElem_mem hj)
  rwa [List.take_length] at h
section
variable {c : Circ} (R : Right c)
include R
/-- What defines a variable. -/
theorem Right.defs {k : Int} (h : k ∈ defsOf c (ordM c)) : defR c k := by
  unfold defsOf at h
  rcases List.mem_append.1 h with h | h
  · rcases List.mem_append.1 h with h | h
    · exact R.inp h
    · obtain ⟨x, hx, rfl⟩ := List.mem_map.1 h
      exact (R.lat hx).1
  · obtain ⟨i, hi, rfl⟩ := List.mem_map.1 h
    have ho := R.ord hi
    refine (R.gate ?_).1
    unfold andAt
    have hlt : i.toNat < c.ands.length := by omega
    simp [hlt]
theorem Right.defs_rg {k : Int} (h : k ∈ defsOf c (ordM c)) : rg (c.max + 1).toNat (k / 2) := by
  have := R.defs h
  have := R.m0
  unfold defR at *
  unfold rg
  omega
theorem Right.defs_nodup : ((defsOf c (ordM c)).map (· / 2)).Nodup := by
  have hT := R.tab
  generalize htab : tabM c = t at *
  have key : ((defsOf c (ordM c)).map (· / 2)).map (fun v : Int => t[v.toNat]?) = ((List.range c.inputs.length).map fun (j : Nat) => some ((1 : Int), (j : Int))) ++ ((List.range c.latches.length).map fun (j : Nat) => some ((2 : Int), (j : Int))) ++ (ordM c).map fun i => some ((3 : Int), i) := by
    unfold defsOf
    simp only [List.map_append, List.map_map]
    congr 1
    · congr 1
      · apply List.ext_getElem (by simp)
        intro j h1 h2
        simp only [List.length_map] at h1
        simp only [List.getElem_map, Function.comp_apply, List.getElem_range]
        exact (hT.inp j h1).2
      · apply List.ext_getElem (by simp)
        intro j h1 h2
        simp only [List.length_map] at h1
        simp only [List.getElem_map, Function.comp_apply, List.getElem_range]
        exact (hT.lat j h1).2.1
    · apply List.map_congr_left
      intro i hi
      have ho := R.ord hi
      have hlt : i.toNat < c.ands.length := by omega
      simp only [Function.comp_apply]
      have := (hT.gat i.toNat hlt).2
      rw [show ((i.toNat : Nat) : Int) = i by omega] at this
      rw [show andAt c i = c.ands[i.toNat] by unfold andAt; simp [hlt]]
      exact this
  have hnd : (((List.range c.inputs.length).map fun (j : Nat) => some ((1 : Int), (j : Int))) ++ ((List.range c.latches.length).map fun (j : Nat) => some ((2 : Int), (j : Int))) ++ (ordM c).map fun i => some ((3 : Int), i)).Nodup := by
    have h1 : ∀ (k : Int) (n : Nat), ((List.range n).map fun (j : Nat) => some (k, (j : Int))).Nodup := fun k n => nodup_map (fun a b e => by simp at e; omega) List.nodup_range
    have h3 : ((ordM c).map fun i => some ((3 : Int), i)).Nodup := nodup_map (fun a b e => by simpa using e) R.all.told.nodup
    rw [List.nodup_append, List.nodup_append]
    refine ⟨⟨h1 1 _, h1 2 _, ?_⟩, h3, ?_⟩
    · intro a ha b hb e
      obtain ⟨x, _, rfl⟩ := List.mem_map.1 ha
      obtain ⟨y, _, rfl⟩ := List.mem_map.1 hb
      simp at e
    · intro a ha b hb e
      obtain ⟨y, _, rfl⟩ := List.mem_map.1 hb
      rcases List.mem_append.1 ha with ha | ha
      · obtain ⟨x, _, rfl⟩ := List.mem_map.1 ha
        simp at e
      · obtain ⟨x, _, rfl⟩ := List.mem_map.1 ha
        simp at e
  rw [← key] at hnd
  exact nodup_of_map hnd
theorem Right.to_at {j : Nat} (hj : j < (defsOf c (ordM c)).length) : L (mapOf c.max (defsOf c (ordM c))) ((defsOf c (ordM c))[j] / 2) = 2 * j + 2 := mapOf_at (fun _ => R.defs_rg) R.defs_nodup hj
theorem Right.to_no {v : Int} (hv : 0 ≤ v) (h0 : ∀ k ∈ defsOf c (ordM c), v ≠ k / 2) : L (mapOf c.max (defsOf c (ordM c))) v = 0 := mapOf_no (fun _ => R.defs_rg) R.defs_nodup hv h0
end
end SC
end Go.Proofs.Ytkndegjodnciaaa
end
section
/- Definitions that are apart pass; the renumbered circuit's definitions. -/
set_option linter.unusedVariables false
set_option linter.unusedSimpArgs false
namespace Go.Proofs.Ytkndegjodnciaaa
namespace SC
open Go.Proofs
theorem kind_set {t : Tab} {l v : Int} {m : Int × Int} (hl : 0 ≤ l) (hv : 0 ≤ v) (hne : v ≠ l) : kindAt (t.set l.toNat m) v = kindAt t v := by
  unfold kindAt
  rw [List.getElem?_set_ne (by omega)]
theorem defM_ok {max : Int} {t : Tab} {l : Int} {m : Int × Int} (h : ¬ defBad max l) (hk : kindAt t (l / 2) = 0) : defM max t l m = (0, t.set (l / 2).toNat m) := by
  unfold defM
  rw [if_neg h, if_neg (by omega)]
theorem goDef_pass {max kind : Int} : ∀ (ls : List Int) (k : Nat) (t : Tab), (∀ l ∈ ls, ¬ defBad max l) → (∀ l ∈ ls, kindAt t (l / 2) = 0) → (ls.map (· / 2)).Nodup → (goDef max kind ls k t).1.2 = 0 ∧ ∀ v, 0 ≤ v → (∀ l ∈ ls, v ≠ l / 2) → kindAt (goDef max kind ls k t).2 v = kindAt t v
  | [], k, t, _, _, _ => ⟨rfl, fun _ _ _ => rfl⟩
  | l :: r, k, t, hb, hk, hn => by
    have h0 := hb l List.mem_cons_self
    have hge : 0 ≤ l / 2 := by unfold defBad at h0; omega
    have e := defM_ok (m := (kind, (k : Int))) h0 (hk l List.mem_cons_self)
    rw [List.map_cons, List.nodup_cons] at hn
    have hne : ∀ l' ∈ r, l' / 2 ≠ l / 2 := fun l' hl' he => hn.1 (he ▸ List.mem_map.2 ⟨l', hl', rfl⟩)
    obtain ⟨i1, i2⟩ := goDef_pass r (k + 1) (t.set (l / 2).toNat (kind, (k : Int))) (fun l' hl' => hb l' (List.mem_cons_of_mem _ hl')) (fun l' hl' => by
      have h1 := hb l' (List.mem_cons_of_mem _ hl')
      rw [kind_set hge (by unfold defBad at h1; omega) (hne l' hl')]
      exact hk l' (List.mem_cons_of_mem _ hl')) hn.2
    unfold goDef
    rw [e, if_neg (by simp)]
    exact ⟨i1, fun v hv hx => by rw [i2 v hv fun l' hl' => hx l' (List.mem_cons_of_mem _ hl'), kind_set hge hv (hx l List.mem_cons_self)]⟩
theorem goDefL_pass {max : Int} : ∀ (ls : List Tri) (k : Nat) (t : Tab), (∀ x ∈ ls, ¬ badReset x) → (goDef max 2 (ls.map (·.1)) k t).1.2 = 0 → goDefL max ls k t = goDef max 2 (ls.map (·.1)) k t
  | [], k, t, _, _ => rfl
  | x :: r, k, t, hb, h => by
    have e1 : (x :: r).map (·.1) = x.1 :: r.map (·.1) := rfl
    rw [e1] at h ⊢
    unfold goDef at h ⊢
    unfold goDefL
    split at h
    · rename_i hh; exact absurd h hh
    · rename_i hh
      rw [if_neg hh, if_neg hh, if_neg (hb x List.mem_cons_self)]
      exact goDefL_pass r (k + 1) _ (fun y hy => hb y (List.mem_cons_of_mem _ hy)) h
/-- All that a circuit defines. -/
def allDefs (c : Circ) : List Int := c.inputs ++ c.latches.map (·.1) ++ c.ands.map (·.1)
theorem kind_T0 (c : Circ) (v : Int) : kindAt (T0 c) v = 0 := by
  unfold kindAt T0
  rw [List.getElem?_replicate]
  split <;> rfl
theorem defines_pass {c : Circ} (hb : ∀ l ∈ allDefs c, ¬ defBad c.max l) (hr : ∀ x ∈ c.latches, ¬ badReset x) (hn : ((allDefs c).map (· / 2)).Nodup) : (definesM c (T0 c)).1.2 = 0 := by
  unfold allDefs at hb hn
  rw [List.map_append, List.map_append, List.nodup_append, List.nodup_append] at hn
  obtain ⟨⟨n1, n2, n12⟩, n3, n123⟩ := hn
  have b1 : ∀ l ∈ c.inputs, ¬ defBad c.max l := fun l hl => hb l (List.mem_append_left _ (List.mem_append_left _ hl))
  have b2 : ∀ l ∈ c.latches.map (·.1), ¬ defBad c.max l := fun l hl => hb l (List.mem_append_left _ (List.mem_append_right _ hl))
  have b3 : ∀ l ∈ c.ands.map (·.1), ¬ defBad c.max l := fun l hl => hb l (List.mem_append_right _ hl)
  have pos : ∀ {l : Int}, ¬ defBad c.max l → 0 ≤ l / 2 := fun h => by unfold defBad at h; omega
  obtain ⟨p1, q1⟩ := goDef_pass (kind := 1) c.inputs 0 (T0 c) b1 (fun _ _ => kind_T0 c _) n1
  have k2 : ∀ l ∈ c.latches.map (·.1), kindAt (goDef c.max 1 c.inputs 0 (T0 c)).2 (l / 2) = 0 := fun l hl => by
    rw [q1 _ (pos (b2 l hl)) fun l' hl' e => n12 _ (List.mem_map.2 ⟨l', hl', rfl⟩) _ (List.mem_map.2 ⟨l, hl, rfl⟩) e.symm, kind_T0]
  obtain ⟨p2, q2⟩ := goDef_pass (kind := 2) (c.latches.map (·.1)) 0 (goDef c.max 1 c.inputs 0 (T0 c)).2 b2 k2 n2
  have e2 := goDefL_pass c.latches 0 (goDef c.max 1 c.inputs 0 (T0 c)).2 hr p2
  have k3 : ∀ l ∈ c.ands.map (·.1), kindAt (goDef c.max 2 (c.latches.map (·.1)) 0 (goDef c.max 1 c.inputs 0 (T0 c)).2).2 (l / 2) = 0 := fun l hl => by
    have m3 : l / 2 ∈ (c.ands.map (·.1)).map (· / 2) := List.mem_map.2 ⟨l, hl, rfl⟩
    rw [q2 _ (pos (b3 l hl)) fun l' hl' e => n123 _ (List.mem_append_right _ (List.mem_map.2 ⟨l', hl', rfl⟩)) _ m3 e.symm,
      q1 _ (pos (b3 l hl)) fun l' hl' e => n123 _ (List.mem_append_left _ (List.mem_map.2 ⟨l', hl', rfl⟩)) _ m3 e.symm, kind_T0]
  obtain ⟨p3, q3⟩ := goDef_pass (kind := 3) (c.ands.map (·.1)) 0 (goDef c.max 2 (c.latches.map (·.1)) 0 (goDef c.max 1 c.inputs 0 (T0 c)).2).2 b3 k3 n3
  unfold definesM
  rw [if_neg (by rw [p1]; decide), e2, if_neg (by rw [p2]; decide)]
  exact p3
/-! ### the renumbered circuit -/
section
variable {c : Circ} (R : Right c)
/-- The circuit in the binary order; the map. -/
noncomputable abbrev renC (c : Circ) : Circ := renM c (ordM c)
noncomputable abbrev toM (c : Circ) : List Int := mapOf c.max (defsOf c (ordM c))
include R
theorem Right.nDefs : (defsOf c (ordM c)).length = c.inputs.length + c.latches.length + c.ands.length := by unfold defsOf; simp [R.ordLen]; omega
theorem Right.nDefs_le : ((defsOf c (ordM c)).length : Int) ≤ c.max := by
  have h1 := nodup_size c.max.toNat (((defsOf c (ordM c)).map (· / 2)).map (· - 1)) (nodup_map (fun a b e => by omega) R.defs_nodup) fun y hy => by
    obtain ⟨z, hz, rfl⟩ := List.mem_map.1 hy
    obtain ⟨k, hk, rfl⟩ := List.mem_map.1 hz
    have := R.defs hk
    unfold defR at this
    unfold rg
    omega
  simp only [List.length_map] at h1
  have := R.m0
  omega
theorem Right.lit_def {j : Nat} (hj : j < (defsOf c (ordM c)).length) : litM (toM c) (defsOf c (ordM c))[j] = 2 * j + 2 := by
  have h1 := R.to_at hj
  have h2 := R.defs (List.getElem_mem hj)
  unfold defR at h2
  show L (toM c) _ + _ = _
  rw [h1]
  omega
theorem Right.ren_defs : allDefs (renC c) = (List.range (defsOf c (ordM c)).length).map fun (j : Nat) => 2 * (j : Int) + 2 := by
  have e1 : allDefs (renC c) = (defsOf c (ordM c)).map (litM (toM c)) := by
    unfold allDefs renC renM defsOf
    simp only [List.map_append, List.map_map]
    rfl
  rw [e1]
  apply List.ext_getElem (by simp)
  intro j h1 h2
  simp only [List.length_map] at h1
  simp only [List.getElem_map, List.getElem_range]
  exact R.lit_def h1
end
theorem ren_max {c : Circ} : (renC c).max = (defsOf c (ordM c)).length := rfl
end SC
end Go.Proofs.Ytkndegjodnciaaa
end
section
/- The renumbered circuit is right. -/
set_option linter.unusedVariables false
set_option linter.unusedSimpArgs false
namespace Go.Proofs.Ytkndegjodnciaaa
namespace SC
open Go.Proofs
theorem sizesM_zero {c : Circ} (h0 : 0 ≤ c.max) (h1 : c.max ≤ 16384) (h2 : ∀ n ∈ c.lens, n ≤ 16384) (h3 : sumW c.justice ≤ 16384) : sizesM c = 0 := by
  unfold sizesM
  rw [if_neg (by omega), if_neg]
  rintro (⟨n, hn, hh⟩ | hh)
  · have := h2 n hn; omega
  · omega
theorem goSym_congr {c d : Circ} (h : ∀ k, manyM c k = manyM d k) : ∀ (ls : List Sym) (i : Nat) (f : Int → Int → Int), goSym c ls i f = goSym d ls i f
  | [], _, _ => rfl
  | s :: r, i, f => by
    unfold goSym
    have e : symBad c f s ↔ symBad d f s := by unfold symBad; rw [h]
    by_cases hb : symBad c f s
    · rw [if_pos hb, if_pos (e.1 hb)]
    · rw [if_neg hb, if_neg (fun h' => hb (e.2 h'))]
      exact goSym_congr h r _ _
theorem kind_def {c : Circ} {t : Tab} (T : TabOk c t) {l : Int} (h : l ∈ allDefs c) : kindAt t (l / 2) ≠ 0 := by
  unfold allDefs at h
  rcases List.mem_append.1 h with h | h
  · rcases List.mem_append.1 h with h | h
    · obtain ⟨j, hj, rfl⟩ := List.mem_iff_getElem.1 h
      rw [kindAt_get (T.inp j hj).2]
      show (1 : Int) ≠ 0
      decide
    · obtain ⟨x, hx, rfl⟩ := List.mem_map.1 h
      obtain ⟨j, hj, rfl⟩ := List.mem_iff_getElem.1 hx
      rw [kindAt_get (T.lat j hj).2.1]
      show (2 : Int) ≠ 0
      decide
  · obtain ⟨x, hx, rfl⟩ := List.mem_map.1 h
    obtain ⟨j, hj, rfl⟩ := List.mem_iff_getElem.1 hx
    rw [kindAt_get (T.gat j hj).2]
    show (3 : Int) ≠ 0
    decide
theorem ren_sum {c : Circ} : sumW (renC c).justice = sumW c.justice := by
  unfold sumW sumL renC renM
  simp only [List.map_map]
  congr 3
  apply List.map_congr_left
  intro l _
  simp
section
variable {c : Circ} (R : Right c)
include R
/-- Where a variable goes. -/
theorem Right.to_cases {v : Int} (hv : 0 ≤ v) : (L (toM c) v = 0 ∧ ∀ k ∈ defsOf c (ordM c), v ≠ k / 2) ∨ ∃ (j : Nat) (hj : j < (defsOf c (ordM c)).length), v = (defsOf c (ordM c))[j] / 2 ∧ L (toM c) v = 2 * j + 2 := by
  by_cases h : ∃ k ∈ defsOf c (ordM c), v = k / 2
  · obtain ⟨k, hk, rfl⟩ := h
    obtain ⟨j, hj, rfl⟩ := List.mem_iff_getElem.1 hk
    exact .inr ⟨j, hj, rfl, R.to_at hj⟩
  · have h0 : ∀ k ∈ defsOf c (ordM c), v ≠ k / 2 := fun k hk e => h ⟨k, hk, e⟩
    exact .inl ⟨R.to_no hv h0, h0⟩
theorem Right.ren_lens : (renC c).lens = c.lens := by
  unfold Circ.lens renC renM
  simp [R.ordLen]
theorem Right.ren_sizes : sizesM (renC c) = 0 := by
  have h1 := R.nDefs_le
  have h2 := R.m1
  refine sizesM_zero (by rw [ren_max]; omega) (by rw [ren_max]; omega) (by rw [R.ren_lens]; exact R.lens) (by rw [ren_sum]; exact R.sum)
theorem Right.ren_reset {x : Tri} (hx : x ∈ c.latches) : ¬ badReset (renLatch (toM c) x) := by
  obtain ⟨h1, _, h3⟩ := R.lat hx
  unfold defR at h1
  unfold badReset renLatch
  dsimp only
  rcases h3 with h3 | h3 | h3
  · rw [h3, if_neg (by decide)]; omega
  · rw [h3, if_neg (by decide)]; omega
  · rw [h3, if_pos (by omega)]; omega
theorem Right.ren_defines : (definesM (renC c) (T0 (renC c))).1.2 = 0 := by
  refine defines_pass (fun l hl => ?_) (fun x hx => ?_) ?_
  · rw [R.ren_defs] at hl
    obtain ⟨j, hj, rfl⟩ := List.mem_map.1 hl
    simp only [List.mem_range] at hj
    rw [ren_max]
    unfold defBad
    omega
  · obtain ⟨y, hy, rfl⟩ := List.mem_map.1 (show x ∈ c.latches.map (renLatch (toM c)) from hx)
    exact R.ren_reset hy
  · rw [R.ren_defs, List.map_map]
    exact nodup_map (fun a b e => by simp only [Function.comp_apply] at e; omega) List.nodup_range
theorem Right.ren_tab : TabOk (renC c) (tabM (renC c)) := definesM_spec (by rw [ren_max]; omega) R.ren_defines
/-- A literal that may be used may be used behind. -/
theorem Right.ren_use {l : Int} (h : useOk c (tabM c) l) : useOk (renC c) (tabM (renC c)) (litM (toM c) l) := by
  obtain ⟨h0, h1, h2⟩ := h
  have e : litM (toM c) l = L (toM c) (l / 2) + l % 2 := rfl
  unfold useOk
  rw [ren_max, e]
  rcases R.to_cases (v := l / 2) (by omega) with ⟨e1, _⟩ | ⟨j, hj, _, e1⟩
  · rw [e1]
    exact ⟨by omega, by omega, fun hh => by omega⟩
  · rw [e1]
    refine ⟨by omega, by omega, fun _ => ?_⟩
    have hm : (2 * (j : Int) + 2) ∈ allDefs (renC c) := by rw [R.ren_defs]; exact List.mem_map.2 ⟨j, List.mem_range.2 hj, rfl⟩
    have := kind_def R.ren_tab hm
    rw [show (2 * (j : Int) + 2 + l % 2) / 2 = (2 * (j : Int) + 2) / 2 by omega]
    exact this
theorem Right.ren_uses : (usesM (renC c) (tabM (renC c))).2 = 0 := by
  rw [usesM_spec]
  have U := R.use
  have one : ∀ {ls : List Int}, (∀ x ∈ ls, useOk c (tabM c) x) → ∀ x ∈ ls.map (litM (toM c)), useOk (renC c) (tabM (renC c)) x := fun h x hx => by
    obtain ⟨y, hy, rfl⟩ := List.mem_map.1 hx
    exact R.ren_use (h y hy)
  refine ⟨fun x hx => ?_, one U.outputs, one U.bads, one U.constraints, fun ls hls x hx => ?_, one U.fairness, fun x hx => ?_⟩
  · obtain ⟨y, hy, rfl⟩ := List.mem_map.1 (show x ∈ c.latches.map (renLatch (toM c)) from hx)
    exact R.ren_use (U.next y hy)
  · obtain ⟨l0, hl0, rfl⟩ := List.mem_map.1 (show ls ∈ c.justice.map (fun l => l.map (litM (toM c))) from hls)
    exact one (U.justice l0 hl0) x hx
  · obtain ⟨i, hi, rfl⟩ := List.mem_map.1 (show x ∈ (ordM c).map (fun i => renAnd (toM c) (andAt c i)) from hx)
    have ho := R.ord hi
    have hlt : i.toNat < c.ands.length := by omega
    have ha : andAt c i ∈ c.ands := by unfold andAt; simp [hlt]
    obtain ⟨u1, u2⟩ := U.ands _ ha
    have v1 := R.ren_use u1
    have v2 := R.ren_use u2
    have mx : ∀ (P : Int → Prop) (a b : Int), P a → P b → P (max a b) ∧ P (min a b) := fun P a b ha hb => by
      rcases Int.le_total a b with h | h
      · rw [Int.max_eq_right h, Int.min_eq_left h]; exact ⟨hb, ha⟩
      · rw [Int.max_eq_left h, Int.min_eq_right h]; exact ⟨ha, hb⟩
    exact mx _ _ _ v1 v2
end
theorem ren_many {c : Circ} (k : Int) : manyM (renC c) k = manyM c k := by
  unfold manyM renC renM
  simp
end SC
end Go.Proofs.Ytkndegjodnciaaa
end
section
/- The renumbered circuit's order; it looks right. -/
set_option linter.unusedVariables false
set_option linter.unusedSimpArgs false
namespace Go.Proofs.Ytkndegjodnciaaa
namespace SC
open Go.Proofs
/-- 0, 1, .. -/
def upto (n : Nat) : List Int := (List.range n).map fun (k : Nat) => (k : Int)
theorem mem_upto {n : Nat} {y : Int} : y ∈ upto n ↔ 0 ≤ y ∧ y < n := by
  unfold upto
  rw [List.mem_map]
  constructor
  · rintro ⟨k, hk, rfl⟩
    have := List.mem_range.1 hk
    omega
  · rintro ⟨h0, h1⟩
    exact ⟨y.toNat, List.mem_range.2 (by omega), by omega⟩
theorem upto_len (n : Nat) : (upto n).length = n := by unfold upto; simp
theorem all_upto {n : Nat} {B : Int → List Int} (h : ∀ k : Nat, k < n → ∀ z ∈ B (k : Int), 0 ≤ z ∧ z < k) : All n B (upto n) := by
  have told : ∀ m, m ≤ n → Told n B (upto m) := by
    intro m
    induction m with
    | zero => intro _; exact Told.nil
    | succ m ih =>
      intro hm
      have e : upto (m + 1) = upto m ++ [(m : Int)] := by unfold upto; rw [List.range_succ, List.map_append]; rfl
      rw [e]
      refine Told.snoc (ih (by omega)) ⟨⟨by omega, by omega⟩, fun hh => ?_, fun z hz => mem_upto.2 (h m (by omega) z hz)⟩ fun y hy => ?_
      · have := (mem_upto.1 hh).2
        omega
      · have h1 := hy.rg
        have h2 := hy.new
        rw [mem_upto] at h2
        unfold rg at h1
        omega
  refine ⟨told n (Nat.le_refl _), fun y hy => ?_⟩
  have h1 := hy.rg
  have h2 := hy.new
  rw [mem_upto] at h2
  unfold rg at h1
  omega
section
variable {c : Circ} (R : Right c)
include R
theorem Right.def_and {j : Nat} (hj : j < (ordM c).length) : ∃ h : c.inputs.length + c.latches.length + j < (defsOf c (ordM c)).length, (defsOf c (ordM c))[c.inputs.length + c.latches.length + j] = (andAt c (ordM c)[j]).1 := by
  have h0 := R.nDefs
  have h1 := R.ordLen
  refine ⟨by omega, ?_⟩
  unfold defsOf
  rw [List.getElem_append_right (by simp)]
  simp
theorem Right.ren_out {j : Nat} (hj : j < (ordM c).length) : litM (toM c) (andAt c (ordM c)[j]).1 = 2 * ((c.inputs.length + c.latches.length + j : Nat) : Int) + 2 := by
  obtain ⟨h, e⟩ := R.def_and hj
  rw [← e]
  exact R.lit_def h
/-- A gate that another one uses was told before it. -/
theorem Right.low {k : Nat} (hk : k < (ordM c).length) {l : Int} (hl : l = (andAt c (ordM c)[k]).2.1 ∨ l = (andAt c (ordM c)[k]).2.2) {j : Nat} (hj : j < (ordM c).length) (e : l / 2 = (andAt c (ordM c)[j]).1 / 2) : j < k := by
  have ho := R.ord (List.getElem_mem hj)
  have hlt : (ordM c)[j].toNat < c.ands.length := by omega
  have h3 := (R.tab.gat _ hlt).2
  have ea : andAt c (ordM c)[j] = c.ands[(ordM c)[j].toNat] := by unfold andAt; simp [hlt]
  rw [← ea, ← e, show (((ordM c)[j].toNat : Nat) : Int) = (ordM c)[j] by omega] at h3
  have hsp : ordM c = (ordM c).take k ++ (ordM c)[k] :: (ordM c).drop (k + 1) := by
    have h1 := List.take_append_drop k (ordM c)
    rw [List.drop_eq_getElem_cons hk] at h1
    exact h1.symm
  have hlow := (R.all.told.split hsp).1.low
  have hb : (ordM c)[j] ∈ gateB (tabM c) c (ordM c)[k] := by
    show (ordM c)[j] ∈ belowL (tabM c) [(andAt c (ordM c)[k]).2.1, (andAt c (ordM c)[k]).2.2]
    rw [mem_belowL]
    exact ⟨l, by rcases hl with rfl | rfl <;> simp, kindAt_get h3, atOf_get h3⟩
  obtain ⟨k', hk', ek⟩ := List.mem_iff_getElem.1 (hlow _ hb)
  rw [List.length_take] at hk'
  rw [List.getElem_take] at ek
  have := nodup_ix R.all.told.nodup (a := k') (b := j) (by omega) hj ek
  omega
theorem Right.ren_below {k : Nat} (hk : k < (ordM c).length) {z : Int} (hz : z ∈ gateB (tabM (renC c)) (renC c) (k : Int)) : 0 ≤ z ∧ z < k := by
  have eA : (renC c).ands.getD (k : Int).toNat (0, 0, 0) = renAnd (toM c) (andAt c (ordM c)[k]) := by
    show ((ordM c).map fun i => renAnd (toM c) (andAt c i)).getD _ _ = _
    simp [hk]
  have hz' : z ∈ belowL (tabM (renC c)) [(renAnd (toM c) (andAt c (ordM c)[k])).2.1, (renAnd (toM c) (andAt c (ordM c)[k])).2.2] := by
    rw [← eA]
    exact hz
  rw [mem_belowL] at hz'
  obtain ⟨l', hl', h3, hat⟩ := hz'
  -- the literal of c
  obtain ⟨l, hl, el⟩ : ∃ l, (l = (andAt c (ordM c)[k]).2.1 ∨ l = (andAt c (ordM c)[k]).2.2) ∧ l' = litM (toM c) l := by
    simp only [List.mem_cons, List.not_mem_nil, or_false, renAnd] at hl'
    rcases Int.le_total (litM (toM c) (andAt c (ordM c)[k]).2.1) (litM (toM c) (andAt c (ordM c)[k]).2.2) with h | h
    · rw [Int.max_eq_right h, Int.min_eq_left h] at hl'
      rcases hl' with e | e
      · exact ⟨_, .inr rfl, e⟩
      · exact ⟨_, .inl rfl, e⟩
    · rw [Int.max_eq_left h, Int.min_eq_right h] at hl'
      rcases hl' with e | e
      · exact ⟨_, .inl rfl, e⟩
      · exact ⟨_, .inr rfl, e⟩
  have ho := R.ord (List.getElem_mem hk)
  have hlt : (ordM c)[k].toNat < c.ands.length := by omega
  have ha : andAt c (ordM c)[k] ∈ c.ands := by unfold andAt; simp [hlt]
  have hg := R.gate ha
  have hl0 : 0 ≤ l := by
    have h1 := hg.2.1
    have h2 := hg.2.2
    unfold inR at h1 h2
    rcases hl with e | e <;> omega
  have e0 : litM (toM c) l = L (toM c) (l / 2) + l % 2 := rfl
  rw [e0] at el
  rcases R.to_cases (v := l / 2) (by omega) with ⟨e1, _⟩ | ⟨d, hd, ed, e1⟩
  · rw [e1] at el
    exfalso
    rw [show l' / 2 = (0 : Int) by omega] at h3
    obtain ⟨j, hj, g1, _⟩ := R.ren_tab.gate (v := 0) h3
    have hd := R.ren_tab.gat j hj
    unfold defBad at hd
    omega
  · rw [e1] at el
    have e2 : l' / 2 = ((d + 1 : Nat) : Int) := by omega
    rw [e2] at h3 hat
    obtain ⟨j, hj, g1, g2, _⟩ := R.ren_tab.gate h3
    have hj' : j < (ordM c).length := by
      have : (renC c).ands.length = (ordM c).length := by show ((ordM c).map fun i => renAnd (toM c) (andAt c i)).length = _; simp
      omega
    have e3 : (renC c).ands[j].1 = litM (toM c) (andAt c (ordM c)[j]).1 := by
      show (((ordM c).map fun i => renAnd (toM c) (andAt c i))[j]'(by simpa using hj')).1 = _
      simp [renAnd]
    rw [e3, R.ren_out hj'] at g1
    obtain ⟨hx, ex⟩ := R.def_and hj'
    have e4 : d = c.inputs.length + c.latches.length + j := by omega
    subst e4
    rw [ex] at ed
    have := R.low hk hl hj' ed
    rw [← hat, g2]
    omega
theorem Right.ren_ands : (renC c).ands.length = c.ands.length := by
  show ((ordM c).map fun i => renAnd (toM c) (andAt c i)).length = _
  rw [List.length_map, R.ordLen]
theorem Right.ren_all : All (renC c).ands.length (gateB (tabM (renC c)) (renC c)) (upto (renC c).ands.length) := all_upto fun k hk z hz => R.ren_below (by rw [R.ordLen, ← R.ren_ands]; exact hk) hz
theorem Right.ren_cyc : cycM (renC c).ands.length (gateB (tabM (renC c)) (renC c)) = -1 := cycM_eq ⟨_, R.ren_all, .inl ⟨upto_len _, rfl⟩⟩
end
/-- The renumbered circuit looks right where the circuit did. -/
theorem ren_look {c : Circ} (R : Right c) (h : (lookM c).2 = 0) : (lookM (renC c)).2 = 0 := by
  obtain ⟨_, _, _, _, _, hs, hc⟩ := lookM_ok h
  unfold lookM
  rw [if_neg (fun hh => hh R.ren_sizes), if_neg (fun hh => hh R.ren_defines), if_neg (fun hh => hh R.ren_uses), R.ren_cyc, if_neg (by decide), if_neg, if_neg]
  · exact Int.not_le.2 hc
  · rw [goSym_congr (fun k => ren_many k)]
    exact Int.not_le.2 hs
end SC
end Go.Proofs.Ytkndegjodnciaaa
end
section
/- The renumbered circuit's values and runs. -/
set_option linter.unusedVariables false
set_option linter.unusedSimpArgs false
namespace Go.Proofs.Ytkndegjodnciaaa
namespace SC
open Go.Proofs
section
variable {c : Circ}
end
section
variable {c : Circ} (R : Right c)
include R
theorem Right.def_inp {i : Nat} (hi : i < c.inputs.length) : ∃ h : i < (defsOf c (ordM c)).length, (defsOf c (ordM c))[i] = c.inputs[i] := by
  have h0 := R.nDefs
  refine ⟨by omega, ?_⟩
  unfold defsOf
  rw [List.getElem_append_left (by simp; omega), List.getElem_append_left hi]
theorem Right.def_lat {i : Nat} (hi : i < c.latches.length) : ∃ h : c.inputs.length + i < (defsOf c (ordM c)).length, (defsOf c (ordM c))[c.inputs.length + i] = c.latches[i].1 := by
  have h0 := R.nDefs
  refine ⟨by omega, ?_⟩
  unfold defsOf
  rw [List.getElem_append_left (by simp; omega), List.getElem_append_right (by omega)]
  simp
theorem Right.to_even {v : Int} (hv : 0 ≤ v) : L (toM c) v % 2 = 0 := by
  rcases R.to_cases hv with ⟨e, _⟩ | ⟨j, _, _, e⟩ <;> rw [e] <;> omega
end
end SC
end Go.Proofs.Ytkndegjodnciaaa
end
section
/- Runs of the renumbered circuit. -/
set_option linter.unusedVariables false
set_option linter.unusedSimpArgs false
namespace Go.Proofs.Ytkndegjodnciaaa
namespace SC
open Go.Proofs
theorem gt_map {α β : Type} [Inhabited α] [Inhabited β] {f : α → β} {l : List α} {k : Nat} (h : k < l.length) : gt (l.map f) (k : Int) = f (gt l (k : Int)) := by
  rw [gt_nat (by simpa using h), gt_nat h, List.getElem_map]
section
variable {c : Circ} (R : Right c) (R' : Right (renC c))
include R R'
end
/-- A renumbered circuit is right. -/
theorem ren_right {c : Circ} (R : Right c) (h : (lookM c).2 = 0) : Right (renC c) := by
  obtain ⟨_, g1, g2, g3, _⟩ := lookM_ok (ren_look R h)
  obtain ⟨k1, k2, k3, k4⟩ := sizesM_ok g1
  have e1 := ordM_eq R.ren_all
  exact ⟨definesM_spec k1 g2, usesM_spec.1 g3, k1, k2, k3, k4, by rw [e1]; exact R.ren_all, by rw [e1, upto_len]⟩
end SC
end Go.Proofs.Ytkndegjodnciaaa
end
section
/- The binary order: a right circuit has it just if renumbering leaves it as it is. -/
set_option linter.unusedVariables false
set_option linter.unusedSimpArgs false
namespace Go.Proofs.Ytkndegjodnciaaa
namespace SC
open Go.Proofs
section
variable {c : Circ} (R : Right c)
include R
theorem Right.bin_ord (B : BinOk c) : ordM c = upto c.ands.length := by
  refine ordM_eq (all_upto fun k hk z hz => ?_)
  have hz' : z ∈ belowL (tabM c) [(andAt c (k : Int)).2.1, (andAt c (k : Int)).2.2] := hz
  rw [mem_belowL] at hz'
  obtain ⟨l, hl, h3, hat⟩ := hz'
  have ea : andAt c (k : Int) = gt c.ands (k : Int) := rfl
  obtain ⟨b1, b2, b3⟩ := B.and k hk
  rw [ea] at hl
  have hg := R.gate (gt_mem (l := c.ands) (i := (k : Int)) (by omega) (by omega))
  have hle : 0 ≤ l ∧ l ≤ (gt c.ands (k : Int)).2.1 := by
    have q1 := hg.2.1
    have q2 := hg.2.2
    unfold inR at q1 q2
    simp only [List.mem_cons, List.not_mem_nil, or_false] at hl
    rcases hl with rfl | rfl <;> omega
  obtain ⟨v, hv⟩ : ∃ v : Nat, l / 2 = v := ⟨(l / 2).toNat, by omega⟩
  rw [hv] at h3 hat
  obtain ⟨j, hj, g1, g2, _⟩ := R.tab.gate h3
  have b4 := (B.and j hj).1
  rw [gt_nat hj, g1] at b4
  omega
theorem Right.bin_defs (B : BinOk c) {d : Nat} (hd : d < (defsOf c (ordM c)).length) : (defsOf c (ordM c))[d] = 2 * (d : Int) + 2 := by
  have hn := R.nDefs
  rcases Nat.lt_or_ge d c.inputs.length with h1 | h1
  · obtain ⟨_, e⟩ := R.def_inp h1
    rw [e, ← gt_nat h1, B.inp d h1]
  rcases Nat.lt_or_ge d (c.inputs.length + c.latches.length) with h2 | h2
  · obtain ⟨i, rfl⟩ : ∃ i, d = c.inputs.length + i := ⟨d - c.inputs.length, by omega⟩
    have h3 : i < c.latches.length := by omega
    obtain ⟨_, e⟩ := R.def_lat h3
    rw [e, ← gt_nat h3, B.lat i h3]
    omega
  · obtain ⟨j, rfl⟩ : ∃ j, d = c.inputs.length + c.latches.length + j := ⟨d - (c.inputs.length + c.latches.length), by omega⟩
    have h3 : j < (ordM c).length := by have := R.ordLen; omega
    obtain ⟨_, e⟩ := R.def_and h3
    have e2 : (ordM c)[j] = (j : Int) := by
      have e3 := R.bin_ord B
      have : (ordM c)[j]? = (upto c.ands.length)[j]? := by rw [e3]
      rw [List.getElem?_eq_getElem h3] at this
      unfold upto at this
      rw [List.getElem?_map, List.getElem?_range (by have := R.ordLen; omega)] at this
      simpa using this
    rw [e, e2]
    have := (B.and j (by omega)).1
    rw [show andAt c (j : Int) = gt c.ands (j : Int) from rfl, this]
    omega
theorem Right.bin_lit (B : BinOk c) {l : Int} (h : inR c l) : litM (toM c) l = l := by
  unfold inR at h
  have hn := R.nDefs
  have hm := B.max
  have e0 : litM (toM c) l = L (toM c) (l / 2) + l % 2 := rfl
  rw [e0]
  rcases R.to_cases (v := l / 2) (by omega) with ⟨e, hno⟩ | ⟨j, hj, ed, e⟩
  · by_cases hz : l / 2 = 0
    · omega
    · exfalso
      obtain ⟨d, hd⟩ : ∃ d : Nat, l / 2 = (d : Int) + 1 := ⟨(l / 2 - 1).toNat, by omega⟩
      have hdl : d < (defsOf c (ordM c)).length := by omega
      have := hno _ (List.getElem_mem hdl)
      rw [R.bin_defs B hdl] at this
      omega
  · rw [R.bin_defs B hj] at ed
    omega
theorem Right.bin_ren (B : BinOk c) : renC c = c := by
  have ml : ∀ {ls : List Int}, (∀ l ∈ ls, inR c l) → ls.map (litM (toM c)) = ls := fun {ls} h => by
    conv => rhs; rw [← List.map_id ls]
    exact List.map_congr_left fun l hl => R.bin_lit B (h l hl)
  refine Circ.same ?_ ?_ ?_ ?_ ?_ ?_ ?_ ?_ ?_ rfl rfl
  · have := R.nDefs; have := B.max; rw [ren_max]; omega
  · exact ml fun l hl => (R.inp hl).in
  · show c.latches.map (renLatch (toM c)) = c.latches
    conv => rhs; rw [← List.map_id c.latches]
    refine List.map_congr_left fun x hx => ?_
    obtain ⟨h1, h2, h3⟩ := R.lat hx
    show (litM (toM c) x.1, litM (toM c) x.2.1, if 1 < x.2.2 then litM (toM c) x.2.2 else x.2.2) = x
    rw [R.bin_lit B h1.in, R.bin_lit B h2]
    have : (if 1 < x.2.2 then litM (toM c) x.2.2 else x.2.2) = x.2.2 := by
      split
      · rcases h3 with h3 | h3 | h3
        · omega
        · omega
        · rw [h3, R.bin_lit B h1.in]
      · rfl
    rw [this]
  · exact ml fun l hl => ⟨(R.use.outputs l hl).1, (R.use.outputs l hl).2.1⟩
  · exact ml fun l hl => R.bad hl
  · exact ml fun l hl => R.con hl
  · show c.justice.map (fun l => l.map (litM (toM c))) = c.justice
    conv => rhs; rw [← List.map_id c.justice]
    exact List.map_congr_left fun ls hls => ml fun l hl => R.just hls hl
  · exact ml fun l hl => R.fair hl
  · show (ordM c).map (fun i => renAnd (toM c) (andAt c i)) = c.ands
    rw [R.bin_ord B]
    unfold upto
    rw [List.map_map]
    apply List.ext_getElem (by simp)
    intro k h1 h2
    rw [List.getElem_map, List.getElem_range]
    show renAnd (toM c) (gt c.ands (k : Int)) = _
    have hk : k < c.ands.length := h2
    have hg := R.gate (gt_mem (l := c.ands) (i := (k : Int)) (by omega) (by omega))
    obtain ⟨_, b2, b3⟩ := B.and k hk
    unfold renAnd
    rw [R.bin_lit B hg.1.in, R.bin_lit B hg.2.1, R.bin_lit B hg.2.2, Int.max_eq_left b3, Int.min_eq_right b3, gt_nat hk]
theorem Right.ren_bin (e : renC c = c) : BinOk c := by
  have hn := R.nDefs
  have hmax : ((defsOf c (ordM c)).length : Int) = c.max := by
    have : (renC c).max = c.max := by rw [e]
    rwa [ren_max] at this
  refine ⟨fun i hi => ?_, fun i hi => ?_, fun i hi => ?_, by omega⟩
  · have h1 : c.inputs.map (litM (toM c)) = c.inputs := congrArg Circ.inputs e
    obtain ⟨hd, e2⟩ := R.def_inp hi
    have h2 := R.lit_def hd
    rw [e2] at h2
    rw [gt_nat hi, ← h2]
    have := congrArg (fun l => l[i]?) h1
    simp only [List.getElem?_map, List.getElem?_eq_getElem hi, Option.map_some, Option.some.injEq] at this
    exact this.symm
  · have h1 : c.latches.map (renLatch (toM c)) = c.latches := congrArg Circ.latches e
    obtain ⟨hd, e2⟩ := R.def_lat hi
    have h2 := R.lit_def hd
    rw [e2] at h2
    have := congrArg (fun l => l[i]?) h1
    simp only [List.getElem?_map, List.getElem?_eq_getElem hi, Option.map_some, Option.some.injEq] at this
    rw [gt_nat hi]
    have h3 : (c.latches[i]).1 = litM (toM c) c.latches[i].1 := by
      conv => lhs; rw [← this]
      rfl
    rw [h3, h2]
    omega
  · have h1 : (ordM c).map (fun i => renAnd (toM c) (andAt c i)) = c.ands := congrArg Circ.ands e
    have hk : i < (ordM c).length := by rw [R.ordLen]; exact hi
    have := congrArg (fun l => l[i]?) h1
    simp only [List.getElem?_map, List.getElem?_eq_getElem hi, List.getElem?_eq_getElem hk, Option.map_some, Option.some.injEq] at this
    have ho := R.ren_out hk
    have hlt := R.ord (List.getElem_mem hk)
    have hlt' : (ordM c)[i].toNat < c.ands.length := by omega
    have ha : andAt c (ordM c)[i] ∈ c.ands := by unfold andAt; simp [hlt']
    have hg := R.gate ha
    have small : ∀ l, (l = (andAt c (ordM c)[i]).2.1 ∨ l = (andAt c (ordM c)[i]).2.2) → litM (toM c) l < litM (toM c) (andAt c (ordM c)[i]).1 := fun l hl => by
      have hl0 : 0 ≤ l := by
        have q1 := hg.2.1
        have q2 := hg.2.2
        unfold inR at q1 q2
        rcases hl with e | e <;> omega
      have e0 : litM (toM c) l = L (toM c) (l / 2) + l % 2 := rfl
      rw [ho, e0]
      rcases R.to_cases (v := l / 2) (by omega) with ⟨e1, _⟩ | ⟨d, hd, ed, e1⟩
      · omega
      · rw [e1]
        rcases Nat.lt_or_ge d (c.inputs.length + c.latches.length) with q | q
        · omega
        · obtain ⟨j', rfl⟩ : ∃ j', d = c.inputs.length + c.latches.length + j' := ⟨d - (c.inputs.length + c.latches.length), by omega⟩
          have q3 : j' < (ordM c).length := by have := R.ordLen; omega
          obtain ⟨_, e6⟩ := R.def_and q3
          rw [e6] at ed
          have := R.low hk hl q3 ed
          omega
    have s1 := small _ (.inl rfl)
    have s2 := small _ (.inr rfl)
    rw [gt_nat hi, ← this]
    unfold renAnd
    dsimp only
    rw [ho] at *
    refine ⟨by omega, by omega, by omega⟩
end
end SC
end Go.Proofs.Ytkndegjodnciaaa
end
section
/- shape: Renumber, by entries. -/
set_option linter.unusedVariables false
set_option linter.unusedSimpArgs false
namespace Go.Proofs.Ytkndegjodnciaaa
namespace SC
open Go.Proofs
section
variable {c : Circ} (R : Right c)
include R
theorem Right.lit_le {l : Int} (h : 0 ≤ l) : 0 ≤ litM (toM c) l ∧ litM (toM c) l ≤ 100000 := by
  have e0 : litM (toM c) l = L (toM c) (l / 2) + l % 2 := rfl
  have h1 := R.nDefs_le
  have h2 := R.m1
  rw [e0]
  rcases R.to_cases (v := l / 2) (by omega) with ⟨e, _⟩ | ⟨j, hj, _, e⟩ <;> rw [e] <;> omega
theorem Right.ren_okay (ho : c.Okay) : (renC c).Okay := by
  have le : ∀ {l : Int}, 0 ≤ l → fits (litM (toM c) l) := fun h => by have := R.lit_le h; unfold fits; omega
  refine ⟨by rw [R.ren_lens]; exact ho.lens, fun l hl => ?_, fun x hx => ?_, fun x hx => ?_, ho.symbols⟩
  · obtain ⟨y, hy, rfl⟩ := List.mem_map.1 (show l ∈ c.justice.map (fun l => l.map (litM (toM c))) from hl)
    rw [List.length_map]
    exact ho.just y hy
  · obtain ⟨y, hy, rfl⟩ := List.mem_map.1 (show x ∈ c.latches.map (renLatch (toM c)) from hx)
    obtain ⟨h1, h2, h3⟩ := R.lat hy
    unfold defR at h1
    unfold inR at h2
    refine ⟨le (by omega), le (by omega), ?_⟩
    show fits (if 1 < y.2.2 then litM (toM c) y.2.2 else y.2.2)
    split
    · exact le (by omega)
    · unfold fits; omega
  · obtain ⟨i, hi, rfl⟩ := List.mem_map.1 (show x ∈ (ordM c).map (fun i => renAnd (toM c) (andAt c i)) from hx)
    have ho := R.ord hi
    have hlt : i.toNat < c.ands.length := by omega
    have ha : andAt c i ∈ c.ands := by unfold andAt; simp [hlt]
    obtain ⟨h1, h2, h3⟩ := R.gate ha
    unfold defR at h1
    unfold inR at h2 h3
    have l1 := R.lit_le (l := (andAt c i).2.1) (by omega)
    have l2 := R.lit_le (l := (andAt c i).2.2) (by omega)
    refine ⟨le (by omega), ?_, ?_⟩
    · show fits (max _ _)
      unfold fits
      omega
    · show fits (min _ _)
      unfold fits
      omega
theorem Right.ren_fits (hf : c.Fits) : (renC c).Fits := by
  have e : ∀ (f : Int → Int) (l : List Int), (l.map f).length = l.length := fun f l => List.length_map _
  have ea := R.ren_ands
  refine ⟨?_, ?_, ?_, ?_, ?_, ?_, fun l hl => ?_, ?_, ?_, hf.symbols, hf.comments⟩
  · show (c.inputs.map (litM (toM c))).length * 8 ≤ _; rw [e]; exact hf.inputs
  · show (c.latches.map (renLatch (toM c))).length * 24 ≤ _; rw [List.length_map]; exact hf.latches
  · show (c.outputs.map (litM (toM c))).length * 8 ≤ _; rw [e]; exact hf.outputs
  · show (c.bads.map (litM (toM c))).length * 8 ≤ _; rw [e]; exact hf.bads
  · show (c.constraints.map (litM (toM c))).length * 8 ≤ _; rw [e]; exact hf.constraints
  · show (c.justice.map (fun l => l.map (litM (toM c)))).length * 24 ≤ _; rw [List.length_map]; exact hf.justice
  · obtain ⟨y, hy, rfl⟩ := List.mem_map.1 (show l ∈ c.justice.map (fun l => l.map (litM (toM c))) from hl)
    rw [e]; exact hf.each y hy
  · show (c.fairness.map (litM (toM c))).length * 8 ≤ _; rw [e]; exact hf.fairness
  · rw [ea]; exact hf.ands
theorem Right.ren_sane (hs : c.Sane) : (renC c).Sane := by
  have ea := R.ren_ands
  refine ⟨fun l hl => ?_, hs.kinds, hs.ats, hs.names, hs.texts, ?_⟩
  · obtain ⟨y, hy, rfl⟩ := List.mem_map.1 (show l ∈ c.justice.map (fun l => l.map (litM (toM c))) from hl)
    rw [List.length_map]
    exact hs.just y hy
  · have h := hs.lens
    have e1 : (renC c).inputs.length = c.inputs.length := List.length_map _
    have e2 : (renC c).latches.length = c.latches.length := List.length_map _
    have e3 : (renC c).outputs.length = c.outputs.length := List.length_map _
    have e4 : (renC c).bads.length = c.bads.length := List.length_map _
    have e5 : (renC c).constraints.length = c.constraints.length := List.length_map _
    have e6 : (renC c).justice.length = c.justice.length := List.length_map _
    have e7 : (renC c).fairness.length = c.fairness.length := List.length_map _
    have e8 : (renC c).symbols = c.symbols := rfl
    have e9 : (renC c).comments = c.comments := rfl
    rw [e1, e2, e3, e4, e5, e6, e7, e8, e9, ea]
    exact h
end
/-- A renumbered circuit of its own and its map, as one entry. -/
def renX (base : Nat) (c : Circ) (h js : Hd) (A : Option Addr) (k : Nat) : EntX where
  own := fun b => (∃ i, (cirRows (renC c) h js js (renC c).justice.length i).v.ownBlock = some b) ∨ (Value.slice A (toM c).length k).ownBlock = some b
  ok := fun w => CirOwn w base (renC c) h js ∧ w.ownsRow base 3 1 (.slice A (toM c).length k) (toM c).length ((toM c).flatMap icell)
  lt := fun w H b hb => by
    rcases hb with ⟨i, hi⟩ | hb
    · exact (Rows.lt H.1 hi).2
    · exact (World.ownsRow.lt H.2 b hb).2
  keep := fun w w' S H hc hn => ⟨Rows.chg H.1 hc fun i b hb => hn b (.inl ⟨i, hb⟩), own_chg H.2 hc fun b hb => hn b (.inr hb)⟩
def RenR (c : Circ) (v : Value) (N : Mm) : Prop :=
  ((lookM c).2 ≠ 0 ∧ v = .tuple #[.agg Zc.toArray, .slice none 0 0, nu (lookM c).2] ∧ N = []) ∨
    ((lookM c).2 = 0 ∧ ∃ h' js' A k base, v = .tuple #[.agg (ccells (renC c) h').toArray, .slice A (toM c).length k, nu 0] ∧ N = [.any (renX base c h' js' A k)])
theorem renumber_ok {w : World} {c : Circ} {h js : Hd} (H : CirIn w c h js) (he : (lookM c).2 = 0) : CVN Try.prog 37 [.agg (ccells c h).toArray] w (RenR c) := by
  have R := right_of H.at_ H.sane he
  refine CV.mono (Renumber_cv H.at_ H.sane (R.sumJ H.fits)) fun v w' ⟨hc, hv⟩ => ?_
  rcases hv with ⟨h1, _⟩ | ⟨_, ord, h', js', u, h2, _, rfl, h4, h5⟩
  · exact absurd he h1
  · have e := ordM_eq h2
    subst e
    rw [← flat_icell] at h5
    obtain ⟨A, k, rfl⟩ := row_form' h5
    refine ⟨[.any (renX w.heap.size c h' js' A k)], Mem.join (.one ⟨h4, h5⟩) (.one hc) fun b ⟨E, hE, h1⟩ ⟨F, hF, h2⟩ => ?_, .inr ⟨he, h', js', A, k, _, rfl, rfl⟩⟩
    simp only [List.mem_singleton] at hE hF
    subst hE hF
    have hlt := h2.1
    rcases h1 with ⟨i, hi⟩ | h1
    · have := (Rows.lt h4 hi).1
      omega
    · have := (World.ownsRow.lt h5 b h1).1
      omega
attribute [local irreducible] WC WL WX WS WO OX Does DoesU Enters CV Pure thenQ blockQ retQ Wants retQC GC GL GS GX RdB thenG blockG retG Rd At gt CVN CVM
set_option maxRecDepth 100000
theorem renumber_no {w : World} {c : Circ} {h js : Hd} (H : CirIn w c h js) (he : (lookM c).2 ≠ 0) : CVN Try.prog 37 [.agg (ccells c h).toArray] w (RenR c) := by
  have hord : ∀ Γ, In Γ (.old w none_) → ∀ w', Mem w' Γ → CVN Try.prog 26 [.agg (ccells c h).toArray] w' (OrdR c) := fun Γ hi w' M => OrderG (H.at_.chg (hi.old M)) H.sane
  refine CVN.enterC (t := 51) 204 2 [3, 4] Try.func37 rfl rfl rfl (.inr rfl) rfl ?_
  repeat' (first
      | (apply G_call; eq_refl; eq_refl; (apply hord; (repeat first | exact In.here | apply In.there | apply In.skip)); rintro _ _ (⟨_, rfl, rfl⟩ | ⟨he', A1, k1, rfl, rfl⟩); rotate_left; (exact absurd he' he))
      | (apply GC_seqK; intro K hK)
      | (apply hK; clear hK K)
      | (clear hK K; apply hK; clear hK K)
      | (clear hK K; clear hK K; apply hK; clear hK K)
      | (clear hK K; clear hK K; clear hK K; apply hK; clear hK K)
      | (apply GC_block)
      | (apply GC_region)
      | (apply GL_nil)
      | (apply thenG_normal)
      | (apply thenG_ret)
      | (apply thenG_exit)
      | (apply blockG_hit)
      | (apply blockG_miss; eq_refl)
      | (apply blockG_ret)
      | (apply blockG_normal)
      | (apply GC_ret)
      | (apply GC_exit)
      | (apply GC_skip)
      | (apply GC_if_true; eq_refl)
      | (apply GC_if_false; eq_refl)
      | (apply GC_ifD; eq_refl; all_goals intro _)
      | (apply GC_if; eq_refl; all_goals intro _)
      | (apply retG1; eq_refl)
      | (apply retG2; eq_refl; eq_refl)
      | (apply retG3; eq_refl; eq_refl; eq_refl)
      | (apply retG0)
      | (apply retG0n)
      | (apply retGC0; eq_refl; (repeat first | exact In.here | apply In.there | apply In.skip); eq_refl)
      | (apply retGC2; eq_refl; (repeat first | exact In.here | apply In.there | apply In.skip); eq_refl; eq_refl; eq_refl)
      | (apply GL_on; eq_refl; eq_refl)
      | (refine GC_draws (id := 26) [.q 0, .q 1, .q 2, .q 4, .q 5, .q 6, .q 8, .q 9, .q 10, .q 12, .q 13, .q 14, .q 16, .q 17, .q 18, .c 3, .q 20, .c 7, .c 11, .c 15, .c 19, .c 21, .q 22, .c 23, .q 24, .c 25, .q 26, .c 27, .q 28, .c 29] mixed (by kernel_rfl) (by kernel_rfl) ?_)
      | (refine GC_draws (id := 30) [.q 0, .q 1, .q 2, .q 3, .q 4, .c 5, .q 6, .c 7] mixed (by kernel_rfl) (by kernel_rfl) ?_)
      | (refine GC_draws (id := 37) [.q 0, .q 1, .q 2, .q 3, .q 4, .q 5, .q 7, .q 8, .q 9, .q 11, .q 12, .c 6, .c 10, .q 13, .q 14, .c 15] mixed (by kernel_rfl) (by kernel_rfl) ?_)
      | (refine GC_draws (id := 42) [.q 0, .q 1, .q 2, .q 3, .q 4, .q 5, .q 6, .q 8, .q 9, .q 10, .q 11, .q 12, .q 13, .q 14, .c 7, .c 15, .q 16, .q 17] mixed (by kernel_rfl) (by kernel_rfl) ?_)
      | (refine GC_draws (id := 43) [.q 0, .q 1, .q 2, .q 3, .q 4, .q 5, .q 6, .q 7, .q 8, .q 9, .q 11, .q 12, .q 13, .q 14, .q 15, .q 16, .c 10, .q 17, .q 18, .c 19] mixed (by kernel_rfl) (by kernel_rfl) ?_)
      | (refine GC_draws (id := 45) [.q 0, .q 1, .c 2, .q 3, .q 4] mixed (by kernel_rfl) (by kernel_rfl) ?_)
      | (apply GS_nil)
      | (apply GS_qon; eq_refl; eq_refl; eq_refl; eq_refl)
      | (apply GS_con; eq_refl; eq_refl; eq_refl; eq_refl)
      | (apply G_pv; eq_refl; first | exact trivial | omega)
      | (apply G_field; eq_refl)
      | (apply G_fieldP; eq_refl)
      | (apply G_ld; eq_refl; (repeat first | exact In.here | apply In.there | apply In.skip); eq_refl)
      | (apply G_ldW; eq_refl; (repeat first | exact In.here | apply In.there | apply In.skip); eq_refl)
      | (apply G_ldO; eq_refl; (repeat first | exact In.here | apply In.there | apply In.skip); assumption; eq_refl)
      | (apply G_ldR; eq_refl; (apply RdB.oldR; (repeat first | exact In.here | apply In.there | apply In.skip); assumption); eq_refl)
      | (apply G_ldOW; eq_refl; (repeat first | exact In.here | apply In.there | apply In.skip); assumption; eq_refl)
      | (apply G_rd; eq_refl; (first | (apply Rd.own; (repeat first | exact In.here | apply In.there | apply In.skip); infer_instance) | (apply Rd.old; (repeat first | exact In.here | apply In.there | apply In.skip); assumption) | (apply Rd.oldR; (repeat first | exact In.here | apply In.there | apply In.skip); assumption) | exact Rd.nil | assumption); (case ih => infer_instance); omega; omega; eq_refl)
      | (apply G_rdF; eq_refl; (first | (apply Rd.own; (repeat first | exact In.here | apply In.there | apply In.skip); infer_instance) | (apply Rd.old; (repeat first | exact In.here | apply In.there | apply In.skip); assumption) | (apply Rd.oldR; (repeat first | exact In.here | apply In.there | apply In.skip); assumption) | exact Rd.nil | assumption); (case ih => infer_instance); omega; omega; eq_refl)
      | (apply G_rdW; eq_refl; (first | (apply Rd.own; (repeat first | exact In.here | apply In.there | apply In.skip); infer_instance) | (apply Rd.old; (repeat first | exact In.here | apply In.there | apply In.skip); assumption) | (apply Rd.oldR; (repeat first | exact In.here | apply In.there | apply In.skip); assumption) | exact Rd.nil | assumption); infer_instance; (case ih => infer_instance); omega; omega)
      | (apply G_cmpT; eq_refl; eq_refl; omega)
      | (apply G_cmpF; eq_refl; eq_refl; omega)
      | (apply G_cmp; eq_refl; eq_refl; all_goals intro _)
      | (apply G_len; eq_refl)
      | (apply G_lenS; eq_refl)
      | (apply G_max; eq_refl; eq_refl)
      | (apply G_min; eq_refl; eq_refl)
      | (apply G_ix; eq_refl; eq_refl; (first | (apply Rd.own; (repeat first | exact In.here | apply In.there | apply In.skip); infer_instance) | (apply Rd.old; (repeat first | exact In.here | apply In.there | apply In.skip); assumption) | (apply Rd.oldR; (repeat first | exact In.here | apply In.there | apply In.skip); assumption) | exact Rd.nil | assumption); (first | eq_refl | omega); omega; omega)
      | (apply G_ixA; eq_refl; eq_refl; omega; omega)
      | (apply G_neqB; eq_refl; eq_refl)
      | (apply G_alloc; eq_refl; intro _)
      | (apply G_box; eq_refl; eq_refl; intro _)
      | (apply G_stV; (first | exact wr_p | kernel_rfl); eq_refl; eq_refl; eq_refl; eq_refl; (repeat first | exact Upd.here | apply Upd.there | apply Upd.skip); infer_instance; infer_instance; eq_refl; omega; (try simp only [List.length_set, List.length_append, List.length_replicate]); omega)
      | (apply G_st; (first | exact wr_p | kernel_rfl); eq_refl; eq_refl; eq_refl; eq_refl; (repeat first | exact Upd.here | apply Upd.there | apply Upd.skip); (first | decide | exact Nat.le_of_ble_eq_true rfl))
      | (apply G_stW; (first | exact wr_p | kernel_rfl); eq_refl; eq_refl; eq_refl; eq_refl; (repeat first | exact Upd.here | apply Upd.there | apply Upd.skip); eq_refl)
      | (apply G_make booc; eq_refl; eq_refl; eq_refl; omega; decide; intro _)
      | (apply G_makeI booc; eq_refl; eq_refl; omega; eq_refl; omega; decide; intro _)
      | (apply G_makeI icell; eq_refl; eq_refl; omega; eq_refl; omega; decide; intro _)
      | (apply G_make icell; eq_refl; eq_refl; eq_refl; omega; decide; intro _)
      | (apply G_fun; eq_refl)
      | (apply GX_pure; apply build51_)
      | (apply GX_pure; apply build70_0_1_2 <;> eq_refl)
      | (apply GX_pure; apply build43_0_1_2 <;> eq_refl))
  exact ⟨[], (by repeat first | exact Wk.nil | exact Wk.refl | (apply Wk.cons; (focus ((repeat first | exact Rem.here | apply Rem.there | apply Rem.skip); done))) | apply Wk.nilv | apply Wk.last | apply Wk.drop), .inl ⟨he, rfl, rfl⟩⟩
theorem RenumberG {w : World} {c : Circ} {h js : Hd} (H : CirIn w c h js) : CVN Try.prog 37 [.agg (ccells c h).toArray] w (RenR c) := by
  by_cases he : (lookM c).2 = 0
  · exact renumber_ok H he
  · exact renumber_no H he
end SC
end Go.Proofs.Ytkndegjodnciaaa
end
section
/- trestlelaw07: SimNumbers: the walk. -/
set_option linter.unusedVariables false
set_option linter.unusedSimpArgs false
namespace Go.Proofs.Ytkndegjodnciaaa
namespace SC
open Go.Proofs
theorem Rd.ren {Γ : Mm} {base : Nat} {c : Circ} {h js : Hd} {A : Option Addr} {k : Nat} (hi : In Γ (.any (renX base c h js A k))) : Rd Γ icell 1 A (toM c) := fun w M => RowA.own ilen (hi.ok M).2
theorem In.ren {Γ : Mm} {w w0 : World} {base : Nat} {c : Circ} {h js h' js' : Hd} {A : Option Addr} {k : Nat} (H : CirIn w0 c h js) (he : (lookM c).2 = 0) (hi : In Γ (.any (renX base c h' js' A k))) (M : Mem w Γ) : CirIn w (renC c) h' js' := by
  have R := right_of H.at_ H.sane he
  exact ⟨CirOwn.at (hi.ok M).1, R.ren_sane H.sane, R.ren_okay H.okay, R.ren_fits H.fits⟩
attribute [local irreducible] WC WL WX WS WO OX Does DoesU Enters CV Pure thenQ blockQ retQ Wants retQC GC GL GS GX RdB thenG blockG retG Rd At gt CVN CVM
attribute [local irreducible] fam bun renX
set_option maxRecDepth 100000
end SC
end Go.Proofs.Ytkndegjodnciaaa
end
section
/- slices.Equal, slices.EqualFunc; shape's Same. -/
set_option linter.unusedVariables false
set_option linter.unusedSimpArgs false
namespace Go.Proofs.Ytkndegjodnciaaa
namespace SC
open Go.Proofs
attribute [local irreducible] WC WL WX WS WO OX Does DoesU Enters CV Pure thenQ blockQ retQ Wants retQC
set_option maxRecDepth 100000
theorem equalInts_cv {w : World} {A B : Option Addr} {c d : Nat} {l m : List Int} (R : RowA w icell 1 A l) (R' : RowA w icell 1 B m) (hl : l.length ≤ 9223372036854775807) (hm : m.length ≤ 9223372036854775807) :
    CV Try.prog 96 [.slice A l.length c, .slice B m.length d] w fun v w' => v = .bool (decide (l = m)) ∧ Chg w w' none_ := by
  refine enter 26 [4] Try.func96 rfl rfl rfl (by decide) rfl ?_
  by_cases hlm : l.length = m.length
  · have e : (m.length : Int) = l.length := by omega
    repeat' (first
      | (apply WC_seqK; intro K hK)
      | (apply hK; clear hK)
      | (apply WC_block)
      | (apply WC_region)
      | (apply WL_nil)
      | (apply thenQ_normal)
      | (apply WC_skip)
      | (apply WC_if_false; eq_refl)
      | (apply WL_on0; eq_refl)
      | (apply X_pv; eq_refl; first | exact trivial | omega)
      | (apply X_cmpF; eq_refl; eq_refl; omega)
      | (apply X_len; eq_refl))
    refine WC_loop (fun i : Nat => [(0, .slice A l.length c), (1, .slice B m.length d), (12, nu l.length), (13, nu i)]) (fun i W => Chg w W none_ ∧ i ≤ l.length ∧ l.take i = m.take i) (fun i => l.length - i) 0 ⟨rfl, rfl, rfl, rfl, trivial⟩ ⟨Chg.refl _ _, Nat.zero_le _, by simp⟩ ?_
    rintro i w1 ⟨hC1, hi, heq⟩
    rcases Nat.lt_or_ge i l.length with hlt | hge
    · have hltm : i < m.length := by omega
      obtain ⟨p, hp, hpc⟩ := (R.chg hC1).one hlt (v := nu l[i]) rfl
      obtain ⟨q, hq, hqc⟩ := (R'.chg hC1).one hltm (v := nu m[i]) rfl
      have h1 := List.take_succ_eq_append_getElem hlt
      have h2 := List.take_succ_eq_append_getElem hltm
      rw [hp, hq]
      generalize hx : l[i] = x at *
      generalize hy : m[i] = y at *
      repeat' (first
      | (apply WC_seqK; intro K hK)
      | (apply hK; clear hK)
      | (apply WC_block)
      | (apply WC_region)
      | (apply WL_nil)
      | (apply thenQ_normal)
      | (apply WC_skip)
      | (apply WC_if_true; eq_refl)
      | (apply WL_on0; eq_refl)
      | (apply X_pv; eq_refl; first | exact trivial | omega)
      | (apply X_cmpT; eq_refl; eq_refl; omega))
      refine WC_draws [(0, true), (1, true), (2, true), (3, true), (4, true), (5, true), (6, true), (7, true), (8, true)] (fun W => W.cell? (p.add ((i : Int).toNat * 1)) = some (nu x) ∧ W.cell? (q.add ((i : Int).toNat * 1)) = some (nu y)) mixed (by kernel_rfl) (by kernel_rfl) ?_
      have hS : w1.drew.cell? (p.add ((i : Int).toNat * 1)) = some (nu x) ∧ w1.drew.cell? (q.add ((i : Int).toNat * 1)) = some (nu y) := ⟨hpc, hqc⟩
      repeat' (first
      | (apply WC_seqK; intro K hK)
      | (apply hK; clear hK)
      | (apply WC_region)
      | (apply WL_nil)
      | (apply thenQ_normal)
      | (apply thenQ_ret)
      | (apply blockQ_ret)
      | (apply blockQ_normal)
      | (apply WC_ret)
      | (apply WC_skip)
      | (apply WC_if_true; eq_refl)
      | (apply WC_if_false; eq_refl)
      | (apply ret1; eq_refl)
      | (apply WS_nil)
      | (apply WS_next; eq_refl)
      | (apply WO_on0; eq_refl)
      | (apply O_pv; eq_refl; (first | exact trivial | omega); (first | assumption | exact trivial))
      | (apply O_loadC; eq_refl; (first | (intro _ h; exact h) | (intro _ h; exact h.1) | (intro _ h; exact h.2) | (intro _ h; exact h.2.1) | (intro _ h; exact h.2.2) | (intro _ h; exact h.2.2.1) | (intro _ h; exact h.2.2.2)); (first | assumption | exact trivial))
      | (apply O_cmp; eq_refl; eq_refl; (first | assumption | exact trivial); all_goals intro _)
      | (apply O_indexP; eq_refl; eq_refl; omega; omega; (first | assumption | exact trivial))
      | (apply WL_on0; eq_refl)
      | (apply X_pv; eq_refl; first | exact trivial | omega))
      · have e2 : decide (l = m) = false := decide_eq_false fun h => by
          have hxy : x = y := by rw [← hx, ← hy]; simp only [h]
          contradiction
        rw [e2]
        exact ⟨rfl, hC1.dr⟩
      · refine ⟨i + 1, ⟨by first | rfl | (rw [hp]; rfl), by first | rfl | (rw [hq]; rfl), rfl, rfl, trivial⟩, ⟨hC1.dr, hlt, ?_⟩, by omega⟩
        have hxy : x = y := by first | assumption | omega
        rw [h1, h2, heq, hxy]
    · repeat' (first
      | (apply WC_seqK; intro K hK)
      | (apply hK; clear hK)
      | (clear hK; apply hK; clear hK)
      | (apply WC_region)
      | (apply WL_nil)
      | (apply thenQ_normal)
      | (apply thenQ_exit)
      | (apply blockQ_hit)
      | (apply WC_ret)
      | (apply WC_exit)
      | (apply WC_if_false; eq_refl)
      | (apply ret1; eq_refl)
      | (apply WL_on0; eq_refl)
      | (apply X_pv; eq_refl; first | exact trivial | omega)
      | (apply X_cmpF; eq_refl; eq_refl; omega))
      rw [List.take_of_length_le (by omega), List.take_of_length_le (by omega)] at heq
      rw [heq]
      exact ⟨by simp, hC1⟩
  · have e : decide (l = m) = false := decide_eq_false fun h => hlm (by rw [h])
    rw [e]
    repeat' (first
      | (apply WC_seqK; intro K hK)
      | (apply hK; clear hK)
      | (apply WC_region)
      | (apply WL_nil)
      | (apply thenQ_normal)
      | (apply thenQ_ret)
      | (apply WC_ret)
      | (apply WC_if_true; eq_refl)
      | (apply ret1; eq_refl)
      | (apply WL_on0; eq_refl)
      | (apply X_pv; eq_refl; first | exact trivial | omega)
      | (apply X_cmpT; eq_refl; eq_refl; omega)
      | (apply X_len; eq_refl))
    exact ⟨rfl, Chg.refl _ _⟩
theorem equalLatches_cv {w : World} {A B : Option Addr} {c d : Nat} {l m : List Tri} (R : RowA w tcells 3 A l) (R' : RowA w tcells 3 B m) (hl : l.length ≤ 9223372036854775807) (hm : m.length ≤ 9223372036854775807) (hf : ∀ x ∈ l, TriFits x) (hf' : ∀ x ∈ m, TriFits x) :
    CV Try.prog 97 [.slice A l.length c, .slice B m.length d] w fun v w' => v = .bool (decide (l = m)) ∧ Chg w w' none_ := by
  refine enter 26 [4] Try.func97 rfl rfl rfl (by decide) rfl ?_
  by_cases hlm : l.length = m.length
  · have e : (m.length : Int) = l.length := by omega
    repeat' (first
      | (apply WC_seqK; intro K hK)
      | (apply hK; clear hK)
      | (apply WC_block)
      | (apply WC_region)
      | (apply WL_nil)
      | (apply thenQ_normal)
      | (apply WC_skip)
      | (apply WC_if_false; eq_refl)
      | (apply WL_on0; eq_refl)
      | (apply X_pv; eq_refl; first | exact trivial | omega)
      | (apply X_cmpF; eq_refl; eq_refl; omega)
      | (apply X_len; eq_refl))
    refine WC_loop (fun i : Nat => [(0, .slice A l.length c), (1, .slice B m.length d), (12, nu l.length), (13, nu i)]) (fun i W => Chg w W none_ ∧ i ≤ l.length ∧ l.take i = m.take i) (fun i => l.length - i) 0 ⟨rfl, rfl, rfl, rfl, trivial⟩ ⟨Chg.refl _ _, Nat.zero_le _, by simp⟩ ?_
    rintro i w1 ⟨hC1, hi, heq⟩
    rcases Nat.lt_or_ge i l.length with hlt | hge
    · have hltm : i < m.length := by omega
      obtain ⟨p, hp, hpc⟩ := (R.chg hC1) i hlt
      obtain ⟨q, hq, hqc⟩ := (R'.chg hC1) i hltm
      have h1 := List.take_succ_eq_append_getElem hlt
      have h2 := List.take_succ_eq_append_getElem hltm
      have hfx := hf _ (List.getElem_mem hlt)
      have hfy := hf' _ (List.getElem_mem hltm)
      rw [hp, hq]
      generalize hx : l[i] = x at *
      generalize hy : m[i] = y at *
      have hne := run_neq70 hfx hfy
      repeat' (first
      | (apply WC_seqK; intro K hK)
      | (apply hK; clear hK)
      | (apply WC_block)
      | (apply WC_region)
      | (apply WL_nil)
      | (apply thenQ_normal)
      | (apply WC_skip)
      | (apply WC_if_true; eq_refl)
      | (apply WL_on0; eq_refl)
      | (apply X_pv; eq_refl; first | exact trivial | omega)
      | (apply X_cmpT; eq_refl; eq_refl; omega))
      refine WC_draws [(0, true), (1, true), (2, true), (3, true), (4, true), (5, true), (6, true), (7, true), (8, true)] (fun W => (∀ j u, (tcells x)[j]? = some u → W.cell? ((p.add ((i : Int).toNat * 3)).add j) = some u) ∧ (∀ j u, (tcells y)[j]? = some u → W.cell? ((q.add ((i : Int).toNat * 3)).add j) = some u)) mixed (by kernel_rfl) (by kernel_rfl) ?_
      have hS : (∀ j u, (tcells x)[j]? = some u → w1.drew.cell? ((p.add ((i : Int).toNat * 3)).add j) = some u) ∧ (∀ j u, (tcells y)[j]? = some u → w1.drew.cell? ((q.add ((i : Int).toNat * 3)).add j) = some u) := ⟨hpc, hqc⟩
      repeat' (first
      | (apply O_loadAP (tcells x); eq_refl; eq_refl; (intro _ h; exact h.1); assumption)
      | (apply O_loadAP (tcells y); eq_refl; eq_refl; (intro _ h; exact h.2); assumption)
      | (apply O_neqV guard70 hne; eq_refl; eq_refl; assumption; all_goals intro _)
      | (apply WC_seqK; intro K hK)
      | (apply hK; clear hK)
      | (apply WC_region)
      | (apply WL_nil)
      | (apply thenQ_normal)
      | (apply thenQ_ret)
      | (apply blockQ_ret)
      | (apply blockQ_normal)
      | (apply WC_ret)
      | (apply WC_skip)
      | (apply WC_if_true; eq_refl)
      | (apply WC_if_false; eq_refl)
      | (apply ret1; eq_refl)
      | (apply WS_nil)
      | (apply WS_next; eq_refl)
      | (apply WO_on0; eq_refl)
      | (apply O_pv; eq_refl; (first | exact trivial | omega); (first | assumption | exact trivial))
      | (apply O_indexP; eq_refl; eq_refl; omega; omega; (first | assumption | exact trivial))
      | (apply WL_on0; eq_refl)
      | (apply X_pv; eq_refl; first | exact trivial | omega))
      · have e2 : decide (l = m) = false := decide_eq_false fun h => by
          have hxy : x = y := by rw [← hx, ← hy]; simp only [h]
          contradiction
        rw [e2]
        exact ⟨rfl, hC1.dr⟩
      · refine ⟨i + 1, ⟨by first | rfl | (rw [hp]; rfl), by first | rfl | (rw [hq]; rfl), rfl, rfl, trivial⟩, ⟨hC1.dr, hlt, ?_⟩, by omega⟩
        have hxy : x = y := by assumption
        rw [h1, h2, heq, hxy]
    · repeat' (first
      | (apply WC_seqK; intro K hK)
      | (apply hK; clear hK)
      | (clear hK; apply hK; clear hK)
      | (apply WC_region)
      | (apply WL_nil)
      | (apply thenQ_normal)
      | (apply thenQ_exit)
      | (apply blockQ_hit)
      | (apply WC_ret)
      | (apply WC_exit)
      | (apply WC_if_false; eq_refl)
      | (apply ret1; eq_refl)
      | (apply WL_on0; eq_refl)
      | (apply X_pv; eq_refl; first | exact trivial | omega)
      | (apply X_cmpF; eq_refl; eq_refl; omega))
      rw [List.take_of_length_le (by omega), List.take_of_length_le (by omega)] at heq
      rw [heq]
      exact ⟨by simp, hC1⟩
  · have e : decide (l = m) = false := decide_eq_false fun h => hlm (by rw [h])
    rw [e]
    repeat' (first
      | (apply WC_seqK; intro K hK)
      | (apply hK; clear hK)
      | (apply WC_region)
      | (apply WL_nil)
      | (apply thenQ_normal)
      | (apply thenQ_ret)
      | (apply WC_ret)
      | (apply WC_if_true; eq_refl)
      | (apply ret1; eq_refl)
      | (apply WL_on0; eq_refl)
      | (apply X_pv; eq_refl; first | exact trivial | omega)
      | (apply X_cmpT; eq_refl; eq_refl; omega)
      | (apply X_len; eq_refl))
    exact ⟨rfl, Chg.refl _ _⟩
theorem equalAnds_cv {w : World} {A B : Option Addr} {c d : Nat} {l m : List Tri} (R : RowA w tcells 3 A l) (R' : RowA w tcells 3 B m) (hl : l.length ≤ 9223372036854775807) (hm : m.length ≤ 9223372036854775807) (hf : ∀ x ∈ l, TriFits x) (hf' : ∀ x ∈ m, TriFits x) :
    CV Try.prog 98 [.slice A l.length c, .slice B m.length d] w fun v w' => v = .bool (decide (l = m)) ∧ Chg w w' none_ := by
  refine enter 26 [4] Try.func98 rfl rfl rfl (by decide) rfl ?_
  by_cases hlm : l.length = m.length
  · have e : (m.length : Int) = l.length := by omega
    repeat' (first
      | (apply WC_seqK; intro K hK)
      | (apply hK; clear hK)
      | (apply WC_block)
      | (apply WC_region)
      | (apply WL_nil)
      | (apply thenQ_normal)
      | (apply WC_skip)
      | (apply WC_if_false; eq_refl)
      | (apply WL_on0; eq_refl)
      | (apply X_pv; eq_refl; first | exact trivial | omega)
      | (apply X_cmpF; eq_refl; eq_refl; omega)
      | (apply X_len; eq_refl))
    refine WC_loop (fun i : Nat => [(0, .slice A l.length c), (1, .slice B m.length d), (12, nu l.length), (13, nu i)]) (fun i W => Chg w W none_ ∧ i ≤ l.length ∧ l.take i = m.take i) (fun i => l.length - i) 0 ⟨rfl, rfl, rfl, rfl, trivial⟩ ⟨Chg.refl _ _, Nat.zero_le _, by simp⟩ ?_
    rintro i w1 ⟨hC1, hi, heq⟩
    rcases Nat.lt_or_ge i l.length with hlt | hge
    · have hltm : i < m.length := by omega
      obtain ⟨p, hp, hpc⟩ := (R.chg hC1) i hlt
      obtain ⟨q, hq, hqc⟩ := (R'.chg hC1) i hltm
      have h1 := List.take_succ_eq_append_getElem hlt
      have h2 := List.take_succ_eq_append_getElem hltm
      have hfx := hf _ (List.getElem_mem hlt)
      have hfy := hf' _ (List.getElem_mem hltm)
      rw [hp, hq]
      generalize hx : l[i] = x at *
      generalize hy : m[i] = y at *
      have hne := run_neq43 hfx hfy
      repeat' (first
      | (apply WC_seqK; intro K hK)
      | (apply hK; clear hK)
      | (apply WC_block)
      | (apply WC_region)
      | (apply WL_nil)
      | (apply thenQ_normal)
      | (apply WC_skip)
      | (apply WC_if_true; eq_refl)
      | (apply WL_on0; eq_refl)
      | (apply X_pv; eq_refl; first | exact trivial | omega)
      | (apply X_cmpT; eq_refl; eq_refl; omega))
      refine WC_draws [(0, true), (1, true), (2, true), (3, true), (4, true), (5, true), (6, true), (7, true), (8, true)] (fun W => (∀ j u, (tcells x)[j]? = some u → W.cell? ((p.add ((i : Int).toNat * 3)).add j) = some u) ∧ (∀ j u, (tcells y)[j]? = some u → W.cell? ((q.add ((i : Int).toNat * 3)).add j) = some u)) mixed (by kernel_rfl) (by kernel_rfl) ?_
      have hS : (∀ j u, (tcells x)[j]? = some u → w1.drew.cell? ((p.add ((i : Int).toNat * 3)).add j) = some u) ∧ (∀ j u, (tcells y)[j]? = some u → w1.drew.cell? ((q.add ((i : Int).toNat * 3)).add j) = some u) := ⟨hpc, hqc⟩
      repeat' (first
      | (apply O_loadAP (tcells x); eq_refl; eq_refl; (intro _ h; exact h.1); assumption)
      | (apply O_loadAP (tcells y); eq_refl; eq_refl; (intro _ h; exact h.2); assumption)
      | (apply O_neqV guard43 hne; eq_refl; eq_refl; assumption; all_goals intro _)
      | (apply WC_seqK; intro K hK)
      | (apply hK; clear hK)
      | (apply WC_region)
      | (apply WL_nil)
      | (apply thenQ_normal)
      | (apply thenQ_ret)
      | (apply blockQ_ret)
      | (apply blockQ_normal)
      | (apply WC_ret)
      | (apply WC_skip)
      | (apply WC_if_true; eq_refl)
      | (apply WC_if_false; eq_refl)
      | (apply ret1; eq_refl)
      | (apply WS_nil)
      | (apply WS_next; eq_refl)
      | (apply WO_on0; eq_refl)
      | (apply O_pv; eq_refl; (first | exact trivial | omega); (first | assumption | exact trivial))
      | (apply O_indexP; eq_refl; eq_refl; omega; omega; (first | assumption | exact trivial))
      | (apply WL_on0; eq_refl)
      | (apply X_pv; eq_refl; first | exact trivial | omega))
      · have e2 : decide (l = m) = false := decide_eq_false fun h => by
          have hxy : x = y := by rw [← hx, ← hy]; simp only [h]
          contradiction
        rw [e2]
        exact ⟨rfl, hC1.dr⟩
      · refine ⟨i + 1, ⟨by first | rfl | (rw [hp]; rfl), by first | rfl | (rw [hq]; rfl), rfl, rfl, trivial⟩, ⟨hC1.dr, hlt, ?_⟩, by omega⟩
        have hxy : x = y := by assumption
        rw [h1, h2, heq, hxy]
    · repeat' (first
      | (apply WC_seqK; intro K hK)
      | (apply hK; clear hK)
      | (clear hK; apply hK; clear hK)
      | (apply WC_region)
      | (apply WL_nil)
      | (apply thenQ_normal)
      | (apply thenQ_exit)
      | (apply blockQ_hit)
      | (apply WC_ret)
      | (apply WC_exit)
      | (apply WC_if_false; eq_refl)
      | (apply ret1; eq_refl)
      | (apply WL_on0; eq_refl)
      | (apply X_pv; eq_refl; first | exact trivial | omega)
      | (apply X_cmpF; eq_refl; eq_refl; omega))
      rw [List.take_of_length_le (by omega), List.take_of_length_le (by omega)] at heq
      rw [heq]
      exact ⟨by simp, hC1⟩
  · have e : decide (l = m) = false := decide_eq_false fun h => hlm (by rw [h])
    rw [e]
    repeat' (first
      | (apply WC_seqK; intro K hK)
      | (apply hK; clear hK)
      | (apply WC_region)
      | (apply WL_nil)
      | (apply thenQ_normal)
      | (apply thenQ_ret)
      | (apply WC_ret)
      | (apply WC_if_true; eq_refl)
      | (apply ret1; eq_refl)
      | (apply WL_on0; eq_refl)
      | (apply X_pv; eq_refl; first | exact trivial | omega)
      | (apply X_cmpT; eq_refl; eq_refl; omega)
      | (apply X_len; eq_refl))
    exact ⟨rfl, Chg.refl _ _⟩
theorem equalSymbols_cv {w : World} {A B : Option Addr} {c d : Nat} {l m : List Sym} (R : RowA w scells 3 A l) (R' : RowA w scells 3 B m) (hl : l.length ≤ 9223372036854775807) (hm : m.length ≤ 9223372036854775807) (hf : ∀ x ∈ l, SymFits x) (hf' : ∀ x ∈ m, SymFits x) :
    CV Try.prog 99 [.slice A l.length c, .slice B m.length d] w fun v w' => ∃ b, v = .bool b ∧ (b = true ↔ l = m) ∧ Chg w w' none_ := by
  refine enter 26 [4] Try.func99 rfl rfl rfl (by decide) rfl ?_
  by_cases hlm : l.length = m.length
  · have e : (m.length : Int) = l.length := by omega
    repeat' (first
      | (apply WC_seqK; intro K hK)
      | (apply hK; clear hK)
      | (apply WC_block)
      | (apply WC_region)
      | (apply WL_nil)
      | (apply thenQ_normal)
      | (apply WC_skip)
      | (apply WC_if_false; eq_refl)
      | (apply WL_on0; eq_refl)
      | (apply X_pv; eq_refl; first | exact trivial | omega)
      | (apply X_cmpF; eq_refl; eq_refl; omega)
      | (apply X_len; eq_refl))
    refine WC_loop (fun i : Nat => [(0, .slice A l.length c), (1, .slice B m.length d), (12, nu l.length), (13, nu i)]) (fun i W => Chg w W none_ ∧ i ≤ l.length ∧ l.take i = m.take i) (fun i => l.length - i) 0 ⟨rfl, rfl, rfl, rfl, trivial⟩ ⟨Chg.refl _ _, Nat.zero_le _, by simp⟩ ?_
    rintro i w1 ⟨hC1, hi, heq⟩
    rcases Nat.lt_or_ge i l.length with hlt | hge
    · have hltm : i < m.length := by omega
      obtain ⟨p, hp, hpc⟩ := (R.chg hC1) i hlt
      obtain ⟨q, hq, hqc⟩ := (R'.chg hC1) i hltm
      have h1 := List.take_succ_eq_append_getElem hlt
      have h2 := List.take_succ_eq_append_getElem hltm
      have hfx := hf _ (List.getElem_mem hlt)
      have hfy := hf' _ (List.getElem_mem hltm)
      rw [hp, hq]
      generalize hx : l[i] = x at *
      generalize hy : m[i] = y at *
      repeat' (first
      | (apply WC_seqK; intro K hK)
      | (apply hK; clear hK)
      | (apply WC_block)
      | (apply WC_region)
      | (apply WL_nil)
      | (apply thenQ_normal)
      | (apply WC_skip)
      | (apply WC_if_true; eq_refl)
      | (apply WL_on0; eq_refl)
      | (apply X_pv; eq_refl; first | exact trivial | omega)
      | (apply X_cmpT; eq_refl; eq_refl; omega))
      refine WC_draws [(0, true), (1, true), (2, true), (3, true), (4, true), (5, true), (6, true), (7, true), (8, true)] (fun W => (∀ j u, (scells x)[j]? = some u → W.cell? ((p.add ((i : Int).toNat * 3)).add j) = some u) ∧ (∀ j u, (scells y)[j]? = some u → W.cell? ((q.add ((i : Int).toNat * 3)).add j) = some u)) mixed (by kernel_rfl) (by kernel_rfl) ?_
      have hS : (∀ j u, (scells x)[j]? = some u → w1.drew.cell? ((p.add ((i : Int).toNat * 3)).add j) = some u) ∧ (∀ j u, (scells y)[j]? = some u → w1.drew.cell? ((q.add ((i : Int).toNat * 3)).add j) = some u) := ⟨hpc, hqc⟩
      repeat' (first
      | (apply O_loadAP (scells x); eq_refl; eq_refl; (intro _ h; exact h.1); assumption)
      | (apply O_loadAP (scells y); eq_refl; eq_refl; (intro _ h; exact h.2); assumption)
      | (apply O_neqV guard117 (run_neq117 hfx hfy); eq_refl; eq_refl; assumption; all_goals intro _)
      | (apply WC_seqK; intro K hK)
      | (apply hK; clear hK)
      | (apply WC_region)
      | (apply WL_nil)
      | (apply thenQ_normal)
      | (apply thenQ_ret)
      | (apply blockQ_ret)
      | (apply blockQ_normal)
      | (apply WC_ret)
      | (apply WC_skip)
      | (apply WC_if_true; eq_refl)
      | (apply WC_if_false; eq_refl)
      | (apply ret1; eq_refl)
      | (apply WS_nil)
      | (apply WS_next; eq_refl)
      | (apply WO_on0; eq_refl)
      | (apply O_pv; eq_refl; (first | exact trivial | omega); (first | assumption | exact trivial))
      | (apply O_indexP; eq_refl; eq_refl; omega; omega; (first | assumption | exact trivial))
      | (apply WL_on0; eq_refl)
      | (apply X_pv; eq_refl; first | exact trivial | omega))
      · refine ⟨false, rfl, ?_, hC1.dr⟩
        constructor
        · intro h; cases h
        · intro h
          have hxy : x = y := by rw [← hx, ← hy]; simp only [h]
          contradiction
      · refine ⟨i + 1, ⟨by first | rfl | (rw [hp]; rfl), by first | rfl | (rw [hq]; rfl), rfl, rfl, trivial⟩, ⟨hC1.dr, hlt, ?_⟩, by omega⟩
        have hxy : x = y := by assumption
        rw [h1, h2, heq, hxy]
    · repeat' (first
      | (apply WC_seqK; intro K hK)
      | (apply hK; clear hK)
      | (clear hK; apply hK; clear hK)
      | (apply WC_region)
      | (apply WL_nil)
      | (apply thenQ_normal)
      | (apply thenQ_exit)
      | (apply blockQ_hit)
      | (apply WC_ret)
      | (apply WC_exit)
      | (apply WC_if_false; eq_refl)
      | (apply ret1; eq_refl)
      | (apply WL_on0; eq_refl)
      | (apply X_pv; eq_refl; first | exact trivial | omega)
      | (apply X_cmpF; eq_refl; eq_refl; omega))
      rw [List.take_of_length_le (by omega), List.take_of_length_le (by omega)] at heq
      exact ⟨true, rfl, ⟨fun _ => heq, fun _ => rfl⟩, hC1⟩
  · repeat' (first
      | (apply WC_seqK; intro K hK)
      | (apply hK; clear hK)
      | (apply WC_region)
      | (apply WL_nil)
      | (apply thenQ_normal)
      | (apply thenQ_ret)
      | (apply WC_ret)
      | (apply WC_if_true; eq_refl)
      | (apply ret1; eq_refl)
      | (apply WL_on0; eq_refl)
      | (apply X_pv; eq_refl; first | exact trivial | omega)
      | (apply X_cmpT; eq_refl; eq_refl; omega)
      | (apply X_len; eq_refl))
    refine ⟨false, rfl, ⟨fun h => (by cases h), fun h => absurd (by rw [h]) hlm⟩, Chg.refl _ _⟩
theorem equalTexts_cv {w : World} {A B : Option Addr} {c d : Nat} {l m : List ByteArray} (R : RowA w bcell 1 A l) (R' : RowA w bcell 1 B m) (hl : l.length ≤ 9223372036854775807) (hm : m.length ≤ 9223372036854775807) :
    CV Try.prog 100 [.slice A l.length c, .slice B m.length d] w fun v w' => ∃ b, v = .bool b ∧ (b = true ↔ l = m) ∧ Chg w w' none_ := by
  refine enter 26 [4] Try.func100 rfl rfl rfl (by decide) rfl ?_
  by_cases hlm : l.length = m.length
  · have e : (m.length : Int) = l.length := by omega
    repeat' (first
      | (apply WC_seqK; intro K hK)
      | (apply hK; clear hK)
      | (apply WC_block)
      | (apply WC_region)
      | (apply WL_nil)
      | (apply thenQ_normal)
      | (apply WC_skip)
      | (apply WC_if_false; eq_refl)
      | (apply WL_on0; eq_refl)
      | (apply X_pv; eq_refl; first | exact trivial | omega)
      | (apply X_cmpF; eq_refl; eq_refl; omega)
      | (apply X_len; eq_refl))
    refine WC_loop (fun i : Nat => [(0, .slice A l.length c), (1, .slice B m.length d), (12, nu l.length), (13, nu i)]) (fun i W => Chg w W none_ ∧ i ≤ l.length ∧ l.take i = m.take i) (fun i => l.length - i) 0 ⟨rfl, rfl, rfl, rfl, trivial⟩ ⟨Chg.refl _ _, Nat.zero_le _, by simp⟩ ?_
    rintro i w1 ⟨hC1, hi, heq⟩
    rcases Nat.lt_or_ge i l.length with hlt | hge
    · have hltm : i < m.length := by omega
      obtain ⟨p, hp, hpc⟩ := (R.chg hC1) i hlt
      obtain ⟨q, hq, hqc⟩ := (R'.chg hC1) i hltm
      have h1 := List.take_succ_eq_append_getElem hlt
      have h2 := List.take_succ_eq_append_getElem hltm
      rw [hp, hq]
      generalize hx : l[i] = x at *
      generalize hy : m[i] = y at *
      repeat' (first
      | (apply WC_seqK; intro K hK)
      | (apply hK; clear hK)
      | (apply WC_block)
      | (apply WC_region)
      | (apply WL_nil)
      | (apply thenQ_normal)
      | (apply WC_skip)
      | (apply WC_if_true; eq_refl)
      | (apply WL_on0; eq_refl)
      | (apply X_pv; eq_refl; first | exact trivial | omega)
      | (apply X_cmpT; eq_refl; eq_refl; omega))
      refine WC_draws [(0, true), (1, true), (2, true), (3, true), (4, true), (5, true), (6, true), (7, true), (8, true)] (fun W => W.cell? (p.add ((i : Int).toNat * 1)) = some (.string x) ∧ W.cell? (q.add ((i : Int).toNat * 1)) = some (.string y)) mixed (by kernel_rfl) (by kernel_rfl) ?_
      have hS : w1.drew.cell? (p.add ((i : Int).toNat * 1)) = some (.string x) ∧ w1.drew.cell? (q.add ((i : Int).toNat * 1)) = some (.string y) := ⟨hpc 0 (.string x) rfl, hqc 0 (.string y) rfl⟩
      repeat' (first
      | (apply O_neqS; eq_refl; eq_refl; assumption; all_goals intro _)
      | (apply WC_seqK; intro K hK)
      | (apply hK; clear hK)
      | (apply WC_region)
      | (apply WL_nil)
      | (apply thenQ_normal)
      | (apply thenQ_ret)
      | (apply blockQ_ret)
      | (apply blockQ_normal)
      | (apply WC_ret)
      | (apply WC_skip)
      | (apply WC_if_true; eq_refl)
      | (apply WC_if_false; eq_refl)
      | (apply ret1; eq_refl)
      | (apply WS_nil)
      | (apply WS_next; eq_refl)
      | (apply WO_on0; eq_refl)
      | (apply O_pv; eq_refl; (first | exact trivial | omega); (first | assumption | exact trivial))
      | (apply O_loadC; eq_refl; (first | (intro _ h; exact h) | (intro _ h; exact h.1) | (intro _ h; exact h.2) | (intro _ h; exact h.2.1) | (intro _ h; exact h.2.2) | (intro _ h; exact h.2.2.1) | (intro _ h; exact h.2.2.2)); (first | assumption | exact trivial))
      | (apply O_indexP; eq_refl; eq_refl; omega; omega; (first | assumption | exact trivial))
      | (apply WL_on0; eq_refl)
      | (apply X_pv; eq_refl; first | exact trivial | omega))
      · refine ⟨false, rfl, ?_, hC1.dr⟩
        constructor
        · intro h; cases h
        · intro h
          have hxy : x = y := by rw [← hx, ← hy]; simp only [h]
          contradiction
      · refine ⟨i + 1, ⟨by first | rfl | (rw [hp]; rfl), by first | rfl | (rw [hq]; rfl), rfl, rfl, trivial⟩, ⟨hC1.dr, hlt, ?_⟩, by omega⟩
        have hxy : x = y := by assumption
        rw [h1, h2, heq, hxy]
    · repeat' (first
      | (apply WC_seqK; intro K hK)
      | (apply hK; clear hK)
      | (clear hK; apply hK; clear hK)
      | (apply WC_region)
      | (apply WL_nil)
      | (apply thenQ_normal)
      | (apply thenQ_exit)
      | (apply blockQ_hit)
      | (apply WC_ret)
      | (apply WC_exit)
      | (apply WC_if_false; eq_refl)
      | (apply ret1; eq_refl)
      | (apply WL_on0; eq_refl)
      | (apply X_pv; eq_refl; first | exact trivial | omega)
      | (apply X_cmpF; eq_refl; eq_refl; omega))
      rw [List.take_of_length_le (by omega), List.take_of_length_le (by omega)] at heq
      exact ⟨true, rfl, ⟨fun _ => heq, fun _ => rfl⟩, hC1⟩
  · repeat' (first
      | (apply WC_seqK; intro K hK)
      | (apply hK; clear hK)
      | (apply WC_region)
      | (apply WL_nil)
      | (apply thenQ_normal)
      | (apply thenQ_ret)
      | (apply WC_ret)
      | (apply WC_if_true; eq_refl)
      | (apply ret1; eq_refl)
      | (apply WL_on0; eq_refl)
      | (apply X_pv; eq_refl; first | exact trivial | omega)
      | (apply X_cmpT; eq_refl; eq_refl; omega)
      | (apply X_len; eq_refl))
    refine ⟨false, rfl, ⟨fun h => (by cases h), fun h => absurd (by rw [h]) hlm⟩, Chg.refl _ _⟩
end SC
end Go.Proofs.Ytkndegjodnciaaa
end
section
/- slices.EqualFunc at lists of lists; shape's Same. -/
set_option linter.unusedVariables false
set_option linter.unusedSimpArgs false
namespace Go.Proofs.Ytkndegjodnciaaa
namespace SC
open Go.Proofs
attribute [local irreducible] WC WL WX WS WO OX Does DoesU Enters CV Pure thenQ blockQ retQ Wants retQC
set_option maxRecDepth 100000
theorem equalLists_cv {w : World} {A B : Option Addr} {c d : Nat} {l m : List (List Int)} {js ks : Hd} (R : JusAt w A l js) (R' : JusAt w B m ks) (hl : l.length ≤ 9223372036854775807) (hm : m.length ≤ 9223372036854775807)
    (he : ∀ k (hk : k < l.length), RowA w icell 1 (js k).1 l[k]) (he' : ∀ k (hk : k < m.length), RowA w icell 1 (ks k).1 m[k]) (hb : ∀ x ∈ l, x.length ≤ 9223372036854775807) (hb' : ∀ x ∈ m, x.length ≤ 9223372036854775807) :
    CV Try.prog 95 [.slice A l.length c, .slice B m.length d, .func (.func 96) #[] #[]] w fun v w' => ∃ b, v = .bool b ∧ (b = true ↔ l = m) ∧ Chg w w' none_ := by
  refine enter 32 [6] Try.func95 rfl rfl rfl (by decide) rfl ?_
  by_cases hlm : l.length = m.length
  · have e : (m.length : Int) = l.length := by omega
    repeat' (first
      | (apply WC_seqK; intro K hK)
      | (apply hK; clear hK)
      | (apply WC_block)
      | (apply WC_region)
      | (apply WL_nil)
      | (apply thenQ_normal)
      | (apply WC_skip)
      | (apply WC_if_false; eq_refl)
      | (apply WL_on0; eq_refl)
      | (apply X_pv; eq_refl; first | exact trivial | omega)
      | (apply X_cmpF; eq_refl; eq_refl; omega)
      | (apply X_len; eq_refl))
    refine WC_loop (fun i : Nat => [(0, .slice A l.length c), (1, .slice B m.length d), (2, .func (.func 96) #[] #[]), (15, .slice A l.length c), (16, nu l.length), (17, nu i)]) (fun i W => Chg w W none_ ∧ i ≤ l.length ∧ l.take i = m.take i) (fun i => l.length - i) 0 ⟨rfl, rfl, rfl, rfl, rfl, rfl, trivial⟩ ⟨Chg.refl _ _, Nat.zero_le _, by simp⟩ ?_
    rintro i w1 ⟨hC1, hi, heq⟩
    rcases Nat.lt_or_ge i l.length with hlt | hge
    · have hltm : i < m.length := by omega
      obtain ⟨p, hp, hpc⟩ := R i hlt
      obtain ⟨q, hq, hqc⟩ := R' i hltm
      have h1 := List.take_succ_eq_append_getElem hlt
      have h2 := List.take_succ_eq_append_getElem hltm
      have hsi := equalInts_cv (c := (js i).2) (d := (ks i).2) ((he i hlt).chg hC1) ((he' i hltm).chg hC1) (hb _ (List.getElem_mem hlt)) (hb' _ (List.getElem_mem hltm))
      have hpc1 := cel_chg hpc hC1 id
      have hqc1 := cel_chg hqc hC1 id
      rw [hp, hq]
      generalize hx : l[i] = x at *
      generalize hy : m[i] = y at *
      by_cases hxy : x = y
      · rw [decide_eq_true hxy] at hsi
        repeat' (first
      | (apply X_clo (f := 96); eq_refl; eq_refl; exact hsi; rintro _ w3 ⟨rfl, hC3⟩)
      | (apply WC_seqK; intro K hK)
      | (apply hK; clear hK)
      | (apply WC_block)
      | (apply WC_region)
      | (apply WL_nil)
      | (apply thenQ_normal)
      | (apply blockQ_normal)
      | (apply WC_skip)
      | (apply WC_if_true; eq_refl)
      | (apply WC_if_false; eq_refl)
      | (apply WL_on0; eq_refl)
      | (apply X_pv; eq_refl; first | exact trivial | omega)
      | (apply X_loadC; eq_refl; (first | assumption | (apply cel; first | assumption | (apply cel; assumption))))
      | (apply X_cmpT; eq_refl; eq_refl; omega)
      | (apply X_indexP; eq_refl; eq_refl; omega; omega))
        exact ⟨i + 1, ⟨by first | rfl | (rw [hp]; rfl), by first | rfl | (rw [hq]; rfl), rfl, by first | rfl | (rw [hp]; rfl), rfl, rfl, trivial⟩, ⟨hC1.trans hC3 fun _ _ h => h, hlt, by rw [h1, h2, heq, hxy]⟩, by omega⟩
      · rw [decide_eq_false hxy] at hsi
        repeat' (first
      | (apply X_clo (f := 96); eq_refl; eq_refl; exact hsi; rintro _ w3 ⟨rfl, hC3⟩)
      | (apply WC_seqK; intro K hK)
      | (apply hK; clear hK)
      | (apply WC_block)
      | (apply WC_region)
      | (apply WL_nil)
      | (apply thenQ_normal)
      | (apply thenQ_ret)
      | (apply blockQ_ret)
      | (apply WC_ret)
      | (apply WC_skip)
      | (apply WC_if_true; eq_refl)
      | (apply ret1; eq_refl)
      | (apply WL_on0; eq_refl)
      | (apply X_pv; eq_refl; first | exact trivial | omega)
      | (apply X_loadC; eq_refl; (first | assumption | (apply cel; first | assumption | (apply cel; assumption))))
      | (apply X_cmpT; eq_refl; eq_refl; omega)
      | (apply X_indexP; eq_refl; eq_refl; omega; omega))
        refine ⟨false, rfl, ⟨fun h => (by cases h), fun h => absurd ?_ hxy⟩, hC1.trans hC3 fun _ _ h => h⟩
        rw [← hx, ← hy]; simp only [h]
    · repeat' (first
      | (apply WC_seqK; intro K hK)
      | (apply hK; clear hK)
      | (clear hK; apply hK; clear hK)
      | (apply WC_region)
      | (apply WL_nil)
      | (apply thenQ_normal)
      | (apply thenQ_exit)
      | (apply blockQ_hit)
      | (apply WC_ret)
      | (apply WC_exit)
      | (apply WC_if_false; eq_refl)
      | (apply ret1; eq_refl)
      | (apply WL_on0; eq_refl)
      | (apply X_pv; eq_refl; first | exact trivial | omega)
      | (apply X_cmpF; eq_refl; eq_refl; omega))
      rw [List.take_of_length_le (by omega), List.take_of_length_le (by omega)] at heq
      exact ⟨true, rfl, ⟨fun _ => heq, fun _ => rfl⟩, hC1⟩
  · repeat' (first
      | (apply WC_seqK; intro K hK)
      | (apply hK; clear hK)
      | (apply WC_region)
      | (apply WL_nil)
      | (apply thenQ_normal)
      | (apply thenQ_ret)
      | (apply WC_ret)
      | (apply WC_if_true; eq_refl)
      | (apply ret1; eq_refl)
      | (apply WL_on0; eq_refl)
      | (apply X_pv; eq_refl; first | exact trivial | omega)
      | (apply X_cmpT; eq_refl; eq_refl; omega)
      | (apply X_len; eq_refl))
    refine ⟨false, rfl, ⟨fun h => (by cases h), fun h => absurd (by rw [h]) hlm⟩, Chg.refl _ _⟩
theorem Same_cv {w : World} {c d : Circ} {h k js ks : Hd} (H : CirAt w c h js) (H' : CirAt w d k ks) (hc : c.Okay) (hd : d.Okay) : CV Try.prog 35 [.agg (ccells c h).toArray, .agg (ccells d k).toArray] w fun v w' => ∃ b, v = .bool b ∧ (b = true ↔ c = d) ∧ Chg w w' none_ := by
  have hC0 : Chg w ((w.alloc (.cells (ccells c h).toArray 51)).alloc (.cells (ccells d k).toArray 51)) none_ := (Chg.alloc w _ none_).al _
  have hA : ∀ W, Chg ((w.alloc (.cells (ccells c h).toArray 51)).alloc (.cells (ccells d k).toArray 51)) W none_ → Blk W w.heap.size 51 (ccells c h) := fun W hW => (Blk.alloc _ (Blk.new w _ _)).chg hW id
  have hB : ∀ W, Chg ((w.alloc (.cells (ccells c h).toArray 51)).alloc (.cells (ccells d k).toArray 51)) W none_ → Blk W (w.alloc (.cells (ccells c h).toArray 51)).heap.size 51 (ccells d k) := fun W hW => (Blk.new (w.alloc (.cells (ccells c h).toArray 51)) (ccells d k) 51).chg hW id
  have hr := Chg.refl ((w.alloc (.cells (ccells c h).toArray 51)).alloc (.cells (ccells d k).toArray 51)) none_
  have lc : ∀ n : Nat, (n : Int) ∈ c.lens → n ≤ 9223372036854775807 := fun n hn => by have := hc.lens _ hn; omega
  have ld : ∀ n : Nat, (n : Int) ∈ d.lens → n ≤ 9223372036854775807 := fun n hn => by have := hd.lens _ hn; omega
  have s1 : ∀ W, Chg ((w.alloc (.cells (ccells c h).toArray 51)).alloc (.cells (ccells d k).toArray 51)) W none_ → CV Try.prog 96 [.slice (h 1).1 c.inputs.length (h 1).2, .slice (k 1).1 d.inputs.length (k 1).2] W fun v w' => ∃ b, v = .bool b ∧ (b = true ↔ c.inputs = d.inputs) ∧ Chg W w' none_ := fun W hW =>
    (equalInts_cv ((H.chg hC0).chg hW).inputs ((H'.chg hC0).chg hW).inputs (lc _ (by simp [Circ.lens])) (ld _ (by simp [Circ.lens]))).boolI
  have s2 : ∀ W, Chg ((w.alloc (.cells (ccells c h).toArray 51)).alloc (.cells (ccells d k).toArray 51)) W none_ → CV Try.prog 97 [.slice (h 2).1 c.latches.length (h 2).2, .slice (k 2).1 d.latches.length (k 2).2] W fun v w' => ∃ b, v = .bool b ∧ (b = true ↔ c.latches = d.latches) ∧ Chg W w' none_ := fun W hW =>
    (equalLatches_cv ((H.chg hC0).chg hW).latches ((H'.chg hC0).chg hW).latches (lc _ (by simp [Circ.lens])) (ld _ (by simp [Circ.lens])) hc.latches hd.latches).boolI
  have s3 : ∀ W, Chg ((w.alloc (.cells (ccells c h).toArray 51)).alloc (.cells (ccells d k).toArray 51)) W none_ → CV Try.prog 96 [.slice (h 3).1 c.outputs.length (h 3).2, .slice (k 3).1 d.outputs.length (k 3).2] W fun v w' => ∃ b, v = .bool b ∧ (b = true ↔ c.outputs = d.outputs) ∧ Chg W w' none_ := fun W hW =>
    (equalInts_cv ((H.chg hC0).chg hW).outputs ((H'.chg hC0).chg hW).outputs (lc _ (by simp [Circ.lens])) (ld _ (by simp [Circ.lens]))).boolI
  have s4 : ∀ W, Chg ((w.alloc (.cells (ccells c h).toArray 51)).alloc (.cells (ccells d k).toArray 51)) W none_ → CV Try.prog 96 [.slice (h 4).1 c.bads.length (h 4).2, .slice (k 4).1 d.bads.length (k 4).2] W fun v w' => ∃ b, v = .bool b ∧ (b = true ↔ c.bads = d.bads) ∧ Chg W w' none_ := fun W hW =>
    (equalInts_cv ((H.chg hC0).chg hW).bads ((H'.chg hC0).chg hW).bads (lc _ (by simp [Circ.lens])) (ld _ (by simp [Circ.lens]))).boolI
  have s5 : ∀ W, Chg ((w.alloc (.cells (ccells c h).toArray 51)).alloc (.cells (ccells d k).toArray 51)) W none_ → CV Try.prog 96 [.slice (h 5).1 c.constraints.length (h 5).2, .slice (k 5).1 d.constraints.length (k 5).2] W fun v w' => ∃ b, v = .bool b ∧ (b = true ↔ c.constraints = d.constraints) ∧ Chg W w' none_ := fun W hW =>
    (equalInts_cv ((H.chg hC0).chg hW).constraints ((H'.chg hC0).chg hW).constraints (lc _ (by simp [Circ.lens])) (ld _ (by simp [Circ.lens]))).boolI
  have s6 : ∀ W, Chg ((w.alloc (.cells (ccells c h).toArray 51)).alloc (.cells (ccells d k).toArray 51)) W none_ → CV Try.prog 95 [.slice (h 6).1 c.justice.length (h 6).2, .slice (k 6).1 d.justice.length (k 6).2, .func (.func 96) #[] #[]] W fun v w' => ∃ b, v = .bool b ∧ (b = true ↔ c.justice = d.justice) ∧ Chg W w' none_ := fun W hW =>
    equalLists_cv ((H.chg hC0).chg hW).justice ((H'.chg hC0).chg hW).justice (lc _ (by simp [Circ.lens])) (ld _ (by simp [Circ.lens])) ((H.chg hC0).chg hW).each ((H'.chg hC0).chg hW).each hc.just hd.just
  have s7 : ∀ W, Chg ((w.alloc (.cells (ccells c h).toArray 51)).alloc (.cells (ccells d k).toArray 51)) W none_ → CV Try.prog 96 [.slice (h 7).1 c.fairness.length (h 7).2, .slice (k 7).1 d.fairness.length (k 7).2] W fun v w' => ∃ b, v = .bool b ∧ (b = true ↔ c.fairness = d.fairness) ∧ Chg W w' none_ := fun W hW =>
    (equalInts_cv ((H.chg hC0).chg hW).fairness ((H'.chg hC0).chg hW).fairness (lc _ (by simp [Circ.lens])) (ld _ (by simp [Circ.lens]))).boolI
  have s8 : ∀ W, Chg ((w.alloc (.cells (ccells c h).toArray 51)).alloc (.cells (ccells d k).toArray 51)) W none_ → CV Try.prog 98 [.slice (h 8).1 c.ands.length (h 8).2, .slice (k 8).1 d.ands.length (k 8).2] W fun v w' => ∃ b, v = .bool b ∧ (b = true ↔ c.ands = d.ands) ∧ Chg W w' none_ := fun W hW =>
    (equalAnds_cv ((H.chg hC0).chg hW).ands ((H'.chg hC0).chg hW).ands (lc _ (by simp [Circ.lens])) (ld _ (by simp [Circ.lens])) hc.ands hd.ands).boolI
  have s9 : ∀ W, Chg ((w.alloc (.cells (ccells c h).toArray 51)).alloc (.cells (ccells d k).toArray 51)) W none_ → CV Try.prog 99 [.slice (h 9).1 c.symbols.length (h 9).2, .slice (k 9).1 d.symbols.length (k 9).2] W fun v w' => ∃ b, v = .bool b ∧ (b = true ↔ c.symbols = d.symbols) ∧ Chg W w' none_ := fun W hW =>
    equalSymbols_cv ((H.chg hC0).chg hW).symbols ((H'.chg hC0).chg hW).symbols (lc _ (by simp [Circ.lens])) (ld _ (by simp [Circ.lens])) hc.symbols hd.symbols
  have s10 : ∀ W, Chg ((w.alloc (.cells (ccells c h).toArray 51)).alloc (.cells (ccells d k).toArray 51)) W none_ → CV Try.prog 100 [.slice (h 10).1 c.comments.length (h 10).2, .slice (k 10).1 d.comments.length (k 10).2] W fun v w' => ∃ b, v = .bool b ∧ (b = true ↔ c.comments = d.comments) ∧ Chg W w' none_ := fun W hW =>
    equalTexts_cv ((H.chg hC0).chg hW).comments ((H'.chg hC0).chg hW).comments (lc _ (by simp [Circ.lens])) (ld _ (by simp [Circ.lens]))
  refine enter 81 [4] Try.func35 rfl rfl rfl (by decide) rfl ?_
  repeat' (first
      | (apply X_loadR; eq_refl; (apply hA; assumption); eq_refl)
      | (apply X_loadR; eq_refl; (apply hB; assumption); eq_refl)
      | (apply X_fn; eq_refl; (first | (apply s1; assumption) | (apply s2; assumption) | (apply s3; assumption) | (apply s4; assumption) | (apply s5; assumption) | (apply s6; assumption) | (apply s7; assumption) | (apply s8; assumption) | (apply s9; assumption) | (apply s10; assumption)); rintro _ W ⟨b, rfl, hb, hE⟩; have hD := Chg.trans (by assumption) hE (fun _ _ h => h); cases b)
      | (apply WC_seqK; intro K hK)
      | (apply hK; clear hK)
      | (apply WC_region)
      | (apply WL_nil)
      | (apply thenQ_normal)
      | (apply thenQ_ret)
      | (apply WC_ret)
      | (apply WC_skip)
      | (apply WC_if_true; eq_refl)
      | (apply WC_if_false; eq_refl)
      | (apply ret1; eq_refl)
      | (apply WL_on0; eq_refl)
      | (apply WL_onG; eq_refl; eq_refl; eq_refl; eq_refl)
      | (apply WL_noG; eq_refl; eq_refl; eq_refl; eq_refl)
      | (apply X_pv; eq_refl; first | exact trivial | omega)
      | (apply X_field; eq_refl)
      | (apply X_cmp; eq_refl; eq_refl; all_goals intro _)
      | (apply X_box; eq_refl))
  all_goals
    first
    | exact ⟨true, rfl, ⟨fun _ => Circ.same (by first | assumption | omega) ((by assumption : true = true ↔ c.inputs = d.inputs).1 rfl) ((by assumption : true = true ↔ c.latches = d.latches).1 rfl) ((by assumption : true = true ↔ c.outputs = d.outputs).1 rfl) ((by assumption : true = true ↔ c.bads = d.bads).1 rfl) ((by assumption : true = true ↔ c.constraints = d.constraints).1 rfl) ((by assumption : true = true ↔ c.justice = d.justice).1 rfl) ((by assumption : true = true ↔ c.fairness = d.fairness).1 rfl) ((by assumption : true = true ↔ c.ands = d.ands).1 rfl) ((by assumption : true = true ↔ c.symbols = d.symbols).1 rfl) ((by assumption : true = true ↔ c.comments = d.comments).1 rfl), fun _ => rfl⟩, hC0.trans (by assumption) fun _ _ h => h⟩
    | refine ⟨false, rfl, ⟨fun h => (by cases h), fun hcd => ?_⟩, hC0.trans (by assumption) fun _ _ h => h⟩
      first
      | exact absurd (congrArg Circ.max hcd) (by first | assumption | omega)
      | exact absurd ((by assumption : false = true ↔ c.inputs = d.inputs).2 (congrArg Circ.inputs hcd)) (by decide)
      | exact absurd ((by assumption : false = true ↔ c.latches = d.latches).2 (congrArg Circ.latches hcd)) (by decide)
      | exact absurd ((by assumption : false = true ↔ c.outputs = d.outputs).2 (congrArg Circ.outputs hcd)) (by decide)
      | exact absurd ((by assumption : false = true ↔ c.bads = d.bads).2 (congrArg Circ.bads hcd)) (by decide)
      | exact absurd ((by assumption : false = true ↔ c.constraints = d.constraints).2 (congrArg Circ.constraints hcd)) (by decide)
      | exact absurd ((by assumption : false = true ↔ c.justice = d.justice).2 (congrArg Circ.justice hcd)) (by decide)
      | exact absurd ((by assumption : false = true ↔ c.fairness = d.fairness).2 (congrArg Circ.fairness hcd)) (by decide)
      | exact absurd ((by assumption : false = true ↔ c.ands = d.ands).2 (congrArg Circ.ands hcd)) (by decide)
      | exact absurd ((by assumption : false = true ↔ c.symbols = d.symbols).2 (congrArg Circ.symbols hcd)) (by decide)
      | exact absurd ((by assumption : false = true ↔ c.comments = d.comments).2 (congrArg Circ.comments hcd)) (by decide)
end SC
end Go.Proofs.Ytkndegjodnciaaa
end
section
/- trestlebook: SpoilCircuit. -/
set_option linter.unusedVariables false
set_option linter.unusedSimpArgs false
namespace Go.Proofs.Ytkndegjodnciaaa
namespace SC
open Go.Proofs
/-- Rows of which some are still as they were told. -/
def SpRows (W : World) (lo : Nat) (f : Nat → Rw) (D : Nat → Prop) : Prop := ∃ f', Rows W lo f' ∧ ∀ q, D q → f' q = f q
theorem SpRows.mono {W : World} {lo : Nat} {f : Nat → Rw} {D D' : Nat → Prop} (h : SpRows W lo f D) (hD : ∀ q, D' q → D q) : SpRows W lo f D' := by
  obtain ⟨f', hR, hf⟩ := h
  exact ⟨f', hR, fun q hq => hf q (hD q hq)⟩
theorem SpRows.same {W W' : World} {lo : Nat} {f : Nat → Rw} {D : Nat → Prop} (h : SpRows W lo f D) (hc : Chg W W' none_) : SpRows W' lo f D := by
  obtain ⟨f', hR, hf⟩ := h
  exact ⟨f', hR.same hc, hf⟩
theorem SpRows.own {W : World} {lo : Nat} {f : Nat → Rw} {D : Nat → Prop} (h : SpRows W lo f D) {i : Nat} (hi : D i) : (f i).own W lo := by
  obtain ⟨f', hR, hf⟩ := h
  rw [← hf i hi]
  exact hR.own i
theorem SpRows.drop {W W' : World} {lo : Nat} {f : Nat → Rw} {D : Nat → Prop} {T : Nat → Prop} (h : SpRows W lo f D) {i : Nat} (hi : D i) (hc : Chg W W' T) (hT : ∀ k, T k → (f i).v.ownBlock = some k) : SpRows W' lo f (fun q => D q ∧ q ≠ i) := by
  obtain ⟨f', hR, hf⟩ := h
  refine ⟨upd f' i nilRw, hR.put i nilRw hc (fun j k hj hk hh => ?_) (World.ownsRow_nil _ _ _ _) (fun k hk => by cases hk), fun q hq => ?_⟩
  · have := hT k hh
    rw [← hf i hi] at this
    exact hR.apart j i k hj hk this
  · unfold upd
    rw [if_neg hq.2]
    exact hf q hq.1
theorem SpRows.set {W : World} {lo : Nat} {f : Nat → Rw} {D : Nat → Prop} (h : SpRows W lo f D) {i g n cap : Nat} {t : TypeId} {sz : Nat} {xs : List Value} (hi : D i) (hv : f i = ⟨.slice (some ⟨g, 0, none⟩) n cap, t, sz, n, xs⟩) :
    ∃ cur : List Value, Blk W g t cur ∧ n * sz ≤ cur.length ∧ lo ≤ g ∧ ∀ cur' : List Value, cur'.length = cur.length → ∃ xs', SpRows (W.setRow g cur'.toArray) lo (upd f i ⟨.slice (some ⟨g, 0, none⟩) n cap, t, sz, n, xs'⟩) D := by
  obtain ⟨f', hR, hf⟩ := h
  have ho := hR.own i
  rw [hf i hi, hv] at ho
  obtain ⟨cur, h1, h2, h3, h4, h5⟩ := own_set ho
  refine ⟨cur, h1, h3, h4, fun cur' hl => ⟨cur'.take (n * sz), upd f' i ⟨.slice (some ⟨g, 0, none⟩) n cap, t, sz, n, cur'.take (n * sz)⟩, hR.put i _ (Chg.setRow W g cur'.toArray (S := fun k => k = g) rfl) (fun j k hj hk hh => ?_) (h5 cur' hl) (fun k hk => ?_), fun q hq => ?_⟩⟩
  · have : (f' i).v.ownBlock = some k := by rw [hf i hi, hv]; simp [Value.ownBlock, hh]
    exact hR.apart j i k hj hk this
  · left
    rw [hf i hi, hv]
    exact hk
  · unfold upd
    split
    · rfl
    · exact hf q hq
theorem SpRows.back {W : World} {lo : Nat} {f : Nat → Rw} {D : Nat → Prop} {i : Nat} {r : Rw} (h : SpRows W lo (upd f i r) D) : SpRows W lo f (fun q => D q ∧ q ≠ i) := by
  obtain ⟨f', hR, hf⟩ := h
  exact ⟨f', hR, fun q hq => by rw [hf q hq.1]; unfold upd; rw [if_neg hq.2]⟩
/-- How far a circuit is spoilt. -/
structure SpSt (w W : World) (lo : Nat) (T : Nat → Prop) (b : Nat) (c : Circ) (h : Hd) (f : Nat → Rw) (D : Nat → Prop) : Prop where
  chg : Chg w W T
  box : Blk W b 51 (ccells c h)
  rows : SpRows W lo f D
theorem SpSt.mono {w W : World} {lo b : Nat} {T : Nat → Prop} {c : Circ} {h : Hd} {f : Nat → Rw} {D D' : Nat → Prop} (S : SpSt w W lo T b c h f D) (hD : ∀ q, D' q → D q) : SpSt w W lo T b c h f D' := ⟨S.chg, S.box, S.rows.mono hD⟩
attribute [local irreducible] WC WL WX WS WO OX Does DoesU Enters CV Pure thenQ blockQ retQ Wants retQC
set_option maxRecDepth 100000
end SC
end Go.Proofs.Ytkndegjodnciaaa
end
section
/- IsBinary, of the reference and of shape. -/
set_option linter.unusedVariables false
set_option linter.unusedSimpArgs false
namespace Go.Proofs.Ytkndegjodnciaaa
namespace SC
open Go.Proofs
/-- Has it the binary order? -/
noncomputable def isBin (c : Circ) : Bool := by classical exact decide ((lookM c).2 = 0 ∧ BinOk c)
theorem isBin_no {c : Circ} (h : (lookM c).2 ≠ 0) : isBin c = false := by
  unfold isBin
  simp [h]
theorem isBin_iff {c : Circ} (h : (lookM c).2 = 0) : isBin c = true ↔ BinOk c := by
  unfold isBin
  simp [h]
theorem isBin_ren {c : Circ} (R : Right c) (h : (lookM c).2 = 0) : isBin c = true ↔ renC c = c := (isBin_iff h).trans ⟨R.bin_ren, R.ren_bin⟩
attribute [local irreducible] WC WL WX WS WO OX Does DoesU Enters CV Pure thenQ blockQ retQ Wants retQC GC GL GS GX RdB thenG blockG retG Rd At gt CVN CVM
attribute [local irreducible] renX
set_option maxRecDepth 100000
theorem isBinary_cv {w : World} {c : Circ} {h js : Hd} (H : CirIn w c h js) : CVN Try.prog 39 [.agg (ccells c h).toArray] w fun v N => N = [] ∧ v = .tuple #[.bool (isBin c), nu (lookM c).2] := by
  have hren : ∀ Γ, In Γ (.old w none_) → ∀ w', Mem w' Γ → CVN Try.prog 37 [.agg (ccells c h).toArray] w' (RenR c) := fun Γ ho w' M => RenumberG (H.chg (ho.old M))
  refine CVN.enter 19 [2, 3] Try.func39 rfl rfl rfl (by decide) rfl ?_
  by_cases he : (lookM c).2 = 0
  · have R := right_of H.at_ H.sane he
    have hs : ∀ Γ base h' js' A k, In Γ (.any (renX base c h' js' A k)) → In Γ (.old w none_) → ∀ w', Mem w' Γ → CVN Try.prog 35 [.agg (ccells (renC c) h').toArray, .agg (ccells c h).toArray] w' fun v N => N = [] ∧ v = .bool (isBin c) := fun Γ base h' js' A k hx ho w' M => by
      have X := In.ren H he hx M
      exact CVN.of (Same_cv X.at_ (H.at_.chg (ho.old M)) X.okay H.okay) fun v w' ⟨b, e1, e2, e3⟩ => ⟨e3, by rw [e1]; congr 1; rw [Bool.eq_iff_iff, e2, isBin_ren R he]⟩
    have hRen : ∀ Γ, In Γ (.old w none_) → ∀ w', Mem w' Γ → CVN Try.prog 37 [.agg (ccells c h).toArray] w' fun v N => ∃ h' js' A k base, v = .tuple #[.agg (ccells (renC c) h').toArray, .slice A (toM c).length k, nu 0] ∧ N = [.any (renX base c h' js' A k)] := fun Γ ho w' M => (hren Γ ho w' M).mono fun v N hv => by
      rcases hv with ⟨h1, _⟩ | ⟨_, hv⟩
      · exact absurd he h1
      · exact hv
    rw [he]
    generalize isBin c = β at *
    repeat' (first
      | (apply G_call; eq_refl; eq_refl; (apply hRen; (repeat first | exact In.here | apply In.there | apply In.skip)); rintro _ _ ⟨h', js', A, k, base, rfl, rfl⟩)
      | (apply G_call; eq_refl; eq_refl; (apply hs; (repeat first | exact In.here | apply In.there | apply In.skip); (repeat first | exact In.here | apply In.there | apply In.skip)); rintro _ _ ⟨rfl, rfl⟩)
      | (apply GC_seqK; intro K hK)
      | (apply hK; clear hK K)
      | (clear hK K; apply hK; clear hK K)
      | (clear hK K; clear hK K; apply hK; clear hK K)
      | (clear hK K; clear hK K; clear hK K; apply hK; clear hK K)
      | (apply GC_block)
      | (apply GC_region)
      | (apply GL_nil)
      | (apply thenG_normal)
      | (apply thenG_ret)
      | (apply thenG_exit)
      | (apply blockG_hit)
      | (apply blockG_miss; eq_refl)
      | (apply blockG_ret)
      | (apply blockG_normal)
      | (apply GC_ret)
      | (apply GC_exit)
      | (apply GC_skip)
      | (apply GC_if_true; eq_refl)
      | (apply GC_if_false; eq_refl)
      | (apply GC_ifD; eq_refl; all_goals intro _)
      | (apply GC_if; eq_refl; all_goals intro _)
      | (apply retG1; eq_refl)
      | (apply retG2; eq_refl; eq_refl)
      | (apply retG3; eq_refl; eq_refl; eq_refl)
      | (apply retG0)
      | (apply retG0n)
      | (apply GL_on; eq_refl; eq_refl)
      | (apply G_pv; eq_refl; first | exact trivial | omega)
      | (apply G_ld; eq_refl; (repeat first | exact In.here | apply In.there | apply In.skip); eq_refl)
      | (apply G_ldW; eq_refl; (repeat first | exact In.here | apply In.there | apply In.skip); eq_refl)
      | (apply G_ldO; eq_refl; (repeat first | exact In.here | apply In.there | apply In.skip); assumption; eq_refl)
      | (apply G_ldR; eq_refl; (apply RdB.oldR; (repeat first | exact In.here | apply In.there | apply In.skip); assumption); eq_refl)
      | (apply G_ldOW; eq_refl; (repeat first | exact In.here | apply In.there | apply In.skip); assumption; eq_refl)
      | (apply G_rd; eq_refl; (first | (apply Rd.own; (repeat first | exact In.here | apply In.there | apply In.skip); infer_instance) | (apply Rd.old; (repeat first | exact In.here | apply In.there | apply In.skip); assumption) | (apply Rd.oldR; (repeat first | exact In.here | apply In.there | apply In.skip); assumption) | exact Rd.nil | assumption); (case ih => infer_instance); omega; omega; eq_refl)
      | (apply G_rdF; eq_refl; (first | (apply Rd.own; (repeat first | exact In.here | apply In.there | apply In.skip); infer_instance) | (apply Rd.old; (repeat first | exact In.here | apply In.there | apply In.skip); assumption) | (apply Rd.oldR; (repeat first | exact In.here | apply In.there | apply In.skip); assumption) | exact Rd.nil | assumption); (case ih => infer_instance); omega; omega; eq_refl)
      | (apply G_rdW; eq_refl; (first | (apply Rd.own; (repeat first | exact In.here | apply In.there | apply In.skip); infer_instance) | (apply Rd.old; (repeat first | exact In.here | apply In.there | apply In.skip); assumption) | (apply Rd.oldR; (repeat first | exact In.here | apply In.there | apply In.skip); assumption) | exact Rd.nil | assumption); infer_instance; (case ih => infer_instance); omega; omega)
      | (apply G_cmpT; eq_refl; eq_refl; omega)
      | (apply G_cmpF; eq_refl; eq_refl; omega)
      | (apply G_cmp; eq_refl; eq_refl; all_goals intro _)
      | (apply G_neqB; eq_refl; eq_refl)
      | (apply G_alloc; eq_refl; intro _)
      | (apply G_box; eq_refl; eq_refl; intro _)
      | (apply G_stV; (first | exact wr_p | kernel_rfl); eq_refl; eq_refl; eq_refl; eq_refl; (repeat first | exact Upd.here | apply Upd.there | apply Upd.skip); infer_instance; infer_instance; eq_refl; omega; (try simp only [List.length_set, List.length_append, List.length_replicate]); omega)
      | (apply G_st; (first | exact wr_p | kernel_rfl); eq_refl; eq_refl; eq_refl; eq_refl; (repeat first | exact Upd.here | apply Upd.there | apply Upd.skip); (first | decide | exact Nat.le_of_ble_eq_true rfl))
      | (apply G_stW; (first | exact wr_p | kernel_rfl); eq_refl; eq_refl; eq_refl; eq_refl; (repeat first | exact Upd.here | apply Upd.there | apply Upd.skip); eq_refl))
    exact ⟨[], (by repeat first | exact Wk.nil | exact Wk.refl | (apply Wk.cons; (focus ((repeat first | exact Rem.here | apply Rem.there | apply Rem.skip); done))) | apply Wk.nilv | apply Wk.last | apply Wk.drop), rfl, rfl⟩
  · have hRen : ∀ Γ, In Γ (.old w none_) → ∀ w', Mem w' Γ → CVN Try.prog 37 [.agg (ccells c h).toArray] w' fun v N => v = .tuple #[.agg Zc.toArray, .slice none 0 0, nu (lookM c).2] ∧ N = [] := fun Γ ho w' M => (hren Γ ho w' M).mono fun v N hv => by
      rcases hv with ⟨_, hv⟩ | ⟨h1, _⟩
      · exact hv
      · exact absurd h1 he
    rw [isBin_no he]
    generalize (lookM c).2 = ε at *
    repeat' (first
      | (apply G_call; eq_refl; eq_refl; (apply hRen; (repeat first | exact In.here | apply In.there | apply In.skip)); rintro _ _ ⟨rfl, rfl⟩)
      | (apply GC_seqK; intro K hK)
      | (apply hK; clear hK K)
      | (clear hK K; apply hK; clear hK K)
      | (clear hK K; clear hK K; apply hK; clear hK K)
      | (clear hK K; clear hK K; clear hK K; apply hK; clear hK K)
      | (apply GC_block)
      | (apply GC_region)
      | (apply GL_nil)
      | (apply thenG_normal)
      | (apply thenG_ret)
      | (apply thenG_exit)
      | (apply blockG_hit)
      | (apply blockG_miss; eq_refl)
      | (apply blockG_ret)
      | (apply blockG_normal)
      | (apply GC_ret)
      | (apply GC_exit)
      | (apply GC_skip)
      | (apply GC_if_true; eq_refl)
      | (apply GC_if_false; eq_refl)
      | (apply GC_ifD; eq_refl; all_goals intro _)
      | (apply GC_if; eq_refl; all_goals intro _)
      | (apply retG1; eq_refl)
      | (apply retG2; eq_refl; eq_refl)
      | (apply retG3; eq_refl; eq_refl; eq_refl)
      | (apply retG0)
      | (apply retG0n)
      | (apply GL_on; eq_refl; eq_refl)
      | (apply G_pv; eq_refl; first | exact trivial | omega)
      | (apply G_ld; eq_refl; (repeat first | exact In.here | apply In.there | apply In.skip); eq_refl)
      | (apply G_ldW; eq_refl; (repeat first | exact In.here | apply In.there | apply In.skip); eq_refl)
      | (apply G_ldO; eq_refl; (repeat first | exact In.here | apply In.there | apply In.skip); assumption; eq_refl)
      | (apply G_ldR; eq_refl; (apply RdB.oldR; (repeat first | exact In.here | apply In.there | apply In.skip); assumption); eq_refl)
      | (apply G_ldOW; eq_refl; (repeat first | exact In.here | apply In.there | apply In.skip); assumption; eq_refl)
      | (apply G_rd; eq_refl; (first | (apply Rd.own; (repeat first | exact In.here | apply In.there | apply In.skip); infer_instance) | (apply Rd.old; (repeat first | exact In.here | apply In.there | apply In.skip); assumption) | (apply Rd.oldR; (repeat first | exact In.here | apply In.there | apply In.skip); assumption) | exact Rd.nil | assumption); (case ih => infer_instance); omega; omega; eq_refl)
      | (apply G_rdF; eq_refl; (first | (apply Rd.own; (repeat first | exact In.here | apply In.there | apply In.skip); infer_instance) | (apply Rd.old; (repeat first | exact In.here | apply In.there | apply In.skip); assumption) | (apply Rd.oldR; (repeat first | exact In.here | apply In.there | apply In.skip); assumption) | exact Rd.nil | assumption); (case ih => infer_instance); omega; omega; eq_refl)
      | (apply G_rdW; eq_refl; (first | (apply Rd.own; (repeat first | exact In.here | apply In.there | apply In.skip); infer_instance) | (apply Rd.old; (repeat first | exact In.here | apply In.there | apply In.skip); assumption) | (apply Rd.oldR; (repeat first | exact In.here | apply In.there | apply In.skip); assumption) | exact Rd.nil | assumption); infer_instance; (case ih => infer_instance); omega; omega)
      | (apply G_cmpT; eq_refl; eq_refl; omega)
      | (apply G_cmpF; eq_refl; eq_refl; omega)
      | (apply G_cmp; eq_refl; eq_refl; all_goals intro _)
      | (apply G_neqB; eq_refl; eq_refl)
      | (apply G_alloc; eq_refl; intro _)
      | (apply G_box; eq_refl; eq_refl; intro _)
      | (apply G_stV; (first | exact wr_p | kernel_rfl); eq_refl; eq_refl; eq_refl; eq_refl; (repeat first | exact Upd.here | apply Upd.there | apply Upd.skip); infer_instance; infer_instance; eq_refl; omega; (try simp only [List.length_set, List.length_append, List.length_replicate]); omega)
      | (apply G_st; (first | exact wr_p | kernel_rfl); eq_refl; eq_refl; eq_refl; eq_refl; (repeat first | exact Upd.here | apply Upd.there | apply Upd.skip); (first | decide | exact Nat.le_of_ble_eq_true rfl))
      | (apply G_stW; (first | exact wr_p | kernel_rfl); eq_refl; eq_refl; eq_refl; eq_refl; (repeat first | exact Upd.here | apply Upd.there | apply Upd.skip); eq_refl))
    exact ⟨[], (by repeat first | exact Wk.nil | exact Wk.refl | (apply Wk.cons; (focus ((repeat first | exact Rem.here | apply Rem.there | apply Rem.skip); done))) | apply Wk.nilv | apply Wk.last | apply Wk.drop), rfl, rfl⟩
end SC
end Go.Proofs.Ytkndegjodnciaaa
end
section
/- The renumbered circuit has the binary order. -/
set_option linter.unusedVariables false
set_option linter.unusedSimpArgs false
namespace Go.Proofs.Ytkndegjodnciaaa
namespace SC
open Go.Proofs
section
variable {c : Circ} (R : Right c)
include R
/-- What a gate uses comes before it. -/
theorem Right.ren_small {i : Nat} (hk : i < (ordM c).length) {l : Int} (hl : l = (andAt c (ordM c)[i]).2.1 ∨ l = (andAt c (ordM c)[i]).2.2) : litM (toM c) l < 2 * ((c.inputs.length + c.latches.length + i : Nat) : Int) + 2 := by
  have hlt := R.ord (List.getElem_mem hk)
  have hlt' : (ordM c)[i].toNat < c.ands.length := by omega
  have ha : andAt c (ordM c)[i] ∈ c.ands := by unfold andAt; simp [hlt']
  have hg := R.gate ha
  have hl0 : 0 ≤ l := by
    have q1 := hg.2.1
    have q2 := hg.2.2
    unfold inR at q1 q2
    rcases hl with e | e <;> omega
  have e0 : litM (toM c) l = L (toM c) (l / 2) + l % 2 := rfl
  rw [e0]
  rcases R.to_cases (v := l / 2) (by omega) with ⟨e1, _⟩ | ⟨d, hd, ed, e1⟩
  · omega
  · rw [e1]
    rcases Nat.lt_or_ge d (c.inputs.length + c.latches.length) with q | q
    · omega
    · obtain ⟨j', rfl⟩ : ∃ j', d = c.inputs.length + c.latches.length + j' := ⟨d - (c.inputs.length + c.latches.length), by omega⟩
      have q3 : j' < (ordM c).length := by have := R.ordLen; have := R.nDefs; omega
      obtain ⟨_, e6⟩ := R.def_and q3
      rw [e6] at ed
      have := R.low hk hl q3 ed
      omega
theorem Right.ren_binok : BinOk (renC c) := by
  have hn := R.nDefs
  have l1 : (renC c).inputs.length = c.inputs.length := List.length_map _
  have l2 : (renC c).latches.length = c.latches.length := List.length_map _
  have l3 := R.ren_ands
  refine ⟨fun i hi => ?_, fun i hi => ?_, fun i hi => ?_, by rw [l1, l2, l3, ren_max]; omega⟩
  · rw [l1] at hi
    obtain ⟨hd, e2⟩ := R.def_inp hi
    have h2 := R.lit_def hd
    rw [e2] at h2
    rw [gt_nat (by rw [l1]; exact hi)]
    show (c.inputs.map (litM (toM c)))[i]'(by simpa using hi) = _
    rw [List.getElem_map, h2]
  · rw [l2] at hi
    obtain ⟨hd, e2⟩ := R.def_lat hi
    have h2 := R.lit_def hd
    rw [e2] at h2
    rw [gt_nat (by rw [l2]; exact hi), l1]
    show ((c.latches.map (renLatch (toM c)))[i]'(by simpa using hi)).1 = _
    rw [List.getElem_map]
    show litM (toM c) c.latches[i].1 = _
    rw [h2]
    omega
  · rw [l3] at hi
    have hk : i < (ordM c).length := by rw [R.ordLen]; exact hi
    have e4 : gt (renC c).ands (i : Int) = renAnd (toM c) (andAt c (ordM c)[i]) := by
      rw [gt_nat (by rw [l3]; exact hi)]
      show ((ordM c).map fun i => renAnd (toM c) (andAt c i))[i]'(by simpa using hk) = _
      rw [List.getElem_map]
    rw [e4, l1, l2]
    have s1 := R.ren_small hk (.inl rfl)
    have s2 := R.ren_small hk (.inr rfl)
    have ho := R.ren_out hk
    unfold renAnd
    dsimp only
    rw [ho]
    refine ⟨by omega, by omega, by omega⟩
end
/-- Renumbering again changes nothing. -/
theorem ren_ren {c : Circ} (R : Right c) (h : (lookM c).2 = 0) : renC (renC c) = renC c := (ren_right R h).bin_ren R.ren_binok
end SC
end Go.Proofs.Ytkndegjodnciaaa
end
section
/- trestlelaw03: ShapeSettles: the walk. -/
set_option linter.unusedVariables false
set_option linter.unusedSimpArgs false
namespace Go.Proofs.Ytkndegjodnciaaa
namespace SC
open Go.Proofs
theorem In.ren2 {Γ : Mm} {w : World} {base : Nat} {c : Circ} {h js : Hd} {A : Option Addr} {k : Nat} (hi : In Γ (.any (renX base c h js A k))) (M : Mem w Γ) : CirAt w (renC c) h js := CirOwn.at (hi.ok M).1
theorem Rd.rbads {Γ : Mm} {base : Nat} {c : Circ} {h js : Hd} {A : Option Addr} {k : Nat} (hi : In Γ (.any (renX base c h js A k))) : Rd Γ icell 1 (h 4).1 (renC c).bads := fun w M => (hi.ren2 M).bads
theorem Rd.rlat {Γ : Mm} {base : Nat} {c : Circ} {h js : Hd} {A : Option Addr} {k : Nat} (hi : In Γ (.any (renX base c h js A k))) : Rd Γ tcells 3 (h 2).1 (renC c).latches := fun w M => (hi.ren2 M).latches
theorem gt_rep (n : Nat) (k : Int) : gt (List.replicate n false) k = false := by
  rw [gtB, List.getD_eq_getElem?_getD, List.getElem?_replicate]
  split <;> rfl
theorem gt_set_eq {l : List Bool} {v : Int} {b : Bool} (h0 : 0 ≤ v) (h : v < l.length) : gt (l.set v.toNat b) v = b := by
  rw [gtB, List.getD_eq_getElem?_getD, List.getElem?_set_self (by omega)]
  rfl
theorem gt_set_ne {l : List Bool} {u v : Int} {b : Bool} (h0 : 0 ≤ u) (h1 : 0 ≤ v) (h : v ≠ u) : gt (l.set u.toNat b) v = gt l v := by
  rw [gtB, gtB, List.getD_eq_getElem?_getD, List.getD_eq_getElem?_getD, List.getElem?_set_ne (by omega)]
/-- How many variables go somewhere. -/
def manyTo (to : List Int) (i : Nat) : Nat := ((List.range i).filter fun (v : Nat) => decide (0 < gt to (v : Int))).length
theorem manyTo_t {to : List Int} {i : Nat} (h : 0 < gt to (i : Int)) : manyTo to (i + 1) = manyTo to i + 1 := by unfold manyTo; rw [List.range_succ, List.filter_append, List.length_append]; simp [h]
theorem manyTo_f {to : List Int} {i : Nat} (h : ¬ 0 < gt to (i : Int)) : manyTo to (i + 1) = manyTo to i := by unfold manyTo; rw [List.range_succ, List.filter_append, List.length_append]; simp [h]
theorem manyTo_le (to : List Int) (i : Nat) : manyTo to i ≤ i := Nat.le_trans (List.length_filter_le ..) (by simp)
theorem Right.to_inj {c : Circ} (R : Right c) {u v : Int} (hu : 0 ≤ u) (hv : 0 ≤ v) (h : 0 < gt (toM c) u) (e : gt (toM c) u = gt (toM c) v) : u = v := by
  rw [gt_L] at h e
  rw [gt_L] at e
  rcases R.to_cases hu with ⟨e1, _⟩ | ⟨j, hj, ed, e1⟩
  · omega
  · rcases R.to_cases hv with ⟨e2, _⟩ | ⟨j', hj', ed', e2⟩
    · omega
    · obtain rfl : j = j' := by omega
      rw [ed, ed']
theorem Right.many_all {c : Circ} (R : Right c) : manyTo (toM c) (toM c).length = (defsOf c (ordM c)).length := by
  have htl : (toM c).length = (c.max + 1).toNat := mapOf_len _ _
  have h1 : (((List.range (toM c).length).filter fun (v : Nat) => decide (0 < gt (toM c) (v : Int))).map fun (v : Nat) => (v : Int)).Perm ((defsOf c (ordM c)).map (· / 2)) := by
    refine (List.perm_ext_iff_of_nodup (nodup_map (fun a b e => by omega) (List.Pairwise.filter _ List.nodup_range)) R.defs_nodup).2 fun v => ?_
    constructor
    · intro hv
      obtain ⟨u, hu, rfl⟩ := List.mem_map.1 hv
      have h2 := (List.mem_filter.1 hu).2
      simp only [decide_eq_true_eq] at h2
      rw [gt_L] at h2
      rcases R.to_cases (v := (u : Int)) (by omega) with ⟨e, _⟩ | ⟨j, hj, ed, _⟩
      · omega
      · exact List.mem_map.2 ⟨_, List.getElem_mem hj, ed.symm⟩
    · intro hv
      obtain ⟨k, hk, rfl⟩ := List.mem_map.1 hv
      obtain ⟨j, hj, rfl⟩ := List.mem_iff_getElem.1 hk
      have h2 : L (toM c) ((defsOf c (ordM c))[j] / 2) = 2 * j + 2 := R.to_at hj
      have h3 := R.defs_rg hk
      unfold rg at h3
      refine List.mem_map.2 ⟨((defsOf c (ordM c))[j] / 2).toNat, List.mem_filter.2 ⟨List.mem_range.2 (by omega), ?_⟩, by omega⟩
      simp only [decide_eq_true_eq]
      rw [show ((((defsOf c (ordM c))[j] / 2).toNat : Nat) : Int) = (defsOf c (ordM c))[j] / 2 by omega, gt_L]
      omega
  have := h1.length_eq
  simp only [List.length_map] at this
  exact this
attribute [local irreducible] WC WL WX WS WO OX Does DoesU Enters CV Pure thenQ blockQ retQ Wants retQC GC GL GS GX RdB thenG blockG retG Rd At gt CVN CVM
attribute [local irreducible] renX
set_option maxRecDepth 100000
set_option maxHeartbeats 1600000 in
theorem shapeSettles_cv {w : World} {c : Circ} {h js : Hd} (H : CirIn w c h js) :
    CVN Try.prog 8 [.agg (ccells c h).toArray] w fun v N => N = [] ∧ v = .bool true := by
  have hw : ∀ w', CVN Try.prog 31 [] w' fun v N => N = [] ∧ v = .bool true := fun w' => CVN.of works_cv fun v w' h => ⟨h.2, h.1⟩
  have hren : ∀ Γ, In Γ (.old w none_) → ∀ w', Mem w' Γ → CVN Try.prog 37 [.agg (ccells c h).toArray] w' (RenR c) := fun Γ ho w' M => RenumberG (H.chg (ho.old M))
  refine CVN.enter 231 [2] Try.func8 rfl rfl rfl (by decide) rfl ?_
  by_cases he : (lookM c).2 = 0
  · have R := right_of H.at_ H.sane he
    have he' := ren_look R he
    have R' := ren_right R he
    have e2 := ren_ren R he
    have eb : isBin (renC c) = true := (isBin_iff he').2 R.ren_binok
    have hRen : ∀ Γ, In Γ (.old w none_) → ∀ w', Mem w' Γ → CVN Try.prog 37 [.agg (ccells c h).toArray] w' fun v N => ∃ h' js' A k base, v = .tuple #[.agg (ccells (renC c) h').toArray, .slice A (toM c).length k, nu 0] ∧ N = [.any (renX base c h' js' A k)] := fun Γ ho w' M => (hren Γ ho w' M).mono fun v N hv => by
      rcases hv with ⟨h1, _⟩ | ⟨_, hv⟩
      · exact absurd he h1
      · exact hv
    have hBin : ∀ Γ base h' js' A k, In Γ (.any (renX base c h' js' A k)) → ∀ w', Mem w' Γ → CVN Try.prog 39 [.agg (ccells (renC c) h').toArray] w' fun v N => N = [] ∧ v = .tuple #[.bool true, nu 0] := fun Γ base h' js' A k hx w' M => (isBinary_cv (In.ren H he hx M)).mono fun v N ⟨q1, q2⟩ => ⟨q1, by rw [q2, eb, he']⟩
    have hRen2 : ∀ Γ base h' js' A k, In Γ (.any (renX base c h' js' A k)) → ∀ w', Mem w' Γ → CVN Try.prog 37 [.agg (ccells (renC c) h').toArray] w' fun v N => ∃ h2 js2 A2 k2 base2, v = .tuple #[.agg (ccells (renC c) h2).toArray, .slice A2 (toM (renC c)).length k2, nu 0] ∧ N = [.any (renX base2 (renC c) h2 js2 A2 k2)] := fun Γ base h' js' A k hx w' M => (RenumberG (In.ren H he hx M)).mono fun v N hv => by
      rcases hv with ⟨h1, _⟩ | ⟨_, hv⟩
      · exact absurd he' h1
      · rw [e2] at hv
        exact hv
    have hSame : ∀ Γ base h' js' A k base2 h2 js2 A2 k2, In Γ (.any (renX base c h' js' A k)) → In Γ (.any (renX base2 (renC c) h2 js2 A2 k2)) → In Γ (.old w none_) → ∀ w', Mem w' Γ → CVN Try.prog 35 [.agg (ccells (renC c) h').toArray, .agg (ccells (renC c) h2).toArray] w' fun v N => N = [] ∧ v = .bool true := fun Γ base h' js' A k base2 h2 js2 A2 k2 hx hy ho w' M => by
      have X := In.ren H he hx M
      have Y : CirAt w' (renC (renC c)) h2 js2 := hy.ren2 M
      rw [e2] at Y
      exact CVN.of (Same_cv X.at_ Y X.okay X.okay) fun v w' ⟨b, q1, q2, q3⟩ => ⟨q3, by rw [q1, q2.2 rfl]⟩
    have htl : (toM c).length = (c.max + 1).toNat := mapOf_len _ _
    have hm0 := R.m0
    have hm1 := R.m1
    have hn := R.nDefs
    have hnle := R.nDefs_le
    have x0 : (renC c).max = (defsOf c (ordM c)).length := ren_max
    have x1 : (renC c).inputs.length = c.inputs.length := List.length_map _
    have x2 : (renC c).latches.length = c.latches.length := List.length_map _
    have x4 : (renC c).bads.length = c.bads.length := List.length_map _
    have x5 : (renC c).constraints.length = c.constraints.length := List.length_map _
    have x8 := R.ren_ands
    repeat' (first
      | (apply G_call; eq_refl; eq_refl; (exact fun w' _ => hw w'); rintro _ _ ⟨rfl, rfl⟩)
      | (apply G_call; eq_refl; eq_refl; (apply hRen; (repeat first | exact In.here | apply In.there | apply In.skip)); rintro _ _ ⟨h', js', A, k, base, rfl, rfl⟩)
      | (apply G_call; eq_refl; eq_refl; (apply hBin; (repeat first | exact In.here | apply In.there | apply In.skip)); rintro _ _ ⟨rfl, rfl⟩)
      | (apply G_call; eq_refl; eq_refl; (apply hRen2; (repeat first | exact In.here | apply In.there | apply In.skip)); rintro _ _ ⟨h2, js2, A2, k2, base2, rfl, rfl⟩)
      | (apply G_call; eq_refl; eq_refl; (apply hSame; (repeat first | exact In.here | apply In.there | apply In.skip); (repeat first | exact In.here | apply In.there | apply In.skip); (repeat first | exact In.here | apply In.there | apply In.skip)); rintro _ _ ⟨rfl, rfl⟩)
      | (apply GC_seqK; intro K hK)
      | (apply hK; clear hK K)
      | (clear hK K; apply hK; clear hK K)
      | (clear hK K; clear hK K; apply hK; clear hK K)
      | (clear hK K; clear hK K; clear hK K; apply hK; clear hK K)
      | (apply GC_block)
      | (apply GC_region)
      | (apply GL_nil)
      | (apply thenG_normal)
      | (apply thenG_ret)
      | (apply thenG_exit)
      | (apply blockG_hit)
      | (apply blockG_miss; eq_refl)
      | (apply blockG_ret)
      | (apply blockG_normal)
      | (apply GC_ret)
      | (apply GC_exit)
      | (apply GC_skip)
      | (apply GC_if_true; eq_refl)
      | (apply GC_if_false; eq_refl)
      | (apply GC_ifD; eq_refl; all_goals intro _)
      | (apply GC_if; eq_refl; all_goals intro _)
      | (apply retG1; eq_refl)
      | (apply retG2; eq_refl; eq_refl)
      | (apply retG3; eq_refl; eq_refl; eq_refl)
      | (apply retG0)
      | (apply retG0n)
      | (apply GL_on; eq_refl; eq_refl)
      | (apply GL_off; eq_refl; eq_refl)
      | (apply GL_offU; eq_refl; eq_refl; eq_refl)
      | (apply GL_split; eq_refl; eq_refl; all_goals intro _)
      | (refine GC_draws (id := 28) [.q 0, .q 1, .q 2, .q 3, .q 4, .q 5, .q 6, .q 7, .q 8, .q 9, .q 10, .q 11, .q 12, .q 13] mixed (by kernel_rfl) (by kernel_rfl) ?_)
      | (refine GC_draws (id := 34) [.q 0, .q 1, .q 2, .q 3, .q 4, .q 5, .q 6, .q 7, .q 8, .q 9, .q 10, .q 11, .q 12, .q 13, .q 14, .q 15, .q 16, .q 17, .q 18, .q 19, .q 20, .q 21, .q 22, .q 23, .q 24, .q 25, .q 26, .q 27, .q 28, .q 29, .q 30, .q 31] mixed (by kernel_rfl) (by kernel_rfl) ?_)
      | (apply GS_nil)
      | (apply GS_qon; eq_refl; eq_refl; eq_refl; eq_refl)
      | (apply GS_qoff; eq_refl; eq_refl; eq_refl; eq_refl)
      | (apply GS_qoffU; eq_refl; eq_refl; eq_refl; eq_refl; eq_refl)
      | (apply GS_con; eq_refl; eq_refl; eq_refl; eq_refl)
      | (apply GS_coff; eq_refl; eq_refl; eq_refl; eq_refl)
      | (apply GS_splitQ; eq_refl; eq_refl; eq_refl; eq_refl; all_goals intro _)
      | (apply GS_splitC; eq_refl; eq_refl; eq_refl; eq_refl; all_goals intro _)
      | (apply G_pv; eq_refl; first | exact trivial | omega)
      | (apply G_field; eq_refl)
      | (apply G_fieldP; eq_refl)
      | (apply G_ld; eq_refl; (repeat first | exact In.here | apply In.there | apply In.skip); eq_refl)
      | (apply G_ldW; eq_refl; (repeat first | exact In.here | apply In.there | apply In.skip); eq_refl)
      | (apply G_ldO; eq_refl; (repeat first | exact In.here | apply In.there | apply In.skip); assumption; eq_refl)
      | (apply G_ldR; eq_refl; (apply RdB.oldR; (repeat first | exact In.here | apply In.there | apply In.skip); assumption); eq_refl)
      | (apply G_ldOW; eq_refl; (repeat first | exact In.here | apply In.there | apply In.skip); assumption; eq_refl)
      | (apply G_rd; eq_refl; (first | (apply Rd.own; (repeat first | exact In.here | apply In.there | apply In.skip); infer_instance) | (apply Rd.old; (repeat first | exact In.here | apply In.there | apply In.skip); assumption) | (apply Rd.oldR; (repeat first | exact In.here | apply In.there | apply In.skip); assumption) | exact Rd.nil | assumption); (case ih => infer_instance); omega; omega; eq_refl)
      | (apply G_rdF; eq_refl; (first | (apply Rd.own; (repeat first | exact In.here | apply In.there | apply In.skip); infer_instance) | (apply Rd.old; (repeat first | exact In.here | apply In.there | apply In.skip); assumption) | (apply Rd.oldR; (repeat first | exact In.here | apply In.there | apply In.skip); assumption) | exact Rd.nil | assumption); (case ih => infer_instance); omega; omega; eq_refl)
      | (apply G_rdW; eq_refl; (first | (apply Rd.own; (repeat first | exact In.here | apply In.there | apply In.skip); infer_instance) | (apply Rd.old; (repeat first | exact In.here | apply In.there | apply In.skip); assumption) | (apply Rd.oldR; (repeat first | exact In.here | apply In.there | apply In.skip); assumption) | exact Rd.nil | assumption); infer_instance; (case ih => infer_instance); omega; omega)
      | (apply G_cmpT; eq_refl; eq_refl; omega)
      | (apply G_cmpF; eq_refl; eq_refl; omega)
      | (apply G_cmp; eq_refl; eq_refl; all_goals intro _)
      | (apply G_len; eq_refl)
      | (apply G_lenS; eq_refl)
      | (apply G_ix; eq_refl; eq_refl; (first | (apply Rd.own; (repeat first | exact In.here | apply In.there | apply In.skip); infer_instance) | (apply Rd.old; (repeat first | exact In.here | apply In.there | apply In.skip); assumption) | (apply Rd.oldR; (repeat first | exact In.here | apply In.there | apply In.skip); assumption) | exact Rd.nil | assumption); (first | eq_refl | omega); omega; omega)
      | (apply G_ixA; eq_refl; eq_refl; omega; omega)
      | (apply G_eqB; eq_refl; eq_refl)
      | (apply G_neqB; eq_refl; eq_refl)
      | (apply G_eqP; eq_refl; eq_refl)
      | (apply G_eqL; eq_refl; eq_refl)
      | (apply G_pickAnd; eq_refl; eq_refl)
      | (apply G_pickOr; eq_refl; eq_refl)
      | (apply G_alloc; eq_refl; intro _)
      | (apply G_box; eq_refl; eq_refl; intro _)
      | (apply G_stV; (first | exact wr_p | kernel_rfl); eq_refl; eq_refl; eq_refl; eq_refl; (repeat first | exact Upd.here | apply Upd.there | apply Upd.skip); infer_instance; infer_instance; eq_refl; omega; (try simp only [List.length_set, List.length_append, List.length_replicate]); omega)
      | (apply G_st; (first | exact wr_p | kernel_rfl); eq_refl; eq_refl; eq_refl; eq_refl; (repeat first | exact Upd.here | apply Upd.there | apply Upd.skip); (first | decide | exact Nat.le_of_ble_eq_true rfl))
      | (apply G_stW; (first | exact wr_p | kernel_rfl); eq_refl; eq_refl; eq_refl; eq_refl; (repeat first | exact Upd.here | apply Upd.there | apply Upd.skip); eq_refl)
      | (apply G_make booc; eq_refl; eq_refl; eq_refl; omega; decide; intro _)
      | (apply G_makeI booc; eq_refl; eq_refl; omega; eq_refl; omega; decide; intro _)
      | (apply G_makeI icell; eq_refl; eq_refl; omega; eq_refl; omega; decide; intro _)
      | (apply G_make icell; eq_refl; eq_refl; eq_refl; omega; decide; intro _))
    rename_i b1 b3 b8 b11
    refine GC_loopK [1, 3, 4, 11, 93, 94] (fun s : Nat × List Bool × Int => [(12, nu s.2.2), (95, nu s.1)]) (fun s => [.vec booc 1 4 (some ⟨b11, 0, none⟩) ((renC c).max + 1).toNat s.2.1, .box b3 51 (ccells (renC c) h'), .any (renX base c h' js' A k), .box b1 51 (ccells c h), .old w none_])
      (fun s => s.1 ≤ (toM c).length ∧ s.2.1.length = ((renC c).max + 1).toNat ∧ s.2.2 = manyTo (toM c) s.1 ∧ ∀ k : Int, 0 < k → k ≤ (defsOf c (ordM c)).length → (gt s.2.1 k = true ↔ ∃ v : Nat, v < s.1 ∧ gt (toM c) (v : Int) = 2 * k)) (fun s => (toM c).length - s.1) (0, List.replicate ((renC c).max + 1).toNat false, 0) (by repeat first | exact Pick.nil | (apply Pick.cons; eq_refl)) (by repeat first | exact trivial | refine ⟨rfl, ?_⟩) (by repeat first | exact Wk.nil | exact Wk.refl | (apply Wk.cons; (focus ((repeat first | exact Rem.here | apply Rem.there | apply Rem.skip); done))) | apply Wk.nilv | apply Wk.last | apply Wk.drop) ⟨Nat.zero_le _, List.length_replicate, rfl, fun k h0 h1 => ⟨fun hh => absurd (hh.symm.trans (gt_rep _ k)) (by decide), fun ⟨v, hv, _⟩ => absurd hv (Nat.not_lt_zero _)⟩⟩ ?_
    rintro ⟨i, sn, mn⟩ ⟨hi, hsn, hmn, hse⟩
    dsimp only at hi hsn hmn hse ⊢
    rcases Nat.lt_or_ge i (toM c).length with hlt | hge
    · have hml := manyTo_le (toM c) i
      have ht := manyTo_t (to := toM c) (i := i)
      have hf := manyTo_f (to := toM c) (i := i)
      have hinj : ∀ v : Nat, v < i → 0 < gt (toM c) (i : Int) → gt (toM c) (i : Int) = gt (toM c) (v : Int) → False := fun v hv h0 e => by have := R.to_inj (by omega) (by omega) h0 e; omega
      have hz : i = 0 → gt (toM c) (i : Int) = 0 := fun e => by
        subst e
        rw [gt_L]
        exact R.to_no (Int.le_refl _) fun k hk => by have := R.defs hk; unfold defR at this; omega
      have hcs : gt (toM c) (i : Int) = 0 ∨ ∃ j : Nat, j < (defsOf c (ordM c)).length ∧ gt (toM c) (i : Int) = 2 * (j : Int) + 2 := by
        rw [gt_L]
        rcases R.to_cases (v := (i : Int)) (by omega) with ⟨e, _⟩ | ⟨j, hj, _, e⟩
        · exact .inl e
        · exact .inr ⟨j, hj, e⟩
      generalize hl : gt (toM c) (i : Int) = l at *
      rcases hcs with h0 | ⟨j, hj, h0⟩
      · subst h0
        repeat' (first
      | (apply G_ix; eq_refl; eq_refl; (apply Rd.ren (c := c); (repeat first | exact In.here | apply In.there | apply In.skip)); (first | eq_refl | omega); omega; omega)
      | (apply G_rd; eq_refl; (apply Rd.ren (c := c); (repeat first | exact In.here | apply In.there | apply In.skip)); (case ih => infer_instance); omega; omega; (rw [hl]; eq_refl))
      | (apply GC_seqK; intro K hK)
      | (apply hK; clear hK K)
      | (clear hK K; apply hK; clear hK K)
      | (clear hK K; clear hK K; apply hK; clear hK K)
      | (clear hK K; clear hK K; clear hK K; apply hK; clear hK K)
      | (apply GC_block)
      | (apply GC_region)
      | (apply GL_nil)
      | (apply thenG_normal)
      | (apply thenG_ret)
      | (apply thenG_exit)
      | (apply blockG_hit)
      | (apply blockG_miss; eq_refl)
      | (apply blockG_ret)
      | (apply blockG_normal)
      | (apply GC_ret)
      | (apply GC_exit)
      | (apply GC_skip)
      | (apply GC_if_true; eq_refl)
      | (apply GC_if_false; eq_refl)
      | (apply GC_ifD; eq_refl; all_goals intro _)
      | (apply GC_if; eq_refl; all_goals intro _)
      | (apply retG1; eq_refl)
      | (apply retG2; eq_refl; eq_refl)
      | (apply retG3; eq_refl; eq_refl; eq_refl)
      | (apply retG0)
      | (apply retG0n)
      | (apply GL_on; eq_refl; eq_refl)
      | (apply GL_off; eq_refl; eq_refl)
      | (apply GL_offU; eq_refl; eq_refl; eq_refl)
      | (apply GL_split; eq_refl; eq_refl; all_goals intro _)
      | (refine GC_draws (id := 28) [.q 0, .q 1, .q 2, .q 3, .q 4, .q 5, .q 6, .q 7, .q 8, .q 9, .q 10, .q 11, .q 12, .q 13] mixed (by kernel_rfl) (by kernel_rfl) ?_)
      | (refine GC_draws (id := 34) [.q 0, .q 1, .q 2, .q 3, .q 4, .q 5, .q 6, .q 7, .q 8, .q 9, .q 10, .q 11, .q 12, .q 13, .q 14, .q 15, .q 16, .q 17, .q 18, .q 19, .q 20, .q 21, .q 22, .q 23, .q 24, .q 25, .q 26, .q 27, .q 28, .q 29, .q 30, .q 31] mixed (by kernel_rfl) (by kernel_rfl) ?_)
      | (apply GS_nil)
      | (apply GS_qon; eq_refl; eq_refl; eq_refl; eq_refl)
      | (apply GS_qoff; eq_refl; eq_refl; eq_refl; eq_refl)
      | (apply GS_qoffU; eq_refl; eq_refl; eq_refl; eq_refl; eq_refl)
      | (apply GS_con; eq_refl; eq_refl; eq_refl; eq_refl)
      | (apply GS_coff; eq_refl; eq_refl; eq_refl; eq_refl)
      | (apply GS_splitQ; eq_refl; eq_refl; eq_refl; eq_refl; all_goals intro _)
      | (apply GS_splitC; eq_refl; eq_refl; eq_refl; eq_refl; all_goals intro _)
      | (apply G_pv; eq_refl; first | exact trivial | omega)
      | (apply G_field; eq_refl)
      | (apply G_fieldP; eq_refl)
      | (apply G_ld; eq_refl; (repeat first | exact In.here | apply In.there | apply In.skip); eq_refl)
      | (apply G_ldW; eq_refl; (repeat first | exact In.here | apply In.there | apply In.skip); eq_refl)
      | (apply G_ldO; eq_refl; (repeat first | exact In.here | apply In.there | apply In.skip); assumption; eq_refl)
      | (apply G_ldR; eq_refl; (apply RdB.oldR; (repeat first | exact In.here | apply In.there | apply In.skip); assumption); eq_refl)
      | (apply G_ldOW; eq_refl; (repeat first | exact In.here | apply In.there | apply In.skip); assumption; eq_refl)
      | (apply G_rd; eq_refl; (first | (apply Rd.own; (repeat first | exact In.here | apply In.there | apply In.skip); infer_instance) | (apply Rd.old; (repeat first | exact In.here | apply In.there | apply In.skip); assumption) | (apply Rd.oldR; (repeat first | exact In.here | apply In.there | apply In.skip); assumption) | exact Rd.nil | assumption); (case ih => infer_instance); omega; omega; eq_refl)
      | (apply G_rdF; eq_refl; (first | (apply Rd.own; (repeat first | exact In.here | apply In.there | apply In.skip); infer_instance) | (apply Rd.old; (repeat first | exact In.here | apply In.there | apply In.skip); assumption) | (apply Rd.oldR; (repeat first | exact In.here | apply In.there | apply In.skip); assumption) | exact Rd.nil | assumption); (case ih => infer_instance); omega; omega; eq_refl)
      | (apply G_rdW; eq_refl; (first | (apply Rd.own; (repeat first | exact In.here | apply In.there | apply In.skip); infer_instance) | (apply Rd.old; (repeat first | exact In.here | apply In.there | apply In.skip); assumption) | (apply Rd.oldR; (repeat first | exact In.here | apply In.there | apply In.skip); assumption) | exact Rd.nil | assumption); infer_instance; (case ih => infer_instance); omega; omega)
      | (apply G_cmpT; eq_refl; eq_refl; omega)
      | (apply G_cmpF; eq_refl; eq_refl; omega)
      | (apply G_cmp; eq_refl; eq_refl; all_goals intro _)
      | (apply G_len; eq_refl)
      | (apply G_lenS; eq_refl)
      | (apply G_ix; eq_refl; eq_refl; (first | (apply Rd.own; (repeat first | exact In.here | apply In.there | apply In.skip); infer_instance) | (apply Rd.old; (repeat first | exact In.here | apply In.there | apply In.skip); assumption) | (apply Rd.oldR; (repeat first | exact In.here | apply In.there | apply In.skip); assumption) | exact Rd.nil | assumption); (first | eq_refl | omega); omega; omega)
      | (apply G_ixA; eq_refl; eq_refl; omega; omega)
      | (apply G_eqB; eq_refl; eq_refl)
      | (apply G_neqB; eq_refl; eq_refl)
      | (apply G_eqP; eq_refl; eq_refl)
      | (apply G_eqL; eq_refl; eq_refl)
      | (apply G_pickAnd; eq_refl; eq_refl)
      | (apply G_pickOr; eq_refl; eq_refl)
      | (apply G_alloc; eq_refl; intro _)
      | (apply G_box; eq_refl; eq_refl; intro _)
      | (apply G_stV; (first | exact wr_p | kernel_rfl); eq_refl; eq_refl; eq_refl; eq_refl; (repeat first | exact Upd.here | apply Upd.there | apply Upd.skip); infer_instance; infer_instance; eq_refl; omega; (try simp only [List.length_set, List.length_append, List.length_replicate]); omega)
      | (apply G_st; (first | exact wr_p | kernel_rfl); eq_refl; eq_refl; eq_refl; eq_refl; (repeat first | exact Upd.here | apply Upd.there | apply Upd.skip); (first | decide | exact Nat.le_of_ble_eq_true rfl))
      | (apply G_stW; (first | exact wr_p | kernel_rfl); eq_refl; eq_refl; eq_refl; eq_refl; (repeat first | exact Upd.here | apply Upd.there | apply Upd.skip); eq_refl)
      | (apply G_make booc; eq_refl; eq_refl; eq_refl; omega; decide; intro _)
      | (apply G_makeI booc; eq_refl; eq_refl; omega; eq_refl; omega; decide; intro _)
      | (apply G_makeI icell; eq_refl; eq_refl; omega; eq_refl; omega; decide; intro _)
      | (apply G_make icell; eq_refl; eq_refl; eq_refl; omega; decide; intro _))
        all_goals exact ⟨(i + 1, sn, mn), (by repeat first | exact trivial | refine ⟨rfl, ?_⟩), (by repeat first | exact Wk.nil | exact Wk.refl | (apply Wk.cons; (focus ((repeat first | exact Rem.here | apply Rem.there | apply Rem.skip); done))) | apply Wk.nilv | apply Wk.last | apply Wk.drop), ⟨hlt, hsn, by simp only; rw [hf (by omega)]; exact hmn, fun k q0 q1 => (hse k q0 q1).trans ⟨fun ⟨v, hv, e⟩ => ⟨v, by omega, e⟩, fun ⟨v, hv, e⟩ => ⟨v, by rcases Nat.lt_or_ge v i with q | q; exact q; obtain rfl : v = i := (by simp only at hv; omega); rw [hl] at e; omega, e⟩⟩⟩, by simp only; omega⟩
      · have hs0 : gt sn (l / 2) = false := by
          cases hb : gt sn (l / 2)
          · rfl
          · obtain ⟨v, hv, e⟩ := (hse (l / 2) (by omega) (by omega)).1 hb
            exact (hinj v hv (by omega) (by omega)).elim
        repeat' (first
      | (apply G_ix; eq_refl; eq_refl; (apply Rd.ren (c := c); (repeat first | exact In.here | apply In.there | apply In.skip)); (first | eq_refl | omega); omega; omega)
      | (apply G_rd; eq_refl; (apply Rd.ren (c := c); (repeat first | exact In.here | apply In.there | apply In.skip)); (case ih => infer_instance); omega; omega; (rw [hl]; eq_refl))
      | (apply G_rd; eq_refl; (first | (apply Rd.own; (repeat first | exact In.here | apply In.there | apply In.skip); infer_instance) | (apply Rd.old; (repeat first | exact In.here | apply In.there | apply In.skip); assumption) | (apply Rd.oldR; (repeat first | exact In.here | apply In.there | apply In.skip); assumption) | exact Rd.nil | assumption); (case ih => infer_instance); omega; omega; (rw [hs0]; eq_refl))
      | (apply GC_seqK; intro K hK)
      | (apply hK; clear hK K)
      | (clear hK K; apply hK; clear hK K)
      | (clear hK K; clear hK K; apply hK; clear hK K)
      | (clear hK K; clear hK K; clear hK K; apply hK; clear hK K)
      | (apply GC_block)
      | (apply GC_region)
      | (apply GL_nil)
      | (apply thenG_normal)
      | (apply thenG_ret)
      | (apply thenG_exit)
      | (apply blockG_hit)
      | (apply blockG_miss; eq_refl)
      | (apply blockG_ret)
      | (apply blockG_normal)
      | (apply GC_ret)
      | (apply GC_exit)
      | (apply GC_skip)
      | (apply GC_if_true; eq_refl)
      | (apply GC_if_false; eq_refl)
      | (apply GC_ifD; eq_refl; all_goals intro _)
      | (apply GC_if; eq_refl; all_goals intro _)
      | (apply retG1; eq_refl)
      | (apply retG2; eq_refl; eq_refl)
      | (apply retG3; eq_refl; eq_refl; eq_refl)
      | (apply retG0)
      | (apply retG0n)
      | (apply GL_on; eq_refl; eq_refl)
      | (apply GL_off; eq_refl; eq_refl)
      | (apply GL_offU; eq_refl; eq_refl; eq_refl)
      | (apply GL_split; eq_refl; eq_refl; all_goals intro _)
      | (refine GC_draws (id := 28) [.q 0, .q 1, .q 2, .q 3, .q 4, .q 5, .q 6, .q 7, .q 8, .q 9, .q 10, .q 11, .q 12, .q 13] mixed (by kernel_rfl) (by kernel_rfl) ?_)
      | (refine GC_draws (id := 34) [.q 0, .q 1, .q 2, .q 3, .q 4, .q 5, .q 6, .q 7, .q 8, .q 9, .q 10, .q 11, .q 12, .q 13, .q 14, .q 15, .q 16, .q 17, .q 18, .q 19, .q 20, .q 21, .q 22, .q 23, .q 24, .q 25, .q 26, .q 27, .q 28, .q 29, .q 30, .q 31] mixed (by kernel_rfl) (by kernel_rfl) ?_)
      | (apply GS_nil)
      | (apply GS_qon; eq_refl; eq_refl; eq_refl; eq_refl)
      | (apply GS_qoff; eq_refl; eq_refl; eq_refl; eq_refl)
      | (apply GS_qoffU; eq_refl; eq_refl; eq_refl; eq_refl; eq_refl)
      | (apply GS_con; eq_refl; eq_refl; eq_refl; eq_refl)
      | (apply GS_coff; eq_refl; eq_refl; eq_refl; eq_refl)
      | (apply GS_splitQ; eq_refl; eq_refl; eq_refl; eq_refl; all_goals intro _)
      | (apply GS_splitC; eq_refl; eq_refl; eq_refl; eq_refl; all_goals intro _)
      | (apply G_pv; eq_refl; first | exact trivial | omega)
      | (apply G_field; eq_refl)
      | (apply G_fieldP; eq_refl)
      | (apply G_ld; eq_refl; (repeat first | exact In.here | apply In.there | apply In.skip); eq_refl)
      | (apply G_ldW; eq_refl; (repeat first | exact In.here | apply In.there | apply In.skip); eq_refl)
      | (apply G_ldO; eq_refl; (repeat first | exact In.here | apply In.there | apply In.skip); assumption; eq_refl)
      | (apply G_ldR; eq_refl; (apply RdB.oldR; (repeat first | exact In.here | apply In.there | apply In.skip); assumption); eq_refl)
      | (apply G_ldOW; eq_refl; (repeat first | exact In.here | apply In.there | apply In.skip); assumption; eq_refl)
      | (apply G_rd; eq_refl; (first | (apply Rd.own; (repeat first | exact In.here | apply In.there | apply In.skip); infer_instance) | (apply Rd.old; (repeat first | exact In.here | apply In.there | apply In.skip); assumption) | (apply Rd.oldR; (repeat first | exact In.here | apply In.there | apply In.skip); assumption) | exact Rd.nil | assumption); (case ih => infer_instance); omega; omega; eq_refl)
      | (apply G_rdF; eq_refl; (first | (apply Rd.own; (repeat first | exact In.here | apply In.there | apply In.skip); infer_instance) | (apply Rd.old; (repeat first | exact In.here | apply In.there | apply In.skip); assumption) | (apply Rd.oldR; (repeat first | exact In.here | apply In.there | apply In.skip); assumption) | exact Rd.nil | assumption); (case ih => infer_instance); omega; omega; eq_refl)
      | (apply G_rdW; eq_refl; (first | (apply Rd.own; (repeat first | exact In.here | apply In.there | apply In.skip); infer_instance) | (apply Rd.old; (repeat first | exact In.here | apply In.there | apply In.skip); assumption) | (apply Rd.oldR; (repeat first | exact In.here | apply In.there | apply In.skip); assumption) | exact Rd.nil | assumption); infer_instance; (case ih => infer_instance); omega; omega)
      | (apply G_cmpT; eq_refl; eq_refl; omega)
      | (apply G_cmpF; eq_refl; eq_refl; omega)
      | (apply G_cmp; eq_refl; eq_refl; all_goals intro _)
      | (apply G_len; eq_refl)
      | (apply G_lenS; eq_refl)
      | (apply G_ix; eq_refl; eq_refl; (first | (apply Rd.own; (repeat first | exact In.here | apply In.there | apply In.skip); infer_instance) | (apply Rd.old; (repeat first | exact In.here | apply In.there | apply In.skip); assumption) | (apply Rd.oldR; (repeat first | exact In.here | apply In.there | apply In.skip); assumption) | exact Rd.nil | assumption); (first | eq_refl | omega); omega; omega)
      | (apply G_ixA; eq_refl; eq_refl; omega; omega)
      | (apply G_eqB; eq_refl; eq_refl)
      | (apply G_neqB; eq_refl; eq_refl)
      | (apply G_eqP; eq_refl; eq_refl)
      | (apply G_eqL; eq_refl; eq_refl)
      | (apply G_pickAnd; eq_refl; eq_refl)
      | (apply G_pickOr; eq_refl; eq_refl)
      | (apply G_alloc; eq_refl; intro _)
      | (apply G_box; eq_refl; eq_refl; intro _)
      | (apply G_stV; (first | exact wr_p | kernel_rfl); eq_refl; eq_refl; eq_refl; eq_refl; (repeat first | exact Upd.here | apply Upd.there | apply Upd.skip); infer_instance; infer_instance; eq_refl; omega; (try simp only [List.length_set, List.length_append, List.length_replicate]); omega)
      | (apply G_st; (first | exact wr_p | kernel_rfl); eq_refl; eq_refl; eq_refl; eq_refl; (repeat first | exact Upd.here | apply Upd.there | apply Upd.skip); (first | decide | exact Nat.le_of_ble_eq_true rfl))
      | (apply G_stW; (first | exact wr_p | kernel_rfl); eq_refl; eq_refl; eq_refl; eq_refl; (repeat first | exact Upd.here | apply Upd.there | apply Upd.skip); eq_refl)
      | (apply G_make booc; eq_refl; eq_refl; eq_refl; omega; decide; intro _)
      | (apply G_makeI booc; eq_refl; eq_refl; omega; eq_refl; omega; decide; intro _)
      | (apply G_makeI icell; eq_refl; eq_refl; omega; eq_refl; omega; decide; intro _)
      | (apply G_make icell; eq_refl; eq_refl; eq_refl; omega; decide; intro _))
        exact ⟨(i + 1, sn.set (l / 2).toNat true, mn + 1), (by repeat first | exact trivial | refine ⟨rfl, ?_⟩), (by repeat first | exact Wk.nil | exact Wk.refl | (apply Wk.cons; (focus ((repeat first | exact Rem.here | apply Rem.there | apply Rem.skip); done))) | apply Wk.nilv | apply Wk.last | apply Wk.drop), ⟨hlt, by simp only; rw [List.length_set]; exact hsn, by simp only; rw [ht (by omega), hmn]; rfl, fun k q0 q1 => by
          simp only
          by_cases hk : k = l / 2
          · rw [hk, gt_set_eq (by omega) (by omega)]
            exact ⟨fun _ => ⟨i, by omega, by rw [hl]; omega⟩, fun _ => rfl⟩
          · rw [gt_set_ne (by omega) (by omega) hk]
            exact (hse k q0 q1).trans ⟨fun ⟨v, hv, e⟩ => ⟨v, by omega, e⟩, fun ⟨v, hv, e⟩ => ⟨v, by rcases Nat.lt_or_ge v i with q | q; exact q; obtain rfl : v = i := (by omega); rw [hl] at e; omega, e⟩⟩⟩, by simp only; omega⟩
    obtain rfl : i = (toM c).length := by omega
    have hmm := R.many_all
    have hB := H.at_.bads
    have n4 := R.nBad
    repeat' (first
      | (apply GC_seqK; intro K hK)
      | (apply hK; clear hK K)
      | (clear hK K; apply hK; clear hK K)
      | (clear hK K; clear hK K; apply hK; clear hK K)
      | (clear hK K; clear hK K; clear hK K; apply hK; clear hK K)
      | (apply GC_block)
      | (apply GC_region)
      | (apply GL_nil)
      | (apply thenG_normal)
      | (apply thenG_ret)
      | (apply thenG_exit)
      | (apply blockG_hit)
      | (apply blockG_miss; eq_refl)
      | (apply blockG_ret)
      | (apply blockG_normal)
      | (apply GC_ret)
      | (apply GC_exit)
      | (apply GC_skip)
      | (apply GC_if_true; eq_refl)
      | (apply GC_if_false; eq_refl)
      | (apply GC_ifD; eq_refl; all_goals intro _)
      | (apply GC_if; eq_refl; all_goals intro _)
      | (apply retG1; eq_refl)
      | (apply retG2; eq_refl; eq_refl)
      | (apply retG3; eq_refl; eq_refl; eq_refl)
      | (apply retG0)
      | (apply retG0n)
      | (apply GL_on; eq_refl; eq_refl)
      | (apply GL_off; eq_refl; eq_refl)
      | (apply GL_offU; eq_refl; eq_refl; eq_refl)
      | (apply GL_split; eq_refl; eq_refl; all_goals intro _)
      | (refine GC_draws (id := 28) [.q 0, .q 1, .q 2, .q 3, .q 4, .q 5, .q 6, .q 7, .q 8, .q 9, .q 10, .q 11, .q 12, .q 13] mixed (by kernel_rfl) (by kernel_rfl) ?_)
      | (refine GC_draws (id := 34) [.q 0, .q 1, .q 2, .q 3, .q 4, .q 5, .q 6, .q 7, .q 8, .q 9, .q 10, .q 11, .q 12, .q 13, .q 14, .q 15, .q 16, .q 17, .q 18, .q 19, .q 20, .q 21, .q 22, .q 23, .q 24, .q 25, .q 26, .q 27, .q 28, .q 29, .q 30, .q 31] mixed (by kernel_rfl) (by kernel_rfl) ?_)
      | (apply GS_nil)
      | (apply GS_qon; eq_refl; eq_refl; eq_refl; eq_refl)
      | (apply GS_qoff; eq_refl; eq_refl; eq_refl; eq_refl)
      | (apply GS_qoffU; eq_refl; eq_refl; eq_refl; eq_refl; eq_refl)
      | (apply GS_con; eq_refl; eq_refl; eq_refl; eq_refl)
      | (apply GS_coff; eq_refl; eq_refl; eq_refl; eq_refl)
      | (apply GS_splitQ; eq_refl; eq_refl; eq_refl; eq_refl; all_goals intro _)
      | (apply GS_splitC; eq_refl; eq_refl; eq_refl; eq_refl; all_goals intro _)
      | (apply G_pv; eq_refl; first | exact trivial | omega)
      | (apply G_field; eq_refl)
      | (apply G_fieldP; eq_refl)
      | (apply G_ld; eq_refl; (repeat first | exact In.here | apply In.there | apply In.skip); eq_refl)
      | (apply G_ldW; eq_refl; (repeat first | exact In.here | apply In.there | apply In.skip); eq_refl)
      | (apply G_ldO; eq_refl; (repeat first | exact In.here | apply In.there | apply In.skip); assumption; eq_refl)
      | (apply G_ldR; eq_refl; (apply RdB.oldR; (repeat first | exact In.here | apply In.there | apply In.skip); assumption); eq_refl)
      | (apply G_ldOW; eq_refl; (repeat first | exact In.here | apply In.there | apply In.skip); assumption; eq_refl)
      | (apply G_rd; eq_refl; (first | (apply Rd.own; (repeat first | exact In.here | apply In.there | apply In.skip); infer_instance) | (apply Rd.old; (repeat first | exact In.here | apply In.there | apply In.skip); assumption) | (apply Rd.oldR; (repeat first | exact In.here | apply In.there | apply In.skip); assumption) | exact Rd.nil | assumption); (case ih => infer_instance); omega; omega; eq_refl)
      | (apply G_rdF; eq_refl; (first | (apply Rd.own; (repeat first | exact In.here | apply In.there | apply In.skip); infer_instance) | (apply Rd.old; (repeat first | exact In.here | apply In.there | apply In.skip); assumption) | (apply Rd.oldR; (repeat first | exact In.here | apply In.there | apply In.skip); assumption) | exact Rd.nil | assumption); (case ih => infer_instance); omega; omega; eq_refl)
      | (apply G_rdW; eq_refl; (first | (apply Rd.own; (repeat first | exact In.here | apply In.there | apply In.skip); infer_instance) | (apply Rd.old; (repeat first | exact In.here | apply In.there | apply In.skip); assumption) | (apply Rd.oldR; (repeat first | exact In.here | apply In.there | apply In.skip); assumption) | exact Rd.nil | assumption); infer_instance; (case ih => infer_instance); omega; omega)
      | (apply G_cmpT; eq_refl; eq_refl; omega)
      | (apply G_cmpF; eq_refl; eq_refl; omega)
      | (apply G_cmp; eq_refl; eq_refl; all_goals intro _)
      | (apply G_len; eq_refl)
      | (apply G_lenS; eq_refl)
      | (apply G_ix; eq_refl; eq_refl; (first | (apply Rd.own; (repeat first | exact In.here | apply In.there | apply In.skip); infer_instance) | (apply Rd.old; (repeat first | exact In.here | apply In.there | apply In.skip); assumption) | (apply Rd.oldR; (repeat first | exact In.here | apply In.there | apply In.skip); assumption) | exact Rd.nil | assumption); (first | eq_refl | omega); omega; omega)
      | (apply G_ixA; eq_refl; eq_refl; omega; omega)
      | (apply G_eqB; eq_refl; eq_refl)
      | (apply G_neqB; eq_refl; eq_refl)
      | (apply G_eqP; eq_refl; eq_refl)
      | (apply G_eqL; eq_refl; eq_refl)
      | (apply G_pickAnd; eq_refl; eq_refl)
      | (apply G_pickOr; eq_refl; eq_refl)
      | (apply G_alloc; eq_refl; intro _)
      | (apply G_box; eq_refl; eq_refl; intro _)
      | (apply G_stV; (first | exact wr_p | kernel_rfl); eq_refl; eq_refl; eq_refl; eq_refl; (repeat first | exact Upd.here | apply Upd.there | apply Upd.skip); infer_instance; infer_instance; eq_refl; omega; (try simp only [List.length_set, List.length_append, List.length_replicate]); omega)
      | (apply G_st; (first | exact wr_p | kernel_rfl); eq_refl; eq_refl; eq_refl; eq_refl; (repeat first | exact Upd.here | apply Upd.there | apply Upd.skip); (first | decide | exact Nat.le_of_ble_eq_true rfl))
      | (apply G_stW; (first | exact wr_p | kernel_rfl); eq_refl; eq_refl; eq_refl; eq_refl; (repeat first | exact Upd.here | apply Upd.there | apply Upd.skip); eq_refl)
      | (apply G_make booc; eq_refl; eq_refl; eq_refl; omega; decide; intro _)
      | (apply G_makeI booc; eq_refl; eq_refl; omega; eq_refl; omega; decide; intro _)
      | (apply G_makeI icell; eq_refl; eq_refl; omega; eq_refl; omega; decide; intro _)
      | (apply G_make icell; eq_refl; eq_refl; eq_refl; omega; decide; intro _))
    refine GC_loopK [1, 3, 4, 168, 169] (fun i : Nat => [(170, nu i)]) (fun _ => [.box b3 51 (ccells (renC c) h'), .any (renX base c h' js' A k), .box b1 51 (ccells c h), .old w none_]) (fun i => i ≤ c.bads.length) (fun i => c.bads.length - i) 0 (by repeat first | exact Pick.nil | (apply Pick.cons; eq_refl)) (by repeat first | exact trivial | refine ⟨rfl, ?_⟩) (by repeat first | exact Wk.nil | exact Wk.refl | (apply Wk.cons; (focus ((repeat first | exact Rem.here | apply Rem.there | apply Rem.skip); done))) | apply Wk.nilv | apply Wk.last | apply Wk.drop) (Nat.zero_le _) ?_
    intro i hi
    rcases Nat.lt_or_ge i c.bads.length with hlt | hge
    · have hin := R.bad (gt_mem (l := c.bads) (i := (i : Int)) (by omega) (by omega))
      have hx : gt (renC c).bads (i : Int) = gt (toM c) (gt c.bads (i : Int) / 2) + gt c.bads (i : Int) % 2 := (gt_map (f := litM (toM c)) hlt).trans (litM_gt _ _)
      have hp := R.lit_le hin.1
      have hq := R.to_even (v := gt c.bads (i : Int) / 2) (by unfold inR at hin; omega)
      rw [litM_gt] at hp
      rw [← gt_L] at hq
      unfold inR at hin
      generalize hl : gt c.bads (i : Int) = l at *
      generalize hg : gt (toM c) (l / 2) = p at *
      repeat' (first
      | (apply G_ix; eq_refl; eq_refl; (apply Rd.ren (c := c); (repeat first | exact In.here | apply In.there | apply In.skip)); (first | eq_refl | omega); omega; omega)
      | (apply G_ix; eq_refl; eq_refl; (apply Rd.rbads (c := c); (repeat first | exact In.here | apply In.there | apply In.skip)); (first | eq_refl | omega); omega; omega)
      | (apply G_rd; eq_refl; (apply Rd.ren (c := c); (repeat first | exact In.here | apply In.there | apply In.skip)); (case ih => infer_instance); omega; omega; (rw [hg]; eq_refl))
      | (apply G_rd; eq_refl; (apply Rd.rbads (c := c); (repeat first | exact In.here | apply In.there | apply In.skip)); (case ih => infer_instance); omega; omega; (rw [hx]; eq_refl))
      | (apply G_rd; eq_refl; (first | (apply Rd.own; (repeat first | exact In.here | apply In.there | apply In.skip); infer_instance) | (apply Rd.old; (repeat first | exact In.here | apply In.there | apply In.skip); assumption) | (apply Rd.oldR; (repeat first | exact In.here | apply In.there | apply In.skip); assumption) | exact Rd.nil | assumption); (case ih => infer_instance); omega; omega; (rw [hl]; eq_refl))
      | (apply G_xor01; eq_refl; eq_refl; omega; omega; omega; omega; omega)
      | (apply GC_seqK; intro K hK)
      | (apply hK; clear hK K)
      | (clear hK K; apply hK; clear hK K)
      | (clear hK K; clear hK K; apply hK; clear hK K)
      | (clear hK K; clear hK K; clear hK K; apply hK; clear hK K)
      | (apply GC_block)
      | (apply GC_region)
      | (apply GL_nil)
      | (apply thenG_normal)
      | (apply thenG_ret)
      | (apply thenG_exit)
      | (apply blockG_hit)
      | (apply blockG_miss; eq_refl)
      | (apply blockG_ret)
      | (apply blockG_normal)
      | (apply GC_ret)
      | (apply GC_exit)
      | (apply GC_skip)
      | (apply GC_if_true; eq_refl)
      | (apply GC_if_false; eq_refl)
      | (apply GC_ifD; eq_refl; all_goals intro _)
      | (apply GC_if; eq_refl; all_goals intro _)
      | (apply retG1; eq_refl)
      | (apply retG2; eq_refl; eq_refl)
      | (apply retG3; eq_refl; eq_refl; eq_refl)
      | (apply retG0)
      | (apply retG0n)
      | (apply GL_on; eq_refl; eq_refl)
      | (apply GL_off; eq_refl; eq_refl)
      | (apply GL_offU; eq_refl; eq_refl; eq_refl)
      | (apply GL_split; eq_refl; eq_refl; all_goals intro _)
      | (refine GC_draws (id := 28) [.q 0, .q 1, .q 2, .q 3, .q 4, .q 5, .q 6, .q 7, .q 8, .q 9, .q 10, .q 11, .q 12, .q 13] mixed (by kernel_rfl) (by kernel_rfl) ?_)
      | (refine GC_draws (id := 34) [.q 0, .q 1, .q 2, .q 3, .q 4, .q 5, .q 6, .q 7, .q 8, .q 9, .q 10, .q 11, .q 12, .q 13, .q 14, .q 15, .q 16, .q 17, .q 18, .q 19, .q 20, .q 21, .q 22, .q 23, .q 24, .q 25, .q 26, .q 27, .q 28, .q 29, .q 30, .q 31] mixed (by kernel_rfl) (by kernel_rfl) ?_)
      | (apply GS_nil)
      | (apply GS_qon; eq_refl; eq_refl; eq_refl; eq_refl)
      | (apply GS_qoff; eq_refl; eq_refl; eq_refl; eq_refl)
      | (apply GS_qoffU; eq_refl; eq_refl; eq_refl; eq_refl; eq_refl)
      | (apply GS_con; eq_refl; eq_refl; eq_refl; eq_refl)
      | (apply GS_coff; eq_refl; eq_refl; eq_refl; eq_refl)
      | (apply GS_splitQ; eq_refl; eq_refl; eq_refl; eq_refl; all_goals intro _)
      | (apply GS_splitC; eq_refl; eq_refl; eq_refl; eq_refl; all_goals intro _)
      | (apply G_pv; eq_refl; first | exact trivial | omega)
      | (apply G_field; eq_refl)
      | (apply G_fieldP; eq_refl)
      | (apply G_ld; eq_refl; (repeat first | exact In.here | apply In.there | apply In.skip); eq_refl)
      | (apply G_ldW; eq_refl; (repeat first | exact In.here | apply In.there | apply In.skip); eq_refl)
      | (apply G_ldO; eq_refl; (repeat first | exact In.here | apply In.there | apply In.skip); assumption; eq_refl)
      | (apply G_ldR; eq_refl; (apply RdB.oldR; (repeat first | exact In.here | apply In.there | apply In.skip); assumption); eq_refl)
      | (apply G_ldOW; eq_refl; (repeat first | exact In.here | apply In.there | apply In.skip); assumption; eq_refl)
      | (apply G_rd; eq_refl; (first | (apply Rd.own; (repeat first | exact In.here | apply In.there | apply In.skip); infer_instance) | (apply Rd.old; (repeat first | exact In.here | apply In.there | apply In.skip); assumption) | (apply Rd.oldR; (repeat first | exact In.here | apply In.there | apply In.skip); assumption) | exact Rd.nil | assumption); (case ih => infer_instance); omega; omega; eq_refl)
      | (apply G_rdF; eq_refl; (first | (apply Rd.own; (repeat first | exact In.here | apply In.there | apply In.skip); infer_instance) | (apply Rd.old; (repeat first | exact In.here | apply In.there | apply In.skip); assumption) | (apply Rd.oldR; (repeat first | exact In.here | apply In.there | apply In.skip); assumption) | exact Rd.nil | assumption); (case ih => infer_instance); omega; omega; eq_refl)
      | (apply G_rdW; eq_refl; (first | (apply Rd.own; (repeat first | exact In.here | apply In.there | apply In.skip); infer_instance) | (apply Rd.old; (repeat first | exact In.here | apply In.there | apply In.skip); assumption) | (apply Rd.oldR; (repeat first | exact In.here | apply In.there | apply In.skip); assumption) | exact Rd.nil | assumption); infer_instance; (case ih => infer_instance); omega; omega)
      | (apply G_cmpT; eq_refl; eq_refl; omega)
      | (apply G_cmpF; eq_refl; eq_refl; omega)
      | (apply G_cmp; eq_refl; eq_refl; all_goals intro _)
      | (apply G_len; eq_refl)
      | (apply G_lenS; eq_refl)
      | (apply G_ix; eq_refl; eq_refl; (first | (apply Rd.own; (repeat first | exact In.here | apply In.there | apply In.skip); infer_instance) | (apply Rd.old; (repeat first | exact In.here | apply In.there | apply In.skip); assumption) | (apply Rd.oldR; (repeat first | exact In.here | apply In.there | apply In.skip); assumption) | exact Rd.nil | assumption); (first | eq_refl | omega); omega; omega)
      | (apply G_ixA; eq_refl; eq_refl; omega; omega)
      | (apply G_eqB; eq_refl; eq_refl)
      | (apply G_neqB; eq_refl; eq_refl)
      | (apply G_eqP; eq_refl; eq_refl)
      | (apply G_eqL; eq_refl; eq_refl)
      | (apply G_pickAnd; eq_refl; eq_refl)
      | (apply G_pickOr; eq_refl; eq_refl)
      | (apply G_alloc; eq_refl; intro _)
      | (apply G_box; eq_refl; eq_refl; intro _)
      | (apply G_stV; (first | exact wr_p | kernel_rfl); eq_refl; eq_refl; eq_refl; eq_refl; (repeat first | exact Upd.here | apply Upd.there | apply Upd.skip); infer_instance; infer_instance; eq_refl; omega; (try simp only [List.length_set, List.length_append, List.length_replicate]); omega)
      | (apply G_st; (first | exact wr_p | kernel_rfl); eq_refl; eq_refl; eq_refl; eq_refl; (repeat first | exact Upd.here | apply Upd.there | apply Upd.skip); (first | decide | exact Nat.le_of_ble_eq_true rfl))
      | (apply G_stW; (first | exact wr_p | kernel_rfl); eq_refl; eq_refl; eq_refl; eq_refl; (repeat first | exact Upd.here | apply Upd.there | apply Upd.skip); eq_refl)
      | (apply G_make booc; eq_refl; eq_refl; eq_refl; omega; decide; intro _)
      | (apply G_makeI booc; eq_refl; eq_refl; omega; eq_refl; omega; decide; intro _)
      | (apply G_makeI icell; eq_refl; eq_refl; omega; eq_refl; omega; decide; intro _)
      | (apply G_make icell; eq_refl; eq_refl; eq_refl; omega; decide; intro _))
      exact ⟨i + 1, (by repeat first | exact trivial | refine ⟨rfl, ?_⟩), (by repeat first | exact Wk.nil | exact Wk.refl | (apply Wk.cons; (focus ((repeat first | exact Rem.here | apply Rem.there | apply Rem.skip); done))) | apply Wk.nilv | apply Wk.last | apply Wk.drop), hlt, by omega⟩
    repeat' (first
      | (apply GC_seqK; intro K hK)
      | (apply hK; clear hK K)
      | (clear hK K; apply hK; clear hK K)
      | (clear hK K; clear hK K; apply hK; clear hK K)
      | (clear hK K; clear hK K; clear hK K; apply hK; clear hK K)
      | (apply GC_block)
      | (apply GC_region)
      | (apply GL_nil)
      | (apply thenG_normal)
      | (apply thenG_ret)
      | (apply thenG_exit)
      | (apply blockG_hit)
      | (apply blockG_miss; eq_refl)
      | (apply blockG_ret)
      | (apply blockG_normal)
      | (apply GC_ret)
      | (apply GC_exit)
      | (apply GC_skip)
      | (apply GC_if_true; eq_refl)
      | (apply GC_if_false; eq_refl)
      | (apply GC_ifD; eq_refl; all_goals intro _)
      | (apply GC_if; eq_refl; all_goals intro _)
      | (apply retG1; eq_refl)
      | (apply retG2; eq_refl; eq_refl)
      | (apply retG3; eq_refl; eq_refl; eq_refl)
      | (apply retG0)
      | (apply retG0n)
      | (apply GL_on; eq_refl; eq_refl)
      | (apply GL_off; eq_refl; eq_refl)
      | (apply GL_offU; eq_refl; eq_refl; eq_refl)
      | (apply GL_split; eq_refl; eq_refl; all_goals intro _)
      | (refine GC_draws (id := 28) [.q 0, .q 1, .q 2, .q 3, .q 4, .q 5, .q 6, .q 7, .q 8, .q 9, .q 10, .q 11, .q 12, .q 13] mixed (by kernel_rfl) (by kernel_rfl) ?_)
      | (refine GC_draws (id := 34) [.q 0, .q 1, .q 2, .q 3, .q 4, .q 5, .q 6, .q 7, .q 8, .q 9, .q 10, .q 11, .q 12, .q 13, .q 14, .q 15, .q 16, .q 17, .q 18, .q 19, .q 20, .q 21, .q 22, .q 23, .q 24, .q 25, .q 26, .q 27, .q 28, .q 29, .q 30, .q 31] mixed (by kernel_rfl) (by kernel_rfl) ?_)
      | (apply GS_nil)
      | (apply GS_qon; eq_refl; eq_refl; eq_refl; eq_refl)
      | (apply GS_qoff; eq_refl; eq_refl; eq_refl; eq_refl)
      | (apply GS_qoffU; eq_refl; eq_refl; eq_refl; eq_refl; eq_refl)
      | (apply GS_con; eq_refl; eq_refl; eq_refl; eq_refl)
      | (apply GS_coff; eq_refl; eq_refl; eq_refl; eq_refl)
      | (apply GS_splitQ; eq_refl; eq_refl; eq_refl; eq_refl; all_goals intro _)
      | (apply GS_splitC; eq_refl; eq_refl; eq_refl; eq_refl; all_goals intro _)
      | (apply G_pv; eq_refl; first | exact trivial | omega)
      | (apply G_field; eq_refl)
      | (apply G_fieldP; eq_refl)
      | (apply G_ld; eq_refl; (repeat first | exact In.here | apply In.there | apply In.skip); eq_refl)
      | (apply G_ldW; eq_refl; (repeat first | exact In.here | apply In.there | apply In.skip); eq_refl)
      | (apply G_ldO; eq_refl; (repeat first | exact In.here | apply In.there | apply In.skip); assumption; eq_refl)
      | (apply G_ldR; eq_refl; (apply RdB.oldR; (repeat first | exact In.here | apply In.there | apply In.skip); assumption); eq_refl)
      | (apply G_ldOW; eq_refl; (repeat first | exact In.here | apply In.there | apply In.skip); assumption; eq_refl)
      | (apply G_rd; eq_refl; (first | (apply Rd.own; (repeat first | exact In.here | apply In.there | apply In.skip); infer_instance) | (apply Rd.old; (repeat first | exact In.here | apply In.there | apply In.skip); assumption) | (apply Rd.oldR; (repeat first | exact In.here | apply In.there | apply In.skip); assumption) | exact Rd.nil | assumption); (case ih => infer_instance); omega; omega; eq_refl)
      | (apply G_rdF; eq_refl; (first | (apply Rd.own; (repeat first | exact In.here | apply In.there | apply In.skip); infer_instance) | (apply Rd.old; (repeat first | exact In.here | apply In.there | apply In.skip); assumption) | (apply Rd.oldR; (repeat first | exact In.here | apply In.there | apply In.skip); assumption) | exact Rd.nil | assumption); (case ih => infer_instance); omega; omega; eq_refl)
      | (apply G_rdW; eq_refl; (first | (apply Rd.own; (repeat first | exact In.here | apply In.there | apply In.skip); infer_instance) | (apply Rd.old; (repeat first | exact In.here | apply In.there | apply In.skip); assumption) | (apply Rd.oldR; (repeat first | exact In.here | apply In.there | apply In.skip); assumption) | exact Rd.nil | assumption); infer_instance; (case ih => infer_instance); omega; omega)
      | (apply G_cmpT; eq_refl; eq_refl; omega)
      | (apply G_cmpF; eq_refl; eq_refl; omega)
      | (apply G_cmp; eq_refl; eq_refl; all_goals intro _)
      | (apply G_len; eq_refl)
      | (apply G_lenS; eq_refl)
      | (apply G_ix; eq_refl; eq_refl; (first | (apply Rd.own; (repeat first | exact In.here | apply In.there | apply In.skip); infer_instance) | (apply Rd.old; (repeat first | exact In.here | apply In.there | apply In.skip); assumption) | (apply Rd.oldR; (repeat first | exact In.here | apply In.there | apply In.skip); assumption) | exact Rd.nil | assumption); (first | eq_refl | omega); omega; omega)
      | (apply G_ixA; eq_refl; eq_refl; omega; omega)
      | (apply G_eqB; eq_refl; eq_refl)
      | (apply G_neqB; eq_refl; eq_refl)
      | (apply G_eqP; eq_refl; eq_refl)
      | (apply G_eqL; eq_refl; eq_refl)
      | (apply G_pickAnd; eq_refl; eq_refl)
      | (apply G_pickOr; eq_refl; eq_refl)
      | (apply G_alloc; eq_refl; intro _)
      | (apply G_box; eq_refl; eq_refl; intro _)
      | (apply G_stV; (first | exact wr_p | kernel_rfl); eq_refl; eq_refl; eq_refl; eq_refl; (repeat first | exact Upd.here | apply Upd.there | apply Upd.skip); infer_instance; infer_instance; eq_refl; omega; (try simp only [List.length_set, List.length_append, List.length_replicate]); omega)
      | (apply G_st; (first | exact wr_p | kernel_rfl); eq_refl; eq_refl; eq_refl; eq_refl; (repeat first | exact Upd.here | apply Upd.there | apply Upd.skip); (first | decide | exact Nat.le_of_ble_eq_true rfl))
      | (apply G_stW; (first | exact wr_p | kernel_rfl); eq_refl; eq_refl; eq_refl; eq_refl; (repeat first | exact Upd.here | apply Upd.there | apply Upd.skip); eq_refl)
      | (apply G_make booc; eq_refl; eq_refl; eq_refl; omega; decide; intro _)
      | (apply G_makeI booc; eq_refl; eq_refl; omega; eq_refl; omega; decide; intro _)
      | (apply G_makeI icell; eq_refl; eq_refl; omega; eq_refl; omega; decide; intro _)
      | (apply G_make icell; eq_refl; eq_refl; eq_refl; omega; decide; intro _))
    have hLt := H.at_.latches
    have n5 := R.nLat
    refine GC_loopK [1, 3, 4, 191, 192] (fun i : Nat => [(193, nu i)]) (fun _ => [.box b3 51 (ccells (renC c) h'), .any (renX base c h' js' A k), .box b1 51 (ccells c h), .old w none_]) (fun i => i ≤ c.latches.length) (fun i => c.latches.length - i) 0 (by repeat first | exact Pick.nil | (apply Pick.cons; eq_refl)) (by repeat first | exact trivial | refine ⟨rfl, ?_⟩) (by repeat first | exact Wk.nil | exact Wk.refl | (apply Wk.cons; (focus ((repeat first | exact Rem.here | apply Rem.there | apply Rem.skip); done))) | apply Wk.nilv | apply Wk.last | apply Wk.drop) (Nat.zero_le _) ?_
    intro i hi
    rcases Nat.lt_or_ge i c.latches.length with hlt | hge
    · obtain ⟨hd, hin, _⟩ := R.lat (gt_mem (l := c.latches) (i := (i : Int)) (by omega) (by omega))
      have hy : gt (renC c).latches (i : Int) = renLatch (toM c) (gt c.latches (i : Int)) := gt_map (f := renLatch (toM c)) hlt
      have hx1 : (gt (renC c).latches (i : Int)).1 = gt (toM c) ((gt c.latches (i : Int)).1 / 2) + (gt c.latches (i : Int)).1 % 2 := by rw [hy]; exact litM_gt _ _
      have hx2 : (gt (renC c).latches (i : Int)).2.1 = gt (toM c) ((gt c.latches (i : Int)).2.1 / 2) + (gt c.latches (i : Int)).2.1 % 2 := by rw [hy]; exact litM_gt _ _
      have hp := R.lit_le hin.1
      unfold defR at hd
      unfold inR at hin
      have hq := R.to_even (v := (gt c.latches (i : Int)).2.1 / 2) (by omega)
      rw [litM_gt] at hp
      rw [← gt_L] at hq
      clear hy
      repeat' (first
      | (apply G_ix; eq_refl; eq_refl; (apply Rd.ren (c := c); (repeat first | exact In.here | apply In.there | apply In.skip)); (first | eq_refl | omega); omega; omega)
      | (apply G_ix; eq_refl; eq_refl; (apply Rd.rlat (c := c); (repeat first | exact In.here | apply In.there | apply In.skip)); (first | eq_refl | omega); omega; omega)
      | (apply G_rd; eq_refl; (apply Rd.ren (c := c); (repeat first | exact In.here | apply In.there | apply In.skip)); (case ih => infer_instance); omega; omega; eq_refl)
      | (apply G_rdF; eq_refl; (apply Rd.rlat (c := c); (repeat first | exact In.here | apply In.there | apply In.skip)); (case ih => infer_instance); omega; omega; eq_refl)
      | (apply G_xor01; eq_refl; eq_refl; omega; omega; omega; omega; omega)
      | (apply GC_seqK; intro K hK)
      | (apply hK; clear hK K)
      | (clear hK K; apply hK; clear hK K)
      | (clear hK K; clear hK K; apply hK; clear hK K)
      | (clear hK K; clear hK K; clear hK K; apply hK; clear hK K)
      | (apply GC_block)
      | (apply GC_region)
      | (apply GL_nil)
      | (apply thenG_normal)
      | (apply thenG_ret)
      | (apply thenG_exit)
      | (apply blockG_hit)
      | (apply blockG_miss; eq_refl)
      | (apply blockG_ret)
      | (apply blockG_normal)
      | (apply GC_ret)
      | (apply GC_exit)
      | (apply GC_skip)
      | (apply GC_if_true; eq_refl)
      | (apply GC_if_false; eq_refl)
      | (apply GC_ifD; eq_refl; all_goals intro _)
      | (apply GC_if; eq_refl; all_goals intro _)
      | (apply retG1; eq_refl)
      | (apply retG2; eq_refl; eq_refl)
      | (apply retG3; eq_refl; eq_refl; eq_refl)
      | (apply retG0)
      | (apply retG0n)
      | (apply GL_on; eq_refl; eq_refl)
      | (apply GL_off; eq_refl; eq_refl)
      | (apply GL_offU; eq_refl; eq_refl; eq_refl)
      | (apply GL_split; eq_refl; eq_refl; all_goals intro _)
      | (refine GC_draws (id := 28) [.q 0, .q 1, .q 2, .q 3, .q 4, .q 5, .q 6, .q 7, .q 8, .q 9, .q 10, .q 11, .q 12, .q 13] mixed (by kernel_rfl) (by kernel_rfl) ?_)
      | (refine GC_draws (id := 34) [.q 0, .q 1, .q 2, .q 3, .q 4, .q 5, .q 6, .q 7, .q 8, .q 9, .q 10, .q 11, .q 12, .q 13, .q 14, .q 15, .q 16, .q 17, .q 18, .q 19, .q 20, .q 21, .q 22, .q 23, .q 24, .q 25, .q 26, .q 27, .q 28, .q 29, .q 30, .q 31] mixed (by kernel_rfl) (by kernel_rfl) ?_)
      | (apply GS_nil)
      | (apply GS_qon; eq_refl; eq_refl; eq_refl; eq_refl)
      | (apply GS_qoff; eq_refl; eq_refl; eq_refl; eq_refl)
      | (apply GS_qoffU; eq_refl; eq_refl; eq_refl; eq_refl; eq_refl)
      | (apply GS_con; eq_refl; eq_refl; eq_refl; eq_refl)
      | (apply GS_coff; eq_refl; eq_refl; eq_refl; eq_refl)
      | (apply GS_splitQ; eq_refl; eq_refl; eq_refl; eq_refl; all_goals intro _)
      | (apply GS_splitC; eq_refl; eq_refl; eq_refl; eq_refl; all_goals intro _)
      | (apply G_pv; eq_refl; first | exact trivial | omega)
      | (apply G_field; eq_refl)
      | (apply G_fieldP; eq_refl)
      | (apply G_ld; eq_refl; (repeat first | exact In.here | apply In.there | apply In.skip); eq_refl)
      | (apply G_ldW; eq_refl; (repeat first | exact In.here | apply In.there | apply In.skip); eq_refl)
      | (apply G_ldO; eq_refl; (repeat first | exact In.here | apply In.there | apply In.skip); assumption; eq_refl)
      | (apply G_ldR; eq_refl; (apply RdB.oldR; (repeat first | exact In.here | apply In.there | apply In.skip); assumption); eq_refl)
      | (apply G_ldOW; eq_refl; (repeat first | exact In.here | apply In.there | apply In.skip); assumption; eq_refl)
      | (apply G_rd; eq_refl; (first | (apply Rd.own; (repeat first | exact In.here | apply In.there | apply In.skip); infer_instance) | (apply Rd.old; (repeat first | exact In.here | apply In.there | apply In.skip); assumption) | (apply Rd.oldR; (repeat first | exact In.here | apply In.there | apply In.skip); assumption) | exact Rd.nil | assumption); (case ih => infer_instance); omega; omega; eq_refl)
      | (apply G_rdF; eq_refl; (first | (apply Rd.own; (repeat first | exact In.here | apply In.there | apply In.skip); infer_instance) | (apply Rd.old; (repeat first | exact In.here | apply In.there | apply In.skip); assumption) | (apply Rd.oldR; (repeat first | exact In.here | apply In.there | apply In.skip); assumption) | exact Rd.nil | assumption); (case ih => infer_instance); omega; omega; eq_refl)
      | (apply G_rdW; eq_refl; (first | (apply Rd.own; (repeat first | exact In.here | apply In.there | apply In.skip); infer_instance) | (apply Rd.old; (repeat first | exact In.here | apply In.there | apply In.skip); assumption) | (apply Rd.oldR; (repeat first | exact In.here | apply In.there | apply In.skip); assumption) | exact Rd.nil | assumption); infer_instance; (case ih => infer_instance); omega; omega)
      | (apply G_cmpT; eq_refl; eq_refl; omega)
      | (apply G_cmpF; eq_refl; eq_refl; omega)
      | (apply G_cmp; eq_refl; eq_refl; all_goals intro _)
      | (apply G_len; eq_refl)
      | (apply G_lenS; eq_refl)
      | (apply G_ix; eq_refl; eq_refl; (first | (apply Rd.own; (repeat first | exact In.here | apply In.there | apply In.skip); infer_instance) | (apply Rd.old; (repeat first | exact In.here | apply In.there | apply In.skip); assumption) | (apply Rd.oldR; (repeat first | exact In.here | apply In.there | apply In.skip); assumption) | exact Rd.nil | assumption); (first | eq_refl | omega); omega; omega)
      | (apply G_ixA; eq_refl; eq_refl; omega; omega)
      | (apply G_eqB; eq_refl; eq_refl)
      | (apply G_neqB; eq_refl; eq_refl)
      | (apply G_eqP; eq_refl; eq_refl)
      | (apply G_eqL; eq_refl; eq_refl)
      | (apply G_pickAnd; eq_refl; eq_refl)
      | (apply G_pickOr; eq_refl; eq_refl)
      | (apply G_alloc; eq_refl; intro _)
      | (apply G_box; eq_refl; eq_refl; intro _)
      | (apply G_stV; (first | exact wr_p | kernel_rfl); eq_refl; eq_refl; eq_refl; eq_refl; (repeat first | exact Upd.here | apply Upd.there | apply Upd.skip); infer_instance; infer_instance; eq_refl; omega; (try simp only [List.length_set, List.length_append, List.length_replicate]); omega)
      | (apply G_st; (first | exact wr_p | kernel_rfl); eq_refl; eq_refl; eq_refl; eq_refl; (repeat first | exact Upd.here | apply Upd.there | apply Upd.skip); (first | decide | exact Nat.le_of_ble_eq_true rfl))
      | (apply G_stW; (first | exact wr_p | kernel_rfl); eq_refl; eq_refl; eq_refl; eq_refl; (repeat first | exact Upd.here | apply Upd.there | apply Upd.skip); eq_refl)
      | (apply G_make booc; eq_refl; eq_refl; eq_refl; omega; decide; intro _)
      | (apply G_makeI booc; eq_refl; eq_refl; omega; eq_refl; omega; decide; intro _)
      | (apply G_makeI icell; eq_refl; eq_refl; omega; eq_refl; omega; decide; intro _)
      | (apply G_make icell; eq_refl; eq_refl; eq_refl; omega; decide; intro _))
      exact ⟨i + 1, (by repeat first | exact trivial | refine ⟨rfl, ?_⟩), (by repeat first | exact Wk.nil | exact Wk.refl | (apply Wk.cons; (focus ((repeat first | exact Rem.here | apply Rem.there | apply Rem.skip); done))) | apply Wk.nilv | apply Wk.last | apply Wk.drop), hlt, by omega⟩
    repeat' (first
      | (apply GC_seqK; intro K hK)
      | (apply hK; clear hK K)
      | (clear hK K; apply hK; clear hK K)
      | (clear hK K; clear hK K; apply hK; clear hK K)
      | (clear hK K; clear hK K; clear hK K; apply hK; clear hK K)
      | (apply GC_block)
      | (apply GC_region)
      | (apply GL_nil)
      | (apply thenG_normal)
      | (apply thenG_ret)
      | (apply thenG_exit)
      | (apply blockG_hit)
      | (apply blockG_miss; eq_refl)
      | (apply blockG_ret)
      | (apply blockG_normal)
      | (apply GC_ret)
      | (apply GC_exit)
      | (apply GC_skip)
      | (apply GC_if_true; eq_refl)
      | (apply GC_if_false; eq_refl)
      | (apply GC_ifD; eq_refl; all_goals intro _)
      | (apply GC_if; eq_refl; all_goals intro _)
      | (apply retG1; eq_refl)
      | (apply retG2; eq_refl; eq_refl)
      | (apply retG3; eq_refl; eq_refl; eq_refl)
      | (apply retG0)
      | (apply retG0n)
      | (apply GL_on; eq_refl; eq_refl)
      | (apply GL_off; eq_refl; eq_refl)
      | (apply GL_offU; eq_refl; eq_refl; eq_refl)
      | (apply GL_split; eq_refl; eq_refl; all_goals intro _)
      | (refine GC_draws (id := 28) [.q 0, .q 1, .q 2, .q 3, .q 4, .q 5, .q 6, .q 7, .q 8, .q 9, .q 10, .q 11, .q 12, .q 13] mixed (by kernel_rfl) (by kernel_rfl) ?_)
      | (refine GC_draws (id := 34) [.q 0, .q 1, .q 2, .q 3, .q 4, .q 5, .q 6, .q 7, .q 8, .q 9, .q 10, .q 11, .q 12, .q 13, .q 14, .q 15, .q 16, .q 17, .q 18, .q 19, .q 20, .q 21, .q 22, .q 23, .q 24, .q 25, .q 26, .q 27, .q 28, .q 29, .q 30, .q 31] mixed (by kernel_rfl) (by kernel_rfl) ?_)
      | (apply GS_nil)
      | (apply GS_qon; eq_refl; eq_refl; eq_refl; eq_refl)
      | (apply GS_qoff; eq_refl; eq_refl; eq_refl; eq_refl)
      | (apply GS_qoffU; eq_refl; eq_refl; eq_refl; eq_refl; eq_refl)
      | (apply GS_con; eq_refl; eq_refl; eq_refl; eq_refl)
      | (apply GS_coff; eq_refl; eq_refl; eq_refl; eq_refl)
      | (apply GS_splitQ; eq_refl; eq_refl; eq_refl; eq_refl; all_goals intro _)
      | (apply GS_splitC; eq_refl; eq_refl; eq_refl; eq_refl; all_goals intro _)
      | (apply G_pv; eq_refl; first | exact trivial | omega)
      | (apply G_field; eq_refl)
      | (apply G_fieldP; eq_refl)
      | (apply G_ld; eq_refl; (repeat first | exact In.here | apply In.there | apply In.skip); eq_refl)
      | (apply G_ldW; eq_refl; (repeat first | exact In.here | apply In.there | apply In.skip); eq_refl)
      | (apply G_ldO; eq_refl; (repeat first | exact In.here | apply In.there | apply In.skip); assumption; eq_refl)
      | (apply G_ldR; eq_refl; (apply RdB.oldR; (repeat first | exact In.here | apply In.there | apply In.skip); assumption); eq_refl)
      | (apply G_ldOW; eq_refl; (repeat first | exact In.here | apply In.there | apply In.skip); assumption; eq_refl)
      | (apply G_rd; eq_refl; (first | (apply Rd.own; (repeat first | exact In.here | apply In.there | apply In.skip); infer_instance) | (apply Rd.old; (repeat first | exact In.here | apply In.there | apply In.skip); assumption) | (apply Rd.oldR; (repeat first | exact In.here | apply In.there | apply In.skip); assumption) | exact Rd.nil | assumption); (case ih => infer_instance); omega; omega; eq_refl)
      | (apply G_rdF; eq_refl; (first | (apply Rd.own; (repeat first | exact In.here | apply In.there | apply In.skip); infer_instance) | (apply Rd.old; (repeat first | exact In.here | apply In.there | apply In.skip); assumption) | (apply Rd.oldR; (repeat first | exact In.here | apply In.there | apply In.skip); assumption) | exact Rd.nil | assumption); (case ih => infer_instance); omega; omega; eq_refl)
      | (apply G_rdW; eq_refl; (first | (apply Rd.own; (repeat first | exact In.here | apply In.there | apply In.skip); infer_instance) | (apply Rd.old; (repeat first | exact In.here | apply In.there | apply In.skip); assumption) | (apply Rd.oldR; (repeat first | exact In.here | apply In.there | apply In.skip); assumption) | exact Rd.nil | assumption); infer_instance; (case ih => infer_instance); omega; omega)
      | (apply G_cmpT; eq_refl; eq_refl; omega)
      | (apply G_cmpF; eq_refl; eq_refl; omega)
      | (apply G_cmp; eq_refl; eq_refl; all_goals intro _)
      | (apply G_len; eq_refl)
      | (apply G_lenS; eq_refl)
      | (apply G_ix; eq_refl; eq_refl; (first | (apply Rd.own; (repeat first | exact In.here | apply In.there | apply In.skip); infer_instance) | (apply Rd.old; (repeat first | exact In.here | apply In.there | apply In.skip); assumption) | (apply Rd.oldR; (repeat first | exact In.here | apply In.there | apply In.skip); assumption) | exact Rd.nil | assumption); (first | eq_refl | omega); omega; omega)
      | (apply G_ixA; eq_refl; eq_refl; omega; omega)
      | (apply G_eqB; eq_refl; eq_refl)
      | (apply G_neqB; eq_refl; eq_refl)
      | (apply G_eqP; eq_refl; eq_refl)
      | (apply G_eqL; eq_refl; eq_refl)
      | (apply G_pickAnd; eq_refl; eq_refl)
      | (apply G_pickOr; eq_refl; eq_refl)
      | (apply G_alloc; eq_refl; intro _)
      | (apply G_box; eq_refl; eq_refl; intro _)
      | (apply G_stV; (first | exact wr_p | kernel_rfl); eq_refl; eq_refl; eq_refl; eq_refl; (repeat first | exact Upd.here | apply Upd.there | apply Upd.skip); infer_instance; infer_instance; eq_refl; omega; (try simp only [List.length_set, List.length_append, List.length_replicate]); omega)
      | (apply G_st; (first | exact wr_p | kernel_rfl); eq_refl; eq_refl; eq_refl; eq_refl; (repeat first | exact Upd.here | apply Upd.there | apply Upd.skip); (first | decide | exact Nat.le_of_ble_eq_true rfl))
      | (apply G_stW; (first | exact wr_p | kernel_rfl); eq_refl; eq_refl; eq_refl; eq_refl; (repeat first | exact Upd.here | apply Upd.there | apply Upd.skip); eq_refl)
      | (apply G_make booc; eq_refl; eq_refl; eq_refl; omega; decide; intro _)
      | (apply G_makeI booc; eq_refl; eq_refl; omega; eq_refl; omega; decide; intro _)
      | (apply G_makeI icell; eq_refl; eq_refl; omega; eq_refl; omega; decide; intro _)
      | (apply G_make icell; eq_refl; eq_refl; eq_refl; omega; decide; intro _))
    exact ⟨[], (by repeat first | exact Wk.nil | exact Wk.refl | (apply Wk.cons; (focus ((repeat first | exact Rem.here | apply Rem.there | apply Rem.skip); done))) | apply Wk.nilv | apply Wk.last | apply Wk.drop), rfl, rfl⟩
  · have hRen : ∀ Γ, In Γ (.old w none_) → ∀ w', Mem w' Γ → CVN Try.prog 37 [.agg (ccells c h).toArray] w' fun v N => v = .tuple #[.agg Zc.toArray, .slice none 0 0, nu (lookM c).2] ∧ N = [] := fun Γ ho w' M => (hren Γ ho w' M).mono fun v N hv => by
      rcases hv with ⟨_, hv⟩ | ⟨h1, _⟩
      · exact hv
      · exact absurd h1 he
    generalize (lookM c).2 = ε at *
    repeat' (first
      | (apply G_call; eq_refl; eq_refl; (exact fun w' _ => hw w'); rintro _ _ ⟨rfl, rfl⟩)
      | (apply G_call; eq_refl; eq_refl; (apply hRen; (repeat first | exact In.here | apply In.there | apply In.skip)); rintro _ _ ⟨rfl, rfl⟩)
      | (apply GC_seqK; intro K hK)
      | (apply hK; clear hK K)
      | (clear hK K; apply hK; clear hK K)
      | (clear hK K; clear hK K; apply hK; clear hK K)
      | (clear hK K; clear hK K; clear hK K; apply hK; clear hK K)
      | (apply GC_block)
      | (apply GC_region)
      | (apply GL_nil)
      | (apply thenG_normal)
      | (apply thenG_ret)
      | (apply thenG_exit)
      | (apply blockG_hit)
      | (apply blockG_miss; eq_refl)
      | (apply blockG_ret)
      | (apply blockG_normal)
      | (apply GC_ret)
      | (apply GC_exit)
      | (apply GC_skip)
      | (apply GC_if_true; eq_refl)
      | (apply GC_if_false; eq_refl)
      | (apply GC_ifD; eq_refl; all_goals intro _)
      | (apply GC_if; eq_refl; all_goals intro _)
      | (apply retG1; eq_refl)
      | (apply retG2; eq_refl; eq_refl)
      | (apply retG3; eq_refl; eq_refl; eq_refl)
      | (apply retG0)
      | (apply retG0n)
      | (apply GL_on; eq_refl; eq_refl)
      | (apply GL_off; eq_refl; eq_refl)
      | (apply GL_offU; eq_refl; eq_refl; eq_refl)
      | (apply GL_split; eq_refl; eq_refl; all_goals intro _)
      | (refine GC_draws (id := 28) [.q 0, .q 1, .q 2, .q 3, .q 4, .q 5, .q 6, .q 7, .q 8, .q 9, .q 10, .q 11, .q 12, .q 13] mixed (by kernel_rfl) (by kernel_rfl) ?_)
      | (refine GC_draws (id := 34) [.q 0, .q 1, .q 2, .q 3, .q 4, .q 5, .q 6, .q 7, .q 8, .q 9, .q 10, .q 11, .q 12, .q 13, .q 14, .q 15, .q 16, .q 17, .q 18, .q 19, .q 20, .q 21, .q 22, .q 23, .q 24, .q 25, .q 26, .q 27, .q 28, .q 29, .q 30, .q 31] mixed (by kernel_rfl) (by kernel_rfl) ?_)
      | (apply GS_nil)
      | (apply GS_qon; eq_refl; eq_refl; eq_refl; eq_refl)
      | (apply GS_qoff; eq_refl; eq_refl; eq_refl; eq_refl)
      | (apply GS_qoffU; eq_refl; eq_refl; eq_refl; eq_refl; eq_refl)
      | (apply GS_con; eq_refl; eq_refl; eq_refl; eq_refl)
      | (apply GS_coff; eq_refl; eq_refl; eq_refl; eq_refl)
      | (apply GS_splitQ; eq_refl; eq_refl; eq_refl; eq_refl; all_goals intro _)
      | (apply GS_splitC; eq_refl; eq_refl; eq_refl; eq_refl; all_goals intro _)
      | (apply G_pv; eq_refl; first | exact trivial | omega)
      | (apply G_field; eq_refl)
      | (apply G_fieldP; eq_refl)
      | (apply G_ld; eq_refl; (repeat first | exact In.here | apply In.there | apply In.skip); eq_refl)
      | (apply G_ldW; eq_refl; (repeat first | exact In.here | apply In.there | apply In.skip); eq_refl)
      | (apply G_ldO; eq_refl; (repeat first | exact In.here | apply In.there | apply In.skip); assumption; eq_refl)
      | (apply G_ldR; eq_refl; (apply RdB.oldR; (repeat first | exact In.here | apply In.there | apply In.skip); assumption); eq_refl)
      | (apply G_ldOW; eq_refl; (repeat first | exact In.here | apply In.there | apply In.skip); assumption; eq_refl)
      | (apply G_rd; eq_refl; (first | (apply Rd.own; (repeat first | exact In.here | apply In.there | apply In.skip); infer_instance) | (apply Rd.old; (repeat first | exact In.here | apply In.there | apply In.skip); assumption) | (apply Rd.oldR; (repeat first | exact In.here | apply In.there | apply In.skip); assumption) | exact Rd.nil | assumption); (case ih => infer_instance); omega; omega; eq_refl)
      | (apply G_rdF; eq_refl; (first | (apply Rd.own; (repeat first | exact In.here | apply In.there | apply In.skip); infer_instance) | (apply Rd.old; (repeat first | exact In.here | apply In.there | apply In.skip); assumption) | (apply Rd.oldR; (repeat first | exact In.here | apply In.there | apply In.skip); assumption) | exact Rd.nil | assumption); (case ih => infer_instance); omega; omega; eq_refl)
      | (apply G_rdW; eq_refl; (first | (apply Rd.own; (repeat first | exact In.here | apply In.there | apply In.skip); infer_instance) | (apply Rd.old; (repeat first | exact In.here | apply In.there | apply In.skip); assumption) | (apply Rd.oldR; (repeat first | exact In.here | apply In.there | apply In.skip); assumption) | exact Rd.nil | assumption); infer_instance; (case ih => infer_instance); omega; omega)
      | (apply G_cmpT; eq_refl; eq_refl; omega)
      | (apply G_cmpF; eq_refl; eq_refl; omega)
      | (apply G_cmp; eq_refl; eq_refl; all_goals intro _)
      | (apply G_len; eq_refl)
      | (apply G_lenS; eq_refl)
      | (apply G_ix; eq_refl; eq_refl; (first | (apply Rd.own; (repeat first | exact In.here | apply In.there | apply In.skip); infer_instance) | (apply Rd.old; (repeat first | exact In.here | apply In.there | apply In.skip); assumption) | (apply Rd.oldR; (repeat first | exact In.here | apply In.there | apply In.skip); assumption) | exact Rd.nil | assumption); (first | eq_refl | omega); omega; omega)
      | (apply G_ixA; eq_refl; eq_refl; omega; omega)
      | (apply G_eqB; eq_refl; eq_refl)
      | (apply G_neqB; eq_refl; eq_refl)
      | (apply G_eqP; eq_refl; eq_refl)
      | (apply G_eqL; eq_refl; eq_refl)
      | (apply G_pickAnd; eq_refl; eq_refl)
      | (apply G_pickOr; eq_refl; eq_refl)
      | (apply G_alloc; eq_refl; intro _)
      | (apply G_box; eq_refl; eq_refl; intro _)
      | (apply G_stV; (first | exact wr_p | kernel_rfl); eq_refl; eq_refl; eq_refl; eq_refl; (repeat first | exact Upd.here | apply Upd.there | apply Upd.skip); infer_instance; infer_instance; eq_refl; omega; (try simp only [List.length_set, List.length_append, List.length_replicate]); omega)
      | (apply G_st; (first | exact wr_p | kernel_rfl); eq_refl; eq_refl; eq_refl; eq_refl; (repeat first | exact Upd.here | apply Upd.there | apply Upd.skip); (first | decide | exact Nat.le_of_ble_eq_true rfl))
      | (apply G_stW; (first | exact wr_p | kernel_rfl); eq_refl; eq_refl; eq_refl; eq_refl; (repeat first | exact Upd.here | apply Upd.there | apply Upd.skip); eq_refl)
      | (apply G_make booc; eq_refl; eq_refl; eq_refl; omega; decide; intro _)
      | (apply G_makeI booc; eq_refl; eq_refl; omega; eq_refl; omega; decide; intro _)
      | (apply G_makeI icell; eq_refl; eq_refl; omega; eq_refl; omega; decide; intro _)
      | (apply G_make icell; eq_refl; eq_refl; eq_refl; omega; decide; intro _))
    exact ⟨[], (by repeat first | exact Wk.nil | exact Wk.refl | (apply Wk.cons; (focus ((repeat first | exact Rem.here | apply Rem.there | apply Rem.skip); done))) | apply Wk.nilv | apply Wk.last | apply Wk.drop), rfl, rfl⟩
end SC
end Go.Proofs.Ytkndegjodnciaaa
end

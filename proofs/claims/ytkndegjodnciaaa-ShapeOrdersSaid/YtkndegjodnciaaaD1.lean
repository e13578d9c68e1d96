/- Circuits: the plain word, and what lies in memory. -/
import Derived.Test.YtkndegjodnciaaaA0
import Derived.OwnWalk
set_option linter.unusedVariables false
set_option linter.unusedSimpArgs false
namespace Go.Proofs.Ytkndegjodnciaaa
namespace SC
open Go.Proofs
abbrev nu (a : Int) : Value := .int .i64 a
/-- A row of things, each of sz cells, as its elements' addresses tell it. -/
def RowA {α : Type} (w : World) (enc : α → List Value) (sz : Nat) (A : Option Addr) (l : List α) : Prop :=
  ∀ k (hk : k < l.length), ∃ p, A = some p ∧ ∀ j u, (enc l[k])[j]? = some u → w.cell? ((p.add ((k : Int).toNat * sz)).add j) = some u
theorem RowA.chg {α : Type} {w w' : World} {enc : α → List Value} {sz : Nat} {A : Option Addr} {l : List α} (h : RowA w enc sz A l) (hc : Chg w w' none_) : RowA w' enc sz A l := fun k hk => by
  obtain ⟨p, h1, h2⟩ := h k hk
  exact ⟨p, h1, fun j u hj => cel_chg (h2 j u hj) hc id⟩
theorem RowA.chgS {α : Type} {w w' : World} {enc : α → List Value} {sz : Nat} {A : Option Addr} {l : List α} {S : Nat → Prop} (h : RowA w enc sz A l) (hc : Chg w w' S) (hn : ∀ p, A = some p → ¬ S p.block) : RowA w' enc sz A l := fun k hk => by
  obtain ⟨p, h1, h2⟩ := h k hk
  have e : ∀ (p : Addr) n, (p.add n).block = p.block := fun p n => by unfold Addr.add; split <;> rfl
  exact ⟨p, h1, fun j u hj => cel_chg (h2 j u hj) hc (by rw [e, e]; exact hn p h1)⟩
theorem add_zero' (p : Addr) : p.add 0 = p := rfl
theorem RowA.one {α : Type} {w : World} {enc : α → List Value} {sz : Nat} {A : Option Addr} {l : List α} (h : RowA w enc sz A l) {k : Nat} (hk : k < l.length) {v : Value} (hv : (enc l[k])[0]? = some v) : ∃ p, A = some p ∧ w.cell? (p.add ((k : Int).toNat * sz)) = some v := by
  obtain ⟨p, h1, h2⟩ := h k hk
  exact ⟨p, h1, h2 0 v hv⟩
theorem flatMap_get {α : Type} (enc : α → List Value) (sz : Nat) (hsz : ∀ a, (enc a).length = sz) : ∀ (l : List α) (k : Nat) (hk : k < l.length) (j : Nat), j < sz → (l.flatMap enc)[k * sz + j]? = (enc l[k])[j]?
  | a :: r, 0, _, j, hj => by
    have h0 : j < (enc a).length := by rw [hsz]; exact hj
    simp only [List.flatMap_cons, Nat.zero_mul, Nat.zero_add, List.getElem_cons_zero]
    rw [List.getElem?_append_left h0]
  | a :: r, k + 1, hk, j, hj => by
    have ih := flatMap_get enc sz hsz r k (by simpa using hk) j hj
    simp only [List.flatMap_cons, List.getElem_cons_succ]
    rw [List.getElem?_append_right (by rw [hsz, Nat.succ_mul]; omega), hsz]
    have e : (k + 1) * sz + j - sz = k * sz + j := by rw [Nat.succ_mul]; omega
    rw [e]
    exact ih
/-- An own row, as its elements' addresses tell it. -/
theorem RowA.own {α : Type} {w : World} {enc : α → List Value} {sz base : Nat} {t : TypeId} {A : Option Addr} {c : Nat} {l : List α} (hsz : ∀ a, (enc a).length = sz) (h : w.ownsRow base t sz (.slice A l.length c) l.length (l.flatMap enc)) : RowA w enc sz A l := fun k hk => by
  rcases h.2 with ⟨hv, hn⟩ | ⟨g, cap, cur, hv, h0, hcur, hcap, hm, hs, ht⟩
  · omega
  · cases hv
    refine ⟨⟨g, 0, none⟩, rfl, fun j u hj => ?_⟩
    have hjl : j < sz := by have := (List.getElem?_eq_some_iff.1 hj).1; rwa [hsz] at this
    have e : (k : Int).toNat = k := by omega
    rw [e, add_at, add_at, Nat.zero_add]
    have hlt : k * sz + j < l.length * sz := by
      have : (k + 1) * sz ≤ l.length * sz := Nat.mul_le_mul_right sz hk
      rw [Nat.succ_mul] at this
      omega
    rw [cell_of_row w g (k * sz + j) cur t (0, 0) hcur]
    have h2 := flatMap_get enc sz hsz l k hk j hjl
    rw [← ht, List.getElem?_take_of_lt hlt] at h2
    rw [← Array.getElem?_toList, h2]
    exact hj
def icell (a : Int) : List Value := [nu a]
abbrev Tri := Int × Int × Int
def tcells (g : Tri) : List Value := [nu g.1, nu g.2.1, nu g.2.2]
structure Sym where
  kind : Int
  at_ : Int
  name : ByteArray
def scells (s : Sym) : List Value := [.int .u8 s.kind, nu s.at_, .string s.name]
def bcell (s : ByteArray) : List Value := [.string s]
structure Circ where
  max : Int
  inputs : List Int
  latches : List Tri
  outputs : List Int
  bads : List Int
  constraints : List Int
  justice : List (List Int)
  fairness : List Int
  ands : List Tri
  symbols : List Sym
  comments : List ByteArray
abbrev Hd := Nat → Option Addr × Nat
/-- The struct's cells. -/
def ccells (c : Circ) (h : Hd) : List Value :=
  [nu c.max, .slice (h 1).1 c.inputs.length (h 1).2, .slice (h 2).1 c.latches.length (h 2).2, .slice (h 3).1 c.outputs.length (h 3).2, .slice (h 4).1 c.bads.length (h 4).2, .slice (h 5).1 c.constraints.length (h 5).2,
   .slice (h 6).1 c.justice.length (h 6).2, .slice (h 7).1 c.fairness.length (h 7).2, .slice (h 8).1 c.ands.length (h 8).2, .slice (h 9).1 c.symbols.length (h 9).2, .slice (h 10).1 c.comments.length (h 10).2]
structure CirAt (w : World) (c : Circ) (h js : Hd) : Prop where
  inputs : RowA w icell 1 (h 1).1 c.inputs
  latches : RowA w tcells 3 (h 2).1 c.latches
  outputs : RowA w icell 1 (h 3).1 c.outputs
  bads : RowA w icell 1 (h 4).1 c.bads
  constraints : RowA w icell 1 (h 5).1 c.constraints
  justice : ∀ k (hk : k < c.justice.length), ∃ p, (h 6).1 = some p ∧ w.cell? (p.add ((k : Int).toNat * 1)) = some (.slice (js k).1 c.justice[k].length (js k).2)
  each : ∀ k (hk : k < c.justice.length), RowA w icell 1 (js k).1 c.justice[k]
  fairness : RowA w icell 1 (h 7).1 c.fairness
  ands : RowA w tcells 3 (h 8).1 c.ands
  symbols : RowA w scells 3 (h 9).1 c.symbols
  comments : RowA w bcell 1 (h 10).1 c.comments
/-- What any value in memory meets. -/
structure Circ.Sane (c : Circ) : Prop where
  just : ∀ l ∈ c.justice, l.length ≤ 9223372036854775807
  kinds : ∀ s ∈ c.symbols, 0 ≤ s.kind ∧ s.kind ≤ 255
  ats : ∀ s ∈ c.symbols, -9223372036854775808 ≤ s.at_ ∧ s.at_ ≤ 9223372036854775807
  names : ∀ s ∈ c.symbols, s.name.size ≤ 9223372036854775807
  texts : ∀ s ∈ c.comments, s.size ≤ 9223372036854775807
  lens : c.inputs.length ≤ 9223372036854775807 ∧ c.latches.length ≤ 9223372036854775807 ∧ c.outputs.length ≤ 9223372036854775807 ∧ c.bads.length ≤ 9223372036854775807 ∧ c.constraints.length ≤ 9223372036854775807 ∧ c.justice.length ≤ 9223372036854775807 ∧ c.fairness.length ≤ 9223372036854775807 ∧ c.ands.length ≤ 9223372036854775807 ∧ c.symbols.length ≤ 9223372036854775807 ∧ c.comments.length ≤ 9223372036854775807
theorem CirAt.chg {w w' : World} {c : Circ} {h js : Hd} (H : CirAt w c h js) (hc : Chg w w' none_) : CirAt w' c h js :=
  ⟨H.inputs.chg hc, H.latches.chg hc, H.outputs.chg hc, H.bads.chg hc, H.constraints.chg hc, fun k hk => by obtain ⟨p, h1, h2⟩ := H.justice k hk; exact ⟨p, h1, cel_chg h2 hc id⟩, fun k hk => (H.each k hk).chg hc, H.fairness.chg hc, H.ands.chg hc, H.symbols.chg hc, H.comments.chg hc⟩
end SC
end Go.Proofs.Ytkndegjodnciaaa

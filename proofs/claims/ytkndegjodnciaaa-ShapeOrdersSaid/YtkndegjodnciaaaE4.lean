/- shape: symbols. NOT DONE. -/
import Derived.Test.YtkndegjodnciaaaE3
set_option linter.unusedVariables false
set_option linter.unusedSimpArgs false
namespace Go.Proofs.Ytkndegjodnciaaa
namespace SC
open Go.Proofs Go.Maps
attribute [local irreducible] WC WL WX WS WO OX Does DoesU Enters CV Pure thenQ blockQ retQ Wants
set_option maxRecDepth 100000
def byteAt (s : ByteArray) (k : Nat) : Int := (s.data.toList.map fun b => (b.toNat : Int)).getD k 0
def lowName (s : ByteArray) : Prop := ∃ k, k < s.size ∧ byteAt s k < 32
def symBad (c : Circ) (f : Int → Int → Int) (s : Sym) : Prop := s.at_ < 0 ∨ manyM c s.kind ≤ s.at_ ∨ s.name = ByteArray.empty ∨ 64 < s.name.size ∨ 0 < f s.kind s.at_ ∨ lowName s.name
open Classical in
/-- The first symbol that may not be, or -1. -/
noncomputable def goSym (c : Circ) : List Sym → Nat → (Int → Int → Int) → Int
  | [], _, _ => -1
  | s :: r, i, f => if symBad c f s then i else goSym c r (i + 1) (fun p q => if p = s.kind ∧ q = s.at_ then f s.kind s.at_ + 1 else f p q)
theorem goSym_bad {c : Circ} {ls : List Sym} {k : Nat} {f : Int → Int → Int} (hk : k < ls.length) (h : symBad c f ls[k]) : goSym c (ls.drop k) k f = k := by
  rw [List.drop_eq_getElem_cons hk]
  unfold goSym
  rw [if_pos h]
theorem goSym_ok {c : Circ} {ls : List Sym} {k : Nat} {f : Int → Int → Int} (hk : k < ls.length) (h : ¬ symBad c f ls[k]) : goSym c (ls.drop k) k f = goSym c (ls.drop (k + 1)) (k + 1) (fun p q => if p = ls[k].kind ∧ q = ls[k].at_ then f ls[k].kind ls[k].at_ + 1 else f p q) := by
  rw [List.drop_eq_getElem_cons hk]
  conv => lhs; unfold goSym
  rw [if_neg h]
end SC
end Go.Proofs.Ytkndegjodnciaaa

/- shape: order, the walk's first loop. -/
import Derived.Test.YtkndegjodnciaaaF1
set_option linter.unusedVariables false
set_option linter.unusedSimpArgs false
namespace Go.Proofs.Ytkndegjodnciaaa
namespace SC
open Go.Proofs
attribute [local irreducible] WC WL WX WS WO OX Does DoesU Enters CV Pure thenQ blockQ retQ Wants
set_option maxRecDepth 100000
/-- Rows of numbers, each in memory of its own. -/
structure Above (w : World) (base : Nat) (vs : List Value) (av : List (List Int)) : Prop where
  len : vs.length = av.length
  rows : ∀ (x : Nat) (v : Value) (l : List Int), vs[x]? = some v → av[x]? = some l → w.ownsRow base 3 1 v l.length (l.map nu)
  apart : ∀ (x y : Nat) (v u : Value) (k : Nat), x ≠ y → vs[x]? = some v → vs[y]? = some u → v.ownBlock = some k → u.ownBlock ≠ some k
section
variable {w w' : World} {base : Nat} {vs : List Value} {av : List (List Int)}
theorem Above.lt (h : Above w base vs av) {x : Nat} {v : Value} {k : Nat} (hx : vs[x]? = some v) (hk : v.ownBlock = some k) : base ≤ k ∧ k < w.heap.size := by
  have hlt := (List.getElem?_eq_some_iff.1 hx).1
  have hlt2 : x < av.length := by have := h.len; omega
  have hl : av[x]? = some av[x] := List.getElem?_eq_getElem hlt2
  exact (h.rows x v _ hx hl).lt k hk
theorem Above.chg (h : Above w base vs av) {T : Nat → Prop} (hc : Chg w w' T) (hn : ∀ (x : Nat) (v : Value) (k : Nat), vs[x]? = some v → v.ownBlock = some k → ¬ T k) : Above w' base vs av :=
  ⟨h.len, fun x v l hx hl => own_chg (h.rows x v l hx hl) hc fun k hk => hn x v k hx hk, h.apart⟩
theorem Above.set (h : Above w base vs av) {x : Nat} {v v' : Value} {l l' : List Int} (hx : vs[x]? = some v) (hl : av[x]? = some l) (hrow : w'.ownsRow base 3 1 v' l'.length (l'.map nu)) (hc : Chg w w' (fun k => v.ownBlock = some k))
    (ho : v'.ownBlock = v.ownBlock ∨ v'.ownBlock = some w.heap.size) : Above w' base (vs.set x v') (av.set x l') := by
  have hxl := (List.getElem?_eq_some_iff.1 hx).1
  have hal := (List.getElem?_eq_some_iff.1 hl).1
  refine ⟨by simp [h.len], fun y u m hy hm => ?_, fun y z u u' k hyz hy hz hk => ?_⟩
  · rw [List.getElem?_set] at hy hm
    by_cases hc' : x = y
    · subst hc'
      rw [if_pos rfl, if_pos (by first | exact hxl | exact hal)] at hy hm
      cases hy; cases hm
      exact hrow
    · rw [if_neg hc'] at hy hm
      exact own_chg (h.rows y u m hy hm) hc fun k hk hv => h.apart x y v u k hc' hx hy hv hk
  · rw [List.getElem?_set] at hy hz
    by_cases h1 : x = y
    · subst h1
      rw [if_pos rfl, if_pos hxl] at hy
      rw [if_neg hyz] at hz
      cases hy
      intro hk'
      rcases ho with ho | ho
      · exact h.apart x z v u' k hyz hx hz (ho ▸ hk) hk'
      · rw [ho] at hk
        cases hk
        have := (h.lt hz hk').2
        omega
    · rw [if_neg h1] at hy
      by_cases h2 : x = z
      · subst h2
        rw [if_pos rfl, if_pos hxl] at hz
        cases hz
        intro hk'
        rcases ho with ho | ho
        · exact h.apart y x u v k hyz hy hx hk (ho ▸ hk')
        · rw [ho] at hk'
          cases hk'
          have := (h.lt hy hk).2
          omega
      · rw [if_neg h2] at hz
        exact h.apart y z u u' k hyz hy hz hk
theorem Above.init (w : World) (base n : Nat) : Above w base (List.replicate n (.slice none 0 0)) (List.replicate n []) := by
  refine ⟨by simp, fun x v l hx hl => ?_, fun x y v u k _ hx _ hk => ?_⟩
  · rw [List.getElem?_replicate] at hx hl
    split at hx
    · rename_i hlt
      rw [if_pos hlt] at hl
      cases hx; cases hl
      exact World.ownsRow_nil _ _ _ _
    · cases hx
  · rw [List.getElem?_replicate] at hx
    split at hx
    · cases hx; cases hk
    · cases hx
end
theorem own_mono {w : World} {base base' : Nat} {e : TypeId} {size : Nat} {v : Value} {n : Nat} {xs : List Value} (h : w.ownsRow base e size v n xs) (hb : base' ≤ base) : w.ownsRow base' e size v n xs := by
  obtain ⟨h1, h2⟩ := h
  refine ⟨h1, ?_⟩
  rcases h2 with h2 | ⟨g, cap, cur, hv, hg, rest⟩
  · exact .inl h2
  · exact .inr ⟨g, cap, cur, hv, Nat.le_trans hb hg, rest⟩
theorem own_cap {w : World} {base : Nat} {e : TypeId} {size : Nat} {a : Option Addr} {m c : Nat} {n : Nat} {xs : List Value} (h : w.ownsRow base e size (.slice a m c) n xs) : n ≤ c := by
  rcases h.2 with ⟨hv, hn⟩ | ⟨g, cap, cur, hv, _, _, hc, _⟩
  · omega
  · cases hv; exact hc
theorem own_short {w : World} {base m c : Nat} {a : Option Addr} {xs : List Int} {u : Int} (h : w.ownsRow base 3 1 (.slice a (m + 1) c) (m + 1) ((xs ++ [u]).map nu)) (hm : xs.length = m) : w.ownsRow base 3 1 (.slice a m c) m (xs.map nu) := by
  obtain ⟨h1, h2⟩ := h
  rcases h2 with ⟨hv, hn⟩ | ⟨g, cap, cur, hv, hb, hg, hc, hmx, hs, ht⟩
  · omega
  · cases hv
    refine ⟨by simp [hm], .inr ⟨g, _, cur, rfl, hb, hg, by omega, hmx, hs, ?_⟩⟩
    have : cur.toList.take (m * 1) = (cur.toList.take ((m + 1) * 1)).take (m * 1) := by rw [List.take_take, Nat.min_eq_left (by omega)]
    rw [this, ht, List.map_append, List.take_append_of_le_length (by simp [hm]), List.take_of_length_le (by simp [hm])]
theorem L_cell {ls : List Int} {y : Int} (h : rg ls.length y) : (ls.map nu)[0 + y.toNat * 1]? = some (nu (L ls y)) := by
  unfold rg at h
  rw [Nat.zero_add, Nat.mul_one, List.getElem?_map, List.getElem?_eq_getElem (by omega)]
  unfold L
  rw [List.getD_eq_getElem?_getD, List.getElem?_eq_getElem (by omega)]
  rfl
theorem A_get {av : List (List Int)} {x : Int} (h : rg av.length x) : av[x.toNat]? = some (A av x) := by
  unfold rg at h
  unfold A
  rw [List.getD_eq_getElem?_getD, List.getElem?_eq_getElem (by omega)]
  rfl
theorem set_nu (ls : List Int) (k : Nat) (a : Int) : (ls.map nu).set k (nu a) = (ls.set k a).map nu := by rw [List.map_set]
/-- Of each gate: the gates that it uses. -/
def gateB (t : Tab) (c : Circ) (y : Int) : List Int := belowM t (c.ands.getD y.toNat (0, 0, 0))
theorem gateB_at (t : Tab) (c : Circ) {i : Nat} (hi : i < c.ands.length) : gateB t c i = belowM t c.ands[i] := by
  unfold gateB
  simp [hi]
section
variable {n : Nat} {all rest : List Oper} {K : Env → World → Prop} {e : Env} {w : World} {d : Option Tmp} {ty : TypeId} {P : Program} {x y : Operand} {t t0 : TypeId} {td : TypeDesc} {sz sz1 by_ by1 : Nat} {zv z1 : Value} {ag ag1 : Bool}
theorem X_sliceTo {a : Option Addr} {m c : Nat} {k : IntKind} {i : Int} [U : Ty P t (.slice t0) sz1 z1 by1 ag1] [T : Ty P t0 td sz zv by_ ag] (h : ev e x = some (.slice a m c)) (h1 : ev e y = some (.int k i)) (h0 : 0 ≤ i) (h2 : i ≤ c) (hr : WL P n all K rest (push d (.slice a i.toNat c) e) w) :
    WX P n all K rest d (.slice t x none (some y) none) ty e w := X_pure (p_sliceTo U.und T h h1 h0 h2) hr
end
/-- What order keeps in memory: what lacks, who hangs on whom, the variable of those that are ready, and its row. -/
structure OrdMem (w : World) (lb ab rb base : Nat) (ls : List Int) (vs : List Value) (av : List (List Int)) (v : Value) (q : List Int) : Prop where
  lack : Blk w lb 3 (ls.map nu)
  abv : Blk w ab 45 vs
  rows : Above w base vs av
  rdy : Blk w rb 45 [v]
  row : w.ownsRow (rb + 1) 3 1 v q.length (q.map nu)
  under : ∀ (x : Nat) (u : Value) (k : Nat), vs[x]? = some u → u.ownBlock = some k → k < rb
  lay : lb < base ∧ ab < base ∧ lb ≠ ab ∧ base ≤ rb
section
variable {w w' : World} {lb ab rb base : Nat} {ls : List Int} {vs : List Value} {av : List (List Int)} {v v' : Value} {q q' : List Int}
theorem OrdMem.chg (h : OrdMem w lb ab rb base ls vs av v q) {T : Nat → Prop} (hc : Chg w w' T) (hT : ∀ k, T k → rb < k ∧ v.ownBlock ≠ some k) : OrdMem w' lb ab rb base ls vs av v q := by
  have hl := h.lay
  refine ⟨h.lack.chg hc fun hh => ?_, h.abv.chg hc fun hh => ?_, h.rows.chg hc fun x u k hx hk hh => ?_, h.rdy.chg hc fun hh => ?_, own_chg h.row hc fun k hk hh => (hT k hh).2 hk, h.under, hl⟩
  · have := (hT _ hh).1; omega
  · have := (hT _ hh).1; omega
  · have := (hT _ hh).1; have := h.under x u k hx hk; omega
  · have := (hT _ hh).1; omega
theorem OrdMem.same (h : OrdMem w lb ab rb base ls vs av v q) (hc : Chg w w' none_) : OrdMem w' lb ab rb base ls vs av v q := h.chg hc fun _ hh => hh.elim
theorem OrdMem.pushed (h : OrdMem w lb ab rb base ls vs av v q) (hc : Chg w w' (fun k => k = rb ∨ v.ownBlock = some k)) (hb : Blk w' rb 45 [v']) (hrow : w'.ownsRow (rb + 1) 3 1 v' q'.length (q'.map nu)) : OrdMem w' lb ab rb base ls vs av v' q' := by
  have hl := h.lay
  have hlt : ∀ k, v.ownBlock = some k → rb + 1 ≤ k := fun k hk => (h.row.lt k hk).1
  refine ⟨h.lack.chg hc fun hh => ?_, h.abv.chg hc fun hh => ?_, h.rows.chg hc fun x u k hx hk hh => ?_, hb, hrow, h.under, hl⟩
  · rcases hh with hh | hh
    · omega
    · have := hlt _ hh; omega
  · rcases hh with hh | hh
    · omega
    · have := hlt _ hh; omega
  · have := h.under x u k hx hk
    rcases hh with hh | hh
    · omega
    · have := hlt _ hh; omega
theorem OrdMem.lacked (h : OrdMem w lb ab rb base ls vs av v q) (ls' : List Int) : OrdMem (w.setRow lb (ls'.map nu).toArray) lb ab rb base ls' vs av v q := by
  have hl := h.lay
  have hc : Chg w (w.setRow lb (ls'.map nu).toArray) (fun k => k = lb) := Chg.setRow _ _ _ rfl
  refine ⟨h.lack.set _, h.abv.chg hc (by omega), h.rows.chg hc fun x u k hx hk hh => by have := (h.rows.lt hx hk).1; omega, h.rdy.chg hc (by omega), own_chg h.row hc fun k hk hh => by have := (h.row.lt k hk).1; omega, h.under, hl⟩
end
end SC
end Go.Proofs.Ytkndegjodnciaaa

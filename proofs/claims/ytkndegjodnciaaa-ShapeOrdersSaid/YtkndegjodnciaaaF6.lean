/- shape: the plain law of definitions and uses. -/
import Derived.Test.YtkndegjodnciaaaF5
set_option linter.unusedVariables false
set_option linter.unusedSimpArgs false
namespace Go.Proofs.Ytkndegjodnciaaa
namespace SC
open Go.Proofs
theorem kindAt_get {t : Tab} {v : Int} {m : Int × Int} (h : t[v.toNat]? = some m) : kindAt t v = m.1 := by unfold kindAt; rw [h]; rfl
theorem atOf_get {t : Tab} {v : Int} {m : Int × Int} (h : t[v.toNat]? = some m) : atOf t v = m.2 := by unfold atOf; rw [h]; rfl
/-- What definitions of one kind leave where none is wrong. -/
structure DefOk (max kind : Int) (ls : List Int) (k : Nat) (t t' : Tab) : Prop where
  len : t'.length = t.length
  each : ∀ j (hj : j < ls.length), ¬ defBad max ls[j] ∧ kindAt t (ls[j] / 2) = 0 ∧ t'[(ls[j] / 2).toNat]? = some (kind, ((k + j : Nat) : Int))
  rest : ∀ v : Nat, (∀ l ∈ ls, (l / 2).toNat ≠ v) → t'[v]? = t[v]?
theorem goDef_spec {max kind : Int} (hk : kind ≠ 0) : ∀ (ls : List Int) (k : Nat) (t : Tab), (t.length : Int) = max + 1 → (goDef max kind ls k t).1.2 = 0 → DefOk max kind ls k t (goDef max kind ls k t).2
  | [], k, t, _, _ => ⟨rfl, fun j hj => absurd hj (Nat.not_lt_zero _), fun _ _ => rfl⟩
  | l :: r, k, t, hl, h => by
    unfold goDef at h ⊢
    split at h
    · rename_i hh; exact absurd h hh
    · rename_i hh
      rw [if_neg hh]
      have hh : (defM max t l (kind, (k : Int))).1 = 0 := Classical.byContradiction hh
      have hb : ¬ defBad max l := by
        intro hb
        unfold defM at hh
        rw [if_pos hb] at hh
        simp at hh
      have hk0 : kindAt t (l / 2) = 0 := Classical.byContradiction fun hc => by
        unfold defM at hh
        rw [if_neg hb, if_pos hc] at hh
        simp at hh
      have e2 : (defM max t l (kind, (k : Int))).2 = t.set (l / 2).toNat (kind, (k : Int)) := by unfold defM; rw [if_neg hb, if_neg (fun hc => hc hk0)]
      rw [e2] at h ⊢
      have ih := goDef_spec hk r (k + 1) (t.set (l / 2).toNat (kind, (k : Int))) (by rw [List.length_set]; exact hl) h
      have hlt : (l / 2).toNat < t.length := by unfold defBad at hb; omega
      have hne : ∀ l' ∈ r, (l' / 2).toNat ≠ (l / 2).toNat := by
        intro l' hl' e
        obtain ⟨j, hj, rfl⟩ := List.mem_iff_getElem.1 hl'
        have := (ih.each j hj).2.1
        have g : (t.set (l / 2).toNat (kind, (k : Int)))[(r[j] / 2).toNat]? = some (kind, (k : Int)) := by rw [e, List.getElem?_set_self hlt]
        rw [kindAt_get g] at this
        exact hk this
      refine ⟨by rw [ih.len, List.length_set], fun j hj => ?_, fun v hv => ?_⟩
      · cases j with
        | zero =>
          refine ⟨hb, hk0, ?_⟩
          simp only [List.getElem_cons_zero, Nat.add_zero]
          rw [ih.rest _ hne, List.getElem?_set_self hlt]
        | succ j =>
          obtain ⟨g1, g2, g3⟩ := ih.each j (by simpa using hj)
          simp only [List.getElem_cons_succ]
          refine ⟨g1, ?_, by rw [g3]; simp; omega⟩
          have hn := hne _ (List.getElem_mem (show j < r.length by simpa using hj))
          unfold kindAt at g2 ⊢
          rwa [List.getElem?_set_ne (fun e => hn e.symm)] at g2
      · rw [ih.rest v fun l' hl' => hv l' (by simp [hl']), List.getElem?_set_ne (hv l (by simp))]
theorem goDefL_goDef {max : Int} : ∀ (ls : List Tri) (k : Nat) (t : Tab), (goDefL max ls k t).1.2 = 0 → (goDef max 2 (ls.map (·.1)) k t).1.2 = 0 ∧ (goDef max 2 (ls.map (·.1)) k t).2 = (goDefL max ls k t).2 ∧ ∀ x ∈ ls, ¬ badReset x
  | [], _, _, _ => ⟨rfl, rfl, fun x hx => by cases hx⟩
  | x :: r, k, t, h => by
    unfold goDefL at h
    split at h
    · rename_i hh; exact absurd h hh
    · rename_i hh
      split at h
      · simp at h
      · rename_i hb
        obtain ⟨h1, h2, h3⟩ := goDefL_goDef r (k + 1) _ h
        have e1 : goDef max 2 ((x :: r).map (·.1)) k t = goDef max 2 (r.map (·.1)) (k + 1) (defM max t x.1 (2, (k : Int))).2 := by
          rw [List.map_cons]
          conv => lhs; unfold goDef
          rw [if_neg hh]
        have e2 : goDefL max (x :: r) k t = goDefL max r (k + 1) (defM max t x.1 (2, (k : Int))).2 := by
          conv => lhs; unfold goDefL
          rw [if_neg hh, if_neg hb]
        rw [e1, e2]
        exact ⟨h1, h2, fun y hy => by
          rcases List.mem_cons.1 hy with rfl | hy
          · exact hb
          · exact h3 y hy⟩
def T0 (c : Circ) : Tab := List.replicate (c.max + 1).toNat (0, 0)
/-- The table of a circuit whose definitions are right. -/
structure TabOk (c : Circ) (t : Tab) : Prop where
  len : (t.length : Int) = c.max + 1
  inp : ∀ j (hj : j < c.inputs.length), ¬ defBad c.max c.inputs[j] ∧ t[(c.inputs[j] / 2).toNat]? = some (1, (j : Int))
  lat : ∀ j (hj : j < c.latches.length), ¬ defBad c.max c.latches[j].1 ∧ t[(c.latches[j].1 / 2).toNat]? = some (2, (j : Int)) ∧ ¬ badReset c.latches[j]
  gat : ∀ j (hj : j < c.ands.length), ¬ defBad c.max c.ands[j].1 ∧ t[(c.ands[j].1 / 2).toNat]? = some (3, (j : Int))
  only : ∀ (v : Nat) (m : Int × Int), t[v]? = some m → m = (0, 0) ∨ (∃ (j : Nat) (hj : j < c.inputs.length), c.inputs[j] = 2 * v ∧ m = (1, (j : Int))) ∨ (∃ (j : Nat) (hj : j < c.latches.length), c.latches[j].1 = 2 * v ∧ m = (2, (j : Int))) ∨ ∃ (j : Nat) (hj : j < c.ands.length), c.ands[j].1 = 2 * v ∧ m = (3, (j : Int))
theorem two_of {max l : Int} {v : Nat} (h : ¬ defBad max l) (e : (l / 2).toNat = v) : l = 2 * v := by unfold defBad at h; omega
theorem definesM_spec {c : Circ} (h0 : 0 ≤ c.max) (h : (definesM c (T0 c)).1.2 = 0) : TabOk c (definesM c (T0 c)).2 := by
  unfold definesM at h ⊢
  split at h
  · rename_i hh; exact absurd h hh
  · rename_i hh
    rw [if_neg hh]
    have h1 : (goDef c.max 1 c.inputs 0 (T0 c)).1.2 = 0 := Classical.byContradiction hh
    split at h
    · rename_i hh2; exact absurd h hh2
    · rename_i hh2
      rw [if_neg hh2]
      have h2 : (goDefL c.max c.latches 0 (goDef c.max 1 c.inputs 0 (T0 c)).2).1.2 = 0 := Classical.byContradiction hh2
      have hl0 : ((T0 c).length : Int) = c.max + 1 := by unfold T0; simp; omega
      have d1 := goDef_spec (by decide) c.inputs 0 (T0 c) hl0 h1
      obtain ⟨g1, g2, g3⟩ := goDefL_goDef c.latches 0 _ h2
      have d2 := goDef_spec (by decide) (c.latches.map (·.1)) 0 _ (by rw [d1.len]; exact hl0) g1
      rw [g2] at d2
      have d3 := goDef_spec (by decide) (c.ands.map (·.1)) 0 _ (by rw [d2.len, d1.len]; exact hl0) h
      generalize (goDef c.max 1 c.inputs 0 (T0 c)).2 = t1 at *
      generalize (goDefL c.max c.latches 0 t1).2 = t2 at *
      generalize (goDef c.max 3 (c.ands.map (·.1)) 0 t2).2 = t3 at *
      have k2 : ∀ v : Nat, ∀ m, t2[v]? = some m → m.1 ≠ 0 → t3[v]? = some m := fun v m hm hk => by
        rw [d3.rest v fun l hl e => ?_]
        · exact hm
        · obtain ⟨j, hj, rfl⟩ := List.mem_iff_getElem.1 hl
          have := (d3.each j hj).2.1
          rw [kindAt_get (m := m) (by rw [e]; exact hm)] at this
          exact hk this
      have k1 : ∀ v : Nat, ∀ m, t1[v]? = some m → m.1 ≠ 0 → t2[v]? = some m := fun v m hm hk => by
        rw [d2.rest v fun l hl e => ?_]
        · exact hm
        · obtain ⟨j, hj, rfl⟩ := List.mem_iff_getElem.1 hl
          have := (d2.each j hj).2.1
          rw [kindAt_get (m := m) (by rw [e]; exact hm)] at this
          exact hk this
      refine ⟨by rw [d3.len, d2.len, d1.len]; exact hl0, fun j hj => ?_, fun j hj => ?_, fun j hj => ?_, fun v m hm => ?_⟩
      · obtain ⟨a1, _, a3⟩ := d1.each j hj
        exact ⟨a1, by have := k2 _ _ (k1 _ _ a3 (by simp)) (by simp); simpa using this⟩
      · obtain ⟨a1, _, a3⟩ := d2.each j (by simpa using hj)
        simp only [List.getElem_map] at a1 a3
        exact ⟨a1, by have := k2 _ _ a3 (by simp); simpa using this, g3 _ (List.getElem_mem hj)⟩
      · obtain ⟨a1, _, a3⟩ := d3.each j (by simpa using hj)
        simp only [List.getElem_map] at a1 a3
        exact ⟨a1, by simpa using a3⟩
      · by_cases c3 : ∃ (j : Nat) (hj : j < c.ands.length), (c.ands[j].1 / 2).toNat = v
        · obtain ⟨j, hj, e⟩ := c3
          obtain ⟨a1, _, a3⟩ := d3.each j (by simpa using hj)
          simp only [List.getElem_map] at a1 a3
          rw [e, hm] at a3
          exact .inr (.inr (.inr ⟨j, hj, two_of a1 e, by simpa using a3⟩))
        · rw [d3.rest v fun l hl e => by
            obtain ⟨x, hx, rfl⟩ := List.mem_map.1 hl
            obtain ⟨j, hj, rfl⟩ := List.mem_iff_getElem.1 hx
            exact c3 ⟨j, hj, e⟩] at hm
          by_cases c2 : ∃ (j : Nat) (hj : j < c.latches.length), (c.latches[j].1 / 2).toNat = v
          · obtain ⟨j, hj, e⟩ := c2
            obtain ⟨a1, _, a3⟩ := d2.each j (by simpa using hj)
            simp only [List.getElem_map] at a1 a3
            rw [e, hm] at a3
            exact .inr (.inr (.inl ⟨j, hj, two_of a1 e, by simpa using a3⟩))
          · rw [d2.rest v fun l hl e => by
              obtain ⟨x, hx, rfl⟩ := List.mem_map.1 hl
              obtain ⟨j, hj, rfl⟩ := List.mem_iff_getElem.1 hx
              exact c2 ⟨j, hj, e⟩] at hm
            by_cases c1 : ∃ (j : Nat) (hj : j < c.inputs.length), (c.inputs[j] / 2).toNat = v
            · obtain ⟨j, hj, e⟩ := c1
              obtain ⟨a1, _, a3⟩ := d1.each j hj
              rw [e, hm] at a3
              exact .inr (.inl ⟨j, hj, two_of a1 e, by simpa using a3⟩)
            · rw [d1.rest v fun l hl e => by
                obtain ⟨j, hj, rfl⟩ := List.mem_iff_getElem.1 hl
                exact c1 ⟨j, hj, e⟩] at hm
              left
              unfold T0 at hm
              rw [List.getElem?_replicate] at hm
              split at hm
              · simpa using hm.symm
              · cases hm
/-- A literal that may be used. -/
def useOk (c : Circ) (t : Tab) (x : Int) : Prop := 0 ≤ x ∧ x ≤ 2 * c.max + 1 ∧ (1 < x → kindAt t (x / 2) ≠ 0)
theorem useOne_ok {c : Circ} {t : Tab} {x : Int} : useOne c.max t x = 0 ↔ useOk c t x := by
  unfold useOne useOk
  split
  · constructor
    · intro h; omega
    · rintro ⟨h1, h2, _⟩; omega
  · split
    · rename_i h
      constructor
      · intro h; omega
      · rintro ⟨_, _, h3⟩; exact absurd h.2 (h3 h.1)
    · rename_i h1 h2
      constructor
      · intro _; exact ⟨by omega, by omega, fun h3 h4 => h2 ⟨h3, h4⟩⟩
      · intro _; rfl
theorem useM_ok {c : Circ} {t : Tab} : ∀ ls : List Int, useM c.max t ls = 0 ↔ ∀ x ∈ ls, useOk c t x
  | [] => by simp [useM]
  | x :: r => by
    unfold useM
    rw [List.forall_mem_cons, ← useM_ok r, ← useOne_ok]
    split
    · rename_i h
      exact ⟨fun hh => absurd hh h, fun hh => absurd hh.1 h⟩
    · rename_i h
      have h' := Classical.byContradiction h
      exact ⟨fun hh => ⟨h', hh⟩, fun hh => hh.2⟩
theorem goUse_ok {c : Circ} {t : Tab} : ∀ (ls : List (List Int)) (k : Nat), (goUse c.max t ls k).2 = 0 ↔ ∀ l ∈ ls, ∀ x ∈ l, useOk c t x
  | [], _ => by simp [goUse]
  | l :: r, k => by
    unfold goUse
    rw [List.forall_mem_cons, ← goUse_ok r (k + 1), ← useM_ok]
    split
    · rename_i h
      exact ⟨fun hh => absurd hh h, fun hh => absurd hh.1 h⟩
    · rename_i h
      have h' := Classical.byContradiction h
      exact ⟨fun hh => ⟨h', hh⟩, fun hh => hh.2⟩
theorem goUse_zero {max : Int} {t : Tab} : ∀ (ls : List (List Int)) (k : Nat), (goUse max t ls k).2 = 0 → goUse max t ls k = (0, 0)
  | [], _, _ => rfl
  | l :: r, k, h => by
    unfold goUse at *
    split at h
    · rename_i hh; exact absurd h hh
    · rename_i hh; rw [if_neg hh]; exact goUse_zero r _ h
theorem thenE_ok_iff {a b : Int × Int} : (thenE a b).2 = 0 ↔ a.2 = 0 ∧ b.2 = 0 := by
  unfold thenE
  split
  · rename_i h; exact ⟨fun hh => absurd hh h, fun hh => absurd hh.1 h⟩
  · rename_i h; exact ⟨fun hh => ⟨Classical.byContradiction h, hh⟩, fun hh => hh.2⟩
structure UseAll (c : Circ) (t : Tab) : Prop where
  next : ∀ x ∈ c.latches, useOk c t x.2.1
  outputs : ∀ x ∈ c.outputs, useOk c t x
  bads : ∀ x ∈ c.bads, useOk c t x
  constraints : ∀ x ∈ c.constraints, useOk c t x
  justice : ∀ l ∈ c.justice, ∀ x ∈ l, useOk c t x
  fairness : ∀ x ∈ c.fairness, useOk c t x
  ands : ∀ x ∈ c.ands, useOk c t x.2.1 ∧ useOk c t x.2.2
theorem usesM_spec {c : Circ} {t : Tab} : (usesM c t).2 = 0 ↔ UseAll c t := by
  unfold usesM
  simp only [thenE_ok_iff, goUse_ok, ones]
  constructor
  · rintro ⟨h1, h2, h3, h4, h5, h6, h7⟩
    exact ⟨fun x hx => h1 _ (List.mem_map.2 ⟨x, hx, rfl⟩) _ (by simp), fun x hx => h2 _ (List.mem_map.2 ⟨x, hx, rfl⟩) _ (by simp), fun x hx => h3 _ (List.mem_map.2 ⟨x, hx, rfl⟩) _ (by simp), fun x hx => h4 _ (List.mem_map.2 ⟨x, hx, rfl⟩) _ (by simp), h5,
      fun x hx => h6 _ (List.mem_map.2 ⟨x, hx, rfl⟩) _ (by simp), fun x hx => ⟨h7 _ (List.mem_map.2 ⟨x, hx, rfl⟩) _ (by simp), h7 _ (List.mem_map.2 ⟨x, hx, rfl⟩) _ (by simp)⟩⟩
  · intro h
    refine ⟨?_, ?_, ?_, ?_, h.justice, ?_, ?_⟩ <;> intro l hl x hx <;> obtain ⟨y, hy, rfl⟩ := List.mem_map.1 hl <;> simp only [List.mem_cons, List.not_mem_nil, or_false] at hx
    · subst hx; exact h.next y hy
    · subst hx; exact h.outputs _ hy
    · subst hx; exact h.bads _ hy
    · subst hx; exact h.constraints _ hy
    · subst hx; exact h.fairness _ hy
    · rcases hx with rfl | rfl
      · exact (h.ands y hy).1
      · exact (h.ands y hy).2
theorem mem_belowL {t : Tab} {y : Int} : ∀ ls : List Int, y ∈ belowL t ls ↔ ∃ l ∈ ls, kindAt t (l / 2) = 3 ∧ atOf t (l / 2) = y
  | [] => by simp [belowL]
  | l :: r => by
    unfold belowL
    split
    · rename_i h
      simp only [List.mem_cons, mem_belowL r, exists_eq_or_imp, h, true_and]
      constructor
      · rintro (rfl | h)
        · exact .inl rfl
        · exact .inr h
      · rintro (rfl | h)
        · exact .inl rfl
        · exact .inr h
    · rename_i h
      simp only [List.mem_cons, mem_belowL r, exists_eq_or_imp, h, false_and, false_or]
theorem TabOk.gate {c : Circ} {t : Tab} (h : TabOk c t) {v : Nat} (hk : kindAt t v = 3) : ∃ (j : Nat) (hj : j < c.ands.length), c.ands[j].1 = 2 * v ∧ atOf t v = j ∧ t[v]? = some (3, (j : Int)) := by
  have e : ((v : Int)).toNat = v := by omega
  cases ht : t[v]? with
  | none => unfold kindAt at hk; rw [e, ht] at hk; simp at hk
  | some m =>
    have g : t[((v : Int)).toNat]? = some m := by rw [e]; exact ht
    rw [kindAt_get g] at hk
    rcases h.only v m ht with rfl | ⟨j, hj, h1, rfl⟩ | ⟨j, hj, h1, rfl⟩ | ⟨j, hj, h1, rfl⟩
    · simp at hk
    · simp at hk
    · simp at hk
    · exact ⟨j, hj, h1, by rw [atOf_get g], rfl⟩
theorem TabOk.below {c : Circ} {t : Tab} (h : TabOk c t) (hu : UseAll c t) : ∀ y, rg c.ands.length y → ∀ x ∈ gateB t c y, rg c.ands.length x := by
  intro y hy x hx
  unfold rg at hy
  unfold gateB belowM at hx
  obtain ⟨l, hl, h1, h2⟩ := (mem_belowL _).1 hx
  have hlt : y.toNat < c.ands.length := by omega
  have e : c.ands.getD y.toNat (0, 0, 0) = c.ands[y.toNat] := by simp [hlt]
  have ha := hu.ands _ (List.getElem_mem hlt)
  rw [e] at hl
  have h0 : 0 ≤ l := by
    simp only [List.mem_cons, List.not_mem_nil, or_false] at hl
    rcases hl with rfl | rfl
    · exact ha.1.1
    · exact ha.2.1
  have e2 : l / 2 = (((l / 2).toNat : Nat) : Int) := by omega
  rw [e2] at h1 h2
  obtain ⟨j, hj, _, h3, _⟩ := h.gate h1
  rw [h3] at h2
  unfold rg
  omega
end SC
end Go.Proofs.Ytkndegjodnciaaa

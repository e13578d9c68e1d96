/- Texts of this seat, one behind the other: S28 S29 S30 S31 S32 S33 S36 S34 S35 M1 M2 M3 S37 S38 S39 S40 N2 N3 N4 N5 N6 N7 N8 N9 N17 N23 N24 B3 B4 B5 N25 N26 N34 N35 N36 N38 N37 B6 B7 B8 N27 N28 N39 N10 N11 N41. -/
import Derived.Test.YticndofcfacopaaT4
section
/- The renumbering's map: what it gives to each variable of a right circuit. -/
set_option linter.unusedVariables false
set_option linter.unusedSimpArgs false
namespace Go.Proofs.Yticndofcfacopaa
namespace SC
open Go.Proofs
theorem nodup_map {α β : Type} {f : α → β} {l : List α} (hf : ∀ a b, f a = f b → a = b) (h : l.Nodup) : (l.map f).Nodup := by
  rw [List.Nodup, List.pairwise_map]
  exact h.imp fun {a b} hab e => hab (hf a b e)
theorem nodup_of_map {α β : Type} {f : α → β} {l : List α} (h : (l.map f).Nodup) : l.Nodup := by
  rw [List.Nodup, List.pairwise_map] at h
  exact h.imp fun {a b} hab e => hab (by rw [e])
theorem mapOf_all {max : Int} {ks : List Int} (hr : ∀ k ∈ ks, rg (max + 1).toNat (k / 2)) (hn : (ks.map (· / 2)).Nodup) : ∀ (n : Nat), n ≤ ks.length → ∀ v, 0 ≤ v → (∀ (j : Nat) (hj : j < ks.length), j < n → v = ks[j] / 2 → L (mapOf max (ks.take n)) v = 2 * j + 2) ∧ ((∀ (j : Nat) (hj : j < ks.length), j < n → v ≠ ks[j] / 2) → L (mapOf max (ks.take n)) v = 0) := by
  intro n
  induction n with
  | zero =>
    intro _ v _
    rw [List.take_zero]
    exact ⟨fun j _ hj => absurd hj (Nat.not_lt_zero _), fun _ => L_rep _ v⟩
  | succ n ih =>
    intro hn' v hv
    have hlt : n < ks.length := by omega
    rw [List.take_succ_eq_append_getElem hlt, mapOf_snoc, L_set _ (by rw [mapOf_len]; exact hr _ (List.getElem_mem hlt)) hv, List.length_take, Nat.min_eq_left (by omega)]
    obtain ⟨i1, i2⟩ := ih (by omega) v hv
    refine ⟨fun j hj hjn e => ?_, fun h => ?_⟩
    · by_cases hjn' : j = n
      · subst hjn'
        rw [if_pos e]
      · have hne : v ≠ ks[n] / 2 := fun e2 => hjn' (by
          have h1 : (ks.map (· / 2))[j]'(by simpa using hj) = (ks.map (· / 2))[n]'(by simpa using hlt) := by simp only [List.getElem_map]; rw [← e, ← e2]
          exact nodup_ix hn (by simpa using hj) (by simpa using hlt) h1)
        rw [if_neg hne]
        exact i1 j hj (by omega) e
    · rw [if_neg (h n hlt (by omega))]
      exact i2 fun j hj hjn => h j hj (by omega)
section
variable {c : Circ} (R : Right c)
include R
/-- What defines a variable. -/
theorem Right.defs {k : Int} (h : k ∈ defsOf c (ordM c)) : defR c k := by
  unfold defsOf at h
  rcases List.mem_append.1 h with h | h
  · rcases List.mem_append.1 h with h | h
    · exact R.inp h
    · obtain ⟨x, hx, rfl⟩ := List.mem_map.1 h
      exact (R.lat hx).1
  · obtain ⟨i, hi, rfl⟩ := List.mem_map.1 h
    have ho := R.ord hi
    refine (R.gate ?_).1
    unfold andAt
    have hlt : i.toNat < c.ands.length := by omega
    simp [hlt]
theorem Right.defs_rg {k : Int} (h : k ∈ defsOf c (ordM c)) : rg (c.max + 1).toNat (k / 2) := by
  have := R.defs h
  have := R.m0
  unfold defR at *
  unfold rg
  omega
theorem Right.defs_nodup : ((defsOf c (ordM c)).map (· / 2)).Nodup := by
  have hT := R.tab
  generalize htab : tabM c = t at *
  have key : ((defsOf c (ordM c)).map (· / 2)).map (fun v : Int => t[v.toNat]?) = ((List.range c.inputs.length).map fun (j : Nat) => some ((1 : Int), (j : Int))) ++ ((List.range c.latches.length).map fun (j : Nat) => some ((2 : Int), (j : Int))) ++ (ordM c).map fun i => some ((3 : Int), i) := by
    unfold defsOf
    simp only [List.map_append, List.map_map]
    congr 1
    · congr 1
      · apply List.ext_getElem (by simp)
        intro j h1 h2
        simp only [List.length_map] at h1
        simp only [List.getElem_map, Function.comp_apply, List.getElem_range]
        exact (hT.inp j h1).2
      · apply List.ext_getElem (by simp)
        intro j h1 h2
        simp only [List.length_map] at h1
        simp only [List.getElem_map, Function.comp_apply, List.getElem_range]
        exact (hT.lat j h1).2.1
    · apply List.map_congr_left
      intro i hi
      have ho := R.ord hi
      have hlt : i.toNat < c.ands.length := by omega
      simp only [Function.comp_apply]
      have := (hT.gat i.toNat hlt).2
      rw [show ((i.toNat : Nat) : Int) = i by omega] at this
      rw [show andAt c i = c.ands[i.toNat] by unfold andAt; simp [hlt]]
      exact this
  have hnd : (((List.range c.inputs.length).map fun (j : Nat) => some ((1 : Int), (j : Int))) ++ ((List.range c.latches.length).map fun (j : Nat) => some ((2 : Int), (j : Int))) ++ (ordM c).map fun i => some ((3 : Int), i)).Nodup := by
    have h1 : ∀ (k : Int) (n : Nat), ((List.range n).map fun (j : Nat) => some (k, (j : Int))).Nodup := fun k n => nodup_map (fun a b e => by simp at e; omega) List.nodup_range
    have h3 : ((ordM c).map fun i => some ((3 : Int), i)).Nodup := nodup_map (fun a b e => by simpa using e) R.all.told.nodup
    rw [List.nodup_append, List.nodup_append]
    refine ⟨⟨h1 1 _, h1 2 _, ?_⟩, h3, ?_⟩
    · intro a ha b hb e
      obtain ⟨x, _, rfl⟩ := List.mem_map.1 ha
      obtain ⟨y, _, rfl⟩ := List.mem_map.1 hb
      simp at e
    · intro a ha b hb e
      obtain ⟨y, _, rfl⟩ := List.mem_map.1 hb
      rcases List.mem_append.1 ha with ha | ha
      · obtain ⟨x, _, rfl⟩ := List.mem_map.1 ha
        simp at e
      · obtain ⟨x, _, rfl⟩ := List.mem_map.1 ha
        simp at e
  rw [← key] at hnd
  exact nodup_of_map hnd
end
end SC
end Go.Proofs.Yticndofcfacopaa
end
section
/- Definitions that are apart pass; the renumbered circuit's definitions. -/
set_option linter.unusedVariables false
set_option linter.unusedSimpArgs false
namespace Go.Proofs.Yticndofcfacopaa
namespace SC
open Go.Proofs
theorem kind_set {t : Tab} {l v : Int} {m : Int × Int} (hl : 0 ≤ l) (hv : 0 ≤ v) (hne : v ≠ l) : kindAt (t.set l.toNat m) v = kindAt t v := by
  unfold kindAt
  rw [List.getElem?_set_ne (by omega)]
theorem defM_ok {max : Int} {t : Tab} {l : Int} {m : Int × Int} (h : ¬ defBad max l) (hk : kindAt t (l / 2) = 0) : defM max t l m = (0, t.set (l / 2).toNat m) := by
  unfold defM
  rw [if_neg h, if_neg (by omega)]
theorem goDef_pass {max kind : Int} : ∀ (ls : List Int) (k : Nat) (t : Tab), (∀ l ∈ ls, ¬ defBad max l) → (∀ l ∈ ls, kindAt t (l / 2) = 0) → (ls.map (· / 2)).Nodup → (goDef max kind ls k t).1.2 = 0 ∧ ∀ v, 0 ≤ v → (∀ l ∈ ls, v ≠ l / 2) → kindAt (goDef max kind ls k t).2 v = kindAt t v
  | [], k, t, _, _, _ => ⟨rfl, fun _ _ _ => rfl⟩
  | l :: r, k, t, hb, hk, hn => by
    have h0 := hb l List.mem_cons_self
    have hge : 0 ≤ l / 2 := by unfold defBad at h0; omega
    have e := defM_ok (m := (kind, (k : Int))) h0 (hk l List.mem_cons_self)
    rw [List.map_cons, List.nodup_cons] at hn
    have hne : ∀ l' ∈ r, l' / 2 ≠ l / 2 := fun l' hl' he => hn.1 (he ▸ List.mem_map.2 ⟨l', hl', rfl⟩)
    obtain ⟨i1, i2⟩ := goDef_pass r (k + 1) (t.set (l / 2).toNat (kind, (k : Int))) (fun l' hl' => hb l' (List.mem_cons_of_mem _ hl')) (fun l' hl' => by
      have h1 := hb l' (List.mem_cons_of_mem _ hl')
      rw [kind_set hge (by unfold defBad at h1; omega) (hne l' hl')]
      exact hk l' (List.mem_cons_of_mem _ hl')) hn.2
    unfold goDef
    rw [e, if_neg (by simp)]
    exact ⟨i1, fun v hv hx => by rw [i2 v hv fun l' hl' => hx l' (List.mem_cons_of_mem _ hl'), kind_set hge hv (hx l List.mem_cons_self)]⟩
theorem goDefL_pass {max : Int} : ∀ (ls : List Tri) (k : Nat) (t : Tab), (∀ x ∈ ls, ¬ badReset x) → (goDef max 2 (ls.map (·.1)) k t).1.2 = 0 → goDefL max ls k t = goDef max 2 (ls.map (·.1)) k t
  | [], k, t, _, _ => rfl
  | x :: r, k, t, hb, h => by
    have e1 : (x :: r).map (·.1) = x.1 :: r.map (·.1) := rfl
    rw [e1] at h ⊢
    unfold goDef at h ⊢
    unfold goDefL
    split at h
    · rename_i hh; exact absurd h hh
    · rename_i hh
      rw [if_neg hh, if_neg hh, if_neg (hb x List.mem_cons_self)]
      exact goDefL_pass r (k + 1) _ (fun y hy => hb y (List.mem_cons_of_mem _ hy)) h
/-- All that a circuit defines. -/
def allDefs (c : Circ) : List Int := c.inputs ++ c.latches.map (·.1) ++ c.ands.map (·.1)
theorem kind_T0 (c : Circ) (v : Int) : kindAt (T0 c) v = 0 := by
  unfold kindAt T0
  rw [List.getElem?_replicate]
  split <;> rfl
theorem defines_pass {c : Circ} (hb : ∀ l ∈ allDefs c, ¬ defBad c.max l) (hr : ∀ x ∈ c.latches, ¬ badReset x) (hn : ((allDefs c).map (· / 2)).Nodup) : (definesM c (T0 c)).1.2 = 0 := by
  unfold allDefs at hb hn
  rw [List.map_append, List.map_append, List.nodup_append, List.nodup_append] at hn
  obtain ⟨⟨n1, n2, n12⟩, n3, n123⟩ := hn
  have b1 : ∀ l ∈ c.inputs, ¬ defBad c.max l := fun l hl => hb l (List.mem_append_left _ (List.mem_append_left _ hl))
  have b2 : ∀ l ∈ c.latches.map (·.1), ¬ defBad c.max l := fun l hl => hb l (List.mem_append_left _ (List.mem_append_right _ hl))
  have b3 : ∀ l ∈ c.ands.map (·.1), ¬ defBad c.max l := fun l hl => hb l (List.mem_append_right _ hl)
  have pos : ∀ {l : Int}, ¬ defBad c.max l → 0 ≤ l / 2 := fun h => by unfold defBad at h; omega
  obtain ⟨p1, q1⟩ := goDef_pass (kind := 1) c.inputs 0 (T0 c) b1 (fun _ _ => kind_T0 c _) n1
  have k2 : ∀ l ∈ c.latches.map (·.1), kindAt (goDef c.max 1 c.inputs 0 (T0 c)).2 (l / 2) = 0 := fun l hl => by
    rw [q1 _ (pos (b2 l hl)) fun l' hl' e => n12 _ (List.mem_map.2 ⟨l', hl', rfl⟩) _ (List.mem_map.2 ⟨l, hl, rfl⟩) e.symm, kind_T0]
  obtain ⟨p2, q2⟩ := goDef_pass (kind := 2) (c.latches.map (·.1)) 0 (goDef c.max 1 c.inputs 0 (T0 c)).2 b2 k2 n2
  have e2 := goDefL_pass c.latches 0 (goDef c.max 1 c.inputs 0 (T0 c)).2 hr p2
  have k3 : ∀ l ∈ c.ands.map (·.1), kindAt (goDef c.max 2 (c.latches.map (·.1)) 0 (goDef c.max 1 c.inputs 0 (T0 c)).2).2 (l / 2) = 0 := fun l hl => by
    have m3 : l / 2 ∈ (c.ands.map (·.1)).map (· / 2) := List.mem_map.2 ⟨l, hl, rfl⟩
    rw [q2 _ (pos (b3 l hl)) fun l' hl' e => n123 _ (List.mem_append_right _ (List.mem_map.2 ⟨l', hl', rfl⟩)) _ m3 e.symm,
      q1 _ (pos (b3 l hl)) fun l' hl' e => n123 _ (List.mem_append_left _ (List.mem_map.2 ⟨l', hl', rfl⟩)) _ m3 e.symm, kind_T0]
  obtain ⟨p3, q3⟩ := goDef_pass (kind := 3) (c.ands.map (·.1)) 0 (goDef c.max 2 (c.latches.map (·.1)) 0 (goDef c.max 1 c.inputs 0 (T0 c)).2).2 b3 k3 n3
  unfold definesM
  rw [if_neg (by rw [p1]; decide), e2, if_neg (by rw [p2]; decide)]
  exact p3
/-! ### the renumbered circuit -/
section
variable {c : Circ} (R : Right c)
/-- The circuit in the binary order; the map. -/
noncomputable abbrev renC (c : Circ) : Circ := renM c (ordM c)
noncomputable abbrev toM (c : Circ) : List Int := mapOf c.max (defsOf c (ordM c))
include R
theorem Right.nDefs : (defsOf c (ordM c)).length = c.inputs.length + c.latches.length + c.ands.length := by unfold defsOf; simp [R.ordLen]; omega
theorem Right.nDefs_le : ((defsOf c (ordM c)).length : Int) ≤ c.max := by
  have h1 := nodup_size c.max.toNat (((defsOf c (ordM c)).map (· / 2)).map (· - 1)) (nodup_map (fun a b e => by omega) R.defs_nodup) fun y hy => by
    obtain ⟨z, hz, rfl⟩ := List.mem_map.1 hy
    obtain ⟨k, hk, rfl⟩ := List.mem_map.1 hz
    have := R.defs hk
    unfold defR at this
    unfold rg
    omega
  simp only [List.length_map] at h1
  have := R.m0
  omega
end
end SC
end Go.Proofs.Yticndofcfacopaa
end
section
/- The renumbered circuit is right. -/
set_option linter.unusedVariables false
set_option linter.unusedSimpArgs false
namespace Go.Proofs.Yticndofcfacopaa
namespace SC
open Go.Proofs
theorem sizesM_zero {c : Circ} (h0 : 0 ≤ c.max) (h1 : c.max ≤ 16384) (h2 : ∀ n ∈ c.lens, n ≤ 16384) (h3 : sumW c.justice ≤ 16384) : sizesM c = 0 := by
  unfold sizesM
  rw [if_neg (by omega), if_neg]
  rintro (⟨n, hn, hh⟩ | hh)
  · have := h2 n hn; omega
  · omega
theorem kind_def {c : Circ} {t : Tab} (T : TabOk c t) {l : Int} (h : l ∈ allDefs c) : kindAt t (l / 2) ≠ 0 := by
  unfold allDefs at h
  rcases List.mem_append.1 h with h | h
  · rcases List.mem_append.1 h with h | h
    · obtain ⟨j, hj, rfl⟩ := List.mem_iff_getElem.1 h
      rw [kindAt_get (T.inp j hj).2]
      show (1 : Int) ≠ 0
      decide
    · obtain ⟨x, hx, rfl⟩ := List.mem_map.1 h
      obtain ⟨j, hj, rfl⟩ := List.mem_iff_getElem.1 hx
      rw [kindAt_get (T.lat j hj).2.1]
      show (2 : Int) ≠ 0
      decide
  · obtain ⟨x, hx, rfl⟩ := List.mem_map.1 h
    obtain ⟨j, hj, rfl⟩ := List.mem_iff_getElem.1 hx
    rw [kindAt_get (T.gat j hj).2]
    show (3 : Int) ≠ 0
    decide
section
variable {c : Circ} (R : Right c)
include R
end
end SC
end Go.Proofs.Yticndofcfacopaa
end
section
/- The renumbered circuit's order; it looks right. -/
set_option linter.unusedVariables false
set_option linter.unusedSimpArgs false
namespace Go.Proofs.Yticndofcfacopaa
namespace SC
open Go.Proofs
/-- 0, 1, .. -/
def upto (n : Nat) : List Int := (List.range n).map fun (k : Nat) => (k : Int)
theorem mem_upto {n : Nat} {y : Int} : y ∈ upto n ↔ 0 ≤ y ∧ y < n := by
  unfold upto
  rw [List.mem_map]
  constructor
  · rintro ⟨k, hk, rfl⟩
    have := List.mem_range.1 hk
    omega
  · rintro ⟨h0, h1⟩
    exact ⟨y.toNat, List.mem_range.2 (by omega), by omega⟩
theorem upto_len (n : Nat) : (upto n).length = n := by unfold upto; simp
theorem all_upto {n : Nat} {B : Int → List Int} (h : ∀ k : Nat, k < n → ∀ z ∈ B (k : Int), 0 ≤ z ∧ z < k) : All n B (upto n) := by
  have told : ∀ m, m ≤ n → Told n B (upto m) := by
    intro m
    induction m with
    | zero => intro _; exact Told.nil
    | succ m ih =>
      intro hm
      have e : upto (m + 1) = upto m ++ [(m : Int)] := by unfold upto; rw [List.range_succ, List.map_append]; rfl
      rw [e]
      refine Told.snoc (ih (by omega)) ⟨⟨by omega, by omega⟩, fun hh => ?_, fun z hz => mem_upto.2 (h m (by omega) z hz)⟩ fun y hy => ?_
      · have := (mem_upto.1 hh).2
        omega
      · have h1 := hy.rg
        have h2 := hy.new
        rw [mem_upto] at h2
        unfold rg at h1
        omega
  refine ⟨told n (Nat.le_refl _), fun y hy => ?_⟩
  have h1 := hy.rg
  have h2 := hy.new
  rw [mem_upto] at h2
  unfold rg at h1
  omega
section
variable {c : Circ} (R : Right c)
include R
theorem Right.def_and {j : Nat} (hj : j < (ordM c).length) : ∃ h : c.inputs.length + c.latches.length + j < (defsOf c (ordM c)).length, (defsOf c (ordM c))[c.inputs.length + c.latches.length + j] = (andAt c (ordM c)[j]).1 := by
  have h0 := R.nDefs
  have h1 := R.ordLen
  refine ⟨by omega, ?_⟩
  unfold defsOf
  rw [List.getElem_append_right (by simp)]
  simp
/-- A gate that another one uses was told before it. -/
theorem Right.low {k : Nat} (hk : k < (ordM c).length) {l : Int} (hl : l = (andAt c (ordM c)[k]).2.1 ∨ l = (andAt c (ordM c)[k]).2.2) {j : Nat} (hj : j < (ordM c).length) (e : l / 2 = (andAt c (ordM c)[j]).1 / 2) : j < k := by
  have ho := R.ord (List.getElem_mem hj)
  have hlt : (ordM c)[j].toNat < c.ands.length := by omega
  have h3 := (R.tab.gat _ hlt).2
  have ea : andAt c (ordM c)[j] = c.ands[(ordM c)[j].toNat] := by unfold andAt; simp [hlt]
  rw [← ea, ← e, show (((ordM c)[j].toNat : Nat) : Int) = (ordM c)[j] by omega] at h3
  have hsp : ordM c = (ordM c).take k ++ (ordM c)[k] :: (ordM c).drop (k + 1) := by
    have h1 := List.take_append_drop k (ordM c)
    rw [List.drop_eq_getElem_cons hk] at h1
    exact h1.symm
  have hlow := (R.all.told.split hsp).1.low
  have hb : (ordM c)[j] ∈ gateB (tabM c) c (ordM c)[k] := by
    show (ordM c)[j] ∈ belowL (tabM c) [(andAt c (ordM c)[k]).2.1, (andAt c (ordM c)[k]).2.2]
    rw [mem_belowL]
    exact ⟨l, by rcases hl with rfl | rfl <;> simp, kindAt_get h3, atOf_get h3⟩
  obtain ⟨k', hk', ek⟩ := List.mem_iff_getElem.1 (hlow _ hb)
  rw [List.length_take] at hk'
  rw [List.getElem_take] at ek
  have := nodup_ix R.all.told.nodup (a := k') (b := j) (by omega) hj ek
  omega
end
end SC
end Go.Proofs.Yticndofcfacopaa
end
section
/- The renumbered circuit's values and runs. -/
set_option linter.unusedVariables false
set_option linter.unusedSimpArgs false
namespace Go.Proofs.Yticndofcfacopaa
namespace SC
open Go.Proofs
section
variable {c : Circ}
theorem memD_inp {i : Nat} (hi : i < c.inputs.length) : gt c.inputs (i : Int) ∈ defsOf c (ordM c) := by
  unfold defsOf
  exact List.mem_append_left _ (List.mem_append_left _ (gt_mem (by omega) (by omega)))
theorem memD_lat {i : Nat} (hi : i < c.latches.length) : (gt c.latches (i : Int)).1 ∈ defsOf c (ordM c) := by
  unfold defsOf
  exact List.mem_append_left _ (List.mem_append_right _ (List.mem_map.2 ⟨_, gt_mem (by omega) (by omega), rfl⟩))
end
section
variable {c : Circ} (R : Right c)
include R
theorem Right.def_inp {i : Nat} (hi : i < c.inputs.length) : ∃ h : i < (defsOf c (ordM c)).length, (defsOf c (ordM c))[i] = c.inputs[i] := by
  have h0 := R.nDefs
  refine ⟨by omega, ?_⟩
  unfold defsOf
  rw [List.getElem_append_left (by simp; omega), List.getElem_append_left hi]
theorem Right.def_lat {i : Nat} (hi : i < c.latches.length) : ∃ h : c.inputs.length + i < (defsOf c (ordM c)).length, (defsOf c (ordM c))[c.inputs.length + i] = c.latches[i].1 := by
  have h0 := R.nDefs
  refine ⟨by omega, ?_⟩
  unfold defsOf
  rw [List.getElem_append_left (by simp; omega), List.getElem_append_right (by omega)]
  simp
end
end SC
end Go.Proofs.Yticndofcfacopaa
end
section
/- Runs of the renumbered circuit. -/
set_option linter.unusedVariables false
set_option linter.unusedSimpArgs false
namespace Go.Proofs.Yticndofcfacopaa
namespace SC
open Go.Proofs
section
variable {c : Circ} (R : Right c) (R' : Right (renC c))
include R R'
end
end SC
end Go.Proofs.Yticndofcfacopaa
end
section
/- The binary order: a right circuit has it just if renumbering leaves it as it is. -/
set_option linter.unusedVariables false
set_option linter.unusedSimpArgs false
namespace Go.Proofs.Yticndofcfacopaa
namespace SC
open Go.Proofs
section
variable {c : Circ} (R : Right c)
include R
end
end SC
end Go.Proofs.Yticndofcfacopaa
end
section
/- shape: Renumber, by entries. -/
set_option linter.unusedVariables false
set_option linter.unusedSimpArgs false
namespace Go.Proofs.Yticndofcfacopaa
namespace SC
open Go.Proofs
section
variable {c : Circ} (R : Right c)
include R
end
/-- A renumbered circuit of its own and its map, as one entry. -/
def renX (base : Nat) (c : Circ) (h js : Hd) (A : Option Addr) (k : Nat) : EntX where
  own := fun b => (∃ i, (cirRows (renC c) h js js (renC c).justice.length i).v.ownBlock = some b) ∨ (Value.slice A (toM c).length k).ownBlock = some b
  ok := fun w => CirOwn w base (renC c) h js ∧ w.ownsRow base 3 1 (.slice A (toM c).length k) (toM c).length ((toM c).flatMap icell)
  lt := fun w H b hb => by
    rcases hb with ⟨i, hi⟩ | hb
    · exact (Rows.lt H.1 hi).2
    · exact (World.ownsRow.lt H.2 b hb).2
  keep := fun w w' S H hc hn => ⟨Rows.chg H.1 hc fun i b hb => hn b (.inl ⟨i, hb⟩), own_chg H.2 hc fun b hb => hn b (.inr hb)⟩
attribute [local irreducible] WC WL WX WS WO OX Does DoesU Enters CV Pure thenQ blockQ retQ Wants retQC GC GL GS GX RdB thenG blockG retG Rd At gt CVN CVM
set_option maxRecDepth 100000
end SC
end Go.Proofs.Yticndofcfacopaa
end
section
/- trestlelaw07: SimNumbers: the walk. -/
set_option linter.unusedVariables false
set_option linter.unusedSimpArgs false
namespace Go.Proofs.Yticndofcfacopaa
namespace SC
open Go.Proofs
attribute [local irreducible] WC WL WX WS WO OX Does DoesU Enters CV Pure thenQ blockQ retQ Wants retQC GC GL GS GX RdB thenG blockG retG Rd At gt CVN CVM
attribute [local irreducible] fam bun renX
set_option maxRecDepth 100000
end SC
end Go.Proofs.Yticndofcfacopaa
end
section
/- slices.Equal, slices.EqualFunc; shape's Same. -/
set_option linter.unusedVariables false
set_option linter.unusedSimpArgs false
namespace Go.Proofs.Yticndofcfacopaa
namespace SC
open Go.Proofs
attribute [local irreducible] WC WL WX WS WO OX Does DoesU Enters CV Pure thenQ blockQ retQ Wants retQC
set_option maxRecDepth 100000
end SC
end Go.Proofs.Yticndofcfacopaa
end
section
/- slices.EqualFunc at lists of lists; shape's Same. -/
set_option linter.unusedVariables false
set_option linter.unusedSimpArgs false
namespace Go.Proofs.Yticndofcfacopaa
namespace SC
open Go.Proofs
attribute [local irreducible] WC WL WX WS WO OX Does DoesU Enters CV Pure thenQ blockQ retQ Wants retQC
set_option maxRecDepth 100000
end SC
end Go.Proofs.Yticndofcfacopaa
end
section
/- trestlebook: SpoilCircuit. -/
set_option linter.unusedVariables false
set_option linter.unusedSimpArgs false
namespace Go.Proofs.Yticndofcfacopaa
namespace SC
open Go.Proofs
/-- Rows of which some are still as they were told. -/
def SpRows (W : World) (lo : Nat) (f : Nat → Rw) (D : Nat → Prop) : Prop := ∃ f', Rows W lo f' ∧ ∀ q, D q → f' q = f q
theorem SpRows.mono {W : World} {lo : Nat} {f : Nat → Rw} {D D' : Nat → Prop} (h : SpRows W lo f D) (hD : ∀ q, D' q → D q) : SpRows W lo f D' := by
  obtain ⟨f', hR, hf⟩ := h
  exact ⟨f', hR, fun q hq => hf q (hD q hq)⟩
theorem SpRows.same {W W' : World} {lo : Nat} {f : Nat → Rw} {D : Nat → Prop} (h : SpRows W lo f D) (hc : Chg W W' none_) : SpRows W' lo f D := by
  obtain ⟨f', hR, hf⟩ := h
  exact ⟨f', hR.same hc, hf⟩
theorem SpRows.own {W : World} {lo : Nat} {f : Nat → Rw} {D : Nat → Prop} (h : SpRows W lo f D) {i : Nat} (hi : D i) : (f i).own W lo := by
  obtain ⟨f', hR, hf⟩ := h
  rw [← hf i hi]
  exact hR.own i
theorem SpRows.drop {W W' : World} {lo : Nat} {f : Nat → Rw} {D : Nat → Prop} {T : Nat → Prop} (h : SpRows W lo f D) {i : Nat} (hi : D i) (hc : Chg W W' T) (hT : ∀ k, T k → (f i).v.ownBlock = some k) : SpRows W' lo f (fun q => D q ∧ q ≠ i) := by
  obtain ⟨f', hR, hf⟩ := h
  refine ⟨upd f' i nilRw, hR.put i nilRw hc (fun j k hj hk hh => ?_) (World.ownsRow_nil _ _ _ _) (fun k hk => by cases hk), fun q hq => ?_⟩
  · have := hT k hh
    rw [← hf i hi] at this
    exact hR.apart j i k hj hk this
  · unfold upd
    rw [if_neg hq.2]
    exact hf q hq.1
theorem SpRows.set {W : World} {lo : Nat} {f : Nat → Rw} {D : Nat → Prop} (h : SpRows W lo f D) {i g n cap : Nat} {t : TypeId} {sz : Nat} {xs : List Value} (hi : D i) (hv : f i = ⟨.slice (some ⟨g, 0, none⟩) n cap, t, sz, n, xs⟩) :
    ∃ cur : List Value, Blk W g t cur ∧ n * sz ≤ cur.length ∧ lo ≤ g ∧ ∀ cur' : List Value, cur'.length = cur.length → ∃ xs', SpRows (W.setRow g cur'.toArray) lo (upd f i ⟨.slice (some ⟨g, 0, none⟩) n cap, t, sz, n, xs'⟩) D := by
  obtain ⟨f', hR, hf⟩ := h
  have ho := hR.own i
  rw [hf i hi, hv] at ho
  obtain ⟨cur, h1, h2, h3, h4, h5⟩ := own_set ho
  refine ⟨cur, h1, h3, h4, fun cur' hl => ⟨cur'.take (n * sz), upd f' i ⟨.slice (some ⟨g, 0, none⟩) n cap, t, sz, n, cur'.take (n * sz)⟩, hR.put i _ (Chg.setRow W g cur'.toArray (S := fun k => k = g) rfl) (fun j k hj hk hh => ?_) (h5 cur' hl) (fun k hk => ?_), fun q hq => ?_⟩⟩
  · have : (f' i).v.ownBlock = some k := by rw [hf i hi, hv]; simp [Value.ownBlock, hh]
    exact hR.apart j i k hj hk this
  · left
    rw [hf i hi, hv]
    exact hk
  · unfold upd
    split
    · rfl
    · exact hf q hq
theorem upd_updM (f : Nat → Rw) (i : Nat) (r r' : Rw) : upd (upd f i r) i r' = upd f i r' := by
  funext j
  unfold upd
  split <;> rfl
theorem upd_at (f : Nat → Rw) (i : Nat) (r : Rw) : upd f i r i = r := by unfold upd; rw [if_pos rfl]
theorem SpRows.back {W : World} {lo : Nat} {f : Nat → Rw} {D : Nat → Prop} {i : Nat} {r : Rw} (h : SpRows W lo (upd f i r) D) : SpRows W lo f (fun q => D q ∧ q ≠ i) := by
  obtain ⟨f', hR, hf⟩ := h
  exact ⟨f', hR, fun q hq => by rw [hf q hq.1]; unfold upd; rw [if_neg hq.2]⟩
/-- How far a circuit is spoilt. -/
structure SpSt (w W : World) (lo : Nat) (T : Nat → Prop) (b : Nat) (c : Circ) (h : Hd) (f : Nat → Rw) (D : Nat → Prop) : Prop where
  chg : Chg w W T
  box : Blk W b 29 (ccells c h)
  rows : SpRows W lo f D
theorem SpSt.spoil {w W W' : World} {lo b : Nat} {T : Nat → Prop} {c : Circ} {h : Hd} {f : Nat → Rw} {D : Nat → Prop} (S : SpSt w W lo T b c h f D) (hb : ∀ i k, (f i).v.ownBlock = some k → T k ∧ k < b) {i : Nat} (hD : D i) (hc : Chg W W' (fun k => (f i).v.ownBlock = some k)) : SpSt w W' lo T b c h f (fun q => D q ∧ q ≠ i) :=
  ⟨S.chg.trans hc fun k hk hh => (hb i k hh).1, S.box.chg hc fun hh => by have := (hb i b hh).2; omega, S.rows.drop hD hc fun _ h => h⟩
theorem SpSt.mono {w W : World} {lo b : Nat} {T : Nat → Prop} {c : Circ} {h : Hd} {f : Nat → Rw} {D D' : Nat → Prop} (S : SpSt w W lo T b c h f D) (hD : ∀ q, D' q → D q) : SpSt w W lo T b c h f D' := ⟨S.chg, S.box, S.rows.mono hD⟩
theorem splice_lenP (cs vs : List Value) (o : Nat) (h : o + vs.length ≤ cs.length) : (splice cs o vs).length = cs.length := by
  unfold splice
  simp only [List.length_append, List.length_take, List.length_drop]
  omega
attribute [local irreducible] WC WL WX WS WO OX Does DoesU Enters CV Pure thenQ blockQ retQ Wants retQC
set_option maxRecDepth 100000
theorem spoilCircuit_cv {w : World} {lo : Nat} {c : Circ} {h js : Hd} {mark : Int} (H : CirOwn w lo c h js) (hf : c.Okay) :
    CV Try.prog 36 [.agg (ccells c h).toArray, nu mark] w fun v w' => Chg w w' (fun k => ∃ i, (cirRows c h js js c.justice.length i).v.ownBlock = some k) := by
  have hb : ∀ i k, (cirRows c h js js c.justice.length i).v.ownBlock = some k → (∃ i, (cirRows c h js js c.justice.length i).v.ownBlock = some k) ∧ k < w.heap.size := fun i k hk => ⟨⟨i, hk⟩, (H.lt hk).2⟩
  have hS0 : SpSt w (w.alloc (.cells (ccells c h).toArray 29)) lo (fun k => ∃ i, (cirRows c h js js c.justice.length i).v.ownBlock = some k) w.heap.size c h (cirRows c h js js c.justice.length) (fun _ => True) :=
    ⟨Chg.alloc w _ _, Blk.new w _ _, ⟨_, H.same (Chg.alloc w _ none_), fun _ _ => rfl⟩⟩
  have hlens := hf.lens
  simp only [Circ.lens, List.mem_cons, List.not_mem_nil, or_false] at hlens
  have k2 := hlens _ (.inr (.inl rfl))
  have k6 := hlens _ (.inr (.inr (.inr (.inr (.inr (.inl rfl))))))
  have k8 := hlens _ (.inr (.inr (.inr (.inr (.inr (.inr (.inr (.inl rfl))))))))
  have k9 := hlens _ (.inr (.inr (.inr (.inr (.inr (.inr (.inr (.inr (.inl rfl)))))))))
  have k10 := hlens _ (.inr (.inr (.inr (.inr (.inr (.inr (.inr (.inr (.inr rfl)))))))))
  clear hlens
  refine enter 92 [] Try.func36 rfl rfl rfl (by decide) rfl ?_
  have hbox0 := hS0.box
  repeat' (first
 | (apply X_fn; eq_refl; (exact spoil_cv (hS0.rows.own (i := 1) trivial)); intro v1 w1 hE1)
 | (apply WC_seqK; intro K hK)
 | (apply hK; clear hK)
 | (apply WC_region)
 | (apply WL_nil)
 | (apply thenQ_normal)
 | (apply WL_on0; eq_refl)
 | (apply X_pv; eq_refl; first | exact trivial | omega)
 | (apply X_field; eq_refl)
 | (apply X_loadR; eq_refl; (first | assumption | (apply Blk.alloc; assumption) | apply Blk.new | apply Blk.newA | (apply Blk.alloc; first | apply Blk.newA | (apply Blk.alloc; first | assumption | apply Blk.newA))); eq_refl)
 | (apply X_box; eq_refl))
  have hS1 := hS0.spoil hb (i := 1) trivial hE1
  have hbox1 := hS1.box
  clear hS0 hbox0 hE1
  repeat' (first
 | (apply X_fn; eq_refl; (exact spoil_cv (hS1.rows.own (i := 3) ⟨trivial, by decide⟩)); intro v2 w2 hE2)
 | (apply WC_seqK; intro K hK)
 | (apply hK; clear hK)
 | (apply WC_region)
 | (apply WL_nil)
 | (apply thenQ_normal)
 | (apply WL_on0; eq_refl)
 | (apply X_pv; eq_refl; first | exact trivial | omega)
 | (apply X_field; eq_refl)
 | (apply X_loadR; eq_refl; (first | assumption | (apply Blk.alloc; assumption) | apply Blk.new | apply Blk.newA | (apply Blk.alloc; first | apply Blk.newA | (apply Blk.alloc; first | assumption | apply Blk.newA))); eq_refl))
  have hS2 := (hS1.spoil hb (i := 3) ⟨trivial, by decide⟩ hE2).mono (D' := fun q => q ≠ 1 ∧ q ≠ 3) fun q hq => ⟨⟨trivial, hq.1⟩, hq.2⟩
  have hbox2 := hS2.box
  clear hS1 hbox1 hE2
  repeat' (first
 | (apply X_fn; eq_refl; (exact spoil_cv (hS2.rows.own (i := 4) (by decide))); intro v3 w3 hE3)
 | (apply WC_seqK; intro K hK)
 | (apply hK; clear hK)
 | (apply WC_region)
 | (apply WL_nil)
 | (apply thenQ_normal)
 | (apply WL_on0; eq_refl)
 | (apply X_pv; eq_refl; first | exact trivial | omega)
 | (apply X_field; eq_refl)
 | (apply X_loadR; eq_refl; (first | assumption | (apply Blk.alloc; assumption) | apply Blk.new | apply Blk.newA | (apply Blk.alloc; first | apply Blk.newA | (apply Blk.alloc; first | assumption | apply Blk.newA))); eq_refl))
  have hS3 := (hS2.spoil hb (i := 4) (by decide) hE3).mono (D' := fun q => q ≠ 1 ∧ q ≠ 3 ∧ q ≠ 4) fun q hq => ⟨⟨hq.1, hq.2.1⟩, hq.2.2⟩
  have hbox3 := hS3.box
  clear hS2 hbox2 hE3
  repeat' (first
 | (apply X_fn; eq_refl; (exact spoil_cv (hS3.rows.own (i := 5) (by decide))); intro v4 w4 hE4)
 | (apply WC_seqK; intro K hK)
 | (apply hK; clear hK)
 | (apply WC_region)
 | (apply WL_nil)
 | (apply thenQ_normal)
 | (apply WL_on0; eq_refl)
 | (apply X_pv; eq_refl; first | exact trivial | omega)
 | (apply X_field; eq_refl)
 | (apply X_loadR; eq_refl; (first | assumption | (apply Blk.alloc; assumption) | apply Blk.new | apply Blk.newA | (apply Blk.alloc; first | apply Blk.newA | (apply Blk.alloc; first | assumption | apply Blk.newA))); eq_refl))
  have hS4 := (hS3.spoil hb (i := 5) (by decide) hE4).mono (D' := fun q => q ≠ 1 ∧ q ≠ 3 ∧ q ≠ 4 ∧ q ≠ 5) fun q hq => ⟨⟨hq.1, hq.2.1, hq.2.2.1⟩, hq.2.2.2⟩
  have hbox4 := hS4.box
  clear hS3 hbox3 hE4
  repeat' (first
 | (apply X_fn; eq_refl; (exact spoil_cv (hS4.rows.own (i := 7) (by decide))); intro v5 w5 hE5)
 | (apply WC_seqK; intro K hK)
 | (apply hK; clear hK)
 | (apply WC_block)
 | (apply WC_region)
 | (apply WL_nil)
 | (apply thenQ_normal)
 | (apply WL_on0; eq_refl)
 | (apply X_pv; eq_refl; first | exact trivial | omega)
 | (apply X_loadR; eq_refl; (first | assumption | (apply Blk.alloc; assumption) | apply Blk.new | apply Blk.newA | (apply Blk.alloc; first | apply Blk.newA | (apply Blk.alloc; first | assumption | apply Blk.newA))); eq_refl))
  have hS5 := (hS4.spoil hb (i := 7) (by decide) hE5).mono (D' := fun q => q = 2 ∨ q = 6 ∨ q = 8 ∨ q = 9 ∨ q = 10 ∨ 11 + 0 ≤ q) fun q hq => ⟨⟨by omega, by omega, by omega, by omega⟩, by omega⟩
  clear hS4 hbox4 hE5
  refine WC_loop (fun i : Nat => [(1, nu mark), (2, pt w.heap.size), (4, nu i)]) (fun i W => SpSt w W lo (fun k => ∃ i, (cirRows c h js js c.justice.length i).v.ownBlock = some k) w.heap.size c h (cirRows c h js js c.justice.length) (fun q => q = 2 ∨ q = 6 ∨ q = 8 ∨ q = 9 ∨ q = 10 ∨ 11 + i ≤ q) ∧ i ≤ c.justice.length) (fun i => c.justice.length - i) 0 ⟨rfl, rfl, rfl, trivial⟩ ⟨hS5, Nat.zero_le _⟩ ?_
  clear hS5 w5
  rintro i w5 ⟨hS5, hi5⟩
  have hbox5 := hS5.box
  rcases Nat.lt_or_ge i c.justice.length with hlt | hge
  · have h6 := hS5.rows.own (i := 6) (.inr (.inl rfl))
    have hj := hS5.rows.own (i := i + 11) (by omega)
    simp only [Rw.own, cirRows, if_pos hlt] at hj
    have hd : c.justice.getD i [] = c.justice[i] := by simp [hlt]
    rw [hd] at hj
    obtain ⟨p, hp, hpc⟩ : ∃ p, (h 6).1 = some p ∧ w5.cell? (p.add ((i : Int).toNat * 1)) = some (.slice (js i).1 c.justice[i].length (js i).2) := by
      simp only [Rw.own, cirRows] at h6
      rcases h6.2 with ⟨hv, hn⟩ | ⟨g, cap, cur, hv, hb, hg, rest⟩
      · omega
      · simp only [slc, Value.slice.injEq] at hv
        refine ⟨⟨g, 0, none⟩, hv.1, ?_⟩
        have := h6.cells (g := g) (by simp [slc, hv.1, Value.ownBlock]) i (slc js i c.justice[i].length) (by simp [hlt])
        rw [show (i : Int).toNat * 1 = i by omega]
        exact this
    have e6 : (ccells c h)[0 + 6]? = some (.slice (some p) c.justice.length (h 6).2) := by rw [← hp]; rfl
    repeat' (first
 | (apply X_loadR; eq_refl; exact hbox5; exact e6)
 | (apply X_fn; eq_refl; (exact spoil_cv hj); intro v6 w6 hE6)
 | (apply WC_seqK; intro K hK)
 | (apply hK; clear hK)
 | (apply WC_block)
 | (apply WC_region)
 | (apply WL_nil)
 | (apply thenQ_normal)
 | (apply blockQ_normal)
 | (apply WC_skip)
 | (apply WC_if_true; eq_refl)
 | (apply WL_on0; eq_refl)
 | (apply X_pv; eq_refl; first | exact trivial | omega)
 | (apply X_field; eq_refl)
 | (apply X_loadC; eq_refl; (first | assumption | (apply cel; first | assumption | (apply cel; assumption))))
 | (apply X_cmpT; eq_refl; eq_refl; omega)
 | (apply X_len; eq_refl)
 | (apply X_indexP; eq_refl; eq_refl; omega; omega))
    have hE6' : Chg w5 w6 (fun k => (cirRows c h js js c.justice.length (i + 11)).v.ownBlock = some k) := hE6.mono fun k hk => by
      simp only [cirRows, if_pos hlt, hd]
      exact hk
    exact ⟨i + 1, ⟨rfl, rfl, rfl, trivial⟩, ⟨(hS5.spoil hb (i := i + 11) (by omega) hE6').mono fun q hq => by omega, hlt⟩, by omega⟩
  have hS : SpSt w w5 lo (fun k => ∃ i, (cirRows c h js js c.justice.length i).v.ownBlock = some k) w.heap.size c h (cirRows c h js js c.justice.length) (fun q => q = 2 ∨ q = 8 ∨ q = 9 ∨ q = 10) := hS5.mono fun q hq => by omega
  clear hS5
  repeat' (first
 | (apply WC_seqK; intro K hK)
 | (apply hK; clear hK)
 | (clear hK; apply hK; clear hK)
 | (apply WC_block)
 | (apply WC_region)
 | (apply WL_nil)
 | (apply thenQ_normal)
 | (apply thenQ_exit)
 | (apply blockQ_hit)
 | (apply WC_exit)
 | (apply WC_if_false; eq_refl)
 | (apply WL_on0; eq_refl)
 | (apply X_pv; eq_refl; first | exact trivial | omega)
 | (apply X_field; eq_refl)
 | (apply X_loadR; eq_refl; (first | assumption | (apply Blk.alloc; assumption) | apply Blk.new | apply Blk.newA | (apply Blk.alloc; first | apply Blk.newA | (apply Blk.alloc; first | assumption | apply Blk.newA))); eq_refl)
 | (apply X_cmpF; eq_refl; eq_refl; omega)
 | (apply X_len; eq_refl))
  refine WC_loop (fun i : Nat => [(1, nu mark), (2, pt w.heap.size), (5, nu i)]) (fun i W => (∃ xs, SpSt w W lo (fun k => ∃ i, (cirRows c h js js c.justice.length i).v.ownBlock = some k) w.heap.size c h (upd (cirRows c h js js c.justice.length) 2 ⟨slc h 2 c.latches.length, 83, 3, c.latches.length, xs⟩) (fun q => q = 2 ∨ q = 8 ∨ q = 9 ∨ q = 10)) ∧ i ≤ c.latches.length) (fun i => c.latches.length - i) 0 ⟨rfl, rfl, rfl, trivial⟩ ⟨⟨c.latches.flatMap tcells, hS.chg, hS.box, by
    rw [show upd (cirRows c h js js c.justice.length) 2 ⟨slc h 2 c.latches.length, 83, 3, c.latches.length, c.latches.flatMap tcells⟩ = cirRows c h js js c.justice.length by funext q; unfold upd; split <;> rename_i e; (subst e; rfl); rfl]
    exact hS.rows⟩, Nat.zero_le _⟩ ?_
  clear hS hge hi5 hbox5
  rintro i w5 ⟨⟨xs, hS⟩, hi5⟩
  have hbox5 := hS.box
  rcases Nat.lt_or_ge i c.latches.length with hlt | hge
  · have ho := hS.rows.own (i := 2) (by omega)
    rw [upd_at] at ho
    obtain ⟨g, cap, hv⟩ : ∃ g cap, slc h 2 c.latches.length = .slice (some ⟨g, 0, none⟩) c.latches.length cap := by
      rcases ho.2 with ⟨_, hn⟩ | ⟨g, cap, cur, hv, _⟩
      · have : c.latches.length = 0 := hn
        omega
      · exact ⟨g, cap, hv⟩
    have e6 : (ccells c h)[0 + 2]? = some (.slice (some ⟨g, 0, none⟩) c.latches.length cap) := by rw [← hv]; rfl
    obtain ⟨cur, hB, hcl, hlo, hset⟩ := hS.rows.set (i := 2) (g := g) (n := c.latches.length) (cap := cap) (t := 83) (sz := 3) (xs := xs) (by omega) (by rw [upd_at, hv])
    have hgb := hb 2 g (by show (slc h 2 c.latches.length).ownBlock = some g; rw [hv]; rfl)
    repeat' (first
 | (apply X_loadR; eq_refl; exact hbox5; exact e6)
 | (apply WC_seqK; intro K hK)
 | (apply hK; clear hK)
 | (apply WC_block)
 | (apply WC_region)
 | (apply WL_nil)
 | (apply thenQ_normal)
 | (apply WC_skip)
 | (apply WC_if_true; eq_refl)
 | (apply WL_on0; eq_refl)
 | (apply X_pv; eq_refl; first | exact trivial | omega)
 | (apply X_field; eq_refl)
 | (apply X_cmpT; eq_refl; eq_refl; omega)
 | (apply X_len; eq_refl)
 | (apply X_index; eq_refl; eq_refl; omega; omega)
 | (apply X_pure; apply build83_0 <;> eq_refl))
    refine X_doesU (does_storeA (t1 := 83) (vs := [nu mark, nu 0, nu 0]) (o := 0 + (i : Int).toNat * 3) (b := g) (by eq_refl) (by eq_refl) hB rfl (by show 0 + (i : Int).toNat * 3 + 3 ≤ _; omega) (by simp [Value.oneCell'])) ?_
    have hcc : Chg w5 _ (fun k => k = g) := Chg.setRow w5 g (splice cur (0 + (i : Int).toNat * 3) [nu mark, nu 0, nu 0]).toArray rfl
    repeat' (first
 | (apply hK; clear hK)
 | (apply WC_region)
 | (apply WL_nil)
 | (apply thenQ_normal)
 | (apply blockQ_normal)
 | (apply WL_on0; eq_refl)
 | (apply X_pv; eq_refl; first | exact trivial | omega))
    refine ⟨i + 1, ⟨rfl, rfl, rfl, trivial⟩, ⟨?_, hlt⟩, by omega⟩
    obtain ⟨xs', hS'⟩ := hset (splice cur (0 + (i : Int).toNat * 3) [nu mark, nu 0, nu 0]) (splice_lenP cur [nu mark, nu 0, nu 0] _ (by show 0 + (i : Int).toNat * 3 + 3 ≤ _; omega))
    rw [upd_updM, ← hv] at hS'
    exact ⟨xs', hS.chg.trans hcc fun k hk hh => by rw [hh]; exact hgb.1, hS.box.chg hcc (by omega), hS'⟩
  have hS : SpSt w w5 lo (fun k => ∃ i, (cirRows c h js js c.justice.length i).v.ownBlock = some k) w.heap.size c h (cirRows c h js js c.justice.length) (fun q => q = 8 ∨ q = 9 ∨ q = 10) := ⟨hS.chg, hS.box, hS.rows.back.mono fun q hq => by first | exact hq.elim | omega⟩
  repeat' (first
 | (apply WC_seqK; intro K hK)
 | (apply hK; clear hK)
 | (clear hK; apply hK; clear hK)
 | (apply WC_block)
 | (apply WC_region)
 | (apply WL_nil)
 | (apply thenQ_normal)
 | (apply thenQ_exit)
 | (apply blockQ_hit)
 | (apply WC_exit)
 | (apply WC_if_false; eq_refl)
 | (apply WL_on0; eq_refl)
 | (apply X_pv; eq_refl; first | exact trivial | omega)
 | (apply X_field; eq_refl)
 | (apply X_loadR; eq_refl; (first | assumption | (apply Blk.alloc; assumption) | apply Blk.new | apply Blk.newA | (apply Blk.alloc; first | apply Blk.newA | (apply Blk.alloc; first | assumption | apply Blk.newA))); eq_refl)
 | (apply X_cmpF; eq_refl; eq_refl; omega)
 | (apply X_len; eq_refl))
  refine WC_loop (fun i : Nat => [(1, nu mark), (2, pt w.heap.size), (6, nu i)]) (fun i W => (∃ xs, SpSt w W lo (fun k => ∃ i, (cirRows c h js js c.justice.length i).v.ownBlock = some k) w.heap.size c h (upd (cirRows c h js js c.justice.length) 8 ⟨slc h 8 c.ands.length, 57, 3, c.ands.length, xs⟩) (fun q => q = 8 ∨ q = 9 ∨ q = 10)) ∧ i ≤ c.ands.length) (fun i => c.ands.length - i) 0 ⟨rfl, rfl, rfl, trivial⟩ ⟨⟨c.ands.flatMap tcells, hS.chg, hS.box, by
    rw [show upd (cirRows c h js js c.justice.length) 8 ⟨slc h 8 c.ands.length, 57, 3, c.ands.length, c.ands.flatMap tcells⟩ = cirRows c h js js c.justice.length by funext q; unfold upd; split <;> rename_i e; (subst e; rfl); rfl]
    exact hS.rows⟩, Nat.zero_le _⟩ ?_
  clear hS hge hi5 hbox5
  rintro i w5 ⟨⟨xs, hS⟩, hi5⟩
  have hbox5 := hS.box
  rcases Nat.lt_or_ge i c.ands.length with hlt | hge
  · have ho := hS.rows.own (i := 8) (by omega)
    rw [upd_at] at ho
    obtain ⟨g, cap, hv⟩ : ∃ g cap, slc h 8 c.ands.length = .slice (some ⟨g, 0, none⟩) c.ands.length cap := by
      rcases ho.2 with ⟨_, hn⟩ | ⟨g, cap, cur, hv, _⟩
      · have : c.ands.length = 0 := hn
        omega
      · exact ⟨g, cap, hv⟩
    have e6 : (ccells c h)[0 + 8]? = some (.slice (some ⟨g, 0, none⟩) c.ands.length cap) := by rw [← hv]; rfl
    obtain ⟨cur, hB, hcl, hlo, hset⟩ := hS.rows.set (i := 8) (g := g) (n := c.ands.length) (cap := cap) (t := 57) (sz := 3) (xs := xs) (by omega) (by rw [upd_at, hv])
    have hgb := hb 8 g (by show (slc h 8 c.ands.length).ownBlock = some g; rw [hv]; rfl)
    repeat' (first
 | (apply X_loadR; eq_refl; exact hbox5; exact e6)
 | (apply WC_seqK; intro K hK)
 | (apply hK; clear hK)
 | (apply WC_block)
 | (apply WC_region)
 | (apply WL_nil)
 | (apply thenQ_normal)
 | (apply WC_skip)
 | (apply WC_if_true; eq_refl)
 | (apply WL_on0; eq_refl)
 | (apply X_pv; eq_refl; first | exact trivial | omega)
 | (apply X_field; eq_refl)
 | (apply X_cmpT; eq_refl; eq_refl; omega)
 | (apply X_len; eq_refl)
 | (apply X_index; eq_refl; eq_refl; omega; omega)
 | (apply X_pure; apply build57_0 <;> eq_refl))
    refine X_doesU (does_storeA (t1 := 57) (vs := [nu mark, nu 0, nu 0]) (o := 0 + (i : Int).toNat * 3) (b := g) (by eq_refl) (by eq_refl) hB rfl (by show 0 + (i : Int).toNat * 3 + 3 ≤ _; omega) (by simp [Value.oneCell'])) ?_
    have hcc : Chg w5 _ (fun k => k = g) := Chg.setRow w5 g (splice cur (0 + (i : Int).toNat * 3) [nu mark, nu 0, nu 0]).toArray rfl
    repeat' (first
 | (apply hK; clear hK)
 | (apply WC_region)
 | (apply WL_nil)
 | (apply thenQ_normal)
 | (apply blockQ_normal)
 | (apply WL_on0; eq_refl)
 | (apply X_pv; eq_refl; first | exact trivial | omega))
    refine ⟨i + 1, ⟨rfl, rfl, rfl, trivial⟩, ⟨?_, hlt⟩, by omega⟩
    obtain ⟨xs', hS'⟩ := hset (splice cur (0 + (i : Int).toNat * 3) [nu mark, nu 0, nu 0]) (splice_lenP cur [nu mark, nu 0, nu 0] _ (by show 0 + (i : Int).toNat * 3 + 3 ≤ _; omega))
    rw [upd_updM, ← hv] at hS'
    exact ⟨xs', hS.chg.trans hcc fun k hk hh => by rw [hh]; exact hgb.1, hS.box.chg hcc (by omega), hS'⟩
  have hS : SpSt w w5 lo (fun k => ∃ i, (cirRows c h js js c.justice.length i).v.ownBlock = some k) w.heap.size c h (cirRows c h js js c.justice.length) (fun q => q = 9 ∨ q = 10) := ⟨hS.chg, hS.box, hS.rows.back.mono fun q hq => by first | exact hq.elim | omega⟩
  repeat' (first
 | (apply WC_seqK; intro K hK)
 | (apply hK; clear hK)
 | (clear hK; apply hK; clear hK)
 | (apply WC_block)
 | (apply WC_region)
 | (apply WL_nil)
 | (apply thenQ_normal)
 | (apply thenQ_exit)
 | (apply blockQ_hit)
 | (apply WC_exit)
 | (apply WC_if_false; eq_refl)
 | (apply WL_on0; eq_refl)
 | (apply X_pv; eq_refl; first | exact trivial | omega)
 | (apply X_field; eq_refl)
 | (apply X_loadR; eq_refl; (first | assumption | (apply Blk.alloc; assumption) | apply Blk.new | apply Blk.newA | (apply Blk.alloc; first | apply Blk.newA | (apply Blk.alloc; first | assumption | apply Blk.newA))); eq_refl)
 | (apply X_cmpF; eq_refl; eq_refl; omega)
 | (apply X_len; eq_refl))
  refine WC_loop (fun i : Nat => [(1, nu mark), (2, pt w.heap.size), (7, nu i)]) (fun i W => (∃ xs, SpSt w W lo (fun k => ∃ i, (cirRows c h js js c.justice.length i).v.ownBlock = some k) w.heap.size c h (upd (cirRows c h js js c.justice.length) 9 ⟨slc h 9 c.symbols.length, 110, 3, c.symbols.length, xs⟩) (fun q => q = 9 ∨ q = 10)) ∧ i ≤ c.symbols.length) (fun i => c.symbols.length - i) 0 ⟨rfl, rfl, rfl, trivial⟩ ⟨⟨c.symbols.flatMap scells, hS.chg, hS.box, by
    rw [show upd (cirRows c h js js c.justice.length) 9 ⟨slc h 9 c.symbols.length, 110, 3, c.symbols.length, c.symbols.flatMap scells⟩ = cirRows c h js js c.justice.length by funext q; unfold upd; split <;> rename_i e; (subst e; rfl); rfl]
    exact hS.rows⟩, Nat.zero_le _⟩ ?_
  clear hS hge hi5 hbox5
  rintro i w5 ⟨⟨xs, hS⟩, hi5⟩
  have hbox5 := hS.box
  rcases Nat.lt_or_ge i c.symbols.length with hlt | hge
  · have ho := hS.rows.own (i := 9) (by omega)
    rw [upd_at] at ho
    obtain ⟨g, cap, hv⟩ : ∃ g cap, slc h 9 c.symbols.length = .slice (some ⟨g, 0, none⟩) c.symbols.length cap := by
      rcases ho.2 with ⟨_, hn⟩ | ⟨g, cap, cur, hv, _⟩
      · have : c.symbols.length = 0 := hn
        omega
      · exact ⟨g, cap, hv⟩
    have e6 : (ccells c h)[0 + 9]? = some (.slice (some ⟨g, 0, none⟩) c.symbols.length cap) := by rw [← hv]; rfl
    obtain ⟨cur, hB, hcl, hlo, hset⟩ := hS.rows.set (i := 9) (g := g) (n := c.symbols.length) (cap := cap) (t := 110) (sz := 3) (xs := xs) (by omega) (by rw [upd_at, hv])
    have hgb := hb 9 g (by show (slc h 9 c.symbols.length).ownBlock = some g; rw [hv]; rfl)
    repeat' (first
 | (apply X_loadR; eq_refl; exact hbox5; exact e6)
 | (apply WC_seqK; intro K hK)
 | (apply hK; clear hK)
 | (apply WC_block)
 | (apply WC_region)
 | (apply WL_nil)
 | (apply thenQ_normal)
 | (apply WC_skip)
 | (apply WC_if_true; eq_refl)
 | (apply WL_on0; eq_refl)
 | (apply X_pv; eq_refl; first | exact trivial | omega)
 | (apply X_field; eq_refl)
 | (apply X_cmpT; eq_refl; eq_refl; omega)
 | (apply X_len; eq_refl)
 | (apply X_index; eq_refl; eq_refl; omega; omega)
 | (apply X_pure; apply build110_2 <;> eq_refl))
    refine X_doesU (does_storeA (t1 := 110) (vs := [.int .u8 0, nu 0, .string ⟨#[115, 112, 111, 105, 108, 116]⟩]) (o := 0 + (i : Int).toNat * 3) (b := g) (by eq_refl) (by eq_refl) hB rfl (by show 0 + (i : Int).toNat * 3 + 3 ≤ _; omega) (by simp [Value.oneCell'])) ?_
    have hcc : Chg w5 _ (fun k => k = g) := Chg.setRow w5 g (splice cur (0 + (i : Int).toNat * 3) [.int .u8 0, nu 0, .string ⟨#[115, 112, 111, 105, 108, 116]⟩]).toArray rfl
    repeat' (first
 | (apply hK; clear hK)
 | (apply WC_region)
 | (apply WL_nil)
 | (apply thenQ_normal)
 | (apply blockQ_normal)
 | (apply WL_on0; eq_refl)
 | (apply X_pv; eq_refl; first | exact trivial | omega))
    refine ⟨i + 1, ⟨rfl, rfl, rfl, trivial⟩, ⟨?_, hlt⟩, by omega⟩
    obtain ⟨xs', hS'⟩ := hset (splice cur (0 + (i : Int).toNat * 3) [.int .u8 0, nu 0, .string ⟨#[115, 112, 111, 105, 108, 116]⟩]) (splice_lenP cur [.int .u8 0, nu 0, .string ⟨#[115, 112, 111, 105, 108, 116]⟩] _ (by show 0 + (i : Int).toNat * 3 + 3 ≤ _; omega))
    rw [upd_updM, ← hv] at hS'
    exact ⟨xs', hS.chg.trans hcc fun k hk hh => by rw [hh]; exact hgb.1, hS.box.chg hcc (by omega), hS'⟩
  have hS : SpSt w w5 lo (fun k => ∃ i, (cirRows c h js js c.justice.length i).v.ownBlock = some k) w.heap.size c h (cirRows c h js js c.justice.length) (fun q => q = 10) := ⟨hS.chg, hS.box, hS.rows.back.mono fun q hq => by first | exact hq.elim | omega⟩
  repeat' (first
 | (apply WC_seqK; intro K hK)
 | (apply hK; clear hK)
 | (clear hK; apply hK; clear hK)
 | (apply WC_block)
 | (apply WC_region)
 | (apply WL_nil)
 | (apply thenQ_normal)
 | (apply thenQ_exit)
 | (apply blockQ_hit)
 | (apply WC_exit)
 | (apply WC_if_false; eq_refl)
 | (apply WL_on0; eq_refl)
 | (apply X_pv; eq_refl; first | exact trivial | omega)
 | (apply X_field; eq_refl)
 | (apply X_loadR; eq_refl; (first | assumption | (apply Blk.alloc; assumption) | apply Blk.new | apply Blk.newA | (apply Blk.alloc; first | apply Blk.newA | (apply Blk.alloc; first | assumption | apply Blk.newA))); eq_refl)
 | (apply X_cmpF; eq_refl; eq_refl; omega)
 | (apply X_len; eq_refl))
  refine WC_loop (fun i : Nat => [(1, nu mark), (2, pt w.heap.size), (8, nu i)]) (fun i W => (∃ xs, SpSt w W lo (fun k => ∃ i, (cirRows c h js js c.justice.length i).v.ownBlock = some k) w.heap.size c h (upd (cirRows c h js js c.justice.length) 10 ⟨slc h 10 c.comments.length, 9, 1, c.comments.length, xs⟩) (fun q => q = 10)) ∧ i ≤ c.comments.length) (fun i => c.comments.length - i) 0 ⟨rfl, rfl, rfl, trivial⟩ ⟨⟨c.comments.flatMap bcell, hS.chg, hS.box, by
    rw [show upd (cirRows c h js js c.justice.length) 10 ⟨slc h 10 c.comments.length, 9, 1, c.comments.length, c.comments.flatMap bcell⟩ = cirRows c h js js c.justice.length by funext q; unfold upd; split <;> rename_i e; (subst e; rfl); rfl]
    exact hS.rows⟩, Nat.zero_le _⟩ ?_
  clear hS hge hi5 hbox5
  rintro i w5 ⟨⟨xs, hS⟩, hi5⟩
  have hbox5 := hS.box
  rcases Nat.lt_or_ge i c.comments.length with hlt | hge
  · have ho := hS.rows.own (i := 10) (by omega)
    rw [upd_at] at ho
    obtain ⟨g, cap, hv⟩ : ∃ g cap, slc h 10 c.comments.length = .slice (some ⟨g, 0, none⟩) c.comments.length cap := by
      rcases ho.2 with ⟨_, hn⟩ | ⟨g, cap, cur, hv, _⟩
      · have : c.comments.length = 0 := hn
        omega
      · exact ⟨g, cap, hv⟩
    have e6 : (ccells c h)[0 + 10]? = some (.slice (some ⟨g, 0, none⟩) c.comments.length cap) := by rw [← hv]; rfl
    obtain ⟨cur, hB, hcl, hlo, hset⟩ := hS.rows.set (i := 10) (g := g) (n := c.comments.length) (cap := cap) (t := 9) (sz := 1) (xs := xs) (by omega) (by rw [upd_at, hv])
    have hgb := hb 10 g (by show (slc h 10 c.comments.length).ownBlock = some g; rw [hv]; rfl)
    repeat' (first
 | (apply X_loadR; eq_refl; exact hbox5; exact e6)
 | (apply WC_seqK; intro K hK)
 | (apply hK; clear hK)
 | (apply WC_block)
 | (apply WC_region)
 | (apply WL_nil)
 | (apply thenQ_normal)
 | (apply WC_skip)
 | (apply WC_if_true; eq_refl)
 | (apply WL_on0; eq_refl)
 | (apply X_pv; eq_refl; first | exact trivial | omega)
 | (apply X_field; eq_refl)
 | (apply X_cmpT; eq_refl; eq_refl; omega)
 | (apply X_len; eq_refl)
 | (apply X_index; eq_refl; eq_refl; omega; omega))
    refine X_doesU (does_store1 (t1 := 9) (b := g) (o := 0 + (i : Int).toNat * 1) (v := .string ⟨#[115, 112, 111, 105, 108, 116]⟩) (by eq_refl) (by eq_refl) hB (by omega) rfl rfl) ?_
    have hcc : Chg w5 _ (fun k => k = g) := Chg.setRow w5 g (cur.set (0 + (i : Int).toNat * 1) (.string ⟨#[115, 112, 111, 105, 108, 116]⟩)).toArray rfl
    repeat' (first
 | (apply hK; clear hK)
 | (apply WC_region)
 | (apply WL_nil)
 | (apply thenQ_normal)
 | (apply blockQ_normal)
 | (apply WL_on0; eq_refl)
 | (apply X_pv; eq_refl; first | exact trivial | omega))
    refine ⟨i + 1, ⟨rfl, rfl, rfl, trivial⟩, ⟨?_, hlt⟩, by omega⟩
    obtain ⟨xs', hS'⟩ := hset (cur.set (0 + (i : Int).toNat * 1) (.string ⟨#[115, 112, 111, 105, 108, 116]⟩)) (List.length_set)
    rw [upd_updM, ← hv] at hS'
    exact ⟨xs', hS.chg.trans hcc fun k hk hh => by rw [hh]; exact hgb.1, hS.box.chg hcc (by omega), hS'⟩
  have hS : SpSt w w5 lo (fun k => ∃ i, (cirRows c h js js c.justice.length i).v.ownBlock = some k) w.heap.size c h (cirRows c h js js c.justice.length) (fun q => False) := ⟨hS.chg, hS.box, hS.rows.back.mono fun q hq => by first | exact hq.elim | omega⟩
  repeat' (first
 | (apply WC_seqK; intro K hK)
 | (apply hK; clear hK)
 | (apply WC_region)
 | (apply WL_nil)
 | (apply thenQ_normal)
 | (apply thenQ_exit)
 | (apply blockQ_hit)
 | (apply WC_exit)
 | (apply WC_if_false; eq_refl)
 | (apply ret0n)
 | (apply WL_on0; eq_refl)
 | (apply X_pv; eq_refl; first | exact trivial | omega)
 | (apply X_field; eq_refl)
 | (apply X_loadR; eq_refl; (first | assumption | (apply Blk.alloc; assumption) | apply Blk.new | apply Blk.newA | (apply Blk.alloc; first | apply Blk.newA | (apply Blk.alloc; first | assumption | apply Blk.newA))); eq_refl)
 | (apply X_cmpF; eq_refl; eq_refl; omega)
 | (apply X_len; eq_refl))
  exact hS.chg
end SC
end Go.Proofs.Yticndofcfacopaa
end
section
/- IsBinary, of the reference and of shape. -/
set_option linter.unusedVariables false
set_option linter.unusedSimpArgs false
namespace Go.Proofs.Yticndofcfacopaa
namespace SC
open Go.Proofs
attribute [local irreducible] WC WL WX WS WO OX Does DoesU Enters CV Pure thenQ blockQ retQ Wants retQC GC GL GS GX RdB thenG blockG retG Rd At gt CVN CVM
attribute [local irreducible] renX
set_option maxRecDepth 100000
end SC
end Go.Proofs.Yticndofcfacopaa
end
section
/- The renumbered circuit has the binary order. -/
set_option linter.unusedVariables false
set_option linter.unusedSimpArgs false
namespace Go.Proofs.Yticndofcfacopaa
namespace SC
open Go.Proofs
section
variable {c : Circ} (R : Right c)
include R
end
end SC
end Go.Proofs.Yticndofcfacopaa
end
section
/- trestlelaw03: ShapeSettles: the walk. -/
set_option linter.unusedVariables false
set_option linter.unusedSimpArgs false
namespace Go.Proofs.Yticndofcfacopaa
namespace SC
open Go.Proofs
attribute [local irreducible] WC WL WX WS WO OX Does DoesU Enters CV Pure thenQ blockQ retQ Wants retQC GC GL GS GX RdB thenG blockG retG Rd At gt CVN CVM
attribute [local irreducible] renX
set_option maxRecDepth 100000
end SC
end Go.Proofs.Yticndofcfacopaa
end
section
/- trestlebook: CopyCircuit by entries; trestleref03: Renumber. -/
set_option linter.unusedVariables false
set_option linter.unusedSimpArgs false
namespace Go.Proofs.Yticndofcfacopaa
namespace SC
open Go.Proofs
/-- A whole thing is stored into its place in a vector. -/
theorem G_stVW {P : Program} {n : Nat} {all : List Oper} {K : Env → Mm → Prop} {m : Md} {e : Env} {Γ Γ' : Mm} {d : Option Tmp} {ty t t0 : TypeId} {x y : Operand} {td : TypeDesc} {sz by_ : Nat} {zv : Value} {ag : Bool} {α : Type} {enc : α → List Value} {A : Option Addr} {c : Nat} {i : Int} {l : List α} {vs : List Value} (a : α) [T : Ty P t td sz zv by_ ag]
    (hm : wrOk all m = true) (h : ev e x = some (.pointer (some (At A (i.toNat * sz))))) (h1 : ev e y = some (.agg vs.toArray)) (ha : vs = enc a) (hU : Upd Γ (.vec enc sz t0 A c l) (.vec enc sz t0 A c (l.set i.toNat a)) Γ') (N : Enc enc sz) (h0 : 0 ≤ i) (hlt : i < l.length) (hr : GN P n all K m (push d undef e) Γ') : GX P n all K m d (.store t x y) ty e Γ := by
  subst ha
  refine GX_acts (R := fun v Γ1 => v = undef ∧ Γ1 = Γ') hm (fun Δ w M => ?_) fun v Γ1 ⟨e1, e2⟩ => by rw [e1, e2]; exact hr
  have hb : (Ent.vec enc sz t0 A c l).ok w := by obtain ⟨R, p, _⟩ := hU.perm; exact M.right.ok _ (p.mem_iff.2 (by simp))
  have hb' : w.ownsRow 0 t0 sz (.slice A l.length c) l.length (l.flatMap enc) := hb
  obtain ⟨g, rfl⟩ : ∃ g, A = some ⟨g, 0, none⟩ := by
    rcases hb'.2 with ⟨hv, hn⟩ | ⟨g, cap, cur, hv, _⟩
    · omega
    · cases hv; exact ⟨g, rfl⟩
  obtain ⟨cur, hB, hx, hcl, _, hst⟩ := own_set hb'
  have hlt' : i.toNat < l.length := by omega
  have h3 : i.toNat * sz + sz ≤ l.length * sz := by
    have : (i.toNat + 1) * sz ≤ l.length * sz := Nat.mul_le_mul_right sz hlt'
    rwa [Nat.succ_mul] at this
  have hle : i.toNat * sz + (enc a).length ≤ l.length * sz := by rw [N.len]; exact h3
  have h' : ev e x = some (.pointer (some ⟨g, i.toNat * sz, none⟩)) := by rw [h]; unfold At; simp [add_at]
  refine .inr (.inr ⟨_, does_storeA h' h1 hB (N.len a) (by omega) (N.one a), Γ', ?_, rfl, rfl⟩)
  have hown : (Ent.vec enc sz t0 (some ⟨g, 0, none⟩) c (l.set i.toNat a)).ok (w.setRow g (splice cur (i.toNat * sz) (enc a)).toArray) := by
    show World.ownsRow _ _ _ _ _ _ _
    have := hst (splice cur (i.toNat * sz) (enc a)) (splice_len (by omega))
    rw [splice_take hle hcl, ← hx, splice_set enc sz N.len l i.toNat a hlt'] at this
    rw [List.length_set]
    exact this
  exact Mem.upd hU M (Chg.setRow w g _ (S := fun k => k = g) rfl) (fun k _ h => by subst h; rfl) hown fun k hk => .inl (by simpa [Ent.own, Value.ownBlock] using hk)
/-- A row that is changed from the left. -/
def mix {α : Type} (a b : List α) (i : Nat) : List α := a.take i ++ b.drop i
theorem mix_len {α : Type} {a b : List α} {i : Nat} (h : a.length = b.length) : (mix a b i).length = b.length := by unfold mix; simp; omega
theorem mix_all {α : Type} {a b : List α} {i : Nat} (h : a.length ≤ i) (h1 : b.length ≤ i) : mix a b i = a := by unfold mix; rw [List.take_of_length_le h, List.drop_of_length_le h1, List.append_nil]
theorem mix_step {α : Type} {a b : List α} {i : Nat} {x : α} (h : i < a.length) (h1 : a.length = b.length) (hx : x = a[i]) : (mix a b i).set (i : Int).toNat x = mix a b (i + 1) := by
  have e : (a.take i).length = i := by rw [List.length_take]; omega
  unfold mix
  rw [Int.toNat_natCast, List.set_append_right _ _ (by omega), e, Nat.sub_self, List.drop_eq_getElem_cons (by omega), List.set_cons_zero, List.take_succ_eq_append_getElem h, List.append_assoc, hx]
  rfl
/-- What CopyCircuit adds, as entries; of what Renumber lays anew nothing is said. -/
def cpE (c : Circ) (h js : Hd) : Mm := [.vec icell 1 3 (h 1).1 (h 1).2 c.inputs, .vec tcells 3 83 (h 2).1 (h 2).2 c.latches, .vec encS 1 22 (h 6).1 (h 6).2 (jps c js), .vec tcells 3 57 (h 8).1 (h 8).2 c.ands, .vec scells 3 110 (h 9).1 (h 9).2 c.symbols, .vec bcell 1 9 (h 10).1 (h 10).2 c.comments]
theorem flat_one {α β : Type} (f : α → β) : ∀ l : List α, (l.flatMap fun a => [f a]) = l.map f
  | [] => rfl
  | a :: r => by rw [List.flatMap_cons, flat_one f r]; rfl
theorem jps_cells (c : Circ) (js : Hd) : (jps c js).flatMap encS = jcells c js := by
  unfold jps jcells
  rw [List.flatMap_map]
  exact flat_one (fun k => slc js k (c.justice.getD k []).length) _
theorem copyG {w : World} {c : Circ} {h js : Hd} (H : CirAt w c h js) (hf : c.Fits) (hn : Nils h js) : CVN Try.prog 50 [.agg (ccells c h).toArray] w fun v N => ∃ h' js', v = .agg (ccells c h').toArray ∧ N = cpE c h' js' :=
  CV.mono (copyCircuit_cv H hf hn) fun v w' ⟨h', js', e1, hH, hc⟩ => by
    have o1 := hH 1
    have o2 := hH 2
    have o6 := hH 6
    have o8 := hH 8
    have o9 := hH 9
    have o10 := hH 10
    simp only [Rw.own, cirRows] at o1 o2 o6 o8 o9 o10
    have e6 : ((List.range c.justice.length).map fun k => if k < c.justice.length then slc js' k (c.justice.getD k []).length else slc js' k (c.justice.getD k []).length) = jcells c js' := by
      unfold jcells
      exact List.map_congr_left fun k hk => by split <;> rfl
    rw [e6, ← jps_cells] at o6
    have hE : ∀ E ∈ cpE c h' js', E.ok w' ∧ ∀ k, E.own k → w.heap.size ≤ k := by
      intro E hE
      simp only [cpE, List.mem_cons, List.not_mem_nil, or_false] at hE
      rcases hE with rfl | rfl | rfl | rfl | rfl | rfl
      · exact ⟨ownsRow_low o1, fun k hk => (World.ownsRow.lt o1 k hk).1⟩
      · exact ⟨ownsRow_low o2, fun k hk => (World.ownsRow.lt o2 k hk).1⟩
      · have o6' : w'.ownsRow w.heap.size 22 1 (.slice (h' 6).1 (jps c js').length (h' 6).2) (jps c js').length ((jps c js').flatMap encS) := by rw [jps_len]; exact o6
        exact ⟨ownsRow_low o6', fun k hk => (World.ownsRow.lt o6' k hk).1⟩
      · exact ⟨ownsRow_low o8, fun k hk => (World.ownsRow.lt o8 k hk).1⟩
      · exact ⟨ownsRow_low o9, fun k hk => (World.ownsRow.lt o9 k hk).1⟩
      · exact ⟨ownsRow_low o10, fun k hk => (World.ownsRow.lt o10 k hk).1⟩
    have hap : (cpE c h' js').Pairwise Ent.apart := by
      have ap : ∀ {α β : Type} {ea : α → List Value} {eb : β → List Value} {s1 s2 : Nat} {t1 t2 : TypeId} {A B : Option Addr} {c1 c2 : Nat} {l1 : List α} {l2 : List β}, (Ent.vec ea s1 t1 A c1 l1).ok w' → (Ent.vec eb s2 t2 B c2 l2).ok w' → t1 ≠ t2 → Ent.apart (.vec ea s1 t1 A c1 l1) (.vec eb s2 t2 B c2 l2) := fun h1 h2 ht k hk hk2 => own_ne h1 h2 ht hk hk2
      have a1 := (hE _ (List.mem_cons_self)).1
      have a2 := (hE _ (List.mem_cons_of_mem _ List.mem_cons_self)).1
      have a3 := (hE _ (List.mem_cons_of_mem _ (List.mem_cons_of_mem _ List.mem_cons_self))).1
      have a4 := (hE _ (List.mem_cons_of_mem _ (List.mem_cons_of_mem _ (List.mem_cons_of_mem _ List.mem_cons_self)))).1
      have a5 := (hE _ (List.mem_cons_of_mem _ (List.mem_cons_of_mem _ (List.mem_cons_of_mem _ (List.mem_cons_of_mem _ List.mem_cons_self))))).1
      have a6 := (hE _ (List.mem_cons_of_mem _ (List.mem_cons_of_mem _ (List.mem_cons_of_mem _ (List.mem_cons_of_mem _ (List.mem_cons_of_mem _ List.mem_cons_self)))))).1
      unfold cpE
      simp only [List.pairwise_cons, List.mem_cons, List.not_mem_nil, or_false, forall_eq_or_imp, forall_eq, List.Pairwise.nil, and_true]
      refine ⟨⟨ap a1 a2 (by decide), ap a1 a3 (by decide), ap a1 a4 (by decide), ap a1 a5 (by decide), ap a1 a6 (by decide)⟩, ⟨ap a2 a3 (by decide), ap a2 a4 (by decide), ap a2 a5 (by decide), ap a2 a6 (by decide)⟩, ⟨ap a3 a4 (by decide), ap a3 a5 (by decide), ap a3 a6 (by decide)⟩, ⟨ap a4 a5 (by decide), ap a4 a6 (by decide)⟩, ap a5 a6 (by decide), fun _ h => h.elim⟩
    refine ⟨cpE c h' js', Mem.join ⟨fun E h => (hE E h).1, hap⟩ (.one hc) fun k ⟨E, hE1, h1⟩ ⟨F, hF, h2⟩ => ?_, h', js', e1, rfl⟩
    simp only [List.mem_singleton] at hF
    subst hF
    have := (hE E hE1).2 k h1
    have := h2.1
    omega
end SC
end Go.Proofs.Yticndofcfacopaa
end
section
/- A formula in memory; the reference's formula of some gates. -/
set_option linter.unusedVariables false
set_option linter.unusedSimpArgs false
namespace Go.Proofs.Yticndofcfacopaa
namespace SC
open Go.Proofs
def rowJ (p : Hdl × List Int) : Mm := [.vec icell 1 3 p.1.1 p.1.2 p.2]
attribute [local irreducible] WC WL WX WS WO OX Does DoesU Enters CV Pure thenQ blockQ retQ Wants retQC GC GL GS GX RdB thenG blockG retG Rd At gt CVN CVM
set_option maxRecDepth 100000
end SC
end Go.Proofs.Yticndofcfacopaa
end
section
/- encode: put, gate, made. -/
set_option linter.unusedVariables false
set_option linter.unusedSimpArgs false
namespace Go.Proofs.Yticndofcfacopaa
namespace SC
open Go.Proofs
theorem CVM.same {P : Program} {f : FuncId} {args : List Value} {w : World} {C C' : Mm} {R : Value → Mm → Prop} (h : CVM P f args w C' R) (he : ∀ k, owns C' k ↔ owns C k) : CVM P f args w C R := by
  have e : owns C' = owns C := funext fun k => propext (he k)
  unfold CVM at h ⊢
  rw [e] at h
  exact h
section
variable {P : Program} {e : Env} {w : World} {t : TypeId} {td : TypeDesc} {sz by_ : Nat} {zv : Value}
theorem results_ofC1 {fn : Func} {n : Nat} {a : Act} {ta r1 : Nat} [T : Ty P t td sz zv by_ true] (ha : Agree n e a) (hr : fn.results = (.cell ta t :: [ResultVar.tmp r1]).toArray) {p : Addr} {cs : List Value} {v1 : Value} (h0 : look e ta = some (.pointer (some p)))
    (hc : ∀ j u, cs[j]? = some u → w.cell? (p.add j) = some u) (hs : cs.length = sz) (h : look e r1 = some v1) : (results fn a.tmps).run P w = .ok (retVal [.agg cs.toArray, v1]) w := by
  have ht : ∀ t v, look e t = some v → a.tmps[t]? = some v := ha.tmps
  have hr0 := run_loadCells_list (P := P) w p cs hc
  subst hs
  simp [results, hr, retVal, ht _ _ h0, ht _ _ h, asAddr, loadVar, T.agg, T.size, hr0, Result.andThen]
end
def retGC1 (a sz r1 : Nat) (R : Value → Mm → Prop) : PostG
  | .ret, e, Γ => ∃ b t cs v, look e a = some (.pointer (some ⟨b, 0, none⟩)) ∧ In Γ (.box b t cs) ∧ cs.length = sz ∧ look e r1 = some v ∧ R (.tuple #[.agg cs.toArray, v]) Γ
  | .normal, e, Γ => ∃ b t cs v, look e a = some (.pointer (some ⟨b, 0, none⟩)) ∧ In Γ (.box b t cs) ∧ cs.length = sz ∧ look e r1 = some v ∧ R (.tuple #[.agg cs.toArray, v]) Γ
  | _, _, _ => False
theorem CVN.enterC1 {P : Program} {f : FuncId} {args : List Value} {w : World} {R : Value → Mm → Prop} {t : TypeId} {td : TypeDesc} {sz by_ : Nat} {zv : Value} {fn : Func} {c : Code} (n a r1 : Nat) [T : Ty P t td sz zv by_ true] (hf : P.funcs[f]? = some fn) (hb : fn.body = some c)
    (hn : fn.ntmps = n) (hr : fn.results = (.cell a t :: [ResultVar.tmp r1]).toArray) (hs : Nat.ble args.length n = true) (h : GC P n c (retGC1 a sz r1 fun v Γ => ∃ N, Wk Γ (N ++ [.old w none_]) ∧ R v N) (argEnv args 0) [.old w none_]) : CVN P f args w R := by
  refine calls_of_wp hf hb ?_
  have hA : Agree n (argEnv args 0) { tmps := args.toArray ++ Array.replicate (fn.ntmps - args.toArray.size) undef, defers := [] } := by
    have hs' := Nat.le_of_ble_eq_true hs
    refine ⟨by simp [hn]; omega, rfl, fun t v hv => ?_⟩
    obtain ⟨_, h2⟩ := argEnv_look args 0 t v hv
    have hlt : t < args.length := (List.getElem?_eq_some_iff.1 h2).1
    rw [Array.getElem?_append_left (by simpa using hlt)]
    simpa using h2
  have key : ∀ (a' : Act) (w' : World) (e : Env) (Γ : Mm), Agree n e a' → Mem w' Γ → (∃ b t' cs v, look e a = some (.pointer (some ⟨b, 0, none⟩)) ∧ In Γ (.box b t' cs) ∧ cs.length = sz ∧ look e r1 = some v ∧ ∃ N, Wk Γ (N ++ [.old w none_]) ∧ R (.tuple #[.agg cs.toArray, v]) N) → a'.defers = [] ∧ ∃ v, (results fn a'.tmps).run P w' = .ok v w' ∧ ∃ N, Mem w' (N ++ [.old w none_]) ∧ R v N := by
    intro a' w' e Γ ha M ⟨b, t', cs, v, h0, hi, hz, h1, N, h2, h3⟩
    refine ⟨ha.defers, _, results_ofC1 (T := T) ha hr h0 (fun j u hj => ?_) hz h1, N, h2.mem w' M, h3⟩
    rw [add_at, Nat.zero_add, (show Blk w' b t' cs from hi.ok M).cell]
    exact hj
  refine wp_mono (h w (Mem.start w) _ hA) ?_
  intro s a' w' hq
  cases s with
  | normal => obtain ⟨e, ha, Γ, M, h⟩ := hq; exact key a' w' e Γ ha M h
  | ret => obtain ⟨e, ha, Γ, M, h⟩ := hq; exact key a' w' e Γ ha M h
  | exit i => obtain ⟨e, _, Γ, M, h⟩ := hq; exact h
  | goto l => obtain ⟨e, _, Γ, M, h⟩ := hq; exact h
  | panic c => exact hq.elim
  | outgrown => exact hq.elim
theorem retGC1r {R : Value → Mm → Prop} {e : Env} {Γ : Mm} {a sz b r1 : Nat} {v : Value} {t : TypeId} {cs : List Value} (h : look e a = some (.pointer (some ⟨b, 0, none⟩))) (hi : In Γ (.box b t cs)) (hl : cs.length = sz) (h1 : look e r1 = some v) (hr : R (.tuple #[.agg cs.toArray, v]) Γ) : retGC1 a sz r1 R .ret e Γ := ⟨b, t, cs, v, h, hi, hl, h1, hr⟩
attribute [local irreducible] WC WL WX WS WO OX Does DoesU Enters CV Pure thenQ blockQ retQ Wants retQC GC GL GS GX RdB thenG blockG retG Rd At gt CVN CVM
set_option maxRecDepth 100000
end SC
end Go.Proofs.Yticndofcfacopaa
end
section
/- encode, trestleref15: Gates, Lit. -/
set_option linter.unusedVariables false
set_option linter.unusedSimpArgs false
namespace Go.Proofs.Yticndofcfacopaa
namespace SC
open Go.Proofs
attribute [local irreducible] WC WL WX WS WO OX Does DoesU Enters CV Pure thenQ blockQ retQ Wants retQC GC GL GS GX RdB thenG blockG retG Rd At gt CVN CVM
set_option maxRecDepth 100000
end SC
end Go.Proofs.Yticndofcfacopaa
end
section
/- encode, trestleref15: Model, Step. -/
set_option linter.unusedVariables false
set_option linter.unusedSimpArgs false
namespace Go.Proofs.Yticndofcfacopaa
namespace SC
open Go.Proofs
attribute [local irreducible] WC WL WX WS WO OX Does DoesU Enters CV Pure thenQ blockQ retQ Wants retQC GC GL GS GX RdB thenG blockG retG Rd At gt CVN CVM
set_option maxRecDepth 100000
section
variable {w : World} {c : Circ} {h js : Hd} {S T : Option Addr} {k2 k3 : Nat} {s r : List Bool} (H : CirIn w c h js) (hS : RowA w booc 1 S s) (hT : RowA w booc 1 T r)
include H hS hT
end
end SC
end Go.Proofs.Yticndofcfacopaa
end
section
/- trestleref15: Step. -/
set_option linter.unusedVariables false
set_option linter.unusedSimpArgs false
namespace Go.Proofs.Yticndofcfacopaa
namespace SC
open Go.Proofs
theorem Dec.all {α : Type} {enc : α → List Value} : ∀ l : List α, Dec enc (l.flatMap enc) l
  | [] => Dec.nil
  | a :: r => by rw [List.flatMap_cons]; exact Dec.cg (Dec.all r)
attribute [local irreducible] WC WL WX WS WO OX Does DoesU Enters CV Pure thenQ blockQ retQ Wants retQC GC GL GS GX RdB thenG blockG retG Rd At gt CVN CVM
set_option maxRecDepth 100000
end SC
end Go.Proofs.Yticndofcfacopaa
end
section
/- trestlelaw15: works. -/
set_option linter.unusedVariables false
set_option linter.unusedSimpArgs false
namespace Go.Proofs.Yticndofcfacopaa
namespace SC
open Go.Proofs
attribute [local irreducible] WC WL WX WS WO OX Does DoesU Enters CV Pure thenQ blockQ retQ Wants retQC GC GL GS GX RdB thenG blockG retG Rd At CVN CVM
set_option maxRecDepth 100000
end SC
end Go.Proofs.Yticndofcfacopaa
end
section
/- trestlelaw15: EncodeModels: the walk. -/
set_option linter.unusedVariables false
set_option linter.unusedSimpArgs false
namespace Go.Proofs.Yticndofcfacopaa
namespace SC
open Go.Proofs
attribute [local irreducible] WC WL WX WS WO OX Does DoesU Enters CV Pure thenQ blockQ retQ Wants retQC GC GL GS GX RdB thenG blockG retG Rd At gt CVN CVM
attribute [local irreducible] lentX
set_option maxRecDepth 100000
end SC
end Go.Proofs.Yticndofcfacopaa
end
section
/- trestlebook: SameCnf, SpoilCnf; lists of numbers lent. -/
set_option linter.unusedVariables false
set_option linter.unusedSimpArgs false
namespace Go.Proofs.Yticndofcfacopaa
namespace SC
open Go.Proofs
theorem In.rowL {Γ : Mm} {w : World} {t : TypeId} {A : Option Addr} {c : Nat} {l : List Int} (h : In Γ (.vec icell 1 t A c (l ++ [-77]))) (M : Mem w Γ) : RowA w icell 1 A l := RowA.left (h.row M)
theorem Wk.one {E : Ent} {Γ : Mm} : Wk (E :: Γ) [E] := Wk.cons .here .nil
theorem Wk.there {Γ Γ' : Mm} (h : Wk Γ Γ') : Wk Γ ([] ++ Γ') := h
attribute [local irreducible] WC WL WX WS WO OX Does DoesU Enters CV Pure thenQ blockQ retQ Wants retQC GC GL GS GX RdB thenG blockG retG Rd At gt CVN CVM
set_option maxRecDepth 100000
end SC
end Go.Proofs.Yticndofcfacopaa
end
section
/- A formula is the circuit: the plain law. -/
set_option linter.unusedVariables false
set_option linter.unusedSimpArgs false
namespace Go.Proofs.Yticndofcfacopaa
namespace SC
open Go.Proofs
/-! ### truth of literals, clauses, formulas -/
theorem lv_even {v : List Bool} {l : Int} (h : l % 2 = 0) : lv v l = gt v (l / 2) := by
  unfold lv
  rw [h]
  simp
/-! ### the two laws -/
end SC
end Go.Proofs.Yticndofcfacopaa
end
section
/- A circuit whose variables stand in order is right, and its order is 0, 1, ..: the plain law of circuits that are built. -/
set_option linter.unusedVariables false
set_option linter.unusedSimpArgs false
namespace Go.Proofs.Yticndofcfacopaa
namespace SC
open Go.Proofs
/-- All variables in order: inputs, latches, gates; each gate hangs on what stands before it. -/
structure SeqOk (c : Circ) : Prop where
  max : c.max = ((c.inputs.length + c.latches.length + c.ands.length : Nat) : Int)
  m1 : c.max ≤ 16384
  lens : ∀ n ∈ c.lens, n ≤ 16384
  sum : sumW c.justice ≤ 16384
  inp : ∀ (i : Nat) (h : i < c.inputs.length), c.inputs[i] = 2 * (i : Int) + 2
  lat : ∀ (i : Nat) (h : i < c.latches.length), c.latches[i].1 = 2 * ((c.inputs.length + i : Nat) : Int) + 2
  gat : ∀ (i : Nat) (h : i < c.ands.length), c.ands[i].1 = 2 * ((c.inputs.length + c.latches.length + i : Nat) : Int) + 2
  reset : ∀ x ∈ c.latches, ¬ badReset x
  next : ∀ x ∈ c.latches, inR c x.2.1
  low : ∀ x ∈ c.ands, (0 ≤ x.2.1 ∧ x.2.1 < x.1) ∧ (0 ≤ x.2.2 ∧ x.2.2 < x.1)
  outputs : ∀ x ∈ c.outputs, inR c x
  bads : ∀ x ∈ c.bads, inR c x
  constraints : ∀ x ∈ c.constraints, inR c x
  justice : ∀ l ∈ c.justice, ∀ x ∈ l, inR c x
  fairness : ∀ x ∈ c.fairness, inR c x
  sym : goSym c c.symbols 0 (fun _ _ => 0) < 0
  com : goCom c.comments 0 < 0
section
variable {c : Circ} (Q : SeqOk c)
include Q
theorem SeqOk.m0 : 0 ≤ c.max := by have := Q.max; omega
theorem SeqOk.defs : allDefs c = (List.range (c.inputs.length + c.latches.length + c.ands.length)).map fun (j : Nat) => 2 * (j : Int) + 2 := by
  unfold allDefs
  apply List.ext_getElem (by simp [Nat.add_assoc])
  intro j h1 h2
  simp only [List.length_append, List.length_map] at h1
  rw [List.getElem_map, List.getElem_range]
  by_cases ha : j < c.inputs.length
  · rw [List.getElem_append_left (by simp; omega), List.getElem_append_left ha, Q.inp j ha]
  · by_cases hb : j < c.inputs.length + c.latches.length
    · rw [List.getElem_append_left (by simp; omega), List.getElem_append_right (by omega), List.getElem_map, Q.lat _ (by omega)]
      omega
    · rw [List.getElem_append_right (by simp; omega), List.getElem_map]
      have := Q.gat (j - (c.inputs.length + c.latches.length)) (by omega)
      simp only [List.length_append, List.length_map]
      rw [this]
      omega
theorem SeqOk.sizes : sizesM c = 0 := sizesM_zero Q.m0 Q.m1 Q.lens Q.sum
theorem SeqOk.defines : (definesM c (T0 c)).1.2 = 0 := by
  have hm := Q.max
  refine defines_pass (fun l hl => ?_) Q.reset ?_
  · rw [Q.defs] at hl
    obtain ⟨j, hj, rfl⟩ := List.mem_map.1 hl
    simp only [List.mem_range] at hj
    unfold defBad
    omega
  · rw [Q.defs, List.map_map]
    exact nodup_map (fun a b e => by simp only [Function.comp_apply] at e; omega) List.nodup_range
theorem SeqOk.tab : TabOk c (tabM c) := definesM_spec Q.m0 Q.defines
theorem SeqOk.use {l : Int} (h : inR c l) : useOk c (tabM c) l := by
  have hm := Q.max
  obtain ⟨h0, h1⟩ := h
  refine ⟨h0, h1, fun h2 => ?_⟩
  have hin : (2 * (((l / 2 - 1).toNat : Nat) : Int) + 2) ∈ allDefs c := by
    rw [Q.defs]
    exact List.mem_map.2 ⟨(l / 2 - 1).toNat, List.mem_range.2 (by omega), rfl⟩
  have := kind_def Q.tab hin
  rwa [show (2 * (((l / 2 - 1).toNat : Nat) : Int) + 2) / 2 = l / 2 by omega] at this
theorem SeqOk.lowR {x : Tri} (h : x ∈ c.ands) : inR c x.2.1 ∧ inR c x.2.2 := by
  have hm := Q.max
  obtain ⟨i, hi, rfl⟩ := List.mem_iff_getElem.1 h
  have h1 := Q.gat i hi
  obtain ⟨⟨a, b⟩, ⟨d, e⟩⟩ := Q.low _ h
  unfold inR
  omega
theorem SeqOk.uses : (usesM c (tabM c)).2 = 0 := usesM_spec.2 ⟨fun x hx => Q.use (Q.next x hx), fun x hx => Q.use (Q.outputs x hx), fun x hx => Q.use (Q.bads x hx), fun x hx => Q.use (Q.constraints x hx), fun l hl x hx => Q.use (Q.justice l hl x hx), fun x hx => Q.use (Q.fairness x hx), fun x hx => ⟨Q.use (Q.lowR hx).1, Q.use (Q.lowR hx).2⟩⟩
theorem SeqOk.all : All c.ands.length (gateB (tabM c) c) (upto c.ands.length) := by
  refine all_upto fun k hk z hz => ?_
  have hz' : z ∈ belowL (tabM c) [(andAt c (k : Int)).2.1, (andAt c (k : Int)).2.2] := hz
  rw [mem_belowL] at hz'
  obtain ⟨l, hl, h3, hat⟩ := hz'
  have ea : andAt c (k : Int) = gt c.ands (k : Int) := rfl
  rw [ea] at hl
  have b1 := Q.gat k hk
  have hg := Q.low _ (gt_mem (l := c.ands) (i := (k : Int)) (by omega) (by omega))
  rw [gt_nat hk] at hg hl
  have hle : 0 ≤ l ∧ l < c.ands[k].1 := by
    simp only [List.mem_cons, List.not_mem_nil, or_false] at hl
    rcases hl with rfl | rfl
    · exact hg.1
    · exact hg.2
  obtain ⟨v, hv⟩ : ∃ v : Nat, l / 2 = v := ⟨(l / 2).toNat, by omega⟩
  rw [hv] at h3 hat
  obtain ⟨j, hj, g1, g2, _⟩ := Q.tab.gate h3
  have b4 := Q.gat j hj
  rw [g1] at b4
  omega
theorem SeqOk.ord : ordM c = upto c.ands.length := ordM_eq Q.all
theorem SeqOk.look : lookM c = (0, 0) := by
  unfold lookM
  rw [if_neg (fun hh => hh Q.sizes), if_neg (fun hh => hh Q.defines), if_neg (fun hh => hh Q.uses), cycM_eq ⟨_, Q.all, .inl ⟨upto_len _, rfl⟩⟩, if_neg (by decide), if_neg (Int.not_le.2 Q.sym), if_neg (Int.not_le.2 Q.com)]
theorem SeqOk.right : Right c := ⟨Q.tab, usesM_spec.1 Q.uses, Q.m0, Q.m1, Q.lens, Q.sum, by rw [Q.ord]; exact Q.all, by rw [Q.ord, upto_len]⟩
end
end SC
end Go.Proofs.Yticndofcfacopaa
end
section
/- What a builder makes: its gates in order, each once, and their values: the plain law. -/
set_option linter.unusedVariables false
set_option linter.unusedSimpArgs false
namespace Go.Proofs.Yticndofcfacopaa
namespace SC
open Go.Proofs
/-- A builder's gates: in order, none trivial, none twice. -/
structure Gs (n : Int) (gs : List Gate) : Prop where
  nn : 0 ≤ n
  out : ∀ (k : Nat) (h : k < gs.length), gs[k].1 = 2 * (n + k) + 2
  low : ∀ (k : Nat) (h : k < gs.length), 2 ≤ gs[k].2.2 ∧ gs[k].2.2 < gs[k].2.1 ∧ gs[k].2.1 < gs[k].1 ∧ gs[k].2.2 / 2 ≠ gs[k].2.1 / 2
  one : ∀ (j k : Nat) (hj : j < gs.length) (hk : k < gs.length), gs[j].2 = gs[k].2 → j = k
theorem Gs.nil {n : Int} (h : 0 ≤ n) : Gs n [] := ⟨h, fun k hk => absurd hk (Nat.not_lt_zero _), fun k hk => absurd hk (Nat.not_lt_zero _), fun j k hj => absurd hj (Nat.not_lt_zero _)⟩
theorem outOf_at {p q : Int} : ∀ gs : List Gate, 0 < outOf gs p q → ∃ (k : Nat) (h : k < gs.length), gs[k].2 = (p, q) ∧ outOf gs p q = gs[k].1
  | [], h => by unfold outOf at h; omega
  | g :: r, h => by
    unfold outOf at h ⊢
    split at h
    · rename_i hh
      rw [if_pos hh]
      exact ⟨0, Nat.zero_lt_succ _, Prod.ext hh.1 hh.2, rfl⟩
    · rename_i hh
      rw [if_neg hh]
      obtain ⟨k, hk, e1, e2⟩ := outOf_at r h
      exact ⟨k + 1, Nat.succ_lt_succ hk, e1, e2⟩
theorem outOf_no {p q : Int} : ∀ gs : List Gate, (∀ g ∈ gs, 2 ≤ g.1) → ¬ 0 < outOf gs p q → ∀ g ∈ gs, g.2 ≠ (p, q)
  | [], _, _, g, hg => by cases hg
  | x :: r, ho, h, g, hg => by
    unfold outOf at h
    have hx := ho x (List.mem_cons_self ..)
    split at h
    · omega
    · rename_i hh
      rcases List.mem_cons.1 hg with rfl | hg
      · intro e
        exact hh ⟨congrArg Prod.fst e, congrArg Prod.snd e⟩
      · exact outOf_no r (fun y hy => ho y (List.mem_cons_of_mem _ hy)) h g hg
theorem Gs.outs {n : Int} {gs : List Gate} (G : Gs n gs) : ∀ g ∈ gs, 2 ≤ g.1 := fun g hg => by
  obtain ⟨k, hk, rfl⟩ := List.mem_iff_getElem.1 hg
  have := G.out k hk
  have := G.nn
  omega
/-- One gate more. -/
theorem Gs.snoc {n : Int} {gs : List Gate} (G : Gs n gs) {p q : Int} (h0 : 2 ≤ q) (h1 : q < p) (h2 : p ≤ 2 * (n + gs.length) + 1) (h3 : q / 2 ≠ p / 2) (hn : ∀ g ∈ gs, g.2 ≠ (p, q)) : Gs n (gs ++ [(2 * (n + gs.length + 1), p, q)]) := by
  have hl : (gs ++ [(2 * (n + gs.length + 1), p, q)]).length = gs.length + 1 := by simp
  have old : ∀ (k : Nat) (h : k < gs.length) (h' : k < (gs ++ [(2 * (n + gs.length + 1), p, q)]).length), (gs ++ [(2 * (n + gs.length + 1), p, q)])[k] = gs[k] := fun k h h' => List.getElem_append_left h
  have new : ∀ (k : Nat) (h : k = gs.length) (h' : k < (gs ++ [(2 * (n + gs.length + 1), p, q)]).length), (gs ++ [(2 * (n + gs.length + 1), p, q)])[k] = (2 * (n + gs.length + 1), p, q) := fun k h h' => by subst h; simp
  refine ⟨G.nn, fun k hk => ?_, fun k hk => ?_, fun j k hj hk e => ?_⟩
  · by_cases hkl : k < gs.length
    · rw [old k hkl hk]; exact G.out k hkl
    · have : k = gs.length := by omega
      rw [new k this hk]; simp only; omega
  · by_cases hkl : k < gs.length
    · rw [old k hkl hk]; exact G.low k hkl
    · have : k = gs.length := by omega
      rw [new k this hk]; simp only; omega
  · by_cases hjl : j < gs.length
    · by_cases hkl : k < gs.length
      · rw [old j hjl hj, old k hkl hk] at e; exact G.one j k hjl hkl e
      · have : k = gs.length := by omega
        rw [old j hjl hj, new k this hk] at e
        exact absurd e (hn _ (List.getElem_mem hjl))
    · have h9 : j = gs.length := by omega
      by_cases hkl : k < gs.length
      · rw [new j h9 hj, old k hkl hk] at e
        exact absurd e.symm (hn _ (List.getElem_mem hkl))
      · omega
/-- What 'and' makes. -/
theorem Gs.andM {n : Int} {gs : List Gate} {x y : Int} (G : Gs n gs) (hx : okM n gs x) (hy : okM n gs y) : Gs n (andM n gs x y).2.2 ∧ gs <+: (andM n gs x y).2.2 := by
  unfold okM at hx hy
  have nn := G.nn
  unfold SC.andM andP
  split
  · exact ⟨G, List.prefix_refl _⟩
  · rename_i h0
    split
    · exact ⟨G, List.prefix_refl _⟩
    · rename_i h1
      split
      · exact ⟨G, List.prefix_refl _⟩
      · rename_i h2
        split
        · exact ⟨G, List.prefix_refl _⟩
        · exact ⟨G.snoc (by omega) (by omega) (by omega) (by omega) (outOf_no gs G.outs h2), List.prefix_append _ _⟩
/-! ### values -/
/-- Values that fit a builder's gates. -/
structure ValG (n : Int) (gs : List Gate) (v : List Bool) : Prop where
  zero : gt v 0 = false
  gate : ∀ (k : Nat) (h : k < gs.length), gt v (n + k + 1) = (lv v gs[k].2.1 && lv v gs[k].2.2)
theorem ValG.pre {n : Int} {gs gs' : List Gate} {v : List Bool} (V : ValG n gs' v) (h : gs <+: gs') : ValG n gs v := by
  obtain ⟨t, rfl⟩ := h
  refine ⟨V.zero, fun k hk => ?_⟩
  have := V.gate k (by rw [List.length_append]; omega)
  rwa [List.getElem_append_left hk] at this
theorem lv_not {v : List Bool} {x : Int} (h : 0 ≤ x) : lv v (notM x) = !lv v x := by
  unfold lv notM
  rcases (show x % 2 = 0 ∨ x % 2 = 1 by omega) with e | e
  · rw [show (x + 1 - 2 * (x % 2)) / 2 = x / 2 by omega, show (x + 1 - 2 * (x % 2)) % 2 = 1 by omega, e]
    simp
  · rw [show (x + 1 - 2 * (x % 2)) / 2 = x / 2 by omega, show (x + 1 - 2 * (x % 2)) % 2 = 0 by omega, e]
    simp
theorem lv_max (v : List Bool) (x y : Int) : (lv v (max x y) && lv v (min x y)) = (lv v x && lv v y) := by
  rcases Int.le_total x y with h | h
  · rw [Int.max_eq_right h, Int.min_eq_left h, Bool.and_comm]
  · rw [Int.max_eq_left h, Int.min_eq_right h]
theorem lv_zero {v : List Bool} (h : gt v 0 = false) : lv v 0 = false := by unfold lv; simp [h]
theorem lv_one {v : List Bool} (h : gt v 0 = false) : lv v 1 = true := by unfold lv; simp [h]
theorem andM_val {n : Int} {gs : List Gate} {x y : Int} {v : List Bool} (G : Gs n gs) (hx : okM n gs x) (hy : okM n gs y) (V : ValG n (andM n gs x y).2.2 v) (he : (andM n gs x y).2.1 = 0) : lv v (andM n gs x y).1 = (lv v x && lv v y) := by
  unfold okM at hx hy
  rw [← lv_max]
  have hq : 0 ≤ min x y := by omega
  have hqp : min x y ≤ max x y := by omega
  unfold andM at V he ⊢
  generalize max x y = p at *
  generalize min x y = q at *
  have z0 := lv_zero V.zero
  have z1 := lv_one V.zero
  unfold andP at V he ⊢
  split
  · rename_i h0
    rcases h0 with rfl | ⟨rfl, h0⟩
    · rw [z0, Bool.and_false]
    · have e := lv_not (v := v) hq
      rw [show notM q = q + 1 by unfold notM; omega] at e
      simp only
      rw [z0, e]
      simp
  · rename_i h0
    rw [if_neg h0] at V he
    split
    · rename_i h1
      rcases h1 with rfl | rfl
      · simp only; rw [z1, Bool.and_true]
      · simp
    · rename_i h1
      rw [if_neg h1] at V he
      split
      · rename_i h2
        rw [if_pos h2] at V
        obtain ⟨k, hk, e1, e2⟩ := outOf_at gs h2
        have g1 := V.gate k hk
        have g2 := G.out k hk
        rw [e1] at g1
        simp only
        rw [e2, g2, lv_even (by omega), show (2 * (n + (k : Int)) + 2) / 2 = n + k + 1 by omega, g1]
      · rename_i h2
        rw [if_neg h2] at V he
        split
        · rename_i h3
          rw [if_pos h3] at he
          cases he
        · rename_i h3
          rw [if_neg h3] at V
          have g1 := V.gate gs.length (by simp)
          simp only [List.getElem_concat_length] at g1
          simp only
          rw [lv_even (by omega), show 2 * (n + (gs.length : Int) + 1) / 2 = n + gs.length + 1 by omega, g1]
end SC
end Go.Proofs.Yticndofcfacopaa
end
section
/- The builder of hash: its memory; what each of its functions does. -/
set_option linter.unusedVariables false
set_option linter.unusedSimpArgs false
namespace Go.Proofs.Yticndofcfacopaa
namespace SC
open Go.Proofs Go.Maps
attribute [local irreducible] WC WL WX WS WO OX Does DoesU Enters CV Pure thenQ blockQ retQ Wants
set_option maxRecDepth 100000
theorem mixedB : Try.prog.follows .mixedOrders = true := by kernel_rfl
abbrev ptr (g : Nat) : Value := .pointer (some ⟨g, 0, none⟩)
abbrev num (a : Int) : Value := .int .i64 a
/-- What is owned before and behind: only new blocks come in. -/
structure Step (w : World) (S : Nat → Prop) (w' : World) (S' : Nat → Prop) : Prop where
  chg : Chg w w' S
  new : ∀ k, S' k → S k ∨ (w.heap.size ≤ k ∧ k < w'.heap.size)
theorem Step.refl (w : World) (S : Nat → Prop) : Step w S w S := ⟨Chg.refl w S, fun k h => .inl h⟩
theorem Step.trans {w w1 w2 : World} {S S1 S2 : Nat → Prop} (h : Step w S w1 S1) (h' : Step w1 S1 w2 S2) : Step w S w2 S2 :=
  ⟨h.chg.trans h'.chg fun k hk h1 => (h.new k h1).elim id (fun hh => absurd hh.1 (by omega)), fun k hk => by
    rcases h'.new k hk with h1 | h1
    · rcases h.new k h1 with h2 | h2
      · exact .inl h2
      · exact .inr ⟨h2.1, Nat.lt_of_lt_of_le h2.2 h'.chg.size⟩
    · exact .inr ⟨Nat.le_trans h.chg.size h1.1, h1.2⟩⟩
theorem Step.of_chg {w w' : World} {S : Nat → Prop} (h : Chg w w' S) : Step w S w' S := ⟨h, fun k h => .inl h⟩
theorem row_chg {w w' : World} {v : Value} {n : Nat} {e : TypeId} {sz : Nat} {xs : List Value} {T : Nat → Prop} (h : w.ownsRow 0 e sz v n xs) (hc : Chg w w' T) (hn : ∀ k, v.ownBlock = some k → ¬ T k) : w'.ownsRow 0 e sz v n xs := by
  obtain ⟨h1, h2⟩ := h
  refine ⟨h1, ?_⟩
  rcases h2 with h2 | ⟨g, cap, cur, rfl, hb, hg, rest⟩
  · exact .inl h2
  · exact .inr ⟨g, cap, cur, rfl, hb, (hc.block g (Array.getElem?_eq_some_iff.1 hg).1 (hn g rfl)).trans hg, rest⟩
theorem row_apart {w : World} {v : Value} {n : Nat} {e : TypeId} {sz : Nat} {xs : List Value} {g : Nat} {t : TypeId} {cs : List Value} (h : w.ownsRow 0 e sz v n xs) (hb : Blk w g t cs) (hne : t ≠ e) : v.ownBlock ≠ some g := by
  rcases h.2 with ⟨rfl, _⟩ | ⟨g', cap, cur, rfl, _, hg, _⟩
  · simp [Value.ownBlock]
  · intro hh
    simp only [Value.ownBlock, Option.some.injEq] at hh
    subst hh
    unfold Blk at hb
    rw [hg] at hb
    simp at hb
    exact hne hb.2.symm
theorem map_apart {w : World} {m N : Nat} {f : Int → Int → Int} {g : Nat} {t : TypeId} {cs : List Value} (h : MapHas w m N f) (hb : Blk w g t cs) : m ≠ g := by
  rintro rfl
  obtain ⟨D, ⟨es, clock, h1, _⟩, _⟩ := h
  unfold Blk at hb
  rw [h1] at hb
  cases hb
theorem map_row {w : World} {m N : Nat} {f : Int → Int → Int} {v : Value} {n : Nat} {e : TypeId} {sz : Nat} {xs : List Value} (h : MapHas w m N f) (hr : w.ownsRow 0 e sz v n xs) : v.ownBlock ≠ some m := by
  rcases hr.2 with ⟨rfl, _⟩ | ⟨g', cap, cur, rfl, _, hg, _⟩
  · simp [Value.ownBlock]
  · intro hh
    simp only [Value.ownBlock, Option.some.injEq] at hh
    subst hh
    obtain ⟨D, ⟨es, clock, h1, _⟩, _⟩ := h
    rw [h1] at hg
    cases hg
/-- The parts of a builder. -/
structure Parts (w : World) (g : Nat) (S : Nat → Prop) (i l : Int) (gs : List Gate) (v : Value) (m : Nat) : Prop where
  head : Blk w g 101 [num i, num l, v, .map (some m)]
  row : w.ownsRow 0 57 3 v gs.length (flat gs)
  map : MapHas w m gs.length (outOf gs)
  hg : S g
  hm : S m
  hv : ∀ k, v.ownBlock = some k → S k
  lt : ∀ k, S k → k < w.heap.size
theorem Parts.drew {w : World} {g : Nat} {S : Nat → Prop} {i l : Int} {gs : List Gate} {v : Value} {m : Nat} (h : Parts w g S i l gs v m) : Parts w.drew g S i l gs v m := ⟨h.head, h.row, h.map, h.hg, h.hm, h.hv, h.lt⟩
def Bld (w : World) (g : Nat) (S : Nat → Prop) (i l : Int) (gs : List Gate) : Prop := ∃ v m, Parts w g S i l gs v m
theorem Parts.chg {w w' : World} {g : Nat} {S : Nat → Prop} {i l : Int} {gs : List Gate} {v : Value} {m : Nat} (h : Parts w g S i l gs v m) {T : Nat → Prop} (hc : Chg w w' T) (hd : ∀ k, S k → ¬ T k) : Parts w' g S i l gs v m :=
  ⟨h.head.chg hc (hd _ h.hg), row_chg h.row hc fun k hk => hd k (h.hv k hk), h.map.chg hc (hd _ h.hm), h.hg, h.hm, h.hv, fun k hk => Nat.lt_of_lt_of_le (h.lt k hk) hc.size⟩
theorem Bld.chg {w w' : World} {g : Nat} {S : Nat → Prop} {i l : Int} {gs : List Gate} (h : Bld w g S i l gs) {T : Nat → Prop} (hc : Chg w w' T) (hd : ∀ k, S k → ¬ T k) : Bld w' g S i l gs := by
  obtain ⟨v, m, h⟩ := h
  exact ⟨v, m, h.chg hc hd⟩
theorem Parts.alloc {w : World} {g : Nat} {S : Nat → Prop} {i l : Int} {gs : List Gate} {v : Value} {m : Nat} (o : Obj) (h : Parts w g S i l gs v m) : Parts (w.alloc o) g S i l gs v m := h.chg (Chg.alloc w o none_) fun _ _ => id
/-- The row's value as a slice. -/
theorem row_form {w : World} {v : Value} {n : Nat} {e : TypeId} {sz : Nat} {xs : List Value} (h : w.ownsRow 0 e sz v n xs) : ∃ A c, v = .slice A n c := by
  rcases h.2 with ⟨rfl, rfl⟩ | ⟨g', cap, cur, rfl, _⟩
  · exact ⟨_, _, rfl⟩
  · exact ⟨_, _, rfl⟩
theorem greatest_cv {w : World} {g : Nat} {i l : Int} {A : Option Addr} {n c : Nat} {m : Value}
   (hb : Blk w g 101 [num i, num l, .slice A n c, m]) (hi : 0 ≤ i) (hl : 0 ≤ l) (hn : i + l + n ≤ 16384) :
    CV Try.prog 71 [ptr g] w fun v w' => v = num (i + l + n) ∧ w' = w.drew := by
  refine enter 18 [2] Try.func71 rfl rfl rfl (by decide) rfl ?_
  repeat' (first
 | (apply WC_seqK; intro K hK)
 | (apply hK; clear hK)
 | (clear hK; apply hK; clear hK)
 | (clear hK; clear hK; apply hK; clear hK)
 | (clear hK; clear hK; clear hK; apply hK; clear hK)
 | (apply WC_block)
 | (apply WC_region)
 | (apply WL_nil)
 | (apply thenQ_normal)
 | (apply thenQ_ret)
 | (apply thenQ_exit)
 | (apply blockQ_hit)
 | (apply blockQ_miss; eq_refl)
 | (apply blockQ_ret)
 | (apply blockQ_normal)
 | (apply WC_ret)
 | (apply WC_exit)
 | (apply WC_skip)
 | (apply WC_label)
 | (apply WC_if_true; eq_refl)
 | (apply WC_if_false; eq_refl)
 | (apply ret1; eq_refl)
 | (apply ret2; eq_refl; eq_refl)
 | (apply ret3; eq_refl; eq_refl; eq_refl)
 | (apply ret0)
 | (apply ret0n)
 | (apply WL_on0; eq_refl)
 | (apply WL_onG; eq_refl; eq_refl; eq_refl; eq_refl)
 | (apply WL_noG; eq_refl; eq_refl; eq_refl; eq_refl)
 | (apply X_pv; eq_refl; first | exact trivial | omega)
 | (apply X_field; eq_refl)
 | (apply X_loadR; eq_refl; (first | assumption | (apply Blk.alloc; assumption) | apply Blk.new | apply Blk.newA | (apply Blk.alloc; first | apply Blk.newA | (apply Blk.alloc; first | assumption | apply Blk.newA))); eq_refl)
 | (apply X_loadW; eq_refl; (first | assumption | (apply Blk.alloc; assumption) | apply Blk.new | apply Blk.newA | (apply Blk.alloc; first | apply Blk.newA | (apply Blk.alloc; first | assumption | apply Blk.newA))); eq_refl)
 | (apply X_loadC; eq_refl; (first | assumption | (apply cel; first | assumption | (apply cel; assumption))))
 | (apply X_cmpT; eq_refl; eq_refl; omega)
 | (apply X_cmpF; eq_refl; eq_refl; omega)
 | (apply X_cmp; eq_refl; eq_refl; all_goals intro _)
 | (apply X_len; eq_refl)
 | (apply X_lenS; eq_refl)
 | (apply X_index; eq_refl; eq_refl; omega; omega)
 | (apply X_eqB; eq_refl; eq_refl)
 | (apply X_neqB; eq_refl; eq_refl)
 | (apply X_eqP; eq_refl; eq_refl)
 | (apply X_eqL; eq_refl; eq_refl)
 | (apply X_max; eq_refl; eq_refl)
 | (apply X_min; eq_refl; eq_refl)
 | (apply X_cap; eq_refl)
 | (apply X_alloc)
 | (apply X_box; eq_refl)
 | (apply X_makeMap))
  refine WC_draws [(0, true), (1, true), (2, true), (3, true), (4, true), (5, true), (6, true), (7, true), (8, true), (9, true), (10, true), (11, true), (12, true), (13, true), (14, true), (15, true)] (fun w => Blk w g 101 [num i, num l, .slice A n c, m]) mixedB (by kernel_rfl) (by kernel_rfl) ?_
  have hS : Blk w.drew g 101 [num i, num l, .slice A n c, m] := hb
  repeat' (first
 | (apply WC_seqK; intro K hK)
 | (apply hK; clear hK)
 | (clear hK; apply hK; clear hK)
 | (clear hK; clear hK; apply hK; clear hK)
 | (clear hK; clear hK; clear hK; apply hK; clear hK)
 | (apply WC_block)
 | (apply WC_region)
 | (apply WL_nil)
 | (apply thenQ_normal)
 | (apply thenQ_ret)
 | (apply thenQ_exit)
 | (apply blockQ_hit)
 | (apply blockQ_miss; eq_refl)
 | (apply blockQ_ret)
 | (apply blockQ_normal)
 | (apply WC_ret)
 | (apply WC_exit)
 | (apply WC_skip)
 | (apply WC_label)
 | (apply WC_if_true; eq_refl)
 | (apply WC_if_false; eq_refl)
 | (apply ret1; eq_refl)
 | (apply ret2; eq_refl; eq_refl)
 | (apply ret3; eq_refl; eq_refl; eq_refl)
 | (apply ret0)
 | (apply ret0n)
 | (apply WS_nil)
 | (apply WS_next; eq_refl)
 | (apply WO_on0; eq_refl)
 | (apply WO_onG; eq_refl; eq_refl; eq_refl; eq_refl)
 | (apply WO_noG; eq_refl; eq_refl; eq_refl; eq_refl; (first | assumption | exact trivial))
 | (apply O_pv; eq_refl; (first | exact trivial | omega); (first | assumption | exact trivial))
 | (apply O_field; eq_refl; (first | assumption | exact trivial))
 | (apply O_loadR; eq_refl; (first | (intro _ h; exact h) | (intro _ h; exact h.1) | (intro _ h; exact h.2) | (intro _ h; exact h.2.1) | (intro _ h; exact h.2.2) | (intro _ h; exact h.2.2.1) | (intro _ h; exact h.2.2.2)); eq_refl; (first | assumption | exact trivial))
 | (apply O_loadW; eq_refl; (first | (intro _ h; exact h) | (intro _ h; exact h.1) | (intro _ h; exact h.2) | (intro _ h; exact h.2.1) | (intro _ h; exact h.2.2) | (intro _ h; exact h.2.2.1) | (intro _ h; exact h.2.2.2)); eq_refl; (first | assumption | exact trivial))
 | (apply O_loadC; eq_refl; (first | (intro _ h; exact h) | (intro _ h; exact h.1) | (intro _ h; exact h.2) | (intro _ h; exact h.2.1) | (intro _ h; exact h.2.2) | (intro _ h; exact h.2.2.1) | (intro _ h; exact h.2.2.2)); (first | assumption | exact trivial))
 | (apply O_cmpT; eq_refl; eq_refl; omega; (first | assumption | exact trivial))
 | (apply O_cmpF; eq_refl; eq_refl; omega; (first | assumption | exact trivial))
 | (apply O_cmp; eq_refl; eq_refl; (first | assumption | exact trivial); all_goals intro _)
 | (apply O_len; eq_refl; (first | assumption | exact trivial))
 | (apply O_lenS; eq_refl; (first | assumption | exact trivial))
 | (apply O_index; eq_refl; eq_refl; omega; omega; (first | assumption | exact trivial))
 | (apply O_eqB; eq_refl; eq_refl; (first | assumption | exact trivial))
 | (apply O_neqB; eq_refl; eq_refl; (first | assumption | exact trivial))
 | (apply O_pvL; eq_refl; (first | exact trivial | omega); (first | (intro _; assumption) | exact lo (by kernel_rfl)))
 | (apply WL_on0; eq_refl)
 | (apply WL_onG; eq_refl; eq_refl; eq_refl; eq_refl)
 | (apply WL_noG; eq_refl; eq_refl; eq_refl; eq_refl)
 | (apply X_pv; eq_refl; first | exact trivial | omega)
 | (apply X_field; eq_refl)
 | (apply X_loadR; eq_refl; (first | assumption | (apply Blk.alloc; assumption) | apply Blk.new | apply Blk.newA | (apply Blk.alloc; first | apply Blk.newA | (apply Blk.alloc; first | assumption | apply Blk.newA))); eq_refl)
 | (apply X_loadW; eq_refl; (first | assumption | (apply Blk.alloc; assumption) | apply Blk.new | apply Blk.newA | (apply Blk.alloc; first | apply Blk.newA | (apply Blk.alloc; first | assumption | apply Blk.newA))); eq_refl)
 | (apply X_loadC; eq_refl; (first | assumption | (apply cel; first | assumption | (apply cel; assumption))))
 | (apply X_cmpT; eq_refl; eq_refl; omega)
 | (apply X_cmpF; eq_refl; eq_refl; omega)
 | (apply X_cmp; eq_refl; eq_refl; all_goals intro _)
 | (apply X_len; eq_refl)
 | (apply X_lenS; eq_refl)
 | (apply X_index; eq_refl; eq_refl; omega; omega)
 | (apply X_eqB; eq_refl; eq_refl)
 | (apply X_neqB; eq_refl; eq_refl)
 | (apply X_eqP; eq_refl; eq_refl)
 | (apply X_eqL; eq_refl; eq_refl)
 | (apply X_max; eq_refl; eq_refl)
 | (apply X_min; eq_refl; eq_refl)
 | (apply X_cap; eq_refl)
 | (apply X_alloc)
 | (apply X_box; eq_refl)
 | (apply X_makeMap))
  exact ⟨rfl, rfl⟩
theorem eq168 {e : Env} {x y : Operand} {ty : TypeId} {p q p' q' : Int} (h : ev e x = some (.agg #[num p, num q])) (h1 : ev e y = some (.agg #[num p', num q'])) (c : Bool) (hc : decide (p = p' ∧ q = q') = c) (hp : fits p) (hq : fits q) (hp' : fits p') (hq' : fits q') :
    Pure Try.prog (.binOp .eql 145 x y 145) ty e (.bool c) := by
  subst hc
  unfold Pure Does
  intro w ρ dst pos af g hρ
  obtain ⟨r, h2, h3⟩ := run_equal_deep (P := Try.prog) w (m := 2) (by decide) (k := 145) (by kernel_rfl) wide168 (key168 hp hq) (key168 hp' hq')
  have : r = decide (p = p' ∧ q = q') := by
    rw [Bool.eq_iff_iff, h3, decide_eq_true_iff]
    exact ⟨fun hh => kl_inj hp hq hp' hq' hh, fun hh => by rw [hh.1, hh.2]⟩
  subst this
  simp [execOp, hρ _ _ h, hρ _ _ h1, eqGuard, binOp, h2]
section
variable {n : Nat} {all rest : List Oper} {K : Env → World → Prop} {e : Env} {w : World} {d : Option Tmp} {ty : TypeId} {pos : String} {af : Array Edge} {g : Option (Nat × Bool)} {x y : Operand} {p q p' q' : Int}
theorem X_if168 (h : ev e x = some (.agg #[num p, num q])) (h1 : ev e y = some (.agg #[num p', num q'])) (hp : fits p) (hq : fits q) (hp' : fits p') (hq' : fits q') (ht : p = p' ∧ q = q' → WL Try.prog n all K rest (push d (.bool true) e) w) (hf : ¬ (p = p' ∧ q = q') → WL Try.prog n all K rest (push d (.bool false) e) w) :
    WX Try.prog n all K rest d (.binOp .eql 145 x y 145) ty e w := by
  by_cases hc : p = p' ∧ q = q'
  · exact X_pure (eq168 h h1 true (decide_eq_true hc) hp hq hp' hq') (ht hc)
  · exact X_pure (eq168 h h1 false (decide_eq_false hc) hp hq hp' hq') (hf hc)
end
section
variable {P : Program} {n : Nat} {all : List Oper} {K : Env → World → Prop} {S : World → Prop} {r : List (Nat × Bool)} {i : Nat} {e : Env} {w : World} {d : Option Tmp} {ty : TypeId} {x y z : Operand}
theorem O_updateG {b N : Nat} {f : Int → Int → Int} {p q v : Int} (h : ev e x = some (.map (some b))) (h1 : ev e y = some (.agg #[num p, num q])) (h2 : ev e z = some (num v)) (hm : MapHas w b N f) (hp : fits p) (hq : fits q) (hv : fits v) (hN : N < maxLen)
    (hr : ∀ w', MapHas w' b (N + 1) (fun p' q' => if p' = p ∧ q' = q then v else f p' q') → Chg w w' (fun k => k = b) → (loose .any all.toArray i = false → S w') ∧ WS Try.prog n all S K r (push d undef e) w') :
    OX Try.prog n all S K i false r d (.mapUpdate 99 x y z) ty e w := by
  obtain ⟨w', hd, h3, h4⟩ := does_updateG (ty := ty) h h1 h2 hm hp hq hv hN
  exact O_doesU hd (hr w' h3 h4).1 (hr w' h3 h4).2
end
instance (a : Int) : Decidable (fits a) := by unfold fits; infer_instance
/-- What 'and' answers, behind a world that may be another one. -/
def After (w : World) (g : Nat) (S : Nat → Prop) (i l : Int) (r : Int × Int × List Gate) (v : Value) (w' : World) : Prop :=
  v = .tuple #[num r.1, num r.2.1] ∧ ∃ S', Bld w' g S' i l r.2.2 ∧ Step w S w' S'
theorem After.same {w w' : World} {g : Nat} {S : Nat → Prop} {i l a b : Int} {gs : List Gate} {r : Int × Int × List Gate} (h : Bld w' g S i l gs) (hc : Chg w w' S) (hr : r = (a, b, gs)) : After w g S i l r (.tuple #[num a, num b]) w' := by
  subst hr
  exact ⟨rfl, S, h, Step.of_chg hc⟩
theorem and_cv {w : World} {g : Nat} {S : Nat → Prop} {i l : Int} {gs : List Gate} {x y : Int} (hB : Bld w g S i l gs) (hi : 0 ≤ i) (hl : 0 ≤ l) (hI : Inv (i + l) gs) (hx : okM (i + l) gs x) (hy : okM (i + l) gs y) :
    CV Try.prog 69 [ptr g, num x, num y] w (After w g S i l (andM (i + l) gs x y)) := by
  obtain ⟨v, m, hB⟩ := hB
  obtain ⟨A, c, rfl⟩ := row_form hB.row
  have hx' := hx; have hy' := hy
  unfold okM at hx' hy'
  have htop := hI.top
  have hlt := hB.lt
  show CV _ _ _ _ (After w g S i l (andP (i + l) gs (max x y) (min x y)))
  refine enter 99 [6, 7] Try.func69 rfl rfl rfl (by decide) rfl ?_
  repeat' (first
 | (apply WC_seqK; intro K hK)
 | (apply hK; clear hK)
 | (clear hK; apply hK; clear hK)
 | (clear hK; clear hK; apply hK; clear hK)
 | (clear hK; clear hK; clear hK; apply hK; clear hK)
 | (apply WC_block)
 | (apply WC_region)
 | (apply WL_nil)
 | (apply thenQ_normal)
 | (apply thenQ_ret)
 | (apply thenQ_exit)
 | (apply blockQ_hit)
 | (apply blockQ_miss; eq_refl)
 | (apply blockQ_ret)
 | (apply blockQ_normal)
 | (apply WC_ret)
 | (apply WC_exit)
 | (apply WC_skip)
 | (apply WC_label)
 | (apply WC_if_true; eq_refl)
 | (apply WC_if_false; eq_refl)
 | (apply ret1; eq_refl)
 | (apply ret2; eq_refl; eq_refl)
 | (apply ret3; eq_refl; eq_refl; eq_refl)
 | (apply ret0)
 | (apply ret0n)
 | (apply WL_on0; eq_refl)
 | (apply WL_onG; eq_refl; eq_refl; eq_refl; eq_refl)
 | (apply WL_noG; eq_refl; eq_refl; eq_refl; eq_refl)
 | (apply X_pv; eq_refl; first | exact trivial | omega)
 | (apply X_field; eq_refl)
 | (apply X_loadR; eq_refl; (first | assumption | (apply Blk.alloc; assumption) | apply Blk.new | apply Blk.newA | (apply Blk.alloc; first | apply Blk.newA | (apply Blk.alloc; first | assumption | apply Blk.newA))); eq_refl)
 | (apply X_loadW; eq_refl; (first | assumption | (apply Blk.alloc; assumption) | apply Blk.new | apply Blk.newA | (apply Blk.alloc; first | apply Blk.newA | (apply Blk.alloc; first | assumption | apply Blk.newA))); eq_refl)
 | (apply X_loadC; eq_refl; (first | assumption | (apply cel; first | assumption | (apply cel; assumption))))
 | (apply X_cmpT; eq_refl; eq_refl; omega)
 | (apply X_cmpF; eq_refl; eq_refl; omega)
 | (apply X_cmp; eq_refl; eq_refl; all_goals intro _)
 | (apply X_len; eq_refl)
 | (apply X_lenS; eq_refl)
 | (apply X_index; eq_refl; eq_refl; omega; omega)
 | (apply X_eqB; eq_refl; eq_refl)
 | (apply X_neqB; eq_refl; eq_refl)
 | (apply X_eqP; eq_refl; eq_refl)
 | (apply X_eqL; eq_refl; eq_refl)
 | (apply X_max; eq_refl; eq_refl)
 | (apply X_min; eq_refl; eq_refl)
 | (apply X_cap; eq_refl)
 | (apply X_alloc)
 | (apply X_box; eq_refl)
 | (apply X_makeMap)
 | (apply X_pure; apply build145_0_1 <;> eq_refl)
 | (apply X_pure; apply build145_)
 | (apply X_pure; apply build57_0_1_2 <;> eq_refl)
 | (apply X_does; apply buildS25_1 <;> eq_refl))
  refine X_doesU (does_storeA (vs := [num (max x y), num (min x y)]) (o := 0) (b := w.heap.size) rfl rfl (Blk.newA w _ _) rfl (by exact Nat.le_refl 2) (by simp [Value.oneCell'])) ?_
  refine WL_turn (fun w1 => Parts w1 g S i l gs (.slice A gs.length c) m ∧ Blk w1 w.heap.size 145 [num (max x y), num (min x y)] ∧ Chg w w1 none_ ∧ w1.heap.size = w.heap.size + 1) ?_ ?_
  · have hne : ∀ k, S k → ¬ k = w.heap.size := fun k hk => by have := hlt k hk; omega
    exact ⟨(hB.alloc _).chg (Chg.setRow _ w.heap.size _ (S := fun k => k = w.heap.size) rfl) hne, (Blk.newA w _ 145).set [num (max x y), num (min x y)], (Chg.alloc w _ none_).trans (Chg.setRow _ w.heap.size _ (S := fun k => k = w.heap.size) rfl) fun k hk h => by omega, by simp [World.setRow]⟩
  rintro w1 ⟨hB1, hP1, hC1, hz1⟩
  have hpq : min x y ≤ max x y := by omega
  have hq0 : 0 ≤ min x y := by omega
  have hp1 : max x y ≤ 32769 := by omega
  generalize max x y = p at *
  generalize min x y = q at *
  have hp : fits p := by unfold fits; omega
  have hq : fits q := by unfold fits; omega
  clear hx' hy' hx hy
  repeat' (first
 | (apply X_if168; eq_refl; eq_refl; (first | assumption | decide); (first | assumption | decide); (first | assumption | decide); (first | assumption | decide); all_goals intro _)
 | (apply WC_seqK; intro K hK)
 | (apply hK; clear hK)
 | (clear hK; apply hK; clear hK)
 | (clear hK; clear hK; apply hK; clear hK)
 | (clear hK; clear hK; clear hK; apply hK; clear hK)
 | (apply WC_block)
 | (apply WC_region)
 | (apply WL_nil)
 | (apply thenQ_normal)
 | (apply thenQ_ret)
 | (apply thenQ_exit)
 | (apply blockQ_hit)
 | (apply blockQ_miss; eq_refl)
 | (apply blockQ_ret)
 | (apply blockQ_normal)
 | (apply WC_ret)
 | (apply WC_exit)
 | (apply WC_skip)
 | (apply WC_label)
 | (apply WC_if_true; eq_refl)
 | (apply WC_if_false; eq_refl)
 | (apply ret1; eq_refl)
 | (apply ret2; eq_refl; eq_refl)
 | (apply ret3; eq_refl; eq_refl; eq_refl)
 | (apply ret0)
 | (apply ret0n)
 | (apply WL_on0; eq_refl)
 | (apply WL_onG; eq_refl; eq_refl; eq_refl; eq_refl)
 | (apply WL_noG; eq_refl; eq_refl; eq_refl; eq_refl)
 | (apply X_pv; eq_refl; first | exact trivial | omega)
 | (apply X_field; eq_refl)
 | (apply X_loadR; eq_refl; (first | assumption | (apply Blk.alloc; assumption) | apply Blk.new | apply Blk.newA | (apply Blk.alloc; first | apply Blk.newA | (apply Blk.alloc; first | assumption | apply Blk.newA))); eq_refl)
 | (apply X_loadW; eq_refl; (first | assumption | (apply Blk.alloc; assumption) | apply Blk.new | apply Blk.newA | (apply Blk.alloc; first | apply Blk.newA | (apply Blk.alloc; first | assumption | apply Blk.newA))); eq_refl)
 | (apply X_loadC; eq_refl; (first | assumption | (apply cel; first | assumption | (apply cel; assumption))))
 | (apply X_cmpT; eq_refl; eq_refl; omega)
 | (apply X_cmpF; eq_refl; eq_refl; omega)
 | (apply X_cmp; eq_refl; eq_refl; all_goals intro _)
 | (apply X_len; eq_refl)
 | (apply X_lenS; eq_refl)
 | (apply X_index; eq_refl; eq_refl; omega; omega)
 | (apply X_eqB; eq_refl; eq_refl)
 | (apply X_neqB; eq_refl; eq_refl)
 | (apply X_eqP; eq_refl; eq_refl)
 | (apply X_eqL; eq_refl; eq_refl)
 | (apply X_max; eq_refl; eq_refl)
 | (apply X_min; eq_refl; eq_refl)
 | (apply X_cap; eq_refl)
 | (apply X_alloc)
 | (apply X_box; eq_refl)
 | (apply X_makeMap)
 | (apply X_pure; apply build145_0_1 <;> eq_refl)
 | (apply X_pure; apply build145_)
 | (apply X_pure; apply build57_0_1_2 <;> eq_refl)
 | (apply X_does; apply buildS25_1 <;> eq_refl))
  any_goals (exact After.same ⟨_, _, hB1⟩ (hC1.mono fun _ h => h.elim) (by first | exact andP_zero (by omega) | exact andP_same (by omega) (by omega)))
  have hH1 := hB1.head
  have hm1 := hB1.map
  refine WC_draws [(0, true), (1, true), (2, true), (3, true), (4, true), (5, true), (6, true)] (fun w1 => Blk w1 g 101 [num i, num l, .slice A gs.length c, .map (some m)] ∧ Blk w1 w.heap.size 145 [num p, num q] ∧ MapHas w1 m gs.length (outOf gs)) mixedB (by kernel_rfl) (by kernel_rfl) ?_
  have hS : Blk w1.drew g 101 [num i, num l, .slice A gs.length c, .map (some m)] ∧ Blk w1.drew w.heap.size 145 [num p, num q] ∧ MapHas w1.drew m gs.length (outOf gs) := ⟨hH1, hP1, hm1⟩
  repeat' (first
 | (apply O_quiet; (intro w h; apply does_lookupG; eq_refl; eq_refl; exact h.2.2; assumption; assumption); assumption)
 | (apply X_fn; eq_refl; (apply greatest_cv; assumption; assumption; assumption; assumption); rintro _ _ ⟨rfl, rfl⟩)
 | (apply WC_seqK; intro K hK)
 | (apply hK; clear hK)
 | (clear hK; apply hK; clear hK)
 | (clear hK; clear hK; apply hK; clear hK)
 | (clear hK; clear hK; clear hK; apply hK; clear hK)
 | (apply WC_block)
 | (apply WC_region)
 | (apply WL_nil)
 | (apply thenQ_normal)
 | (apply thenQ_ret)
 | (apply thenQ_exit)
 | (apply blockQ_hit)
 | (apply blockQ_miss; eq_refl)
 | (apply blockQ_ret)
 | (apply blockQ_normal)
 | (apply WC_ret)
 | (apply WC_exit)
 | (apply WC_skip)
 | (apply WC_label)
 | (apply WC_if_true; eq_refl)
 | (apply WC_if_false; eq_refl)
 | (apply ret1; eq_refl)
 | (apply ret2; eq_refl; eq_refl)
 | (apply ret3; eq_refl; eq_refl; eq_refl)
 | (apply ret0)
 | (apply ret0n)
 | (apply WS_nil)
 | (apply WS_next; eq_refl)
 | (apply WO_on0; eq_refl)
 | (apply WO_onG; eq_refl; eq_refl; eq_refl; eq_refl)
 | (apply WO_noG; eq_refl; eq_refl; eq_refl; eq_refl; (first | assumption | exact trivial))
 | (apply O_pv; eq_refl; (first | exact trivial | omega); (first | assumption | exact trivial))
 | (apply O_field; eq_refl; (first | assumption | exact trivial))
 | (apply O_loadR; eq_refl; (first | (intro _ h; exact h) | (intro _ h; exact h.1) | (intro _ h; exact h.2) | (intro _ h; exact h.2.1) | (intro _ h; exact h.2.2) | (intro _ h; exact h.2.2.1) | (intro _ h; exact h.2.2.2)); eq_refl; (first | assumption | exact trivial))
 | (apply O_loadW; eq_refl; (first | (intro _ h; exact h) | (intro _ h; exact h.1) | (intro _ h; exact h.2) | (intro _ h; exact h.2.1) | (intro _ h; exact h.2.2) | (intro _ h; exact h.2.2.1) | (intro _ h; exact h.2.2.2)); eq_refl; (first | assumption | exact trivial))
 | (apply O_loadC; eq_refl; (first | (intro _ h; exact h) | (intro _ h; exact h.1) | (intro _ h; exact h.2) | (intro _ h; exact h.2.1) | (intro _ h; exact h.2.2) | (intro _ h; exact h.2.2.1) | (intro _ h; exact h.2.2.2)); (first | assumption | exact trivial))
 | (apply O_cmpT; eq_refl; eq_refl; omega; (first | assumption | exact trivial))
 | (apply O_cmpF; eq_refl; eq_refl; omega; (first | assumption | exact trivial))
 | (apply O_cmp; eq_refl; eq_refl; (first | assumption | exact trivial); all_goals intro _)
 | (apply O_len; eq_refl; (first | assumption | exact trivial))
 | (apply O_lenS; eq_refl; (first | assumption | exact trivial))
 | (apply O_index; eq_refl; eq_refl; omega; omega; (first | assumption | exact trivial))
 | (apply O_eqB; eq_refl; eq_refl; (first | assumption | exact trivial))
 | (apply O_neqB; eq_refl; eq_refl; (first | assumption | exact trivial))
 | (apply O_pvL; eq_refl; (first | exact trivial | omega); (first | (intro _; assumption) | exact lo (by kernel_rfl)))
 | (apply O_pure; apply build145_0_1 <;> eq_refl; (first | assumption | exact trivial))
 | (apply O_pure; apply build145_; (first | assumption | exact trivial))
 | (apply O_pure; apply build57_0_1_2 <;> eq_refl; (first | assumption | exact trivial))
 | (apply WL_on0; eq_refl)
 | (apply WL_onG; eq_refl; eq_refl; eq_refl; eq_refl)
 | (apply WL_noG; eq_refl; eq_refl; eq_refl; eq_refl)
 | (apply X_pv; eq_refl; first | exact trivial | omega)
 | (apply X_field; eq_refl)
 | (apply X_loadR; eq_refl; (first | assumption | (apply Blk.alloc; assumption) | apply Blk.new | apply Blk.newA | (apply Blk.alloc; first | apply Blk.newA | (apply Blk.alloc; first | assumption | apply Blk.newA))); eq_refl)
 | (apply X_loadW; eq_refl; (first | assumption | (apply Blk.alloc; assumption) | apply Blk.new | apply Blk.newA | (apply Blk.alloc; first | apply Blk.newA | (apply Blk.alloc; first | assumption | apply Blk.newA))); eq_refl)
 | (apply X_loadC; eq_refl; (first | assumption | (apply cel; first | assumption | (apply cel; assumption))))
 | (apply X_cmpT; eq_refl; eq_refl; omega)
 | (apply X_cmpF; eq_refl; eq_refl; omega)
 | (apply X_cmp; eq_refl; eq_refl; all_goals intro _)
 | (apply X_len; eq_refl)
 | (apply X_lenS; eq_refl)
 | (apply X_index; eq_refl; eq_refl; omega; omega)
 | (apply X_eqB; eq_refl; eq_refl)
 | (apply X_neqB; eq_refl; eq_refl)
 | (apply X_eqP; eq_refl; eq_refl)
 | (apply X_eqL; eq_refl; eq_refl)
 | (apply X_max; eq_refl; eq_refl)
 | (apply X_min; eq_refl; eq_refl)
 | (apply X_cap; eq_refl)
 | (apply X_alloc)
 | (apply X_box; eq_refl)
 | (apply X_makeMap)
 | (apply X_pure; apply build145_0_1 <;> eq_refl)
 | (apply X_pure; apply build145_)
 | (apply X_pure; apply build57_0_1_2 <;> eq_refl)
 | (apply X_does; apply buildS25_1 <;> eq_refl))
  any_goals (first | exact After.same ⟨_, _, hB1⟩ hC1.any (andP_hit (by omega) (by omega) (by assumption)) | exact After.same ⟨_, _, hB1.drew⟩ hC1.dr.any (andP_hit (by omega) (by omega) (by assumption)) | exact After.same ⟨_, _, hB1.drew.drew⟩ hC1.dr.dr.any (andP_full (by omega) (by omega) (by assumption) (by assumption)))
  refine WC_turn (fun w2 => Parts w2 g S i l gs (.slice A gs.length c) m ∧ Blk w2 w.heap.size 145 [num p, num q] ∧ Chg w w2 none_ ∧ w2.heap.size = w.heap.size + 1) ⟨hB1.drew.drew.drew, hP1, hC1.dr.dr.dr, hz1⟩ ?_
  rintro w2 ⟨hB2, hP2, hC2, hz2⟩
  clear hB1 hP1 hC1 hz1 hS hH1 hm1
  have hH2 := hB2.head
  refine WC_draws [(0, true), (1, true), (2, true), (3, true), (4, true), (5, true), (6, true), (7, true), (8, true), (9, true), (10, true), (11, false), (12, false), (13, true), (14, true), (15, false)] (fun w1 => Blk w1 g 101 [num i, num l, .slice A gs.length c, .map (some m)] ∧ Blk w1 w.heap.size 145 [num p, num q]) mixedB (by kernel_rfl) (by kernel_rfl) ?_
  have hS : Blk w2.drew g 101 [num i, num l, .slice A gs.length c, .map (some m)] ∧ Blk w2.drew w.heap.size 145 [num p, num q] := ⟨hH2, hP2⟩
  repeat' (first
 | (apply WC_seqK; intro K hK)
 | (apply hK; clear hK)
 | (clear hK; apply hK; clear hK)
 | (clear hK; clear hK; apply hK; clear hK)
 | (clear hK; clear hK; clear hK; apply hK; clear hK)
 | (apply WC_block)
 | (apply WC_region)
 | (apply WL_nil)
 | (apply thenQ_normal)
 | (apply thenQ_ret)
 | (apply thenQ_exit)
 | (apply blockQ_hit)
 | (apply blockQ_miss; eq_refl)
 | (apply blockQ_ret)
 | (apply blockQ_normal)
 | (apply WC_ret)
 | (apply WC_exit)
 | (apply WC_skip)
 | (apply WC_label)
 | (apply WC_if_true; eq_refl)
 | (apply WC_if_false; eq_refl)
 | (apply ret1; eq_refl)
 | (apply ret2; eq_refl; eq_refl)
 | (apply ret3; eq_refl; eq_refl; eq_refl)
 | (apply ret0)
 | (apply ret0n)
 | (apply WS_nil)
 | (apply WS_next; eq_refl)
 | (apply WO_on0; eq_refl)
 | (apply WO_onG; eq_refl; eq_refl; eq_refl; eq_refl)
 | (apply WO_noG; eq_refl; eq_refl; eq_refl; eq_refl; (first | assumption | exact trivial))
 | (apply O_pv; eq_refl; (first | exact trivial | omega); (first | assumption | exact trivial))
 | (apply O_field; eq_refl; (first | assumption | exact trivial))
 | (apply O_loadR; eq_refl; (first | (intro _ h; exact h) | (intro _ h; exact h.1) | (intro _ h; exact h.2) | (intro _ h; exact h.2.1) | (intro _ h; exact h.2.2) | (intro _ h; exact h.2.2.1) | (intro _ h; exact h.2.2.2)); eq_refl; (first | assumption | exact trivial))
 | (apply O_loadW; eq_refl; (first | (intro _ h; exact h) | (intro _ h; exact h.1) | (intro _ h; exact h.2) | (intro _ h; exact h.2.1) | (intro _ h; exact h.2.2) | (intro _ h; exact h.2.2.1) | (intro _ h; exact h.2.2.2)); eq_refl; (first | assumption | exact trivial))
 | (apply O_loadC; eq_refl; (first | (intro _ h; exact h) | (intro _ h; exact h.1) | (intro _ h; exact h.2) | (intro _ h; exact h.2.1) | (intro _ h; exact h.2.2) | (intro _ h; exact h.2.2.1) | (intro _ h; exact h.2.2.2)); (first | assumption | exact trivial))
 | (apply O_cmpT; eq_refl; eq_refl; omega; (first | assumption | exact trivial))
 | (apply O_cmpF; eq_refl; eq_refl; omega; (first | assumption | exact trivial))
 | (apply O_cmp; eq_refl; eq_refl; (first | assumption | exact trivial); all_goals intro _)
 | (apply O_len; eq_refl; (first | assumption | exact trivial))
 | (apply O_lenS; eq_refl; (first | assumption | exact trivial))
 | (apply O_index; eq_refl; eq_refl; omega; omega; (first | assumption | exact trivial))
 | (apply O_eqB; eq_refl; eq_refl; (first | assumption | exact trivial))
 | (apply O_neqB; eq_refl; eq_refl; (first | assumption | exact trivial))
 | (apply O_pvL; eq_refl; (first | exact trivial | omega); (first | (intro _; assumption) | exact lo (by kernel_rfl)))
 | (apply O_pure; apply build145_0_1 <;> eq_refl; (first | assumption | exact trivial))
 | (apply O_pure; apply build145_; (first | assumption | exact trivial))
 | (apply O_pure; apply build57_0_1_2 <;> eq_refl; (first | assumption | exact trivial))
 | (apply WL_on0; eq_refl)
 | (apply WL_onG; eq_refl; eq_refl; eq_refl; eq_refl)
 | (apply WL_noG; eq_refl; eq_refl; eq_refl; eq_refl)
 | (apply X_pv; eq_refl; first | exact trivial | omega)
 | (apply X_field; eq_refl)
 | (apply X_loadR; eq_refl; (first | assumption | (apply Blk.alloc; assumption) | apply Blk.new | apply Blk.newA | (apply Blk.alloc; first | apply Blk.newA | (apply Blk.alloc; first | assumption | apply Blk.newA))); eq_refl)
 | (apply X_loadW; eq_refl; (first | assumption | (apply Blk.alloc; assumption) | apply Blk.new | apply Blk.newA | (apply Blk.alloc; first | apply Blk.newA | (apply Blk.alloc; first | assumption | apply Blk.newA))); eq_refl)
 | (apply X_loadC; eq_refl; (first | assumption | (apply cel; first | assumption | (apply cel; assumption))))
 | (apply X_cmpT; eq_refl; eq_refl; omega)
 | (apply X_cmpF; eq_refl; eq_refl; omega)
 | (apply X_cmp; eq_refl; eq_refl; all_goals intro _)
 | (apply X_len; eq_refl)
 | (apply X_lenS; eq_refl)
 | (apply X_index; eq_refl; eq_refl; omega; omega)
 | (apply X_eqB; eq_refl; eq_refl)
 | (apply X_neqB; eq_refl; eq_refl)
 | (apply X_eqP; eq_refl; eq_refl)
 | (apply X_eqL; eq_refl; eq_refl)
 | (apply X_max; eq_refl; eq_refl)
 | (apply X_min; eq_refl; eq_refl)
 | (apply X_cap; eq_refl)
 | (apply X_alloc)
 | (apply X_box; eq_refl)
 | (apply X_makeMap)
 | (apply X_pure; apply build145_0_1 <;> eq_refl)
 | (apply X_pure; apply build145_)
 | (apply X_pure; apply build57_0_1_2 <;> eq_refl)
 | (apply X_does; apply buildS25_1 <;> eq_refl))
  apply O_does
  · apply buildS25_1 <;> eq_refl
  · intro _; exact ⟨hS.1.alloc _, hS.2.alloc _⟩
  refine WS_turn (fun w3 => Parts w3 g S i l gs (.slice A gs.length c) m ∧ Blk w3 w.heap.size 145 [num p, num q] ∧ Chg w w3 none_ ∧ Blk w3 w2.drew.heap.size 57 [num (2 * (i + l + gs.length + 1)), num p, num q] ∧ w3.heap.size = w.heap.size + 2) ⟨hB2.drew.alloc _, hP2.drew.alloc _, hC2.dr.al _, Blk.newA _ _ _, ?_⟩ ?_
  · simp; exact hz2
  rintro w3 ⟨hB3, hP3, hC3, hN3, hz3⟩
  have hH3 := hB3.head
  replace hS : Blk w3 g 101 [num i, num l, .slice A gs.length c, .map (some m)] ∧ Blk w3 w.heap.size 145 [num p, num q] := ⟨hH3, hP3⟩
  repeat' (first
 | (apply WC_seqK; intro K hK)
 | (apply hK; clear hK)
 | (clear hK; apply hK; clear hK)
 | (clear hK; clear hK; apply hK; clear hK)
 | (clear hK; clear hK; clear hK; apply hK; clear hK)
 | (apply WC_block)
 | (apply WC_region)
 | (apply WL_nil)
 | (apply thenQ_normal)
 | (apply thenQ_ret)
 | (apply thenQ_exit)
 | (apply blockQ_hit)
 | (apply blockQ_miss; eq_refl)
 | (apply blockQ_ret)
 | (apply blockQ_normal)
 | (apply WC_ret)
 | (apply WC_exit)
 | (apply WC_skip)
 | (apply WC_label)
 | (apply WC_if_true; eq_refl)
 | (apply WC_if_false; eq_refl)
 | (apply ret1; eq_refl)
 | (apply ret2; eq_refl; eq_refl)
 | (apply ret3; eq_refl; eq_refl; eq_refl)
 | (apply ret0)
 | (apply ret0n)
 | (apply WS_nil)
 | (apply WS_next; eq_refl)
 | (apply WO_on0; eq_refl)
 | (apply WO_onG; eq_refl; eq_refl; eq_refl; eq_refl)
 | (apply WO_noG; eq_refl; eq_refl; eq_refl; eq_refl; (first | assumption | exact trivial))
 | (apply O_pv; eq_refl; (first | exact trivial | omega); (first | assumption | exact trivial))
 | (apply O_field; eq_refl; (first | assumption | exact trivial))
 | (apply O_loadR; eq_refl; (first | (intro _ h; exact h) | (intro _ h; exact h.1) | (intro _ h; exact h.2) | (intro _ h; exact h.2.1) | (intro _ h; exact h.2.2) | (intro _ h; exact h.2.2.1) | (intro _ h; exact h.2.2.2)); eq_refl; (first | assumption | exact trivial))
 | (apply O_loadW; eq_refl; (first | (intro _ h; exact h) | (intro _ h; exact h.1) | (intro _ h; exact h.2) | (intro _ h; exact h.2.1) | (intro _ h; exact h.2.2) | (intro _ h; exact h.2.2.1) | (intro _ h; exact h.2.2.2)); eq_refl; (first | assumption | exact trivial))
 | (apply O_loadC; eq_refl; (first | (intro _ h; exact h) | (intro _ h; exact h.1) | (intro _ h; exact h.2) | (intro _ h; exact h.2.1) | (intro _ h; exact h.2.2) | (intro _ h; exact h.2.2.1) | (intro _ h; exact h.2.2.2)); (first | assumption | exact trivial))
 | (apply O_cmpT; eq_refl; eq_refl; omega; (first | assumption | exact trivial))
 | (apply O_cmpF; eq_refl; eq_refl; omega; (first | assumption | exact trivial))
 | (apply O_cmp; eq_refl; eq_refl; (first | assumption | exact trivial); all_goals intro _)
 | (apply O_len; eq_refl; (first | assumption | exact trivial))
 | (apply O_lenS; eq_refl; (first | assumption | exact trivial))
 | (apply O_index; eq_refl; eq_refl; omega; omega; (first | assumption | exact trivial))
 | (apply O_eqB; eq_refl; eq_refl; (first | assumption | exact trivial))
 | (apply O_neqB; eq_refl; eq_refl; (first | assumption | exact trivial))
 | (apply O_pvL; eq_refl; (first | exact trivial | omega); (first | (intro _; assumption) | exact lo (by kernel_rfl)))
 | (apply O_pure; apply build145_0_1 <;> eq_refl; (first | assumption | exact trivial))
 | (apply O_pure; apply build145_; (first | assumption | exact trivial))
 | (apply O_pure; apply build57_0_1_2 <;> eq_refl; (first | assumption | exact trivial))
 | (apply WL_on0; eq_refl)
 | (apply WL_onG; eq_refl; eq_refl; eq_refl; eq_refl)
 | (apply WL_noG; eq_refl; eq_refl; eq_refl; eq_refl)
 | (apply X_pv; eq_refl; first | exact trivial | omega)
 | (apply X_field; eq_refl)
 | (apply X_loadR; eq_refl; (first | assumption | (apply Blk.alloc; assumption) | apply Blk.new | apply Blk.newA | (apply Blk.alloc; first | apply Blk.newA | (apply Blk.alloc; first | assumption | apply Blk.newA))); eq_refl)
 | (apply X_loadW; eq_refl; (first | assumption | (apply Blk.alloc; assumption) | apply Blk.new | apply Blk.newA | (apply Blk.alloc; first | apply Blk.newA | (apply Blk.alloc; first | assumption | apply Blk.newA))); eq_refl)
 | (apply X_loadC; eq_refl; (first | assumption | (apply cel; first | assumption | (apply cel; assumption))))
 | (apply X_cmpT; eq_refl; eq_refl; omega)
 | (apply X_cmpF; eq_refl; eq_refl; omega)
 | (apply X_cmp; eq_refl; eq_refl; all_goals intro _)
 | (apply X_len; eq_refl)
 | (apply X_lenS; eq_refl)
 | (apply X_index; eq_refl; eq_refl; omega; omega)
 | (apply X_eqB; eq_refl; eq_refl)
 | (apply X_neqB; eq_refl; eq_refl)
 | (apply X_eqP; eq_refl; eq_refl)
 | (apply X_eqL; eq_refl; eq_refl)
 | (apply X_max; eq_refl; eq_refl)
 | (apply X_min; eq_refl; eq_refl)
 | (apply X_cap; eq_refl)
 | (apply X_alloc)
 | (apply X_box; eq_refl)
 | (apply X_makeMap)
 | (apply X_pure; apply build145_0_1 <;> eq_refl)
 | (apply X_pure; apply build145_)
 | (apply X_pure; apply build57_0_1_2 <;> eq_refl)
 | (apply X_does; apply buildS25_1 <;> eq_refl))
  refine O_append 0 (by eq_refl) (by eq_refl) hB3.row hN3 rfl rfl (by decide) (by simp [Value.oneCell']) (by omega) (by decide) (Nat.zero_le _) ?_
  intro v' w4 hrow hC4 hown hnil
  obtain ⟨A', c', rfl⟩ := row_form hrow
  have hng : ¬ (Value.slice A gs.length c).ownBlock = some g := row_apart hB3.row hH3 (by decide)
  have hnp : ¬ (Value.slice A gs.length c).ownBlock = some w.heap.size := fun hh => absurd (hlt _ (hB.hv _ hh)) (by omega)
  have hH4 := hH3.chg hC4 hng
  have hP4 := hP3.chg hC4 hnp
  have hM4 := hB3.map.chg hC4 (map_row hB3.map hB3.row)
  replace hS : Blk w4 g 101 [num i, num l, .slice A gs.length c, .map (some m)] ∧ Blk w4 w.heap.size 145 [num p, num q] := ⟨hH4, hP4⟩
  refine ⟨fun _ => hS, ?_⟩
  repeat' (first
 | (apply WC_seqK; intro K hK)
 | (apply hK; clear hK)
 | (clear hK; apply hK; clear hK)
 | (clear hK; clear hK; apply hK; clear hK)
 | (clear hK; clear hK; clear hK; apply hK; clear hK)
 | (apply WC_block)
 | (apply WC_region)
 | (apply WL_nil)
 | (apply thenQ_normal)
 | (apply thenQ_ret)
 | (apply thenQ_exit)
 | (apply blockQ_hit)
 | (apply blockQ_miss; eq_refl)
 | (apply blockQ_ret)
 | (apply blockQ_normal)
 | (apply WC_ret)
 | (apply WC_exit)
 | (apply WC_skip)
 | (apply WC_label)
 | (apply WC_if_true; eq_refl)
 | (apply WC_if_false; eq_refl)
 | (apply ret1; eq_refl)
 | (apply ret2; eq_refl; eq_refl)
 | (apply ret3; eq_refl; eq_refl; eq_refl)
 | (apply ret0)
 | (apply ret0n)
 | (apply WS_nil)
 | (apply WS_next; eq_refl)
 | (apply WO_on0; eq_refl)
 | (apply WO_onG; eq_refl; eq_refl; eq_refl; eq_refl)
 | (apply WO_noG; eq_refl; eq_refl; eq_refl; eq_refl; (first | assumption | exact trivial))
 | (apply O_pv; eq_refl; (first | exact trivial | omega); (first | assumption | exact trivial))
 | (apply O_field; eq_refl; (first | assumption | exact trivial))
 | (apply O_loadR; eq_refl; (first | (intro _ h; exact h) | (intro _ h; exact h.1) | (intro _ h; exact h.2) | (intro _ h; exact h.2.1) | (intro _ h; exact h.2.2) | (intro _ h; exact h.2.2.1) | (intro _ h; exact h.2.2.2)); eq_refl; (first | assumption | exact trivial))
 | (apply O_loadW; eq_refl; (first | (intro _ h; exact h) | (intro _ h; exact h.1) | (intro _ h; exact h.2) | (intro _ h; exact h.2.1) | (intro _ h; exact h.2.2) | (intro _ h; exact h.2.2.1) | (intro _ h; exact h.2.2.2)); eq_refl; (first | assumption | exact trivial))
 | (apply O_loadC; eq_refl; (first | (intro _ h; exact h) | (intro _ h; exact h.1) | (intro _ h; exact h.2) | (intro _ h; exact h.2.1) | (intro _ h; exact h.2.2) | (intro _ h; exact h.2.2.1) | (intro _ h; exact h.2.2.2)); (first | assumption | exact trivial))
 | (apply O_cmpT; eq_refl; eq_refl; omega; (first | assumption | exact trivial))
 | (apply O_cmpF; eq_refl; eq_refl; omega; (first | assumption | exact trivial))
 | (apply O_cmp; eq_refl; eq_refl; (first | assumption | exact trivial); all_goals intro _)
 | (apply O_len; eq_refl; (first | assumption | exact trivial))
 | (apply O_lenS; eq_refl; (first | assumption | exact trivial))
 | (apply O_index; eq_refl; eq_refl; omega; omega; (first | assumption | exact trivial))
 | (apply O_eqB; eq_refl; eq_refl; (first | assumption | exact trivial))
 | (apply O_neqB; eq_refl; eq_refl; (first | assumption | exact trivial))
 | (apply O_pvL; eq_refl; (first | exact trivial | omega); (first | (intro _; assumption) | exact lo (by kernel_rfl)))
 | (apply O_pure; apply build145_0_1 <;> eq_refl; (first | assumption | exact trivial))
 | (apply O_pure; apply build145_; (first | assumption | exact trivial))
 | (apply O_pure; apply build57_0_1_2 <;> eq_refl; (first | assumption | exact trivial))
 | (apply WL_on0; eq_refl)
 | (apply WL_onG; eq_refl; eq_refl; eq_refl; eq_refl)
 | (apply WL_noG; eq_refl; eq_refl; eq_refl; eq_refl)
 | (apply X_pv; eq_refl; first | exact trivial | omega)
 | (apply X_field; eq_refl)
 | (apply X_loadR; eq_refl; (first | assumption | (apply Blk.alloc; assumption) | apply Blk.new | apply Blk.newA | (apply Blk.alloc; first | apply Blk.newA | (apply Blk.alloc; first | assumption | apply Blk.newA))); eq_refl)
 | (apply X_loadW; eq_refl; (first | assumption | (apply Blk.alloc; assumption) | apply Blk.new | apply Blk.newA | (apply Blk.alloc; first | apply Blk.newA | (apply Blk.alloc; first | assumption | apply Blk.newA))); eq_refl)
 | (apply X_loadC; eq_refl; (first | assumption | (apply cel; first | assumption | (apply cel; assumption))))
 | (apply X_cmpT; eq_refl; eq_refl; omega)
 | (apply X_cmpF; eq_refl; eq_refl; omega)
 | (apply X_cmp; eq_refl; eq_refl; all_goals intro _)
 | (apply X_len; eq_refl)
 | (apply X_lenS; eq_refl)
 | (apply X_index; eq_refl; eq_refl; omega; omega)
 | (apply X_eqB; eq_refl; eq_refl)
 | (apply X_neqB; eq_refl; eq_refl)
 | (apply X_eqP; eq_refl; eq_refl)
 | (apply X_eqL; eq_refl; eq_refl)
 | (apply X_max; eq_refl; eq_refl)
 | (apply X_min; eq_refl; eq_refl)
 | (apply X_cap; eq_refl)
 | (apply X_alloc)
 | (apply X_box; eq_refl)
 | (apply X_makeMap)
 | (apply X_pure; apply build145_0_1 <;> eq_refl)
 | (apply X_pure; apply build145_)
 | (apply X_pure; apply build57_0_1_2 <;> eq_refl)
 | (apply X_does; apply buildS25_1 <;> eq_refl))
  refine O_doesU (does_store1 (b := g) (o := 2) (v := .slice A' (gs.length + 1) c') (by eq_refl) (by eq_refl) hH4 (by simp) rfl rfl) (lo (by kernel_rfl)) ?_
  have hob : ∀ k, (Value.slice A' (gs.length + 1) c').ownBlock = some k → S k ∨ k = w3.heap.size := fun k hk => by
    rcases hown with h | h
    · exact .inl (hB.hv k (h ▸ hk))
    · exact .inr (Option.some.inj (hk.symm.trans h))
  have hrg : (Value.slice A' (gs.length + 1) c').ownBlock ≠ some g := row_apart hrow hH4 (by decide)
  refine WS_turn (fun w5 => Blk w5 g 101 [num i, num l, .slice A' (gs.length + 1) c', .map (some m)] ∧ w5.ownsRow 0 57 3 (.slice A' (gs.length + 1) c') (gs.length + 1) (flat gs ++ [num (2 * (i + l + gs.length + 1)), num p, num q]) ∧ MapHas w5 m gs.length (outOf gs) ∧ Blk w5 w.heap.size 145 [num p, num q] ∧ Chg w w5 S ∧ w.heap.size + 2 ≤ w5.heap.size)
    ⟨hH4.set _, row_chg hrow (Chg.setRow w4 g _ (S := fun k => k = g) rfl) (fun k hk h => hrg (h ▸ hk)), hM4.chg (Chg.setRow w4 g _ (S := fun k => k = g) rfl) (map_apart hM4 hH4), hP4.chg (Chg.setRow w4 g _ (S := fun k => k = g) rfl) (fun h => absurd (hlt g hB.hg) (by omega)), ?_, ?_⟩ ?_
  · exact (hC3.any.trans hC4 fun k _ hk => hB.hv k hk).trans (Chg.setRow w4 g _ hB.hg) fun _ _ h => h
  · have := hC4.size; simp [World.setRow]; omega
  rintro w5 ⟨hH5, hR5, hM5, hP5, hC5, hz5⟩
  clear hP2 hP3 hP4 hM4 hH4 hB3 hN3 hH3 hB2 hC2 hC3 hH2
  repeat' (first
 | (apply WS_nil)
 | (apply WC_seqK; intro K hK)
 | (apply hK; clear hK)
 | (clear hK; apply hK; clear hK)
 | (clear hK; clear hK; apply hK; clear hK)
 | (clear hK; clear hK; clear hK; apply hK; clear hK)
 | (apply WC_block)
 | (apply WC_region)
 | (apply WL_nil)
 | (apply thenQ_normal)
 | (apply thenQ_ret)
 | (apply thenQ_exit)
 | (apply blockQ_hit)
 | (apply blockQ_miss; eq_refl)
 | (apply blockQ_ret)
 | (apply blockQ_normal)
 | (apply WC_ret)
 | (apply WC_exit)
 | (apply WC_skip)
 | (apply WC_label)
 | (apply WC_if_true; eq_refl)
 | (apply WC_if_false; eq_refl)
 | (apply ret1; eq_refl)
 | (apply ret2; eq_refl; eq_refl)
 | (apply ret3; eq_refl; eq_refl; eq_refl)
 | (apply ret0)
 | (apply ret0n)
 | (apply WL_on0; eq_refl)
 | (apply WL_onG; eq_refl; eq_refl; eq_refl; eq_refl)
 | (apply WL_noG; eq_refl; eq_refl; eq_refl; eq_refl)
 | (apply X_pv; eq_refl; first | exact trivial | omega)
 | (apply X_field; eq_refl)
 | (apply X_loadR; eq_refl; (first | assumption | (apply Blk.alloc; assumption) | apply Blk.new | apply Blk.newA | (apply Blk.alloc; first | apply Blk.newA | (apply Blk.alloc; first | assumption | apply Blk.newA))); eq_refl)
 | (apply X_loadW; eq_refl; (first | assumption | (apply Blk.alloc; assumption) | apply Blk.new | apply Blk.newA | (apply Blk.alloc; first | apply Blk.newA | (apply Blk.alloc; first | assumption | apply Blk.newA))); eq_refl)
 | (apply X_loadC; eq_refl; (first | assumption | (apply cel; first | assumption | (apply cel; assumption))))
 | (apply X_cmpT; eq_refl; eq_refl; omega)
 | (apply X_cmpF; eq_refl; eq_refl; omega)
 | (apply X_cmp; eq_refl; eq_refl; all_goals intro _)
 | (apply X_len; eq_refl)
 | (apply X_lenS; eq_refl)
 | (apply X_index; eq_refl; eq_refl; omega; omega)
 | (apply X_eqB; eq_refl; eq_refl)
 | (apply X_neqB; eq_refl; eq_refl)
 | (apply X_eqP; eq_refl; eq_refl)
 | (apply X_eqL; eq_refl; eq_refl)
 | (apply X_max; eq_refl; eq_refl)
 | (apply X_min; eq_refl; eq_refl)
 | (apply X_cap; eq_refl)
 | (apply X_alloc)
 | (apply X_box; eq_refl)
 | (apply X_makeMap)
 | (apply X_pure; apply build145_0_1 <;> eq_refl)
 | (apply X_pure; apply build145_)
 | (apply X_pure; apply build57_0_1_2 <;> eq_refl)
 | (apply X_does; apply buildS25_1 <;> eq_refl))
  refine WC_draws [(0, true), (1, true), (2, true), (3, true), (4, true), (5, true), (6, false)] (fun w1 => Blk w1 g 101 [num i, num l, .slice A' (gs.length + 1) c', .map (some m)] ∧ Blk w1 w.heap.size 145 [num p, num q]) mixedB (by kernel_rfl) (by kernel_rfl) ?_
  replace hS : Blk w5.drew g 101 [num i, num l, .slice A' (gs.length + 1) c', .map (some m)] ∧ Blk w5.drew w.heap.size 145 [num p, num q] := ⟨hH5, hP5⟩
  repeat' (first
 | (apply WC_seqK; intro K hK)
 | (apply hK; clear hK)
 | (clear hK; apply hK; clear hK)
 | (clear hK; clear hK; apply hK; clear hK)
 | (clear hK; clear hK; clear hK; apply hK; clear hK)
 | (apply WC_block)
 | (apply WC_region)
 | (apply WL_nil)
 | (apply thenQ_normal)
 | (apply thenQ_ret)
 | (apply thenQ_exit)
 | (apply blockQ_hit)
 | (apply blockQ_miss; eq_refl)
 | (apply blockQ_ret)
 | (apply blockQ_normal)
 | (apply WC_ret)
 | (apply WC_exit)
 | (apply WC_skip)
 | (apply WC_label)
 | (apply WC_if_true; eq_refl)
 | (apply WC_if_false; eq_refl)
 | (apply ret1; eq_refl)
 | (apply ret2; eq_refl; eq_refl)
 | (apply ret3; eq_refl; eq_refl; eq_refl)
 | (apply ret0)
 | (apply ret0n)
 | (apply WS_nil)
 | (apply WS_next; eq_refl)
 | (apply WO_on0; eq_refl)
 | (apply WO_onG; eq_refl; eq_refl; eq_refl; eq_refl)
 | (apply WO_noG; eq_refl; eq_refl; eq_refl; eq_refl; (first | assumption | exact trivial))
 | (apply O_pv; eq_refl; (first | exact trivial | omega); (first | assumption | exact trivial))
 | (apply O_field; eq_refl; (first | assumption | exact trivial))
 | (apply O_loadR; eq_refl; (first | (intro _ h; exact h) | (intro _ h; exact h.1) | (intro _ h; exact h.2) | (intro _ h; exact h.2.1) | (intro _ h; exact h.2.2) | (intro _ h; exact h.2.2.1) | (intro _ h; exact h.2.2.2)); eq_refl; (first | assumption | exact trivial))
 | (apply O_loadW; eq_refl; (first | (intro _ h; exact h) | (intro _ h; exact h.1) | (intro _ h; exact h.2) | (intro _ h; exact h.2.1) | (intro _ h; exact h.2.2) | (intro _ h; exact h.2.2.1) | (intro _ h; exact h.2.2.2)); eq_refl; (first | assumption | exact trivial))
 | (apply O_loadC; eq_refl; (first | (intro _ h; exact h) | (intro _ h; exact h.1) | (intro _ h; exact h.2) | (intro _ h; exact h.2.1) | (intro _ h; exact h.2.2) | (intro _ h; exact h.2.2.1) | (intro _ h; exact h.2.2.2)); (first | assumption | exact trivial))
 | (apply O_cmpT; eq_refl; eq_refl; omega; (first | assumption | exact trivial))
 | (apply O_cmpF; eq_refl; eq_refl; omega; (first | assumption | exact trivial))
 | (apply O_cmp; eq_refl; eq_refl; (first | assumption | exact trivial); all_goals intro _)
 | (apply O_len; eq_refl; (first | assumption | exact trivial))
 | (apply O_lenS; eq_refl; (first | assumption | exact trivial))
 | (apply O_index; eq_refl; eq_refl; omega; omega; (first | assumption | exact trivial))
 | (apply O_eqB; eq_refl; eq_refl; (first | assumption | exact trivial))
 | (apply O_neqB; eq_refl; eq_refl; (first | assumption | exact trivial))
 | (apply O_pvL; eq_refl; (first | exact trivial | omega); (first | (intro _; assumption) | exact lo (by kernel_rfl)))
 | (apply O_pure; apply build145_0_1 <;> eq_refl; (first | assumption | exact trivial))
 | (apply O_pure; apply build145_; (first | assumption | exact trivial))
 | (apply O_pure; apply build57_0_1_2 <;> eq_refl; (first | assumption | exact trivial))
 | (apply WL_on0; eq_refl)
 | (apply WL_onG; eq_refl; eq_refl; eq_refl; eq_refl)
 | (apply WL_noG; eq_refl; eq_refl; eq_refl; eq_refl)
 | (apply X_pv; eq_refl; first | exact trivial | omega)
 | (apply X_field; eq_refl)
 | (apply X_loadR; eq_refl; (first | assumption | (apply Blk.alloc; assumption) | apply Blk.new | apply Blk.newA | (apply Blk.alloc; first | apply Blk.newA | (apply Blk.alloc; first | assumption | apply Blk.newA))); eq_refl)
 | (apply X_loadW; eq_refl; (first | assumption | (apply Blk.alloc; assumption) | apply Blk.new | apply Blk.newA | (apply Blk.alloc; first | apply Blk.newA | (apply Blk.alloc; first | assumption | apply Blk.newA))); eq_refl)
 | (apply X_loadC; eq_refl; (first | assumption | (apply cel; first | assumption | (apply cel; assumption))))
 | (apply X_cmpT; eq_refl; eq_refl; omega)
 | (apply X_cmpF; eq_refl; eq_refl; omega)
 | (apply X_cmp; eq_refl; eq_refl; all_goals intro _)
 | (apply X_len; eq_refl)
 | (apply X_lenS; eq_refl)
 | (apply X_index; eq_refl; eq_refl; omega; omega)
 | (apply X_eqB; eq_refl; eq_refl)
 | (apply X_neqB; eq_refl; eq_refl)
 | (apply X_eqP; eq_refl; eq_refl)
 | (apply X_eqL; eq_refl; eq_refl)
 | (apply X_max; eq_refl; eq_refl)
 | (apply X_min; eq_refl; eq_refl)
 | (apply X_cap; eq_refl)
 | (apply X_alloc)
 | (apply X_box; eq_refl)
 | (apply X_makeMap)
 | (apply X_pure; apply build145_0_1 <;> eq_refl)
 | (apply X_pure; apply build145_)
 | (apply X_pure; apply build57_0_1_2 <;> eq_refl)
 | (apply X_does; apply buildS25_1 <;> eq_refl))
  refine O_updateG (by eq_refl) (by eq_refl) (by eq_refl) (w := w5.drew) hM5 hp hq (by unfold fits; omega) (by simp only [maxLen]; omega) ?_
  intro w6 hM6 hC6
  refine ⟨lo (by kernel_rfl), ?_⟩
  have hgm : g ≠ m := fun h => map_apart hM5 hH5 h.symm
  repeat' (first
 | (apply WC_seqK; intro K hK)
 | (apply hK; clear hK)
 | (clear hK; apply hK; clear hK)
 | (clear hK; clear hK; apply hK; clear hK)
 | (clear hK; clear hK; clear hK; apply hK; clear hK)
 | (apply WC_block)
 | (apply WC_region)
 | (apply WL_nil)
 | (apply thenQ_normal)
 | (apply thenQ_ret)
 | (apply thenQ_exit)
 | (apply blockQ_hit)
 | (apply blockQ_miss; eq_refl)
 | (apply blockQ_ret)
 | (apply blockQ_normal)
 | (apply WC_ret)
 | (apply WC_exit)
 | (apply WC_skip)
 | (apply WC_label)
 | (apply WC_if_true; eq_refl)
 | (apply WC_if_false; eq_refl)
 | (apply ret1; eq_refl)
 | (apply ret2; eq_refl; eq_refl)
 | (apply ret3; eq_refl; eq_refl; eq_refl)
 | (apply ret0)
 | (apply ret0n)
 | (apply WS_nil)
 | (apply WS_next; eq_refl)
 | (apply WO_on0; eq_refl)
 | (apply WO_onG; eq_refl; eq_refl; eq_refl; eq_refl)
 | (apply WO_noG; eq_refl; eq_refl; eq_refl; eq_refl; (first | assumption | exact trivial))
 | (apply O_pv; eq_refl; (first | exact trivial | omega); (first | assumption | exact trivial))
 | (apply O_field; eq_refl; (first | assumption | exact trivial))
 | (apply O_loadR; eq_refl; (first | (intro _ h; exact h) | (intro _ h; exact h.1) | (intro _ h; exact h.2) | (intro _ h; exact h.2.1) | (intro _ h; exact h.2.2) | (intro _ h; exact h.2.2.1) | (intro _ h; exact h.2.2.2)); eq_refl; (first | assumption | exact trivial))
 | (apply O_loadW; eq_refl; (first | (intro _ h; exact h) | (intro _ h; exact h.1) | (intro _ h; exact h.2) | (intro _ h; exact h.2.1) | (intro _ h; exact h.2.2) | (intro _ h; exact h.2.2.1) | (intro _ h; exact h.2.2.2)); eq_refl; (first | assumption | exact trivial))
 | (apply O_loadC; eq_refl; (first | (intro _ h; exact h) | (intro _ h; exact h.1) | (intro _ h; exact h.2) | (intro _ h; exact h.2.1) | (intro _ h; exact h.2.2) | (intro _ h; exact h.2.2.1) | (intro _ h; exact h.2.2.2)); (first | assumption | exact trivial))
 | (apply O_cmpT; eq_refl; eq_refl; omega; (first | assumption | exact trivial))
 | (apply O_cmpF; eq_refl; eq_refl; omega; (first | assumption | exact trivial))
 | (apply O_cmp; eq_refl; eq_refl; (first | assumption | exact trivial); all_goals intro _)
 | (apply O_len; eq_refl; (first | assumption | exact trivial))
 | (apply O_lenS; eq_refl; (first | assumption | exact trivial))
 | (apply O_index; eq_refl; eq_refl; omega; omega; (first | assumption | exact trivial))
 | (apply O_eqB; eq_refl; eq_refl; (first | assumption | exact trivial))
 | (apply O_neqB; eq_refl; eq_refl; (first | assumption | exact trivial))
 | (apply O_pvL; eq_refl; (first | exact trivial | omega); (first | (intro _; assumption) | exact lo (by kernel_rfl)))
 | (apply O_pure; apply build145_0_1 <;> eq_refl; (first | assumption | exact trivial))
 | (apply O_pure; apply build145_; (first | assumption | exact trivial))
 | (apply O_pure; apply build57_0_1_2 <;> eq_refl; (first | assumption | exact trivial))
 | (apply WL_on0; eq_refl)
 | (apply WL_onG; eq_refl; eq_refl; eq_refl; eq_refl)
 | (apply WL_noG; eq_refl; eq_refl; eq_refl; eq_refl)
 | (apply X_pv; eq_refl; first | exact trivial | omega)
 | (apply X_field; eq_refl)
 | (apply X_loadR; eq_refl; (first | assumption | (apply Blk.alloc; assumption) | apply Blk.new | apply Blk.newA | (apply Blk.alloc; first | apply Blk.newA | (apply Blk.alloc; first | assumption | apply Blk.newA))); eq_refl)
 | (apply X_loadW; eq_refl; (first | assumption | (apply Blk.alloc; assumption) | apply Blk.new | apply Blk.newA | (apply Blk.alloc; first | apply Blk.newA | (apply Blk.alloc; first | assumption | apply Blk.newA))); eq_refl)
 | (apply X_loadC; eq_refl; (first | assumption | (apply cel; first | assumption | (apply cel; assumption))))
 | (apply X_cmpT; eq_refl; eq_refl; omega)
 | (apply X_cmpF; eq_refl; eq_refl; omega)
 | (apply X_cmp; eq_refl; eq_refl; all_goals intro _)
 | (apply X_len; eq_refl)
 | (apply X_lenS; eq_refl)
 | (apply X_index; eq_refl; eq_refl; omega; omega)
 | (apply X_eqB; eq_refl; eq_refl)
 | (apply X_neqB; eq_refl; eq_refl)
 | (apply X_eqP; eq_refl; eq_refl)
 | (apply X_eqL; eq_refl; eq_refl)
 | (apply X_max; eq_refl; eq_refl)
 | (apply X_min; eq_refl; eq_refl)
 | (apply X_cap; eq_refl)
 | (apply X_alloc)
 | (apply X_box; eq_refl)
 | (apply X_makeMap)
 | (apply X_pure; apply build145_0_1 <;> eq_refl)
 | (apply X_pure; apply build145_)
 | (apply X_pure; apply build57_0_1_2 <;> eq_refl)
 | (apply X_does; apply buildS25_1 <;> eq_refl))
  rw [andP_new (by omega) (by omega) (by assumption) (by assumption)]
  have hchg : Chg w w6 S := hC5.dr.trans hC6 fun k _ hk => by subst hk; exact hB.hm
  refine ⟨rfl, fun k => S k ∨ k = w3.heap.size ∧ (Value.slice A' (gs.length + 1) c').ownBlock = some k, ⟨.slice A' (gs.length + 1) c', m, ?_⟩, hchg, ?_⟩
  · refine ⟨hH5.drew.chg hC6 hgm, ?_, ?_, .inl hB.hg, .inl hB.hm, ?_, ?_⟩
    · have := row_chg (w' := w6) hR5 (hC5.dr.trans hC6 (S := S) (fun k _ hk => by subst hk; exact hB.hm) |> fun _ => (Chg.drew w5 none_).any.trans hC6 (S := fun k => k = m) (fun _ _ h => h)) (fun k hk h => map_row hM5 hR5 (h ▸ hk))
      simpa [flat_append, gcells] using this
    · have e : outOf (gs ++ [(2 * (i + l + ↑gs.length + 1), p, q)]) = fun p' q' => if p' = p ∧ q' = q then 2 * (i + l + ↑gs.length + 1) else outOf gs p' q' := by
        funext p' q'
        exact outOf_append gs _ _ _ _ _ (fun x hx => (hI.outs x hx).1) (by omega)
      simp only [List.length_append, List.length_singleton]
      rw [e]
      exact hM6
    · intro k hk
      rcases hob k hk with h | h
      · exact .inl h
      · exact .inr ⟨h, hk⟩
    · intro k hk
      rcases hk with h | ⟨_, h⟩
      · exact Nat.lt_of_lt_of_le (hlt k h) hchg.size
      · exact Nat.lt_of_lt_of_le (hR5.lt k h).2 hC6.size
  · intro k hk
    rcases hk with h | ⟨h, h'⟩
    · exact .inl h
    · exact .inr ⟨by omega, Nat.lt_of_lt_of_le (hR5.lt k h').2 hC6.size⟩
end SC
end Go.Proofs.Yticndofcfacopaa
end
section
/- The builder of hash: the functions around 'and'. -/
set_option linter.unusedVariables false
set_option linter.unusedSimpArgs false
namespace Go.Proofs.Yticndofcfacopaa
namespace SC
open Go.Proofs Go.Maps
attribute [local irreducible] WC WL WX WS WO OX Does DoesU Enters CV Pure thenQ blockQ retQ Wants
set_option maxRecDepth 100000
theorem lookedB_cv {w : World} {g b c' : Nat} {i l : Int} {A : Option Addr} {n c : Nat} {m : Value} {xs : List Int}
   (hb : Blk w g 101 [num i, num l, .slice A n c, m]) (hr : Blk w b 3 (xs.map num)) (hi : 0 ≤ i) (hl : 0 ≤ l) (hn : i + l + n ≤ 16384) (hlen : xs.length ≤ 1000) :
    CV Try.prog 80 [ptr g, .slice (some ⟨b, 0, none⟩) xs.length c'] w fun v w' => v = num (if ∀ x ∈ xs, 0 ≤ x ∧ x ≤ 2 * (i + l + n) + 1 then 0 else 5) ∧ Chg w w' none_ := by
  refine enter 24 [4] Try.func80 rfl rfl rfl (by decide) rfl ?_
  repeat' (first
 | (apply WC_seqK; intro K hK)
 | (apply hK; clear hK)
 | (clear hK; apply hK; clear hK)
 | (clear hK; clear hK; apply hK; clear hK)
 | (clear hK; clear hK; clear hK; apply hK; clear hK)
 | (apply WC_block)
 | (apply WC_region)
 | (apply WL_nil)
 | (apply thenQ_normal)
 | (apply thenQ_ret)
 | (apply thenQ_exit)
 | (apply blockQ_hit)
 | (apply blockQ_miss; eq_refl)
 | (apply blockQ_ret)
 | (apply blockQ_normal)
 | (apply WC_ret)
 | (apply WC_exit)
 | (apply WC_skip)
 | (apply WC_label)
 | (apply WC_if_true; eq_refl)
 | (apply WC_if_false; eq_refl)
 | (apply ret1; eq_refl)
 | (apply ret2; eq_refl; eq_refl)
 | (apply ret3; eq_refl; eq_refl; eq_refl)
 | (apply ret0)
 | (apply ret0n)
 | (apply WL_on0; eq_refl)
 | (apply WL_onG; eq_refl; eq_refl; eq_refl; eq_refl)
 | (apply WL_noG; eq_refl; eq_refl; eq_refl; eq_refl)
 | (apply X_pv; eq_refl; first | exact trivial | omega)
 | (apply X_field; eq_refl)
 | (apply X_loadR; eq_refl; (first | assumption | (apply Blk.alloc; assumption) | apply Blk.new | apply Blk.newA | (apply Blk.alloc; first | apply Blk.newA | (apply Blk.alloc; first | assumption | apply Blk.newA))); eq_refl)
 | (apply X_loadW; eq_refl; (first | assumption | (apply Blk.alloc; assumption) | apply Blk.new | apply Blk.newA | (apply Blk.alloc; first | apply Blk.newA | (apply Blk.alloc; first | assumption | apply Blk.newA))); eq_refl)
 | (apply X_loadC; eq_refl; (first | assumption | (apply cel; first | assumption | (apply cel; assumption))))
 | (apply X_cmpT; eq_refl; eq_refl; omega)
 | (apply X_cmpF; eq_refl; eq_refl; omega)
 | (apply X_cmp; eq_refl; eq_refl; all_goals intro _)
 | (apply X_len; eq_refl)
 | (apply X_lenS; eq_refl)
 | (apply X_index; eq_refl; eq_refl; omega; omega)
 | (apply X_eqB; eq_refl; eq_refl)
 | (apply X_neqB; eq_refl; eq_refl)
 | (apply X_eqP; eq_refl; eq_refl)
 | (apply X_eqL; eq_refl; eq_refl)
 | (apply X_max; eq_refl; eq_refl)
 | (apply X_min; eq_refl; eq_refl)
 | (apply X_cap; eq_refl)
 | (apply X_alloc)
 | (apply X_box; eq_refl)
 | (apply X_makeMap))
  refine WC_loop (fun k : Nat => [(0, ptr g), (7, .slice (some ⟨b, 0, none⟩) xs.length c'), (8, num xs.length), (9, num k)])
    (fun k w1 => Blk w1 g 101 [num i, num l, .slice A n c, m] ∧ Blk w1 b 3 (xs.map num) ∧ Chg w w1 none_ ∧ k ≤ xs.length ∧ ∀ x ∈ xs.take k, 0 ≤ x ∧ x ≤ 2 * (i + l + n) + 1) (fun k => xs.length - k) 0 ⟨rfl, rfl, rfl, rfl, trivial⟩ ⟨hb, hr, Chg.refl _ _, Nat.zero_le _, by simp⟩ ?_
  rintro k w1 ⟨hb1, hr1, hC1, hk, hall⟩
  rcases Nat.lt_or_ge k xs.length with hlt | hge
  · have hx : (xs.map num)[0 + (k : Int).toNat * 1]? = some (num xs[k]) := by simp [hlt]
    repeat' (first
 | (apply X_loadR; eq_refl; assumption; exact hx)
 | (apply X_fn; eq_refl; (apply greatest_cv; assumption; assumption; assumption; assumption); rintro _ _ ⟨rfl, rfl⟩)
 | (apply WC_seqK; intro K hK)
 | (apply hK; clear hK)
 | (clear hK; apply hK; clear hK)
 | (clear hK; clear hK; apply hK; clear hK)
 | (clear hK; clear hK; clear hK; apply hK; clear hK)
 | (apply WC_block)
 | (apply WC_region)
 | (apply WL_nil)
 | (apply thenQ_normal)
 | (apply thenQ_ret)
 | (apply thenQ_exit)
 | (apply blockQ_hit)
 | (apply blockQ_miss; eq_refl)
 | (apply blockQ_ret)
 | (apply blockQ_normal)
 | (apply WC_ret)
 | (apply WC_exit)
 | (apply WC_skip)
 | (apply WC_label)
 | (apply WC_if_true; eq_refl)
 | (apply WC_if_false; eq_refl)
 | (apply ret1; eq_refl)
 | (apply ret2; eq_refl; eq_refl)
 | (apply ret3; eq_refl; eq_refl; eq_refl)
 | (apply ret0)
 | (apply ret0n)
 | (apply WL_on0; eq_refl)
 | (apply WL_onG; eq_refl; eq_refl; eq_refl; eq_refl)
 | (apply WL_noG; eq_refl; eq_refl; eq_refl; eq_refl)
 | (apply X_pv; eq_refl; first | exact trivial | omega)
 | (apply X_field; eq_refl)
 | (apply X_loadR; eq_refl; (first | assumption | (apply Blk.alloc; assumption) | apply Blk.new | apply Blk.newA | (apply Blk.alloc; first | apply Blk.newA | (apply Blk.alloc; first | assumption | apply Blk.newA))); eq_refl)
 | (apply X_loadW; eq_refl; (first | assumption | (apply Blk.alloc; assumption) | apply Blk.new | apply Blk.newA | (apply Blk.alloc; first | apply Blk.newA | (apply Blk.alloc; first | assumption | apply Blk.newA))); eq_refl)
 | (apply X_loadC; eq_refl; (first | assumption | (apply cel; first | assumption | (apply cel; assumption))))
 | (apply X_cmpT; eq_refl; eq_refl; omega)
 | (apply X_cmpF; eq_refl; eq_refl; omega)
 | (apply X_cmp; eq_refl; eq_refl; all_goals intro _)
 | (apply X_len; eq_refl)
 | (apply X_lenS; eq_refl)
 | (apply X_index; eq_refl; eq_refl; omega; omega)
 | (apply X_eqB; eq_refl; eq_refl)
 | (apply X_neqB; eq_refl; eq_refl)
 | (apply X_eqP; eq_refl; eq_refl)
 | (apply X_eqL; eq_refl; eq_refl)
 | (apply X_max; eq_refl; eq_refl)
 | (apply X_min; eq_refl; eq_refl)
 | (apply X_cap; eq_refl)
 | (apply X_alloc)
 | (apply X_box; eq_refl)
 | (apply X_makeMap))
    · exact ⟨by rw [if_neg (fun h => by have := h xs[k] (List.getElem_mem hlt); omega)], hC1⟩
    · exact ⟨by rw [if_neg (fun h => by have := h xs[k] (List.getElem_mem hlt); omega)], hC1.dr⟩
    · refine ⟨k + 1, ⟨rfl, rfl, rfl, rfl, trivial⟩, ⟨hb1, hr1, hC1.dr, hlt, ?_⟩, by omega⟩
      intro x hx'
      rw [List.take_succ_eq_append_getElem hlt] at hx'
      simp only [List.mem_append, List.mem_singleton] at hx'
      rcases hx' with h | rfl
      · exact hall x h
      · omega
  · repeat' (first
 | (apply WC_seqK; intro K hK)
 | (apply hK; clear hK)
 | (clear hK; apply hK; clear hK)
 | (clear hK; clear hK; apply hK; clear hK)
 | (clear hK; clear hK; clear hK; apply hK; clear hK)
 | (apply WC_block)
 | (apply WC_region)
 | (apply WL_nil)
 | (apply thenQ_normal)
 | (apply thenQ_ret)
 | (apply thenQ_exit)
 | (apply blockQ_hit)
 | (apply blockQ_miss; eq_refl)
 | (apply blockQ_ret)
 | (apply blockQ_normal)
 | (apply WC_ret)
 | (apply WC_exit)
 | (apply WC_skip)
 | (apply WC_label)
 | (apply WC_if_true; eq_refl)
 | (apply WC_if_false; eq_refl)
 | (apply ret1; eq_refl)
 | (apply ret2; eq_refl; eq_refl)
 | (apply ret3; eq_refl; eq_refl; eq_refl)
 | (apply ret0)
 | (apply ret0n)
 | (apply WL_on0; eq_refl)
 | (apply WL_onG; eq_refl; eq_refl; eq_refl; eq_refl)
 | (apply WL_noG; eq_refl; eq_refl; eq_refl; eq_refl)
 | (apply X_pv; eq_refl; first | exact trivial | omega)
 | (apply X_field; eq_refl)
 | (apply X_loadR; eq_refl; (first | assumption | (apply Blk.alloc; assumption) | apply Blk.new | apply Blk.newA | (apply Blk.alloc; first | apply Blk.newA | (apply Blk.alloc; first | assumption | apply Blk.newA))); eq_refl)
 | (apply X_loadW; eq_refl; (first | assumption | (apply Blk.alloc; assumption) | apply Blk.new | apply Blk.newA | (apply Blk.alloc; first | apply Blk.newA | (apply Blk.alloc; first | assumption | apply Blk.newA))); eq_refl)
 | (apply X_loadC; eq_refl; (first | assumption | (apply cel; first | assumption | (apply cel; assumption))))
 | (apply X_cmpT; eq_refl; eq_refl; omega)
 | (apply X_cmpF; eq_refl; eq_refl; omega)
 | (apply X_cmp; eq_refl; eq_refl; all_goals intro _)
 | (apply X_len; eq_refl)
 | (apply X_lenS; eq_refl)
 | (apply X_index; eq_refl; eq_refl; omega; omega)
 | (apply X_eqB; eq_refl; eq_refl)
 | (apply X_neqB; eq_refl; eq_refl)
 | (apply X_eqP; eq_refl; eq_refl)
 | (apply X_eqL; eq_refl; eq_refl)
 | (apply X_max; eq_refl; eq_refl)
 | (apply X_min; eq_refl; eq_refl)
 | (apply X_cap; eq_refl)
 | (apply X_alloc)
 | (apply X_box; eq_refl)
 | (apply X_makeMap))
    rw [List.take_of_length_le hge] at hall
    exact ⟨by rw [if_pos hall], hC1⟩
theorem After.from {w w1 w' : World} {g : Nat} {S : Nat → Prop} {i l : Int} {r : Int × Int × List Gate} {v : Value} (hC : Chg w w1 none_) (h : After w1 g S i l r v w') : After w g S i l r v w' := by
  obtain ⟨h1, S', h2, h3⟩ := h
  exact ⟨h1, S', h2, (Step.of_chg hC.any).trans h3⟩
section
variable {w : World} {g : Nat} {S : Nat → Prop} {i l : Int} {gs : List Gate} {x y s : Int}
theorem looked_ok {b c' : Nat} {xs : List Int} (hB : Bld w g S i l gs) (hr : Blk w b 3 (xs.map num)) (hi : 0 ≤ i) (hl : 0 ≤ l) (hI : Inv (i + l) gs) (hlen : xs.length ≤ 1000) (h : ∀ x ∈ xs, okM (i + l) gs x) :
    CV Try.prog 80 [ptr g, .slice (some ⟨b, 0, none⟩) xs.length c'] w fun v w' => v = num 0 ∧ Chg w w' none_ ∧ Bld w' g S i l gs := by
  obtain ⟨v, m, hP⟩ := hB
  obtain ⟨A, c, rfl⟩ := row_form hP.row
  unfold okM at h
  refine (lookedB_cv hP.head hr hi hl hI.top hlen).mono fun v w' hv => ⟨by rw [hv.1, if_pos h], hv.2, ⟨_, _, hP.chg hv.2 fun _ _ => id⟩⟩
theorem looked_no {b c' : Nat} {xs : List Int} (hB : Bld w g S i l gs) (hr : Blk w b 3 (xs.map num)) (hi : 0 ≤ i) (hl : 0 ≤ l) (hI : Inv (i + l) gs) (hlen : xs.length ≤ 1000) (h : ¬ ∀ x ∈ xs, okM (i + l) gs x) :
    CV Try.prog 80 [ptr g, .slice (some ⟨b, 0, none⟩) xs.length c'] w fun v w' => v = num 5 ∧ Chg w w' none_ ∧ Bld w' g S i l gs := by
  obtain ⟨v, m, hP⟩ := hB
  obtain ⟨A, c, rfl⟩ := row_form hP.row
  unfold okM at h
  refine (lookedB_cv hP.head hr hi hl hI.top hlen).mono fun v w' hv => ⟨by rw [hv.1, if_neg h], hv.2, ⟨_, _, hP.chg hv.2 fun _ _ => id⟩⟩
theorem Bld.alloc (o : Obj) (h : Bld w g S i l gs) : Bld (w.alloc o) g S i l gs := h.chg (Chg.alloc w o none_) fun _ _ => id
theorem And_cv (hB : Bld w g S i l gs) (hi : 0 ≤ i) (hl : 0 ≤ l) (hI : Inv (i + l) gs) : CV Try.prog 79 [ptr g, num x, num y] w (After w g S i l (AndM (i + l) gs x y)) := by
  have hB' := hB.alloc (.cells #[num x, num y] 3)
  have hN : Blk (w.alloc (.cells #[num x, num y] 3)) w.heap.size 3 ([x, y].map num) := Blk.newA w #[num x, num y] 3
  by_cases hok : okM (i + l) gs x ∧ okM (i + l) gs y
  · have hx := hok.1
    have hy := hok.2
    refine enter 23 [6, 7] Try.func79 rfl rfl rfl (by decide) rfl ?_
    repeat' (first
 | (apply X_fn; eq_refl; (refine looked_ok (xs := [x, y]) hB' hN hi hl hI (by simp) ?_; simp; exact hok); rintro _ w1 ⟨rfl, hC1, hB1⟩)
 | (apply X_fn; eq_refl; (apply and_cv; assumption; assumption; assumption; assumption; assumption; assumption); rintro _ w2 ⟨rfl, S2, hB2, hSt2⟩)
 | (apply WC_seqK; intro K hK)
 | (apply hK; clear hK)
 | (clear hK; apply hK; clear hK)
 | (clear hK; clear hK; apply hK; clear hK)
 | (clear hK; clear hK; clear hK; apply hK; clear hK)
 | (apply WC_block)
 | (apply WC_region)
 | (apply WL_nil)
 | (apply thenQ_normal)
 | (apply thenQ_ret)
 | (apply thenQ_exit)
 | (apply blockQ_hit)
 | (apply blockQ_miss; eq_refl)
 | (apply blockQ_ret)
 | (apply blockQ_normal)
 | (apply WC_ret)
 | (apply WC_exit)
 | (apply WC_skip)
 | (apply WC_label)
 | (apply WC_if_true; eq_refl)
 | (apply WC_if_false; eq_refl)
 | (apply ret1; eq_refl)
 | (apply ret2; eq_refl; eq_refl)
 | (apply ret3; eq_refl; eq_refl; eq_refl)
 | (apply ret0)
 | (apply ret0n)
 | (apply WL_on0; eq_refl)
 | (apply WL_onG; eq_refl; eq_refl; eq_refl; eq_refl)
 | (apply WL_noG; eq_refl; eq_refl; eq_refl; eq_refl)
 | (apply X_pv; eq_refl; first | exact trivial | omega)
 | (apply X_field; eq_refl)
 | (apply X_loadR; eq_refl; (first | assumption | (apply Blk.alloc; assumption) | apply Blk.new | apply Blk.newA | (apply Blk.alloc; first | apply Blk.newA | (apply Blk.alloc; first | assumption | apply Blk.newA))); eq_refl)
 | (apply X_loadW; eq_refl; (first | assumption | (apply Blk.alloc; assumption) | apply Blk.new | apply Blk.newA | (apply Blk.alloc; first | apply Blk.newA | (apply Blk.alloc; first | assumption | apply Blk.newA))); eq_refl)
 | (apply X_loadC; eq_refl; (first | assumption | (apply cel; first | assumption | (apply cel; assumption))))
 | (apply X_cmpT; eq_refl; eq_refl; omega)
 | (apply X_cmpF; eq_refl; eq_refl; omega)
 | (apply X_cmp; eq_refl; eq_refl; all_goals intro _)
 | (apply X_len; eq_refl)
 | (apply X_lenS; eq_refl)
 | (apply X_index; eq_refl; eq_refl; omega; omega)
 | (apply X_eqB; eq_refl; eq_refl)
 | (apply X_neqB; eq_refl; eq_refl)
 | (apply X_eqP; eq_refl; eq_refl)
 | (apply X_eqL; eq_refl; eq_refl)
 | (apply X_max; eq_refl; eq_refl)
 | (apply X_min; eq_refl; eq_refl)
 | (apply X_cap; eq_refl)
 | (apply X_alloc)
 | (apply X_box; eq_refl)
 | (apply X_makeMap)
 | (apply X_does; apply buildS22_2 <;> eq_refl))
    exact After.from ((Chg.alloc w _ none_).trans hC1 fun _ _ h => h) ⟨by unfold AndM; rw [if_pos hok], S2, by unfold AndM; rw [if_pos hok]; exact hB2, hSt2⟩
  · refine enter 23 [6, 7] Try.func79 rfl rfl rfl (by decide) rfl ?_
    repeat' (first
 | (apply X_fn; eq_refl; (refine looked_no (xs := [x, y]) hB' hN hi hl hI (by simp) ?_; simp only [List.mem_cons, List.not_mem_nil, or_false, forall_eq_or_imp, forall_eq]; exact hok); rintro _ w1 ⟨rfl, hC1, hB1⟩)
 | (apply WC_seqK; intro K hK)
 | (apply hK; clear hK)
 | (clear hK; apply hK; clear hK)
 | (clear hK; clear hK; apply hK; clear hK)
 | (clear hK; clear hK; clear hK; apply hK; clear hK)
 | (apply WC_block)
 | (apply WC_region)
 | (apply WL_nil)
 | (apply thenQ_normal)
 | (apply thenQ_ret)
 | (apply thenQ_exit)
 | (apply blockQ_hit)
 | (apply blockQ_miss; eq_refl)
 | (apply blockQ_ret)
 | (apply blockQ_normal)
 | (apply WC_ret)
 | (apply WC_exit)
 | (apply WC_skip)
 | (apply WC_label)
 | (apply WC_if_true; eq_refl)
 | (apply WC_if_false; eq_refl)
 | (apply ret1; eq_refl)
 | (apply ret2; eq_refl; eq_refl)
 | (apply ret3; eq_refl; eq_refl; eq_refl)
 | (apply ret0)
 | (apply ret0n)
 | (apply WL_on0; eq_refl)
 | (apply WL_onG; eq_refl; eq_refl; eq_refl; eq_refl)
 | (apply WL_noG; eq_refl; eq_refl; eq_refl; eq_refl)
 | (apply X_pv; eq_refl; first | exact trivial | omega)
 | (apply X_field; eq_refl)
 | (apply X_loadR; eq_refl; (first | assumption | (apply Blk.alloc; assumption) | apply Blk.new | apply Blk.newA | (apply Blk.alloc; first | apply Blk.newA | (apply Blk.alloc; first | assumption | apply Blk.newA))); eq_refl)
 | (apply X_loadW; eq_refl; (first | assumption | (apply Blk.alloc; assumption) | apply Blk.new | apply Blk.newA | (apply Blk.alloc; first | apply Blk.newA | (apply Blk.alloc; first | assumption | apply Blk.newA))); eq_refl)
 | (apply X_loadC; eq_refl; (first | assumption | (apply cel; first | assumption | (apply cel; assumption))))
 | (apply X_cmpT; eq_refl; eq_refl; omega)
 | (apply X_cmpF; eq_refl; eq_refl; omega)
 | (apply X_cmp; eq_refl; eq_refl; all_goals intro _)
 | (apply X_len; eq_refl)
 | (apply X_lenS; eq_refl)
 | (apply X_index; eq_refl; eq_refl; omega; omega)
 | (apply X_eqB; eq_refl; eq_refl)
 | (apply X_neqB; eq_refl; eq_refl)
 | (apply X_eqP; eq_refl; eq_refl)
 | (apply X_eqL; eq_refl; eq_refl)
 | (apply X_max; eq_refl; eq_refl)
 | (apply X_min; eq_refl; eq_refl)
 | (apply X_cap; eq_refl)
 | (apply X_alloc)
 | (apply X_box; eq_refl)
 | (apply X_makeMap)
 | (apply X_does; apply buildS22_2 <;> eq_refl))
    exact After.same hB1 (((Chg.alloc w _ none_).trans hC1 fun _ _ h => h).any) (by unfold AndM; rw [if_neg hok])
end
end SC
end Go.Proofs.Yticndofcfacopaa
end
section
/- The builder of hash: the remaining functions. -/
set_option linter.unusedVariables false
set_option linter.unusedSimpArgs false
namespace Go.Proofs.Yticndofcfacopaa
namespace SC
open Go.Proofs Go.Maps
attribute [local irreducible] WC WL WX WS WO OX Does DoesU Enters CV Pure thenQ blockQ retQ Wants
set_option maxRecDepth 100000
theorem After.step {w w1 w' : World} {g : Nat} {S S1 : Nat → Prop} {i l : Int} {r : Int × Int × List Gate} {v : Value} (hC : Step w S w1 S1) (h : After w1 g S1 i l r v w') : After w g S i l r v w' := by
  obtain ⟨h1, S', h2, h3⟩ := h
  exact ⟨h1, S', h2, hC.trans h3⟩
theorem After.eq {w w' : World} {g : Nat} {S : Nat → Prop} {i l : Int} {r r' : Int × Int × List Gate} {v : Value} (h : After w g S i l r v w') (e : r' = r) : After w g S i l r' v w' := e ▸ h
section
variable {n : Int} {gs : List Gate} {x y s : Int}
theorem orM_err (h : (andM n gs (notM x) (notM y)).2.1 ≠ 0) : orM n gs x y = (0, (andM n gs (notM x) (notM y)).2.1, (andM n gs (notM x) (notM y)).2.2) := by unfold orM; simp only; rw [if_pos h]
theorem orM_ok (h : ¬ (andM n gs (notM x) (notM y)).2.1 ≠ 0) : orM n gs x y = (notM (andM n gs (notM x) (notM y)).1, 0, (andM n gs (notM x) (notM y)).2.2) := by unfold orM; simp only; rw [if_neg h]
theorem xorM_err (h : (andM n gs x y).2.1 ≠ 0) : xorM n gs x y = (0, (andM n gs x y).2.1, (andM n gs x y).2.2) := by unfold xorM; simp only; rw [if_pos h]
theorem xorM_err2 (h : ¬ (andM n gs x y).2.1 ≠ 0) (h2 : (andM n (andM n gs x y).2.2 (notM x) (notM y)).2.1 ≠ 0) : xorM n gs x y = (0, (andM n (andM n gs x y).2.2 (notM x) (notM y)).2.1, (andM n (andM n gs x y).2.2 (notM x) (notM y)).2.2) := by unfold xorM; simp only; rw [if_neg h, if_pos h2]
theorem xorM_ok (h : ¬ (andM n gs x y).2.1 ≠ 0) (h2 : ¬ (andM n (andM n gs x y).2.2 (notM x) (notM y)).2.1 ≠ 0) : xorM n gs x y = andM n (andM n (andM n gs x y).2.2 (notM x) (notM y)).2.2 (notM (andM n gs x y).1) (notM (andM n (andM n gs x y).2.2 (notM x) (notM y)).1) := by unfold xorM; simp only; rw [if_neg h, if_neg h2]
end
section
variable {w : World} {g : Nat} {S : Nat → Prop} {i l : Int} {gs : List Gate} {x y s : Int}
theorem or_cv (hB : Bld w g S i l gs) (hi : 0 ≤ i) (hl : 0 ≤ l) (hI : Inv (i + l) gs) (hx : okM (i + l) gs x) (hy : okM (i + l) gs y) : CV Try.prog 81 [ptr g, num x, num y] w (After w g S i l (orM (i + l) gs x y)) := by
  have hx' := okM_not hx
  have hy' := okM_not hy
  have hr := (andM_good hI hx' hy').ok
  have ht := (andM_good hI hx' hy').inv.top
  unfold okM at hr hx hy
  unfold notM at hr hx' hy' ht
  have htop := hI.top
  refine enter 24 [6, 7] Try.func81 rfl rfl rfl (by decide) rfl ?_
  repeat' (first
 | (apply X_fn; eq_refl; (apply and_cv; assumption; assumption; assumption; assumption; assumption; assumption); rintro _ w2 ⟨rfl, S2, hB2, hSt2⟩)
 | (apply WC_seqK; intro K hK)
 | (apply hK; clear hK)
 | (clear hK; apply hK; clear hK)
 | (clear hK; clear hK; apply hK; clear hK)
 | (clear hK; clear hK; clear hK; apply hK; clear hK)
 | (apply WC_block)
 | (apply WC_region)
 | (apply WL_nil)
 | (apply thenQ_normal)
 | (apply thenQ_ret)
 | (apply thenQ_exit)
 | (apply blockQ_hit)
 | (apply blockQ_miss; eq_refl)
 | (apply blockQ_ret)
 | (apply blockQ_normal)
 | (apply WC_ret)
 | (apply WC_exit)
 | (apply WC_skip)
 | (apply WC_label)
 | (apply WC_if_true; eq_refl)
 | (apply WC_if_false; eq_refl)
 | (apply ret1; eq_refl)
 | (apply ret2; eq_refl; eq_refl)
 | (apply ret3; eq_refl; eq_refl; eq_refl)
 | (apply ret0)
 | (apply ret0n)
 | (apply WL_on0; eq_refl)
 | (apply WL_onG; eq_refl; eq_refl; eq_refl; eq_refl)
 | (apply WL_noG; eq_refl; eq_refl; eq_refl; eq_refl)
 | (apply X_pv; eq_refl; first | exact trivial | omega)
 | (apply X_field; eq_refl)
 | (apply X_loadR; eq_refl; (first | assumption | (apply Blk.alloc; assumption) | apply Blk.new | apply Blk.newA | (apply Blk.alloc; first | apply Blk.newA | (apply Blk.alloc; first | assumption | apply Blk.newA))); eq_refl)
 | (apply X_loadW; eq_refl; (first | assumption | (apply Blk.alloc; assumption) | apply Blk.new | apply Blk.newA | (apply Blk.alloc; first | apply Blk.newA | (apply Blk.alloc; first | assumption | apply Blk.newA))); eq_refl)
 | (apply X_loadC; eq_refl; (first | assumption | (apply cel; first | assumption | (apply cel; assumption))))
 | (apply X_cmpT; eq_refl; eq_refl; omega)
 | (apply X_cmpF; eq_refl; eq_refl; omega)
 | (apply X_cmp; eq_refl; eq_refl; all_goals intro _)
 | (apply X_len; eq_refl)
 | (apply X_lenS; eq_refl)
 | (apply X_index; eq_refl; eq_refl; omega; omega)
 | (apply X_eqB; eq_refl; eq_refl)
 | (apply X_neqB; eq_refl; eq_refl)
 | (apply X_eqP; eq_refl; eq_refl)
 | (apply X_eqL; eq_refl; eq_refl)
 | (apply X_max; eq_refl; eq_refl)
 | (apply X_min; eq_refl; eq_refl)
 | (apply X_cap; eq_refl)
 | (apply X_alloc)
 | (apply X_box; eq_refl)
 | (apply X_makeMap))
  · rw [orM_err (by assumption)]; exact ⟨rfl, S2, hB2, hSt2⟩
  · rw [orM_ok (by assumption)]; exact ⟨rfl, S2, hB2, hSt2⟩
theorem Or_cv (hB : Bld w g S i l gs) (hi : 0 ≤ i) (hl : 0 ≤ l) (hI : Inv (i + l) gs) : CV Try.prog 40 [ptr g, num x, num y] w (After w g S i l (OrM (i + l) gs x y)) := by
  have hB' := hB.alloc (.cells #[num x, num y] 3)
  have hN : Blk (w.alloc (.cells #[num x, num y] 3)) w.heap.size 3 ([x, y].map num) := Blk.newA w #[num x, num y] 3
  have htop := hI.top
  have hC0 : ∀ {w1}, Chg (w.alloc (.cells #[num x, num y] 3)) w1 none_ → Chg w w1 none_ := fun h => (Chg.alloc w _ none_).trans h fun _ _ h => h
  by_cases hok : okM (i + l) gs x ∧ okM (i + l) gs y
  · rw [show OrM (i + l) gs x y = orM (i + l) gs x y by unfold OrM; rw [if_pos hok]]
    have hx := hok.1
    have hy := hok.2
    refine enter 23 [6, 7] Try.func40 rfl rfl rfl (by decide) rfl ?_
    repeat' (first
 | (apply X_fn; eq_refl; (refine looked_ok (xs := [x, y]) hB' hN hi hl hI (by simp) ?_; simp only [List.mem_cons, List.not_mem_nil, or_false, forall_eq_or_imp, forall_eq]; exact hok); rintro _ w1 ⟨rfl, hC1, hB1⟩; have hSt : Step w S w1 S := Step.of_chg (hC0 hC1).any)
 | (apply X_fn; eq_refl; (apply or_cv; assumption; assumption; assumption; assumption; assumption; assumption); rintro _ w2 ⟨rfl, S2, hB2, hSt2⟩; replace hSt := hSt.trans hSt2)
 | (apply WC_seqK; intro K hK)
 | (apply hK; clear hK)
 | (clear hK; apply hK; clear hK)
 | (clear hK; clear hK; apply hK; clear hK)
 | (clear hK; clear hK; clear hK; apply hK; clear hK)
 | (apply WC_block)
 | (apply WC_region)
 | (apply WL_nil)
 | (apply thenQ_normal)
 | (apply thenQ_ret)
 | (apply thenQ_exit)
 | (apply blockQ_hit)
 | (apply blockQ_miss; eq_refl)
 | (apply blockQ_ret)
 | (apply blockQ_normal)
 | (apply WC_ret)
 | (apply WC_exit)
 | (apply WC_skip)
 | (apply WC_label)
 | (apply WC_if_true; eq_refl)
 | (apply WC_if_false; eq_refl)
 | (apply ret1; eq_refl)
 | (apply ret2; eq_refl; eq_refl)
 | (apply ret3; eq_refl; eq_refl; eq_refl)
 | (apply ret0)
 | (apply ret0n)
 | (apply WL_on0; eq_refl)
 | (apply WL_onG; eq_refl; eq_refl; eq_refl; eq_refl)
 | (apply WL_noG; eq_refl; eq_refl; eq_refl; eq_refl)
 | (apply X_pv; eq_refl; first | exact trivial | omega)
 | (apply X_field; eq_refl)
 | (apply X_loadR; eq_refl; (first | assumption | (apply Blk.alloc; assumption) | apply Blk.new | apply Blk.newA | (apply Blk.alloc; first | apply Blk.newA | (apply Blk.alloc; first | assumption | apply Blk.newA))); eq_refl)
 | (apply X_loadW; eq_refl; (first | assumption | (apply Blk.alloc; assumption) | apply Blk.new | apply Blk.newA | (apply Blk.alloc; first | apply Blk.newA | (apply Blk.alloc; first | assumption | apply Blk.newA))); eq_refl)
 | (apply X_loadC; eq_refl; (first | assumption | (apply cel; first | assumption | (apply cel; assumption))))
 | (apply X_cmpT; eq_refl; eq_refl; omega)
 | (apply X_cmpF; eq_refl; eq_refl; omega)
 | (apply X_cmp; eq_refl; eq_refl; all_goals intro _)
 | (apply X_len; eq_refl)
 | (apply X_lenS; eq_refl)
 | (apply X_index; eq_refl; eq_refl; omega; omega)
 | (apply X_eqB; eq_refl; eq_refl)
 | (apply X_neqB; eq_refl; eq_refl)
 | (apply X_eqP; eq_refl; eq_refl)
 | (apply X_eqL; eq_refl; eq_refl)
 | (apply X_max; eq_refl; eq_refl)
 | (apply X_min; eq_refl; eq_refl)
 | (apply X_cap; eq_refl)
 | (apply X_alloc)
 | (apply X_box; eq_refl)
 | (apply X_makeMap)
 | (apply X_does; apply buildS22_2 <;> eq_refl))
    exact ⟨rfl, S2, hB2, hSt⟩
  · refine enter 23 [6, 7] Try.func40 rfl rfl rfl (by decide) rfl ?_
    repeat' (first
 | (apply X_fn; eq_refl; (refine looked_no (xs := [x, y]) hB' hN hi hl hI (by simp) ?_; simp only [List.mem_cons, List.not_mem_nil, or_false, forall_eq_or_imp, forall_eq]; exact hok); rintro _ w1 ⟨rfl, hC1, hB1⟩; have hSt : Step w S w1 S := Step.of_chg (hC0 hC1).any)
 | (apply WC_seqK; intro K hK)
 | (apply hK; clear hK)
 | (clear hK; apply hK; clear hK)
 | (clear hK; clear hK; apply hK; clear hK)
 | (clear hK; clear hK; clear hK; apply hK; clear hK)
 | (apply WC_block)
 | (apply WC_region)
 | (apply WL_nil)
 | (apply thenQ_normal)
 | (apply thenQ_ret)
 | (apply thenQ_exit)
 | (apply blockQ_hit)
 | (apply blockQ_miss; eq_refl)
 | (apply blockQ_ret)
 | (apply blockQ_normal)
 | (apply WC_ret)
 | (apply WC_exit)
 | (apply WC_skip)
 | (apply WC_label)
 | (apply WC_if_true; eq_refl)
 | (apply WC_if_false; eq_refl)
 | (apply ret1; eq_refl)
 | (apply ret2; eq_refl; eq_refl)
 | (apply ret3; eq_refl; eq_refl; eq_refl)
 | (apply ret0)
 | (apply ret0n)
 | (apply WL_on0; eq_refl)
 | (apply WL_onG; eq_refl; eq_refl; eq_refl; eq_refl)
 | (apply WL_noG; eq_refl; eq_refl; eq_refl; eq_refl)
 | (apply X_pv; eq_refl; first | exact trivial | omega)
 | (apply X_field; eq_refl)
 | (apply X_loadR; eq_refl; (first | assumption | (apply Blk.alloc; assumption) | apply Blk.new | apply Blk.newA | (apply Blk.alloc; first | apply Blk.newA | (apply Blk.alloc; first | assumption | apply Blk.newA))); eq_refl)
 | (apply X_loadW; eq_refl; (first | assumption | (apply Blk.alloc; assumption) | apply Blk.new | apply Blk.newA | (apply Blk.alloc; first | apply Blk.newA | (apply Blk.alloc; first | assumption | apply Blk.newA))); eq_refl)
 | (apply X_loadC; eq_refl; (first | assumption | (apply cel; first | assumption | (apply cel; assumption))))
 | (apply X_cmpT; eq_refl; eq_refl; omega)
 | (apply X_cmpF; eq_refl; eq_refl; omega)
 | (apply X_cmp; eq_refl; eq_refl; all_goals intro _)
 | (apply X_len; eq_refl)
 | (apply X_lenS; eq_refl)
 | (apply X_index; eq_refl; eq_refl; omega; omega)
 | (apply X_eqB; eq_refl; eq_refl)
 | (apply X_neqB; eq_refl; eq_refl)
 | (apply X_eqP; eq_refl; eq_refl)
 | (apply X_eqL; eq_refl; eq_refl)
 | (apply X_max; eq_refl; eq_refl)
 | (apply X_min; eq_refl; eq_refl)
 | (apply X_cap; eq_refl)
 | (apply X_alloc)
 | (apply X_box; eq_refl)
 | (apply X_makeMap)
 | (apply X_does; apply buildS22_2 <;> eq_refl))
    exact After.same hB1 ((hC0 hC1).any) (by unfold OrM; rw [if_neg hok])
theorem Xor_cv (hB : Bld w g S i l gs) (hi : 0 ≤ i) (hl : 0 ≤ l) (hI : Inv (i + l) gs) : CV Try.prog 41 [ptr g, num x, num y] w (After w g S i l (XorM (i + l) gs x y)) := by
  have hB' := hB.alloc (.cells #[num x, num y] 3)
  have hN : Blk (w.alloc (.cells #[num x, num y] 3)) w.heap.size 3 ([x, y].map num) := Blk.newA w #[num x, num y] 3
  have htop := hI.top
  have hC0 : ∀ {w1}, Chg (w.alloc (.cells #[num x, num y] 3)) w1 none_ → Chg w w1 none_ := fun h => (Chg.alloc w _ none_).trans h fun _ _ h => h
  by_cases hok : okM (i + l) gs x ∧ okM (i + l) gs y
  · rw [show XorM (i + l) gs x y = xorM (i + l) gs x y by unfold XorM; rw [if_pos hok]]
    have hx := hok.1
    have hy := hok.2
    have G1 := andM_good hI hx hy
    have G2 := andM_good G1.inv (okM_more (okM_not hx) G1.more) (okM_more (okM_not hy) G1.more)
    have b1 := G1.ok; have b2 := G2.ok; have t1 := G1.inv.top; have t2 := G2.inv.top
    have bx := hx; have bY := hy
    unfold okM at b1 b2 bx bY
    have i1 := G1.inv; have i2 := G2.inv
    have o1 := okM_more (okM_not hx) G1.more
    have o2 := okM_more (okM_not hy) G1.more
    have o3 := okM_more (okM_not G1.ok) G2.more
    have o4 := okM_not G2.ok
    unfold notM at b2 t2 i2 o1 o2 o3 o4
    refine enter 50 [6, 7] Try.func41 rfl rfl rfl (by decide) rfl ?_
    repeat' (first
 | (apply X_fn; eq_refl; (refine looked_ok (xs := [x, y]) hB' hN hi hl hI (by simp) ?_; simp only [List.mem_cons, List.not_mem_nil, or_false, forall_eq_or_imp, forall_eq]; exact hok); rintro _ w1 ⟨rfl, hC1, hB1⟩; have hSt : Step w S w1 S := Step.of_chg (hC0 hC1).any)
 | (apply X_fn; eq_refl; (apply and_cv; assumption; assumption; assumption; assumption; assumption; assumption); rintro _ w2 ⟨rfl, S2, hB2, hSt2⟩; replace hSt := hSt.trans hSt2)
 | (apply WC_seqK; intro K hK)
 | (apply hK; clear hK)
 | (clear hK; apply hK; clear hK)
 | (clear hK; clear hK; apply hK; clear hK)
 | (clear hK; clear hK; clear hK; apply hK; clear hK)
 | (apply WC_block)
 | (apply WC_region)
 | (apply WL_nil)
 | (apply thenQ_normal)
 | (apply thenQ_ret)
 | (apply thenQ_exit)
 | (apply blockQ_hit)
 | (apply blockQ_miss; eq_refl)
 | (apply blockQ_ret)
 | (apply blockQ_normal)
 | (apply WC_ret)
 | (apply WC_exit)
 | (apply WC_skip)
 | (apply WC_label)
 | (apply WC_if_true; eq_refl)
 | (apply WC_if_false; eq_refl)
 | (apply ret1; eq_refl)
 | (apply ret2; eq_refl; eq_refl)
 | (apply ret3; eq_refl; eq_refl; eq_refl)
 | (apply ret0)
 | (apply ret0n)
 | (apply WL_on0; eq_refl)
 | (apply WL_onG; eq_refl; eq_refl; eq_refl; eq_refl)
 | (apply WL_noG; eq_refl; eq_refl; eq_refl; eq_refl)
 | (apply X_pv; eq_refl; first | exact trivial | omega)
 | (apply X_field; eq_refl)
 | (apply X_loadR; eq_refl; (first | assumption | (apply Blk.alloc; assumption) | apply Blk.new | apply Blk.newA | (apply Blk.alloc; first | apply Blk.newA | (apply Blk.alloc; first | assumption | apply Blk.newA))); eq_refl)
 | (apply X_loadW; eq_refl; (first | assumption | (apply Blk.alloc; assumption) | apply Blk.new | apply Blk.newA | (apply Blk.alloc; first | apply Blk.newA | (apply Blk.alloc; first | assumption | apply Blk.newA))); eq_refl)
 | (apply X_loadC; eq_refl; (first | assumption | (apply cel; first | assumption | (apply cel; assumption))))
 | (apply X_cmpT; eq_refl; eq_refl; omega)
 | (apply X_cmpF; eq_refl; eq_refl; omega)
 | (apply X_cmp; eq_refl; eq_refl; all_goals intro _)
 | (apply X_len; eq_refl)
 | (apply X_lenS; eq_refl)
 | (apply X_index; eq_refl; eq_refl; omega; omega)
 | (apply X_eqB; eq_refl; eq_refl)
 | (apply X_neqB; eq_refl; eq_refl)
 | (apply X_eqP; eq_refl; eq_refl)
 | (apply X_eqL; eq_refl; eq_refl)
 | (apply X_max; eq_refl; eq_refl)
 | (apply X_min; eq_refl; eq_refl)
 | (apply X_cap; eq_refl)
 | (apply X_alloc)
 | (apply X_box; eq_refl)
 | (apply X_makeMap)
 | (apply X_does; apply buildS22_2 <;> eq_refl))
    · rw [xorM_err (by assumption)]; exact ⟨rfl, _, hB2, hSt⟩
    · rw [xorM_err2 (by assumption) (by assumption)]; exact ⟨rfl, _, hB2, hSt⟩
    · rw [xorM_ok (by assumption) (by assumption)]; exact ⟨rfl, _, hB2, hSt⟩
  · refine enter 50 [6, 7] Try.func41 rfl rfl rfl (by decide) rfl ?_
    repeat' (first
 | (apply X_fn; eq_refl; (refine looked_no (xs := [x, y]) hB' hN hi hl hI (by simp) ?_; simp only [List.mem_cons, List.not_mem_nil, or_false, forall_eq_or_imp, forall_eq]; exact hok); rintro _ w1 ⟨rfl, hC1, hB1⟩; have hSt : Step w S w1 S := Step.of_chg (hC0 hC1).any)
 | (apply WC_seqK; intro K hK)
 | (apply hK; clear hK)
 | (clear hK; apply hK; clear hK)
 | (clear hK; clear hK; apply hK; clear hK)
 | (clear hK; clear hK; clear hK; apply hK; clear hK)
 | (apply WC_block)
 | (apply WC_region)
 | (apply WL_nil)
 | (apply thenQ_normal)
 | (apply thenQ_ret)
 | (apply thenQ_exit)
 | (apply blockQ_hit)
 | (apply blockQ_miss; eq_refl)
 | (apply blockQ_ret)
 | (apply blockQ_normal)
 | (apply WC_ret)
 | (apply WC_exit)
 | (apply WC_skip)
 | (apply WC_label)
 | (apply WC_if_true; eq_refl)
 | (apply WC_if_false; eq_refl)
 | (apply ret1; eq_refl)
 | (apply ret2; eq_refl; eq_refl)
 | (apply ret3; eq_refl; eq_refl; eq_refl)
 | (apply ret0)
 | (apply ret0n)
 | (apply WL_on0; eq_refl)
 | (apply WL_onG; eq_refl; eq_refl; eq_refl; eq_refl)
 | (apply WL_noG; eq_refl; eq_refl; eq_refl; eq_refl)
 | (apply X_pv; eq_refl; first | exact trivial | omega)
 | (apply X_field; eq_refl)
 | (apply X_loadR; eq_refl; (first | assumption | (apply Blk.alloc; assumption) | apply Blk.new | apply Blk.newA | (apply Blk.alloc; first | apply Blk.newA | (apply Blk.alloc; first | assumption | apply Blk.newA))); eq_refl)
 | (apply X_loadW; eq_refl; (first | assumption | (apply Blk.alloc; assumption) | apply Blk.new | apply Blk.newA | (apply Blk.alloc; first | apply Blk.newA | (apply Blk.alloc; first | assumption | apply Blk.newA))); eq_refl)
 | (apply X_loadC; eq_refl; (first | assumption | (apply cel; first | assumption | (apply cel; assumption))))
 | (apply X_cmpT; eq_refl; eq_refl; omega)
 | (apply X_cmpF; eq_refl; eq_refl; omega)
 | (apply X_cmp; eq_refl; eq_refl; all_goals intro _)
 | (apply X_len; eq_refl)
 | (apply X_lenS; eq_refl)
 | (apply X_index; eq_refl; eq_refl; omega; omega)
 | (apply X_eqB; eq_refl; eq_refl)
 | (apply X_neqB; eq_refl; eq_refl)
 | (apply X_eqP; eq_refl; eq_refl)
 | (apply X_eqL; eq_refl; eq_refl)
 | (apply X_max; eq_refl; eq_refl)
 | (apply X_min; eq_refl; eq_refl)
 | (apply X_cap; eq_refl)
 | (apply X_alloc)
 | (apply X_box; eq_refl)
 | (apply X_makeMap)
 | (apply X_does; apply buildS22_2 <;> eq_refl))
    exact After.same hB1 ((hC0 hC1).any) (by unfold XorM; rw [if_neg hok])
def inM (i x : Int) : Int × Int := if x < 0 ∨ i ≤ x then (0, 5) else (2 * (x + 1), 0)
def laM (i l x : Int) : Int × Int := if x < 0 ∨ l ≤ x then (0, 5) else (2 * (i + x + 1), 0)
theorem Size_cv {A : Option Addr} {n c : Nat} {m : Value} (hB : Blk w g 101 [num i, num l, .slice A n c, m]) : CV Try.prog 43 [ptr g] w fun u w' => u = num n ∧ w' = w := by
  refine enter 8 [2] Try.func43 rfl rfl rfl (by decide) rfl ?_
  repeat' (first
 | (apply WC_seqK; intro K hK)
 | (apply hK; clear hK)
 | (clear hK; apply hK; clear hK)
 | (clear hK; clear hK; apply hK; clear hK)
 | (clear hK; clear hK; clear hK; apply hK; clear hK)
 | (apply WC_block)
 | (apply WC_region)
 | (apply WL_nil)
 | (apply thenQ_normal)
 | (apply thenQ_ret)
 | (apply thenQ_exit)
 | (apply blockQ_hit)
 | (apply blockQ_miss; eq_refl)
 | (apply blockQ_ret)
 | (apply blockQ_normal)
 | (apply WC_ret)
 | (apply WC_exit)
 | (apply WC_skip)
 | (apply WC_label)
 | (apply WC_if_true; eq_refl)
 | (apply WC_if_false; eq_refl)
 | (apply ret1; eq_refl)
 | (apply ret2; eq_refl; eq_refl)
 | (apply ret3; eq_refl; eq_refl; eq_refl)
 | (apply ret0)
 | (apply ret0n)
 | (apply WL_on0; eq_refl)
 | (apply WL_onG; eq_refl; eq_refl; eq_refl; eq_refl)
 | (apply WL_noG; eq_refl; eq_refl; eq_refl; eq_refl)
 | (apply X_pv; eq_refl; first | exact trivial | omega)
 | (apply X_field; eq_refl)
 | (apply X_loadR; eq_refl; (first | assumption | (apply Blk.alloc; assumption) | apply Blk.new | apply Blk.newA | (apply Blk.alloc; first | apply Blk.newA | (apply Blk.alloc; first | assumption | apply Blk.newA))); eq_refl)
 | (apply X_loadW; eq_refl; (first | assumption | (apply Blk.alloc; assumption) | apply Blk.new | apply Blk.newA | (apply Blk.alloc; first | apply Blk.newA | (apply Blk.alloc; first | assumption | apply Blk.newA))); eq_refl)
 | (apply X_loadC; eq_refl; (first | assumption | (apply cel; first | assumption | (apply cel; assumption))))
 | (apply X_cmpT; eq_refl; eq_refl; omega)
 | (apply X_cmpF; eq_refl; eq_refl; omega)
 | (apply X_cmp; eq_refl; eq_refl; all_goals intro _)
 | (apply X_len; eq_refl)
 | (apply X_lenS; eq_refl)
 | (apply X_index; eq_refl; eq_refl; omega; omega)
 | (apply X_eqB; eq_refl; eq_refl)
 | (apply X_neqB; eq_refl; eq_refl)
 | (apply X_eqP; eq_refl; eq_refl)
 | (apply X_eqL; eq_refl; eq_refl)
 | (apply X_max; eq_refl; eq_refl)
 | (apply X_min; eq_refl; eq_refl)
 | (apply X_cap; eq_refl)
 | (apply X_alloc)
 | (apply X_box; eq_refl)
 | (apply X_makeMap))
  exact ⟨rfl, rfl⟩
def newBad (a b : Int) : Prop := a < 0 ∨ 16384 < a ∨ b < 0 ∨ 16384 < b ∨ 16384 < a + b
theorem New_ok {a b : Int} (h : ¬ newBad a b) : CV Try.prog 39 [num a, num b] w fun u w' => ∃ g S', u = .tuple #[ptr g, num 0] ∧ Bld w' g S' a b [] ∧ Step w none_ w' S' := by
  unfold newBad at h
  refine enter 31 [4, 5] Try.func39 rfl rfl rfl (by decide) rfl ?_
  repeat' (first
 | (apply WC_seqK; intro K hK)
 | (apply hK; clear hK)
 | (clear hK; apply hK; clear hK)
 | (clear hK; clear hK; apply hK; clear hK)
 | (clear hK; clear hK; clear hK; apply hK; clear hK)
 | (apply WC_block)
 | (apply WC_region)
 | (apply WL_nil)
 | (apply thenQ_normal)
 | (apply thenQ_ret)
 | (apply thenQ_exit)
 | (apply blockQ_hit)
 | (apply blockQ_miss; eq_refl)
 | (apply blockQ_ret)
 | (apply blockQ_normal)
 | (apply WC_ret)
 | (apply WC_exit)
 | (apply WC_skip)
 | (apply WC_label)
 | (apply WC_if_true; eq_refl)
 | (apply WC_if_false; eq_refl)
 | (apply ret1; eq_refl)
 | (apply ret2; eq_refl; eq_refl)
 | (apply ret3; eq_refl; eq_refl; eq_refl)
 | (apply ret0)
 | (apply ret0n)
 | (apply WL_on0; eq_refl)
 | (apply WL_onG; eq_refl; eq_refl; eq_refl; eq_refl)
 | (apply WL_noG; eq_refl; eq_refl; eq_refl; eq_refl)
 | (apply X_pv; eq_refl; first | exact trivial | omega)
 | (apply X_field; eq_refl)
 | (apply X_loadR; eq_refl; (first | assumption | (apply Blk.alloc; assumption) | apply Blk.new | apply Blk.newA | (apply Blk.alloc; first | apply Blk.newA | (apply Blk.alloc; first | assumption | apply Blk.newA))); eq_refl)
 | (apply X_loadW; eq_refl; (first | assumption | (apply Blk.alloc; assumption) | apply Blk.new | apply Blk.newA | (apply Blk.alloc; first | apply Blk.newA | (apply Blk.alloc; first | assumption | apply Blk.newA))); eq_refl)
 | (apply X_loadC; eq_refl; (first | assumption | (apply cel; first | assumption | (apply cel; assumption))))
 | (apply X_cmpT; eq_refl; eq_refl; omega)
 | (apply X_cmpF; eq_refl; eq_refl; omega)
 | (apply X_cmp; eq_refl; eq_refl; all_goals intro _)
 | (apply X_len; eq_refl)
 | (apply X_lenS; eq_refl)
 | (apply X_index; eq_refl; eq_refl; omega; omega)
 | (apply X_eqB; eq_refl; eq_refl)
 | (apply X_neqB; eq_refl; eq_refl)
 | (apply X_eqP; eq_refl; eq_refl)
 | (apply X_eqL; eq_refl; eq_refl)
 | (apply X_max; eq_refl; eq_refl)
 | (apply X_min; eq_refl; eq_refl)
 | (apply X_cap; eq_refl)
 | (apply X_alloc)
 | (apply X_box; eq_refl)
 | (apply X_makeMap)
 | (apply X_pure; apply build101_0_1_3 <;> eq_refl))
  have hm := (MapHas.made w).chg (Chg.alloc _ (.cells #[num a, num b, .slice none 0 0, .map (some w.heap.size)] 101) none_) id
  have hz : (w.alloc (.map #[] 0)).heap.size = w.heap.size + 1 := by simp
  refine ⟨(w.alloc (.map #[] 0)).heap.size, fun k => k = w.heap.size ∨ k = (w.alloc (.map #[] 0)).heap.size, rfl, ⟨.slice none 0 0, w.heap.size, ?_⟩, ?_⟩
  · refine ⟨Blk.newA _ _ _, World.ownsRow_nil _ _ _ _, hm, .inr rfl, .inl rfl, fun k hk => by simp [Value.ownBlock] at hk, fun k hk => ?_⟩
    rw [hz] at hk
    simp; omega
  · refine ⟨((Chg.alloc w _ none_).al _), fun k hk => .inr ?_⟩
    rw [hz] at hk
    exact ⟨by omega, by simp; omega⟩
end
end SC
end Go.Proofs.Yticndofcfacopaa
end
section
/- Or, Xor, Mux of a builder: the plain law. -/
set_option linter.unusedVariables false
set_option linter.unusedSimpArgs false
namespace Go.Proofs.Yticndofcfacopaa
namespace SC
open Go.Proofs
theorem Gs.inv {n : Int} {gs : List Gate} (G : Gs n gs) (h : n + gs.length ≤ 16384) : Inv n gs := by
  have nn := G.nn
  refine ⟨nn, h, fun g hg => ?_, fun g hg => ?_⟩
  · obtain ⟨k, hk, rfl⟩ := List.mem_iff_getElem.1 hg
    have := G.out k hk
    omega
  · obtain ⟨k, hk, rfl⟩ := List.mem_iff_getElem.1 hg
    have := G.out k hk
    have := G.low k hk
    omega
/-- What a call makes: no error, so many gates more at most, and a literal with that value. -/
structure Made (n : Int) (gs : List Gate) (m : Nat) (r : Int × Int × List Gate) (f : List Bool → Bool) : Prop where
  err : r.2.1 = 0
  good : Gs n r.2.2
  pre : gs <+: r.2.2
  ok : okM n r.2.2 r.1
  len : r.2.2.length ≤ gs.length + m
  val : ∀ v, ValG n r.2.2 v → lv v r.1 = f v
theorem andM_made {n : Int} {gs : List Gate} {x y : Int} (G : Gs n gs) (hx : okM n gs x) (hy : okM n gs y) (hn : n + gs.length < 16384) : Made n gs 1 (andM n gs x y) fun v => lv v x && lv v y := by
  have g1 := G.andM hx hy
  have g2 := andM_good (G.inv (by omega)) hx hy
  have he : (andM n gs x y).2.1 = 0 ∧ (andM n gs x y).2.2.length ≤ gs.length + 1 := by
    unfold andM andP
    split
    · exact ⟨rfl, by simp⟩
    · split
      · exact ⟨rfl, by simp⟩
      · split
        · exact ⟨rfl, by simp⟩
        · rw [if_neg (by omega)]
          exact ⟨rfl, by simp⟩
  exact ⟨he.1, g1.1, g1.2, g2.ok, he.2, fun v V => andM_val G hx hy V he.1⟩
theorem Made.okM {n : Int} {gs : List Gate} {m : Nat} {r : Int × Int × List Gate} {f : List Bool → Bool} (M : Made n gs m r f) {z : Int} (h : okM n gs z) : okM n r.2.2 z := okM_more h M.pre.length_le
theorem xorM_made {n : Int} {gs : List Gate} {x y : Int} (G : Gs n gs) (hx : okM n gs x) (hy : okM n gs y) (hn : n + gs.length + 2 < 16384) : Made n gs 3 (xorM n gs x y) fun v => lv v x != lv v y := by
  have M1 := andM_made G hx hy (by omega)
  have l1 := M1.len
  have M2 := andM_made M1.good (okM_not (M1.okM hx)) (okM_not (M1.okM hy)) (by omega)
  have l2 := M2.len
  have M3 := andM_made M2.good (okM_not (M2.okM M1.ok)) (okM_not M2.ok) (by omega)
  have l3 := M3.len
  rw [xorM_ok (by rw [M1.err]; decide) (by rw [M2.err]; decide)]
  refine ⟨M3.err, M3.good, M1.pre.trans (M2.pre.trans M3.pre), M3.ok, by omega, fun v V => ?_⟩
  have v1 := M1.val v (V.pre (M2.pre.trans M3.pre))
  have v2 := M2.val v (V.pre M3.pre)
  rw [M3.val v V, lv_not M1.ok.1, lv_not M2.ok.1, v1, v2, lv_not hx.1, lv_not hy.1]
  cases lv v x <;> cases lv v y <;> rfl
end SC
end Go.Proofs.Yticndofcfacopaa
end
section
/- The circuit of a builder's gates: it is right, and its values fit the gates. -/
set_option linter.unusedVariables false
set_option linter.unusedSimpArgs false
namespace Go.Proofs.Yticndofcfacopaa
namespace SC
open Go.Proofs
end SC
end Go.Proofs.Yticndofcfacopaa
end
section
/- hash: what Build makes: the plain law. -/
set_option linter.unusedVariables false
set_option linter.unusedSimpArgs false
namespace Go.Proofs.Yticndofcfacopaa
namespace SC
open Go.Proofs
/-- A literal by a map whose members may be odd. -/
def litX (to : List Int) (l : Int) : Int := xorb (L to (l / 2)) (l % 2)
/-- One gate is built. -/
def bStep (c : Circ) (n : Int) (s : List Int × List Gate) (i : Int) : List Int × List Gate :=
  (s.1.set ((andAt c i).1 / 2).toNat (andM n s.2 (litX s.1 (andAt c i).2.1) (litX s.1 (andAt c i).2.2)).1, (andM n s.2 (litX s.1 (andAt c i).2.1) (litX s.1 (andAt c i).2.2)).2.2)
def nB (c : Circ) : Int := (c.inputs.length : Int) + (c.latches.length : Int)
/-- The map and the gates behind the first k gates of the order. -/
noncomputable def bAt (c : Circ) (k : Nat) : List Int × List Gate := ((ordM c).take k).foldl (bStep c (nB c)) (mapOf c.max (c.inputs ++ c.latches.map (·.1)), [])
theorem bAt_succ {c : Circ} {k : Nat} (h : k < (ordM c).length) : bAt c (k + 1) = bStep c (nB c) (bAt c k) (ordM c)[k] := by
  unfold bAt
  rw [List.take_succ_eq_append_getElem h, List.foldl_append]
  rfl
/-- A variable that has its literal behind k gates. -/
def Done (c : Circ) (k : Nat) (u : Int) : Prop := ∃ (j : Nat) (hj : j < (defsOf c (ordM c)).length), j < c.inputs.length + c.latches.length + k ∧ u = (defsOf c (ordM c))[j] / 2
structure BInv (c : Circ) (k : Nat) (s : List Int × List Gate) : Prop where
  gs : Gs (nB c) s.2
  len : s.2.length ≤ k
  mlen : s.1.length = (c.max + 1).toNat
  ok : ∀ u, 0 ≤ u → okM (nB c) s.2 (L s.1 u)
  off : ∀ u, 0 ≤ u → ¬ Done c k u → L s.1 u = 0
  fst : ∀ (j : Nat) (hj : j < (defsOf c (ordM c)).length), j < c.inputs.length + c.latches.length → L s.1 ((defsOf c (ordM c))[j] / 2) = 2 * j + 2
  val : ∀ st r v w, ValOk c st r v → ValG (nB c) s.2 w → (∀ j : Nat, j < c.inputs.length → gt w ((j : Int) + 1) = gt r (j : Int)) → (∀ j : Nat, j < c.latches.length → gt w (((c.inputs.length + j : Nat) : Int) + 1) = gt st (j : Int)) → ∀ u, Done c k u → lv w (L s.1 u) = gt v u
theorem xorb_ok {n : Int} {gs : List Gate} {a b : Int} (h : okM n gs a) (hb : 0 ≤ b ∧ b ≤ 1) : okM n gs (xorb a b) := by
  unfold xorb
  split
  · exact h
  · exact okM_not h
theorem BInv.lit {c : Circ} {k : Nat} {s : List Int × List Gate} (I : BInv c k s) {l : Int} (hl : 0 ≤ l) : okM (nB c) s.2 (litX s.1 l) := xorb_ok (I.ok _ (by omega)) (by omega)
theorem lv_litX {w v : List Bool} {to : List Int} {l : Int} (h0 : 0 ≤ L to (l / 2)) (h : lv w (L to (l / 2)) = gt v (l / 2)) : lv w (litX to l) = lv v l := by
  unfold litX xorb
  split
  · rename_i e
    rw [h]
    unfold lv
    rw [e]
    simp
  · rename_i e
    have := lv_not (v := w) h0
    unfold notM at this
    rw [this, h]
    have e1 : l % 2 = 1 := by omega
    unfold lv
    rw [e1]
    simp
section
variable {c : Circ} (R : Right c)
include R
theorem Right.kind_in {v : Int} (hv : 0 ≤ v) (h : kindAt (tabM c) v ≠ 0) : ∃ k ∈ defsOf c (ordM c), v = k / 2 := by
  cases hm : (tabM c)[v.toNat]? with
  | none => exact absurd (by unfold kindAt; rw [hm]; rfl) h
  | some m =>
    rw [kindAt_get hm] at h
    rcases R.tab.only _ _ hm with e | ⟨j, hj, e, _⟩ | ⟨j, hj, e, _⟩ | ⟨j, hj, e, _⟩
    · rw [e] at h
      exact absurd rfl h
    · exact ⟨_, by have := memD_inp hj; rwa [gt_nat hj] at this, by omega⟩
    · exact ⟨_, by have := memD_lat hj; rwa [gt_nat hj] at this, by omega⟩
    · have hm := R.ordAll hj
      refine ⟨_, List.mem_append_right _ (List.mem_map.2 ⟨_, hm, rfl⟩), ?_⟩
      have ea : andAt c (j : Int) = gt c.ands (j : Int) := rfl
      show v = (andAt c (j : Int)).1 / 2
      rw [ea, gt_nat hj, e]
      omega
theorem Right.nB_le : nB c + (ordM c).length ≤ c.max := by
  have h1 := R.nDefs
  have h2 := R.nDefs_le
  have h3 := R.ordLen
  unfold nB
  omega
/-- What a gate uses has its literal. -/
theorem Right.used {k : Nat} (hk : k < (ordM c).length) {l : Int} (hl : l = (andAt c (ordM c)[k]).2.1 ∨ l = (andAt c (ordM c)[k]).2.2) : 0 ≤ l ∧ (l / 2 = 0 ∨ Done c k (l / 2)) := by
  have ho := R.ord (List.getElem_mem hk)
  have hlt : (ordM c)[k].toNat < c.ands.length := by omega
  have ha : andAt c (ordM c)[k] ∈ c.ands := by unfold andAt; simp [hlt]
  have hu : useOk c (tabM c) l := by
    have := R.use.ands _ ha
    rcases hl with rfl | rfl
    · exact this.1
    · exact this.2
  obtain ⟨h0, h1, h2⟩ := hu
  refine ⟨h0, ?_⟩
  by_cases h3 : 1 < l
  · obtain ⟨d, hd, e⟩ := R.kind_in (by omega) (h2 h3)
    obtain ⟨j, hj, rfl⟩ := List.mem_iff_getElem.1 hd
    refine .inr ⟨j, hj, ?_, e⟩
    by_cases h4 : j < c.inputs.length + c.latches.length
    · omega
    · have hn := R.nDefs
      have hol := R.ordLen
      obtain ⟨m, rfl⟩ : ∃ m, j = c.inputs.length + c.latches.length + m := ⟨j - (c.inputs.length + c.latches.length), by omega⟩
      have hm : m < (ordM c).length := by omega
      obtain ⟨_, e2⟩ := R.def_and hm
      rw [e2] at e
      have := R.low hk hl hm e
      omega
  · exact .inl (by omega)
theorem Right.def_eq {i j : Nat} (hi : i < (defsOf c (ordM c)).length) (hj : j < (defsOf c (ordM c)).length) (e : (defsOf c (ordM c))[i] / 2 = (defsOf c (ordM c))[j] / 2) : i = j := by
  have := R.defs_nodup
  refine nodup_ix this (a := i) (b := j) (by simpa using hi) (by simpa using hj) ?_
  simpa using e
theorem Right.def_pos {j : Nat} (hj : j < (defsOf c (ordM c)).length) : 0 < (defsOf c (ordM c))[j] / 2 ∧ 2 * ((defsOf c (ordM c))[j] / 2) = (defsOf c (ordM c))[j] := by
  have := R.defs (List.getElem_mem hj)
  unfold defR at this
  omega
theorem Right.bInv0 : BInv c 0 (bAt c 0) := by
  have hn := R.nDefs
  have hle := R.nDefs_le
  have hm1 := R.m1
  have hol := R.ordLen
  have e0 : bAt c 0 = (mapOf c.max ((defsOf c (ordM c)).take (c.inputs.length + c.latches.length)), []) := by
    unfold bAt defsOf
    rw [List.take_zero, List.take_left' (by simp)]
    rfl
  have nn : 0 ≤ nB c := by unfold nB; omega
  have key := fun v hv => mapOf_all (max := c.max) (ks := defsOf c (ordM c)) (fun _ => R.defs_rg) R.defs_nodup (c.inputs.length + c.latches.length) (by omega) v hv
  have off : ∀ u, 0 ≤ u → ¬ Done c 0 u → L (bAt c 0).1 u = 0 := fun u hu h => by
    rw [e0]
    exact (key u hu).2 fun j hj hlt e => h ⟨j, hj, by omega, e⟩
  have fst : ∀ (j : Nat) (hj : j < (defsOf c (ordM c)).length), j < c.inputs.length + c.latches.length → L (bAt c 0).1 ((defsOf c (ordM c))[j] / 2) = 2 * j + 2 := fun j hj hlt => by
    rw [e0]
    exact (key _ (by have := R.def_pos hj; omega)).1 j hj hlt rfl
  refine ⟨by rw [e0]; exact Gs.nil nn, by rw [e0]; exact Nat.le_refl 0, by rw [e0]; exact mapOf_len _ _, fun u hu => ?_, off, fst, fun st r v w V W wi wl u ⟨j, hj, hlt, e⟩ => ?_⟩
  · by_cases h : Done c 0 u
    · obtain ⟨j, hj, hlt, rfl⟩ := h
      rw [fst j hj (by omega), e0]
      unfold okM nB
      omega
    · rw [off u hu h, e0]
      unfold okM
      omega
  · subst e
    rw [fst j hj (by omega), lv_even (by omega), show (2 * (j : Int) + 2) / 2 = (j : Int) + 1 by omega]
    by_cases h1 : j < c.inputs.length
    · obtain ⟨_, e⟩ := R.def_inp h1
      have := V.inp j h1
      rw [gt_nat h1] at this
      rw [e, this, wi j h1]
    · obtain ⟨m, rfl⟩ : ∃ m, j = c.inputs.length + m := ⟨j - c.inputs.length, by omega⟩
      have h2 : m < c.latches.length := by omega
      obtain ⟨_, e⟩ := R.def_lat h2
      have := V.lat m h2
      rw [gt_nat h2] at this
      rw [e, this, wl m h2]
/-- What a gate of the order makes. -/
theorem Right.bMade {k : Nat} (hk : k < (ordM c).length) (I : BInv c k (bAt c k)) : Made (nB c) (bAt c k).2 1 (andM (nB c) (bAt c k).2 (litX (bAt c k).1 (andAt c (ordM c)[k]).2.1) (litX (bAt c k).1 (andAt c (ordM c)[k]).2.2)) fun v => lv v (litX (bAt c k).1 (andAt c (ordM c)[k]).2.1) && lv v (litX (bAt c k).1 (andAt c (ordM c)[k]).2.2) :=
  andM_made I.gs (BInv.lit I (R.used hk (.inl rfl)).1) (BInv.lit I (R.used hk (.inr rfl)).1) (by have := I.len; have := R.nB_le; have := R.m1; omega)
theorem Right.bInv1 {k : Nat} (hk : k < (ordM c).length) (I : BInv c k (bAt c k)) : BInv c (k + 1) (bAt c (k + 1)) := by
  have hn := R.nDefs
  have hol := R.ordLen
  have M := R.bMade hk I
  obtain ⟨hd, ed⟩ := R.def_and hk
  have hp := R.def_pos hd
  have hrg : rg (bAt c k).1.length ((andAt c (ordM c)[k]).1 / 2) := by
    rw [I.mlen, ← ed]
    exact R.defs_rg (List.getElem_mem hd)
  obtain ⟨u1, u1'⟩ := R.used hk (.inl rfl)
  obtain ⟨u2, u2'⟩ := R.used hk (.inr rfl)
  have ho := R.ord (List.getElem_mem hk)
  rw [bAt_succ hk]
  have hL : ∀ u, 0 ≤ u → L (bStep c (nB c) (bAt c k) (ordM c)[k]).1 u = if u = (defsOf c (ordM c))[c.inputs.length + c.latches.length + k] / 2 then (andM (nB c) (bAt c k).2 (litX (bAt c k).1 (andAt c (ordM c)[k]).2.1) (litX (bAt c k).1 (andAt c (ordM c)[k]).2.2)).1 else L (bAt c k).1 u := fun u hu => by
    rw [ed]
    exact L_set _ hrg hu
  have e2 : (bStep c (nB c) (bAt c k) (ordM c)[k]).2 = (andM (nB c) (bAt c k).2 (litX (bAt c k).1 (andAt c (ordM c)[k]).2.1) (litX (bAt c k).1 (andAt c (ordM c)[k]).2.2)).2.2 := rfl
  have el : (bStep c (nB c) (bAt c k) (ordM c)[k]).1.length = (bAt c k).1.length := List.length_set
  generalize bStep c (nB c) (bAt c k) (ordM c)[k] = s' at *
  have dn : ∀ u, Done c (k + 1) u → u ≠ (defsOf c (ordM c))[c.inputs.length + c.latches.length + k] / 2 → Done c k u := fun u ⟨j, hj, hlt, e⟩ hne => ⟨j, hj, by
    rcases Nat.lt_or_ge j (c.inputs.length + c.latches.length + k) with h | h
    · exact h
    · have : j = c.inputs.length + c.latches.length + k := by omega
      subst this
      exact absurd e hne, e⟩
  refine ⟨by rw [e2]; exact M.good, by rw [e2]; have := M.len; have := I.len; omega, by rw [el]; exact I.mlen, fun u hu => ?_, fun u hu h => ?_, fun j hj hlt => ?_, fun st r v w V W wi wl u hu => ?_⟩
  · rw [hL u hu, e2]
    split
    · exact M.ok
    · exact okM_more (I.ok u hu) M.pre.length_le
  · rw [hL u hu, if_neg]
    · exact I.off u hu fun ⟨j, hj, hlt, e⟩ => h ⟨j, hj, by omega, e⟩
    · intro e
      exact h ⟨_, hd, by omega, e⟩
  · rw [hL _ (by have := R.def_pos hj; omega), if_neg]
    · exact I.fst j hj hlt
    · intro e
      have := R.def_eq hj hd e
      omega
  · rw [e2] at W
    have W0 := W.pre M.pre
    have hv := I.val st r v w V W0 wi wl
    have hu0 : 0 ≤ u := by
      obtain ⟨j, hj, _, rfl⟩ := hu
      have := R.def_pos hj
      omega
    rw [hL u hu0]
    split
    · rename_i e
      have lt : ∀ l : Int, 0 ≤ l → (l / 2 = 0 ∨ Done c k (l / 2)) → lv w (litX (bAt c k).1 l) = lv v l := fun l h0 h => by
        refine lv_litX (I.ok _ (by omega)).1 ?_
        rcases h with h | h
        · have hno : ¬ Done c k 0 := fun ⟨j, hj, _, e⟩ => by have := R.def_pos hj; omega
          rw [h, I.off 0 (by omega) hno, lv_zero W.zero, V.zero]
        · exact hv _ h
      rw [M.val w W, lt _ u1 u1', lt _ u2 u2', e, ed]
      have hlt : (ordM c)[k].toNat < c.ands.length := by omega
      have := V.and (ordM c)[k].toNat hlt
      rw [show (((ordM c)[k].toNat : Nat) : Int) = (ordM c)[k] by omega, show gt c.ands (ordM c)[k] = andAt c (ordM c)[k] from rfl] at this
      exact this.symm
    · rename_i e
      exact hv u (dn u hu e)
theorem Right.bInv : ∀ k, k ≤ (ordM c).length → BInv c k (bAt c k)
  | 0, _ => R.bInv0
  | k + 1, h => R.bInv1 h (Right.bInv k (Nat.le_of_succ_le h))
end
end SC
end Go.Proofs.Yticndofcfacopaa
end
section
/- hash: the circuit that Build makes: it is right and in order; its values. -/
set_option linter.unusedVariables false
set_option linter.unusedSimpArgs false
namespace Go.Proofs.Yticndofcfacopaa
namespace SC
open Go.Proofs
noncomputable def bT (c : Circ) : List Int := (bAt c (ordM c).length).1
noncomputable def bG (c : Circ) : List Gate := (bAt c (ordM c).length).2
def bLatch (to : List Int) (x : Tri) : Tri := (litX to x.1, litX to x.2.1, if 1 < x.2.2 then litX to x.2.2 else x.2.2)
noncomputable def bC (c : Circ) : Circ := { max := nB c + (bG c).length, inputs := c.inputs.map (litX (bT c)), latches := c.latches.map (bLatch (bT c)), outputs := c.outputs.map (litX (bT c)), bads := c.bads.map (litX (bT c)), constraints := c.constraints.map (litX (bT c)), justice := c.justice.map fun l => l.map (litX (bT c)), fairness := c.fairness.map (litX (bT c)), ands := bG c, symbols := c.symbols, comments := c.comments }
theorem litX_even {to : List Int} {l : Int} (h : l % 2 = 0) : litX to l = L to (l / 2) := by unfold litX xorb; rw [if_pos h]
section
variable {c : Circ} (R : Right c)
include R
theorem Right.bI : BInv c (ordM c).length (bT c, bG c) := R.bInv _ (Nat.le_refl _)
theorem Right.b_ok {l : Int} (h : 0 ≤ l) : okM (nB c) (bG c) (litX (bT c) l) := BInv.lit R.bI h
theorem Right.bG_len : (bG c).length ≤ c.ands.length := by
  have h1 : (bG c).length ≤ (ordM c).length := R.bI.len
  have := R.ordLen
  omega
theorem Right.b_max : nB c + (bG c).length ≤ c.max := by have := R.bG_len; have := R.nB_le; have := R.ordLen; omega
theorem Right.b_inp {i : Nat} (hi : i < c.inputs.length) : litX (bT c) c.inputs[i] = 2 * (i : Int) + 2 := by
  obtain ⟨hd, e⟩ := R.def_inp hi
  have := R.bI.fst i hd (by omega)
  have h2 := R.def_pos hd
  rw [← e, litX_even (by omega)]
  exact this
theorem Right.b_lat {i : Nat} (hi : i < c.latches.length) : litX (bT c) c.latches[i].1 = 2 * ((c.inputs.length + i : Nat) : Int) + 2 := by
  obtain ⟨hd, e⟩ := R.def_lat hi
  have := R.bI.fst _ hd (by omega)
  have h2 := R.def_pos hd
  rw [← e, litX_even (by omega)]
  exact this
end
end SC
end Go.Proofs.Yticndofcfacopaa
end
section
/- hash: a circuit in order whose gates are a builder's stays as it is when it is built anew. -/
set_option linter.unusedVariables false
set_option linter.unusedSimpArgs false
namespace Go.Proofs.Yticndofcfacopaa
namespace SC
open Go.Proofs
section
variable {c : Circ} (Q : SeqOk c) (G : Gs (nB c) c.ands)
include Q G
end
end SC
end Go.Proofs.Yticndofcfacopaa
end
section
/- hash: the circuit that Build makes, as a circuit that may go in; its steps are those of the circuit. -/
set_option linter.unusedVariables false
set_option linter.unusedSimpArgs false
namespace Go.Proofs.Yticndofcfacopaa
namespace SC
open Go.Proofs
section
variable {c : Circ} (R : Right c)
include R
theorem Right.b_le {l : Int} (h : 0 ≤ l) : 0 ≤ litX (bT c) l ∧ litX (bT c) l ≤ 40000 := by
  have h1 := R.b_ok h
  have h2 := R.b_max
  have h3 := R.m1
  unfold okM at h1
  omega
theorem Right.b_okay (ho : c.Okay) : (bC c).Okay := by
  have le : ∀ {l : Int}, 0 ≤ l → fits (litX (bT c) l) := fun h => by have := R.b_le h; unfold fits; omega
  have hg := R.bG_len
  refine ⟨fun n hn => ?_, fun l hl => ?_, fun x hx => ?_, fun x hx => ?_, ho.symbols⟩
  · have hO := ho.lens
    unfold Circ.lens at hn hO
    simp only [List.mem_cons, List.not_mem_nil, or_false] at hn
    rcases hn with rfl | rfl | rfl | rfl | rfl | rfl | rfl | rfl | rfl | rfl
    · exact hO _ (by simp [bC])
    · exact hO _ (by simp [bC])
    · exact hO _ (by simp [bC])
    · exact hO _ (by simp [bC])
    · exact hO _ (by simp [bC])
    · exact hO _ (by simp [bC])
    · exact hO _ (by simp [bC])
    · have h1 := hO c.ands.length (by simp)
      have h2 : (bC c).ands.length ≤ c.ands.length := hg
      omega
    · exact hO _ (by simp [bC])
    · exact hO _ (by simp [bC])
  · obtain ⟨y, hy, rfl⟩ := List.mem_map.1 (show l ∈ c.justice.map (fun l => l.map (litX (bT c))) from hl)
    rw [List.length_map]
    exact ho.just y hy
  · obtain ⟨y, hy, rfl⟩ := List.mem_map.1 (show x ∈ c.latches.map (bLatch (bT c)) from hx)
    obtain ⟨h1, h2, h3⟩ := R.lat hy
    unfold defR at h1
    unfold inR at h2
    refine ⟨le (by omega), le (by omega), ?_⟩
    show fits (if 1 < y.2.2 then litX (bT c) y.2.2 else y.2.2)
    split
    · exact le (by omega)
    · unfold fits; omega
  · obtain ⟨k, hk, rfl⟩ := List.mem_iff_getElem.1 (show x ∈ bG c from hx)
    have g1 := R.bI.gs.low k hk
    have g2 := R.bI.gs.out k hk
    have h2 := R.b_max
    have h3 := R.m1
    have nn := R.bI.gs.nn
    dsimp only at g1 g2
    refine ⟨?_, ?_, ?_⟩ <;> (unfold fits; omega)
end
end SC
end Go.Proofs.Yticndofcfacopaa
end
section
/- A circuit of its own as entries: its rows apart, and together as one. shape.Copy by entries. -/
set_option linter.unusedVariables false
set_option linter.unusedSimpArgs false
namespace Go.Proofs.Yticndofcfacopaa
namespace SC
open Go.Proofs
/-- A circuit of its own, as an entry. -/
def cirX (base : Nat) (c : Circ) (h js : Hd) : EntX where
  own := fun b => ∃ i, (cirRows c h js js c.justice.length i).v.ownBlock = some b
  ok := fun w => CirOwn w base c h js
  lt := fun w H b ⟨i, hi⟩ => (Rows.lt H hi).2
  keep := fun w w' S H hc hn => Rows.chg H hc fun i b hb => hn b ⟨i, hb⟩
theorem In.cirAt {Γ : Mm} {w : World} {base : Nat} {c : Circ} {h js : Hd} (hi : In Γ (.any (cirX base c h js))) (M : Mem w Γ) : CirAt w c h js := CirOwn.at (hi.ok M)
def rowL (p : Hdl × List Int) : Ent := .vec icell 1 3 p.1.1 p.1.2 p.2
/-- The rows of a circuit, by their places. -/
def cirG (c : Circ) (h js : Hd) : Nat → Ent
  | 1 => rowL (h 1, c.inputs)
  | 2 => .vec tcells 3 83 (h 2).1 (h 2).2 c.latches
  | 3 => rowL (h 3, c.outputs)
  | 4 => rowL (h 4, c.bads)
  | 5 => rowL (h 5, c.constraints)
  | 6 => .vec encS 1 22 (h 6).1 (h 6).2 (jps c js)
  | 7 => rowL (h 7, c.fairness)
  | 8 => .vec tcells 3 57 (h 8).1 (h 8).2 c.ands
  | 9 => .vec scells 3 110 (h 9).1 (h 9).2 c.symbols
  | 10 => .vec bcell 1 9 (h 10).1 (h 10).2 c.comments
  | k + 11 => rowL (js k, c.justice.getD k [])
  | 0 => rowL ((none, 0), [])
def cirIx (c : Circ) : List Nat := [2, 6, 8, 9, 10, 1, 3, 4, 5, 7] ++ (List.range c.justice.length).map (· + 11)
theorem cirIx_nodup (c : Circ) : (cirIx c).Nodup := by
  unfold cirIx
  rw [List.nodup_append]
  refine ⟨by decide, nodup_map (fun a b e => by simpa using e) List.nodup_range, fun a ha b hb e => ?_⟩
  obtain ⟨k, _, rfl⟩ := List.mem_map.1 hb
  subst e
  simp at ha
theorem mem_cirIx {c : Circ} {i : Nat} : i ∈ cirIx c ↔ (1 ≤ i ∧ i ≤ 10) ∨ (11 ≤ i ∧ i - 11 < c.justice.length) := by
  unfold cirIx
  rw [List.mem_append, List.mem_map]
  constructor
  · rintro (h | ⟨k, hk, rfl⟩)
    · simp at h
      omega
    · have := List.mem_range.1 hk
      right
      omega
  · rintro (h | h)
    · left
      simp
      omega
    · exact .inr ⟨i - 11, List.mem_range.2 h.2, by omega⟩
theorem rw_nil {w : World} {base : Nat} : nilRw.own w base := World.ownsRow_nil _ _ _ _
theorem cirG_own {w : World} {base : Nat} {c : Circ} {h js : Hd} {i : Nat} (hi : i ∈ cirIx c) (H : (cirRows c h js js c.justice.length i).own w base) : (cirG c h js i).ok w := by
  match i with
  | 1 | 2 | 3 | 4 | 5 | 7 | 8 | 9 | 10 => exact ownsRow_low H
  | 6 =>
    have e6 : ((List.range c.justice.length).map fun k => if k < c.justice.length then slc js k (c.justice.getD k []).length else slc js k (c.justice.getD k []).length) = jcells c js := by
      unfold jcells
      exact List.map_congr_left fun k hk => by split <;> rfl
    simp only [Rw.own, cirRows] at H
    rw [e6, ← jps_cells] at H
    have H' : w.ownsRow base 22 1 (.slice (h 6).1 (jps c js).length (h 6).2) (jps c js).length ((jps c js).flatMap encS) := by rw [jps_len]; exact H
    exact ownsRow_low H'
  | k + 11 =>
    have hk : k < c.justice.length := by rw [mem_cirIx] at hi; omega
    simp only [Rw.own, cirRows, if_pos hk] at H
    exact ownsRow_low H
  | 0 => rw [mem_cirIx] at hi; omega
theorem own_cirG {w : World} {c : Circ} {h js : Hd} {i : Nat} (hi : i ∈ cirIx c) (H : (cirG c h js i).ok w) : (cirRows c h js js c.justice.length i).own w 0 := by
  match i with
  | 1 | 2 | 3 | 4 | 5 | 7 | 8 | 9 | 10 => exact H
  | 6 =>
    have e6 : ((List.range c.justice.length).map fun k => if k < c.justice.length then slc js k (c.justice.getD k []).length else slc js k (c.justice.getD k []).length) = jcells c js := by
      unfold jcells
      exact List.map_congr_left fun k hk => by split <;> rfl
    simp only [Rw.own, cirRows]
    rw [e6, ← jps_cells]
    have H' : w.ownsRow 0 22 1 (.slice (h 6).1 (jps c js).length (h 6).2) (jps c js).length ((jps c js).flatMap encS) := H
    rw [jps_len] at H'
    exact H'
  | k + 11 =>
    have hk : k < c.justice.length := by rw [mem_cirIx] at hi; omega
    simp only [Rw.own, cirRows, if_pos hk]
    exact H
  | 0 => exact rw_nil
theorem cirG_blk {c : Circ} {h js : Hd} {i k : Nat} (hi : i ∈ cirIx c) : (cirG c h js i).own k ↔ (cirRows c h js js c.justice.length i).v.ownBlock = some k := by
  match i with
  | 1 | 2 | 3 | 4 | 5 | 7 | 8 | 9 | 10 => exact Iff.rfl
  | 6 =>
    show (Value.slice (h 6).1 (jps c js).length (h 6).2).ownBlock = some k ↔ (Value.slice (h 6).1 c.justice.length (h 6).2).ownBlock = some k
    rw [jps_len]
  | n + 11 =>
    have hk : n < c.justice.length := by rw [mem_cirIx] at hi; omega
    simp only [cirRows, if_pos hk]
    exact Iff.rfl
  | 0 => rw [mem_cirIx] at hi; omega
theorem cirRows_no {c : Circ} {h js : Hd} {i : Nat} (hi : i ∉ cirIx c) : cirRows c h js js c.justice.length i = nilRw := by
  rw [mem_cirIx] at hi
  match i with
  | 1 | 2 | 3 | 4 | 5 | 6 | 7 | 8 | 9 | 10 => omega
  | n + 11 =>
    have hk : ¬ n < c.justice.length := by omega
    simp only [cirRows, if_neg hk]
  | 0 => rfl
theorem pair_nodup {α : Type} {R : α → α → Prop} : ∀ {l : List α}, l.Nodup → (∀ a ∈ l, ∀ b ∈ l, a ≠ b → R a b) → l.Pairwise R
  | [], _, _ => .nil
  | a :: r, h, hR => by
    rw [List.nodup_cons] at h
    refine List.pairwise_cons.2 ⟨fun b hb => hR a List.mem_cons_self b (List.mem_cons_of_mem _ hb) fun e => h.1 (e ▸ hb), pair_nodup h.2 fun x hx y hy => hR x (List.mem_cons_of_mem _ hx) y (List.mem_cons_of_mem _ hy)⟩
theorem pair_all {α : Type} {R : α → α → Prop} (hs : ∀ a b, R a b → R b a) : ∀ {l : List α}, l.Pairwise R → ∀ a ∈ l, ∀ b ∈ l, a ≠ b → R a b
  | [], _, a, ha => by cases ha
  | x :: r, h, a, ha => fun b hb hne => by
    obtain ⟨h1, h2⟩ := List.pairwise_cons.1 h
    rcases List.mem_cons.1 ha with rfl | ha' <;> rcases List.mem_cons.1 hb with rfl | hb'
    · exact absurd rfl hne
    · exact h1 b hb'
    · exact hs _ _ (h1 a ha')
    · exact pair_all hs h2 a ha' b hb' hne
theorem CirOwn.mem {w : World} {base : Nat} {c : Circ} {h js : Hd} (H : CirOwn w base c h js) : Mem w ((cirIx c).map (cirG c h js)) := by
  refine ⟨fun E hE => ?_, ?_⟩
  · obtain ⟨i, hi, rfl⟩ := List.mem_map.1 hE
    exact cirG_own hi (Rows.own H i)
  · rw [List.pairwise_map]
    exact pair_nodup (cirIx_nodup c) fun a ha b hb hne k h1 h2 => Rows.apart H a b k hne ((cirG_blk ha).1 h1) ((cirG_blk hb).1 h2)
theorem Mem.cir {w : World} {c : Circ} {h js : Hd} (M : Mem w ((cirIx c).map (cirG c h js))) : CirOwn w 0 c h js := by
  have ap := M.ap
  rw [List.pairwise_map] at ap
  have ap := pair_all (fun a b h => Ent.apart.symm h) ap
  refine ⟨fun i => ?_, fun i j k hne hi hj => ?_⟩
  · by_cases h1 : i ∈ cirIx c
    · exact own_cirG h1 (M.ok _ (List.mem_map.2 ⟨i, h1, rfl⟩))
    · rw [cirRows_no h1]
      exact rw_nil
  · by_cases h1 : i ∈ cirIx c
    · by_cases h2 : j ∈ cirIx c
      · exact ap i h1 j h2 hne k ((cirG_blk h1).2 hi) ((cirG_blk h2).2 hj)
      · rw [cirRows_no h2] at hj
        cases hj
    · rw [cirRows_no h1] at hi
      cases hi
/-- The lists of numbers of a circuit: inputs, outputs, bads, constraints, fairness, justice. -/
def rowsOf (c : Circ) (h js : Hd) : List (Hdl × List Int) := [(h 1, c.inputs), (h 3, c.outputs), (h 4, c.bads), (h 5, c.constraints), (h 7, c.fairness)] ++ jps c js
def bE (c : Circ) (h js : Hd) : Mm := .vec tcells 3 83 (h 2).1 (h 2).2 c.latches :: .vec encS 1 22 (h 6).1 (h 6).2 (jps c js) :: .vec tcells 3 57 (h 8).1 (h 8).2 c.ands :: .vec scells 3 110 (h 9).1 (h 9).2 c.symbols :: .vec bcell 1 9 (h 10).1 (h 10).2 c.comments :: fam rowJ (rowsOf c h js)
theorem flat_row : ∀ ps : List (Hdl × List Int), ps.flatMap rowJ = ps.map rowL
  | [] => rfl
  | a :: r => by rw [List.flatMap_cons, flat_row r]; rfl
theorem fam_perm (ps : List (Hdl × List Int)) : (ps.map rowL).Perm (fam rowJ ps) := by
  have : fam rowJ ps = (ps.map rowL).reverse := by
    unfold fam
    rw [← List.map_reverse]
    exact flat_row _
  rw [this]
  exact (List.reverse_perm _).symm
theorem bE_perm (c : Circ) (h js : Hd) : ((cirIx c).map (cirG c h js)).Perm (bE c h js) := by
  have e : (cirIx c).map (cirG c h js) = [cirG c h js 2, cirG c h js 6, cirG c h js 8, cirG c h js 9, cirG c h js 10] ++ (rowsOf c h js).map rowL := by
    unfold cirIx rowsOf jps
    simp only [List.map_append, List.map_map, List.map_cons, List.map_nil, List.cons_append, List.nil_append]
    rfl
  rw [e]
  exact (fam_perm _).append_left [cirG c h js 2, cirG c h js 6, cirG c h js 8, cirG c h js 9, cirG c h js 10]
/-- The rows together are a circuit of its own. -/
theorem bE_cir (c : Circ) (h js : Hd) : Wk (bE c h js) [.any (cirX 0 c h js)] := by
  refine ⟨fun w M => Mem.one (E := .any (cirX 0 c h js)) (Mem.cir (M.perm (bE_perm c h js).symm)), fun k hk => ?_⟩
  rw [owns_perm (bE_perm c h js).symm]
  have hk' : ∃ i, (cirRows c h js js c.justice.length i).v.ownBlock = some k := (owns_cons.1 hk).elim id fun h => absurd h owns_nil
  obtain ⟨i, hi⟩ := hk'
  by_cases h1 : i ∈ cirIx c
  · exact ⟨_, List.mem_map.2 ⟨i, h1, rfl⟩, (cirG_blk h1).2 hi⟩
  · rw [cirRows_no h1] at hi
    cases hi
/-- shape.Copy. -/
theorem CopyG {w : World} {c : Circ} {h js : Hd} (H : CirAt w c h js) (hf : c.Fits) : CVN Try.prog 70 [.agg (ccells c h).toArray] w fun v N => ∃ h' js', v = .agg (ccells c h').toArray ∧ N = bE c h' js' :=
  CV.mono (Copy_cv H hf) fun v w' ⟨h', js', e1, hH, hc⟩ => by
    refine ⟨bE c h' js', Mem.join (hH.mem.perm (bE_perm c h' js')) (.one hc) fun k h1 ⟨F, hF, h2⟩ => ?_, h', js', e1, rfl⟩
    simp only [List.mem_singleton] at hF
    subst hF
    rw [owns_perm (bE_perm c h' js').symm] at h1
    obtain ⟨E, hE, hk⟩ := h1
    obtain ⟨i, hi, rfl⟩ := List.mem_map.1 hE
    have := (Rows.lt hH ((cirG_blk hi).1 hk)).1
    have := h2.1
    omega
theorem spoilCirG {w : World} {base : Nat} {c : Circ} {h js : Hd} {mark : Int} (ho : c.Okay) (M : Mem w [.any (cirX base c h js)]) : CVM Try.prog 36 [.agg (ccells c h).toArray, nu mark] w [.any (cirX base c h js)] fun v N => N = [] :=
  CV.mono (spoilCircuit_cv (mark := mark) ((In.here (E := .any (cirX base c h js)) (Γ := [])).ok M) ho) fun v w' h => ⟨[], .one (h.mono fun k hk => owns_cons.2 (.inl hk)), rfl⟩
end SC
end Go.Proofs.Yticndofcfacopaa
end
section
/- The builder of the reference: its memory; what each of its functions does. -/
set_option linter.unusedVariables false
set_option linter.unusedSimpArgs false
namespace Go.Proofs.Yticndofcfacopaa
namespace SC
open Go.Proofs Go.Maps
attribute [local irreducible] WC WL WX WS WO OX Does DoesU Enters CV Pure thenQ blockQ retQ Wants
set_option maxRecDepth 100000
structure RParts (w : World) (g : Nat) (S : Nat → Prop) (i l : Int) (gs : List Gate) (v : Value) : Prop where
  head : Blk w g 151 [num i, num l, v]
  row : w.ownsRow 0 57 3 v gs.length (flat gs)
  hg : S g
  hv : ∀ k, v.ownBlock = some k → S k
  lt : ∀ k, S k → k < w.heap.size
def Rbl (w : World) (g : Nat) (S : Nat → Prop) (i l : Int) (gs : List Gate) : Prop := ∃ v, RParts w g S i l gs v
theorem RParts.chg {w w' : World} {g : Nat} {S : Nat → Prop} {i l : Int} {gs : List Gate} {v : Value} (h : RParts w g S i l gs v) {T : Nat → Prop} (hc : Chg w w' T) (hd : ∀ k, S k → ¬ T k) : RParts w' g S i l gs v :=
  ⟨h.head.chg hc (hd _ h.hg), row_chg h.row hc fun k hk => hd k (h.hv k hk), h.hg, h.hv, fun k hk => Nat.lt_of_lt_of_le (h.lt k hk) hc.size⟩
theorem Rbl.chg {w w' : World} {g : Nat} {S : Nat → Prop} {i l : Int} {gs : List Gate} (h : Rbl w g S i l gs) {T : Nat → Prop} (hc : Chg w w' T) (hd : ∀ k, S k → ¬ T k) : Rbl w' g S i l gs := by
  obtain ⟨v, h⟩ := h
  exact ⟨v, h.chg hc hd⟩
def RAfter (w : World) (g : Nat) (S : Nat → Prop) (i l : Int) (r : Int × Int × List Gate) (v : Value) (w' : World) : Prop :=
  v = .tuple #[num r.1, num r.2.1] ∧ ∃ S', Rbl w' g S' i l r.2.2 ∧ Step w S w' S'
theorem RAfter.same {w w' : World} {g : Nat} {S : Nat → Prop} {i l a b : Int} {gs : List Gate} {r : Int × Int × List Gate} (h : Rbl w' g S i l gs) (hc : Chg w w' S) (hr : r = (a, b, gs)) : RAfter w g S i l r (.tuple #[num a, num b]) w' := by
  subst hr
  exact ⟨rfl, S, h, Step.of_chg hc⟩
theorem Max_cv {w : World} {g : Nat} {i l : Int} {A : Option Addr} {n c : Nat}
   (hb : Blk w g 151 [num i, num l, .slice A n c]) (hi : 0 ≤ i) (hl : 0 ≤ l) (hn : i + l + n ≤ 16384) :
    CV Try.prog 124 [ptr g] w fun v w' => v = num (i + l + n) ∧ w' = w.drew := by
  refine enter 18 [2] Try.func124 rfl rfl rfl (by decide) rfl ?_
  repeat' (first
 | (apply WC_seqK; intro K hK)
 | (apply hK; clear hK)
 | (clear hK; apply hK; clear hK)
 | (clear hK; clear hK; apply hK; clear hK)
 | (clear hK; clear hK; clear hK; apply hK; clear hK)
 | (apply WC_block)
 | (apply WC_region)
 | (apply WL_nil)
 | (apply thenQ_normal)
 | (apply thenQ_ret)
 | (apply thenQ_exit)
 | (apply blockQ_hit)
 | (apply blockQ_miss; eq_refl)
 | (apply blockQ_ret)
 | (apply blockQ_normal)
 | (apply WC_ret)
 | (apply WC_exit)
 | (apply WC_skip)
 | (apply WC_label)
 | (apply WC_if_true; eq_refl)
 | (apply WC_if_false; eq_refl)
 | (apply ret1; eq_refl)
 | (apply ret2; eq_refl; eq_refl)
 | (apply ret3; eq_refl; eq_refl; eq_refl)
 | (apply ret0)
 | (apply ret0n)
 | (apply WL_on0; eq_refl)
 | (apply WL_onG; eq_refl; eq_refl; eq_refl; eq_refl)
 | (apply WL_noG; eq_refl; eq_refl; eq_refl; eq_refl)
 | (apply X_pv; eq_refl; first | exact trivial | omega)
 | (apply X_field; eq_refl)
 | (apply X_loadR; eq_refl; (first | assumption | (apply Blk.alloc; assumption) | apply Blk.new | apply Blk.newA | (apply Blk.alloc; first | apply Blk.newA | (apply Blk.alloc; first | assumption | apply Blk.newA))); eq_refl)
 | (apply X_loadW; eq_refl; (first | assumption | (apply Blk.alloc; assumption) | apply Blk.new | apply Blk.newA | (apply Blk.alloc; first | apply Blk.newA | (apply Blk.alloc; first | assumption | apply Blk.newA))); eq_refl)
 | (apply X_loadC; eq_refl; (first | assumption | (apply cel; first | assumption | (apply cel; assumption))))
 | (apply X_cmpT; eq_refl; eq_refl; omega)
 | (apply X_cmpF; eq_refl; eq_refl; omega)
 | (apply X_cmp; eq_refl; eq_refl; all_goals intro _)
 | (apply X_len; eq_refl)
 | (apply X_lenS; eq_refl)
 | (apply X_index; eq_refl; eq_refl; omega; omega)
 | (apply X_eqB; eq_refl; eq_refl)
 | (apply X_neqB; eq_refl; eq_refl)
 | (apply X_eqP; eq_refl; eq_refl)
 | (apply X_eqL; eq_refl; eq_refl)
 | (apply X_max; eq_refl; eq_refl)
 | (apply X_min; eq_refl; eq_refl)
 | (apply X_cap; eq_refl)
 | (apply X_alloc)
 | (apply X_box; eq_refl)
 | (apply X_makeMap))
  refine WC_draws [(0, true), (1, true), (2, true), (3, true), (4, true), (5, true), (6, true), (7, true), (8, true), (9, true), (10, true), (11, true), (12, true), (13, true), (14, true), (15, true)] (fun w => Blk w g 151 [num i, num l, .slice A n c]) mixedB (by kernel_rfl) (by kernel_rfl) ?_
  have hS : Blk w.drew g 151 [num i, num l, .slice A n c] := hb
  repeat' (first
 | (apply WC_seqK; intro K hK)
 | (apply hK; clear hK)
 | (clear hK; apply hK; clear hK)
 | (clear hK; clear hK; apply hK; clear hK)
 | (clear hK; clear hK; clear hK; apply hK; clear hK)
 | (apply WC_block)
 | (apply WC_region)
 | (apply WL_nil)
 | (apply thenQ_normal)
 | (apply thenQ_ret)
 | (apply thenQ_exit)
 | (apply blockQ_hit)
 | (apply blockQ_miss; eq_refl)
 | (apply blockQ_ret)
 | (apply blockQ_normal)
 | (apply WC_ret)
 | (apply WC_exit)
 | (apply WC_skip)
 | (apply WC_label)
 | (apply WC_if_true; eq_refl)
 | (apply WC_if_false; eq_refl)
 | (apply ret1; eq_refl)
 | (apply ret2; eq_refl; eq_refl)
 | (apply ret3; eq_refl; eq_refl; eq_refl)
 | (apply ret0)
 | (apply ret0n)
 | (apply WS_nil)
 | (apply WS_next; eq_refl)
 | (apply WO_on0; eq_refl)
 | (apply WO_onG; eq_refl; eq_refl; eq_refl; eq_refl)
 | (apply WO_noG; eq_refl; eq_refl; eq_refl; eq_refl; (first | assumption | exact trivial))
 | (apply O_pv; eq_refl; (first | exact trivial | omega); (first | assumption | exact trivial))
 | (apply O_field; eq_refl; (first | assumption | exact trivial))
 | (apply O_loadR; eq_refl; (first | (intro _ h; exact h) | (intro _ h; exact h.1) | (intro _ h; exact h.2) | (intro _ h; exact h.2.1) | (intro _ h; exact h.2.2) | (intro _ h; exact h.2.2.1) | (intro _ h; exact h.2.2.2)); eq_refl; (first | assumption | exact trivial))
 | (apply O_loadW; eq_refl; (first | (intro _ h; exact h) | (intro _ h; exact h.1) | (intro _ h; exact h.2) | (intro _ h; exact h.2.1) | (intro _ h; exact h.2.2) | (intro _ h; exact h.2.2.1) | (intro _ h; exact h.2.2.2)); eq_refl; (first | assumption | exact trivial))
 | (apply O_loadC; eq_refl; (first | (intro _ h; exact h) | (intro _ h; exact h.1) | (intro _ h; exact h.2) | (intro _ h; exact h.2.1) | (intro _ h; exact h.2.2) | (intro _ h; exact h.2.2.1) | (intro _ h; exact h.2.2.2)); (first | assumption | exact trivial))
 | (apply O_cmpT; eq_refl; eq_refl; omega; (first | assumption | exact trivial))
 | (apply O_cmpF; eq_refl; eq_refl; omega; (first | assumption | exact trivial))
 | (apply O_cmp; eq_refl; eq_refl; (first | assumption | exact trivial); all_goals intro _)
 | (apply O_len; eq_refl; (first | assumption | exact trivial))
 | (apply O_lenS; eq_refl; (first | assumption | exact trivial))
 | (apply O_index; eq_refl; eq_refl; omega; omega; (first | assumption | exact trivial))
 | (apply O_eqB; eq_refl; eq_refl; (first | assumption | exact trivial))
 | (apply O_neqB; eq_refl; eq_refl; (first | assumption | exact trivial))
 | (apply O_pvL; eq_refl; (first | exact trivial | omega); (first | (intro _; assumption) | exact lo (by kernel_rfl)))
 | (apply WL_on0; eq_refl)
 | (apply WL_onG; eq_refl; eq_refl; eq_refl; eq_refl)
 | (apply WL_noG; eq_refl; eq_refl; eq_refl; eq_refl)
 | (apply X_pv; eq_refl; first | exact trivial | omega)
 | (apply X_field; eq_refl)
 | (apply X_loadR; eq_refl; (first | assumption | (apply Blk.alloc; assumption) | apply Blk.new | apply Blk.newA | (apply Blk.alloc; first | apply Blk.newA | (apply Blk.alloc; first | assumption | apply Blk.newA))); eq_refl)
 | (apply X_loadW; eq_refl; (first | assumption | (apply Blk.alloc; assumption) | apply Blk.new | apply Blk.newA | (apply Blk.alloc; first | apply Blk.newA | (apply Blk.alloc; first | assumption | apply Blk.newA))); eq_refl)
 | (apply X_loadC; eq_refl; (first | assumption | (apply cel; first | assumption | (apply cel; assumption))))
 | (apply X_cmpT; eq_refl; eq_refl; omega)
 | (apply X_cmpF; eq_refl; eq_refl; omega)
 | (apply X_cmp; eq_refl; eq_refl; all_goals intro _)
 | (apply X_len; eq_refl)
 | (apply X_lenS; eq_refl)
 | (apply X_index; eq_refl; eq_refl; omega; omega)
 | (apply X_eqB; eq_refl; eq_refl)
 | (apply X_neqB; eq_refl; eq_refl)
 | (apply X_eqP; eq_refl; eq_refl)
 | (apply X_eqL; eq_refl; eq_refl)
 | (apply X_max; eq_refl; eq_refl)
 | (apply X_min; eq_refl; eq_refl)
 | (apply X_cap; eq_refl)
 | (apply X_alloc)
 | (apply X_box; eq_refl)
 | (apply X_makeMap))
  exact ⟨rfl, rfl⟩
section
variable {w : World} {g : Nat} {S : Nat → Prop} {i l : Int} {gs : List Gate} {x y s : Int}
theorem flat_get : ∀ (gs : List Gate) (k : Nat) (hk : k < gs.length), (flat gs)[k * 3 + 0]? = some (num gs[k].1) ∧ (flat gs)[k * 3 + 1]? = some (num gs[k].2.1) ∧ (flat gs)[k * 3 + 2]? = some (num gs[k].2.2)
  | g :: r, 0, _ => ⟨rfl, rfl, rfl⟩
  | g :: r, k + 1, hk => by
    have ih := flat_get r k (by simpa using hk)
    have e : ∀ j, (flat (g :: r))[(k + 1) * 3 + j]? = (flat r)[k * 3 + j]? := fun j => by
      show (gcells g ++ flat r)[(k + 1) * 3 + j]? = _
      rw [List.getElem?_append_right (by simp [gcells]; omega)]
      congr 1
      simp [gcells]; omega
    simp only [e]
    simpa using ih
theorem gate_cells {gb n c : Nat} (h : w.ownsRow 0 57 3 (.slice (some ⟨gb, 0, none⟩) n c) n (flat gs)) (hn : n = gs.length) (k : Nat) (hk : k < gs.length) :
    w.cell? ⟨gb, 0 + (k : Int).toNat * 3 + 0, none⟩ = some (num gs[k].1) ∧ w.cell? ⟨gb, 0 + (k : Int).toNat * 3 + 1, none⟩ = some (num gs[k].2.1) ∧ w.cell? ⟨gb, 0 + (k : Int).toNat * 3 + 2, none⟩ = some (num gs[k].2.2) := by
  obtain ⟨h0, h1, h2⟩ := flat_get gs k hk
  have e : (k : Int).toNat = k := by omega
  refine ⟨?_, ?_, ?_⟩ <;> rw [e, Nat.zero_add, h.cellAt _ (by omega)] <;> assumption
end
end SC
end Go.Proofs.Yticndofcfacopaa
end
section
/- The builder of the reference: 'and'. -/
set_option linter.unusedVariables false
set_option linter.unusedSimpArgs false
namespace Go.Proofs.Yticndofcfacopaa
namespace SC
open Go.Proofs Go.Maps
attribute [local irreducible] WC WL WX WS WO OX Does DoesU Enters CV Pure thenQ blockQ retQ Wants
set_option maxRecDepth 100000
theorem RParts.drew {w : World} {g : Nat} {S : Nat → Prop} {i l : Int} {gs : List Gate} {v : Value} (h : RParts w g S i l gs v) : RParts w.drew g S i l gs v := ⟨h.head, h.row, h.hg, h.hv, h.lt⟩
theorem RParts.alloc {w : World} {g : Nat} {S : Nat → Prop} {i l : Int} {gs : List Gate} {v : Value} (o : Obj) (h : RParts w g S i l gs v) : RParts (w.alloc o) g S i l gs v := h.chg (Chg.alloc w o none_) fun _ _ => id
theorem drop_step {gs : List Gate} {k : Nat} (hk : k < gs.length) (p q : Int) : outOf (gs.drop k) p q = if gs[k].2.1 = p ∧ gs[k].2.2 = q then gs[k].1 else outOf (gs.drop (k + 1)) p q := by
  rw [List.drop_eq_getElem_cons hk]
  rfl
theorem rand_cv {w : World} {g : Nat} {S : Nat → Prop} {i l : Int} {gs : List Gate} {x y : Int} (hB : Rbl w g S i l gs) (hi : 0 ≤ i) (hl : 0 ≤ l) (hI : Inv (i + l) gs) (hx : okM (i + l) gs x) (hy : okM (i + l) gs y) :
    CV Try.prog 122 [ptr g, num x, num y] w (RAfter w g S i l (andM (i + l) gs x y)) := by
  obtain ⟨v, hP⟩ := hB
  obtain ⟨A, c, rfl⟩ := row_form hP.row
  have hx' := hx; have hy' := hy
  unfold okM at hx' hy'
  have htop := hI.top
  have hH := hP.head
  show CV _ _ _ _ (RAfter w g S i l (andP (i + l) gs (max x y) (min x y)))
  refine enter 108 [6, 7] Try.func122 rfl rfl rfl (by decide) rfl ?_
  repeat' (first
 | (apply WC_seqK; intro K hK)
 | (apply hK; clear hK)
 | (clear hK; apply hK; clear hK)
 | (clear hK; clear hK; apply hK; clear hK)
 | (clear hK; clear hK; clear hK; apply hK; clear hK)
 | (apply WC_block)
 | (apply WC_region)
 | (apply WL_nil)
 | (apply thenQ_normal)
 | (apply thenQ_ret)
 | (apply thenQ_exit)
 | (apply blockQ_hit)
 | (apply blockQ_miss; eq_refl)
 | (apply blockQ_ret)
 | (apply blockQ_normal)
 | (apply WC_ret)
 | (apply WC_exit)
 | (apply WC_skip)
 | (apply WC_label)
 | (apply WC_if_true; eq_refl)
 | (apply WC_if_false; eq_refl)
 | (apply ret1; eq_refl)
 | (apply ret2; eq_refl; eq_refl)
 | (apply ret3; eq_refl; eq_refl; eq_refl)
 | (apply ret0)
 | (apply ret0n)
 | (apply WL_on0; eq_refl)
 | (apply WL_onG; eq_refl; eq_refl; eq_refl; eq_refl)
 | (apply WL_noG; eq_refl; eq_refl; eq_refl; eq_refl)
 | (apply X_pv; eq_refl; first | exact trivial | omega)
 | (apply X_field; eq_refl)
 | (apply X_loadR; eq_refl; (first | assumption | (apply Blk.alloc; assumption) | apply Blk.new | apply Blk.newA | (apply Blk.alloc; first | apply Blk.newA | (apply Blk.alloc; first | assumption | apply Blk.newA))); eq_refl)
 | (apply X_loadW; eq_refl; (first | assumption | (apply Blk.alloc; assumption) | apply Blk.new | apply Blk.newA | (apply Blk.alloc; first | apply Blk.newA | (apply Blk.alloc; first | assumption | apply Blk.newA))); eq_refl)
 | (apply X_loadC; eq_refl; (first | assumption | (apply cel; first | assumption | (apply cel; assumption))))
 | (apply X_cmpT; eq_refl; eq_refl; omega)
 | (apply X_cmpF; eq_refl; eq_refl; omega)
 | (apply X_cmp; eq_refl; eq_refl; all_goals intro _)
 | (apply X_len; eq_refl)
 | (apply X_lenS; eq_refl)
 | (apply X_index; eq_refl; eq_refl; omega; omega)
 | (apply X_eqB; eq_refl; eq_refl)
 | (apply X_neqB; eq_refl; eq_refl)
 | (apply X_eqP; eq_refl; eq_refl)
 | (apply X_eqL; eq_refl; eq_refl)
 | (apply X_max; eq_refl; eq_refl)
 | (apply X_min; eq_refl; eq_refl)
 | (apply X_cap; eq_refl)
 | (apply X_alloc)
 | (apply X_box; eq_refl)
 | (apply X_makeMap)
 | (apply X_pure; apply build57_0_1_2 <;> eq_refl)
 | (apply X_does; apply buildS25_1 <;> eq_refl))
  any_goals (exact RAfter.same ⟨_, hP⟩ (Chg.refl _ _) (by first | exact andP_zero (by omega) | exact andP_same (by omega) (by omega)))
  all_goals
    have hz1 : ¬ (min x y = 0 ∨ (max x y = min x y + 1 ∧ min x y % 2 = 0)) := by omega
    have hz2 : ¬ (min x y = 1 ∨ max x y = min x y) := by omega
    have hp1 : max x y ≤ 32769 := by omega
    have hp0 : 0 ≤ max x y := by omega
    have hq1 : min x y ≤ 32769 := by omega
    have hq0 : 0 ≤ min x y := by omega
    generalize max x y = p at *
    generalize min x y = q at *
    clear hx hy hx' hy'
    refine WC_loop (fun k : Nat => [(0, ptr g), (8, num p), (9, num q), (10, num k)]) (fun k w1 => w1 = w ∧ k ≤ gs.length ∧ outOf (gs.drop k) p q = outOf gs p q) (fun k => gs.length - k) 0 ⟨rfl, rfl, rfl, rfl, trivial⟩ ⟨rfl, Nat.zero_le _, rfl⟩ ?_
    rintro k w1 ⟨rfl, hk, hout⟩
    rcases Nat.lt_or_ge k gs.length with hlt | hge
    · rcases hP.row.2 with ⟨hv, hn⟩ | ⟨gb, cap, cur, hv, _⟩
      · omega
      cases hv
      obtain ⟨hc0, hc1, hc2⟩ := gate_cells hP.row rfl k hlt
      have hst := drop_step hlt p q
      have hpos := hI.outs gs[k] (List.getElem_mem hlt)
      repeat' (first
 | (apply WC_seqK; intro K hK)
 | (apply hK; clear hK)
 | (clear hK; apply hK; clear hK)
 | (clear hK; clear hK; apply hK; clear hK)
 | (clear hK; clear hK; clear hK; apply hK; clear hK)
 | (apply WC_block)
 | (apply WC_region)
 | (apply WL_nil)
 | (apply thenQ_normal)
 | (apply thenQ_ret)
 | (apply thenQ_exit)
 | (apply blockQ_hit)
 | (apply blockQ_miss; eq_refl)
 | (apply blockQ_ret)
 | (apply blockQ_normal)
 | (apply WC_ret)
 | (apply WC_exit)
 | (apply WC_skip)
 | (apply WC_label)
 | (apply WC_if_true; eq_refl)
 | (apply WC_if_false; eq_refl)
 | (apply ret1; eq_refl)
 | (apply ret2; eq_refl; eq_refl)
 | (apply ret3; eq_refl; eq_refl; eq_refl)
 | (apply ret0)
 | (apply ret0n)
 | (apply WL_on0; eq_refl)
 | (apply WL_onG; eq_refl; eq_refl; eq_refl; eq_refl)
 | (apply WL_noG; eq_refl; eq_refl; eq_refl; eq_refl)
 | (apply X_pv; eq_refl; first | exact trivial | omega)
 | (apply X_field; eq_refl)
 | (apply X_loadR; eq_refl; (first | assumption | (apply Blk.alloc; assumption) | apply Blk.new | apply Blk.newA | (apply Blk.alloc; first | apply Blk.newA | (apply Blk.alloc; first | assumption | apply Blk.newA))); eq_refl)
 | (apply X_loadW; eq_refl; (first | assumption | (apply Blk.alloc; assumption) | apply Blk.new | apply Blk.newA | (apply Blk.alloc; first | apply Blk.newA | (apply Blk.alloc; first | assumption | apply Blk.newA))); eq_refl)
 | (apply X_loadC; eq_refl; (first | assumption | (apply cel; first | assumption | (apply cel; assumption))))
 | (apply X_cmpT; eq_refl; eq_refl; omega)
 | (apply X_cmpF; eq_refl; eq_refl; omega)
 | (apply X_cmp; eq_refl; eq_refl; all_goals intro _)
 | (apply X_len; eq_refl)
 | (apply X_lenS; eq_refl)
 | (apply X_index; eq_refl; eq_refl; omega; omega)
 | (apply X_eqB; eq_refl; eq_refl)
 | (apply X_neqB; eq_refl; eq_refl)
 | (apply X_eqP; eq_refl; eq_refl)
 | (apply X_eqL; eq_refl; eq_refl)
 | (apply X_max; eq_refl; eq_refl)
 | (apply X_min; eq_refl; eq_refl)
 | (apply X_cap; eq_refl)
 | (apply X_alloc)
 | (apply X_box; eq_refl)
 | (apply X_makeMap)
 | (apply X_pure; apply build57_0_1_2 <;> eq_refl)
 | (apply X_does; apply buildS25_1 <;> eq_refl))
      · rw [if_pos (by constructor <;> assumption)] at hst
        exact RAfter.same ⟨_, hP⟩ (Chg.refl _ _) (by rw [andP_hit hz1 hz2 (by omega), ← hout, hst])
      · rw [if_neg (by omega)] at hst
        exact ⟨k + 1, ⟨rfl, rfl, rfl, rfl, trivial⟩, ⟨rfl, hlt, by rw [← hst]; exact hout⟩, by omega⟩
      · rw [if_neg (by omega)] at hst
        exact ⟨k + 1, ⟨rfl, rfl, rfl, rfl, trivial⟩, ⟨rfl, hlt, by rw [← hst]; exact hout⟩, by omega⟩
    · rw [List.drop_eq_nil_of_le hge] at hout
      have hno : ¬ 0 < outOf gs p q := by rw [← hout]; simp [outOf]
      repeat' (first
 | (apply X_fn; eq_refl; (apply Max_cv; assumption; assumption; assumption; assumption); rintro _ _ ⟨rfl, rfl⟩)
 | (apply WC_seqK; intro K hK)
 | (apply hK; clear hK)
 | (clear hK; apply hK; clear hK)
 | (clear hK; clear hK; apply hK; clear hK)
 | (clear hK; clear hK; clear hK; apply hK; clear hK)
 | (apply WC_block)
 | (apply WC_region)
 | (apply WL_nil)
 | (apply thenQ_normal)
 | (apply thenQ_ret)
 | (apply thenQ_exit)
 | (apply blockQ_hit)
 | (apply blockQ_miss; eq_refl)
 | (apply blockQ_ret)
 | (apply blockQ_normal)
 | (apply WC_ret)
 | (apply WC_exit)
 | (apply WC_skip)
 | (apply WC_label)
 | (apply WC_if_true; eq_refl)
 | (apply WC_if_false; eq_refl)
 | (apply ret1; eq_refl)
 | (apply ret2; eq_refl; eq_refl)
 | (apply ret3; eq_refl; eq_refl; eq_refl)
 | (apply ret0)
 | (apply ret0n)
 | (apply WL_on0; eq_refl)
 | (apply WL_onG; eq_refl; eq_refl; eq_refl; eq_refl)
 | (apply WL_noG; eq_refl; eq_refl; eq_refl; eq_refl)
 | (apply X_pv; eq_refl; first | exact trivial | omega)
 | (apply X_field; eq_refl)
 | (apply X_loadR; eq_refl; (first | assumption | (apply Blk.alloc; assumption) | apply Blk.new | apply Blk.newA | (apply Blk.alloc; first | apply Blk.newA | (apply Blk.alloc; first | assumption | apply Blk.newA))); eq_refl)
 | (apply X_loadW; eq_refl; (first | assumption | (apply Blk.alloc; assumption) | apply Blk.new | apply Blk.newA | (apply Blk.alloc; first | apply Blk.newA | (apply Blk.alloc; first | assumption | apply Blk.newA))); eq_refl)
 | (apply X_loadC; eq_refl; (first | assumption | (apply cel; first | assumption | (apply cel; assumption))))
 | (apply X_cmpT; eq_refl; eq_refl; omega)
 | (apply X_cmpF; eq_refl; eq_refl; omega)
 | (apply X_cmp; eq_refl; eq_refl; all_goals intro _)
 | (apply X_len; eq_refl)
 | (apply X_lenS; eq_refl)
 | (apply X_index; eq_refl; eq_refl; omega; omega)
 | (apply X_eqB; eq_refl; eq_refl)
 | (apply X_neqB; eq_refl; eq_refl)
 | (apply X_eqP; eq_refl; eq_refl)
 | (apply X_eqL; eq_refl; eq_refl)
 | (apply X_max; eq_refl; eq_refl)
 | (apply X_min; eq_refl; eq_refl)
 | (apply X_cap; eq_refl)
 | (apply X_alloc)
 | (apply X_box; eq_refl)
 | (apply X_makeMap)
 | (apply X_pure; apply build57_0_1_2 <;> eq_refl)
 | (apply X_does; apply buildS25_1 <;> eq_refl))
      · exact RAfter.same ⟨_, hP.drew⟩ (Chg.drew _ _) (andP_full hz1 hz2 hno (by assumption))
      refine WX_turn (fun w3 => RParts w3 g S i l gs (.slice A gs.length c) ∧ Chg w1 w3 none_ ∧ Blk w3 w1.drew.drew.heap.size 57 [num (2 * (i + l + gs.length + 1)), num p, num q] ∧ w3.heap.size = w1.heap.size + 1) ⟨hP.drew.drew.alloc _, (Chg.refl _ _).dr.dr.al _, Blk.newA _ _ _, by simp⟩ ?_
      rintro w3 ⟨hP3, hC3, hN3, hz3⟩
      have hH3 := hP3.head
      refine X_append 0 (by eq_refl) (by eq_refl) hP3.row hN3 rfl rfl (by decide) (by simp [Value.oneCell']) (by omega) (by decide) (Nat.zero_le _) ?_
      intro v' w4 hrow hC4 hown hnil
      obtain ⟨A', c', rfl⟩ := row_form hrow
      have hng : ¬ (Value.slice A gs.length c).ownBlock = some g := row_apart hP3.row hH3 (by decide)
      have hH4 := hH3.chg hC4 hng
      have hob : ∀ k, (Value.slice A' (gs.length + 1) c').ownBlock = some k → S k ∨ k = w3.heap.size := fun k hk => by
        rcases hown with h | h
        · exact .inl (hP.hv k (h ▸ hk))
        · exact .inr (Option.some.inj (hk.symm.trans h))
      have hrg : (Value.slice A' (gs.length + 1) c').ownBlock ≠ some g := row_apart hrow hH4 (by decide)
      repeat' (first
 | (apply WC_seqK; intro K hK)
 | (apply hK; clear hK)
 | (clear hK; apply hK; clear hK)
 | (clear hK; clear hK; apply hK; clear hK)
 | (clear hK; clear hK; clear hK; apply hK; clear hK)
 | (apply WC_block)
 | (apply WC_region)
 | (apply WL_nil)
 | (apply thenQ_normal)
 | (apply thenQ_ret)
 | (apply thenQ_exit)
 | (apply blockQ_hit)
 | (apply blockQ_miss; eq_refl)
 | (apply blockQ_ret)
 | (apply blockQ_normal)
 | (apply WC_ret)
 | (apply WC_exit)
 | (apply WC_skip)
 | (apply WC_label)
 | (apply WC_if_true; eq_refl)
 | (apply WC_if_false; eq_refl)
 | (apply ret1; eq_refl)
 | (apply ret2; eq_refl; eq_refl)
 | (apply ret3; eq_refl; eq_refl; eq_refl)
 | (apply ret0)
 | (apply ret0n)
 | (apply WL_on0; eq_refl)
 | (apply WL_onG; eq_refl; eq_refl; eq_refl; eq_refl)
 | (apply WL_noG; eq_refl; eq_refl; eq_refl; eq_refl)
 | (apply X_pv; eq_refl; first | exact trivial | omega)
 | (apply X_field; eq_refl)
 | (apply X_loadR; eq_refl; (first | assumption | (apply Blk.alloc; assumption) | apply Blk.new | apply Blk.newA | (apply Blk.alloc; first | apply Blk.newA | (apply Blk.alloc; first | assumption | apply Blk.newA))); eq_refl)
 | (apply X_loadW; eq_refl; (first | assumption | (apply Blk.alloc; assumption) | apply Blk.new | apply Blk.newA | (apply Blk.alloc; first | apply Blk.newA | (apply Blk.alloc; first | assumption | apply Blk.newA))); eq_refl)
 | (apply X_loadC; eq_refl; (first | assumption | (apply cel; first | assumption | (apply cel; assumption))))
 | (apply X_cmpT; eq_refl; eq_refl; omega)
 | (apply X_cmpF; eq_refl; eq_refl; omega)
 | (apply X_cmp; eq_refl; eq_refl; all_goals intro _)
 | (apply X_len; eq_refl)
 | (apply X_lenS; eq_refl)
 | (apply X_index; eq_refl; eq_refl; omega; omega)
 | (apply X_eqB; eq_refl; eq_refl)
 | (apply X_neqB; eq_refl; eq_refl)
 | (apply X_eqP; eq_refl; eq_refl)
 | (apply X_eqL; eq_refl; eq_refl)
 | (apply X_max; eq_refl; eq_refl)
 | (apply X_min; eq_refl; eq_refl)
 | (apply X_cap; eq_refl)
 | (apply X_alloc)
 | (apply X_box; eq_refl)
 | (apply X_makeMap)
 | (apply X_pure; apply build57_0_1_2 <;> eq_refl)
 | (apply X_does; apply buildS25_1 <;> eq_refl))
      refine X_doesU (does_store1 (b := g) (o := 2) (v := .slice A' (gs.length + 1) c') (by eq_refl) (by eq_refl) hH4 (by simp) rfl rfl) ?_
      refine WL_turn (fun w5 => Blk w5 g 151 [num i, num l, .slice A' (gs.length + 1) c'] ∧ w5.ownsRow 0 57 3 (.slice A' (gs.length + 1) c') (gs.length + 1) (flat gs ++ [num (2 * (i + l + gs.length + 1)), num p, num q]) ∧ Chg w1 w5 S)
        ⟨hH4.set _, row_chg hrow (Chg.setRow w4 g _ (S := fun k => k = g) rfl) (fun k hk h => hrg (h ▸ hk)), (hC3.any.trans hC4 fun k _ hk => hP.hv k hk).trans (Chg.setRow w4 g _ hP.hg) fun _ _ h => h⟩ ?_
      rintro w5 ⟨hH5, hR5, hC5⟩
      have hlt5 : w4.heap.size ≤ w5.heap.size ∨ True := .inr trivial
      repeat' (first
 | (apply WC_seqK; intro K hK)
 | (apply hK; clear hK)
 | (clear hK; apply hK; clear hK)
 | (clear hK; clear hK; apply hK; clear hK)
 | (clear hK; clear hK; clear hK; apply hK; clear hK)
 | (apply WC_block)
 | (apply WC_region)
 | (apply WL_nil)
 | (apply thenQ_normal)
 | (apply thenQ_ret)
 | (apply thenQ_exit)
 | (apply blockQ_hit)
 | (apply blockQ_miss; eq_refl)
 | (apply blockQ_ret)
 | (apply blockQ_normal)
 | (apply WC_ret)
 | (apply WC_exit)
 | (apply WC_skip)
 | (apply WC_label)
 | (apply WC_if_true; eq_refl)
 | (apply WC_if_false; eq_refl)
 | (apply ret1; eq_refl)
 | (apply ret2; eq_refl; eq_refl)
 | (apply ret3; eq_refl; eq_refl; eq_refl)
 | (apply ret0)
 | (apply ret0n)
 | (apply WL_on0; eq_refl)
 | (apply WL_onG; eq_refl; eq_refl; eq_refl; eq_refl)
 | (apply WL_noG; eq_refl; eq_refl; eq_refl; eq_refl)
 | (apply X_pv; eq_refl; first | exact trivial | omega)
 | (apply X_field; eq_refl)
 | (apply X_loadR; eq_refl; (first | assumption | (apply Blk.alloc; assumption) | apply Blk.new | apply Blk.newA | (apply Blk.alloc; first | apply Blk.newA | (apply Blk.alloc; first | assumption | apply Blk.newA))); eq_refl)
 | (apply X_loadW; eq_refl; (first | assumption | (apply Blk.alloc; assumption) | apply Blk.new | apply Blk.newA | (apply Blk.alloc; first | apply Blk.newA | (apply Blk.alloc; first | assumption | apply Blk.newA))); eq_refl)
 | (apply X_loadC; eq_refl; (first | assumption | (apply cel; first | assumption | (apply cel; assumption))))
 | (apply X_cmpT; eq_refl; eq_refl; omega)
 | (apply X_cmpF; eq_refl; eq_refl; omega)
 | (apply X_cmp; eq_refl; eq_refl; all_goals intro _)
 | (apply X_len; eq_refl)
 | (apply X_lenS; eq_refl)
 | (apply X_index; eq_refl; eq_refl; omega; omega)
 | (apply X_eqB; eq_refl; eq_refl)
 | (apply X_neqB; eq_refl; eq_refl)
 | (apply X_eqP; eq_refl; eq_refl)
 | (apply X_eqL; eq_refl; eq_refl)
 | (apply X_max; eq_refl; eq_refl)
 | (apply X_min; eq_refl; eq_refl)
 | (apply X_cap; eq_refl)
 | (apply X_alloc)
 | (apply X_box; eq_refl)
 | (apply X_makeMap)
 | (apply X_pure; apply build57_0_1_2 <;> eq_refl)
 | (apply X_does; apply buildS25_1 <;> eq_refl))
      rw [andP_new hz1 hz2 hno (by assumption)]
      refine ⟨rfl, fun k => S k ∨ k = w3.heap.size ∧ (Value.slice A' (gs.length + 1) c').ownBlock = some k, ⟨.slice A' (gs.length + 1) c', hH5, ?_, .inl hP.hg, ?_, ?_⟩, hC5, ?_⟩
      · simpa [flat_append, gcells] using hR5
      · intro k hk
        rcases hob k hk with h | h
        · exact .inl h
        · exact .inr ⟨h, hk⟩
      · intro k hk
        rcases hk with h | ⟨_, h⟩
        · exact Nat.lt_of_lt_of_le (hP.lt k h) hC5.size
        · exact (hR5.lt k h).2
      · intro k hk
        rcases hk with h | ⟨h, h'⟩
        · exact .inl h
        · exact .inr ⟨by omega, (hR5.lt k h').2⟩
end SC
end Go.Proofs.Yticndofcfacopaa
end
section
/- The builder of the reference: the functions around 'and'. -/
set_option linter.unusedVariables false
set_option linter.unusedSimpArgs false
namespace Go.Proofs.Yticndofcfacopaa
namespace SC
open Go.Proofs Go.Maps
attribute [local irreducible] WC WL WX WS WO OX Does DoesU Enters CV Pure thenQ blockQ retQ Wants
set_option maxRecDepth 100000
section
variable {n : Int} {gs : List Gate} {x y s : Int}
theorem AndM_ok (hx : okM n gs x) (hy : okM n gs y) : AndM n gs x y = andM n gs x y := if_pos ⟨hx, hy⟩
theorem OrM_ok (hx : okM n gs x) (hy : okM n gs y) : OrM n gs x y = orM n gs x y := if_pos ⟨hx, hy⟩
theorem XorM_ok (hx : okM n gs x) (hy : okM n gs y) : XorM n gs x y = xorM n gs x y := if_pos ⟨hx, hy⟩
end
section
variable {w : World} {g : Nat} {S : Nat → Prop} {i l : Int} {gs : List Gate} {x y s : Int}
theorem RInput_cv {v : Value} (hB : Blk w g 151 [num i, num l, v]) (hi : i ≤ 16384) : CV Try.prog 120 [ptr g, num x] w fun u w' => u = .tuple #[num (inM i x).1, num (inM i x).2] ∧ w' = w := by
  refine enter 19 [4, 5] Try.func120 rfl rfl rfl (by decide) rfl ?_
  repeat' (first
 | (apply WC_seqK; intro K hK)
 | (apply hK; clear hK)
 | (clear hK; apply hK; clear hK)
 | (clear hK; clear hK; apply hK; clear hK)
 | (clear hK; clear hK; clear hK; apply hK; clear hK)
 | (apply WC_block)
 | (apply WC_region)
 | (apply WL_nil)
 | (apply thenQ_normal)
 | (apply thenQ_ret)
 | (apply thenQ_exit)
 | (apply blockQ_hit)
 | (apply blockQ_miss; eq_refl)
 | (apply blockQ_ret)
 | (apply blockQ_normal)
 | (apply WC_ret)
 | (apply WC_exit)
 | (apply WC_skip)
 | (apply WC_label)
 | (apply WC_if_true; eq_refl)
 | (apply WC_if_false; eq_refl)
 | (apply ret1; eq_refl)
 | (apply ret2; eq_refl; eq_refl)
 | (apply ret3; eq_refl; eq_refl; eq_refl)
 | (apply ret0)
 | (apply ret0n)
 | (apply WL_on0; eq_refl)
 | (apply WL_onG; eq_refl; eq_refl; eq_refl; eq_refl)
 | (apply WL_noG; eq_refl; eq_refl; eq_refl; eq_refl)
 | (apply X_pv; eq_refl; first | exact trivial | omega)
 | (apply X_field; eq_refl)
 | (apply X_loadR; eq_refl; (first | assumption | (apply Blk.alloc; assumption) | apply Blk.new | apply Blk.newA | (apply Blk.alloc; first | apply Blk.newA | (apply Blk.alloc; first | assumption | apply Blk.newA))); eq_refl)
 | (apply X_loadW; eq_refl; (first | assumption | (apply Blk.alloc; assumption) | apply Blk.new | apply Blk.newA | (apply Blk.alloc; first | apply Blk.newA | (apply Blk.alloc; first | assumption | apply Blk.newA))); eq_refl)
 | (apply X_loadC; eq_refl; (first | assumption | (apply cel; first | assumption | (apply cel; assumption))))
 | (apply X_cmpT; eq_refl; eq_refl; omega)
 | (apply X_cmpF; eq_refl; eq_refl; omega)
 | (apply X_cmp; eq_refl; eq_refl; all_goals intro _)
 | (apply X_len; eq_refl)
 | (apply X_lenS; eq_refl)
 | (apply X_index; eq_refl; eq_refl; omega; omega)
 | (apply X_eqB; eq_refl; eq_refl)
 | (apply X_neqB; eq_refl; eq_refl)
 | (apply X_eqP; eq_refl; eq_refl)
 | (apply X_eqL; eq_refl; eq_refl)
 | (apply X_max; eq_refl; eq_refl)
 | (apply X_min; eq_refl; eq_refl)
 | (apply X_cap; eq_refl)
 | (apply X_alloc)
 | (apply X_box; eq_refl)
 | (apply X_makeMap))
  · rw [show inM i x = (0, 5) from if_pos (by omega)]; exact ⟨rfl, rfl⟩
  · rw [show inM i x = (0, 5) from if_pos (by omega)]; exact ⟨rfl, rfl⟩
  · rw [show inM i x = (2 * (x + 1), 0) from if_neg (by omega)]; exact ⟨rfl, rfl⟩
theorem RLatch_cv {v : Value} (hB : Blk w g 151 [num i, num l, v]) (h0 : 0 ≤ i) (hi : i ≤ 16384) (hl : l ≤ 16384) : CV Try.prog 121 [ptr g, num x] w fun u w' => u = .tuple #[num (laM i l x).1, num (laM i l x).2] ∧ w' = w := by
  refine enter 24 [4, 5] Try.func121 rfl rfl rfl (by decide) rfl ?_
  repeat' (first
 | (apply WC_seqK; intro K hK)
 | (apply hK; clear hK)
 | (clear hK; apply hK; clear hK)
 | (clear hK; clear hK; apply hK; clear hK)
 | (clear hK; clear hK; clear hK; apply hK; clear hK)
 | (apply WC_block)
 | (apply WC_region)
 | (apply WL_nil)
 | (apply thenQ_normal)
 | (apply thenQ_ret)
 | (apply thenQ_exit)
 | (apply blockQ_hit)
 | (apply blockQ_miss; eq_refl)
 | (apply blockQ_ret)
 | (apply blockQ_normal)
 | (apply WC_ret)
 | (apply WC_exit)
 | (apply WC_skip)
 | (apply WC_label)
 | (apply WC_if_true; eq_refl)
 | (apply WC_if_false; eq_refl)
 | (apply ret1; eq_refl)
 | (apply ret2; eq_refl; eq_refl)
 | (apply ret3; eq_refl; eq_refl; eq_refl)
 | (apply ret0)
 | (apply ret0n)
 | (apply WL_on0; eq_refl)
 | (apply WL_onG; eq_refl; eq_refl; eq_refl; eq_refl)
 | (apply WL_noG; eq_refl; eq_refl; eq_refl; eq_refl)
 | (apply X_pv; eq_refl; first | exact trivial | omega)
 | (apply X_field; eq_refl)
 | (apply X_loadR; eq_refl; (first | assumption | (apply Blk.alloc; assumption) | apply Blk.new | apply Blk.newA | (apply Blk.alloc; first | apply Blk.newA | (apply Blk.alloc; first | assumption | apply Blk.newA))); eq_refl)
 | (apply X_loadW; eq_refl; (first | assumption | (apply Blk.alloc; assumption) | apply Blk.new | apply Blk.newA | (apply Blk.alloc; first | apply Blk.newA | (apply Blk.alloc; first | assumption | apply Blk.newA))); eq_refl)
 | (apply X_loadC; eq_refl; (first | assumption | (apply cel; first | assumption | (apply cel; assumption))))
 | (apply X_cmpT; eq_refl; eq_refl; omega)
 | (apply X_cmpF; eq_refl; eq_refl; omega)
 | (apply X_cmp; eq_refl; eq_refl; all_goals intro _)
 | (apply X_len; eq_refl)
 | (apply X_lenS; eq_refl)
 | (apply X_index; eq_refl; eq_refl; omega; omega)
 | (apply X_eqB; eq_refl; eq_refl)
 | (apply X_neqB; eq_refl; eq_refl)
 | (apply X_eqP; eq_refl; eq_refl)
 | (apply X_eqL; eq_refl; eq_refl)
 | (apply X_max; eq_refl; eq_refl)
 | (apply X_min; eq_refl; eq_refl)
 | (apply X_cap; eq_refl)
 | (apply X_alloc)
 | (apply X_box; eq_refl)
 | (apply X_makeMap))
  · rw [show laM i l x = (0, 5) from if_pos (by omega)]; exact ⟨rfl, rfl⟩
  · rw [show laM i l x = (0, 5) from if_pos (by omega)]; exact ⟨rfl, rfl⟩
  · rw [show laM i l x = (2 * (i + x + 1), 0) from if_neg (by omega)]; exact ⟨rfl, rfl⟩
end
end SC
end Go.Proofs.Yticndofcfacopaa
end
section
/- Builders as entries; their calls by entries. -/
set_option linter.unusedVariables false
set_option linter.unusedSimpArgs false
namespace Go.Proofs.Yticndofcfacopaa
namespace SC
open Go.Proofs
/-- A builder of hash, with the blocks that it owns. -/
def bldX (g : Nat) (S : Nat → Prop) (i l : Int) (gs : List Gate) : EntX where
  own := S
  ok := fun w => Bld w g S i l gs
  lt := fun w ⟨v, m, H⟩ k hk => H.lt k hk
  keep := fun w w' T H hc hn => H.chg hc hn
/-- A call of a builder: what it answers, and the builder behind it. -/
def BldR (g : Nat) (i l : Int) (r : Int × Int × List Gate) (v : Value) (N : Mm) : Prop := v = .tuple #[nu r.1, nu r.2.1] ∧ ∃ S', N = [.any (bldX g S' i l r.2.2)]
theorem After.cvm {f : FuncId} {args : List Value} {w : World} {g : Nat} {S : Nat → Prop} {i l : Int} {gs : List Gate} {r : Int × Int × List Gate} (h : CV Try.prog f args w (After w g S i l r)) : CVM Try.prog f args w [.any (bldX g S i l gs)] (BldR g i l r) :=
  CV.mono h fun v w' ⟨e, S', hB, hS⟩ => by
    have ho : ∀ k, owns [.any (bldX g S i l gs)] k ↔ S k := fun k => by
      rw [owns_cons]
      exact ⟨fun h => h.elim id fun h => absurd h owns_nil, fun h => .inl h⟩
    have hB' : (Ent.any (bldX g S' i l r.2.2)).ok w' := hB
    have hC : (Ent.old w (owns [.any (bldX g S i l gs)])).ok w' := Chg.mono hS.chg fun k hk => (ho k).2 hk
    refine ⟨[.any (bldX g S' i l r.2.2)], Mem.join (.one hB') (.one hC) fun k h1 h2 => ?_, e, S', rfl⟩
    rw [owns_cons] at h1 h2
    have h1' : S' k := h1.elim id fun h => absurd h owns_nil
    have h2' : k < w.heap.size ∧ ¬ owns [.any (bldX g S i l gs)] k := h2.elim id fun h => absurd h owns_nil
    rcases hS.new k h1' with h3 | h3
    · exact h2'.2 ((ho k).2 h3)
    · omega
/-- and. -/
theorem andG {w : World} {g : Nat} {S : Nat → Prop} {i l : Int} {gs : List Gate} {x y : Int} (hi : 0 ≤ i) (hl : 0 ≤ l) (G : Gs (i + l) gs) (hn : i + l + gs.length ≤ 16384) (hx : okM (i + l) gs x) (hy : okM (i + l) gs y) (M : Mem w [.any (bldX g S i l gs)]) :
    CVM Try.prog 69 [ptr g, num x, num y] w [.any (bldX g S i l gs)] (BldR g i l (andM (i + l) gs x y)) := After.cvm (and_cv (M.head) hi hl (G.inv hn) hx hy)
theorem OrG {w : World} {g : Nat} {S : Nat → Prop} {i l : Int} {gs : List Gate} {x y : Int} (hi : 0 ≤ i) (hl : 0 ≤ l) (G : Gs (i + l) gs) (hn : i + l + gs.length ≤ 16384) (hx : okM (i + l) gs x) (hy : okM (i + l) gs y) (M : Mem w [.any (bldX g S i l gs)]) :
    CVM Try.prog 40 [ptr g, num x, num y] w [.any (bldX g S i l gs)] (BldR g i l (orM (i + l) gs x y)) := by
  have := Or_cv (x := x) (y := y) (M.head : Bld w g S i l gs) hi hl (G.inv hn)
  rw [OrM_ok hx hy] at this
  exact After.cvm this
theorem XorG {w : World} {g : Nat} {S : Nat → Prop} {i l : Int} {gs : List Gate} {x y : Int} (hi : 0 ≤ i) (hl : 0 ≤ l) (G : Gs (i + l) gs) (hn : i + l + gs.length ≤ 16384) (hx : okM (i + l) gs x) (hy : okM (i + l) gs y) (M : Mem w [.any (bldX g S i l gs)]) :
    CVM Try.prog 41 [ptr g, num x, num y] w [.any (bldX g S i l gs)] (BldR g i l (xorM (i + l) gs x y)) := by
  have := Xor_cv (x := x) (y := y) (M.head : Bld w g S i l gs) hi hl (G.inv hn)
  rw [XorM_ok hx hy] at this
  exact After.cvm this
/-- New, where the numbers are right. -/
theorem NewG {w : World} {a b : Int} (h : ¬ newBad a b) : CVN Try.prog 39 [num a, num b] w fun v N => ∃ g S', v = .tuple #[ptr g, nu 0] ∧ N = [.any (bldX g S' a b [])] :=
  CV.mono (New_ok h) fun v w' ⟨g, S', e, hB, hS⟩ => by
    have hB' : (Ent.any (bldX g S' a b [])).ok w' := hB
    have hC : (Ent.old w none_).ok w' := hS.chg
    refine ⟨[.any (bldX g S' a b [])], Mem.join (.one hB') (.one hC) fun k h1 h2 => ?_, g, S', e, rfl⟩
    rw [owns_cons] at h1 h2
    have h1' : S' k := h1.elim id fun h => absurd h owns_nil
    have h2' : k < w.heap.size ∧ ¬ none_ k := h2.elim id fun h => absurd h owns_nil
    rcases hS.new k h1' with h3 | h3
    · exact h2'.2 h3
    · omega
end SC
end Go.Proofs.Yticndofcfacopaa
end
section
/- Size and Gates of a builder, by entries. -/
set_option linter.unusedVariables false
set_option linter.unusedSimpArgs false
namespace Go.Proofs.Yticndofcfacopaa
namespace SC
open Go.Proofs
theorem SizeG {Γ : Mm} {w : World} {g : Nat} {S : Nat → Prop} {i l : Int} {gs : List Gate} (hi : In Γ (.any (bldX g S i l gs))) (M : Mem w Γ) : CVN Try.prog 43 [ptr g] w fun v N => N = [] ∧ v = nu gs.length := by
  obtain ⟨v, m, H⟩ : Bld w g S i l gs := hi.ok M
  obtain ⟨A, c, rfl⟩ := row_form H.row
  exact CVN.of (Size_cv H.head) fun v w' ⟨e1, e2⟩ => ⟨by rw [e2]; exact Chg.refl w none_, e1⟩
end SC
end Go.Proofs.Yticndofcfacopaa
end
section
/- hash: Build's closure; a builder opened: its parts as entries. -/
set_option linter.unusedVariables false
set_option linter.unusedSimpArgs false
namespace Go.Proofs.Yticndofcfacopaa
namespace SC
open Go.Proofs
section
variable {P : Program} {n : Nat} {all : List Oper} {K : Env → Mm → Prop} {m : Md} {e : Env} {Γ Γ' Γ1 : Mm} {d : Option Tmp} {ty t t' : TypeId} {x y : Operand} {c : Code} {Q : PostG}
theorem G_xorb {a b : Int} (h : ev e x = some (.int .i64 a)) (h1 : ev e y = some (.int .i64 b)) (hb : 0 ≤ b) (hb1 : b ≤ 1) (h3 : 0 ≤ a) (h4 : a ≤ 9223372036854775807) (hr : GN P n all K m (push d (nu (xorb a b)) e) Γ) : GX P n all K m d (.binOp .xor t x y t') ty e Γ :=
  GX_pure (p_xor01 (P := P) (ty := ty) (t := t) (t' := t') h h1 hb hb1 (by omega) h4) hr
theorem GC_ex {ι : Type} {Γs : ι → Mm} (h : ∀ w, Mem w Γ → ∃ x, Mem w (Γs x)) (hr : ∀ x, GC P n c Q e (Γs x)) : GC P n c Q e Γ := fun w M => by
  obtain ⟨x, M'⟩ := h w M
  exact hr x w M'
theorem bld_open {w : World} {g : Nat} {S : Nat → Prop} {i l : Int} {gs : List Gate} (M : Mem w (.any (bldX g S i l gs) :: Γ)) : ∃ x : Option Addr × Nat × Nat, Mem w (.box g 101 [num i, num l, .slice x.1 gs.length x.2.1, .map (some x.2.2)] :: .vec tcells 3 57 x.1 x.2.1 gs :: Γ) := by
  obtain ⟨v, mm, H⟩ : Bld w g S i l gs := M.head
  obtain ⟨A, cp, rfl⟩ := row_form H.row
  have hap := (List.pairwise_cons.1 M.ap).1
  have o : (Ent.vec tcells 3 57 A cp gs).ok w := H.row
  have M1 : Mem w (.vec tcells 3 57 A cp gs :: Γ) := M.tail.cons o fun k hk ⟨F, hF, h2⟩ => hap F hF k (H.hv k hk) h2
  refine ⟨(A, cp, mm), M1.cons (E := .box g 101 [num i, num l, .slice A gs.length cp, .map (some mm)]) H.head fun k hk h2 => ?_⟩
  have hk' : k = g := hk
  subst hk'
  rcases owns_cons.1 h2 with h2 | ⟨F, hF, h2⟩
  · rcases H.row.2 with ⟨hv, _⟩ | ⟨g', cap, cur, hv, _, hg, _⟩
    · have h3 : (Value.slice A gs.length cp).ownBlock = some k := h2
      rw [hv] at h3
      cases h3
    · have e1 : g' = k := by
        have h3 : (Value.slice A gs.length cp).ownBlock = some k := h2
        rw [hv] at h3
        simpa [Value.ownBlock] using h3
      subst e1
      have h4 := H.head
      unfold Blk at h4
      rw [hg] at h4
      simp at h4
  · exact hap F hF k H.hg h2
theorem GC_bld {g : Nat} {S : Nat → Prop} {i l : Int} {gs : List Gate} (hR : Rem Γ (.any (bldX g S i l gs)) Γ1) (h : ∀ A cp mm, GC P n c Q e (.box g 101 [num i, num l, .slice A gs.length cp, .map (some mm)] :: .vec tcells 3 57 A cp gs :: Γ1)) : GC P n c Q e Γ :=
  GC_ex (Γs := fun x : Option Addr × Nat × Nat => .box g 101 [num i, num l, .slice x.1 gs.length x.2.1, .map (some x.2.2)] :: .vec tcells 3 57 x.1 x.2.1 gs :: Γ1) (fun w M => bld_open (M.perm hR.perm)) fun x => h x.1 x.2.1 x.2.2
theorem G_ldIn {td : TypeDesc} {sz by_ : Nat} {zv : Value} {g : Nat} {S : Nat → Prop} {i l : Int} {gs : List Gate} [T : Ty P t td sz zv by_ false] (h : ev e x = some (.pointer (some ⟨g, 0, none⟩))) (hi : In Γ (.any (bldX g S i l gs))) (hr : GN P n all K m (push d (num i) e) Γ) : GX P n all K m d (.load t x) ty e Γ :=
  GX_def (fun w M => by
    obtain ⟨v, mm, H⟩ : Bld w g S i l gs := hi.ok M
    exact does_load1 h H.head rfl) hr
end
theorem greatestG {w : World} {g : Nat} {i l : Int} {A : Option Addr} {n c : Nat} {m : Value} (hb : Blk w g 101 [num i, num l, .slice A n c, m]) (hi : 0 ≤ i) (hl : 0 ≤ l) (hn : i + l + n ≤ 16384) : CVN Try.prog 71 [ptr g] w fun v N => N = [] ∧ v = num (i + l + n) :=
  CVN.of (greatest_cv hb hi hl hn) fun v w' ⟨e1, e2⟩ => ⟨by rw [e2]; exact Chg.drew w none_, e1⟩
attribute [local irreducible] WC WL WX WS WO OX Does DoesU Enters CV Pure thenQ blockQ retQ Wants retQC GC GL GS GX RdB thenG blockG retG Rd At gt CVN CVM
set_option maxRecDepth 100000
theorem litB_cv {w : World} {b : Nat} {A : Option Addr} {k : Nat} {to : List Int} {l : Int} (hb : Blk w b 22 [.slice A to.length k]) (hA : RowA w icell 1 A to) (h0 : 0 ≤ l) (h1 : l / 2 < to.length) (h3 : to.length ≤ 1000000) (h2 : 0 ≤ gt to (l / 2) ∧ gt to (l / 2) ≤ 100000) : CVN Try.prog 68 [nu l, pt b] w fun v N => N = [] ∧ v = nu (litX to l) := by
  have e0 : litX to l = xorb (gt to (l / 2)) (l % 2) := by
    unfold litX
    rw [show L to (l / 2) = gt to (l / 2) by unfold gt L; rfl]
  rw [e0]
  refine CVN.enter 12 [3] Try.func68 rfl rfl rfl (by decide) rfl ?_
  repeat' (first
 | (apply G_xorb; eq_refl; eq_refl; omega; omega; omega; omega)
 | (apply GC_seqK; intro K hK)
 | (apply hK; clear hK K)
 | (clear hK K; apply hK; clear hK K)
 | (clear hK K; clear hK K; apply hK; clear hK K)
 | (clear hK K; clear hK K; clear hK K; apply hK; clear hK K)
 | (apply GC_block)
 | (apply GC_region)
 | (apply GL_nil)
 | (apply thenG_normal)
 | (apply thenG_ret)
 | (apply thenG_exit)
 | (apply blockG_hit)
 | (apply blockG_miss; eq_refl)
 | (apply blockG_ret)
 | (apply blockG_normal)
 | (apply GC_ret)
 | (apply GC_exit)
 | (apply GC_skip)
 | (apply GC_if_true; eq_refl)
 | (apply GC_if_false; eq_refl)
 | (apply GC_ifD; eq_refl; all_goals intro _)
 | (apply GC_if; eq_refl; all_goals intro _)
 | (apply retG1; eq_refl)
 | (apply retG2; eq_refl; eq_refl)
 | (apply retG3; eq_refl; eq_refl; eq_refl)
 | (apply retG0)
 | (apply retG0n)
 | (apply GL_on; eq_refl; eq_refl)
 | (apply G_pv; eq_refl; first | exact trivial | omega)
 | (apply G_ld; eq_refl; (repeat first | exact In.here | apply In.there | apply In.skip); eq_refl)
 | (apply G_ldW; eq_refl; (repeat first | exact In.here | apply In.there | apply In.skip); eq_refl)
 | (apply G_ldO; eq_refl; (repeat first | exact In.here | apply In.there | apply In.skip); assumption; eq_refl)
 | (apply G_ldR; eq_refl; (apply RdB.oldR; (repeat first | exact In.here | apply In.there | apply In.skip); assumption); eq_refl)
 | (apply G_ldOW; eq_refl; (repeat first | exact In.here | apply In.there | apply In.skip); assumption; eq_refl)
 | (apply G_rd; eq_refl; (first | (apply Rd.own; (repeat first | exact In.here | apply In.there | apply In.skip); infer_instance) | (apply Rd.old; (repeat first | exact In.here | apply In.there | apply In.skip); assumption) | (apply Rd.oldR; (repeat first | exact In.here | apply In.there | apply In.skip); assumption) | exact Rd.nil | assumption); (case ih => infer_instance); omega; omega; eq_refl)
 | (apply G_rdF; eq_refl; (first | (apply Rd.own; (repeat first | exact In.here | apply In.there | apply In.skip); infer_instance) | (apply Rd.old; (repeat first | exact In.here | apply In.there | apply In.skip); assumption) | (apply Rd.oldR; (repeat first | exact In.here | apply In.there | apply In.skip); assumption) | exact Rd.nil | assumption); (case ih => infer_instance); omega; omega; eq_refl)
 | (apply G_rdW; eq_refl; (first | (apply Rd.own; (repeat first | exact In.here | apply In.there | apply In.skip); infer_instance) | (apply Rd.old; (repeat first | exact In.here | apply In.there | apply In.skip); assumption) | (apply Rd.oldR; (repeat first | exact In.here | apply In.there | apply In.skip); assumption) | exact Rd.nil | assumption); infer_instance; (case ih => infer_instance); omega; omega)
 | (apply G_cmpT; eq_refl; eq_refl; omega)
 | (apply G_cmpF; eq_refl; eq_refl; omega)
 | (apply G_cmp; eq_refl; eq_refl; all_goals intro _)
 | (apply G_ix; eq_refl; eq_refl; (first | (apply Rd.own; (repeat first | exact In.here | apply In.there | apply In.skip); infer_instance) | (apply Rd.old; (repeat first | exact In.here | apply In.there | apply In.skip); assumption) | (apply Rd.oldR; (repeat first | exact In.here | apply In.there | apply In.skip); assumption) | exact Rd.nil | assumption); (first | eq_refl | omega); omega; omega)
 | (apply G_ixA; eq_refl; eq_refl; omega; omega))
  exact ⟨[], (by repeat first | exact Wk.nil | exact Wk.refl | (apply Wk.cons; (focus ((repeat first | exact Rem.here | apply Rem.there | apply Rem.skip); done))) | apply Wk.nilv | apply Wk.last | apply Wk.drop), rfl, rfl⟩
end SC
end Go.Proofs.Yticndofcfacopaa
end
section
/- The gates on which literals hang: the plain law. -/
set_option linter.unusedVariables false
set_option linter.unusedSimpArgs false
namespace Go.Proofs.Yticndofcfacopaa
namespace SC
open Go.Proofs
end SC
end Go.Proofs.Yticndofcfacopaa
end
section
/- trestleref10: lits, spread within a step, Inputs. -/
set_option linter.unusedVariables false
set_option linter.unusedSimpArgs false
namespace Go.Proofs.Yticndofcfacopaa
namespace SC
open Go.Proofs
theorem Upd.left {Θ Θ' Γ : Mm} {E F : Ent} (h : Upd Θ E F Θ') : Upd (Θ ++ Γ) E F (Θ' ++ Γ) := by
  induction h with
  | here => exact .here
  | there _ ih => exact .there ih
section
variable {P : Program} {n : Nat} {all : List Oper} {K : Env → Mm → Prop} {A : List Fl} {Θ Θ' C : Mm} {r : List PStep} {e : Env} {Γ Γ' : Mm} {j : Nat} {d : Option Tmp} {ty t t0 : TypeId} {x y : Operand}
/-- What was kept apart comes back. -/
theorem GS_nilP (h : K e (Θ ++ Γ)) : GS P n all K [] Θ [] e Γ := by
  intro B a Q fuel listed w hB ha hs M hQ hp hns hsz hsh hF hok
  obtain rfl : B = [] := by simpa using hB
  simp only [planM, Bool.and_eq_true, List.isEmpty_iff] at hok
  obtain rfl := Nat.eq_of_beq_eq_true hok.2
  exact ⟨hok.1.2, hQ a w e (Θ ++ Γ) ha (show Mem w (Θ ++ Γ) from M) h⟩
/-- Entries kept apart: no quiet operation looks at them. -/
theorem GC_drawsP {id : Nat} {l : List Oper} {Q : PostG} (pl : List PStep) (hm : P.follows .mixedOrders = true) (hns : Region.noSelect l.toArray = true) (hok : planM l.toArray pl l.toArray.size (Array.replicate l.toArray.size false) [] = true) (hC : Rems Γ C Γ')
    (h : GS P n l (fun e Γ => Q .normal e Γ) [] C pl e Γ') : GC P n (.region id l.toArray true) Q e Γ := fun w M a ha =>
  wp_region_any hm (wpAny_of_M _ _ _ _ _ (h [] a _ _ _ _ rfl ha (fun _ _ h => (by cases h)) (show Mem w.drew (C ++ Γ') from Mem.takes hC M.drew) (fun a' w' e' Γ' ha' M' hK => ⟨e', ha', Γ', M', hK⟩) lift_panic hns (by simp) (Shut.init _ _ _) ⟨fun _ h => (by cases h), List.Pairwise.nil, List.Pairwise.nil⟩ hok))
theorem G_stVP {α : Type} {enc : α → List Value} {td : TypeDesc} {by_ : Nat} {zv v : Value} {ag : Bool} {b c : Nat} {i : Int} {l : List α} (a : α) [T : Ty P t td 1 zv by_ ag] (h : ev e x = some (.pointer (some ⟨b, 0 + i.toNat * 1, none⟩))) (h1 : ev e y = some v) (hv : v.cells = #[v]) (h2 : v.oneCell' = true)
    (hU : Upd Θ (.vec enc 1 t0 (some ⟨b, 0, none⟩) c l) (.vec enc 1 t0 (some ⟨b, 0, none⟩) c (l.set i.toNat a)) Θ') (N : Enc enc 1) (ih : Inhabited α) (ha : enc a = [v]) (h0 : 0 ≤ i) (hlt : i < l.length) (hr : GS P n all K A Θ' r (push d undef e) Γ) : GX P n all K (.c j A Θ r) d (.store t x y) ty e Γ := fun pos af g ho hg hd hA =>
  GS_priv (R := fun v Θ1 N => v = undef ∧ Θ1 = Θ' ∧ N = []) ho hg hd hA (fun Δ w M => by
    have hU' := hU.left (Γ := Γ)
    have hb : (Ent.vec enc 1 t0 (some ⟨b, 0, none⟩) c l).ok w := by obtain ⟨R, p, _⟩ := hU'.perm; exact M.right.ok _ (p.mem_iff.2 (by simp))
    obtain ⟨hl, e1⟩ := gt_get h0 hlt
    have ha' : enc a = (enc l[i.toNat]).set 0 v := by
      have := N.len l[i.toNat]
      rcases hh : enc l[i.toNat] with _ | ⟨u, _ | ⟨u', r⟩⟩
      · rw [hh] at this; simp at this
      · rw [ha]; rfl
      · rw [hh] at this; simp at this
    obtain ⟨g, cur, e2, hB, hlt2, hown⟩ := vec_store hb hl (Nat.zero_lt_one) a v ha'
    cases e2
    have e3 : (⟨b, 0 + i.toNat * 1, none⟩ : Addr) = ⟨b, i.toNat * 1 + 0, none⟩ := by simp
    rw [e3] at h
    have hown' : (Ent.vec enc 1 t0 (some ⟨b, 0, none⟩) c (l.set i.toNat a)).ok (w.setRow b (cur.set (i.toNat * 1 + 0) v).toArray) := by
      show World.ownsRow _ _ _ _ _ _ _
      rw [List.length_set]
      exact hown
    refine .inr (.inr ⟨_, does_store1 h h1 hB hlt2 hv h2, Θ', [], ?_, rfl, rfl, rfl⟩)
    exact Mem.upd hU' M (Chg.setRow w b _ (S := fun k => k = b) rfl) (fun k _ h => by subst h; rfl) hown' fun k hk => .inl hk) fun v Θ1 N ⟨e1, e2, e3⟩ => by rw [e1, e2, e3]; exact hr
end
attribute [local irreducible] WC WL WX WS WO OX Does DoesU Enters CV Pure thenQ blockQ retQ Wants retQC GC GL GS GX RdB thenG blockG retG Rd At gt CVN CVM
set_option maxRecDepth 100000
end SC
end Go.Proofs.Yticndofcfacopaa
end
section
/- Families of rows bound together: one row taken out and put back; a slice of slices that grows by another one; the circuit that Build makes put together. -/
set_option linter.unusedVariables false
set_option linter.unusedSimpArgs false
namespace Go.Proofs.Yticndofcfacopaa
namespace SC
open Go.Proofs
section
variable {P : Program} {n : Nat} {all : List Oper} {K : Env → Mm → Prop} {m : Md} {e : Env} {Γ Γ' Γ1 Γ2 Θ : Mm} {d : Option Tmp} {ty t t0 : TypeId} {x y : Operand} {c : Code} {Q : PostG} {td : TypeDesc} {sz by_ : Nat} {zv : Value} {ag : Bool}
theorem Wk.part {C D : Mm} (hR : Rems Γ C Γ1) (h : Wk C D) (h2 : Wk Γ1 Γ') : Wk Γ (D ++ Γ') := by
  refine ⟨fun w M => ?_, fun k hk => ?_⟩
  · have M1 := M.perm hR.perm
    exact (h.mem w M1.left).join (h2.mem w M1.right) fun k k1 k2 => M1.sep k (h.sub k k1) (h2.sub k k2)
  · rw [owns_perm hR.perm, owns_append]
    exact (owns_append.1 hk).imp (h.sub k) (h2.sub k)
/-- One entry becomes others. -/
theorem GC_wk {E : Ent} {D : Mm} (hR : Rem Γ E Γ1) (h : Wk [E] D) (hr : GC P n c Q e (D ++ Γ1)) : GC P n c Q e Γ := fun w M => hr w ((Wk.part (.cons hR .nil) h .refl).mem w M)
theorem bun_in {D : Mm} : Wk D [.any (bun D)] := ⟨fun w M => Mem.one (E := .any (bun D)) M, fun k hk => (owns_cons.1 hk).elim id fun h => absurd h owns_nil⟩
theorem bun_out {D : Mm} : Wk [.any (bun D)] D := ⟨fun w M => M.head, fun k hk => owns_cons.2 (.inl hk)⟩
theorem fam_mid (a b : List (Hdl × List Int)) (x : Hdl × List Int) : (fam rowJ (a ++ x :: b)).Perm (rowL x :: fam rowJ (a ++ b)) := by
  refine (fam_perm _).symm.trans ?_
  rw [List.map_append, List.map_cons]
  refine List.perm_middle.trans ((List.Perm.cons _) ?_)
  rw [← List.map_append]
  exact fam_perm _
theorem row_out (a b : List (Hdl × List Int)) (x : Hdl × List Int) : Wk [.any (bun (fam rowJ (a ++ x :: b)))] [rowL x, .any (bun (fam rowJ (a ++ b)))] :=
  bun_out.trans ((Wk.perm (fam_mid a b x)).trans (Wk.cons .here bun_in))
theorem row_in (a b : List (Hdl × List Int)) (x : Hdl × List Int) : Wk [rowL x, .any (bun (fam rowJ (a ++ b)))] [.any (bun (fam rowJ (a ++ x :: b)))] :=
  (Wk.cons .here bun_out).trans ((Wk.perm (fam_mid a b x).symm).trans bun_in)
/-- A store into a box that is kept apart. -/
theorem G_stBP {b o : Nat} {t1 : TypeId} {cs : List Value} {v : Value} {Θ Θ' : Mm} {A : List Fl} {r : List PStep} {j : Nat} [T : Ty P t td 1 zv by_ ag] (h : ev e x = some (.pointer (some ⟨b, o, none⟩))) (h1 : ev e y = some v) (hv : v.cells = #[v]) (h2 : v.oneCell' = true) (hU : Upd Θ (.box b t1 cs) (.box b t1 (cs.set o v)) Θ') (hlt : o < cs.length)
    (hr : GS P n all K A Θ' r (push d undef e) Γ) : GX P n all K (.c j A Θ r) d (.store t x y) ty e Γ := fun pos af g ho hg hd hA =>
  GS_priv (R := fun v Θ1 N => v = undef ∧ Θ1 = Θ' ∧ N = []) ho hg hd hA (fun Δ w M => by
    have hU' := hU.left (Γ := Γ)
    have hb : Blk w b t1 cs := by obtain ⟨R, p, _⟩ := hU'.perm; exact M.right.ok (.box b t1 cs) (p.mem_iff.2 (by simp))
    refine .inr (.inr ⟨_, does_store1 h h1 hb hlt hv h2, Θ', [], ?_, rfl, rfl, rfl⟩)
    exact Mem.upd hU' M (Chg.setRow w b _ (S := fun k => k = b) rfl) (fun k _ h => h) (hb.set _) fun k hk => .inl hk) fun v Θ1 N ⟨e1, e2, e3⟩ => by rw [e1, e2, e3]; exact hr
theorem G_stWP {b : Nat} {t1 : TypeId} {cs vs : List Value} {Θ Θ' : Mm} {A : List Fl} {r : List PStep} {j : Nat} [T : Ty P t td sz zv by_ ag] (h : ev e x = some (.pointer (some ⟨b, 0, none⟩))) (h1 : ev e y = some (.agg vs.toArray)) (hl : vs.length = sz) (h2 : vs.all Value.oneCell' = true) (hU : Upd Θ (.box b t1 cs) (.box b t1 vs) Θ') (hlt : cs.length = sz)
    (hr : GS P n all K A Θ' r (push d undef e) Γ) : GX P n all K (.c j A Θ r) d (.store t x y) ty e Γ := fun pos af g ho hg hd hA =>
  GS_priv (R := fun v Θ1 N => v = undef ∧ Θ1 = Θ' ∧ N = []) ho hg hd hA (fun Δ w M => by
    have e1 : splice cs 0 vs = vs := by unfold splice; simp; omega
    have hU' := hU.left (Γ := Γ)
    have hb : Blk w b t1 cs := by obtain ⟨R, p, _⟩ := hU'.perm; exact M.right.ok (.box b t1 cs) (p.mem_iff.2 (by simp))
    refine .inr (.inr ⟨_, does_storeA h h1 hb hl (by omega) (fun v hv => List.all_eq_true.1 h2 v hv), Θ', [], ?_, rfl, rfl, rfl⟩)
    rw [e1]
    exact Mem.upd hU' M (Chg.setRow w b _ (S := fun k => k = b) rfl) (fun k _ h => h) (hb.set _) fun k hk => .inl hk) fun v Θ1 N ⟨e1, e2, e3⟩ => by rw [e1, e2, e3]; exact hr
/-- A call that changes what is kept apart. -/
theorem G_callMP {f : FuncId} [F : Go.Proofs.Yticndofcfacopaa.SC.Fn P f] {args : Array Operand} {ats : Array TypeId} {vs : List Value} {C Θ Θ' : Mm} {A : List Fl} {r : List PStep} {j : Nat} {R : Value → Mm → Prop} (h : evs e args.toList = some vs) (hc : ∀ w, Mem w C → CVM P f vs w C R) (hC : Rems Θ C Θ') (hr : ∀ v N, R v N → GS P n all K A (N ++ Θ') r (push d v e) Γ) :
    GX P n all K (.c j A Θ r) d (.call { callee := .value (.func f), args := args, argTypes := ats }) ty e Γ := fun pos af g ho hg hd hA =>
  GS_priv (R := fun v Θ1 N => N = [] ∧ ∃ N1, Θ1 = N1 ++ Θ' ∧ R v N1) ho hg hd hA (fun Δ w M => by
    have p1 : (Δ ++ (Θ ++ Γ)).Perm (C ++ (Δ ++ (Θ' ++ Γ))) := by
      refine ((hC.perm.append_right Γ).append_left Δ).trans ?_
      rw [List.append_assoc]
      exact List.perm_append_comm_assoc ..
    have M1 := M.perm p1
    refine .inr (.inl ⟨f, vs, enters (evs_map h), CV.mono (hc w M1.left) fun v w' ⟨N, M', hR⟩ => ⟨N ++ Θ', [], ?_, rfl, N, rfl, hR⟩⟩)
    refine (M1.addS M').perm ?_
    rw [List.nil_append, List.append_assoc]
    exact List.perm_append_comm_assoc ..) fun v Θ1 N ⟨e1, N1, e2, hR⟩ => by rw [e1, e2]; exact hr v N1 hR
/-- A call of a closure that also looks at what is kept apart. -/
theorem G_callFP {f : FuncId} {args : Array Operand} {ats : Array TypeId} {vs : List Value} {cap : Array Value} {Θ : Mm} {A : List Fl} {r : List PStep} {j : Nat} {R : Value → Mm → Prop} (hx : ev e x = some (.func (.func f) #[] cap)) (F : Go.Proofs.Yticndofcfacopaa.SC.Fn P f) (h : evs e args.toList = some vs) (hc : ∀ w, Mem w (Θ ++ Γ) → CVN P f (vs ++ cap.toList) w R) (hr : ∀ v N, R v N → GS P n all K A Θ r (push d v e) (N ++ Γ)) :
    GX P n all K (.c j A Θ r) d (.call { callee := .value x, args := args, argTypes := ats }) ty e Γ := fun pos af g ho hg hd hA =>
  GS_priv (R := fun v Θ1 N => Θ1 = Θ ∧ R v N) ho hg hd hA (fun Δ w M => by
    refine .inr (.inl ⟨f, vs ++ cap.toList, entersC hx (evs_map h), CV.mono (hc w M.right) fun v w' ⟨N, M', hR⟩ => ⟨Θ, N, ?_, rfl, hR⟩⟩)
    refine (M.add M').perm ?_
    exact (List.perm_append_comm_assoc ..).trans ((List.perm_append_comm_assoc ..).append_left _)) fun v Θ1 N ⟨e1, hR⟩ => by rw [e1]; exact hr v N hR
/-- Appended: to a box, an own slice. -/
theorem G_appBV {α : Type} {enc : α → List Value} [U : Ty P t (.slice t0) 1 (.slice none 0 0) 24 false] [T : Ty P t0 td sz zv by_ ag] {A2 : Option Addr} {b c k1 k2 c2 : Nat} {l2 : List α} {cs : List Value} {t2 : TypeId} {Γ1 : Mm} {Γ2 : Option Addr → Nat → Mm} (l : List α) (hm : wrOk all m = true) (h : ev e x = some (.slice (some ⟨b, 0, none⟩) k1 c)) (h1 : ev e y = some (.slice A2 k2 c2)) (N : Enc enc sz)
    (hU1 : Upd Γ (.box b t0 cs) (.vec enc sz t0 (some ⟨b, 0, none⟩) c l) Γ1) (hD : Dec enc cs l) (hi : In Γ1 (.vec enc sz t2 A2 c2 l2)) (hU : ∀ A' c', Upd Γ1 (.vec enc sz t0 (some ⟨b, 0, none⟩) c l) (.vec enc sz t0 A' c' (l ++ l2)) (Γ2 A' c')) (hk1 : k1 = l.length) (hc : c = l.length) (hl : l.length ≤ 1000) (hk : k2 = l2.length) (hzs : zv.cells.size = sz) (hby : (l.length + l2.length) * by_ ≤ 140737488355328) (hby1 : 1 ≤ by_)
    (hr : ∀ A' c', GN P n all K m (push d (.slice A' (l ++ l2).length c') e) (Γ2 A' c')) : GX P n all K m d (.call { callee := .builtin .append, args := #[x, y], argTypes := #[t, t] }) ty e Γ := by
  subst hc
  exact GX_acts hm (acts_box hU1 hD (by unfold maxLen; omega) (acts_appendR h hk1 h1 hk hU (Rd.own hi N) (fun w M hA => by
    have := hi.ok M
    rcases this.2 with ⟨h1, _⟩ | ⟨g, cap, cur, h1, _⟩
    · simp only [Value.slice.injEq] at h1; exact h1.2.2
    · simp only [Value.slice.injEq] at h1; rw [h1.1] at hA; cases hA) hzs hby hby1)) fun v Γ1 ⟨A', c', e1, e2⟩ => by rw [e1, e2]; exact hr A' c'
end
theorem Wk.app {C D Γ : Mm} (h : Wk C D) : Wk (C ++ Γ) (D ++ Γ) := ⟨fun w M => (h.mem w M.left).join M.right fun k k1 k2 => M.sep k (h.sub k k1) k2, fun k hk => owns_append.2 ((owns_append.1 hk).imp (h.sub k) id)⟩
theorem Wk.appL {C D Γ : Mm} (h : Wk C D) : Wk (Γ ++ C) (Γ ++ D) := (Wk.perm List.perm_append_comm).trans (h.app.trans (Wk.perm List.perm_append_comm))
theorem CVN.wk {P : Program} {f : FuncId} {args : List Value} {w : World} {R R' : Value → Mm → Prop} (h : CVN P f args w R) (hR : ∀ v N, R v N → ∃ N', Wk N N' ∧ R' v N') : CVN P f args w R' :=
  CV.mono h fun v w' ⟨N, M, hv⟩ => by
    obtain ⟨N', h1, h2⟩ := hR v N hv
    exact ⟨N', h1.app.mem w' M, h2⟩
/-- shape.Copy: its lists of numbers bound together. -/
theorem CopyB {w : World} {c : Circ} {h js : Hd} (H : CirAt w c h js) (hf : c.Fits) : CVN Try.prog 70 [.agg (ccells c h).toArray] w fun v N => ∃ h' js', v = .agg (ccells c h').toArray ∧ N = [.vec tcells 3 83 (h' 2).1 (h' 2).2 c.latches, .vec encS 1 22 (h' 6).1 (h' 6).2 (jps c js'), .vec tcells 3 57 (h' 8).1 (h' 8).2 c.ands, .vec scells 3 110 (h' 9).1 (h' 9).2 c.symbols, .vec bcell 1 9 (h' 10).1 (h' 10).2 c.comments, .any (bun (fam rowJ (rowsOf c h' js')))] :=
  (CopyG H hf).wk fun v N ⟨h', js', e1, e2⟩ => by
    subst e2
    exact ⟨_, Wk.appL (Γ := [.vec tcells 3 83 (h' 2).1 (h' 2).2 c.latches, .vec encS 1 22 (h' 6).1 (h' 6).2 (jps c js'), .vec tcells 3 57 (h' 8).1 (h' 8).2 c.ands, .vec scells 3 110 (h' 9).1 (h' 9).2 c.symbols, .vec bcell 1 9 (h' 10).1 (h' 10).2 c.comments]) bun_in, h', js', e1, rfl⟩
/-- A row whose literals have gone through a map. -/
def rowF (to : List Int) (p : Hdl × List Int) : Hdl × List Int := (p.1, p.2.map (litX to))
def hd8 (h : Hd) (A : Option Addr) (k : Nat) : Hd := fun i => if i = 8 then (A, k) else h i
theorem rows_built {c : Circ} {h js : Hd} {A : Option Addr} {k : Nat} : (rowsOf c h js).map (rowF (bT c)) = rowsOf (bC c) (hd8 h A k) js := by
  have e : (jps c js).map (rowF (bT c)) = jps (bC c) js := by
    unfold jps
    rw [List.map_map]
    have e1 : (bC c).justice.length = c.justice.length := List.length_map _
    rw [e1]
    refine List.map_congr_left fun i hi => ?_
    have := List.mem_range.1 hi
    show (js i, (c.justice.getD i []).map (litX (bT c))) = (js i, (c.justice.map fun l => l.map (litX (bT c))).getD i [])
    simp [List.getD, this]
  unfold rowsOf
  rw [List.map_append, e]
  rfl
theorem just_built {c : Circ} {js : Hd} : (jps c js).flatMap encS = (jps (bC c) js).flatMap encS := by
  rw [jps_cells, jps_cells]
  unfold jcells
  have e1 : (bC c).justice.length = c.justice.length := List.length_map _
  rw [e1]
  refine List.map_congr_left fun i hi => ?_
  have := List.mem_range.1 hi
  show slc js i (c.justice.getD i []).length = slc js i ((c.justice.map fun l => l.map (litX (bT c))).getD i []).length
  simp [List.getD, this]
theorem Wk.same {E F : Ent} (h1 : ∀ w, E.ok w → F.ok w) (h2 : ∀ k, F.own k → E.own k) : Wk [E] [F] := ⟨fun w M => Mem.one (h1 w M.head), fun k hk => owns_cons.2 ((owns_cons.1 hk).imp (h2 k) fun h => absurd h owns_nil)⟩
theorem just_wk {c : Circ} {js : Hd} {A : Option Addr} {k : Nat} : Wk [.vec encS 1 22 A k (jps c js)] [.vec encS 1 22 A k (jps (bC c) js)] := by
  have e1 : (jps (bC c) js).length = (jps c js).length := by rw [jps_len, jps_len]; exact List.length_map _
  refine Wk.same (fun w H => ?_) fun b hb => ?_
  · show w.ownsRow 0 22 1 (.slice A (jps (bC c) js).length k) (jps (bC c) js).length ((jps (bC c) js).flatMap encS)
    rw [e1, ← just_built]
    exact H
  · show (Value.slice A (jps c js).length k).ownBlock = some b
    rw [← e1]
    exact hb
/-- The parts of what Build makes, put together. -/
theorem built_wk {c : Circ} {h js : Hd} {A : Option Addr} {k : Nat} : Wk [.vec encS 1 22 (h 6).1 (h 6).2 (jps c js), .any (bun (fam rowJ ((rowsOf c h js).map (rowF (bT c))))), .vec tcells 3 83 (h 2).1 (h 2).2 (c.latches.map (bLatch (bT c))), .vec tcells 3 57 A k (bG c), .vec scells 3 110 (h 9).1 (h 9).2 c.symbols, .vec bcell 1 9 (h 10).1 (h 10).2 c.comments] [.any (cirX 0 (bC c) (hd8 h A k) js)] := by
  rw [rows_built (A := A) (k := k)]
  refine Wk.trans (Wk.part (C := [.vec encS 1 22 (h 6).1 (h 6).2 (jps c js)]) (.cons .here .nil) just_wk (Wk.part (C := [.any (bun (fam rowJ (rowsOf (bC c) (hd8 h A k) js)))]) (.cons .here .nil) bun_out .refl)) ?_
  refine Wk.trans (Wk.perm ?_) (bE_cir (bC c) (hd8 h A k) js)
  unfold bE
  show ([Ent.vec encS 1 22 (h 6).1 (h 6).2 (jps (bC c) js)] ++ (fam rowJ (rowsOf (bC c) (hd8 h A k) js) ++ [Ent.vec tcells 3 83 (h 2).1 (h 2).2 (bC c).latches, .vec tcells 3 57 A k (bC c).ands, .vec scells 3 110 (h 9).1 (h 9).2 (bC c).symbols, .vec bcell 1 9 (h 10).1 (h 10).2 (bC c).comments])).Perm (Ent.vec tcells 3 83 (h 2).1 (h 2).2 (bC c).latches :: Ent.vec encS 1 22 (h 6).1 (h 6).2 (jps (bC c) js) :: .vec tcells 3 57 A k (bC c).ands :: .vec scells 3 110 (h 9).1 (h 9).2 (bC c).symbols :: .vec bcell 1 9 (h 10).1 (h 10).2 (bC c).comments :: fam rowJ (rowsOf (bC c) (hd8 h A k) js))
  generalize fam rowJ (rowsOf (bC c) (hd8 h A k) js) = Φ
  refine ((List.perm_append_comm (l₁ := Φ)).append_left _).trans ?_
  exact List.Perm.swap ..
end SC
end Go.Proofs.Yticndofcfacopaa
end

/- Texts of this seat, one behind the other: S29 S30 S31 S32 S33 S34 S35. -/
import Derived.Test.YtkndegjodnciaaaY4
section
/- Definitions that are apart pass; the renumbered circuit's definitions. -/
set_option linter.unusedVariables false
set_option linter.unusedSimpArgs false
namespace Go.Proofs.Ytkndegjodnciaaa
namespace SC
open Go.Proofs
theorem kind_set {t : Tab} {l v : Int} {m : Int × Int} (hl : 0 ≤ l) (hv : 0 ≤ v) (hne : v ≠ l) : kindAt (t.set l.toNat m) v = kindAt t v := by
  unfold kindAt
  rw [List.getElem?_set_ne (by omega)]
theorem defM_ok {max : Int} {t : Tab} {l : Int} {m : Int × Int} (h : ¬ defBad max l) (hk : kindAt t (l / 2) = 0) : defM max t l m = (0, t.set (l / 2).toNat m) := by
  unfold defM
  rw [if_neg h, if_neg (by omega)]
theorem goDef_pass {max kind : Int} : ∀ (ls : List Int) (k : Nat) (t : Tab), (∀ l ∈ ls, ¬ defBad max l) → (∀ l ∈ ls, kindAt t (l / 2) = 0) → (ls.map (· / 2)).Nodup → (goDef max kind ls k t).1.2 = 0 ∧ ∀ v, 0 ≤ v → (∀ l ∈ ls, v ≠ l / 2) → kindAt (goDef max kind ls k t).2 v = kindAt t v
  | [], k, t, _, _, _ => ⟨rfl, fun _ _ _ => rfl⟩
  | l :: r, k, t, hb, hk, hn => by
    have h0 := hb l List.mem_cons_self
    have hge : 0 ≤ l / 2 := by unfold defBad at h0; omega
    have e := defM_ok (m := (kind, (k : Int))) h0 (hk l List.mem_cons_self)
    rw [List.map_cons, List.nodup_cons] at hn
    have hne : ∀ l' ∈ r, l' / 2 ≠ l / 2 := fun l' hl' he => hn.1 (he ▸ List.mem_map.2 ⟨l', hl', rfl⟩)
    obtain ⟨i1, i2⟩ := goDef_pass r (k + 1) (t.set (l / 2).toNat (kind, (k : Int))) (fun l' hl' => hb l' (List.mem_cons_of_mem _ hl')) (fun l' hl' => by
      have h1 := hb l' (List.mem_cons_of_mem _ hl')
      rw [kind_set hge (by unfold defBad at h1; omega) (hne l' hl')]
      exact hk l' (List.mem_cons_of_mem _ hl')) hn.2
    unfold goDef
    rw [e, if_neg (by simp)]
    exact ⟨i1, fun v hv hx => by rw [i2 v hv fun l' hl' => hx l' (List.mem_cons_of_mem _ hl'), kind_set hge hv (hx l List.mem_cons_self)]⟩
theorem goDefL_pass {max : Int} : ∀ (ls : List Tri) (k : Nat) (t : Tab), (∀ x ∈ ls, ¬ badReset x) → (goDef max 2 (ls.map (·.1)) k t).1.2 = 0 → goDefL max ls k t = goDef max 2 (ls.map (·.1)) k t
  | [], k, t, _, _ => rfl
  | x :: r, k, t, hb, h => by
    have e1 : (x :: r).map (·.1) = x.1 :: r.map (·.1) := rfl
    rw [e1] at h ⊢
    unfold goDef at h ⊢
    unfold goDefL
    split at h
    · rename_i hh; exact absurd h hh
    · rename_i hh
      rw [if_neg hh, if_neg hh, if_neg (hb x List.mem_cons_self)]
      exact goDefL_pass r (k + 1) _ (fun y hy => hb y (List.mem_cons_of_mem _ hy)) h
/-- All that a circuit defines. -/
def allDefs (c : Circ) : List Int := c.inputs ++ c.latches.map (·.1) ++ c.ands.map (·.1)
theorem kind_T0 (c : Circ) (v : Int) : kindAt (T0 c) v = 0 := by
  unfold kindAt T0
  rw [List.getElem?_replicate]
  split <;> rfl
theorem defines_pass {c : Circ} (hb : ∀ l ∈ allDefs c, ¬ defBad c.max l) (hr : ∀ x ∈ c.latches, ¬ badReset x) (hn : ((allDefs c).map (· / 2)).Nodup) : (definesM c (T0 c)).1.2 = 0 := by
  unfold allDefs at hb hn
  rw [List.map_append, List.map_append, List.nodup_append, List.nodup_append] at hn
  obtain ⟨⟨n1, n2, n12⟩, n3, n123⟩ := hn
  have b1 : ∀ l ∈ c.inputs, ¬ defBad c.max l := fun l hl => hb l (List.mem_append_left _ (List.mem_append_left _ hl))
  have b2 : ∀ l ∈ c.latches.map (·.1), ¬ defBad c.max l := fun l hl => hb l (List.mem_append_left _ (List.mem_append_right _ hl))
  have b3 : ∀ l ∈ c.ands.map (·.1), ¬ defBad c.max l := fun l hl => hb l (List.mem_append_right _ hl)
  have pos : ∀ {l : Int}, ¬ defBad c.max l → 0 ≤ l / 2 := fun h => by unfold defBad at h; omega
  obtain ⟨p1, q1⟩ := goDef_pass (kind := 1) c.inputs 0 (T0 c) b1 (fun _ _ => kind_T0 c _) n1
  have k2 : ∀ l ∈ c.latches.map (·.1), kindAt (goDef c.max 1 c.inputs 0 (T0 c)).2 (l / 2) = 0 := fun l hl => by
    rw [q1 _ (pos (b2 l hl)) fun l' hl' e => n12 _ (List.mem_map.2 ⟨l', hl', rfl⟩) _ (List.mem_map.2 ⟨l, hl, rfl⟩) e.symm, kind_T0]
  obtain ⟨p2, q2⟩ := goDef_pass (kind := 2) (c.latches.map (·.1)) 0 (goDef c.max 1 c.inputs 0 (T0 c)).2 b2 k2 n2
  have e2 := goDefL_pass c.latches 0 (goDef c.max 1 c.inputs 0 (T0 c)).2 hr p2
  have k3 : ∀ l ∈ c.ands.map (·.1), kindAt (goDef c.max 2 (c.latches.map (·.1)) 0 (goDef c.max 1 c.inputs 0 (T0 c)).2).2 (l / 2) = 0 := fun l hl => by
    have m3 : l / 2 ∈ (c.ands.map (·.1)).map (· / 2) := List.mem_map.2 ⟨l, hl, rfl⟩
    rw [q2 _ (pos (b3 l hl)) fun l' hl' e => n123 _ (List.mem_append_right _ (List.mem_map.2 ⟨l', hl', rfl⟩)) _ m3 e.symm,
      q1 _ (pos (b3 l hl)) fun l' hl' e => n123 _ (List.mem_append_left _ (List.mem_map.2 ⟨l', hl', rfl⟩)) _ m3 e.symm, kind_T0]
  obtain ⟨p3, q3⟩ := goDef_pass (kind := 3) (c.ands.map (·.1)) 0 (goDef c.max 2 (c.latches.map (·.1)) 0 (goDef c.max 1 c.inputs 0 (T0 c)).2).2 b3 k3 n3
  unfold definesM
  rw [if_neg (by rw [p1]; decide), e2, if_neg (by rw [p2]; decide)]
  exact p3
/-! ### the renumbered circuit -/
section
variable {c : Circ} (R : Right c)
/-- The circuit in the binary order; the map. -/
noncomputable abbrev renC (c : Circ) : Circ := renM c (ordM c)
noncomputable abbrev toM (c : Circ) : List Int := mapOf c.max (defsOf c (ordM c))
include R
theorem Right.nDefs : (defsOf c (ordM c)).length = c.inputs.length + c.latches.length + c.ands.length := by unfold defsOf; simp [R.ordLen]; omega
theorem Right.nDefs_le : ((defsOf c (ordM c)).length : Int) ≤ c.max := by
  have h1 := nodup_size c.max.toNat (((defsOf c (ordM c)).map (· / 2)).map (· - 1)) (nodup_map (fun a b e => by omega) R.defs_nodup) fun y hy => by
    obtain ⟨z, hz, rfl⟩ := List.mem_map.1 hy
    obtain ⟨k, hk, rfl⟩ := List.mem_map.1 hz
    have := R.defs hk
    unfold defR at this
    unfold rg
    omega
  simp only [List.length_map] at h1
  have := R.m0
  omega
theorem Right.lit_def {j : Nat} (hj : j < (defsOf c (ordM c)).length) : litM (toM c) (defsOf c (ordM c))[j] = 2 * j + 2 := by
  have h1 := R.to_at hj
  have h2 := R.defs (List.getElem_mem hj)
  unfold defR at h2
  show L (toM c) _ + _ = _
  rw [h1]
  omega
theorem Right.ren_defs : allDefs (renC c) = (List.range (defsOf c (ordM c)).length).map fun (j : Nat) => 2 * (j : Int) + 2 := by
  have e1 : allDefs (renC c) = (defsOf c (ordM c)).map (litM (toM c)) := by
    unfold allDefs renC renM defsOf
    simp only [List.map_append, List.map_map]
    rfl
  rw [e1]
  apply List.ext_getElem (by simp)
  intro j h1 h2
  simp only [List.length_map] at h1
  simp only [List.getElem_map, List.getElem_range]
  exact R.lit_def h1
end
theorem ren_max {c : Circ} : (renC c).max = (defsOf c (ordM c)).length := rfl
end SC
end Go.Proofs.Ytkndegjodnciaaa
end
section
/- The renumbered circuit is right. -/
set_option linter.unusedVariables false
set_option linter.unusedSimpArgs false
namespace Go.Proofs.Ytkndegjodnciaaa
namespace SC
open Go.Proofs
theorem sizesM_zero {c : Circ} (h0 : 0 ≤ c.max) (h1 : c.max ≤ 16384) (h2 : ∀ n ∈ c.lens, n ≤ 16384) (h3 : sumW c.justice ≤ 16384) : sizesM c = 0 := by
  unfold sizesM
  rw [if_neg (by omega), if_neg]
  rintro (⟨n, hn, hh⟩ | hh)
  · have := h2 n hn; omega
  · omega
theorem goSym_congr {c d : Circ} (h : ∀ k, manyM c k = manyM d k) : ∀ (ls : List Sym) (i : Nat) (f : Int → Int → Int), goSym c ls i f = goSym d ls i f
  | [], _, _ => rfl
  | s :: r, i, f => by
    unfold goSym
    have e : symBad c f s ↔ symBad d f s := by unfold symBad; rw [h]
    by_cases hb : symBad c f s
    · rw [if_pos hb, if_pos (e.1 hb)]
    · rw [if_neg hb, if_neg (fun h' => hb (e.2 h'))]
      exact goSym_congr h r _ _
theorem kind_def {c : Circ} {t : Tab} (T : TabOk c t) {l : Int} (h : l ∈ allDefs c) : kindAt t (l / 2) ≠ 0 := by
  unfold allDefs at h
  rcases List.mem_append.1 h with h | h
  · rcases List.mem_append.1 h with h | h
    · obtain ⟨j, hj, rfl⟩ := List.mem_iff_getElem.1 h
      rw [kindAt_get (T.inp j hj).2]
      show (1 : Int) ≠ 0
      decide
    · obtain ⟨x, hx, rfl⟩ := List.mem_map.1 h
      obtain ⟨j, hj, rfl⟩ := List.mem_iff_getElem.1 hx
      rw [kindAt_get (T.lat j hj).2.1]
      show (2 : Int) ≠ 0
      decide
  · obtain ⟨x, hx, rfl⟩ := List.mem_map.1 h
    obtain ⟨j, hj, rfl⟩ := List.mem_iff_getElem.1 hx
    rw [kindAt_get (T.gat j hj).2]
    show (3 : Int) ≠ 0
    decide
theorem ren_sum {c : Circ} : sumW (renC c).justice = sumW c.justice := by
  unfold sumW sumL renC renM
  simp only [List.map_map]
  congr 3
  apply List.map_congr_left
  intro l _
  simp
section
variable {c : Circ} (R : Right c)
include R
/-- Where a variable goes. -/
theorem Right.to_cases {v : Int} (hv : 0 ≤ v) : (L (toM c) v = 0 ∧ ∀ k ∈ defsOf c (ordM c), v ≠ k / 2) ∨ ∃ (j : Nat) (hj : j < (defsOf c (ordM c)).length), v = (defsOf c (ordM c))[j] / 2 ∧ L (toM c) v = 2 * j + 2 := by
  by_cases h : ∃ k ∈ defsOf c (ordM c), v = k / 2
  · obtain ⟨k, hk, rfl⟩ := h
    obtain ⟨j, hj, rfl⟩ := List.mem_iff_getElem.1 hk
    exact .inr ⟨j, hj, rfl, R.to_at hj⟩
  · have h0 : ∀ k ∈ defsOf c (ordM c), v ≠ k / 2 := fun k hk e => h ⟨k, hk, e⟩
    exact .inl ⟨R.to_no hv h0, h0⟩
theorem Right.ren_lens : (renC c).lens = c.lens := by
  unfold Circ.lens renC renM
  simp [R.ordLen]
theorem Right.ren_sizes : sizesM (renC c) = 0 := by
  have h1 := R.nDefs_le
  have h2 := R.m1
  refine sizesM_zero (by rw [ren_max]; omega) (by rw [ren_max]; omega) (by rw [R.ren_lens]; exact R.lens) (by rw [ren_sum]; exact R.sum)
theorem Right.ren_reset {x : Tri} (hx : x ∈ c.latches) : ¬ badReset (renLatch (toM c) x) := by
  obtain ⟨h1, _, h3⟩ := R.lat hx
  unfold defR at h1
  unfold badReset renLatch
  dsimp only
  rcases h3 with h3 | h3 | h3
  · rw [h3, if_neg (by decide)]; omega
  · rw [h3, if_neg (by decide)]; omega
  · rw [h3, if_pos (by omega)]; omega
theorem Right.ren_defines : (definesM (renC c) (T0 (renC c))).1.2 = 0 := by
  refine defines_pass (fun l hl => ?_) (fun x hx => ?_) ?_
  · rw [R.ren_defs] at hl
    obtain ⟨j, hj, rfl⟩ := List.mem_map.1 hl
    simp only [List.mem_range] at hj
    rw [ren_max]
    unfold defBad
    omega
  · obtain ⟨y, hy, rfl⟩ := List.mem_map.1 (show x ∈ c.latches.map (renLatch (toM c)) from hx)
    exact R.ren_reset hy
  · rw [R.ren_defs, List.map_map]
    exact nodup_map (fun a b e => by simp only [Function.comp_apply] at e; omega) List.nodup_range
theorem Right.ren_tab : TabOk (renC c) (tabM (renC c)) := definesM_spec (by rw [ren_max]; omega) R.ren_defines
/-- A literal that may be used may be used behind. -/
theorem Right.ren_use {l : Int} (h : useOk c (tabM c) l) : useOk (renC c) (tabM (renC c)) (litM (toM c) l) := by
  obtain ⟨h0, h1, h2⟩ := h
  have e : litM (toM c) l = L (toM c) (l / 2) + l % 2 := rfl
  unfold useOk
  rw [ren_max, e]
  rcases R.to_cases (v := l / 2) (by omega) with ⟨e1, _⟩ | ⟨j, hj, _, e1⟩
  · rw [e1]
    exact ⟨by omega, by omega, fun hh => by omega⟩
  · rw [e1]
    refine ⟨by omega, by omega, fun _ => ?_⟩
    have hm : (2 * (j : Int) + 2) ∈ allDefs (renC c) := by rw [R.ren_defs]; exact List.mem_map.2 ⟨j, List.mem_range.2 hj, rfl⟩
    have := kind_def R.ren_tab hm
    rw [show (2 * (j : Int) + 2 + l % 2) / 2 = (2 * (j : Int) + 2) / 2 by omega]
    exact this
theorem Right.ren_uses : (usesM (renC c) (tabM (renC c))).2 = 0 := by
  rw [usesM_spec]
  have U := R.use
  have one : ∀ {ls : List Int}, (∀ x ∈ ls, useOk c (tabM c) x) → ∀ x ∈ ls.map (litM (toM c)), useOk (renC c) (tabM (renC c)) x := fun h x hx => by
    obtain ⟨y, hy, rfl⟩ := List.mem_map.1 hx
    exact R.ren_use (h y hy)
  refine ⟨fun x hx => ?_, one U.outputs, one U.bads, one U.constraints, fun ls hls x hx => ?_, one U.fairness, fun x hx => ?_⟩
  · obtain ⟨y, hy, rfl⟩ := List.mem_map.1 (show x ∈ c.latches.map (renLatch (toM c)) from hx)
    exact R.ren_use (U.next y hy)
  · obtain ⟨l0, hl0, rfl⟩ := List.mem_map.1 (show ls ∈ c.justice.map (fun l => l.map (litM (toM c))) from hls)
    exact one (U.justice l0 hl0) x hx
  · obtain ⟨i, hi, rfl⟩ := List.mem_map.1 (show x ∈ (ordM c).map (fun i => renAnd (toM c) (andAt c i)) from hx)
    have ho := R.ord hi
    have hlt : i.toNat < c.ands.length := by omega
    have ha : andAt c i ∈ c.ands := by unfold andAt; simp [hlt]
    obtain ⟨u1, u2⟩ := U.ands _ ha
    have v1 := R.ren_use u1
    have v2 := R.ren_use u2
    have mx : ∀ (P : Int → Prop) (a b : Int), P a → P b → P (max a b) ∧ P (min a b) := fun P a b ha hb => by
      rcases Int.le_total a b with h | h
      · rw [Int.max_eq_right h, Int.min_eq_left h]; exact ⟨hb, ha⟩
      · rw [Int.max_eq_left h, Int.min_eq_right h]; exact ⟨ha, hb⟩
    exact mx _ _ _ v1 v2
end
theorem ren_many {c : Circ} (k : Int) : manyM (renC c) k = manyM c k := by
  unfold manyM renC renM
  simp
end SC
end Go.Proofs.Ytkndegjodnciaaa
end
section
/- The renumbered circuit's order; it looks right. -/
set_option linter.unusedVariables false
set_option linter.unusedSimpArgs false
namespace Go.Proofs.Ytkndegjodnciaaa
namespace SC
open Go.Proofs
/-- 0, 1, .. -/
def upto (n : Nat) : List Int := (List.range n).map fun (k : Nat) => (k : Int)
theorem mem_upto {n : Nat} {y : Int} : y ∈ upto n ↔ 0 ≤ y ∧ y < n := by
  unfold upto
  rw [List.mem_map]
  constructor
  · rintro ⟨k, hk, rfl⟩
    have := List.mem_range.1 hk
    omega
  · rintro ⟨h0, h1⟩
    exact ⟨y.toNat, List.mem_range.2 (by omega), by omega⟩
theorem upto_len (n : Nat) : (upto n).length = n := by unfold upto; simp
theorem all_upto {n : Nat} {B : Int → List Int} (h : ∀ k : Nat, k < n → ∀ z ∈ B (k : Int), 0 ≤ z ∧ z < k) : All n B (upto n) := by
  have told : ∀ m, m ≤ n → Told n B (upto m) := by
    intro m
    induction m with
    | zero => intro _; exact Told.nil
    | succ m ih =>
      intro hm
      have e : upto (m + 1) = upto m ++ [(m : Int)] := by unfold upto; rw [List.range_succ, List.map_append]; rfl
      rw [e]
      refine Told.snoc (ih (by omega)) ⟨⟨by omega, by omega⟩, fun hh => ?_, fun z hz => mem_upto.2 (h m (by omega) z hz)⟩ fun y hy => ?_
      · have := (mem_upto.1 hh).2
        omega
      · have h1 := hy.rg
        have h2 := hy.new
        rw [mem_upto] at h2
        unfold rg at h1
        omega
  refine ⟨told n (Nat.le_refl _), fun y hy => ?_⟩
  have h1 := hy.rg
  have h2 := hy.new
  rw [mem_upto] at h2
  unfold rg at h1
  omega
section
variable {c : Circ} (R : Right c)
include R
theorem Right.def_and {j : Nat} (hj : j < (ordM c).length) : ∃ h : c.inputs.length + c.latches.length + j < (defsOf c (ordM c)).length, (defsOf c (ordM c))[c.inputs.length + c.latches.length + j] = (andAt c (ordM c)[j]).1 := by
  have h0 := R.nDefs
  have h1 := R.ordLen
  refine ⟨by omega, ?_⟩
  unfold defsOf
  rw [List.getElem_append_right (by simp)]
  simp
theorem Right.ren_out {j : Nat} (hj : j < (ordM c).length) : litM (toM c) (andAt c (ordM c)[j]).1 = 2 * ((c.inputs.length + c.latches.length + j : Nat) : Int) + 2 := by
  obtain ⟨h, e⟩ := R.def_and hj
  rw [← e]
  exact R.lit_def h
/-- A gate that another one uses was told before it. -/
theorem Right.low {k : Nat} (hk : k < (ordM c).length) {l : Int} (hl : l = (andAt c (ordM c)[k]).2.1 ∨ l = (andAt c (ordM c)[k]).2.2) {j : Nat} (hj : j < (ordM c).length) (e : l / 2 = (andAt c (ordM c)[j]).1 / 2) : j < k := by
  have ho := R.ord (List.getElem_mem hj)
  have hlt : (ordM c)[j].toNat < c.ands.length := by omega
  have h3 := (R.tab.gat _ hlt).2
  have ea : andAt c (ordM c)[j] = c.ands[(ordM c)[j].toNat] := by unfold andAt; simp [hlt]
  rw [← ea, ← e, show (((ordM c)[j].toNat : Nat) : Int) = (ordM c)[j] by omega] at h3
  have hsp : ordM c = (ordM c).take k ++ (ordM c)[k] :: (ordM c).drop (k + 1) := by
    have h1 := List.take_append_drop k (ordM c)
    rw [List.drop_eq_getElem_cons hk] at h1
    exact h1.symm
  have hlow := (R.all.told.split hsp).1.low
  have hb : (ordM c)[j] ∈ gateB (tabM c) c (ordM c)[k] := by
    show (ordM c)[j] ∈ belowL (tabM c) [(andAt c (ordM c)[k]).2.1, (andAt c (ordM c)[k]).2.2]
    rw [mem_belowL]
    exact ⟨l, by rcases hl with rfl | rfl <;> simp, kindAt_get h3, atOf_get h3⟩
  obtain ⟨k', hk', ek⟩ := List.mem_iff_getElem.1 (hlow _ hb)
  rw [List.length_take] at hk'
  rw [List.getElem_take] at ek
  have := nodup_ix R.all.told.nodup (a := k') (b := j) (by omega) hj ek
  omega
theorem Right.ren_below {k : Nat} (hk : k < (ordM c).length) {z : Int} (hz : z ∈ gateB (tabM (renC c)) (renC c) (k : Int)) : 0 ≤ z ∧ z < k := by
  have eA : (renC c).ands.getD (k : Int).toNat (0, 0, 0) = renAnd (toM c) (andAt c (ordM c)[k]) := by
    show ((ordM c).map fun i => renAnd (toM c) (andAt c i)).getD _ _ = _
    simp [hk]
  have hz' : z ∈ belowL (tabM (renC c)) [(renAnd (toM c) (andAt c (ordM c)[k])).2.1, (renAnd (toM c) (andAt c (ordM c)[k])).2.2] := by
    rw [← eA]
    exact hz
  rw [mem_belowL] at hz'
  obtain ⟨l', hl', h3, hat⟩ := hz'
  -- the literal of c
  obtain ⟨l, hl, el⟩ : ∃ l, (l = (andAt c (ordM c)[k]).2.1 ∨ l = (andAt c (ordM c)[k]).2.2) ∧ l' = litM (toM c) l := by
    simp only [List.mem_cons, List.not_mem_nil, or_false, renAnd] at hl'
    rcases Int.le_total (litM (toM c) (andAt c (ordM c)[k]).2.1) (litM (toM c) (andAt c (ordM c)[k]).2.2) with h | h
    · rw [Int.max_eq_right h, Int.min_eq_left h] at hl'
      rcases hl' with e | e
      · exact ⟨_, .inr rfl, e⟩
      · exact ⟨_, .inl rfl, e⟩
    · rw [Int.max_eq_left h, Int.min_eq_right h] at hl'
      rcases hl' with e | e
      · exact ⟨_, .inl rfl, e⟩
      · exact ⟨_, .inr rfl, e⟩
  have ho := R.ord (List.getElem_mem hk)
  have hlt : (ordM c)[k].toNat < c.ands.length := by omega
  have ha : andAt c (ordM c)[k] ∈ c.ands := by unfold andAt; simp [hlt]
  have hg := R.gate ha
  have hl0 : 0 ≤ l := by
    have h1 := hg.2.1
    have h2 := hg.2.2
    unfold inR at h1 h2
    rcases hl with e | e <;> omega
  have e0 : litM (toM c) l = L (toM c) (l / 2) + l % 2 := rfl
  rw [e0] at el
  rcases R.to_cases (v := l / 2) (by omega) with ⟨e1, _⟩ | ⟨d, hd, ed, e1⟩
  · rw [e1] at el
    exfalso
    rw [show l' / 2 = (0 : Int) by omega] at h3
    obtain ⟨j, hj, g1, _⟩ := R.ren_tab.gate (v := 0) h3
    have hd := R.ren_tab.gat j hj
    unfold defBad at hd
    omega
  · rw [e1] at el
    have e2 : l' / 2 = ((d + 1 : Nat) : Int) := by omega
    rw [e2] at h3 hat
    obtain ⟨j, hj, g1, g2, _⟩ := R.ren_tab.gate h3
    have hj' : j < (ordM c).length := by
      have : (renC c).ands.length = (ordM c).length := by show ((ordM c).map fun i => renAnd (toM c) (andAt c i)).length = _; simp
      omega
    have e3 : (renC c).ands[j].1 = litM (toM c) (andAt c (ordM c)[j]).1 := by
      show (((ordM c).map fun i => renAnd (toM c) (andAt c i))[j]'(by simpa using hj')).1 = _
      simp [renAnd]
    rw [e3, R.ren_out hj'] at g1
    obtain ⟨hx, ex⟩ := R.def_and hj'
    have e4 : d = c.inputs.length + c.latches.length + j := by omega
    subst e4
    rw [ex] at ed
    have := R.low hk hl hj' ed
    rw [← hat, g2]
    omega
theorem Right.ren_ands : (renC c).ands.length = c.ands.length := by
  show ((ordM c).map fun i => renAnd (toM c) (andAt c i)).length = _
  rw [List.length_map, R.ordLen]
theorem Right.ren_all : All (renC c).ands.length (gateB (tabM (renC c)) (renC c)) (upto (renC c).ands.length) := all_upto fun k hk z hz => R.ren_below (by rw [R.ordLen, ← R.ren_ands]; exact hk) hz
theorem Right.ren_cyc : cycM (renC c).ands.length (gateB (tabM (renC c)) (renC c)) = -1 := cycM_eq ⟨_, R.ren_all, .inl ⟨upto_len _, rfl⟩⟩
end
/-- The renumbered circuit looks right where the circuit did. -/
theorem ren_look {c : Circ} (R : Right c) (h : (lookM c).2 = 0) : (lookM (renC c)).2 = 0 := by
  obtain ⟨_, _, _, _, _, hs, hc⟩ := lookM_ok h
  unfold lookM
  rw [if_neg (fun hh => hh R.ren_sizes), if_neg (fun hh => hh R.ren_defines), if_neg (fun hh => hh R.ren_uses), R.ren_cyc, if_neg (by decide), if_neg, if_neg]
  · exact Int.not_le.2 hc
  · rw [goSym_congr (fun k => ren_many k)]
    exact Int.not_le.2 hs
end SC
end Go.Proofs.Ytkndegjodnciaaa
end
section
/- The renumbered circuit's values and runs. -/
set_option linter.unusedVariables false
set_option linter.unusedSimpArgs false
namespace Go.Proofs.Ytkndegjodnciaaa
namespace SC
open Go.Proofs
section
variable {c : Circ}
theorem memD_inp {i : Nat} (hi : i < c.inputs.length) : gt c.inputs (i : Int) ∈ defsOf c (ordM c) := by
  unfold defsOf
  exact List.mem_append_left _ (List.mem_append_left _ (gt_mem (by omega) (by omega)))
theorem memD_lat {i : Nat} (hi : i < c.latches.length) : (gt c.latches (i : Int)).1 ∈ defsOf c (ordM c) := by
  unfold defsOf
  exact List.mem_append_left _ (List.mem_append_right _ (List.mem_map.2 ⟨_, gt_mem (by omega) (by omega), rfl⟩))
theorem memD_and {i : Nat} (hi : i < (ordM c).length) : (gt c.ands (gt (ordM c) (i : Int))).1 ∈ defsOf c (ordM c) := by
  unfold defsOf
  exact List.mem_append_right _ (List.mem_map.2 ⟨_, gt_mem (l := ordM c) (i := (i : Int)) (by omega) (by omega), rfl⟩)
theorem even_lv {w : List Bool} {to : List Int} {l : Int} (hO : L to (l / 2) % 2 = 0) (v : List Bool) (h : gt w (L to (l / 2) / 2) = gt v (l / 2)) : lv w (litM to l) = lv v l := by
  have e0 : litM to l = L to (l / 2) + l % 2 := rfl
  unfold lv
  rw [e0, show (L to (l / 2) + l % 2) / 2 = L to (l / 2) / 2 by omega, h]
  congr 1
  exact decide_eq_decide.2 (by omega)
end
section
variable {c : Circ} (R : Right c)
include R
/-- What nothing defines is false. -/
theorem Right.val_no (s r : List Bool) {v : Int} (hv : 0 ≤ v) (h0 : ∀ k ∈ defsOf c (ordM c), v ≠ k / 2) : gt (valM c s r) v = false := by
  have off : ∀ {k : Int}, k ∈ defsOf c (ordM c) → (k / 2).toNat ≠ v.toNat := fun {k} hk e => by
    have h1 := R.defs hk
    have := h0 k hk
    unfold defR at h1
    omega
  rw [gtB]
  show (wrF (fun k => ((gt c.ands (gt (ordM c) (k : Int))).1 / 2).toNat) (fun v k => lv v (gt c.ands (gt (ordM c) (k : Int))).2.1 && lv v (gt c.ands (gt (ordM c) (k : Int))).2.2) (wrF (fun k => ((gt c.latches (k : Int)).1 / 2).toNat) (fun _ k => gt s (k : Int)) (wrF (fun k => (gt c.inputs (k : Int) / 2).toNat) (fun _ k => gt r (k : Int)) (List.replicate (c.max + 1).toNat false) c.inputs.length) c.latches.length) (ordM c).length).getD v.toNat false = false
  rw [wrF_off (j := 0) _ (Nat.zero_le _) fun k _ hk => off (memD_and hk)]
  show (wrF (fun k => ((gt c.latches (k : Int)).1 / 2).toNat) (fun _ k => gt s (k : Int)) (wrF (fun k => (gt c.inputs (k : Int) / 2).toNat) (fun _ k => gt r (k : Int)) (List.replicate (c.max + 1).toNat false) c.inputs.length) c.latches.length).getD v.toNat false = false
  rw [wrF_off (j := 0) _ (Nat.zero_le _) fun k _ hk => off (memD_lat hk)]
  show (wrF (fun k => (gt c.inputs (k : Int) / 2).toNat) (fun _ k => gt r (k : Int)) (List.replicate (c.max + 1).toNat false) c.inputs.length).getD v.toNat false = false
  rw [wrF_off (j := 0) _ (Nat.zero_le _) fun k _ hk => off (memD_inp hk)]
  show (List.replicate (c.max + 1).toNat false).getD v.toNat false = false
  rw [List.getD_eq_getElem?_getD, List.getElem?_replicate]
  split <;> rfl
theorem Right.def_inp {i : Nat} (hi : i < c.inputs.length) : ∃ h : i < (defsOf c (ordM c)).length, (defsOf c (ordM c))[i] = c.inputs[i] := by
  have h0 := R.nDefs
  refine ⟨by omega, ?_⟩
  unfold defsOf
  rw [List.getElem_append_left (by simp; omega), List.getElem_append_left hi]
theorem Right.def_lat {i : Nat} (hi : i < c.latches.length) : ∃ h : c.inputs.length + i < (defsOf c (ordM c)).length, (defsOf c (ordM c))[c.inputs.length + i] = c.latches[i].1 := by
  have h0 := R.nDefs
  refine ⟨by omega, ?_⟩
  unfold defsOf
  rw [List.getElem_append_left (by simp; omega), List.getElem_append_right (by omega)]
  simp
theorem Right.to_even {v : Int} (hv : 0 ≤ v) : L (toM c) v % 2 = 0 := by
  rcases R.to_cases hv with ⟨e, _⟩ | ⟨j, _, _, e⟩ <;> rw [e] <;> omega
/-- Values go with the map. -/
theorem Right.val_ren (R' : Right (renC c)) (s r : List Bool) {v : Int} (hv : 0 ≤ v) : gt (valM (renC c) s r) (L (toM c) v / 2) = gt (valM c s r) v := by
  have V := val_ok R s r
  have V' := val_ok R' s r
  -- a variable whose definition is the d-th
  have key : ∀ d (hd : d < (defsOf c (ordM c)).length), gt (valM (renC c) s r) ((2 * (d : Int) + 2) / 2) = gt (valM c s r) ((defsOf c (ordM c))[d] / 2) := by
    intro d
    induction d using Nat.strongRecOn with
    | _ d ih =>
      intro hd
      have hn := R.nDefs
      rcases Nat.lt_or_ge d c.inputs.length with h1 | h1
      · obtain ⟨h2, e2⟩ := R.def_inp h1
        have e3 := R.lit_def hd
        have g1 := V.inp d h1
        have g2 := V'.inp d (by show d < (c.inputs.map (litM (toM c))).length; simpa using h1)
        have e4 : gt (renC c).inputs (d : Int) = 2 * d + 2 := by
          rw [gt_nat (show d < (renC c).inputs.length by show d < (c.inputs.map (litM (toM c))).length; simpa using h1)]
          show (c.inputs.map (litM (toM c)))[d]'(by simpa using h1) = _
          rw [List.getElem_map, ← e2, e3]
        rw [e4] at g2
        rw [gt_nat h1, ← e2] at g1
        rw [g1, g2]
      rcases Nat.lt_or_ge d (c.inputs.length + c.latches.length) with h2 | h2
      · obtain ⟨i, rfl⟩ : ∃ i, d = c.inputs.length + i := ⟨d - c.inputs.length, by omega⟩
        have h3 : i < c.latches.length := by omega
        obtain ⟨_, e2⟩ := R.def_lat h3
        have e3 := R.lit_def hd
        have g1 := V.lat i h3
        have g2 := V'.lat i (by show i < (c.latches.map (renLatch (toM c))).length; simpa using h3)
        have e4 : (gt (renC c).latches (i : Int)).1 = 2 * ((c.inputs.length + i : Nat) : Int) + 2 := by
          rw [gt_nat (show i < (renC c).latches.length by show i < (c.latches.map (renLatch (toM c))).length; simpa using h3)]
          show ((c.latches.map (renLatch (toM c)))[i]'(by simpa using h3)).1 = _
          rw [List.getElem_map, ← e3, e2]
          rfl
        rw [e4] at g2
        rw [gt_nat h3, ← e2] at g1
        rw [g1, g2]
      · obtain ⟨j, rfl⟩ : ∃ j, d = c.inputs.length + c.latches.length + j := ⟨d - (c.inputs.length + c.latches.length), by omega⟩
        have h3 : j < (ordM c).length := by have := R.ordLen; omega
        obtain ⟨_, e2⟩ := R.def_and h3
        have ho := R.ord (List.getElem_mem h3)
        have hlt : (ordM c)[j].toNat < c.ands.length := by omega
        have ea : gt c.ands (ordM c)[j] = andAt c (ordM c)[j] := rfl
        have hmem : andAt c (ordM c)[j] ∈ c.ands := by unfold andAt; simp [hlt]
        have hg := R.gate hmem
        have g1 := V.and (ordM c)[j].toNat hlt
        rw [show (((ordM c)[j].toNat : Nat) : Int) = (ordM c)[j] by omega, ea] at g1
        have hj' : j < (renC c).ands.length := by rw [R.ren_ands, ← R.ordLen]; exact h3
        have g2 := V'.and j hj'
        have e4 : gt (renC c).ands (j : Int) = renAnd (toM c) (andAt c (ordM c)[j]) := by
          rw [gt_nat hj']
          show ((ordM c).map fun i => renAnd (toM c) (andAt c i))[j]'(by simpa using h3) = _
          rw [List.getElem_map]
        rw [e4] at g2
        have e5 := R.ren_out h3
        rw [show (renAnd (toM c) (andAt c (ordM c)[j])).1 = litM (toM c) (andAt c (ordM c)[j]).1 from rfl, e5] at g2
        -- a literal of the gate's
        have lits : ∀ l, (l = (andAt c (ordM c)[j]).2.1 ∨ l = (andAt c (ordM c)[j]).2.2) → lv (valM (renC c) s r) (litM (toM c) l) = lv (valM c s r) l := fun l hl => by
          have hl0 : 0 ≤ l := by
            have q1 := hg.2.1
            have q2 := hg.2.2
            unfold inR at q1 q2
            rcases hl with e | e <;> omega
          refine even_lv (R.to_even (by omega)) _ ?_
          rcases R.to_cases (v := l / 2) (by omega) with ⟨e1, hno⟩ | ⟨d', hd', ed, e1⟩
          · rw [e1, R.val_no s r (by omega) hno]
            exact V'.zero
          · rw [e1, ed]
            refine ih d' ?_ hd'
            rcases Nat.lt_or_ge d' (c.inputs.length + c.latches.length) with q | q
            · omega
            · obtain ⟨j', rfl⟩ : ∃ j', d' = c.inputs.length + c.latches.length + j' := ⟨d' - (c.inputs.length + c.latches.length), by omega⟩
              have q3 : j' < (ordM c).length := by have := R.ordLen; omega
              obtain ⟨_, e6⟩ := R.def_and q3
              rw [e6] at ed
              have := R.low h3 hl q3 ed
              omega
        rw [e2, g1, g2]
        have l1 := lits _ (.inl rfl)
        have l2 := lits _ (.inr rfl)
        simp only [renAnd]
        rcases Int.le_total (litM (toM c) (andAt c (ordM c)[j]).2.1) (litM (toM c) (andAt c (ordM c)[j]).2.2) with h | h
        · rw [Int.max_eq_right h, Int.min_eq_left h, l1, l2, Bool.and_comm]
        · rw [Int.max_eq_left h, Int.min_eq_right h, l1, l2]
  rcases R.to_cases hv with ⟨e1, hno⟩ | ⟨d, hd, ed, e1⟩
  · rw [e1, R.val_no s r hv hno]
    exact V'.zero
  · rw [e1, ed]
    exact key d hd
end
end SC
end Go.Proofs.Ytkndegjodnciaaa
end
section
/- Runs of the renumbered circuit. -/
set_option linter.unusedVariables false
set_option linter.unusedSimpArgs false
namespace Go.Proofs.Ytkndegjodnciaaa
namespace SC
open Go.Proofs
theorem gt_map {α β : Type} [Inhabited α] [Inhabited β] {f : α → β} {l : List α} {k : Nat} (h : k < l.length) : gt (l.map f) (k : Int) = f (gt l (k : Int)) := by
  rw [gt_nat (by simpa using h), gt_nat h, List.getElem_map]
theorem selI_map {v w : List Bool} {f : Int → Int} {ls : List Int} (h : ∀ l ∈ ls, lv w (f l) = lv v l) : selI w (ls.map f) (ls.map f).length = selI v ls ls.length := by
  unfold selI
  rw [List.length_map]
  congr 1
  apply List.filter_congr
  intro k hk
  have hk := List.mem_range.1 hk
  rw [gt_map hk]
  exact h _ (gt_mem (by omega) (by omega))
theorem selF_map {a : Int} {v w : List Bool} {f : Int → Int} {ls : List Int} (h : ∀ l ∈ ls, lv w (f l) = lv v l) : selF a w (ls.map f) (ls.map f).length = selF a v ls ls.length := by
  unfold selF
  rw [List.length_map]
  congr 1
  apply List.filter_congr
  intro k hk
  have hk := List.mem_range.1 hk
  rw [gt_map hk]
  exact h _ (gt_mem (by omega) (by omega))
theorem fairJ_map {v w : List Bool} {f : Int → Int} {js : List (List Int)} (h : ∀ ls ∈ js, ∀ l ∈ ls, lv w (f l) = lv v l) : fairJ w (js.map fun l => l.map f) (js.map fun l => l.map f).length = fairJ v js js.length := by
  unfold fairJ
  rw [List.length_map]
  have e : ∀ k, k ∈ List.range js.length → selF (k : Int) w ((js.map fun l => l.map f).getD k []) ((js.map fun l => l.map f).getD k []).length = selF (k : Int) v (js.getD k []) (js.getD k []).length := fun k hk => by
    have hk := List.mem_range.1 hk
    have e1 : (js.map fun l => l.map f).getD k [] = (js.getD k []).map f := by simp [hk]
    have e2 : js.getD k [] = js[k] := by simp [hk]
    rw [e1]
    exact selF_map (h _ (by rw [e2]; exact List.getElem_mem hk))
  rw [List.flatMap, List.flatMap, List.map_congr_left e]
section
variable {c : Circ} (R : Right c) (R' : Right (renC c))
include R R'
theorem Right.lv_ren (s r : List Bool) {l : Int} (h : 0 ≤ l) : lv (valM (renC c) s r) (litM (toM c) l) = lv (valM c s r) l := even_lv (R.to_even (by omega)) _ (R.val_ren R' s r (by omega))
theorem Right.nxt_ren (s r : List Bool) : nxtM (renC c) (valM (renC c) s r) = nxtM c (valM c s r) := by
  unfold nxtM
  show (c.latches.map (renLatch (toM c))).map _ = _
  rw [List.map_map]
  exact List.map_congr_left fun x hx => R.lv_ren R' s r (R.lat hx).2.1.1
theorem Right.mom_ren (s r : List Bool) : momM (renC c) s (valM (renC c) s r) = momM c s (valM c s r) := by
  have h1 : (renC c).constraints.all (lv (valM (renC c) s r)) = c.constraints.all (lv (valM c s r)) := by
    show (c.constraints.map (litM (toM c))).all _ = _
    rw [List.all_map, Bool.eq_iff_iff, List.all_eq_true, List.all_eq_true]
    exact ⟨fun h l hl => by have := h l hl; rwa [Function.comp_apply, R.lv_ren R' s r (R.con hl).1] at this, fun h l hl => by rw [Function.comp_apply, R.lv_ren R' s r (R.con hl).1]; exact h l hl⟩
  have h2 : selI (valM (renC c) s r) (renC c).bads (renC c).bads.length = selI (valM c s r) c.bads c.bads.length := selI_map fun l hl => R.lv_ren R' s r (R.bad hl).1
  have h3 : fairJ (valM (renC c) s r) (renC c).justice (renC c).justice.length = fairJ (valM c s r) c.justice c.justice.length := fairJ_map fun ls hls l hl => R.lv_ren R' s r (R.just hls hl).1
  have h4 : selF (-1) (valM (renC c) s r) (renC c).fairness (renC c).fairness.length = selF (-1) (valM c s r) c.fairness c.fairness.length := selF_map fun l hl => R.lv_ren R' s r (R.fair hl).1
  unfold momM
  rw [h1, h2, h3, h4]
theorem Right.st_ren (t : Trc) : ∀ k, stM (renC c) t k = stM c t k
  | 0 => rfl
  | k + 1 => by
    show nxtM (renC c) (valM (renC c) (stM (renC c) t k) _) = nxtM c (valM c (stM c t k) _)
    rw [Right.st_ren t k, R.nxt_ren R']
theorem Right.run_ren (t : Trc) (n : Nat) : runM (renC c) t n = runM c t n := by
  unfold runM
  exact List.map_congr_left fun k _ => by rw [R.st_ren R' t k, R.mom_ren R']
end
theorem fits_ren {c : Circ} (t : Trc) : fitsM (renC c) t = fitsM c t := by
  unfold fitsM renC renM
  simp
/-- Runs do not change. -/
theorem runs_ren {c : Circ} (R : Right c) (R' : Right (renC c)) (h : (lookM c).2 = 0) (t : Trc) : runE (renC c) t = runE c t ∧ runsM (renC c) t = runsM c t := by
  have h' := ren_look R h
  have e : runE (renC c) t = runE c t := by unfold runE; rw [h', h, fits_ren]
  refine ⟨e, ?_⟩
  unfold runsM
  rw [e, R.run_ren R']
/-- A renumbered circuit is right. -/
theorem ren_right {c : Circ} (R : Right c) (h : (lookM c).2 = 0) : Right (renC c) := by
  obtain ⟨_, g1, g2, g3, _⟩ := lookM_ok (ren_look R h)
  obtain ⟨k1, k2, k3, k4⟩ := sizesM_ok g1
  have e1 := ordM_eq R.ren_all
  exact ⟨definesM_spec k1 g2, usesM_spec.1 g3, k1, k2, k3, k4, by rw [e1]; exact R.ren_all, by rw [e1, upto_len]⟩
end SC
end Go.Proofs.Ytkndegjodnciaaa
end
section
/- shape: Renumber, by entries. -/
set_option linter.unusedVariables false
set_option linter.unusedSimpArgs false
namespace Go.Proofs.Ytkndegjodnciaaa
namespace SC
open Go.Proofs
section
variable {c : Circ} (R : Right c)
include R
theorem Right.lit_le {l : Int} (h : 0 ≤ l) : 0 ≤ litM (toM c) l ∧ litM (toM c) l ≤ 100000 := by
  have e0 : litM (toM c) l = L (toM c) (l / 2) + l % 2 := rfl
  have h1 := R.nDefs_le
  have h2 := R.m1
  rw [e0]
  rcases R.to_cases (v := l / 2) (by omega) with ⟨e, _⟩ | ⟨j, hj, _, e⟩ <;> rw [e] <;> omega
theorem Right.ren_okay (ho : c.Okay) : (renC c).Okay := by
  have le : ∀ {l : Int}, 0 ≤ l → fits (litM (toM c) l) := fun h => by have := R.lit_le h; unfold fits; omega
  refine ⟨by rw [R.ren_lens]; exact ho.lens, fun l hl => ?_, fun x hx => ?_, fun x hx => ?_, ho.symbols⟩
  · obtain ⟨y, hy, rfl⟩ := List.mem_map.1 (show l ∈ c.justice.map (fun l => l.map (litM (toM c))) from hl)
    rw [List.length_map]
    exact ho.just y hy
  · obtain ⟨y, hy, rfl⟩ := List.mem_map.1 (show x ∈ c.latches.map (renLatch (toM c)) from hx)
    obtain ⟨h1, h2, h3⟩ := R.lat hy
    unfold defR at h1
    unfold inR at h2
    refine ⟨le (by omega), le (by omega), ?_⟩
    show fits (if 1 < y.2.2 then litM (toM c) y.2.2 else y.2.2)
    split
    · exact le (by omega)
    · unfold fits; omega
  · obtain ⟨i, hi, rfl⟩ := List.mem_map.1 (show x ∈ (ordM c).map (fun i => renAnd (toM c) (andAt c i)) from hx)
    have ho := R.ord hi
    have hlt : i.toNat < c.ands.length := by omega
    have ha : andAt c i ∈ c.ands := by unfold andAt; simp [hlt]
    obtain ⟨h1, h2, h3⟩ := R.gate ha
    unfold defR at h1
    unfold inR at h2 h3
    have l1 := R.lit_le (l := (andAt c i).2.1) (by omega)
    have l2 := R.lit_le (l := (andAt c i).2.2) (by omega)
    refine ⟨le (by omega), ?_, ?_⟩
    · show fits (max _ _)
      unfold fits
      omega
    · show fits (min _ _)
      unfold fits
      omega
theorem Right.ren_fits (hf : c.Fits) : (renC c).Fits := by
  have e : ∀ (f : Int → Int) (l : List Int), (l.map f).length = l.length := fun f l => List.length_map _
  have ea := R.ren_ands
  refine ⟨?_, ?_, ?_, ?_, ?_, ?_, fun l hl => ?_, ?_, ?_, hf.symbols, hf.comments⟩
  · show (c.inputs.map (litM (toM c))).length * 8 ≤ _; rw [e]; exact hf.inputs
  · show (c.latches.map (renLatch (toM c))).length * 24 ≤ _; rw [List.length_map]; exact hf.latches
  · show (c.outputs.map (litM (toM c))).length * 8 ≤ _; rw [e]; exact hf.outputs
  · show (c.bads.map (litM (toM c))).length * 8 ≤ _; rw [e]; exact hf.bads
  · show (c.constraints.map (litM (toM c))).length * 8 ≤ _; rw [e]; exact hf.constraints
  · show (c.justice.map (fun l => l.map (litM (toM c)))).length * 24 ≤ _; rw [List.length_map]; exact hf.justice
  · obtain ⟨y, hy, rfl⟩ := List.mem_map.1 (show l ∈ c.justice.map (fun l => l.map (litM (toM c))) from hl)
    rw [e]; exact hf.each y hy
  · show (c.fairness.map (litM (toM c))).length * 8 ≤ _; rw [e]; exact hf.fairness
  · rw [ea]; exact hf.ands
theorem Right.ren_sane (hs : c.Sane) : (renC c).Sane := by
  have ea := R.ren_ands
  refine ⟨fun l hl => ?_, hs.kinds, hs.ats, hs.names, hs.texts, ?_⟩
  · obtain ⟨y, hy, rfl⟩ := List.mem_map.1 (show l ∈ c.justice.map (fun l => l.map (litM (toM c))) from hl)
    rw [List.length_map]
    exact hs.just y hy
  · have h := hs.lens
    have e1 : (renC c).inputs.length = c.inputs.length := List.length_map _
    have e2 : (renC c).latches.length = c.latches.length := List.length_map _
    have e3 : (renC c).outputs.length = c.outputs.length := List.length_map _
    have e4 : (renC c).bads.length = c.bads.length := List.length_map _
    have e5 : (renC c).constraints.length = c.constraints.length := List.length_map _
    have e6 : (renC c).justice.length = c.justice.length := List.length_map _
    have e7 : (renC c).fairness.length = c.fairness.length := List.length_map _
    have e8 : (renC c).symbols = c.symbols := rfl
    have e9 : (renC c).comments = c.comments := rfl
    rw [e1, e2, e3, e4, e5, e6, e7, e8, e9, ea]
    exact h
end
/-- A renumbered circuit of its own and its map, as one entry. -/
def renX (base : Nat) (c : Circ) (h js : Hd) (A : Option Addr) (k : Nat) : EntX where
  own := fun b => (∃ i, (cirRows (renC c) h js js (renC c).justice.length i).v.ownBlock = some b) ∨ (Value.slice A (toM c).length k).ownBlock = some b
  ok := fun w => CirOwn w base (renC c) h js ∧ w.ownsRow base 3 1 (.slice A (toM c).length k) (toM c).length ((toM c).flatMap icell)
  lt := fun w H b hb => by
    rcases hb with ⟨i, hi⟩ | hb
    · exact (Rows.lt H.1 hi).2
    · exact (World.ownsRow.lt H.2 b hb).2
  keep := fun w w' S H hc hn => ⟨Rows.chg H.1 hc fun i b hb => hn b (.inl ⟨i, hb⟩), own_chg H.2 hc fun b hb => hn b (.inr hb)⟩
def RenR (c : Circ) (v : Value) (N : Mm) : Prop :=
  ((lookM c).2 ≠ 0 ∧ v = .tuple #[.agg Zc.toArray, .slice none 0 0, nu (lookM c).2] ∧ N = []) ∨
    ((lookM c).2 = 0 ∧ ∃ h' js' A k base, v = .tuple #[.agg (ccells (renC c) h').toArray, .slice A (toM c).length k, nu 0] ∧ N = [.any (renX base c h' js' A k)])
theorem renumber_ok {w : World} {c : Circ} {h js : Hd} (H : CirIn w c h js) (he : (lookM c).2 = 0) : CVN Try.prog 37 [.agg (ccells c h).toArray] w (RenR c) := by
  have R := right_of H.at_ H.sane he
  refine CV.mono (Renumber_cv H.at_ H.sane (R.sumJ H.fits)) fun v w' ⟨hc, hv⟩ => ?_
  rcases hv with ⟨h1, _⟩ | ⟨_, ord, h', js', u, h2, _, rfl, h4, h5⟩
  · exact absurd he h1
  · have e := ordM_eq h2
    subst e
    rw [← flat_icell] at h5
    obtain ⟨A, k, rfl⟩ := row_form' h5
    refine ⟨[.any (renX w.heap.size c h' js' A k)], Mem.join (.one ⟨h4, h5⟩) (.one hc) fun b ⟨E, hE, h1⟩ ⟨F, hF, h2⟩ => ?_, .inr ⟨he, h', js', A, k, _, rfl, rfl⟩⟩
    simp only [List.mem_singleton] at hE hF
    subst hE hF
    have hlt := h2.1
    rcases h1 with ⟨i, hi⟩ | h1
    · have := (Rows.lt h4 hi).1
      omega
    · have := (World.ownsRow.lt h5 b h1).1
      omega
attribute [local irreducible] WC WL WX WS WO OX Does DoesU Enters CV Pure thenQ blockQ retQ Wants retQC GC GL GS GX RdB thenG blockG retG Rd At gt CVN CVM
set_option maxRecDepth 100000
theorem renumber_no {w : World} {c : Circ} {h js : Hd} (H : CirIn w c h js) (he : (lookM c).2 ≠ 0) : CVN Try.prog 37 [.agg (ccells c h).toArray] w (RenR c) := by
  have hord : ∀ Γ, In Γ (.old w none_) → ∀ w', Mem w' Γ → CVN Try.prog 26 [.agg (ccells c h).toArray] w' (OrdR c) := fun Γ hi w' M => OrderG (H.at_.chg (hi.old M)) H.sane
  refine CVN.enterC (t := 51) 204 2 [3, 4] Try.func37 rfl rfl rfl (.inr rfl) rfl ?_
  repeat' (first
      | (apply G_call; eq_refl; eq_refl; (apply hord; (repeat first | exact In.here | apply In.there | apply In.skip)); rintro _ _ (⟨_, rfl, rfl⟩ | ⟨he', A1, k1, rfl, rfl⟩); rotate_left; (exact absurd he' he))
      | (apply GC_seqK; intro K hK)
      | (apply hK; clear hK K)
      | (clear hK K; apply hK; clear hK K)
      | (clear hK K; clear hK K; apply hK; clear hK K)
      | (clear hK K; clear hK K; clear hK K; apply hK; clear hK K)
      | (apply GC_block)
      | (apply GC_region)
      | (apply GL_nil)
      | (apply thenG_normal)
      | (apply thenG_ret)
      | (apply thenG_exit)
      | (apply blockG_hit)
      | (apply blockG_miss; eq_refl)
      | (apply blockG_ret)
      | (apply blockG_normal)
      | (apply GC_ret)
      | (apply GC_exit)
      | (apply GC_skip)
      | (apply GC_if_true; eq_refl)
      | (apply GC_if_false; eq_refl)
      | (apply GC_ifD; eq_refl; all_goals intro _)
      | (apply GC_if; eq_refl; all_goals intro _)
      | (apply retG1; eq_refl)
      | (apply retG2; eq_refl; eq_refl)
      | (apply retG3; eq_refl; eq_refl; eq_refl)
      | (apply retG0)
      | (apply retG0n)
      | (apply retGC0; eq_refl; (repeat first | exact In.here | apply In.there | apply In.skip); eq_refl)
      | (apply retGC2; eq_refl; (repeat first | exact In.here | apply In.there | apply In.skip); eq_refl; eq_refl; eq_refl)
      | (apply GL_on; eq_refl; eq_refl)
      | (refine GC_draws (id := 26) [.q 0, .q 1, .q 2, .q 4, .q 5, .q 6, .q 8, .q 9, .q 10, .q 12, .q 13, .q 14, .q 16, .q 17, .q 18, .c 3, .q 20, .c 7, .c 11, .c 15, .c 19, .c 21, .q 22, .c 23, .q 24, .c 25, .q 26, .c 27, .q 28, .c 29] mixed (by kernel_rfl) (by kernel_rfl) ?_)
      | (refine GC_draws (id := 30) [.q 0, .q 1, .q 2, .q 3, .q 4, .c 5, .q 6, .c 7] mixed (by kernel_rfl) (by kernel_rfl) ?_)
      | (refine GC_draws (id := 37) [.q 0, .q 1, .q 2, .q 3, .q 4, .q 5, .q 7, .q 8, .q 9, .q 11, .q 12, .c 6, .c 10, .q 13, .q 14, .c 15] mixed (by kernel_rfl) (by kernel_rfl) ?_)
      | (refine GC_draws (id := 42) [.q 0, .q 1, .q 2, .q 3, .q 4, .q 5, .q 6, .q 8, .q 9, .q 10, .q 11, .q 12, .q 13, .q 14, .c 7, .c 15, .q 16, .q 17] mixed (by kernel_rfl) (by kernel_rfl) ?_)
      | (refine GC_draws (id := 43) [.q 0, .q 1, .q 2, .q 3, .q 4, .q 5, .q 6, .q 7, .q 8, .q 9, .q 11, .q 12, .q 13, .q 14, .q 15, .q 16, .c 10, .q 17, .q 18, .c 19] mixed (by kernel_rfl) (by kernel_rfl) ?_)
      | (refine GC_draws (id := 45) [.q 0, .q 1, .c 2, .q 3, .q 4] mixed (by kernel_rfl) (by kernel_rfl) ?_)
      | (apply GS_nil)
      | (apply GS_qon; eq_refl; eq_refl; eq_refl; eq_refl)
      | (apply GS_con; eq_refl; eq_refl; eq_refl; eq_refl)
      | (apply G_pv; eq_refl; first | exact trivial | omega)
      | (apply G_field; eq_refl)
      | (apply G_fieldP; eq_refl)
      | (apply G_ld; eq_refl; (repeat first | exact In.here | apply In.there | apply In.skip); eq_refl)
      | (apply G_ldW; eq_refl; (repeat first | exact In.here | apply In.there | apply In.skip); eq_refl)
      | (apply G_ldO; eq_refl; (repeat first | exact In.here | apply In.there | apply In.skip); assumption; eq_refl)
      | (apply G_ldR; eq_refl; (apply RdB.oldR; (repeat first | exact In.here | apply In.there | apply In.skip); assumption); eq_refl)
      | (apply G_ldOW; eq_refl; (repeat first | exact In.here | apply In.there | apply In.skip); assumption; eq_refl)
      | (apply G_rd; eq_refl; (first | (apply Rd.own; (repeat first | exact In.here | apply In.there | apply In.skip); infer_instance) | (apply Rd.old; (repeat first | exact In.here | apply In.there | apply In.skip); assumption) | (apply Rd.oldR; (repeat first | exact In.here | apply In.there | apply In.skip); assumption) | exact Rd.nil | assumption); (case ih => infer_instance); omega; omega; eq_refl)
      | (apply G_rdF; eq_refl; (first | (apply Rd.own; (repeat first | exact In.here | apply In.there | apply In.skip); infer_instance) | (apply Rd.old; (repeat first | exact In.here | apply In.there | apply In.skip); assumption) | (apply Rd.oldR; (repeat first | exact In.here | apply In.there | apply In.skip); assumption) | exact Rd.nil | assumption); (case ih => infer_instance); omega; omega; eq_refl)
      | (apply G_rdW; eq_refl; (first | (apply Rd.own; (repeat first | exact In.here | apply In.there | apply In.skip); infer_instance) | (apply Rd.old; (repeat first | exact In.here | apply In.there | apply In.skip); assumption) | (apply Rd.oldR; (repeat first | exact In.here | apply In.there | apply In.skip); assumption) | exact Rd.nil | assumption); infer_instance; (case ih => infer_instance); omega; omega)
      | (apply G_cmpT; eq_refl; eq_refl; omega)
      | (apply G_cmpF; eq_refl; eq_refl; omega)
      | (apply G_cmp; eq_refl; eq_refl; all_goals intro _)
      | (apply G_len; eq_refl)
      | (apply G_lenS; eq_refl)
      | (apply G_max; eq_refl; eq_refl)
      | (apply G_min; eq_refl; eq_refl)
      | (apply G_ix; eq_refl; eq_refl; (first | (apply Rd.own; (repeat first | exact In.here | apply In.there | apply In.skip); infer_instance) | (apply Rd.old; (repeat first | exact In.here | apply In.there | apply In.skip); assumption) | (apply Rd.oldR; (repeat first | exact In.here | apply In.there | apply In.skip); assumption) | exact Rd.nil | assumption); (first | eq_refl | omega); omega; omega)
      | (apply G_ixA; eq_refl; eq_refl; omega; omega)
      | (apply G_neqB; eq_refl; eq_refl)
      | (apply G_alloc; eq_refl; intro _)
      | (apply G_box; eq_refl; eq_refl; intro _)
      | (apply G_stV; (first | exact wr_p | kernel_rfl); eq_refl; eq_refl; eq_refl; eq_refl; (repeat first | exact Upd.here | apply Upd.there | apply Upd.skip); infer_instance; infer_instance; eq_refl; omega; (try simp only [List.length_set, List.length_append, List.length_replicate]); omega)
      | (apply G_st; (first | exact wr_p | kernel_rfl); eq_refl; eq_refl; eq_refl; eq_refl; (repeat first | exact Upd.here | apply Upd.there | apply Upd.skip); (first | decide | exact Nat.le_of_ble_eq_true rfl))
      | (apply G_stW; (first | exact wr_p | kernel_rfl); eq_refl; eq_refl; eq_refl; eq_refl; (repeat first | exact Upd.here | apply Upd.there | apply Upd.skip); eq_refl)
      | (apply G_make booc; eq_refl; eq_refl; eq_refl; omega; decide; intro _)
      | (apply G_makeI booc; eq_refl; eq_refl; omega; eq_refl; omega; decide; intro _)
      | (apply G_makeI icell; eq_refl; eq_refl; omega; eq_refl; omega; decide; intro _)
      | (apply G_make icell; eq_refl; eq_refl; eq_refl; omega; decide; intro _)
      | (apply G_fun; eq_refl)
      | (apply GX_pure; apply build51_)
      | (apply GX_pure; apply build70_0_1_2 <;> eq_refl)
      | (apply GX_pure; apply build43_0_1_2 <;> eq_refl))
  exact ⟨[], (by repeat first | exact Wk.nil | exact Wk.refl | (apply Wk.cons; (focus ((repeat first | exact Rem.here | apply Rem.there | apply Rem.skip); done))) | apply Wk.nilv | apply Wk.last | apply Wk.drop), .inl ⟨he, rfl, rfl⟩⟩
theorem RenumberG {w : World} {c : Circ} {h js : Hd} (H : CirIn w c h js) : CVN Try.prog 37 [.agg (ccells c h).toArray] w (RenR c) := by
  by_cases he : (lookM c).2 = 0
  · exact renumber_ok H he
  · exact renumber_no H he
end SC
end Go.Proofs.Ytkndegjodnciaaa
end
section
/- trestlelaw07: SimNumbers: the walk. -/
set_option linter.unusedVariables false
set_option linter.unusedSimpArgs false
namespace Go.Proofs.Ytkndegjodnciaaa
namespace SC
open Go.Proofs
theorem Rd.ren {Γ : Mm} {base : Nat} {c : Circ} {h js : Hd} {A : Option Addr} {k : Nat} (hi : In Γ (.any (renX base c h js A k))) : Rd Γ icell 1 A (toM c) := fun w M => RowA.own ilen (hi.ok M).2
theorem In.ren {Γ : Mm} {w w0 : World} {base : Nat} {c : Circ} {h js h' js' : Hd} {A : Option Addr} {k : Nat} (H : CirIn w0 c h js) (he : (lookM c).2 = 0) (hi : In Γ (.any (renX base c h' js' A k))) (M : Mem w Γ) : CirIn w (renC c) h' js' := by
  have R := right_of H.at_ H.sane he
  exact ⟨CirOwn.at (hi.ok M).1, R.ren_sane H.sane, R.ren_okay H.okay, R.ren_fits H.fits⟩
attribute [local irreducible] WC WL WX WS WO OX Does DoesU Enters CV Pure thenQ blockQ retQ Wants retQC GC GL GS GX RdB thenG blockG retG Rd At gt CVN CVM
attribute [local irreducible] fam bun renX
set_option maxRecDepth 100000
set_option maxHeartbeats 1600000 in
theorem simNumbers_cv {w : World} {c : Circ} {h js : Hd} {t : Trc} {a b : Hdl} (H : CirIn w c h js) (HT : TrcIn w t a b) :
    CVN Try.prog 14 [.agg (ccells c h).toArray, .agg (tcs t a b).toArray] w fun v N => N = [] ∧ v = .bool true := by
  have hM := runs_facts (t := t) H
  have hr0 : ∀ Γ, In Γ (.old w none_) → ∀ w', Mem w' Γ → CVN Try.prog 42 [.agg (ccells c h).toArray, .agg (tcs t a b).toArray] w' (RunB (runE c t) (runsM c t)) := fun Γ ho w' M => RunB.to (RunR.to (Run_cv (H.chg (ho.old M)) (HT.chg (ho.old M))) rfl rfl)
  have hren : ∀ Γ, In Γ (.old w none_) → ∀ w', Mem w' Γ → CVN Try.prog 37 [.agg (ccells c h).toArray] w' (RenR c) := fun Γ ho w' M => RenumberG (H.chg (ho.old M))
  have h5 : ∀ w', CVN Try.prog 48 [] w' _ := fun w' => worksSim_cv
  have hI := HT.init
  have hR := HT.rows
  refine CVN.enter 106 [4] Try.func14 rfl rfl rfl (by decide) rfl ?_
  by_cases he : (lookM c).2 = 0
  · have R := right_of H.at_ H.sane he
    have R' := ren_right R he
    obtain ⟨q1, q2⟩ := runs_ren R R' he t
    have hrx : ∀ Γ base h' js' A k, In Γ (.any (renX base c h' js' A k)) → In Γ (.old w none_) → ∀ w', Mem w' Γ → CVN Try.prog 42 [.agg (ccells (renC c) h').toArray, .agg (tcs t a b).toArray] w' (RunB (runE c t) (runsM c t)) := fun Γ base h' js' A k hx ho w' M => RunB.to (RunR.to (Run_cv (In.ren H he hx M) (HT.chg (ho.old M))) q1 q2)
    have hs2 : ∀ Γ ps A k qs B k', In Γ (.any (bun (runB ps A k))) → In Γ (.any (bun (runB qs B k'))) → ps.map (·.2) = runsM c t → qs.map (·.2) = runsM c t → ∀ w', Mem w' Γ → CVN Try.prog 44 [.slice A ps.length k, .slice B qs.length k'] w' fun v N => N = [] ∧ v = .bool true := fun Γ ps A k qs B k' h1 h3 e1 e2 w' M =>
      same_cv (MomsIn.bun h1 M) (MomsIn.bun h3 M) (e1.trans e2.symm) fun p hp x hx => (hM p.2 (by rw [← e1]; exact List.mem_map.2 ⟨p, hp, rfl⟩)).2 x hx
    have hRen : ∀ Γ, In Γ (.old w none_) → ∀ w', Mem w' Γ → CVN Try.prog 37 [.agg (ccells c h).toArray] w' fun v N => ∃ h' js' A k base, v = .tuple #[.agg (ccells (renC c) h').toArray, .slice A (toM c).length k, nu 0] ∧ N = [.any (renX base c h' js' A k)] := fun Γ ho w' M => (hren Γ ho w' M).mono fun v N hv => by
      rcases hv with ⟨h1, _⟩ | ⟨_, hv⟩
      · exact absurd he h1
      · exact hv
    by_cases hz : runE c t = 0
    · obtain ⟨_, F⟩ := runE_zero hz
      have f1 := F.pos
      have f2 := F.few
      have hm0 := gt_mem (l := t.rows) (i := (0 : Int)) (by omega) (by omega)
      have e0 : stepE c t.init (gt t.rows 0).2 = 0 := stepE_ok he F.init (F.rows _ hm0)
      have e0' : stepE (renC c) t.init (gt t.rows 0).2 = 0 := stepE_ok (ren_look R he) (F.init.trans (List.length_map _).symm) ((F.rows _ hm0).trans (List.length_map _).symm)
      have hv1 : ∀ Γ, In Γ (.old w none_) → ∀ w', Mem w' Γ → CVN Try.prog 53 [.agg (ccells c h).toArray, .slice a.1 t.init.length a.2, .slice (gt t.rows 0).1.1 (gt t.rows 0).2.length (gt t.rows 0).1.2] w' fun v N => ∃ A' k', v = .tuple #[.slice A' (valM c t.init (gt t.rows 0).2).length k', nu 0] ∧ N = [.vec booc 1 4 A' k' (valM c t.init (gt t.rows 0).2)] := fun Γ ho w' M => by
        have := ValuesP_cv (k2 := a.2) (k3 := (gt t.rows 0).1.2) (H.chg (ho.old M)) (hI.chg (ho.old M)) ((HT.each _ hm0).chg (ho.old M))
        unfold ValsR at this
        rw [show valsM c t.init (gt t.rows 0).2 = valM c t.init (gt t.rows 0).2 from if_pos e0, e0] at this
        exact this
      have hv2 : ∀ Γ base h' js' A k, In Γ (.any (renX base c h' js' A k)) → In Γ (.old w none_) → ∀ w', Mem w' Γ → CVN Try.prog 53 [.agg (ccells (renC c) h').toArray, .slice a.1 t.init.length a.2, .slice (gt t.rows 0).1.1 (gt t.rows 0).2.length (gt t.rows 0).1.2] w' fun v N => ∃ A' k', v = .tuple #[.slice A' (valM (renC c) t.init (gt t.rows 0).2).length k', nu 0] ∧ N = [.vec booc 1 4 A' k' (valM (renC c) t.init (gt t.rows 0).2)] := fun Γ base h' js' A k hx ho w' M => by
        have := ValuesP_cv (k2 := a.2) (k3 := (gt t.rows 0).1.2) (In.ren H he hx M) (hI.chg (ho.old M)) ((HT.each _ hm0).chg (ho.old M))
        unfold ValsR at this
        rw [show valsM (renC c) t.init (gt t.rows 0).2 = valM (renC c) t.init (gt t.rows 0).2 from if_pos e0', e0'] at this
        exact this
      have lv1 := valM_len c t.init (gt t.rows 0).2
      have lv2 := valM_len (renC c) t.init (gt t.rows 0).2
      have hval : ∀ v : Int, 0 ≤ v → gt (valM (renC c) t.init (gt t.rows 0).2) (gt (toM c) v / 2) = gt (valM c t.init (gt t.rows 0).2) v := fun v hv => by rw [gt_L]; exact R.val_ren R' _ _ hv
      rw [ren_max] at lv2
      have hm1 := R.nDefs_le
      have hm2 := R.m1
      have hm3 := R.m0
      have htl : (toM c).length = (c.max + 1).toNat := mapOf_len _ _
      have hto : ∀ v : Int, 0 ≤ v → 0 ≤ gt (toM c) v ∧ gt (toM c) v / 2 ≤ (defsOf c (ordM c)).length := fun v hv => by
        rw [gt_L]
        rcases R.to_cases hv with ⟨e, _⟩ | ⟨j, hj, _, e⟩ <;> rw [e] <;> omega
      rw [hz] at hr0 hrx
      generalize valM c t.init (gt t.rows 0).2 = V at *
      generalize valM (renC c) t.init (gt t.rows 0).2 = V' at *
      repeat' (first
      | (apply G_call; eq_refl; eq_refl; (exact fun w' _ => h5 w'); rintro _ _ ⟨rfl, rfl⟩)
      | (apply G_call; eq_refl; eq_refl; (apply hRen; (repeat first | exact In.here | apply In.there | apply In.skip)); rintro _ _ ⟨h', js', A, k, base, rfl, rfl⟩)
      | (apply G_call; eq_refl; eq_refl; (apply hr0; (repeat first | exact In.here | apply In.there | apply In.skip)); rintro _ _ ⟨ps, B, kB, rfl, hps, rfl⟩)
      | (apply G_call; eq_refl; eq_refl; (apply hrx; (repeat first | exact In.here | apply In.there | apply In.skip); (repeat first | exact In.here | apply In.there | apply In.skip)); rintro _ _ ⟨qs, C, kC, rfl, hqs, rfl⟩)
      | (apply G_call; eq_refl; eq_refl; (apply hs2; (repeat first | exact In.here | apply In.there | apply In.skip); (repeat first | exact In.here | apply In.there | apply In.skip); exact hps; exact hqs); rintro _ _ ⟨rfl, rfl⟩)
      | (apply G_call; eq_refl; eq_refl; (apply hv1; (repeat first | exact In.here | apply In.there | apply In.skip)); rintro _ _ ⟨A1, k1, rfl, rfl⟩)
      | (apply G_call; eq_refl; eq_refl; (apply hv2; (repeat first | exact In.here | apply In.there | apply In.skip); (repeat first | exact In.here | apply In.there | apply In.skip)); rintro _ _ ⟨A2, k2, rfl, rfl⟩)
      | (apply GC_seqK; intro K hK)
      | (apply hK; clear hK K)
      | (clear hK K; apply hK; clear hK K)
      | (clear hK K; clear hK K; apply hK; clear hK K)
      | (clear hK K; clear hK K; clear hK K; apply hK; clear hK K)
      | (apply GC_block)
      | (apply GC_region)
      | (apply GL_nil)
      | (apply thenG_normal)
      | (apply thenG_ret)
      | (apply thenG_exit)
      | (apply blockG_hit)
      | (apply blockG_miss; eq_refl)
      | (apply blockG_ret)
      | (apply blockG_normal)
      | (apply GC_ret)
      | (apply GC_exit)
      | (apply GC_skip)
      | (apply GC_if_true; eq_refl)
      | (apply GC_if_false; eq_refl)
      | (apply GC_ifD; eq_refl; all_goals intro _)
      | (apply GC_if; eq_refl; all_goals intro _)
      | (apply retG1; eq_refl)
      | (apply retG2; eq_refl; eq_refl)
      | (apply retG3; eq_refl; eq_refl; eq_refl)
      | (apply retG0)
      | (apply retG0n)
      | (apply GL_on; eq_refl; eq_refl)
      | (apply GL_off; eq_refl; eq_refl)
      | (apply GL_offU; eq_refl; eq_refl; eq_refl)
      | (apply GL_split; eq_refl; eq_refl; all_goals intro _)
      | (refine GC_draws (id := 13) [.q 0, .q 1, .q 2, .q 3, .q 4, .q 5, .q 6, .c 7, .q 8, .q 9, .q 10, .q 11, .q 12] mixed (by kernel_rfl) (by kernel_rfl) ?_)
      | (refine GC_draws (id := 14) [.q 0, .q 1, .q 2, .q 3, .q 4, .q 5, .q 6, .c 7, .q 8, .q 9, .q 10, .q 11, .q 12] mixed (by kernel_rfl) (by kernel_rfl) ?_)
      | (refine GC_draws (id := 20) [.q 0, .q 1, .q 2, .q 3, .q 4, .q 5, .q 6, .q 7, .q 8, .q 9] mixed (by kernel_rfl) (by kernel_rfl) ?_)
      | (apply GS_nil)
      | (apply GS_qon; eq_refl; eq_refl; eq_refl; eq_refl)
      | (apply GS_qoff; eq_refl; eq_refl; eq_refl; eq_refl)
      | (apply GS_qoffU; eq_refl; eq_refl; eq_refl; eq_refl; eq_refl)
      | (apply GS_con; eq_refl; eq_refl; eq_refl; eq_refl)
      | (apply GS_coff; eq_refl; eq_refl; eq_refl; eq_refl)
      | (apply GS_splitQ; eq_refl; eq_refl; eq_refl; eq_refl; all_goals intro _)
      | (apply GS_splitC; eq_refl; eq_refl; eq_refl; eq_refl; all_goals intro _)
      | (apply G_pv; eq_refl; first | exact trivial | omega)
      | (apply G_field; eq_refl)
      | (apply G_fieldP; eq_refl)
      | (apply G_ld; eq_refl; (repeat first | exact In.here | apply In.there | apply In.skip); eq_refl)
      | (apply G_ldW; eq_refl; (repeat first | exact In.here | apply In.there | apply In.skip); eq_refl)
      | (apply G_ldO; eq_refl; (repeat first | exact In.here | apply In.there | apply In.skip); assumption; eq_refl)
      | (apply G_ldR; eq_refl; (apply RdB.oldR; (repeat first | exact In.here | apply In.there | apply In.skip); assumption); eq_refl)
      | (apply G_ldOW; eq_refl; (repeat first | exact In.here | apply In.there | apply In.skip); assumption; eq_refl)
      | (apply G_rd; eq_refl; (first | (apply Rd.own; (repeat first | exact In.here | apply In.there | apply In.skip); infer_instance) | (apply Rd.old; (repeat first | exact In.here | apply In.there | apply In.skip); assumption) | (apply Rd.oldR; (repeat first | exact In.here | apply In.there | apply In.skip); assumption) | exact Rd.nil | assumption); (case ih => infer_instance); omega; omega; eq_refl)
      | (apply G_rdF; eq_refl; (first | (apply Rd.own; (repeat first | exact In.here | apply In.there | apply In.skip); infer_instance) | (apply Rd.old; (repeat first | exact In.here | apply In.there | apply In.skip); assumption) | (apply Rd.oldR; (repeat first | exact In.here | apply In.there | apply In.skip); assumption) | exact Rd.nil | assumption); (case ih => infer_instance); omega; omega; eq_refl)
      | (apply G_rdW; eq_refl; (first | (apply Rd.own; (repeat first | exact In.here | apply In.there | apply In.skip); infer_instance) | (apply Rd.old; (repeat first | exact In.here | apply In.there | apply In.skip); assumption) | (apply Rd.oldR; (repeat first | exact In.here | apply In.there | apply In.skip); assumption) | exact Rd.nil | assumption); infer_instance; (case ih => infer_instance); omega; omega)
      | (apply G_cmpT; eq_refl; eq_refl; omega)
      | (apply G_cmpF; eq_refl; eq_refl; omega)
      | (apply G_cmp; eq_refl; eq_refl; all_goals intro _)
      | (apply G_len; eq_refl)
      | (apply G_lenS; eq_refl)
      | (apply G_ix; eq_refl; eq_refl; (first | (apply Rd.own; (repeat first | exact In.here | apply In.there | apply In.skip); infer_instance) | (apply Rd.old; (repeat first | exact In.here | apply In.there | apply In.skip); assumption) | (apply Rd.oldR; (repeat first | exact In.here | apply In.there | apply In.skip); assumption) | exact Rd.nil | assumption); (first | eq_refl | omega); omega; omega)
      | (apply G_ixA; eq_refl; eq_refl; omega; omega)
      | (apply G_eqB; eq_refl; eq_refl)
      | (apply G_neqB; eq_refl; eq_refl)
      | (apply G_eqP; eq_refl; eq_refl)
      | (apply G_eqL; eq_refl; eq_refl)
      | (apply G_pickAnd; eq_refl; eq_refl)
      | (apply G_pickOr; eq_refl; eq_refl)
      | (apply G_alloc; eq_refl; intro _)
      | (apply G_box; eq_refl; eq_refl; intro _)
      | (apply G_stV; (first | exact wr_p | kernel_rfl); eq_refl; eq_refl; eq_refl; eq_refl; (repeat first | exact Upd.here | apply Upd.there | apply Upd.skip); infer_instance; infer_instance; eq_refl; omega; (try simp only [List.length_set, List.length_append, List.length_replicate]); omega)
      | (apply G_st; (first | exact wr_p | kernel_rfl); eq_refl; eq_refl; eq_refl; eq_refl; (repeat first | exact Upd.here | apply Upd.there | apply Upd.skip); (first | decide | exact Nat.le_of_ble_eq_true rfl))
      | (apply G_stW; (first | exact wr_p | kernel_rfl); eq_refl; eq_refl; eq_refl; eq_refl; (repeat first | exact Upd.here | apply Upd.there | apply Upd.skip); eq_refl))
      refine GC_loopK [14, 15, 88, 89] (fun i : Nat => [(90, nu i)]) (fun _ => [.vec booc 1 4 A1 k1 V, .vec booc 1 4 A2 k2 V', .any (renX base c h' js' A k), .old w none_]) (fun i => i ≤ (toM c).length) (fun i => (toM c).length - i) 0 (by repeat first | exact Pick.nil | (apply Pick.cons; eq_refl)) (by repeat first | exact trivial | refine ⟨rfl, ?_⟩) (by repeat first | exact Wk.nil | exact Wk.refl | (apply Wk.cons; (focus ((repeat first | exact Rem.here | apply Rem.there | apply Rem.skip); done))) | apply Wk.nilv | apply Wk.last | apply Wk.drop) (Nat.zero_le _) ?_
      intro i hi
      rcases Nat.lt_or_ge i (toM c).length with hlt | hge
      · have g1 := hval i (by omega)
        have g2 := hto i (by omega)
        generalize hl : gt (toM c) (i : Int) = l at *
        generalize hb : gt V (i : Int) = β at *
        cases β
        all_goals
          repeat' (first
      | (apply G_ix; eq_refl; eq_refl; (apply Rd.ren; (repeat first | exact In.here | apply In.there | apply In.skip)); (first | eq_refl | omega); omega; omega)
      | (apply G_rd; eq_refl; (apply Rd.ren; (repeat first | exact In.here | apply In.there | apply In.skip)); (case ih => infer_instance); omega; omega; (rw [hl]; eq_refl))
      | (apply G_rd; eq_refl; (first | (apply Rd.own; (repeat first | exact In.here | apply In.there | apply In.skip); infer_instance) | (apply Rd.old; (repeat first | exact In.here | apply In.there | apply In.skip); assumption) | (apply Rd.oldR; (repeat first | exact In.here | apply In.there | apply In.skip); assumption) | exact Rd.nil | assumption); (case ih => infer_instance); omega; omega; (first | (rw [hb]; eq_refl) | (rw [g1]; eq_refl)))
      | (apply GC_seqK; intro K hK)
      | (apply hK; clear hK K)
      | (clear hK K; apply hK; clear hK K)
      | (clear hK K; clear hK K; apply hK; clear hK K)
      | (clear hK K; clear hK K; clear hK K; apply hK; clear hK K)
      | (apply GC_block)
      | (apply GC_region)
      | (apply GL_nil)
      | (apply thenG_normal)
      | (apply thenG_ret)
      | (apply thenG_exit)
      | (apply blockG_hit)
      | (apply blockG_miss; eq_refl)
      | (apply blockG_ret)
      | (apply blockG_normal)
      | (apply GC_ret)
      | (apply GC_exit)
      | (apply GC_skip)
      | (apply GC_if_true; eq_refl)
      | (apply GC_if_false; eq_refl)
      | (apply GC_ifD; eq_refl; all_goals intro _)
      | (apply GC_if; eq_refl; all_goals intro _)
      | (apply retG1; eq_refl)
      | (apply retG2; eq_refl; eq_refl)
      | (apply retG3; eq_refl; eq_refl; eq_refl)
      | (apply retG0)
      | (apply retG0n)
      | (apply GL_on; eq_refl; eq_refl)
      | (apply GL_off; eq_refl; eq_refl)
      | (apply GL_offU; eq_refl; eq_refl; eq_refl)
      | (apply GL_split; eq_refl; eq_refl; all_goals intro _)
      | (refine GC_draws (id := 13) [.q 0, .q 1, .q 2, .q 3, .q 4, .q 5, .q 6, .c 7, .q 8, .q 9, .q 10, .q 11, .q 12] mixed (by kernel_rfl) (by kernel_rfl) ?_)
      | (refine GC_draws (id := 14) [.q 0, .q 1, .q 2, .q 3, .q 4, .q 5, .q 6, .c 7, .q 8, .q 9, .q 10, .q 11, .q 12] mixed (by kernel_rfl) (by kernel_rfl) ?_)
      | (refine GC_draws (id := 20) [.q 0, .q 1, .q 2, .q 3, .q 4, .q 5, .q 6, .q 7, .q 8, .q 9] mixed (by kernel_rfl) (by kernel_rfl) ?_)
      | (apply GS_nil)
      | (apply GS_qon; eq_refl; eq_refl; eq_refl; eq_refl)
      | (apply GS_qoff; eq_refl; eq_refl; eq_refl; eq_refl)
      | (apply GS_qoffU; eq_refl; eq_refl; eq_refl; eq_refl; eq_refl)
      | (apply GS_con; eq_refl; eq_refl; eq_refl; eq_refl)
      | (apply GS_coff; eq_refl; eq_refl; eq_refl; eq_refl)
      | (apply GS_splitQ; eq_refl; eq_refl; eq_refl; eq_refl; all_goals intro _)
      | (apply GS_splitC; eq_refl; eq_refl; eq_refl; eq_refl; all_goals intro _)
      | (apply G_pv; eq_refl; first | exact trivial | omega)
      | (apply G_field; eq_refl)
      | (apply G_fieldP; eq_refl)
      | (apply G_ld; eq_refl; (repeat first | exact In.here | apply In.there | apply In.skip); eq_refl)
      | (apply G_ldW; eq_refl; (repeat first | exact In.here | apply In.there | apply In.skip); eq_refl)
      | (apply G_ldO; eq_refl; (repeat first | exact In.here | apply In.there | apply In.skip); assumption; eq_refl)
      | (apply G_ldR; eq_refl; (apply RdB.oldR; (repeat first | exact In.here | apply In.there | apply In.skip); assumption); eq_refl)
      | (apply G_ldOW; eq_refl; (repeat first | exact In.here | apply In.there | apply In.skip); assumption; eq_refl)
      | (apply G_rd; eq_refl; (first | (apply Rd.own; (repeat first | exact In.here | apply In.there | apply In.skip); infer_instance) | (apply Rd.old; (repeat first | exact In.here | apply In.there | apply In.skip); assumption) | (apply Rd.oldR; (repeat first | exact In.here | apply In.there | apply In.skip); assumption) | exact Rd.nil | assumption); (case ih => infer_instance); omega; omega; eq_refl)
      | (apply G_rdF; eq_refl; (first | (apply Rd.own; (repeat first | exact In.here | apply In.there | apply In.skip); infer_instance) | (apply Rd.old; (repeat first | exact In.here | apply In.there | apply In.skip); assumption) | (apply Rd.oldR; (repeat first | exact In.here | apply In.there | apply In.skip); assumption) | exact Rd.nil | assumption); (case ih => infer_instance); omega; omega; eq_refl)
      | (apply G_rdW; eq_refl; (first | (apply Rd.own; (repeat first | exact In.here | apply In.there | apply In.skip); infer_instance) | (apply Rd.old; (repeat first | exact In.here | apply In.there | apply In.skip); assumption) | (apply Rd.oldR; (repeat first | exact In.here | apply In.there | apply In.skip); assumption) | exact Rd.nil | assumption); infer_instance; (case ih => infer_instance); omega; omega)
      | (apply G_cmpT; eq_refl; eq_refl; omega)
      | (apply G_cmpF; eq_refl; eq_refl; omega)
      | (apply G_cmp; eq_refl; eq_refl; all_goals intro _)
      | (apply G_len; eq_refl)
      | (apply G_lenS; eq_refl)
      | (apply G_ix; eq_refl; eq_refl; (first | (apply Rd.own; (repeat first | exact In.here | apply In.there | apply In.skip); infer_instance) | (apply Rd.old; (repeat first | exact In.here | apply In.there | apply In.skip); assumption) | (apply Rd.oldR; (repeat first | exact In.here | apply In.there | apply In.skip); assumption) | exact Rd.nil | assumption); (first | eq_refl | omega); omega; omega)
      | (apply G_ixA; eq_refl; eq_refl; omega; omega)
      | (apply G_eqB; eq_refl; eq_refl)
      | (apply G_neqB; eq_refl; eq_refl)
      | (apply G_eqP; eq_refl; eq_refl)
      | (apply G_eqL; eq_refl; eq_refl)
      | (apply G_pickAnd; eq_refl; eq_refl)
      | (apply G_pickOr; eq_refl; eq_refl)
      | (apply G_alloc; eq_refl; intro _)
      | (apply G_box; eq_refl; eq_refl; intro _)
      | (apply G_stV; (first | exact wr_p | kernel_rfl); eq_refl; eq_refl; eq_refl; eq_refl; (repeat first | exact Upd.here | apply Upd.there | apply Upd.skip); infer_instance; infer_instance; eq_refl; omega; (try simp only [List.length_set, List.length_append, List.length_replicate]); omega)
      | (apply G_st; (first | exact wr_p | kernel_rfl); eq_refl; eq_refl; eq_refl; eq_refl; (repeat first | exact Upd.here | apply Upd.there | apply Upd.skip); (first | decide | exact Nat.le_of_ble_eq_true rfl))
      | (apply G_stW; (first | exact wr_p | kernel_rfl); eq_refl; eq_refl; eq_refl; eq_refl; (repeat first | exact Upd.here | apply Upd.there | apply Upd.skip); eq_refl))
          exact ⟨i + 1, (by repeat first | exact trivial | refine ⟨rfl, ?_⟩), (by repeat first | exact Wk.nil | exact Wk.refl | (apply Wk.cons; (focus ((repeat first | exact Rem.here | apply Rem.there | apply Rem.skip); done))) | apply Wk.nilv | apply Wk.last | apply Wk.drop), hlt, by omega⟩
      · repeat' (first
      | (apply GC_seqK; intro K hK)
      | (apply hK; clear hK K)
      | (clear hK K; apply hK; clear hK K)
      | (clear hK K; clear hK K; apply hK; clear hK K)
      | (clear hK K; clear hK K; clear hK K; apply hK; clear hK K)
      | (apply GC_block)
      | (apply GC_region)
      | (apply GL_nil)
      | (apply thenG_normal)
      | (apply thenG_ret)
      | (apply thenG_exit)
      | (apply blockG_hit)
      | (apply blockG_miss; eq_refl)
      | (apply blockG_ret)
      | (apply blockG_normal)
      | (apply GC_ret)
      | (apply GC_exit)
      | (apply GC_skip)
      | (apply GC_if_true; eq_refl)
      | (apply GC_if_false; eq_refl)
      | (apply GC_ifD; eq_refl; all_goals intro _)
      | (apply GC_if; eq_refl; all_goals intro _)
      | (apply retG1; eq_refl)
      | (apply retG2; eq_refl; eq_refl)
      | (apply retG3; eq_refl; eq_refl; eq_refl)
      | (apply retG0)
      | (apply retG0n)
      | (apply GL_on; eq_refl; eq_refl)
      | (apply GL_off; eq_refl; eq_refl)
      | (apply GL_offU; eq_refl; eq_refl; eq_refl)
      | (apply GL_split; eq_refl; eq_refl; all_goals intro _)
      | (refine GC_draws (id := 13) [.q 0, .q 1, .q 2, .q 3, .q 4, .q 5, .q 6, .c 7, .q 8, .q 9, .q 10, .q 11, .q 12] mixed (by kernel_rfl) (by kernel_rfl) ?_)
      | (refine GC_draws (id := 14) [.q 0, .q 1, .q 2, .q 3, .q 4, .q 5, .q 6, .c 7, .q 8, .q 9, .q 10, .q 11, .q 12] mixed (by kernel_rfl) (by kernel_rfl) ?_)
      | (refine GC_draws (id := 20) [.q 0, .q 1, .q 2, .q 3, .q 4, .q 5, .q 6, .q 7, .q 8, .q 9] mixed (by kernel_rfl) (by kernel_rfl) ?_)
      | (apply GS_nil)
      | (apply GS_qon; eq_refl; eq_refl; eq_refl; eq_refl)
      | (apply GS_qoff; eq_refl; eq_refl; eq_refl; eq_refl)
      | (apply GS_qoffU; eq_refl; eq_refl; eq_refl; eq_refl; eq_refl)
      | (apply GS_con; eq_refl; eq_refl; eq_refl; eq_refl)
      | (apply GS_coff; eq_refl; eq_refl; eq_refl; eq_refl)
      | (apply GS_splitQ; eq_refl; eq_refl; eq_refl; eq_refl; all_goals intro _)
      | (apply GS_splitC; eq_refl; eq_refl; eq_refl; eq_refl; all_goals intro _)
      | (apply G_pv; eq_refl; first | exact trivial | omega)
      | (apply G_field; eq_refl)
      | (apply G_fieldP; eq_refl)
      | (apply G_ld; eq_refl; (repeat first | exact In.here | apply In.there | apply In.skip); eq_refl)
      | (apply G_ldW; eq_refl; (repeat first | exact In.here | apply In.there | apply In.skip); eq_refl)
      | (apply G_ldO; eq_refl; (repeat first | exact In.here | apply In.there | apply In.skip); assumption; eq_refl)
      | (apply G_ldR; eq_refl; (apply RdB.oldR; (repeat first | exact In.here | apply In.there | apply In.skip); assumption); eq_refl)
      | (apply G_ldOW; eq_refl; (repeat first | exact In.here | apply In.there | apply In.skip); assumption; eq_refl)
      | (apply G_rd; eq_refl; (first | (apply Rd.own; (repeat first | exact In.here | apply In.there | apply In.skip); infer_instance) | (apply Rd.old; (repeat first | exact In.here | apply In.there | apply In.skip); assumption) | (apply Rd.oldR; (repeat first | exact In.here | apply In.there | apply In.skip); assumption) | exact Rd.nil | assumption); (case ih => infer_instance); omega; omega; eq_refl)
      | (apply G_rdF; eq_refl; (first | (apply Rd.own; (repeat first | exact In.here | apply In.there | apply In.skip); infer_instance) | (apply Rd.old; (repeat first | exact In.here | apply In.there | apply In.skip); assumption) | (apply Rd.oldR; (repeat first | exact In.here | apply In.there | apply In.skip); assumption) | exact Rd.nil | assumption); (case ih => infer_instance); omega; omega; eq_refl)
      | (apply G_rdW; eq_refl; (first | (apply Rd.own; (repeat first | exact In.here | apply In.there | apply In.skip); infer_instance) | (apply Rd.old; (repeat first | exact In.here | apply In.there | apply In.skip); assumption) | (apply Rd.oldR; (repeat first | exact In.here | apply In.there | apply In.skip); assumption) | exact Rd.nil | assumption); infer_instance; (case ih => infer_instance); omega; omega)
      | (apply G_cmpT; eq_refl; eq_refl; omega)
      | (apply G_cmpF; eq_refl; eq_refl; omega)
      | (apply G_cmp; eq_refl; eq_refl; all_goals intro _)
      | (apply G_len; eq_refl)
      | (apply G_lenS; eq_refl)
      | (apply G_ix; eq_refl; eq_refl; (first | (apply Rd.own; (repeat first | exact In.here | apply In.there | apply In.skip); infer_instance) | (apply Rd.old; (repeat first | exact In.here | apply In.there | apply In.skip); assumption) | (apply Rd.oldR; (repeat first | exact In.here | apply In.there | apply In.skip); assumption) | exact Rd.nil | assumption); (first | eq_refl | omega); omega; omega)
      | (apply G_ixA; eq_refl; eq_refl; omega; omega)
      | (apply G_eqB; eq_refl; eq_refl)
      | (apply G_neqB; eq_refl; eq_refl)
      | (apply G_eqP; eq_refl; eq_refl)
      | (apply G_eqL; eq_refl; eq_refl)
      | (apply G_pickAnd; eq_refl; eq_refl)
      | (apply G_pickOr; eq_refl; eq_refl)
      | (apply G_alloc; eq_refl; intro _)
      | (apply G_box; eq_refl; eq_refl; intro _)
      | (apply G_stV; (first | exact wr_p | kernel_rfl); eq_refl; eq_refl; eq_refl; eq_refl; (repeat first | exact Upd.here | apply Upd.there | apply Upd.skip); infer_instance; infer_instance; eq_refl; omega; (try simp only [List.length_set, List.length_append, List.length_replicate]); omega)
      | (apply G_st; (first | exact wr_p | kernel_rfl); eq_refl; eq_refl; eq_refl; eq_refl; (repeat first | exact Upd.here | apply Upd.there | apply Upd.skip); (first | decide | exact Nat.le_of_ble_eq_true rfl))
      | (apply G_stW; (first | exact wr_p | kernel_rfl); eq_refl; eq_refl; eq_refl; eq_refl; (repeat first | exact Upd.here | apply Upd.there | apply Upd.skip); eq_refl))
        exact ⟨[], (by repeat first | exact Wk.nil | exact Wk.refl | (apply Wk.cons; (focus ((repeat first | exact Rem.here | apply Rem.there | apply Rem.skip); done))) | apply Wk.nilv | apply Wk.last | apply Wk.drop), rfl, rfl⟩
    · generalize runE c t = ε at *
      repeat' (first
      | (apply G_call; eq_refl; eq_refl; (exact fun w' _ => h5 w'); rintro _ _ ⟨rfl, rfl⟩)
      | (apply G_call; eq_refl; eq_refl; (apply hRen; (repeat first | exact In.here | apply In.there | apply In.skip)); rintro _ _ ⟨h', js', A, k, base, rfl, rfl⟩)
      | (apply G_call; eq_refl; eq_refl; (apply hr0; (repeat first | exact In.here | apply In.there | apply In.skip)); rintro _ _ ⟨ps, B, kB, rfl, hps, rfl⟩)
      | (apply G_call; eq_refl; eq_refl; (apply hrx; (repeat first | exact In.here | apply In.there | apply In.skip); (repeat first | exact In.here | apply In.there | apply In.skip)); rintro _ _ ⟨qs, C, kC, rfl, hqs, rfl⟩)
      | (apply G_call; eq_refl; eq_refl; (apply hs2; (repeat first | exact In.here | apply In.there | apply In.skip); (repeat first | exact In.here | apply In.there | apply In.skip); exact hps; exact hqs); rintro _ _ ⟨rfl, rfl⟩)
      | (apply GC_seqK; intro K hK)
      | (apply hK; clear hK K)
      | (clear hK K; apply hK; clear hK K)
      | (clear hK K; clear hK K; apply hK; clear hK K)
      | (clear hK K; clear hK K; clear hK K; apply hK; clear hK K)
      | (apply GC_block)
      | (apply GC_region)
      | (apply GL_nil)
      | (apply thenG_normal)
      | (apply thenG_ret)
      | (apply thenG_exit)
      | (apply blockG_hit)
      | (apply blockG_miss; eq_refl)
      | (apply blockG_ret)
      | (apply blockG_normal)
      | (apply GC_ret)
      | (apply GC_exit)
      | (apply GC_skip)
      | (apply GC_if_true; eq_refl)
      | (apply GC_if_false; eq_refl)
      | (apply GC_ifD; eq_refl; all_goals intro _)
      | (apply GC_if; eq_refl; all_goals intro _)
      | (apply retG1; eq_refl)
      | (apply retG2; eq_refl; eq_refl)
      | (apply retG3; eq_refl; eq_refl; eq_refl)
      | (apply retG0)
      | (apply retG0n)
      | (apply GL_on; eq_refl; eq_refl)
      | (apply GL_off; eq_refl; eq_refl)
      | (apply GL_offU; eq_refl; eq_refl; eq_refl)
      | (apply GL_split; eq_refl; eq_refl; all_goals intro _)
      | (refine GC_draws (id := 13) [.q 0, .q 1, .q 2, .q 3, .q 4, .q 5, .q 6, .c 7, .q 8, .q 9, .q 10, .q 11, .q 12] mixed (by kernel_rfl) (by kernel_rfl) ?_)
      | (refine GC_draws (id := 14) [.q 0, .q 1, .q 2, .q 3, .q 4, .q 5, .q 6, .c 7, .q 8, .q 9, .q 10, .q 11, .q 12] mixed (by kernel_rfl) (by kernel_rfl) ?_)
      | (refine GC_draws (id := 20) [.q 0, .q 1, .q 2, .q 3, .q 4, .q 5, .q 6, .q 7, .q 8, .q 9] mixed (by kernel_rfl) (by kernel_rfl) ?_)
      | (apply GS_nil)
      | (apply GS_qon; eq_refl; eq_refl; eq_refl; eq_refl)
      | (apply GS_qoff; eq_refl; eq_refl; eq_refl; eq_refl)
      | (apply GS_qoffU; eq_refl; eq_refl; eq_refl; eq_refl; eq_refl)
      | (apply GS_con; eq_refl; eq_refl; eq_refl; eq_refl)
      | (apply GS_coff; eq_refl; eq_refl; eq_refl; eq_refl)
      | (apply GS_splitQ; eq_refl; eq_refl; eq_refl; eq_refl; all_goals intro _)
      | (apply GS_splitC; eq_refl; eq_refl; eq_refl; eq_refl; all_goals intro _)
      | (apply G_pv; eq_refl; first | exact trivial | omega)
      | (apply G_field; eq_refl)
      | (apply G_fieldP; eq_refl)
      | (apply G_ld; eq_refl; (repeat first | exact In.here | apply In.there | apply In.skip); eq_refl)
      | (apply G_ldW; eq_refl; (repeat first | exact In.here | apply In.there | apply In.skip); eq_refl)
      | (apply G_ldO; eq_refl; (repeat first | exact In.here | apply In.there | apply In.skip); assumption; eq_refl)
      | (apply G_ldR; eq_refl; (apply RdB.oldR; (repeat first | exact In.here | apply In.there | apply In.skip); assumption); eq_refl)
      | (apply G_ldOW; eq_refl; (repeat first | exact In.here | apply In.there | apply In.skip); assumption; eq_refl)
      | (apply G_rd; eq_refl; (first | (apply Rd.own; (repeat first | exact In.here | apply In.there | apply In.skip); infer_instance) | (apply Rd.old; (repeat first | exact In.here | apply In.there | apply In.skip); assumption) | (apply Rd.oldR; (repeat first | exact In.here | apply In.there | apply In.skip); assumption) | exact Rd.nil | assumption); (case ih => infer_instance); omega; omega; eq_refl)
      | (apply G_rdF; eq_refl; (first | (apply Rd.own; (repeat first | exact In.here | apply In.there | apply In.skip); infer_instance) | (apply Rd.old; (repeat first | exact In.here | apply In.there | apply In.skip); assumption) | (apply Rd.oldR; (repeat first | exact In.here | apply In.there | apply In.skip); assumption) | exact Rd.nil | assumption); (case ih => infer_instance); omega; omega; eq_refl)
      | (apply G_rdW; eq_refl; (first | (apply Rd.own; (repeat first | exact In.here | apply In.there | apply In.skip); infer_instance) | (apply Rd.old; (repeat first | exact In.here | apply In.there | apply In.skip); assumption) | (apply Rd.oldR; (repeat first | exact In.here | apply In.there | apply In.skip); assumption) | exact Rd.nil | assumption); infer_instance; (case ih => infer_instance); omega; omega)
      | (apply G_cmpT; eq_refl; eq_refl; omega)
      | (apply G_cmpF; eq_refl; eq_refl; omega)
      | (apply G_cmp; eq_refl; eq_refl; all_goals intro _)
      | (apply G_len; eq_refl)
      | (apply G_lenS; eq_refl)
      | (apply G_ix; eq_refl; eq_refl; (first | (apply Rd.own; (repeat first | exact In.here | apply In.there | apply In.skip); infer_instance) | (apply Rd.old; (repeat first | exact In.here | apply In.there | apply In.skip); assumption) | (apply Rd.oldR; (repeat first | exact In.here | apply In.there | apply In.skip); assumption) | exact Rd.nil | assumption); (first | eq_refl | omega); omega; omega)
      | (apply G_ixA; eq_refl; eq_refl; omega; omega)
      | (apply G_eqB; eq_refl; eq_refl)
      | (apply G_neqB; eq_refl; eq_refl)
      | (apply G_eqP; eq_refl; eq_refl)
      | (apply G_eqL; eq_refl; eq_refl)
      | (apply G_pickAnd; eq_refl; eq_refl)
      | (apply G_pickOr; eq_refl; eq_refl)
      | (apply G_alloc; eq_refl; intro _)
      | (apply G_box; eq_refl; eq_refl; intro _)
      | (apply G_stV; (first | exact wr_p | kernel_rfl); eq_refl; eq_refl; eq_refl; eq_refl; (repeat first | exact Upd.here | apply Upd.there | apply Upd.skip); infer_instance; infer_instance; eq_refl; omega; (try simp only [List.length_set, List.length_append, List.length_replicate]); omega)
      | (apply G_st; (first | exact wr_p | kernel_rfl); eq_refl; eq_refl; eq_refl; eq_refl; (repeat first | exact Upd.here | apply Upd.there | apply Upd.skip); (first | decide | exact Nat.le_of_ble_eq_true rfl))
      | (apply G_stW; (first | exact wr_p | kernel_rfl); eq_refl; eq_refl; eq_refl; eq_refl; (repeat first | exact Upd.here | apply Upd.there | apply Upd.skip); eq_refl))
      exact ⟨[], (by repeat first | exact Wk.nil | exact Wk.refl | (apply Wk.cons; (focus ((repeat first | exact Rem.here | apply Rem.there | apply Rem.skip); done))) | apply Wk.nilv | apply Wk.last | apply Wk.drop), rfl, rfl⟩
  · have e1 : runE c t = (lookM c).2 := runE_look he
    have hRen : ∀ Γ, In Γ (.old w none_) → ∀ w', Mem w' Γ → CVN Try.prog 37 [.agg (ccells c h).toArray] w' fun v N => v = .tuple #[.agg Zc.toArray, .slice none 0 0, nu (lookM c).2] ∧ N = [] := fun Γ ho w' M => (hren Γ ho w' M).mono fun v N hv => by
      rcases hv with ⟨_, hv⟩ | ⟨h1, _⟩
      · exact hv
      · exact absurd h1 he
    rw [e1] at hr0
    generalize (lookM c).2 = ε at *
    repeat' (first
      | (apply G_call; eq_refl; eq_refl; (exact fun w' _ => h5 w'); rintro _ _ ⟨rfl, rfl⟩)
      | (apply G_call; eq_refl; eq_refl; (apply hRen; (repeat first | exact In.here | apply In.there | apply In.skip)); rintro _ _ ⟨rfl, rfl⟩)
      | (apply G_call; eq_refl; eq_refl; (apply hr0; (repeat first | exact In.here | apply In.there | apply In.skip)); rintro _ _ ⟨ps, B, kB, rfl, hps, rfl⟩)
      | (apply GC_seqK; intro K hK)
      | (apply hK; clear hK K)
      | (clear hK K; apply hK; clear hK K)
      | (clear hK K; clear hK K; apply hK; clear hK K)
      | (clear hK K; clear hK K; clear hK K; apply hK; clear hK K)
      | (apply GC_block)
      | (apply GC_region)
      | (apply GL_nil)
      | (apply thenG_normal)
      | (apply thenG_ret)
      | (apply thenG_exit)
      | (apply blockG_hit)
      | (apply blockG_miss; eq_refl)
      | (apply blockG_ret)
      | (apply blockG_normal)
      | (apply GC_ret)
      | (apply GC_exit)
      | (apply GC_skip)
      | (apply GC_if_true; eq_refl)
      | (apply GC_if_false; eq_refl)
      | (apply GC_ifD; eq_refl; all_goals intro _)
      | (apply GC_if; eq_refl; all_goals intro _)
      | (apply retG1; eq_refl)
      | (apply retG2; eq_refl; eq_refl)
      | (apply retG3; eq_refl; eq_refl; eq_refl)
      | (apply retG0)
      | (apply retG0n)
      | (apply GL_on; eq_refl; eq_refl)
      | (apply GL_off; eq_refl; eq_refl)
      | (apply GL_offU; eq_refl; eq_refl; eq_refl)
      | (apply GL_split; eq_refl; eq_refl; all_goals intro _)
      | (refine GC_draws (id := 13) [.q 0, .q 1, .q 2, .q 3, .q 4, .q 5, .q 6, .c 7, .q 8, .q 9, .q 10, .q 11, .q 12] mixed (by kernel_rfl) (by kernel_rfl) ?_)
      | (refine GC_draws (id := 14) [.q 0, .q 1, .q 2, .q 3, .q 4, .q 5, .q 6, .c 7, .q 8, .q 9, .q 10, .q 11, .q 12] mixed (by kernel_rfl) (by kernel_rfl) ?_)
      | (refine GC_draws (id := 20) [.q 0, .q 1, .q 2, .q 3, .q 4, .q 5, .q 6, .q 7, .q 8, .q 9] mixed (by kernel_rfl) (by kernel_rfl) ?_)
      | (apply GS_nil)
      | (apply GS_qon; eq_refl; eq_refl; eq_refl; eq_refl)
      | (apply GS_qoff; eq_refl; eq_refl; eq_refl; eq_refl)
      | (apply GS_qoffU; eq_refl; eq_refl; eq_refl; eq_refl; eq_refl)
      | (apply GS_con; eq_refl; eq_refl; eq_refl; eq_refl)
      | (apply GS_coff; eq_refl; eq_refl; eq_refl; eq_refl)
      | (apply GS_splitQ; eq_refl; eq_refl; eq_refl; eq_refl; all_goals intro _)
      | (apply GS_splitC; eq_refl; eq_refl; eq_refl; eq_refl; all_goals intro _)
      | (apply G_pv; eq_refl; first | exact trivial | omega)
      | (apply G_field; eq_refl)
      | (apply G_fieldP; eq_refl)
      | (apply G_ld; eq_refl; (repeat first | exact In.here | apply In.there | apply In.skip); eq_refl)
      | (apply G_ldW; eq_refl; (repeat first | exact In.here | apply In.there | apply In.skip); eq_refl)
      | (apply G_ldO; eq_refl; (repeat first | exact In.here | apply In.there | apply In.skip); assumption; eq_refl)
      | (apply G_ldR; eq_refl; (apply RdB.oldR; (repeat first | exact In.here | apply In.there | apply In.skip); assumption); eq_refl)
      | (apply G_ldOW; eq_refl; (repeat first | exact In.here | apply In.there | apply In.skip); assumption; eq_refl)
      | (apply G_rd; eq_refl; (first | (apply Rd.own; (repeat first | exact In.here | apply In.there | apply In.skip); infer_instance) | (apply Rd.old; (repeat first | exact In.here | apply In.there | apply In.skip); assumption) | (apply Rd.oldR; (repeat first | exact In.here | apply In.there | apply In.skip); assumption) | exact Rd.nil | assumption); (case ih => infer_instance); omega; omega; eq_refl)
      | (apply G_rdF; eq_refl; (first | (apply Rd.own; (repeat first | exact In.here | apply In.there | apply In.skip); infer_instance) | (apply Rd.old; (repeat first | exact In.here | apply In.there | apply In.skip); assumption) | (apply Rd.oldR; (repeat first | exact In.here | apply In.there | apply In.skip); assumption) | exact Rd.nil | assumption); (case ih => infer_instance); omega; omega; eq_refl)
      | (apply G_rdW; eq_refl; (first | (apply Rd.own; (repeat first | exact In.here | apply In.there | apply In.skip); infer_instance) | (apply Rd.old; (repeat first | exact In.here | apply In.there | apply In.skip); assumption) | (apply Rd.oldR; (repeat first | exact In.here | apply In.there | apply In.skip); assumption) | exact Rd.nil | assumption); infer_instance; (case ih => infer_instance); omega; omega)
      | (apply G_cmpT; eq_refl; eq_refl; omega)
      | (apply G_cmpF; eq_refl; eq_refl; omega)
      | (apply G_cmp; eq_refl; eq_refl; all_goals intro _)
      | (apply G_len; eq_refl)
      | (apply G_lenS; eq_refl)
      | (apply G_ix; eq_refl; eq_refl; (first | (apply Rd.own; (repeat first | exact In.here | apply In.there | apply In.skip); infer_instance) | (apply Rd.old; (repeat first | exact In.here | apply In.there | apply In.skip); assumption) | (apply Rd.oldR; (repeat first | exact In.here | apply In.there | apply In.skip); assumption) | exact Rd.nil | assumption); (first | eq_refl | omega); omega; omega)
      | (apply G_ixA; eq_refl; eq_refl; omega; omega)
      | (apply G_eqB; eq_refl; eq_refl)
      | (apply G_neqB; eq_refl; eq_refl)
      | (apply G_eqP; eq_refl; eq_refl)
      | (apply G_eqL; eq_refl; eq_refl)
      | (apply G_pickAnd; eq_refl; eq_refl)
      | (apply G_pickOr; eq_refl; eq_refl)
      | (apply G_alloc; eq_refl; intro _)
      | (apply G_box; eq_refl; eq_refl; intro _)
      | (apply G_stV; (first | exact wr_p | kernel_rfl); eq_refl; eq_refl; eq_refl; eq_refl; (repeat first | exact Upd.here | apply Upd.there | apply Upd.skip); infer_instance; infer_instance; eq_refl; omega; (try simp only [List.length_set, List.length_append, List.length_replicate]); omega)
      | (apply G_st; (first | exact wr_p | kernel_rfl); eq_refl; eq_refl; eq_refl; eq_refl; (repeat first | exact Upd.here | apply Upd.there | apply Upd.skip); (first | decide | exact Nat.le_of_ble_eq_true rfl))
      | (apply G_stW; (first | exact wr_p | kernel_rfl); eq_refl; eq_refl; eq_refl; eq_refl; (repeat first | exact Upd.here | apply Upd.there | apply Upd.skip); eq_refl))
    exact ⟨[], (by repeat first | exact Wk.nil | exact Wk.refl | (apply Wk.cons; (focus ((repeat first | exact Rem.here | apply Rem.there | apply Rem.skip); done))) | apply Wk.nilv | apply Wk.last | apply Wk.drop), rfl, rfl⟩
end SC
end Go.Proofs.Ytkndegjodnciaaa
end

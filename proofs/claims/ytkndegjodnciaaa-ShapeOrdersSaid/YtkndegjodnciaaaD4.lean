/- shape: all definitions. -/
import Derived.Test.YtkndegjodnciaaaD3
set_option linter.unusedVariables false
set_option linter.unusedSimpArgs false
namespace Go.Proofs.Ytkndegjodnciaaa
namespace SC
open Go.Proofs
attribute [local irreducible] WC WL WX WS WO OX Does DoesU Enters CV Pure thenQ blockQ retQ Wants
set_option maxRecDepth 100000
def goDef (max kind : Int) : List Int → Nat → Tab → (Int × Int) × Tab
  | [], _, t => ((0, 0), t)
  | l :: r, i, t => if (defM max t l (kind, i)).1 ≠ 0 then ((i, (defM max t l (kind, i)).1), (defM max t l (kind, i)).2) else goDef max kind r (i + 1) (defM max t l (kind, i)).2
def badReset (x : Tri) : Prop := x.2.2 ≠ 0 ∧ x.2.2 ≠ 1 ∧ x.2.2 ≠ x.1
instance (x : Tri) : Decidable (badReset x) := by unfold badReset; infer_instance
def goDefL (max : Int) : List Tri → Nat → Tab → (Int × Int) × Tab
  | [], _, t => ((0, 0), t)
  | x :: r, i, t => if (defM max t x.1 (2, i)).1 ≠ 0 then ((i, (defM max t x.1 (2, i)).1), (defM max t x.1 (2, i)).2) else if badReset x then ((i, 33), (defM max t x.1 (2, i)).2) else goDefL max r (i + 1) (defM max t x.1 (2, i)).2
def definesM (c : Circ) (t : Tab) : (Int × Int) × Tab :=
  if (goDef c.max 1 c.inputs 0 t).1.2 ≠ 0 then goDef c.max 1 c.inputs 0 t
  else if (goDefL c.max c.latches 0 (goDef c.max 1 c.inputs 0 t).2).1.2 ≠ 0 then goDefL c.max c.latches 0 (goDef c.max 1 c.inputs 0 t).2
  else goDef c.max 3 (c.ands.map (·.1)) 0 (goDefL c.max c.latches 0 (goDef c.max 1 c.inputs 0 t).2).2
theorem len_defM (max : Int) (t : Tab) (l : Int) (m : Int × Int) : (defM max t l m).2.length = t.length := by
  unfold defM; split
  · rfl
  · split <;> simp
theorem LkOk.defM {c : Circ} {t : Tab} (h : LkOk c t) (l : Int) (m : Int × Int) : LkOk c (SC.defM c.max t l m).2 := ⟨by rw [len_defM]; exact h.len, h.lo, h.hi⟩
theorem goDef_step {max kind : Int} {ls : List Int} {k : Nat} {t : Tab} (hk : k < ls.length) : goDef max kind (ls.drop k) k t = if (defM max t ls[k] (kind, k)).1 ≠ 0 then (((k : Int), (defM max t ls[k] (kind, k)).1), (defM max t ls[k] (kind, k)).2) else goDef max kind (ls.drop (k + 1)) (k + 1) (defM max t ls[k] (kind, k)).2 := by
  rw [List.drop_eq_getElem_cons hk]
  rfl
theorem goDefL_step {max : Int} {ls : List Tri} {k : Nat} {t : Tab} (hk : k < ls.length) : goDefL max (ls.drop k) k t = if (defM max t ls[k].1 (2, k)).1 ≠ 0 then (((k : Int), (defM max t ls[k].1 (2, k)).1), (defM max t ls[k].1 (2, k)).2) else if badReset ls[k] then (((k : Int), 33), (defM max t ls[k].1 (2, k)).2) else goDefL max (ls.drop (k + 1)) (k + 1) (defM max t ls[k].1 (2, k)).2 := by
  rw [List.drop_eq_getElem_cons hk]
  rfl
theorem goDef_ok {max kind : Int} : ∀ (ls : List Int) (k : Nat) (t : Tab), (goDef max kind ls k t).1.2 = 0 → (goDef max kind ls k t).1 = (0, 0)
  | [], _, _, _ => rfl
  | l :: r, i, t, h => by
    unfold goDef at *
    split at h
    · exact absurd h (by assumption)
    · rw [if_neg (by assumption)]; exact goDef_ok r _ _ h
theorem goDefL_ok {max : Int} : ∀ (ls : List Tri) (k : Nat) (t : Tab), (goDefL max ls k t).1.2 = 0 → (goDefL max ls k t).1 = (0, 0)
  | [], _, _, _ => rfl
  | l :: r, i, t, h => by
    unfold goDefL at *
    split at h
    · exact absurd h (by assumption)
    · rw [if_neg (by assumption)]
      split at h
      · simp at h
      · rw [if_neg (by assumption)]; exact goDefL_ok r _ _ h
theorem tlen (x : Tri) : (tcells x).length = 3 := rfl
theorem defines_cv {w : World} {q b : Nat} {c : Circ} {h js : Hd} {t : Tab} (H : Lk w q b c h js t) (O : LkOk c t) (hs : c.Sane) :
    CV Try.prog 130 [pt q] w fun v w' => v = .tuple #[nu (definesM c t).1.1, nu (definesM c t).1.2] ∧ Lk w' q b c h js (definesM c t).2 ∧ LkOk c (definesM c t).2 ∧ Chg w w' (tabOf b) := by
  have hlens := hs.lens
  have hH := H.head
  refine enter 94 [2, 3] Try.func130 rfl rfl rfl (by decide) rfl ?_
  repeat' (first
      | (apply WC_seqK; intro K hK)
      | (apply hK; clear hK)
      | (clear hK; apply hK; clear hK)
      | (clear hK; clear hK; apply hK; clear hK)
      | (clear hK; clear hK; clear hK; apply hK; clear hK)
      | (apply WC_block)
      | (apply WC_region)
      | (apply WL_nil)
      | (apply thenQ_normal)
      | (apply thenQ_ret)
      | (apply thenQ_exit)
      | (apply blockQ_hit)
      | (apply blockQ_miss; eq_refl)
      | (apply blockQ_ret)
      | (apply blockQ_normal)
      | (apply WC_ret)
      | (apply WC_exit)
      | (apply WC_skip)
      | (apply WC_if_true; eq_refl)
      | (apply WC_if_false; eq_refl)
      | (apply ret1; eq_refl)
      | (apply ret2; eq_refl; eq_refl)
      | (apply ret3; eq_refl; eq_refl; eq_refl)
      | (apply ret0)
      | (apply ret0n)
      | (apply WL_on0; eq_refl)
      | (apply WL_onG; eq_refl; eq_refl; eq_refl; eq_refl)
      | (apply WL_noG; eq_refl; eq_refl; eq_refl; eq_refl)
      | (apply X_pv; eq_refl; first | exact trivial | omega)
      | (apply X_field; eq_refl)
      | (apply X_loadR; eq_refl; (first | assumption | (apply Blk.alloc; assumption) | apply Blk.new | apply Blk.newA | (apply Blk.alloc; first | apply Blk.newA | (apply Blk.alloc; first | assumption | apply Blk.newA))); eq_refl)
      | (apply X_loadW; eq_refl; (first | assumption | (apply Blk.alloc; assumption) | apply Blk.new | apply Blk.newA | (apply Blk.alloc; first | apply Blk.newA | (apply Blk.alloc; first | assumption | apply Blk.newA))); eq_refl)
      | (apply X_loadC; eq_refl; (first | assumption | (apply cel; first | assumption | (apply cel; assumption))))
      | (apply X_cmpT; eq_refl; eq_refl; omega)
      | (apply X_cmpF; eq_refl; eq_refl; omega)
      | (apply X_cmp; eq_refl; eq_refl; all_goals intro _)
      | (apply X_len; eq_refl)
      | (apply X_lenS; eq_refl)
      | (apply X_index; eq_refl; eq_refl; omega; omega)
      | (apply X_indexP; eq_refl; eq_refl; omega; omega)
      | (apply X_fieldP; eq_refl)
      | (apply X_neqB; eq_refl; eq_refl)
      | (apply X_alloc)
      | (apply X_pure; apply build173_0_1 <;> eq_refl))
  refine WC_loop (fun s : Nat × Tab => [(0, pt q), (17, .slice (h 1).1 c.inputs.length (h 1).2), (18, nu c.inputs.length), (19, nu s.1)])
    (fun s w1 => Lk w1 q b c h js s.2 ∧ LkOk c s.2 ∧ Chg w w1 (tabOf b) ∧ s.1 ≤ c.inputs.length ∧ goDef c.max 1 (c.inputs.drop s.1) s.1 s.2 = goDef c.max 1 c.inputs 0 t) (fun s => c.inputs.length - s.1) (0, t) ⟨rfl, rfl, rfl, rfl, trivial⟩ ⟨H, O, Chg.refl _ _, Nat.zero_le _, rfl⟩ ?_
  rintro ⟨k, t1⟩ w1 ⟨H1, O1, hC1, hk, hgo⟩
  simp only at H1 O1 hk hgo
  have hH1 := H1.head
  rcases Nat.lt_or_ge k c.inputs.length with hlt | hge
  · obtain ⟨p, hp, hc⟩ := RowA.one (H1.cir w1 (Chg.refl _ _)).inputs hlt (v := nu c.inputs[k]) rfl
    rw [goDef_step hlt] at hgo
    rw [hp]
    have hok := O1.defM c.inputs[k] (1, (k : Int))
    repeat' (first
      | (apply X_fn; eq_refl; exact define_cv H1 O1; rintro _ w2 ⟨rfl, hL2, hC2⟩)
      | (apply WC_seqK; intro K hK)
      | (apply hK; clear hK)
      | (clear hK; apply hK; clear hK)
      | (clear hK; clear hK; apply hK; clear hK)
      | (clear hK; clear hK; clear hK; apply hK; clear hK)
      | (apply WC_block)
      | (apply WC_region)
      | (apply WL_nil)
      | (apply thenQ_normal)
      | (apply thenQ_ret)
      | (apply thenQ_exit)
      | (apply blockQ_hit)
      | (apply blockQ_miss; eq_refl)
      | (apply blockQ_ret)
      | (apply blockQ_normal)
      | (apply WC_ret)
      | (apply WC_exit)
      | (apply WC_skip)
      | (apply WC_if_true; eq_refl)
      | (apply WC_if_false; eq_refl)
      | (apply ret1; eq_refl)
      | (apply ret2; eq_refl; eq_refl)
      | (apply ret3; eq_refl; eq_refl; eq_refl)
      | (apply ret0)
      | (apply ret0n)
      | (apply WL_on0; eq_refl)
      | (apply WL_onG; eq_refl; eq_refl; eq_refl; eq_refl)
      | (apply WL_noG; eq_refl; eq_refl; eq_refl; eq_refl)
      | (apply X_pv; eq_refl; first | exact trivial | omega)
      | (apply X_field; eq_refl)
      | (apply X_loadR; eq_refl; (first | assumption | (apply Blk.alloc; assumption) | apply Blk.new | apply Blk.newA | (apply Blk.alloc; first | apply Blk.newA | (apply Blk.alloc; first | assumption | apply Blk.newA))); eq_refl)
      | (apply X_loadW; eq_refl; (first | assumption | (apply Blk.alloc; assumption) | apply Blk.new | apply Blk.newA | (apply Blk.alloc; first | apply Blk.newA | (apply Blk.alloc; first | assumption | apply Blk.newA))); eq_refl)
      | (apply X_loadC; eq_refl; (first | assumption | (apply cel; first | assumption | (apply cel; assumption))))
      | (apply X_cmpT; eq_refl; eq_refl; omega)
      | (apply X_cmpF; eq_refl; eq_refl; omega)
      | (apply X_cmp; eq_refl; eq_refl; all_goals intro _)
      | (apply X_len; eq_refl)
      | (apply X_lenS; eq_refl)
      | (apply X_index; eq_refl; eq_refl; omega; omega)
      | (apply X_indexP; eq_refl; eq_refl; omega; omega)
      | (apply X_fieldP; eq_refl)
      | (apply X_neqB; eq_refl; eq_refl)
      | (apply X_alloc)
      | (apply X_pure; apply build173_0_1 <;> eq_refl))
    · rw [if_pos (by assumption)] at hgo
      have e : definesM c t = goDef c.max 1 c.inputs 0 t := by unfold definesM; rw [if_pos (by rw [← hgo]; assumption)]
      rw [e, ← hgo]
      exact ⟨rfl, hL2, hok, hC1.trans hC2 fun _ _ h => h⟩
    · rw [if_neg (by assumption)] at hgo
      exact ⟨(k + 1, (defM c.max t1 c.inputs[k] (1, (k : Int))).2), ⟨rfl, by first | rfl | (rw [hp]; rfl), rfl, rfl, trivial⟩, ⟨hL2, hok, hC1.trans hC2 fun _ _ h => h, hlt, hgo⟩, by simp only; omega⟩
  rw [List.drop_eq_nil_of_le hge] at hgo
  have e1 : (goDef c.max 1 c.inputs 0 t).1.2 = 0 := by rw [← hgo]; rfl
  have e2 : (goDef c.max 1 c.inputs 0 t).2 = t1 := by rw [← hgo]; rfl
  have e3 : definesM c t = if (goDefL c.max c.latches 0 t1).1.2 ≠ 0 then goDefL c.max c.latches 0 t1 else goDef c.max 3 (c.ands.map (·.1)) 0 (goDefL c.max c.latches 0 t1).2 := by unfold definesM; rw [if_neg (by simp [e1]), e2]
  clear e1 e2 hgo
  repeat' (first
      | (apply WC_seqK; intro K hK)
      | (apply hK; clear hK)
      | (clear hK; apply hK; clear hK)
      | (clear hK; clear hK; apply hK; clear hK)
      | (clear hK; clear hK; clear hK; apply hK; clear hK)
      | (apply WC_block)
      | (apply WC_region)
      | (apply WL_nil)
      | (apply thenQ_normal)
      | (apply thenQ_ret)
      | (apply thenQ_exit)
      | (apply blockQ_hit)
      | (apply blockQ_miss; eq_refl)
      | (apply blockQ_ret)
      | (apply blockQ_normal)
      | (apply WC_ret)
      | (apply WC_exit)
      | (apply WC_skip)
      | (apply WC_if_true; eq_refl)
      | (apply WC_if_false; eq_refl)
      | (apply ret1; eq_refl)
      | (apply ret2; eq_refl; eq_refl)
      | (apply ret3; eq_refl; eq_refl; eq_refl)
      | (apply ret0)
      | (apply ret0n)
      | (apply WL_on0; eq_refl)
      | (apply WL_onG; eq_refl; eq_refl; eq_refl; eq_refl)
      | (apply WL_noG; eq_refl; eq_refl; eq_refl; eq_refl)
      | (apply X_pv; eq_refl; first | exact trivial | omega)
      | (apply X_field; eq_refl)
      | (apply X_loadR; eq_refl; (first | assumption | (apply Blk.alloc; assumption) | apply Blk.new | apply Blk.newA | (apply Blk.alloc; first | apply Blk.newA | (apply Blk.alloc; first | assumption | apply Blk.newA))); eq_refl)
      | (apply X_loadW; eq_refl; (first | assumption | (apply Blk.alloc; assumption) | apply Blk.new | apply Blk.newA | (apply Blk.alloc; first | apply Blk.newA | (apply Blk.alloc; first | assumption | apply Blk.newA))); eq_refl)
      | (apply X_loadC; eq_refl; (first | assumption | (apply cel; first | assumption | (apply cel; assumption))))
      | (apply X_cmpT; eq_refl; eq_refl; omega)
      | (apply X_cmpF; eq_refl; eq_refl; omega)
      | (apply X_cmp; eq_refl; eq_refl; all_goals intro _)
      | (apply X_len; eq_refl)
      | (apply X_lenS; eq_refl)
      | (apply X_index; eq_refl; eq_refl; omega; omega)
      | (apply X_indexP; eq_refl; eq_refl; omega; omega)
      | (apply X_fieldP; eq_refl)
      | (apply X_neqB; eq_refl; eq_refl)
      | (apply X_alloc)
      | (apply X_pure; apply build173_0_1 <;> eq_refl))
  refine WC_loop (fun s : Nat × Tab => [(0, pt q), (38, .slice (h 2).1 c.latches.length (h 2).2), (39, nu c.latches.length), (40, nu s.1)])
    (fun s w2 => Lk w2 q b c h js s.2 ∧ LkOk c s.2 ∧ Chg w w2 (tabOf b) ∧ s.1 ≤ c.latches.length ∧ goDefL c.max (c.latches.drop s.1) s.1 s.2 = goDefL c.max c.latches 0 t1) (fun s => c.latches.length - s.1) (0, t1) ⟨rfl, rfl, rfl, rfl, trivial⟩ ⟨H1, O1, hC1, Nat.zero_le _, rfl⟩ ?_
  clear hge hk
  rintro ⟨k, t2⟩ w2 ⟨H2, O2, hC2, hk, hgo⟩
  simp only at H2 O2 hk hgo
  have hH2 := H2.head
  rcases Nat.lt_or_ge k c.latches.length with hlt | hge
  · obtain ⟨p, hp, hc⟩ := (H2.cir w2 (Chg.refl _ _)).latches k hlt
    rw [goDefL_step hlt] at hgo
    rw [hp]
    generalize hx : c.latches[k] = x at *
    have hok := O2.defM x.1 (2, (k : Int))
    repeat' (first
      | (apply X_loadAP (tcells x); eq_refl; eq_refl; exact hc)
      | (apply WC_seqK; intro K hK)
      | (apply hK; clear hK)
      | (clear hK; apply hK; clear hK)
      | (clear hK; clear hK; apply hK; clear hK)
      | (clear hK; clear hK; clear hK; apply hK; clear hK)
      | (apply WC_block)
      | (apply WC_region)
      | (apply WL_nil)
      | (apply thenQ_normal)
      | (apply thenQ_ret)
      | (apply thenQ_exit)
      | (apply blockQ_hit)
      | (apply blockQ_miss; eq_refl)
      | (apply blockQ_ret)
      | (apply blockQ_normal)
      | (apply WC_ret)
      | (apply WC_exit)
      | (apply WC_skip)
      | (apply WC_if_true; eq_refl)
      | (apply WC_if_false; eq_refl)
      | (apply ret1; eq_refl)
      | (apply ret2; eq_refl; eq_refl)
      | (apply ret3; eq_refl; eq_refl; eq_refl)
      | (apply ret0)
      | (apply ret0n)
      | (apply WL_on0; eq_refl)
      | (apply WL_onG; eq_refl; eq_refl; eq_refl; eq_refl)
      | (apply WL_noG; eq_refl; eq_refl; eq_refl; eq_refl)
      | (apply X_pv; eq_refl; first | exact trivial | omega)
      | (apply X_field; eq_refl)
      | (apply X_loadR; eq_refl; (first | assumption | (apply Blk.alloc; assumption) | apply Blk.new | apply Blk.newA | (apply Blk.alloc; first | apply Blk.newA | (apply Blk.alloc; first | assumption | apply Blk.newA))); eq_refl)
      | (apply X_loadW; eq_refl; (first | assumption | (apply Blk.alloc; assumption) | apply Blk.new | apply Blk.newA | (apply Blk.alloc; first | apply Blk.newA | (apply Blk.alloc; first | assumption | apply Blk.newA))); eq_refl)
      | (apply X_loadC; eq_refl; (first | assumption | (apply cel; first | assumption | (apply cel; assumption))))
      | (apply X_cmpT; eq_refl; eq_refl; omega)
      | (apply X_cmpF; eq_refl; eq_refl; omega)
      | (apply X_cmp; eq_refl; eq_refl; all_goals intro _)
      | (apply X_len; eq_refl)
      | (apply X_lenS; eq_refl)
      | (apply X_index; eq_refl; eq_refl; omega; omega)
      | (apply X_indexP; eq_refl; eq_refl; omega; omega)
      | (apply X_fieldP; eq_refl)
      | (apply X_neqB; eq_refl; eq_refl)
      | (apply X_alloc)
      | (apply X_pure; apply build173_0_1 <;> eq_refl))
    refine X_doesU (does_storeA (vs := tcells x) (o := 0) (b := w2.heap.size) (by eq_refl) (by eq_refl) (Blk.newA w2 _ _) rfl (by exact Nat.le_refl 3) (by simp [tcells, Value.oneCell'])) ?_
    refine WL_turn (fun w3 => Lk w3 q b c h js t2 ∧ Blk w3 w2.heap.size 70 (tcells x) ∧ Chg w w3 (tabOf b)) ?_ ?_
    · have hcc : Chg w2 ((w2.alloc (.cells #[nu 0, nu 0, nu 0] 70)).setRow w2.heap.size (tcells x).toArray) none_ := (Chg.alloc w2 _ none_).trans (Chg.setRow _ w2.heap.size _ (S := fun k => k = w2.heap.size) rfl) fun k hk h => by omega
      exact ⟨H2.chg hcc, (Blk.newA w2 _ 70).set (tcells x), hC2.trans hcc fun _ _ h => h.elim⟩
    rintro w3 ⟨H3, hN3, hC3⟩
    have hH3 := H3.head
    repeat' (first
      | (apply X_fn; eq_refl; exact define_cv H3 O2; rintro _ w4 ⟨rfl, hL4, hC4⟩; have hN4 := hN3.chg hC4 (fun hh => by unfold tabOf at hh; have := H2.tab.lt; omega))
      | (apply WC_seqK; intro K hK)
      | (apply hK; clear hK)
      | (clear hK; apply hK; clear hK)
      | (clear hK; clear hK; apply hK; clear hK)
      | (clear hK; clear hK; clear hK; apply hK; clear hK)
      | (apply WC_block)
      | (apply WC_region)
      | (apply WL_nil)
      | (apply thenQ_normal)
      | (apply thenQ_ret)
      | (apply thenQ_exit)
      | (apply blockQ_hit)
      | (apply blockQ_miss; eq_refl)
      | (apply blockQ_ret)
      | (apply blockQ_normal)
      | (apply WC_ret)
      | (apply WC_exit)
      | (apply WC_skip)
      | (apply WC_if_true; eq_refl)
      | (apply WC_if_false; eq_refl)
      | (apply ret1; eq_refl)
      | (apply ret2; eq_refl; eq_refl)
      | (apply ret3; eq_refl; eq_refl; eq_refl)
      | (apply ret0)
      | (apply ret0n)
      | (apply WL_on0; eq_refl)
      | (apply WL_onG; eq_refl; eq_refl; eq_refl; eq_refl)
      | (apply WL_noG; eq_refl; eq_refl; eq_refl; eq_refl)
      | (apply X_pv; eq_refl; first | exact trivial | omega)
      | (apply X_field; eq_refl)
      | (apply X_loadR; eq_refl; (first | assumption | (apply Blk.alloc; assumption) | apply Blk.new | apply Blk.newA | (apply Blk.alloc; first | apply Blk.newA | (apply Blk.alloc; first | assumption | apply Blk.newA))); eq_refl)
      | (apply X_loadW; eq_refl; (first | assumption | (apply Blk.alloc; assumption) | apply Blk.new | apply Blk.newA | (apply Blk.alloc; first | apply Blk.newA | (apply Blk.alloc; first | assumption | apply Blk.newA))); eq_refl)
      | (apply X_loadC; eq_refl; (first | assumption | (apply cel; first | assumption | (apply cel; assumption))))
      | (apply X_cmpT; eq_refl; eq_refl; omega)
      | (apply X_cmpF; eq_refl; eq_refl; omega)
      | (apply X_cmp; eq_refl; eq_refl; all_goals intro _)
      | (apply X_len; eq_refl)
      | (apply X_lenS; eq_refl)
      | (apply X_index; eq_refl; eq_refl; omega; omega)
      | (apply X_indexP; eq_refl; eq_refl; omega; omega)
      | (apply X_fieldP; eq_refl)
      | (apply X_neqB; eq_refl; eq_refl)
      | (apply X_alloc)
      | (apply X_pure; apply build173_0_1 <;> eq_refl))
    all_goals simp only at *
    · rw [if_pos (by assumption)] at hgo
      have e : definesM c t = goDefL c.max c.latches 0 t1 := by rw [e3, if_pos (by rw [← hgo]; assumption)]
      rw [e, ← hgo]
      exact ⟨rfl, hL4, hok, hC3.trans hC4 fun _ _ h => h⟩
    · rw [if_neg (by assumption), if_pos (by unfold badReset; refine ⟨?_, ?_, ?_⟩ <;> assumption)] at hgo
      have e : definesM c t = goDefL c.max c.latches 0 t1 := by rw [e3, if_pos (by rw [← hgo]; show (33 : Int) ≠ 0; decide)]
      rw [e, ← hgo]
      exact ⟨rfl, hL4, hok, hC3.trans hC4 fun _ _ h => h⟩
    all_goals
      rw [if_neg (by assumption), if_neg (by unfold badReset; omega)] at hgo
      exact ⟨(k + 1, (defM c.max t2 x.1 (2, (k : Int))).2), ⟨rfl, by first | rfl | (rw [hp]; rfl), rfl, rfl, trivial⟩, ⟨hL4, hok, hC3.trans hC4 fun _ _ h => h, hlt, hgo⟩, by simp only; omega⟩
  rw [List.drop_eq_nil_of_le hge] at hgo
  have e1 : (goDefL c.max c.latches 0 t1).1.2 = 0 := by rw [← hgo]; rfl
  have e2 : (goDefL c.max c.latches 0 t1).2 = t2 := by rw [← hgo]; rfl
  have e4 : definesM c t = goDef c.max 3 (c.ands.map (·.1)) 0 t2 := by rw [e3, if_neg (by simp [e1]), e2]
  clear e1 e2 hgo e3
  repeat' (first
      | (apply WC_seqK; intro K hK)
      | (apply hK; clear hK)
      | (clear hK; apply hK; clear hK)
      | (clear hK; clear hK; apply hK; clear hK)
      | (clear hK; clear hK; clear hK; apply hK; clear hK)
      | (apply WC_block)
      | (apply WC_region)
      | (apply WL_nil)
      | (apply thenQ_normal)
      | (apply thenQ_ret)
      | (apply thenQ_exit)
      | (apply blockQ_hit)
      | (apply blockQ_miss; eq_refl)
      | (apply blockQ_ret)
      | (apply blockQ_normal)
      | (apply WC_ret)
      | (apply WC_exit)
      | (apply WC_skip)
      | (apply WC_if_true; eq_refl)
      | (apply WC_if_false; eq_refl)
      | (apply ret1; eq_refl)
      | (apply ret2; eq_refl; eq_refl)
      | (apply ret3; eq_refl; eq_refl; eq_refl)
      | (apply ret0)
      | (apply ret0n)
      | (apply WL_on0; eq_refl)
      | (apply WL_onG; eq_refl; eq_refl; eq_refl; eq_refl)
      | (apply WL_noG; eq_refl; eq_refl; eq_refl; eq_refl)
      | (apply X_pv; eq_refl; first | exact trivial | omega)
      | (apply X_field; eq_refl)
      | (apply X_loadR; eq_refl; (first | assumption | (apply Blk.alloc; assumption) | apply Blk.new | apply Blk.newA | (apply Blk.alloc; first | apply Blk.newA | (apply Blk.alloc; first | assumption | apply Blk.newA))); eq_refl)
      | (apply X_loadW; eq_refl; (first | assumption | (apply Blk.alloc; assumption) | apply Blk.new | apply Blk.newA | (apply Blk.alloc; first | apply Blk.newA | (apply Blk.alloc; first | assumption | apply Blk.newA))); eq_refl)
      | (apply X_loadC; eq_refl; (first | assumption | (apply cel; first | assumption | (apply cel; assumption))))
      | (apply X_cmpT; eq_refl; eq_refl; omega)
      | (apply X_cmpF; eq_refl; eq_refl; omega)
      | (apply X_cmp; eq_refl; eq_refl; all_goals intro _)
      | (apply X_len; eq_refl)
      | (apply X_lenS; eq_refl)
      | (apply X_index; eq_refl; eq_refl; omega; omega)
      | (apply X_indexP; eq_refl; eq_refl; omega; omega)
      | (apply X_fieldP; eq_refl)
      | (apply X_neqB; eq_refl; eq_refl)
      | (apply X_alloc)
      | (apply X_pure; apply build173_0_1 <;> eq_refl))
  refine WC_loop (fun s : Nat × Tab => [(0, pt q), (76, .slice (h 8).1 c.ands.length (h 8).2), (77, nu c.ands.length), (78, nu s.1)])
    (fun s w3 => Lk w3 q b c h js s.2 ∧ LkOk c s.2 ∧ Chg w w3 (tabOf b) ∧ s.1 ≤ c.ands.length ∧ goDef c.max 3 ((c.ands.map (·.1)).drop s.1) s.1 s.2 = goDef c.max 3 (c.ands.map (·.1)) 0 t2) (fun s => c.ands.length - s.1) (0, t2) ⟨rfl, rfl, rfl, rfl, trivial⟩ ⟨H2, O2, hC2, Nat.zero_le _, rfl⟩ ?_
  clear hge hk
  rintro ⟨k, t3⟩ w3 ⟨H3, O3, hC3, hk, hgo⟩
  simp only at H3 O3 hk hgo
  have hH3 := H3.head
  rcases Nat.lt_or_ge k c.ands.length with hlt | hge
  · obtain ⟨p, hp, hc⟩ := (H3.cir w3 (Chg.refl _ _)).ands k hlt
    rw [goDef_step (by simpa using hlt), List.getElem_map] at hgo
    rw [hp]
    generalize hx : c.ands[k] = x at *
    have hok := O3.defM x.1 (3, (k : Int))
    repeat' (first
      | (apply X_loadAP (tcells x); eq_refl; eq_refl; exact hc)
      | (apply WC_seqK; intro K hK)
      | (apply hK; clear hK)
      | (clear hK; apply hK; clear hK)
      | (clear hK; clear hK; apply hK; clear hK)
      | (clear hK; clear hK; clear hK; apply hK; clear hK)
      | (apply WC_block)
      | (apply WC_region)
      | (apply WL_nil)
      | (apply thenQ_normal)
      | (apply thenQ_ret)
      | (apply thenQ_exit)
      | (apply blockQ_hit)
      | (apply blockQ_miss; eq_refl)
      | (apply blockQ_ret)
      | (apply blockQ_normal)
      | (apply WC_ret)
      | (apply WC_exit)
      | (apply WC_skip)
      | (apply WC_if_true; eq_refl)
      | (apply WC_if_false; eq_refl)
      | (apply ret1; eq_refl)
      | (apply ret2; eq_refl; eq_refl)
      | (apply ret3; eq_refl; eq_refl; eq_refl)
      | (apply ret0)
      | (apply ret0n)
      | (apply WL_on0; eq_refl)
      | (apply WL_onG; eq_refl; eq_refl; eq_refl; eq_refl)
      | (apply WL_noG; eq_refl; eq_refl; eq_refl; eq_refl)
      | (apply X_pv; eq_refl; first | exact trivial | omega)
      | (apply X_field; eq_refl)
      | (apply X_loadR; eq_refl; (first | assumption | (apply Blk.alloc; assumption) | apply Blk.new | apply Blk.newA | (apply Blk.alloc; first | apply Blk.newA | (apply Blk.alloc; first | assumption | apply Blk.newA))); eq_refl)
      | (apply X_loadW; eq_refl; (first | assumption | (apply Blk.alloc; assumption) | apply Blk.new | apply Blk.newA | (apply Blk.alloc; first | apply Blk.newA | (apply Blk.alloc; first | assumption | apply Blk.newA))); eq_refl)
      | (apply X_loadC; eq_refl; (first | assumption | (apply cel; first | assumption | (apply cel; assumption))))
      | (apply X_cmpT; eq_refl; eq_refl; omega)
      | (apply X_cmpF; eq_refl; eq_refl; omega)
      | (apply X_cmp; eq_refl; eq_refl; all_goals intro _)
      | (apply X_len; eq_refl)
      | (apply X_lenS; eq_refl)
      | (apply X_index; eq_refl; eq_refl; omega; omega)
      | (apply X_indexP; eq_refl; eq_refl; omega; omega)
      | (apply X_fieldP; eq_refl)
      | (apply X_neqB; eq_refl; eq_refl)
      | (apply X_alloc)
      | (apply X_pure; apply build173_0_1 <;> eq_refl))
    refine X_doesU (does_storeA (vs := tcells x) (o := 0) (b := w3.heap.size) (by eq_refl) (by eq_refl) (Blk.newA w3 _ _) rfl (by exact Nat.le_refl 3) (by simp [tcells, Value.oneCell'])) ?_
    refine WL_turn (fun w4 => Lk w4 q b c h js t3 ∧ Blk w4 w3.heap.size 43 (tcells x) ∧ Chg w w4 (tabOf b)) ?_ ?_
    · have hcc : Chg w3 ((w3.alloc (.cells #[nu 0, nu 0, nu 0] 43)).setRow w3.heap.size (tcells x).toArray) none_ := (Chg.alloc w3 _ none_).trans (Chg.setRow _ w3.heap.size _ (S := fun k => k = w3.heap.size) rfl) fun k hk h => by omega
      exact ⟨H3.chg hcc, (Blk.newA w3 _ 43).set (tcells x), hC3.trans hcc fun _ _ h => h.elim⟩
    rintro w4 ⟨H4, hN4, hC4⟩
    have hH4 := H4.head
    repeat' (first
      | (apply X_fn; eq_refl; exact define_cv H4 O3; rintro _ w5 ⟨rfl, hL5, hC5⟩)
      | (apply WC_seqK; intro K hK)
      | (apply hK; clear hK)
      | (clear hK; apply hK; clear hK)
      | (clear hK; clear hK; apply hK; clear hK)
      | (clear hK; clear hK; clear hK; apply hK; clear hK)
      | (apply WC_block)
      | (apply WC_region)
      | (apply WL_nil)
      | (apply thenQ_normal)
      | (apply thenQ_ret)
      | (apply thenQ_exit)
      | (apply blockQ_hit)
      | (apply blockQ_miss; eq_refl)
      | (apply blockQ_ret)
      | (apply blockQ_normal)
      | (apply WC_ret)
      | (apply WC_exit)
      | (apply WC_skip)
      | (apply WC_if_true; eq_refl)
      | (apply WC_if_false; eq_refl)
      | (apply ret1; eq_refl)
      | (apply ret2; eq_refl; eq_refl)
      | (apply ret3; eq_refl; eq_refl; eq_refl)
      | (apply ret0)
      | (apply ret0n)
      | (apply WL_on0; eq_refl)
      | (apply WL_onG; eq_refl; eq_refl; eq_refl; eq_refl)
      | (apply WL_noG; eq_refl; eq_refl; eq_refl; eq_refl)
      | (apply X_pv; eq_refl; first | exact trivial | omega)
      | (apply X_field; eq_refl)
      | (apply X_loadR; eq_refl; (first | assumption | (apply Blk.alloc; assumption) | apply Blk.new | apply Blk.newA | (apply Blk.alloc; first | apply Blk.newA | (apply Blk.alloc; first | assumption | apply Blk.newA))); eq_refl)
      | (apply X_loadW; eq_refl; (first | assumption | (apply Blk.alloc; assumption) | apply Blk.new | apply Blk.newA | (apply Blk.alloc; first | apply Blk.newA | (apply Blk.alloc; first | assumption | apply Blk.newA))); eq_refl)
      | (apply X_loadC; eq_refl; (first | assumption | (apply cel; first | assumption | (apply cel; assumption))))
      | (apply X_cmpT; eq_refl; eq_refl; omega)
      | (apply X_cmpF; eq_refl; eq_refl; omega)
      | (apply X_cmp; eq_refl; eq_refl; all_goals intro _)
      | (apply X_len; eq_refl)
      | (apply X_lenS; eq_refl)
      | (apply X_index; eq_refl; eq_refl; omega; omega)
      | (apply X_indexP; eq_refl; eq_refl; omega; omega)
      | (apply X_fieldP; eq_refl)
      | (apply X_neqB; eq_refl; eq_refl)
      | (apply X_alloc)
      | (apply X_pure; apply build173_0_1 <;> eq_refl))
    all_goals simp only at *
    · rw [if_pos (by assumption)] at hgo
      rw [e4, ← hgo]
      exact ⟨rfl, hL5, hok, hC4.trans hC5 fun _ _ h => h⟩
    · rw [if_neg (by assumption)] at hgo
      exact ⟨(k + 1, (defM c.max t3 x.1 (3, (k : Int))).2), ⟨rfl, by first | rfl | (rw [hp]; rfl), rfl, rfl, trivial⟩, ⟨hL5, hok, hC4.trans hC5 fun _ _ h => h, hlt, hgo⟩, by simp only; omega⟩
  rw [List.drop_eq_nil_of_le (by simpa using hge)] at hgo
  repeat' (first
      | (apply WC_seqK; intro K hK)
      | (apply hK; clear hK)
      | (clear hK; apply hK; clear hK)
      | (clear hK; clear hK; apply hK; clear hK)
      | (clear hK; clear hK; clear hK; apply hK; clear hK)
      | (apply WC_block)
      | (apply WC_region)
      | (apply WL_nil)
      | (apply thenQ_normal)
      | (apply thenQ_ret)
      | (apply thenQ_exit)
      | (apply blockQ_hit)
      | (apply blockQ_miss; eq_refl)
      | (apply blockQ_ret)
      | (apply blockQ_normal)
      | (apply WC_ret)
      | (apply WC_exit)
      | (apply WC_skip)
      | (apply WC_if_true; eq_refl)
      | (apply WC_if_false; eq_refl)
      | (apply ret1; eq_refl)
      | (apply ret2; eq_refl; eq_refl)
      | (apply ret3; eq_refl; eq_refl; eq_refl)
      | (apply ret0)
      | (apply ret0n)
      | (apply WL_on0; eq_refl)
      | (apply WL_onG; eq_refl; eq_refl; eq_refl; eq_refl)
      | (apply WL_noG; eq_refl; eq_refl; eq_refl; eq_refl)
      | (apply X_pv; eq_refl; first | exact trivial | omega)
      | (apply X_field; eq_refl)
      | (apply X_loadR; eq_refl; (first | assumption | (apply Blk.alloc; assumption) | apply Blk.new | apply Blk.newA | (apply Blk.alloc; first | apply Blk.newA | (apply Blk.alloc; first | assumption | apply Blk.newA))); eq_refl)
      | (apply X_loadW; eq_refl; (first | assumption | (apply Blk.alloc; assumption) | apply Blk.new | apply Blk.newA | (apply Blk.alloc; first | apply Blk.newA | (apply Blk.alloc; first | assumption | apply Blk.newA))); eq_refl)
      | (apply X_loadC; eq_refl; (first | assumption | (apply cel; first | assumption | (apply cel; assumption))))
      | (apply X_cmpT; eq_refl; eq_refl; omega)
      | (apply X_cmpF; eq_refl; eq_refl; omega)
      | (apply X_cmp; eq_refl; eq_refl; all_goals intro _)
      | (apply X_len; eq_refl)
      | (apply X_lenS; eq_refl)
      | (apply X_index; eq_refl; eq_refl; omega; omega)
      | (apply X_indexP; eq_refl; eq_refl; omega; omega)
      | (apply X_fieldP; eq_refl)
      | (apply X_neqB; eq_refl; eq_refl)
      | (apply X_alloc)
      | (apply X_pure; apply build173_0_1 <;> eq_refl))
  rw [e4, ← hgo]
  exact ⟨rfl, H3, O3, hC3⟩
end SC
end Go.Proofs.Ytkndegjodnciaaa

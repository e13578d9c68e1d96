/- Texts of this seat, one behind the other: B5 N25 N26 B6 B7 B8 N27 N28 N29 N30 N31 N10 N11 N12 N13 N14 N15 N32 N33 N16. -/
import Derived.Test.YticndofcfacopaaX3
section
/- The builder of hash: the remaining functions. -/
set_option linter.unusedVariables false
set_option linter.unusedSimpArgs false
namespace Go.Proofs.Yticndofcfacopaa
namespace SC
open Go.Proofs Go.Maps
attribute [local irreducible] WC WL WX WS WO OX Does DoesU Enters CV Pure thenQ blockQ retQ Wants
set_option maxRecDepth 100000
theorem After.step {w w1 w' : World} {g : Nat} {S S1 : Nat → Prop} {i l : Int} {r : Int × Int × List Gate} {v : Value} (hC : Step w S w1 S1) (h : After w1 g S1 i l r v w') : After w g S i l r v w' := by
  obtain ⟨h1, S', h2, h3⟩ := h
  exact ⟨h1, S', h2, hC.trans h3⟩
section
variable {n : Int} {gs : List Gate} {x y s : Int}
theorem orM_err (h : (andM n gs (notM x) (notM y)).2.1 ≠ 0) : orM n gs x y = (0, (andM n gs (notM x) (notM y)).2.1, (andM n gs (notM x) (notM y)).2.2) := by unfold orM; simp only; rw [if_pos h]
theorem orM_ok (h : ¬ (andM n gs (notM x) (notM y)).2.1 ≠ 0) : orM n gs x y = (notM (andM n gs (notM x) (notM y)).1, 0, (andM n gs (notM x) (notM y)).2.2) := by unfold orM; simp only; rw [if_neg h]
theorem xorM_err (h : (andM n gs x y).2.1 ≠ 0) : xorM n gs x y = (0, (andM n gs x y).2.1, (andM n gs x y).2.2) := by unfold xorM; simp only; rw [if_pos h]
theorem xorM_err2 (h : ¬ (andM n gs x y).2.1 ≠ 0) (h2 : (andM n (andM n gs x y).2.2 (notM x) (notM y)).2.1 ≠ 0) : xorM n gs x y = (0, (andM n (andM n gs x y).2.2 (notM x) (notM y)).2.1, (andM n (andM n gs x y).2.2 (notM x) (notM y)).2.2) := by unfold xorM; simp only; rw [if_neg h, if_pos h2]
theorem xorM_ok (h : ¬ (andM n gs x y).2.1 ≠ 0) (h2 : ¬ (andM n (andM n gs x y).2.2 (notM x) (notM y)).2.1 ≠ 0) : xorM n gs x y = andM n (andM n (andM n gs x y).2.2 (notM x) (notM y)).2.2 (notM (andM n gs x y).1) (notM (andM n (andM n gs x y).2.2 (notM x) (notM y)).1) := by unfold xorM; simp only; rw [if_neg h, if_neg h2]
theorem muxM_err (h : (andM n gs s x).2.1 ≠ 0) : muxM n gs s x y = (0, (andM n gs s x).2.1, (andM n gs s x).2.2) := by unfold muxM; simp only; rw [if_pos h]
theorem muxM_err2 (h : ¬ (andM n gs s x).2.1 ≠ 0) (h2 : (andM n (andM n gs s x).2.2 (notM s) y).2.1 ≠ 0) : muxM n gs s x y = (0, (andM n (andM n gs s x).2.2 (notM s) y).2.1, (andM n (andM n gs s x).2.2 (notM s) y).2.2) := by unfold muxM; simp only; rw [if_neg h, if_pos h2]
theorem muxM_ok (h : ¬ (andM n gs s x).2.1 ≠ 0) (h2 : ¬ (andM n (andM n gs s x).2.2 (notM s) y).2.1 ≠ 0) : muxM n gs s x y = orM n (andM n (andM n gs s x).2.2 (notM s) y).2.2 (andM n gs s x).1 (andM n (andM n gs s x).2.2 (notM s) y).1 := by unfold muxM; simp only; rw [if_neg h, if_neg h2]
end
section
variable {w : World} {g : Nat} {S : Nat → Prop} {i l : Int} {gs : List Gate} {x y s : Int}
theorem or_cv (hB : Bld w g S i l gs) (hi : 0 ≤ i) (hl : 0 ≤ l) (hI : Inv (i + l) gs) (hx : okM (i + l) gs x) (hy : okM (i + l) gs y) : CV Try.prog 81 [ptr g, num x, num y] w (After w g S i l (orM (i + l) gs x y)) := by
  have hx' := okM_not hx
  have hy' := okM_not hy
  have hr := (andM_good hI hx' hy').ok
  have ht := (andM_good hI hx' hy').inv.top
  unfold okM at hr hx hy
  unfold notM at hr hx' hy' ht
  have htop := hI.top
  refine enter 24 [6, 7] Try.func81 rfl rfl rfl (by decide) rfl ?_
  repeat' (first
      | (apply X_fn; eq_refl; (apply and_cv; assumption; assumption; assumption; assumption; assumption; assumption); rintro _ w2 ⟨rfl, S2, hB2, hSt2⟩)
      | (apply WC_seqK; intro K hK)
      | (apply hK; clear hK)
      | (clear hK; apply hK; clear hK)
      | (clear hK; clear hK; apply hK; clear hK)
      | (clear hK; clear hK; clear hK; apply hK; clear hK)
      | (apply WC_block)
      | (apply WC_region)
      | (apply WL_nil)
      | (apply thenQ_normal)
      | (apply thenQ_ret)
      | (apply thenQ_exit)
      | (apply blockQ_hit)
      | (apply blockQ_miss; eq_refl)
      | (apply blockQ_ret)
      | (apply blockQ_normal)
      | (apply WC_ret)
      | (apply WC_exit)
      | (apply WC_skip)
      | (apply WC_label)
      | (apply WC_if_true; eq_refl)
      | (apply WC_if_false; eq_refl)
      | (apply ret1; eq_refl)
      | (apply ret2; eq_refl; eq_refl)
      | (apply ret3; eq_refl; eq_refl; eq_refl)
      | (apply ret0)
      | (apply ret0n)
      | (apply WL_on0; eq_refl)
      | (apply WL_onG; eq_refl; eq_refl; eq_refl; eq_refl)
      | (apply WL_noG; eq_refl; eq_refl; eq_refl; eq_refl)
      | (apply X_pv; eq_refl; first | exact trivial | omega)
      | (apply X_field; eq_refl)
      | (apply X_loadR; eq_refl; (first | assumption | (apply Blk.alloc; assumption) | apply Blk.new | apply Blk.newA | (apply Blk.alloc; first | apply Blk.newA | (apply Blk.alloc; first | assumption | apply Blk.newA))); eq_refl)
      | (apply X_loadW; eq_refl; (first | assumption | (apply Blk.alloc; assumption) | apply Blk.new | apply Blk.newA | (apply Blk.alloc; first | apply Blk.newA | (apply Blk.alloc; first | assumption | apply Blk.newA))); eq_refl)
      | (apply X_loadC; eq_refl; (first | assumption | (apply cel; first | assumption | (apply cel; assumption))))
      | (apply X_cmpT; eq_refl; eq_refl; omega)
      | (apply X_cmpF; eq_refl; eq_refl; omega)
      | (apply X_cmp; eq_refl; eq_refl; all_goals intro _)
      | (apply X_len; eq_refl)
      | (apply X_lenS; eq_refl)
      | (apply X_index; eq_refl; eq_refl; omega; omega)
      | (apply X_eqB; eq_refl; eq_refl)
      | (apply X_neqB; eq_refl; eq_refl)
      | (apply X_eqP; eq_refl; eq_refl)
      | (apply X_eqL; eq_refl; eq_refl)
      | (apply X_max; eq_refl; eq_refl)
      | (apply X_min; eq_refl; eq_refl)
      | (apply X_cap; eq_refl)
      | (apply X_alloc)
      | (apply X_box; eq_refl)
      | (apply X_makeMap))
  · rw [orM_err (by assumption)]; exact ⟨rfl, S2, hB2, hSt2⟩
  · rw [orM_ok (by assumption)]; exact ⟨rfl, S2, hB2, hSt2⟩
theorem Or_cv (hB : Bld w g S i l gs) (hi : 0 ≤ i) (hl : 0 ≤ l) (hI : Inv (i + l) gs) : CV Try.prog 40 [ptr g, num x, num y] w (After w g S i l (OrM (i + l) gs x y)) := by
  have hB' := hB.alloc (.cells #[num x, num y] 3)
  have hN : Blk (w.alloc (.cells #[num x, num y] 3)) w.heap.size 3 ([x, y].map num) := Blk.newA w #[num x, num y] 3
  have htop := hI.top
  have hC0 : ∀ {w1}, Chg (w.alloc (.cells #[num x, num y] 3)) w1 none_ → Chg w w1 none_ := fun h => (Chg.alloc w _ none_).trans h fun _ _ h => h
  by_cases hok : okM (i + l) gs x ∧ okM (i + l) gs y
  · rw [show OrM (i + l) gs x y = orM (i + l) gs x y by unfold OrM; rw [if_pos hok]]
    have hx := hok.1
    have hy := hok.2
    refine enter 23 [6, 7] Try.func40 rfl rfl rfl (by decide) rfl ?_
    repeat' (first
      | (apply X_fn; eq_refl; (refine looked_ok (xs := [x, y]) hB' hN hi hl hI (by simp) ?_; simp only [List.mem_cons, List.not_mem_nil, or_false, forall_eq_or_imp, forall_eq]; exact hok); rintro _ w1 ⟨rfl, hC1, hB1⟩; have hSt : Step w S w1 S := Step.of_chg (hC0 hC1).any)
      | (apply X_fn; eq_refl; (apply or_cv; assumption; assumption; assumption; assumption; assumption; assumption); rintro _ w2 ⟨rfl, S2, hB2, hSt2⟩; replace hSt := hSt.trans hSt2)
      | (apply WC_seqK; intro K hK)
      | (apply hK; clear hK)
      | (clear hK; apply hK; clear hK)
      | (clear hK; clear hK; apply hK; clear hK)
      | (clear hK; clear hK; clear hK; apply hK; clear hK)
      | (apply WC_block)
      | (apply WC_region)
      | (apply WL_nil)
      | (apply thenQ_normal)
      | (apply thenQ_ret)
      | (apply thenQ_exit)
      | (apply blockQ_hit)
      | (apply blockQ_miss; eq_refl)
      | (apply blockQ_ret)
      | (apply blockQ_normal)
      | (apply WC_ret)
      | (apply WC_exit)
      | (apply WC_skip)
      | (apply WC_label)
      | (apply WC_if_true; eq_refl)
      | (apply WC_if_false; eq_refl)
      | (apply ret1; eq_refl)
      | (apply ret2; eq_refl; eq_refl)
      | (apply ret3; eq_refl; eq_refl; eq_refl)
      | (apply ret0)
      | (apply ret0n)
      | (apply WL_on0; eq_refl)
      | (apply WL_onG; eq_refl; eq_refl; eq_refl; eq_refl)
      | (apply WL_noG; eq_refl; eq_refl; eq_refl; eq_refl)
      | (apply X_pv; eq_refl; first | exact trivial | omega)
      | (apply X_field; eq_refl)
      | (apply X_loadR; eq_refl; (first | assumption | (apply Blk.alloc; assumption) | apply Blk.new | apply Blk.newA | (apply Blk.alloc; first | apply Blk.newA | (apply Blk.alloc; first | assumption | apply Blk.newA))); eq_refl)
      | (apply X_loadW; eq_refl; (first | assumption | (apply Blk.alloc; assumption) | apply Blk.new | apply Blk.newA | (apply Blk.alloc; first | apply Blk.newA | (apply Blk.alloc; first | assumption | apply Blk.newA))); eq_refl)
      | (apply X_loadC; eq_refl; (first | assumption | (apply cel; first | assumption | (apply cel; assumption))))
      | (apply X_cmpT; eq_refl; eq_refl; omega)
      | (apply X_cmpF; eq_refl; eq_refl; omega)
      | (apply X_cmp; eq_refl; eq_refl; all_goals intro _)
      | (apply X_len; eq_refl)
      | (apply X_lenS; eq_refl)
      | (apply X_index; eq_refl; eq_refl; omega; omega)
      | (apply X_eqB; eq_refl; eq_refl)
      | (apply X_neqB; eq_refl; eq_refl)
      | (apply X_eqP; eq_refl; eq_refl)
      | (apply X_eqL; eq_refl; eq_refl)
      | (apply X_max; eq_refl; eq_refl)
      | (apply X_min; eq_refl; eq_refl)
      | (apply X_cap; eq_refl)
      | (apply X_alloc)
      | (apply X_box; eq_refl)
      | (apply X_makeMap)
      | (apply X_does; apply buildS22_2 <;> eq_refl))
    exact ⟨rfl, S2, hB2, hSt⟩
  · refine enter 23 [6, 7] Try.func40 rfl rfl rfl (by decide) rfl ?_
    repeat' (first
      | (apply X_fn; eq_refl; (refine looked_no (xs := [x, y]) hB' hN hi hl hI (by simp) ?_; simp only [List.mem_cons, List.not_mem_nil, or_false, forall_eq_or_imp, forall_eq]; exact hok); rintro _ w1 ⟨rfl, hC1, hB1⟩; have hSt : Step w S w1 S := Step.of_chg (hC0 hC1).any)
      | (apply WC_seqK; intro K hK)
      | (apply hK; clear hK)
      | (clear hK; apply hK; clear hK)
      | (clear hK; clear hK; apply hK; clear hK)
      | (clear hK; clear hK; clear hK; apply hK; clear hK)
      | (apply WC_block)
      | (apply WC_region)
      | (apply WL_nil)
      | (apply thenQ_normal)
      | (apply thenQ_ret)
      | (apply thenQ_exit)
      | (apply blockQ_hit)
      | (apply blockQ_miss; eq_refl)
      | (apply blockQ_ret)
      | (apply blockQ_normal)
      | (apply WC_ret)
      | (apply WC_exit)
      | (apply WC_skip)
      | (apply WC_label)
      | (apply WC_if_true; eq_refl)
      | (apply WC_if_false; eq_refl)
      | (apply ret1; eq_refl)
      | (apply ret2; eq_refl; eq_refl)
      | (apply ret3; eq_refl; eq_refl; eq_refl)
      | (apply ret0)
      | (apply ret0n)
      | (apply WL_on0; eq_refl)
      | (apply WL_onG; eq_refl; eq_refl; eq_refl; eq_refl)
      | (apply WL_noG; eq_refl; eq_refl; eq_refl; eq_refl)
      | (apply X_pv; eq_refl; first | exact trivial | omega)
      | (apply X_field; eq_refl)
      | (apply X_loadR; eq_refl; (first | assumption | (apply Blk.alloc; assumption) | apply Blk.new | apply Blk.newA | (apply Blk.alloc; first | apply Blk.newA | (apply Blk.alloc; first | assumption | apply Blk.newA))); eq_refl)
      | (apply X_loadW; eq_refl; (first | assumption | (apply Blk.alloc; assumption) | apply Blk.new | apply Blk.newA | (apply Blk.alloc; first | apply Blk.newA | (apply Blk.alloc; first | assumption | apply Blk.newA))); eq_refl)
      | (apply X_loadC; eq_refl; (first | assumption | (apply cel; first | assumption | (apply cel; assumption))))
      | (apply X_cmpT; eq_refl; eq_refl; omega)
      | (apply X_cmpF; eq_refl; eq_refl; omega)
      | (apply X_cmp; eq_refl; eq_refl; all_goals intro _)
      | (apply X_len; eq_refl)
      | (apply X_lenS; eq_refl)
      | (apply X_index; eq_refl; eq_refl; omega; omega)
      | (apply X_eqB; eq_refl; eq_refl)
      | (apply X_neqB; eq_refl; eq_refl)
      | (apply X_eqP; eq_refl; eq_refl)
      | (apply X_eqL; eq_refl; eq_refl)
      | (apply X_max; eq_refl; eq_refl)
      | (apply X_min; eq_refl; eq_refl)
      | (apply X_cap; eq_refl)
      | (apply X_alloc)
      | (apply X_box; eq_refl)
      | (apply X_makeMap)
      | (apply X_does; apply buildS22_2 <;> eq_refl))
    exact After.same hB1 ((hC0 hC1).any) (by unfold OrM; rw [if_neg hok])
theorem Xor_cv (hB : Bld w g S i l gs) (hi : 0 ≤ i) (hl : 0 ≤ l) (hI : Inv (i + l) gs) : CV Try.prog 41 [ptr g, num x, num y] w (After w g S i l (XorM (i + l) gs x y)) := by
  have hB' := hB.alloc (.cells #[num x, num y] 3)
  have hN : Blk (w.alloc (.cells #[num x, num y] 3)) w.heap.size 3 ([x, y].map num) := Blk.newA w #[num x, num y] 3
  have htop := hI.top
  have hC0 : ∀ {w1}, Chg (w.alloc (.cells #[num x, num y] 3)) w1 none_ → Chg w w1 none_ := fun h => (Chg.alloc w _ none_).trans h fun _ _ h => h
  by_cases hok : okM (i + l) gs x ∧ okM (i + l) gs y
  · rw [show XorM (i + l) gs x y = xorM (i + l) gs x y by unfold XorM; rw [if_pos hok]]
    have hx := hok.1
    have hy := hok.2
    have G1 := andM_good hI hx hy
    have G2 := andM_good G1.inv (okM_more (okM_not hx) G1.more) (okM_more (okM_not hy) G1.more)
    have b1 := G1.ok; have b2 := G2.ok; have t1 := G1.inv.top; have t2 := G2.inv.top
    have bx := hx; have bY := hy
    unfold okM at b1 b2 bx bY
    have i1 := G1.inv; have i2 := G2.inv
    have o1 := okM_more (okM_not hx) G1.more
    have o2 := okM_more (okM_not hy) G1.more
    have o3 := okM_more (okM_not G1.ok) G2.more
    have o4 := okM_not G2.ok
    unfold notM at b2 t2 i2 o1 o2 o3 o4
    refine enter 50 [6, 7] Try.func41 rfl rfl rfl (by decide) rfl ?_
    repeat' (first
      | (apply X_fn; eq_refl; (refine looked_ok (xs := [x, y]) hB' hN hi hl hI (by simp) ?_; simp only [List.mem_cons, List.not_mem_nil, or_false, forall_eq_or_imp, forall_eq]; exact hok); rintro _ w1 ⟨rfl, hC1, hB1⟩; have hSt : Step w S w1 S := Step.of_chg (hC0 hC1).any)
      | (apply X_fn; eq_refl; (apply and_cv; assumption; assumption; assumption; assumption; assumption; assumption); rintro _ w2 ⟨rfl, S2, hB2, hSt2⟩; replace hSt := hSt.trans hSt2)
      | (apply WC_seqK; intro K hK)
      | (apply hK; clear hK)
      | (clear hK; apply hK; clear hK)
      | (clear hK; clear hK; apply hK; clear hK)
      | (clear hK; clear hK; clear hK; apply hK; clear hK)
      | (apply WC_block)
      | (apply WC_region)
      | (apply WL_nil)
      | (apply thenQ_normal)
      | (apply thenQ_ret)
      | (apply thenQ_exit)
      | (apply blockQ_hit)
      | (apply blockQ_miss; eq_refl)
      | (apply blockQ_ret)
      | (apply blockQ_normal)
      | (apply WC_ret)
      | (apply WC_exit)
      | (apply WC_skip)
      | (apply WC_label)
      | (apply WC_if_true; eq_refl)
      | (apply WC_if_false; eq_refl)
      | (apply ret1; eq_refl)
      | (apply ret2; eq_refl; eq_refl)
      | (apply ret3; eq_refl; eq_refl; eq_refl)
      | (apply ret0)
      | (apply ret0n)
      | (apply WL_on0; eq_refl)
      | (apply WL_onG; eq_refl; eq_refl; eq_refl; eq_refl)
      | (apply WL_noG; eq_refl; eq_refl; eq_refl; eq_refl)
      | (apply X_pv; eq_refl; first | exact trivial | omega)
      | (apply X_field; eq_refl)
      | (apply X_loadR; eq_refl; (first | assumption | (apply Blk.alloc; assumption) | apply Blk.new | apply Blk.newA | (apply Blk.alloc; first | apply Blk.newA | (apply Blk.alloc; first | assumption | apply Blk.newA))); eq_refl)
      | (apply X_loadW; eq_refl; (first | assumption | (apply Blk.alloc; assumption) | apply Blk.new | apply Blk.newA | (apply Blk.alloc; first | apply Blk.newA | (apply Blk.alloc; first | assumption | apply Blk.newA))); eq_refl)
      | (apply X_loadC; eq_refl; (first | assumption | (apply cel; first | assumption | (apply cel; assumption))))
      | (apply X_cmpT; eq_refl; eq_refl; omega)
      | (apply X_cmpF; eq_refl; eq_refl; omega)
      | (apply X_cmp; eq_refl; eq_refl; all_goals intro _)
      | (apply X_len; eq_refl)
      | (apply X_lenS; eq_refl)
      | (apply X_index; eq_refl; eq_refl; omega; omega)
      | (apply X_eqB; eq_refl; eq_refl)
      | (apply X_neqB; eq_refl; eq_refl)
      | (apply X_eqP; eq_refl; eq_refl)
      | (apply X_eqL; eq_refl; eq_refl)
      | (apply X_max; eq_refl; eq_refl)
      | (apply X_min; eq_refl; eq_refl)
      | (apply X_cap; eq_refl)
      | (apply X_alloc)
      | (apply X_box; eq_refl)
      | (apply X_makeMap)
      | (apply X_does; apply buildS22_2 <;> eq_refl))
    · rw [xorM_err (by assumption)]; exact ⟨rfl, _, hB2, hSt⟩
    · rw [xorM_err2 (by assumption) (by assumption)]; exact ⟨rfl, _, hB2, hSt⟩
    · rw [xorM_ok (by assumption) (by assumption)]; exact ⟨rfl, _, hB2, hSt⟩
  · refine enter 50 [6, 7] Try.func41 rfl rfl rfl (by decide) rfl ?_
    repeat' (first
      | (apply X_fn; eq_refl; (refine looked_no (xs := [x, y]) hB' hN hi hl hI (by simp) ?_; simp only [List.mem_cons, List.not_mem_nil, or_false, forall_eq_or_imp, forall_eq]; exact hok); rintro _ w1 ⟨rfl, hC1, hB1⟩; have hSt : Step w S w1 S := Step.of_chg (hC0 hC1).any)
      | (apply WC_seqK; intro K hK)
      | (apply hK; clear hK)
      | (clear hK; apply hK; clear hK)
      | (clear hK; clear hK; apply hK; clear hK)
      | (clear hK; clear hK; clear hK; apply hK; clear hK)
      | (apply WC_block)
      | (apply WC_region)
      | (apply WL_nil)
      | (apply thenQ_normal)
      | (apply thenQ_ret)
      | (apply thenQ_exit)
      | (apply blockQ_hit)
      | (apply blockQ_miss; eq_refl)
      | (apply blockQ_ret)
      | (apply blockQ_normal)
      | (apply WC_ret)
      | (apply WC_exit)
      | (apply WC_skip)
      | (apply WC_label)
      | (apply WC_if_true; eq_refl)
      | (apply WC_if_false; eq_refl)
      | (apply ret1; eq_refl)
      | (apply ret2; eq_refl; eq_refl)
      | (apply ret3; eq_refl; eq_refl; eq_refl)
      | (apply ret0)
      | (apply ret0n)
      | (apply WL_on0; eq_refl)
      | (apply WL_onG; eq_refl; eq_refl; eq_refl; eq_refl)
      | (apply WL_noG; eq_refl; eq_refl; eq_refl; eq_refl)
      | (apply X_pv; eq_refl; first | exact trivial | omega)
      | (apply X_field; eq_refl)
      | (apply X_loadR; eq_refl; (first | assumption | (apply Blk.alloc; assumption) | apply Blk.new | apply Blk.newA | (apply Blk.alloc; first | apply Blk.newA | (apply Blk.alloc; first | assumption | apply Blk.newA))); eq_refl)
      | (apply X_loadW; eq_refl; (first | assumption | (apply Blk.alloc; assumption) | apply Blk.new | apply Blk.newA | (apply Blk.alloc; first | apply Blk.newA | (apply Blk.alloc; first | assumption | apply Blk.newA))); eq_refl)
      | (apply X_loadC; eq_refl; (first | assumption | (apply cel; first | assumption | (apply cel; assumption))))
      | (apply X_cmpT; eq_refl; eq_refl; omega)
      | (apply X_cmpF; eq_refl; eq_refl; omega)
      | (apply X_cmp; eq_refl; eq_refl; all_goals intro _)
      | (apply X_len; eq_refl)
      | (apply X_lenS; eq_refl)
      | (apply X_index; eq_refl; eq_refl; omega; omega)
      | (apply X_eqB; eq_refl; eq_refl)
      | (apply X_neqB; eq_refl; eq_refl)
      | (apply X_eqP; eq_refl; eq_refl)
      | (apply X_eqL; eq_refl; eq_refl)
      | (apply X_max; eq_refl; eq_refl)
      | (apply X_min; eq_refl; eq_refl)
      | (apply X_cap; eq_refl)
      | (apply X_alloc)
      | (apply X_box; eq_refl)
      | (apply X_makeMap)
      | (apply X_does; apply buildS22_2 <;> eq_refl))
    exact After.same hB1 ((hC0 hC1).any) (by unfold XorM; rw [if_neg hok])
theorem Mux_cv (hB : Bld w g S i l gs) (hi : 0 ≤ i) (hl : 0 ≤ l) (hI : Inv (i + l) gs) : CV Try.prog 42 [ptr g, num s, num x, num y] w (After w g S i l (MuxM (i + l) gs s x y)) := by
  have hB' := hB.alloc (.cells #[num s, num x, num y] 3)
  have hN : Blk (w.alloc (.cells #[num s, num x, num y] 3)) w.heap.size 3 ([s, x, y].map num) := Blk.newA w #[num s, num x, num y] 3
  have htop := hI.top
  have hC0 : ∀ {w1}, Chg (w.alloc (.cells #[num s, num x, num y] 3)) w1 none_ → Chg w w1 none_ := fun h => (Chg.alloc w _ none_).trans h fun _ _ h => h
  by_cases hok : okM (i + l) gs s ∧ okM (i + l) gs x ∧ okM (i + l) gs y
  · rw [show MuxM (i + l) gs s x y = muxM (i + l) gs s x y by unfold MuxM; rw [if_pos hok]]
    have hs := hok.1
    have hx := hok.2.1
    have hy := hok.2.2
    have G1 := andM_good hI hs hx
    have G2 := andM_good G1.inv (okM_more (okM_not hs) G1.more) (okM_more hy G1.more)
    have b1 := G1.ok; have b2 := G2.ok; have t1 := G1.inv.top; have t2 := G2.inv.top
    have bx := hx; have bY := hy; have bs := hs
    unfold okM at b1 b2 bx bY bs
    have i1 := G1.inv; have i2 := G2.inv
    have o1 := okM_more (okM_not hs) G1.more
    have o2 := okM_more hy G1.more
    have o3 := okM_more G1.ok G2.more
    have o4 := G2.ok
    unfold notM at b2 t2 i2 o1 o3 o4
    refine enter 50 [8, 9] Try.func42 rfl rfl rfl (by decide) rfl ?_
    repeat' (first
      | (apply X_fn; eq_refl; (refine looked_ok (xs := [s, x, y]) hB' hN hi hl hI (by simp) ?_; simp only [List.mem_cons, List.not_mem_nil, or_false, forall_eq_or_imp, forall_eq]; exact hok); rintro _ w1 ⟨rfl, hC1, hB1⟩; have hSt : Step w S w1 S := Step.of_chg (hC0 hC1).any)
      | (apply X_fn; eq_refl; (apply and_cv; assumption; assumption; assumption; assumption; assumption; assumption); rintro _ w2 ⟨rfl, S2, hB2, hSt2⟩; replace hSt := hSt.trans hSt2)
      | (apply X_fn; eq_refl; (apply or_cv; assumption; assumption; assumption; assumption; assumption; assumption); rintro _ w2 ⟨rfl, S2, hB2, hSt2⟩; replace hSt := hSt.trans hSt2)
      | (apply WC_seqK; intro K hK)
      | (apply hK; clear hK)
      | (clear hK; apply hK; clear hK)
      | (clear hK; clear hK; apply hK; clear hK)
      | (clear hK; clear hK; clear hK; apply hK; clear hK)
      | (apply WC_block)
      | (apply WC_region)
      | (apply WL_nil)
      | (apply thenQ_normal)
      | (apply thenQ_ret)
      | (apply thenQ_exit)
      | (apply blockQ_hit)
      | (apply blockQ_miss; eq_refl)
      | (apply blockQ_ret)
      | (apply blockQ_normal)
      | (apply WC_ret)
      | (apply WC_exit)
      | (apply WC_skip)
      | (apply WC_label)
      | (apply WC_if_true; eq_refl)
      | (apply WC_if_false; eq_refl)
      | (apply ret1; eq_refl)
      | (apply ret2; eq_refl; eq_refl)
      | (apply ret3; eq_refl; eq_refl; eq_refl)
      | (apply ret0)
      | (apply ret0n)
      | (apply WL_on0; eq_refl)
      | (apply WL_onG; eq_refl; eq_refl; eq_refl; eq_refl)
      | (apply WL_noG; eq_refl; eq_refl; eq_refl; eq_refl)
      | (apply X_pv; eq_refl; first | exact trivial | omega)
      | (apply X_field; eq_refl)
      | (apply X_loadR; eq_refl; (first | assumption | (apply Blk.alloc; assumption) | apply Blk.new | apply Blk.newA | (apply Blk.alloc; first | apply Blk.newA | (apply Blk.alloc; first | assumption | apply Blk.newA))); eq_refl)
      | (apply X_loadW; eq_refl; (first | assumption | (apply Blk.alloc; assumption) | apply Blk.new | apply Blk.newA | (apply Blk.alloc; first | apply Blk.newA | (apply Blk.alloc; first | assumption | apply Blk.newA))); eq_refl)
      | (apply X_loadC; eq_refl; (first | assumption | (apply cel; first | assumption | (apply cel; assumption))))
      | (apply X_cmpT; eq_refl; eq_refl; omega)
      | (apply X_cmpF; eq_refl; eq_refl; omega)
      | (apply X_cmp; eq_refl; eq_refl; all_goals intro _)
      | (apply X_len; eq_refl)
      | (apply X_lenS; eq_refl)
      | (apply X_index; eq_refl; eq_refl; omega; omega)
      | (apply X_eqB; eq_refl; eq_refl)
      | (apply X_neqB; eq_refl; eq_refl)
      | (apply X_eqP; eq_refl; eq_refl)
      | (apply X_eqL; eq_refl; eq_refl)
      | (apply X_max; eq_refl; eq_refl)
      | (apply X_min; eq_refl; eq_refl)
      | (apply X_cap; eq_refl)
      | (apply X_alloc)
      | (apply X_box; eq_refl)
      | (apply X_makeMap)
      | (apply X_does; apply buildS22_3 <;> eq_refl))
    · rw [muxM_err (by assumption)]; exact ⟨rfl, _, hB2, hSt⟩
    · rw [muxM_err2 (by assumption) (by assumption)]; exact ⟨rfl, _, hB2, hSt⟩
    · rw [muxM_ok (by assumption) (by assumption)]; exact ⟨rfl, _, hB2, hSt⟩
  · refine enter 50 [8, 9] Try.func42 rfl rfl rfl (by decide) rfl ?_
    repeat' (first
      | (apply X_fn; eq_refl; (refine looked_no (xs := [s, x, y]) hB' hN hi hl hI (by simp) ?_; simp only [List.mem_cons, List.not_mem_nil, or_false, forall_eq_or_imp, forall_eq]; exact hok); rintro _ w1 ⟨rfl, hC1, hB1⟩; have hSt : Step w S w1 S := Step.of_chg (hC0 hC1).any)
      | (apply WC_seqK; intro K hK)
      | (apply hK; clear hK)
      | (clear hK; apply hK; clear hK)
      | (clear hK; clear hK; apply hK; clear hK)
      | (clear hK; clear hK; clear hK; apply hK; clear hK)
      | (apply WC_block)
      | (apply WC_region)
      | (apply WL_nil)
      | (apply thenQ_normal)
      | (apply thenQ_ret)
      | (apply thenQ_exit)
      | (apply blockQ_hit)
      | (apply blockQ_miss; eq_refl)
      | (apply blockQ_ret)
      | (apply blockQ_normal)
      | (apply WC_ret)
      | (apply WC_exit)
      | (apply WC_skip)
      | (apply WC_label)
      | (apply WC_if_true; eq_refl)
      | (apply WC_if_false; eq_refl)
      | (apply ret1; eq_refl)
      | (apply ret2; eq_refl; eq_refl)
      | (apply ret3; eq_refl; eq_refl; eq_refl)
      | (apply ret0)
      | (apply ret0n)
      | (apply WL_on0; eq_refl)
      | (apply WL_onG; eq_refl; eq_refl; eq_refl; eq_refl)
      | (apply WL_noG; eq_refl; eq_refl; eq_refl; eq_refl)
      | (apply X_pv; eq_refl; first | exact trivial | omega)
      | (apply X_field; eq_refl)
      | (apply X_loadR; eq_refl; (first | assumption | (apply Blk.alloc; assumption) | apply Blk.new | apply Blk.newA | (apply Blk.alloc; first | apply Blk.newA | (apply Blk.alloc; first | assumption | apply Blk.newA))); eq_refl)
      | (apply X_loadW; eq_refl; (first | assumption | (apply Blk.alloc; assumption) | apply Blk.new | apply Blk.newA | (apply Blk.alloc; first | apply Blk.newA | (apply Blk.alloc; first | assumption | apply Blk.newA))); eq_refl)
      | (apply X_loadC; eq_refl; (first | assumption | (apply cel; first | assumption | (apply cel; assumption))))
      | (apply X_cmpT; eq_refl; eq_refl; omega)
      | (apply X_cmpF; eq_refl; eq_refl; omega)
      | (apply X_cmp; eq_refl; eq_refl; all_goals intro _)
      | (apply X_len; eq_refl)
      | (apply X_lenS; eq_refl)
      | (apply X_index; eq_refl; eq_refl; omega; omega)
      | (apply X_eqB; eq_refl; eq_refl)
      | (apply X_neqB; eq_refl; eq_refl)
      | (apply X_eqP; eq_refl; eq_refl)
      | (apply X_eqL; eq_refl; eq_refl)
      | (apply X_max; eq_refl; eq_refl)
      | (apply X_min; eq_refl; eq_refl)
      | (apply X_cap; eq_refl)
      | (apply X_alloc)
      | (apply X_box; eq_refl)
      | (apply X_makeMap)
      | (apply X_does; apply buildS22_3 <;> eq_refl))
    exact After.same hB1 ((hC0 hC1).any) (by unfold MuxM; rw [if_neg hok])
theorem Size_cv {A : Option Addr} {n c : Nat} {m : Value} (hB : Blk w g 101 [num i, num l, .slice A n c, m]) : CV Try.prog 43 [ptr g] w fun u w' => u = num n ∧ w' = w := by
  refine enter 8 [2] Try.func43 rfl rfl rfl (by decide) rfl ?_
  repeat' (first
      | (apply WC_seqK; intro K hK)
      | (apply hK; clear hK)
      | (clear hK; apply hK; clear hK)
      | (clear hK; clear hK; apply hK; clear hK)
      | (clear hK; clear hK; clear hK; apply hK; clear hK)
      | (apply WC_block)
      | (apply WC_region)
      | (apply WL_nil)
      | (apply thenQ_normal)
      | (apply thenQ_ret)
      | (apply thenQ_exit)
      | (apply blockQ_hit)
      | (apply blockQ_miss; eq_refl)
      | (apply blockQ_ret)
      | (apply blockQ_normal)
      | (apply WC_ret)
      | (apply WC_exit)
      | (apply WC_skip)
      | (apply WC_label)
      | (apply WC_if_true; eq_refl)
      | (apply WC_if_false; eq_refl)
      | (apply ret1; eq_refl)
      | (apply ret2; eq_refl; eq_refl)
      | (apply ret3; eq_refl; eq_refl; eq_refl)
      | (apply ret0)
      | (apply ret0n)
      | (apply WL_on0; eq_refl)
      | (apply WL_onG; eq_refl; eq_refl; eq_refl; eq_refl)
      | (apply WL_noG; eq_refl; eq_refl; eq_refl; eq_refl)
      | (apply X_pv; eq_refl; first | exact trivial | omega)
      | (apply X_field; eq_refl)
      | (apply X_loadR; eq_refl; (first | assumption | (apply Blk.alloc; assumption) | apply Blk.new | apply Blk.newA | (apply Blk.alloc; first | apply Blk.newA | (apply Blk.alloc; first | assumption | apply Blk.newA))); eq_refl)
      | (apply X_loadW; eq_refl; (first | assumption | (apply Blk.alloc; assumption) | apply Blk.new | apply Blk.newA | (apply Blk.alloc; first | apply Blk.newA | (apply Blk.alloc; first | assumption | apply Blk.newA))); eq_refl)
      | (apply X_loadC; eq_refl; (first | assumption | (apply cel; first | assumption | (apply cel; assumption))))
      | (apply X_cmpT; eq_refl; eq_refl; omega)
      | (apply X_cmpF; eq_refl; eq_refl; omega)
      | (apply X_cmp; eq_refl; eq_refl; all_goals intro _)
      | (apply X_len; eq_refl)
      | (apply X_lenS; eq_refl)
      | (apply X_index; eq_refl; eq_refl; omega; omega)
      | (apply X_eqB; eq_refl; eq_refl)
      | (apply X_neqB; eq_refl; eq_refl)
      | (apply X_eqP; eq_refl; eq_refl)
      | (apply X_eqL; eq_refl; eq_refl)
      | (apply X_max; eq_refl; eq_refl)
      | (apply X_min; eq_refl; eq_refl)
      | (apply X_cap; eq_refl)
      | (apply X_alloc)
      | (apply X_box; eq_refl)
      | (apply X_makeMap))
  exact ⟨rfl, rfl⟩
def newBad (a b : Int) : Prop := a < 0 ∨ 16384 < a ∨ b < 0 ∨ 16384 < b ∨ 16384 < a + b
theorem New_ok {a b : Int} (h : ¬ newBad a b) : CV Try.prog 39 [num a, num b] w fun u w' => ∃ g S', u = .tuple #[ptr g, num 0] ∧ Bld w' g S' a b [] ∧ Step w none_ w' S' := by
  unfold newBad at h
  refine enter 31 [4, 5] Try.func39 rfl rfl rfl (by decide) rfl ?_
  repeat' (first
      | (apply WC_seqK; intro K hK)
      | (apply hK; clear hK)
      | (clear hK; apply hK; clear hK)
      | (clear hK; clear hK; apply hK; clear hK)
      | (clear hK; clear hK; clear hK; apply hK; clear hK)
      | (apply WC_block)
      | (apply WC_region)
      | (apply WL_nil)
      | (apply thenQ_normal)
      | (apply thenQ_ret)
      | (apply thenQ_exit)
      | (apply blockQ_hit)
      | (apply blockQ_miss; eq_refl)
      | (apply blockQ_ret)
      | (apply blockQ_normal)
      | (apply WC_ret)
      | (apply WC_exit)
      | (apply WC_skip)
      | (apply WC_label)
      | (apply WC_if_true; eq_refl)
      | (apply WC_if_false; eq_refl)
      | (apply ret1; eq_refl)
      | (apply ret2; eq_refl; eq_refl)
      | (apply ret3; eq_refl; eq_refl; eq_refl)
      | (apply ret0)
      | (apply ret0n)
      | (apply WL_on0; eq_refl)
      | (apply WL_onG; eq_refl; eq_refl; eq_refl; eq_refl)
      | (apply WL_noG; eq_refl; eq_refl; eq_refl; eq_refl)
      | (apply X_pv; eq_refl; first | exact trivial | omega)
      | (apply X_field; eq_refl)
      | (apply X_loadR; eq_refl; (first | assumption | (apply Blk.alloc; assumption) | apply Blk.new | apply Blk.newA | (apply Blk.alloc; first | apply Blk.newA | (apply Blk.alloc; first | assumption | apply Blk.newA))); eq_refl)
      | (apply X_loadW; eq_refl; (first | assumption | (apply Blk.alloc; assumption) | apply Blk.new | apply Blk.newA | (apply Blk.alloc; first | apply Blk.newA | (apply Blk.alloc; first | assumption | apply Blk.newA))); eq_refl)
      | (apply X_loadC; eq_refl; (first | assumption | (apply cel; first | assumption | (apply cel; assumption))))
      | (apply X_cmpT; eq_refl; eq_refl; omega)
      | (apply X_cmpF; eq_refl; eq_refl; omega)
      | (apply X_cmp; eq_refl; eq_refl; all_goals intro _)
      | (apply X_len; eq_refl)
      | (apply X_lenS; eq_refl)
      | (apply X_index; eq_refl; eq_refl; omega; omega)
      | (apply X_eqB; eq_refl; eq_refl)
      | (apply X_neqB; eq_refl; eq_refl)
      | (apply X_eqP; eq_refl; eq_refl)
      | (apply X_eqL; eq_refl; eq_refl)
      | (apply X_max; eq_refl; eq_refl)
      | (apply X_min; eq_refl; eq_refl)
      | (apply X_cap; eq_refl)
      | (apply X_alloc)
      | (apply X_box; eq_refl)
      | (apply X_makeMap)
      | (apply X_pure; apply build101_0_1_3 <;> eq_refl))
  have hm := (MapHas.made w).chg (Chg.alloc _ (.cells #[num a, num b, .slice none 0 0, .map (some w.heap.size)] 101) none_) id
  have hz : (w.alloc (.map #[] 0)).heap.size = w.heap.size + 1 := by simp
  refine ⟨(w.alloc (.map #[] 0)).heap.size, fun k => k = w.heap.size ∨ k = (w.alloc (.map #[] 0)).heap.size, rfl, ⟨.slice none 0 0, w.heap.size, ?_⟩, ?_⟩
  · refine ⟨Blk.newA _ _ _, World.ownsRow_nil _ _ _ _, hm, .inr rfl, .inl rfl, fun k hk => by simp [Value.ownBlock] at hk, fun k hk => ?_⟩
    rw [hz] at hk
    simp; omega
  · refine ⟨((Chg.alloc w _ none_).al _), fun k hk => .inr ?_⟩
    rw [hz] at hk
    exact ⟨by omega, by simp; omega⟩
theorem Clone_cv {v : Value} {n : Nat} {xs : List Value} (h : w.ownsRow 0 57 3 v n xs) (hn : n ≤ 16384) (ho : ∀ u ∈ xs, u.oneCell' = true) :
    CV Try.prog 82 [v] w fun u w' => w'.ownsRow w.heap.size 57 3 u n xs ∧ Chg w w' none_ := by
  obtain ⟨A, c, rfl⟩ := row_form h
  refine enter 8 [2] Try.func82 rfl rfl rfl (by decide) rfl ?_
  cases A with
  | none =>
    repeat' (first
      | (apply WC_seqK; intro K hK)
      | (apply hK; clear hK)
      | (clear hK; apply hK; clear hK)
      | (clear hK; clear hK; apply hK; clear hK)
      | (clear hK; clear hK; clear hK; apply hK; clear hK)
      | (apply WC_block)
      | (apply WC_region)
      | (apply WL_nil)
      | (apply thenQ_normal)
      | (apply thenQ_ret)
      | (apply thenQ_exit)
      | (apply blockQ_hit)
      | (apply blockQ_miss; eq_refl)
      | (apply blockQ_ret)
      | (apply blockQ_normal)
      | (apply WC_ret)
      | (apply WC_exit)
      | (apply WC_skip)
      | (apply WC_label)
      | (apply WC_if_true; eq_refl)
      | (apply WC_if_false; eq_refl)
      | (apply ret1; eq_refl)
      | (apply ret2; eq_refl; eq_refl)
      | (apply ret3; eq_refl; eq_refl; eq_refl)
      | (apply ret0)
      | (apply ret0n)
      | (apply WL_on0; eq_refl)
      | (apply WL_onG; eq_refl; eq_refl; eq_refl; eq_refl)
      | (apply WL_noG; eq_refl; eq_refl; eq_refl; eq_refl)
      | (apply X_pv; eq_refl; first | exact trivial | omega)
      | (apply X_field; eq_refl)
      | (apply X_loadR; eq_refl; (first | assumption | (apply Blk.alloc; assumption) | apply Blk.new | apply Blk.newA | (apply Blk.alloc; first | apply Blk.newA | (apply Blk.alloc; first | assumption | apply Blk.newA))); eq_refl)
      | (apply X_loadW; eq_refl; (first | assumption | (apply Blk.alloc; assumption) | apply Blk.new | apply Blk.newA | (apply Blk.alloc; first | apply Blk.newA | (apply Blk.alloc; first | assumption | apply Blk.newA))); eq_refl)
      | (apply X_loadC; eq_refl; (first | assumption | (apply cel; first | assumption | (apply cel; assumption))))
      | (apply X_cmpT; eq_refl; eq_refl; omega)
      | (apply X_cmpF; eq_refl; eq_refl; omega)
      | (apply X_cmp; eq_refl; eq_refl; all_goals intro _)
      | (apply X_len; eq_refl)
      | (apply X_lenS; eq_refl)
      | (apply X_index; eq_refl; eq_refl; omega; omega)
      | (apply X_eqB; eq_refl; eq_refl)
      | (apply X_neqB; eq_refl; eq_refl)
      | (apply X_eqP; eq_refl; eq_refl)
      | (apply X_eqL; eq_refl; eq_refl)
      | (apply X_max; eq_refl; eq_refl)
      | (apply X_min; eq_refl; eq_refl)
      | (apply X_cap; eq_refl)
      | (apply X_alloc)
      | (apply X_box; eq_refl)
      | (apply X_makeMap)
      | (apply X_does; apply buildS25_0))
    rcases h.2 with ⟨_, rfl⟩ | ⟨g', cap, cur, hv, _⟩
    · obtain rfl : xs = [] := List.length_eq_zero_iff.1 (by simpa using h.1)
      exact ⟨World.ownsRow_nil _ _ _ _, Chg.refl _ _⟩
    · cases hv
  | some p =>
    rcases h.2 with ⟨hv, _⟩ | ⟨g', cap, cur, hv, h0, hrest⟩
    · cases hv
    cases hv
    have h' := h.alloc (.cells #[] 57)
    have hnew : (w.alloc (.cells #[] 57)).ownsRow w.heap.size 57 3 (.slice (some ⟨w.heap.size, 0, none⟩) 0 0) 0 [] := ⟨by simp, .inr ⟨w.heap.size, 0, #[], rfl, Nat.le_refl _, heap_alloc_new w _, Nat.le_refl _, Nat.zero_le _, rfl, rfl⟩⟩
    repeat' (first
      | (apply WC_seqK; intro K hK)
      | (apply hK; clear hK)
      | (clear hK; apply hK; clear hK)
      | (clear hK; clear hK; apply hK; clear hK)
      | (clear hK; clear hK; clear hK; apply hK; clear hK)
      | (apply WC_block)
      | (apply WC_region)
      | (apply WL_nil)
      | (apply thenQ_normal)
      | (apply thenQ_ret)
      | (apply thenQ_exit)
      | (apply blockQ_hit)
      | (apply blockQ_miss; eq_refl)
      | (apply blockQ_ret)
      | (apply blockQ_normal)
      | (apply WC_ret)
      | (apply WC_exit)
      | (apply WC_skip)
      | (apply WC_label)
      | (apply WC_if_true; eq_refl)
      | (apply WC_if_false; eq_refl)
      | (apply ret1; eq_refl)
      | (apply ret2; eq_refl; eq_refl)
      | (apply ret3; eq_refl; eq_refl; eq_refl)
      | (apply ret0)
      | (apply ret0n)
      | (apply WL_on0; eq_refl)
      | (apply WL_onG; eq_refl; eq_refl; eq_refl; eq_refl)
      | (apply WL_noG; eq_refl; eq_refl; eq_refl; eq_refl)
      | (apply X_pv; eq_refl; first | exact trivial | omega)
      | (apply X_field; eq_refl)
      | (apply X_loadR; eq_refl; (first | assumption | (apply Blk.alloc; assumption) | apply Blk.new | apply Blk.newA | (apply Blk.alloc; first | apply Blk.newA | (apply Blk.alloc; first | assumption | apply Blk.newA))); eq_refl)
      | (apply X_loadW; eq_refl; (first | assumption | (apply Blk.alloc; assumption) | apply Blk.new | apply Blk.newA | (apply Blk.alloc; first | apply Blk.newA | (apply Blk.alloc; first | assumption | apply Blk.newA))); eq_refl)
      | (apply X_loadC; eq_refl; (first | assumption | (apply cel; first | assumption | (apply cel; assumption))))
      | (apply X_cmpT; eq_refl; eq_refl; omega)
      | (apply X_cmpF; eq_refl; eq_refl; omega)
      | (apply X_cmp; eq_refl; eq_refl; all_goals intro _)
      | (apply X_len; eq_refl)
      | (apply X_lenS; eq_refl)
      | (apply X_index; eq_refl; eq_refl; omega; omega)
      | (apply X_eqB; eq_refl; eq_refl)
      | (apply X_neqB; eq_refl; eq_refl)
      | (apply X_eqP; eq_refl; eq_refl)
      | (apply X_eqL; eq_refl; eq_refl)
      | (apply X_max; eq_refl; eq_refl)
      | (apply X_min; eq_refl; eq_refl)
      | (apply X_cap; eq_refl)
      | (apply X_alloc)
      | (apply X_box; eq_refl)
      | (apply X_makeMap)
      | (apply X_does; apply buildS25_0))
    refine X_appendC w.heap.size (by eq_refl) (by eq_refl) hnew (fun j u hj => ?_) h.1 rfl (by decide) ho (by omega) (by decide) (by simp) ?_
    · have := h'.cells (g := g') rfl j u hj
      rwa [add_at, Nat.zero_add] at this
    · intro v' w' hrow hC hown hnil
      repeat' (first
      | (apply WC_seqK; intro K hK)
      | (apply hK; clear hK)
      | (clear hK; apply hK; clear hK)
      | (clear hK; clear hK; apply hK; clear hK)
      | (clear hK; clear hK; clear hK; apply hK; clear hK)
      | (apply WC_block)
      | (apply WC_region)
      | (apply WL_nil)
      | (apply thenQ_normal)
      | (apply thenQ_ret)
      | (apply thenQ_exit)
      | (apply blockQ_hit)
      | (apply blockQ_miss; eq_refl)
      | (apply blockQ_ret)
      | (apply blockQ_normal)
      | (apply WC_ret)
      | (apply WC_exit)
      | (apply WC_skip)
      | (apply WC_label)
      | (apply WC_if_true; eq_refl)
      | (apply WC_if_false; eq_refl)
      | (apply ret1; eq_refl)
      | (apply ret2; eq_refl; eq_refl)
      | (apply ret3; eq_refl; eq_refl; eq_refl)
      | (apply ret0)
      | (apply ret0n)
      | (apply WL_on0; eq_refl)
      | (apply WL_onG; eq_refl; eq_refl; eq_refl; eq_refl)
      | (apply WL_noG; eq_refl; eq_refl; eq_refl; eq_refl)
      | (apply X_pv; eq_refl; first | exact trivial | omega)
      | (apply X_field; eq_refl)
      | (apply X_loadR; eq_refl; (first | assumption | (apply Blk.alloc; assumption) | apply Blk.new | apply Blk.newA | (apply Blk.alloc; first | apply Blk.newA | (apply Blk.alloc; first | assumption | apply Blk.newA))); eq_refl)
      | (apply X_loadW; eq_refl; (first | assumption | (apply Blk.alloc; assumption) | apply Blk.new | apply Blk.newA | (apply Blk.alloc; first | apply Blk.newA | (apply Blk.alloc; first | assumption | apply Blk.newA))); eq_refl)
      | (apply X_loadC; eq_refl; (first | assumption | (apply cel; first | assumption | (apply cel; assumption))))
      | (apply X_cmpT; eq_refl; eq_refl; omega)
      | (apply X_cmpF; eq_refl; eq_refl; omega)
      | (apply X_cmp; eq_refl; eq_refl; all_goals intro _)
      | (apply X_len; eq_refl)
      | (apply X_lenS; eq_refl)
      | (apply X_index; eq_refl; eq_refl; omega; omega)
      | (apply X_eqB; eq_refl; eq_refl)
      | (apply X_neqB; eq_refl; eq_refl)
      | (apply X_eqP; eq_refl; eq_refl)
      | (apply X_eqL; eq_refl; eq_refl)
      | (apply X_max; eq_refl; eq_refl)
      | (apply X_min; eq_refl; eq_refl)
      | (apply X_cap; eq_refl)
      | (apply X_alloc)
      | (apply X_box; eq_refl)
      | (apply X_makeMap)
      | (apply X_does; apply buildS25_0))
      refine ⟨by simpa using hrow, (Chg.alloc w (.cells #[] 57) none_).trans hC fun k hk h => ?_⟩
      simp only [Value.ownBlock, Option.some.injEq] at h
      omega
theorem Gates_cv {m : Value} {v : Value} {n : Nat} {xs : List Value} (hB : Blk w g 101 [num i, num l, v, m]) (h : w.ownsRow 0 57 3 v n xs) (hn : n ≤ 16384) (ho : ∀ u ∈ xs, u.oneCell' = true) :
    CV Try.prog 44 [ptr g] w fun u w' => w'.ownsRow w.heap.size 57 3 u n xs ∧ Chg w w' none_ := by
  obtain ⟨A, c, rfl⟩ := row_form h
  refine enter 8 [2] Try.func44 rfl rfl rfl (by decide) rfl ?_
  repeat' (first
      | (apply X_fn; eq_refl; (exact Clone_cv h hn ho); rintro u w' ⟨h1, h2⟩)
      | (apply WC_seqK; intro K hK)
      | (apply hK; clear hK)
      | (clear hK; apply hK; clear hK)
      | (clear hK; clear hK; apply hK; clear hK)
      | (clear hK; clear hK; clear hK; apply hK; clear hK)
      | (apply WC_block)
      | (apply WC_region)
      | (apply WL_nil)
      | (apply thenQ_normal)
      | (apply thenQ_ret)
      | (apply thenQ_exit)
      | (apply blockQ_hit)
      | (apply blockQ_miss; eq_refl)
      | (apply blockQ_ret)
      | (apply blockQ_normal)
      | (apply WC_ret)
      | (apply WC_exit)
      | (apply WC_skip)
      | (apply WC_label)
      | (apply WC_if_true; eq_refl)
      | (apply WC_if_false; eq_refl)
      | (apply ret1; eq_refl)
      | (apply ret2; eq_refl; eq_refl)
      | (apply ret3; eq_refl; eq_refl; eq_refl)
      | (apply ret0)
      | (apply ret0n)
      | (apply WL_on0; eq_refl)
      | (apply WL_onG; eq_refl; eq_refl; eq_refl; eq_refl)
      | (apply WL_noG; eq_refl; eq_refl; eq_refl; eq_refl)
      | (apply X_pv; eq_refl; first | exact trivial | omega)
      | (apply X_field; eq_refl)
      | (apply X_loadR; eq_refl; (first | assumption | (apply Blk.alloc; assumption) | apply Blk.new | apply Blk.newA | (apply Blk.alloc; first | apply Blk.newA | (apply Blk.alloc; first | assumption | apply Blk.newA))); eq_refl)
      | (apply X_loadW; eq_refl; (first | assumption | (apply Blk.alloc; assumption) | apply Blk.new | apply Blk.newA | (apply Blk.alloc; first | apply Blk.newA | (apply Blk.alloc; first | assumption | apply Blk.newA))); eq_refl)
      | (apply X_loadC; eq_refl; (first | assumption | (apply cel; first | assumption | (apply cel; assumption))))
      | (apply X_cmpT; eq_refl; eq_refl; omega)
      | (apply X_cmpF; eq_refl; eq_refl; omega)
      | (apply X_cmp; eq_refl; eq_refl; all_goals intro _)
      | (apply X_len; eq_refl)
      | (apply X_lenS; eq_refl)
      | (apply X_index; eq_refl; eq_refl; omega; omega)
      | (apply X_eqB; eq_refl; eq_refl)
      | (apply X_neqB; eq_refl; eq_refl)
      | (apply X_eqP; eq_refl; eq_refl)
      | (apply X_eqL; eq_refl; eq_refl)
      | (apply X_max; eq_refl; eq_refl)
      | (apply X_min; eq_refl; eq_refl)
      | (apply X_cap; eq_refl)
      | (apply X_alloc)
      | (apply X_box; eq_refl)
      | (apply X_makeMap))
  exact ⟨h1, h2⟩
end
end SC
end Go.Proofs.Yticndofcfacopaa
end
section
/- Or, Xor, Mux of a builder: the plain law. -/
set_option linter.unusedVariables false
set_option linter.unusedSimpArgs false
namespace Go.Proofs.Yticndofcfacopaa
namespace SC
open Go.Proofs
theorem Gs.inv {n : Int} {gs : List Gate} (G : Gs n gs) (h : n + gs.length ≤ 16384) : Inv n gs := by
  have nn := G.nn
  refine ⟨nn, h, fun g hg => ?_, fun g hg => ?_⟩
  · obtain ⟨k, hk, rfl⟩ := List.mem_iff_getElem.1 hg
    have := G.out k hk
    omega
  · obtain ⟨k, hk, rfl⟩ := List.mem_iff_getElem.1 hg
    have := G.out k hk
    have := G.low k hk
    omega
/-- What a call makes: no error, so many gates more at most, and a literal with that value. -/
structure Made (n : Int) (gs : List Gate) (m : Nat) (r : Int × Int × List Gate) (f : List Bool → Bool) : Prop where
  err : r.2.1 = 0
  good : Gs n r.2.2
  pre : gs <+: r.2.2
  ok : okM n r.2.2 r.1
  len : r.2.2.length ≤ gs.length + m
  val : ∀ v, ValG n r.2.2 v → lv v r.1 = f v
theorem andM_made {n : Int} {gs : List Gate} {x y : Int} (G : Gs n gs) (hx : okM n gs x) (hy : okM n gs y) (hn : n + gs.length < 16384) : Made n gs 1 (andM n gs x y) fun v => lv v x && lv v y := by
  have g1 := G.andM hx hy
  have g2 := andM_good (G.inv (by omega)) hx hy
  have he : (andM n gs x y).2.1 = 0 ∧ (andM n gs x y).2.2.length ≤ gs.length + 1 := by
    unfold andM andP
    split
    · exact ⟨rfl, by simp⟩
    · split
      · exact ⟨rfl, by simp⟩
      · split
        · exact ⟨rfl, by simp⟩
        · rw [if_neg (by omega)]
          exact ⟨rfl, by simp⟩
  exact ⟨he.1, g1.1, g1.2, g2.ok, he.2, fun v V => andM_val G hx hy V he.1⟩
theorem Made.okM {n : Int} {gs : List Gate} {m : Nat} {r : Int × Int × List Gate} {f : List Bool → Bool} (M : Made n gs m r f) {z : Int} (h : okM n gs z) : okM n r.2.2 z := okM_more h M.pre.length_le
theorem orM_made {n : Int} {gs : List Gate} {x y : Int} (G : Gs n gs) (hx : okM n gs x) (hy : okM n gs y) (hn : n + gs.length < 16384) : Made n gs 1 (orM n gs x y) fun v => lv v x || lv v y := by
  have M := andM_made G (okM_not hx) (okM_not hy) hn
  rw [orM_ok (by rw [M.err]; decide)]
  refine ⟨rfl, M.good, M.pre, okM_not M.ok, M.len, fun v V => ?_⟩
  simp only at V ⊢
  rw [lv_not M.ok.1, M.val v V, lv_not hx.1, lv_not hy.1]
  cases lv v x <;> cases lv v y <;> rfl
theorem xorM_made {n : Int} {gs : List Gate} {x y : Int} (G : Gs n gs) (hx : okM n gs x) (hy : okM n gs y) (hn : n + gs.length + 2 < 16384) : Made n gs 3 (xorM n gs x y) fun v => lv v x != lv v y := by
  have M1 := andM_made G hx hy (by omega)
  have l1 := M1.len
  have M2 := andM_made M1.good (okM_not (M1.okM hx)) (okM_not (M1.okM hy)) (by omega)
  have l2 := M2.len
  have M3 := andM_made M2.good (okM_not (M2.okM M1.ok)) (okM_not M2.ok) (by omega)
  have l3 := M3.len
  rw [xorM_ok (by rw [M1.err]; decide) (by rw [M2.err]; decide)]
  refine ⟨M3.err, M3.good, M1.pre.trans (M2.pre.trans M3.pre), M3.ok, by omega, fun v V => ?_⟩
  have v1 := M1.val v (V.pre (M2.pre.trans M3.pre))
  have v2 := M2.val v (V.pre M3.pre)
  rw [M3.val v V, lv_not M1.ok.1, lv_not M2.ok.1, v1, v2, lv_not hx.1, lv_not hy.1]
  cases lv v x <;> cases lv v y <;> rfl
theorem muxM_made {n : Int} {gs : List Gate} {s x y : Int} (G : Gs n gs) (hs : okM n gs s) (hx : okM n gs x) (hy : okM n gs y) (hn : n + gs.length + 2 < 16384) : Made n gs 3 (muxM n gs s x y) fun v => if lv v s then lv v x else lv v y := by
  have M1 := andM_made G hs hx (by omega)
  have l1 := M1.len
  have M2 := andM_made M1.good (okM_not (M1.okM hs)) (M1.okM hy) (by omega)
  have l2 := M2.len
  have M3 := orM_made M2.good (M2.okM M1.ok) M2.ok (by omega)
  have l3 := M3.len
  rw [muxM_ok (by rw [M1.err]; decide) (by rw [M2.err]; decide)]
  refine ⟨M3.err, M3.good, M1.pre.trans (M2.pre.trans M3.pre), M3.ok, by omega, fun v V => ?_⟩
  have v1 := M1.val v (V.pre (M2.pre.trans M3.pre))
  have v2 := M2.val v (V.pre M3.pre)
  rw [M3.val v V, v1, v2, lv_not hs.1]
  cases lv v s <;> cases lv v x <;> cases lv v y <;> rfl
/-- A circuit of inputs and a builder's gates alone. -/
def cGs (i : Nat) (gs : List Gate) : Circ := { max := ((i + gs.length : Nat) : Int), inputs := (List.range i).map fun (k : Nat) => 2 * (k : Int) + 2, latches := [], outputs := [], bads := [], constraints := [], justice := [], fairness := [], ands := gs, symbols := [], comments := [] }
end SC
end Go.Proofs.Yticndofcfacopaa
end
section
/- The circuit of a builder's gates: it is right, and its values fit the gates. -/
set_option linter.unusedVariables false
set_option linter.unusedSimpArgs false
namespace Go.Proofs.Yticndofcfacopaa
namespace SC
open Go.Proofs
theorem cGs_seq {i : Nat} {gs : List Gate} (G : Gs (i : Int) gs) (h : i + gs.length ≤ 16384) : SeqOk (cGs i gs) := by
  have hi : (cGs i gs).inputs.length = i := by unfold cGs; simp
  have hl : (cGs i gs).latches.length = 0 := rfl
  have ha : (cGs i gs).ands.length = gs.length := rfl
  have hm : (cGs i gs).max = ((i + gs.length : Nat) : Int) := rfl
  refine ⟨by rw [hi, hl, ha, hm]; omega, by rw [hm]; omega, fun n hn => ?_, (show sumW [] ≤ 16384 by decide), fun k hk => ?_, fun k hk => absurd hk (Nat.not_lt_zero _), fun k hk => ?_, fun x hx => absurd hx List.not_mem_nil, fun x hx => absurd hx List.not_mem_nil, fun x hx => ?_, fun x hx => absurd hx List.not_mem_nil, fun x hx => absurd hx List.not_mem_nil, fun x hx => absurd hx List.not_mem_nil, fun l hl => absurd hl List.not_mem_nil, fun x hx => absurd hx List.not_mem_nil, (show goSym (cGs i gs) [] 0 (fun _ _ => 0) < 0 by unfold goSym; decide), (show goCom [] 0 < 0 by unfold goCom; decide)⟩
  · unfold Circ.lens cGs at hn
    simp at hn
    omega
  · refine (List.getElem_map (fun (k : Nat) => 2 * (k : Int) + 2) (l := List.range i) (h := hk)).trans ?_
    rw [List.getElem_range]
  · have := G.out k hk
    rw [hi, hl]
    show gs[k].1 = _
    rw [this]
    omega
  · obtain ⟨k, hk, rfl⟩ := List.mem_iff_getElem.1 (show x ∈ gs from hx)
    have := G.low k hk
    omega
theorem cGs_val {i : Nat} {gs : List Gate} {s r v : List Bool} (G : Gs (i : Int) gs) (V : ValOk (cGs i gs) s r v) : ValG (i : Int) gs v := by
  refine ⟨V.zero, fun k hk => ?_⟩
  have := V.and k hk
  rw [gt_nat (show k < (cGs i gs).ands.length from hk)] at this
  have this : gt v (gs[k].1 / 2) = (lv v gs[k].2.1 && lv v gs[k].2.2) := this
  rw [G.out k hk] at this
  rw [← this]
  congr 1
  omega
/-- Values of what Or, Xor and Mux make. -/
theorem made_val {i : Nat} {gs gs' : List Gate} {m : Nat} {r : Int × Int × List Gate} {f : List Bool → Bool} {g : List Gate} (M : Made (i : Int) g m r f) (G : Gs (i : Int) gs) (h : r.2.2 <+: gs) {s rw v : List Bool} (V : ValOk (cGs i gs) s rw v) : lv v r.1 = f v := M.val v ((cGs_val G V).pre h)
end SC
end Go.Proofs.Yticndofcfacopaa
end
section
/- The builder of the reference: its memory; what each of its functions does. -/
set_option linter.unusedVariables false
set_option linter.unusedSimpArgs false
namespace Go.Proofs.Yticndofcfacopaa
namespace SC
open Go.Proofs Go.Maps
attribute [local irreducible] WC WL WX WS WO OX Does DoesU Enters CV Pure thenQ blockQ retQ Wants
set_option maxRecDepth 100000
section
variable {w : World} {g : Nat} {S : Nat → Prop} {i l : Int} {gs : List Gate} {x y s : Int}
end
end SC
end Go.Proofs.Yticndofcfacopaa
end
section
/- The builder of the reference: 'and'. -/
set_option linter.unusedVariables false
set_option linter.unusedSimpArgs false
namespace Go.Proofs.Yticndofcfacopaa
namespace SC
open Go.Proofs Go.Maps
attribute [local irreducible] WC WL WX WS WO OX Does DoesU Enters CV Pure thenQ blockQ retQ Wants
set_option maxRecDepth 100000
end SC
end Go.Proofs.Yticndofcfacopaa
end
section
/- The builder of the reference: the functions around 'and'. -/
set_option linter.unusedVariables false
set_option linter.unusedSimpArgs false
namespace Go.Proofs.Yticndofcfacopaa
namespace SC
open Go.Proofs Go.Maps
attribute [local irreducible] WC WL WX WS WO OX Does DoesU Enters CV Pure thenQ blockQ retQ Wants
set_option maxRecDepth 100000
section
variable {n : Int} {gs : List Gate} {x y s : Int}
theorem AndM_ok (hx : okM n gs x) (hy : okM n gs y) : AndM n gs x y = andM n gs x y := if_pos ⟨hx, hy⟩
theorem OrM_ok (hx : okM n gs x) (hy : okM n gs y) : OrM n gs x y = orM n gs x y := if_pos ⟨hx, hy⟩
theorem XorM_ok (hx : okM n gs x) (hy : okM n gs y) : XorM n gs x y = xorM n gs x y := if_pos ⟨hx, hy⟩
theorem MuxM_ok (hs : okM n gs s) (hx : okM n gs x) (hy : okM n gs y) : MuxM n gs s x y = muxM n gs s x y := if_pos ⟨hs, hx, hy⟩
end
section
variable {w : World} {g : Nat} {S : Nat → Prop} {i l : Int} {gs : List Gate} {x y s : Int}
end
end SC
end Go.Proofs.Yticndofcfacopaa
end
section
/- Builders as entries; their calls by entries. -/
set_option linter.unusedVariables false
set_option linter.unusedSimpArgs false
namespace Go.Proofs.Yticndofcfacopaa
namespace SC
open Go.Proofs
/-- A builder of hash, with the blocks that it owns. -/
def bldX (g : Nat) (S : Nat → Prop) (i l : Int) (gs : List Gate) : EntX where
  own := S
  ok := fun w => Bld w g S i l gs
  lt := fun w ⟨v, m, H⟩ k hk => H.lt k hk
  keep := fun w w' T H hc hn => H.chg hc hn
/-- A call of a builder: what it answers, and the builder behind it. -/
def BldR (g : Nat) (i l : Int) (r : Int × Int × List Gate) (v : Value) (N : Mm) : Prop := v = .tuple #[nu r.1, nu r.2.1] ∧ ∃ S', N = [.any (bldX g S' i l r.2.2)]
theorem After.cvm {f : FuncId} {args : List Value} {w : World} {g : Nat} {S : Nat → Prop} {i l : Int} {gs : List Gate} {r : Int × Int × List Gate} (h : CV Try.prog f args w (After w g S i l r)) : CVM Try.prog f args w [.any (bldX g S i l gs)] (BldR g i l r) :=
  CV.mono h fun v w' ⟨e, S', hB, hS⟩ => by
    have ho : ∀ k, owns [.any (bldX g S i l gs)] k ↔ S k := fun k => by
      rw [owns_cons]
      exact ⟨fun h => h.elim id fun h => absurd h owns_nil, fun h => .inl h⟩
    have hB' : (Ent.any (bldX g S' i l r.2.2)).ok w' := hB
    have hC : (Ent.old w (owns [.any (bldX g S i l gs)])).ok w' := Chg.mono hS.chg fun k hk => (ho k).2 hk
    refine ⟨[.any (bldX g S' i l r.2.2)], Mem.join (.one hB') (.one hC) fun k h1 h2 => ?_, e, S', rfl⟩
    rw [owns_cons] at h1 h2
    have h1' : S' k := h1.elim id fun h => absurd h owns_nil
    have h2' : k < w.heap.size ∧ ¬ owns [.any (bldX g S i l gs)] k := h2.elim id fun h => absurd h owns_nil
    rcases hS.new k h1' with h3 | h3
    · exact h2'.2 ((ho k).2 h3)
    · omega
theorem OrG {w : World} {g : Nat} {S : Nat → Prop} {i l : Int} {gs : List Gate} {x y : Int} (hi : 0 ≤ i) (hl : 0 ≤ l) (G : Gs (i + l) gs) (hn : i + l + gs.length ≤ 16384) (hx : okM (i + l) gs x) (hy : okM (i + l) gs y) (M : Mem w [.any (bldX g S i l gs)]) :
    CVM Try.prog 40 [ptr g, num x, num y] w [.any (bldX g S i l gs)] (BldR g i l (orM (i + l) gs x y)) := by
  have := Or_cv (x := x) (y := y) (M.head : Bld w g S i l gs) hi hl (G.inv hn)
  rw [OrM_ok hx hy] at this
  exact After.cvm this
theorem XorG {w : World} {g : Nat} {S : Nat → Prop} {i l : Int} {gs : List Gate} {x y : Int} (hi : 0 ≤ i) (hl : 0 ≤ l) (G : Gs (i + l) gs) (hn : i + l + gs.length ≤ 16384) (hx : okM (i + l) gs x) (hy : okM (i + l) gs y) (M : Mem w [.any (bldX g S i l gs)]) :
    CVM Try.prog 41 [ptr g, num x, num y] w [.any (bldX g S i l gs)] (BldR g i l (xorM (i + l) gs x y)) := by
  have := Xor_cv (x := x) (y := y) (M.head : Bld w g S i l gs) hi hl (G.inv hn)
  rw [XorM_ok hx hy] at this
  exact After.cvm this
theorem MuxG {w : World} {g : Nat} {S : Nat → Prop} {i l : Int} {gs : List Gate} {s x y : Int} (hi : 0 ≤ i) (hl : 0 ≤ l) (G : Gs (i + l) gs) (hn : i + l + gs.length ≤ 16384) (hs : okM (i + l) gs s) (hx : okM (i + l) gs x) (hy : okM (i + l) gs y) (M : Mem w [.any (bldX g S i l gs)]) :
    CVM Try.prog 42 [ptr g, num s, num x, num y] w [.any (bldX g S i l gs)] (BldR g i l (muxM (i + l) gs s x y)) := by
  have := Mux_cv (s := s) (x := x) (y := y) (M.head : Bld w g S i l gs) hi hl (G.inv hn)
  rw [MuxM_ok hs hx hy] at this
  exact After.cvm this
/-- New, where the numbers are right. -/
theorem NewG {w : World} {a b : Int} (h : ¬ newBad a b) : CVN Try.prog 39 [num a, num b] w fun v N => ∃ g S', v = .tuple #[ptr g, nu 0] ∧ N = [.any (bldX g S' a b [])] :=
  CV.mono (New_ok h) fun v w' ⟨g, S', e, hB, hS⟩ => by
    have hB' : (Ent.any (bldX g S' a b [])).ok w' := hB
    have hC : (Ent.old w none_).ok w' := hS.chg
    refine ⟨[.any (bldX g S' a b [])], Mem.join (.one hB') (.one hC) fun k h1 h2 => ?_, g, S', e, rfl⟩
    rw [owns_cons] at h1 h2
    have h1' : S' k := h1.elim id fun h => absurd h owns_nil
    have h2' : k < w.heap.size ∧ ¬ none_ k := h2.elim id fun h => absurd h owns_nil
    rcases hS.new k h1' with h3 | h3
    · exact h2'.2 h3
    · omega
end SC
end Go.Proofs.Yticndofcfacopaa
end
section
/- Size and Gates of a builder, by entries. -/
set_option linter.unusedVariables false
set_option linter.unusedSimpArgs false
namespace Go.Proofs.Yticndofcfacopaa
namespace SC
open Go.Proofs
theorem one_flat (gs : List Gate) : ∀ u ∈ flat gs, u.oneCell' = true := fun u hu => by
  unfold flat at hu
  obtain ⟨g, _, hg⟩ := List.mem_flatMap.1 hu
  unfold gcells at hg
  simp only [List.mem_cons, List.not_mem_nil, or_false] at hg
  rcases hg with rfl | rfl | rfl <;> rfl
theorem SizeG {Γ : Mm} {w : World} {g : Nat} {S : Nat → Prop} {i l : Int} {gs : List Gate} (hi : In Γ (.any (bldX g S i l gs))) (M : Mem w Γ) : CVN Try.prog 43 [ptr g] w fun v N => N = [] ∧ v = nu gs.length := by
  obtain ⟨v, m, H⟩ : Bld w g S i l gs := hi.ok M
  obtain ⟨A, c, rfl⟩ := row_form H.row
  exact CVN.of (Size_cv H.head) fun v w' ⟨e1, e2⟩ => ⟨by rw [e2]; exact Chg.refl w none_, e1⟩
theorem GatesG {Γ : Mm} {w : World} {g : Nat} {S : Nat → Prop} {i l : Int} {gs : List Gate} (hi : In Γ (.any (bldX g S i l gs))) (hn : gs.length ≤ 16384) (M : Mem w Γ) : CVN Try.prog 44 [ptr g] w fun v N => ∃ A c, v = .slice A gs.length c ∧ N = [.vec tcells 3 57 A c gs] := by
  obtain ⟨v, m, H⟩ : Bld w g S i l gs := hi.ok M
  refine CV.mono (Gates_cv H.head H.row hn (one_flat gs)) fun v w' ⟨h1, hc⟩ => ?_
  obtain ⟨A, c, rfl⟩ := row_form (ownsRow_low h1)
  have o : (Ent.vec tcells 3 57 A c gs).ok w' := ownsRow_low h1
  refine ⟨_, Mem.join (.one o) (.one hc) fun b ⟨E, hE, g1⟩ ⟨F, hF, g2⟩ => ?_, A, c, rfl, rfl⟩
  simp only [List.mem_singleton] at hE hF
  subst hE hF
  have := (World.ownsRow.lt h1 b g1).1
  have := g2.1
  omega
end SC
end Go.Proofs.Yticndofcfacopaa
end
section
/- trestlelaw09: works, by entries. -/
set_option linter.unusedVariables false
set_option linter.unusedSimpArgs false
namespace Go.Proofs.Yticndofcfacopaa
namespace SC
open Go.Proofs
theorem AndG {w : World} {g : Nat} {S : Nat → Prop} {i l : Int} {gs : List Gate} {x y : Int} (hi : 0 ≤ i) (hl : 0 ≤ l) (G : Gs (i + l) gs) (hn : i + l + gs.length ≤ 16384) (hx : okM (i + l) gs x) (hy : okM (i + l) gs y) (M : Mem w [.any (bldX g S i l gs)]) :
    CVM Try.prog 79 [ptr g, num x, num y] w [.any (bldX g S i l gs)] (BldR g i l (andM (i + l) gs x y)) := by
  have := And_cv (x := x) (y := y) (M.head : Bld w g S i l gs) hi hl (G.inv hn)
  rw [AndM_ok hx hy] at this
  exact After.cvm this
attribute [local irreducible] WC WL WX WS WO OX Does DoesU Enters CV Pure thenQ blockQ retQ Wants retQC GC GL GS GX RdB thenG blockG retG Rd At gt CVN CVM
set_option maxRecDepth 100000
theorem works09_cv {w : World} : CVN Try.prog 38 [] w fun v N => N = [] ∧ v = .bool true := by
  have G0 : Gs 2 [] := Gs.nil (by decide)
  have M1 := andM_made (x := 4) (y := 2) G0 (by unfold okM; decide) (by unfold okM; decide) (by decide)
  have e1 : andM 2 [] 4 2 = (6, 0, [(6, 4, 2)]) := by decide
  rw [e1] at M1
  have G1 : Gs 2 [(6, 4, 2)] := M1.good
  have M2 := xorM_made (x := 2) (y := 4) G1 (by unfold okM; decide) (by unfold okM; decide) (by decide)
  have e2 : xorM 2 [(6, 4, 2)] 2 4 = (10, 0, [(6, 4, 2), (8, 5, 3), (10, 9, 7)]) := by decide
  rw [e2] at M2
  have G2 : Gs 2 [(6, 4, 2), (8, 5, 3), (10, 9, 7)] := M2.good
  have e3 : orM 2 [(6, 4, 2), (8, 5, 3), (10, 9, 7)] 2 4 = (9, 0, [(6, 4, 2), (8, 5, 3), (10, 9, 7)]) := by decide
  have hN : ∀ w', CVN Try.prog 39 [nu 2, nu 0] w' _ := fun w' => NewG (by unfold newBad; decide)
  have hA : ∀ g S w', Mem w' [.any (bldX g S 2 0 [])] → CVM Try.prog 79 [ptr g, nu 4, nu 2] w' [.any (bldX g S 2 0 [])] (BldR g 2 0 (6, 0, [(6, 4, 2)])) := fun g S w' M => by
    have := AndG (x := 4) (y := 2) (by decide) (by decide) G0 (by decide) (by unfold okM; decide) (by unfold okM; decide) M
    rwa [show (2 : Int) + 0 = 2 from rfl, e1] at this
  have hX : ∀ g S w', Mem w' [.any (bldX g S 2 0 [(6, 4, 2)])] → CVM Try.prog 41 [ptr g, nu 2, nu 4] w' [.any (bldX g S 2 0 [(6, 4, 2)])] (BldR g 2 0 (10, 0, [(6, 4, 2), (8, 5, 3), (10, 9, 7)])) := fun g S w' M => by
    have := XorG (x := 2) (y := 4) (by decide) (by decide) G1 (by decide) (by unfold okM; decide) (by unfold okM; decide) M
    rwa [show (2 : Int) + 0 = 2 from rfl, e2] at this
  have hO : ∀ g S w', Mem w' [.any (bldX g S 2 0 [(6, 4, 2), (8, 5, 3), (10, 9, 7)])] → CVM Try.prog 40 [ptr g, nu 2, nu 4] w' [.any (bldX g S 2 0 [(6, 4, 2), (8, 5, 3), (10, 9, 7)])] (BldR g 2 0 (9, 0, [(6, 4, 2), (8, 5, 3), (10, 9, 7)])) := fun g S w' M => by
    have := OrG (x := 2) (y := 4) (by decide) (by decide) G2 (by decide) (by unfold okM; decide) (by unfold okM; decide) M
    rwa [show (2 : Int) + 0 = 2 from rfl, e3] at this
  have hS : ∀ Γ g S, In Γ (.any (bldX g S 2 0 [(6, 4, 2), (8, 5, 3), (10, 9, 7)])) → ∀ w', Mem w' Γ → CVN Try.prog 43 [ptr g] w' fun v N => N = [] ∧ v = nu 3 := fun Γ g S hi w' M => SizeG hi M
  refine CVN.enter 61 [0] Try.func38 rfl rfl rfl (by decide) rfl ?_
  repeat' (first
      | (simp only [Option.isNone_some])
      | (apply G_call; eq_refl; eq_refl; (exact fun w' _ => hN w'); rintro _ _ ⟨g, S, rfl, rfl⟩)
      | (apply G_callM2; exact wr_p; eq_refl; (exact hA g S); (repeat first | exact Rems.nil | (apply Rems.cons; (focus ((repeat first | exact Rem.here | apply Rem.there | apply Rem.skip); done)))); rintro _ _ ⟨rfl, S1, rfl⟩)
      | (apply G_callM2; exact wr_p; eq_refl; (exact hX g S1); (repeat first | exact Rems.nil | (apply Rems.cons; (focus ((repeat first | exact Rem.here | apply Rem.there | apply Rem.skip); done)))); rintro _ _ ⟨rfl, S2, rfl⟩)
      | (apply G_callM2; exact wr_p; eq_refl; (exact hO g S2); (repeat first | exact Rems.nil | (apply Rems.cons; (focus ((repeat first | exact Rem.here | apply Rem.there | apply Rem.skip); done)))); rintro _ _ ⟨rfl, S3, rfl⟩)
      | (apply G_call; eq_refl; eq_refl; (apply hS; (repeat first | exact In.here | apply In.there | apply In.skip)); rintro _ _ ⟨rfl, rfl⟩)
      | (apply GC_seqK; intro K hK)
      | (apply hK; clear hK K)
      | (clear hK K; apply hK; clear hK K)
      | (clear hK K; clear hK K; apply hK; clear hK K)
      | (clear hK K; clear hK K; clear hK K; apply hK; clear hK K)
      | (apply GC_block)
      | (apply GC_region)
      | (apply GL_nil)
      | (apply thenG_normal)
      | (apply thenG_ret)
      | (apply thenG_exit)
      | (apply blockG_hit)
      | (apply blockG_miss; eq_refl)
      | (apply blockG_ret)
      | (apply blockG_normal)
      | (apply GC_ret)
      | (apply GC_exit)
      | (apply GC_skip)
      | (apply GC_if_true; eq_refl)
      | (apply GC_if_false; eq_refl)
      | (apply GC_ifD; eq_refl; all_goals intro _)
      | (apply GC_if; eq_refl; all_goals intro _)
      | (apply retG1; eq_refl)
      | (apply retG2; eq_refl; eq_refl)
      | (apply retG3; eq_refl; eq_refl; eq_refl)
      | (apply retG0)
      | (apply retG0n)
      | (apply GL_on; eq_refl; eq_refl)
      | (apply GL_off; eq_refl; eq_refl)
      | (apply GL_offU; eq_refl; eq_refl; eq_refl)
      | (apply GL_split; eq_refl; eq_refl; all_goals intro _)
      | (apply G_pv; eq_refl; first | exact trivial | omega)
      | (apply G_cmpT; eq_refl; eq_refl; omega)
      | (apply G_cmpF; eq_refl; eq_refl; omega)
      | (apply G_cmp; eq_refl; eq_refl; all_goals intro _)
      | (apply G_eqB; eq_refl; eq_refl)
      | (apply G_neqB; eq_refl; eq_refl)
      | (apply G_eqP; eq_refl; eq_refl)
      | (apply G_eqL; eq_refl; eq_refl)
      | (apply G_pickAnd; eq_refl; eq_refl)
      | (apply G_pickOr; eq_refl; eq_refl))
  exact ⟨[], (by repeat first | exact Wk.nil | exact Wk.refl | (apply Wk.cons; (focus ((repeat first | exact Rem.here | apply Rem.there | apply Rem.skip); done))) | apply Wk.nilv | apply Wk.last | apply Wk.drop), rfl, by first | trivial | rfl⟩
end SC
end Go.Proofs.Yticndofcfacopaa
end
section
/- trestlelaw09: lit; the circuit of HashTables in memory. -/
set_option linter.unusedVariables false
set_option linter.unusedSimpArgs false
namespace Go.Proofs.Yticndofcfacopaa
namespace SC
open Go.Proofs
attribute [local irreducible] WC WL WX WS WO OX Does DoesU Enters CV Pure thenQ blockQ retQ Wants retQC GC GL GS GX RdB thenG blockG retG Rd At gt CVN CVM
set_option maxRecDepth 100000
theorem lit9_cv {w : World} {A : Option Addr} {c : Nat} {v : List Bool} {l : Int} (hA : RowA w booc 1 A v) (hl : hasL v l) : CVN Try.prog 45 [.slice A v.length c, nu l] w fun r N => N = [] ∧ r = .bool (lv v l) := by
  obtain ⟨h0, h1, h2⟩ := hl
  refine CVN.enter 14 [4] Try.func45 rfl rfl rfl (by decide) rfl ?_
  repeat' (first
      | (apply GC_seqK; intro K hK)
      | (apply hK; clear hK K)
      | (clear hK K; apply hK; clear hK K)
      | (clear hK K; clear hK K; apply hK; clear hK K)
      | (clear hK K; clear hK K; clear hK K; apply hK; clear hK K)
      | (apply GC_block)
      | (apply GC_region)
      | (apply GL_nil)
      | (apply thenG_normal)
      | (apply thenG_ret)
      | (apply thenG_exit)
      | (apply blockG_hit)
      | (apply blockG_miss; eq_refl)
      | (apply blockG_ret)
      | (apply blockG_normal)
      | (apply GC_ret)
      | (apply GC_exit)
      | (apply GC_skip)
      | (apply GC_if_true; eq_refl)
      | (apply GC_if_false; eq_refl)
      | (apply GC_ifD; eq_refl; all_goals intro _)
      | (apply GC_if; eq_refl; all_goals intro _)
      | (apply retG1; eq_refl)
      | (apply retG2; eq_refl; eq_refl)
      | (apply retG3; eq_refl; eq_refl; eq_refl)
      | (apply retG0)
      | (apply retG0n)
      | (apply GL_on; eq_refl; eq_refl)
      | (apply G_pv; eq_refl; first | exact trivial | omega)
      | (apply G_ld; eq_refl; (repeat first | exact In.here | apply In.there | apply In.skip); eq_refl)
      | (apply G_ldW; eq_refl; (repeat first | exact In.here | apply In.there | apply In.skip); eq_refl)
      | (apply G_ldO; eq_refl; (repeat first | exact In.here | apply In.there | apply In.skip); assumption; eq_refl)
      | (apply G_ldR; eq_refl; (apply RdB.oldR; (repeat first | exact In.here | apply In.there | apply In.skip); assumption); eq_refl)
      | (apply G_ldOW; eq_refl; (repeat first | exact In.here | apply In.there | apply In.skip); assumption; eq_refl)
      | (apply G_rd; eq_refl; (first | (apply Rd.own; (repeat first | exact In.here | apply In.there | apply In.skip); infer_instance) | (apply Rd.old; (repeat first | exact In.here | apply In.there | apply In.skip); assumption) | (apply Rd.oldR; (repeat first | exact In.here | apply In.there | apply In.skip); assumption) | exact Rd.nil | assumption); (case ih => infer_instance); omega; omega; eq_refl)
      | (apply G_rdF; eq_refl; (first | (apply Rd.own; (repeat first | exact In.here | apply In.there | apply In.skip); infer_instance) | (apply Rd.old; (repeat first | exact In.here | apply In.there | apply In.skip); assumption) | (apply Rd.oldR; (repeat first | exact In.here | apply In.there | apply In.skip); assumption) | exact Rd.nil | assumption); (case ih => infer_instance); omega; omega; eq_refl)
      | (apply G_rdW; eq_refl; (first | (apply Rd.own; (repeat first | exact In.here | apply In.there | apply In.skip); infer_instance) | (apply Rd.old; (repeat first | exact In.here | apply In.there | apply In.skip); assumption) | (apply Rd.oldR; (repeat first | exact In.here | apply In.there | apply In.skip); assumption) | exact Rd.nil | assumption); infer_instance; (case ih => infer_instance); omega; omega)
      | (apply G_cmpT; eq_refl; eq_refl; omega)
      | (apply G_cmpF; eq_refl; eq_refl; omega)
      | (apply G_cmpD; eq_refl; eq_refl; (case hd => infer_instance))
      | (apply G_cmp; eq_refl; eq_refl; all_goals intro _)
      | (apply G_ix; eq_refl; eq_refl; (first | (apply Rd.own; (repeat first | exact In.here | apply In.there | apply In.skip); infer_instance) | (apply Rd.old; (repeat first | exact In.here | apply In.there | apply In.skip); assumption) | (apply Rd.oldR; (repeat first | exact In.here | apply In.there | apply In.skip); assumption) | exact Rd.nil | assumption); (first | eq_refl | omega); omega; omega)
      | (apply G_ixA; eq_refl; eq_refl; omega; omega)
      | (apply G_eqB; eq_refl; eq_refl)
      | (apply G_neqB; eq_refl; eq_refl)
      | (apply G_eqP; eq_refl; eq_refl)
      | (apply G_eqL; eq_refl; eq_refl))
  exact ⟨[], (by repeat first | exact Wk.nil | exact Wk.refl | (apply Wk.cons; (focus ((repeat first | exact Rem.here | apply Rem.there | apply Rem.skip); done))) | apply Wk.nilv | apply Wk.last | apply Wk.drop), rfl, rfl⟩
end SC
end Go.Proofs.Yticndofcfacopaa
end
section
/- HashTables: the circuit in memory. -/
set_option linter.unusedVariables false
set_option linter.unusedSimpArgs false
namespace Go.Proofs.Yticndofcfacopaa
namespace SC
open Go.Proofs
def hGs (a : Nat) (A : Option Addr) (k : Nat) : Hd := fun i => match i with
  | 1 => (some ⟨a, 0, none⟩, 3)
  | 8 => (A, k)
  | _ => (none, 0)
theorem cGs_sane {gs : List Gate} (h : gs.length ≤ 16384) : (cGs 3 gs).Sane := ⟨by simp [cGs], by simp [cGs], by simp [cGs], by simp [cGs], by simp [cGs], by simp [cGs]; omega⟩
theorem cGs_fits {gs : List Gate} (h : gs.length ≤ 16384) : (cGs 3 gs).Fits := ⟨by simp [cGs], by simp [cGs], by simp [cGs], by simp [cGs], by simp [cGs], by simp [cGs], by simp [cGs], by simp [cGs], by simp [cGs]; omega, by simp [cGs], by simp [cGs]⟩
theorem cGs_in3 (gs : List Gate) : (cGs 3 gs).inputs = [2, 4, 6] := rfl
theorem cGs_at {w : World} {gs : List Gate} {a k : Nat} {A : Option Addr} {js : Hd} (ha : Blk w a 3 [nu 2, nu 4, nu 6]) (hb : RowA w tcells 3 A gs) : CirAt w (cGs 3 gs) (hGs a A k) js :=
  ⟨by rw [cGs_in3]; exact RowA.blk (l := [2, 4, 6]) ilen ha, RowA.emp, RowA.emp, RowA.emp, RowA.emp, fun k hk => absurd hk (Nat.not_lt_zero _), fun k hk => absurd hk (Nat.not_lt_zero _), RowA.emp, hb, RowA.emp, RowA.emp⟩
theorem cGs_okay {gs : List Gate} (G : Gs 3 gs) (h : 3 + gs.length ≤ 16384) : (cGs 3 gs).Okay := ⟨by simp [cGs, Circ.lens]; omega, by simp [cGs], by simp [cGs], (by
  intro x hx
  obtain ⟨k, hk, rfl⟩ := List.mem_iff_getElem.1 (show x ∈ gs from (by simpa [cGs] using hx))
  have := G.out k hk
  have := G.low k hk
  simp [TriFits, fit64, fits]
  omega), by simp [cGs]⟩
end SC
end Go.Proofs.Yticndofcfacopaa
end
section
/- The gates on which literals hang: the plain law. -/
set_option linter.unusedVariables false
set_option linter.unusedSimpArgs false
namespace Go.Proofs.Yticndofcfacopaa
namespace SC
open Go.Proofs
end SC
end Go.Proofs.Yticndofcfacopaa
end
section
/- trestleref10: lits, spread within a step, Inputs. -/
set_option linter.unusedVariables false
set_option linter.unusedSimpArgs false
namespace Go.Proofs.Yticndofcfacopaa
namespace SC
open Go.Proofs
theorem Upd.left {Θ Θ' Γ : Mm} {E F : Ent} (h : Upd Θ E F Θ') : Upd (Θ ++ Γ) E F (Θ' ++ Γ) := by
  induction h with
  | here => exact .here
  | there _ ih => exact .there ih
section
variable {P : Program} {n : Nat} {all : List Oper} {K : Env → Mm → Prop} {A : List Fl} {Θ Θ' C : Mm} {r : List PStep} {e : Env} {Γ Γ' : Mm} {j : Nat} {d : Option Tmp} {ty t t0 : TypeId} {x y : Operand}
end
attribute [local irreducible] WC WL WX WS WO OX Does DoesU Enters CV Pure thenQ blockQ retQ Wants retQC GC GL GS GX RdB thenG blockG retG Rd At gt CVN CVM
set_option maxRecDepth 100000
end SC
end Go.Proofs.Yticndofcfacopaa
end
section
/- trestleref15: Cone. -/
set_option linter.unusedVariables false
set_option linter.unusedSimpArgs false
namespace Go.Proofs.Yticndofcfacopaa
namespace SC
open Go.Proofs
attribute [local irreducible] WC WL WX WS WO OX Does DoesU Enters CV Pure thenQ blockQ retQ Wants retQC GC GL GS GX RdB thenG blockG retG Rd At gt CVN CVM
set_option maxRecDepth 100000
end SC
end Go.Proofs.Yticndofcfacopaa
end
section
/- encode: Cone; Lit of both. -/
set_option linter.unusedVariables false
set_option linter.unusedSimpArgs false
namespace Go.Proofs.Yticndofcfacopaa
namespace SC
open Go.Proofs
attribute [local irreducible] WC WL WX WS WO OX Does DoesU Enters CV Pure thenQ blockQ retQ Wants retQC GC GL GS GX RdB thenG blockG retG Rd At gt CVN CVM
set_option maxRecDepth 100000
end SC
end Go.Proofs.Yticndofcfacopaa
end
section
/- encode: Cone. -/
set_option linter.unusedVariables false
set_option linter.unusedSimpArgs false
namespace Go.Proofs.Yticndofcfacopaa
namespace SC
open Go.Proofs
attribute [local irreducible] WC WL WX WS WO OX Does DoesU Enters CV Pure thenQ blockQ retQ Wants retQC GC GL GS GX RdB thenG blockG retG Rd At gt CVN CVM
set_option maxRecDepth 100000
end SC
end Go.Proofs.Yticndofcfacopaa
end
section
/- trestlelaw15: EncodeGates: the walk; numbers that come in. -/
set_option linter.unusedVariables false
set_option linter.unusedSimpArgs false
namespace Go.Proofs.Yticndofcfacopaa
namespace SC
open Go.Proofs
attribute [local irreducible] WC WL WX WS WO OX Does DoesU Enters CV Pure thenQ blockQ retQ Wants retQC GC GL GS GX RdB thenG blockG retG Rd At gt CVN CVM
attribute [local irreducible] lentX bun
set_option maxRecDepth 100000
end SC
end Go.Proofs.Yticndofcfacopaa
end
section
/- HashTables: the values of the circuit. -/
set_option linter.unusedVariables false
set_option linter.unusedSimpArgs false
namespace Go.Proofs.Yticndofcfacopaa
namespace SC
open Go.Proofs
theorem cGs_inw {w : World} {gs : List Gate} {a k : Nat} {A : Option Addr} {js : Hd} (G : Gs 3 gs) (h : 3 + gs.length ≤ 16384) (ha : Blk w a 3 [nu 2, nu 4, nu 6]) (hb : RowA w tcells 3 A gs) : CirIn w (cGs 3 gs) (hGs a A k) js := ⟨cGs_at ha hb, cGs_sane (by omega), cGs_okay G h, cGs_fits (by omega)⟩
/-- sim.Values of it: the values of a state of no latches and a row of three. -/
theorem cGs_values {w : World} {gs : List Gate} {a k k2 k3 : Nat} {A T : Option Addr} {r : List Bool} (G : Gs 3 gs) (h : 3 + gs.length ≤ 16384) (ha : Blk w a 3 [nu 2, nu 4, nu 6]) (hb : RowA w tcells 3 A gs) (hr : r.length = 3) (hT : RowA w booc 1 T r) :
    CVN Try.prog 31 [.agg (ccells (cGs 3 gs) (hGs a A k)).toArray, .slice none 0 0, .slice T 3 k3] w fun v N => ∃ (u : List Bool) (B : Option Addr) (kB : Nat), v = .tuple #[.slice B u.length kB, nu 0] ∧ N = [.vec booc 1 4 B kB u] ∧ u.length = 4 + gs.length ∧ ValOk (cGs 3 gs) [] r u := by
  have Q : SeqOk (cGs 3 gs) := cGs_seq (i := 3) G (by omega)
  have hz : stepE (cGs 3 gs) [] r = 0 := stepE_ok (by rw [Q.look]) rfl (by rw [hr]; rfl)
  have V := val_ok Q.right [] r
  have := ValuesP_cv (k2 := 0) (k3 := k3) (s := []) (r := r) (S := none) (T := T) (cGs_inw (k := k) (js := hNil) G h ha hb) RowA.emp hT
  rw [hr] at this
  refine this.mono ?_
  rintro v N ⟨B, kB, rfl, rfl⟩
  have e0 : valsM (cGs 3 gs) [] r = valM (cGs 3 gs) [] r := by unfold valsM; rw [if_pos hz]
  rw [e0, hz]
  exact ⟨_, B, kB, rfl, rfl, by rw [V.len]; show ((3 + gs.length : Nat) + 1 : Int).toNat = _; omega, V⟩
end SC
end Go.Proofs.Yticndofcfacopaa
end
section
/- trestlelaw09: HashTables: the walk. (Begun.) -/
set_option linter.unusedVariables false
set_option linter.unusedSimpArgs false
namespace Go.Proofs.Yticndofcfacopaa
namespace SC
open Go.Proofs
attribute [local irreducible] WC WL WX WS WO OX Does DoesU Enters CV Pure thenQ blockQ retQ Wants retQC GC GL GS GX RdB thenG blockG retG Rd At gt CVN CVM
attribute [local irreducible] bldX
set_option maxRecDepth 100000
theorem hashTables_cv {w : World} {s x y : Int} : CVN Try.prog 9 [nu s, nu x, nu y] w fun v N => N = [] ∧ v = .bool true := by
  have hW : ∀ w', CVN Try.prog 38 [] w' _ := fun w' => works09_cv
  have hN : ∀ w', CVN Try.prog 39 [nu 3, nu 0] w' _ := fun w' => NewG (by unfold newBad; decide)
  obtain ⟨s', hs⟩ : ∃ z, z = s % 18446744073709551616 % 8 := ⟨_, rfl⟩
  obtain ⟨x', hx⟩ : ∃ z, z = x % 18446744073709551616 % 8 := ⟨_, rfl⟩
  obtain ⟨y', hy⟩ : ∃ z, z = y % 18446744073709551616 % 8 := ⟨_, rfl⟩
  have hs2 : 0 ≤ s' ∧ s' ≤ 7 := by omega
  have hx2 : 0 ≤ x' ∧ x' ≤ 7 := by omega
  have hy2 : 0 ≤ y' ∧ y' ≤ 7 := by omega
  have okm : ∀ {gs : List Gate} {z : Int}, 0 ≤ z ∧ z ≤ 7 → okM 3 gs z := fun h => by unfold okM; omega
  have M1 := orM_made (Gs.nil (n := 3) (by decide)) (okm hx2) (okm hy2) (by decide)
  have l1 := M1.len
  have M2 := xorM_made M1.good (okm hx2) (okm hy2) (by simp at l1; omega)
  have l2 := M2.len
  have M3 := muxM_made M2.good (okm hs2) (okm hx2) (okm hy2) (by simp at l1; omega)
  have l3 := M3.len
  have hO : ∀ g S w', Mem w' [.any (bldX g S 3 0 [])] → CVM Try.prog 40 [ptr g, nu x', nu y'] w' [.any (bldX g S 3 0 [])] fun v N => v = .tuple #[nu (orM 3 [] x' y').1, nu 0] ∧ ∃ S', N = [.any (bldX g S' 3 0 (orM 3 [] x' y').2.2)] := fun g S w' M => by
    have := OrG (x := x') (y := y') (by decide) (by decide) (Gs.nil (by decide)) (by decide) (okm hx2) (okm hy2) M
    unfold BldR at this
    rwa [show (3 : Int) + 0 = 3 from rfl, M1.err] at this
  generalize orM 3 [] x' y' = r1 at *
  have hX : ∀ g S w', Mem w' [.any (bldX g S 3 0 r1.2.2)] → CVM Try.prog 41 [ptr g, nu x', nu y'] w' [.any (bldX g S 3 0 r1.2.2)] fun v N => v = .tuple #[nu (xorM 3 r1.2.2 x' y').1, nu 0] ∧ ∃ S', N = [.any (bldX g S' 3 0 (xorM 3 r1.2.2 x' y').2.2)] := fun g S w' M => by
    have := XorG (x := x') (y := y') (by decide) (by decide) M1.good (by simp at l1; omega) (okm hx2) (okm hy2) M
    unfold BldR at this
    rwa [show (3 : Int) + 0 = 3 from rfl, M2.err] at this
  generalize xorM 3 r1.2.2 x' y' = r2 at *
  have hX3 : ∀ g S w', Mem w' [.any (bldX g S 3 0 r2.2.2)] → CVM Try.prog 42 [ptr g, nu s', nu x', nu y'] w' [.any (bldX g S 3 0 r2.2.2)] fun v N => v = .tuple #[nu (muxM 3 r2.2.2 s' x' y').1, nu 0] ∧ ∃ S', N = [.any (bldX g S' 3 0 (muxM 3 r2.2.2 s' x' y').2.2)] := fun g S w' M => by
    have := MuxG (s := s') (x := x') (y := y') (by decide) (by decide) M2.good (by simp at l1; omega) (okm hs2) (okm hx2) (okm hy2) M
    unfold BldR at this
    rwa [show (3 : Int) + 0 = 3 from rfl, M3.err] at this
  generalize muxM 3 r2.2.2 s' x' y' = r3 at *
  have hS : ∀ Γ g S, In Γ (.any (bldX g S 3 0 r3.2.2)) → ∀ w', Mem w' Γ → CVN Try.prog 43 [ptr g] w' _ := fun Γ g S hi w' M => SizeG hi M
  have hGt : ∀ Γ g S, In Γ (.any (bldX g S 3 0 r3.2.2)) → ∀ w', Mem w' Γ → CVN Try.prog 44 [ptr g] w' _ := fun Γ g S hi w' M => GatesG hi (by simp at l1; omega) M
  have hlen : r3.2.2.length ≤ 7 := by simp at l1; omega
  refine CVN.enter 142 [6] Try.func9 rfl rfl rfl (by decide) rfl ?_
  repeat' (first
      | (simp only [Option.isNone_some])
      | (apply G_call; eq_refl; eq_refl; (exact fun w' _ => hW w'); rintro _ _ ⟨rfl, rfl⟩)
      | (apply G_call; eq_refl; eq_refl; (exact fun w' _ => hN w'); rintro _ _ ⟨g, S, rfl, rfl⟩)
      | (apply G_callM2; exact wr_p; eq_refl; (exact hO g S); (repeat first | exact Rems.nil | (apply Rems.cons; (focus ((repeat first | exact Rem.here | apply Rem.there | apply Rem.skip); done)))); rintro _ _ ⟨rfl, S1, rfl⟩)
      | (apply G_callM2; exact wr_p; eq_refl; (exact hX g S1); (repeat first | exact Rems.nil | (apply Rems.cons; (focus ((repeat first | exact Rem.here | apply Rem.there | apply Rem.skip); done)))); rintro _ _ ⟨rfl, S2, rfl⟩)
      | (apply G_callM2; exact wr_p; eq_refl; (exact hX3 g S2); (repeat first | exact Rems.nil | (apply Rems.cons; (focus ((repeat first | exact Rem.here | apply Rem.there | apply Rem.skip); done)))); rintro _ _ ⟨rfl, S3, rfl⟩)
      | (apply G_call; eq_refl; eq_refl; (apply hS; (repeat first | exact In.here | apply In.there | apply In.skip)); rintro _ _ ⟨rfl, rfl⟩)
      | (apply G_call; eq_refl; eq_refl; (apply hGt; (repeat first | exact In.here | apply In.there | apply In.skip)); rintro _ _ ⟨AG, kG, rfl, rfl⟩)
      | (apply G_toU; eq_refl)
      | (apply G_remU; eq_refl; eq_refl; omega; omega)
      | (apply G_ofU; eq_refl; exact hs.symm; omega; omega)
      | (apply G_ofU; eq_refl; exact hx.symm; omega; omega)
      | (apply G_ofU; eq_refl; exact hy.symm; omega; omega)
      | (apply GC_seqK; intro K hK)
      | (apply hK; clear hK K)
      | (clear hK K; apply hK; clear hK K)
      | (clear hK K; clear hK K; apply hK; clear hK K)
      | (clear hK K; clear hK K; clear hK K; apply hK; clear hK K)
      | (apply GC_block)
      | (apply GC_region)
      | (apply GL_nil)
      | (apply thenG_normal)
      | (apply thenG_ret)
      | (apply thenG_exit)
      | (apply blockG_hit)
      | (apply blockG_miss; eq_refl)
      | (apply blockG_ret)
      | (apply blockG_normal)
      | (apply GC_ret)
      | (apply GC_exit)
      | (apply GC_skip)
      | (apply GC_if_true; eq_refl)
      | (apply GC_if_false; eq_refl)
      | (apply GC_ifD; eq_refl; all_goals intro _)
      | (apply GC_if; eq_refl; all_goals intro _)
      | (apply retG1; eq_refl)
      | (apply retG2; eq_refl; eq_refl)
      | (apply retG3; eq_refl; eq_refl; eq_refl)
      | (apply retG0)
      | (apply retG0n)
      | (apply GL_on; eq_refl; eq_refl)
      | (apply GL_off; eq_refl; eq_refl)
      | (apply GL_offU; eq_refl; eq_refl; eq_refl)
      | (apply GL_split; eq_refl; eq_refl; all_goals intro _)
      | (apply G_pv; eq_refl; first | exact trivial | omega)
      | (apply G_ld; eq_refl; (repeat first | exact In.here | apply In.there | apply In.skip); eq_refl)
      | (apply G_ldW; eq_refl; (repeat first | exact In.here | apply In.there | apply In.skip); eq_refl)
      | (apply G_ldO; eq_refl; (repeat first | exact In.here | apply In.there | apply In.skip); assumption; eq_refl)
      | (apply G_ldR; eq_refl; (apply RdB.oldR; (repeat first | exact In.here | apply In.there | apply In.skip); assumption); eq_refl)
      | (apply G_ldOW; eq_refl; (repeat first | exact In.here | apply In.there | apply In.skip); assumption; eq_refl)
      | (apply G_rd; eq_refl; (first | (apply Rd.own; (repeat first | exact In.here | apply In.there | apply In.skip); infer_instance) | (apply Rd.old; (repeat first | exact In.here | apply In.there | apply In.skip); assumption) | (apply Rd.oldR; (repeat first | exact In.here | apply In.there | apply In.skip); assumption) | exact Rd.nil | assumption); (case ih => infer_instance); omega; omega; eq_refl)
      | (apply G_rdF; eq_refl; (first | (apply Rd.own; (repeat first | exact In.here | apply In.there | apply In.skip); infer_instance) | (apply Rd.old; (repeat first | exact In.here | apply In.there | apply In.skip); assumption) | (apply Rd.oldR; (repeat first | exact In.here | apply In.there | apply In.skip); assumption) | exact Rd.nil | assumption); (case ih => infer_instance); omega; omega; eq_refl)
      | (apply G_rdW; eq_refl; (first | (apply Rd.own; (repeat first | exact In.here | apply In.there | apply In.skip); infer_instance) | (apply Rd.old; (repeat first | exact In.here | apply In.there | apply In.skip); assumption) | (apply Rd.oldR; (repeat first | exact In.here | apply In.there | apply In.skip); assumption) | exact Rd.nil | assumption); infer_instance; (case ih => infer_instance); omega; omega)
      | (apply G_cmpT; eq_refl; eq_refl; omega)
      | (apply G_cmpF; eq_refl; eq_refl; omega)
      | (apply G_cmp; eq_refl; eq_refl; all_goals intro _)
      | (apply G_eqB; eq_refl; eq_refl)
      | (apply G_neqB; eq_refl; eq_refl)
      | (apply G_eqP; eq_refl; eq_refl)
      | (apply G_eqL; eq_refl; eq_refl)
      | (apply G_pickAnd; eq_refl; eq_refl)
      | (apply G_pickOr; eq_refl; eq_refl)
      | (apply G_alloc; eq_refl; intro _)
      | (apply G_stV; (first | exact wr_p | kernel_rfl); eq_refl; eq_refl; eq_refl; eq_refl; (repeat first | exact Upd.here | apply Upd.there | apply Upd.skip); infer_instance; infer_instance; eq_refl; omega; (try simp only [List.length_set, List.length_append, List.length_replicate]); omega)
      | (apply G_st; (first | exact wr_p | kernel_rfl); eq_refl; eq_refl; eq_refl; eq_refl; (repeat first | exact Upd.here | apply Upd.there | apply Upd.skip); (first | decide | exact Nat.le_of_ble_eq_true rfl))
      | (apply G_stW; (first | exact wr_p | kernel_rfl); eq_refl; eq_refl; eq_refl; eq_refl; (repeat first | exact Upd.here | apply Upd.there | apply Upd.skip); eq_refl)
      | (apply GX_pure; apply build29_0_1_8 <;> eq_refl)
      | (apply G_new (fun b => .slice (some ⟨b, 0, none⟩) 3 3); eq_refl; (intro _; apply buildS22_3 <;> eq_refl); intro _)
      | (apply G_new (fun b => .slice (some ⟨b, 0, none⟩) 3 3); eq_refl; (intro _; apply buildS30_3 <;> eq_refl); intro _))
  rename_i bI bC
  have hV : ∀ Γ bT (β1 β2 β3 : Bool), In Γ (.box bI 3 [nu 2, nu 4, nu 6]) → In Γ (.vec tcells 3 57 AG kG r3.2.2) → In Γ (.box bT 4 [.bool β1, .bool β2, .bool β3]) → ∀ w', Mem w' Γ → CVN Try.prog 31 [.agg #[nu (3 + r3.2.2.length), .slice (some ⟨bI, 0, none⟩) 3 3, .slice none 0 0, .slice none 0 0, .slice none 0 0, .slice none 0 0, .slice none 0 0, .slice none 0 0, .slice AG r3.2.2.length kG, .slice none 0 0, .slice none 0 0], .slice none 0 0, .slice (some ⟨bT, 0, none⟩) 3 3] w' fun v N => ∃ (u : List Bool) (B : Option Addr) (kB : Nat), v = .tuple #[.slice B u.length kB, nu 0] ∧ N = [.vec booc 1 4 B kB u] ∧ u.length = 4 + r3.2.2.length ∧ ValOk (cGs 3 r3.2.2) [] [β1, β2, β3] u := fun Γ bT β1 β2 β3 h1 h2 h3 w' M =>
    cGs_values (k := kG) (k2 := 0) (k3 := 3) M3.good (by omega) (h1.ok M) (h2.row M) rfl (RowA.blk (enc := booc) (sz := 1) (l := [β1, β2, β3]) (fun _ => rfl) (h3.ok M))
  refine GC_loopK [0, 1, 2, 9, 11, 13, 15] (fun i : Nat => [(16, nu i)]) (fun _ => [.box bC 29 [nu (3 + r3.2.2.length), .slice (some ⟨bI, 0, none⟩) 3 3, .slice none 0 0, .slice none 0 0, .slice none 0 0, .slice none 0 0, .slice none 0 0, .slice none 0 0, .slice AG r3.2.2.length kG, .slice none 0 0, .slice none 0 0], .vec tcells 3 57 AG kG r3.2.2, .box bI 3 [nu 2, nu 4, nu 6], .old w none_]) (fun i => i ≤ 8) (fun i => 8 - i) 0 (by repeat first | exact Pick.nil | (apply Pick.cons; eq_refl)) (by repeat first | exact trivial | refine ⟨rfl, ?_⟩) (by repeat first | exact Wk.nil | exact Wk.refl | (apply Wk.cons; (focus ((repeat first | exact Rem.here | apply Rem.there | apply Rem.skip); done))) | apply Wk.nilv | apply Wk.last | apply Wk.drop) (Nat.zero_le _) ?_
  intro i hi
  rcases Nat.lt_or_ge i 8 with hlt | hge
  · repeat' (first
      | (apply G_call; eq_refl; eq_refl; (apply hV; (repeat first | exact In.here | apply In.there | apply In.skip); (repeat first | exact In.here | apply In.there | apply In.skip); (repeat first | exact In.here | apply In.there | apply In.skip)); rintro _ _ ⟨u, B, kB, rfl, rfl, hul, V⟩)
      | (apply GC_seqK; intro K hK)
      | (apply hK; clear hK K)
      | (clear hK K; apply hK; clear hK K)
      | (clear hK K; clear hK K; apply hK; clear hK K)
      | (clear hK K; clear hK K; clear hK K; apply hK; clear hK K)
      | (apply GC_block)
      | (apply GC_region)
      | (apply GL_nil)
      | (apply thenG_normal)
      | (apply thenG_ret)
      | (apply thenG_exit)
      | (apply blockG_hit)
      | (apply blockG_miss; eq_refl)
      | (apply blockG_ret)
      | (apply blockG_normal)
      | (apply GC_ret)
      | (apply GC_exit)
      | (apply GC_skip)
      | (apply GC_if_true; eq_refl)
      | (apply GC_if_false; eq_refl)
      | (apply GC_ifD; eq_refl; all_goals intro _)
      | (apply GC_if; eq_refl; all_goals intro _)
      | (apply retG1; eq_refl)
      | (apply retG2; eq_refl; eq_refl)
      | (apply retG3; eq_refl; eq_refl; eq_refl)
      | (apply retG0)
      | (apply retG0n)
      | (apply GL_on; eq_refl; eq_refl)
      | (apply GL_off; eq_refl; eq_refl)
      | (apply GL_offU; eq_refl; eq_refl; eq_refl)
      | (apply GL_split; eq_refl; eq_refl; all_goals intro _)
      | (apply G_pv; eq_refl; first | exact trivial | omega)
      | (apply G_ld; eq_refl; (repeat first | exact In.here | apply In.there | apply In.skip); eq_refl)
      | (apply G_ldW; eq_refl; (repeat first | exact In.here | apply In.there | apply In.skip); eq_refl)
      | (apply G_ldO; eq_refl; (repeat first | exact In.here | apply In.there | apply In.skip); assumption; eq_refl)
      | (apply G_ldR; eq_refl; (apply RdB.oldR; (repeat first | exact In.here | apply In.there | apply In.skip); assumption); eq_refl)
      | (apply G_ldOW; eq_refl; (repeat first | exact In.here | apply In.there | apply In.skip); assumption; eq_refl)
      | (apply G_rd; eq_refl; (first | (apply Rd.own; (repeat first | exact In.here | apply In.there | apply In.skip); infer_instance) | (apply Rd.old; (repeat first | exact In.here | apply In.there | apply In.skip); assumption) | (apply Rd.oldR; (repeat first | exact In.here | apply In.there | apply In.skip); assumption) | exact Rd.nil | assumption); (case ih => infer_instance); omega; omega; eq_refl)
      | (apply G_rdF; eq_refl; (first | (apply Rd.own; (repeat first | exact In.here | apply In.there | apply In.skip); infer_instance) | (apply Rd.old; (repeat first | exact In.here | apply In.there | apply In.skip); assumption) | (apply Rd.oldR; (repeat first | exact In.here | apply In.there | apply In.skip); assumption) | exact Rd.nil | assumption); (case ih => infer_instance); omega; omega; eq_refl)
      | (apply G_rdW; eq_refl; (first | (apply Rd.own; (repeat first | exact In.here | apply In.there | apply In.skip); infer_instance) | (apply Rd.old; (repeat first | exact In.here | apply In.there | apply In.skip); assumption) | (apply Rd.oldR; (repeat first | exact In.here | apply In.there | apply In.skip); assumption) | exact Rd.nil | assumption); infer_instance; (case ih => infer_instance); omega; omega)
      | (apply G_cmpT; eq_refl; eq_refl; omega)
      | (apply G_cmpF; eq_refl; eq_refl; omega)
      | (apply G_cmpD; eq_refl; eq_refl; (case hd => infer_instance))
      | (apply G_cmp; eq_refl; eq_refl; all_goals intro _)
      | (apply G_eqB; eq_refl; eq_refl)
      | (apply G_neqB; eq_refl; eq_refl)
      | (apply G_eqP; eq_refl; eq_refl)
      | (apply G_eqL; eq_refl; eq_refl)
      | (apply G_pickAnd; eq_refl; eq_refl)
      | (apply G_pickOr; eq_refl; eq_refl)
      | (apply G_alloc; eq_refl; intro _)
      | (apply G_stV; (first | exact wr_p | kernel_rfl); eq_refl; eq_refl; eq_refl; eq_refl; (repeat first | exact Upd.here | apply Upd.there | apply Upd.skip); infer_instance; infer_instance; eq_refl; omega; (try simp only [List.length_set, List.length_append, List.length_replicate]); omega)
      | (apply G_st; (first | exact wr_p | kernel_rfl); eq_refl; eq_refl; eq_refl; eq_refl; (repeat first | exact Upd.here | apply Upd.there | apply Upd.skip); (first | decide | exact Nat.le_of_ble_eq_true rfl))
      | (apply G_stW; (first | exact wr_p | kernel_rfl); eq_refl; eq_refl; eq_refl; eq_refl; (repeat first | exact Upd.here | apply Upd.there | apply Upd.skip); eq_refl)
      | (apply GX_pure; apply build29_0_1_8 <;> eq_refl)
      | (apply G_new (fun b => .slice (some ⟨b, 0, none⟩) 3 3); eq_refl; (intro _; apply buildS22_3 <;> eq_refl); intro _)
      | (apply G_new (fun b => .slice (some ⟨b, 0, none⟩) 3 3); eq_refl; (intro _; apply buildS30_3 <;> eq_refl); intro _))
    have vO := made_val (i := 3) (gs' := []) M1 M3.good (M2.pre.trans M3.pre) V
    have vD := made_val (i := 3) (gs' := []) M2 M3.good M3.pre V
    have vM := made_val (i := 3) (gs' := []) M3 M3.good (List.prefix_refl _) V
    have hL : ∀ z, 0 ≤ z → z ≤ 2 * (3 + (r3.2.2.length : Int)) + 1 → ∀ Γ, In Γ (.vec booc 1 4 B kB u) → ∀ w', Mem w' Γ → CVN Try.prog 45 [.slice B u.length kB, nu z] w' fun r N => N = [] ∧ r = .bool (lv u z) := fun z h0 h1 Γ hi w' M => lit9_cv (hi.row M) (by unfold hasL; omega)
    have o1 := M1.ok
    have o2 := M2.ok
    have o3 := M3.ok
    have p1 := (M2.pre.trans M3.pre).length_le
    have p2 := M3.pre.length_le
    unfold okM at o1 o2 o3
    have hLx := hL x' hx2.1 (by omega)
    have hLy := hL y' hy2.1 (by omega)
    have hLs := hL s' hs2.1 (by omega)
    have hLo := hL r1.1 o1.1 (by omega)
    have hLd := hL r2.1 o2.1 (by omega)
    have hLm := hL r3.1 o3.1 (by omega)
    rw [vO] at hLo
    rw [vD] at hLd
    rw [vM] at hLm
    clear hL vO vD vM V
    generalize lv u x' = p at *
    generalize lv u y' = q at *
    generalize lv u s' = σ at *
    cases p <;> cases q <;> cases σ
    all_goals
      repeat' (first
      | (apply G_call; eq_refl; eq_refl; (first | (apply hLx; (repeat first | exact In.here | apply In.there | apply In.skip)) | (apply hLy; (repeat first | exact In.here | apply In.there | apply In.skip)) | (apply hLs; (repeat first | exact In.here | apply In.there | apply In.skip)) | (apply hLo; (repeat first | exact In.here | apply In.there | apply In.skip)) | (apply hLd; (repeat first | exact In.here | apply In.there | apply In.skip)) | (apply hLm; (repeat first | exact In.here | apply In.there | apply In.skip))); rintro _ _ ⟨rfl, rfl⟩)
      | (apply GC_seqK; intro K hK)
      | (apply hK; clear hK K)
      | (clear hK K; apply hK; clear hK K)
      | (clear hK K; clear hK K; apply hK; clear hK K)
      | (clear hK K; clear hK K; clear hK K; apply hK; clear hK K)
      | (apply GC_block)
      | (apply GC_region)
      | (apply GL_nil)
      | (apply thenG_normal)
      | (apply thenG_ret)
      | (apply thenG_exit)
      | (apply blockG_hit)
      | (apply blockG_miss; eq_refl)
      | (apply blockG_ret)
      | (apply blockG_normal)
      | (apply GC_ret)
      | (apply GC_exit)
      | (apply GC_skip)
      | (apply GC_if_true; eq_refl)
      | (apply GC_if_false; eq_refl)
      | (apply GC_ifD; eq_refl; all_goals intro _)
      | (apply GC_if; eq_refl; all_goals intro _)
      | (apply retG1; eq_refl)
      | (apply retG2; eq_refl; eq_refl)
      | (apply retG3; eq_refl; eq_refl; eq_refl)
      | (apply retG0)
      | (apply retG0n)
      | (apply GL_on; eq_refl; eq_refl)
      | (apply GL_off; eq_refl; eq_refl)
      | (apply GL_offU; eq_refl; eq_refl; eq_refl)
      | (apply GL_split; eq_refl; eq_refl; all_goals intro _)
      | (apply G_pv; eq_refl; first | exact trivial | omega)
      | (apply G_ld; eq_refl; (repeat first | exact In.here | apply In.there | apply In.skip); eq_refl)
      | (apply G_ldW; eq_refl; (repeat first | exact In.here | apply In.there | apply In.skip); eq_refl)
      | (apply G_ldO; eq_refl; (repeat first | exact In.here | apply In.there | apply In.skip); assumption; eq_refl)
      | (apply G_ldR; eq_refl; (apply RdB.oldR; (repeat first | exact In.here | apply In.there | apply In.skip); assumption); eq_refl)
      | (apply G_ldOW; eq_refl; (repeat first | exact In.here | apply In.there | apply In.skip); assumption; eq_refl)
      | (apply G_rd; eq_refl; (first | (apply Rd.own; (repeat first | exact In.here | apply In.there | apply In.skip); infer_instance) | (apply Rd.old; (repeat first | exact In.here | apply In.there | apply In.skip); assumption) | (apply Rd.oldR; (repeat first | exact In.here | apply In.there | apply In.skip); assumption) | exact Rd.nil | assumption); (case ih => infer_instance); omega; omega; eq_refl)
      | (apply G_rdF; eq_refl; (first | (apply Rd.own; (repeat first | exact In.here | apply In.there | apply In.skip); infer_instance) | (apply Rd.old; (repeat first | exact In.here | apply In.there | apply In.skip); assumption) | (apply Rd.oldR; (repeat first | exact In.here | apply In.there | apply In.skip); assumption) | exact Rd.nil | assumption); (case ih => infer_instance); omega; omega; eq_refl)
      | (apply G_rdW; eq_refl; (first | (apply Rd.own; (repeat first | exact In.here | apply In.there | apply In.skip); infer_instance) | (apply Rd.old; (repeat first | exact In.here | apply In.there | apply In.skip); assumption) | (apply Rd.oldR; (repeat first | exact In.here | apply In.there | apply In.skip); assumption) | exact Rd.nil | assumption); infer_instance; (case ih => infer_instance); omega; omega)
      | (apply G_cmpT; eq_refl; eq_refl; omega)
      | (apply G_cmpF; eq_refl; eq_refl; omega)
      | (apply G_cmp; eq_refl; eq_refl; all_goals intro _)
      | (apply G_eqB; eq_refl; eq_refl)
      | (apply G_neqB; eq_refl; eq_refl)
      | (apply G_eqP; eq_refl; eq_refl)
      | (apply G_eqL; eq_refl; eq_refl)
      | (apply G_pickAnd; eq_refl; eq_refl)
      | (apply G_pickOr; eq_refl; eq_refl)
      | (apply G_alloc; eq_refl; intro _)
      | (apply G_stV; (first | exact wr_p | kernel_rfl); eq_refl; eq_refl; eq_refl; eq_refl; (repeat first | exact Upd.here | apply Upd.there | apply Upd.skip); infer_instance; infer_instance; eq_refl; omega; (try simp only [List.length_set, List.length_append, List.length_replicate]); omega)
      | (apply G_st; (first | exact wr_p | kernel_rfl); eq_refl; eq_refl; eq_refl; eq_refl; (repeat first | exact Upd.here | apply Upd.there | apply Upd.skip); (first | decide | exact Nat.le_of_ble_eq_true rfl))
      | (apply G_stW; (first | exact wr_p | kernel_rfl); eq_refl; eq_refl; eq_refl; eq_refl; (repeat first | exact Upd.here | apply Upd.there | apply Upd.skip); eq_refl)
      | (apply GX_pure; apply build29_0_1_8 <;> eq_refl)
      | (apply G_new (fun b => .slice (some ⟨b, 0, none⟩) 3 3); eq_refl; (intro _; apply buildS22_3 <;> eq_refl); intro _)
      | (apply G_new (fun b => .slice (some ⟨b, 0, none⟩) 3 3); eq_refl; (intro _; apply buildS30_3 <;> eq_refl); intro _))
      exact ⟨i + 1, (by repeat first | exact trivial | refine ⟨rfl, ?_⟩), (by repeat first | exact Wk.nil | exact Wk.refl | (apply Wk.cons; (focus ((repeat first | exact Rem.here | apply Rem.there | apply Rem.skip); done))) | apply Wk.nilv | apply Wk.last | apply Wk.drop), hlt, by omega⟩
  · repeat' (first
      | (apply GC_seqK; intro K hK)
      | (apply hK; clear hK K)
      | (clear hK K; apply hK; clear hK K)
      | (clear hK K; clear hK K; apply hK; clear hK K)
      | (clear hK K; clear hK K; clear hK K; apply hK; clear hK K)
      | (apply GC_block)
      | (apply GC_region)
      | (apply GL_nil)
      | (apply thenG_normal)
      | (apply thenG_ret)
      | (apply thenG_exit)
      | (apply blockG_hit)
      | (apply blockG_miss; eq_refl)
      | (apply blockG_ret)
      | (apply blockG_normal)
      | (apply GC_ret)
      | (apply GC_exit)
      | (apply GC_skip)
      | (apply GC_if_true; eq_refl)
      | (apply GC_if_false; eq_refl)
      | (apply GC_ifD; eq_refl; all_goals intro _)
      | (apply GC_if; eq_refl; all_goals intro _)
      | (apply retG1; eq_refl)
      | (apply retG2; eq_refl; eq_refl)
      | (apply retG3; eq_refl; eq_refl; eq_refl)
      | (apply retG0)
      | (apply retG0n)
      | (apply GL_on; eq_refl; eq_refl)
      | (apply GL_off; eq_refl; eq_refl)
      | (apply GL_offU; eq_refl; eq_refl; eq_refl)
      | (apply GL_split; eq_refl; eq_refl; all_goals intro _)
      | (apply G_pv; eq_refl; first | exact trivial | omega)
      | (apply G_ld; eq_refl; (repeat first | exact In.here | apply In.there | apply In.skip); eq_refl)
      | (apply G_ldW; eq_refl; (repeat first | exact In.here | apply In.there | apply In.skip); eq_refl)
      | (apply G_ldO; eq_refl; (repeat first | exact In.here | apply In.there | apply In.skip); assumption; eq_refl)
      | (apply G_ldR; eq_refl; (apply RdB.oldR; (repeat first | exact In.here | apply In.there | apply In.skip); assumption); eq_refl)
      | (apply G_ldOW; eq_refl; (repeat first | exact In.here | apply In.there | apply In.skip); assumption; eq_refl)
      | (apply G_rd; eq_refl; (first | (apply Rd.own; (repeat first | exact In.here | apply In.there | apply In.skip); infer_instance) | (apply Rd.old; (repeat first | exact In.here | apply In.there | apply In.skip); assumption) | (apply Rd.oldR; (repeat first | exact In.here | apply In.there | apply In.skip); assumption) | exact Rd.nil | assumption); (case ih => infer_instance); omega; omega; eq_refl)
      | (apply G_rdF; eq_refl; (first | (apply Rd.own; (repeat first | exact In.here | apply In.there | apply In.skip); infer_instance) | (apply Rd.old; (repeat first | exact In.here | apply In.there | apply In.skip); assumption) | (apply Rd.oldR; (repeat first | exact In.here | apply In.there | apply In.skip); assumption) | exact Rd.nil | assumption); (case ih => infer_instance); omega; omega; eq_refl)
      | (apply G_rdW; eq_refl; (first | (apply Rd.own; (repeat first | exact In.here | apply In.there | apply In.skip); infer_instance) | (apply Rd.old; (repeat first | exact In.here | apply In.there | apply In.skip); assumption) | (apply Rd.oldR; (repeat first | exact In.here | apply In.there | apply In.skip); assumption) | exact Rd.nil | assumption); infer_instance; (case ih => infer_instance); omega; omega)
      | (apply G_cmpT; eq_refl; eq_refl; omega)
      | (apply G_cmpF; eq_refl; eq_refl; omega)
      | (apply G_cmp; eq_refl; eq_refl; all_goals intro _)
      | (apply G_eqB; eq_refl; eq_refl)
      | (apply G_neqB; eq_refl; eq_refl)
      | (apply G_eqP; eq_refl; eq_refl)
      | (apply G_eqL; eq_refl; eq_refl)
      | (apply G_pickAnd; eq_refl; eq_refl)
      | (apply G_pickOr; eq_refl; eq_refl)
      | (apply G_alloc; eq_refl; intro _)
      | (apply G_stV; (first | exact wr_p | kernel_rfl); eq_refl; eq_refl; eq_refl; eq_refl; (repeat first | exact Upd.here | apply Upd.there | apply Upd.skip); infer_instance; infer_instance; eq_refl; omega; (try simp only [List.length_set, List.length_append, List.length_replicate]); omega)
      | (apply G_st; (first | exact wr_p | kernel_rfl); eq_refl; eq_refl; eq_refl; eq_refl; (repeat first | exact Upd.here | apply Upd.there | apply Upd.skip); (first | decide | exact Nat.le_of_ble_eq_true rfl))
      | (apply G_stW; (first | exact wr_p | kernel_rfl); eq_refl; eq_refl; eq_refl; eq_refl; (repeat first | exact Upd.here | apply Upd.there | apply Upd.skip); eq_refl)
      | (apply GX_pure; apply build29_0_1_8 <;> eq_refl)
      | (apply G_new (fun b => .slice (some ⟨b, 0, none⟩) 3 3); eq_refl; (intro _; apply buildS22_3 <;> eq_refl); intro _)
      | (apply G_new (fun b => .slice (some ⟨b, 0, none⟩) 3 3); eq_refl; (intro _; apply buildS30_3 <;> eq_refl); intro _))
    exact ⟨[], (by repeat first | exact Wk.nil | exact Wk.refl | (apply Wk.cons; (focus ((repeat first | exact Rem.here | apply Rem.there | apply Rem.skip); done))) | apply Wk.nilv | apply Wk.last | apply Wk.drop), rfl, rfl⟩
end SC
end Go.Proofs.Yticndofcfacopaa
end
section
/- Lists of numbers and numbers that come in. -/
set_option linter.unusedVariables false
set_option linter.unusedSimpArgs false
namespace Go.Proofs.Yticndofcfacopaa
namespace SC
open Go.Proofs
set_option maxRecDepth 100000
section
variable {H : Type} {enc : TypeId × Value → H} {W : World} {base : Nat} {spare : Nat → Bool} {held : Bool}
theorem openNumS {v : Value} {d : DataW H} {ps : List MemPlace} {r : Reach} {b0 : Nat} (hv : Value.okWide Try.prog W r b0 3 v) (h : DataW.Trod enc Try.prog W base spare held 3 v d ps) : ∃ a, v = nu a ∧ fits a := by
  obtain ⟨z, rfl, _⟩ := Go.WideShapes.okWide_int Try.underlying3 hv
  obtain ⟨fuel, hf⟩ := h
  obtain ⟨a, e, ha⟩ := openIntS (cs := [nu z]) hf
  cases (List.cons.inj e).1
  exact ⟨z, rfl, ha⟩
end
end SC
end Go.Proofs.Yticndofcfacopaa
end

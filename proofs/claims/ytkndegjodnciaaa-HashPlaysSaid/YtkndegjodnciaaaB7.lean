/- The builder of the reference: 'and'. -/
import Derived.Test.YtkndegjodnciaaaB6
set_option linter.unusedVariables false
set_option linter.unusedSimpArgs false
namespace Go.Proofs.Ytkndegjodnciaaa
namespace SC
open Go.Proofs Go.Maps
attribute [local irreducible] WC WL WX WS WO OX Does DoesU Enters CV Pure thenQ blockQ retQ Wants
set_option maxRecDepth 100000
theorem RParts.drew {w : World} {g : Nat} {S : Nat → Prop} {i l : Int} {gs : List Gate} {v : Value} (h : RParts w g S i l gs v) : RParts w.drew g S i l gs v := ⟨h.head, h.row, h.hg, h.hv, h.lt⟩
theorem RParts.alloc {w : World} {g : Nat} {S : Nat → Prop} {i l : Int} {gs : List Gate} {v : Value} (o : Obj) (h : RParts w g S i l gs v) : RParts (w.alloc o) g S i l gs v := h.chg (Chg.alloc w o none_) fun _ _ => id
theorem drop_step {gs : List Gate} {k : Nat} (hk : k < gs.length) (p q : Int) : outOf (gs.drop k) p q = if gs[k].2.1 = p ∧ gs[k].2.2 = q then gs[k].1 else outOf (gs.drop (k + 1)) p q := by
  rw [List.drop_eq_getElem_cons hk]
  rfl
theorem rand_cv {w : World} {g : Nat} {S : Nat → Prop} {i l : Int} {gs : List Gate} {x y : Int} (hB : Rbl w g S i l gs) (hi : 0 ≤ i) (hl : 0 ≤ l) (hI : Inv (i + l) gs) (hx : okM (i + l) gs x) (hy : okM (i + l) gs y) :
    CV Try.prog 124 [ptr g, num x, num y] w (RAfter w g S i l (andM (i + l) gs x y)) := by
  obtain ⟨v, hP⟩ := hB
  obtain ⟨A, c, rfl⟩ := row_form hP.row
  have hx' := hx; have hy' := hy
  unfold okM at hx' hy'
  have htop := hI.top
  have hH := hP.head
  show CV _ _ _ _ (RAfter w g S i l (andP (i + l) gs (max x y) (min x y)))
  refine enter 108 [6, 7] Try.func124 rfl rfl rfl (by decide) rfl ?_
  repeat' (first
      | (apply WC_seqK; intro K hK)
      | (apply hK; clear hK)
      | (clear hK; apply hK; clear hK)
      | (clear hK; clear hK; apply hK; clear hK)
      | (clear hK; clear hK; clear hK; apply hK; clear hK)
      | (apply WC_block)
      | (apply WC_region)
      | (apply WL_nil)
      | (apply thenQ_normal)
      | (apply thenQ_ret)
      | (apply thenQ_exit)
      | (apply blockQ_hit)
      | (apply blockQ_miss; eq_refl)
      | (apply blockQ_ret)
      | (apply blockQ_normal)
      | (apply WC_ret)
      | (apply WC_exit)
      | (apply WC_skip)
      | (apply WC_label)
      | (apply WC_if_true; eq_refl)
      | (apply WC_if_false; eq_refl)
      | (apply ret1; eq_refl)
      | (apply ret2; eq_refl; eq_refl)
      | (apply ret3; eq_refl; eq_refl; eq_refl)
      | (apply ret0)
      | (apply ret0n)
      | (apply WL_on0; eq_refl)
      | (apply WL_onG; eq_refl; eq_refl; eq_refl; eq_refl)
      | (apply WL_noG; eq_refl; eq_refl; eq_refl; eq_refl)
      | (apply X_pv; eq_refl; first | exact trivial | omega)
      | (apply X_field; eq_refl)
      | (apply X_loadR; eq_refl; (first | assumption | (apply Blk.alloc; assumption) | apply Blk.new | apply Blk.newA | (apply Blk.alloc; first | apply Blk.newA | (apply Blk.alloc; first | assumption | apply Blk.newA))); eq_refl)
      | (apply X_loadW; eq_refl; (first | assumption | (apply Blk.alloc; assumption) | apply Blk.new | apply Blk.newA | (apply Blk.alloc; first | apply Blk.newA | (apply Blk.alloc; first | assumption | apply Blk.newA))); eq_refl)
      | (apply X_loadC; eq_refl; (first | assumption | (apply cel; first | assumption | (apply cel; assumption))))
      | (apply X_cmpT; eq_refl; eq_refl; omega)
      | (apply X_cmpF; eq_refl; eq_refl; omega)
      | (apply X_cmp; eq_refl; eq_refl; all_goals intro _)
      | (apply X_len; eq_refl)
      | (apply X_lenS; eq_refl)
      | (apply X_index; eq_refl; eq_refl; omega; omega)
      | (apply X_eqB; eq_refl; eq_refl)
      | (apply X_neqB; eq_refl; eq_refl)
      | (apply X_eqP; eq_refl; eq_refl)
      | (apply X_eqL; eq_refl; eq_refl)
      | (apply X_max; eq_refl; eq_refl)
      | (apply X_min; eq_refl; eq_refl)
      | (apply X_cap; eq_refl)
      | (apply X_alloc)
      | (apply X_box; eq_refl)
      | (apply X_makeMap)
      | (apply X_pure; apply build43_0_1_2 <;> eq_refl)
      | (apply X_does; apply buildS37_1 <;> eq_refl))
  any_goals (exact RAfter.same ⟨_, hP⟩ (Chg.refl _ _) (by first | exact andP_zero (by omega) | exact andP_same (by omega) (by omega)))
  all_goals
    have hz1 : ¬ (min x y = 0 ∨ (max x y = min x y + 1 ∧ min x y % 2 = 0)) := by omega
    have hz2 : ¬ (min x y = 1 ∨ max x y = min x y) := by omega
    have hp1 : max x y ≤ 32769 := by omega
    have hp0 : 0 ≤ max x y := by omega
    have hq1 : min x y ≤ 32769 := by omega
    have hq0 : 0 ≤ min x y := by omega
    generalize max x y = p at *
    generalize min x y = q at *
    clear hx hy hx' hy'
    refine WC_loop (fun k : Nat => [(0, ptr g), (8, num p), (9, num q), (10, num k)]) (fun k w1 => w1 = w ∧ k ≤ gs.length ∧ outOf (gs.drop k) p q = outOf gs p q) (fun k => gs.length - k) 0 ⟨rfl, rfl, rfl, rfl, trivial⟩ ⟨rfl, Nat.zero_le _, rfl⟩ ?_
    rintro k w1 ⟨rfl, hk, hout⟩
    rcases Nat.lt_or_ge k gs.length with hlt | hge
    · rcases hP.row.2 with ⟨hv, hn⟩ | ⟨gb, cap, cur, hv, _⟩
      · omega
      cases hv
      obtain ⟨hc0, hc1, hc2⟩ := gate_cells hP.row rfl k hlt
      have hst := drop_step hlt p q
      have hpos := hI.outs gs[k] (List.getElem_mem hlt)
      repeat' (first
      | (apply WC_seqK; intro K hK)
      | (apply hK; clear hK)
      | (clear hK; apply hK; clear hK)
      | (clear hK; clear hK; apply hK; clear hK)
      | (clear hK; clear hK; clear hK; apply hK; clear hK)
      | (apply WC_block)
      | (apply WC_region)
      | (apply WL_nil)
      | (apply thenQ_normal)
      | (apply thenQ_ret)
      | (apply thenQ_exit)
      | (apply blockQ_hit)
      | (apply blockQ_miss; eq_refl)
      | (apply blockQ_ret)
      | (apply blockQ_normal)
      | (apply WC_ret)
      | (apply WC_exit)
      | (apply WC_skip)
      | (apply WC_label)
      | (apply WC_if_true; eq_refl)
      | (apply WC_if_false; eq_refl)
      | (apply ret1; eq_refl)
      | (apply ret2; eq_refl; eq_refl)
      | (apply ret3; eq_refl; eq_refl; eq_refl)
      | (apply ret0)
      | (apply ret0n)
      | (apply WL_on0; eq_refl)
      | (apply WL_onG; eq_refl; eq_refl; eq_refl; eq_refl)
      | (apply WL_noG; eq_refl; eq_refl; eq_refl; eq_refl)
      | (apply X_pv; eq_refl; first | exact trivial | omega)
      | (apply X_field; eq_refl)
      | (apply X_loadR; eq_refl; (first | assumption | (apply Blk.alloc; assumption) | apply Blk.new | apply Blk.newA | (apply Blk.alloc; first | apply Blk.newA | (apply Blk.alloc; first | assumption | apply Blk.newA))); eq_refl)
      | (apply X_loadW; eq_refl; (first | assumption | (apply Blk.alloc; assumption) | apply Blk.new | apply Blk.newA | (apply Blk.alloc; first | apply Blk.newA | (apply Blk.alloc; first | assumption | apply Blk.newA))); eq_refl)
      | (apply X_loadC; eq_refl; (first | assumption | (apply cel; first | assumption | (apply cel; assumption))))
      | (apply X_cmpT; eq_refl; eq_refl; omega)
      | (apply X_cmpF; eq_refl; eq_refl; omega)
      | (apply X_cmp; eq_refl; eq_refl; all_goals intro _)
      | (apply X_len; eq_refl)
      | (apply X_lenS; eq_refl)
      | (apply X_index; eq_refl; eq_refl; omega; omega)
      | (apply X_eqB; eq_refl; eq_refl)
      | (apply X_neqB; eq_refl; eq_refl)
      | (apply X_eqP; eq_refl; eq_refl)
      | (apply X_eqL; eq_refl; eq_refl)
      | (apply X_max; eq_refl; eq_refl)
      | (apply X_min; eq_refl; eq_refl)
      | (apply X_cap; eq_refl)
      | (apply X_alloc)
      | (apply X_box; eq_refl)
      | (apply X_makeMap)
      | (apply X_pure; apply build43_0_1_2 <;> eq_refl)
      | (apply X_does; apply buildS37_1 <;> eq_refl))
      · rw [if_pos (by constructor <;> assumption)] at hst
        exact RAfter.same ⟨_, hP⟩ (Chg.refl _ _) (by rw [andP_hit hz1 hz2 (by omega), ← hout, hst])
      · rw [if_neg (by omega)] at hst
        exact ⟨k + 1, ⟨rfl, rfl, rfl, rfl, trivial⟩, ⟨rfl, hlt, by rw [← hst]; exact hout⟩, by omega⟩
      · rw [if_neg (by omega)] at hst
        exact ⟨k + 1, ⟨rfl, rfl, rfl, rfl, trivial⟩, ⟨rfl, hlt, by rw [← hst]; exact hout⟩, by omega⟩
    · rw [List.drop_eq_nil_of_le hge] at hout
      have hno : ¬ 0 < outOf gs p q := by rw [← hout]; simp [outOf]
      repeat' (first
      | (apply X_fn; eq_refl; (apply Max_cv; assumption; assumption; assumption; assumption); rintro _ _ ⟨rfl, rfl⟩)
      | (apply WC_seqK; intro K hK)
      | (apply hK; clear hK)
      | (clear hK; apply hK; clear hK)
      | (clear hK; clear hK; apply hK; clear hK)
      | (clear hK; clear hK; clear hK; apply hK; clear hK)
      | (apply WC_block)
      | (apply WC_region)
      | (apply WL_nil)
      | (apply thenQ_normal)
      | (apply thenQ_ret)
      | (apply thenQ_exit)
      | (apply blockQ_hit)
      | (apply blockQ_miss; eq_refl)
      | (apply blockQ_ret)
      | (apply blockQ_normal)
      | (apply WC_ret)
      | (apply WC_exit)
      | (apply WC_skip)
      | (apply WC_label)
      | (apply WC_if_true; eq_refl)
      | (apply WC_if_false; eq_refl)
      | (apply ret1; eq_refl)
      | (apply ret2; eq_refl; eq_refl)
      | (apply ret3; eq_refl; eq_refl; eq_refl)
      | (apply ret0)
      | (apply ret0n)
      | (apply WL_on0; eq_refl)
      | (apply WL_onG; eq_refl; eq_refl; eq_refl; eq_refl)
      | (apply WL_noG; eq_refl; eq_refl; eq_refl; eq_refl)
      | (apply X_pv; eq_refl; first | exact trivial | omega)
      | (apply X_field; eq_refl)
      | (apply X_loadR; eq_refl; (first | assumption | (apply Blk.alloc; assumption) | apply Blk.new | apply Blk.newA | (apply Blk.alloc; first | apply Blk.newA | (apply Blk.alloc; first | assumption | apply Blk.newA))); eq_refl)
      | (apply X_loadW; eq_refl; (first | assumption | (apply Blk.alloc; assumption) | apply Blk.new | apply Blk.newA | (apply Blk.alloc; first | apply Blk.newA | (apply Blk.alloc; first | assumption | apply Blk.newA))); eq_refl)
      | (apply X_loadC; eq_refl; (first | assumption | (apply cel; first | assumption | (apply cel; assumption))))
      | (apply X_cmpT; eq_refl; eq_refl; omega)
      | (apply X_cmpF; eq_refl; eq_refl; omega)
      | (apply X_cmp; eq_refl; eq_refl; all_goals intro _)
      | (apply X_len; eq_refl)
      | (apply X_lenS; eq_refl)
      | (apply X_index; eq_refl; eq_refl; omega; omega)
      | (apply X_eqB; eq_refl; eq_refl)
      | (apply X_neqB; eq_refl; eq_refl)
      | (apply X_eqP; eq_refl; eq_refl)
      | (apply X_eqL; eq_refl; eq_refl)
      | (apply X_max; eq_refl; eq_refl)
      | (apply X_min; eq_refl; eq_refl)
      | (apply X_cap; eq_refl)
      | (apply X_alloc)
      | (apply X_box; eq_refl)
      | (apply X_makeMap)
      | (apply X_pure; apply build43_0_1_2 <;> eq_refl)
      | (apply X_does; apply buildS37_1 <;> eq_refl))
      · exact RAfter.same ⟨_, hP.drew⟩ (Chg.drew _ _) (andP_full hz1 hz2 hno (by assumption))
      refine WX_turn (fun w3 => RParts w3 g S i l gs (.slice A gs.length c) ∧ Chg w1 w3 none_ ∧ Blk w3 w1.drew.drew.heap.size 43 [num (2 * (i + l + gs.length + 1)), num p, num q] ∧ w3.heap.size = w1.heap.size + 1) ⟨hP.drew.drew.alloc _, (Chg.refl _ _).dr.dr.al _, Blk.newA _ _ _, by simp⟩ ?_
      rintro w3 ⟨hP3, hC3, hN3, hz3⟩
      have hH3 := hP3.head
      refine X_append 0 (by eq_refl) (by eq_refl) hP3.row hN3 rfl rfl (by decide) (by simp [Value.oneCell']) (by omega) (by decide) (Nat.zero_le _) ?_
      intro v' w4 hrow hC4 hown hnil
      obtain ⟨A', c', rfl⟩ := row_form hrow
      have hng : ¬ (Value.slice A gs.length c).ownBlock = some g := row_apart hP3.row hH3 (by decide)
      have hH4 := hH3.chg hC4 hng
      have hob : ∀ k, (Value.slice A' (gs.length + 1) c').ownBlock = some k → S k ∨ k = w3.heap.size := fun k hk => by
        rcases hown with h | h
        · exact .inl (hP.hv k (h ▸ hk))
        · exact .inr (Option.some.inj (hk.symm.trans h))
      have hrg : (Value.slice A' (gs.length + 1) c').ownBlock ≠ some g := row_apart hrow hH4 (by decide)
      repeat' (first
      | (apply WC_seqK; intro K hK)
      | (apply hK; clear hK)
      | (clear hK; apply hK; clear hK)
      | (clear hK; clear hK; apply hK; clear hK)
      | (clear hK; clear hK; clear hK; apply hK; clear hK)
      | (apply WC_block)
      | (apply WC_region)
      | (apply WL_nil)
      | (apply thenQ_normal)
      | (apply thenQ_ret)
      | (apply thenQ_exit)
      | (apply blockQ_hit)
      | (apply blockQ_miss; eq_refl)
      | (apply blockQ_ret)
      | (apply blockQ_normal)
      | (apply WC_ret)
      | (apply WC_exit)
      | (apply WC_skip)
      | (apply WC_label)
      | (apply WC_if_true; eq_refl)
      | (apply WC_if_false; eq_refl)
      | (apply ret1; eq_refl)
      | (apply ret2; eq_refl; eq_refl)
      | (apply ret3; eq_refl; eq_refl; eq_refl)
      | (apply ret0)
      | (apply ret0n)
      | (apply WL_on0; eq_refl)
      | (apply WL_onG; eq_refl; eq_refl; eq_refl; eq_refl)
      | (apply WL_noG; eq_refl; eq_refl; eq_refl; eq_refl)
      | (apply X_pv; eq_refl; first | exact trivial | omega)
      | (apply X_field; eq_refl)
      | (apply X_loadR; eq_refl; (first | assumption | (apply Blk.alloc; assumption) | apply Blk.new | apply Blk.newA | (apply Blk.alloc; first | apply Blk.newA | (apply Blk.alloc; first | assumption | apply Blk.newA))); eq_refl)
      | (apply X_loadW; eq_refl; (first | assumption | (apply Blk.alloc; assumption) | apply Blk.new | apply Blk.newA | (apply Blk.alloc; first | apply Blk.newA | (apply Blk.alloc; first | assumption | apply Blk.newA))); eq_refl)
      | (apply X_loadC; eq_refl; (first | assumption | (apply cel; first | assumption | (apply cel; assumption))))
      | (apply X_cmpT; eq_refl; eq_refl; omega)
      | (apply X_cmpF; eq_refl; eq_refl; omega)
      | (apply X_cmp; eq_refl; eq_refl; all_goals intro _)
      | (apply X_len; eq_refl)
      | (apply X_lenS; eq_refl)
      | (apply X_index; eq_refl; eq_refl; omega; omega)
      | (apply X_eqB; eq_refl; eq_refl)
      | (apply X_neqB; eq_refl; eq_refl)
      | (apply X_eqP; eq_refl; eq_refl)
      | (apply X_eqL; eq_refl; eq_refl)
      | (apply X_max; eq_refl; eq_refl)
      | (apply X_min; eq_refl; eq_refl)
      | (apply X_cap; eq_refl)
      | (apply X_alloc)
      | (apply X_box; eq_refl)
      | (apply X_makeMap)
      | (apply X_pure; apply build43_0_1_2 <;> eq_refl)
      | (apply X_does; apply buildS37_1 <;> eq_refl))
      refine X_doesU (does_store1 (b := g) (o := 2) (v := .slice A' (gs.length + 1) c') (by eq_refl) (by eq_refl) hH4 (by simp) rfl rfl) ?_
      refine WL_turn (fun w5 => Blk w5 g 39 [num i, num l, .slice A' (gs.length + 1) c'] ∧ w5.ownsRow 0 43 3 (.slice A' (gs.length + 1) c') (gs.length + 1) (flat gs ++ [num (2 * (i + l + gs.length + 1)), num p, num q]) ∧ Chg w1 w5 S)
        ⟨hH4.set _, row_chg hrow (Chg.setRow w4 g _ (S := fun k => k = g) rfl) (fun k hk h => hrg (h ▸ hk)), (hC3.any.trans hC4 fun k _ hk => hP.hv k hk).trans (Chg.setRow w4 g _ hP.hg) fun _ _ h => h⟩ ?_
      rintro w5 ⟨hH5, hR5, hC5⟩
      have hlt5 : w4.heap.size ≤ w5.heap.size ∨ True := .inr trivial
      repeat' (first
      | (apply WC_seqK; intro K hK)
      | (apply hK; clear hK)
      | (clear hK; apply hK; clear hK)
      | (clear hK; clear hK; apply hK; clear hK)
      | (clear hK; clear hK; clear hK; apply hK; clear hK)
      | (apply WC_block)
      | (apply WC_region)
      | (apply WL_nil)
      | (apply thenQ_normal)
      | (apply thenQ_ret)
      | (apply thenQ_exit)
      | (apply blockQ_hit)
      | (apply blockQ_miss; eq_refl)
      | (apply blockQ_ret)
      | (apply blockQ_normal)
      | (apply WC_ret)
      | (apply WC_exit)
      | (apply WC_skip)
      | (apply WC_label)
      | (apply WC_if_true; eq_refl)
      | (apply WC_if_false; eq_refl)
      | (apply ret1; eq_refl)
      | (apply ret2; eq_refl; eq_refl)
      | (apply ret3; eq_refl; eq_refl; eq_refl)
      | (apply ret0)
      | (apply ret0n)
      | (apply WL_on0; eq_refl)
      | (apply WL_onG; eq_refl; eq_refl; eq_refl; eq_refl)
      | (apply WL_noG; eq_refl; eq_refl; eq_refl; eq_refl)
      | (apply X_pv; eq_refl; first | exact trivial | omega)
      | (apply X_field; eq_refl)
      | (apply X_loadR; eq_refl; (first | assumption | (apply Blk.alloc; assumption) | apply Blk.new | apply Blk.newA | (apply Blk.alloc; first | apply Blk.newA | (apply Blk.alloc; first | assumption | apply Blk.newA))); eq_refl)
      | (apply X_loadW; eq_refl; (first | assumption | (apply Blk.alloc; assumption) | apply Blk.new | apply Blk.newA | (apply Blk.alloc; first | apply Blk.newA | (apply Blk.alloc; first | assumption | apply Blk.newA))); eq_refl)
      | (apply X_loadC; eq_refl; (first | assumption | (apply cel; first | assumption | (apply cel; assumption))))
      | (apply X_cmpT; eq_refl; eq_refl; omega)
      | (apply X_cmpF; eq_refl; eq_refl; omega)
      | (apply X_cmp; eq_refl; eq_refl; all_goals intro _)
      | (apply X_len; eq_refl)
      | (apply X_lenS; eq_refl)
      | (apply X_index; eq_refl; eq_refl; omega; omega)
      | (apply X_eqB; eq_refl; eq_refl)
      | (apply X_neqB; eq_refl; eq_refl)
      | (apply X_eqP; eq_refl; eq_refl)
      | (apply X_eqL; eq_refl; eq_refl)
      | (apply X_max; eq_refl; eq_refl)
      | (apply X_min; eq_refl; eq_refl)
      | (apply X_cap; eq_refl)
      | (apply X_alloc)
      | (apply X_box; eq_refl)
      | (apply X_makeMap)
      | (apply X_pure; apply build43_0_1_2 <;> eq_refl)
      | (apply X_does; apply buildS37_1 <;> eq_refl))
      rw [andP_new hz1 hz2 hno (by assumption)]
      refine ⟨rfl, fun k => S k ∨ k = w3.heap.size ∧ (Value.slice A' (gs.length + 1) c').ownBlock = some k, ⟨.slice A' (gs.length + 1) c', hH5, ?_, .inl hP.hg, ?_, ?_⟩, hC5, ?_⟩
      · simpa [flat_append, gcells] using hR5
      · intro k hk
        rcases hob k hk with h | h
        · exact .inl h
        · exact .inr ⟨h, hk⟩
      · intro k hk
        rcases hk with h | ⟨_, h⟩
        · exact Nat.lt_of_lt_of_le (hP.lt k h) hC5.size
        · exact (hR5.lt k h).2
      · intro k hk
        rcases hk with h | ⟨h, h'⟩
        · exact .inl h
        · exact .inr ⟨by omega, (hR5.lt k h').2⟩
end SC
end Go.Proofs.Ytkndegjodnciaaa

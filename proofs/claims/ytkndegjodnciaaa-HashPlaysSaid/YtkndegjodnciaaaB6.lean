/- The builder of the reference: its memory; what each of its functions does. -/
import Derived.Test.YtkndegjodnciaaaB5
set_option linter.unusedVariables false
set_option linter.unusedSimpArgs false
namespace Go.Proofs.Ytkndegjodnciaaa
namespace SC
open Go.Proofs Go.Maps
attribute [local irreducible] WC WL WX WS WO OX Does DoesU Enters CV Pure thenQ blockQ retQ Wants
set_option maxRecDepth 100000
structure RParts (w : World) (g : Nat) (S : Nat → Prop) (i l : Int) (gs : List Gate) (v : Value) : Prop where
  head : Blk w g 39 [num i, num l, v]
  row : w.ownsRow 0 43 3 v gs.length (flat gs)
  hg : S g
  hv : ∀ k, v.ownBlock = some k → S k
  lt : ∀ k, S k → k < w.heap.size
def Rbl (w : World) (g : Nat) (S : Nat → Prop) (i l : Int) (gs : List Gate) : Prop := ∃ v, RParts w g S i l gs v
theorem RParts.chg {w w' : World} {g : Nat} {S : Nat → Prop} {i l : Int} {gs : List Gate} {v : Value} (h : RParts w g S i l gs v) {T : Nat → Prop} (hc : Chg w w' T) (hd : ∀ k, S k → ¬ T k) : RParts w' g S i l gs v :=
  ⟨h.head.chg hc (hd _ h.hg), row_chg h.row hc fun k hk => hd k (h.hv k hk), h.hg, h.hv, fun k hk => Nat.lt_of_lt_of_le (h.lt k hk) hc.size⟩
theorem Rbl.chg {w w' : World} {g : Nat} {S : Nat → Prop} {i l : Int} {gs : List Gate} (h : Rbl w g S i l gs) {T : Nat → Prop} (hc : Chg w w' T) (hd : ∀ k, S k → ¬ T k) : Rbl w' g S i l gs := by
  obtain ⟨v, h⟩ := h
  exact ⟨v, h.chg hc hd⟩
def RAfter (w : World) (g : Nat) (S : Nat → Prop) (i l : Int) (r : Int × Int × List Gate) (v : Value) (w' : World) : Prop :=
  v = .tuple #[num r.1, num r.2.1] ∧ ∃ S', Rbl w' g S' i l r.2.2 ∧ Step w S w' S'
theorem RAfter.same {w w' : World} {g : Nat} {S : Nat → Prop} {i l a b : Int} {gs : List Gate} {r : Int × Int × List Gate} (h : Rbl w' g S i l gs) (hc : Chg w w' S) (hr : r = (a, b, gs)) : RAfter w g S i l r (.tuple #[num a, num b]) w' := by
  subst hr
  exact ⟨rfl, S, h, Step.of_chg hc⟩
theorem Max_cv {w : World} {g : Nat} {i l : Int} {A : Option Addr} {n c : Nat}
   (hb : Blk w g 39 [num i, num l, .slice A n c]) (hi : 0 ≤ i) (hl : 0 ≤ l) (hn : i + l + n ≤ 16384) :
    CV Try.prog 152 [ptr g] w fun v w' => v = num (i + l + n) ∧ w' = w.drew := by
  refine enter 18 [2] Try.func152 rfl rfl rfl (by decide) rfl ?_
  repeat' (first
      | (apply WC_seqK; intro K hK)
      | (apply hK; clear hK)
      | (clear hK; apply hK; clear hK)
      | (clear hK; clear hK; apply hK; clear hK)
      | (clear hK; clear hK; clear hK; apply hK; clear hK)
      | (apply WC_block)
      | (apply WC_region)
      | (apply WL_nil)
      | (apply thenQ_normal)
      | (apply thenQ_ret)
      | (apply thenQ_exit)
      | (apply blockQ_hit)
      | (apply blockQ_miss; eq_refl)
      | (apply blockQ_ret)
      | (apply blockQ_normal)
      | (apply WC_ret)
      | (apply WC_exit)
      | (apply WC_skip)
      | (apply WC_label)
      | (apply WC_if_true; eq_refl)
      | (apply WC_if_false; eq_refl)
      | (apply ret1; eq_refl)
      | (apply ret2; eq_refl; eq_refl)
      | (apply ret3; eq_refl; eq_refl; eq_refl)
      | (apply ret0)
      | (apply ret0n)
      | (apply WL_on0; eq_refl)
      | (apply WL_onG; eq_refl; eq_refl; eq_refl; eq_refl)
      | (apply WL_noG; eq_refl; eq_refl; eq_refl; eq_refl)
      | (apply X_pv; eq_refl; first | exact trivial | omega)
      | (apply X_field; eq_refl)
      | (apply X_loadR; eq_refl; (first | assumption | (apply Blk.alloc; assumption) | apply Blk.new | apply Blk.newA | (apply Blk.alloc; first | apply Blk.newA | (apply Blk.alloc; first | assumption | apply Blk.newA))); eq_refl)
      | (apply X_loadW; eq_refl; (first | assumption | (apply Blk.alloc; assumption) | apply Blk.new | apply Blk.newA | (apply Blk.alloc; first | apply Blk.newA | (apply Blk.alloc; first | assumption | apply Blk.newA))); eq_refl)
      | (apply X_loadC; eq_refl; (first | assumption | (apply cel; first | assumption | (apply cel; assumption))))
      | (apply X_cmpT; eq_refl; eq_refl; omega)
      | (apply X_cmpF; eq_refl; eq_refl; omega)
      | (apply X_cmp; eq_refl; eq_refl; all_goals intro _)
      | (apply X_len; eq_refl)
      | (apply X_lenS; eq_refl)
      | (apply X_index; eq_refl; eq_refl; omega; omega)
      | (apply X_eqB; eq_refl; eq_refl)
      | (apply X_neqB; eq_refl; eq_refl)
      | (apply X_eqP; eq_refl; eq_refl)
      | (apply X_eqL; eq_refl; eq_refl)
      | (apply X_max; eq_refl; eq_refl)
      | (apply X_min; eq_refl; eq_refl)
      | (apply X_cap; eq_refl)
      | (apply X_alloc)
      | (apply X_box; eq_refl)
      | (apply X_makeMap))
  refine WC_draws [(0, true), (1, true), (2, true), (3, true), (4, true), (5, true), (6, true), (7, true), (8, true), (9, true), (10, true), (11, true), (12, true), (13, true), (14, true), (15, true)] (fun w => Blk w g 39 [num i, num l, .slice A n c]) mixed (by kernel_rfl) (by kernel_rfl) ?_
  have hS : Blk w.drew g 39 [num i, num l, .slice A n c] := hb
  repeat' (first
      | (apply WC_seqK; intro K hK)
      | (apply hK; clear hK)
      | (clear hK; apply hK; clear hK)
      | (clear hK; clear hK; apply hK; clear hK)
      | (clear hK; clear hK; clear hK; apply hK; clear hK)
      | (apply WC_block)
      | (apply WC_region)
      | (apply WL_nil)
      | (apply thenQ_normal)
      | (apply thenQ_ret)
      | (apply thenQ_exit)
      | (apply blockQ_hit)
      | (apply blockQ_miss; eq_refl)
      | (apply blockQ_ret)
      | (apply blockQ_normal)
      | (apply WC_ret)
      | (apply WC_exit)
      | (apply WC_skip)
      | (apply WC_label)
      | (apply WC_if_true; eq_refl)
      | (apply WC_if_false; eq_refl)
      | (apply ret1; eq_refl)
      | (apply ret2; eq_refl; eq_refl)
      | (apply ret3; eq_refl; eq_refl; eq_refl)
      | (apply ret0)
      | (apply ret0n)
      | (apply WS_nil)
      | (apply WS_next; eq_refl)
      | (apply WO_on0; eq_refl)
      | (apply WO_onG; eq_refl; eq_refl; eq_refl; eq_refl)
      | (apply WO_noG; eq_refl; eq_refl; eq_refl; eq_refl; (first | assumption | exact trivial))
      | (apply O_pv; eq_refl; (first | exact trivial | omega); (first | assumption | exact trivial))
      | (apply O_field; eq_refl; (first | assumption | exact trivial))
      | (apply O_loadR; eq_refl; (first | (intro _ h; exact h) | (intro _ h; exact h.1) | (intro _ h; exact h.2) | (intro _ h; exact h.2.1) | (intro _ h; exact h.2.2) | (intro _ h; exact h.2.2.1) | (intro _ h; exact h.2.2.2)); eq_refl; (first | assumption | exact trivial))
      | (apply O_loadW; eq_refl; (first | (intro _ h; exact h) | (intro _ h; exact h.1) | (intro _ h; exact h.2) | (intro _ h; exact h.2.1) | (intro _ h; exact h.2.2) | (intro _ h; exact h.2.2.1) | (intro _ h; exact h.2.2.2)); eq_refl; (first | assumption | exact trivial))
      | (apply O_loadC; eq_refl; (first | (intro _ h; exact h) | (intro _ h; exact h.1) | (intro _ h; exact h.2) | (intro _ h; exact h.2.1) | (intro _ h; exact h.2.2) | (intro _ h; exact h.2.2.1) | (intro _ h; exact h.2.2.2)); (first | assumption | exact trivial))
      | (apply O_cmpT; eq_refl; eq_refl; omega; (first | assumption | exact trivial))
      | (apply O_cmpF; eq_refl; eq_refl; omega; (first | assumption | exact trivial))
      | (apply O_cmp; eq_refl; eq_refl; (first | assumption | exact trivial); all_goals intro _)
      | (apply O_len; eq_refl; (first | assumption | exact trivial))
      | (apply O_lenS; eq_refl; (first | assumption | exact trivial))
      | (apply O_index; eq_refl; eq_refl; omega; omega; (first | assumption | exact trivial))
      | (apply O_eqB; eq_refl; eq_refl; (first | assumption | exact trivial))
      | (apply O_neqB; eq_refl; eq_refl; (first | assumption | exact trivial))
      | (apply O_pvL; eq_refl; (first | exact trivial | omega); (first | (intro _; assumption) | exact lo (by kernel_rfl)))
      | (apply WL_on0; eq_refl)
      | (apply WL_onG; eq_refl; eq_refl; eq_refl; eq_refl)
      | (apply WL_noG; eq_refl; eq_refl; eq_refl; eq_refl)
      | (apply X_pv; eq_refl; first | exact trivial | omega)
      | (apply X_field; eq_refl)
      | (apply X_loadR; eq_refl; (first | assumption | (apply Blk.alloc; assumption) | apply Blk.new | apply Blk.newA | (apply Blk.alloc; first | apply Blk.newA | (apply Blk.alloc; first | assumption | apply Blk.newA))); eq_refl)
      | (apply X_loadW; eq_refl; (first | assumption | (apply Blk.alloc; assumption) | apply Blk.new | apply Blk.newA | (apply Blk.alloc; first | apply Blk.newA | (apply Blk.alloc; first | assumption | apply Blk.newA))); eq_refl)
      | (apply X_loadC; eq_refl; (first | assumption | (apply cel; first | assumption | (apply cel; assumption))))
      | (apply X_cmpT; eq_refl; eq_refl; omega)
      | (apply X_cmpF; eq_refl; eq_refl; omega)
      | (apply X_cmp; eq_refl; eq_refl; all_goals intro _)
      | (apply X_len; eq_refl)
      | (apply X_lenS; eq_refl)
      | (apply X_index; eq_refl; eq_refl; omega; omega)
      | (apply X_eqB; eq_refl; eq_refl)
      | (apply X_neqB; eq_refl; eq_refl)
      | (apply X_eqP; eq_refl; eq_refl)
      | (apply X_eqL; eq_refl; eq_refl)
      | (apply X_max; eq_refl; eq_refl)
      | (apply X_min; eq_refl; eq_refl)
      | (apply X_cap; eq_refl)
      | (apply X_alloc)
      | (apply X_box; eq_refl)
      | (apply X_makeMap))
  exact ⟨rfl, rfl⟩
theorem Not_cv {w : World} {x : Int} (h0 : 0 ≤ x) (h1 : x ≤ 100000) : CV Try.prog 126 [num x] w fun v w' => v = num (notM x) ∧ w' = w := by
  refine enter 9 [2] Try.func126 rfl rfl rfl (by decide) rfl ?_
  repeat' (first
      | (apply WC_seqK; intro K hK)
      | (apply hK; clear hK)
      | (clear hK; apply hK; clear hK)
      | (clear hK; clear hK; apply hK; clear hK)
      | (clear hK; clear hK; clear hK; apply hK; clear hK)
      | (apply WC_block)
      | (apply WC_region)
      | (apply WL_nil)
      | (apply thenQ_normal)
      | (apply thenQ_ret)
      | (apply thenQ_exit)
      | (apply blockQ_hit)
      | (apply blockQ_miss; eq_refl)
      | (apply blockQ_ret)
      | (apply blockQ_normal)
      | (apply WC_ret)
      | (apply WC_exit)
      | (apply WC_skip)
      | (apply WC_label)
      | (apply WC_if_true; eq_refl)
      | (apply WC_if_false; eq_refl)
      | (apply ret1; eq_refl)
      | (apply ret2; eq_refl; eq_refl)
      | (apply ret3; eq_refl; eq_refl; eq_refl)
      | (apply ret0)
      | (apply ret0n)
      | (apply WL_on0; eq_refl)
      | (apply WL_onG; eq_refl; eq_refl; eq_refl; eq_refl)
      | (apply WL_noG; eq_refl; eq_refl; eq_refl; eq_refl)
      | (apply X_pv; eq_refl; first | exact trivial | omega)
      | (apply X_field; eq_refl)
      | (apply X_loadR; eq_refl; (first | assumption | (apply Blk.alloc; assumption) | apply Blk.new | apply Blk.newA | (apply Blk.alloc; first | apply Blk.newA | (apply Blk.alloc; first | assumption | apply Blk.newA))); eq_refl)
      | (apply X_loadW; eq_refl; (first | assumption | (apply Blk.alloc; assumption) | apply Blk.new | apply Blk.newA | (apply Blk.alloc; first | apply Blk.newA | (apply Blk.alloc; first | assumption | apply Blk.newA))); eq_refl)
      | (apply X_loadC; eq_refl; (first | assumption | (apply cel; first | assumption | (apply cel; assumption))))
      | (apply X_cmpT; eq_refl; eq_refl; omega)
      | (apply X_cmpF; eq_refl; eq_refl; omega)
      | (apply X_cmp; eq_refl; eq_refl; all_goals intro _)
      | (apply X_len; eq_refl)
      | (apply X_lenS; eq_refl)
      | (apply X_index; eq_refl; eq_refl; omega; omega)
      | (apply X_eqB; eq_refl; eq_refl)
      | (apply X_neqB; eq_refl; eq_refl)
      | (apply X_eqP; eq_refl; eq_refl)
      | (apply X_eqL; eq_refl; eq_refl)
      | (apply X_max; eq_refl; eq_refl)
      | (apply X_min; eq_refl; eq_refl)
      | (apply X_cap; eq_refl)
      | (apply X_alloc)
      | (apply X_box; eq_refl)
      | (apply X_makeMap))
  refine ⟨?_, rfl⟩
  unfold notM
  show num _ = num _
  congr 1
  omega
section
variable {w : World} {g : Nat} {S : Nat → Prop} {i l : Int} {gs : List Gate} {x y s : Int}
theorem has_cv (hB : Rbl w g S i l gs) (hi : 0 ≤ i) (hl : 0 ≤ l) (hI : Inv (i + l) gs) :
    CV Try.prog 123 [ptr g, num x] w fun v w' => (v = .bool true ∧ okM (i + l) gs x ∨ v = .bool false ∧ ¬ okM (i + l) gs x) ∧ Chg w w' none_ ∧ Rbl w' g S i l gs := by
  obtain ⟨v, hP⟩ := hB
  obtain ⟨A, c, rfl⟩ := row_form hP.row
  have hH := hP.head
  have htop := hI.top
  refine enter 15 [4] Try.func123 rfl rfl rfl (by decide) rfl ?_
  repeat' (first
      | (apply X_fn; eq_refl; (apply Max_cv; assumption; assumption; assumption; assumption); rintro _ _ ⟨rfl, rfl⟩)
      | (apply WC_seqK; intro K hK)
      | (apply hK; clear hK)
      | (clear hK; apply hK; clear hK)
      | (clear hK; clear hK; apply hK; clear hK)
      | (clear hK; clear hK; clear hK; apply hK; clear hK)
      | (apply WC_block)
      | (apply WC_region)
      | (apply WL_nil)
      | (apply thenQ_normal)
      | (apply thenQ_ret)
      | (apply thenQ_exit)
      | (apply blockQ_hit)
      | (apply blockQ_miss; eq_refl)
      | (apply blockQ_ret)
      | (apply blockQ_normal)
      | (apply WC_ret)
      | (apply WC_exit)
      | (apply WC_skip)
      | (apply WC_label)
      | (apply WC_if_true; eq_refl)
      | (apply WC_if_false; eq_refl)
      | (apply ret1; eq_refl)
      | (apply ret2; eq_refl; eq_refl)
      | (apply ret3; eq_refl; eq_refl; eq_refl)
      | (apply ret0)
      | (apply ret0n)
      | (apply WL_on0; eq_refl)
      | (apply WL_onG; eq_refl; eq_refl; eq_refl; eq_refl)
      | (apply WL_noG; eq_refl; eq_refl; eq_refl; eq_refl)
      | (apply X_pv; eq_refl; first | exact trivial | omega)
      | (apply X_field; eq_refl)
      | (apply X_loadR; eq_refl; (first | assumption | (apply Blk.alloc; assumption) | apply Blk.new | apply Blk.newA | (apply Blk.alloc; first | apply Blk.newA | (apply Blk.alloc; first | assumption | apply Blk.newA))); eq_refl)
      | (apply X_loadW; eq_refl; (first | assumption | (apply Blk.alloc; assumption) | apply Blk.new | apply Blk.newA | (apply Blk.alloc; first | apply Blk.newA | (apply Blk.alloc; first | assumption | apply Blk.newA))); eq_refl)
      | (apply X_loadC; eq_refl; (first | assumption | (apply cel; first | assumption | (apply cel; assumption))))
      | (apply X_cmpT; eq_refl; eq_refl; omega)
      | (apply X_cmpF; eq_refl; eq_refl; omega)
      | (apply X_cmp; eq_refl; eq_refl; all_goals intro _)
      | (apply X_len; eq_refl)
      | (apply X_lenS; eq_refl)
      | (apply X_index; eq_refl; eq_refl; omega; omega)
      | (apply X_eqB; eq_refl; eq_refl)
      | (apply X_neqB; eq_refl; eq_refl)
      | (apply X_eqP; eq_refl; eq_refl)
      | (apply X_eqL; eq_refl; eq_refl)
      | (apply X_max; eq_refl; eq_refl)
      | (apply X_min; eq_refl; eq_refl)
      | (apply X_cap; eq_refl)
      | (apply X_alloc)
      | (apply X_box; eq_refl)
      | (apply X_makeMap))
  · exact ⟨.inl ⟨rfl, by unfold okM; omega⟩, Chg.drew _ _, ⟨_, hP.chg (Chg.drew w none_) fun _ _ => id⟩⟩
  · exact ⟨.inr ⟨rfl, by unfold okM; omega⟩, Chg.drew _ _, ⟨_, hP.chg (Chg.drew w none_) fun _ _ => id⟩⟩
  · exact ⟨.inr ⟨rfl, by unfold okM; omega⟩, Chg.refl _ _, ⟨_, hP⟩⟩
theorem flat_get : ∀ (gs : List Gate) (k : Nat) (hk : k < gs.length), (flat gs)[k * 3 + 0]? = some (num gs[k].1) ∧ (flat gs)[k * 3 + 1]? = some (num gs[k].2.1) ∧ (flat gs)[k * 3 + 2]? = some (num gs[k].2.2)
  | g :: r, 0, _ => ⟨rfl, rfl, rfl⟩
  | g :: r, k + 1, hk => by
    have ih := flat_get r k (by simpa using hk)
    have e : ∀ j, (flat (g :: r))[(k + 1) * 3 + j]? = (flat r)[k * 3 + j]? := fun j => by
      show (gcells g ++ flat r)[(k + 1) * 3 + j]? = _
      rw [List.getElem?_append_right (by simp [gcells]; omega)]
      congr 1
      simp [gcells]; omega
    simp only [e]
    simpa using ih
theorem gate_cells {gb n c : Nat} (h : w.ownsRow 0 43 3 (.slice (some ⟨gb, 0, none⟩) n c) n (flat gs)) (hn : n = gs.length) (k : Nat) (hk : k < gs.length) :
    w.cell? ⟨gb, 0 + (k : Int).toNat * 3 + 0, none⟩ = some (num gs[k].1) ∧ w.cell? ⟨gb, 0 + (k : Int).toNat * 3 + 1, none⟩ = some (num gs[k].2.1) ∧ w.cell? ⟨gb, 0 + (k : Int).toNat * 3 + 2, none⟩ = some (num gs[k].2.2) := by
  obtain ⟨h0, h1, h2⟩ := flat_get gs k hk
  have e : (k : Int).toNat = k := by omega
  refine ⟨?_, ?_, ?_⟩ <;> rw [e, Nat.zero_add, h.cellAt _ (by omega)] <;> assumption
end
end SC
end Go.Proofs.Ytkndegjodnciaaa

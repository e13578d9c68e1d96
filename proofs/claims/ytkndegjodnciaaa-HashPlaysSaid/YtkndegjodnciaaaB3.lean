/- The builder of hash: its memory; what each of its functions does. -/
import Derived.Test.YtkndegjodnciaaaB1
set_option linter.unusedVariables false
set_option linter.unusedSimpArgs false
namespace Go.Proofs.Ytkndegjodnciaaa
namespace SC
open Go.Proofs Go.Maps
attribute [local irreducible] WC WL WX WS WO OX Does DoesU Enters CV Pure thenQ blockQ retQ Wants
set_option maxRecDepth 100000
theorem mixed : Try.prog.follows .mixedOrders = true := by kernel_rfl
abbrev ptr (g : Nat) : Value := .pointer (some ⟨g, 0, none⟩)
abbrev num (a : Int) : Value := .int .i64 a
/-- What is owned before and behind: only new blocks come in. -/
structure Step (w : World) (S : Nat → Prop) (w' : World) (S' : Nat → Prop) : Prop where
  chg : Chg w w' S
  new : ∀ k, S' k → S k ∨ (w.heap.size ≤ k ∧ k < w'.heap.size)
theorem Step.refl (w : World) (S : Nat → Prop) : Step w S w S := ⟨Chg.refl w S, fun k h => .inl h⟩
theorem Step.trans {w w1 w2 : World} {S S1 S2 : Nat → Prop} (h : Step w S w1 S1) (h' : Step w1 S1 w2 S2) : Step w S w2 S2 :=
  ⟨h.chg.trans h'.chg fun k hk h1 => (h.new k h1).elim id (fun hh => absurd hh.1 (by omega)), fun k hk => by
    rcases h'.new k hk with h1 | h1
    · rcases h.new k h1 with h2 | h2
      · exact .inl h2
      · exact .inr ⟨h2.1, Nat.lt_of_lt_of_le h2.2 h'.chg.size⟩
    · exact .inr ⟨Nat.le_trans h.chg.size h1.1, h1.2⟩⟩
theorem Step.of_chg {w w' : World} {S : Nat → Prop} (h : Chg w w' S) : Step w S w' S := ⟨h, fun k h => .inl h⟩
theorem row_chg {w w' : World} {v : Value} {n : Nat} {e : TypeId} {sz : Nat} {xs : List Value} {T : Nat → Prop} (h : w.ownsRow 0 e sz v n xs) (hc : Chg w w' T) (hn : ∀ k, v.ownBlock = some k → ¬ T k) : w'.ownsRow 0 e sz v n xs := by
  obtain ⟨h1, h2⟩ := h
  refine ⟨h1, ?_⟩
  rcases h2 with h2 | ⟨g, cap, cur, rfl, hb, hg, rest⟩
  · exact .inl h2
  · exact .inr ⟨g, cap, cur, rfl, hb, (hc.block g (Array.getElem?_eq_some_iff.1 hg).1 (hn g rfl)).trans hg, rest⟩
theorem row_apart {w : World} {v : Value} {n : Nat} {e : TypeId} {sz : Nat} {xs : List Value} {g : Nat} {t : TypeId} {cs : List Value} (h : w.ownsRow 0 e sz v n xs) (hb : Blk w g t cs) (hne : t ≠ e) : v.ownBlock ≠ some g := by
  rcases h.2 with ⟨rfl, _⟩ | ⟨g', cap, cur, rfl, _, hg, _⟩
  · simp [Value.ownBlock]
  · intro hh
    simp only [Value.ownBlock, Option.some.injEq] at hh
    subst hh
    unfold Blk at hb
    rw [hg] at hb
    simp at hb
    exact hne hb.2.symm
theorem map_apart {w : World} {m N : Nat} {f : Int → Int → Int} {g : Nat} {t : TypeId} {cs : List Value} (h : MapHas w m N f) (hb : Blk w g t cs) : m ≠ g := by
  rintro rfl
  obtain ⟨D, ⟨es, clock, h1, _⟩, _⟩ := h
  unfold Blk at hb
  rw [h1] at hb
  cases hb
theorem map_row {w : World} {m N : Nat} {f : Int → Int → Int} {v : Value} {n : Nat} {e : TypeId} {sz : Nat} {xs : List Value} (h : MapHas w m N f) (hr : w.ownsRow 0 e sz v n xs) : v.ownBlock ≠ some m := by
  rcases hr.2 with ⟨rfl, _⟩ | ⟨g', cap, cur, rfl, _, hg, _⟩
  · simp [Value.ownBlock]
  · intro hh
    simp only [Value.ownBlock, Option.some.injEq] at hh
    subst hh
    obtain ⟨D, ⟨es, clock, h1, _⟩, _⟩ := h
    rw [h1] at hg
    cases hg
/-- The parts of a builder. -/
structure Parts (w : World) (g : Nat) (S : Nat → Prop) (i l : Int) (gs : List Gate) (v : Value) (m : Nat) : Prop where
  head : Blk w g 98 [num i, num l, v, .map (some m)]
  row : w.ownsRow 0 43 3 v gs.length (flat gs)
  map : MapHas w m gs.length (outOf gs)
  hg : S g
  hm : S m
  hv : ∀ k, v.ownBlock = some k → S k
  lt : ∀ k, S k → k < w.heap.size
theorem Parts.drew {w : World} {g : Nat} {S : Nat → Prop} {i l : Int} {gs : List Gate} {v : Value} {m : Nat} (h : Parts w g S i l gs v m) : Parts w.drew g S i l gs v m := ⟨h.head, h.row, h.map, h.hg, h.hm, h.hv, h.lt⟩
def Bld (w : World) (g : Nat) (S : Nat → Prop) (i l : Int) (gs : List Gate) : Prop := ∃ v m, Parts w g S i l gs v m
theorem Parts.chg {w w' : World} {g : Nat} {S : Nat → Prop} {i l : Int} {gs : List Gate} {v : Value} {m : Nat} (h : Parts w g S i l gs v m) {T : Nat → Prop} (hc : Chg w w' T) (hd : ∀ k, S k → ¬ T k) : Parts w' g S i l gs v m :=
  ⟨h.head.chg hc (hd _ h.hg), row_chg h.row hc fun k hk => hd k (h.hv k hk), h.map.chg hc (hd _ h.hm), h.hg, h.hm, h.hv, fun k hk => Nat.lt_of_lt_of_le (h.lt k hk) hc.size⟩
theorem Bld.chg {w w' : World} {g : Nat} {S : Nat → Prop} {i l : Int} {gs : List Gate} (h : Bld w g S i l gs) {T : Nat → Prop} (hc : Chg w w' T) (hd : ∀ k, S k → ¬ T k) : Bld w' g S i l gs := by
  obtain ⟨v, m, h⟩ := h
  exact ⟨v, m, h.chg hc hd⟩
theorem Parts.alloc {w : World} {g : Nat} {S : Nat → Prop} {i l : Int} {gs : List Gate} {v : Value} {m : Nat} (o : Obj) (h : Parts w g S i l gs v m) : Parts (w.alloc o) g S i l gs v m := h.chg (Chg.alloc w o none_) fun _ _ => id
/-- The row's value as a slice. -/
theorem row_form {w : World} {v : Value} {n : Nat} {e : TypeId} {sz : Nat} {xs : List Value} (h : w.ownsRow 0 e sz v n xs) : ∃ A c, v = .slice A n c := by
  rcases h.2 with ⟨rfl, rfl⟩ | ⟨g', cap, cur, rfl, _⟩
  · exact ⟨_, _, rfl⟩
  · exact ⟨_, _, rfl⟩
theorem greatest_cv {w : World} {g : Nat} {i l : Int} {A : Option Addr} {n c : Nat} {m : Value}
   (hb : Blk w g 98 [num i, num l, .slice A n c, m]) (hi : 0 ≤ i) (hl : 0 ≤ l) (hn : i + l + n ≤ 16384) :
    CV Try.prog 151 [ptr g] w fun v w' => v = num (i + l + n) ∧ w' = w.drew := by
  refine enter 18 [2] Try.func151 rfl rfl rfl (by decide) rfl ?_
  repeat' (first
      | (apply WC_seqK; intro K hK)
      | (apply hK; clear hK)
      | (clear hK; apply hK; clear hK)
      | (clear hK; clear hK; apply hK; clear hK)
      | (clear hK; clear hK; clear hK; apply hK; clear hK)
      | (apply WC_block)
      | (apply WC_region)
      | (apply WL_nil)
      | (apply thenQ_normal)
      | (apply thenQ_ret)
      | (apply thenQ_exit)
      | (apply blockQ_hit)
      | (apply blockQ_miss; eq_refl)
      | (apply blockQ_ret)
      | (apply blockQ_normal)
      | (apply WC_ret)
      | (apply WC_exit)
      | (apply WC_skip)
      | (apply WC_label)
      | (apply WC_if_true; eq_refl)
      | (apply WC_if_false; eq_refl)
      | (apply ret1; eq_refl)
      | (apply ret2; eq_refl; eq_refl)
      | (apply ret3; eq_refl; eq_refl; eq_refl)
      | (apply ret0)
      | (apply ret0n)
      | (apply WL_on0; eq_refl)
      | (apply WL_onG; eq_refl; eq_refl; eq_refl; eq_refl)
      | (apply WL_noG; eq_refl; eq_refl; eq_refl; eq_refl)
      | (apply X_pv; eq_refl; first | exact trivial | omega)
      | (apply X_field; eq_refl)
      | (apply X_loadR; eq_refl; (first | assumption | (apply Blk.alloc; assumption) | apply Blk.new | apply Blk.newA | (apply Blk.alloc; first | apply Blk.newA | (apply Blk.alloc; first | assumption | apply Blk.newA))); eq_refl)
      | (apply X_loadW; eq_refl; (first | assumption | (apply Blk.alloc; assumption) | apply Blk.new | apply Blk.newA | (apply Blk.alloc; first | apply Blk.newA | (apply Blk.alloc; first | assumption | apply Blk.newA))); eq_refl)
      | (apply X_loadC; eq_refl; (first | assumption | (apply cel; first | assumption | (apply cel; assumption))))
      | (apply X_cmpT; eq_refl; eq_refl; omega)
      | (apply X_cmpF; eq_refl; eq_refl; omega)
      | (apply X_cmp; eq_refl; eq_refl; all_goals intro _)
      | (apply X_len; eq_refl)
      | (apply X_lenS; eq_refl)
      | (apply X_index; eq_refl; eq_refl; omega; omega)
      | (apply X_eqB; eq_refl; eq_refl)
      | (apply X_neqB; eq_refl; eq_refl)
      | (apply X_eqP; eq_refl; eq_refl)
      | (apply X_eqL; eq_refl; eq_refl)
      | (apply X_max; eq_refl; eq_refl)
      | (apply X_min; eq_refl; eq_refl)
      | (apply X_cap; eq_refl)
      | (apply X_alloc)
      | (apply X_box; eq_refl)
      | (apply X_makeMap))
  refine WC_draws [(0, true), (1, true), (2, true), (3, true), (4, true), (5, true), (6, true), (7, true), (8, true), (9, true), (10, true), (11, true), (12, true), (13, true), (14, true), (15, true)] (fun w => Blk w g 98 [num i, num l, .slice A n c, m]) mixed (by kernel_rfl) (by kernel_rfl) ?_
  have hS : Blk w.drew g 98 [num i, num l, .slice A n c, m] := hb
  repeat' (first
      | (apply WC_seqK; intro K hK)
      | (apply hK; clear hK)
      | (clear hK; apply hK; clear hK)
      | (clear hK; clear hK; apply hK; clear hK)
      | (clear hK; clear hK; clear hK; apply hK; clear hK)
      | (apply WC_block)
      | (apply WC_region)
      | (apply WL_nil)
      | (apply thenQ_normal)
      | (apply thenQ_ret)
      | (apply thenQ_exit)
      | (apply blockQ_hit)
      | (apply blockQ_miss; eq_refl)
      | (apply blockQ_ret)
      | (apply blockQ_normal)
      | (apply WC_ret)
      | (apply WC_exit)
      | (apply WC_skip)
      | (apply WC_label)
      | (apply WC_if_true; eq_refl)
      | (apply WC_if_false; eq_refl)
      | (apply ret1; eq_refl)
      | (apply ret2; eq_refl; eq_refl)
      | (apply ret3; eq_refl; eq_refl; eq_refl)
      | (apply ret0)
      | (apply ret0n)
      | (apply WS_nil)
      | (apply WS_next; eq_refl)
      | (apply WO_on0; eq_refl)
      | (apply WO_onG; eq_refl; eq_refl; eq_refl; eq_refl)
      | (apply WO_noG; eq_refl; eq_refl; eq_refl; eq_refl; (first | assumption | exact trivial))
      | (apply O_pv; eq_refl; (first | exact trivial | omega); (first | assumption | exact trivial))
      | (apply O_field; eq_refl; (first | assumption | exact trivial))
      | (apply O_loadR; eq_refl; (first | (intro _ h; exact h) | (intro _ h; exact h.1) | (intro _ h; exact h.2) | (intro _ h; exact h.2.1) | (intro _ h; exact h.2.2) | (intro _ h; exact h.2.2.1) | (intro _ h; exact h.2.2.2)); eq_refl; (first | assumption | exact trivial))
      | (apply O_loadW; eq_refl; (first | (intro _ h; exact h) | (intro _ h; exact h.1) | (intro _ h; exact h.2) | (intro _ h; exact h.2.1) | (intro _ h; exact h.2.2) | (intro _ h; exact h.2.2.1) | (intro _ h; exact h.2.2.2)); eq_refl; (first | assumption | exact trivial))
      | (apply O_loadC; eq_refl; (first | (intro _ h; exact h) | (intro _ h; exact h.1) | (intro _ h; exact h.2) | (intro _ h; exact h.2.1) | (intro _ h; exact h.2.2) | (intro _ h; exact h.2.2.1) | (intro _ h; exact h.2.2.2)); (first | assumption | exact trivial))
      | (apply O_cmpT; eq_refl; eq_refl; omega; (first | assumption | exact trivial))
      | (apply O_cmpF; eq_refl; eq_refl; omega; (first | assumption | exact trivial))
      | (apply O_cmp; eq_refl; eq_refl; (first | assumption | exact trivial); all_goals intro _)
      | (apply O_len; eq_refl; (first | assumption | exact trivial))
      | (apply O_lenS; eq_refl; (first | assumption | exact trivial))
      | (apply O_index; eq_refl; eq_refl; omega; omega; (first | assumption | exact trivial))
      | (apply O_eqB; eq_refl; eq_refl; (first | assumption | exact trivial))
      | (apply O_neqB; eq_refl; eq_refl; (first | assumption | exact trivial))
      | (apply O_pvL; eq_refl; (first | exact trivial | omega); (first | (intro _; assumption) | exact lo (by kernel_rfl)))
      | (apply WL_on0; eq_refl)
      | (apply WL_onG; eq_refl; eq_refl; eq_refl; eq_refl)
      | (apply WL_noG; eq_refl; eq_refl; eq_refl; eq_refl)
      | (apply X_pv; eq_refl; first | exact trivial | omega)
      | (apply X_field; eq_refl)
      | (apply X_loadR; eq_refl; (first | assumption | (apply Blk.alloc; assumption) | apply Blk.new | apply Blk.newA | (apply Blk.alloc; first | apply Blk.newA | (apply Blk.alloc; first | assumption | apply Blk.newA))); eq_refl)
      | (apply X_loadW; eq_refl; (first | assumption | (apply Blk.alloc; assumption) | apply Blk.new | apply Blk.newA | (apply Blk.alloc; first | apply Blk.newA | (apply Blk.alloc; first | assumption | apply Blk.newA))); eq_refl)
      | (apply X_loadC; eq_refl; (first | assumption | (apply cel; first | assumption | (apply cel; assumption))))
      | (apply X_cmpT; eq_refl; eq_refl; omega)
      | (apply X_cmpF; eq_refl; eq_refl; omega)
      | (apply X_cmp; eq_refl; eq_refl; all_goals intro _)
      | (apply X_len; eq_refl)
      | (apply X_lenS; eq_refl)
      | (apply X_index; eq_refl; eq_refl; omega; omega)
      | (apply X_eqB; eq_refl; eq_refl)
      | (apply X_neqB; eq_refl; eq_refl)
      | (apply X_eqP; eq_refl; eq_refl)
      | (apply X_eqL; eq_refl; eq_refl)
      | (apply X_max; eq_refl; eq_refl)
      | (apply X_min; eq_refl; eq_refl)
      | (apply X_cap; eq_refl)
      | (apply X_alloc)
      | (apply X_box; eq_refl)
      | (apply X_makeMap))
  exact ⟨rfl, rfl⟩
theorem eq168 {e : Env} {x y : Operand} {ty : TypeId} {p q p' q' : Int} (h : ev e x = some (.agg #[num p, num q])) (h1 : ev e y = some (.agg #[num p', num q'])) (c : Bool) (hc : decide (p = p' ∧ q = q') = c) (hp : fits p) (hq : fits q) (hp' : fits p') (hq' : fits q') :
    Pure Try.prog (.binOp .eql 168 x y 168) ty e (.bool c) := by
  subst hc
  unfold Pure Does
  intro w ρ dst pos af g hρ
  obtain ⟨r, h2, h3⟩ := run_equal_deep (P := Try.prog) w (m := 2) (by decide) (k := 168) (by kernel_rfl) wide168 (key168 hp hq) (key168 hp' hq')
  have : r = decide (p = p' ∧ q = q') := by
    rw [Bool.eq_iff_iff, h3, decide_eq_true_iff]
    exact ⟨fun hh => kl_inj hp hq hp' hq' hh, fun hh => by rw [hh.1, hh.2]⟩
  subst this
  simp [execOp, hρ _ _ h, hρ _ _ h1, eqGuard, binOp, h2]
section
variable {n : Nat} {all rest : List Oper} {K : Env → World → Prop} {e : Env} {w : World} {d : Option Tmp} {ty : TypeId} {pos : String} {af : Array Edge} {g : Option (Nat × Bool)} {x y : Operand} {p q p' q' : Int}
theorem X_if168 (h : ev e x = some (.agg #[num p, num q])) (h1 : ev e y = some (.agg #[num p', num q'])) (hp : fits p) (hq : fits q) (hp' : fits p') (hq' : fits q') (ht : p = p' ∧ q = q' → WL Try.prog n all K rest (push d (.bool true) e) w) (hf : ¬ (p = p' ∧ q = q') → WL Try.prog n all K rest (push d (.bool false) e) w) :
    WX Try.prog n all K rest d (.binOp .eql 168 x y 168) ty e w := by
  by_cases hc : p = p' ∧ q = q'
  · exact X_pure (eq168 h h1 true (decide_eq_true hc) hp hq hp' hq') (ht hc)
  · exact X_pure (eq168 h h1 false (decide_eq_false hc) hp hq hp' hq') (hf hc)
end
section
variable {P : Program} {n : Nat} {all : List Oper} {K : Env → World → Prop} {S : World → Prop} {r : List (Nat × Bool)} {i : Nat} {e : Env} {w : World} {d : Option Tmp} {ty : TypeId} {x y z : Operand}
theorem O_updateG {b N : Nat} {f : Int → Int → Int} {p q v : Int} (h : ev e x = some (.map (some b))) (h1 : ev e y = some (.agg #[num p, num q])) (h2 : ev e z = some (num v)) (hm : MapHas w b N f) (hp : fits p) (hq : fits q) (hv : fits v) (hN : N < maxLen)
    (hr : ∀ w', MapHas w' b (N + 1) (fun p' q' => if p' = p ∧ q' = q then v else f p' q') → Chg w w' (fun k => k = b) → (loose .any all.toArray i = false → S w') ∧ WS Try.prog n all S K r (push d undef e) w') :
    OX Try.prog n all S K i false r d (.mapUpdate 96 x y z) ty e w := by
  obtain ⟨w', hd, h3, h4⟩ := does_updateG (ty := ty) h h1 h2 hm hp hq hv hN
  exact O_doesU hd (hr w' h3 h4).1 (hr w' h3 h4).2
end
instance (a : Int) : Decidable (fits a) := by unfold fits; infer_instance
/-- What 'and' answers, behind a world that may be another one. -/
def After (w : World) (g : Nat) (S : Nat → Prop) (i l : Int) (r : Int × Int × List Gate) (v : Value) (w' : World) : Prop :=
  v = .tuple #[num r.1, num r.2.1] ∧ ∃ S', Bld w' g S' i l r.2.2 ∧ Step w S w' S'
theorem After.same {w w' : World} {g : Nat} {S : Nat → Prop} {i l a b : Int} {gs : List Gate} {r : Int × Int × List Gate} (h : Bld w' g S i l gs) (hc : Chg w w' S) (hr : r = (a, b, gs)) : After w g S i l r (.tuple #[num a, num b]) w' := by
  subst hr
  exact ⟨rfl, S, h, Step.of_chg hc⟩
theorem and_cv {w : World} {g : Nat} {S : Nat → Prop} {i l : Int} {gs : List Gate} {x y : Int} (hB : Bld w g S i l gs) (hi : 0 ≤ i) (hl : 0 ≤ l) (hI : Inv (i + l) gs) (hx : okM (i + l) gs x) (hy : okM (i + l) gs y) :
    CV Try.prog 121 [ptr g, num x, num y] w (After w g S i l (andM (i + l) gs x y)) := by
  obtain ⟨v, m, hB⟩ := hB
  obtain ⟨A, c, rfl⟩ := row_form hB.row
  have hx' := hx; have hy' := hy
  unfold okM at hx' hy'
  have htop := hI.top
  have hlt := hB.lt
  show CV _ _ _ _ (After w g S i l (andP (i + l) gs (max x y) (min x y)))
  refine enter 99 [6, 7] Try.func121 rfl rfl rfl (by decide) rfl ?_
  repeat' (first
      | (apply WC_seqK; intro K hK)
      | (apply hK; clear hK)
      | (clear hK; apply hK; clear hK)
      | (clear hK; clear hK; apply hK; clear hK)
      | (clear hK; clear hK; clear hK; apply hK; clear hK)
      | (apply WC_block)
      | (apply WC_region)
      | (apply WL_nil)
      | (apply thenQ_normal)
      | (apply thenQ_ret)
      | (apply thenQ_exit)
      | (apply blockQ_hit)
      | (apply blockQ_miss; eq_refl)
      | (apply blockQ_ret)
      | (apply blockQ_normal)
      | (apply WC_ret)
      | (apply WC_exit)
      | (apply WC_skip)
      | (apply WC_label)
      | (apply WC_if_true; eq_refl)
      | (apply WC_if_false; eq_refl)
      | (apply ret1; eq_refl)
      | (apply ret2; eq_refl; eq_refl)
      | (apply ret3; eq_refl; eq_refl; eq_refl)
      | (apply ret0)
      | (apply ret0n)
      | (apply WL_on0; eq_refl)
      | (apply WL_onG; eq_refl; eq_refl; eq_refl; eq_refl)
      | (apply WL_noG; eq_refl; eq_refl; eq_refl; eq_refl)
      | (apply X_pv; eq_refl; first | exact trivial | omega)
      | (apply X_field; eq_refl)
      | (apply X_loadR; eq_refl; (first | assumption | (apply Blk.alloc; assumption) | apply Blk.new | apply Blk.newA | (apply Blk.alloc; first | apply Blk.newA | (apply Blk.alloc; first | assumption | apply Blk.newA))); eq_refl)
      | (apply X_loadW; eq_refl; (first | assumption | (apply Blk.alloc; assumption) | apply Blk.new | apply Blk.newA | (apply Blk.alloc; first | apply Blk.newA | (apply Blk.alloc; first | assumption | apply Blk.newA))); eq_refl)
      | (apply X_loadC; eq_refl; (first | assumption | (apply cel; first | assumption | (apply cel; assumption))))
      | (apply X_cmpT; eq_refl; eq_refl; omega)
      | (apply X_cmpF; eq_refl; eq_refl; omega)
      | (apply X_cmp; eq_refl; eq_refl; all_goals intro _)
      | (apply X_len; eq_refl)
      | (apply X_lenS; eq_refl)
      | (apply X_index; eq_refl; eq_refl; omega; omega)
      | (apply X_eqB; eq_refl; eq_refl)
      | (apply X_neqB; eq_refl; eq_refl)
      | (apply X_eqP; eq_refl; eq_refl)
      | (apply X_eqL; eq_refl; eq_refl)
      | (apply X_max; eq_refl; eq_refl)
      | (apply X_min; eq_refl; eq_refl)
      | (apply X_cap; eq_refl)
      | (apply X_alloc)
      | (apply X_box; eq_refl)
      | (apply X_makeMap)
      | (apply X_pure; apply build168_0_1 <;> eq_refl)
      | (apply X_pure; apply build168_)
      | (apply X_pure; apply build43_0_1_2 <;> eq_refl)
      | (apply X_does; apply buildS37_1 <;> eq_refl))
  refine X_doesU (does_storeA (vs := [num (max x y), num (min x y)]) (o := 0) (b := w.heap.size) rfl rfl (Blk.newA w _ _) rfl (by exact Nat.le_refl 2) (by simp [Value.oneCell'])) ?_
  refine WL_turn (fun w1 => Parts w1 g S i l gs (.slice A gs.length c) m ∧ Blk w1 w.heap.size 168 [num (max x y), num (min x y)] ∧ Chg w w1 none_ ∧ w1.heap.size = w.heap.size + 1) ?_ ?_
  · have hne : ∀ k, S k → ¬ k = w.heap.size := fun k hk => by have := hlt k hk; omega
    exact ⟨(hB.alloc _).chg (Chg.setRow _ w.heap.size _ (S := fun k => k = w.heap.size) rfl) hne, (Blk.newA w _ 168).set [num (max x y), num (min x y)], (Chg.alloc w _ none_).trans (Chg.setRow _ w.heap.size _ (S := fun k => k = w.heap.size) rfl) fun k hk h => by omega, by simp [World.setRow]⟩
  rintro w1 ⟨hB1, hP1, hC1, hz1⟩
  have hpq : min x y ≤ max x y := by omega
  have hq0 : 0 ≤ min x y := by omega
  have hp1 : max x y ≤ 32769 := by omega
  generalize max x y = p at *
  generalize min x y = q at *
  have hp : fits p := by unfold fits; omega
  have hq : fits q := by unfold fits; omega
  clear hx' hy' hx hy
  repeat' (first
      | (apply X_if168; eq_refl; eq_refl; (first | assumption | decide); (first | assumption | decide); (first | assumption | decide); (first | assumption | decide); all_goals intro _)
      | (apply WC_seqK; intro K hK)
      | (apply hK; clear hK)
      | (clear hK; apply hK; clear hK)
      | (clear hK; clear hK; apply hK; clear hK)
      | (clear hK; clear hK; clear hK; apply hK; clear hK)
      | (apply WC_block)
      | (apply WC_region)
      | (apply WL_nil)
      | (apply thenQ_normal)
      | (apply thenQ_ret)
      | (apply thenQ_exit)
      | (apply blockQ_hit)
      | (apply blockQ_miss; eq_refl)
      | (apply blockQ_ret)
      | (apply blockQ_normal)
      | (apply WC_ret)
      | (apply WC_exit)
      | (apply WC_skip)
      | (apply WC_label)
      | (apply WC_if_true; eq_refl)
      | (apply WC_if_false; eq_refl)
      | (apply ret1; eq_refl)
      | (apply ret2; eq_refl; eq_refl)
      | (apply ret3; eq_refl; eq_refl; eq_refl)
      | (apply ret0)
      | (apply ret0n)
      | (apply WL_on0; eq_refl)
      | (apply WL_onG; eq_refl; eq_refl; eq_refl; eq_refl)
      | (apply WL_noG; eq_refl; eq_refl; eq_refl; eq_refl)
      | (apply X_pv; eq_refl; first | exact trivial | omega)
      | (apply X_field; eq_refl)
      | (apply X_loadR; eq_refl; (first | assumption | (apply Blk.alloc; assumption) | apply Blk.new | apply Blk.newA | (apply Blk.alloc; first | apply Blk.newA | (apply Blk.alloc; first | assumption | apply Blk.newA))); eq_refl)
      | (apply X_loadW; eq_refl; (first | assumption | (apply Blk.alloc; assumption) | apply Blk.new | apply Blk.newA | (apply Blk.alloc; first | apply Blk.newA | (apply Blk.alloc; first | assumption | apply Blk.newA))); eq_refl)
      | (apply X_loadC; eq_refl; (first | assumption | (apply cel; first | assumption | (apply cel; assumption))))
      | (apply X_cmpT; eq_refl; eq_refl; omega)
      | (apply X_cmpF; eq_refl; eq_refl; omega)
      | (apply X_cmp; eq_refl; eq_refl; all_goals intro _)
      | (apply X_len; eq_refl)
      | (apply X_lenS; eq_refl)
      | (apply X_index; eq_refl; eq_refl; omega; omega)
      | (apply X_eqB; eq_refl; eq_refl)
      | (apply X_neqB; eq_refl; eq_refl)
      | (apply X_eqP; eq_refl; eq_refl)
      | (apply X_eqL; eq_refl; eq_refl)
      | (apply X_max; eq_refl; eq_refl)
      | (apply X_min; eq_refl; eq_refl)
      | (apply X_cap; eq_refl)
      | (apply X_alloc)
      | (apply X_box; eq_refl)
      | (apply X_makeMap)
      | (apply X_pure; apply build168_0_1 <;> eq_refl)
      | (apply X_pure; apply build168_)
      | (apply X_pure; apply build43_0_1_2 <;> eq_refl)
      | (apply X_does; apply buildS37_1 <;> eq_refl))
  any_goals (exact After.same ⟨_, _, hB1⟩ (hC1.mono fun _ h => h.elim) (by first | exact andP_zero (by omega) | exact andP_same (by omega) (by omega)))
  have hH1 := hB1.head
  have hm1 := hB1.map
  refine WC_draws [(0, true), (1, true), (2, true), (3, true), (4, true), (5, true), (6, true)] (fun w1 => Blk w1 g 98 [num i, num l, .slice A gs.length c, .map (some m)] ∧ Blk w1 w.heap.size 168 [num p, num q] ∧ MapHas w1 m gs.length (outOf gs)) mixed (by kernel_rfl) (by kernel_rfl) ?_
  have hS : Blk w1.drew g 98 [num i, num l, .slice A gs.length c, .map (some m)] ∧ Blk w1.drew w.heap.size 168 [num p, num q] ∧ MapHas w1.drew m gs.length (outOf gs) := ⟨hH1, hP1, hm1⟩
  repeat' (first
      | (apply O_quiet; (intro w h; apply does_lookupG; eq_refl; eq_refl; exact h.2.2; assumption; assumption); assumption)
      | (apply X_fn; eq_refl; (apply greatest_cv; assumption; assumption; assumption; assumption); rintro _ _ ⟨rfl, rfl⟩)
      | (apply WC_seqK; intro K hK)
      | (apply hK; clear hK)
      | (clear hK; apply hK; clear hK)
      | (clear hK; clear hK; apply hK; clear hK)
      | (clear hK; clear hK; clear hK; apply hK; clear hK)
      | (apply WC_block)
      | (apply WC_region)
      | (apply WL_nil)
      | (apply thenQ_normal)
      | (apply thenQ_ret)
      | (apply thenQ_exit)
      | (apply blockQ_hit)
      | (apply blockQ_miss; eq_refl)
      | (apply blockQ_ret)
      | (apply blockQ_normal)
      | (apply WC_ret)
      | (apply WC_exit)
      | (apply WC_skip)
      | (apply WC_label)
      | (apply WC_if_true; eq_refl)
      | (apply WC_if_false; eq_refl)
      | (apply ret1; eq_refl)
      | (apply ret2; eq_refl; eq_refl)
      | (apply ret3; eq_refl; eq_refl; eq_refl)
      | (apply ret0)
      | (apply ret0n)
      | (apply WS_nil)
      | (apply WS_next; eq_refl)
      | (apply WO_on0; eq_refl)
      | (apply WO_onG; eq_refl; eq_refl; eq_refl; eq_refl)
      | (apply WO_noG; eq_refl; eq_refl; eq_refl; eq_refl; (first | assumption | exact trivial))
      | (apply O_pv; eq_refl; (first | exact trivial | omega); (first | assumption | exact trivial))
      | (apply O_field; eq_refl; (first | assumption | exact trivial))
      | (apply O_loadR; eq_refl; (first | (intro _ h; exact h) | (intro _ h; exact h.1) | (intro _ h; exact h.2) | (intro _ h; exact h.2.1) | (intro _ h; exact h.2.2) | (intro _ h; exact h.2.2.1) | (intro _ h; exact h.2.2.2)); eq_refl; (first | assumption | exact trivial))
      | (apply O_loadW; eq_refl; (first | (intro _ h; exact h) | (intro _ h; exact h.1) | (intro _ h; exact h.2) | (intro _ h; exact h.2.1) | (intro _ h; exact h.2.2) | (intro _ h; exact h.2.2.1) | (intro _ h; exact h.2.2.2)); eq_refl; (first | assumption | exact trivial))
      | (apply O_loadC; eq_refl; (first | (intro _ h; exact h) | (intro _ h; exact h.1) | (intro _ h; exact h.2) | (intro _ h; exact h.2.1) | (intro _ h; exact h.2.2) | (intro _ h; exact h.2.2.1) | (intro _ h; exact h.2.2.2)); (first | assumption | exact trivial))
      | (apply O_cmpT; eq_refl; eq_refl; omega; (first | assumption | exact trivial))
      | (apply O_cmpF; eq_refl; eq_refl; omega; (first | assumption | exact trivial))
      | (apply O_cmp; eq_refl; eq_refl; (first | assumption | exact trivial); all_goals intro _)
      | (apply O_len; eq_refl; (first | assumption | exact trivial))
      | (apply O_lenS; eq_refl; (first | assumption | exact trivial))
      | (apply O_index; eq_refl; eq_refl; omega; omega; (first | assumption | exact trivial))
      | (apply O_eqB; eq_refl; eq_refl; (first | assumption | exact trivial))
      | (apply O_neqB; eq_refl; eq_refl; (first | assumption | exact trivial))
      | (apply O_pvL; eq_refl; (first | exact trivial | omega); (first | (intro _; assumption) | exact lo (by kernel_rfl)))
      | (apply O_pure; apply build168_0_1 <;> eq_refl; (first | assumption | exact trivial))
      | (apply O_pure; apply build168_; (first | assumption | exact trivial))
      | (apply O_pure; apply build43_0_1_2 <;> eq_refl; (first | assumption | exact trivial))
      | (apply WL_on0; eq_refl)
      | (apply WL_onG; eq_refl; eq_refl; eq_refl; eq_refl)
      | (apply WL_noG; eq_refl; eq_refl; eq_refl; eq_refl)
      | (apply X_pv; eq_refl; first | exact trivial | omega)
      | (apply X_field; eq_refl)
      | (apply X_loadR; eq_refl; (first | assumption | (apply Blk.alloc; assumption) | apply Blk.new | apply Blk.newA | (apply Blk.alloc; first | apply Blk.newA | (apply Blk.alloc; first | assumption | apply Blk.newA))); eq_refl)
      | (apply X_loadW; eq_refl; (first | assumption | (apply Blk.alloc; assumption) | apply Blk.new | apply Blk.newA | (apply Blk.alloc; first | apply Blk.newA | (apply Blk.alloc; first | assumption | apply Blk.newA))); eq_refl)
      | (apply X_loadC; eq_refl; (first | assumption | (apply cel; first | assumption | (apply cel; assumption))))
      | (apply X_cmpT; eq_refl; eq_refl; omega)
      | (apply X_cmpF; eq_refl; eq_refl; omega)
      | (apply X_cmp; eq_refl; eq_refl; all_goals intro _)
      | (apply X_len; eq_refl)
      | (apply X_lenS; eq_refl)
      | (apply X_index; eq_refl; eq_refl; omega; omega)
      | (apply X_eqB; eq_refl; eq_refl)
      | (apply X_neqB; eq_refl; eq_refl)
      | (apply X_eqP; eq_refl; eq_refl)
      | (apply X_eqL; eq_refl; eq_refl)
      | (apply X_max; eq_refl; eq_refl)
      | (apply X_min; eq_refl; eq_refl)
      | (apply X_cap; eq_refl)
      | (apply X_alloc)
      | (apply X_box; eq_refl)
      | (apply X_makeMap)
      | (apply X_pure; apply build168_0_1 <;> eq_refl)
      | (apply X_pure; apply build168_)
      | (apply X_pure; apply build43_0_1_2 <;> eq_refl)
      | (apply X_does; apply buildS37_1 <;> eq_refl))
  any_goals (first | exact After.same ⟨_, _, hB1⟩ hC1.any (andP_hit (by omega) (by omega) (by assumption)) | exact After.same ⟨_, _, hB1.drew⟩ hC1.dr.any (andP_hit (by omega) (by omega) (by assumption)) | exact After.same ⟨_, _, hB1.drew.drew⟩ hC1.dr.dr.any (andP_full (by omega) (by omega) (by assumption) (by assumption)))
  refine WC_turn (fun w2 => Parts w2 g S i l gs (.slice A gs.length c) m ∧ Blk w2 w.heap.size 168 [num p, num q] ∧ Chg w w2 none_ ∧ w2.heap.size = w.heap.size + 1) ⟨hB1.drew.drew.drew, hP1, hC1.dr.dr.dr, hz1⟩ ?_
  rintro w2 ⟨hB2, hP2, hC2, hz2⟩
  clear hB1 hP1 hC1 hz1 hS hH1 hm1
  have hH2 := hB2.head
  refine WC_draws [(0, true), (1, true), (2, true), (3, true), (4, true), (5, true), (6, true), (7, true), (8, true), (9, true), (10, true), (11, false), (12, false), (13, true), (14, true), (15, false)] (fun w1 => Blk w1 g 98 [num i, num l, .slice A gs.length c, .map (some m)] ∧ Blk w1 w.heap.size 168 [num p, num q]) mixed (by kernel_rfl) (by kernel_rfl) ?_
  have hS : Blk w2.drew g 98 [num i, num l, .slice A gs.length c, .map (some m)] ∧ Blk w2.drew w.heap.size 168 [num p, num q] := ⟨hH2, hP2⟩
  repeat' (first
      | (apply WC_seqK; intro K hK)
      | (apply hK; clear hK)
      | (clear hK; apply hK; clear hK)
      | (clear hK; clear hK; apply hK; clear hK)
      | (clear hK; clear hK; clear hK; apply hK; clear hK)
      | (apply WC_block)
      | (apply WC_region)
      | (apply WL_nil)
      | (apply thenQ_normal)
      | (apply thenQ_ret)
      | (apply thenQ_exit)
      | (apply blockQ_hit)
      | (apply blockQ_miss; eq_refl)
      | (apply blockQ_ret)
      | (apply blockQ_normal)
      | (apply WC_ret)
      | (apply WC_exit)
      | (apply WC_skip)
      | (apply WC_label)
      | (apply WC_if_true; eq_refl)
      | (apply WC_if_false; eq_refl)
      | (apply ret1; eq_refl)
      | (apply ret2; eq_refl; eq_refl)
      | (apply ret3; eq_refl; eq_refl; eq_refl)
      | (apply ret0)
      | (apply ret0n)
      | (apply WS_nil)
      | (apply WS_next; eq_refl)
      | (apply WO_on0; eq_refl)
      | (apply WO_onG; eq_refl; eq_refl; eq_refl; eq_refl)
      | (apply WO_noG; eq_refl; eq_refl; eq_refl; eq_refl; (first | assumption | exact trivial))
      | (apply O_pv; eq_refl; (first | exact trivial | omega); (first | assumption | exact trivial))
      | (apply O_field; eq_refl; (first | assumption | exact trivial))
      | (apply O_loadR; eq_refl; (first | (intro _ h; exact h) | (intro _ h; exact h.1) | (intro _ h; exact h.2) | (intro _ h; exact h.2.1) | (intro _ h; exact h.2.2) | (intro _ h; exact h.2.2.1) | (intro _ h; exact h.2.2.2)); eq_refl; (first | assumption | exact trivial))
      | (apply O_loadW; eq_refl; (first | (intro _ h; exact h) | (intro _ h; exact h.1) | (intro _ h; exact h.2) | (intro _ h; exact h.2.1) | (intro _ h; exact h.2.2) | (intro _ h; exact h.2.2.1) | (intro _ h; exact h.2.2.2)); eq_refl; (first | assumption | exact trivial))
      | (apply O_loadC; eq_refl; (first | (intro _ h; exact h) | (intro _ h; exact h.1) | (intro _ h; exact h.2) | (intro _ h; exact h.2.1) | (intro _ h; exact h.2.2) | (intro _ h; exact h.2.2.1) | (intro _ h; exact h.2.2.2)); (first | assumption | exact trivial))
      | (apply O_cmpT; eq_refl; eq_refl; omega; (first | assumption | exact trivial))
      | (apply O_cmpF; eq_refl; eq_refl; omega; (first | assumption | exact trivial))
      | (apply O_cmp; eq_refl; eq_refl; (first | assumption | exact trivial); all_goals intro _)
      | (apply O_len; eq_refl; (first | assumption | exact trivial))
      | (apply O_lenS; eq_refl; (first | assumption | exact trivial))
      | (apply O_index; eq_refl; eq_refl; omega; omega; (first | assumption | exact trivial))
      | (apply O_eqB; eq_refl; eq_refl; (first | assumption | exact trivial))
      | (apply O_neqB; eq_refl; eq_refl; (first | assumption | exact trivial))
      | (apply O_pvL; eq_refl; (first | exact trivial | omega); (first | (intro _; assumption) | exact lo (by kernel_rfl)))
      | (apply O_pure; apply build168_0_1 <;> eq_refl; (first | assumption | exact trivial))
      | (apply O_pure; apply build168_; (first | assumption | exact trivial))
      | (apply O_pure; apply build43_0_1_2 <;> eq_refl; (first | assumption | exact trivial))
      | (apply WL_on0; eq_refl)
      | (apply WL_onG; eq_refl; eq_refl; eq_refl; eq_refl)
      | (apply WL_noG; eq_refl; eq_refl; eq_refl; eq_refl)
      | (apply X_pv; eq_refl; first | exact trivial | omega)
      | (apply X_field; eq_refl)
      | (apply X_loadR; eq_refl; (first | assumption | (apply Blk.alloc; assumption) | apply Blk.new | apply Blk.newA | (apply Blk.alloc; first | apply Blk.newA | (apply Blk.alloc; first | assumption | apply Blk.newA))); eq_refl)
      | (apply X_loadW; eq_refl; (first | assumption | (apply Blk.alloc; assumption) | apply Blk.new | apply Blk.newA | (apply Blk.alloc; first | apply Blk.newA | (apply Blk.alloc; first | assumption | apply Blk.newA))); eq_refl)
      | (apply X_loadC; eq_refl; (first | assumption | (apply cel; first | assumption | (apply cel; assumption))))
      | (apply X_cmpT; eq_refl; eq_refl; omega)
      | (apply X_cmpF; eq_refl; eq_refl; omega)
      | (apply X_cmp; eq_refl; eq_refl; all_goals intro _)
      | (apply X_len; eq_refl)
      | (apply X_lenS; eq_refl)
      | (apply X_index; eq_refl; eq_refl; omega; omega)
      | (apply X_eqB; eq_refl; eq_refl)
      | (apply X_neqB; eq_refl; eq_refl)
      | (apply X_eqP; eq_refl; eq_refl)
      | (apply X_eqL; eq_refl; eq_refl)
      | (apply X_max; eq_refl; eq_refl)
      | (apply X_min; eq_refl; eq_refl)
      | (apply X_cap; eq_refl)
      | (apply X_alloc)
      | (apply X_box; eq_refl)
      | (apply X_makeMap)
      | (apply X_pure; apply build168_0_1 <;> eq_refl)
      | (apply X_pure; apply build168_)
      | (apply X_pure; apply build43_0_1_2 <;> eq_refl)
      | (apply X_does; apply buildS37_1 <;> eq_refl))
  apply O_does
  · apply buildS37_1 <;> eq_refl
  · intro _; exact ⟨hS.1.alloc _, hS.2.alloc _⟩
  refine WS_turn (fun w3 => Parts w3 g S i l gs (.slice A gs.length c) m ∧ Blk w3 w.heap.size 168 [num p, num q] ∧ Chg w w3 none_ ∧ Blk w3 w2.drew.heap.size 43 [num (2 * (i + l + gs.length + 1)), num p, num q] ∧ w3.heap.size = w.heap.size + 2) ⟨hB2.drew.alloc _, hP2.drew.alloc _, hC2.dr.al _, Blk.newA _ _ _, ?_⟩ ?_
  · simp; exact hz2
  rintro w3 ⟨hB3, hP3, hC3, hN3, hz3⟩
  have hH3 := hB3.head
  replace hS : Blk w3 g 98 [num i, num l, .slice A gs.length c, .map (some m)] ∧ Blk w3 w.heap.size 168 [num p, num q] := ⟨hH3, hP3⟩
  repeat' (first
      | (apply WC_seqK; intro K hK)
      | (apply hK; clear hK)
      | (clear hK; apply hK; clear hK)
      | (clear hK; clear hK; apply hK; clear hK)
      | (clear hK; clear hK; clear hK; apply hK; clear hK)
      | (apply WC_block)
      | (apply WC_region)
      | (apply WL_nil)
      | (apply thenQ_normal)
      | (apply thenQ_ret)
      | (apply thenQ_exit)
      | (apply blockQ_hit)
      | (apply blockQ_miss; eq_refl)
      | (apply blockQ_ret)
      | (apply blockQ_normal)
      | (apply WC_ret)
      | (apply WC_exit)
      | (apply WC_skip)
      | (apply WC_label)
      | (apply WC_if_true; eq_refl)
      | (apply WC_if_false; eq_refl)
      | (apply ret1; eq_refl)
      | (apply ret2; eq_refl; eq_refl)
      | (apply ret3; eq_refl; eq_refl; eq_refl)
      | (apply ret0)
      | (apply ret0n)
      | (apply WS_nil)
      | (apply WS_next; eq_refl)
      | (apply WO_on0; eq_refl)
      | (apply WO_onG; eq_refl; eq_refl; eq_refl; eq_refl)
      | (apply WO_noG; eq_refl; eq_refl; eq_refl; eq_refl; (first | assumption | exact trivial))
      | (apply O_pv; eq_refl; (first | exact trivial | omega); (first | assumption | exact trivial))
      | (apply O_field; eq_refl; (first | assumption | exact trivial))
      | (apply O_loadR; eq_refl; (first | (intro _ h; exact h) | (intro _ h; exact h.1) | (intro _ h; exact h.2) | (intro _ h; exact h.2.1) | (intro _ h; exact h.2.2) | (intro _ h; exact h.2.2.1) | (intro _ h; exact h.2.2.2)); eq_refl; (first | assumption | exact trivial))
      | (apply O_loadW; eq_refl; (first | (intro _ h; exact h) | (intro _ h; exact h.1) | (intro _ h; exact h.2) | (intro _ h; exact h.2.1) | (intro _ h; exact h.2.2) | (intro _ h; exact h.2.2.1) | (intro _ h; exact h.2.2.2)); eq_refl; (first | assumption | exact trivial))
      | (apply O_loadC; eq_refl; (first | (intro _ h; exact h) | (intro _ h; exact h.1) | (intro _ h; exact h.2) | (intro _ h; exact h.2.1) | (intro _ h; exact h.2.2) | (intro _ h; exact h.2.2.1) | (intro _ h; exact h.2.2.2)); (first | assumption | exact trivial))
      | (apply O_cmpT; eq_refl; eq_refl; omega; (first | assumption | exact trivial))
      | (apply O_cmpF; eq_refl; eq_refl; omega; (first | assumption | exact trivial))
      | (apply O_cmp; eq_refl; eq_refl; (first | assumption | exact trivial); all_goals intro _)
      | (apply O_len; eq_refl; (first | assumption | exact trivial))
      | (apply O_lenS; eq_refl; (first | assumption | exact trivial))
      | (apply O_index; eq_refl; eq_refl; omega; omega; (first | assumption | exact trivial))
      | (apply O_eqB; eq_refl; eq_refl; (first | assumption | exact trivial))
      | (apply O_neqB; eq_refl; eq_refl; (first | assumption | exact trivial))
      | (apply O_pvL; eq_refl; (first | exact trivial | omega); (first | (intro _; assumption) | exact lo (by kernel_rfl)))
      | (apply O_pure; apply build168_0_1 <;> eq_refl; (first | assumption | exact trivial))
      | (apply O_pure; apply build168_; (first | assumption | exact trivial))
      | (apply O_pure; apply build43_0_1_2 <;> eq_refl; (first | assumption | exact trivial))
      | (apply WL_on0; eq_refl)
      | (apply WL_onG; eq_refl; eq_refl; eq_refl; eq_refl)
      | (apply WL_noG; eq_refl; eq_refl; eq_refl; eq_refl)
      | (apply X_pv; eq_refl; first | exact trivial | omega)
      | (apply X_field; eq_refl)
      | (apply X_loadR; eq_refl; (first | assumption | (apply Blk.alloc; assumption) | apply Blk.new | apply Blk.newA | (apply Blk.alloc; first | apply Blk.newA | (apply Blk.alloc; first | assumption | apply Blk.newA))); eq_refl)
      | (apply X_loadW; eq_refl; (first | assumption | (apply Blk.alloc; assumption) | apply Blk.new | apply Blk.newA | (apply Blk.alloc; first | apply Blk.newA | (apply Blk.alloc; first | assumption | apply Blk.newA))); eq_refl)
      | (apply X_loadC; eq_refl; (first | assumption | (apply cel; first | assumption | (apply cel; assumption))))
      | (apply X_cmpT; eq_refl; eq_refl; omega)
      | (apply X_cmpF; eq_refl; eq_refl; omega)
      | (apply X_cmp; eq_refl; eq_refl; all_goals intro _)
      | (apply X_len; eq_refl)
      | (apply X_lenS; eq_refl)
      | (apply X_index; eq_refl; eq_refl; omega; omega)
      | (apply X_eqB; eq_refl; eq_refl)
      | (apply X_neqB; eq_refl; eq_refl)
      | (apply X_eqP; eq_refl; eq_refl)
      | (apply X_eqL; eq_refl; eq_refl)
      | (apply X_max; eq_refl; eq_refl)
      | (apply X_min; eq_refl; eq_refl)
      | (apply X_cap; eq_refl)
      | (apply X_alloc)
      | (apply X_box; eq_refl)
      | (apply X_makeMap)
      | (apply X_pure; apply build168_0_1 <;> eq_refl)
      | (apply X_pure; apply build168_)
      | (apply X_pure; apply build43_0_1_2 <;> eq_refl)
      | (apply X_does; apply buildS37_1 <;> eq_refl))
  refine O_append 0 (by eq_refl) (by eq_refl) hB3.row hN3 rfl rfl (by decide) (by simp [Value.oneCell']) (by omega) (by decide) (Nat.zero_le _) ?_
  intro v' w4 hrow hC4 hown hnil
  obtain ⟨A', c', rfl⟩ := row_form hrow
  have hng : ¬ (Value.slice A gs.length c).ownBlock = some g := row_apart hB3.row hH3 (by decide)
  have hnp : ¬ (Value.slice A gs.length c).ownBlock = some w.heap.size := fun hh => absurd (hlt _ (hB.hv _ hh)) (by omega)
  have hH4 := hH3.chg hC4 hng
  have hP4 := hP3.chg hC4 hnp
  have hM4 := hB3.map.chg hC4 (map_row hB3.map hB3.row)
  replace hS : Blk w4 g 98 [num i, num l, .slice A gs.length c, .map (some m)] ∧ Blk w4 w.heap.size 168 [num p, num q] := ⟨hH4, hP4⟩
  refine ⟨fun _ => hS, ?_⟩
  repeat' (first
      | (apply WC_seqK; intro K hK)
      | (apply hK; clear hK)
      | (clear hK; apply hK; clear hK)
      | (clear hK; clear hK; apply hK; clear hK)
      | (clear hK; clear hK; clear hK; apply hK; clear hK)
      | (apply WC_block)
      | (apply WC_region)
      | (apply WL_nil)
      | (apply thenQ_normal)
      | (apply thenQ_ret)
      | (apply thenQ_exit)
      | (apply blockQ_hit)
      | (apply blockQ_miss; eq_refl)
      | (apply blockQ_ret)
      | (apply blockQ_normal)
      | (apply WC_ret)
      | (apply WC_exit)
      | (apply WC_skip)
      | (apply WC_label)
      | (apply WC_if_true; eq_refl)
      | (apply WC_if_false; eq_refl)
      | (apply ret1; eq_refl)
      | (apply ret2; eq_refl; eq_refl)
      | (apply ret3; eq_refl; eq_refl; eq_refl)
      | (apply ret0)
      | (apply ret0n)
      | (apply WS_nil)
      | (apply WS_next; eq_refl)
      | (apply WO_on0; eq_refl)
      | (apply WO_onG; eq_refl; eq_refl; eq_refl; eq_refl)
      | (apply WO_noG; eq_refl; eq_refl; eq_refl; eq_refl; (first | assumption | exact trivial))
      | (apply O_pv; eq_refl; (first | exact trivial | omega); (first | assumption | exact trivial))
      | (apply O_field; eq_refl; (first | assumption | exact trivial))
      | (apply O_loadR; eq_refl; (first | (intro _ h; exact h) | (intro _ h; exact h.1) | (intro _ h; exact h.2) | (intro _ h; exact h.2.1) | (intro _ h; exact h.2.2) | (intro _ h; exact h.2.2.1) | (intro _ h; exact h.2.2.2)); eq_refl; (first | assumption | exact trivial))
      | (apply O_loadW; eq_refl; (first | (intro _ h; exact h) | (intro _ h; exact h.1) | (intro _ h; exact h.2) | (intro _ h; exact h.2.1) | (intro _ h; exact h.2.2) | (intro _ h; exact h.2.2.1) | (intro _ h; exact h.2.2.2)); eq_refl; (first | assumption | exact trivial))
      | (apply O_loadC; eq_refl; (first | (intro _ h; exact h) | (intro _ h; exact h.1) | (intro _ h; exact h.2) | (intro _ h; exact h.2.1) | (intro _ h; exact h.2.2) | (intro _ h; exact h.2.2.1) | (intro _ h; exact h.2.2.2)); (first | assumption | exact trivial))
      | (apply O_cmpT; eq_refl; eq_refl; omega; (first | assumption | exact trivial))
      | (apply O_cmpF; eq_refl; eq_refl; omega; (first | assumption | exact trivial))
      | (apply O_cmp; eq_refl; eq_refl; (first | assumption | exact trivial); all_goals intro _)
      | (apply O_len; eq_refl; (first | assumption | exact trivial))
      | (apply O_lenS; eq_refl; (first | assumption | exact trivial))
      | (apply O_index; eq_refl; eq_refl; omega; omega; (first | assumption | exact trivial))
      | (apply O_eqB; eq_refl; eq_refl; (first | assumption | exact trivial))
      | (apply O_neqB; eq_refl; eq_refl; (first | assumption | exact trivial))
      | (apply O_pvL; eq_refl; (first | exact trivial | omega); (first | (intro _; assumption) | exact lo (by kernel_rfl)))
      | (apply O_pure; apply build168_0_1 <;> eq_refl; (first | assumption | exact trivial))
      | (apply O_pure; apply build168_; (first | assumption | exact trivial))
      | (apply O_pure; apply build43_0_1_2 <;> eq_refl; (first | assumption | exact trivial))
      | (apply WL_on0; eq_refl)
      | (apply WL_onG; eq_refl; eq_refl; eq_refl; eq_refl)
      | (apply WL_noG; eq_refl; eq_refl; eq_refl; eq_refl)
      | (apply X_pv; eq_refl; first | exact trivial | omega)
      | (apply X_field; eq_refl)
      | (apply X_loadR; eq_refl; (first | assumption | (apply Blk.alloc; assumption) | apply Blk.new | apply Blk.newA | (apply Blk.alloc; first | apply Blk.newA | (apply Blk.alloc; first | assumption | apply Blk.newA))); eq_refl)
      | (apply X_loadW; eq_refl; (first | assumption | (apply Blk.alloc; assumption) | apply Blk.new | apply Blk.newA | (apply Blk.alloc; first | apply Blk.newA | (apply Blk.alloc; first | assumption | apply Blk.newA))); eq_refl)
      | (apply X_loadC; eq_refl; (first | assumption | (apply cel; first | assumption | (apply cel; assumption))))
      | (apply X_cmpT; eq_refl; eq_refl; omega)
      | (apply X_cmpF; eq_refl; eq_refl; omega)
      | (apply X_cmp; eq_refl; eq_refl; all_goals intro _)
      | (apply X_len; eq_refl)
      | (apply X_lenS; eq_refl)
      | (apply X_index; eq_refl; eq_refl; omega; omega)
      | (apply X_eqB; eq_refl; eq_refl)
      | (apply X_neqB; eq_refl; eq_refl)
      | (apply X_eqP; eq_refl; eq_refl)
      | (apply X_eqL; eq_refl; eq_refl)
      | (apply X_max; eq_refl; eq_refl)
      | (apply X_min; eq_refl; eq_refl)
      | (apply X_cap; eq_refl)
      | (apply X_alloc)
      | (apply X_box; eq_refl)
      | (apply X_makeMap)
      | (apply X_pure; apply build168_0_1 <;> eq_refl)
      | (apply X_pure; apply build168_)
      | (apply X_pure; apply build43_0_1_2 <;> eq_refl)
      | (apply X_does; apply buildS37_1 <;> eq_refl))
  refine O_doesU (does_store1 (b := g) (o := 2) (v := .slice A' (gs.length + 1) c') (by eq_refl) (by eq_refl) hH4 (by simp) rfl rfl) (lo (by kernel_rfl)) ?_
  have hob : ∀ k, (Value.slice A' (gs.length + 1) c').ownBlock = some k → S k ∨ k = w3.heap.size := fun k hk => by
    rcases hown with h | h
    · exact .inl (hB.hv k (h ▸ hk))
    · exact .inr (Option.some.inj (hk.symm.trans h))
  have hrg : (Value.slice A' (gs.length + 1) c').ownBlock ≠ some g := row_apart hrow hH4 (by decide)
  refine WS_turn (fun w5 => Blk w5 g 98 [num i, num l, .slice A' (gs.length + 1) c', .map (some m)] ∧ w5.ownsRow 0 43 3 (.slice A' (gs.length + 1) c') (gs.length + 1) (flat gs ++ [num (2 * (i + l + gs.length + 1)), num p, num q]) ∧ MapHas w5 m gs.length (outOf gs) ∧ Blk w5 w.heap.size 168 [num p, num q] ∧ Chg w w5 S ∧ w.heap.size + 2 ≤ w5.heap.size)
    ⟨hH4.set _, row_chg hrow (Chg.setRow w4 g _ (S := fun k => k = g) rfl) (fun k hk h => hrg (h ▸ hk)), hM4.chg (Chg.setRow w4 g _ (S := fun k => k = g) rfl) (map_apart hM4 hH4), hP4.chg (Chg.setRow w4 g _ (S := fun k => k = g) rfl) (fun h => absurd (hlt g hB.hg) (by omega)), ?_, ?_⟩ ?_
  · exact (hC3.any.trans hC4 fun k _ hk => hB.hv k hk).trans (Chg.setRow w4 g _ hB.hg) fun _ _ h => h
  · have := hC4.size; simp [World.setRow]; omega
  rintro w5 ⟨hH5, hR5, hM5, hP5, hC5, hz5⟩
  clear hP2 hP3 hP4 hM4 hH4 hB3 hN3 hH3 hB2 hC2 hC3 hH2
  repeat' (first
      | (apply WS_nil)
      | (apply WC_seqK; intro K hK)
      | (apply hK; clear hK)
      | (clear hK; apply hK; clear hK)
      | (clear hK; clear hK; apply hK; clear hK)
      | (clear hK; clear hK; clear hK; apply hK; clear hK)
      | (apply WC_block)
      | (apply WC_region)
      | (apply WL_nil)
      | (apply thenQ_normal)
      | (apply thenQ_ret)
      | (apply thenQ_exit)
      | (apply blockQ_hit)
      | (apply blockQ_miss; eq_refl)
      | (apply blockQ_ret)
      | (apply blockQ_normal)
      | (apply WC_ret)
      | (apply WC_exit)
      | (apply WC_skip)
      | (apply WC_label)
      | (apply WC_if_true; eq_refl)
      | (apply WC_if_false; eq_refl)
      | (apply ret1; eq_refl)
      | (apply ret2; eq_refl; eq_refl)
      | (apply ret3; eq_refl; eq_refl; eq_refl)
      | (apply ret0)
      | (apply ret0n)
      | (apply WL_on0; eq_refl)
      | (apply WL_onG; eq_refl; eq_refl; eq_refl; eq_refl)
      | (apply WL_noG; eq_refl; eq_refl; eq_refl; eq_refl)
      | (apply X_pv; eq_refl; first | exact trivial | omega)
      | (apply X_field; eq_refl)
      | (apply X_loadR; eq_refl; (first | assumption | (apply Blk.alloc; assumption) | apply Blk.new | apply Blk.newA | (apply Blk.alloc; first | apply Blk.newA | (apply Blk.alloc; first | assumption | apply Blk.newA))); eq_refl)
      | (apply X_loadW; eq_refl; (first | assumption | (apply Blk.alloc; assumption) | apply Blk.new | apply Blk.newA | (apply Blk.alloc; first | apply Blk.newA | (apply Blk.alloc; first | assumption | apply Blk.newA))); eq_refl)
      | (apply X_loadC; eq_refl; (first | assumption | (apply cel; first | assumption | (apply cel; assumption))))
      | (apply X_cmpT; eq_refl; eq_refl; omega)
      | (apply X_cmpF; eq_refl; eq_refl; omega)
      | (apply X_cmp; eq_refl; eq_refl; all_goals intro _)
      | (apply X_len; eq_refl)
      | (apply X_lenS; eq_refl)
      | (apply X_index; eq_refl; eq_refl; omega; omega)
      | (apply X_eqB; eq_refl; eq_refl)
      | (apply X_neqB; eq_refl; eq_refl)
      | (apply X_eqP; eq_refl; eq_refl)
      | (apply X_eqL; eq_refl; eq_refl)
      | (apply X_max; eq_refl; eq_refl)
      | (apply X_min; eq_refl; eq_refl)
      | (apply X_cap; eq_refl)
      | (apply X_alloc)
      | (apply X_box; eq_refl)
      | (apply X_makeMap)
      | (apply X_pure; apply build168_0_1 <;> eq_refl)
      | (apply X_pure; apply build168_)
      | (apply X_pure; apply build43_0_1_2 <;> eq_refl)
      | (apply X_does; apply buildS37_1 <;> eq_refl))
  refine WC_draws [(0, true), (1, true), (2, true), (3, true), (4, true), (5, true), (6, false)] (fun w1 => Blk w1 g 98 [num i, num l, .slice A' (gs.length + 1) c', .map (some m)] ∧ Blk w1 w.heap.size 168 [num p, num q]) mixed (by kernel_rfl) (by kernel_rfl) ?_
  replace hS : Blk w5.drew g 98 [num i, num l, .slice A' (gs.length + 1) c', .map (some m)] ∧ Blk w5.drew w.heap.size 168 [num p, num q] := ⟨hH5, hP5⟩
  repeat' (first
      | (apply WC_seqK; intro K hK)
      | (apply hK; clear hK)
      | (clear hK; apply hK; clear hK)
      | (clear hK; clear hK; apply hK; clear hK)
      | (clear hK; clear hK; clear hK; apply hK; clear hK)
      | (apply WC_block)
      | (apply WC_region)
      | (apply WL_nil)
      | (apply thenQ_normal)
      | (apply thenQ_ret)
      | (apply thenQ_exit)
      | (apply blockQ_hit)
      | (apply blockQ_miss; eq_refl)
      | (apply blockQ_ret)
      | (apply blockQ_normal)
      | (apply WC_ret)
      | (apply WC_exit)
      | (apply WC_skip)
      | (apply WC_label)
      | (apply WC_if_true; eq_refl)
      | (apply WC_if_false; eq_refl)
      | (apply ret1; eq_refl)
      | (apply ret2; eq_refl; eq_refl)
      | (apply ret3; eq_refl; eq_refl; eq_refl)
      | (apply ret0)
      | (apply ret0n)
      | (apply WS_nil)
      | (apply WS_next; eq_refl)
      | (apply WO_on0; eq_refl)
      | (apply WO_onG; eq_refl; eq_refl; eq_refl; eq_refl)
      | (apply WO_noG; eq_refl; eq_refl; eq_refl; eq_refl; (first | assumption | exact trivial))
      | (apply O_pv; eq_refl; (first | exact trivial | omega); (first | assumption | exact trivial))
      | (apply O_field; eq_refl; (first | assumption | exact trivial))
      | (apply O_loadR; eq_refl; (first | (intro _ h; exact h) | (intro _ h; exact h.1) | (intro _ h; exact h.2) | (intro _ h; exact h.2.1) | (intro _ h; exact h.2.2) | (intro _ h; exact h.2.2.1) | (intro _ h; exact h.2.2.2)); eq_refl; (first | assumption | exact trivial))
      | (apply O_loadW; eq_refl; (first | (intro _ h; exact h) | (intro _ h; exact h.1) | (intro _ h; exact h.2) | (intro _ h; exact h.2.1) | (intro _ h; exact h.2.2) | (intro _ h; exact h.2.2.1) | (intro _ h; exact h.2.2.2)); eq_refl; (first | assumption | exact trivial))
      | (apply O_loadC; eq_refl; (first | (intro _ h; exact h) | (intro _ h; exact h.1) | (intro _ h; exact h.2) | (intro _ h; exact h.2.1) | (intro _ h; exact h.2.2) | (intro _ h; exact h.2.2.1) | (intro _ h; exact h.2.2.2)); (first | assumption | exact trivial))
      | (apply O_cmpT; eq_refl; eq_refl; omega; (first | assumption | exact trivial))
      | (apply O_cmpF; eq_refl; eq_refl; omega; (first | assumption | exact trivial))
      | (apply O_cmp; eq_refl; eq_refl; (first | assumption | exact trivial); all_goals intro _)
      | (apply O_len; eq_refl; (first | assumption | exact trivial))
      | (apply O_lenS; eq_refl; (first | assumption | exact trivial))
      | (apply O_index; eq_refl; eq_refl; omega; omega; (first | assumption | exact trivial))
      | (apply O_eqB; eq_refl; eq_refl; (first | assumption | exact trivial))
      | (apply O_neqB; eq_refl; eq_refl; (first | assumption | exact trivial))
      | (apply O_pvL; eq_refl; (first | exact trivial | omega); (first | (intro _; assumption) | exact lo (by kernel_rfl)))
      | (apply O_pure; apply build168_0_1 <;> eq_refl; (first | assumption | exact trivial))
      | (apply O_pure; apply build168_; (first | assumption | exact trivial))
      | (apply O_pure; apply build43_0_1_2 <;> eq_refl; (first | assumption | exact trivial))
      | (apply WL_on0; eq_refl)
      | (apply WL_onG; eq_refl; eq_refl; eq_refl; eq_refl)
      | (apply WL_noG; eq_refl; eq_refl; eq_refl; eq_refl)
      | (apply X_pv; eq_refl; first | exact trivial | omega)
      | (apply X_field; eq_refl)
      | (apply X_loadR; eq_refl; (first | assumption | (apply Blk.alloc; assumption) | apply Blk.new | apply Blk.newA | (apply Blk.alloc; first | apply Blk.newA | (apply Blk.alloc; first | assumption | apply Blk.newA))); eq_refl)
      | (apply X_loadW; eq_refl; (first | assumption | (apply Blk.alloc; assumption) | apply Blk.new | apply Blk.newA | (apply Blk.alloc; first | apply Blk.newA | (apply Blk.alloc; first | assumption | apply Blk.newA))); eq_refl)
      | (apply X_loadC; eq_refl; (first | assumption | (apply cel; first | assumption | (apply cel; assumption))))
      | (apply X_cmpT; eq_refl; eq_refl; omega)
      | (apply X_cmpF; eq_refl; eq_refl; omega)
      | (apply X_cmp; eq_refl; eq_refl; all_goals intro _)
      | (apply X_len; eq_refl)
      | (apply X_lenS; eq_refl)
      | (apply X_index; eq_refl; eq_refl; omega; omega)
      | (apply X_eqB; eq_refl; eq_refl)
      | (apply X_neqB; eq_refl; eq_refl)
      | (apply X_eqP; eq_refl; eq_refl)
      | (apply X_eqL; eq_refl; eq_refl)
      | (apply X_max; eq_refl; eq_refl)
      | (apply X_min; eq_refl; eq_refl)
      | (apply X_cap; eq_refl)
      | (apply X_alloc)
      | (apply X_box; eq_refl)
      | (apply X_makeMap)
      | (apply X_pure; apply build168_0_1 <;> eq_refl)
      | (apply X_pure; apply build168_)
      | (apply X_pure; apply build43_0_1_2 <;> eq_refl)
      | (apply X_does; apply buildS37_1 <;> eq_refl))
  refine O_updateG (by eq_refl) (by eq_refl) (by eq_refl) (w := w5.drew) hM5 hp hq (by unfold fits; omega) (by simp only [maxLen]; omega) ?_
  intro w6 hM6 hC6
  refine ⟨lo (by kernel_rfl), ?_⟩
  have hgm : g ≠ m := fun h => map_apart hM5 hH5 h.symm
  repeat' (first
      | (apply WC_seqK; intro K hK)
      | (apply hK; clear hK)
      | (clear hK; apply hK; clear hK)
      | (clear hK; clear hK; apply hK; clear hK)
      | (clear hK; clear hK; clear hK; apply hK; clear hK)
      | (apply WC_block)
      | (apply WC_region)
      | (apply WL_nil)
      | (apply thenQ_normal)
      | (apply thenQ_ret)
      | (apply thenQ_exit)
      | (apply blockQ_hit)
      | (apply blockQ_miss; eq_refl)
      | (apply blockQ_ret)
      | (apply blockQ_normal)
      | (apply WC_ret)
      | (apply WC_exit)
      | (apply WC_skip)
      | (apply WC_label)
      | (apply WC_if_true; eq_refl)
      | (apply WC_if_false; eq_refl)
      | (apply ret1; eq_refl)
      | (apply ret2; eq_refl; eq_refl)
      | (apply ret3; eq_refl; eq_refl; eq_refl)
      | (apply ret0)
      | (apply ret0n)
      | (apply WS_nil)
      | (apply WS_next; eq_refl)
      | (apply WO_on0; eq_refl)
      | (apply WO_onG; eq_refl; eq_refl; eq_refl; eq_refl)
      | (apply WO_noG; eq_refl; eq_refl; eq_refl; eq_refl; (first | assumption | exact trivial))
      | (apply O_pv; eq_refl; (first | exact trivial | omega); (first | assumption | exact trivial))
      | (apply O_field; eq_refl; (first | assumption | exact trivial))
      | (apply O_loadR; eq_refl; (first | (intro _ h; exact h) | (intro _ h; exact h.1) | (intro _ h; exact h.2) | (intro _ h; exact h.2.1) | (intro _ h; exact h.2.2) | (intro _ h; exact h.2.2.1) | (intro _ h; exact h.2.2.2)); eq_refl; (first | assumption | exact trivial))
      | (apply O_loadW; eq_refl; (first | (intro _ h; exact h) | (intro _ h; exact h.1) | (intro _ h; exact h.2) | (intro _ h; exact h.2.1) | (intro _ h; exact h.2.2) | (intro _ h; exact h.2.2.1) | (intro _ h; exact h.2.2.2)); eq_refl; (first | assumption | exact trivial))
      | (apply O_loadC; eq_refl; (first | (intro _ h; exact h) | (intro _ h; exact h.1) | (intro _ h; exact h.2) | (intro _ h; exact h.2.1) | (intro _ h; exact h.2.2) | (intro _ h; exact h.2.2.1) | (intro _ h; exact h.2.2.2)); (first | assumption | exact trivial))
      | (apply O_cmpT; eq_refl; eq_refl; omega; (first | assumption | exact trivial))
      | (apply O_cmpF; eq_refl; eq_refl; omega; (first | assumption | exact trivial))
      | (apply O_cmp; eq_refl; eq_refl; (first | assumption | exact trivial); all_goals intro _)
      | (apply O_len; eq_refl; (first | assumption | exact trivial))
      | (apply O_lenS; eq_refl; (first | assumption | exact trivial))
      | (apply O_index; eq_refl; eq_refl; omega; omega; (first | assumption | exact trivial))
      | (apply O_eqB; eq_refl; eq_refl; (first | assumption | exact trivial))
      | (apply O_neqB; eq_refl; eq_refl; (first | assumption | exact trivial))
      | (apply O_pvL; eq_refl; (first | exact trivial | omega); (first | (intro _; assumption) | exact lo (by kernel_rfl)))
      | (apply O_pure; apply build168_0_1 <;> eq_refl; (first | assumption | exact trivial))
      | (apply O_pure; apply build168_; (first | assumption | exact trivial))
      | (apply O_pure; apply build43_0_1_2 <;> eq_refl; (first | assumption | exact trivial))
      | (apply WL_on0; eq_refl)
      | (apply WL_onG; eq_refl; eq_refl; eq_refl; eq_refl)
      | (apply WL_noG; eq_refl; eq_refl; eq_refl; eq_refl)
      | (apply X_pv; eq_refl; first | exact trivial | omega)
      | (apply X_field; eq_refl)
      | (apply X_loadR; eq_refl; (first | assumption | (apply Blk.alloc; assumption) | apply Blk.new | apply Blk.newA | (apply Blk.alloc; first | apply Blk.newA | (apply Blk.alloc; first | assumption | apply Blk.newA))); eq_refl)
      | (apply X_loadW; eq_refl; (first | assumption | (apply Blk.alloc; assumption) | apply Blk.new | apply Blk.newA | (apply Blk.alloc; first | apply Blk.newA | (apply Blk.alloc; first | assumption | apply Blk.newA))); eq_refl)
      | (apply X_loadC; eq_refl; (first | assumption | (apply cel; first | assumption | (apply cel; assumption))))
      | (apply X_cmpT; eq_refl; eq_refl; omega)
      | (apply X_cmpF; eq_refl; eq_refl; omega)
      | (apply X_cmp; eq_refl; eq_refl; all_goals intro _)
      | (apply X_len; eq_refl)
      | (apply X_lenS; eq_refl)
      | (apply X_index; eq_refl; eq_refl; omega; omega)
      | (apply X_eqB; eq_refl; eq_refl)
      | (apply X_neqB; eq_refl; eq_refl)
      | (apply X_eqP; eq_refl; eq_refl)
      | (apply X_eqL; eq_refl; eq_refl)
      | (apply X_max; eq_refl; eq_refl)
      | (apply X_min; eq_refl; eq_refl)
      | (apply X_cap; eq_refl)
      | (apply X_alloc)
      | (apply X_box; eq_refl)
      | (apply X_makeMap)
      | (apply X_pure; apply build168_0_1 <;> eq_refl)
      | (apply X_pure; apply build168_)
      | (apply X_pure; apply build43_0_1_2 <;> eq_refl)
      | (apply X_does; apply buildS37_1 <;> eq_refl))
  rw [andP_new (by omega) (by omega) (by assumption) (by assumption)]
  have hchg : Chg w w6 S := hC5.dr.trans hC6 fun k _ hk => by subst hk; exact hB.hm
  refine ⟨rfl, fun k => S k ∨ k = w3.heap.size ∧ (Value.slice A' (gs.length + 1) c').ownBlock = some k, ⟨.slice A' (gs.length + 1) c', m, ?_⟩, hchg, ?_⟩
  · refine ⟨hH5.drew.chg hC6 hgm, ?_, ?_, .inl hB.hg, .inl hB.hm, ?_, ?_⟩
    · have := row_chg (w' := w6) hR5 (hC5.dr.trans hC6 (S := S) (fun k _ hk => by subst hk; exact hB.hm) |> fun _ => (Chg.drew w5 none_).any.trans hC6 (S := fun k => k = m) (fun _ _ h => h)) (fun k hk h => map_row hM5 hR5 (h ▸ hk))
      simpa [flat_append, gcells] using this
    · have e : outOf (gs ++ [(2 * (i + l + ↑gs.length + 1), p, q)]) = fun p' q' => if p' = p ∧ q' = q then 2 * (i + l + ↑gs.length + 1) else outOf gs p' q' := by
        funext p' q'
        exact outOf_append gs _ _ _ _ _ (fun x hx => (hI.outs x hx).1) (by omega)
      simp only [List.length_append, List.length_singleton]
      rw [e]
      exact hM6
    · intro k hk
      rcases hob k hk with h | h
      · exact .inl h
      · exact .inr ⟨h, hk⟩
    · intro k hk
      rcases hk with h | ⟨_, h⟩
      · exact Nat.lt_of_lt_of_le (hlt k h) hchg.size
      · exact Nat.lt_of_lt_of_le (hR5.lt k h).2 hC6.size
  · intro k hk
    rcases hk with h | ⟨h, h'⟩
    · exact .inl h
    · exact .inr ⟨by omega, Nat.lt_of_lt_of_le (hR5.lt k h').2 hC6.size⟩
end SC
end Go.Proofs.Ytkndegjodnciaaa

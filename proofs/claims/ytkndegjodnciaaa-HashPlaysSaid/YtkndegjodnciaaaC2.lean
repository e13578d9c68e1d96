/- The law of hash: one call of both builders; the examples. -/
import Derived.Test.YtkndegjodnciaaaC1
set_option linter.unusedVariables false
set_option linter.unusedSimpArgs false
namespace Go.Proofs.Ytkndegjodnciaaa
namespace SC
open Go.Proofs Go.Maps
attribute [local irreducible] WC WL WX WS WO OX Does DoesU Enters CV Pure thenQ blockQ retQ Wants
set_option maxRecDepth 100000
/-- Both builders, alike and apart. -/
structure Both (w : World) (g c : Nat) (S S' : Nat → Prop) (a b : Int) (gs : List Gate) : Prop where
  one : Bld w g S a b gs
  two : Rbl w c S' a b gs
  apart : ∀ k, S k → ¬ S' k
  inv : Inv (a + b) gs
  ha : 0 ≤ a
  hb : 0 ≤ b
def U (S S' : Nat → Prop) : Nat → Prop := fun k => S k ∨ S' k
theorem Bld.below {w : World} {g : Nat} {S : Nat → Prop} {i l : Int} {gs : List Gate} (h : Bld w g S i l gs) : ∀ k, S k → k < w.heap.size := by
  obtain ⟨v, m, h⟩ := h
  exact h.lt
theorem Rbl.below {w : World} {g : Nat} {S : Nat → Prop} {i l : Int} {gs : List Gate} (h : Rbl w g S i l gs) : ∀ k, S k → k < w.heap.size := by
  obtain ⟨v, h⟩ := h
  exact h.lt
theorem Both.chg {w w' : World} {g c : Nat} {S S' : Nat → Prop} {a b : Int} {gs : List Gate} (h : Both w g c S S' a b gs) (hc : Chg w w' none_) : Both w' g c S S' a b gs :=
  ⟨h.one.chg hc fun _ _ => id, h.two.chg hc fun _ _ => id, h.apart, h.inv, h.ha, h.hb⟩
theorem Both.step {w w1 w2 : World} {g c : Nat} {S S' S1 S2 : Nat → Prop} {a b : Int} {gs gs' : List Gate} (h : Both w g c S S' a b gs) (hs : Step w S w1 S1) (h1 : Bld w1 g S1 a b gs') (hs' : Step w1 S' w2 S2) (h2 : Rbl w2 c S2 a b gs') (hI : Inv (a + b) gs') :
    Both w2 g c S1 S2 a b gs' ∧ Step w (U S S') w2 (U S1 S2) := by
  have l1 := h1.below
  have l2 := h.two.below
  have d1 : ∀ k, S1 k → ¬ S' k := fun k hk hk' => by
    rcases hs.new k hk with hh | hh
    · exact h.apart k hh hk'
    · have := l2 k hk'; omega
  refine ⟨⟨h1.chg hs'.chg d1, h2, fun k hk hk' => ?_, hI, h.ha, h.hb⟩, ⟨?_, ?_⟩⟩
  · rcases hs'.new k hk' with hh | hh
    · exact d1 k hk hh
    · have := l1 k hk; omega
  · exact (hs.chg.mono fun _ hh => .inl hh).trans (hs'.chg.mono fun _ hh => .inr hh) fun _ _ hh => hh
  · intro k hk
    have e1 := hs.chg.size
    have e2 := hs'.chg.size
    rcases hk with hk | hk
    · rcases hs.new k hk with hh | hh
      · exact .inl (.inl hh)
      · exact .inr ⟨hh.1, by omega⟩
    · rcases hs'.new k hk with hh | hh
      · exact .inl (.inr hh)
      · exact .inr ⟨by omega, hh.2⟩
/-- What a call of both leaves. -/
def Went (w : World) (g c : Nat) (S S' : Nat → Prop) (a b : Int) (w' : World) : Prop := ∃ S1 S2 gs', Both w' g c S1 S2 a b gs' ∧ Step w (U S S') w' (U S1 S2)
theorem Went.from {w w1 w' : World} {g c : Nat} {S S' : Nat → Prop} {a b : Int} (hC : Chg w w1 none_) (h : Went w1 g c S S' a b w') : Went w g c S S' a b w' := by
  obtain ⟨S1, S2, gs', h1, h2⟩ := h
  exact ⟨S1, S2, gs', h1, (Step.of_chg hC.any).trans h2⟩
theorem step_cv {w : World} {g c : Nat} {S S' : Nat → Prop} {a b : Int} {gs : List Gate} {q s x y : Int} (h : Both w g c S S' a b gs) :
    CV Try.prog 18 [ptr g, ptr c, .agg #[num q, num s, num x, num y]] w fun v w' => v = .bool true ∧ Went w g c S S' a b w' := by
  have hC := Chg.alloc w (.cells #[num q, num s, num x, num y] 35) none_
  have hN : Blk (w.alloc (.cells #[num q, num s, num x, num y] 35)) w.heap.size 35 [num q, num s, num x, num y] := Blk.newA w _ _
  have h' := h.chg hC
  have hW : ∀ {w'}, Went (w.alloc (.cells #[num q, num s, num x, num y] 35)) g c S S' a b w' → Went w g c S S' a b w' := fun hh => Went.from hC hh
  have hB := h'.one; have hR := h'.two; have hI := h'.inv; have ha := h'.ha; have hb := h'.hb; have hd := h'.apart
  have htop := hI.top
  have hH : ∃ v m, Blk (w.alloc (.cells #[num q, num s, num x, num y] 35)) g 98 [num a, num b, v, m] := by obtain ⟨v, m, hP⟩ := hB; exact ⟨_, _, hP.head⟩
  have hH' : ∃ v, Blk (w.alloc (.cells #[num q, num s, num x, num y] 35)) c 39 [num a, num b, v] := by obtain ⟨v, hP⟩ := hR; exact ⟨_, hP.head⟩
  obtain ⟨hv, hm, hH⟩ := hH
  obtain ⟨hv', hH'⟩ := hH'
  refine enter 136 [6] Try.func18 rfl rfl rfl (by decide) rfl ?_
  repeat' (first
      | (apply X_fn; eq_refl; exact among_cv; rintro _ _ ⟨⟨r, rfl, hr0, hr1⟩, rfl⟩)
      | (apply X_fn; eq_refl; (first | (apply And_cv; assumption; assumption; assumption; assumption) | (apply Or_cv; assumption; assumption; assumption; assumption) | (apply Xor_cv; assumption; assumption; assumption; assumption) | (apply Mux_cv; assumption; assumption; assumption; assumption)); rintro _ w2 ⟨rfl, S2, hB2, hSt2⟩; have hR2 := hR.chg hSt2.chg (fun k h1 h2 => hd k h2 h1); have hN2 := hN.chg hSt2.chg (fun hh => by have := h.one.below _ hh; omega))
      | (apply X_fn; eq_refl; (first | (apply RAnd_cv; assumption; assumption; assumption; assumption) | (apply ROr_cv; assumption; assumption; assumption; assumption) | (apply RXor_cv; assumption; assumption; assumption; assumption) | (apply RMux_cv; assumption; assumption; assumption; assumption)); rintro _ w3 ⟨rfl, S3, hR3, hSt3⟩)
      | (apply X_fn; eq_refl; (first | (apply Input_cv; assumption; omega) | (apply RInput_cv; assumption; omega) | (apply Latch_cv; assumption; omega; omega; omega) | (apply RLatch_cv; assumption; omega; omega; omega)); rintro _ _ ⟨rfl, rfl⟩)
      | (apply WC_seqK; intro K hK)
      | (apply hK; clear hK)
      | (clear hK; apply hK; clear hK)
      | (clear hK; clear hK; apply hK; clear hK)
      | (clear hK; clear hK; clear hK; apply hK; clear hK)
      | (apply WC_block)
      | (apply WC_region)
      | (apply WL_nil)
      | (apply thenQ_normal)
      | (apply thenQ_ret)
      | (apply thenQ_exit)
      | (apply blockQ_hit)
      | (apply blockQ_miss; eq_refl)
      | (apply blockQ_ret)
      | (apply blockQ_normal)
      | (apply WC_ret)
      | (apply WC_exit)
      | (apply WC_skip)
      | (apply WC_label)
      | (apply WC_if_true; eq_refl)
      | (apply WC_if_false; eq_refl)
      | (apply ret1; eq_refl)
      | (apply ret2; eq_refl; eq_refl)
      | (apply ret3; eq_refl; eq_refl; eq_refl)
      | (apply ret0)
      | (apply ret0n)
      | (apply WL_on0; eq_refl)
      | (apply WL_onG; eq_refl; eq_refl; eq_refl; eq_refl)
      | (apply WL_noG; eq_refl; eq_refl; eq_refl; eq_refl)
      | (apply X_pv; eq_refl; first | exact trivial | omega)
      | (apply X_field; eq_refl)
      | (apply X_loadR; eq_refl; (first | assumption | (apply Blk.alloc; assumption) | apply Blk.new | apply Blk.newA | (apply Blk.alloc; first | apply Blk.newA | (apply Blk.alloc; first | assumption | apply Blk.newA))); eq_refl)
      | (apply X_loadW; eq_refl; (first | assumption | (apply Blk.alloc; assumption) | apply Blk.new | apply Blk.newA | (apply Blk.alloc; first | apply Blk.newA | (apply Blk.alloc; first | assumption | apply Blk.newA))); eq_refl)
      | (apply X_loadC; eq_refl; (first | assumption | (apply cel; first | assumption | (apply cel; assumption))))
      | (apply X_cmpT; eq_refl; eq_refl; omega)
      | (apply X_cmpF; eq_refl; eq_refl; omega)
      | (apply X_cmp; eq_refl; eq_refl; all_goals intro _)
      | (apply X_len; eq_refl)
      | (apply X_lenS; eq_refl)
      | (apply X_index; eq_refl; eq_refl; omega; omega)
      | (apply X_eqB; eq_refl; eq_refl)
      | (apply X_neqB; eq_refl; eq_refl)
      | (apply X_eqP; eq_refl; eq_refl)
      | (apply X_eqL; eq_refl; eq_refl)
      | (apply X_max; eq_refl; eq_refl)
      | (apply X_min; eq_refl; eq_refl)
      | (apply X_cap; eq_refl)
      | (apply X_alloc)
      | (apply X_box; eq_refl)
      | (apply X_makeMap))
  all_goals first
    | exact ⟨rfl, hW ⟨S2, S3, _, h'.step hSt2 hB2 hSt3 hR3 (AndM_good hI).inv⟩⟩
    | exact ⟨rfl, hW ⟨S2, S3, _, h'.step hSt2 hB2 hSt3 hR3 (OrM_good hI).inv⟩⟩
    | exact ⟨rfl, hW ⟨S2, S3, _, h'.step hSt2 hB2 hSt3 hR3 (XorM_good hI).inv⟩⟩
    | exact ⟨rfl, hW ⟨S2, S3, _, h'.step hSt2 hB2 hSt3 hR3 (MuxM_good hI).inv⟩⟩
    | exact ⟨rfl, hW ⟨S, S', gs, h', Step.refl _ _⟩⟩
theorem works_cv {w : World} : CV Try.prog 17 [] w fun v w' => v = .bool true ∧ Chg w w' none_ := by
  have I0 : Inv (2 + 0) [] := ⟨by decide, by decide, by simp, by simp⟩
  have e1 : AndM (2 + 0) [] 4 2 = (6, 0, [(6, 4, 2)]) := by decide
  have I1 : Inv (2 + 0) [(6, 4, 2)] := by have := (AndM_good (x := 4) (y := 2) I0).inv; rwa [e1] at this
  have e2 : XorM (2 + 0) [(6, 4, 2)] 2 4 = (10, 0, [(6, 4, 2), (8, 5, 3), (10, 9, 7)]) := by decide
  have I2 : Inv (2 + 0) [(6, 4, 2), (8, 5, 3), (10, 9, 7)] := by have := (XorM_good (x := 2) (y := 4) I1).inv; rwa [e2] at this
  have e3 : OrM (2 + 0) [(6, 4, 2), (8, 5, 3), (10, 9, 7)] 2 4 = (9, 0, [(6, 4, 2), (8, 5, 3), (10, 9, 7)]) := by decide
  have c1 : ∀ {w : World} {g : Nat} {S : Nat → Prop}, Bld w g S 2 0 [] → CV Try.prog 59 [ptr g, num 4, num 2] w (fun v w' => v = .tuple #[num 6, num 0] ∧ ∃ S', Bld w' g S' 2 0 [(6, 4, 2)] ∧ Step w S w' S') := fun hB => by
    have := And_cv (x := 4) (y := 2) hB (by decide) (by decide) I0
    rw [e1] at this
    exact this
  have c2 : ∀ {w : World} {g : Nat} {S : Nat → Prop}, Bld w g S 2 0 [(6, 4, 2)] → CV Try.prog 60 [ptr g, num 2, num 4] w (fun v w' => v = .tuple #[num 10, num 0] ∧ ∃ S', Bld w' g S' 2 0 [(6, 4, 2), (8, 5, 3), (10, 9, 7)] ∧ Step w S w' S') := fun hB => by
    have := Xor_cv (x := 2) (y := 4) hB (by decide) (by decide) I1
    rw [e2] at this
    exact this
  have c3 : ∀ {w : World} {g : Nat} {S : Nat → Prop}, Bld w g S 2 0 [(6, 4, 2), (8, 5, 3), (10, 9, 7)] → CV Try.prog 61 [ptr g, num 2, num 4] w (fun v w' => v = .tuple #[num 9, num 0] ∧ (∃ A c m, Blk w' g 98 [num 2, num 0, .slice A 3 c, m]) ∧ ∃ S', Step w S w' S') := fun hB => by
    have := Or_cv (x := 2) (y := 4) hB (by decide) (by decide) I2
    rw [e3] at this
    refine this.mono fun v w' h => ?_
    obtain ⟨h1, S', ⟨u, m, hP⟩, h3⟩ := h
    obtain ⟨A, c, rfl⟩ := row_form hP.row
    exact ⟨h1, ⟨A, c, _, hP.head⟩, S', h3⟩
  refine enter 61 [0] Try.func17 rfl rfl rfl (by decide) rfl ?_
  repeat' (first
      | (apply X_fn; eq_refl; (apply New_ok; unfold newBad; omega); rintro _ w1 ⟨g, S1, rfl, hB1, hSt1⟩)
      | (apply X_fn; eq_refl; (apply c1; assumption); rintro _ w2 ⟨rfl, S2, hB2, hSt2⟩)
      | (apply X_fn; eq_refl; (apply c2; assumption); rintro _ w3 ⟨rfl, S3, hB3, hSt3⟩)
      | (apply X_fn; eq_refl; (apply c3; assumption); rintro _ w4 ⟨rfl, ⟨A4, n4, m4, hH4⟩, S4, hSt4⟩)
      | (apply X_fn; eq_refl; (apply Size_cv; assumption); rintro _ _ ⟨rfl, rfl⟩)
      | (apply WC_seqK; intro K hK)
      | (apply hK; clear hK)
      | (clear hK; apply hK; clear hK)
      | (clear hK; clear hK; apply hK; clear hK)
      | (clear hK; clear hK; clear hK; apply hK; clear hK)
      | (apply WC_block)
      | (apply WC_region)
      | (apply WL_nil)
      | (apply thenQ_normal)
      | (apply thenQ_ret)
      | (apply thenQ_exit)
      | (apply blockQ_hit)
      | (apply blockQ_miss; eq_refl)
      | (apply blockQ_ret)
      | (apply blockQ_normal)
      | (apply WC_ret)
      | (apply WC_exit)
      | (apply WC_skip)
      | (apply WC_label)
      | (apply WC_if_true; eq_refl)
      | (apply WC_if_false; eq_refl)
      | (apply ret1; eq_refl)
      | (apply ret2; eq_refl; eq_refl)
      | (apply ret3; eq_refl; eq_refl; eq_refl)
      | (apply ret0)
      | (apply ret0n)
      | (apply WL_on0; eq_refl)
      | (apply WL_onG; eq_refl; eq_refl; eq_refl; eq_refl)
      | (apply WL_noG; eq_refl; eq_refl; eq_refl; eq_refl)
      | (apply X_pv; eq_refl; first | exact trivial | omega)
      | (apply X_field; eq_refl)
      | (apply X_loadR; eq_refl; (first | assumption | (apply Blk.alloc; assumption) | apply Blk.new | apply Blk.newA | (apply Blk.alloc; first | apply Blk.newA | (apply Blk.alloc; first | assumption | apply Blk.newA))); eq_refl)
      | (apply X_loadW; eq_refl; (first | assumption | (apply Blk.alloc; assumption) | apply Blk.new | apply Blk.newA | (apply Blk.alloc; first | apply Blk.newA | (apply Blk.alloc; first | assumption | apply Blk.newA))); eq_refl)
      | (apply X_loadC; eq_refl; (first | assumption | (apply cel; first | assumption | (apply cel; assumption))))
      | (apply X_cmpT; eq_refl; eq_refl; omega)
      | (apply X_cmpF; eq_refl; eq_refl; omega)
      | (apply X_cmp; eq_refl; eq_refl; all_goals intro _)
      | (apply X_len; eq_refl)
      | (apply X_lenS; eq_refl)
      | (apply X_index; eq_refl; eq_refl; omega; omega)
      | (apply X_eqB; eq_refl; eq_refl)
      | (apply X_neqB; eq_refl; eq_refl)
      | (apply X_eqP; eq_refl; eq_refl)
      | (apply X_eqL; eq_refl; eq_refl)
      | (apply X_max; eq_refl; eq_refl)
      | (apply X_min; eq_refl; eq_refl)
      | (apply X_cap; eq_refl)
      | (apply X_alloc)
      | (apply X_box; eq_refl)
      | (apply X_makeMap))
  exact ⟨rfl, (hSt1.trans (hSt2.trans (hSt3.trans hSt4))).chg⟩
end SC
end Go.Proofs.Ytkndegjodnciaaa
